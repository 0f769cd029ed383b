/-
  AX, part Lo: a function that gives a part of a slice that one of the caller's blocks owns.
-/
import Derived.Test.YtepodadinenmnaaGreatAxAg
namespace Go.AX
def uz(t:Nat)(R:SV→List (List SV)→Prop)(st:St):Prop:=
 match look st.t t with
 |.loc (.cell b k) lo hi=>R (.loc (.cell b k) lo hi) st.h
 |_=>False
theorem GE{P:Program}{f:FuncId}{fn:Func}{c:Code}{args:List PV}{h:List (List SV)}{R:SV→List (List SV)→Prop}{t:Nat}(aG:P.follows .mixedOrders=true)(hf:P.funcs[f]?=some fn)(hcall:aB P f=true)(hb:fn.body=some c)(hr:fn.results=#[.tmp t])
 (hok:m9 fn.ntmps [] c=true) (hn:args.length≤fn.ntmps) (hA:AC P h.length [] c (kw (uz t R)) ⟨gp 0 args,h⟩):aE P f args h R:=by
 refine⟨hcall,fun g st a w vs hs hh hv=>?_⟩;refine calls_of_wp hf hb ?_;obtain⟨bl,hbl⟩:=hs.own;have hsi:=Dj hs hbl (N:=fn.ntmps) hv hn;rw[hh]at hsi;refine l8 aG c hA (g:=FU g w bl fn.ntmps) ⟨hok,by show g.n≤h.length;rw[hs.n,hh];exact Nat.le_refl _⟩ hsi fun e st' g' a' w' hq t' s'=>?_;have fin:uz t R st'→a'.defers=[]∧∃v,(results fn a'.tmps).run P w'=.ok v w'∧∃v' r h' g',Ending.returned v=.returned v'∧R r h'∧g.to g'∧∀d,bR g.N d→Sim g' (km d r ⟨aA eK st.t,h'⟩) (a.put d v') w':=fun hk=>by
  unfold uz at hk;split at hk
  ·rename_i b k lo hi hlk;obtain⟨bl2,h4⟩:=s'.own;have hal:=s'.al t;rw[hlk]at hal;obtain⟨so,oo⟩:=zT hs hbl t' s' h4;refine⟨s'.defs,a'.tmps.getD t undef,results_tmp hr _ _ _,a'.tmps.getD t undef,_,st'.h,qt g g',rfl,hk,Dk hs hbl t',fun d hd=>?_⟩;cases d with
   |none=>exact so
   |some d=>
    refine so.put hd rfl ?_ rfl;intro nw e rows hp;exact hal nw e rows hp
  ·exact hk.elim
 cases e with
 |normal=>exact fin hq
 |ret=>exact fin hq
 |_=>exact hq.elim
attribute [simp] uz
end Go.AX