/-
  AX, part Lo: a function that gives a part of a slice that one of the caller's blocks owns.
-/
import Derived.Test.YtepodadinenmnaaGreatAxAg
namespace Go.AX
def xF(t:Nat)(R:SV->List (List SV)->Prop)(st:St):Prop:=
 match look st.t t with
 |.loc (.cell b k) lo hi=>R (.loc (.cell b k) lo hi) st.h
 |_=>False
theorem LK{P:Program}{f:FuncId}{fn:Func}{c:Code}{args:List PV}{h:List (List SV)}{R:SV->List (List SV)->Prop}{t:Nat}(aD:P.follows .mixedOrders=true)(E:P.funcs[f]?=some fn)(C:AC P h.length [] c (ll (xF t R)) ⟨fV 0 args,h⟩)(j:aF P f=true:=by kernel_rfl)(D:fn.body=some c:=by rfl)(F:fn.results=#[.tmp t]:=by rfl) (q:nR fn.ntmps [] c=true:=by kernel_rfl) (hn:args.length<=fn.ntmps:=by exact T9 rfl):aA P f args h R:=by
 refine⟨j,λg st a w vs hs u G=>?_⟩;refine calls_of_wp E D ?_;obtain⟨bl,i⟩:=hs.own;have m:=HY hs i (N:=fn.ntmps) G hn;rw[u]at m;refine nS aD c C (g:=K4 g w bl fn.ntmps) ⟨q,by show g.n<=h.length;rw[hs.n,u];exact SY _⟩ m λe st' g' o w' s y s'=>?_;have fin:xF t R st'->o.defers=[]∧∃v,(results fn o.tmps).run P w'=.ok v w'∧∃z r h' g',Ending.returned v=.returned z∧R r h'∧g.to g'∧∀d,ca g.N d->Sim g' (iI d r ⟨aG eD st.t,h'⟩) (a.put d z) w':=λhk=>by
  unfold xF at hk;split at hk
  .rename_i b k lo hi p;obtain⟨A,B⟩:=s'.own;have l:=s'.al t;rw[p]at l;obtain⟨x,H⟩:=DP hs i y s' B;refine⟨s'.defs,o.tmps.getD t undef,results_tmp F _ _ _,o.tmps.getD t undef,_,st'.h,sW g g',rfl,hk,HZ hs i y,λd hd=>?_⟩;cases d with
   |none=>exact x
   |some d=>
    refine x.put hd rfl ?_ rfl;intro nw e rows hp;exact l nw e rows hp
  .exact hk.elim
 cases e with
 |normal=>exact fin s
 |ret=>exact fin s
 |_=>exact s.elim
attribute [simp] xF
end Go.AX