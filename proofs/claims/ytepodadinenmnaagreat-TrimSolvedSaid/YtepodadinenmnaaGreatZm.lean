/-
  AX, part Lo: a function that gives a part of a slice that one of the caller's blocks owns.
-/
import Derived.Test.YtepodadinenmnaaGreatZh
namespace Go.AX
section
def zP(t:Nat)(R:SV->ao->Prop)(st:St):Prop:=
 match look st.t t with
 |.loc (.cell b k) lo hi=>R (.loc (.cell b k) lo hi) st.h
 |_=>False
theorem OC{P:aa}{f:az}{fn:Func}{c:Code}{args:aD}{h:ao}{R:SV->ao->Prop}{t:Nat}(aP:P.follows .mixedOrders=true)(E:P.funcs[f]?=some fn)(C:AC P h.length [] c (lM (zP t R)) ⟨gX 0 args,h⟩)(j:aV P f=true:=by kernel_rfl)(D:fn.body=some c:=by rfl)(F:fn.results=#[.tmp t]:=by rfl) (q:pn fn.ntmps [] c=true:=by kernel_rfl) (hn:args.length<=fn.ntmps:=by exact WC rfl):aI P f args h R:=by
 refine⟨j,λg st a w vs hs u G=>?_⟩;refine calls_of_wp E D ?_;obtain⟨bl,i⟩:=hs.own;have m:=Kz hs i (N:=fn.ntmps) G hn;rw[u]at m;refine pI aP c C (g:=NV g w bl fn.ntmps) ⟨q,by show g.n<=h.length;rw[hs.n,u];exact Vu _⟩ m λe st' g' o w' s y s'=>?_;have fin:zP t R st'->o.defers=[]∧∃v,(results fn o.tmps).run P w'=.ok v w'∧∃z r h' g',Ending.returned v=.returned z∧R r h'∧g.to g'∧∀d,cX g.N d->Sim g' (jE d r ⟨aW fE st.t,h'⟩) (a.put d z) w':=λhk=>by
  unfold zP at hk;split at hk;rename_i b k lo hi p;obtain⟨A,B⟩:=s'.own;have l:=s'.al t;rw[p]at l;obtain⟨x,H⟩:=Gj hs i y s' B;refine⟨s'.defs,o.tmps.getD t undef,results_tmp F _ _ _,o.tmps.getD t undef,_,st'.h,uQ g g',rfl,hk,KA hs i y,λd hd=>?_⟩;cases d with
  |none=>exact x
  |some d=>
   refine x.put hd rfl ?_ rfl;intro nw e rows hp;exact l nw e rows hp
  exact hk.elim
 cases e with
 |normal=>exact fin s
 |ret=>exact fin s
 |_=>exact s.elim
attribute [simp] zP
end
end Go.AX
