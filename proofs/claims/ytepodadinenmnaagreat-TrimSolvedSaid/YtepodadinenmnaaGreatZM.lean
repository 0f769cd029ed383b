/-
  Contracts: law20's play: what holds of it; all follows; and what follows.
-/
import Derived.Test.YtepodadinenmnaaGreatZL
set_option linter.unusedSimpArgs false
namespace Go.AX
open Go.Proofs
section
variable {n r s : Nat} {F : au} {h : ao} {be bt ba bw bh bp : Nat} {mp : cg} {mb : List (Int × By)} {E : ES} {l : List Rc} {P : PlS}
theorem CkE.same{c:Ck}{E':ES}(K:CkE F l E c)(a:E'.pf=E.pf)(b:E'.id=E.id):CkE F l E' c:=
 {K with run:=by rw[a];exact K.run,last:=K.last.trans b.symm,may:=by rw[a];exact K.may}
end
section
variable {n r s : Nat} {F : au} {h : ao} {be bt ba bw bh bp : Nat} {mp : cg} {mb : List (Int × By)} {E : ES} {l : List Rc} {P : PlS}
theorem EI.full(h:EI n F r s l E)(k:∀v∈E.q.row,v∈E.T.lits.map aq):E.T.lits.length=n:=by
 have m:=h.tok.few;have h1:∀v∈(List.range n).map (λi:Nat=>((i+1:Nat):Int)),v∈E.T.lits.map aq:=λv j=>by
  obtain⟨i,hi,rfl⟩:=VB.1 j;rw[WN]at hi;by_cases c:((i+1:Nat):Int)∈E.T.lits.map aq;exact c;exact k _ (h.inh _ (by omega) (by omega) c)
 have f:((List.range n).map (λi:Nat=>((i+1:Nat):Int))).Nodup:=by
  refine Xe.2 (List.nodup_range.imp ?_);intro a b d e;exact d (by omega)
 have g:=eb _ _ f h1;rw[VA,VA,Z0]at g;omega
end
section
variable {n r s : Nat} {F : au} {l : List Rc} {E : ES}
end
theorem LayE.dlt{h:ao}{be bt ba bw bh:Nat}{mp:cg}{mb:List (Int×By)}{E:ES}(L:LayE h be bt ba bw bh mp mb E){b:Nat}(hd:dH be bt ba bw bh mp mb b):b<h.length:=by
 have key:∀{b:Nat}{x:bj},h[b]?=some x->b<h.length:=λe=>(Vp.1 e).1;rcases hd with rfl|rfl|rfl|rfl|rfl|⟨k,hk⟩|⟨l,e,d,rfl⟩;exact key L.e;exact key L.q;exact key L.w.a;exact key L.w.w;exact key L.w.t;obtain⟨p,_,c,_⟩:=L.w.pr k b hk;exact key c;obtain⟨zs,_,⟨sp,c,_⟩,_⟩:=L.w.by' l e d
 exact key c
end Go.AX
