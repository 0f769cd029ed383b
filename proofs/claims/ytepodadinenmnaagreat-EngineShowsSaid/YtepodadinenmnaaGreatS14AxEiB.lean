/-
  Contracts: the document's check of steps that may be.
-/
import Derived.Test.YtepodadinenmnaaGreatS14AxWaD
namespace Go.AX
open Go.Proofs
set_option linter.unusedSimpArgs false
set_option maxRecDepth 16000 in
theorem wS(L:List Stp)(hn:L.length<=1000000)(h:∀s∈L,s.lits.length<=100000∧s.hints.length<=100000)(hk:∀s∈L,s.kind=1)(l:∀s∈L,jr s=true):am Tryz.prog 35 [.seq false 4 (L.map dF)] (λr=>r=.pv (.tup [af L.length,af 0])):=by
 refine nE [2,3] aD Tryz.func35 (λ_ _=>results_tmp2 rfl _ _ _) ?_;have f:¬(1000000:Int)<L.length:=by omega
 simp[f];refine aH.intro (S:=λ(i:Nat)=>⟨[(0,.pv (.seq false 4 (L.map dF))),(4,.pv (af i))],[]⟩) (λi=>i<=L.length) (λi=>L.length -i) 0 ?_ (Qq _) ?_
 .exact ai.keep (by simp) (by simp)
 intro i hi
 by_cases d:i<L.length
 .have m:=eq i;have hs:=Qe d;have b:=hk _ hs;obtain⟨j,k,a3,a4⟩:1<=L[i].id∧L[i].id<=10000000∧fj L[i].lits 100000=0∧mc L[i].hints (-10000000)=true:=by
   have:=l _ hs;unfold jr at this;rw[Qb b]at this;simpa using this
  have g:=tC L[i].lits 100000 (by have:=(h _ hs).1;omega);have a:=wx L[i].hints (-10000000) (by have:=(h _ hs).2;omega);rw[a3]at g;rw[a4]at a;simp[d,dF,b,j,k];refine aO.intro (λ_=>g) ?_;simp;refine aO.intro (λ_=>a) ?_;simp;refine aO.introK (λe=>e.elim) (λ_=>?_);simp;exact⟨i+1,by(try dsimp only);omega,by(try dsimp only);omega,ai.to (by simp[m,dF]) rfl (by simp) (by simp) (by simp)⟩
 .have c:i=L.length:=by omega
  subst c;simp
end Go.AX