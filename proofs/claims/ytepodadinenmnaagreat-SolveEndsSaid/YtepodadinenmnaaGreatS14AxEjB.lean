/-
  Contracts: solve: the unit, what tells a result.
  Contracts: law20's play: the level of a literal, the level to go back to.
-/
import Derived.Test.YtepodadinenmnaaGreatS14AxEjA
import Derived.Test.YtepodadinenmnaaGreatS14AxLuA
namespace Go.AX
open Go.Proofs
set_option linter.unusedSimpArgs false
def pm(r:Int):Int:=if 1<(if 1000000<r then 1000000 else r)then(if 1000000<r then 1000000 else r)else 1
theorem F1(r:Int):1<=pm r∧pm r<=1000000:=by unfold pm;split<;>split at*<;>omega
theorem rJ(rs kp a:Int):an Tryz.prog 30 [.agg [ae rs,ae kp,ae a]] (λr=>r=.pv (ae (pm rs))):=by
 refine ax aG Tryz.func30 ?_;simp[pm]
section
variable {h : List (List SV)} {be bt ba bw bh b : Nat} {E : ES}
def eY(k:Int)(c:Int)(m:PV)(pf:List Stp):PV:=.agg [ae k,ae c,m,if k=2 then .seq true 4 (pf.map B7)else .lit (.slice none 0 0)]
set_option maxRecDepth 16000 in
theorem lF(n:h[be]?=some (bV bt ba bw bh E))(l:h[b]?=some [.pv (.ptr be 0)])(k:Int)(m:PV)(p:m=.lit (.slice none 0 0)∨∃x:List Bool,m=.seq true 1 (cz x))(o:E.pf.length<=1000000)(hs:∀s∈E.pf,s.lits.length<=1000000∧s.hints.length<=1000000):
 aB Tryz.prog 213 [ae k,m,.ptr b 0] h (λr h'=>h'=h∧r=.pv (eY k E.many m E.pf)):=by
 refine aB.below (by kernel_rfl) λq=>?_;refine lj [] [.cell 5 _] aG Tryz.func213 ?_;obtain⟨e,f⟩:=N5.1 l;have i:∀g,(h++g)[b]?=some [.pv (.ptr be 0)]:=λg=>by rw[Oa e,l]
 have a:∀g h',(h++g)[b]'h'=[.pv (.ptr be 0)]:=λg h'=>by rw[OZ e,f]
 have hle:=(N5.1 n).1;have j:∀g,(h++g)[be]?=some (bV bt ba bw bh E):=λg=>by rw[Oa hle,n]
 have d:b<h.length+1:=by omega
 rcases p with rfl|⟨x,rfl⟩
 all_goals
  simp[e,f,i,a,d];refine am.intro (l5 (j _)) ?_;rintro _ _ ⟨rfl,rfl⟩
  by_cases c:k=2
  .simp[e,f,i,a,d,c];refine am.intro (Co (j _) o hs) ?_;rintro _ _ ⟨rfl,rfl⟩;simp[e,f,i,a,d,c,eY,cw,cE]
  .simp[e,f,i,a,d,c,eY,cw,cE]
theorem zm(h:List (List SV))(be:Nat):
 aB Tryz.prog 134 [.ptr be 0] h (λr h'=>h'=h++[[.pv (.ptr be 0)]]∧r=.pv (.fn (.func 213) [] [.ptr h.length 0])):=by
 refine cL [] [.tmp 2] aG Tryz.func134 ?_;simp
end
structure PlS where
  c:Ck
  steps:Int
  first:Int
  bad:Bool
  calm:Bool
  vars:Int
  beg:List Int
section
variable {h : List (List SV)} {bp be : Nat} {P : PlS}
end
end Go.AX