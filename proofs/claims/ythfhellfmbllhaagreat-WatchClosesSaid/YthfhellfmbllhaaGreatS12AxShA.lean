/-
  Contracts: how glued literals are; whether a clause is a reason.
  Contracts: arenas that are only read; what other literals a reason has.
-/
import Derived.Test.YthfhellfmbllhaaGreatS12AxDkQ
import Derived.Test.YthfhellfmbllhaaGreatAxBe
import Derived.Test.YthfhellfmbllhaaGreatS12AxGlC
import Derived.Test.YthfhellfmbllhaaGreatS12AxEvC
namespace Go.AX
open Go.Proofs
set_option linter.unusedSimpArgs false
theorem tdepth_ok (T:Tr):APure Tryz.prog 52 [trP T] (fun r=>r=.pv (I64 T.beg.length)):=by
 refine apure1 hmo Tryz.func52 (by kernel_rfl) rfl rfl (by kernel_rfl) (Nat.le_of_ble_eq_true rfl) ?_;have hi:=tis_ok T;simp only[trP,trR]at hi;simp[trP,trR];refine CallK.intro hi (by simp) ?_;simp
@[simp] theorem mapE_cons (k v:Int) (l:List (Int×Int)):mapE fI ((k,v)::l)=(k,I64 v)::mapE fI l:=rfl
def litsA (A:Ar) (q:Int):List Int:=if isA A q=true then partA' A q.toNat (A.row.getD (q.toNat+1) 0).toNat else[]
def ArOk (A:Ar):Prop:=∀q:Int,isA A q=true→∃p n:Nat,q=(p:Int)∧AtOk A p n
theorem litsA_len (A:Ar) (hk:ArOk A) (q:Int):(litsA A q).length≤A.row.length:=by
 unfold litsA;split
 ·unfold partA';rw[List.length_take,List.length_drop];omega
 ·simp
end Go.AX