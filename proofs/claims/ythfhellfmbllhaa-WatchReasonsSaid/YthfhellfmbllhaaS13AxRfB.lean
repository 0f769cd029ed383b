/-
  Contracts: what follows by units, by the document.
-/
import Derived.Test.YthfhellfmbllhaaS13AxRfA
import Derived.Test.YthfhellfmbllhaaS13AxClD
namespace Go.AX
open Go.Proofs
set_option linter.unusedSimpArgs false

def val3 (l : List Int) (x : Int) : Int := if litX x < 0 then 0 else if x ∈ l then 1 else if w64 (-x) ∈ l then -1 else 0
theorem rf3Value_ok (l : List Int) (x : Int) (hl : l.length ≤ 1000000) : APure Try.prog 39 [.seq false 1 (irow l), I64 x] (fun r => r = .pv (I64 (val3 l x))) := by
  refine apure1 hmo Try.func39 (by kernel_rfl) rfl rfl (by kernel_rfl) (Nat.le_of_ble_eq_true rfl) ?_
  have hV : val3 l x = if litX x < 0 then 0 else if x ∈ l then 1 else if w64 (-x) ∈ l then -1 else 0 := rfl
  generalize val3 l x = V at hV ⊢
  simp
  refine CallK.intro (refIndex_ok x) (by simp) ?_
  simp
  refine ⟨fun c => by rw [hV, if_pos c], fun c => ?_⟩
  rw [if_neg (by omega)] at hV
  refine CallK.intro (refHas_ok l x (by omega)) (by simp) ?_
  simp
  refine ⟨fun c => by rw [hV, if_pos c], fun c => ?_⟩
  rw [if_neg c] at hV
  refine CallK.intro (refHas_ok l (w64 (-x)) (by omega)) (by simp) ?_
  simp
  exact ⟨fun c => by rw [hV, if_pos c], fun c => by rw [hV, if_neg c]⟩
def clF (l : List Int) (n x : Int) : Int := if 0 ≤ litX x ∧ n < val3 l x then val3 l x else n
def clS (l c : List Int) : Int := c.foldl (clF l) (-1)
def ctF (l : List Int) (t : Int × Int × Int) (x : Int) : Int × Int × Int :=
  if val3 l x = 1 then (w64 (t.1 + 1), t.2.1, t.2.2) else if val3 l x = -1 then (t.1, w64 (t.2.1 + 1), t.2.2) else if 0 ≤ litX x then (t.1, t.2.1, w64 (t.2.2 + 1)) else t
def ctS (l c : List Int) : Int × Int × Int := c.foldl (ctF l) (0, 0, 0)
def opF (l : List Int) (n x : Int) : Int := if 0 ≤ litX x ∧ val3 l x = 0 then x else n
def unitS (l c : List Int) : Int × Bool := if (ctS l c).1 ≠ 0 ∨ (ctS l c).2.2 ≠ 1 then (0, false) else (c.foldl (opF l) 0, true)
def fewC (cs : List (List Int)) : Prop := cs.length ≤ 500 ∧ ∀ c ∈ cs, c.length ≤ 1000
def failS (cs : List (List Int)) (l : List Int) : Int := idxS (fun c => decide (clS l c = -1)) cs
def nextS (cs : List (List Int)) (l : List Int) : Int × Int × Bool := match cs.findIdx? (fun c => (unitS l c).2) with
  | some i => ((unitS l (cs.getD i [])).1, i, true)
  | none => (0, 0, false)
def propF (cs : List (List Int)) : Nat → List Int → List Int → List Int × List Int × Int
  | 0, out, by' => (out, by', -1)
  | k + 1, out, by' => if 0 ≤ failS cs out then (out, by', failS cs out) else if (nextS cs out).2.2 = false then (out, by', -1) else propF cs k (out ++ [(nextS cs out).1]) (by' ++ [(nextS cs out).2.1])
def mostP (cs : List (List Int)) : Nat := cs.foldl (fun n c => n + c.length) 0
def propS (cs : List (List Int)) (l : List Int) : List Int × List Int × Int := propF cs (mostP cs + 1) l []
theorem propF_step (cs : List (List Int)) (k : Nat) (out by' : List Int) : propF cs (k + 1) out by' = if 0 ≤ failS cs out then (out, by', failS cs out) else if (nextS cs out).2.2 = false then (out, by', -1) else propF cs k (out ++ [(nextS cs out).1]) (by' ++ [(nextS cs out).2.1]) := rfl
end Go.AX
