/-
  Contracts: whether operations may be (oper.Check, by maps).
-/
import Derived.Test.YthfhellfmbllhaaS13AxMovB
namespace Go.AX
open Go.Proofs

/-! ### Maps of one kind -/
def mapE {α : Type} (f : α → PV) (l : List (Int × α)) : List (Int × PV) := l.map fun p => (p.1, f p.2)
def lk {α : Type} : List (Int × α) → Int → Option α
  | [], _ => none
  | (k, x) :: r, n => if k = n then some x else lk r n
def pt {α : Type} : List (Int × α) → Int → α → List (Int × α)
  | [], n, y => [(n, y)]
  | (k, x) :: r, n, y => if k = n then (k, y) :: r else (k, x) :: pt r n y
theorem amLook_mapE {α : Type} (f : α → PV) : ∀ (l : List (Int × α)) (k : Int), amLook (mapE f l) k = (lk l k).map f
  | [], _ => rfl
  | (j, x) :: r, k => by
    have := amLook_mapE f r k
    simp only [mapE, List.map_cons, amLook, lk] at this ⊢
    split
    · rfl
    · exact this
theorem amPut_mapE {α : Type} (f : α → PV) : ∀ (l : List (Int × α)) (k : Int) (y : α), amPut (mapE f l) k (f y) = mapE f (pt l k y)
  | [], _, _ => rfl
  | (j, x) :: r, k, y => by
    have := amPut_mapE f r k y
    simp only [mapE, List.map_cons, amPut, pt] at this ⊢
    split
    · rfl
    · rw [this]; rfl
theorem lk_pt {α : Type} : ∀ (l : List (Int × α)) (k : Int) (y : α) (n : Int), lk (pt l k y) n = if k = n then some y else lk l n
  | [], k, y, n => rfl
  | (j, x) :: r, k, y, n => by
    simp only [pt]
    split
    · rename_i h; subst h
      simp only [lk]
      split <;> rfl
    · rename_i h
      simp only [lk, lk_pt r k y n]
      split
      · rename_i h2; subst h2; rw [if_neg (fun e => h e.symm)]
      · rfl
def fI (n : Int) : PV := I64 n
@[simp] theorem look_fI (l : List (Int × Int)) (k : Int) : (amLook (mapE fI l) k).getD (I64 0) = I64 ((lk l k).getD 0) := by
  rw [amLook_mapE]; cases lk l k <;> rfl
@[simp] theorem put_fI (l : List (Int × Int)) (k n : Int) : amPut (mapE fI l) k (I64 n) = mapE fI (pt l k n) := amPut_mapE fI l k n
@[simp] theorem belowE_fI (n : Nat) (l : List (Int × Int)) : belowE n (mapE fI l) := by
  rw [belowE_iff]; intro r hr
  obtain ⟨p, _, rfl⟩ := List.mem_map.1 hr
  trivial
@[simp] theorem mapE_nil {α : Type} (f : α → PV) : mapE f [] = [] := rfl

/-! ### What the maps hold -/
end Go.AX
