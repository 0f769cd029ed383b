/-
  Contracts: all clauses (count, the document's answer).
  Contracts: all clauses (count).
  Contracts: whether operations may be (oper.Check, by maps).
  Contract: oper.Check.
  Contracts: count.All, count.Fits.
-/
import Derived.Test.YtklaffmpfmpffaaGreatS11AxCntC
import Derived.Test.YtklaffmpfmpffaaGreatS11AxCntD
namespace Go.AX
open Go.Proofs

@[simp] theorem frzR_orow (r : Nat → Nat → PV) (ops : List Op5) : frzR r (ops.map orow) = ops.map orow := by
  rw [frzR_map, List.map_map]; congr 1
@[simp] theorem frzR_prow (r : Nat → Nat → PV) (l : List (Int × Int)) : frzR r (l.map prow) = l.map prow := by
  rw [frzR_map, List.map_map]; congr 1
@[simp] theorem frzR_ints (r : Nat → Nat → PV) (l : List Int) : frzR r (l.map fun i => [I64 i]) = l.map fun i => [I64 i] := by
  rw [frzR_map, List.map_map]; congr 1
@[simp] theorem nwR_prow (l : List (Int × Int)) : nwR (l.map prow) := by
  rw [nwR_iff]; intro r hr
  obtain ⟨o, _, rfl⟩ := List.mem_map.1 hr
  exact ⟨trivial, trivial, trivial⟩
@[simp] theorem nwR_ints (l : List Int) : nwR (l.map fun i => [I64 i]) := by
  rw [nwR_iff]; intro r hr
  obtain ⟨o, _, rfl⟩ := List.mem_map.1 hr
  exact ⟨trivial, trivial⟩

end Go.AX

namespace Go.AX
open Go.Proofs

end Go.AX

namespace Go.AX
open Go.Proofs

/-! ### Maps of one kind -/
def mapE {α : Type} (f : α → PV) (l : List (Int × α)) : List (Int × PV) := l.map fun p => (p.1, f p.2)
def lk {α : Type} : List (Int × α) → Int → Option α
  | [], _ => none
  | (k, x) :: r, n => if k = n then some x else lk r n
def pt {α : Type} : List (Int × α) → Int → α → List (Int × α)
  | [], n, y => [(n, y)]
  | (k, x) :: r, n, y => if k = n then (k, y) :: r else (k, x) :: pt r n y
theorem amLook_mapE {α : Type} (f : α → PV) : ∀ (l : List (Int × α)) (k : Int), amLook (mapE f l) k = (lk l k).map f
  | [], _ => rfl
  | (j, x) :: r, k => by
    have := amLook_mapE f r k
    simp only [mapE, List.map_cons, amLook, lk] at this ⊢
    split
    · rfl
    · exact this
theorem amPut_mapE {α : Type} (f : α → PV) : ∀ (l : List (Int × α)) (k : Int) (y : α), amPut (mapE f l) k (f y) = mapE f (pt l k y)
  | [], _, _ => rfl
  | (j, x) :: r, k, y => by
    have := amPut_mapE f r k y
    simp only [mapE, List.map_cons, amPut, pt] at this ⊢
    split
    · rfl
    · rw [this]; rfl
theorem lk_pt {α : Type} : ∀ (l : List (Int × α)) (k : Int) (y : α) (n : Int), lk (pt l k y) n = if k = n then some y else lk l n
  | [], k, y, n => rfl
  | (j, x) :: r, k, y, n => by
    simp only [pt]
    split
    · rename_i h; subst h
      simp only [lk]
      split <;> rfl
    · rename_i h
      simp only [lk, lk_pt r k y n]
      split
      · rename_i h2; subst h2; rw [if_neg (fun e => h e.symm)]
      · rfl
def fI (n : Int) : PV := I64 n
def fO (o : Op5) : PV := .agg (orow o)
@[simp] theorem look_fI (l : List (Int × Int)) (k : Int) : (amLook (mapE fI l) k).getD (I64 0) = I64 ((lk l k).getD 0) := by
  rw [amLook_mapE]; cases lk l k <;> rfl
@[simp] theorem look_fO (l : List (Int × Op5)) (k : Int) : (amLook (mapE fO l) k).getD (.agg [I64 0, I64 0, I64 0, I64 0, I64 0]) = .agg [I64 ((lk l k).getD default).p, I64 ((lk l k).getD default).k, I64 ((lk l k).getD default).s, I64 ((lk l k).getD default).e, I64 ((lk l k).getD default).r] := by
  rw [amLook_mapE]; cases lk l k <;> rfl
@[simp] theorem some_fO (l : List (Int × Op5)) (k : Int) : (amLook (mapE fO l) k).isSome = (lk l k).isSome := by
  rw [amLook_mapE]; cases lk l k <;> rfl
@[simp] theorem put_fI (l : List (Int × Int)) (k n : Int) : amPut (mapE fI l) k (I64 n) = mapE fI (pt l k n) := amPut_mapE fI l k n
@[simp] theorem put_fO (l : List (Int × Op5)) (k a b c d e : Int) : amPut (mapE fO l) k (.agg [I64 a, I64 b, I64 c, I64 d, I64 e]) = mapE fO (pt l k ⟨a, b, c, d, e⟩) := amPut_mapE fO l k ⟨a, b, c, d, e⟩
@[simp] theorem belowE_fI (n : Nat) (l : List (Int × Int)) : belowE n (mapE fI l) := by
  rw [belowE_iff]; intro r hr
  obtain ⟨p, _, rfl⟩ := List.mem_map.1 hr
  trivial
@[simp] theorem belowE_fO (n : Nat) (l : List (Int × Op5)) : belowE n (mapE fO l) := by
  rw [belowE_iff]; intro r hr
  obtain ⟨p, _, rfl⟩ := List.mem_map.1 hr
  exact ⟨trivial, trivial, trivial, trivial, trivial, trivial⟩
@[simp] theorem mapE_nil {α : Type} (f : α → PV) : mapE f [] = [] := rfl

/-! ### What the maps hold -/
end Go.AX

namespace Go.AX
open Go.Proofs

end Go.AX

namespace Go.AX
open Go.Proofs

end Go.AX
