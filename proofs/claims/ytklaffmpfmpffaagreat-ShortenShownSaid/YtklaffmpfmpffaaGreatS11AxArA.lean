/-
  Contracts: arenas.
-/
import Derived.Test.YtklaffmpfmpffaaGreatS11AxRfA
import Derived.Test.YtklaffmpfmpffaaGreatS11AxRfD
import Derived.Test.YtklaffmpfmpffaaGreatAxLo
import Derived.Test.YtklaffmpfmpffaaGreatAxX
namespace Go.AX
open Go.Proofs
set_option linter.unusedSimpArgs false

structure Ar where
  row : List Int
  hd : List (Int × Int)
def arB (A : Ar) : List SV := [.own true 1 (irow A.row), .omap true (mapE fI A.hd)]
theorem belowC_arB (k : Nat) (A : Ar) : belowC k (arB A) := ⟨belowR_irow k _, belowE_fI k _, trivial⟩
@[simp] theorem litsR_irow (l : List Int) : litsR (irow l) := by
  unfold irow
  induction l with
  | nil => trivial
  | cons x xs ih => exact ⟨⟨trivial, trivial⟩, ih⟩

def arZ : List SV := [.pv (.lit (.slice none 0 0)), .omap true []]
theorem anew_ok (h : List (List SV)) : AMut Tryz.prog 75 [] h (fun r h' => h' = h ++ [arZ] ∧ r = .pv (.ptr h.length 0)) := by
  refine amut1 hmo Tryz.func75 (by kernel_rfl) rfl rfl (by kernel_rfl) (Nat.le_of_ble_eq_true rfl) ?_
  simp [arZ]
theorem amade_ok (h : List (List SV)) (b : Nat) (A : Ar) (hb : h[b]? = some (arB A)) : AMut Tryz.prog 133 [.ptr b 0] h (fun r h' => h' = h ∧ r = .pv (BL true)) := by
  refine amutXP [] [.tmp 2] hmo Tryz.func133 (by kernel_rfl) rfl rfl (by kernel_rfl) (Nat.le_of_ble_eq_true rfl) ?_
  obtain ⟨hlt, hb'⟩ := List.getElem?_eq_some_iff.1 hb
  simp [hb', hlt, arB]
def isA (A : Ar) (at' : Int) : Bool := decide (0 < (lk A.hd at').getD 0)
structure AtOk (A : Ar) (p n : Nat) : Prop where
  len : p + 3 + n ≤ A.row.length
  num : A.row.getD (p + 1) 0 = n
def partA' (A : Ar) (p n : Nat) : List Int := (A.row.drop (p + 3)).take n
def putAr (A : Ar) (id : Int) (lits : List Int) : Ar := if putEA id lits = 0 then ⟨A.row ++ ([id, (lits.length : Int), 0] ++ lits), pt A.hd A.row.length id⟩ else A
set_option maxRecDepth 16000 in
theorem aput_ok (h : List (List SV)) (b : Nat) (A : Ar) (hb : h[b]? = some (arB A)) (id : Int) (lits : List Int) (hc : lits.length ≤ 1000000) (hl : A.row.length ≤ 1000000000) :
    AMut Tryz.prog 78 [.ptr b 0, I64 id, .seq false 1 (irow lits), BL false] h (fun r h' => h' = h.set b (arB (putAr A id lits)) ∧ r = .pv (.tup [I64 (if putEA id lits = 0 then A.row.length else 0), I64 (putEA id lits)])) := by
  refine amutXD [] [.tmp 8, .tmp 9] (h.set b (arB (putAr A id lits))) (by simp) (fun hh => by rw [List.length_set]; exact belowH_setT (belowC_arB _ _) b hh) hmo Tryz.func78 (by kernel_rfl) rfl rfl (by kernel_rfl) (Nat.le_of_ble_eq_true rfl) ?_
  obtain ⟨hlt, hb'⟩ := List.getElem?_eq_some_iff.1 hb
  have hE : putEA id lits = if id < 1 ∨ 10000000 < id then 2 else chkC lits 100000 := rfl
  have hA : putAr A id lits = if putEA id lits = 0 then ⟨A.row ++ ([id, (lits.length : Int), 0] ++ lits), pt A.hd A.row.length id⟩ else A := rfl
  have hset : h.set b (arB A) = h := set_sameT hb
  generalize putAr A id lits = A' at hA ⊢
  generalize putEA id lits = E at hE hA ⊢
  simp
  refine CallB.intro (amade_ok h b A hb) (by simp) ?_
  rintro _ _ ⟨rfl, rfl⟩
  by_cases c1 : id < 1
  · rw [if_pos (.inl c1)] at hE
    subst hE
    rw [if_neg (by omega)] at hA
    subst hA
    simp [c1, hset]
  by_cases c2 : 10000000 < id
  · rw [if_pos (.inr c2)] at hE
    subst hE
    rw [if_neg (by omega)] at hA
    subst hA
    simp [c1, c2, hset]
  rw [if_neg (by omega)] at hE
  simp [c1, c2]
  refine CallK.intro (clCheck_ok lits 100000 (by omega)) (by simp) ?_
  rw [← hE]
  by_cases c3 : E = 0
  rotate_left
  · rw [if_neg c3] at hA
    subst hA
    simp [c3, hset]
  rw [if_pos c3] at hA
  subst hA
  simp [c3, hb', hlt, arB]
  refine ⟨by omega, by omega, ?_⟩
  rw [List.take_of_length_le (by simp)]
  simp [irow]
end Go.AX
