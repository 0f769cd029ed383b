/-
  Contracts: arenas that are only read; what other literals a reason has.
-/
import Derived.Test.YthfhellfmbllhaaS13AxDkQ
import Derived.Test.YthfhellfmbllhaaS13AxGlC
import Derived.Test.YthfhellfmbllhaaAxBe
import Derived.Test.YthfhellfmbllhaaS13AxEvC
namespace Go.AX
open Go.Proofs
set_option linter.unusedSimpArgs false

def arR (A : Ar) : List PV := [.seq false 1 (irow A.row), .amap false (mapE fI A.hd)]
abbrev arP (A : Ar) : PV := .iptr 2 [arR A] 0 0
theorem frz_ar0 {h : List (List SV)} {b : Nat} {A : Ar} (hb : h[b]? = some (arB A)) (n : Nat) : frzP h (n + 1) b 0 = arP A := by
  obtain ⟨hlt, hb'⟩ := List.getElem?_eq_some_iff.1 hb
  simp [frzP, hlt, hb', arB, arR, frzC]
@[simp] theorem mapE_cons (k v : Int) (l : List (Int × Int)) : mapE fI ((k, v) :: l) = (k, I64 v) :: mapE fI l := rfl
theorem amadeF_ok (A : Ar) (h0 : A.hd ≠ []) : APure Try.prog 42 [arP A] (fun r => r = .pv (BL true)) := by
  refine apure1 hmo Try.func42 (by kernel_rfl) rfl rfl (by kernel_rfl) (Nat.le_of_ble_eq_true rfl) ?_
  obtain ⟨row, hd⟩ := A
  cases hd with
  | nil => exact absurd rfl h0
  | cons x hd =>
    obtain ⟨k, v⟩ := x
    simp [arP, arR]
theorem aisF_ok (A : Ar) (h0 : A.hd ≠ []) (q : Int) : APure Try.prog 40 [arP A, I64 q] (fun r => r = .pv (BL (isA A q))) := by
  refine apure1 hmo Try.func40 (by kernel_rfl) rfl rfl (by kernel_rfl) (Nat.le_of_ble_eq_true rfl) ?_
  have hm := amadeF_ok A h0
  simp only [arP, arR] at hm
  simp [arP, arR]
  refine CallK.intro hm (by simp) ?_
  simp [isA]
set_option maxRecDepth 8000 in
theorem aviewF_ok (h : List (List SV)) (A : Ar) (p n : Nat) (ha : AtOk A p n) (hl : A.row.length ≤ 1000000000) : AMut Try.prog 41 [arP A, I64 p] h (fun r h' => h' = h ∧ r = .pv (.seq false 1 (irow (partA' A p n)))) := by
  refine amutXP [] [.tmp 4] hmo Try.func41 (by kernel_rfl) rfl rfl (by kernel_rfl) (Nat.le_of_ble_eq_true rfl) ?_
  obtain ⟨a1, a2⟩ := ha
  have h1 : p + 1 < A.row.length := by omega
  have h2 : A.row[p + 1] = (n : Int) := by rw [← a2, List.getD_eq_getElem?_getD, List.getElem?_eq_getElem h1]; rfl
  have w1 : w64 ((p : Int) + 1) = ((p + 1 : Nat) : Int) := by rw [w64_id (by omega) (by omega)]; omega
  have w3 : w64 ((p : Int) + 3) = ((p + 3 : Nat) : Int) := by rw [w64_id (by omega) (by omega)]; omega
  have w4 : w64 ((p : Int) + 3 + n) = (p : Int) + 3 + n := w64_id (by omega) (by omega)
  have hrw : List.drop (p + 3) (List.take (p + 3 + n) (irow A.row)) = irow (partA' A p n) := by
    unfold irow partA'
    rw [← List.map_take, ← List.map_drop, List.drop_take]
    congr 3; omega
  have t1 : ((p : Int) + 3).toNat = p + 3 := by omega
  have t2 : ((p : Int) + 3 + n).toNat = p + 3 + n := by omega
  simp [arP, arR, w1, w3, w4, h1, h2, t1, t2, hrw, retXP]
  try omega
def litsA (A : Ar) (q : Int) : List Int := if isA A q = true then partA' A q.toNat (A.row.getD (q.toNat + 1) 0).toNat else []
def ArOk (A : Ar) : Prop := ∀ q : Int, isA A q = true → ∃ p n : Nat, q = (p : Int) ∧ AtOk A p n
set_option maxRecDepth 8000 in
theorem alitsF_ok (A : Ar) (h0 : A.hd ≠ []) (hk : ArOk A) (hl : A.row.length ≤ 1000000) (q : Int) : APure Try.prog 15 [arP A, I64 q] (fun r => r = .own true 1 (irow (litsA A q))) := by
  refine APure.own0 (R := fun r => r = .own true 1 (irow (litsA A q)) ∨ (litsA A q = [] ∧ r = .pv (.lit (.slice none 0 0)))) ?_ (fun r h => h.imp id fun ⟨e1, e2⟩ => ⟨e2, true, 1, by rw [e1]; rfl⟩)
  refine apure1 hmo Try.func15 (by kernel_rfl) rfl rfl (by kernel_rfl) (Nat.le_of_ble_eq_true rfl) ?_
  have hi := aisF_ok A h0 q
  simp only [arP, arR] at hi
  simp [arP, arR]
  refine CallK.intro hi (by simp) ?_
  by_cases c : isA A q = true
  rotate_left
  · have c' : isA A q = false := by simpa using c
    have hL : litsA A q = [] := if_neg c
    simp [c', hL]
  obtain ⟨p, n, rfl, ha⟩ := hk q c
  have hv := fun h => aviewF_ok h A p n ha (by omega)
  have hL : litsA A p = partA' A p n := by
    unfold litsA
    rw [if_pos c, Int.toNat_natCast, ha.num, Int.toNat_natCast]
  obtain ⟨a1, a2⟩ := ha
  have h1 : p + 1 < A.row.length := by omega
  have h2 : A.row[p + 1] = (n : Int) := by rw [← a2, List.getD_eq_getElem?_getD, List.getElem?_eq_getElem h1]; rfl
  have w1 : w64 ((p : Int) + 1) = ((p + 1 : Nat) : Int) := by rw [w64_id (by omega) (by omega)]; omega
  have hpl : (partA' A p n).length = n := by unfold partA'; rw [List.length_take, List.length_drop]; omega
  have hpt : (irow (partA' A p n)).take n = irow (partA' A p n) := List.take_of_length_le (by simp [hpl])
  rw [hL]
  generalize partA' A p n = y at *
  simp only [arP, arR] at hv
  simp [c, w1, h1, h2, arR]
  refine ⟨by omega, by omega, ?_⟩
  refine CallK.introM (hv _) (by simp) ?_
  rintro _ _ ⟨rfl, rfl⟩
  simp [hpl, hpt]
theorem litsA_len (A : Ar) (hk : ArOk A) (q : Int) : (litsA A q).length ≤ A.row.length := by
  unfold litsA
  split
  · unfold partA'; rw [List.length_take, List.length_drop]; omega
  · simp
end Go.AX
