/-
  Contracts: arenas that are only read; what other literals a reason has.
  Contracts: the asker of what is deeply left over.
  Contracts: what is deeply left over; what is a part of what.
-/
import Derived.Test.YtklaffmpfmpffaaGreatS11AxGlI
import Derived.Test.YtklaffmpfmpffaaGreatAxBe
import Derived.Test.YtklaffmpfmpffaaGreatS11AxMovS
namespace Go.AX
open Go.Proofs
set_option linter.unusedSimpArgs false

def arR (A : Ar) : List PV := [.seq false 1 (irow A.row), .amap false (mapE fI A.hd)]
abbrev arP (A : Ar) : PV := .iptr 2 [arR A] 0 0
@[simp] theorem oldR_irow : ∀ l : List Int, oldR (irow l)
  | [] => trivial
  | _ :: l => ⟨⟨trivial, trivial⟩, oldR_irow l⟩
@[simp] theorem oldR_mkR : ∀ l : List Mk, oldR (l.map mkR)
  | [] => trivial
  | _ :: l => ⟨⟨trivial, trivial, trivial, trivial, trivial⟩, oldR_mkR l⟩
theorem frz_ar0 {h : List (List SV)} {b : Nat} {A : Ar} (hb : h[b]? = some (arB A)) (n : Nat) : frzP h (n + 1) b 0 = arP A := by
  obtain ⟨hlt, hb'⟩ := List.getElem?_eq_some_iff.1 hb
  simp [frzP, hlt, hb', arB, arR, frzC]
@[simp] theorem mapE_cons (k v : Int) (l : List (Int × Int)) : mapE fI ((k, v) :: l) = (k, I64 v) :: mapE fI l := rfl
theorem amadeF_ok (A : Ar) (h0 : A.hd ≠ []) : APure Tryz.prog 133 [arP A] (fun r => r = .pv (BL true)) := by
  refine apure1 hmo Tryz.func133 (by kernel_rfl) rfl rfl (by kernel_rfl) (Nat.le_of_ble_eq_true rfl) ?_
  obtain ⟨row, hd⟩ := A
  cases hd with
  | nil => exact absurd rfl h0
  | cons x hd =>
    obtain ⟨k, v⟩ := x
    simp [arP, arR]
theorem aisF_ok (A : Ar) (h0 : A.hd ≠ []) (q : Int) : APure Tryz.prog 141 [arP A, I64 q] (fun r => r = .pv (BL (isA A q))) := by
  refine apure1 hmo Tryz.func141 (by kernel_rfl) rfl rfl (by kernel_rfl) (Nat.le_of_ble_eq_true rfl) ?_
  have hm := amadeF_ok A h0
  simp only [arP, arR] at hm
  simp [arP, arR]
  refine CallK.intro hm (by simp) ?_
  simp [isA]
set_option maxRecDepth 8000 in
theorem aviewF_ok (h : List (List SV)) (A : Ar) (p n : Nat) (ha : AtOk A p n) (hl : A.row.length ≤ 1000000000) : AMut Tryz.prog 144 [arP A, I64 p] h (fun r h' => h' = h ∧ r = .pv (.seq false 1 (irow (partA' A p n)))) := by
  refine amutXP [] [.tmp 4] hmo Tryz.func144 (by kernel_rfl) rfl rfl (by kernel_rfl) (Nat.le_of_ble_eq_true rfl) ?_
  obtain ⟨a1, a2⟩ := ha
  have h1 : p + 1 < A.row.length := by omega
  have h2 : A.row[p + 1] = (n : Int) := by rw [← a2, List.getD_eq_getElem?_getD, List.getElem?_eq_getElem h1]; rfl
  have w1 : w64 ((p : Int) + 1) = ((p + 1 : Nat) : Int) := by rw [w64_id (by omega) (by omega)]; omega
  have w3 : w64 ((p : Int) + 3) = ((p + 3 : Nat) : Int) := by rw [w64_id (by omega) (by omega)]; omega
  have w4 : w64 ((p : Int) + 3 + n) = (p : Int) + 3 + n := w64_id (by omega) (by omega)
  have hrw : List.drop (p + 3) (List.take (p + 3 + n) (irow A.row)) = irow (partA' A p n) := by
    unfold irow partA'
    rw [← List.map_take, ← List.map_drop, List.drop_take]
    congr 3; omega
  have t1 : ((p : Int) + 3).toNat = p + 3 := by omega
  have t2 : ((p : Int) + 3 + n).toNat = p + 3 + n := by omega
  simp [arP, arR, w1, w3, w4, h1, h2, t1, t2, hrw, retXP]
  try omega
/-- The literals of the clause at a place; none: there is no clause. -/
def litsA (A : Ar) (q : Int) : List Int := if isA A q = true then partA' A q.toNat (A.row.getD (q.toNat + 1) 0).toNat else []
/-- Where a clause is there is a row. -/
def ArOk (A : Ar) : Prop := ∀ q : Int, isA A q = true → ∃ p n : Nat, q = (p : Int) ∧ AtOk A p n
set_option maxRecDepth 8000 in
theorem alitsF_ok (A : Ar) (h0 : A.hd ≠ []) (hk : ArOk A) (hl : A.row.length ≤ 1000000) (q : Int) : APure Tryz.prog 86 [arP A, I64 q] (fun r => r = .own true 1 (irow (litsA A q))) := by
  refine APure.own0 (R := fun r => r = .own true 1 (irow (litsA A q)) ∨ (litsA A q = [] ∧ r = .pv (.lit (.slice none 0 0)))) ?_ (fun r h => h.imp id fun ⟨e1, e2⟩ => ⟨e2, true, 1, by rw [e1]; rfl⟩)
  refine apure1 hmo Tryz.func86 (by kernel_rfl) rfl rfl (by kernel_rfl) (Nat.le_of_ble_eq_true rfl) ?_
  have hi := aisF_ok A h0 q
  simp only [arP, arR] at hi
  simp [arP, arR]
  refine CallK.intro hi (by simp) ?_
  by_cases c : isA A q = true
  rotate_left
  · have c' : isA A q = false := by simpa using c
    have hL : litsA A q = [] := if_neg c
    simp [c', hL]
  obtain ⟨p, n, rfl, ha⟩ := hk q c
  have hv := fun h => aviewF_ok h A p n ha (by omega)
  have hL : litsA A p = partA' A p n := by
    unfold litsA
    rw [if_pos c, Int.toNat_natCast, ha.num, Int.toNat_natCast]
  obtain ⟨a1, a2⟩ := ha
  have h1 : p + 1 < A.row.length := by omega
  have h2 : A.row[p + 1] = (n : Int) := by rw [← a2, List.getD_eq_getElem?_getD, List.getElem?_eq_getElem h1]; rfl
  have w1 : w64 ((p : Int) + 1) = ((p + 1 : Nat) : Int) := by rw [w64_id (by omega) (by omega)]; omega
  have hpl : (partA' A p n).length = n := by unfold partA'; rw [List.length_take, List.length_drop]; omega
  have hpt : (irow (partA' A p n)).take n = irow (partA' A p n) := List.take_of_length_le (by simp [hpl])
  rw [hL]
  generalize partA' A p n = y at *
  simp only [arP, arR] at hv
  simp [c, w1, h1, h2, arR]
  refine ⟨by omega, by omega, ?_⟩
  refine CallK.introM (hv _) (by simp) ?_
  rintro _ _ ⟨rfl, rfl⟩
  simp [hpl, hpt]
theorem litsA_len (A : Ar) (hk : ArOk A) (q : Int) : (litsA A q).length ≤ A.row.length := by
  unfold litsA
  split
  · unfold partA'; rw [List.length_take, List.length_drop]; omega
  · simp
end Go.AX

namespace Go.AX
open Go.Proofs
set_option linter.unusedSimpArgs false

@[simp] theorem z_fn73 : zeroL Tryz.prog 73 = some [.lit .nilFunc] := by kernel_rfl
/-- The blocks of an asker, from the n-th on; its memo. -/
def askF (n : Nat) : PV := .fn (.func 161) [] [.ptr (n + 1) 0, .ptr (n + 3) 0, .ptr n 0, .ptr (n + 2) 0, .ptr (n + 4) 0]
structure AskAt (A : Ar) (T : Tr) (lits : List Int) (m : List (Int × Int)) (n : Nat) (h : List (List SV)) : Prop where
  b0 : h[n]? = some [.pv (arP A)]
  b1 : h[n + 1]? = some [.pv (trP T)]
  b2 : h[n + 2]? = some [.pv (.seq false 1 (irow lits))]
  b3 : h[n + 3]? = some [.omap true (mapE fI m)]
  b4 : h[n + 4]? = some [.pv (askF n)]
theorem AskAt.set {A : Ar} {T : Tr} {lits : List Int} {m m' : List (Int × Int)} {n : Nat} {h : List (List SV)} (a : AskAt A T lits m n h) : AskAt A T lits m' n (h.set (n + 3) [.omap true (mapE fI m')]) where
  b0 := by rw [List.getElem?_set_ne (by omega)]; exact a.b0
  b1 := by rw [List.getElem?_set_ne (by omega)]; exact a.b1
  b2 := by rw [List.getElem?_set_ne (by omega)]; exact a.b2
  b3 := by rw [List.getElem?_set_self (List.getElem?_eq_some_iff.1 a.b3).1]
  b4 := by rw [List.getElem?_set_ne (by omega)]; exact a.b4
/-- What all rests on. -/
structure ShOk (A : Ar) (T : Tr) (lits : List Int) : Prop where
  tr : T.ok
  ar : ArOk A
  len : A.row.length ≤ 1000000
  few : lits.length ≤ 1000000
  hd : ∀ v, 0 ≤ (ofT T v).1.rea → A.hd ≠ []
end Go.AX

namespace Go.AX
open Go.Proofs
set_option linter.unusedSimpArgs false

end Go.AX
