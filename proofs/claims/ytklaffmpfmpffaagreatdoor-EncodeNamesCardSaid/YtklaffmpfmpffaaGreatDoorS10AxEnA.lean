/-
  Contracts: numerals and words.
-/
import Derived.Test.YtklaffmpfmpffaaGreatDoorS10AxDeH
import Derived.Test.YtklaffmpfmpffaaGreatDoorAxSK
namespace Go.AX
open Go.Proofs Go.Shelf
set_option linter.unusedSimpArgs false

def srow (xs : List ByteArray) : List (List PV) := xs.map fun x => [.lit (.string x)]
def digS (i : Nat) : ByteArray := ⟨(Lib.decDigits i).toArray⟩
def wjoin (xs : List ByteArray) (sep : ByteArray) : ByteArray := ⟨(Lib.join (xs.map (·.data.toList)) sep.data.toList).toArray⟩
theorem itoa_ok (i : Nat) (hi : i < 100) : APure Tryz.prog 40 [I64 i] (fun r => r = .pv (.lit (.string (digS i)))) :=
  ⟨by kernel_rfl, fun w vs hv => by
    obtain ⟨v1, r1, rfl, h1, rfl⟩ := hv
    cases h1
    refine (Any.strconv_Itoa_small { Tryz.itoaA with } i hi w).mono ?_
    rintro e w' ⟨rfl, rfl⟩
    exact ⟨_, _, snap w', none, rfl, rfl, ⟨rfl, rfl, fun _ _ => rfl, Nat.le_refl _, fun _ _ h => h⟩, ⟨rfl, rfl⟩, rfl, fun c h => by cases h⟩⟩
theorem Tryz.extraA : Builder.Extra Tryz.prog Tryz.joinA_ren where
  sizeBuilder := by kernel_rfl
  liesBuilder := by kernel_rfl
  t5 := by kernel_rfl
  a5 := fun _ => by kernel_rfl
  z5 := fun _ => by kernel_rfl
  v5 := fun _ => by kernel_rfl
  infoByte := by kernel_rfl
  cellsByte := by kernel_rfl
  sizeByte := by kernel_rfl
  neB5 := by decide
theorem fitR_srow {G : Gh} : ∀ {xs : List ByteArray} {vs : List Value}, FitR G 1 (srow xs) vs → vs = xs.map Value.string
  | [], _, h => h
  | x :: xs, _, ⟨v1, v2, h1, _, ⟨a, r, h2, h3, h4⟩, h5⟩ => by
    have h3' : a = Value.string x := h3
    have h4' : r = [] := h4
    subst h3' h4' h2
    rw [h1, fitR_srow h5]; rfl
theorem wjoin_ok (xs : List ByteArray) (sep : ByteArray) (hne : xs ≠ []) (hl : xs.length ≤ 140737488355328) (hb : (Lib.join (xs.map (·.data.toList)) sep.data.toList).length ≤ 281474976710656) :
    APure Tryz.prog 18 [.seq false 1 (srow xs), .lit (.string sep)] (fun r => r = .pv (.lit (.string (wjoin xs sep)))) :=
  ⟨by kernel_rfl, fun w vs hv => by
    obtain ⟨v1, r1, rfl, ⟨p, cap, rfl, hcap, h1⟩, v2, r2, rfl, h2, rfl⟩ := hv
    cases h2
    have hlen : (srow xs).length = xs.length := by simp [srow]
    rw [hlen] at hcap ⊢
    rcases h1 with h1 | ⟨c, off, arr, T, fz, us, rfl, hI, _, hR, hpre⟩
    · exact absurd (by simpa [srow] using h1) hne
    have hus := fitR_srow hR
    subst hus
    have hI' : w.heap[c]? = some (.cells arr T fz) := hI
    have hcs : c < w.heap.size := (Array.getElem?_eq_some_iff.1 hI').1
    refine (Any.strings_Join_48 Tryz.joinA Tryz.extraA c off cap xs sep w (fun j x hx => ?_) hcs hl hcap hb).mono ?_
    · obtain ⟨t, ht⟩ := hpre
      have e1 : (arr.toList.drop off)[j]? = some (Value.string x) := by
        rw [← ht, List.getElem?_append_left (by rw [List.length_map]; exact (List.getElem?_eq_some_iff.1 hx).1), List.getElem?_map, hx]
        rfl
      rw [List.getElem?_drop] at e1
      rw [cell_of hI', ← Array.getElem?_toList]
      exact e1
    rintro e w' ⟨rfl, hB⟩
    exact ⟨_, _, { snap w' with B := w.heap.size }, none, rfl, rfl, ⟨rfl, by rw [envOf, envOf, hB.os, hB.tape, hB.output], hB.block, hB.size, fun _ _ h => h⟩, ⟨rfl, rfl⟩, rfl, fun c h => by cases h⟩⟩
theorem digits_ok (i : Nat) (hi : i < 100) : APure Tryz.prog 17 [I64 i] (fun r => r = .pv (.lit (.string (digS i)))) := by
  refine apure1 hmo Tryz.func17 (by kernel_rfl) rfl rfl (by kernel_rfl) (Nat.le_of_ble_eq_true rfl) ?_
  simp
  refine CallK.intro (itoa_ok i hi) (by simp) ?_
  simp
end Go.AX
