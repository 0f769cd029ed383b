/-
  Contracts: trails that grow.
  Contracts: the document's trails: what only reads.
-/
import Derived.Test.YthfhellfmbllhaaGreatS12AxTrA
import Derived.Test.YthfhellfmbllhaaGreatAxBe
namespace Go.AX
open Go.Proofs
set_option linter.unusedSimpArgs false
theorem belowH_setT {k : Nat} {x : List SV} (hx : belowC k x) : ∀ (b : Nat) {h : List (List SV)}, belowH k h → belowH k (h.set b x)
  | _, [], _ => trivial
  | 0, _ :: _, hh => ⟨hx, hh.2⟩
  | b + 1, _ :: _, hh => ⟨hh.1, belowH_setT hx b hh.2⟩
end Go.AX

namespace Go.AX
open Go.Proofs
set_option linter.unusedSimpArgs false
structure En where
  l : Int
  lev : Int
  rea : Int
instance : Inhabited En := ⟨⟨0, 0, 0⟩⟩
structure RT where
  vars : Int
  rows : List En
  dep : Int
def enR (x : En) : List PV := [I64 x.l, I64 x.lev, I64 x.rea]
@[simp] theorem belowR_enR (k : Nat) (l : List En) : belowR k (l.map enR) := by
  induction l with
  | nil => trivial
  | cons x xs ih => exact ⟨⟨trivial, trivial, trivial, trivial⟩, ih⟩
@[simp] theorem nwR_enR (l : List En) : nwR (l.map enR) := by
  rw [nwR_iff]; intro r hr
  obtain ⟨x, _, rfl⟩ := List.mem_map.1 hr
  simp [enR]
@[simp] theorem frzR_enR (r : Nat → Nat → PV) (l : List En) : frzR r (l.map enR) = l.map enR := by
  rw [frzR_map, List.map_map]; congr 1
def plR (t : RT) (v : Int) : Int := idxS (fun x : En => decide (litV x.l = v)) t.rows
theorem plR_in {t : RT} {v : Int} (h : 0 ≤ plR t v) : ∃ i : Nat, ∃ hi : i < t.rows.length, plR t v = i ∧ litV t.rows[i].l = v := by
  unfold plR idxS at *
  split at h
  · rename_i i hf
    rw [List.findIdx?_eq_some_iff_getElem] at hf
    obtain ⟨h1, h2, _⟩ := hf
    exact ⟨i, h1, rfl, by simpa using h2⟩
  · omega
def mayR (t : RT) (l : Int) : Int := if litChk l t.vars ≠ 0 then 10 else if 0 ≤ plR t (litV l) then 21 else 0
def ofR (t : RT) (v : Int) : Int × Int := if plR t v < 0 then (-1, -1) else ((t.rows.getD (plR t v).toNat default).lev, (t.rows.getD (plR t v).toNat default).rea)
end Go.AX
