/-
  AX, part SM: slices.Sort of numbers, from the library's contract: a slice of numbers is put in order in place.
-/
import Derived.Test.YtklaffmpfmpffaaGreatAxBR
import Derived.Shelf.SortM.Plain
import Derived.Shelf.SortM.SortNone
namespace Go.AX
open Go.Proofs Go.Shelf Go.Sort

theorem sortInts_in {P : Program} {ρ : Ren} (L : SlLaysM.n5 P ρ) (xs : List Int) (hl : xs.length ≤ 1000000) (hc : callable P (ρ.f 5) = true) :
    AIn P (ρ.f 5) 1 (intsB xs) [] (fun k rows => k = none ∧ rows = intsB (xs.mergeSort fun x y => decide (x ≤ y))) := by
  refine ⟨hc, fun hne w c cap arr T pre vs suf us h1 h2 h3 h4 h5 h6 hvals => ?_, fun he w p cap us h1 => ?_⟩
  · have hvs := fitR_intsB_eq h5
    subst hvs
    have hu : us = [] := h6
    subst hu
    have hlen : (intsB xs).length = xs.length := by unfold intsB; simp
    rw [hlen] at h3 h4 ⊢
    have hcs : c < w.heap.size := (Array.getElem?_eq_some_iff.1 h1).1
    have hasz : arr.size = pre.length + xs.length + suf.length := by
      rw [← Array.length_toList, h2]; simp only [List.length_append, List.length_map]
    have hH : Holds (Value.int .i64) w c pre.length xs.toArray := by
      intro j hj
      have hj' : j < xs.length := by simpa using hj
      constructor
      · rw [cell_of h1, ← Array.getElem?_toList, h2, List.append_assoc, List.getElem?_append_right (by omega), Nat.add_sub_cancel_left, List.getElem?_append_left (by simpa using hj'), List.getElem?_map, List.getElem?_eq_getElem hj']
        simp only [Option.map_some]
        rw [getElem!_pos xs.toArray j hj]; simp
      · simp [World.frozen?, h1]
    refine (AnyM.slices_Sort_int L c pre.length cap xs w hH hcs (by omega)).mono fun e w' ⟨he, n, os, hw⟩ => ?_
    subst hw
    refine ⟨none, intsB (xs.mergeSort fun x y => decide (x ≤ y)), (xs.mergeSort fun x y => decide (x ≤ y)).map (Value.int .i64), ⟨rfl, rfl⟩, by unfold intsB; simp, fun m hm => (by cases hm), he, rfl, ?_, fun k hk hkc => ?_, ⟨T, ?_⟩, fun G _ => fitR_intsB G _⟩
    · show w.heap.size ≤ (w.heap.modify c _ ++ os).size
      rw [Array.size_append, Array.size_modify]; omega
    · show (w.heap.modify c _ ++ os)[k]? = _
      rw [Array.getElem?_append_left (by rw [Array.size_modify]; exact hk), Array.getElem?_modify, if_neg (Ne.symm hkc)]
    · show (w.heap.modify c _ ++ os)[c]? = _
      rw [Array.getElem?_append_left (by rw [Array.size_modify]; exact hcs), Array.getElem?_modify, if_pos rfl, h1]
      simp only [Option.map_some, onCells, Option.some.injEq, Obj.cells.injEq, and_true]
      apply Array.ext'
      apply List.ext_getElem?
      intro k
      rw [Array.getElem?_toList]
      simp only [putCells, Array.getElem?_mapIdx]
      by_cases hk : k < arr.size
      · rw [Array.getElem?_eq_getElem hk]
        simp only [Option.map_some]
        have hk2 : arr.toList[k]? = some arr[k] := by rw [Array.getElem?_toList, Array.getElem?_eq_getElem hk]
        rw [h2, List.append_assoc] at hk2
        rw [List.append_assoc]
        split
        · rename_i hr
          simp only [List.size_toArray, List.length_mergeSort] at hr
          rw [List.getElem?_append_right hr.1, List.getElem?_append_left (by simp; omega)]
          simp only [List.getElem?_map]
          have hb : k - pre.length < (xs.mergeSort fun x y => decide (x ≤ y)).length := by rw [List.length_mergeSort]; omega
          rw [List.getElem?_eq_getElem hb, getElem!_pos (xs.mergeSort fun x y => decide (x ≤ y)).toArray (k - pre.length) (by simpa using hb)]
          simp
        · rename_i hr
          simp only [List.size_toArray, List.length_mergeSort] at hr
          by_cases hp : k < pre.length
          · rw [List.getElem?_append_left hp] at hk2 ⊢; exact hk2.symm
          · rw [List.getElem?_append_right (by omega), List.getElem?_append_right (by simp; omega)] at hk2 ⊢
            rw [← hk2]
            simp
      · rw [Array.getElem?_eq_none (by omega), List.getElem?_eq_none]
        · rfl
        · simp; omega
  · have hz : xs = [] := by
      cases xs with
      | nil => rfl
      | cons _ _ => unfold intsB at he; simp at he
    subst hz
    have hu : us = [] := h1
    subst hu
    refine (AnyM.slices_Sort_int_none (P := P) (ρ := ρ) L p cap w).mono fun e w' ⟨h2, h3⟩ => ?_
    subst h3
    exact ⟨none, ⟨rfl, by simp [intsB]⟩, .inl rfl, h2, rfl, Nat.le_refl _, fun _ _ => rfl⟩

end Go.AX
