/-
  AX, part DL: slices.Delete of numbers, from the library's contract: in place.
-/
import Derived.Test.YtklaffmpfmpffaaGreatAxSM
import Derived.Test.YtklaffmpfmpffaaGreatAxIs
import Derived.Shelf.SlicesG.Delete
namespace Go.AX
open Go.Proofs Go.Shelf Go.Sort

theorem deleteAt_in {P : Program} {ρ : Ren} (L : SlLaysN.n45 P ρ) (xs : List Int) (i j : Nat) (hij : i ≤ j) (hj : j ≤ xs.length) (hc : callable P (ρ.f 45) = true) :
    AWr P (ρ.f 45) xs xs.length [.lit (.int .i64 i), .lit (.int .i64 j)] (xs.take i ++ xs.drop j ++ List.replicate (j - i) 0) (xs.length - (j - i)) := by
  refine ⟨hc, fun w c cap arr T suf us h1 h2 h3 h4 h6 hvals => ?_⟩
  obtain ⟨v1, r1, rfl, e1, v2, r2, rfl, e2, e3⟩ := h6
  have e1' : v1 = .int .i64 i := e1
  have e2' : v2 = .int .i64 j := e2
  have e3' : r2 = [] := e3
  subst e1' e2' e3'
  have hcs : c < w.heap.size := (Array.getElem?_eq_some_iff.1 h1).1
  have hasz : arr.size = xs.length + suf.length := by
    rw [← Array.length_toList, h2]; simp only [List.length_append, List.length_map]
  have hH : Holds (Value.int .i64) w c 0 xs.toArray := by
    intro j hj
    have hj' : j < xs.length := by simpa using hj
    constructor
    · rw [cell_of h1, ← Array.getElem?_toList, h2, Nat.zero_add, List.getElem?_append_left (by simpa using hj'), List.getElem?_map, List.getElem?_eq_getElem hj']
      simp only [Option.map_some]
      rw [getElem!_pos xs.toArray j hj]; simp
    · simp [World.frozen?, h1]
  have hyl : (xs.take i ++ xs.drop j ++ List.replicate (j - i) 0).length = xs.length := by simp; omega
  have hcap : cap ≤ 9223372036854775807 := by unfold maxLen at h4; omega
  refine (AnyG.slices_Delete_int L c 0 cap i j xs w hH h3 hcap hij hj).mono fun e w' ⟨he, q, hw⟩ => ?_
  generalize xs.take i ++ xs.drop j ++ List.replicate (j - i) 0 = ys at *
  subst hw
  refine ⟨he, ?_, fun k hkc => ?_, ?_, rfl⟩
  · show (w.heap.modify c _)[c]? = _
    rw [Array.getElem?_modify, if_pos rfl, h1]
    simp only [Option.map_some, onCells, Option.some.injEq, Obj.cells.injEq, and_true]
    apply Array.ext'
    apply List.ext_getElem?
    intro k
    rw [Array.getElem?_toList]
    simp only [putCells, Array.getElem?_mapIdx]
    by_cases hk : k < arr.size
    · rw [Array.getElem?_eq_getElem hk]
      simp only [Option.map_some]
      have hk2 : arr.toList[k]? = some arr[k] := by rw [Array.getElem?_toList, Array.getElem?_eq_getElem hk]
      rw [h2] at hk2
      split
      · rename_i hr
        simp only [List.size_toArray] at hr
        have hb : k < ys.length := by omega
        rw [List.getElem?_append_left (by simp; omega)]
        simp only [List.getElem?_map]
        rw [List.getElem?_eq_getElem hb, getElem!_pos ys.toArray (k - 0) (by simpa using hb)]
        simp
      · rename_i hr
        simp only [List.size_toArray] at hr
        rw [List.getElem?_append_right (by simp; omega)] at hk2 ⊢
        rw [← hk2]
        simp [hyl]
    · rw [Array.getElem?_eq_none (by omega), List.getElem?_eq_none]
      · rfl
      · simp; omega
  · show (w.heap.modify c _)[k]? = _
    rw [Array.getElem?_modify, if_neg (Ne.symm hkc)]
  · show (w.heap.modify c _).size = _
    rw [Array.size_modify]
end Go.AX
