/-
  Contracts: slices.Compact of numbers.
-/
import Derived.Test.YthfhellfmbllhaaGreatS12AxTrA
namespace Go.AX
open Go.Proofs
set_option linter.unusedSimpArgs false
def compTo (zs : List Int) : Nat → List Int
  | 0 => []
  | j + 1 => if j = 0 ∨ zs.getD j 0 ≠ zs.getD (j - 1) 0 then compTo zs j ++ [zs.getD j 0] else compTo zs j
def compS (zs : List Int) : List Int := compTo zs zs.length
theorem compTo_len (zs : List Int) : ∀ j, (compTo zs j).length ≤ j
  | 0 => Nat.le_refl _
  | j + 1 => by
    have := compTo_len zs j
    rw [compTo]
    split
    · rw [List.length_append, List.length_singleton]; omega
    · omega
theorem compTo_pos (zs : List Int) : ∀ j, 0 < j → 0 < (compTo zs j).length
  | 0, h => by omega
  | 1, _ => by rw [compTo, if_pos (.inl rfl)]; simp
  | j + 2, _ => by
    have := compTo_pos zs (j + 1) (by omega)
    rw [compTo]
    split
    · rw [List.length_append]; omega
    · exact this
def cmpR (zs : List Int) (k : Option Nat) (rows : List (List PV)) : Prop := k = some (compS zs).length ∧ rows = intsB (compS zs ++ List.replicate (zs.length - (compS zs).length) 0)
theorem compact_ok (zs : List Int) (hl : zs.length ≤ 1000000) : AIn Tryz.prog 156 1 (intsB zs) [] (cmpR zs) := by
  refine AIn.ofInts (by kernel_rfl) trivial trivial (fun hne pre suf cp hcp hmx => ?_) (fun he q cp => ?_)
  · refine amut1 hmo Tryz.func156 (by kernel_rfl) rfl rfl (by kernel_rfl) (Nat.le_of_ble_eq_true rfl) ?_
    by_cases c2 : zs.length < 2
    · have c2' : (zs.length : Int) < 2 := by omega
      simp [c2, c2']
      have h1 : zs.length = 1 := by
        have := List.length_pos_iff.2 hne
        omega
      have h2 : compS zs = zs := by
        unfold compS; rw [h1, compTo, if_pos (.inl rfl), compTo, List.nil_append]
        match zs, h1 with
        | [x], _ => rfl
      exact ⟨some zs.length, zs, ⟨by rw [h2], by rw [h2]; simp⟩, rfl, fun m hm => by cases hm; exact Nat.le_refl _, rfl, rfl⟩
    have c2' : ¬ (zs.length : Int) < 2 := by omega
    simp [c2, c2']
    refine ALoop.intro (S := fun (k : Nat) => ⟨[(0, .pv (.bsl 0 1 pre.length zs.length cp)), (3, .pv (I64 k))], [blk pre zs suf]⟩) (fun k => 1 ≤ k ∧ k ≤ zs.length ∧ compTo zs k = zs.take k) (fun k => zs.length - k) 1 ?_ ⟨Nat.le_refl _, by omega, ?_⟩ ?_
    · exact Weak.to (by simp) rfl (by simp) (by simp) (by simp [blk_below])
    · rw [compTo, if_pos (.inl rfl), compTo, List.nil_append]
      match zs, hne with
      | x :: l, _ => rfl
    · rintro k ⟨h1, h2, h3⟩
      have hlen := blk_length pre zs suf
      by_cases ck : k < zs.length
      · have hw : w64 ((k : Int) + 1) = ((k + 1 : Nat) : Int) := by rw [w64_id (by omega) (by omega)]; omega
        have hw1 : w64 ((k : Int) - 1) = ((k - 1 : Nat) : Int) := by rw [w64_id (by omega) (by omega)]; omega
        have hg1 := blk_get pre zs suf (i := k) ck
        have hg2 := blk_get pre zs suf (i := k - 1) (by omega)
        have e1 : zs.getD k 0 = zs[k] := by simp [ck]
        have e2 : zs.getD (k - 1) 0 = zs[k - 1] := by simp [show k - 1 < zs.length by omega]
        have hct : compTo zs (k + 1) = if zs[k] ≠ zs[k - 1] then compTo zs k ++ [zs[k]] else compTo zs k := by
          rw [compTo, e1, e2]
          by_cases d : zs[k] ≠ zs[k - 1]
          · rw [if_pos (.inr d), if_pos d]
          · rw [if_neg (fun h => h.elim (by omega) d), if_neg d]
        simp [ck, hw1, hg1, hg2, hlen]
        refine ⟨by omega, by omega, by omega, fun d => ⟨⟨by omega, by omega⟩, ?_⟩, fun d => ⟨k + 1, by (try dsimp only); omega, ⟨by omega, by omega, ?_⟩, Weak.to (by simp [hw]) rfl (by simp) (by simp) (by simp [blk_below])⟩⟩
        rotate_left
        · rw [hct, if_pos d, h3, List.take_add_one, List.getElem?_eq_getElem ck]; rfl
        rw [if_neg (fun h => h d), h3] at hct
        refine ALoop.intro (S := fun (y : Nat × List Int) => ⟨[(0, .pv (.bsl 0 1 pre.length zs.length cp)), (3, .pv (I64 ((compTo zs (k + y.1)).length : Nat))), (4, .pv (.bsl 0 1 (pre.length + k) (zs.length - k) (cp - k))), (5, .pv (I64 y.1))], [blk pre y.2 suf]⟩)
          (fun y => 1 ≤ y.1 ∧ k + y.1 ≤ zs.length ∧ (compTo zs (k + y.1)).length < k + y.1 ∧ y.2.length = zs.length ∧ y.2.take (compTo zs (k + y.1)).length = compTo zs (k + y.1) ∧ y.2.drop (k + y.1 - 1) = zs.drop (k + y.1 - 1)) (fun y => zs.length - y.1) (1, zs) ?_ ?_ ?_
        · refine Weak.to ?_ rfl (by simp) (by simp) (by simp [blk_below])
          have : (compTo zs (k + 1)).length = k := by rw [hct, List.length_take]; omega
          simp [this]
        · have : (compTo zs (k + 1)).length = k := by rw [hct, List.length_take]; omega
          refine ⟨Nat.le_refl _, by dsimp only; omega, by dsimp only; omega, rfl, ?_, rfl⟩
          dsimp only
          rw [this, hct]
        · rintro ⟨j, cur⟩ ⟨i1, i2, i3, i4, i5, i6⟩
          dsimp only at i1 i2 i3 i4 i5 i6
          have hlen := blk_length pre cur suf
          by_cases cj : k + j < zs.length
          · have cj' : (j : Int) < ((zs.length - k : Nat) : Int) := by omega
            have hj1 : w64 ((j : Int) - 1) = ((j - 1 : Nat) : Int) := by rw [w64_id (by omega) (by omega)]; omega
            have hj2 : w64 ((j : Int) + 1) = ((j + 1 : Nat) : Int) := by rw [w64_id (by omega) (by omega)]; omega
            have hcur : ∀ i (h : i < zs.length), k + j - 1 ≤ i → cur[i]'(by omega) = zs[i] := by
              intro i h hi
              have := congrArg (fun l => l[i - (k + j - 1)]?) i6
              simp only [List.getElem?_drop] at this
              rw [show k + j - 1 + (i - (k + j - 1)) = i by omega, List.getElem?_eq_getElem (by omega), List.getElem?_eq_getElem h] at this
              exact Option.some.inj this
            have hg1 := blk_get pre cur suf (i := k + j) (by omega)
            have hg2 := blk_get pre cur suf (i := k + (j - 1)) (by omega)
            rw [hcur (k + j) cj (by omega), ← Nat.add_assoc] at hg1
            have e3 : cur[k + (j - 1)]'(by omega) = zs[k + (j - 1)] := hcur _ (by omega) (by omega)
            rw [e3, ← Nat.add_assoc] at hg2
            have e1 : zs.getD (k + j) 0 = zs[k + j] := by simp [cj]
            have e2 : zs.getD (k + j - 1) 0 = zs[k + (j - 1)] := by
              have : k + j - 1 = k + (j - 1) := by omega
              rw [this]; simp [show k + (j - 1) < zs.length by omega]
            have hcj : compTo zs (k + (j + 1)) = if zs[k + j] ≠ zs[k + (j - 1)] then compTo zs (k + j) ++ [zs[k + j]] else compTo zs (k + j) := by
              rw [← Nat.add_assoc, compTo, e1, e2]
              by_cases d : zs[k + j] ≠ zs[k + (j - 1)]
              · rw [if_pos (.inr d), if_pos d]
              · rw [if_neg (fun h => h.elim (by omega) d), if_neg d]
            have cj2 : j < zs.length - k := by omega
            have cj3 : j - 1 < zs.length - k := by omega
            simp [cj2, cj3, hj1, hg1, hg2, hlen]
            refine ⟨by omega, by omega, fun d => ?_, fun d => ?_⟩
            · rw [if_pos d] at hcj
              have hw2 : w64 (((compTo zs (k + j)).length : Int) + 1) = (((compTo zs (k + j)).length + 1 : Nat) : Int) := by rw [w64_id (by omega) (by omega)]; omega
              have hset := blk_set pre cur suf (i := (compTo zs (k + j)).length) zs[k + j] (by omega)
              refine ⟨by omega, by omega, by omega, (j + 1, cur.set (compTo zs (k + j)).length zs[k + j]), by (try dsimp only); omega, ⟨by (try dsimp only); omega, by (try dsimp only); omega, ?_, by (try dsimp only); rw [List.length_set]; exact i4, ?_, ?_⟩, Weak.to (by simp [hj2, hw2, hcj]) (by simp [hset]) (by simp) (by simp) (by simp [blk_below])⟩
              · dsimp only; rw [hcj, List.length_append, List.length_singleton]; omega
              · dsimp only
                rw [hcj, List.length_append, List.length_singleton, List.take_add_one, List.take_set_of_le (Nat.le_refl _), i5, List.getElem?_set_self (by omega)]
                rfl
              · dsimp only
                rw [List.drop_set_of_lt (by omega)]
                have := congrArg (List.drop 1) i6
                rw [List.drop_drop, List.drop_drop] at this
                rwa [show k + j - 1 + 1 = k + (j + 1) - 1 by omega] at this
            · rw [if_neg (fun h => h d)] at hcj
              exact ⟨(j + 1, cur), by (try dsimp only); omega, ⟨by (try dsimp only); omega, by (try dsimp only); omega, by (try dsimp only); rw [hcj]; omega, i4, by (try dsimp only); rw [hcj]; exact i5, by
                dsimp only
                have := congrArg (List.drop 1) i6
                rw [List.drop_drop, List.drop_drop] at this
                rwa [show k + j - 1 + 1 = k + (j + 1) - 1 by omega] at this⟩, Weak.to (by simp [hj2, hcj]) rfl (by simp) (by simp) (by simp [blk_below])⟩
          · have hj : k + j = zs.length := by omega
            have cj2 : ¬ j < zs.length - k := by omega
            rw [hj] at i3 i5
            have hpos := compTo_pos zs zs.length (by omega)
            have hfill := blk_fill pre cur suf (i := (compTo zs zs.length).length) (n := zs.length - (compTo zs zs.length).length) 0 (by omega)
            simp [cj2, hj, hlen]
            refine ⟨⟨by omega, by omega⟩, by omega, by omega, ⟨by omega, by omega⟩, some (compS zs).length, compS zs ++ List.replicate (zs.length - (compS zs).length) 0, ⟨rfl, rfl⟩, ?_, fun m hm => ?_, rfl, ?_⟩
            · unfold compS; simp; omega
            · cases hm; unfold compS; omega
            · unfold compS; rw [hfill, i5, List.drop_eq_nil_of_le (by omega), List.append_nil]
      · have : k = zs.length := by omega
        subst this
        simp
        rw [List.take_length] at h3
        exact ⟨some zs.length, zs, ⟨by unfold compS; rw [h3], by unfold compS; rw [h3]; simp⟩, rfl, fun m hm => by cases hm; exact Nat.le_refl _, rfl, rfl⟩
  · subst he
    refine apure1 hmo Tryz.func156 (by kernel_rfl) rfl rfl (by kernel_rfl) (Nat.le_of_ble_eq_true rfl) ?_
    simp
    exact ⟨some 0, ⟨rfl, rfl⟩, .inr rfl, rfl⟩
end Go.AX
