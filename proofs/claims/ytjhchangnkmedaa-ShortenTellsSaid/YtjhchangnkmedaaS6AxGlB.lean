/-
  Contracts: slices.DeleteFunc of rows.
-/
import Derived.Test.YtjhchangnkmedaaS6AxGlP
import Derived.Test.YtjhchangnkmedaaAxBe
namespace Go.AX
open Go.Proofs
set_option linter.unusedSimpArgs false

def dlS (p : Gr → Bool) (l : List Gr) : List Gr := l.filter fun x => !p x
theorem dlS_len (p : Gr → Bool) (l : List Gr) : (dlS p l).length ≤ l.length := List.length_filter_le _ _
theorem dlS_take (p : Gr → Bool) (l : List Gr) {j : Nat} (h : j < l.length) : dlS p (l.take (j + 1)) = if p l[j] = true then dlS p (l.take j) else dlS p (l.take j) ++ [l[j]] := by
  unfold dlS
  rw [List.take_add_one, List.getElem?_eq_getElem h, Option.toList_some, List.filter_append]
  simp only [List.filter_cons, List.filter_nil]
  cases p l[j] <;> simp
theorem dlS_take_len (p : Gr → Bool) (l : List Gr) (j : Nat) : (dlS p (l.take j)).length ≤ j := Nat.le_trans (dlS_len p _) (by rw [List.length_take]; omega)
theorem dlS_none (p : Gr → Bool) (l : List Gr) (h : ∀ x ∈ l, p x = false) : dlS p l = l := List.filter_eq_self.2 fun x hx => by rw [h x hx]; rfl
def gr0 : Gr := ⟨0, 0, 0, false⟩
def dlR (p : Gr → Bool) (zs : List Gr) (k : Option Nat) (rows : List (List PV)) : Prop := k = some (dlS p zs).length ∧ rows = rowsB grE (dlS p zs ++ List.replicate (zs.length - (dlS p zs).length) gr0)
def blkG (pre : List Value) (zs : List Gr) (suf : List Value) : List SV := blkV pre (zs.flatMap grE) suf
theorem grE_len (x : Gr) : (grE x).length = 4 := rfl
theorem grE_one (x : Gr) (v : Value) (h : v ∈ grE x) : v.oneCell' = true := by
  simp [grE] at h; rcases h with rfl | rfl | rfl | rfl <;> rfl
theorem flatG_len (zs : List Gr) : (zs.flatMap grE).length = zs.length * 4 := flatMap_len grE_len zs
theorem blkG_length (pre : List Value) (zs : List Gr) (suf : List Value) : (blkG pre zs suf).length = pre.length + zs.length * 4 + suf.length := by
  unfold blkG; rw [blkV_length, flatG_len]
theorem blkG_get4 (pre : List Value) (zs : List Gr) (suf : List Value) {i : Nat} (h : i < zs.length) : List.take 4 (List.drop (pre.length + i * 4) (blkG pre zs suf)) = (grE zs[i]).map fun v => SV.pv (.lit v) := by
  unfold blkG blkV
  have e1 : pre.length = (pre.map (fun v => SV.pv (PV.lit v))).length := by simp
  rw [e1, List.drop_length_add_append]
  have hf := flatG_len zs
  rw [List.drop_append_of_le_length (by rw [List.length_map, hf]; omega), List.take_append_of_le_length (by rw [List.length_drop, List.length_map, hf]; omega), ← List.map_drop, ← List.map_take]
  congr 1
  apply List.ext_getElem?
  intro t
  rw [List.getElem?_take]
  split
  · rename_i ht
    rw [List.getElem?_drop, flatMap_get grE_len (by omega)]
    have a1 : (i * 4 + t) / 4 = i := by omega
    have a2 : (i * 4 + t) % 4 = t := by omega
    rw [a1, a2, List.getElem?_eq_getElem h]; rfl
  · rename_i ht
    rw [List.getElem?_eq_none]; rw [grE_len]; omega
theorem blkG_cell (pre : List Value) (zs : List Gr) (suf : List Value) {i t : Nat} (h : i < zs.length) (ht : t < 4) : (blkG pre zs suf)[pre.length + i * 4 + t]? = ((grE zs[i])[t]?).map fun v => SV.pv (.lit v) := by
  have := congrArg (fun l => l[t]?) (blkG_get4 pre zs suf h)
  simp only [List.getElem?_take, if_pos ht, List.getElem?_drop, List.getElem?_map] at this
  exact this
theorem blkG_pv (pre : List Value) (zs : List Gr) (suf : List Value) {i : Nat} (h : i < zs.length) : List.take 4 (List.drop (pre.length + i * 4) (List.map toPv (blkG pre zs suf))) = grR zs[i] := by
  rw [← List.map_drop, ← List.map_take, blkG_get4 pre zs suf h]; rfl
theorem indexGB_ok (pre suf : List Value) (zs : List Gr) (cp : Nat) (hl : zs.length ≤ 1000000) (g : Nat) (p : Gr → Bool)
    (h : ∀ x, APure Try.prog g [.agg (grR x)] (fun r => r = .pv (BL (p x)))) : AMut Try.prog 94 [.bsl 0 4 pre.length zs.length cp, .fn (.func g) [] []] [blkG pre zs suf] (fun r h' => h' = [blkG pre zs suf] ∧ r = .pv (I64 (idxS p zs))) := by
  refine amutXP [] [.tmp 4] hmo Try.func94 (by kernel_rfl) rfl rfl (by kernel_rfl) (Nat.le_of_ble_eq_true rfl) ?_
  simp
  refine ALoop.intro (S := fun (i : Nat) => ⟨[(0, .pv (.bsl 0 4 pre.length zs.length cp)), (1, .pv (.fn (.func g) [] [])), (7, .pv (I64 zs.length)), (8, .pv (I64 i))], [blkG pre zs suf]⟩) (fun i => i ≤ zs.length ∧ ∀ j (hj : j < zs.length), j < i → p zs[j] = false) (fun i => zs.length - i) 0 ?_ ⟨Nat.zero_le _, fun j _ h => by omega⟩ ?_
  · exact Weak.keep (by simp) (by simp)
  · intro i ⟨hi, ho⟩
    by_cases c : i < zs.length
    · have hw : w64 ((i : Int) + 1) = ((i + 1 : Nat) : Int) := by rw [w64_id (by omega) (by omega)]; omega
      have hx := h zs[i]
      have hg0 := blkG_cell pre zs suf c (t := 0) (by omega)
      have hg1 := blkG_cell pre zs suf c (t := 1) (by omega)
      have hg2 := blkG_cell pre zs suf c (t := 2) (by omega)
      have hg3 := blkG_cell pre zs suf c (t := 3) (by omega)
      have hlen := blkG_length pre zs suf
      have hg4 := blkG_get4 pre zs suf c
      have hg5 := blkG_pv pre zs suf c
      simp [grE] at hg0 hg1 hg2 hg3 hg4
      simp [c, hg0, hg1, hg2, hg3, hg4, hg5, hlen, grR]
      refine ⟨by omega, ?_⟩
      simp only [grR] at hx
      refine CallK.intro hx (by simp) ?_
      cases hpx : p zs[i]
      · simp
        refine ⟨i + 1, by dsimp only; omega, ⟨by omega, fun j hj hji => ?_⟩, Weak.keep (by simp [hw]) (by simp)⟩
        by_cases e : j = i
        · subst e; exact hpx
        · exact ho j hj (by omega)
      · simp
        rw [idxS_at c ho hpx]
    · simp [c]
      rw [idxS_none (fun j hj => ho j hj (by omega))]
theorem blkG_splice (pre : List Value) (zs : List Gr) (suf : List Value) {i n : Nat} {ys : List Gr} (hn : ys.length = n) (h : i + n ≤ zs.length) :
    List.take (pre.length + i * 4) (blkG pre zs suf) ++ ((ys.flatMap grE).map (fun v => SV.pv (.lit v)) ++ List.drop (pre.length + i * 4 + n * 4) (blkG pre zs suf)) = blkG pre (zs.take i ++ ys ++ zs.drop (i + n)) suf := by
  subst hn
  unfold blkG
  have := blkV_splice pre (zs.flatMap grE) suf (i := i * 4) (ys := ys.flatMap grE) (by rw [flatG_len, flatG_len]; omega)
  rw [flatG_len] at this
  rw [this]
  congr 1
  rw [List.flatMap_append, List.flatMap_append]
  have ht : ∀ k, (zs.flatMap grE).take (k * 4) = (zs.take k).flatMap grE := fun k => by
    apply List.ext_getElem?
    intro t
    rw [List.getElem?_take, flatMap_get grE_len (by omega), flatMap_get grE_len (by omega), List.getElem?_take]
    by_cases c : t < k * 4
    · rw [if_pos c, if_pos (by omega)]
    · rw [if_neg c, if_neg (by omega)]; rfl
  have hd : ∀ k, (zs.flatMap grE).drop (k * 4) = (zs.drop k).flatMap grE := fun k => by
    apply List.ext_getElem?
    intro t
    rw [List.getElem?_drop, flatMap_get grE_len (by omega), flatMap_get grE_len (by omega), List.getElem?_drop]
    have a1 : (k * 4 + t) / 4 = k + t / 4 := by omega
    have a2 : (k * 4 + t) % 4 = t % 4 := by omega
    rw [a1, a2]
  rw [ht, show i * 4 + ys.length * 4 = (i + ys.length) * 4 by omega, hd]
theorem blkG_set (pre : List Value) (zs : List Gr) (suf : List Value) {i : Nat} (y : Gr) (h : i < zs.length) :
    List.take (pre.length + i * 4) (blkG pre zs suf) ++ ((grR y).map SV.pv ++ List.drop (pre.length + i * 4 + 4) (blkG pre zs suf)) = blkG pre (zs.set i y) suf := by
  have := blkG_splice pre zs suf (i := i) (n := 1) (ys := [y]) rfl (by omega)
  simp only [List.flatMap_cons, List.flatMap_nil, List.append_nil, Nat.one_mul] at this
  rw [show (grR y).map SV.pv = (grE y).map (fun v => SV.pv (.lit v)) from rfl, this]
  congr 1
  rw [List.set_eq_take_append_cons_drop, if_pos h]
  simp
theorem blkG_below (k : Nat) (pre : List Value) (zs : List Gr) (suf : List Value) : belowC k (blkG pre zs suf) := blkV_below k pre _ suf
set_option maxRecDepth 8000 in
theorem deleteG_ok (zs : List Gr) (hl : zs.length ≤ 1000000) (g : Nat) (p : Gr → Bool)
    (h : ∀ x, APure Try.prog g [.agg (grR x)] (fun r => r = .pv (BL (p x)))) : AIn Try.prog 61 4 (rowsB grE zs) [.fn (.func g) [] []] (dlR p zs) := by
  have hI := indexG_ok zs hl g p h
  refine AIn.ofRows grE_len grE_one (by kernel_rfl) ⟨⟨trivial, trivial⟩, trivial⟩ ⟨⟨trivial, trivial⟩, trivial⟩ (fun hne pre suf cp hcp hmx => ?_) (fun he q cp => ?_)
  · refine amut1 hmo Try.func61 (by kernel_rfl) rfl rfl (by kernel_rfl) (Nat.le_of_ble_eq_true rfl) ?_
    have hIB := indexGB_ok pre suf zs cp hl g p h
    simp
    refine CallB.intro hIB (by simp) ?_
    rintro _ _ ⟨rfl, rfl⟩
    by_cases c : ∃ i, ∃ h : i < zs.length, p zs[i] = true ∧ ∀ j (hj : j < zs.length), j < i → p zs[j] = false
    rotate_left
    · have hno : ∀ j (hj : j < zs.length), p zs[j] = false := by
        intro j
        induction j using Nat.strongRecOn with
        | ind j ih =>
          intro hj
          cases e : p zs[j]
          · rfl
          · exact absurd ⟨j, hj, e, fun k hk hkj => ih k hkj hk⟩ c
      have hd := dlS_none p zs fun x hx => by
        obtain ⟨j, hj, rfl⟩ := List.getElem_of_mem hx
        exact hno j hj
      rw [idxS_none hno]
      simp
      exact ⟨some zs.length, zs, ⟨by rw [hd], by rw [hd]; simp⟩, rfl, fun m hm => by cases hm; exact Nat.le_refl _, rfl, rfl⟩
    obtain ⟨i0, hi0, hpi, hno⟩ := c
    rw [idxS_at hi0 hno hpi]
    have hw0 : w64 ((i0 : Int) + 1) = ((i0 + 1 : Nat) : Int) := by rw [w64_id (by omega) (by omega)]; omega
    have hd0 : dlS p (zs.take i0) = zs.take i0 := dlS_none p _ fun x hx => by
      obtain ⟨j, hj, rfl⟩ := List.getElem_of_mem hx
      rw [List.length_take] at hj
      rw [List.getElem_take]; exact hno j (by omega) (by omega)
    simp
    refine ALoop.intro (S := fun (y : Nat × List Gr) => ⟨[(0, .pv (.bsl 0 4 pre.length zs.length cp)), (1, .pv (.fn (.func g) [] [])), (5, .pv (I64 ((dlS p (zs.take y.1)).length : Nat))), (6, .pv (I64 y.1))], [blkG pre y.2 suf]⟩)
      (fun y => y.1 ≤ zs.length ∧ (dlS p (zs.take y.1)).length < y.1 ∧ y.2.length = zs.length ∧ y.2.take (dlS p (zs.take y.1)).length = dlS p (zs.take y.1) ∧ y.2.drop y.1 = zs.drop y.1) (fun y => zs.length - y.1) (i0 + 1, zs) ?_ ?_ ?_
    · refine Weak.keep ?_ rfl
      have : (dlS p (zs.take (i0 + 1))).length = i0 := by rw [dlS_take p zs hi0, if_pos hpi, hd0, List.length_take]; omega
      simp [hw0, this]
    · have : dlS p (zs.take (i0 + 1)) = zs.take i0 := by rw [dlS_take p zs hi0, if_pos hpi, hd0]
      refine ⟨by dsimp only; omega, ?_, rfl, ?_, rfl⟩
      · dsimp only; rw [this, List.length_take]; omega
      · dsimp only; rw [this, List.length_take]; congr 1; omega
    · rintro ⟨j, cur⟩ ⟨h1, h2, h3, h4, h5⟩
      dsimp only at h1 h2 h3 h4 h5
      by_cases cj : j < zs.length
      · have hw : w64 ((j : Int) + 1) = ((j + 1 : Nat) : Int) := by rw [w64_id (by omega) (by omega)]; omega
        have hcj : cur[j]'(by omega) = zs[j] := by
          have := congrArg (fun l => l[0]?) h5
          simp only [List.getElem?_drop, Nat.add_zero] at this
          rw [List.getElem?_eq_getElem (by omega), List.getElem?_eq_getElem cj] at this
          exact Option.some.inj this
        have hjc : j < cur.length := by omega
        have hg0 := blkG_cell pre cur suf hjc (t := 0) (by omega)
        have hg1 := blkG_cell pre cur suf hjc (t := 1) (by omega)
        have hg2 := blkG_cell pre cur suf hjc (t := 2) (by omega)
        have hg3 := blkG_cell pre cur suf hjc (t := 3) (by omega)
        have hg4 := blkG_get4 pre cur suf hjc
        have hg5 := blkG_pv pre cur suf hjc
        rw [hcj] at hg0 hg1 hg2 hg3 hg4 hg5
        simp [grE] at hg0 hg1 hg2 hg3 hg4
        have hlen := blkG_length pre cur suf
        have hx := h zs[j]
        simp only [grR] at hx
        have hst := dlS_take p zs cj
        simp [cj, hg0, hg1, hg2, hg3, hg4, hg5, hlen, grR]
        refine ⟨by omega, CallK.intro hx (by simp) ?_⟩
        cases hpx : p zs[j]
        · rw [hpx] at hst
          simp only [Bool.false_eq_true, if_false] at hst
          have hw2 : w64 (((dlS p (zs.take j)).length : Int) + 1) = (((dlS p (zs.take j)).length + 1 : Nat) : Int) := by rw [w64_id (by omega) (by omega)]; omega
          have hset := blkG_set pre cur suf (i := (dlS p (zs.take j)).length) zs[j] (by omega)
          simp only [grR, List.map_cons, List.map_nil, List.cons_append, List.nil_append] at hset
          simp [hlen]
          refine ⟨by omega, by omega, (j + 1, cur.set (dlS p (zs.take j)).length zs[j]), by (try dsimp only); omega, ⟨by (try dsimp only); omega, ?_, by (try dsimp only); rw [List.length_set]; exact h3, ?_, ?_⟩, Weak.to ?_ (by simp [hset]) (by simp) (by simp) (by simp [blkG_below])⟩
          · dsimp only; rw [hst, List.length_append, List.length_singleton]; omega
          · dsimp only
            rw [hst, List.length_append, List.length_singleton, List.take_add_one, List.take_set_of_le (Nat.le_refl _), h4, List.getElem?_set_self (by omega)]
            rfl
          · dsimp only
            rw [List.drop_set_of_lt (by omega)]
            have := congrArg (List.drop 1) h5
            rwa [List.drop_drop, List.drop_drop] at this
          · simp [hw, hw2, hst]
        · rw [hpx] at hst
          simp only [if_true] at hst
          simp
          refine ⟨(j + 1, cur), by (try dsimp only); omega, ⟨by (try dsimp only); omega, by dsimp only; rw [hst]; omega, h3, by dsimp only; rw [hst]; exact h4, ?_⟩, Weak.to (by simp [hw, hst]) rfl (by simp) (by simp) (by simp [blkG_below])⟩
          dsimp only
          have := congrArg (List.drop 1) h5
          rwa [List.drop_drop, List.drop_drop] at this
      · have : j = zs.length := by omega
        subst this
        rw [List.take_length] at h2 h4
        have hlen := blkG_length pre cur suf
        have hfill := blkG_splice pre cur suf (i := (dlS p zs).length) (n := zs.length - (dlS p zs).length) (ys := List.replicate (zs.length - (dlS p zs).length) gr0) (by simp) (by omega)
        have hfl : ((List.replicate (zs.length - (dlS p zs).length) gr0).flatMap grE).map (fun v => SV.pv (.lit v)) = (List.replicate (zs.length - (dlS p zs).length) [SV.pv (PV.lit (Value.int IntKind.i64 0)), SV.pv (PV.lit (Value.int IntKind.i64 0)), SV.pv (PV.lit (Value.int IntKind.i64 0)), SV.pv (PV.lit (Value.bool false))]).flatten := by
          rw [List.flatMap_def, List.map_flatten, List.map_replicate, List.map_replicate]; rfl
        rw [hfl] at hfill
        simp [h3]
        refine ⟨⟨by omega, by omega⟩, by omega, by omega, ⟨by omega, by omega⟩, some (dlS p zs).length, dlS p zs ++ List.replicate (zs.length - (dlS p zs).length) gr0, ⟨rfl, rfl⟩, by simp; omega, fun m hm => by cases hm; omega, rfl, ?_⟩
        rw [hfill, h4, List.drop_eq_nil_of_le (by omega), List.append_nil]
        rfl
  · subst he
    refine apure1 hmo Try.func61 (by kernel_rfl) rfl rfl (by kernel_rfl) (Nat.le_of_ble_eq_true rfl) ?_
    simp
    refine CallK.intro (hI.conv ⟨_, _, rfl, fun w v hv => ⟨q, cp, hv, Nat.zero_le _, .inl rfl⟩, _, _, rfl, PV.as.refl _, rfl⟩) (by simp) ?_
    rw [idxS_none (fun j hj => by simp at hj)]
    simp
    exact ⟨some 0, ⟨rfl, rfl⟩, .inr rfl, rfl⟩
end Go.AX
