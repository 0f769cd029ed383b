/-
  Contracts: lrat.Checker: its numbers; what is dropped.
-/
import Derived.Test.YthfhellfmbllhaaGreatS12AxTmO
import Derived.Test.YthfhellfmbllhaaGreatAxBe
namespace Go.AX
open Go.Proofs
set_option linter.unusedSimpArgs false
theorem cmadeP_ok (c : Ck) : APure Tryz.prog 120 [ckP c] (fun r => r = .pv (BL true)) := by
  refine apure1 hmo Tryz.func120 (by kernel_rfl) rfl rfl (by kernel_rfl) (Nat.le_of_ble_eq_true rfl) ?_
  simp
def idsS (c : Ck) : List Int := sortZ (c.m.map (·.1))
set_option maxRecDepth 16000 in
theorem cids_ok (c : Ck) (hw : ∀ q ∈ c.m, wfI q.1) (hl : c.m.length ≤ 1000000) : APure Tryz.prog 194 [ckP c] (fun r => r = .own true 1 (irow (idsS c))) := by
  refine apure1 hmo Tryz.func194 (by kernel_rfl) rfl rfl (by kernel_rfl) (Nat.le_of_ble_eq_true rfl) ?_
  have hm := cmadeP_ok c
  have hk := fun h => keysN_ok h (mapE fD c.m)
  have hs := sortedB_ok fD c.m hw hl
  simp [frzP]
  refine CallK.intro hm (by simp) ?_
  simp
  refine CallK.introM (hk _) (by simp) ?_
  rintro _ _ ⟨rfl, rfl⟩
  simp
  refine CallK.introX (CallX.ptr1 (b := 0) (y0 := .amap false (mapE fD c.m)) hs (by simp) (by simp) rfl (by simp) (by simp) (by simp) (by simp) (by simp) ?_)
  simp [idsS, irow]
def dl {α : Type} : List (Int × α) → Int → List (Int × α)
  | [], _ => []
  | (k, x) :: r, n => if k = n then r else (k, x) :: dl r n
@[simp] theorem del_fC : ∀ (l : List (Int × List Int)) (k : Int), amDel k (mapE fC l) = mapE fC (dl l k)
  | [], k => rfl
  | (j, x) :: l, k => by
    show (if j = k then mapE fC l else (j, fC x) :: amDel k (mapE fC l)) = mapE fC (if j = k then l else (j, x) :: dl l k)
    rw [del_fC l k]
    split <;> rfl
def dropB (c : Ck) (ids : List Int) : Bool := decide ((compS (sortZ ids)).length < ids.length) || !thereS c ids
def dropTo (c : Ck) (ids : List Int) (i : Nat) : Ck := ⟨(ids.take i).foldl dl c.m, c.last, c.done⟩
def dropC (c : Ck) (ids : List Int) : Ck := if dropB c ids = true then c else dropTo c ids ids.length
def dropE (c : Ck) (ids : List Int) : Int := if dropB c ids = true then 20 else 0
set_option maxRecDepth 16000 in
theorem cdrop_ok (h : List (List SV)) (b : Nat) (c : Ck) (hb : h[b]? = some (ckB c)) (ids : List Int) (hl : ids.length ≤ 1000000) :
    AMut Tryz.prog 122 [.ptr b 0, .seq false 1 (irow ids)] h (fun r h' => h' = h.set b (ckB (dropC c ids)) ∧ r = .pv (I64 (dropE c ids))) := by
  refine amutXD [] [.tmp 4] (h.set b (ckB (dropC c ids))) (by simp) (fun hh => by rw [List.length_set]; exact belowH_setT (belowC_ckB _ _) b hh) hmo Tryz.func122 (by kernel_rfl) rfl rfl (by kernel_rfl) (Nat.le_of_ble_eq_true rfl) ?_
  obtain ⟨hlt, hb'⟩ := List.getElem?_eq_some_iff.1 hb
  have hv := fun h => valsN_ok h ids
  have hs := sortedL_ok ids hl
  have hsl : (sortZ ids).length = ids.length := by unfold sortZ; rw [List.length_mergeSort]
  have hC := compact_ok (sortZ ids) (by omega)
  have hT := there_ok c ids hl
  have hcl := compTo_len (sortZ ids) (sortZ ids).length
  simp
  refine CallK.introM (hv _) (by simp) ?_
  rintro _ _ ⟨rfl, rfl⟩
  simp
  refine CallK.introX (CallX.ptr1 (b := h.length) (y0 := .seq false 1 (irow ids)) hs (by simp) (by simp) rfl (by simp) (by simp) (by simp) (by simp) (by simp) ?_)
  simp
  refine CallK.introX (CallX.introS (o := .slot 10) (lo := 0) (hi := ids.length) hC (by simp) rfl rfl (by simp [hsl]) (by simp) rfl (by simp; rw [List.take_of_length_le (by simp [irow, hsl])]; rfl) (belowR_intsB 0 _) (by simp) (by simp) ?_)
  rintro _ _ ⟨rfl, rfl⟩ hlen _
  have hdB : dropB c ids = (decide ((compS (sortZ ids)).length < ids.length) || !thereS c ids) := rfl
  have hcl' : (compS (sortZ ids)).length ≤ ids.length := by rw [← hsl]; exact hcl
  have hDC : dropC c ids = if dropB c ids = true then c else dropTo c ids ids.length := rfl
  have hDE : dropE c ids = if dropB c ids = true then 20 else 0 := rfl
  generalize dropC c ids = DC at *
  generalize dropE c ids = DE at *
  generalize hZ : intsB (compS (sortZ ids) ++ List.replicate ((sortZ ids).length - (compS (sortZ ids)).length) 0) = Z at hlen
  clear hZ
  generalize (compS (sortZ ids)).length = m at *
  have hlen' : Z.length = ids.length := hlen
  have hmin : min m ids.length = m := Nat.min_eq_left hcl'
  have hbb : ∀ X : List (List SV), (h ++ X)[b]? = some (ckB c) := fun X => by rw [List.getElem?_append_left hlt]; exact hb
  have hltX : ∀ X : List (List SV), b < (h ++ X).length := fun X => by rw [List.length_append]; omega
  have hset : h.set b (ckB c) = h := by rw [← hb']; exact List.set_getElem_self hlt
  by_cases c1 : m < ids.length
  · have hB : dropB c ids = true := by rw [hdB]; simp [c1]
    rw [if_pos hB] at hDC hDE
    subst hDC hDE
    have c1' : (m : Int) < (ids.length : Int) := by omega
    simp [hlen', hsl, hmin, c1, c1']
    exact hset.symm
  have c1' : ¬ (m : Int) < (ids.length : Int) := by omega
  have hfz : ∀ X : List (List SV), frzP (h ++ X) 3 b 0 = ckP c := fun X => frz_ck (hbb X) 2
  simp [hlen', hsl, hmin, c1, c1', hfz]
  refine CallB.introP hT (by simp) (by simp) ?_
  by_cases c2 : thereS c ids = true
  rotate_left
  · have hB : dropB c ids = true := by rw [hdB]; simp [c2]
    rw [if_pos hB] at hDC hDE
    subst hDC hDE
    simp [c2]
    exact hset.symm
  have hB : ¬ dropB c ids = true := by rw [hdB]; simp [c1, c2]
  rw [if_neg hB] at hDC hDE
  subst hDC hDE
  simp [c2]
  obtain ⟨G, hG⟩ : ∃ G : Nat → List (List SV), ∀ i, G i = h.set b (ckB (dropTo c ids i)) ++ [[.pv (.seq false 1 (irow ids))]] := ⟨_, fun _ => rfl⟩
  have hG0 : h ++ [[.pv (.seq false 1 (irow ids))]] = G 0 := by
    rw [hG]
    show _ = h.set b (ckB c) ++ _
    rw [hset]
  have hGl : ∀ i, b < (G i).length := fun i => by rw [hG]; simp; omega
  have hGb : ∀ i, (G i)[b]? = some [.omap true (mapE fC (dropTo c ids i).m), .pv (I64 c.last), .pv (BL c.done)] := fun i => by
    rw [hG, List.getElem?_append_left (by simpa using hlt), List.getElem?_set_self hlt]
    rfl
  have hGs : ∀ i, i < ids.length → (G i).set b [.omap true (mapE fC (dl (dropTo c ids i).m (ids.getD i 0))), .pv (I64 c.last), .pv (BL c.done)] = G (i + 1) := fun i hi => by
    have hds : (dropTo c ids (i + 1)).m = dl (dropTo c ids i).m ids[i] := foldl_take_succ dl c.m ids i hi
    have hgd : ids.getD i 0 = ids[i] := by rw [List.getD_eq_getElem?_getD, List.getElem?_eq_getElem hi]; rfl
    rw [hG, hG, List.set_append_left _ _ (by simpa using hlt), List.set_set]
    unfold ckB
    rw [hds, hgd]
    rfl
  simp only [hG0]
  refine ALoop.intro (S := fun (i : Nat) => ⟨[(0, .pv (.ptr b 0)), (1, .pv (.seq false 1 (irow ids))), (23, .pv (.seq false 1 (irow ids))), (24, .pv (I64 ids.length)), (25, .pv (I64 i))], G i⟩) (fun i => i ≤ ids.length) (fun i => ids.length - i) 0 ?_ (Nat.zero_le _) ?_
  · exact Weak.keep (by simp) rfl
  intro i hi
  have hgl := hGl i
  have hgb := hGb i
  by_cases hi2 : i < ids.length
  · have hw : w64 ((i : Int) + 1) = ((i + 1 : Nat) : Int) := by rw [w64_id (by omega) (by omega)]; omega
    have hgs := hGs i hi2
    generalize (dropTo c ids i).m = M at *
    have hgd : ids.getD i 0 = ids[i] := by rw [List.getD_eq_getElem?_getD, List.getElem?_eq_getElem hi2]; rfl
    rw [hgd] at hgs
    obtain ⟨_, hgb'⟩ := List.getElem?_eq_some_iff.1 hgb
    simp [hi2, hgb', hgl]
    exact ⟨i + 1, by (try dsimp only); omega, by (try dsimp only); omega, Weak.keep (by simp [hw]) (by rw [hgs])⟩
  · have hie : i = ids.length := by omega
    subst hie
    simp
    rw [hG, List.take_append_of_le_length (by simp), List.take_of_length_le (by simp)]
end Go.AX
