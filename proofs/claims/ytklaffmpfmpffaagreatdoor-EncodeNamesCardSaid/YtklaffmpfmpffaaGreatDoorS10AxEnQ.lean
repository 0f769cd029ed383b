/-
  The document's names as words; the law's contract EncodeNames.
  The law's contract EncodeNames.
-/
import Derived.Test.YtklaffmpfmpffaaGreatDoorS10AxEnO
import Derived.Test.YtklaffmpfmpffaaGreatDoorS10AxEnD
namespace Go.AX
open Go.Proofs Go.Shelf
set_option linter.unusedSimpArgs false

theorem ba_ext {a b : ByteArray} (h : a.data.toList = b.data.toList) : a = b := by
  cases a; cases b
  simp at h
  simp [h]
theorem ba_app (a b : ByteArray) : (a ++ b).data.toList = a.data.toList ++ b.data.toList := by
  rw [ByteArray.data_append, Array.toList_append]
def bSp : ByteArray := ⟨#[32]⟩
theorem wjoin2 (p a : ByteArray) : wjoin [p, a] bSp = (p ++ bSp) ++ a := by
  apply ba_ext
  simp only [ba_app, wjoin, Lib.join, List.map_cons, List.map_nil]
  simp [List.intercalate]
theorem wjoin3 (p a b : ByteArray) : wjoin [p, a, b] bSp = (((p ++ bSp) ++ a) ++ bSp) ++ b := by
  apply ba_ext
  simp only [ba_app, wjoin, Lib.join, List.map_cons, List.map_nil]
  simp [List.intercalate]
theorem digS_size {i : Nat} (h : i < 100) : (digS i).size ≤ 2 := by
  have := dig_len h
  simpa [digS, ByteArray.size] using this
def wPlace1 : ByteArray := ⟨#[112, 108, 97, 99, 101, 32]⟩
def wIn1 : ByteArray := ⟨#[105, 110, 32]⟩
def wState1 : ByteArray := ⟨#[115, 116, 97, 116, 101, 32]⟩
theorem wPlace1_is : wPlace ++ bSp = wPlace1 := by apply ba_ext; rw [ba_app]; rfl
theorem wIn1_is : wIn ++ bSp = wIn1 := by apply ba_ext; rw [ba_app]; rfl
theorem wState1_is : wState ++ bSp = wState1 := by apply ba_ext; rw [ba_app]; rfl
theorem nmS_1 (a b : Nat) : nmS (1, a, b) = ((wPlace1 ++ digS a) ++ ⟨#[32]⟩) ++ digS b := by
  show wjoin [wPlace, digS a, digS b] bSp = _
  rw [wjoin3, wPlace1_is]; rfl
theorem nmS_2 (a b : Nat) : nmS (2, a, b) = wIn1 ++ digS a := by
  show wjoin [wIn, digS a] bSp = _
  rw [wjoin2, wIn1_is]
theorem nmS_3 (a b : Nat) : nmS (3, a, b) = ((wState1 ++ digS a) ++ ⟨#[32]⟩) ++ digS b := by
  show wjoin [wState, digS a, digS b] bSp = _
  rw [wjoin3, wState1_is]; rfl
set_option maxRecDepth 16000 in
theorem refNames_ok (o : Obj) (ops : List Op5) (hr : objR o) (hl : o.rows.length ≤ 140737488355328) (hl2 : ops.length ≤ 1000000) : APure Tryz.prog 8 [robj o, ovec ops] (fun r => r = (if failE o ops = 0 then .own true 1 (srow (nmsTo ops.length o.st.toNat (varC ops.length o.st.toNat))) else .pv (.lit (.slice none 0 0)))) := by
  refine apure1 hmo Tryz.func8 (by kernel_rfl) rfl rfl (by kernel_rfl) (Nat.le_of_ble_eq_true rfl) ?_
  have h1 := refErr_ok o ops hr hl (by omega)
  simp only [robj, ovec] at h1
  simp [robj, ovec]
  refine CallK.intro h1 (by simp) ?_
  by_cases hf : failE o ops = 0
  rotate_left
  · simp [hf]
  obtain ⟨g1, g2, g3, hP, hE, hc⟩ := failE_zero hr hf
  obtain ⟨q1, q2, q3, q4⟩ := obj_good hr g1
  obtain ⟨M, hM⟩ : ∃ M : Nat, o.st = (M : Int) := ⟨o.st.toNat, by omega⟩
  rw [hM] at hc
  obtain ⟨_, hV, n1, n2, n3, n4⟩ := varC_eq hc
  have hMn : o.st.toNat = M := by omega
  simp only [hM, hMn, hf, if_pos, Int.toNat_natCast]
  have hnames := ref31Names_ok ops.length M hc
  simp
  refine CallK.intro hnames (by simp) ?_
  generalize ops.length = N at *
  simp
  refine ALoop.intro (S := fun (j : Nat) => ⟨[(5, .own true 1 (srow (nmsTo N M j))), (6, .own true 3 ((nmL N M (varC N M)).map nmR)), (7, .pv (I64 j))], []⟩) (fun j => j ≤ varC N M) (fun j => varC N M - j) 0 ?_ (Nat.zero_le _) ?_
  · exact (Weak.nilOwn (s := 5) 1 true (by simp)).trans (Weak.to (by simp [nmsTo, srow]) (by simp) (by simp) (by simp) (by simp))
  intro j hj
  by_cases hlt : j < varC N M
  rotate_left
  · have hie : j = varC N M := by omega
    rw [hie]
    simp
  have hVd : varC N M = N * N + N + (N + 1) * M := rfl
  have hw : w64 ((j : Int) + 1) = ((j + 1 : Nat) : Int) := by rw [w64_id (by omega) (by omega)]; omega
  have hin := nmOf_in hc hlt
  have hsu := nmsTo_succ N M j
  have hg : ∀ h, (nmL N M (varC N M))[j]'h = nmOf N M j := fun h => by simp [nmL]
  generalize nmOf N M j = x at *
  obtain ⟨k, a, b⟩ := x
  dsimp only at hin
  obtain ⟨hk, ha, hb⟩ := hin
  have d1 := refDigits_ok a ha
  have d2 := refDigits_ok b hb
  have z1 := digS_size ha
  have z2 := digS_size hb
  have s1 : wPlace1.size = 6 := rfl
  have s2 : wIn1.size = 3 := rfl
  have s3 : wState1.size = 6 := rfl
  have s4 : (⟨#[32]⟩ : ByteArray).size = 1 := rfl
  rcases hk with rfl | rfl | rfl
  · rw [nmS_1] at hsu
    simp only [wPlace1] at hsu s1
    generalize digS a = da at *
    generalize digS b = db at *
    simp [hlt, hg, nmR]
    refine CallQ0.intro d1 (by simp) ?_
    simp
    refine CallQ0.intro d2 (by simp) ?_
    simp [ByteArray.size_append, s1, s4]
    refine ⟨by omega, by omega, by omega, by omega, j + 1, by (try dsimp only); omega, by (try dsimp only); omega, Weak.to (by simp [hw, hsu, srow]) (by simp) (by simp) (by simp) (by simp)⟩
  · rw [nmS_2] at hsu
    simp only [wIn1] at hsu s2
    generalize digS a = da at *
    generalize digS b = db at *
    simp [hlt, hg, nmR]
    refine CallQ0.intro d1 (by simp) ?_
    simp
    refine CallQ0.intro d2 (by simp) ?_
    simp [ByteArray.size_append, s2]
    refine ⟨by omega, by omega, j + 1, by (try dsimp only); omega, by (try dsimp only); omega, Weak.to (by simp [hw, hsu, srow]) (by simp) (by simp) (by simp) (by simp)⟩
  · rw [nmS_3] at hsu
    simp only [wState1] at hsu s3
    generalize digS a = da at *
    generalize digS b = db at *
    simp [hlt, hg, nmR]
    refine CallQ0.intro d1 (by simp) ?_
    simp
    refine CallQ0.intro d2 (by simp) ?_
    simp [ByteArray.size_append, s3, s4]
    refine ⟨by omega, by omega, by omega, by omega, j + 1, by (try dsimp only); omega, by (try dsimp only); omega, Weak.to (by simp [hw, hsu, srow]) (by simp) (by simp) (by simp) (by simp)⟩
end Go.AX

namespace Go.AX
open Go.Proofs Go.Shelf
set_option linter.unusedSimpArgs false

/-- So few clauses, and literals. -/
def fewE (cs : List (List Int)) : Bool := decide (cs.length ≤ 200) && cs.all fun c => decide (c.length ≤ 50)
theorem few37_ok (v : Int) (cs : List (List Int)) : APure Tryz.prog 5 [.agg [I64 v, .seq false 1 (cs.map crowF)]] (fun r => r = .pv (BL (fewE cs))) := by
  refine apure1 hmo Tryz.func5 (by kernel_rfl) rfl rfl (by kernel_rfl) (Nat.le_of_ble_eq_true rfl) ?_
  by_cases c : (200 : Int) < cs.length
  · have : fewE cs = false := by unfold fewE; rw [decide_eq_false (by omega), Bool.false_and]
    rw [this]
    simp [c]
  have c' : cs.length ≤ 200 := by omega
  have hF : fewE cs = cs.all fun c => decide (c.length ≤ 50) := by unfold fewE; rw [decide_eq_true c', Bool.true_and]
  rw [hF]
  simp [c]
  refine ALoop.intro (S := fun (i : Nat) => ⟨[(1, .pv (.ptr 0 0)), (3, .pv (I64 i))], [[.pv (I64 v), .pv (.seq false 1 (cs.map crowF))]]⟩) (fun i => i ≤ cs.length ∧ ∀ j (h : j < cs.length), j < i → cs[j].length ≤ 50) (fun i => cs.length - i) 0 ?_ ⟨Nat.zero_le _, fun j _ h => by omega⟩ ?_
  · exact Weak.to (by simp) rfl (by simp) (by simp) (by simp)
  rintro i ⟨hi, hle⟩
  by_cases ci : i < cs.length
  · have hw2 : w64 ((i : Int) + 1) = ((i + 1 : Nat) : Int) := by rw [w64_id (by omega) (by omega)]; omega
    by_cases c5 : (50 : Int) < cs[i].length
    · have : (cs.all fun c => decide (c.length ≤ 50)) = false := by
        rw [List.all_eq_false]
        exact ⟨cs[i], List.getElem_mem ci, by simp; omega⟩
      rw [this]
      simp [ci, crowF, c5]
    · simp [ci, crowF, c5]
      refine ⟨i + 1, by (try dsimp only); omega, ⟨by (try dsimp only); omega, fun j hj hji => ?_⟩, Weak.to (by simp [hw2]) rfl (by simp) (by simp) (by simp)⟩
      by_cases e : j = i
      · subst e; omega
      · exact hle j hj (by omega)
  · have hie : i = cs.length := by omega
    subst hie
    have : (cs.all fun c => decide (c.length ≤ 50)) = true := by
      rw [List.all_eq_true]
      intro x hx
      obtain ⟨j, hj, rfl⟩ := List.getElem_of_mem hx
      simpa using hle j hj hj
    rw [this]
    simp
theorem fewE_few {cs : List (List Int)} (h : fewE cs = true) : cs.length ≤ 200 ∧ ∀ c ∈ cs, c.length ≤ 50 := by
  unfold fewE at h
  simp only [Bool.and_eq_true, decide_eq_true_eq, List.all_eq_true] at h
  exact h
def namSch : Sch :=
  let E : Sch := .fork [(8, .take 9 .done)]
  let F037 : Sch := .fork [(4, E)]
  let F034 : Sch := .fork [(7, E)]
  let F03 : Sch := .fork [(4, F034), (7, F037)]
  let F07 : Sch := .fork [(3, F037)]
  let F37 : Sch := .fork [(0, F037)]
  .take 1 (.take 2 (.take 5 (.take 6 (.fork [(0, .fork [(3, F03), (7, F07)]), (3, .fork [(0, F03), (7, F37)]), (7, .fork [(0, F07), (3, F37)])]))))
set_option maxRecDepth 16000 in
theorem encodeNames_ok (o : Obj) (ops : List Op5) (v0 v1 : Int) (A0 A1 : List (List Int)) (hr : objR o) : APure Tryz.prog 3 [robj o, ovec ops, .agg [I64 v0, .seq false 1 (A0.map crowF), I64 v1, .seq false 1 (A1.map crowF)]] (fun r => r = .pv (.lit (.bool true))) := by
  refine apure1B [11] hmo Tryz.func3 (by kernel_rfl) rfl rfl (by kernel_rfl) (Nat.le_of_ble_eq_true rfl) ?_
  have hfew := few_ok o
  have f0 := few37_ok v0 A0
  have f1 := few37_ok v1 A1
  simp only [robj] at hfew
  simp [robj, ovec]
  refine CallK.intro hfew (by simp) ?_
  by_cases c1 : (o.rows.length : Int) ≤ 300
  rotate_left
  · simp [c1]
    refine CallG.intro (fun h : False => h.elim) (r := .pv (BL true)) (by simp) ?_
    simp
    refine CallG.intro (fun h : False => h.elim) (r := .pv (BL true)) (by simp) ?_
    simp
    refine CallK.intro awakeE_ok (by simp) ?_
    simp
  by_cases c2 : (20 : Int) < (ops.length : Int)
  · simp [c1, c2]
    refine CallG.intro (fun h : False => h.elim) (r := .pv (BL true)) (by simp) ?_
    simp
    refine CallG.intro (fun h : False => h.elim) (r := .pv (BL true)) (by simp) ?_
    simp
    refine CallK.intro awakeE_ok (by simp) ?_
    simp
  simp [c1, c2]
  refine CallG.intro (fun _ => f0) (by simp) ?_
  by_cases c3 : fewE A0 = true
  rotate_left
  · simp [c1, c2, c3]
    refine CallG.intro (fun h : False => h.elim) (r := .pv (BL true)) (by simp) ?_
    simp
    refine CallK.intro awakeE_ok (by simp) ?_
    simp
  simp [c1, c2, c3]
  refine CallG.intro (fun _ => f1) (by simp) ?_
  by_cases c4 : fewE A1 = true
  rotate_left
  · simp [c1, c2, c3, c4]
    refine CallK.intro awakeE_ok (by simp) ?_
    simp
  obtain ⟨a1, a2⟩ := fewE_few c3
  obtain ⟨a3, a4⟩ := fewE_few c4
  have hl : o.rows.length ≤ 140737488355328 := by omega
  have hl2 : ops.length ≤ 1000000 := by omega
  have n1 := names_ok o ops hr hl hl2
  have n2 := refNames_ok o ops hr hl hl2
  have hfl : ([A0, A1] : List (List (List Int))).flatten = A0 ++ A1 := by simp
  have k1 := concat_ok [A0, A1] (by simp) (by rw [hfl, List.length_append]; omega) (by
    intro L hL x hx
    simp at hL
    rcases hL with rfl | rfl
    · have := a2 x hx; omega
    · have := a4 x hx; omega)
  rw [hfl] at k1
  have s1 := sameRows_ok (A0 ++ A1) (A0 ++ A1) (by rw [List.length_append]; omega) (by
    intro x hx
    rcases List.mem_append.1 hx with hx | hx
    · have := a2 x hx; omega
    · have := a4 x hx; omega)
  rw [decide_eq_true rfl] at s1
  simp only [robj, ovec, partR, List.map_cons, List.map_nil] at n1 n2 k1
  obtain ⟨C, hC⟩ : ∃ C, C = A0 ++ A1 := ⟨_, rfl⟩
  have hCm : A0.map crowF ++ A1.map crowF = C.map crowF := by rw [hC, List.map_append]
  rw [← hC] at k1 s1
  simp [c1, c2, c3, c4]
  by_cases hf : failE o ops = 0
  rotate_left
  · rw [if_neg hf] at n1 n2
    refine CallQ0.intro n1 (by simp) ?_
    simp
    refine CallQ0.intro n2 (by simp) ?_
    simp
    refine ALoop.intro (S := fun (i : Nat) => ⟨[(5, .pv (.ptr 1 0)), (7, .pv (.lit (.slice none 0 0))), (8, .pv (.lit (.slice none 0 0))), (9, .pv (I64 0))], [[.pv (I64 o.st), .pv (I64 o.kd), .pv (I64 o.ini), .pv (.seq false 4 (o.rows.map rrow))], [.pv (I64 v0), .pv (.seq false 1 (A0.map crowF)), .pv (I64 v1), .pv (.seq false 1 (A1.map crowF))]]⟩) (fun i => i = 0) (fun i => i) 0 ?_ rfl ?_
    · exact Weak.keep (by simp [hCm]) (by simp)
    rintro i rfl
    simp
    refine AAnyD.meet namSch ⟨[(5, .pv (.ptr 1 0)), (10, .own true 1 (C.map crowF))], [[.pv (I64 o.st), .pv (I64 o.kd), .pv (I64 o.ini), .pv (.seq false 4 (o.rows.map rrow))], [.pv (I64 v0), .pv (.seq false 1 (A0.map crowF)), .pv (I64 v1), .pv (.seq false 1 (A1.map crowF))]]⟩ (by kernel_rfl) ?_ ?_
    · simp [namSch]
      and_intros
      all_goals first | omega | exact Weak.keep (by simp [hCm]) (by simp)
    simp
    refine CallK.intro k1 (by simp) ?_
    simp
    refine CallK.intro s1 (by simp) ?_
    simp
    refine CallG.intro (fun _ => awakeE_ok) (by simp) ?_
    simp
  rw [if_pos hf] at n1 n2
  have hB : (nmsTo ops.length o.st.toNat (varC ops.length o.st.toNat)).length ≤ 10000 := by
    obtain ⟨g1, g2, g3, hP, hE, hc⟩ := failE_zero hr hf
    obtain ⟨q1, q2, q3, q4⟩ := obj_good hr g1
    obtain ⟨M, hM⟩ : ∃ M : Nat, o.st = (M : Int) := ⟨o.st.toNat, by omega⟩
    rw [hM] at hc
    obtain ⟨_, hV, m1, m2, m3, m4⟩ := varC_eq hc
    have hMn : o.st.toNat = M := by omega
    have hVd : varC ops.length M = ops.length * ops.length + ops.length + (ops.length + 1) * M := rfl
    rw [nmsTo_length, hMn]
    omega
  generalize nmsTo ops.length o.st.toNat (varC ops.length o.st.toNat) = B at *
  refine CallQ0.intro n1 (by simp) ?_
  simp
  refine CallQ0.intro n2 (by simp) ?_
  simp
  refine ALoop.intro (S := fun (i : Nat) => ⟨[(5, .pv (.ptr 1 0)), (7, .pv (.seq true 1 (srow B))), (8, .pv (.seq true 1 (srow B))), (9, .pv (I64 i))], [[.pv (I64 o.st), .pv (I64 o.kd), .pv (I64 o.ini), .pv (.seq false 4 (o.rows.map rrow))], [.pv (I64 v0), .pv (.seq false 1 (A0.map crowF)), .pv (I64 v1), .pv (.seq false 1 (A1.map crowF))]]⟩) (fun i => i ≤ B.length) (fun i => B.length - i) 0 ?_ (Nat.zero_le _) ?_
  · exact Weak.to (by simp) (by simp) (by simp) (by simp) (by simp)
  intro i hi
  by_cases h : i < B.length
  · have hw : w64 ((i : Int) + 1) = ((i + 1 : Nat) : Int) := by rw [w64_id (by omega) (by omega)]; omega
    have hs : ∀ h, (srow B)[i]'h = [.lit (.string B[i])] := fun h => by simp [srow]
    simp [h, hs]
    refine ⟨i + 1, by (try dsimp only); omega, by (try dsimp only); omega, Weak.to (by simp [hw]) (by simp) (by simp) (by simp) (by simp)⟩
  have hie : i = B.length := by omega
  subst hie
  simp
  refine AAnyD.meet namSch ⟨[(5, .pv (.ptr 1 0)), (10, .own true 1 (C.map crowF))], [[.pv (I64 o.st), .pv (I64 o.kd), .pv (I64 o.ini), .pv (.seq false 4 (o.rows.map rrow))], [.pv (I64 v0), .pv (.seq false 1 (A0.map crowF)), .pv (I64 v1), .pv (.seq false 1 (A1.map crowF))]]⟩ (by kernel_rfl) ?_ ?_
  · simp [namSch]
    and_intros
    all_goals first | omega | exact Weak.keep (by simp [hCm]) (by simp)
  simp
  refine CallK.intro k1 (by simp) ?_
  simp
  refine CallK.intro s1 (by simp) ?_
  simp
  refine CallG.intro (fun _ => awakeE_ok) (by simp) ?_
  simp
end Go.AX
