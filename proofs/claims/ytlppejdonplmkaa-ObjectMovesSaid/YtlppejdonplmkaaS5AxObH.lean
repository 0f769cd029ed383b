/-
  Contracts: what is awake (objects).
  The walk of ObjectMoves.
-/
import Derived.Test.YtlppejdonplmkaaS5AxObD
import Derived.Test.YtlppejdonplmkaaS5AxObE
import Derived.Test.YtlppejdonplmkaaAxAg
namespace Go.AX
open Go.Proofs
set_option linter.unusedSimpArgs false

def flagO : Obj := ⟨2, 2, 0, [⟨0, 0, 1, 0⟩, ⟨0, 1, 0, 0⟩, ⟨1, 1, 1, 1⟩]⟩
def threeO : Obj := ⟨2, 3, 0, [⟨0, 0, 1, 0⟩, ⟨0, 1, 0, 0⟩, ⟨1, 1, 1, 1⟩]⟩
theorem flag_ok : APure Try.prog 23 [] (fun r => r = .pv (.agg [I64 2, I64 2, I64 0, .seq true 4 [[I64 0, I64 0, I64 1, I64 0], [I64 0, I64 1, I64 0, I64 0], [I64 1, I64 1, I64 1, I64 1]]])) := by
  refine apureC hmo Try.func23 (by kernel_rfl) rfl rfl (by kernel_rfl) (Nat.le_of_ble_eq_true rfl) ?_
  simp
theorem flagM_ok (h : List (List SV)) : AMut Try.prog 23 [] h (fun r h' => r = .agl [(I64 2, none), (I64 2, none), (I64 0, none), (.bot, some (.cell h.length 3))] ∧ h' = h ++ [[.pv (I64 2), .pv (I64 2), .pv (I64 0), .own true 4 [[I64 0, I64 0, I64 1, I64 0], [I64 0, I64 1, I64 0, I64 0], [I64 1, I64 1, I64 1, I64 1]]]]) := by
  refine amutAg2 hmo Try.func23 (by kernel_rfl) rfl rfl (by kernel_rfl) (Nat.le_of_ble_eq_true rfl) ?_
  simp
theorem objChk_at {o : Obj} (y : Int × Int) (h : (decide (objChk o = y) && decide (o.rows.length ≤ 10)) = true) : APure Try.prog 8 [robj o] (fun r => r = .pv (.tup [I64 y.1, I64 y.2])) := by
  simp only [Bool.and_eq_true, decide_eq_true_eq] at h
  have := objChk_ok o (by omega)
  rw [h.1] at this
  exact this
theorem move_at {o : Obj} {s k : Int} (y : Option (Int × Int)) (h : (decide (moveS o s k = y) && decide (o.rows.length ≤ 10)) = true) : APure Try.prog 10 [robj o, I64 s, I64 k] (fun r => r = .pv (movePV y)) := by
  simp only [Bool.and_eq_true, decide_eq_true_eq] at h
  have := move_ok o s k (by omega)
  rw [h.1] at this
  exact this
theorem same_at {a b : Obj} (y : Bool) (h : (decide (sameO a b = y) && decide (a.rows.length ≤ 10)) = true) : APure Try.prog 17 [robj a, robj b] (fun r => r = .pv (BL y)) := by
  simp only [Bool.and_eq_true, decide_eq_true_eq] at h
  have := sameO_ok a b (by omega)
  rw [h.1] at this
  exact this
theorem flagR : objR flagO := by unfold objR inR flagO; decide
theorem threeR : objR threeO := by unfold objR inR threeO; decide
theorem flag_reach : reachS flagO = [0, 1] := by
  have hf : objFine flagO := objFine_iff.1 (by decide +kernel)
  have r0 : RE flagO 0 := RE.init
  have r1 : RE flagO 1 := RE.step (r := ⟨0, 0, 1, 0⟩) (by simp [flagO]) r0
  unfold reachS
  rw [if_pos hf]
  show List.filter _ [(0 : Int), 1] = _
  simp [r0, r1]
theorem three_reach : reachS threeO = [0, 1] := by
  have hf : objFine threeO := objFine_iff.1 (by decide +kernel)
  have r0 : RE threeO 0 := RE.init
  have r1 : RE threeO 1 := RE.step (r := ⟨0, 0, 1, 0⟩) (by simp [threeO]) r0
  unfold reachS
  rw [if_pos hf]
  show List.filter _ [(0 : Int), 1] = _
  simp [r0, r1]
theorem three_dead : deadS threeO = [2] := by
  have hf : objFine threeO := objFine_iff.1 (by decide +kernel)
  unfold deadS
  rw [if_pos hf]
  show List.filter _ [(0 : Int), 1, 2] = _
  have h3 := three_reach
  unfold threeO at h3
  simp [deadOf, h3, threeO]
theorem flag_sort : sortR [⟨1, 1, 1, 1⟩, ⟨0, 0, 1, 0⟩] = [⟨0, 0, 1, 0⟩, ⟨1, 1, 1, 1⟩] := sortR_is (List.Perm.swap _ _ _) (by simp [ltP])

set_option maxRecDepth 16000 in
theorem awakeO_ok : APure Try.prog 7 [] (fun r => r = .pv (BL true)) := by
  refine apure1 hmo Try.func7 (by kernel_rfl) rfl rfl (by kernel_rfl) (Nat.le_of_ble_eq_true rfl) ?_
  have c1 := objChk_at (o := flagO) (3, 0) (by decide +kernel)
  have c2 := move_at (o := flagO) (s := 0) (k := 0) (some (1, 0)) (by decide +kernel)
  have c3 := move_at (o := flagO) (s := 1) (k := 0) none (by decide +kernel)
  have c4 := objChk_at (o := ⟨2, 2, 0, [⟨0, 0, 1, 0⟩, ⟨0, 1, 0, 0⟩, ⟨1, 2, 1, 1⟩]⟩) (2, 31) (by decide +kernel)
  have c5 := objChk_at (o := ⟨0, 0, 0, []⟩) (-1, 2) (by decide +kernel)
  have c6 := reach_ok flagO flagR (by decide)
  rw [flag_reach] at c6
  have c7 := dead_ok threeO threeR (by decide)
  rw [three_dead] at c7
  have c8 := same_at (a := flagO) (b := flagO) true (by decide +kernel)
  have c9 := same_at (a := flagO) (b := threeO) false (by decide +kernel)
  have c10 := sortO_ok [⟨1, 1, 1, 1⟩, ⟨0, 0, 1, 0⟩] (by decide)
  rw [flag_sort] at c10
  have d6 := sameInts_ok [0, 1] [0, 1] (by decide)
  have d7 := sameInts_ok [2] [2] (by decide)
  have d10 := refSameRows_ok [⟨0, 0, 1, 0⟩, ⟨1, 1, 1, 1⟩] [⟨0, 0, 1, 0⟩, ⟨1, 1, 1, 1⟩] (by decide)
  simp only [robj, flagO, threeO, rrow, irow, List.map_cons, List.map_nil, movePV, decide_true] at c1 c2 c3 c4 c5 c6 c7 c8 c9 c10 d6 d7 d10
  simp
  refine CallK.intro flag_ok (by simp) ?_
  simp
  refine CallK.intro c1 (by simp) ?_
  simp
  refine CallK.intro flag_ok (by simp) ?_
  simp
  refine CallK.intro c2 (by simp) ?_
  simp
  refine CallK.intro flag_ok (by simp) ?_
  simp
  refine CallK.intro c3 (by simp) ?_
  simp
  refine CallK.introM (flagM_ok _) (by simp) ?_
  rintro r h' ⟨rfl, rfl⟩
  simp
  refine CallK.intro c4 (by simp) ?_
  simp
  have c5' := c5.conv (xs := [.agg [I64 0, I64 0, I64 0, .lit (.slice none 0 0)]]) ⟨_, _, rfl, PV.as_agg ⟨_, _, rfl, PV.as.refl _, _, _, rfl, PV.as.refl _, _, _, rfl, PV.as.refl _, _, _, rfl, PV.as_nil 4, rfl⟩, rfl⟩
  refine CallK.intro c5' (by simp) ?_
  simp
  refine CallK.intro flag_ok (by simp) ?_
  simp
  refine CallQ.intro (fun _ => flag_ok) (by simp) ?_
  simp
  refine CallQ.intro (fun _ => c6) (by simp) ?_
  simp
  refine CallQ.intro (fun _ => d6) (by simp) ?_
  simp
  refine CallQ.intro (fun _ => c7) (by simp) ?_
  simp
  refine CallQ.intro (fun _ => d7) (by simp) ?_
  simp
  refine CallQ.intro (fun _ => flag_ok) (by simp) ?_
  simp
  refine CallQ.intro (fun _ => flag_ok) (by simp) ?_
  simp
  refine CallQ.intro (fun _ => c8) (by simp) ?_
  simp
  refine CallQ.intro (fun _ => flag_ok) (by simp) ?_
  simp
  refine CallQ.intro (fun _ => c9) (by simp) ?_
  simp
  refine CallQ.intro (fun _ => flag_ok) (by simp) ?_
  simp
  refine CallQ.intro (fun _ => flag_ok) (by simp) ?_
  simp
  refine CallQ.intro (fun _ => c10) (by simp) ?_
  simp
  refine CallQ.intro (fun _ => flag_ok) (by simp) ?_
  simp
  refine CallQ.intro (fun _ => flag_ok) (by simp) ?_
  simp
  refine CallQ.intro (fun _ => d10) (by simp) ?_
  simp

end Go.AX

namespace Go.AX
open Go.Proofs
set_option linter.unusedSimpArgs false

set_option maxRecDepth 16000 in
theorem objectMoves_ok (o : Obj) (x y : Int) : APure Try.prog 4 [robj o, .agg [I64 x, I64 y]] (fun r => r = .pv (BL true)) := by
  refine apure1 hmo Try.func4 (by kernel_rfl) rfl rfl (by kernel_rfl) (Nat.le_of_ble_eq_true rfl) ?_
  have f1 := few_ok o
  have c1 := objChk_ok o
  have c3 := move_ok o x y
  simp only [robj] at f1 c1 c3
  simp [robj]
  refine CallK.intro f1 (by simp) ?_
  simp
  refine ⟨fun c => ?_, fun d1 => ?_⟩
  · refine CallK.intro awakeO_ok (by simp) ?_
    simp
  have hl : o.rows.length ≤ 140737488355328 := by omega
  have hl2 : o.rows.length ≤ 1000000 := by omega
  replace c1 := c1 hl; replace c3 := c3 hl
  have c11 := sortO_ok o.rows hl2
  have hsl := sortR_len o.rows
  have c13 := refSameRows_ok (sortR o.rows) o.rows (by rw [hsl]; exact hl)
  have hfi := objFine_iff (o := o)
  obtain ⟨E, hE⟩ : ∃ E, (objChk o).2 = E := ⟨_, rfl⟩
  rw [hE] at hfi c1
  refine CallK.intro c1 (by simp) ?_
  simp
  obtain ⟨a, b, q, hm⟩ : ∃ a b q, movePV (moveS o x y) = .tup [I64 a, I64 b, BL q] := by
    cases moveS o x y with
    | none => exact ⟨_, _, _, rfl⟩
    | some z => exact ⟨_, _, _, rfl⟩
  have hq : (moveS o x y).isSome = q := by
    cases hmm : moveS o x y with
    | none => rw [hmm] at hm; simp [movePV] at hm; exact hm.2.2.symm ▸ rfl
    | some z => rw [hmm] at hm; simp [movePV] at hm; exact hm.2.2.symm ▸ rfl
  have hab : ∀ u v, moveS o x y = some (u, v) → u = a ∧ v = b := fun u v hmm => by
    rw [hmm] at hm; simp [movePV] at hm; exact ⟨hm.1, hm.2.1⟩
  rw [hm] at c3
  refine CallK.intro c3 (by simp) ?_
  simp
  have hmany := manyTo_le o x y
  refine ALoop.intro (S := fun (i : Nat) => ⟨[(2, .pv (.ptr 0 0)), (3, .pv (.ptr 1 0)), (6, .pv (I64 E)), (7, .pv (I64 a)), (8, .pv (I64 b)), (9, .pv (BL q)), (10, .pv (I64 (manyTo o x y i))), (11, .pv (I64 i))], [[.pv (I64 o.st), .pv (I64 o.kd), .pv (I64 o.ini), .pv (.seq false 4 (o.rows.map rrow))], [.pv (I64 x), .pv (I64 y)]]⟩)
    (fun i => i ≤ o.rows.length) (fun i => o.rows.length - i) 0 ?_ (Nat.zero_le _) ?_
  · exact Weak.to (by simp [manyTo]) (by simp) (by simp) (by simp) (by simp)
  intro i hi
  by_cases c2 : i < o.rows.length
  · have hw : w64 ((i : Int) + 1) = ((i + 1 : Nat) : Int) := by rw [w64_id (by omega) (by omega)]; omega
    have hmi := hmany i
    have hw2 : w64 ((manyTo o x y i : Int) + 1) = ((manyTo o x y i + 1 : Nat) : Int) := by rw [w64_id (by omega) (by omega)]; omega
    have hsu := manyTo_succ o x y c2
    have hfn : E = 0 → isRow x y o.rows[i] = true → o.rows[i].n = a ∧ o.rows[i].r = b := fun h1 h2 => hab _ _ (moveS_fine (hfi.1 h1) c2 h2)
    simp [c2, rrow]
    refine ⟨fun d1 d2 => ?_, fun d => ?_⟩
    · have hir : isRow x y o.rows[i] = true := by simp [isRow, d1, d2]
      refine ⟨fun e => ⟨e, fun e2 => ⟨e, e2⟩⟩, fun e => hfn e hir, fun _ => ⟨i + 1, by (try dsimp only); omega, by (try dsimp only); omega, Weak.to (by simp [hw, hw2, hsu, hir, rrow]) (by simp) (by simp) (by simp) (by simp)⟩⟩
    · have hir : isRow x y o.rows[i] = false := by
        cases h : isRow x y o.rows[i] with
        | false => rfl
        | true => simp [isRow] at h; exact absurd h.2 (d h.1)
      exact ⟨i + 1, by (try dsimp only); omega, by (try dsimp only); omega, Weak.to (by simp [hw, hsu, hir, rrow]) (by simp) (by simp) (by simp) (by simp)⟩
  · have hie : i = o.rows.length := by omega
    have hpos := manyTo_pos o x y
    rw [hq] at hpos
    have hone : E = 0 → manyTo o x y o.rows.length ≤ 1 := fun h => (manyTo_fine (hfi.1 h) x y o.rows.length (Nat.le_refl _)).1
    have hsor : E = 0 → sortR o.rows = o.rows := fun h => fine_sorted (hfi.1 h)
    have hti := fun z => timesR_same o.rows z
    have htl := fun z i => timesR_le (sortR o.rows) z i
    have htl2 := fun z i => timesR_le o.rows z i
    have htsu := fun z (i : Nat) (h : i < (sortR o.rows).length) => timesR_succ (sortR o.rows) z h
    have htsu2 := fun z (i : Nat) (h : i < o.rows.length) => timesR_succ o.rows z h
    rw [hsl] at hti
    generalize hso : sortR o.rows = so at *
    subst hie
    simp
    refine CallK.intro c11 (by simp) ?_
    simp
    generalize hM : manyTo o x y o.rows.length = M at *
    have hq2 : q = decide (0 < M) := by
      cases q with
      | true => exact (decide_eq_true (hpos.2 rfl)).symm
      | false => exact (decide_eq_false (fun h => by cases hpos.1 h)).symm
    subst hq2
    refine CallG.intro (r := .pv (BL (decide (so = o.rows)))) (fun _ => c13) (by simp) ?_
    simp [hsl]
    have hgood : E = 0 → M ≤ 1 ∧ so = o.rows := fun h => ⟨hone h, hsor h⟩
    refine ⟨fun e => ⟨e, fun e2 => ⟨e, e2⟩⟩, fun e => ⟨by have := hone e; omega, hsor e⟩, fun _ => ?_⟩
    have hslN : so.length = o.rows.length := hsl
    refine ALoop.intro (S := fun (i : Nat) => ⟨[(2, .pv (.ptr 0 0)), (12, .own true 4 (so.map rrow)), (13, .pv (I64 i))], [[.pv (I64 o.st), .pv (I64 o.kd), .pv (I64 o.ini), .pv (.seq false 4 (o.rows.map rrow))]]⟩)
      (fun i => i ≤ so.length) (fun i => so.length - i) 0 ?_ (Nat.zero_le _) ?_
    · exact Weak.to (by simp) (by simp) (by simp) (by simp) (by simp)
    intro i hi
    by_cases c2 : i < so.length
    · have hw : w64 ((i : Int) + 1) = ((i + 1 : Nat) : Int) := by rw [w64_id (by omega) (by omega)]; omega
      simp [c2]
      refine ALoop.intro (S := fun (k : Nat) => ⟨[(2, .pv (.ptr 0 0)), (12, .own true 4 (so.map rrow)), (13, .pv (I64 i)), (14, .pv (I64 (timesR so so[i] k))), (15, .pv (I64 (timesR o.rows so[i] k))), (16, .pv (I64 k))], [[.pv (I64 o.st), .pv (I64 o.kd), .pv (I64 o.ini), .pv (.seq false 4 (o.rows.map rrow))]]⟩)
        (fun k => k ≤ so.length) (fun k => so.length - k) 0 ?_ (Nat.zero_le _) ?_
      · exact Weak.to (by simp [timesR]) (by simp) (by simp) (by simp) (by simp)
      intro k hk
      by_cases c4 : k < so.length
      · have hw2 : w64 ((k : Int) + 1) = ((k + 1 : Nat) : Int) := by rw [w64_id (by omega) (by omega)]; omega
        have c5 : k < o.rows.length := by omega
        have t1 := htl so[i] k
        have t2 := htl2 so[i] k
        have t3 := htsu so[i] k c4
        have t4 := htsu2 so[i] k c5
        have hw3 : w64 ((timesR so so[i] k : Int) + 1) = ((timesR so so[i] k + 1 : Nat) : Int) := by rw [w64_id (by omega) (by omega)]; omega
        have hw4 : w64 ((timesR o.rows so[i] k : Int) + 1) = ((timesR o.rows so[i] k + 1 : Nat) : Int) := by rw [w64_id (by omega) (by omega)]; omega
        have e1 : ∀ u v : ORow, (u = v) ↔ (u.s = v.s ∧ u.k = v.k ∧ u.n = v.n ∧ u.r = v.r) := fun u v => ⟨fun h => by subst h; exact ⟨rfl, rfl, rfl, rfl⟩, fun ⟨h1, h2, h3, h4⟩ => rowExt _ _ h1 h2 h3 h4⟩
        have E1 := e1 so[k] so[i]
        have E2 := e1 o.rows[k] so[i]
        simp [c2, c4, c5, rrow]
        refine ⟨fun a1 a2 a3 a4 => ?_, fun na => ?_⟩
        · rw [if_pos (E1.2 ⟨a1, a2, a3, a4⟩)] at t3
          refine ⟨fun b1 b2 b3 b4 => ?_, fun nb => ?_⟩
          · rw [if_pos (E2.2 ⟨b1, b2, b3, b4⟩)] at t4
            exact ⟨k + 1, by (try dsimp only); omega, by (try dsimp only); omega, Weak.to (by simp [hw2, hw3, hw4, t3, t4, rrow]) (by simp) (by simp) (by simp) (by simp)⟩
          · rw [if_neg (fun h => by obtain ⟨b1, b2, b3, b4⟩ := E2.1 h; exact nb b1 b2 b3 b4)] at t4
            exact ⟨k + 1, by (try dsimp only); omega, by (try dsimp only); omega, Weak.to (by simp [hw2, hw3, hw4, t3, t4, rrow]) (by simp) (by simp) (by simp) (by simp)⟩
        · rw [if_neg (fun h => by obtain ⟨b1, b2, b3, b4⟩ := E1.1 h; exact na b1 b2 b3 b4)] at t3
          refine ⟨fun b1 b2 b3 b4 => ?_, fun nb => ?_⟩
          · rw [if_pos (E2.2 ⟨b1, b2, b3, b4⟩)] at t4
            exact ⟨k + 1, by (try dsimp only); omega, by (try dsimp only); omega, Weak.to (by simp [hw2, hw3, hw4, t3, t4, rrow]) (by simp) (by simp) (by simp) (by simp)⟩
          · rw [if_neg (fun h => by obtain ⟨b1, b2, b3, b4⟩ := E2.1 h; exact nb b1 b2 b3 b4)] at t4
            exact ⟨k + 1, by (try dsimp only); omega, by (try dsimp only); omega, Weak.to (by simp [hw2, hw3, hw4, t3, t4, rrow]) (by simp) (by simp) (by simp) (by simp)⟩
      · simp [c4]
        have hke : k = so.length := by omega
        subst hke
        have := hti so[i]
        rw [hslN] at *
        simp [this]
        exact ⟨i + 1, by (try dsimp only); omega, by (try dsimp only); omega, Weak.to (by simp [hw]) (by simp) (by simp) (by simp) (by simp)⟩
    · simp [c2]
      refine CallK.intro awakeO_ok (by simp) ?_
      simp

end Go.AX
