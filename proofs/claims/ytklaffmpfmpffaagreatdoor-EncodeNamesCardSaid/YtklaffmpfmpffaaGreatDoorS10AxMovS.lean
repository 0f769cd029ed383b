/-
  Contracts: clauses of moves.
  Contracts: lists that are the same; where a number stands; plays.
  Contracts: plays.
  Contracts: truths of orders and of rows of states.
-/
import Derived.Test.YtklaffmpfmpffaaGreatDoorS10AxMovB
import Derived.Test.YtklaffmpfmpffaaGreatDoorS10AxCntL
namespace Go.AX
open Go.Proofs

def sizeP (o : Obj) (ops : List Op5) : Int × Int := if (objChk o).2 = 0 ∧ (chk ops).2 = 0 then ((ops.length : Int), o.st) else (0, 0)
set_option maxRecDepth 8000 in
theorem size_ok (o : Obj) (ops : List Op5) (hl : o.rows.length ≤ 140737488355328) (hl2 : ops.length ≤ 140737488355328) : APure Tryz.prog 38 [robj o, ovec ops] (fun r => r = .pv (.agg [I64 (sizeP o ops).1, I64 (sizeP o ops).2])) := by
  refine apureC hmo Tryz.func38 (by kernel_rfl) rfl rfl (by kernel_rfl) (Nat.le_of_ble_eq_true rfl) ?_
  have h1 := objChk_ok o hl
  simp only [robj] at h1
  simp [robj, ovec]
  refine CallK.intro h1 (by simp) ?_
  simp
  refine CallK.intro (chk_okC ops hl2) (by simp) ?_
  simp
  refine ⟨fun c => ?_, fun c1 c2 => by simp [sizeP, c1, c2]⟩
  have : ¬ ((objChk o).2 = 0 ∧ (chk ops).2 = 0) := fun h => by rcases c with c | c; exact c h.1; exact c h.2
  simp [sizeP, this]

def mayS (o : Obj) (x : Op5) (state : Int) : Option Int :=
  match moveS o state x.k with
  | some (n, r) => if x.e ≠ -1 ∧ x.r ≠ r then none else some n
  | none => none
def mayPV : Option Int → PV
  | some n => .tup [I64 n, BL true]
  | none => .tup [I64 0, BL false]
set_option maxRecDepth 8000 in
theorem may2_ok (o : Obj) (x : Op5) (state : Int) (hl : o.rows.length ≤ 140737488355328) : APure Tryz.prog 61 [robj o, .agg (orow x), I64 state] (fun r => r = .pv (mayPV (mayS o x state))) := by
  refine apureN [6, 7] hmo Tryz.func61 (by kernel_rfl) rfl (fun _ _ => results_tmp2 rfl _ _ _) (by kernel_rfl) (Nat.le_of_ble_eq_true rfl) ?_
  have h1 := move_ok o state x.k hl
  simp only [robj] at h1
  unfold mayS
  cases hm : moveS o state x.k with
  | none =>
    rw [hm] at h1
    simp only [movePV] at h1
    simp [robj, orow]
    refine CallK.intro h1 (by simp) ?_
    simp [mayPV]
  | some y =>
    obtain ⟨n, r⟩ := y
    rw [hm] at h1
    simp only [movePV] at h1
    simp [robj, orow]
    refine CallK.intro h1 (by simp) ?_
    simp
    exact ⟨fun h1 h2 => by rw [if_pos ⟨h1, h2⟩]; rfl, fun h => by rw [if_neg (fun hh => hh.2 (h hh.1))]; rfl⟩

theorem namer_ok (n m : Int) (h : List (List SV)) : AMut Tryz.prog 60 [.agg [I64 n, I64 m]] h (fun r h' => r = .pv (.fn (.func 78) [] [.ptr h.length 0]) ∧ h' = h ++ [[.pv (I64 n), .pv (I64 m)]]) := by
  refine amut1 hmo Tryz.func60 (by kernel_rfl) rfl rfl (by kernel_rfl) (Nat.le_of_ble_eq_true rfl) ?_
  simp

theorem name3_ok (n m k a b : Int) : APure Tryz.prog 78 [I64 k, I64 a, I64 b, .iptr 2 [[I64 n, I64 m]] 0 0] (fun r => r = .pv (I64 (varS n m k a b))) := by
  refine apure1 hmo Tryz.func78 (by kernel_rfl) rfl rfl (by kernel_rfl) (Nat.le_of_ble_eq_true rfl) ?_
  simp
  refine CallK.intro (var_ok n m k a b) (by simp) ?_
  simp

def optL : Option Int → (Int → Int) → List Int
  | some x, f => [f x]
  | none, _ => []
def movB (o : Obj) (n m : Int) (x : Op5) (i k b : Nat) : List (List Int) :=
  ([w64 (-varS n m 1 i k), w64 (-varS n m 2 i 0), w64 (-varS n m 3 k b)] ++ optL (mayS o x b) (fun y => varS n m 3 ((k : Int) + 1) y)) :: (if x.e = -1 then [[w64 (-varS n m 1 i k), varS n m 2 i 0, w64 (-varS n m 3 k b), varS n m 3 ((k : Int) + 1) b]] else [])
def movK (o : Obj) (n m : Int) (x : Op5) (i k b : Nat) : List (List Int) := (List.range b).flatMap fun b => movB o n m x i k b
def movI (o : Obj) (n m : Int) (x : Op5) (M i k : Nat) : List (List Int) := (List.range k).flatMap fun k => movK o n m x i k M
def movH (n m : Int) (x : Op5) (i : Nat) : List (List Int) := if x.e = -1 then [] else [[varS n m 2 i 0]]
def movTo (o : Obj) (n m : Int) (N M : Nat) (ops : List Op5) (i : Nat) : List (List Int) := (List.range i).flatMap fun i => movH n m (ops.getD i default) i ++ movI o n m (ops.getD i default) M i N
theorem movK_succ (o : Obj) (n m : Int) (x : Op5) (i k b : Nat) : movK o n m x i k (b + 1) = movK o n m x i k b ++ movB o n m x i k b := by
  unfold movK; rw [List.range_succ, List.flatMap_append]; simp
theorem movI_succ (o : Obj) (n m : Int) (x : Op5) (M i k : Nat) : movI o n m x M i (k + 1) = movI o n m x M i k ++ movK o n m x i k M := by
  unfold movI; rw [List.range_succ, List.flatMap_append]; simp
theorem movTo_succ (o : Obj) (n m : Int) (N M : Nat) {ops : List Op5} {i : Nat} (h : i < ops.length) : movTo o n m N M ops (i + 1) = movTo o n m N M ops i ++ (movH n m ops[i] i ++ movI o n m ops[i] M i N) := by
  unfold movTo; rw [List.range_succ, List.flatMap_append]; simp [h]
theorem movB_length (o : Obj) (n m : Int) (x : Op5) (i k b : Nat) : (movB o n m x i k b).length ≤ 2 := by
  unfold movB; split <;> simp
theorem movK_length (o : Obj) (n m : Int) (x : Op5) (i k : Nat) : ∀ b, (movK o n m x i k b).length ≤ b * 2
  | 0 => by simp [movK]
  | b + 1 => by
    have ih := movK_length o n m x i k b
    have := movB_length o n m x i k b
    rw [movK_succ, List.length_append]; omega
theorem movI_length (o : Obj) (n m : Int) (x : Op5) (M i : Nat) : ∀ k, (movI o n m x M i k).length ≤ k * (M * 2)
  | 0 => by simp [movI]
  | k + 1 => by
    have ih := movI_length o n m x M i k
    have := movK_length o n m x i k M
    rw [movI_succ, List.length_append, Nat.succ_mul]; omega
theorem movTo_length (o : Obj) (n m : Int) (N M : Nat) (ops : List Op5) : ∀ i, i ≤ ops.length → (movTo o n m N M ops i).length ≤ i * (1 + N * (M * 2))
  | 0, _ => by simp [movTo]
  | i + 1, h => by
    have ih := movTo_length o n m N M ops i (by omega)
    have h1 := movI_length o n m ops[i] M i N
    have h2 : (movH n m ops[i] i).length ≤ 1 := by unfold movH; split <;> simp
    rw [movTo_succ o n m N M (show i < ops.length by omega), List.length_append, List.length_append, Nat.succ_mul]; omega
def movesC (o : Obj) (ops : List Op5) : List (List Int) := if sizeOk (sizeP o ops).1 (sizeP o ops).2 then movTo o (sizeP o ops).1 (sizeP o ops).2 (sizeP o ops).1.toNat (sizeP o ops).2.toNat ops ops.length else []

set_option maxRecDepth 16000 in
set_option maxHeartbeats 1000000 in
theorem movesC_ok (o : Obj) (ops : List Op5) (hl : o.rows.length ≤ 140737488355328) (hl2 : ops.length ≤ 140737488355328) : APure Tryz.prog 30 [robj o, ovec ops] (fun r => r = (if sizeOk (sizeP o ops).1 (sizeP o ops).2 then .own true 1 ((movesC o ops).map crow) else .pv (.lit (.slice none 0 0)))) := by
  refine apure1 hmo Tryz.func30 (by kernel_rfl) rfl rfl (by kernel_rfl) (Nat.le_of_ble_eq_true rfl) ?_
  have hz := size_ok o ops hl hl2
  have hsz : sizeP o ops = ((ops.length : Int), o.st) ∨ sizeP o ops = (0, 0) := by unfold sizeP; split; exact .inl rfl; exact .inr rfl
  unfold movesC
  generalize hP : sizeP o ops = P at hz hsz ⊢
  obtain ⟨n, m⟩ := P
  dsimp only at hz ⊢
  simp only [robj] at hz
  simp [robj, ovec] at hz ⊢
  refine CallK.intro hz (by simp) ?_
  simp
  refine CallK.intro (check_ok n m) (by simp) ?_
  simp
  intro c
  have hs := sizeOk_iff.1 c
  obtain ⟨N, hN⟩ := Int.eq_ofNat_of_zero_le hs.1
  have hN' : n = (N : Int) := hN
  subst hN'
  obtain ⟨M, hM⟩ := Int.eq_ofNat_of_zero_le (show 0 ≤ m by omega)
  have hM' : m = (M : Int) := hM
  subst hM'
  have hNl : N = ops.length := by
    rcases hsz with h | h
    · simp only [Prod.mk.injEq] at h; omega
    · simp only [Prod.mk.injEq] at h; omega
  have hNN : N ≤ 64 := by omega
  have hMM : M ≤ 32 := by omega
  have hq : N * (M * 2) ≤ 64 * (32 * 2) := Nat.mul_le_mul hNN (by omega)
  simp [c]
  refine CallK.introM (namer_ok N M _) (by simp) ?_
  rintro _ _ ⟨rfl, rfl⟩
  simp
  refine ALoop.intro (S := fun (i : Nat) => ⟨[(8, .own true 1 ((movTo o N M N M ops i).map crow)), (6, .pv (.fn (.func 78) [] [.ptr 2 0])), (7, .pv (.fn (.func 61) [robj o] [])), (5, .pv (.ptr 1 0)), (30, .pv (ovec ops)), (31, .pv (I64 ops.length)), (32, .pv (I64 i))], [[.pv (I64 o.st), .pv (I64 o.kd), .pv (I64 o.ini), .pv (.seq false 4 (o.rows.map rrow))], [.pv (I64 N), .pv (I64 M)], [.pv (I64 N), .pv (I64 M)]]⟩) (fun i => i ≤ ops.length) (fun i => ops.length - i) 0 ?_ ?_ ?_
  · exact (Weak.nilOwn (s := 8) 1 true (by simp)).trans (Weak.to (by simp [movTo, robj, ovec]) (by simp) (by simp) (by simp [robj, ovec]) (by simp))
  · omega
  · intro i hi
    by_cases h : i < ops.length
    · have hw : w64 ((i : Int) + 1) = ((i + 1 : Nat) : Int) := by rw [w64_id (by omega) (by omega)]; omega
      have hlt := movTo_length o N M N M ops i hi
      have hlt2 : i * (1 + N * (M * 2)) ≤ 64 * (1 + 64 * (32 * 2)) := Nat.mul_le_mul (by omega) (by omega)
      have hmay := fun b => may2_ok o ops[i] b hl
      simp only [robj, orow] at hmay
      simp [h, ovec, orow, robj]
      refine CallB.introP (name3_ok N M 2 i 0) (by simp) (by simp) ?_
      simp
      have hmh : (movH N M ops[i] i).length ≤ 1 := by unfold movH; split <;> simp
      refine ⟨fun he => ⟨by omega, ?_⟩, fun he => ?_⟩
      all_goals
        refine ALoop.intro (S := fun (k : Nat) => ⟨[(8, .own true 1 ((movTo o N M N M ops i ++ (movH N M ops[i] i ++ movI o N M ops[i] M i k)).map crow)), (9, .pv (I64 i)), (10, .pv (.ptr 3 0)), (11, .pv (I64 (varS N M 2 i 0))), (49, .pv (I64 N)), (50, .pv (I64 k)), (6, .pv (.fn (.func 78) [] [.ptr 2 0])), (7, .pv (.fn (.func 61) [robj o] [])), (5, .pv (.ptr 1 0)), (30, .pv (ovec ops)), (31, .pv (I64 ops.length)), (32, .pv (I64 i))], [[.pv (I64 o.st), .pv (I64 o.kd), .pv (I64 o.ini), .pv (.seq false 4 (o.rows.map rrow))], [.pv (I64 N), .pv (I64 M)], [.pv (I64 N), .pv (I64 M)], [.pv (I64 ops[i].p), .pv (I64 ops[i].k), .pv (I64 ops[i].s), .pv (I64 ops[i].e), .pv (I64 ops[i].r)]]⟩) (fun k => k ≤ N) (fun k => N - k) 0 ?_ ?_ ?_
        · exact Weak.to (by simp [movH, movI, he, robj, ovec, crow, irow]) (by simp) (by simp) (by simp [robj, ovec]) (by simp)
        · omega
        · intro k hk
          by_cases h2 : k < N
          · have hw2 : w64 ((k : Int) + 1) = ((k + 1 : Nat) : Int) := by rw [w64_id (by omega) (by omega)]; omega
            have hli := movI_length o N M ops[i] M i k
            have hli2 : k * (M * 2) ≤ 64 * (32 * 2) := Nat.mul_le_mul (by omega) (by omega)
            simp [h2, ovec, robj]
            refine ALoop.intro (S := fun (b : Nat) => ⟨[(8, .own true 1 ((movTo o N M N M ops i ++ (movH N M ops[i] i ++ (movI o N M ops[i] M i k ++ movK o N M ops[i] i k b))).map crow)), (9, .pv (I64 i)), (10, .pv (.ptr 3 0)), (11, .pv (I64 (varS N M 2 i 0))), (12, .pv (I64 k)), (54, .pv (I64 M)), (55, .pv (I64 b)), (49, .pv (I64 N)), (50, .pv (I64 k)), (6, .pv (.fn (.func 78) [] [.ptr 2 0])), (7, .pv (.fn (.func 61) [robj o] [])), (5, .pv (.ptr 1 0)), (30, .pv (ovec ops)), (31, .pv (I64 ops.length)), (32, .pv (I64 i))], [[.pv (I64 o.st), .pv (I64 o.kd), .pv (I64 o.ini), .pv (.seq false 4 (o.rows.map rrow))], [.pv (I64 N), .pv (I64 M)], [.pv (I64 N), .pv (I64 M)], [.pv (I64 ops[i].p), .pv (I64 ops[i].k), .pv (I64 ops[i].s), .pv (I64 ops[i].e), .pv (I64 ops[i].r)]]⟩) (fun b => b ≤ M) (fun b => M - b) 0 ?_ ?_ ?_
            · exact Weak.to (by simp [movK, robj, ovec]) (by simp) (by simp) (by simp [robj, ovec]) (by simp)
            · omega
            · intro b hb
              by_cases h3 : b < M
              · have hw3 : w64 ((b : Int) + 1) = ((b + 1 : Nat) : Int) := by rw [w64_id (by omega) (by omega)]; omega
                have hlk := movK_length o N M ops[i] i k b
                have hmb := hmay b
                simp [h3, ovec, robj]
                refine CallB.introP (name3_ok N M 1 i k) (by simp) (by simp) ?_
                simp
                refine CallB.introP (name3_ok N M 3 k b) (by simp) (by simp) ?_
                simp
                have hwk : w64 ((k : Int) + 1) = (k : Int) + 1 := w64_id (by omega) (by omega)
                cases hms : mayS o ops[i] b with
                | none =>
                  rw [hms] at hmb
                  simp only [mayPV] at hmb
                  refine CallK.intro hmb (by simp) ?_
                  simp [he]
                  first
                    | refine ⟨by omega, b + 1, by dsimp only; omega, by dsimp only; omega, Weak.to ?_ (by simp) (by simp) (by simp [robj, ovec]) (by simp)⟩
                      simp [hw3, movK_succ, movB, hms, optL, he, crow, irow, robj, ovec]
                    | refine ⟨by omega, ?_⟩
                      simp [hwk]
                      refine CallB.introP (name3_ok N M 3 (k + 1) b) (by simp) (by simp) ?_
                      simp
                      refine ⟨by omega, b + 1, by dsimp only; omega, by dsimp only; omega, Weak.to ?_ (by simp) (by simp) (by simp [robj, ovec]) (by simp)⟩
                      simp [hw3, movK_succ, movB, hms, optL, he, crow, irow, robj, ovec]
                | some y =>
                  rw [hms] at hmb
                  simp only [mayPV] at hmb
                  refine CallK.intro hmb (by simp) ?_
                  simp [hwk]
                  refine CallB.introP (name3_ok N M 3 (k + 1) y) (by simp) (by simp) ?_
                  simp [he]
                  first
                    | refine ⟨by omega, b + 1, by dsimp only; omega, by dsimp only; omega, Weak.to ?_ (by simp) (by simp) (by simp [robj, ovec]) (by simp)⟩
                      simp [hw3, movK_succ, movB, hms, optL, he, crow, irow, robj, ovec]
                    | refine ⟨by omega, ?_⟩
                      simp [hwk]
                      refine CallB.introP (name3_ok N M 3 (k + 1) b) (by simp) (by simp) ?_
                      simp
                      refine ⟨by omega, b + 1, by dsimp only; omega, by dsimp only; omega, Weak.to ?_ (by simp) (by simp) (by simp [robj, ovec]) (by simp)⟩
                      simp [hw3, movK_succ, movB, hms, optL, he, crow, irow, robj, ovec]
              · simp [h3]
                have : b = M := by omega
                subst this
                refine ⟨k + 1, by dsimp only; omega, by dsimp only; omega, Weak.to ?_ (by simp) (by simp) (by simp [robj, ovec]) (by simp)⟩
                simp [hw2, movI_succ, robj, ovec]
          · simp [h2]
            have hkN : k = N := by omega
            refine ⟨i + 1, by dsimp only; omega, by dsimp only; omega, Weak.to ?_ (by simp) (by simp) (by simp [robj, ovec]) (by simp)⟩
            simp [hw, movTo_succ _ _ _ _ _ h, hkN, robj, ovec]
    · simp [h, ovec, robj]
      have : i = ops.length := by omega
      rw [this, hNl]

end Go.AX

namespace Go.AX
open Go.Proofs

/-! ### Lists that are the same -/
@[simp] theorem belowR_crowF (k : Nat) (l : List (List Int)) : belowR k (l.map crowF) := by
  rw [belowR_iff]; intro r hr x hx
  obtain ⟨o, _, rfl⟩ := List.mem_map.1 hr
  simp [crowF] at hx; subst hx; exact belowR_irow k o
@[simp] theorem frzR_crowF (r : Nat → Nat → PV) (l : List (List Int)) : frzR r (l.map crowF) = l.map crowF := by
  rw [frzR_map, List.map_map]
  apply List.map_congr_left
  intro x _
  simp [crowF]
theorem eq_of_get {α : Type} {a b : List α} (hl : a.length = b.length) (h : ∀ j (h1 : j < a.length), a[j] = b[j]'(hl ▸ h1)) : a = b := List.ext_getElem hl fun j h1 _ => h j h1

theorem sameInts_ok (a b : List Int) (hl : a.length ≤ 140737488355328) : APure Tryz.prog 24 [.seq false 1 (irow a), .seq false 1 (irow b)] (fun r => r = .pv (BL (decide (a = b)))) := by
  refine apure1 hmo Tryz.func24 (by kernel_rfl) rfl rfl (by kernel_rfl) (Nat.le_of_ble_eq_true rfl) ?_
  simp
  refine ⟨fun h => fun e => h (by rw [e]), fun h => ?_⟩
  have hl2 : a.length = b.length := by omega
  refine ALoop.intro (S := fun (i : Nat) => ⟨[(0, .pv (.seq false 1 (irow a))), (1, .pv (.seq false 1 (irow b))), (5, .pv (I64 i))], []⟩) (fun i => i ≤ a.length ∧ ∀ j (h1 : j < a.length), j < i → a[j] = b[j]'(hl2 ▸ h1)) (fun i => a.length - i) 0 ?_ ?_ ?_
  · exact Weak.to (by simp) rfl (by simp) (by simp) (by simp)
  · exact ⟨by omega, fun j _ hj => by omega⟩
  · intro i ⟨hi, ho⟩
    by_cases h3 : i < a.length
    · have hw : w64 ((i : Int) + 1) = ((i + 1 : Nat) : Int) := by rw [w64_id (by omega) (by omega)]; omega
      have h4 : i < b.length := by omega
      simp [h3, h4]
      refine ⟨fun c => fun e => c (by subst e; rfl), fun c => ⟨i + 1, by dsimp only; omega, ⟨by omega, fun j h1 hj => ?_⟩, Weak.to ?_ rfl (by simp) (by simp) (by simp)⟩⟩
      · by_cases e : j = i
        · subst e; exact c
        · exact ho j h1 (by omega)
      · simp [hw]
    · simp [h3]
      exact eq_of_get hl2 fun j h1 => ho j h1 (by omega)

theorem sameRows_ok (a b : List (List Int)) (hl : a.length ≤ 140737488355328) (hr : ∀ x ∈ a, x.length ≤ 140737488355328) : APure Tryz.prog 9 [.seq false 1 (a.map crowF), .seq false 1 (b.map crowF)] (fun r => r = .pv (BL (decide (a = b)))) := by
  refine apure1 hmo Tryz.func9 (by kernel_rfl) rfl rfl (by kernel_rfl) (Nat.le_of_ble_eq_true rfl) ?_
  simp
  refine ⟨fun h => fun e => h (by rw [e]), fun h => ?_⟩
  have hl2 : a.length = b.length := by omega
  refine ALoop.intro (S := fun (i : Nat) => ⟨[(0, .pv (.seq false 1 (a.map crowF))), (1, .pv (.seq false 1 (b.map crowF))), (5, .pv (I64 i))], []⟩) (fun i => i ≤ a.length ∧ ∀ j (h1 : j < a.length), j < i → a[j] = b[j]'(hl2 ▸ h1)) (fun i => a.length - i) 0 ?_ ?_ ?_
  · exact Weak.to (by simp) rfl (by simp) (by simp) (by simp)
  · exact ⟨by omega, fun j _ hj => by omega⟩
  · intro i ⟨hi, ho⟩
    by_cases h3 : i < a.length
    · have hw : w64 ((i : Int) + 1) = ((i + 1 : Nat) : Int) := by rw [w64_id (by omega) (by omega)]; omega
      have h4 : i < b.length := by omega
      simp [h3, h4, crowF]
      refine CallQ0.intro (sameInts_ok a[i] b[i] (hr _ (List.getElem_mem h3))) (by simp) ?_
      simp
      refine ⟨fun c => fun e => c (by subst e; rfl), fun c => ⟨i + 1, by dsimp only; omega, ⟨by omega, fun j h1 hj => ?_⟩, Weak.to ?_ rfl (by simp) (by simp) (by simp)⟩⟩
      · by_cases e : j = i
        · subst e; exact c
        · exact ho j h1 (by omega)
      · simp [hw, crowF]
    · simp [h3]
      exact eq_of_get hl2 fun j h1 => ho j h1 (by omega)

/-! ### Where a number stands -/
def posS (l : List Int) (n : Int) : Int := idxS (fun x => decide (x = n)) l
theorem posS_nn (l : List Int) (n : Int) : 0 ≤ posS l n ↔ n ∈ l := by
  unfold posS idxS
  cases h : l.findIdx? (fun x => decide (x = n)) with
  | none =>
    rw [List.findIdx?_eq_none_iff] at h
    refine ⟨fun h2 => absurd h2 (by decide), fun h2 => by have := h n h2; simp at this⟩
  | some i =>
    rw [List.findIdx?_eq_some_iff_getElem] at h
    obtain ⟨h1, h2, _⟩ := h
    refine ⟨fun _ => ?_, fun _ => by dsimp only; omega⟩
    have : l[i] = n := by simpa using h2
    exact this ▸ List.getElem_mem h1

theorem index_ok (l : List Int) (n : Int) (hl : l.length ≤ 140737488355328) : APure Tryz.prog 67 [.seq false 1 (irow l), I64 n] (fun r => r = .pv (I64 (posS l n))) := by
  refine apure1 hmo Tryz.func67 (by kernel_rfl) rfl rfl (by kernel_rfl) (Nat.le_of_ble_eq_true rfl) ?_
  simp
  refine ALoop.intro (S := fun (i : Nat) => ⟨[(0, .pv (.seq false 1 (irow l))), (1, .pv (I64 n)), (7, .pv (I64 l.length)), (8, .pv (I64 i))], []⟩) (fun i => i ≤ l.length ∧ ∀ j (hj : j < l.length), j < i → (fun x => decide (x = n)) l[j] = false) (fun i => l.length - i) 0 ?_ ?_ ?_
  · exact Weak.to (by simp) rfl (by simp) (by simp) (by simp)
  · exact ⟨by omega, fun j hj h => by omega⟩
  · intro i ⟨hi, ho⟩
    by_cases h : i < l.length
    · have hw : w64 ((i : Int) + 1) = ((i + 1 : Nat) : Int) := by rw [w64_id (by omega) (by omega)]; omega
      simp [h]
      refine ⟨fun c => by rw [posS, idxS_at h ho (by simpa using c.symm)], fun c => ⟨i + 1, by dsimp only; omega, ⟨by omega, fun j hj hji => ?_⟩, Weak.to ?_ rfl (by simp) (by simp) (by simp)⟩⟩
      · by_cases e : j = i
        · subst e; simpa using fun e => c e.symm
        · simpa using ho j hj (by omega)
      · simp [hw]
    · simp [h]
      rw [posS, idxS_none (fun j hj => ho j hj (by omega))]

theorem contains_ok (l : List Int) (n : Int) (hl : l.length ≤ 140737488355328) : APure Tryz.prog 81 [.seq false 1 (irow l), I64 n] (fun r => r = .pv (BL (decide (n ∈ l)))) := by
  refine apure1 hmo Tryz.func81 (by kernel_rfl) rfl rfl (by kernel_rfl) (Nat.le_of_ble_eq_true rfl) ?_
  simp
  refine CallK.intro (index_ok l n hl) (by simp) ?_
  simp [posS_nn]

/-! ### Closed objects and operations -/
def oneO : Obj := ⟨1, 1, 0, [⟨0, 0, 0, 7⟩]⟩
/-! ### May, proper -/
theorem mayM_ok (o : Obj) (x : Op5) (state : Int) (hl : o.rows.length ≤ 140737488355328) : APure Tryz.prog 65 [robj o, .agg (orow x), I64 state] (fun r => r = .pv (mayPV (mayS o x state))) := by
  refine apureN [6, 7] hmo Tryz.func65 (by kernel_rfl) rfl (fun _ _ => results_tmp2 rfl _ _ _) (by kernel_rfl) (Nat.le_of_ble_eq_true rfl) ?_
  have h := may2_ok o x state hl
  simp only [robj, orow] at h
  cases hm : mayS o x state <;> rw [hm] at h <;> simp only [mayPV] at h
  all_goals
    simp [robj, orow]
    refine CallK.intro h (by simp) ?_
    simp [mayPV]

def brow (l : List Bool) : List (List PV) := l.map fun b => [BL b]
@[simp] theorem brow_length (l : List Bool) : (brow l).length = l.length := by simp [brow]
@[simp] theorem belowR_brow (k : Nat) (l : List Bool) : belowR k (brow l) := by
  rw [belowR_iff]; intro r hr x hx
  obtain ⟨o, _, rfl⟩ := List.mem_map.1 hr
  simp at hx; subst hx; trivial
@[simp] theorem frzR_brow (r : Nat → Nat → PV) (l : List Bool) : frzR r (brow l) = brow l := by
  rw [brow, frzR_map, List.map_map]; congr 1
@[simp] theorem brow_get (l : List Bool) (i : Nat) : (brow l)[i]? = l[i]?.map fun n => [BL n] := by simp [brow]
@[simp] theorem brow_elem (l : List Bool) (i : Nat) (h : i < (brow l).length) : (brow l)[i]'h = [BL (l[i]'(by simpa using h))] := by simp [brow]

def properAt (ops : List Op5) (order : List Int) (inn : List Bool) (i : Nat) : Prop := (i : Int) ∈ order ∧ ((ops.getD i default).e ≠ -1 → inn.getD i false = true)
instance (ops : List Op5) (order : List Int) (inn : List Bool) (i : Nat) : Decidable (properAt ops order inn i) := by unfold properAt; infer_instance
def playOk (ops : List Op5) (order : List Int) (inn : List Bool) : Bool := decide (order.length = ops.length ∧ inn.length = ops.length ∧ ∀ i, i < ops.length → properAt ops order inn i)

set_option maxRecDepth 8000 in
theorem properM_ok (ops : List Op5) (order : List Int) (inn : List Bool) (hl : ops.length ≤ 140737488355328) : APure Tryz.prog 64 [ovec ops, .seq false 1 (irow order), .seq false 1 (brow inn)] (fun r => r = .pv (BL (playOk ops order inn))) := by
  refine apure1 hmo Tryz.func64 (by kernel_rfl) rfl rfl (by kernel_rfl) (Nat.le_of_ble_eq_true rfl) ?_
  simp [ovec]
  refine ⟨fun h => ?_, fun h1 h2 => ?_⟩
  · simp only [playOk, decide_eq_false_iff_not]; omega
  have h1 : order.length = ops.length := by omega
  have h2 : inn.length = ops.length := by omega
  have hP : ∀ (b : Bool), ((∀ i, i < ops.length → properAt ops order inn i) ↔ b = true) → playOk ops order inn = b := by
    intro b hb
    cases b <;> simp only [playOk, h1, h2, true_and, decide_eq_true_eq, decide_eq_false_iff_not] <;> simpa using hb
  refine ALoop.intro (S := fun (i : Nat) => ⟨[(0, .pv (.seq false 5 (ops.map orow))), (1, .pv (.seq false 1 (irow order))), (2, .pv (.seq false 1 (brow inn))), (21, .pv (.seq false 5 (ops.map orow))), (22, .pv (I64 ops.length)), (23, .pv (I64 i))], []⟩) (fun i => i ≤ ops.length ∧ ∀ j, j < i → properAt ops order inn j) (fun i => ops.length - i) 0 ?_ ?_ ?_
  · exact Weak.to (by simp) rfl (by simp) (by simp) (by simp)
  · exact ⟨by omega, fun j hj => by omega⟩
  · intro i ⟨hi, ho⟩
    by_cases h : i < ops.length
    · have hw : w64 ((i : Int) + 1) = ((i + 1 : Nat) : Int) := by rw [w64_id (by omega) (by omega)]; omega
      have h3 : i < inn.length := by omega
      have hg : ops.getD i default = ops[i] := by simp [h]
      have hg2 : inn.getD i false = inn[i] := by simp [h3]
      simp [h, orow]
      refine CallK.intro (contains_ok order i (by omega)) (by simp) ?_
      simp [h3]
      refine ⟨fun c => ⟨c, fun c2 => ⟨c, c2⟩⟩, fun c => hP false ?_, fun c c2 => ⟨i + 1, by dsimp only; omega, ⟨by omega, fun j hj => ?_⟩, Weak.to ?_ (by simp) (by simp) (by simp) (by simp)⟩⟩
      · simp
        refine ⟨i, h, fun hh => ?_⟩
        unfold properAt at hh
        rw [hg, hg2] at hh
        grind
      · by_cases e : j = i
        · subst e
          unfold properAt
          rw [hg, hg2]
          grind
        · exact ho j (by omega)
      · simp [hw, orow]
    · simp [h]
      refine hP true ?_
      simp
      exact fun j hj => ho j (by omega)

end Go.AX

namespace Go.AX
open Go.Proofs

theorem len_of_sub {α : Type} [DecidableEq α] : ∀ (l m : List α), l.Nodup → (∀ x ∈ l, x ∈ m) → l.length ≤ m.length
  | [], _, _, _ => Nat.zero_le _
  | x :: l, m, hn, hs => by
    have hx := hs x List.mem_cons_self
    obtain ⟨h1, h2⟩ := List.nodup_cons.1 hn
    have := len_of_sub l (m.erase x) h2 (fun y hy => (List.mem_erase_of_ne (fun e => h1 (by rw [← e]; exact hy))).2 (hs y (List.mem_cons_of_mem _ hy)))
    rw [List.length_erase_of_mem hx] at this
    have hp := List.length_pos_of_mem hx
    simp only [List.length_cons]; omega
theorem range_all {n : Nat} {order : List Int} (hl : order.length = n) (h : ∀ i : Nat, i < n → (i : Int) ∈ order) : ∀ x ∈ order, 0 ≤ x ∧ x < n := by
  intro x hx
  apply Classical.byContradiction
  intro hc
  let r : List Int := (List.range n).map Int.ofNat
  have hr : ∀ y ∈ r, 0 ≤ y ∧ y < n := by
    intro y hy
    obtain ⟨i, hi, rfl⟩ := List.mem_map.1 hy
    have := List.mem_range.1 hi
    simp; omega
  have hnd : r.Nodup := by
    show List.Pairwise _ _
    rw [List.pairwise_map]
    exact (List.nodup_range (n := n)).imp fun h e => h (Int.ofNat.inj e)
  have := len_of_sub (x :: r) order (List.nodup_cons.2 ⟨fun hm => hc (hr x hm), hnd⟩) (by
    intro y hy
    rcases List.mem_cons.1 hy with rfl | hy
    · exact hx
    · obtain ⟨i, hi, rfl⟩ := List.mem_map.1 hy
      exact h i (List.mem_range.1 hi))
  simp [r] at this
  omega

theorem sizeP_all {o : Obj} {ops : List Op5} (h : sizeOk (sizeP o ops).1 (sizeP o ops).2 = true) : (objChk o).2 = 0 ∧ (chk ops).2 = 0 ∧ sizeP o ops = ((ops.length : Int), o.st) ∧ ops.length ≤ 64 ∧ 1 ≤ o.st ∧ o.st ≤ 32 := by
  unfold sizeP at h ⊢
  split at h
  · rename_i hc
    have := sizeOk_iff.1 h
    dsimp only at this
    exact ⟨hc.1, hc.2, by rw [if_pos hc], by omega, by omega, by omega⟩
  · cases h
theorem sizeP_zero {o : Obj} {ops : List Op5} (h : sizeOk (sizeP o ops).1 (sizeP o ops).2 = false) : ¬ sizeOk (sizeP o ops).1 (sizeP o ops).2 = true := by simp [h]

def playStep (o : Obj) (ops : List Op5) (inn : List Bool) (x : Nat) (out : List Int) : Option (List Int) :=
  if inn.getD x false then (mayS o (ops.getD x default) (out.getLastD 0)).map fun y => out ++ [y] else some (out ++ [out.getLastD 0])
def playTo (o : Obj) (ops : List Op5) (order : List Int) (inn : List Bool) : Nat → Option (List Int)
  | 0 => some [o.ini]
  | k + 1 => (playTo o ops order inn k).bind (playStep o ops inn (order.getD k 0).toNat)
def playS (o : Obj) (ops : List Op5) (order : List Int) (inn : List Bool) : Option (List Int) :=
  if sizeOk (sizeP o ops).1 (sizeP o ops).2 = true ∧ playOk ops order inn = true then playTo o ops order inn ops.length else none
def playPV (q : Bool) : Option (List Int) → PV
  | some l => .tup [.seq q 1 (irow l), BL true]
  | none => .tup [.lit (.slice none 0 0), BL false]
theorem playTo_none {o : Obj} {ops : List Op5} {order : List Int} {inn : List Bool} {k : Nat} (h : playTo o ops order inn k = none) : ∀ m, k ≤ m → playTo o ops order inn m = none
  | 0, hm => by rw [Nat.le_zero.1 hm] at h; exact h
  | m + 1, hm => by
    rcases Nat.lt_or_ge m k with h1 | h1
    · have : k = m + 1 := by omega
      exact this ▸ h
    · simp [playTo, playTo_none h m h1]
theorem playTo_length {o : Obj} {ops : List Op5} {order : List Int} {inn : List Bool} : ∀ {k : Nat} {out : List Int}, playTo o ops order inn k = some out → out.length = k + 1
  | 0, out, h => by cases h; rfl
  | k + 1, out, h => by
    simp only [playTo, Option.bind_eq_some_iff] at h
    obtain ⟨p, hp, h⟩ := h
    have := playTo_length hp
    unfold playStep at h
    split at h
    · simp only [Option.map_eq_some_iff] at h
      obtain ⟨y, _, rfl⟩ := h
      simp [this]
    · cases h; simp [this]
theorem playOk_iff {ops : List Op5} {order : List Int} {inn : List Bool} : playOk ops order inn = true ↔ order.length = ops.length ∧ inn.length = ops.length ∧ ∀ i, i < ops.length → properAt ops order inn i := by simp [playOk]

set_option maxRecDepth 8000 in
theorem playM_ok (o : Obj) (ops : List Op5) (order : List Int) (inn : List Bool) (hl : o.rows.length ≤ 140737488355328) (hl2 : ops.length ≤ 140737488355328) : APure Tryz.prog 34 [robj o, ovec ops, .seq false 1 (irow order), .seq false 1 (brow inn)] (fun r => r = .pv (playPV true (playS o ops order inn))) := by
  refine apureN [8, 9] hmo Tryz.func34 (by kernel_rfl) rfl (fun _ _ => results_tmp2 rfl _ _ _) (by kernel_rfl) (Nat.le_of_ble_eq_true rfl) ?_
  have hsz := size_ok o ops hl hl2
  have hpr := properM_ok ops order inn hl2
  simp only [robj, ovec] at hsz hpr
  simp [robj, ovec]
  refine CallK.intro hsz (by simp) ?_
  simp
  refine CallK.intro (check_ok _ _) (by simp) ?_
  simp
  refine CallG.intro (r := .pv (BL (playOk ops order inn))) (fun _ => hpr) (by simp) ?_
  simp
  refine ⟨fun c => ?_, fun c1 c2 => ?_⟩
  · have : playS o ops order inn = none := by
      unfold playS
      rw [if_neg]
      rintro ⟨h1, h2⟩
      simp [h1, h2] at c
    simp [this, playPV]
  obtain ⟨hl4, hl5, hpa⟩ := playOk_iff.1 c2
  have h64 := (sizeP_all c1).2.2.2.1
  have hin := range_all hl4 fun i hi => (hpa i hi).1
  have hS : playS o ops order inn = playTo o ops order inn ops.length := by rw [playS, if_pos ⟨c1, c2⟩]
  rw [hS]
  refine ALoop.intro (S := fun (i : Nat) => ⟨[(10, .own true 1 (irow ((playTo o ops order inn i).getD []))), (4, .pv (.ptr 0 0)), (1, .pv (.seq false 5 (ops.map orow))), (3, .pv (.seq false 1 (brow inn))), (31, .pv (.seq false 1 (irow order))), (32, .pv (I64 order.length)), (33, .pv (I64 i))], [[.pv (I64 o.st), .pv (I64 o.kd), .pv (I64 o.ini), .pv (.seq false 4 (o.rows.map rrow))]]⟩) (fun i => i ≤ ops.length ∧ (playTo o ops order inn i).isSome = true) (fun i => ops.length - i) 0 ?_ ?_ ?_
  · exact Weak.to (by simp [playTo, irow]) (by simp) (by simp) (by simp) (by simp)
  · exact ⟨by omega, rfl⟩
  · intro i ⟨hi, ho⟩
    obtain ⟨out, hout⟩ := Option.isSome_iff_exists.1 ho
    have hlen := playTo_length hout
    by_cases h : i < ops.length
    · have hw : w64 ((i : Int) + 1) = ((i + 1 : Nat) : Int) := by rw [w64_id (by omega) (by omega)]; omega
      have hwi : w64 (i : Int) = (i : Int) := w64_id (by omega) (by omega)
      have h3 : i < order.length := by omega
      have h4 : i < out.length := by omega
      obtain ⟨j, hj⟩ := Int.eq_ofNat_of_zero_le (hin order[i] (List.getElem_mem h3)).1
      have hj' : order[i] = (j : Int) := hj
      have hjn : j < ops.length := by have := (hin order[i] (List.getElem_mem h3)).2; omega
      have hjn2 : j < inn.length := by omega
      have hlast : out.getLast?.getD 0 = out[i] := by
        rw [List.getLast?_eq_getElem?]
        simp [hlen]
      have hstep : playTo o ops order inn (i + 1) = playStep o ops inn j out := by
        simp [playTo, hout, h3, hj']
      have hmay := mayM_ok o ops[j] out[i] hl
      simp only [robj, orow] at hmay
      simp [h3, hout, hlen, hwi, hj', hjn2]
      refine ⟨by omega, fun c => ?_, fun c => ?_⟩
      · cases hms : mayS o ops[j] out[i] with
        | none =>
          rw [hms] at hmay
          simp only [mayPV] at hmay
          simp [hjn, orow]
          refine CallQ0.intro hmay (by simp) ?_
          simp
          have : playTo o ops order inn ops.length = none := by
            refine playTo_none (k := i + 1) ?_ _ (by omega)
            rw [hstep]; simp [playStep, hjn, hjn2, c, hlast, hms]
          simp [this, playPV]
        | some y =>
          rw [hms] at hmay
          simp only [mayPV] at hmay
          simp [hjn, orow]
          refine CallQ0.intro hmay (by simp) ?_
          simp
          have : playTo o ops order inn (i + 1) = some (out ++ [y]) := by
            rw [hstep]; simp [playStep, hjn, hjn2, c, hlast, hms]
          refine ⟨by omega, i + 1, by dsimp only; omega, ⟨by omega, by rw [this]; rfl⟩, Weak.to ?_ (by simp) (by simp) (by simp) (by simp)⟩
          simp [hw, this, irow, orow]
      · have : playTo o ops order inn (i + 1) = some (out ++ [out[i]]) := by
          rw [hstep]; simp [playStep, hjn2, c, hlast]
        refine ⟨by omega, i + 1, by dsimp only; omega, ⟨by omega, by rw [this]; rfl⟩, Weak.to ?_ (by simp) (by simp) (by simp) (by simp)⟩
        simp [hw, this, irow, orow]
    · have h3 : ¬ i < order.length := by omega
      have : i = ops.length := by omega
      subst this
      simp [h3, hout, playPV]

end Go.AX

namespace Go.AX
open Go.Proofs
set_option linter.unusedSimpArgs false

def marks (V : Nat) (idx : List Nat) : List Bool := (List.range V).map fun j => decide (j ∈ idx)
@[simp] theorem marks_length (V : Nat) (idx : List Nat) : (marks V idx).length = V := by simp [marks]
theorem marks_nil (V : Nat) : marks V [] = List.replicate V false := by
  apply List.ext_getElem <;> simp [marks]
theorem marks_set (V : Nat) (idx : List Nat) {i : Nat} : (marks V idx).set i true = marks V (idx ++ [i]) := by
  apply List.ext_getElem
  · simp [marks]
  · intro j h1 h2
    simp [marks, List.getElem_set]
    by_cases e : i = j
    · simp [e]
    · have e2 : ¬ j = i := fun h => e h.symm
      simp [e, e2]
theorem brow_set (l : List Bool) (i : Nat) (b : Bool) : (brow l).set i [BL b] = brow (l.set i b) := by simp [brow, List.map_set]
theorem brow_false (V : Nat) : List.replicate V [BL false] = brow (marks V []) := by rw [marks_nil]; simp [brow]
@[simp] theorem nwR_brow (l : List Bool) : nwR (brow l) := by
  rw [nwR_iff]; intro r hr
  obtain ⟨o, _, rfl⟩ := List.mem_map.1 hr
  exact ⟨trivial, trivial⟩
theorem irow_take (l : List Int) (i : Nat) : List.take i (irow l) = irow (l.take i) := by simp [irow, List.map_take]

def truthsPV (q : Bool) : Option (List Bool) → PV
  | some l => .tup [.seq q 1 (brow l), BL true]
  | none => .tup [.lit (.slice none 0 0), BL false]
def markAt (n m k a b : Int) : Nat := (varS n m k a b - 1).toNat
theorem varsN_eq {n m : Int} (h : sizeOk n m = true) : varsN n m = n * n + n + (n + 1) * m ∧ 0 ≤ n * n ∧ n * n ≤ 4096 ∧ 0 ≤ (n + 1) * m ∧ (n + 1) * m ≤ 65 * 32 := by
  have hs := sizeOk_iff.1 h
  have h8 : 0 ≤ n * n := Int.mul_nonneg hs.1 hs.1
  have h9 : n * n ≤ 64 * 64 := Int.mul_le_mul hs.2.1 hs.2.1 hs.1 (by omega)
  have ha : 0 ≤ (n + 1) * m := Int.mul_nonneg (by omega) (by omega)
  have hb : (n + 1) * m ≤ 65 * 32 := Int.mul_le_mul (by omega) (by omega) (by omega) (by omega)
  exact ⟨w64_id (by omega) (by omega), h8, h9, ha, hb⟩
theorem mark_in {n m k a b : Int} (h : varOk n m k a b = true) : varS n m k a b = (markAt n m k a b : Int) + 1 ∧ (markAt n m k a b : Int) < varsN n m := by
  have hb := block_small h
  have hv : varS n m k a b = blockFrom n k + a * blockWide n m k + b + 1 := by rw [varS, if_pos h]
  obtain ⟨h1, h2, h3, h4, h5, h6, h7⟩ := varOk_iff.1 h
  obtain ⟨e1, e2, e3, e4, e5⟩ := varsN_eq h1
  have hs := sizeOk_iff.1 h1
  have hlt : blockFrom n k + a * blockWide n m k + b < varsN n m := by
    rw [e1]
    have hk : k = 1 ∨ k = 2 ∨ k = 3 := by omega
    rcases hk with rfl | rfl | rfl
    · simp [blockFrom, blockWide, blockTall] at h5 h7 ⊢
      have := Int.mul_le_mul_of_nonneg_right (show a ≤ n - 1 by omega) hs.1
      rw [Int.sub_mul] at this
      omega
    · simp [blockFrom, blockWide, blockTall] at h5 h7 ⊢
      omega
    · simp [blockFrom, blockWide, blockTall] at h5 h7 ⊢
      have := Int.mul_le_mul_of_nonneg_right (show a ≤ n by omega) (show 0 ≤ m by omega)
      rw [Int.add_mul, Int.one_mul]
      omega
  unfold markAt
  omega

def plIdx (n m : Int) (order : List Int) (k : Nat) : List Nat := (List.range k).map fun (j : Nat) => markAt n m 1 (order.getD j 0) j
def plAt (n : Int) (order : List Int) (k : Nat) : Prop := 0 ≤ order.getD k 0 ∧ order.getD k 0 < n ∧ ¬ order.getD k 0 ∈ order.take k
instance (n : Int) (order : List Int) (k : Nat) : Decidable (plAt n order k) := by unfold plAt; infer_instance
def plS (n m : Int) (order : List Int) : Option (List Bool) :=
  if sizeOk n m = true ∧ (order.length : Int) = n ∧ ∀ k, k < order.length → plAt n order k then some (marks (varsN n m).toNat (plIdx n m order order.length)) else none

theorem atS_ok (n m a b : Int) : APure Tryz.prog 57 [.agg [I64 n, I64 m], I64 a, I64 b] (fun r => r = .pv (I64 (varS n m 3 a b))) := by
  refine apure1 hmo Tryz.func57 (by kernel_rfl) rfl rfl (by kernel_rfl) (Nat.le_of_ble_eq_true rfl) ?_
  simp
  refine CallK.intro (var_ok n m 3 a b) (by simp) ?_
  simp

def stIdx (n m : Int) (row : List Int) (k : Nat) : List Nat := (List.range k).map fun (j : Nat) => markAt n m 3 j (row.getD j 0)
def stAt (m : Int) (row : List Int) (k : Nat) : Prop := 0 ≤ row.getD k 0 ∧ row.getD k 0 < m
instance (m : Int) (row : List Int) (k : Nat) : Decidable (stAt m row k) := by unfold stAt; infer_instance
def stS (n m : Int) (row : List Int) : Option (List Bool) :=
  if sizeOk n m = true ∧ (row.length : Int) = n + 1 ∧ ∀ k, k < row.length → stAt m row k then some (marks (varsN n m).toNat (stIdx n m row row.length)) else none

end Go.AX
