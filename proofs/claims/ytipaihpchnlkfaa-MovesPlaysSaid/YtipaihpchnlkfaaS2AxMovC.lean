/-
  Contracts: clauses of moves.
-/
import Derived.Test.YtipaihpchnlkfaaS2AxMovB
import Derived.Test.YtipaihpchnlkfaaS2AxCntH
namespace Go.AX
open Go.Proofs

def sizeP (o : Obj) (ops : List Op5) : Int × Int := if (objChk o).2 = 0 ∧ (chk ops).2 = 0 then ((ops.length : Int), o.st) else (0, 0)
set_option maxRecDepth 8000 in
theorem size_ok (o : Obj) (ops : List Op5) (hl : o.rows.length ≤ 140737488355328) (hl2 : ops.length ≤ 140737488355328) : APure Try.prog 17 [robj o, ovec ops] (fun r => r = .pv (.agg [I64 (sizeP o ops).1, I64 (sizeP o ops).2])) := by
  refine apureC hmo Try.func17 (by kernel_rfl) rfl rfl (by kernel_rfl) (Nat.le_of_ble_eq_true rfl) ?_
  have h1 := objChk_ok o hl
  simp only [robj] at h1
  simp [robj, ovec]
  refine CallK.intro h1 (by simp) ?_
  simp
  refine CallK.intro (chk_okC ops hl2) (by simp) ?_
  simp
  refine ⟨fun c => ?_, fun c1 c2 => by simp [sizeP, c1, c2]⟩
  have : ¬ ((objChk o).2 = 0 ∧ (chk ops).2 = 0) := fun h => by rcases c with c | c; exact c h.1; exact c h.2
  simp [sizeP, this]

def mayS (o : Obj) (x : Op5) (state : Int) : Option Int :=
  match moveS o state x.k with
  | some (n, r) => if x.e ≠ -1 ∧ x.r ≠ r then none else some n
  | none => none
def mayPV : Option Int → PV
  | some n => .tup [I64 n, BL true]
  | none => .tup [I64 0, BL false]
set_option maxRecDepth 8000 in
theorem may2_ok (o : Obj) (x : Op5) (state : Int) (hl : o.rows.length ≤ 140737488355328) : APure Try.prog 66 [robj o, .agg (orow x), I64 state] (fun r => r = .pv (mayPV (mayS o x state))) := by
  refine apureN [6, 7] hmo Try.func66 (by kernel_rfl) rfl (fun _ _ => results_tmp2 rfl _ _ _) (by kernel_rfl) (Nat.le_of_ble_eq_true rfl) ?_
  have h1 := move_ok o state x.k hl
  simp only [robj] at h1
  unfold mayS
  cases hm : moveS o state x.k with
  | none =>
    rw [hm] at h1
    simp only [movePV] at h1
    simp [robj, orow]
    refine CallK.intro h1 (by simp) ?_
    simp [mayPV]
  | some y =>
    obtain ⟨n, r⟩ := y
    rw [hm] at h1
    simp only [movePV] at h1
    simp [robj, orow]
    refine CallK.intro h1 (by simp) ?_
    simp
    exact ⟨fun h1 h2 => by rw [if_pos ⟨h1, h2⟩]; rfl, fun h => by rw [if_neg (fun hh => hh.2 (h hh.1))]; rfl⟩

theorem namer_ok (n m : Int) (h : List (List SV)) : AMut Try.prog 68 [.agg [I64 n, I64 m]] h (fun r h' => r = .pv (.fn (.func 106) [] [.ptr h.length 0]) ∧ h' = h ++ [[.pv (I64 n), .pv (I64 m)]]) := by
  refine amut1 hmo Try.func68 (by kernel_rfl) rfl rfl (by kernel_rfl) (Nat.le_of_ble_eq_true rfl) ?_
  simp

theorem name3_ok (n m k a b : Int) : APure Try.prog 106 [I64 k, I64 a, I64 b, .iptr 2 [[I64 n, I64 m]] 0 0] (fun r => r = .pv (I64 (varS n m k a b))) := by
  refine apure1 hmo Try.func106 (by kernel_rfl) rfl rfl (by kernel_rfl) (Nat.le_of_ble_eq_true rfl) ?_
  simp
  refine CallK.intro (var_ok n m k a b) (by simp) ?_
  simp

def optL : Option Int → (Int → Int) → List Int
  | some x, f => [f x]
  | none, _ => []
def movB (o : Obj) (n m : Int) (x : Op5) (i k b : Nat) : List (List Int) :=
  ([w64 (-varS n m 1 i k), w64 (-varS n m 2 i 0), w64 (-varS n m 3 k b)] ++ optL (mayS o x b) (fun y => varS n m 3 ((k : Int) + 1) y)) :: (if x.e = -1 then [[w64 (-varS n m 1 i k), varS n m 2 i 0, w64 (-varS n m 3 k b), varS n m 3 ((k : Int) + 1) b]] else [])
def movK (o : Obj) (n m : Int) (x : Op5) (i k b : Nat) : List (List Int) := (List.range b).flatMap fun b => movB o n m x i k b
def movI (o : Obj) (n m : Int) (x : Op5) (M i k : Nat) : List (List Int) := (List.range k).flatMap fun k => movK o n m x i k M
def movH (n m : Int) (x : Op5) (i : Nat) : List (List Int) := if x.e = -1 then [] else [[varS n m 2 i 0]]
def movTo (o : Obj) (n m : Int) (N M : Nat) (ops : List Op5) (i : Nat) : List (List Int) := (List.range i).flatMap fun i => movH n m (ops.getD i default) i ++ movI o n m (ops.getD i default) M i N
theorem movK_succ (o : Obj) (n m : Int) (x : Op5) (i k b : Nat) : movK o n m x i k (b + 1) = movK o n m x i k b ++ movB o n m x i k b := by
  unfold movK; rw [List.range_succ, List.flatMap_append]; simp
theorem movI_succ (o : Obj) (n m : Int) (x : Op5) (M i k : Nat) : movI o n m x M i (k + 1) = movI o n m x M i k ++ movK o n m x i k M := by
  unfold movI; rw [List.range_succ, List.flatMap_append]; simp
theorem movTo_succ (o : Obj) (n m : Int) (N M : Nat) {ops : List Op5} {i : Nat} (h : i < ops.length) : movTo o n m N M ops (i + 1) = movTo o n m N M ops i ++ (movH n m ops[i] i ++ movI o n m ops[i] M i N) := by
  unfold movTo; rw [List.range_succ, List.flatMap_append]; simp [h]
theorem movB_length (o : Obj) (n m : Int) (x : Op5) (i k b : Nat) : (movB o n m x i k b).length ≤ 2 := by
  unfold movB; split <;> simp
theorem movK_length (o : Obj) (n m : Int) (x : Op5) (i k : Nat) : ∀ b, (movK o n m x i k b).length ≤ b * 2
  | 0 => by simp [movK]
  | b + 1 => by
    have ih := movK_length o n m x i k b
    have := movB_length o n m x i k b
    rw [movK_succ, List.length_append]; omega
theorem movI_length (o : Obj) (n m : Int) (x : Op5) (M i : Nat) : ∀ k, (movI o n m x M i k).length ≤ k * (M * 2)
  | 0 => by simp [movI]
  | k + 1 => by
    have ih := movI_length o n m x M i k
    have := movK_length o n m x i k M
    rw [movI_succ, List.length_append, Nat.succ_mul]; omega
theorem movTo_length (o : Obj) (n m : Int) (N M : Nat) (ops : List Op5) : ∀ i, i ≤ ops.length → (movTo o n m N M ops i).length ≤ i * (1 + N * (M * 2))
  | 0, _ => by simp [movTo]
  | i + 1, h => by
    have ih := movTo_length o n m N M ops i (by omega)
    have h1 := movI_length o n m ops[i] M i N
    have h2 : (movH n m ops[i] i).length ≤ 1 := by unfold movH; split <;> simp
    rw [movTo_succ o n m N M (show i < ops.length by omega), List.length_append, List.length_append, Nat.succ_mul]; omega
def movesC (o : Obj) (ops : List Op5) : List (List Int) := if sizeOk (sizeP o ops).1 (sizeP o ops).2 then movTo o (sizeP o ops).1 (sizeP o ops).2 (sizeP o ops).1.toNat (sizeP o ops).2.toNat ops ops.length else []

set_option maxRecDepth 16000 in
set_option maxHeartbeats 1000000 in
theorem movesC_ok (o : Obj) (ops : List Op5) (hl : o.rows.length ≤ 140737488355328) (hl2 : ops.length ≤ 140737488355328) : APure Try.prog 21 [robj o, ovec ops] (fun r => r = (if sizeOk (sizeP o ops).1 (sizeP o ops).2 then .own true 1 ((movesC o ops).map crow) else .pv (.lit (.slice none 0 0)))) := by
  refine apure1 hmo Try.func21 (by kernel_rfl) rfl rfl (by kernel_rfl) (Nat.le_of_ble_eq_true rfl) ?_
  have hz := size_ok o ops hl hl2
  have hsz : sizeP o ops = ((ops.length : Int), o.st) ∨ sizeP o ops = (0, 0) := by unfold sizeP; split; exact .inl rfl; exact .inr rfl
  unfold movesC
  generalize hP : sizeP o ops = P at hz hsz ⊢
  obtain ⟨n, m⟩ := P
  dsimp only at hz ⊢
  simp only [robj] at hz
  simp [robj, ovec] at hz ⊢
  refine CallK.intro hz (by simp) ?_
  simp
  refine CallK.intro (check_ok n m) (by simp) ?_
  simp
  intro c
  have hs := sizeOk_iff.1 c
  obtain ⟨N, hN⟩ := Int.eq_ofNat_of_zero_le hs.1
  have hN' : n = (N : Int) := hN
  subst hN'
  obtain ⟨M, hM⟩ := Int.eq_ofNat_of_zero_le (show 0 ≤ m by omega)
  have hM' : m = (M : Int) := hM
  subst hM'
  have hNl : N = ops.length := by
    rcases hsz with h | h
    · simp only [Prod.mk.injEq] at h; omega
    · simp only [Prod.mk.injEq] at h; omega
  have hNN : N ≤ 64 := by omega
  have hMM : M ≤ 32 := by omega
  have hq : N * (M * 2) ≤ 64 * (32 * 2) := Nat.mul_le_mul hNN (by omega)
  simp [c]
  refine CallK.introM (namer_ok N M _) (by simp) ?_
  rintro _ _ ⟨rfl, rfl⟩
  simp
  refine ALoop.intro (S := fun (i : Nat) => ⟨[(8, .own true 1 ((movTo o N M N M ops i).map crow)), (6, .pv (.fn (.func 106) [] [.ptr 2 0])), (7, .pv (.fn (.func 66) [robj o] [])), (5, .pv (.ptr 1 0)), (30, .pv (ovec ops)), (31, .pv (I64 ops.length)), (32, .pv (I64 i))], [[.pv (I64 o.st), .pv (I64 o.kd), .pv (I64 o.ini), .pv (.seq false 4 (o.rows.map rrow))], [.pv (I64 N), .pv (I64 M)], [.pv (I64 N), .pv (I64 M)]]⟩) (fun i => i ≤ ops.length) (fun i => ops.length - i) 0 ?_ ?_ ?_
  · exact (Weak.nilOwn (s := 8) 1 true (by simp)).trans (Weak.to (by simp [movTo, robj, ovec]) (by simp) (by simp) (by simp [robj, ovec]) (by simp))
  · omega
  · intro i hi
    by_cases h : i < ops.length
    · have hw : w64 ((i : Int) + 1) = ((i + 1 : Nat) : Int) := by rw [w64_id (by omega) (by omega)]; omega
      have hlt := movTo_length o N M N M ops i hi
      have hlt2 : i * (1 + N * (M * 2)) ≤ 64 * (1 + 64 * (32 * 2)) := Nat.mul_le_mul (by omega) (by omega)
      have hmay := fun b => may2_ok o ops[i] b hl
      simp only [robj, orow] at hmay
      simp [h, ovec, orow, robj]
      refine CallB.introP (name3_ok N M 2 i 0) (by simp) (by simp) ?_
      simp
      have hmh : (movH N M ops[i] i).length ≤ 1 := by unfold movH; split <;> simp
      refine ⟨fun he => ⟨by omega, ?_⟩, fun he => ?_⟩
      all_goals
        refine ALoop.intro (S := fun (k : Nat) => ⟨[(8, .own true 1 ((movTo o N M N M ops i ++ (movH N M ops[i] i ++ movI o N M ops[i] M i k)).map crow)), (9, .pv (I64 i)), (10, .pv (.ptr 3 0)), (11, .pv (I64 (varS N M 2 i 0))), (49, .pv (I64 N)), (50, .pv (I64 k)), (6, .pv (.fn (.func 106) [] [.ptr 2 0])), (7, .pv (.fn (.func 66) [robj o] [])), (5, .pv (.ptr 1 0)), (30, .pv (ovec ops)), (31, .pv (I64 ops.length)), (32, .pv (I64 i))], [[.pv (I64 o.st), .pv (I64 o.kd), .pv (I64 o.ini), .pv (.seq false 4 (o.rows.map rrow))], [.pv (I64 N), .pv (I64 M)], [.pv (I64 N), .pv (I64 M)], [.pv (I64 ops[i].p), .pv (I64 ops[i].k), .pv (I64 ops[i].s), .pv (I64 ops[i].e), .pv (I64 ops[i].r)]]⟩) (fun k => k ≤ N) (fun k => N - k) 0 ?_ ?_ ?_
        · exact Weak.to (by simp [movH, movI, he, robj, ovec, crow, irow]) (by simp) (by simp) (by simp [robj, ovec]) (by simp)
        · omega
        · intro k hk
          by_cases h2 : k < N
          · have hw2 : w64 ((k : Int) + 1) = ((k + 1 : Nat) : Int) := by rw [w64_id (by omega) (by omega)]; omega
            have hli := movI_length o N M ops[i] M i k
            have hli2 : k * (M * 2) ≤ 64 * (32 * 2) := Nat.mul_le_mul (by omega) (by omega)
            simp [h2, ovec, robj]
            refine ALoop.intro (S := fun (b : Nat) => ⟨[(8, .own true 1 ((movTo o N M N M ops i ++ (movH N M ops[i] i ++ (movI o N M ops[i] M i k ++ movK o N M ops[i] i k b))).map crow)), (9, .pv (I64 i)), (10, .pv (.ptr 3 0)), (11, .pv (I64 (varS N M 2 i 0))), (12, .pv (I64 k)), (54, .pv (I64 M)), (55, .pv (I64 b)), (49, .pv (I64 N)), (50, .pv (I64 k)), (6, .pv (.fn (.func 106) [] [.ptr 2 0])), (7, .pv (.fn (.func 66) [robj o] [])), (5, .pv (.ptr 1 0)), (30, .pv (ovec ops)), (31, .pv (I64 ops.length)), (32, .pv (I64 i))], [[.pv (I64 o.st), .pv (I64 o.kd), .pv (I64 o.ini), .pv (.seq false 4 (o.rows.map rrow))], [.pv (I64 N), .pv (I64 M)], [.pv (I64 N), .pv (I64 M)], [.pv (I64 ops[i].p), .pv (I64 ops[i].k), .pv (I64 ops[i].s), .pv (I64 ops[i].e), .pv (I64 ops[i].r)]]⟩) (fun b => b ≤ M) (fun b => M - b) 0 ?_ ?_ ?_
            · exact Weak.to (by simp [movK, robj, ovec]) (by simp) (by simp) (by simp [robj, ovec]) (by simp)
            · omega
            · intro b hb
              by_cases h3 : b < M
              · have hw3 : w64 ((b : Int) + 1) = ((b + 1 : Nat) : Int) := by rw [w64_id (by omega) (by omega)]; omega
                have hlk := movK_length o N M ops[i] i k b
                have hmb := hmay b
                simp [h3, ovec, robj]
                refine CallB.introP (name3_ok N M 1 i k) (by simp) (by simp) ?_
                simp
                refine CallB.introP (name3_ok N M 3 k b) (by simp) (by simp) ?_
                simp
                have hwk : w64 ((k : Int) + 1) = (k : Int) + 1 := w64_id (by omega) (by omega)
                cases hms : mayS o ops[i] b with
                | none =>
                  rw [hms] at hmb
                  simp only [mayPV] at hmb
                  refine CallK.intro hmb (by simp) ?_
                  simp [he]
                  first
                    | refine ⟨by omega, b + 1, by dsimp only; omega, by dsimp only; omega, Weak.to ?_ (by simp) (by simp) (by simp [robj, ovec]) (by simp)⟩
                      simp [hw3, movK_succ, movB, hms, optL, he, crow, irow, robj, ovec]
                    | refine ⟨by omega, ?_⟩
                      simp [hwk]
                      refine CallB.introP (name3_ok N M 3 (k + 1) b) (by simp) (by simp) ?_
                      simp
                      refine ⟨by omega, b + 1, by dsimp only; omega, by dsimp only; omega, Weak.to ?_ (by simp) (by simp) (by simp [robj, ovec]) (by simp)⟩
                      simp [hw3, movK_succ, movB, hms, optL, he, crow, irow, robj, ovec]
                | some y =>
                  rw [hms] at hmb
                  simp only [mayPV] at hmb
                  refine CallK.intro hmb (by simp) ?_
                  simp [hwk]
                  refine CallB.introP (name3_ok N M 3 (k + 1) y) (by simp) (by simp) ?_
                  simp [he]
                  first
                    | refine ⟨by omega, b + 1, by dsimp only; omega, by dsimp only; omega, Weak.to ?_ (by simp) (by simp) (by simp [robj, ovec]) (by simp)⟩
                      simp [hw3, movK_succ, movB, hms, optL, he, crow, irow, robj, ovec]
                    | refine ⟨by omega, ?_⟩
                      simp [hwk]
                      refine CallB.introP (name3_ok N M 3 (k + 1) b) (by simp) (by simp) ?_
                      simp
                      refine ⟨by omega, b + 1, by dsimp only; omega, by dsimp only; omega, Weak.to ?_ (by simp) (by simp) (by simp [robj, ovec]) (by simp)⟩
                      simp [hw3, movK_succ, movB, hms, optL, he, crow, irow, robj, ovec]
              · simp [h3]
                have : b = M := by omega
                subst this
                refine ⟨k + 1, by dsimp only; omega, by dsimp only; omega, Weak.to ?_ (by simp) (by simp) (by simp [robj, ovec]) (by simp)⟩
                simp [hw2, movI_succ, robj, ovec]
          · simp [h2]
            have hkN : k = N := by omega
            refine ⟨i + 1, by dsimp only; omega, by dsimp only; omega, Weak.to ?_ (by simp) (by simp) (by simp [robj, ovec]) (by simp)⟩
            simp [hw, movTo_succ _ _ _ _ _ h, hkN, robj, ovec]
    · simp [h, ovec, robj]
      have : i = ops.length := by omega
      rw [this, hNl]

end Go.AX
