/-
  Contracts: clauses of moves.
  Contracts: lists that are the same; where a number stands; plays.
  Contracts: plays.
  Contracts: what is awake (moves).
  Contracts: the document's objects, sizes, moves.
  Contracts: the document's clauses of moves.
  Contracts: the document's clauses of moves, walked.
  Contracts: the document's plays; the walk of MovesPlays.
-/
import Derived.Test.YtpalffhlfegeeaaGreatS8AxMovB
import Derived.Test.YtpalffhlfegeeaaGreatS8AxCntJ
namespace Go.AX
open Go.Proofs

def sizeP (o : Obj) (ops : List Op5) : Int × Int := if (objChk o).2 = 0 ∧ (chk ops).2 = 0 then ((ops.length : Int), o.st) else (0, 0)
set_option maxRecDepth 8000 in
theorem size_ok (o : Obj) (ops : List Op5) (hl : o.rows.length ≤ 140737488355328) (hl2 : ops.length ≤ 140737488355328) : APure Tryz.prog 24 [robj o, ovec ops] (fun r => r = .pv (.agg [I64 (sizeP o ops).1, I64 (sizeP o ops).2])) := by
  refine apureC hmo Tryz.func24 (by kernel_rfl) rfl rfl (by kernel_rfl) (Nat.le_of_ble_eq_true rfl) ?_
  have h1 := objChk_ok o hl
  simp only [robj] at h1
  simp [robj, ovec]
  refine CallK.intro h1 (by simp) ?_
  simp
  refine CallK.intro (chk_okC ops hl2) (by simp) ?_
  simp
  refine ⟨fun c => ?_, fun c1 c2 => by simp [sizeP, c1, c2]⟩
  have : ¬ ((objChk o).2 = 0 ∧ (chk ops).2 = 0) := fun h => by rcases c with c | c; exact c h.1; exact c h.2
  simp [sizeP, this]

def mayS (o : Obj) (x : Op5) (state : Int) : Option Int :=
  match moveS o state x.k with
  | some (n, r) => if x.e ≠ -1 ∧ x.r ≠ r then none else some n
  | none => none
def mayPV : Option Int → PV
  | some n => .tup [I64 n, BL true]
  | none => .tup [I64 0, BL false]
set_option maxRecDepth 8000 in
theorem may2_ok (o : Obj) (x : Op5) (state : Int) (hl : o.rows.length ≤ 140737488355328) : APure Tryz.prog 98 [robj o, .agg (orow x), I64 state] (fun r => r = .pv (mayPV (mayS o x state))) := by
  refine apureN [6, 7] hmo Tryz.func98 (by kernel_rfl) rfl (fun _ _ => results_tmp2 rfl _ _ _) (by kernel_rfl) (Nat.le_of_ble_eq_true rfl) ?_
  have h1 := move_ok o state x.k hl
  simp only [robj] at h1
  unfold mayS
  cases hm : moveS o state x.k with
  | none =>
    rw [hm] at h1
    simp only [movePV] at h1
    simp [robj, orow]
    refine CallK.intro h1 (by simp) ?_
    simp [mayPV]
  | some y =>
    obtain ⟨n, r⟩ := y
    rw [hm] at h1
    simp only [movePV] at h1
    simp [robj, orow]
    refine CallK.intro h1 (by simp) ?_
    simp
    exact ⟨fun h1 h2 => by rw [if_pos ⟨h1, h2⟩]; rfl, fun h => by rw [if_neg (fun hh => hh.2 (h hh.1))]; rfl⟩

theorem namer_ok (n m : Int) (h : List (List SV)) : AMut Tryz.prog 97 [.agg [I64 n, I64 m]] h (fun r h' => r = .pv (.fn (.func 116) [] [.ptr h.length 0]) ∧ h' = h ++ [[.pv (I64 n), .pv (I64 m)]]) := by
  refine amut1 hmo Tryz.func97 (by kernel_rfl) rfl rfl (by kernel_rfl) (Nat.le_of_ble_eq_true rfl) ?_
  simp

theorem name3_ok (n m k a b : Int) : APure Tryz.prog 116 [I64 k, I64 a, I64 b, .iptr 2 [[I64 n, I64 m]] 0 0] (fun r => r = .pv (I64 (varS n m k a b))) := by
  refine apure1 hmo Tryz.func116 (by kernel_rfl) rfl rfl (by kernel_rfl) (Nat.le_of_ble_eq_true rfl) ?_
  simp
  refine CallK.intro (var_ok n m k a b) (by simp) ?_
  simp

def optL : Option Int → (Int → Int) → List Int
  | some x, f => [f x]
  | none, _ => []
def movB (o : Obj) (n m : Int) (x : Op5) (i k b : Nat) : List (List Int) :=
  ([w64 (-varS n m 1 i k), w64 (-varS n m 2 i 0), w64 (-varS n m 3 k b)] ++ optL (mayS o x b) (fun y => varS n m 3 ((k : Int) + 1) y)) :: (if x.e = -1 then [[w64 (-varS n m 1 i k), varS n m 2 i 0, w64 (-varS n m 3 k b), varS n m 3 ((k : Int) + 1) b]] else [])
def movK (o : Obj) (n m : Int) (x : Op5) (i k b : Nat) : List (List Int) := (List.range b).flatMap fun b => movB o n m x i k b
def movI (o : Obj) (n m : Int) (x : Op5) (M i k : Nat) : List (List Int) := (List.range k).flatMap fun k => movK o n m x i k M
def movH (n m : Int) (x : Op5) (i : Nat) : List (List Int) := if x.e = -1 then [] else [[varS n m 2 i 0]]
def movTo (o : Obj) (n m : Int) (N M : Nat) (ops : List Op5) (i : Nat) : List (List Int) := (List.range i).flatMap fun i => movH n m (ops.getD i default) i ++ movI o n m (ops.getD i default) M i N
theorem movK_succ (o : Obj) (n m : Int) (x : Op5) (i k b : Nat) : movK o n m x i k (b + 1) = movK o n m x i k b ++ movB o n m x i k b := by
  unfold movK; rw [List.range_succ, List.flatMap_append]; simp
theorem movI_succ (o : Obj) (n m : Int) (x : Op5) (M i k : Nat) : movI o n m x M i (k + 1) = movI o n m x M i k ++ movK o n m x i k M := by
  unfold movI; rw [List.range_succ, List.flatMap_append]; simp
theorem movTo_succ (o : Obj) (n m : Int) (N M : Nat) {ops : List Op5} {i : Nat} (h : i < ops.length) : movTo o n m N M ops (i + 1) = movTo o n m N M ops i ++ (movH n m ops[i] i ++ movI o n m ops[i] M i N) := by
  unfold movTo; rw [List.range_succ, List.flatMap_append]; simp [h]
theorem movB_length (o : Obj) (n m : Int) (x : Op5) (i k b : Nat) : (movB o n m x i k b).length ≤ 2 := by
  unfold movB; split <;> simp
theorem movK_length (o : Obj) (n m : Int) (x : Op5) (i k : Nat) : ∀ b, (movK o n m x i k b).length ≤ b * 2
  | 0 => by simp [movK]
  | b + 1 => by
    have ih := movK_length o n m x i k b
    have := movB_length o n m x i k b
    rw [movK_succ, List.length_append]; omega
theorem movI_length (o : Obj) (n m : Int) (x : Op5) (M i : Nat) : ∀ k, (movI o n m x M i k).length ≤ k * (M * 2)
  | 0 => by simp [movI]
  | k + 1 => by
    have ih := movI_length o n m x M i k
    have := movK_length o n m x i k M
    rw [movI_succ, List.length_append, Nat.succ_mul]; omega
theorem movTo_length (o : Obj) (n m : Int) (N M : Nat) (ops : List Op5) : ∀ i, i ≤ ops.length → (movTo o n m N M ops i).length ≤ i * (1 + N * (M * 2))
  | 0, _ => by simp [movTo]
  | i + 1, h => by
    have ih := movTo_length o n m N M ops i (by omega)
    have h1 := movI_length o n m ops[i] M i N
    have h2 : (movH n m ops[i] i).length ≤ 1 := by unfold movH; split <;> simp
    rw [movTo_succ o n m N M (show i < ops.length by omega), List.length_append, List.length_append, Nat.succ_mul]; omega
def movesC (o : Obj) (ops : List Op5) : List (List Int) := if sizeOk (sizeP o ops).1 (sizeP o ops).2 then movTo o (sizeP o ops).1 (sizeP o ops).2 (sizeP o ops).1.toNat (sizeP o ops).2.toNat ops ops.length else []

set_option maxRecDepth 16000 in
set_option maxHeartbeats 1000000 in
theorem movesC_ok (o : Obj) (ops : List Op5) (hl : o.rows.length ≤ 140737488355328) (hl2 : ops.length ≤ 140737488355328) : APure Tryz.prog 51 [robj o, ovec ops] (fun r => r = (if sizeOk (sizeP o ops).1 (sizeP o ops).2 then .own true 1 ((movesC o ops).map crow) else .pv (.lit (.slice none 0 0)))) := by
  refine apure1 hmo Tryz.func51 (by kernel_rfl) rfl rfl (by kernel_rfl) (Nat.le_of_ble_eq_true rfl) ?_
  have hz := size_ok o ops hl hl2
  have hsz : sizeP o ops = ((ops.length : Int), o.st) ∨ sizeP o ops = (0, 0) := by unfold sizeP; split; exact .inl rfl; exact .inr rfl
  unfold movesC
  generalize hP : sizeP o ops = P at hz hsz ⊢
  obtain ⟨n, m⟩ := P
  dsimp only at hz ⊢
  simp only [robj] at hz
  simp [robj, ovec] at hz ⊢
  refine CallK.intro hz (by simp) ?_
  simp
  refine CallK.intro (check_ok n m) (by simp) ?_
  simp
  intro c
  have hs := sizeOk_iff.1 c
  obtain ⟨N, hN⟩ := Int.eq_ofNat_of_zero_le hs.1
  have hN' : n = (N : Int) := hN
  subst hN'
  obtain ⟨M, hM⟩ := Int.eq_ofNat_of_zero_le (show 0 ≤ m by omega)
  have hM' : m = (M : Int) := hM
  subst hM'
  have hNl : N = ops.length := by
    rcases hsz with h | h
    · simp only [Prod.mk.injEq] at h; omega
    · simp only [Prod.mk.injEq] at h; omega
  have hNN : N ≤ 64 := by omega
  have hMM : M ≤ 32 := by omega
  have hq : N * (M * 2) ≤ 64 * (32 * 2) := Nat.mul_le_mul hNN (by omega)
  simp [c]
  refine CallK.introM (namer_ok N M _) (by simp) ?_
  rintro _ _ ⟨rfl, rfl⟩
  simp
  refine ALoop.intro (S := fun (i : Nat) => ⟨[(8, .own true 1 ((movTo o N M N M ops i).map crow)), (6, .pv (.fn (.func 116) [] [.ptr 2 0])), (7, .pv (.fn (.func 98) [robj o] [])), (5, .pv (.ptr 1 0)), (30, .pv (ovec ops)), (31, .pv (I64 ops.length)), (32, .pv (I64 i))], [[.pv (I64 o.st), .pv (I64 o.kd), .pv (I64 o.ini), .pv (.seq false 4 (o.rows.map rrow))], [.pv (I64 N), .pv (I64 M)], [.pv (I64 N), .pv (I64 M)]]⟩) (fun i => i ≤ ops.length) (fun i => ops.length - i) 0 ?_ ?_ ?_
  · exact (Weak.nilOwn (s := 8) 1 true (by simp)).trans (Weak.to (by simp [movTo, robj, ovec]) (by simp) (by simp) (by simp [robj, ovec]) (by simp))
  · omega
  · intro i hi
    by_cases h : i < ops.length
    · have hw : w64 ((i : Int) + 1) = ((i + 1 : Nat) : Int) := by rw [w64_id (by omega) (by omega)]; omega
      have hlt := movTo_length o N M N M ops i hi
      have hlt2 : i * (1 + N * (M * 2)) ≤ 64 * (1 + 64 * (32 * 2)) := Nat.mul_le_mul (by omega) (by omega)
      have hmay := fun b => may2_ok o ops[i] b hl
      simp only [robj, orow] at hmay
      simp [h, ovec, orow, robj]
      refine CallB.introP (name3_ok N M 2 i 0) (by simp) (by simp) ?_
      simp
      have hmh : (movH N M ops[i] i).length ≤ 1 := by unfold movH; split <;> simp
      refine ⟨fun he => ⟨by omega, ?_⟩, fun he => ?_⟩
      all_goals
        refine ALoop.intro (S := fun (k : Nat) => ⟨[(8, .own true 1 ((movTo o N M N M ops i ++ (movH N M ops[i] i ++ movI o N M ops[i] M i k)).map crow)), (9, .pv (I64 i)), (10, .pv (.ptr 3 0)), (11, .pv (I64 (varS N M 2 i 0))), (49, .pv (I64 N)), (50, .pv (I64 k)), (6, .pv (.fn (.func 116) [] [.ptr 2 0])), (7, .pv (.fn (.func 98) [robj o] [])), (5, .pv (.ptr 1 0)), (30, .pv (ovec ops)), (31, .pv (I64 ops.length)), (32, .pv (I64 i))], [[.pv (I64 o.st), .pv (I64 o.kd), .pv (I64 o.ini), .pv (.seq false 4 (o.rows.map rrow))], [.pv (I64 N), .pv (I64 M)], [.pv (I64 N), .pv (I64 M)], [.pv (I64 ops[i].p), .pv (I64 ops[i].k), .pv (I64 ops[i].s), .pv (I64 ops[i].e), .pv (I64 ops[i].r)]]⟩) (fun k => k ≤ N) (fun k => N - k) 0 ?_ ?_ ?_
        · exact Weak.to (by simp [movH, movI, he, robj, ovec, crow, irow]) (by simp) (by simp) (by simp [robj, ovec]) (by simp)
        · omega
        · intro k hk
          by_cases h2 : k < N
          · have hw2 : w64 ((k : Int) + 1) = ((k + 1 : Nat) : Int) := by rw [w64_id (by omega) (by omega)]; omega
            have hli := movI_length o N M ops[i] M i k
            have hli2 : k * (M * 2) ≤ 64 * (32 * 2) := Nat.mul_le_mul (by omega) (by omega)
            simp [h2, ovec, robj]
            refine ALoop.intro (S := fun (b : Nat) => ⟨[(8, .own true 1 ((movTo o N M N M ops i ++ (movH N M ops[i] i ++ (movI o N M ops[i] M i k ++ movK o N M ops[i] i k b))).map crow)), (9, .pv (I64 i)), (10, .pv (.ptr 3 0)), (11, .pv (I64 (varS N M 2 i 0))), (12, .pv (I64 k)), (54, .pv (I64 M)), (55, .pv (I64 b)), (49, .pv (I64 N)), (50, .pv (I64 k)), (6, .pv (.fn (.func 116) [] [.ptr 2 0])), (7, .pv (.fn (.func 98) [robj o] [])), (5, .pv (.ptr 1 0)), (30, .pv (ovec ops)), (31, .pv (I64 ops.length)), (32, .pv (I64 i))], [[.pv (I64 o.st), .pv (I64 o.kd), .pv (I64 o.ini), .pv (.seq false 4 (o.rows.map rrow))], [.pv (I64 N), .pv (I64 M)], [.pv (I64 N), .pv (I64 M)], [.pv (I64 ops[i].p), .pv (I64 ops[i].k), .pv (I64 ops[i].s), .pv (I64 ops[i].e), .pv (I64 ops[i].r)]]⟩) (fun b => b ≤ M) (fun b => M - b) 0 ?_ ?_ ?_
            · exact Weak.to (by simp [movK, robj, ovec]) (by simp) (by simp) (by simp [robj, ovec]) (by simp)
            · omega
            · intro b hb
              by_cases h3 : b < M
              · have hw3 : w64 ((b : Int) + 1) = ((b + 1 : Nat) : Int) := by rw [w64_id (by omega) (by omega)]; omega
                have hlk := movK_length o N M ops[i] i k b
                have hmb := hmay b
                simp [h3, ovec, robj]
                refine CallB.introP (name3_ok N M 1 i k) (by simp) (by simp) ?_
                simp
                refine CallB.introP (name3_ok N M 3 k b) (by simp) (by simp) ?_
                simp
                have hwk : w64 ((k : Int) + 1) = (k : Int) + 1 := w64_id (by omega) (by omega)
                cases hms : mayS o ops[i] b with
                | none =>
                  rw [hms] at hmb
                  simp only [mayPV] at hmb
                  refine CallK.intro hmb (by simp) ?_
                  simp [he]
                  first
                    | refine ⟨by omega, b + 1, by dsimp only; omega, by dsimp only; omega, Weak.to ?_ (by simp) (by simp) (by simp [robj, ovec]) (by simp)⟩
                      simp [hw3, movK_succ, movB, hms, optL, he, crow, irow, robj, ovec]
                    | refine ⟨by omega, ?_⟩
                      simp [hwk]
                      refine CallB.introP (name3_ok N M 3 (k + 1) b) (by simp) (by simp) ?_
                      simp
                      refine ⟨by omega, b + 1, by dsimp only; omega, by dsimp only; omega, Weak.to ?_ (by simp) (by simp) (by simp [robj, ovec]) (by simp)⟩
                      simp [hw3, movK_succ, movB, hms, optL, he, crow, irow, robj, ovec]
                | some y =>
                  rw [hms] at hmb
                  simp only [mayPV] at hmb
                  refine CallK.intro hmb (by simp) ?_
                  simp [hwk]
                  refine CallB.introP (name3_ok N M 3 (k + 1) y) (by simp) (by simp) ?_
                  simp [he]
                  first
                    | refine ⟨by omega, b + 1, by dsimp only; omega, by dsimp only; omega, Weak.to ?_ (by simp) (by simp) (by simp [robj, ovec]) (by simp)⟩
                      simp [hw3, movK_succ, movB, hms, optL, he, crow, irow, robj, ovec]
                    | refine ⟨by omega, ?_⟩
                      simp [hwk]
                      refine CallB.introP (name3_ok N M 3 (k + 1) b) (by simp) (by simp) ?_
                      simp
                      refine ⟨by omega, b + 1, by dsimp only; omega, by dsimp only; omega, Weak.to ?_ (by simp) (by simp) (by simp [robj, ovec]) (by simp)⟩
                      simp [hw3, movK_succ, movB, hms, optL, he, crow, irow, robj, ovec]
              · simp [h3]
                have : b = M := by omega
                subst this
                refine ⟨k + 1, by dsimp only; omega, by dsimp only; omega, Weak.to ?_ (by simp) (by simp) (by simp [robj, ovec]) (by simp)⟩
                simp [hw2, movI_succ, robj, ovec]
          · simp [h2]
            have hkN : k = N := by omega
            refine ⟨i + 1, by dsimp only; omega, by dsimp only; omega, Weak.to ?_ (by simp) (by simp) (by simp [robj, ovec]) (by simp)⟩
            simp [hw, movTo_succ _ _ _ _ _ h, hkN, robj, ovec]
    · simp [h, ovec, robj]
      have : i = ops.length := by omega
      rw [this, hNl]

end Go.AX

namespace Go.AX
open Go.Proofs

/-! ### Lists that are the same -/
@[simp] theorem belowR_crowF (k : Nat) (l : List (List Int)) : belowR k (l.map crowF) := by
  rw [belowR_iff]; intro r hr x hx
  obtain ⟨o, _, rfl⟩ := List.mem_map.1 hr
  simp [crowF] at hx; subst hx; exact belowR_irow k o
@[simp] theorem frzR_crowF (r : Nat → Nat → PV) (l : List (List Int)) : frzR r (l.map crowF) = l.map crowF := by
  rw [frzR_map, List.map_map]
  apply List.map_congr_left
  intro x _
  simp [crowF]
theorem eq_of_get {α : Type} {a b : List α} (hl : a.length = b.length) (h : ∀ j (h1 : j < a.length), a[j] = b[j]'(hl ▸ h1)) : a = b := List.ext_getElem hl fun j h1 _ => h j h1

theorem sameInts_ok (a b : List Int) (hl : a.length ≤ 140737488355328) : APure Tryz.prog 14 [.seq false 1 (irow a), .seq false 1 (irow b)] (fun r => r = .pv (BL (decide (a = b)))) := by
  refine apure1 hmo Tryz.func14 (by kernel_rfl) rfl rfl (by kernel_rfl) (Nat.le_of_ble_eq_true rfl) ?_
  simp
  refine ⟨fun h => fun e => h (by rw [e]), fun h => ?_⟩
  have hl2 : a.length = b.length := by omega
  refine ALoop.intro (S := fun (i : Nat) => ⟨[(0, .pv (.seq false 1 (irow a))), (1, .pv (.seq false 1 (irow b))), (5, .pv (I64 i))], []⟩) (fun i => i ≤ a.length ∧ ∀ j (h1 : j < a.length), j < i → a[j] = b[j]'(hl2 ▸ h1)) (fun i => a.length - i) 0 ?_ ?_ ?_
  · exact Weak.to (by simp) rfl (by simp) (by simp) (by simp)
  · exact ⟨by omega, fun j _ hj => by omega⟩
  · intro i ⟨hi, ho⟩
    by_cases h3 : i < a.length
    · have hw : w64 ((i : Int) + 1) = ((i + 1 : Nat) : Int) := by rw [w64_id (by omega) (by omega)]; omega
      have h4 : i < b.length := by omega
      simp [h3, h4]
      refine ⟨fun c => fun e => c (by subst e; rfl), fun c => ⟨i + 1, by dsimp only; omega, ⟨by omega, fun j h1 hj => ?_⟩, Weak.to ?_ rfl (by simp) (by simp) (by simp)⟩⟩
      · by_cases e : j = i
        · subst e; exact c
        · exact ho j h1 (by omega)
      · simp [hw]
    · simp [h3]
      exact eq_of_get hl2 fun j h1 => ho j h1 (by omega)

/-! ### Where a number stands -/
def posS (l : List Int) (n : Int) : Int := idxS (fun x => decide (x = n)) l
theorem posS_nn (l : List Int) (n : Int) : 0 ≤ posS l n ↔ n ∈ l := by
  unfold posS idxS
  cases h : l.findIdx? (fun x => decide (x = n)) with
  | none =>
    rw [List.findIdx?_eq_none_iff] at h
    refine ⟨fun h2 => absurd h2 (by decide), fun h2 => by have := h n h2; simp at this⟩
  | some i =>
    rw [List.findIdx?_eq_some_iff_getElem] at h
    obtain ⟨h1, h2, _⟩ := h
    refine ⟨fun _ => ?_, fun _ => by dsimp only; omega⟩
    have : l[i] = n := by simpa using h2
    exact this ▸ List.getElem_mem h1

theorem refPlace_ok (l : List Int) (n : Int) (hl : l.length ≤ 140737488355328) : APure Tryz.prog 86 [.seq false 1 (irow l), I64 n] (fun r => r = .pv (I64 (posS l n))) := by
  refine apure1 hmo Tryz.func86 (by kernel_rfl) rfl rfl (by kernel_rfl) (Nat.le_of_ble_eq_true rfl) ?_
  simp
  refine ALoop.intro (S := fun (i : Nat) => ⟨[(0, .pv (.seq false 1 (irow l))), (1, .pv (I64 n)), (5, .pv (I64 i))], []⟩) (fun i => i ≤ l.length ∧ ∀ j (hj : j < l.length), j < i → (fun x => decide (x = n)) l[j] = false) (fun i => l.length - i) 0 ?_ ?_ ?_
  · exact Weak.to (by simp) rfl (by simp) (by simp) (by simp)
  · exact ⟨by omega, fun j hj h => by omega⟩
  · intro i ⟨hi, ho⟩
    by_cases h : i < l.length
    · have hw : w64 ((i : Int) + 1) = ((i + 1 : Nat) : Int) := by rw [w64_id (by omega) (by omega)]; omega
      simp [h]
      refine ⟨fun c => by rw [posS, idxS_at h ho (by simpa using c)], fun c => ⟨i + 1, by dsimp only; omega, ⟨by omega, fun j hj hji => ?_⟩, Weak.to ?_ rfl (by simp) (by simp) (by simp)⟩⟩
      · by_cases e : j = i
        · subst e; simpa using c
        · simpa using ho j hj (by omega)
      · simp [hw]
    · simp [h]
      rw [posS, idxS_none (fun j hj => ho j hj (by omega))]

theorem index_ok (l : List Int) (n : Int) (hl : l.length ≤ 140737488355328) : APure Tryz.prog 110 [.seq false 1 (irow l), I64 n] (fun r => r = .pv (I64 (posS l n))) := by
  refine apure1 hmo Tryz.func110 (by kernel_rfl) rfl rfl (by kernel_rfl) (Nat.le_of_ble_eq_true rfl) ?_
  simp
  refine ALoop.intro (S := fun (i : Nat) => ⟨[(0, .pv (.seq false 1 (irow l))), (1, .pv (I64 n)), (7, .pv (I64 l.length)), (8, .pv (I64 i))], []⟩) (fun i => i ≤ l.length ∧ ∀ j (hj : j < l.length), j < i → (fun x => decide (x = n)) l[j] = false) (fun i => l.length - i) 0 ?_ ?_ ?_
  · exact Weak.to (by simp) rfl (by simp) (by simp) (by simp)
  · exact ⟨by omega, fun j hj h => by omega⟩
  · intro i ⟨hi, ho⟩
    by_cases h : i < l.length
    · have hw : w64 ((i : Int) + 1) = ((i + 1 : Nat) : Int) := by rw [w64_id (by omega) (by omega)]; omega
      simp [h]
      refine ⟨fun c => by rw [posS, idxS_at h ho (by simpa using c.symm)], fun c => ⟨i + 1, by dsimp only; omega, ⟨by omega, fun j hj hji => ?_⟩, Weak.to ?_ rfl (by simp) (by simp) (by simp)⟩⟩
      · by_cases e : j = i
        · subst e; simpa using fun e => c e.symm
        · simpa using ho j hj (by omega)
      · simp [hw]
    · simp [h]
      rw [posS, idxS_none (fun j hj => ho j hj (by omega))]

theorem contains_ok (l : List Int) (n : Int) (hl : l.length ≤ 140737488355328) : APure Tryz.prog 82 [.seq false 1 (irow l), I64 n] (fun r => r = .pv (BL (decide (n ∈ l)))) := by
  refine apure1 hmo Tryz.func82 (by kernel_rfl) rfl rfl (by kernel_rfl) (Nat.le_of_ble_eq_true rfl) ?_
  simp
  refine CallK.intro (index_ok l n hl) (by simp) ?_
  simp [posS_nn]

/-! ### Closed objects and operations -/
def oneO : Obj := ⟨1, 1, 0, [⟨0, 0, 0, 7⟩]⟩
/-! ### May, proper -/
theorem mayM_ok (o : Obj) (x : Op5) (state : Int) (hl : o.rows.length ≤ 140737488355328) : APure Tryz.prog 81 [robj o, .agg (orow x), I64 state] (fun r => r = .pv (mayPV (mayS o x state))) := by
  refine apureN [6, 7] hmo Tryz.func81 (by kernel_rfl) rfl (fun _ _ => results_tmp2 rfl _ _ _) (by kernel_rfl) (Nat.le_of_ble_eq_true rfl) ?_
  have h := may2_ok o x state hl
  simp only [robj, orow] at h
  cases hm : mayS o x state <;> rw [hm] at h <;> simp only [mayPV] at h
  all_goals
    simp [robj, orow]
    refine CallK.intro h (by simp) ?_
    simp [mayPV]

def brow (l : List Bool) : List (List PV) := l.map fun b => [BL b]
@[simp] theorem brow_length (l : List Bool) : (brow l).length = l.length := by simp [brow]
@[simp] theorem belowR_brow (k : Nat) (l : List Bool) : belowR k (brow l) := by
  rw [belowR_iff]; intro r hr x hx
  obtain ⟨o, _, rfl⟩ := List.mem_map.1 hr
  simp at hx; subst hx; trivial
@[simp] theorem frzR_brow (r : Nat → Nat → PV) (l : List Bool) : frzR r (brow l) = brow l := by
  rw [brow, frzR_map, List.map_map]; congr 1
@[simp] theorem brow_get (l : List Bool) (i : Nat) : (brow l)[i]? = l[i]?.map fun n => [BL n] := by simp [brow]
@[simp] theorem brow_elem (l : List Bool) (i : Nat) (h : i < (brow l).length) : (brow l)[i]'h = [BL (l[i]'(by simpa using h))] := by simp [brow]

def properAt (ops : List Op5) (order : List Int) (inn : List Bool) (i : Nat) : Prop := (i : Int) ∈ order ∧ ((ops.getD i default).e ≠ -1 → inn.getD i false = true)
instance (ops : List Op5) (order : List Int) (inn : List Bool) (i : Nat) : Decidable (properAt ops order inn i) := by unfold properAt; infer_instance
def playOk (ops : List Op5) (order : List Int) (inn : List Bool) : Bool := decide (order.length = ops.length ∧ inn.length = ops.length ∧ ∀ i, i < ops.length → properAt ops order inn i)

set_option maxRecDepth 8000 in
theorem properM_ok (ops : List Op5) (order : List Int) (inn : List Bool) (hl : ops.length ≤ 140737488355328) : APure Tryz.prog 80 [ovec ops, .seq false 1 (irow order), .seq false 1 (brow inn)] (fun r => r = .pv (BL (playOk ops order inn))) := by
  refine apure1 hmo Tryz.func80 (by kernel_rfl) rfl rfl (by kernel_rfl) (Nat.le_of_ble_eq_true rfl) ?_
  simp [ovec]
  refine ⟨fun h => ?_, fun h1 h2 => ?_⟩
  · simp only [playOk, decide_eq_false_iff_not]; omega
  have h1 : order.length = ops.length := by omega
  have h2 : inn.length = ops.length := by omega
  have hP : ∀ (b : Bool), ((∀ i, i < ops.length → properAt ops order inn i) ↔ b = true) → playOk ops order inn = b := by
    intro b hb
    cases b <;> simp only [playOk, h1, h2, true_and, decide_eq_true_eq, decide_eq_false_iff_not] <;> simpa using hb
  refine ALoop.intro (S := fun (i : Nat) => ⟨[(0, .pv (.seq false 5 (ops.map orow))), (1, .pv (.seq false 1 (irow order))), (2, .pv (.seq false 1 (brow inn))), (21, .pv (.seq false 5 (ops.map orow))), (22, .pv (I64 ops.length)), (23, .pv (I64 i))], []⟩) (fun i => i ≤ ops.length ∧ ∀ j, j < i → properAt ops order inn j) (fun i => ops.length - i) 0 ?_ ?_ ?_
  · exact Weak.to (by simp) rfl (by simp) (by simp) (by simp)
  · exact ⟨by omega, fun j hj => by omega⟩
  · intro i ⟨hi, ho⟩
    by_cases h : i < ops.length
    · have hw : w64 ((i : Int) + 1) = ((i + 1 : Nat) : Int) := by rw [w64_id (by omega) (by omega)]; omega
      have h3 : i < inn.length := by omega
      have hg : ops.getD i default = ops[i] := by simp [h]
      have hg2 : inn.getD i false = inn[i] := by simp [h3]
      simp [h, orow]
      refine CallK.intro (contains_ok order i (by omega)) (by simp) ?_
      simp [h3]
      refine ⟨fun c => ⟨c, fun c2 => ⟨c, c2⟩⟩, fun c => hP false ?_, fun c c2 => ⟨i + 1, by dsimp only; omega, ⟨by omega, fun j hj => ?_⟩, Weak.to ?_ (by simp) (by simp) (by simp) (by simp)⟩⟩
      · simp
        refine ⟨i, h, fun hh => ?_⟩
        unfold properAt at hh
        rw [hg, hg2] at hh
        grind
      · by_cases e : j = i
        · subst e
          unfold properAt
          rw [hg, hg2]
          grind
        · exact ho j (by omega)
      · simp [hw, orow]
    · simp [h]
      refine hP true ?_
      simp
      exact fun j hj => ho j (by omega)

end Go.AX

namespace Go.AX
open Go.Proofs

theorem len_of_sub {α : Type} [DecidableEq α] : ∀ (l m : List α), l.Nodup → (∀ x ∈ l, x ∈ m) → l.length ≤ m.length
  | [], _, _, _ => Nat.zero_le _
  | x :: l, m, hn, hs => by
    have hx := hs x List.mem_cons_self
    obtain ⟨h1, h2⟩ := List.nodup_cons.1 hn
    have := len_of_sub l (m.erase x) h2 (fun y hy => (List.mem_erase_of_ne (fun e => h1 (by rw [← e]; exact hy))).2 (hs y (List.mem_cons_of_mem _ hy)))
    rw [List.length_erase_of_mem hx] at this
    have hp := List.length_pos_of_mem hx
    simp only [List.length_cons]; omega
theorem range_all {n : Nat} {order : List Int} (hl : order.length = n) (h : ∀ i : Nat, i < n → (i : Int) ∈ order) : ∀ x ∈ order, 0 ≤ x ∧ x < n := by
  intro x hx
  apply Classical.byContradiction
  intro hc
  let r : List Int := (List.range n).map Int.ofNat
  have hr : ∀ y ∈ r, 0 ≤ y ∧ y < n := by
    intro y hy
    obtain ⟨i, hi, rfl⟩ := List.mem_map.1 hy
    have := List.mem_range.1 hi
    simp; omega
  have hnd : r.Nodup := by
    show List.Pairwise _ _
    rw [List.pairwise_map]
    exact (List.nodup_range (n := n)).imp fun h e => h (Int.ofNat.inj e)
  have := len_of_sub (x :: r) order (List.nodup_cons.2 ⟨fun hm => hc (hr x hm), hnd⟩) (by
    intro y hy
    rcases List.mem_cons.1 hy with rfl | hy
    · exact hx
    · obtain ⟨i, hi, rfl⟩ := List.mem_map.1 hy
      exact h i (List.mem_range.1 hi))
  simp [r] at this
  omega

theorem sizeP_all {o : Obj} {ops : List Op5} (h : sizeOk (sizeP o ops).1 (sizeP o ops).2 = true) : (objChk o).2 = 0 ∧ (chk ops).2 = 0 ∧ sizeP o ops = ((ops.length : Int), o.st) ∧ ops.length ≤ 64 ∧ 1 ≤ o.st ∧ o.st ≤ 32 := by
  unfold sizeP at h ⊢
  split at h
  · rename_i hc
    have := sizeOk_iff.1 h
    dsimp only at this
    exact ⟨hc.1, hc.2, by rw [if_pos hc], by omega, by omega, by omega⟩
  · cases h
theorem sizeP_zero {o : Obj} {ops : List Op5} (h : sizeOk (sizeP o ops).1 (sizeP o ops).2 = false) : ¬ sizeOk (sizeP o ops).1 (sizeP o ops).2 = true := by simp [h]

def playStep (o : Obj) (ops : List Op5) (inn : List Bool) (x : Nat) (out : List Int) : Option (List Int) :=
  if inn.getD x false then (mayS o (ops.getD x default) (out.getLastD 0)).map fun y => out ++ [y] else some (out ++ [out.getLastD 0])
def playTo (o : Obj) (ops : List Op5) (order : List Int) (inn : List Bool) : Nat → Option (List Int)
  | 0 => some [o.ini]
  | k + 1 => (playTo o ops order inn k).bind (playStep o ops inn (order.getD k 0).toNat)
def playS (o : Obj) (ops : List Op5) (order : List Int) (inn : List Bool) : Option (List Int) :=
  if sizeOk (sizeP o ops).1 (sizeP o ops).2 = true ∧ playOk ops order inn = true then playTo o ops order inn ops.length else none
def playPV (q : Bool) : Option (List Int) → PV
  | some l => .tup [.seq q 1 (irow l), BL true]
  | none => .tup [.lit (.slice none 0 0), BL false]
theorem playTo_none {o : Obj} {ops : List Op5} {order : List Int} {inn : List Bool} {k : Nat} (h : playTo o ops order inn k = none) : ∀ m, k ≤ m → playTo o ops order inn m = none
  | 0, hm => by rw [Nat.le_zero.1 hm] at h; exact h
  | m + 1, hm => by
    rcases Nat.lt_or_ge m k with h1 | h1
    · have : k = m + 1 := by omega
      exact this ▸ h
    · simp [playTo, playTo_none h m h1]
theorem playTo_length {o : Obj} {ops : List Op5} {order : List Int} {inn : List Bool} : ∀ {k : Nat} {out : List Int}, playTo o ops order inn k = some out → out.length = k + 1
  | 0, out, h => by cases h; rfl
  | k + 1, out, h => by
    simp only [playTo, Option.bind_eq_some_iff] at h
    obtain ⟨p, hp, h⟩ := h
    have := playTo_length hp
    unfold playStep at h
    split at h
    · simp only [Option.map_eq_some_iff] at h
      obtain ⟨y, _, rfl⟩ := h
      simp [this]
    · cases h; simp [this]
theorem playOk_iff {ops : List Op5} {order : List Int} {inn : List Bool} : playOk ops order inn = true ↔ order.length = ops.length ∧ inn.length = ops.length ∧ ∀ i, i < ops.length → properAt ops order inn i := by simp [playOk]

set_option maxRecDepth 8000 in
theorem playM_ok (o : Obj) (ops : List Op5) (order : List Int) (inn : List Bool) (hl : o.rows.length ≤ 140737488355328) (hl2 : ops.length ≤ 140737488355328) : APure Tryz.prog 36 [robj o, ovec ops, .seq false 1 (irow order), .seq false 1 (brow inn)] (fun r => r = .pv (playPV true (playS o ops order inn))) := by
  refine apureN [8, 9] hmo Tryz.func36 (by kernel_rfl) rfl (fun _ _ => results_tmp2 rfl _ _ _) (by kernel_rfl) (Nat.le_of_ble_eq_true rfl) ?_
  have hsz := size_ok o ops hl hl2
  have hpr := properM_ok ops order inn hl2
  simp only [robj, ovec] at hsz hpr
  simp [robj, ovec]
  refine CallK.intro hsz (by simp) ?_
  simp
  refine CallK.intro (check_ok _ _) (by simp) ?_
  simp
  refine CallG.intro (r := .pv (BL (playOk ops order inn))) (fun _ => hpr) (by simp) ?_
  simp
  refine ⟨fun c => ?_, fun c1 c2 => ?_⟩
  · have : playS o ops order inn = none := by
      unfold playS
      rw [if_neg]
      rintro ⟨h1, h2⟩
      simp [h1, h2] at c
    simp [this, playPV]
  obtain ⟨hl4, hl5, hpa⟩ := playOk_iff.1 c2
  have h64 := (sizeP_all c1).2.2.2.1
  have hin := range_all hl4 fun i hi => (hpa i hi).1
  have hS : playS o ops order inn = playTo o ops order inn ops.length := by rw [playS, if_pos ⟨c1, c2⟩]
  rw [hS]
  refine ALoop.intro (S := fun (i : Nat) => ⟨[(10, .own true 1 (irow ((playTo o ops order inn i).getD []))), (4, .pv (.ptr 0 0)), (1, .pv (.seq false 5 (ops.map orow))), (3, .pv (.seq false 1 (brow inn))), (31, .pv (.seq false 1 (irow order))), (32, .pv (I64 order.length)), (33, .pv (I64 i))], [[.pv (I64 o.st), .pv (I64 o.kd), .pv (I64 o.ini), .pv (.seq false 4 (o.rows.map rrow))]]⟩) (fun i => i ≤ ops.length ∧ (playTo o ops order inn i).isSome = true) (fun i => ops.length - i) 0 ?_ ?_ ?_
  · exact Weak.to (by simp [playTo, irow]) (by simp) (by simp) (by simp) (by simp)
  · exact ⟨by omega, rfl⟩
  · intro i ⟨hi, ho⟩
    obtain ⟨out, hout⟩ := Option.isSome_iff_exists.1 ho
    have hlen := playTo_length hout
    by_cases h : i < ops.length
    · have hw : w64 ((i : Int) + 1) = ((i + 1 : Nat) : Int) := by rw [w64_id (by omega) (by omega)]; omega
      have hwi : w64 (i : Int) = (i : Int) := w64_id (by omega) (by omega)
      have h3 : i < order.length := by omega
      have h4 : i < out.length := by omega
      obtain ⟨j, hj⟩ := Int.eq_ofNat_of_zero_le (hin order[i] (List.getElem_mem h3)).1
      have hj' : order[i] = (j : Int) := hj
      have hjn : j < ops.length := by have := (hin order[i] (List.getElem_mem h3)).2; omega
      have hjn2 : j < inn.length := by omega
      have hlast : out.getLast?.getD 0 = out[i] := by
        rw [List.getLast?_eq_getElem?]
        simp [hlen]
      have hstep : playTo o ops order inn (i + 1) = playStep o ops inn j out := by
        simp [playTo, hout, h3, hj']
      have hmay := mayM_ok o ops[j] out[i] hl
      simp only [robj, orow] at hmay
      simp [h3, hout, hlen, hwi, hj', hjn2]
      refine ⟨by omega, fun c => ?_, fun c => ?_⟩
      · cases hms : mayS o ops[j] out[i] with
        | none =>
          rw [hms] at hmay
          simp only [mayPV] at hmay
          simp [hjn, orow]
          refine CallQ0.intro hmay (by simp) ?_
          simp
          have : playTo o ops order inn ops.length = none := by
            refine playTo_none (k := i + 1) ?_ _ (by omega)
            rw [hstep]; simp [playStep, hjn, hjn2, c, hlast, hms]
          simp [this, playPV]
        | some y =>
          rw [hms] at hmay
          simp only [mayPV] at hmay
          simp [hjn, orow]
          refine CallQ0.intro hmay (by simp) ?_
          simp
          have : playTo o ops order inn (i + 1) = some (out ++ [y]) := by
            rw [hstep]; simp [playStep, hjn, hjn2, c, hlast, hms]
          refine ⟨by omega, i + 1, by dsimp only; omega, ⟨by omega, by rw [this]; rfl⟩, Weak.to ?_ (by simp) (by simp) (by simp) (by simp)⟩
          simp [hw, this, irow, orow]
      · have : playTo o ops order inn (i + 1) = some (out ++ [out[i]]) := by
          rw [hstep]; simp [playStep, hjn2, c, hlast]
        refine ⟨by omega, i + 1, by dsimp only; omega, ⟨by omega, by rw [this]; rfl⟩, Weak.to ?_ (by simp) (by simp) (by simp) (by simp)⟩
        simp [hw, this, irow, orow]
    · have h3 : ¬ i < order.length := by omega
      have : i = ops.length := by omega
      subst this
      simp [h3, hout, playPV]

end Go.AX

namespace Go.AX
set_option linter.unusedSimpArgs false
open Go.Proofs

theorem PV.as_agg {xs ys : List PV} (hc : asL xs ys) : PV.as (.agg xs) (.agg ys) := fun w v h => by
  obtain ⟨a, rfl, hf⟩ := h
  exact ⟨a, rfl, asL_fit hc hf⟩

theorem movesC_at {o : Obj} {ops : List Op5} (L : List (List Int)) (h : (sizeOk (sizeP o ops).1 (sizeP o ops).2 && (decide (movesC o ops = L) && (decide (o.rows.length ≤ 10) && decide (ops.length ≤ 10)))) = true) : APure Tryz.prog 51 [robj o, ovec ops] (fun r => r = .own true 1 (L.map crow)) := by
  simp only [Bool.and_eq_true, decide_eq_true_eq] at h
  have := movesC_ok o ops (by omega) (by omega)
  rw [if_pos h.1, h.2.1] at this
  exact this
theorem size_at {o : Obj} {ops : List Op5} (n m : Int) (h : (decide (sizeP o ops = (n, m)) && (decide (o.rows.length ≤ 10) && decide (ops.length ≤ 10))) = true) : APure Tryz.prog 24 [robj o, ovec ops] (fun r => r = .pv (.agg [I64 n, I64 m])) := by
  simp only [Bool.and_eq_true, decide_eq_true_eq] at h
  have := size_ok o ops (by omega) (by omega)
  rw [h.1] at this
  exact this
theorem mayM_at {o : Obj} {x : Op5} {s : Int} (y : Option Int) (h : (decide (mayS o x s = y) && decide (o.rows.length ≤ 10)) = true) : APure Tryz.prog 81 [robj o, .agg (orow x), I64 s] (fun r => r = .pv (mayPV y)) := by
  simp only [Bool.and_eq_true, decide_eq_true_eq] at h
  have := mayM_ok o x s (by omega)
  rw [h.1] at this
  exact this
theorem playM_at {o : Obj} {ops : List Op5} {order : List Int} {inn : List Bool} (y : Option (List Int)) (h : (decide (playS o ops order inn = y) && (decide (o.rows.length ≤ 10) && decide (ops.length ≤ 10))) = true) : APure Tryz.prog 36 [robj o, ovec ops, .seq false 1 (irow order), .seq false 1 (brow inn)] (fun r => r = .pv (playPV true y)) := by
  simp only [Bool.and_eq_true, decide_eq_true_eq] at h
  have := playM_ok o ops order inn (by omega) (by omega)
  rw [h.1] at this
  exact this
@[simp] theorem nwL_orow (x : Op5) : nwL (orow x) := by simp [orow]

@[simp] theorem nwL_crow (x : List Int) : nwL (crow x) := by simp [crow]

end Go.AX

namespace Go.AX
open Go.Proofs

def inR (n : Int) : Prop := -9223372036854775808 ≤ n ∧ n ≤ 9223372036854775807
def objR (o : Obj) : Prop := inR o.st ∧ inR o.kd
theorem objOk_raw {o : Obj} (h : objR o) : objOk o = true ↔ (1 ≤ o.st ∧ o.st ≤ 32 ∧ 1 ≤ o.kd ∧ o.kd ≤ 64 ∧ 0 ≤ o.ini ∧ o.ini < o.st) := by
  rw [objOk_iff, withinS_iff, withinS_iff, withinS_iff, w64_eq, w64_eq]
  obtain ⟨⟨h1, h2⟩, h3, h4⟩ := h
  omega
theorem placeS_raw (a b : ORow) : 0 ≤ placeS a b ↔ (b.s < a.s ∨ a.s = b.s ∧ b.k ≤ a.k) := by
  unfold placeS cmpS
  split <;> (repeat' split) <;> omega

theorem rowE_raw {o : Obj} {i : Nat} (h : i < o.rows.length) : rowE o i = if o.rows[i].s < 0 ∨ o.st ≤ o.rows[i].s ∨ o.rows[i].n < 0 ∨ o.st ≤ o.rows[i].n then 30 else if o.rows[i].k < 0 ∨ o.kd ≤ o.rows[i].k then 31 else if o.rows[i].r < 0 ∨ 1000000 < o.rows[i].r then 7 else
    if 0 < i ∧ (o.rows[i].s < (o.rows.getD (i - 1) default).s ∨ (o.rows.getD (i - 1) default).s = o.rows[i].s ∧ o.rows[i].k ≤ (o.rows.getD (i - 1) default).k) then 32 else 0 := by
  rw [rowE_eq h]
  refine ite_congr (propext ?_) (fun _ => rfl) fun _ => ite_congr (propext ?_) (fun _ => rfl) fun _ => ite_congr (propext ?_) (fun _ => rfl) fun _ => ite_congr (propext ?_) (fun _ => rfl) fun _ => rfl
  · simp [withinS]; omega
  · simp [withinS]; omega
  · simp [withinS]; omega
  · rw [placeS_raw]

set_option maxRecDepth 16000 in
theorem refObjChk_ok (o : Obj) (hr : objR o) (hl : o.rows.length ≤ 140737488355328) : APure Tryz.prog 68 [robj o] (fun r => r = .pv (.tup [I64 (objChk o).1, I64 (objChk o).2])) := by
  refine apureN [2, 3] hmo Tryz.func68 (by kernel_rfl) rfl (fun _ _ => results_tmp2 rfl _ _ _) (by kernel_rfl) (Nat.le_of_ble_eq_true rfl) ?_
  have hraw := objOk_raw hr
  simp [robj]
  refine ⟨fun c => ?_, fun c => ?_⟩
  · have : objOk o = false := by
      cases hk : objOk o with
      | false => rfl
      | true => rw [hk] at hraw; have := hraw.1 rfl; omega
    simp [objChk, this]
  intro c2 c3 c4 c5 c6
  have hok : objChk o = firstErr (rowE o) o.rows.length := by rw [objChk, if_pos (hraw.2 ⟨c, c2, c3, c4, c5, c6⟩)]
  rw [hok]
  refine ALoop.intro (S := fun (i : Nat) => ⟨[(1, .pv (.ptr 0 0)), (4, .pv (I64 i))], [[.pv (I64 o.st), .pv (I64 o.kd), .pv (I64 o.ini), .pv (.seq false 4 (o.rows.map rrow))]]⟩) (fun i => i ≤ o.rows.length ∧ okUp (rowE o) i) (fun i => o.rows.length - i) 0 ?_ ?_ ?_
  · exact Weak.to (by simp) (by simp) (by simp) (by simp) (by simp)
  · exact ⟨by omega, fun j hj => by omega⟩
  · intro i ⟨hi, ho⟩
    by_cases h : i < o.rows.length
    · have hw : w64 ((i : Int) + 1) = ((i + 1 : Nat) : Int) := by rw [w64_id (by omega) (by omega)]; omega
      have hE := rowE_raw h
      have hb : ∀ e : Int, rowE o i = e → e ≠ 0 → firstErr (rowE o) o.rows.length = ((i : Int), e) := fun e he hz => by rw [firstErr_bad h ho (by rw [he]; exact hz), he]
      rcases Nat.eq_zero_or_pos i with h0 | h0
      · subst h0
        simp [h, rrow]
        refine ⟨fun d => ?_, fun d1 d2 d3 d4 => ⟨fun d => ?_, fun d5 d6 => ⟨fun d => ?_, fun d7 d8 => ?_⟩⟩⟩
        · rw [hb 30 (by rw [hE, if_pos (by omega)]) (by decide)]; exact ⟨rfl, rfl⟩
        · rw [hb 31 (by rw [hE, if_neg (by omega), if_pos (by omega)]) (by decide)]; exact ⟨rfl, rfl⟩
        · rw [hb 7 (by rw [hE, if_neg (by omega), if_neg (by omega), if_pos (by omega)]) (by decide)]; exact ⟨rfl, rfl⟩
        · refine ⟨0 + 1, by dsimp only; omega, ⟨by omega, okUp_succ ho (by rw [hE, if_neg (by omega), if_neg (by omega), if_neg (by omega), if_neg (by omega)])⟩, Weak.to ?_ (by simp) (by simp) (by simp) (by simp)⟩
          simp [show w64 1 = 1 by decide]
      · have hq1 : w64 ((i : Int) - 1) = ((i - 1 : Nat) : Int) := by rw [w64_id (by omega) (by omega)]; omega
        have hq2 : i - 1 < o.rows.length := by omega
        have hg : o.rows.getD (i - 1) default = o.rows[i - 1] := by simp [hq2]
        rw [hg] at hE
        simp [h, rrow, h0, hq1, hq2]
        refine ⟨fun d => ?_, fun d1 d2 d3 d4 => ⟨fun d => ?_, fun d5 d6 => ⟨fun d => ?_, fun d7 d8 => ⟨fun d => ⟨d, fun d9 => ⟨d, d9⟩⟩, fun d => ?_, fun d9 d10 => ?_⟩⟩⟩⟩
        · rw [hb 30 (by rw [hE, if_pos (by omega)]) (by decide)]; exact ⟨rfl, rfl⟩
        · rw [hb 31 (by rw [hE, if_neg (by omega), if_pos (by omega)]) (by decide)]; exact ⟨rfl, rfl⟩
        · rw [hb 7 (by rw [hE, if_neg (by omega), if_neg (by omega), if_pos (by omega)]) (by decide)]; exact ⟨rfl, rfl⟩
        · rw [hb 32 (by rw [hE, if_neg (by omega), if_neg (by omega), if_neg (by omega), if_pos (by omega)]) (by decide)]; exact ⟨rfl, rfl⟩
        · refine ⟨i + 1, by dsimp only; omega, ⟨by omega, okUp_succ ho (by rw [hE, if_neg (by omega), if_neg (by omega), if_neg (by omega), if_neg (by omega)])⟩, Weak.to ?_ (by simp) (by simp) (by simp) (by simp)⟩
          simp [hw, rrow]
    · simp [h]
      have : i = o.rows.length := by omega
      rw [firstErr_ok (this ▸ ho)]; simp

theorem find_at {α : Type} {p : α → Bool} {l : List α} {i : Nat} (h : i < l.length) (hn : ∀ j (hj : j < l.length), j < i → p l[j] = false) (hp : p l[i] = true) : l.find? p = some l[i] :=
  List.find?_eq_some_iff_getElem.2 ⟨hp, i, h, rfl, fun j hj => by simp [hn j (by omega) hj]⟩
theorem find_no {α : Type} {p : α → Bool} {l : List α} (hn : ∀ j (hj : j < l.length), p l[j] = false) : l.find? p = none := by
  rw [List.find?_eq_none]
  intro x hx
  obtain ⟨j, hj, rfl⟩ := List.mem_iff_getElem.1 hx
  simp [hn j hj]

set_option maxRecDepth 16000 in
theorem refMove_ok (o : Obj) (s k : Int) (hl : o.rows.length ≤ 140737488355328) : APure Tryz.prog 34 [robj o, I64 s, I64 k] (fun r => r = .pv (movePV (moveS o s k))) := by
  refine apureN [6, 7, 8] hmo Tryz.func34 (by kernel_rfl) rfl (fun _ _ => results_tmp3 rfl _ _ _) (by kernel_rfl) (Nat.le_of_ble_eq_true rfl) ?_
  simp [robj]
  refine ALoop.intro (S := fun (i : Nat) => ⟨[(1, .pv (I64 s)), (2, .pv (I64 k)), (3, .pv (.ptr 0 0)), (9, .pv (I64 i))], [[.pv (I64 o.st), .pv (I64 o.kd), .pv (I64 o.ini), .pv (.seq false 4 (o.rows.map rrow))]]⟩) (fun i => i ≤ o.rows.length ∧ ∀ j (hj : j < o.rows.length), j < i → isRow s k o.rows[j] = false) (fun i => o.rows.length - i) 0 ?_ ?_ ?_
  · exact Weak.to (by simp) (by simp) (by simp) (by simp) (by simp)
  · exact ⟨by omega, fun j _ hj => by omega⟩
  · intro i ⟨hi, ho⟩
    by_cases h : i < o.rows.length
    · have hw : w64 ((i : Int) + 1) = ((i + 1 : Nat) : Int) := by rw [w64_id (by omega) (by omega)]; omega
      simp [h, rrow]
      refine ⟨fun d1 d2 => ?_, fun d => ⟨i + 1, by dsimp only; omega, ⟨by omega, fun j hj hji => ?_⟩, Weak.to ?_ (by simp) (by simp) (by simp) (by simp)⟩⟩
      · rw [moveS, find_at h ho (by simp [isRow, d1, d2])]; rfl
      · by_cases e : j = i
        · subst e; simp [isRow]; exact d
        · exact ho j hj (by omega)
      · simp [hw, rrow]
    · simp [h]
      rw [moveS, find_no (fun j hj => ho j hj (by omega))]
      simp [movePV]

theorem refAt_ok (n m a b : Int) : APure Tryz.prog 75 [I64 n, I64 m, I64 a, I64 b] (fun r => r = .pv (I64 (w64 (a * n + b + 1)))) := by
  refine apure1 hmo Tryz.func75 (by kernel_rfl) rfl rfl (by kernel_rfl) (Nat.le_of_ble_eq_true rfl) ?_
  simp
theorem refState_ok (n m a b : Int) : APure Tryz.prog 76 [I64 n, I64 m, I64 a, I64 b] (fun r => r = .pv (I64 (w64 (n * n + n + a * m + b + 1)))) := by
  refine apure1 hmo Tryz.func76 (by kernel_rfl) rfl rfl (by kernel_rfl) (Nat.le_of_ble_eq_true rfl) ?_
  simp

end Go.AX

namespace Go.AX
open Go.Proofs

set_option maxRecDepth 16000 in
theorem refSize_ok (o : Obj) (ops : List Op5) (hr : objR o) (hl : o.rows.length ≤ 140737488355328) (hl2 : ops.length ≤ 140737488355328) : APure Tryz.prog 85 [robj o, ovec ops] (fun r => r = .pv (.tup [I64 (sizeP o ops).1, I64 (sizeP o ops).2])) := by
  refine apureN [4, 5] hmo Tryz.func85 (by kernel_rfl) rfl (fun _ _ => results_tmp2 rfl _ _ _) (by kernel_rfl) (Nat.le_of_ble_eq_true rfl) ?_
  have h1 := refObjChk_ok o hr hl
  have h2 := refChk_ok ops hl2
  simp only [robj, ovec] at h1 h2
  simp [robj, ovec]
  refine CallK.intro h1 (by simp) ?_
  simp
  refine CallK.intro h2 (by simp) ?_
  simp
  refine ⟨fun c => ?_, fun c1 c2 => ?_⟩
  · have : sizeP o ops = (0, 0) := by rw [sizeP, if_neg]; rintro ⟨h3, h4⟩; simp [h3, h4] at c
    simp [this]
  · simp [sizeP, c1, c2]

set_option maxRecDepth 16000 in
theorem refMay_ok (o : Obj) (x : Op5) (state : Int) (hl : o.rows.length ≤ 140737488355328) : APure Tryz.prog 87 [robj o, .agg (orow x), I64 state] (fun r => r = .pv (mayPV (mayS o x state))) := by
  refine apureN [6, 7] hmo Tryz.func87 (by kernel_rfl) rfl (fun _ _ => results_tmp2 rfl _ _ _) (by kernel_rfl) (Nat.le_of_ble_eq_true rfl) ?_
  have h := refMove_ok o state x.k hl
  simp only [robj] at h
  unfold mayS
  cases hm : moveS o state x.k with
  | none =>
    rw [hm] at h
    simp only [movePV] at h
    simp [robj, orow]
    refine CallK.intro h (by simp) ?_
    simp [mayPV]
  | some y =>
    rw [hm] at h
    simp only [movePV] at h
    simp [robj, orow]
    refine CallK.intro h (by simp) ?_
    simp
    exact ⟨fun c => by rw [if_neg (by omega)]; rfl, fun c1 c2 => by rw [if_pos ⟨c1, c2⟩]; rfl⟩

theorem mayS_in {o : Obj} {x : Op5} {b y : Int} (h : (objChk o).2 = 0) (hm : mayS o x b = some y) : 0 ≤ y ∧ y < o.st := by
  unfold objChk at h
  split at h
  · rw [firstErr_zero] at h
    have : ∃ r, r ∈ o.rows ∧ y = r.n := by
      unfold mayS moveS at hm
      cases hf : o.rows.find? (isRow b x.k) with
      | none => rw [hf] at hm; simp at hm
      | some r =>
        rw [hf] at hm
        simp at hm
        exact ⟨r, List.mem_of_find?_eq_some hf, by grind⟩
    obtain ⟨r, hr, rfl⟩ := this
    obtain ⟨i, hi, rfl⟩ := List.mem_iff_getElem.1 hr
    have he := h i hi
    rw [rowE_raw hi] at he
    by_cases c : o.rows[i].s < 0 ∨ o.st ≤ o.rows[i].s ∨ o.rows[i].n < 0 ∨ o.st ≤ o.rows[i].n
    · rw [if_pos c] at he; cases he
    · omega
  · cases h

theorem var1 {n m a b : Int} (h : sizeOk n m = true) (ha : 0 ≤ a ∧ a < n) (hb : 0 ≤ b ∧ b < n) : w64 (a * n + b + 1) = varS n m 1 a b := by
  have hv : varOk n m 1 a b = true := varOk_iff.2 ⟨h, by decide, by decide, ha.1, ha.2, hb.1, hb.2⟩
  have := block_small hv
  rw [varS, if_pos hv]
  simp [blockFrom, blockWide] at this ⊢
  exact w64_id (by omega) (by omega)
theorem var2 {n m a : Int} (h : sizeOk n m = true) (ha : 0 ≤ a ∧ a < n) : w64 (n * n + a + 1) = varS n m 2 a 0 := by
  have hv : varOk n m 2 a 0 = true := varOk_iff.2 ⟨h, by decide, by decide, ha.1, ha.2, by decide, by simp [blockWide]⟩
  have := block_small hv
  rw [varS, if_pos hv]
  simp [blockFrom, blockWide] at this ⊢
  exact w64_id (by omega) (by omega)
theorem var3 {n m a b : Int} (h : sizeOk n m = true) (ha : 0 ≤ a ∧ a ≤ n) (hb : 0 ≤ b ∧ b < m) : w64 (n * n + n + a * m + b + 1) = varS n m 3 a b := by
  have hv : varOk n m 3 a b = true := varOk_iff.2 ⟨h, by decide, by decide, ha.1, by simp [blockTall]; omega, hb.1, by simp [blockWide]; exact hb.2⟩
  have := block_small hv
  rw [varS, if_pos hv]
  simp [blockFrom, blockWide] at this ⊢
  exact w64_id (by omega) (by omega)

end Go.AX

namespace Go.AX
open Go.Proofs
set_option linter.unusedSimpArgs false

end Go.AX

namespace Go.AX
open Go.Proofs
set_option linter.unusedSimpArgs false

theorem posS_neg (l : List Int) (n : Int) : posS l n < 0 ↔ ¬ n ∈ l := by rw [← Int.not_le, posS_nn]

set_option maxRecDepth 16000 in
theorem refPlayM_ok (o : Obj) (ops : List Op5) (order : List Int) (inn : List Bool) (hr : objR o) (hl : o.rows.length ≤ 140737488355328) (hl2 : ops.length ≤ 140737488355328) : APure Tryz.prog 41 [robj o, ovec ops, .seq false 1 (irow order), .seq false 1 (brow inn)] (fun r => r = .pv (playPV true (playS o ops order inn))) := by
  refine apureN [8, 9] hmo Tryz.func41 (by kernel_rfl) rfl (fun _ _ => results_tmp2 rfl _ _ _) (by kernel_rfl) (Nat.le_of_ble_eq_true rfl) ?_
  have hsz := refSize_ok o ops hr hl hl2
  simp only [robj, ovec] at hsz
  simp [robj, ovec]
  refine CallK.intro hsz (by simp) ?_
  simp
  refine CallK.intro (refCheck_ok _ _) (by simp) ?_
  cases c1 : sizeOk (sizeP o ops).1 (sizeP o ops).2
  · have : playS o ops order inn = none := by unfold playS; rw [if_neg]; simp [c1]
    simp [c1, this, playPV]
  obtain ⟨k1, k2, hP, h64, hm1, hm2⟩ := sizeP_all c1
  have e1 : (sizeP o ops).1 = ops.length := by rw [hP]
  have e2 : (sizeP o ops).2 = o.st := by rw [hP]
  simp [c1, e1, e2]
  refine ⟨fun c => ?_, fun d1 d2 => ?_⟩
  · have : playS o ops order inn = none := by
      unfold playS; rw [if_neg]; rintro ⟨_, h2⟩
      have := playOk_iff.1 h2
      omega
    simp [this, playPV]
  have hl4 : order.length = ops.length := by omega
  have hl5 : inn.length = ops.length := by omega
  refine ALoop.intro (S := fun (i : Nat) => ⟨[(1, .pv (.seq false 5 (ops.map orow))), (2, .pv (.seq false 1 (irow order))), (3, .pv (.seq false 1 (brow inn))), (4, .pv (.ptr 0 0)), (10, .pv (I64 ops.length)), (12, .pv (I64 i))], [[.pv (I64 o.st), .pv (I64 o.kd), .pv (I64 o.ini), .pv (.seq false 4 (o.rows.map rrow))]]⟩) (fun i => i ≤ ops.length ∧ ∀ j, j < i → properAt ops order inn j) (fun i => ops.length - i) 0 ?_ ?_ ?_
  · exact Weak.to (by simp) (by simp) (by simp) (by simp) (by simp)
  · exact ⟨by omega, fun j hj => by omega⟩
  · intro i ⟨hi, ho⟩
    by_cases h : i < ops.length
    · have hw : w64 ((i : Int) + 1) = ((i + 1 : Nat) : Int) := by rw [w64_id (by omega) (by omega)]; omega
      have h3 : i < inn.length := by omega
      have hg : ops.getD i default = ops[i] := by simp [h]
      have hg2 : inn.getD i false = inn[i] := by simp [h3]
      simp [h, orow]
      refine CallK.intro (refPlace_ok order i (by omega)) (by simp) ?_
      simp [h, h3, orow, posS_neg, posS_nn]
      refine ⟨fun c => ⟨c, fun c2 => ⟨c, c2⟩⟩, fun c => ?_, fun c c2 => ⟨i + 1, by dsimp only; omega, ⟨by omega, fun j hj => ?_⟩, Weak.to ?_ (by simp) (by simp) (by simp) (by simp)⟩⟩
      · have : playS o ops order inn = none := by
          unfold playS; rw [if_neg]; rintro ⟨_, h2⟩
          have := (playOk_iff.1 h2).2.2 i h
          unfold properAt at this
          rw [hg, hg2] at this
          grind
        simp [this, playPV]
      · by_cases e : j = i
        · subst e
          unfold properAt
          rw [hg, hg2]
          grind
        · exact ho j (by omega)
      · simp [hw, orow]
    · simp [h]
      have hie : i = ops.length := by omega
      have c2 : playOk ops order inn = true := playOk_iff.2 ⟨hl4, hl5, fun j hj => ho j (by omega)⟩
      have hpa := (playOk_iff.1 c2).2.2
      have hin := range_all hl4 fun i hi => (hpa i hi).1
      have hS : playS o ops order inn = playTo o ops order inn ops.length := by rw [playS, if_pos ⟨c1, c2⟩]
      rw [hS]
      clear h ho hi
      refine ALoop.intro (S := fun (i : Nat) => ⟨[(13, .own true 1 (irow ((playTo o ops order inn i).getD []))), (1, .pv (.seq false 5 (ops.map orow))), (2, .pv (.seq false 1 (irow order))), (3, .pv (.seq false 1 (brow inn))), (4, .pv (.ptr 0 0)), (10, .pv (I64 ops.length)), (14, .pv (I64 i))], [[.pv (I64 o.st), .pv (I64 o.kd), .pv (I64 o.ini), .pv (.seq false 4 (o.rows.map rrow))]]⟩) (fun i => i ≤ ops.length ∧ (playTo o ops order inn i).isSome = true) (fun i => ops.length - i) 0 ?_ ?_ ?_
      · exact Weak.to (by simp [playTo, irow]) (by simp) (by simp) (by simp) (by simp)
      · exact ⟨by omega, rfl⟩
      · intro i ⟨hi, ho⟩
        obtain ⟨out, hout⟩ := Option.isSome_iff_exists.1 ho
        have hlen := playTo_length hout
        by_cases h : i < ops.length
        · have hw : w64 ((i : Int) + 1) = ((i + 1 : Nat) : Int) := by rw [w64_id (by omega) (by omega)]; omega
          have h3 : i < order.length := by omega
          have h4 : i < out.length := by omega
          obtain ⟨j, hj⟩ := Int.eq_ofNat_of_zero_le (hin order[i] (List.getElem_mem h3)).1
          have hj' : order[i] = (j : Int) := hj
          have hjn : j < ops.length := by have := (hin order[i] (List.getElem_mem h3)).2; omega
          have hjn2 : j < inn.length := by omega
          have hlast : out.getLast?.getD 0 = out[i] := by
            rw [List.getLast?_eq_getElem?]
            simp [hlen]
          have hstep : playTo o ops order inn (i + 1) = playStep o ops inn j out := by
            simp [playTo, hout, h3, hj']
          have hmay := refMay_ok o ops[j] out[i] hl
          simp only [robj, orow] at hmay
          simp [h, h3, h4, hout, hj', hjn2]
          refine ⟨fun c => ?_, fun c => ?_⟩
          · cases hms : mayS o ops[j] out[i] with
            | none =>
              rw [hms] at hmay
              simp only [mayPV] at hmay
              simp [h3, hj', hjn, orow]
              refine CallQ0.intro hmay (by simp) ?_
              simp
              have : playTo o ops order inn ops.length = none := by
                refine playTo_none (k := i + 1) ?_ _ (by omega)
                rw [hstep]; simp [playStep, hjn, hjn2, c, hlast, hms]
              simp [this, playPV]
            | some y =>
              rw [hms] at hmay
              simp only [mayPV] at hmay
              simp [h3, hj', hjn, orow]
              refine CallQ0.intro hmay (by simp) ?_
              simp
              have : playTo o ops order inn (i + 1) = some (out ++ [y]) := by
                rw [hstep]; simp [playStep, hjn, hjn2, c, hlast, hms]
              refine ⟨by omega, i + 1, by dsimp only; omega, ⟨by omega, by rw [this]; rfl⟩, Weak.to ?_ (by simp) (by simp) (by simp) (by simp)⟩
              simp [hw, this, irow, orow]
          · have : playTo o ops order inn (i + 1) = some (out ++ [out[i]]) := by
              rw [hstep]; simp [playStep, hjn2, c, hlast]
            refine ⟨by omega, i + 1, by dsimp only; omega, ⟨by omega, by rw [this]; rfl⟩, Weak.to ?_ (by simp) (by simp) (by simp) (by simp)⟩
            simp [hw, this, irow, orow]
        · have : i = ops.length := by omega
          subst this
          simp [hout, playPV]

def caseV (order : List Int) (inn : List Bool) (row : List Int) : PV := .agg [.seq false 1 (irow order), .seq false 1 (brow inn), .seq false 1 (irow row)]

end Go.AX
