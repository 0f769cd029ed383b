/-
  Contracts: clauses of moves.
  Contracts: lists that are the same; where a number stands; plays.
  Contracts: plays.
  Contracts: truths of orders and of rows of states.
  Contracts: events.
  Contracts: the operations of events.
  Contracts: histories (kinds, what is a process', the same).
  Contracts: histories (whether events are one; what is open; what is done).
  Contracts: histories (a process' events; what is done).
  Contracts: of each call the next event of its process is its end (replevinref27.Of); that oper.Of tells the same.
  Contracts: replevinref27.Of, OperTells.
-/
import Derived.Test.YtpejmhpcgpnpaaaGreatS15AxMovB
import Derived.Test.YtpejmhpcgpnpaaaGreatS15AxCntL
namespace Go.AX
open Go.Proofs
def sizeP (o : Obj) (ops : List Op5) : Int × Int := if (objChk o).2 = 0 ∧ (chk ops).2 = 0 then ((ops.length : Int), o.st) else (0, 0)
set_option maxRecDepth 8000 in
theorem size_ok (o : Obj) (ops : List Op5) (hl : o.rows.length ≤ 140737488355328) (hl2 : ops.length ≤ 140737488355328) : APure Tryz.prog 113 [robj o, ovec ops] (fun r => r = .pv (.agg [I64 (sizeP o ops).1, I64 (sizeP o ops).2])) := by
 refine apureC hmo Tryz.func113 ?_; have h1 := objChk_ok o hl; simp only [robj] at h1; simp [robj, ovec]; refine CallK.intro h1 ?_; simp; refine CallK.intro (chk_okC ops hl2) ?_; simp; refine ⟨fun c => ?_, fun c1 c2 => by simp [sizeP, c1, c2]⟩; have : ¬ ((objChk o).2 = 0 ∧ (chk ops).2 = 0) := fun h => by rcases c with c | c; exact c h.1; exact c h.2
 simp [sizeP, this]
def mayS (o : Obj) (x : Op5) (state : Int) : Option Int :=
 match moveS o state x.k with
 | some (n, r) => if x.e ≠ -1 ∧ x.r ≠ r then none else some n
 | none => none
def mayPV : Option Int → PV
 | some n => .tup [I64 n, BL true]
 | none => .tup [I64 0, BL false]
set_option maxRecDepth 8000 in
theorem may2_ok (o : Obj) (x : Op5) (state : Int) (hl : o.rows.length ≤ 140737488355328) : APure Tryz.prog 178 [robj o, .agg (orow x), I64 state] (fun r => r = .pv (mayPV (mayS o x state))) := by
 refine apureN [6, 7] hmo Tryz.func178 (fun _ _ => results_tmp2 rfl _ _ _) ?_; have h1 := move_ok o state x.k hl; simp only [robj] at h1; unfold mayS; cases hm : moveS o state x.k with
 | none =>
  rw [hm] at h1; simp only [movePV] at h1; simp [robj, orow]; refine CallK.intro h1 ?_; simp [mayPV]
 | some y =>
  obtain ⟨n, r⟩ := y; rw [hm] at h1; simp only [movePV] at h1; simp [robj, orow]; refine CallK.intro h1 ?_; simp; exact ⟨fun h1 h2 => by rw [if_pos ⟨h1, h2⟩]; rfl, fun h => by rw [if_neg (fun hh => hh.2 (h hh.1))]; rfl⟩
theorem namer_ok (n m : Int) (h : List (List SV)) : AMut Tryz.prog 177 [.agg [I64 n, I64 m]] h (fun r h' => r = .pv (.fn (.func 251) [] [.ptr h.length 0]) ∧ h' = h ++ [[.pv (I64 n), .pv (I64 m)]]) := by
 refine amut1 hmo Tryz.func177 ?_; simp
theorem name3_ok (n m k a b : Int) : APure Tryz.prog 251 [I64 k, I64 a, I64 b, .iptr 2 [[I64 n, I64 m]] 0 0] (fun r => r = .pv (I64 (varS n m k a b))) := by
 refine apure1 hmo Tryz.func251 ?_; simp; refine CallK.intro (var_ok n m k a b) ?_; simp
def optL : Option Int → (Int → Int) → List Int
 | some x, f => [f x]
 | none, _ => []
def movB (o : Obj) (n m : Int) (x : Op5) (i k b : Nat) : List (List Int) :=
 ([w64 (-varS n m 1 i k), w64 (-varS n m 2 i 0), w64 (-varS n m 3 k b)] ++ optL (mayS o x b) (fun y => varS n m 3 ((k : Int) + 1) y)) :: (if x.e = -1 then [[w64 (-varS n m 1 i k), varS n m 2 i 0, w64 (-varS n m 3 k b), varS n m 3 ((k : Int) + 1) b]] else [])
def movK (o : Obj) (n m : Int) (x : Op5) (i k b : Nat) : List (List Int) := (List.range b).flatMap fun b => movB o n m x i k b
def movI (o : Obj) (n m : Int) (x : Op5) (M i k : Nat) : List (List Int) := (List.range k).flatMap fun k => movK o n m x i k M
def movH (n m : Int) (x : Op5) (i : Nat) : List (List Int) := if x.e = -1 then [] else [[varS n m 2 i 0]]
def movTo (o : Obj) (n m : Int) (N M : Nat) (ops : List Op5) (i : Nat) : List (List Int) := (List.range i).flatMap fun i => movH n m (ops.getD i default) i ++ movI o n m (ops.getD i default) M i N
theorem movK_succ (o : Obj) (n m : Int) (x : Op5) (i k b : Nat) : movK o n m x i k (b + 1) = movK o n m x i k b ++ movB o n m x i k b := by
 unfold movK; rw [List.range_succ, List.flatMap_append]; simp
theorem movI_succ (o : Obj) (n m : Int) (x : Op5) (M i k : Nat) : movI o n m x M i (k + 1) = movI o n m x M i k ++ movK o n m x i k M := by
 unfold movI; rw [List.range_succ, List.flatMap_append]; simp
theorem movTo_succ (o : Obj) (n m : Int) (N M : Nat) {ops : List Op5} {i : Nat} (h : i < ops.length) : movTo o n m N M ops (i + 1) = movTo o n m N M ops i ++ (movH n m ops[i] i ++ movI o n m ops[i] M i N) := by
 unfold movTo; rw [List.range_succ, List.flatMap_append]; simp [h]
theorem movB_length (o : Obj) (n m : Int) (x : Op5) (i k b : Nat) : (movB o n m x i k b).length ≤ 2 := by
 unfold movB; split <;> simp
theorem movK_length (o : Obj) (n m : Int) (x : Op5) (i k : Nat) : ∀ b, (movK o n m x i k b).length ≤ b * 2
 | 0 => by simp [movK]
 | b + 1 => by
  have ih := movK_length o n m x i k b; have := movB_length o n m x i k b; rw [movK_succ, List.length_append]; omega
theorem movI_length (o : Obj) (n m : Int) (x : Op5) (M i : Nat) : ∀ k, (movI o n m x M i k).length ≤ k * (M * 2)
 | 0 => by simp [movI]
 | k + 1 => by
  have ih := movI_length o n m x M i k; have := movK_length o n m x i k M; rw [movI_succ, List.length_append, Nat.succ_mul]; omega
theorem movTo_length (o : Obj) (n m : Int) (N M : Nat) (ops : List Op5) : ∀ i, i ≤ ops.length → (movTo o n m N M ops i).length ≤ i * (1 + N * (M * 2))
 | 0, _ => by simp [movTo]
 | i + 1, h => by
  have ih := movTo_length o n m N M ops i (by omega); have h1 := movI_length o n m ops[i] M i N; have h2 : (movH n m ops[i] i).length ≤ 1 := by unfold movH; split <;> simp
  rw [movTo_succ o n m N M (show i < ops.length by omega), List.length_append, List.length_append, Nat.succ_mul]; omega
def movesC (o : Obj) (ops : List Op5) : List (List Int) := if sizeOk (sizeP o ops).1 (sizeP o ops).2 then movTo o (sizeP o ops).1 (sizeP o ops).2 (sizeP o ops).1.toNat (sizeP o ops).2.toNat ops ops.length else []
set_option maxRecDepth 16000 in
set_option maxHeartbeats 1000000 in
theorem movesC_ok (o : Obj) (ops : List Op5) (hl : o.rows.length ≤ 140737488355328) (hl2 : ops.length ≤ 140737488355328) : APure Tryz.prog 92 [robj o, ovec ops] (fun r => r = (if sizeOk (sizeP o ops).1 (sizeP o ops).2 then .own true 1 ((movesC o ops).map crow) else .pv (.lit (.slice none 0 0)))) := by
 refine apure1 hmo Tryz.func92 ?_; have hz := size_ok o ops hl hl2; have hsz : sizeP o ops = ((ops.length : Int), o.st) ∨ sizeP o ops = (0, 0) := by unfold sizeP; split; exact .inl rfl; exact .inr rfl
 unfold movesC; generalize hP : sizeP o ops = P at hz hsz ⊢; obtain ⟨n, m⟩ := P; dsimp only at hz ⊢; simp only [robj] at hz; simp [robj, ovec] at hz ⊢; refine CallK.intro hz ?_; simp; refine CallK.intro (check_ok n m) ?_; simp; intro c; have hs := sizeOk_iff.1 c; obtain ⟨N, hN⟩ := Int.eq_ofNat_of_zero_le hs.1; have hN' : n = (N : Int) := hN; subst hN'; obtain ⟨M, hM⟩ := Int.eq_ofNat_of_zero_le (show 0 ≤ m by omega); have hM' : m = (M : Int) := hM; subst hM'; have hNl : N = ops.length := by
  rcases hsz with h | h
  ·simp only [Prod.mk.injEq] at h; omega
  ·simp only [Prod.mk.injEq] at h; omega
 have hNN : N ≤ 64 := by omega
 have hMM : M ≤ 32 := by omega
 have hq : N * (M * 2) ≤ 64 * (32 * 2) := Nat.mul_le_mul hNN (by omega); simp [c]; refine CallK.introM (namer_ok N M _) ?_; rintro _ _ ⟨rfl, rfl⟩; simp; refine ALoop.intro (S := fun (i : Nat) => ⟨[(8, .own true 1 ((movTo o N M N M ops i).map crow)), (6, .pv (.fn (.func 251) [] [.ptr 2 0])), (7, .pv (.fn (.func 178) [robj o] [])), (5, .pv (.ptr 1 0)), (30, .pv (ovec ops)), (31, .pv (I64 ops.length)), (32, .pv (I64 i))], [[.pv (I64 o.st), .pv (I64 o.kd), .pv (I64 o.ini), .pv (.seq false 4 (o.rows.map rrow))], [.pv (I64 N), .pv (I64 M)], [.pv (I64 N), .pv (I64 M)]]⟩) (fun i => i ≤ ops.length) (fun i => ops.length - i) 0 ?_ ?_ ?_
 ·exact (Weak.nilOwn (s := 8) 1 true (by simp)).trans (Weak.to (by simp [movTo, robj, ovec]) (by simp) (by simp) (by simp [robj, ovec]) (by simp))
 ·omega
 ·intro i hi; by_cases h : i < ops.length
  ·have hw := wnx i; have hlt := movTo_length o N M N M ops i hi; have hlt2 : i * (1 + N * (M * 2)) ≤ 64 * (1 + 64 * (32 * 2)) := Nat.mul_le_mul (by omega) (by omega); have hmay := fun b => may2_ok o ops[i] b hl; simp only [robj, orow] at hmay; simp [h, ovec, orow, robj]; refine CallB.introP (name3_ok N M 2 i 0) ?_; simp; have hmh : (movH N M ops[i] i).length ≤ 1 := by unfold movH; split <;> simp
   refine ⟨fun he => ⟨by omega, ?_⟩, fun he => ?_⟩
   all_goals
    refine ALoop.intro (S := fun (k : Nat) => ⟨[(8, .own true 1 ((movTo o N M N M ops i ++ (movH N M ops[i] i ++ movI o N M ops[i] M i k)).map crow)), (9, .pv (I64 i)), (10, .pv (.ptr 3 0)), (11, .pv (I64 (varS N M 2 i 0))), (49, .pv (I64 N)), (50, .pv (I64 k)), (6, .pv (.fn (.func 251) [] [.ptr 2 0])), (7, .pv (.fn (.func 178) [robj o] [])), (5, .pv (.ptr 1 0)), (30, .pv (ovec ops)), (31, .pv (I64 ops.length)), (32, .pv (I64 i))], [[.pv (I64 o.st), .pv (I64 o.kd), .pv (I64 o.ini), .pv (.seq false 4 (o.rows.map rrow))], [.pv (I64 N), .pv (I64 M)], [.pv (I64 N), .pv (I64 M)], [.pv (I64 ops[i].p), .pv (I64 ops[i].k), .pv (I64 ops[i].s), .pv (I64 ops[i].e), .pv (I64 ops[i].r)]]⟩) (fun k => k ≤ N) (fun k => N - k) 0 ?_ ?_ ?_
    ·exact Weak.to (by simp [movH, movI, he, robj, ovec, crow, irow]) (by simp) (by simp) (by simp [robj, ovec]) (by simp)
    ·omega
    ·intro k hk; by_cases h2 : k < N
     ·have hw2 := wnx k; have hli := movI_length o N M ops[i] M i k; have hli2 : k * (M * 2) ≤ 64 * (32 * 2) := Nat.mul_le_mul (by omega) (by omega); simp [h2, ovec, robj]; refine ALoop.intro (S := fun (b : Nat) => ⟨[(8, .own true 1 ((movTo o N M N M ops i ++ (movH N M ops[i] i ++ (movI o N M ops[i] M i k ++ movK o N M ops[i] i k b))).map crow)), (9, .pv (I64 i)), (10, .pv (.ptr 3 0)), (11, .pv (I64 (varS N M 2 i 0))), (12, .pv (I64 k)), (54, .pv (I64 M)), (55, .pv (I64 b)), (49, .pv (I64 N)), (50, .pv (I64 k)), (6, .pv (.fn (.func 251) [] [.ptr 2 0])), (7, .pv (.fn (.func 178) [robj o] [])), (5, .pv (.ptr 1 0)), (30, .pv (ovec ops)), (31, .pv (I64 ops.length)), (32, .pv (I64 i))], [[.pv (I64 o.st), .pv (I64 o.kd), .pv (I64 o.ini), .pv (.seq false 4 (o.rows.map rrow))], [.pv (I64 N), .pv (I64 M)], [.pv (I64 N), .pv (I64 M)], [.pv (I64 ops[i].p), .pv (I64 ops[i].k), .pv (I64 ops[i].s), .pv (I64 ops[i].e), .pv (I64 ops[i].r)]]⟩) (fun b => b ≤ M) (fun b => M - b) 0 ?_ ?_ ?_
      ·exact Weak.to (by simp [movK, robj, ovec]) (by simp) (by simp) (by simp [robj, ovec]) (by simp)
      ·omega
      ·intro b hb; by_cases h3 : b < M
       ·have hw3 := wnx b; have hlk := movK_length o N M ops[i] i k b; have hmb := hmay b; simp [h3, ovec, robj]; refine CallB.introP (name3_ok N M 1 i k) ?_; simp; refine CallB.introP (name3_ok N M 3 k b) ?_; simp; have hwk : w64 ((k : Int) + 1) = (k : Int) + 1 := w64_id (by omega) (by omega); cases hms : mayS o ops[i] b with
        | none =>
         rw [hms] at hmb; simp only [mayPV] at hmb; refine CallK.intro hmb ?_; simp [he]
         first
          | refine ⟨by omega, b + 1, by dsimp only; omega, by dsimp only; omega, Weak.to ?_ (by simp) (by simp) (by simp [robj, ovec]) (by simp)⟩
            simp [hw3, movK_succ, movB, hms, optL, he, crow, irow, robj, ovec]
          | refine ⟨by omega, ?_⟩
            simp [hwk]; refine CallB.introP (name3_ok N M 3 (k + 1) b) ?_; simp; refine ⟨by omega, b + 1, by dsimp only; omega, by dsimp only; omega, Weak.to ?_ (by simp) (by simp) (by simp [robj, ovec]) (by simp)⟩; simp [hw3, movK_succ, movB, hms, optL, he, crow, irow, robj, ovec]
        | some y =>
         rw [hms] at hmb; simp only [mayPV] at hmb; refine CallK.intro hmb ?_; simp [hwk]; refine CallB.introP (name3_ok N M 3 (k + 1) y) ?_; simp [he]
         first
          | refine ⟨by omega, b + 1, by dsimp only; omega, by dsimp only; omega, Weak.to ?_ (by simp) (by simp) (by simp [robj, ovec]) (by simp)⟩
            simp [hw3, movK_succ, movB, hms, optL, he, crow, irow, robj, ovec]
          | refine ⟨by omega, ?_⟩
            simp [hwk]; refine CallB.introP (name3_ok N M 3 (k + 1) b) ?_; simp; refine ⟨by omega, b + 1, by dsimp only; omega, by dsimp only; omega, Weak.to ?_ (by simp) (by simp) (by simp [robj, ovec]) (by simp)⟩; simp [hw3, movK_succ, movB, hms, optL, he, crow, irow, robj, ovec]
       ·simp [h3]; have : b = M := by omega
        subst this; refine ⟨k + 1, by dsimp only; omega, by dsimp only; omega, Weak.to ?_ (by simp) (by simp) (by simp [robj, ovec]) (by simp)⟩; simp [hw2, movI_succ, robj, ovec]
     ·simp [h2]; have hkN : k = N := by omega
      refine ⟨i + 1, by dsimp only; omega, by dsimp only; omega, Weak.to ?_ (by simp) (by simp) (by simp [robj, ovec]) (by simp)⟩; simp [hw, movTo_succ _ _ _ _ _ h, hkN, robj, ovec]
  ·simp [h, ovec, robj]; have : i = ops.length := by omega
   rw [this, hNl]
/-! ### Lists that are the same -/
@[simp] theorem belowR_crowF (k : Nat) (l : List (List Int)) : belowR k (l.map crowF) := by
 rw [belowR_iff]; intro r hr x hx; obtain ⟨o, _, rfl⟩ := List.mem_map.1 hr; simp [crowF] at hx; subst hx; exact belowR_irow k o
@[simp] theorem frzR_crowF (r : Nat → Nat → PV) (l : List (List Int)) : frzR r (l.map crowF) = l.map crowF := by
 rw [frzR_map, List.map_map]; apply List.map_congr_left; intro x _; simp [crowF]
theorem eq_of_get {α : Type} {a b : List α} (hl : a.length = b.length) (h : ∀ j (h1 : j < a.length), a[j] = b[j]'(hl ▸ h1)) : a = b := List.ext_getElem hl fun j h1 _ => h j h1
theorem sameInts_ok (a b : List Int) (hl : a.length ≤ 140737488355328) : APure Tryz.prog 71 [.seq false 1 (irow a), .seq false 1 (irow b)] (fun r => r = .pv (BL (decide (a = b)))) := by
 refine apure1 hmo Tryz.func71 ?_; simp; refine ⟨fun h => fun e => h (by rw [e]), fun h => ?_⟩; have hl2 : a.length = b.length := by omega
 refine ALoop.intro (S := fun (i : Nat) => ⟨[(0, .pv (.seq false 1 (irow a))), (1, .pv (.seq false 1 (irow b))), (5, .pv (I64 i))], []⟩) (fun i => i ≤ a.length ∧ ∀ j (h1 : j < a.length), j < i → a[j] = b[j]'(hl2 ▸ h1)) (fun i => a.length - i) 0 ?_ ?_ ?_
 ·exact Weak.to (by simp) rfl (by simp) (by simp) (by simp)
 ·exact ⟨by omega, fun j _ hj => by omega⟩
 ·intro i ⟨hi, ho⟩; by_cases h3 : i < a.length
  ·have hw := wnx i; have h4 : i < b.length := by omega
   simp [h3, h4]; refine ⟨fun c => fun e => c (by subst e; rfl), fun c => ⟨i + 1, by dsimp only; omega, ⟨by omega, fun j h1 hj => ?_⟩, Weak.to ?_ rfl (by simp) (by simp) (by simp)⟩⟩
   ·by_cases e : j = i
    ·subst e; exact c
    ·exact ho j h1 (by omega)
   ·simp [hw]
  ·simp [h3]; exact eq_of_get hl2 fun j h1 => ho j h1 (by omega)
theorem sameRows_ok (a b : List (List Int)) (hl : a.length ≤ 140737488355328) (hr : ∀ x ∈ a, x.length ≤ 140737488355328) : APure Tryz.prog 33 [.seq false 1 (a.map crowF), .seq false 1 (b.map crowF)] (fun r => r = .pv (BL (decide (a = b)))) := by
 refine apure1 hmo Tryz.func33 ?_; simp; refine ⟨fun h => fun e => h (by rw [e]), fun h => ?_⟩; have hl2 : a.length = b.length := by omega
 refine ALoop.intro (S := fun (i : Nat) => ⟨[(0, .pv (.seq false 1 (a.map crowF))), (1, .pv (.seq false 1 (b.map crowF))), (5, .pv (I64 i))], []⟩) (fun i => i ≤ a.length ∧ ∀ j (h1 : j < a.length), j < i → a[j] = b[j]'(hl2 ▸ h1)) (fun i => a.length - i) 0 ?_ ?_ ?_
 ·exact Weak.to (by simp) rfl (by simp) (by simp) (by simp)
 ·exact ⟨by omega, fun j _ hj => by omega⟩
 ·intro i ⟨hi, ho⟩; by_cases h3 : i < a.length
  ·have hw := wnx i; have h4 : i < b.length := by omega
   simp [h3, h4, crowF]; refine CallQ0.intro (sameInts_ok a[i] b[i] (hr _ (List.getElem_mem h3))) ?_; simp; refine ⟨fun c => fun e => c (by subst e; rfl), fun c => ⟨i + 1, by dsimp only; omega, ⟨by omega, fun j h1 hj => ?_⟩, Weak.to ?_ rfl (by simp) (by simp) (by simp)⟩⟩
   ·by_cases e : j = i
    ·subst e; exact c
    ·exact ho j h1 (by omega)
   ·simp [hw, crowF]
  ·simp [h3]; exact eq_of_get hl2 fun j h1 => ho j h1 (by omega)
/-! ### Where a number stands -/
theorem refHas_ok (l : List Int) (n : Int) (hl : l.length ≤ 140737488355328) : APure Tryz.prog 122 [.seq false 1 (irow l), I64 n] (fun r => r = .pv (BL (decide (n ∈ l)))) := by
 refine apure1 hmo Tryz.func122 ?_; simp; refine ALoop.intro (S := fun (i : Nat) => ⟨[(0, .pv (.seq false 1 (irow l))), (1, .pv (I64 n)), (5, .pv (I64 i))], []⟩) (fun i => i ≤ l.length ∧ ∀ j (h : j < l.length), j < i → l[j] ≠ n) (fun i => l.length - i) 0 ?_ ⟨Nat.zero_le _, fun j _ h => by omega⟩ ?_
 ·exact Weak.to (by simp) rfl (by simp) (by simp [irow]) (by simp)
 ·rintro i ⟨hi, ho⟩; by_cases c : i < l.length
  ·have hw := wnx i; simp [c, irow]; refine ⟨fun d => ?_, fun d => ⟨i + 1, by dsimp only; omega, ⟨by omega, fun j h1 h2 => ?_⟩, Weak.to (by simp [hw, irow]) rfl (by simp) (by simp [irow]) (by simp)⟩⟩
   ·rw [← d]; exact List.getElem_mem c
   ·by_cases e : j = i
    ·subst e; exact d
    ·exact ho j h1 (by omega)
  ·have : i = l.length := by omega
   subst this; simp [irow]; intro h; obtain ⟨j, hj, he⟩ := List.getElem_of_mem h; exact ho j hj hj he
/-! ### Closed objects and operations -/
/-! ### May, proper -/
def properAt (ops : List Op5) (order : List Int) (inn : List Bool) (i : Nat) : Prop := (i : Int) ∈ order ∧ ((ops.getD i default).e ≠ -1 → inn.getD i false = true)
instance (ops : List Op5) (order : List Int) (inn : List Bool) (i : Nat) : Decidable (properAt ops order inn i) := by unfold properAt; infer_instance
theorem sizeP_all {o : Obj} {ops : List Op5} (h : sizeOk (sizeP o ops).1 (sizeP o ops).2 = true) : (objChk o).2 = 0 ∧ (chk ops).2 = 0 ∧ sizeP o ops = ((ops.length : Int), o.st) ∧ ops.length ≤ 64 ∧ 1 ≤ o.st ∧ o.st ≤ 32 := by
 unfold sizeP at h ⊢; split at h
 ·rename_i hc; have := sizeOk_iff.1 h; dsimp only at this; exact ⟨hc.1, hc.2, by rw [if_pos hc], by omega, by omega, by omega⟩
 ·cases h
def marks (V : Nat) (idx : List Nat) : List Bool := (List.range V).map fun j => decide (j ∈ idx)
@[simp] theorem marks_length (V : Nat) (idx : List Nat) : (marks V idx).length = V := by simp [marks]
theorem irow_take (l : List Int) (i : Nat) : List.take i (irow l) = irow (l.take i) := by simp [irow, List.map_take]
def markAt (n m k a b : Int) : Nat := (varS n m k a b - 1).toNat
theorem varsN_eq {n m : Int} (h : sizeOk n m = true) : varsN n m = n * n + n + (n + 1) * m ∧ 0 ≤ n * n ∧ n * n ≤ 4096 ∧ 0 ≤ (n + 1) * m ∧ (n + 1) * m ≤ 65 * 32 := by
 have hs := sizeOk_iff.1 h; have h8 : 0 ≤ n * n := Int.mul_nonneg hs.1 hs.1; have h9 : n * n ≤ 64 * 64 := Int.mul_le_mul hs.2.1 hs.2.1 hs.1 (by omega); have ha : 0 ≤ (n + 1) * m := Int.mul_nonneg (by omega) (by omega); have hb : (n + 1) * m ≤ 65 * 32 := Int.mul_le_mul (by omega) (by omega) (by omega) (by omega); exact ⟨w64_id (by omega) (by omega), h8, h9, ha, hb⟩
theorem mark_in {n m k a b : Int} (h : varOk n m k a b = true) : varS n m k a b = (markAt n m k a b : Int) + 1 ∧ (markAt n m k a b : Int) < varsN n m := by
 have hb := block_small h; have hv : varS n m k a b = blockFrom n k + a * blockWide n m k + b + 1 := by rw [varS, if_pos h]
 obtain ⟨h1, h2, h3, h4, h5, h6, h7⟩ := varOk_iff.1 h; obtain ⟨e1, e2, e3, e4, e5⟩ := varsN_eq h1; have hs := sizeOk_iff.1 h1; have hlt : blockFrom n k + a * blockWide n m k + b < varsN n m := by
  rw [e1]; have hk : k = 1 ∨ k = 2 ∨ k = 3 := by omega
  rcases hk with rfl | rfl | rfl
  ·simp [blockFrom, blockWide, blockTall] at h5 h7 ⊢; have := Int.mul_le_mul_of_nonneg_right (show a ≤ n - 1 by omega) hs.1; rw [Int.sub_mul] at this; omega
  ·simp [blockFrom, blockWide, blockTall] at h5 h7 ⊢; omega
  ·simp [blockFrom, blockWide, blockTall] at h5 h7 ⊢; have := Int.mul_le_mul_of_nonneg_right (show a ≤ n by omega) (show 0 ≤ m by omega); rw [Int.add_mul, Int.one_mul]; omega
 unfold markAt; omega
def plIdx (n m : Int) (order : List Int) (k : Nat) : List Nat := (List.range k).map fun (j : Nat) => markAt n m 1 (order.getD j 0) j
def plAt (n : Int) (order : List Int) (k : Nat) : Prop := 0 ≤ order.getD k 0 ∧ order.getD k 0 < n ∧ ¬ order.getD k 0 ∈ order.take k
instance (n : Int) (order : List Int) (k : Nat) : Decidable (plAt n order k) := by unfold plAt; infer_instance
def stIdx (n m : Int) (row : List Int) (k : Nat) : List Nat := (List.range k).map fun (j : Nat) => markAt n m 3 j (row.getD j 0)
def stAt (m : Int) (row : List Int) (k : Nat) : Prop := 0 ≤ row.getD k 0 ∧ row.getD k 0 < m
instance (m : Int) (row : List Int) (k : Nat) : Decidable (stAt m row k) := by unfold stAt; infer_instance
structure Ev where
  w : Int
  p : Int
  n : Int
instance : Inhabited Ev := ⟨⟨0, 0, 0⟩⟩
def evR (x : Ev) : List PV := [I64 x.w, I64 x.p, I64 x.n]
def evV (l : List Ev) : PV := .seq false 3 (l.map evR)
@[simp] theorem belowR_ev (k : Nat) (l : List Ev) : belowR k (l.map evR) := by
 induction l with
 | nil => trivial
 | cons x xs ih => exact ⟨⟨trivial, trivial, trivial, trivial⟩, ih⟩
def evAlone (x : Ev) : Int := if x.w ≠ 1 ∧ x.w ≠ 2 then 8 else if x.p < 1 ∨ 1000 < x.p then 2 else if x.w = 1 ∧ (x.n < 0 ∨ 64 ≤ x.n) then 31 else if x.w = 2 ∧ (x.n < 0 ∨ 1000000 < x.n) then 7 else 0
set_option maxRecDepth 8000 in
theorem evAlone_ok (x : Ev) : APure Tryz.prog 162 [.agg (evR x)] (fun r => r = .pv (I64 (evAlone x))) := by
 refine apure1 hmo Tryz.func162 ?_; obtain ⟨w, p, n⟩ := x; obtain ⟨R, hR⟩ : ∃ R, evAlone ⟨w, p, n⟩ = R := ⟨_, rfl⟩; rw [hR]; unfold evAlone at hR; dsimp only at hR; by_cases a1 : w = 1
 ·subst a1; by_cases a2 : p < 1
  ·simp [a2] at hR; subst hR; simp [evR, a2]
  ·by_cases a3 : 1000 < p
   ·simp [a2, a3] at hR; subst hR; simp [evR, a2, a3]
   ·by_cases a4 : n < 0
    ·simp [a2, a3, a4] at hR; subst hR; simp [evR, a2, a3, a4]
    ·by_cases a5 : 64 ≤ n
     ·simp [a2, a3, a4, a5] at hR; subst hR; simp [evR, a2, a3, a4, a5]
     ·simp [a2, a3, a4, a5] at hR; subst hR; simp [evR, a2, a3, a4, a5]
 ·by_cases b1 : w = 2
  ·subst b1; by_cases a2 : p < 1
   ·simp [a2] at hR; subst hR; simp [evR, a2]
   ·by_cases a3 : 1000 < p
    ·simp [a2, a3] at hR; subst hR; simp [evR, a2, a3]
    ·by_cases a4 : n < 0
     ·simp [a2, a3, a4] at hR; subst hR; simp [evR, a2, a3, a4]
     ·by_cases a5 : 1000000 < n
      ·simp [a2, a3, a4, a5] at hR; subst hR; simp [evR, a2, a3, a4, a5]
      ·simp [a2, a3, a4, a5] at hR; subst hR; simp [evR, a2, a3, a4, a5]
  ·simp [a1, b1] at hR; subst hR; simp [evR, a1, b1]
def opTo (l : List Ev) : Nat → List (Int × Int)
 | 0 => []
 | i + 1 => pt (opTo l i) (l.getD i default).p (l.getD i default).w
def evErr (l : List Ev) (i : Nat) : Int :=
 if evAlone (l.getD i default) ≠ 0 then evAlone (l.getD i default) else if ((lk (opTo l i) (l.getD i default).p).getD 0 = 1 ↔ (l.getD i default).w = 1) then 33 else 0
def evGo (l : List Ev) : Nat → Nat → Int × Int
 | 0, i => (i, 0)
 | k + 1, i => if evErr l i ≠ 0 then (i, evErr l i) else evGo l k (i + 1)
def evChk (l : List Ev) : Int × Int := if 10000 < l.length then (0, 3) else evGo l l.length 0
set_option maxRecDepth 8000 in
theorem evChk_ok (l : List Ev) (hl : l.length ≤ 140737488355328) : APure Tryz.prog 85 [evV l] (fun r => r = .pv (.tup [I64 (evChk l).1, I64 (evChk l).2])) := by
 refine apureN [2, 3] hmo Tryz.func85 (fun _ _ => results_tmp2 rfl _ _ _) ?_; obtain ⟨R, hR⟩ : ∃ R, evChk l = R := ⟨_, rfl⟩; rw [hR]; unfold evChk at hR; by_cases c : 10000 < l.length
 ·have c' : 10000 < (l.length : Int) := by omega
  rw [if_pos c] at hR; subst hR; simp [evV, c, c']
 have c' : ¬ 10000 < (l.length : Int) := by omega
 rw [if_neg c] at hR; simp [evV, c, c']; refine ALoop.intro (S := fun (i : Nat) => ⟨[(0, .pv (.seq false 3 (l.map evR))), (4, .omap true (mapE fI (opTo l i))), (12, .pv (.seq false 3 (l.map evR))), (13, .pv (I64 l.length)), (14, .pv (I64 i))], []⟩) (fun i => i ≤ l.length ∧ evGo l (l.length - i) i = R) (fun i => l.length - i) 0 ?_ ?_ ?_
 ·exact Weak.to (by simp [opTo]) rfl (by simp) (by simp) (by simp)
 ·exact ⟨Nat.zero_le _, hR⟩
 ·rintro i ⟨hi, hg⟩; by_cases c1 : i < l.length
  ·have hw := wnx i; obtain ⟨x, hx⟩ : ∃ x, l[i] = x := ⟨_, rfl⟩; have hgd : l.getD i default = x := by rw [← hx]; simp [c1]
   have ho : opTo l (i + 1) = pt (opTo l i) x.p x.w := by rw [opTo, hgd]
   rw [show l.length - i = (l.length - i - 1) + 1 by omega, evGo] at hg; unfold evErr at hg; rw [hgd] at hg; simp [c1, hx, evR]; refine CallK.intro (evAlone_ok x) ?_; simp; refine ⟨fun d => ?_, fun d => ⟨fun d2 => ?_, fun d2 => ?_⟩⟩
   ·rw [if_pos d, if_pos d] at hg; subst hg; exact ⟨rfl, rfl⟩
   ·simp only [d, d2, ne_eq, not_true_eq_false, if_false, if_true] at hg; simp at hg; subst hg; exact ⟨rfl, rfl⟩
   ·simp only [d, d2, ne_eq, not_true_eq_false, if_false] at hg; refine ⟨i + 1, by dsimp only; omega, ⟨by omega, by rwa [show l.length - (i + 1) = l.length - i - 1 by omega]⟩, Weak.to (by simp [hw, ho]) rfl (by simp) (by simp) (by simp)⟩
  ·have : i = l.length := by omega
   subst this; rw [Nat.sub_self, evGo] at hg; subst hg; simp
@[simp] theorem frzR_ev (r : Nat → Nat → PV) (l : List Ev) : frzR r (l.map evR) = l.map evR := by
 rw [frzR_map, List.map_map]; congr 1
def ofOpen (l : List Ev) : Nat → List Op5 × List (Int × Int)
 | 0 => ([], [])
 | i + 1 =>
  let x := l.getD i default
  let out := (ofOpen l i).1
  let op := (ofOpen l i).2
  if x.w = 1 then (out ++ [⟨x.p, x.n, (i : Int), -1, -1⟩], pt op x.p (out.length : Int))
  else (out.set ((lk op x.p).getD 0).toNat ⟨(out.getD ((lk op x.p).getD 0).toNat default).p, (out.getD ((lk op x.p).getD 0).toNat default).k, (out.getD ((lk op x.p).getD 0).toNat default).s, (i : Int), x.n⟩, op)
theorem evGo_okI {l : List Ev} : ∀ (k i : Nat), (evGo l k i).2 = 0 → ∀ j, i ≤ j → j < i + k → evErr l j = 0
 | 0, i, _, j, h1, h2 => by omega
 | k + 1, i, h, j, h1, h2 => by
  rw [evGo] at h; by_cases c : evErr l i = 0
  ·rw [if_neg (by simpa using c)] at h; by_cases e : j = i
   ·subst e; exact c
   ·exact evGo_okI k (i + 1) h j (by omega) (by omega)
  ·rw [if_pos c] at h; exact absurd h c
theorem of_inv {l : List Ev} : ∀ i, (∀ j, j < i → evErr l j = 0) → ∀ p, lk (opTo l i) p = some 1 → ∃ j : Nat, j < (ofOpen l i).1.length ∧ lk (ofOpen l i).2 p = some (j : Int)
 | 0, _, p, h => by simp [opTo, lk] at h
 | i + 1, he, p, h => by
  have ih := of_inv i (fun j hj => he j (by omega)) p; rw [opTo, lk_pt] at h; rw [ofOpen]; by_cases c : (l.getD i default).w = 1
  ·rw [if_pos c]; dsimp only; rw [lk_pt, List.length_append]; by_cases e : (l.getD i default).p = p
   ·rw [if_pos e]; exact ⟨_, by simp, rfl⟩
   ·rw [if_neg e] at h ⊢; obtain ⟨j, h1, h2⟩ := ih h; exact ⟨j, by omega, h2⟩
  ·rw [if_neg c]; dsimp only; rw [List.length_set]; by_cases e : (l.getD i default).p = p
   ·rw [if_pos e] at h; injection h with h; exact absurd h c
   ·rw [if_neg e] at h; exact ih h
theorem of_len {l : List Ev} : ∀ i, (ofOpen l i).1.length ≤ i
 | 0 => Nat.le_refl _
 | i + 1 => by
  have := of_len (l := l) i; rw [ofOpen]; split
  ·simp; omega
  ·simp; omega
def ofV (l : List Ev) : PV := if (evChk l).2 = 0 then .seq true 5 ((ofOpen l l.length).1.map orow) else .lit (.slice none 0 0)
set_option maxRecDepth 8000 in
theorem of_ok (l : List Ev) (hl : l.length ≤ 140737488355328) : APure Tryz.prog 44 [evV l] (fun r => r = .pv (.tup [ofV l, I64 (evChk l).2]) ) := by
 refine apureNB [13] [2, 3] hmo Tryz.func44 (fun _ _ => results_tmp2 rfl _ _ _) ?_; have hc := evChk_ok l hl; simp [evV]; refine CallK.intro hc ?_; by_cases c : (evChk l).2 = 0; rotate_left
 ·simp [ofV, c]
 have hE : ∀ j, j < l.length → evErr l j = 0 := by
  unfold evChk at c; split at c
  ·cases c
  ·exact fun j hj => evGo_okI l.length 0 c j (Nat.zero_le _) (by omega)
 have hc2 : l.length ≤ 10000 := by
  unfold evChk at c; split at c
  ·cases c
  ·omega
 simp [ofV, c]; refine ALoop.intro (S := fun (i : Nat) => ⟨[(6, .own true 5 ((ofOpen l i).1.map orow)), (7, .omap true (mapE fI (ofOpen l i).2)), (20, .pv (.seq false 3 (l.map evR))), (21, .pv (I64 l.length)), (22, .pv (I64 i))], []⟩) (fun i => i ≤ l.length) (fun i => l.length - i) 0 ?_ (Nat.zero_le _) ?_
 ·exact (Weak.nilOwn (s := 6) 5 true (by simp)).trans (Weak.to (by simp [ofOpen]) rfl (by simp) (by simp) (by simp))
 ·intro i hi; by_cases c1 : i < l.length
  ·have hw := wnx i; obtain ⟨x, hx⟩ : ∃ x, l[i] = x := ⟨_, rfl⟩; have hgd : l.getD i default = x := by rw [← hx]; simp [c1]
   have he := hE i c1; have hlen := of_len (l := l) i; have hinv := of_inv (l := l) i (fun j hj => hE j (by omega)) x.p; have hst : ofOpen l (i + 1) = if x.w = 1 then ((ofOpen l i).1 ++ [⟨x.p, x.n, (i : Int), -1, -1⟩], pt (ofOpen l i).2 x.p ((ofOpen l i).1.length : Int)) else ((ofOpen l i).1.set ((lk (ofOpen l i).2 x.p).getD 0).toNat ⟨((ofOpen l i).1.getD ((lk (ofOpen l i).2 x.p).getD 0).toNat default).p, ((ofOpen l i).1.getD ((lk (ofOpen l i).2 x.p).getD 0).toNat default).k, ((ofOpen l i).1.getD ((lk (ofOpen l i).2 x.p).getD 0).toNat default).s, (i : Int), x.n⟩, (ofOpen l i).2) := by rw [ofOpen]; simp only [hgd]
   generalize (ofOpen l i).1 = out at *; generalize (ofOpen l i).2 = op at *; by_cases c2 : x.w = 1
   ·rw [if_pos c2] at hst; simp [c1, hx, evR, c2]; refine ⟨by omega, i + 1, by dsimp only; omega, by dsimp only; omega, Weak.to ?_ rfl (by simp) ?_ (by simp)⟩
    ·simp [hw, hst, orow]
    ·simp
   ·rw [if_neg c2] at hst; have hop : lk (opTo l i) x.p = some 1 := by
     unfold evErr at he; rw [hgd] at he; by_cases d : evAlone x = 0
     ·simp only [d, ne_eq, not_true_eq_false, if_false] at he; by_cases d2 : (lk (opTo l i) x.p).getD 0 = 1
      ·cases hk : lk (opTo l i) x.p with
       | none => rw [hk] at d2; cases d2
       | some y => rw [hk] at d2; simp at d2; rw [d2]
      ·rw [if_pos (by constructor; exact fun h => absurd h d2; exact fun h => absurd h c2)] at he; cases he
     ·rw [if_pos d] at he; exact absurd he d
    obtain ⟨j, hj, hjk⟩ := hinv hop; rw [hjk] at hst; simp only [Option.getD_some, Int.toNat_natCast] at hst; obtain ⟨o, ho⟩ : ∃ o, out[j] = o := ⟨_, rfl⟩; have hog : out.getD j default = o := by rw [← ho]; simp [hj]
    rw [hog] at hst; have hb1 : belowR 0 ((List.map orow out).set j [I64 o.p, I64 o.k, I64 o.s, I64 (i : Int), I64 x.n]) := by
     have e : (List.map orow out).set j [I64 o.p, I64 o.k, I64 o.s, I64 (i : Int), I64 x.n] = (out.set j ⟨o.p, o.k, o.s, (i : Int), x.n⟩).map orow := by rw [List.map_set]; rfl
     rw [e]; exact belowR_orow _ _
    simp [c1, hx, evR, c2, hjk, hj, ho, orow]; refine AAnyD.meet (.take 0 (.take 1 (.take 2 (.take 3 (.take 5 (.take 6 (.fork [(4, .fork [(7, .take 8 (.take 9 (.fork [(10, .done)])))]), (7, .fork [(4, .take 8 (.take 9 (.fork [(10, .done)])))])])))))))
     ⟨[(6, .own true 5 ((out.set j ⟨o.p, o.k, o.s, (i : Int), x.n⟩).map orow)), (7, .omap true (mapE fI op)), (20, .pv (.seq false 3 (l.map evR))), (21, .pv (I64 l.length)), (22, .pv (I64 i))], []⟩ (by kernel_rfl) ?_ ?_
    ·simp [hj, ho, orow]; exact ⟨Weak.to (by simp) rfl (by simp) (by simp [hb1]) (by simp), Weak.to (by simp) rfl (by simp) (by simp [hb1]) (by simp)⟩
    ·simp; refine ⟨i + 1, by dsimp only; omega, by dsimp only; omega, Weak.to ?_ rfl (by simp) ?_ (by simp)⟩
     ·simp [hw, hst, orow]
     ·simp
  ·have : i = l.length := by omega
   subst this; simp
theorem ev_ext : ∀ x y : Ev, x.w = y.w → x.p = y.p → x.n = y.n → x = y := fun x y h1 h2 h3 => by
 cases x; cases y; simp at h1 h2 h3; subst h1 h2 h3; rfl
instance : DecidableEq Ev := fun a b => if h : a.w = b.w ∧ a.p = b.p ∧ a.n = b.n then .isTrue (ev_ext a b h.1 h.2.1 h.2.2) else .isFalse fun e => h (by subst e; exact ⟨rfl, rfl, rfl⟩)
def lastTo (l : List Ev) (p : Int) : Nat → Int
 | 0 => -1
 | i + 1 => if (l.getD i default).p = p then (i : Int) else lastTo l p i
theorem lastTo_lt (l : List Ev) (p : Int) : ∀ i : Nat, -1 ≤ lastTo l p i ∧ lastTo l p i < (i : Int)
 | 0 => by simp [lastTo]
 | i + 1 => by
  have := lastTo_lt l p i; rw [lastTo]; split <;> omega
theorem refLast_ok (l : List Ev) (p : Int) (hl : l.length ≤ 140737488355328) : APure Tryz.prog 221 [evV l, I64 p] (fun r => r = .pv (I64 (lastTo l p l.length))) := by
 refine apure1 hmo Tryz.func221 ?_; simp [evV]; refine ALoop.intro (S := fun (i : Nat) => ⟨[(0, .pv (evV l)), (1, .pv (I64 p)), (5, .pv (I64 (lastTo l p i))), (6, .pv (I64 i))], []⟩) (fun i => i ≤ l.length) (fun i => l.length - i) 0 ?_ (Nat.zero_le _) ?_
 ·exact Weak.to (by simp [evV, lastTo]) rfl (by simp) (by simp [evV]) (by simp)
 ·intro i hi; by_cases c : i < l.length
  ·have hw := wnx i; have hs : lastTo l p (i + 1) = if l[i].p = p then (i : Int) else lastTo l p i := by rw [lastTo]; simp [c]
   simp [evV, evR, c]; refine ⟨fun d => ?_, fun d => ?_⟩
   ·rw [if_pos d] at hs; exact ⟨i + 1, by dsimp only; omega, by dsimp only; omega, Weak.to (by simp [hw, hs, evV]) rfl (by simp) (by simp [evV]) (by simp)⟩
   ·rw [if_neg d] at hs; exact ⟨i + 1, by dsimp only; omega, by dsimp only; omega, Weak.to (by simp [hw, hs, evV]) rfl (by simp) (by simp [evV]) (by simp)⟩
  ·have : i = l.length := by omega
   subst this; simp [evV]
def opnS (l : List Ev) (p : Int) (i : Nat) : Bool := decide (0 ≤ lastTo l p i) && decide ((l.getD (lastTo l p i).toNat default).w = 1)
theorem refOpen1_ok (l : List Ev) (p : Int) (hl : l.length ≤ 140737488355328) : APure Tryz.prog 124 [evV l, I64 p] (fun r => r = .pv (BL (opnS l p l.length))) := by
 refine apure1 hmo Tryz.func124 ?_; have h := refLast_ok l p hl; have hlt := lastTo_lt l p l.length; simp only [evV] at h; unfold opnS; simp [evV]; refine CallK.intro h ?_; by_cases c : 0 ≤ lastTo l p l.length
 ·obtain ⟨j, hj⟩ : ∃ j : Nat, lastTo l p l.length = (j : Int) := ⟨(lastTo l p l.length).toNat, by omega⟩; rw [hj] at h hlt c ⊢; have hj2 : j < l.length := by omega
  simp [c, hj2, evR]
 ·simp [c]
@[simp] theorem frzR_ev_take (r : Nat → Nat → PV) (l : List Ev) (i : Nat) : frzR r ((l.map evR).take i) = (l.map evR).take i := by
 rw [← List.map_take, frzR_ev]
theorem lastTo_take (l : List Ev) (p : Int) (n : Nat) : ∀ i, i ≤ n → lastTo (l.take n) p i = lastTo l p i
 | 0, _ => rfl
 | i + 1, h => by
  rw [lastTo, lastTo, lastTo_take l p n i (by omega)]; have : (l.take n).getD i default = l.getD i default := by
   simp only [List.getD_eq_getElem?_getD, List.getElem?_take]; rw [if_pos (by omega)]
  rw [this]
theorem opnS_take (l : List Ev) (p : Int) (n : Nat) : opnS (l.take n) p n = opnS l p n := by
 unfold opnS; rw [lastTo_take l p n n (Nat.le_refl _)]; have := lastTo_lt l p n; by_cases c : 0 ≤ lastTo l p n
 ·have : (l.take n).getD (lastTo l p n).toNat default = l.getD (lastTo l p n).toNat default := by
   simp only [List.getD_eq_getElem?_getD, List.getElem?_take]; rw [if_pos (by omega)]
  rw [this]
 ·simp [c]
theorem lk_opTo (l : List Ev) (p : Int) : ∀ i, lk (opTo l i) p = if 0 ≤ lastTo l p i then some (l.getD (lastTo l p i).toNat default).w else none
 | 0 => by simp [opTo, lk, lastTo]
 | i + 1 => by
  rw [opTo, lk_pt, lastTo]; by_cases c : (l.getD i default).p = p
  ·simp only [if_pos c]; rw [if_pos (by omega)]; simp
  ·rw [if_neg c, if_neg c, lk_opTo l p i]
theorem opn_iff (l : List Ev) (p : Int) (i : Nat) : ((lk (opTo l i) p).getD 0 = 1) ↔ opnS l p i = true := by
 rw [lk_opTo]; unfold opnS; by_cases c : 0 ≤ lastTo l p i
 ·simp [c]
 ·simp [c]
set_option maxRecDepth 16000 in
theorem refEvChk_ok (l : List Ev) (hl : l.length ≤ 140737488355328) : APure Tryz.prog 55 [evV l] (fun r => r = .pv (.tup [I64 (evChk l).1, I64 (evChk l).2])) := by
 refine apureN [2, 3] hmo Tryz.func55 (fun _ _ => results_tmp2 rfl _ _ _) ?_; obtain ⟨R, hR⟩ : ∃ R, evChk l = R := ⟨_, rfl⟩; rw [hR]; unfold evChk at hR; by_cases c : 10000 < l.length
 ·have c' : 10000 < (l.length : Int) := by omega
  rw [if_pos c] at hR; subst hR; simp [evV, c, c']
 have c' : ¬ 10000 < (l.length : Int) := by omega
 rw [if_neg c] at hR; simp [evV, c, c']; refine ALoop.intro (S := fun (i : Nat) => ⟨[(0, .pv (.seq false 3 (l.map evR))), (4, .pv (I64 i))], []⟩) (fun i => i ≤ l.length ∧ evGo l (l.length - i) i = R) (fun i => l.length - i) 0 ?_ ?_ ?_
 ·exact Weak.to (by simp) rfl (by simp) (by simp) (by simp)
 ·exact ⟨Nat.zero_le _, hR⟩
 ·rintro i ⟨hi, hg⟩; by_cases c1 : i < l.length
  ·have hw := wnx i; obtain ⟨x, hx⟩ : ∃ x, l[i] = x := ⟨_, rfl⟩; have hgd : l.getD i default = x := by rw [← hx]; simp [c1]
   rw [show l.length - i = (l.length - i - 1) + 1 by omega, evGo] at hg; have ho := refOpen1_ok (l.take i) x.p (by simp; omega); have hlen : (l.take i).length = i := by simp; omega
   rw [hlen, opnS_take] at ho; have hoi := opn_iff l x.p i; simp only [evV, List.map_take] at ho; obtain ⟨O, hO⟩ : ∃ O, opnS l x.p i = O := ⟨_, rfl⟩; rw [hO] at ho hoi; unfold evErr evAlone at hg; rw [hgd] at hg; obtain ⟨w, p, n⟩ := x; dsimp only at ho hg hoi; have fin : ∀ R0 : Int × Int, True := fun _ => trivial; by_cases a1 : w = 1
   ·subst a1; by_cases a2 : p < 1
    ·simp [a2] at hg; subst hg; simp [c1, hx, evR, a2]
    ·by_cases a3 : 1000 < p
     ·simp [a2, a3] at hg; subst hg; simp [c1, hx, evR, a2, a3]
     ·by_cases a4 : n < 0
      ·simp [a2, a3, a4] at hg; subst hg; simp [c1, hx, evR, a2, a3, a4]
      ·by_cases a5 : 64 ≤ n
       ·have a5' : 63 < n := by omega
        simp [a2, a3, a4, a5] at hg; subst hg; simp [c1, hx, evR, a2, a3, a4, a5']
       ·have a5' : ¬ 63 < n := by omega
        simp [c1, hx, evR, a2, a3, a4, a5']; have hil : (i : Int) ≤ l.length := by omega
        simp [hil, hi]; refine CallQ.intro (fun _ => ho) ?_; cases O
        ·have : ¬ (lk (opTo l i) p).getD 0 = 1 := fun h => by have := hoi.1 h; cases this
         simp [a2, a3, a4, a5, this] at hg; simp [c1, hx, evR, a2, a3, a4, a5']; refine CallQ.intro (r := .pv (BL true)) (fun h => h.elim) ?_; simp; exact ⟨i + 1, by dsimp only; omega, ⟨by omega, by rwa [show l.length - (i + 1) = l.length - i - 1 by omega]⟩, Weak.to (by simp [hw]) rfl (by simp) (by simp) (by simp)⟩
        ·have : (lk (opTo l i) p).getD 0 = 1 := hoi.2 rfl; simp [a2, a3, a4, a5, this] at hg; subst hg; simp [c1, hx, evR, a2, a3, a4, a5']; refine CallQ.intro (r := .pv (BL true)) (fun h => h.elim) ?_; simp
   ·by_cases b1 : w = 2
    ·subst b1; by_cases a2 : p < 1
     ·simp [a2] at hg; subst hg; simp [c1, hx, evR, a2]
     ·by_cases a3 : 1000 < p
      ·simp [a2, a3] at hg; subst hg; simp [c1, hx, evR, a2, a3]
      ·by_cases a4 : n < 0
       ·simp [a2, a3, a4] at hg; subst hg; simp [c1, hx, evR, a2, a3, a4]
       ·by_cases a5 : 1000000 < n
        ·simp [a2, a3, a4, a5] at hg; subst hg; simp [c1, hx, evR, a2, a3, a4, a5]
        ·simp [c1, hx, evR, a2, a3, a4, a5]; have hil : (i : Int) ≤ l.length := by omega
         refine CallQ.intro (r := .pv (BL true)) (fun h => h.elim) ?_; simp [hil, hi]; refine CallQ.intro (fun _ => ho) ?_; cases O
         ·have : ¬ (lk (opTo l i) p).getD 0 = 1 := fun h => by have := hoi.1 h; cases this
          simp [a2, a3, a4, a5, this] at hg; subst hg; simp
         ·have : (lk (opTo l i) p).getD 0 = 1 := hoi.2 rfl; simp [a2, a3, a4, a5, this] at hg; simp; exact ⟨i + 1, by dsimp only; omega, ⟨by omega, by rwa [show l.length - (i + 1) = l.length - i - 1 by omega]⟩, Weak.to (by simp [hw]) rfl (by simp) (by simp) (by simp)⟩
    ·simp [a1, b1] at hg; subst hg; simp [c1, hx, evR, a1, b1]
  ·have : i = l.length := by omega
   subst this; rw [Nat.sub_self, evGo] at hg; subst hg; simp
@[simp] theorem nwR_ev (l : List Ev) : nwR (l.map evR) := by
 rw [nwR_iff]; intro r hr; obtain ⟨x, _, rfl⟩ := List.mem_map.1 hr; exact ⟨trivial, trivial, trivial, trivial⟩
def nextTo (l : List Ev) (i : Nat) : Nat → Int
 | 0 => -1
 | n + 1 => if 0 ≤ nextTo l i n then nextTo l i n else if i < n ∧ (l.getD n default).p = (l.getD i default).p then (n : Int) else -1
theorem nextTo_lt (l : List Ev) (i : Nat) : ∀ n : Nat, -1 ≤ nextTo l i n ∧ nextTo l i n < (n : Int)
 | 0 => by simp [nextTo]
 | n + 1 => by
  have := nextTo_lt l i n; rw [nextTo]; split
  ·omega
  ·split <;> omega
theorem nextTo_early (l : List Ev) (i : Nat) : ∀ n : Nat, n ≤ i + 1 → nextTo l i n = -1
 | 0, _ => rfl
 | n + 1, h => by
  rw [nextTo, nextTo_early l i n (by omega), if_neg (by omega), if_neg (by omega)]
theorem nextTo_stays (l : List Ev) (i : Nat) {k : Nat} (h : 0 ≤ nextTo l i k) : ∀ n : Nat, k ≤ n → nextTo l i n = nextTo l i k
 | 0, hn => by
  have : k = 0 := by omega
  subst this; rfl
 | n + 1, hn => by
  by_cases e : k = n + 1
  ·subst e; rfl
  ·rw [nextTo, nextTo_stays l i h n (by omega), if_pos h]
def resTo (l : List Ev) (i n : Nat) : Int := if 0 ≤ nextTo l i n then (l.getD (nextTo l i n).toNat default).n else -1
def opAt (l : List Ev) (n i : Nat) : Op5 := ⟨(l.getD i default).p, (l.getD i default).n, (i : Int), nextTo l i n, resTo l i n⟩
def callsTo (l : List Ev) (n : Nat) : List Nat := (List.range n).filter fun i => decide ((l.getD i default).w = 1)
theorem callsTo_succ (l : List Ev) (n : Nat) : callsTo l (n + 1) = if (l.getD n default).w = 1 then callsTo l n ++ [n] else callsTo l n := by
 unfold callsTo; rw [List.range_succ, List.filter_append]; simp only [List.filter_cons, List.filter_nil]; split <;> simp_all
theorem mem_callsTo {l : List Ev} {n i : Nat} : i ∈ callsTo l n ↔ i < n ∧ (l.getD i default).w = 1 := by
 unfold callsTo; rw [List.mem_filter, List.mem_range]; simp
theorem callsTo_len (l : List Ev) (n : Nat) : (callsTo l n).length ≤ n := Nat.le_trans (List.length_filter_le _ _) (by simp)
theorem callsTo_nodup (l : List Ev) (n : Nat) : (callsTo l n).Nodup := List.Pairwise.filter _ List.nodup_range
theorem last_of_next {l : List Ev} {i : Nat} : ∀ n : Nat, i < n → nextTo l i n < 0 → lastTo l (l.getD i default).p n = (i : Int)
 | 0, h, _ => by omega
 | n + 1, h, hn => by
  rw [lastTo]; rw [nextTo] at hn; by_cases e : i = n
  ·subst e; rw [if_pos rfl]
  ·by_cases c : 0 ≤ nextTo l i n
   ·rw [if_pos c] at hn; omega
   ·rw [if_neg c] at hn; by_cases d : (l.getD n default).p = (l.getD i default).p
    ·rw [if_pos ⟨by omega, d⟩] at hn; omega
    ·rw [if_neg d]; exact last_of_next n (by omega) (by omega)
theorem next_of_last {l : List Ev} {i : Nat} : ∀ n : Nat, i < n → lastTo l (l.getD i default).p n = (i : Int) → nextTo l i n < 0
 | 0, h, _ => by omega
 | n + 1, h, hn => by
  rw [nextTo]; rw [lastTo] at hn; by_cases e : i = n
  ·subst e; rw [nextTo_early l i i (by omega), if_neg (by omega), if_neg (by omega)]; omega
  ·by_cases d : (l.getD n default).p = (l.getD i default).p
   ·rw [if_pos d] at hn; omega
   ·rw [if_neg d] at hn; have := next_of_last n (by omega) hn; rw [if_neg (by omega), if_neg (fun h => d h.2)]; omega
theorem of_same {l : List Ev} : ∀ n, (∀ j, j < n → evErr l j = 0) →
    (ofOpen l n).1 = (callsTo l n).map (opAt l n) ∧ ∀ p, opnS l p n = true → ∃ j : Nat, lk (ofOpen l n).2 p = some (j : Int) ∧ (callsTo l n)[j]? = some (lastTo l p n).toNat
  | 0, _ => ⟨by simp [ofOpen, callsTo], fun p h => by simp [opnS, lastTo] at h⟩
  | n + 1, he => by
    obtain ⟨h1, h2⟩ := of_same n (fun j hj => he j (by omega))
    have hen := he n (by omega)
    have hcs := callsTo_succ l n
    obtain ⟨x, hx⟩ : ∃ x, l.getD n default = x := ⟨_, rfl⟩
    unfold evErr at hen
    rw [hx] at hen hcs
    have hal : evAlone x = 0 := by
      by_cases d : evAlone x = 0
      · exact d
      · rw [if_pos d] at hen; exact absurd hen d
    simp only [hal, ne_eq, not_true_eq_false, if_false] at hen
    have hw : x.w = 1 ∨ x.w = 2 := by
      unfold evAlone at hal
      by_cases a : x.w = 1
      · exact .inl a
      · by_cases b : x.w = 2
        · exact .inr b
        · rw [if_pos ⟨a, b⟩] at hal; cases hal
    have hop := opn_iff l x.p n
    rcases hw with hw | hw
    · -- a call
      rw [if_pos hw] at hcs
      have hno : opnS l x.p n = false := by
        cases ho : opnS l x.p n
        · rfl
        · have := hop.2 ho
          rw [if_pos ⟨fun _ => hw, fun _ => this⟩] at hen; cases hen
      have hkeep : ∀ i ∈ callsTo l n, opAt l (n + 1) i = opAt l n i := by
        intro i hi
        obtain ⟨hin, hiw⟩ := mem_callsTo.1 hi
        have : nextTo l i (n + 1) = nextTo l i n := by
          rw [nextTo]
          split
          · rfl
          · rename_i hc
            rw [if_neg]
            · have := (nextTo_lt l i n).1; omega
            · rintro ⟨_, hp⟩
              have hl := last_of_next (l := l) n hin (by omega)
              rw [hx] at hp
              rw [← hp] at hl
              have : opnS l x.p n = true := by
                unfold opnS; rw [hl]; simp; simpa using hiw
              rw [hno] at this; cases this
        unfold opAt resTo
        rw [this]
      have hof : ofOpen l (n + 1) = ((ofOpen l n).1 ++ [⟨x.p, x.n, (n : Int), -1, -1⟩], pt (ofOpen l n).2 x.p ((ofOpen l n).1.length : Int)) := by
        rw [ofOpen]; simp only [hx]; rw [if_pos hw]
      refine ⟨?_, fun p hp => ?_⟩
      · rw [hof, hcs]
        dsimp only
        rw [List.map_append, h1, List.map_congr_left hkeep]
        congr 1
        have : nextTo l n (n + 1) = -1 := nextTo_early l n (n + 1) (Nat.le_refl _)
        simp only [List.map_cons, List.map_nil, opAt, resTo, this, hx]
        rfl
      · rw [hof, hcs]
        dsimp only
        rw [lk_pt, lastTo, hx]
        by_cases e : x.p = p
        · rw [if_pos e, if_pos e]
          refine ⟨_, rfl, ?_⟩
          rw [h1]; simp
        · rw [if_neg e, if_neg e]
          have hp2 : opnS l p n = true := by
            unfold opnS at hp ⊢
            rw [lastTo, hx, if_neg e] at hp
            exact hp
          obtain ⟨j, h3, h4⟩ := h2 p hp2
          refine ⟨j, h3, ?_⟩
          rw [List.getElem?_append_left (List.getElem?_eq_some_iff.1 h4).1]
          exact h4
    · -- an end
      have hw1 : ¬ x.w = 1 := by omega
      rw [if_neg hw1] at hcs
      have hyes : opnS l x.p n = true := by
        apply hop.1
        apply Classical.byContradiction
        intro hne
        rw [if_pos ⟨fun h => absurd h hne, fun h => absurd h hw1⟩] at hen
        cases hen
      obtain ⟨j, h3, h4⟩ := h2 x.p hyes
      obtain ⟨hj, h5⟩ := List.getElem?_eq_some_iff.1 h4
      have hlen : (ofOpen l n).1.length = (callsTo l n).length := by rw [h1, List.length_map]
      have hl0 : 0 ≤ lastTo l x.p n := by
        unfold opnS at hyes; simp at hyes; exact hyes.1
      obtain ⟨m, hm⟩ : ∃ m : Nat, lastTo l x.p n = (m : Int) := ⟨(lastTo l x.p n).toNat, by omega⟩
      rw [hm, Int.toNat_natCast] at h5
      have h4' : (callsTo l n)[j]? = some m := by rw [h4, hm]; rfl
      have hmem : m ∈ callsTo l n := h5 ▸ List.getElem_mem hj
      obtain ⟨hmn, hmw⟩ := mem_callsTo.1 hmem
      -- the last event's process
      have hmp : (l.getD m default).p = x.p := by
        have key : ∀ k : Nat, lastTo l x.p k = (m : Int) → (l.getD m default).p = x.p := by
          intro k
          induction k with
          | zero => intro h; simp only [lastTo] at h; omega
          | succ k ih =>
            intro h
            rw [lastTo] at h
            by_cases c : (l.getD k default).p = x.p
            · rw [if_pos c] at h
              have : k = m := by omega
              rw [← this]; exact c
            · rw [if_neg c] at h; exact ih h
        exact key n hm
      have hnm : nextTo l m n < 0 := next_of_last n hmn (by rw [hmp]; exact hm)
      have hnm1 : nextTo l m (n + 1) = (n : Int) := by
        rw [nextTo, if_neg (by omega), if_pos ⟨hmn, by rw [hx, hmp]⟩]
      have hother : ∀ i ∈ callsTo l n, i ≠ m → opAt l (n + 1) i = opAt l n i := by
        intro i hi hne
        obtain ⟨hin, hiw⟩ := mem_callsTo.1 hi
        have : nextTo l i (n + 1) = nextTo l i n := by
          rw [nextTo]
          split
          · rfl
          · rename_i hc
            rw [if_neg]
            · have := (nextTo_lt l i n).1; omega
            · rintro ⟨_, hp⟩
              have hl := last_of_next (l := l) n hin (by omega)
              rw [hx] at hp
              rw [← hp, hm] at hl
              omega
        unfold opAt resTo
        rw [this]
      have hof : ofOpen l (n + 1) = ((ofOpen l n).1.set j ⟨((ofOpen l n).1.getD j default).p, ((ofOpen l n).1.getD j default).k, ((ofOpen l n).1.getD j default).s, (n : Int), x.n⟩, (ofOpen l n).2) := by
        rw [ofOpen]; simp only [hx]; rw [if_neg hw1, h3]; rfl
      have hgj : (ofOpen l n).1.getD j default = opAt l n m := by
        rw [h1, List.getD_eq_getElem?_getD, List.getElem?_map, h4, hm]; rfl
      refine ⟨?_, fun p hp => ?_⟩
      · rw [hof, hcs]
        dsimp only
        rw [hgj, h1]
        apply List.ext_getElem
        · simp
        · intro k k1 k2
          simp only [List.length_set, List.length_map] at k1
          rw [List.getElem_set]
          split
          · rename_i e
            subst e
            simp only [List.getElem_map, h5]
            unfold opAt resTo
            rw [hnm1]
            simp only [hmp]
            rw [if_pos (by omega), Int.toNat_natCast, hx]
          · rename_i e
            simp only [List.getElem_map]
            refine (hother _ (List.getElem_mem _) fun e2 => e ?_).symm
            exact nodup_index (callsTo_nodup l n) h4' (List.getElem?_eq_some_iff.2 ⟨by omega, e2⟩)
      · rw [hof, hcs]
        dsimp only
        have hne : x.p ≠ p := by
          intro e
          unfold opnS at hp
          rw [lastTo, hx, if_pos e] at hp
          simp at hp
          rw [List.getD_eq_getElem?_getD] at hx
          rw [hx] at hp
          exact hw1 hp
        have hp2 : opnS l p n = true := by
          unfold opnS at hp ⊢
          rw [lastTo, hx, if_neg hne] at hp
          exact hp
        obtain ⟨j2, h6, h7⟩ := h2 p hp2
        exact ⟨j2, h6, by rw [lastTo, hx, if_neg hne]; exact h7⟩
def refOps (l : List Ev) (i : Nat) : List Op5 := (callsTo l i).map (opAt l l.length)
theorem refOps_succ (l : List Ev) (i : Nat) : refOps l (i + 1) = if (l.getD i default).w = 1 then refOps l i ++ [⟨(l.getD i default).p, (l.getD i default).n, (i : Int), nextTo l i l.length, resTo l i l.length⟩] else refOps l i := by
 unfold refOps; rw [callsTo_succ]; split
 ·rw [List.map_append]; rfl
 ·rfl
theorem refOps_len (l : List Ev) (i : Nat) : (refOps l i).length ≤ i := by unfold refOps; rw [List.length_map]; exact callsTo_len l i
def refOfV (l : List Ev) : PV := if (evChk l).2 = 0 then .seq true 5 ((refOps l l.length).map orow) else .lit (.slice none 0 0)
set_option maxRecDepth 16000 in
theorem refOf27_ok (l : List Ev) (hl : l.length ≤ 140737488355328) : APure Tryz.prog 28 [evV l] (fun r => r = .pv (.tup [refOfV l, I64 (evChk l).2])) := by
 refine apureN [2, 3] hmo Tryz.func28 (fun _ _ => results_tmp2 rfl _ _ _) ?_; have hc := refEvChk_ok l hl; simp only [evV] at hc; simp [evV]; refine CallK.intro hc ?_; by_cases c : (evChk l).2 = 0; rotate_left
 ·simp [refOfV, c]
 have hc2 : l.length ≤ 10000 := by
  unfold evChk at c; split at c
  ·cases c
  ·omega
 simp [refOfV, c]; refine ALoop.intro (S := fun (i : Nat) => ⟨[(0, .pv (evV l)), (6, .own true 5 ((refOps l i).map orow)), (7, .pv (I64 i))], []⟩) (fun i => i ≤ l.length) (fun i => l.length - i) 0 ?_ (Nat.zero_le _) ?_
 ·exact (Weak.nilOwn (s := 6) 5 true (by simp)).trans (Weak.to (by simp [evV, refOps, callsTo]) rfl (by simp) (by simp [evV]) (by simp))
 ·intro i hi; by_cases c1 : i < l.length
  ·have hw := wnx i; obtain ⟨x, hx⟩ : ∃ x, l[i] = x := ⟨_, rfl⟩; have hgd : l.getD i default = x := by rw [← hx]; simp [c1]
   have hcs := refOps_succ l i; rw [hgd] at hcs; have hlen := refOps_len l i; by_cases d : x.w = 1
   ·rw [if_pos d] at hcs; have he1 : nextTo l i (i + 1) = -1 := nextTo_early l i (i + 1) (Nat.le_refl _); have he2 : resTo l i (i + 1) = -1 := by unfold resTo; rw [he1]; rfl
    simp [evV, evR, c1, hx, d]; refine ALoop.intro (S := fun (k : Nat) => ⟨[(0, .pv (evV l)), (6, .own true 5 ((refOps l i).map orow)), (7, .pv (I64 i)), (8, .pv (.ptr 0 0)), (9, .pv (I64 k))], [[.pv (I64 x.p), .pv (I64 x.n), .pv (I64 i), .pv (I64 (nextTo l i k)), .pv (I64 (resTo l i k))]]⟩) (fun k => i + 1 ≤ k ∧ k ≤ l.length) (fun k => l.length - k) (i + 1) ?_ ⟨Nat.le_refl _, by omega⟩ ?_
    ·exact Weak.to (by simp [evV, hw]) (by simp [he1, he2]) (by simp) (by simp [evV]) (by simp)
    ·rintro k ⟨hk1, hk⟩; have hnl := nextTo_lt l i k; by_cases ck : k < l.length
     ·have hw2 := wnx k; obtain ⟨y, hy⟩ : ∃ y, l[k] = y := ⟨_, rfl⟩; have hgk : l.getD k default = y := by rw [← hy]; simp [ck]
      by_cases cn : 0 ≤ nextTo l i k
      ·have hst := nextTo_stays l i cn l.length hk; have hrs : resTo l i l.length = resTo l i k := by unfold resTo; rw [hst]
       simp [evV, evR, ck, cn]; refine ⟨by omega, i + 1, by (try dsimp only); omega, by (try dsimp only); omega, Weak.to (by simp [hw, hcs, orow, evV, hst, hrs]) (by simp) (by simp) (by simp [evV]) (by simp)⟩
      ·have hs : nextTo l i (k + 1) = if y.p = x.p then (k : Int) else -1 := by
        rw [nextTo, if_neg cn, hgk, hgd]; by_cases e : y.p = x.p
        ·rw [if_pos ⟨by omega, e⟩, if_pos e]
        ·rw [if_neg (fun h => e h.2), if_neg e]
       have cn2 : nextTo l i k < 0 := by omega
       by_cases e : y.p = x.p
       ·rw [if_pos e] at hs; have hr : resTo l i (k + 1) = y.n := by unfold resTo; rw [hs, if_pos (by omega), Int.toNat_natCast, hgk]
        simp [evV, evR, ck, c1, hx, hy, cn2, e]; exact ⟨k + 1, by (try dsimp only); omega, ⟨by (try dsimp only); omega, by (try dsimp only); omega⟩, Weak.to (by simp [hw2, evV]) (by simp [hs, hr]) (by simp) (by simp [evV]) (by simp)⟩
       ·rw [if_neg e] at hs; have hn1 : nextTo l i k = -1 := by omega
        have hr : resTo l i (k + 1) = resTo l i k := by unfold resTo; rw [hs, hn1]
        simp [evV, evR, ck, c1, hx, hy, cn2, e]; exact ⟨k + 1, by (try dsimp only); omega, ⟨by (try dsimp only); omega, by (try dsimp only); omega⟩, Weak.to (by simp [hw2, evV]) (by simp [hs, hr, hn1]) (by simp) (by simp [evV]) (by simp)⟩
     ·have : k = l.length := by omega
      subst this; simp [evV]; refine ⟨by omega, i + 1, by (try dsimp only); omega, by (try dsimp only); omega, Weak.to (by simp [hw, hcs, orow, evV]) (by simp) (by simp) (by simp [evV]) (by simp)⟩
   ·rw [if_neg d] at hcs; simp [evV, evR, c1, hx, d]; exact ⟨i + 1, by dsimp only; omega, by dsimp only; omega, Weak.to (by simp [hw, hcs, orow, evV]) rfl (by simp) (by simp [evV]) (by simp)⟩
  ·have : i = l.length := by omega
   subst this; simp [evV]
end Go.AX
