/-
  Contracts: the document's objects, sizes, moves.
  Contracts: the document's clauses of moves.
  Contracts: the document's clauses of moves, walked.
-/
import Derived.Test.YtpejmhpcgpnpaaaGreatS15AxEvE
namespace Go.AX
open Go.Proofs
def inR (n : Int) : Prop := -9223372036854775808 ≤ n ∧ n ≤ 9223372036854775807
def objR (o : Obj) : Prop := inR o.st ∧ inR o.kd
theorem objOk_raw {o : Obj} (h : objR o) : objOk o = true ↔ (1 ≤ o.st ∧ o.st ≤ 32 ∧ 1 ≤ o.kd ∧ o.kd ≤ 64 ∧ 0 ≤ o.ini ∧ o.ini < o.st) := by
 rw [objOk_iff, withinS_iff, withinS_iff, withinS_iff, w64_eq, w64_eq]; obtain ⟨⟨h1, h2⟩, h3, h4⟩ := h; omega
theorem placeS_raw (a b : ORow) : 0 ≤ placeS a b ↔ (b.s < a.s ∨ a.s = b.s ∧ b.k ≤ a.k) := by
 unfold placeS cmpS; split <;> (repeat' split) <;> omega
theorem rowE_raw {o : Obj} {i : Nat} (h : i < o.rows.length) : rowE o i = if o.rows[i].s < 0 ∨ o.st ≤ o.rows[i].s ∨ o.rows[i].n < 0 ∨ o.st ≤ o.rows[i].n then 30 else if o.rows[i].k < 0 ∨ o.kd ≤ o.rows[i].k then 31 else if o.rows[i].r < 0 ∨ 1000000 < o.rows[i].r then 7 else
 if 0 < i ∧ (o.rows[i].s < (o.rows.getD (i - 1) default).s ∨ (o.rows.getD (i - 1) default).s = o.rows[i].s ∧ o.rows[i].k ≤ (o.rows.getD (i - 1) default).k) then 32 else 0 := by
 rw [rowE_eq h]; refine ite_congr (propext ?_) (fun _ => rfl) fun _ => ite_congr (propext ?_) (fun _ => rfl) fun _ => ite_congr (propext ?_) (fun _ => rfl) fun _ => ite_congr (propext ?_) (fun _ => rfl) fun _ => rfl
 ·simp [withinS]; omega
 ·simp [withinS]; omega
 ·simp [withinS]; omega
 ·rw [placeS_raw]
set_option maxRecDepth 16000 in
theorem refObjChk_ok (o : Obj) (hr : objR o) (hl : o.rows.length ≤ 140737488355328) : APure Tryz.prog 65 [robj o] (fun r => r = .pv (.tup [I64 (objChk o).1, I64 (objChk o).2])) := by
 refine apureN [2, 3] hmo Tryz.func65 (fun _ _ => results_tmp2 rfl _ _ _) ?_; have hraw := objOk_raw hr; simp [robj]; refine ⟨fun c => ?_, fun c => ?_⟩
 ·have : objOk o = false := by
   cases hk : objOk o with
   | false => rfl
   | true => rw [hk] at hraw; have := hraw.1 rfl; omega
  simp [objChk, this]
 intro c2 c3 c4 c5 c6; have hok : objChk o = firstErr (rowE o) o.rows.length := by rw [objChk, if_pos (hraw.2 ⟨c, c2, c3, c4, c5, c6⟩)]
 rw [hok]; refine ALoop.intro (S := fun (i : Nat) => ⟨[(1, .pv (.ptr 0 0)), (4, .pv (I64 i))], [[.pv (I64 o.st), .pv (I64 o.kd), .pv (I64 o.ini), .pv (.seq false 4 (o.rows.map rrow))]]⟩) (fun i => i ≤ o.rows.length ∧ okUp (rowE o) i) (fun i => o.rows.length - i) 0 ?_ ?_ ?_
 ·exact Weak.to (by simp) (by simp) (by simp) (by simp) (by simp)
 ·exact ⟨by omega, fun j hj => by omega⟩
 ·intro i ⟨hi, ho⟩; by_cases h : i < o.rows.length
  ·have hw := wnx i; have hE := rowE_raw h; have hb : ∀ e : Int, rowE o i = e → e ≠ 0 → firstErr (rowE o) o.rows.length = ((i : Int), e) := fun e he hz => by rw [firstErr_bad h ho (by rw [he]; exact hz), he]
   rcases Nat.eq_zero_or_pos i with h0 | h0
   ·subst h0; simp [h, rrow]; refine ⟨fun d => ?_, fun d1 d2 d3 d4 => ⟨fun d => ?_, fun d5 d6 => ⟨fun d => ?_, fun d7 d8 => ?_⟩⟩⟩
    ·rw [hb 30 (by rw [hE, if_pos (by omega)]) (by decide)]; exact ⟨rfl, rfl⟩
    ·rw [hb 31 (by rw [hE, if_neg (by omega), if_pos (by omega)]) (by decide)]; exact ⟨rfl, rfl⟩
    ·rw [hb 7 (by rw [hE, if_neg (by omega), if_neg (by omega), if_pos (by omega)]) (by decide)]; exact ⟨rfl, rfl⟩
    ·refine ⟨0 + 1, by dsimp only; omega, ⟨by omega, okUp_succ ho (by rw [hE, if_neg (by omega), if_neg (by omega), if_neg (by omega), if_neg (by omega)])⟩, Weak.to ?_ (by simp) (by simp) (by simp) (by simp)⟩; simp [show w64 1 = 1 by decide]
   ·have hq1 : w64 ((i : Int) - 1) = ((i - 1 : Nat) : Int) := by rw [w64_id (by omega) (by omega)]; omega
    have hq2 : i - 1 < o.rows.length := by omega
    have hg : o.rows.getD (i - 1) default = o.rows[i - 1] := by simp [hq2]
    rw [hg] at hE; simp [h, rrow, h0, hq1, hq2]; refine ⟨fun d => ?_, fun d1 d2 d3 d4 => ⟨fun d => ?_, fun d5 d6 => ⟨fun d => ?_, fun d7 d8 => ⟨fun d => ⟨d, fun d9 => ⟨d, d9⟩⟩, fun d => ?_, fun d9 d10 => ?_⟩⟩⟩⟩
    ·rw [hb 30 (by rw [hE, if_pos (by omega)]) (by decide)]; exact ⟨rfl, rfl⟩
    ·rw [hb 31 (by rw [hE, if_neg (by omega), if_pos (by omega)]) (by decide)]; exact ⟨rfl, rfl⟩
    ·rw [hb 7 (by rw [hE, if_neg (by omega), if_neg (by omega), if_pos (by omega)]) (by decide)]; exact ⟨rfl, rfl⟩
    ·rw [hb 32 (by rw [hE, if_neg (by omega), if_neg (by omega), if_neg (by omega), if_pos (by omega)]) (by decide)]; exact ⟨rfl, rfl⟩
    ·refine ⟨i + 1, by dsimp only; omega, ⟨by omega, okUp_succ ho (by rw [hE, if_neg (by omega), if_neg (by omega), if_neg (by omega), if_neg (by omega)])⟩, Weak.to ?_ (by simp) (by simp) (by simp) (by simp)⟩; simp [hw, rrow]
  ·simp [h]; have : i = o.rows.length := by omega
   rw [firstErr_ok (this ▸ ho)]; simp
theorem find_at {α : Type} {p : α → Bool} {l : List α} {i : Nat} (h : i < l.length) (hn : ∀ j (hj : j < l.length), j < i → p l[j] = false) (hp : p l[i] = true) : l.find? p = some l[i] :=
 List.find?_eq_some_iff_getElem.2 ⟨hp, i, h, rfl, fun j hj => by simp [hn j (by omega) hj]⟩
theorem find_no {α : Type} {p : α → Bool} {l : List α} (hn : ∀ j (hj : j < l.length), p l[j] = false) : l.find? p = none := by
 rw [List.find?_eq_none]; intro x hx; obtain ⟨j, hj, rfl⟩ := List.mem_iff_getElem.1 hx; simp [hn j hj]
set_option maxRecDepth 16000 in
theorem refMove_ok (o : Obj) (s k : Int) (hl : o.rows.length ≤ 140737488355328) : APure Tryz.prog 80 [robj o, I64 s, I64 k] (fun r => r = .pv (movePV (moveS o s k))) := by
 refine apureN [6, 7, 8] hmo Tryz.func80 (fun _ _ => results_tmp3 rfl _ _ _) ?_; simp [robj]; refine ALoop.intro (S := fun (i : Nat) => ⟨[(1, .pv (I64 s)), (2, .pv (I64 k)), (3, .pv (.ptr 0 0)), (9, .pv (I64 i))], [[.pv (I64 o.st), .pv (I64 o.kd), .pv (I64 o.ini), .pv (.seq false 4 (o.rows.map rrow))]]⟩) (fun i => i ≤ o.rows.length ∧ ∀ j (hj : j < o.rows.length), j < i → isRow s k o.rows[j] = false) (fun i => o.rows.length - i) 0 ?_ ?_ ?_
 ·exact Weak.to (by simp) (by simp) (by simp) (by simp) (by simp)
 ·exact ⟨by omega, fun j _ hj => by omega⟩
 ·intro i ⟨hi, ho⟩; by_cases h : i < o.rows.length
  ·have hw := wnx i; simp [h, rrow]; refine ⟨fun d1 d2 => ?_, fun d => ⟨i + 1, by dsimp only; omega, ⟨by omega, fun j hj hji => ?_⟩, Weak.to ?_ (by simp) (by simp) (by simp) (by simp)⟩⟩
   ·rw [moveS, find_at h ho (by simp [isRow, d1, d2])]; rfl
   ·by_cases e : j = i
    ·subst e; simp [isRow]; exact d
    ·exact ho j hj (by omega)
   ·simp [hw, rrow]
  ·simp [h]; rw [moveS, find_no (fun j hj => ho j hj (by omega))]; simp [movePV]
theorem refAt_ok (n m a b : Int) : APure Tryz.prog 127 [I64 n, I64 m, I64 a, I64 b] (fun r => r = .pv (I64 (w64 (a * n + b + 1)))) := by
 refine apure1 hmo Tryz.func127 ?_; simp
theorem refIn_ok (n m a : Int) : APure Tryz.prog 131 [I64 n, I64 m, I64 a] (fun r => r = .pv (I64 (w64 (n * n + a + 1)))) := by
 refine apure1 hmo Tryz.func131 ?_; simp
theorem refState_ok (n m a b : Int) : APure Tryz.prog 129 [I64 n, I64 m, I64 a, I64 b] (fun r => r = .pv (I64 (w64 (n * n + n + a * m + b + 1)))) := by
 refine apure1 hmo Tryz.func129 ?_; simp
set_option maxRecDepth 16000 in
theorem refSize_ok (o : Obj) (ops : List Op5) (hr : objR o) (hl : o.rows.length ≤ 140737488355328) (hl2 : ops.length ≤ 140737488355328) : APure Tryz.prog 130 [robj o, ovec ops] (fun r => r = .pv (.tup [I64 (sizeP o ops).1, I64 (sizeP o ops).2])) := by
 refine apureN [4, 5] hmo Tryz.func130 (fun _ _ => results_tmp2 rfl _ _ _) ?_; have h1 := refObjChk_ok o hr hl; have h2 := refChk_ok ops hl2; simp only [robj, ovec] at h1 h2; simp [robj, ovec]; refine CallK.intro h1 ?_; simp; refine CallK.intro h2 ?_; simp; refine ⟨fun c => ?_, fun c1 c2 => ?_⟩
 ·have : sizeP o ops = (0, 0) := by rw [sizeP, if_neg]; rintro ⟨h3, h4⟩; simp [h3, h4] at c
  simp [this]
 ·simp [sizeP, c1, c2]
set_option maxRecDepth 16000 in
theorem refMay_ok (o : Obj) (x : Op5) (state : Int) (hl : o.rows.length ≤ 140737488355328) : APure Tryz.prog 132 [robj o, .agg (orow x), I64 state] (fun r => r = .pv (mayPV (mayS o x state))) := by
 refine apureN [6, 7] hmo Tryz.func132 (fun _ _ => results_tmp2 rfl _ _ _) ?_; have h := refMove_ok o state x.k hl; simp only [robj] at h; unfold mayS; cases hm : moveS o state x.k with
 | none =>
  rw [hm] at h; simp only [movePV] at h; simp [robj, orow]; refine CallK.intro h ?_; simp [mayPV]
 | some y =>
  rw [hm] at h; simp only [movePV] at h; simp [robj, orow]; refine CallK.intro h ?_; simp; exact ⟨fun c => by rw [if_neg (by omega)]; rfl, fun c1 c2 => by rw [if_pos ⟨c1, c2⟩]; rfl⟩
theorem mayS_in {o : Obj} {x : Op5} {b y : Int} (h : (objChk o).2 = 0) (hm : mayS o x b = some y) : 0 ≤ y ∧ y < o.st := by
 unfold objChk at h; split at h
 ·rw [firstErr_zero] at h; have : ∃ r, r ∈ o.rows ∧ y = r.n := by
   unfold mayS moveS at hm; cases hf : o.rows.find? (isRow b x.k) with
   | none => rw [hf] at hm; simp at hm
   | some r =>
    rw [hf] at hm; simp at hm; exact ⟨r, List.mem_of_find?_eq_some hf, by grind⟩
  obtain ⟨r, hr, rfl⟩ := this; obtain ⟨i, hi, rfl⟩ := List.mem_iff_getElem.1 hr; have he := h i hi; rw [rowE_raw hi] at he; by_cases c : o.rows[i].s < 0 ∨ o.st ≤ o.rows[i].s ∨ o.rows[i].n < 0 ∨ o.st ≤ o.rows[i].n
  ·rw [if_pos c] at he; cases he
  ·omega
 ·cases h
theorem var1 {n m a b : Int} (h : sizeOk n m = true) (ha : 0 ≤ a ∧ a < n) (hb : 0 ≤ b ∧ b < n) : w64 (a * n + b + 1) = varS n m 1 a b := by
 have hv : varOk n m 1 a b = true := varOk_iff.2 ⟨h, by decide, by decide, ha.1, ha.2, hb.1, hb.2⟩; have := block_small hv; rw [varS, if_pos hv]; simp [blockFrom, blockWide] at this ⊢; exact w64_id (by omega) (by omega)
theorem var2 {n m a : Int} (h : sizeOk n m = true) (ha : 0 ≤ a ∧ a < n) : w64 (n * n + a + 1) = varS n m 2 a 0 := by
 have hv : varOk n m 2 a 0 = true := varOk_iff.2 ⟨h, by decide, by decide, ha.1, ha.2, by decide, by simp [blockWide]⟩; have := block_small hv; rw [varS, if_pos hv]; simp [blockFrom, blockWide] at this ⊢; exact w64_id (by omega) (by omega)
theorem var3 {n m a b : Int} (h : sizeOk n m = true) (ha : 0 ≤ a ∧ a ≤ n) (hb : 0 ≤ b ∧ b < m) : w64 (n * n + n + a * m + b + 1) = varS n m 3 a b := by
 have hv : varOk n m 3 a b = true := varOk_iff.2 ⟨h, by decide, by decide, ha.1, by simp [blockTall]; omega, hb.1, by simp [blockWide]; exact hb.2⟩; have := block_small hv; rw [varS, if_pos hv]; simp [blockFrom, blockWide] at this ⊢; exact w64_id (by omega) (by omega)
set_option maxRecDepth 16000 in
theorem refMovesC_ok (o : Obj) (ops : List Op5) (hr : objR o) (hl : o.rows.length ≤ 140737488355328) (hl2 : ops.length ≤ 140737488355328) : APure Tryz.prog 61 [robj o, ovec ops] (fun r => r = (if sizeOk (sizeP o ops).1 (sizeP o ops).2 then .own true 1 ((movesC o ops).map crow) else .pv (.lit (.slice none 0 0)))) := by
 refine apure1 hmo Tryz.func61 ?_; have hsz := refSize_ok o ops hr hl hl2; simp only [robj, ovec] at hsz; simp [robj, ovec]; refine CallK.intro hsz ?_; simp; refine CallK.intro (refCheck_ok _ _) ?_; cases c : sizeOk (sizeP o ops).1 (sizeP o ops).2
 ·simp [c]
 simp [c]; obtain ⟨k1, k2, hP, h64, hm1, hm2⟩ := sizeP_all c; obtain ⟨M, hM⟩ := Int.eq_ofNat_of_zero_le (show 0 ≤ o.st by omega); have hM' : o.st = (M : Int) := hM; have hC : movesC o ops = movTo o ops.length M ops.length M ops ops.length := by
  rw [movesC, if_pos c, hP, hM']; simp
 rw [hC]; have e1 : (sizeP o ops).1 = ops.length := by rw [hP]
 have e2 : (sizeP o ops).2 = M := by rw [hP]; exact hM'
 rw [e1, e2] at c; rw [e1, e2]; have hMM : M ≤ 32 := by omega
 refine ALoop.intro (S := fun (i : Nat) => ⟨[(5, .own true 1 ((movTo o ops.length M ops.length M ops i).map crow)), (1, .pv (.seq false 5 (ops.map orow))), (2, .pv (.ptr 0 0)), (6, .pv (I64 ops.length)), (7, .pv (I64 M)), (8, .pv (I64 i))], [[.pv (I64 o.st), .pv (I64 o.kd), .pv (I64 o.ini), .pv (.seq false 4 (o.rows.map rrow))]]⟩) (fun i => i ≤ ops.length) (fun i => ops.length - i) 0 ?_ ?_ ?_
 ·exact (Weak.nilOwn (s := 5) 1 true (by simp)).trans (Weak.to (by simp [movTo]) (by simp) (by simp) (by simp) (by simp))
 ·omega
 ·intro i hi; by_cases h : i < ops.length
  ·have hw := wnx i; have hlt := movTo_length o ops.length M ops.length M ops i hi; have hlt1 : ops.length * (M * 2) ≤ 64 * (32 * 2) := Nat.mul_le_mul h64 (by omega); have hlt2 : i * (1 + ops.length * (M * 2)) ≤ 64 * (1 + 64 * (32 * 2)) := Nat.mul_le_mul (by omega) (by omega); have hmay := fun b => refMay_ok o ops[i] b hl; simp only [robj, orow] at hmay; have v2 := var2 (n := ops.length) (m := M) (a := i) c (by omega); simp [h, orow]; refine CallK.intro (v2 ▸ refIn_ok ops.length M i) ?_; simp [h, orow]; have hmh : (movH ops.length M ops[i] i).length ≤ 1 := by unfold movH; split <;> simp
   refine ⟨fun he => ⟨by omega, ?_⟩, fun he => ?_⟩
   all_goals
    refine ALoop.intro (S := fun (k : Nat) => ⟨[(5, .own true 1 ((movTo o ops.length M ops.length M ops i ++ (movH ops.length M ops[i] i ++ movI o ops.length M ops[i] M i k)).map crow)), (1, .pv (.seq false 5 (ops.map orow))), (2, .pv (.ptr 0 0)), (6, .pv (I64 ops.length)), (7, .pv (I64 M)), (8, .pv (I64 i)), (9, .pv (I64 (varS ops.length M 2 i 0))), (10, .pv (I64 k))], [[.pv (I64 o.st), .pv (I64 o.kd), .pv (I64 o.ini), .pv (.seq false 4 (o.rows.map rrow))]]⟩) (fun k => k ≤ ops.length) (fun k => ops.length - k) 0 ?_ ?_ ?_
    ·exact Weak.to (by simp [movH, movI, he, crow, irow]) (by simp) (by simp) (by simp) (by simp)
    ·omega
    ·intro k hk; by_cases h2 : k < ops.length
     ·have hw2 := wnx k; have hli := movI_length o ops.length M ops[i] M i k; have hli2 : k * (M * 2) ≤ 64 * (32 * 2) := Nat.mul_le_mul (by omega) (by omega); simp [h2]; refine ALoop.intro (S := fun (b : Nat) => ⟨[(5, .own true 1 ((movTo o ops.length M ops.length M ops i ++ (movH ops.length M ops[i] i ++ (movI o ops.length M ops[i] M i k ++ movK o ops.length M ops[i] i k b))).map crow)), (1, .pv (.seq false 5 (ops.map orow))), (2, .pv (.ptr 0 0)), (6, .pv (I64 ops.length)), (7, .pv (I64 M)), (8, .pv (I64 i)), (9, .pv (I64 (varS ops.length M 2 i 0))), (10, .pv (I64 k)), (11, .pv (I64 b))], [[.pv (I64 o.st), .pv (I64 o.kd), .pv (I64 o.ini), .pv (.seq false 4 (o.rows.map rrow))]]⟩) (fun b => b ≤ M) (fun b => M - b) 0 ?_ ?_ ?_
      ·exact Weak.to (by simp [movK]) (by simp) (by simp) (by simp) (by simp)
      ·omega
      ·intro b hb; by_cases h3 : b < M
       ·have hw3 := wnx b; have hlk := movK_length o ops.length M ops[i] i k b; have hmb := hmay b; have v1 := var1 (n := ops.length) (m := M) (a := i) (b := k) c (by omega) (by omega); have v3 := var3 (n := ops.length) (m := M) (a := k) (b := b) c (by omega) (by omega); have v4 := var3 (n := ops.length) (m := M) (a := (k : Int) + 1) (b := b) c (by omega) (by omega); have hwk : w64 ((k : Int) + 1) = (k : Int) + 1 := w64_id (by omega) (by omega); simp [h3, h, orow]; refine CallK.intro (v1 ▸ refAt_ok ops.length M i k) ?_; simp; refine CallK.intro (v3 ▸ refState_ok ops.length M k b) ?_; simp [h, orow]; cases hms : mayS o ops[i] b with
        | none =>
         rw [hms] at hmb; simp only [mayPV] at hmb; refine CallQ0.intro hmb ?_; simp [h, orow, he]
         first
          | refine ⟨by omega, b + 1, by dsimp only; omega, by dsimp only; omega, Weak.to ?_ (by simp) (by simp) (by simp) (by simp)⟩
            simp [hw3, movK_succ, movB, hms, optL, he, crow, irow, orow]
          | refine ⟨by omega, ?_⟩
            simp [hwk]; refine CallK.intro (v4 ▸ refState_ok ops.length M ((k : Int) + 1) b) ?_; simp; refine ⟨by omega, b + 1, by dsimp only; omega, by dsimp only; omega, Weak.to ?_ (by simp) (by simp) (by simp) (by simp)⟩; simp [hw3, movK_succ, movB, hms, optL, he, crow, irow, orow]
        | some y =>
         rw [hms] at hmb; simp only [mayPV] at hmb; have hy := mayS_in k1 hms; have v5 := var3 (n := ops.length) (m := M) (a := (k : Int) + 1) (b := y) c (by omega) (by omega); refine CallQ0.intro hmb ?_; simp [hwk]; refine CallK.intro (v5 ▸ refState_ok ops.length M ((k : Int) + 1) y) ?_; simp [h, orow, he]
         first
          | refine ⟨by omega, b + 1, by dsimp only; omega, by dsimp only; omega, Weak.to ?_ (by simp) (by simp) (by simp) (by simp)⟩
            simp [hw3, movK_succ, movB, hms, optL, he, crow, irow, orow]
          | refine ⟨by omega, ?_⟩
            simp [hwk]; refine CallK.intro (v4 ▸ refState_ok ops.length M ((k : Int) + 1) b) ?_; simp; refine ⟨by omega, b + 1, by dsimp only; omega, by dsimp only; omega, Weak.to ?_ (by simp) (by simp) (by simp) (by simp)⟩; simp [hw3, movK_succ, movB, hms, optL, he, crow, irow, orow]
       ·simp [h3]; have : b = M := by omega
        subst this; refine ⟨k + 1, by dsimp only; omega, by dsimp only; omega, Weak.to ?_ (by simp) (by simp) (by simp) (by simp)⟩; simp [hw2, movI_succ]
     ·simp [h2]; have hkN : k = ops.length := by omega
      refine ⟨i + 1, by dsimp only; omega, by dsimp only; omega, Weak.to ?_ (by simp) (by simp) (by simp) (by simp)⟩; simp [hw, movTo_succ _ _ _ _ _ h, hkN]
  ·simp [h]; have : i = ops.length := by omega
   rw [this]
end Go.AX
