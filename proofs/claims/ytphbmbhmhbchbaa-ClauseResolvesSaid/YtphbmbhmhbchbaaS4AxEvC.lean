/-
  Contracts: events.
  Contracts: the operations of events.
  Contracts: the same pairs, the same operations; what is free.
  Contracts: histories (kinds, what is a process', the same).
  Contracts: histories (whether events are one; what is open; what is done).
  Contracts: histories (a process' events; what is done).
-/
import Derived.Test.YtphbmbhmhbchbaaS4AxCntJ
import Derived.Test.YtphbmbhmhbchbaaS4AxMovS
namespace Go.AX
open Go.Proofs
set_option linter.unusedSimpArgs false

structure Ev where
  w : Int
  p : Int
  n : Int
instance : Inhabited Ev := ⟨⟨0, 0, 0⟩⟩
def evR (x : Ev) : List PV := [I64 x.w, I64 x.p, I64 x.n]
def evV (l : List Ev) : PV := .seq false 3 (l.map evR)
@[simp] theorem belowR_ev (k : Nat) (l : List Ev) : belowR k (l.map evR) := by
  induction l with
  | nil => trivial
  | cons x xs ih => exact ⟨⟨trivial, trivial, trivial, trivial⟩, ih⟩
def evAlone (x : Ev) : Int := if x.w ≠ 1 ∧ x.w ≠ 2 then 8 else if x.p < 1 ∨ 1000 < x.p then 2 else if x.w = 1 ∧ (x.n < 0 ∨ 64 ≤ x.n) then 31 else if x.w = 2 ∧ (x.n < 0 ∨ 1000000 < x.n) then 7 else 0

set_option maxRecDepth 8000 in
theorem evAlone_ok (x : Ev) : APure Try.prog 98 [.agg (evR x)] (fun r => r = .pv (I64 (evAlone x))) := by
  refine apure1 hmo Try.func98 (by kernel_rfl) rfl rfl (by kernel_rfl) (Nat.le_of_ble_eq_true rfl) ?_
  obtain ⟨w, p, n⟩ := x
  obtain ⟨R, hR⟩ : ∃ R, evAlone ⟨w, p, n⟩ = R := ⟨_, rfl⟩
  rw [hR]
  unfold evAlone at hR
  dsimp only at hR
  by_cases a1 : w = 1
  · subst a1
    by_cases a2 : p < 1
    · simp [a2] at hR; subst hR; simp [evR, a2]
    · by_cases a3 : 1000 < p
      · simp [a2, a3] at hR; subst hR; simp [evR, a2, a3]
      · by_cases a4 : n < 0
        · simp [a2, a3, a4] at hR; subst hR; simp [evR, a2, a3, a4]
        · by_cases a5 : 64 ≤ n
          · simp [a2, a3, a4, a5] at hR; subst hR; simp [evR, a2, a3, a4, a5]
          · simp [a2, a3, a4, a5] at hR; subst hR; simp [evR, a2, a3, a4, a5]
  · by_cases b1 : w = 2
    · subst b1
      by_cases a2 : p < 1
      · simp [a2] at hR; subst hR; simp [evR, a2]
      · by_cases a3 : 1000 < p
        · simp [a2, a3] at hR; subst hR; simp [evR, a2, a3]
        · by_cases a4 : n < 0
          · simp [a2, a3, a4] at hR; subst hR; simp [evR, a2, a3, a4]
          · by_cases a5 : 1000000 < n
            · simp [a2, a3, a4, a5] at hR; subst hR; simp [evR, a2, a3, a4, a5]
            · simp [a2, a3, a4, a5] at hR; subst hR; simp [evR, a2, a3, a4, a5]
    · simp [a1, b1] at hR; subst hR; simp [evR, a1, b1]

def opTo (l : List Ev) : Nat → List (Int × Int)
  | 0 => []
  | i + 1 => pt (opTo l i) (l.getD i default).p (l.getD i default).w
def evErr (l : List Ev) (i : Nat) : Int :=
  if evAlone (l.getD i default) ≠ 0 then evAlone (l.getD i default) else if ((lk (opTo l i) (l.getD i default).p).getD 0 = 1 ↔ (l.getD i default).w = 1) then 33 else 0
def evGo (l : List Ev) : Nat → Nat → Int × Int
  | 0, i => (i, 0)
  | k + 1, i => if evErr l i ≠ 0 then (i, evErr l i) else evGo l k (i + 1)
def evChk (l : List Ev) : Int × Int := if 10000 < l.length then (0, 3) else evGo l l.length 0

set_option maxRecDepth 8000 in
theorem evChk_ok (l : List Ev) (hl : l.length ≤ 140737488355328) : APure Try.prog 38 [evV l] (fun r => r = .pv (.tup [I64 (evChk l).1, I64 (evChk l).2])) := by
  refine apureN [2, 3] hmo Try.func38 (by kernel_rfl) rfl (fun _ _ => results_tmp2 rfl _ _ _) (by kernel_rfl) (Nat.le_of_ble_eq_true rfl) ?_
  obtain ⟨R, hR⟩ : ∃ R, evChk l = R := ⟨_, rfl⟩
  rw [hR]
  unfold evChk at hR
  by_cases c : 10000 < l.length
  · have c' : 10000 < (l.length : Int) := by omega
    rw [if_pos c] at hR
    subst hR
    simp [evV, c, c']
  have c' : ¬ 10000 < (l.length : Int) := by omega
  rw [if_neg c] at hR
  simp [evV, c, c']
  refine ALoop.intro (S := fun (i : Nat) => ⟨[(0, .pv (.seq false 3 (l.map evR))), (4, .omap true (mapE fI (opTo l i))), (12, .pv (.seq false 3 (l.map evR))), (13, .pv (I64 l.length)), (14, .pv (I64 i))], []⟩) (fun i => i ≤ l.length ∧ evGo l (l.length - i) i = R) (fun i => l.length - i) 0 ?_ ?_ ?_
  · exact Weak.to (by simp [opTo]) rfl (by simp) (by simp) (by simp)
  · exact ⟨Nat.zero_le _, hR⟩
  · rintro i ⟨hi, hg⟩
    by_cases c1 : i < l.length
    · have hw : w64 ((i : Int) + 1) = ((i + 1 : Nat) : Int) := by rw [w64_id (by omega) (by omega)]; omega
      obtain ⟨x, hx⟩ : ∃ x, l[i] = x := ⟨_, rfl⟩
      have hgd : l.getD i default = x := by rw [← hx]; simp [c1]
      have ho : opTo l (i + 1) = pt (opTo l i) x.p x.w := by rw [opTo, hgd]
      rw [show l.length - i = (l.length - i - 1) + 1 by omega, evGo] at hg
      unfold evErr at hg
      rw [hgd] at hg
      simp [c1, hx, evR]
      refine CallK.intro (evAlone_ok x) (by simp) ?_
      simp
      refine ⟨fun d => ?_, fun d => ⟨fun d2 => ?_, fun d2 => ?_⟩⟩
      · rw [if_pos d, if_pos d] at hg
        subst hg
        exact ⟨rfl, rfl⟩
      · simp only [d, d2, ne_eq, not_true_eq_false, if_false, if_true] at hg
        simp at hg
        subst hg
        exact ⟨rfl, rfl⟩
      · simp only [d, d2, ne_eq, not_true_eq_false, if_false] at hg
        refine ⟨i + 1, by dsimp only; omega, ⟨by omega, by rwa [show l.length - (i + 1) = l.length - i - 1 by omega]⟩, Weak.to (by simp [hw, ho]) rfl (by simp) (by simp) (by simp)⟩
    · have : i = l.length := by omega
      subst this
      rw [Nat.sub_self, evGo] at hg
      subst hg
      simp

end Go.AX

namespace Go.AX
open Go.Proofs
set_option linter.unusedSimpArgs false

@[simp] theorem frzR_ev (r : Nat → Nat → PV) (l : List Ev) : frzR r (l.map evR) = l.map evR := by
  rw [frzR_map, List.map_map]; congr 1
def ofOpen (l : List Ev) : Nat → List Op5 × List (Int × Int)
  | 0 => ([], [])
  | i + 1 =>
    let x := l.getD i default
    let out := (ofOpen l i).1
    let op := (ofOpen l i).2
    if x.w = 1 then (out ++ [⟨x.p, x.n, (i : Int), -1, -1⟩], pt op x.p (out.length : Int))
    else (out.set ((lk op x.p).getD 0).toNat ⟨(out.getD ((lk op x.p).getD 0).toNat default).p, (out.getD ((lk op x.p).getD 0).toNat default).k, (out.getD ((lk op x.p).getD 0).toNat default).s, (i : Int), x.n⟩, op)
theorem evGo_okI {l : List Ev} : ∀ (k i : Nat), (evGo l k i).2 = 0 → ∀ j, i ≤ j → j < i + k → evErr l j = 0
  | 0, i, _, j, h1, h2 => by omega
  | k + 1, i, h, j, h1, h2 => by
    rw [evGo] at h
    by_cases c : evErr l i = 0
    · rw [if_neg (by simpa using c)] at h
      by_cases e : j = i
      · subst e; exact c
      · exact evGo_okI k (i + 1) h j (by omega) (by omega)
    · rw [if_pos c] at h; exact absurd h c
theorem of_inv {l : List Ev} : ∀ i, (∀ j, j < i → evErr l j = 0) → ∀ p, lk (opTo l i) p = some 1 → ∃ j : Nat, j < (ofOpen l i).1.length ∧ lk (ofOpen l i).2 p = some (j : Int)
  | 0, _, p, h => by simp [opTo, lk] at h
  | i + 1, he, p, h => by
    have ih := of_inv i (fun j hj => he j (by omega)) p
    rw [opTo, lk_pt] at h
    rw [ofOpen]
    by_cases c : (l.getD i default).w = 1
    · rw [if_pos c]
      dsimp only
      rw [lk_pt, List.length_append]
      by_cases e : (l.getD i default).p = p
      · rw [if_pos e]; exact ⟨_, by simp, rfl⟩
      · rw [if_neg e] at h ⊢
        obtain ⟨j, h1, h2⟩ := ih h
        exact ⟨j, by omega, h2⟩
    · rw [if_neg c]
      dsimp only
      rw [List.length_set]
      by_cases e : (l.getD i default).p = p
      · rw [if_pos e] at h
        injection h with h
        exact absurd h c
      · rw [if_neg e] at h
        exact ih h
theorem of_len {l : List Ev} : ∀ i, (ofOpen l i).1.length ≤ i
  | 0 => Nat.le_refl _
  | i + 1 => by
    have := of_len (l := l) i
    rw [ofOpen]
    split
    · simp; omega
    · simp; omega
def ofV (l : List Ev) : PV := if (evChk l).2 = 0 then .seq true 5 ((ofOpen l l.length).1.map orow) else .lit (.slice none 0 0)
def ofS (l : List Ev) : List Op5 × Int := if (evChk l).2 = 0 then ((ofOpen l l.length).1, 0) else ([], (evChk l).2)

set_option maxRecDepth 8000 in
theorem of_ok (l : List Ev) (hl : l.length ≤ 140737488355328) : APure Try.prog 16 [evV l] (fun r => r = .pv (.tup [ofV l, I64 (evChk l).2]) ) := by
  refine apureNB [13] [2, 3] hmo Try.func16 (by kernel_rfl) rfl (fun _ _ => results_tmp2 rfl _ _ _) (by kernel_rfl) (Nat.le_of_ble_eq_true rfl) ?_
  have hc := evChk_ok l hl
  simp [evV]
  refine CallK.intro hc (by simp) ?_
  by_cases c : (evChk l).2 = 0
  rotate_left
  · simp [ofV, c]
  have hE : ∀ j, j < l.length → evErr l j = 0 := by
    unfold evChk at c
    split at c
    · cases c
    · exact fun j hj => evGo_okI l.length 0 c j (Nat.zero_le _) (by omega)
  have hc2 : l.length ≤ 10000 := by
    unfold evChk at c
    split at c
    · cases c
    · omega
  simp [ofV, c]
  refine ALoop.intro (S := fun (i : Nat) => ⟨[(6, .own true 5 ((ofOpen l i).1.map orow)), (7, .omap true (mapE fI (ofOpen l i).2)), (20, .pv (.seq false 3 (l.map evR))), (21, .pv (I64 l.length)), (22, .pv (I64 i))], []⟩) (fun i => i ≤ l.length) (fun i => l.length - i) 0 ?_ (Nat.zero_le _) ?_
  · exact (Weak.nilOwn (s := 6) 5 true (by simp)).trans (Weak.to (by simp [ofOpen]) rfl (by simp) (by simp) (by simp))
  · intro i hi
    by_cases c1 : i < l.length
    · have hw : w64 ((i : Int) + 1) = ((i + 1 : Nat) : Int) := by rw [w64_id (by omega) (by omega)]; omega
      obtain ⟨x, hx⟩ : ∃ x, l[i] = x := ⟨_, rfl⟩
      have hgd : l.getD i default = x := by rw [← hx]; simp [c1]
      have he := hE i c1
      have hlen := of_len (l := l) i
      have hinv := of_inv (l := l) i (fun j hj => hE j (by omega)) x.p
      have hst : ofOpen l (i + 1) = if x.w = 1 then ((ofOpen l i).1 ++ [⟨x.p, x.n, (i : Int), -1, -1⟩], pt (ofOpen l i).2 x.p ((ofOpen l i).1.length : Int)) else ((ofOpen l i).1.set ((lk (ofOpen l i).2 x.p).getD 0).toNat ⟨((ofOpen l i).1.getD ((lk (ofOpen l i).2 x.p).getD 0).toNat default).p, ((ofOpen l i).1.getD ((lk (ofOpen l i).2 x.p).getD 0).toNat default).k, ((ofOpen l i).1.getD ((lk (ofOpen l i).2 x.p).getD 0).toNat default).s, (i : Int), x.n⟩, (ofOpen l i).2) := by rw [ofOpen]; simp only [hgd]
      generalize (ofOpen l i).1 = out at *
      generalize (ofOpen l i).2 = op at *
      by_cases c2 : x.w = 1
      · rw [if_pos c2] at hst
        simp [c1, hx, evR, c2]
        refine ⟨by omega, i + 1, by dsimp only; omega, by dsimp only; omega, Weak.to ?_ rfl (by simp) ?_ (by simp)⟩
        · simp [hw, hst, orow]
        · simp
      · rw [if_neg c2] at hst
        have hop : lk (opTo l i) x.p = some 1 := by
          unfold evErr at he
          rw [hgd] at he
          by_cases d : evAlone x = 0
          · simp only [d, ne_eq, not_true_eq_false, if_false] at he
            by_cases d2 : (lk (opTo l i) x.p).getD 0 = 1
            · cases hk : lk (opTo l i) x.p with
              | none => rw [hk] at d2; cases d2
              | some y => rw [hk] at d2; simp at d2; rw [d2]
            · rw [if_pos (by constructor; exact fun h => absurd h d2; exact fun h => absurd h c2)] at he; cases he
          · rw [if_pos d] at he; exact absurd he d
        obtain ⟨j, hj, hjk⟩ := hinv hop
        rw [hjk] at hst
        simp only [Option.getD_some, Int.toNat_natCast] at hst
        obtain ⟨o, ho⟩ : ∃ o, out[j] = o := ⟨_, rfl⟩
        have hog : out.getD j default = o := by rw [← ho]; simp [hj]
        rw [hog] at hst
        have hb1 : belowR 0 ((List.map orow out).set j [I64 o.p, I64 o.k, I64 o.s, I64 (i : Int), I64 x.n]) := by
          have e : (List.map orow out).set j [I64 o.p, I64 o.k, I64 o.s, I64 (i : Int), I64 x.n] = (out.set j ⟨o.p, o.k, o.s, (i : Int), x.n⟩).map orow := by rw [List.map_set]; rfl
          rw [e]; exact belowR_orow _ _
        simp [c1, hx, evR, c2, hjk, hj, ho, orow]
        refine AAnyD.meet (.take 0 (.take 1 (.take 2 (.take 3 (.take 5 (.take 6 (.fork [(4, .fork [(7, .take 8 (.take 9 (.fork [(10, .done)])))]), (7, .fork [(4, .take 8 (.take 9 (.fork [(10, .done)])))])])))))))
          ⟨[(6, .own true 5 ((out.set j ⟨o.p, o.k, o.s, (i : Int), x.n⟩).map orow)), (7, .omap true (mapE fI op)), (20, .pv (.seq false 3 (l.map evR))), (21, .pv (I64 l.length)), (22, .pv (I64 i))], []⟩ (by kernel_rfl) ?_ ?_
        · simp [hj, ho, orow]
          exact ⟨Weak.to (by simp) rfl (by simp) (by simp [hb1]) (by simp), Weak.to (by simp) rfl (by simp) (by simp [hb1]) (by simp)⟩
        · simp
          refine ⟨i + 1, by dsimp only; omega, by dsimp only; omega, Weak.to ?_ rfl (by simp) ?_ (by simp)⟩
          · simp [hw, hst, orow]
          · simp
    · have : i = l.length := by omega
      subst this
      simp

end Go.AX

namespace Go.AX
open Go.Proofs
set_option linter.unusedSimpArgs false

theorem irow_snocO (l : List Int) (x : Int) : irow (l ++ [x]) = irow l ++ [[I64 x]] := by simp [irow]
theorem eqOps_ok (a b : List Op5) (hl : a.length ≤ 140737488355328) : APure Try.prog 73 [ovec a, ovec b] (fun r => r = .pv (BL (decide (a = b)))) := by
  refine apure1 hmo Try.func73 (by kernel_rfl) rfl rfl (by kernel_rfl) (Nat.le_of_ble_eq_true rfl) ?_
  simp [ovec]
  refine ⟨fun h => fun e => h (by rw [e]), fun h => ?_⟩
  have hl2 : a.length = b.length := by omega
  refine ALoop.intro (S := fun (i : Nat) => ⟨[(0, .pv (ovec a)), (1, .pv (ovec b)), (12, .pv (I64 a.length)), (13, .pv (I64 i))], []⟩) (fun i => i ≤ a.length ∧ ∀ j (h1 : j < a.length), j < i → a[j] = b[j]'(hl2 ▸ h1)) (fun i => a.length - i) 0 ?_ ?_ ?_
  · exact Weak.to (by simp [ovec]) rfl (by simp) (by simp [ovec]) (by simp)
  · exact ⟨by omega, fun j _ hj => by omega⟩
  · intro i ⟨hi, ho⟩
    by_cases h3 : i < a.length
    · have hw : w64 ((i : Int) + 1) = ((i + 1 : Nat) : Int) := by rw [w64_id (by omega) (by omega)]; omega
      have h4 : i < b.length := by omega
      have hext : ∀ x y : Op5, x.p = y.p → x.k = y.k → x.s = y.s → x.e = y.e → x.r = y.r → x = y := fun x y h1 h2 h3 h4 h5 => by
        cases x; cases y; simp at h1 h2 h3 h4 h5; subst h1 h2 h3 h4 h5; rfl
      simp [h3, h4, orow, ovec]
      refine ⟨fun c => fun e => by subst e; simp at c, fun c1 c2 c3 c4 c5 => ⟨i + 1, by dsimp only; omega, ⟨by omega, fun j h1 hj => ?_⟩, Weak.to ?_ rfl (by simp) (by simp [ovec]) (by simp)⟩⟩
      · by_cases e : j = i
        · subst e; exact hext _ _ c1 c2 c3 c4 c5
        · exact ho j h1 (by omega)
      · simp [hw, ovec]
    · simp [h3, ovec]
      exact eq_of_get hl2 fun j h1 => ho j h1 (by omega)
theorem refSameOps_ok (a b : List Op5) (hl : a.length ≤ 140737488355328) : APure Try.prog 20 [ovec a, ovec b] (fun r => r = .pv (BL (decide (a = b)))) := by
  refine apure1 hmo Try.func20 (by kernel_rfl) rfl rfl (by kernel_rfl) (Nat.le_of_ble_eq_true rfl) ?_
  simp [ovec]
  refine ⟨fun h => fun e => h (by rw [e]), fun h => ?_⟩
  have hl2 : a.length = b.length := by omega
  refine ALoop.intro (S := fun (i : Nat) => ⟨[(0, .pv (ovec a)), (1, .pv (ovec b)), (5, .pv (I64 i))], []⟩) (fun i => i ≤ a.length ∧ ∀ j (h1 : j < a.length), j < i → a[j] = b[j]'(hl2 ▸ h1)) (fun i => a.length - i) 0 ?_ ?_ ?_
  · exact Weak.to (by simp [ovec]) rfl (by simp) (by simp [ovec]) (by simp)
  · exact ⟨by omega, fun j _ hj => by omega⟩
  · intro i ⟨hi, ho⟩
    by_cases h3 : i < a.length
    · have hw : w64 ((i : Int) + 1) = ((i + 1 : Nat) : Int) := by rw [w64_id (by omega) (by omega)]; omega
      have h4 : i < b.length := by omega
      have hext : ∀ x y : Op5, x.p = y.p → x.k = y.k → x.s = y.s → x.e = y.e → x.r = y.r → x = y := fun x y h1 h2 h3 h4 h5 => by
        cases x; cases y; simp at h1 h2 h3 h4 h5; subst h1 h2 h3 h4 h5; rfl
      simp [h3, h4, orow, ovec]
      refine ⟨fun c => fun e => by subst e; simp at c, fun c1 c2 c3 c4 c5 => ⟨i + 1, by dsimp only; omega, ⟨by omega, fun j h1 hj => ?_⟩, Weak.to ?_ rfl (by simp) (by simp [ovec]) (by simp)⟩⟩
      · by_cases e : j = i
        · subst e; exact hext _ _ c1 c2 c3 c4 c5
        · exact ho j h1 (by omega)
      · simp [hw, ovec]
    · simp [h3, ovec]
      exact eq_of_get hl2 fun j h1 => ho j h1 (by omega)
theorem sameOps_ok (a b : List Op5) (hl : a.length ≤ 140737488355328) : APure Try.prog 21 [ovec a, ovec b] (fun r => r = .pv (BL (decide (a = b)))) := by
  refine apure1 hmo Try.func21 (by kernel_rfl) rfl rfl (by kernel_rfl) (Nat.le_of_ble_eq_true rfl) ?_
  have h := eqOps_ok a b hl
  simp only [ovec] at h
  simp [ovec]
  refine CallK.intro h (by simp) ?_
  simp

theorem frz_done (done : List Bool) (t : List (List SV)) (n : Nat) : frzP ([SV.pv (.seq false 1 (brow done))] :: t) (n + 1) 0 0 = .iptr 1 [[.seq false 1 (brow done)]] 0 0 := by
  simp [frzP, frzC]
def isD (done : List Bool) (i : Nat) : Bool := decide (i < done.length) && done.getD i false
theorem isD_ok (done : List Bool) (i : Nat) : APure Try.prog 74 [I64 i, .iptr 1 [[.seq false 1 (brow done)]] 0 0] (fun r => r = .pv (BL (isD done i))) := by
  refine apure1 hmo Try.func74 (by kernel_rfl) rfl rfl (by kernel_rfl) (Nat.le_of_ble_eq_true rfl) ?_
  by_cases c : i < done.length
  · simp [c, isD]
  · simp [c, isD]
def freeS (ops : List Op5) (done : List Bool) (i k : Nat) : Bool := !isD done i && (List.range k).all fun j => isD done j || !aheadS (ops.getD j default) (ops.getD i default)
theorem freeS_succ {ops : List Op5} {done : List Bool} {i k : Nat} (hi : i < ops.length) (hk : k < ops.length) : freeS ops done i (k + 1) = (freeS ops done i k && (isD done k || !aheadS ops[k] ops[i])) := by
  simp [freeS, List.range_succ, List.all_append, hi, hk, Bool.and_assoc]
def freeTo (ops : List Op5) (done : List Bool) (i : Nat) : List Int := ((List.range i).filter fun i => freeS ops done i ops.length).map fun i : Nat => (i : Int)
theorem freeTo_succ (ops : List Op5) (done : List Bool) (i : Nat) : freeTo ops done (i + 1) = if freeS ops done i ops.length = true then freeTo ops done i ++ [(i : Int)] else freeTo ops done i := by
  unfold freeTo
  rw [List.range_succ, List.filter_append, List.map_append]
  simp only [List.filter_cons, List.filter_nil]
  split <;> simp_all
theorem freeTo_len (ops : List Op5) (done : List Bool) (i : Nat) : (freeTo ops done i).length ≤ i := by
  unfold freeTo
  rw [List.length_map]
  exact Nat.le_trans (List.length_filter_le _ _) (by simp)

set_option maxRecDepth 8000 in
theorem free_ok (ops : List Op5) (done : List Bool) (hl : ops.length ≤ 1000000) : APure Try.prog 23 [ovec ops, .seq false 1 (brow done)] (fun r => r = .own true 1 (irow (freeTo ops done ops.length))) := by
  refine apure1 hmo Try.func23 (by kernel_rfl) rfl rfl (by kernel_rfl) (Nat.le_of_ble_eq_true rfl) ?_
  simp [ovec]
  refine ALoop.intro (S := fun (i : Nat) => ⟨[(0, .pv (ovec ops)), (5, .pv (.fn (.func 74) [] [.ptr 0 0])), (6, .own true 1 (irow (freeTo ops done i))), (13, .pv (ovec ops)), (14, .pv (I64 ops.length)), (15, .pv (I64 i))], [[.pv (.seq false 1 (brow done))]]⟩) (fun i => i ≤ ops.length) (fun i => ops.length - i) 0 ?_ (Nat.zero_le _) ?_
  · exact (Weak.nilOwn (s := 6) 1 true (by simp)).trans (Weak.to (by simp [freeTo, ovec, irow]) rfl (by simp) (by simp [ovec]) (by simp))
  · intro i hi
    by_cases c : i < ops.length
    · have hw : w64 ((i : Int) + 1) = ((i + 1 : Nat) : Int) := by rw [w64_id (by omega) (by omega)]; omega
      have hlen := freeTo_len ops done i
      have hf0 : freeS ops done i 0 = !isD done i := by simp [freeS]
      simp [ovec, c, orow]
      rw [frz_done]
      refine CallB.introP (isD_ok done i) (by simp) (by simp) ?_
      simp [ovec]
      refine ALoop.intro (S := fun (k : Nat) => ⟨[(0, .pv (ovec ops)), (5, .pv (.fn (.func 74) [] [.ptr 0 0])), (6, .own true 1 (irow (freeTo ops done i))), (7, .pv (I64 i)), (8, .pv (.ptr 1 0)), (9, .pv (BL (freeS ops done i k))), (13, .pv (ovec ops)), (14, .pv (I64 ops.length)), (15, .pv (I64 i)), (24, .pv (ovec ops)), (25, .pv (I64 ops.length)), (26, .pv (I64 k))], [[.pv (.seq false 1 (brow done))], (orow ops[i]).map .pv]⟩) (fun k => k ≤ ops.length) (fun k => ops.length - k) 0 ?_ (Nat.zero_le _) ?_
      · exact Weak.to (by simp [ovec, hf0]) (by simp [orow]) (by simp) (by simp [ovec]) (by simp [orow])
      · intro k hk
        by_cases ck : k < ops.length
        · have hw2 : w64 ((k : Int) + 1) = ((k + 1 : Nat) : Int) := by rw [w64_id (by omega) (by omega)]; omega
          have hs := freeS_succ (done := done) c ck
          have hra := ahead_ok ops[k] ops[i]
          simp only [orow] at hra
          have hD := isD_ok done k
          obtain ⟨D, hDk⟩ : ∃ D, isD done k = D := ⟨_, rfl⟩
          obtain ⟨A, hA⟩ : ∃ A, aheadS ops[k] ops[i] = A := ⟨_, rfl⟩
          rw [hDk] at hs hD
          rw [hA] at hs hra
          cases hfk : freeS ops done i k with
          | false =>
            rw [hfk, Bool.false_and] at hs
            simp [ovec, ck, orow]
            refine CallG.intro (fun _ => hra) (by simp) ?_
            simp
            refine ⟨k + 1, by dsimp only; omega, by dsimp only; omega, Weak.to (by simp [hw2, hs, ovec, orow]) (by simp [orow]) (by simp) (by simp [ovec]) (by simp [orow])⟩
          | true =>
            rw [hfk, Bool.true_and] at hs
            simp [ovec, ck, orow]
            rw [frz_done]
            refine CallB.introP hD (by simp) (by simp) ?_
            cases D <;> cases A
            all_goals
              simp
              refine CallG.intro (fun _ => hra) (by simp) ?_
              simp
              refine ⟨k + 1, by dsimp only; omega, by dsimp only; omega, Weak.to (by simp [hw2, hs, ovec, orow]) (by simp [orow]) (by simp) (by simp [ovec]) (by simp [orow])⟩
        · have hke : k = ops.length := by omega
          subst hke
          have hsu := freeTo_succ ops done i
          cases hf : freeS ops done i ops.length with
          | true =>
            rw [if_pos hf] at hsu
            simp [ovec]
            refine ⟨by omega, i + 1, by dsimp only; omega, by dsimp only; omega, Weak.to (by simp [hw, hsu, ovec, irow_snocO]) rfl (by simp) (by simp [ovec]) (by simp)⟩
          | false =>
            rw [if_neg (by rw [hf]; simp)] at hsu
            simp [ovec]
            refine ⟨i + 1, by dsimp only; omega, by dsimp only; omega, Weak.to (by simp [hw, hsu, ovec]) rfl (by simp) (by simp [ovec]) (by simp)⟩
    · have : i = ops.length := by omega
      subst this
      simp [ovec]

end Go.AX

namespace Go.AX
open Go.Proofs
set_option linter.unusedSimpArgs false

theorem ev_ext : ∀ x y : Ev, x.w = y.w → x.p = y.p → x.n = y.n → x = y := fun x y h1 h2 h3 => by
  cases x; cases y; simp at h1 h2 h3; subst h1 h2 h3; rfl
instance : DecidableEq Ev := fun a b => if h : a.w = b.w ∧ a.p = b.p ∧ a.n = b.n then .isTrue (ev_ext a b h.1 h.2.1 h.2.2) else .isFalse fun e => h (by subst e; exact ⟨rfl, rfl, rfl⟩)

theorem eqEvs_ok (a b : List Ev) (hl : a.length ≤ 140737488355328) : APure Try.prog 109 [evV a, evV b] (fun r => r = .pv (BL (decide (a = b)))) := by
  refine apure1 hmo Try.func109 (by kernel_rfl) rfl rfl (by kernel_rfl) (Nat.le_of_ble_eq_true rfl) ?_
  simp [evV]
  refine ⟨fun h => fun e => h (by rw [e]), fun h => ?_⟩
  have hl2 : a.length = b.length := by omega
  refine ALoop.intro (S := fun (i : Nat) => ⟨[(0, .pv (evV a)), (1, .pv (evV b)), (12, .pv (I64 a.length)), (13, .pv (I64 i))], []⟩) (fun i => i ≤ a.length ∧ ∀ j (h1 : j < a.length), j < i → a[j] = b[j]'(hl2 ▸ h1)) (fun i => a.length - i) 0 ?_ ?_ ?_
  · exact Weak.to (by simp [evV]) rfl (by simp) (by simp [evV]) (by simp)
  · exact ⟨by omega, fun j _ hj => by omega⟩
  · intro i ⟨hi, ho⟩
    by_cases h3 : i < a.length
    · have hw : w64 ((i : Int) + 1) = ((i + 1 : Nat) : Int) := by rw [w64_id (by omega) (by omega)]; omega
      have h4 : i < b.length := by omega
      simp [h3, h4, evR, evV]
      refine ⟨fun c => fun e => by subst e; simp at c, fun c1 c2 c3 => ⟨i + 1, by dsimp only; omega, ⟨by omega, fun j h1 hj => ?_⟩, Weak.to ?_ rfl (by simp) (by simp [evV]) (by simp)⟩⟩
      · by_cases e : j = i
        · subst e; exact ev_ext _ _ c1 c2 c3
        · exact ho j h1 (by omega)
      · simp [hw, evV]
    · simp [h3, evV]
      exact eq_of_get hl2 fun j h1 => ho j h1 (by omega)
theorem refSameEvs_ok (a b : List Ev) (hl : a.length ≤ 140737488355328) : APure Try.prog 44 [evV a, evV b] (fun r => r = .pv (BL (decide (a = b)))) := by
  refine apure1 hmo Try.func44 (by kernel_rfl) rfl rfl (by kernel_rfl) (Nat.le_of_ble_eq_true rfl) ?_
  simp [evV]
  refine ⟨fun h => fun e => h (by rw [e]), fun h => ?_⟩
  have hl2 : a.length = b.length := by omega
  refine ALoop.intro (S := fun (i : Nat) => ⟨[(0, .pv (evV a)), (1, .pv (evV b)), (5, .pv (I64 i))], []⟩) (fun i => i ≤ a.length ∧ ∀ j (h1 : j < a.length), j < i → a[j] = b[j]'(hl2 ▸ h1)) (fun i => a.length - i) 0 ?_ ?_ ?_
  · exact Weak.to (by simp [evV]) rfl (by simp) (by simp [evV]) (by simp)
  · exact ⟨by omega, fun j _ hj => by omega⟩
  · intro i ⟨hi, ho⟩
    by_cases h3 : i < a.length
    · have hw : w64 ((i : Int) + 1) = ((i + 1 : Nat) : Int) := by rw [w64_id (by omega) (by omega)]; omega
      have h4 : i < b.length := by omega
      simp [h3, h4, evR, evV]
      refine ⟨fun c => fun e => by subst e; simp at c, fun c1 c2 c3 => ⟨i + 1, by dsimp only; omega, ⟨by omega, fun j h1 hj => ?_⟩, Weak.to ?_ rfl (by simp) (by simp [evV]) (by simp)⟩⟩
      · by_cases e : j = i
        · subst e; exact ev_ext _ _ c1 c2 c3
        · exact ho j h1 (by omega)
      · simp [hw, evV]
    · simp [h3, evV]
      exact eq_of_get hl2 fun j h1 => ho j h1 (by omega)
theorem sameEvs_ok (a b : List Ev) (hl : a.length ≤ 140737488355328) : APure Try.prog 49 [evV a, evV b] (fun r => r = .pv (BL (decide (a = b)))) := by
  refine apure1 hmo Try.func49 (by kernel_rfl) rfl rfl (by kernel_rfl) (Nat.le_of_ble_eq_true rfl) ?_
  have h := eqEvs_ok a b hl
  simp only [evV] at h
  simp [evV]
  refine CallK.intro h (by simp) ?_
  simp

/-- The place of a process' last event among the first i. -/
def lastTo (l : List Ev) (p : Int) : Nat → Int
  | 0 => -1
  | i + 1 => if (l.getD i default).p = p then (i : Int) else lastTo l p i
theorem lastTo_lt (l : List Ev) (p : Int) : ∀ i : Nat, -1 ≤ lastTo l p i ∧ lastTo l p i < (i : Int)
  | 0 => by simp [lastTo]
  | i + 1 => by
    have := lastTo_lt l p i
    rw [lastTo]
    split <;> omega
theorem refLast_ok (l : List Ev) (p : Int) (hl : l.length ≤ 140737488355328) : APure Try.prog 105 [evV l, I64 p] (fun r => r = .pv (I64 (lastTo l p l.length))) := by
  refine apure1 hmo Try.func105 (by kernel_rfl) rfl rfl (by kernel_rfl) (Nat.le_of_ble_eq_true rfl) ?_
  simp [evV]
  refine ALoop.intro (S := fun (i : Nat) => ⟨[(0, .pv (evV l)), (1, .pv (I64 p)), (5, .pv (I64 (lastTo l p i))), (6, .pv (I64 i))], []⟩) (fun i => i ≤ l.length) (fun i => l.length - i) 0 ?_ (Nat.zero_le _) ?_
  · exact Weak.to (by simp [evV, lastTo]) rfl (by simp) (by simp [evV]) (by simp)
  · intro i hi
    by_cases c : i < l.length
    · have hw : w64 ((i : Int) + 1) = ((i + 1 : Nat) : Int) := by rw [w64_id (by omega) (by omega)]; omega
      have hs : lastTo l p (i + 1) = if l[i].p = p then (i : Int) else lastTo l p i := by rw [lastTo]; simp [c]
      simp [evV, evR, c]
      refine ⟨fun d => ?_, fun d => ?_⟩
      · rw [if_pos d] at hs
        exact ⟨i + 1, by dsimp only; omega, by dsimp only; omega, Weak.to (by simp [hw, hs, evV]) rfl (by simp) (by simp [evV]) (by simp)⟩
      · rw [if_neg d] at hs
        exact ⟨i + 1, by dsimp only; omega, by dsimp only; omega, Weak.to (by simp [hw, hs, evV]) rfl (by simp) (by simp [evV]) (by simp)⟩
    · have : i = l.length := by omega
      subst this
      simp [evV]

def opnS (l : List Ev) (p : Int) (i : Nat) : Bool := decide (0 ≤ lastTo l p i) && decide ((l.getD (lastTo l p i).toNat default).w = 1)
theorem refOpen1_ok (l : List Ev) (p : Int) (hl : l.length ≤ 140737488355328) : APure Try.prog 99 [evV l, I64 p] (fun r => r = .pv (BL (opnS l p l.length))) := by
  refine apure1 hmo Try.func99 (by kernel_rfl) rfl rfl (by kernel_rfl) (Nat.le_of_ble_eq_true rfl) ?_
  have h := refLast_ok l p hl
  have hlt := lastTo_lt l p l.length
  simp only [evV] at h
  unfold opnS
  simp [evV]
  refine CallK.intro h (by simp) ?_
  by_cases c : 0 ≤ lastTo l p l.length
  · obtain ⟨j, hj⟩ : ∃ j : Nat, lastTo l p l.length = (j : Int) := ⟨(lastTo l p l.length).toNat, by omega⟩
    rw [hj] at h hlt c ⊢
    have hj2 : j < l.length := by omega
    simp [c, hj2, evR]
  · simp [c]

end Go.AX

namespace Go.AX
open Go.Proofs
set_option linter.unusedSimpArgs false

@[simp] theorem frzR_ev_take (r : Nat → Nat → PV) (l : List Ev) (i : Nat) : frzR r ((l.map evR).take i) = (l.map evR).take i := by
  rw [← List.map_take, frzR_ev]
theorem lastTo_take (l : List Ev) (p : Int) (n : Nat) : ∀ i, i ≤ n → lastTo (l.take n) p i = lastTo l p i
  | 0, _ => rfl
  | i + 1, h => by
    rw [lastTo, lastTo, lastTo_take l p n i (by omega)]
    have : (l.take n).getD i default = l.getD i default := by
      simp only [List.getD_eq_getElem?_getD, List.getElem?_take]
      rw [if_pos (by omega)]
    rw [this]
theorem opnS_take (l : List Ev) (p : Int) (n : Nat) : opnS (l.take n) p n = opnS l p n := by
  unfold opnS
  rw [lastTo_take l p n n (Nat.le_refl _)]
  have := lastTo_lt l p n
  by_cases c : 0 ≤ lastTo l p n
  · have : (l.take n).getD (lastTo l p n).toNat default = l.getD (lastTo l p n).toNat default := by
      simp only [List.getD_eq_getElem?_getD, List.getElem?_take]
      rw [if_pos (by omega)]
    rw [this]
  · simp [c]
/-- What is told of a process so far is its last event's kind. -/
theorem lk_opTo (l : List Ev) (p : Int) : ∀ i, lk (opTo l i) p = if 0 ≤ lastTo l p i then some (l.getD (lastTo l p i).toNat default).w else none
  | 0 => by simp [opTo, lk, lastTo]
  | i + 1 => by
    rw [opTo, lk_pt, lastTo]
    by_cases c : (l.getD i default).p = p
    · simp only [if_pos c]
      rw [if_pos (by omega)]
      simp
    · rw [if_neg c, if_neg c, lk_opTo l p i]
theorem opn_iff (l : List Ev) (p : Int) (i : Nat) : ((lk (opTo l i) p).getD 0 = 1) ↔ opnS l p i = true := by
  rw [lk_opTo]
  unfold opnS
  by_cases c : 0 ≤ lastTo l p i
  · simp [c]
  · simp [c]

set_option maxRecDepth 16000 in
theorem refEvChk_ok (l : List Ev) (hl : l.length ≤ 140737488355328) : APure Try.prog 39 [evV l] (fun r => r = .pv (.tup [I64 (evChk l).1, I64 (evChk l).2])) := by
  refine apureN [2, 3] hmo Try.func39 (by kernel_rfl) rfl (fun _ _ => results_tmp2 rfl _ _ _) (by kernel_rfl) (Nat.le_of_ble_eq_true rfl) ?_
  obtain ⟨R, hR⟩ : ∃ R, evChk l = R := ⟨_, rfl⟩
  rw [hR]
  unfold evChk at hR
  by_cases c : 10000 < l.length
  · have c' : 10000 < (l.length : Int) := by omega
    rw [if_pos c] at hR
    subst hR
    simp [evV, c, c']
  have c' : ¬ 10000 < (l.length : Int) := by omega
  rw [if_neg c] at hR
  simp [evV, c, c']
  refine ALoop.intro (S := fun (i : Nat) => ⟨[(0, .pv (.seq false 3 (l.map evR))), (4, .pv (I64 i))], []⟩) (fun i => i ≤ l.length ∧ evGo l (l.length - i) i = R) (fun i => l.length - i) 0 ?_ ?_ ?_
  · exact Weak.to (by simp) rfl (by simp) (by simp) (by simp)
  · exact ⟨Nat.zero_le _, hR⟩
  · rintro i ⟨hi, hg⟩
    by_cases c1 : i < l.length
    · have hw : w64 ((i : Int) + 1) = ((i + 1 : Nat) : Int) := by rw [w64_id (by omega) (by omega)]; omega
      obtain ⟨x, hx⟩ : ∃ x, l[i] = x := ⟨_, rfl⟩
      have hgd : l.getD i default = x := by rw [← hx]; simp [c1]
      rw [show l.length - i = (l.length - i - 1) + 1 by omega, evGo] at hg
      have ho := refOpen1_ok (l.take i) x.p (by simp; omega)
      have hlen : (l.take i).length = i := by simp; omega
      rw [hlen, opnS_take] at ho
      have hoi := opn_iff l x.p i
      simp only [evV, List.map_take] at ho
      obtain ⟨O, hO⟩ : ∃ O, opnS l x.p i = O := ⟨_, rfl⟩
      rw [hO] at ho hoi
      unfold evErr evAlone at hg
      rw [hgd] at hg
      obtain ⟨w, p, n⟩ := x
      dsimp only at ho hg hoi
      have fin : ∀ R0 : Int × Int, True := fun _ => trivial
      by_cases a1 : w = 1
      · subst a1
        by_cases a2 : p < 1
        · simp [a2] at hg; subst hg; simp [c1, hx, evR, a2]
        · by_cases a3 : 1000 < p
          · simp [a2, a3] at hg; subst hg; simp [c1, hx, evR, a2, a3]
          · by_cases a4 : n < 0
            · simp [a2, a3, a4] at hg; subst hg; simp [c1, hx, evR, a2, a3, a4]
            · by_cases a5 : 64 ≤ n
              · have a5' : 63 < n := by omega
                simp [a2, a3, a4, a5] at hg; subst hg; simp [c1, hx, evR, a2, a3, a4, a5']
              · have a5' : ¬ 63 < n := by omega
                simp [c1, hx, evR, a2, a3, a4, a5']
                have hil : (i : Int) ≤ l.length := by omega
                simp [hil, hi]
                refine CallQ.intro (fun _ => ho) (by simp) ?_
                cases O
                · have : ¬ (lk (opTo l i) p).getD 0 = 1 := fun h => by have := hoi.1 h; cases this
                  simp [a2, a3, a4, a5, this] at hg
                  simp [c1, hx, evR, a2, a3, a4, a5']
                  refine CallQ.intro (r := .pv (BL true)) (fun h => h.elim) (by simp) ?_
                  simp
                  exact ⟨i + 1, by dsimp only; omega, ⟨by omega, by rwa [show l.length - (i + 1) = l.length - i - 1 by omega]⟩, Weak.to (by simp [hw]) rfl (by simp) (by simp) (by simp)⟩
                · have : (lk (opTo l i) p).getD 0 = 1 := hoi.2 rfl
                  simp [a2, a3, a4, a5, this] at hg
                  subst hg
                  simp [c1, hx, evR, a2, a3, a4, a5']
                  refine CallQ.intro (r := .pv (BL true)) (fun h => h.elim) (by simp) ?_
                  simp
      · by_cases b1 : w = 2
        · subst b1
          by_cases a2 : p < 1
          · simp [a2] at hg; subst hg; simp [c1, hx, evR, a2]
          · by_cases a3 : 1000 < p
            · simp [a2, a3] at hg; subst hg; simp [c1, hx, evR, a2, a3]
            · by_cases a4 : n < 0
              · simp [a2, a3, a4] at hg; subst hg; simp [c1, hx, evR, a2, a3, a4]
              · by_cases a5 : 1000000 < n
                · simp [a2, a3, a4, a5] at hg; subst hg; simp [c1, hx, evR, a2, a3, a4, a5]
                · simp [c1, hx, evR, a2, a3, a4, a5]
                  have hil : (i : Int) ≤ l.length := by omega
                  refine CallQ.intro (r := .pv (BL true)) (fun h => h.elim) (by simp) ?_
                  simp [hil, hi]
                  refine CallQ.intro (fun _ => ho) (by simp) ?_
                  cases O
                  · have : ¬ (lk (opTo l i) p).getD 0 = 1 := fun h => by have := hoi.1 h; cases this
                    simp [a2, a3, a4, a5, this] at hg
                    subst hg
                    simp
                  · have : (lk (opTo l i) p).getD 0 = 1 := hoi.2 rfl
                    simp [a2, a3, a4, a5, this] at hg
                    simp
                    exact ⟨i + 1, by dsimp only; omega, ⟨by omega, by rwa [show l.length - (i + 1) = l.length - i - 1 by omega]⟩, Weak.to (by simp [hw]) rfl (by simp) (by simp) (by simp)⟩
        · simp [a1, b1] at hg; subst hg; simp [c1, hx, evR, a1, b1]
    · have : i = l.length := by omega
      subst this
      rw [Nat.sub_self, evGo] at hg
      subst hg
      simp

def kindsTo (l : List Ev) : Nat → Int
  | 0 => 0
  | i + 1 => if (l.getD i default).w = 1 then max (kindsTo l i) (min (l.getD i default).n 63 + 1) else kindsTo l i
theorem kindsTo_le (l : List Ev) : ∀ i, 0 ≤ kindsTo l i ∧ kindsTo l i ≤ 64
  | 0 => by simp [kindsTo]
  | i + 1 => by
    have := kindsTo_le l i
    rw [kindsTo]
    split <;> omega
theorem kinds_ok (l : List Ev) (hl : l.length ≤ 140737488355328) : APure Try.prog 40 [evV l] (fun r => r = .pv (I64 (kindsTo l l.length))) := by
  refine apure1 hmo Try.func40 (by kernel_rfl) rfl rfl (by kernel_rfl) (Nat.le_of_ble_eq_true rfl) ?_
  simp [evV]
  refine ALoop.intro (S := fun (i : Nat) => ⟨[(3, .pv (I64 (kindsTo l i - 1))), (6, .pv (evV l)), (7, .pv (I64 l.length)), (8, .pv (I64 i))], []⟩) (fun i => i ≤ l.length) (fun i => l.length - i) 0 ?_ (Nat.zero_le _) ?_
  · exact Weak.to (by simp [evV, kindsTo]) rfl (by simp) (by simp [evV]) (by simp)
  · intro i hi
    have hk := kindsTo_le l i
    by_cases c : i < l.length
    · have hw : w64 ((i : Int) + 1) = ((i + 1 : Nat) : Int) := by rw [w64_id (by omega) (by omega)]; omega
      obtain ⟨x, hx⟩ : ∃ x, l[i] = x := ⟨_, rfl⟩
      have hs : kindsTo l (i + 1) = if x.w = 1 then max (kindsTo l i) (min x.n 63 + 1) else kindsTo l i := by rw [kindsTo]; simp [c, hx]
      simp [evV, evR, c, hx]
      refine ⟨fun d => ?_, fun d => ?_⟩
      · rw [if_pos d] at hs
        refine ⟨i + 1, by dsimp only; omega, by dsimp only; omega, Weak.to ?_ rfl (by simp) (by simp [evV]) (by simp)⟩
        simp [hw, hs, evV]
        split <;> split <;> omega
      · rw [if_neg d] at hs
        exact ⟨i + 1, by dsimp only; omega, by dsimp only; omega, Weak.to (by simp [hw, hs, evV]) rfl (by simp) (by simp [evV]) (by simp)⟩
    · have : i = l.length := by omega
      subst this
      have hw : w64 (kindsTo l l.length) = kindsTo l l.length := by rw [w64_id (by omega) (by omega)]
      simp [evV, hw]
set_option maxRecDepth 8000 in
theorem refKinds_ok (l : List Ev) (hl : l.length ≤ 140737488355328) : APure Try.prog 41 [evV l] (fun r => r = .pv (I64 (kindsTo l l.length))) := by
  refine apure1 hmo Try.func41 (by kernel_rfl) rfl rfl (by kernel_rfl) (Nat.le_of_ble_eq_true rfl) ?_
  simp [evV]
  refine ALoop.intro (S := fun (i : Nat) => ⟨[(0, .pv (evV l)), (3, .pv (I64 (kindsTo l i))), (4, .pv (I64 i))], []⟩) (fun i => i ≤ l.length) (fun i => l.length - i) 0 ?_ (Nat.zero_le _) ?_
  · exact Weak.to (by simp [evV, kindsTo]) rfl (by simp) (by simp [evV]) (by simp)
  · intro i hi
    have hk := kindsTo_le l i
    by_cases c : i < l.length
    · have hw : w64 ((i : Int) + 1) = ((i + 1 : Nat) : Int) := by rw [w64_id (by omega) (by omega)]; omega
      obtain ⟨x, hx⟩ : ∃ x, l[i] = x := ⟨_, rfl⟩
      have hs : kindsTo l (i + 1) = if x.w = 1 then max (kindsTo l i) (min x.n 63 + 1) else kindsTo l i := by rw [kindsTo]; simp [c, hx]
      obtain ⟨w, p, n⟩ := x
      dsimp only at hs
      by_cases d : w = 1
      · rw [if_pos d] at hs
        subst d
        by_cases d2 : 63 < n
        · have hs' : kindsTo l (i + 1) = 64 := by omega
          simp [evV, evR, c, hx, d2]
          exact ⟨i + 1, by dsimp only; omega, by dsimp only; omega, Weak.to (by simp [hw, hs', evV]) rfl (by simp) (by simp [evV]) (by simp)⟩
        · by_cases d3 : kindsTo l i ≤ n
          · have hs' : kindsTo l (i + 1) = n + 1 := by omega
            have hw2 : w64 (n + 1) = n + 1 := by rw [w64_id (by omega) (by omega)]
            simp [evV, evR, c, hx, d2, d3]
            exact ⟨i + 1, by dsimp only; omega, by dsimp only; omega, Weak.to (by simp [hw, hw2, hs', evV]) rfl (by simp) (by simp [evV]) (by simp)⟩
          · have hs' : kindsTo l (i + 1) = kindsTo l i := by omega
            simp [evV, evR, c, hx, d2, d3]
            exact ⟨i + 1, by dsimp only; omega, by dsimp only; omega, Weak.to (by simp [hw, hs', evV]) rfl (by simp) (by simp [evV]) (by simp)⟩
      · rw [if_neg d] at hs
        simp [evV, evR, c, hx, d]
        exact ⟨i + 1, by dsimp only; omega, by dsimp only; omega, Weak.to (by simp [hw, hs, evV]) rfl (by simp) (by simp [evV]) (by simp)⟩
    · have : i = l.length := by omega
      subst this
      simp [evV]

end Go.AX

namespace Go.AX
open Go.Proofs
set_option linter.unusedSimpArgs false

def laTo (l : List Ev) : Nat → List (Int × Int)
  | 0 => []
  | i + 1 => pt (laTo l i) (l.getD i default).p (i : Int)
theorem lk_laTo (l : List Ev) (p : Int) : ∀ i, lk (laTo l i) p = if 0 ≤ lastTo l p i then some (lastTo l p i) else none
  | 0 => by simp [laTo, lk, lastTo]
  | i + 1 => by
    rw [laTo, lk_pt, lastTo]
    by_cases c : (l.getD i default).p = p
    · simp only [if_pos c]
      rw [if_pos (by omega)]
    · rw [if_neg c, if_neg c, lk_laTo l p i]
theorem lasts_ok (l : List Ev) (hl : l.length ≤ 140737488355328) : APure Try.prog 100 [evV l] (fun r => r = .omap true (mapE fI (laTo l l.length))) := by
  refine apure1 hmo Try.func100 (by kernel_rfl) rfl rfl (by kernel_rfl) (Nat.le_of_ble_eq_true rfl) ?_
  simp [evV]
  refine ALoop.intro (S := fun (i : Nat) => ⟨[(3, .omap true (mapE fI (laTo l i))), (7, .pv (evV l)), (8, .pv (I64 l.length)), (9, .pv (I64 i))], []⟩) (fun i => i ≤ l.length) (fun i => l.length - i) 0 ?_ (Nat.zero_le _) ?_
  · exact Weak.to (by simp [evV, laTo]) rfl (by simp) (by simp [evV]) (by simp)
  · intro i hi
    by_cases c : i < l.length
    · have hw : w64 ((i : Int) + 1) = ((i + 1 : Nat) : Int) := by rw [w64_id (by omega) (by omega)]; omega
      have ho : laTo l (i + 1) = pt (laTo l i) l[i].p (i : Int) := by rw [laTo]; simp [c]
      simp [evV, evR, c]
      refine ⟨i + 1, by dsimp only; omega, by dsimp only; omega, Weak.to (by simp [hw, ho, evV]) rfl (by simp) (by simp [evV]) (by simp)⟩
    · have : i = l.length := by omega
      subst this
      simp [evV]

theorem lastTo_ge (l : List Ev) (p : Int) : ∀ (n i : Nat), i < n → (l.getD i default).p = p → (i : Int) ≤ lastTo l p n
  | 0, i, h, _ => by omega
  | n + 1, i, h, hp => by
    rw [lastTo]
    by_cases e : i = n
    · subst e; rw [if_pos hp]; exact Int.le_refl _
    · have := lastTo_ge l p n i (by omega) hp
      split <;> omega
@[simp] theorem frzE_fI (r : Nat → Nat → PV) (l : List (Int × Int)) : frzE r (mapE fI l) = mapE fI l := by
  rw [frzE_map]; unfold mapE; rw [List.map_map]; congr 1
@[simp] theorem nwE_fI (l : List (Int × Int)) : nwE (mapE fI l) := by
  rw [nwE_iff]; intro r hr
  obtain ⟨x, _, rfl⟩ := List.mem_map.1 hr
  trivial
@[simp] theorem nwR_ev (l : List Ev) : nwR (l.map evR) := by
  rw [nwR_iff]; intro r hr
  obtain ⟨x, _, rfl⟩ := List.mem_map.1 hr
  exact ⟨trivial, trivial, trivial, trivial⟩
@[simp] theorem oldR_ev (l : List Ev) : oldR (l.map evR) := by
  induction l with
  | nil => trivial
  | cons x xs ih => exact ⟨⟨trivial, trivial, trivial, trivial⟩, ih⟩
def filTo (l : List Ev) (f : Nat → Bool) (i : Nat) : List Ev := ((List.range i).filter f).map fun i => l.getD i default
theorem filTo_succ (l : List Ev) (f : Nat → Bool) (i : Nat) : filTo l f (i + 1) = if f i = true then filTo l f i ++ [l.getD i default] else filTo l f i := by
  unfold filTo
  rw [List.range_succ, List.filter_append, List.map_append]
  simp only [List.filter_cons, List.filter_nil]
  split <;> simp_all
theorem filTo_len (l : List Ev) (f : Nat → Bool) (i : Nat) : (filTo l f i).length ≤ i := by
  unfold filTo
  rw [List.length_map]
  exact Nat.le_trans (List.length_filter_le _ _) (by simp)
theorem those_ok (l : List Ev) (hl : l.length ≤ 1000000) (g : Nat) (cap : List PV) (f : Nat → Bool) (hf : ∀ r, frzL r cap = cap) (hp : ptrAny cap = false) (hb : ∀ k, belowL k cap)
    (h : ∀ i : Nat, i < l.length → APure Try.prog g (I64 (i : Int) :: cap) (fun r => r = .pv (BL (f i)))) : APure Try.prog 106 [evV l, .fn (.func g) [] cap] (fun r => r = .own true 3 ((filTo l f l.length).map evR)) := by
  refine apure1 hmo Try.func106 (by kernel_rfl) rfl rfl (by kernel_rfl) (Nat.le_of_ble_eq_true rfl) ?_
  simp [evV]
  refine ALoop.intro (S := fun (i : Nat) => ⟨[(1, .pv (.fn (.func g) [] cap)), (5, .own true 3 ((filTo l f i).map evR)), (8, .pv (evV l)), (9, .pv (I64 l.length)), (10, .pv (I64 i))], []⟩) (fun i => i ≤ l.length) (fun i => l.length - i) 0 ?_ (Nat.zero_le _) ?_
  · exact (Weak.nilOwn (s := 5) 3 true (by simp)).trans (Weak.to (by simp [evV, filTo]) rfl (by simp) (by simp [evV, hb]) (by simp))
  · intro i hi
    by_cases c : i < l.length
    · have hw : w64 ((i : Int) + 1) = ((i + 1 : Nat) : Int) := by rw [w64_id (by omega) (by omega)]; omega
      have hs := filTo_succ l f i
      have hlen := filTo_len l f i
      have hgd : l.getD i default = l[i] := by simp [c]
      rw [hgd] at hs
      have hi' := h i c
      simp [evV, evR, c, hp, hf]
      refine CallK.intro hi' (by simp) ?_
      cases hfi : f i
      · rw [hfi] at hs
        simp at hs
        simp
        refine ⟨i + 1, by dsimp only; omega, by dsimp only; omega, Weak.to (by simp [hw, hs, evV]) rfl (by simp) (by simp [evV, hb]) (by simp)⟩
      · rw [hfi] at hs
        simp at hs
        simp
        refine ⟨by omega, i + 1, by dsimp only; omega, by dsimp only; omega, Weak.to (by simp [hw, hs, evV, evR]) rfl (by simp) (by simp [evV, hb]) (by simp)⟩
    · have : i = l.length := by omega
      subst this
      simp [evV]

def ofB (l : List Ev) (p : Int) (i : Nat) : Bool := decide ((l.getD i default).p = p)
def doneB (l : List Ev) (i : Nat) : Bool := !decide ((l.getD i default).w = 1) || !decide (lastTo l (l.getD i default).p l.length = (i : Int))
theorem ofC_ok (l : List Ev) (p : Int) (i : Nat) (hi : i < l.length) : APure Try.prog 107 [I64 (i : Int), .iptr 1 [[evV l]] 0 0, .iptr 1 [[I64 p]] 0 0] (fun r => r = .pv (BL (ofB l p i))) := by
  refine apure1 hmo Try.func107 (by kernel_rfl) rfl rfl (by kernel_rfl) (Nat.le_of_ble_eq_true rfl) ?_
  simp [evV, evR, hi, ofB]
theorem frz_ev1 (l : List Ev) (t : List (List SV)) (n : Nat) : frzP ([SV.pv (.seq false 3 (l.map evR))] :: t) (n + 1) 0 0 = .iptr 1 [[.seq false 3 (l.map evR)]] 0 0 := by
  simp [frzP, frzC]
theorem ofE_ok (l : List Ev) (p : Int) (hl : l.length ≤ 1000000) : APure Try.prog 45 [evV l, I64 p] (fun r => r = .own true 3 ((filTo l (ofB l p) l.length).map evR)) := by
  refine apure1 hmo Try.func45 (by kernel_rfl) rfl rfl (by kernel_rfl) (Nat.le_of_ble_eq_true rfl) ?_
  have h := those_ok l hl 107 [.iptr 1 [[evV l]] 0 0, .iptr 1 [[I64 p]] 0 0] (ofB l p) (fun r => by simp [evV]) (by simp) (fun k => by simp [evV]) (fun i hi => ofC_ok l p i hi)
  simp only [evV] at h
  simp [evV]
  simp [frzP, frzC]
  refine CallK.intro h (by simp) ?_
  simp
theorem doneC_ok (l : List Ev) (i : Nat) (hi : i < l.length) (hl : l.length ≤ 1000000) : APure Try.prog 108 [I64 (i : Int), .iptr 1 [[evV l]] 0 0, .iptr 1 [[.amap false (mapE fI (laTo l l.length))]] 0 0] (fun r => r = .pv (BL (doneB l i))) := by
  refine apure1 hmo Try.func108 (by kernel_rfl) rfl rfl (by kernel_rfl) (Nat.le_of_ble_eq_true rfl) ?_
  have hk := lk_laTo l l[i].p l.length
  unfold doneB
  rw [show l.getD i default = l[i] by simp [hi]]
  by_cases d : l[i].w = 1
  · by_cases e : 0 ≤ lastTo l l[i].p l.length
    · rw [if_pos e] at hk
      simp [evV, evR, hi, d, hk]
    · exact absurd (lastTo_ge l l[i].p l.length i hi (by simp [hi])) (by omega)
  · simp [evV, evR, hi, d]

theorem doneE_ok (l : List Ev) (hl : l.length ≤ 1000000) : APure Try.prog 47 [evV l] (fun r => r = .own true 3 ((filTo l (doneB l) l.length).map evR)) := by
  refine apure1 hmo Try.func47 (by kernel_rfl) rfl rfl (by kernel_rfl) (Nat.le_of_ble_eq_true rfl) ?_
  have hla := lasts_ok l (by omega)
  have h := those_ok l hl 108 [.iptr 1 [[evV l]] 0 0, .iptr 1 [[.amap false (mapE fI (laTo l l.length))]] 0 0] (doneB l) (fun r => by simp [evV]) (by simp) (fun k => by simp [evV]) (fun i hi => doneC_ok l i hi hl)
  simp only [evV] at h hla
  simp [evV]
  refine CallK.intro hla (by simp) ?_
  simp
  simp [frzP, frzC]
  refine CallK.intro h (by simp) ?_
  simp

theorem refOf_ok (l : List Ev) (p : Int) (hl : l.length ≤ 1000000) : APure Try.prog 46 [evV l, I64 p] (fun r => r = .own true 3 ((filTo l (ofB l p) l.length).map evR)) := by
  refine apure1 hmo Try.func46 (by kernel_rfl) rfl rfl (by kernel_rfl) (Nat.le_of_ble_eq_true rfl) ?_
  simp [evV]
  refine ALoop.intro (S := fun (i : Nat) => ⟨[(0, .pv (evV l)), (1, .pv (I64 p)), (5, .own true 3 ((filTo l (ofB l p) i).map evR)), (6, .pv (I64 i))], []⟩) (fun i => i ≤ l.length) (fun i => l.length - i) 0 ?_ (Nat.zero_le _) ?_
  · exact (Weak.nilOwn (s := 5) 3 true (by simp)).trans (Weak.to (by simp [evV, filTo]) rfl (by simp) (by simp [evV]) (by simp))
  · intro i hi
    by_cases c : i < l.length
    · have hw : w64 ((i : Int) + 1) = ((i + 1 : Nat) : Int) := by rw [w64_id (by omega) (by omega)]; omega
      have hs := filTo_succ l (ofB l p) i
      have hlen := filTo_len l (ofB l p) i
      have hob : ofB l p i = decide (l[i].p = p) := by simp [ofB, c]
      rw [hob, show l.getD i default = l[i] by simp [c]] at hs
      simp [evV, evR, c]
      refine ⟨fun d => ?_, fun d => ?_⟩
      · simp [d] at hs
        refine ⟨by omega, i + 1, by dsimp only; omega, by dsimp only; omega, Weak.to (by simp [hw, hs, evV, evR, d]) rfl (by simp) (by simp [evV]) (by simp)⟩
      · simp [d] at hs
        refine ⟨i + 1, by dsimp only; omega, by dsimp only; omega, Weak.to (by simp [hw, hs, evV]) rfl (by simp) (by simp [evV]) (by simp)⟩
    · have : i = l.length := by omega
      subst this
      simp [evV]
theorem refDone_ok (l : List Ev) (hl : l.length ≤ 1000000) : APure Try.prog 48 [evV l] (fun r => r = .own true 3 ((filTo l (doneB l) l.length).map evR)) := by
  refine apure1 hmo Try.func48 (by kernel_rfl) rfl rfl (by kernel_rfl) (Nat.le_of_ble_eq_true rfl) ?_
  simp [evV]
  refine ALoop.intro (S := fun (i : Nat) => ⟨[(0, .pv (evV l)), (3, .own true 3 ((filTo l (doneB l) i).map evR)), (4, .pv (I64 i))], []⟩) (fun i => i ≤ l.length) (fun i => l.length - i) 0 ?_ (Nat.zero_le _) ?_
  · exact (Weak.nilOwn (s := 3) 3 true (by simp)).trans (Weak.to (by simp [evV, filTo]) rfl (by simp) (by simp [evV]) (by simp))
  · intro i hi
    by_cases c : i < l.length
    · have hw : w64 ((i : Int) + 1) = ((i + 1 : Nat) : Int) := by rw [w64_id (by omega) (by omega)]; omega
      have hs := filTo_succ l (doneB l) i
      have hlen := filTo_len l (doneB l) i
      obtain ⟨x, hx⟩ : ∃ x, l[i] = x := ⟨_, rfl⟩
      have hgd : l.getD i default = x := by rw [← hx]; simp [c]
      rw [hgd] at hs
      obtain ⟨D, hD⟩ : ∃ D, doneB l i = D := ⟨_, rfl⟩
      rw [hD] at hs
      unfold doneB at hD
      rw [hgd] at hD
      have hr := refLast_ok l x.p (by omega)
      simp only [evV] at hr
      obtain ⟨w, p, n⟩ := x
      dsimp only at hD hr
      by_cases d : w = 1
      · simp [evV, evR, c, hx, d]
        refine CallG.intro (r := .pv (I64 (lastTo l p l.length))) (fun _ => hr) (by simp) ?_
        by_cases e : lastTo l p l.length = (i : Int)
        · simp [d, e] at hD
          subst hD
          simp at hs
          simp [e]
          refine ⟨i + 1, by dsimp only; omega, by dsimp only; omega, Weak.to (by simp [hw, hs, evV]) rfl (by simp) (by simp [evV]) (by simp)⟩
        · simp [d, e] at hD
          subst hD
          simp at hs
          simp [e, c, hx, evR]
          refine ⟨by omega, i + 1, by dsimp only; omega, by dsimp only; omega, Weak.to (by simp [hw, hs, evV, evR, d]) rfl (by simp) (by simp [evV]) (by simp)⟩
      · simp [d] at hD
        subst hD
        simp at hs
        simp [evV, evR, c, hx, d]
        refine CallG.intro (r := .pv (I64 0)) (fun h => h.elim) (by simp) ?_
        simp [c, hx, evR]
        refine ⟨by omega, i + 1, by dsimp only; omega, by dsimp only; omega, Weak.to (by simp [hw, hs, evV, evR]) rfl (by simp) (by simp [evV]) (by simp)⟩
    · have : i = l.length := by omega
      subst this
      simp [evV]

end Go.AX
