/-
  Contracts: whether operations may be.
-/
import Derived.Test.YtipaihpchnlkfaaS2AxCntB
namespace Go.AX
open Go.Proofs

/-! ### Plain laws -/
def meetsS (a b : Op5) : Bool := decide (a.s = b.s) || decide (a.e = b.s) || decide (a.s = b.e) || (decide (a.e = b.e) && !decide (a.e = -1))
def badS (a o : Op5) : Bool := decide (o.s ≤ a.s) || meetsS a o
def openS (a o : Op5) : Bool := decide (a.p = o.p) && !aheadS a o
def stepE (pre : List Op5) (o : Op5) : Int := if aloneS o ≠ 0 then aloneS o else if pre.any (fun a => badS a o) = true then 32 else if pre.any (fun a => openS a o) = true then 33 else 0
def errAt (ops : List Op5) (i : Nat) : Int := stepE (ops.take i) (ops.getD i default)
def okTo (ops : List Op5) (i : Nat) : Prop := ∀ j, j < i → errAt ops j = 0
def chk (ops : List Op5) : Int × Int :=
  if ops.length > 5000 then (0, 3) else match (List.range ops.length).find? (fun i => decide (errAt ops i ≠ 0)) with
  | some i => ((i : Int), errAt ops i)
  | none => ((ops.length : Int), 0)
theorem chk_big {ops : List Op5} (h : ops.length > 5000) : chk ops = (0, 3) := by unfold chk; rw [if_pos h]
theorem chk_bad {ops : List Op5} (h : ops.length ≤ 5000) {i : Nat} (hi : i < ops.length) (ho : okTo ops i) (he : errAt ops i ≠ 0) : chk ops = ((i : Int), errAt ops i) := by
  unfold chk
  rw [if_neg (by omega)]
  have : (List.range ops.length).find? (fun i => decide (errAt ops i ≠ 0)) = some i := by
    rw [List.find?_range_eq_some]
    refine ⟨by simpa using he, by simpa using hi, fun j hj => by simpa using ho j hj⟩
  rw [this]
theorem chk_ok {ops : List Op5} (h : ops.length ≤ 5000) (ho : okTo ops ops.length) : chk ops = ((ops.length : Int), 0) := by
  unfold chk
  rw [if_neg (by omega)]
  have : (List.range ops.length).find? (fun i => decide (errAt ops i ≠ 0)) = none := by
    rw [List.find?_range_eq_none]
    intro j hj; simpa using ho j hj
  rw [this]
theorem okTo_succ {ops : List Op5} {i : Nat} (h : okTo ops i) (he : errAt ops i = 0) : okTo ops (i + 1) := fun j hj => by
  rcases Nat.lt_or_ge j i with h1 | h1
  · exact h j h1
  · have : j = i := by omega
    subst this; exact he
theorem errAt_eq {ops : List Op5} {i : Nat} (h : i < ops.length) : errAt ops i = stepE (ops.take i) ops[i] := by
  unfold errAt; simp [h]
theorem chk_alone {ops : List Op5} {i : Nat} (h : ops.length ≤ 5000) (hi : i < ops.length) (ho : okTo ops i) {n : Int} (hn : aloneS ops[i] = n) (h0 : n ≠ 0) : chk ops = ((i : Int), n) := by
  have he : errAt ops i = n := by rw [errAt_eq hi, stepE, if_pos (by rw [hn]; exact h0), hn]
  rw [chk_bad h hi ho (by rw [he]; exact h0), he]
theorem chk_order {ops : List Op5} {i : Nat} (h : ops.length ≤ 5000) (hi : i < ops.length) (ho : okTo ops i) (hn : aloneS ops[i] = 0) (hb : (ops.take i).any (fun a => badS a ops[i]) = true) : chk ops = ((i : Int), 32) := by
  have he : errAt ops i = 32 := by rw [errAt_eq hi, stepE, if_neg (by simp [hn]), if_pos hb]
  rw [chk_bad h hi ho (by rw [he]; decide), he]
theorem chk_open {ops : List Op5} {i : Nat} (h : ops.length ≤ 5000) (hi : i < ops.length) (ho : okTo ops i) (hn : aloneS ops[i] = 0) (hb : (ops.take i).any (fun a => badS a ops[i]) = false) (hc : (ops.take i).any (fun a => openS a ops[i]) = true) : chk ops = ((i : Int), 33) := by
  have he : errAt ops i = 33 := by rw [errAt_eq hi, stepE, if_neg (by simp [hn]), if_neg (by simp [hb]), if_pos hc]
  rw [chk_bad h hi ho (by rw [he]; decide), he]
theorem errAt_zero {ops : List Op5} {i : Nat} (hi : i < ops.length) (hn : aloneS ops[i] = 0) (hb : (ops.take i).any (fun a => badS a ops[i]) = false) (hc : (ops.take i).any (fun a => openS a ops[i]) = false) : errAt ops i = 0 := by
  rw [errAt_eq hi, stepE, if_neg (by simp [hn]), if_neg (by simp [hb]), if_neg (by simp [hc])]
theorem any_take_true {ops : List Op5} {i k : Nat} (f : Op5 → Bool) (hi : i ≤ ops.length) (hk : k < i) (h : f (ops[k]'(by omega)) = true) : (ops.take i).any f = true := by
  rw [List.any_eq_true]
  exact ⟨_, List.mem_take_iff_getElem.2 ⟨k, by omega, rfl⟩, h⟩
theorem any_take_succ {ops : List Op5} {k : Nat} (f : Op5 → Bool) (h : k < ops.length) : (ops.take (k + 1)).any f = ((ops.take k).any f || f ops[k]) := by
  rw [List.take_succ_eq_append_getElem h, List.any_append]; simp
theorem any_take_false {ops : List Op5} {k : Nat} (f : Op5 → Bool) (hk : k ≤ ops.length) (h : ∀ j (hj : j < k), f (ops[j]'(by omega)) = false) : (ops.take k).any f = false := by
  rw [List.any_eq_false]
  intro x hx
  obtain ⟨j, hj, rfl⟩ := List.mem_take_iff_getElem.1 hx
  have := h j (by omega)
  simp [this]

/-! ### The document's answer -/
set_option maxRecDepth 4000 in
theorem meets_ok (a b : Op5) : APure Try.prog 83 [.agg (orow a), .agg (orow b)] (fun r => r = .pv (BL (meetsS a b))) := by
  refine apure1 hmo Try.func83 (by kernel_rfl) rfl rfl (by kernel_rfl) (Nat.le_of_ble_eq_true rfl) ?_
  simp [orow, meetsS]
  grind

/-- Is one of the first k still open? -/
def openTo (ops : List Op5) (k : Nat) (o : Op5) : Bool := (ops.take k).any fun a => openS a o
theorem openTo_succ {ops : List Op5} {k : Nat} (h : k < ops.length) (o : Op5) : openTo ops (k + 1) o = (openTo ops k o || openS ops[k] o) := any_take_succ _ h

set_option maxRecDepth 8000 in
set_option maxHeartbeats 1000000 in
theorem refChk_ok (ops : List Op5) (hl : ops.length ≤ 140737488355328) : APure Try.prog 35 [ovec ops] (fun r => r = .pv (.tup [I64 (chk ops).1, I64 (chk ops).2])) := by
  refine apureN [2, 3] hmo Try.func35 (by kernel_rfl) rfl (fun _ _ => results_tmp2 rfl _ _ _) (by kernel_rfl) (Nat.le_of_ble_eq_true rfl) ?_
  simp [ovec]
  refine ⟨fun h => by rw [chk_big (by omega)]; exact ⟨rfl, rfl⟩, fun h => ?_⟩
  refine ALoop.intro (S := fun (i : Nat) => ⟨[(0, .pv (ovec ops)), (4, .pv (I64 i))], []⟩) (fun i => i ≤ ops.length ∧ okTo ops i) (fun i => ops.length - i) 0 ?_ ?_ ?_
  · exact Weak.to (by simp [ovec]) rfl (by simp) (by simp [ovec]) (by simp)
  · exact ⟨by omega, fun j hj => by omega⟩
  · intro i ⟨hi, hok⟩
    by_cases hlt : i < ops.length
    · have hw : w64 ((i : Int) + 1) = ((i + 1 : Nat) : Int) := by rw [w64_id (by omega) (by omega)]; omega
      simp [ovec, hlt, orow]
      refine ⟨fun hc => ?_, fun a1 a2 a3 a4 => ⟨fun hc => ?_, fun a5 a6 => ⟨by grind, by grind, by grind, by grind, fun hc => ?_, fun a7 a8 => ?_⟩⟩⟩
      · rw [chk_alone (by omega) hlt hok (n := 2) (by rw [aloneS, if_pos (by omega)]) (by decide)]; exact ⟨rfl, rfl⟩
      · rw [chk_alone (by omega) hlt hok (n := 31) (by rw [aloneS, if_neg (by omega), if_pos (by omega)]) (by decide)]; exact ⟨rfl, rfl⟩
      · rw [chk_alone (by omega) hlt hok (n := 7) (by rw [aloneS, if_neg (by omega), if_neg (by omega), if_neg (by simp only [endedS]; split <;> simp <;> omega)]) (by decide)]; exact ⟨rfl, rfl⟩
      have hal : aloneS ops[i] = 0 := by rw [aloneS, if_neg (by omega), if_neg (by omega), if_pos (by simp only [endedS]; split <;> simp <;> omega)]
      refine ALoop.intro (S := fun (k : Nat) => ⟨[(0, .pv (ovec ops)), (4, .pv (I64 i)), (5, .pv (.ptr 0 0)), (6, .pv (BL (openTo ops k ops[i]))), (7, .pv (I64 k))], [(orow ops[i]).map .pv]⟩) (fun k => k ≤ i ∧ (ops.take k).any (fun a => badS a ops[i]) = false) (fun k => i - k) 0 ?_ ?_ ?_
      · exact Weak.to (by simp [ovec, openTo]) (by simp [orow]) (by simp) (by simp [ovec]) (by simp [orow])
      · exact ⟨by omega, by simp⟩
      · intro k ⟨hk, hbad⟩
        by_cases hk2 : k < i
        · have hk3 : k < ops.length := by omega
          have hw2 : w64 ((k : Int) + 1) = ((k + 1 : Nat) : Int) := by rw [w64_id (by omega) (by omega)]; omega
          simp [ovec, hk2, hk3, orow]
          refine CallQ.intro (r := .pv (BL (meetsS ops[k] ops[i]))) (fun _ => meets_ok ops[k] ops[i]) (by simp) ?_
          simp
          refine ⟨fun hc => ?_, fun b1 b2 => ?_⟩
          · rw [chk_order (by omega) hlt hok hal (any_take_true _ hi hk2 (by simp [badS]; exact hc))]; exact ⟨rfl, rfl⟩
          have hb : badS ops[k] ops[i] = false := by simp [badS]; exact ⟨b1, b2⟩
          simp [hk3, orow]
          refine ⟨fun g1 g2 => ⟨g1, g2⟩, CallQ.intro (r := .pv (BL (aheadS ops[k] ops[i]))) (fun _ => refAhead_ok ops[k] ops[i]) (by simp) ?_⟩
          simp
          have h9 : (ops.take (k + 1)).any (fun a => badS a ops[i]) = false := by rw [any_take_succ _ hk3, hbad, hb]; rfl
          refine ⟨fun g1 => ⟨g1, fun g2 => ⟨g1, g2⟩⟩, k + 1, by dsimp only; omega, ⟨by omega, by simpa using h9⟩, Weak.to ?_ (by simp [orow]) (by simp) (by simp) (by simp)⟩
          simp [openTo_succ hk3, openS, hw2, ovec]
        · simp [hk2]
          have : k = i := by omega
          subst this
          refine ⟨fun hc => by rw [chk_open (by omega) hlt hok hal hbad hc]; exact ⟨rfl, rfl⟩, fun hc => ⟨k + 1, by dsimp only; omega, ⟨by omega, okTo_succ hok (errAt_zero hlt hal hbad hc)⟩, Weak.to ?_ rfl (by simp) (by simp) (by simp)⟩⟩
          simp [hw, ovec]
    · simp [ovec, hlt]
      have : i = ops.length := by omega
      subst this
      rw [chk_ok (by omega) hok]; simp

end Go.AX
