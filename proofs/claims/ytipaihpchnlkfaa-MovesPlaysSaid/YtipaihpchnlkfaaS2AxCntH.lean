/-
  Contract: oper.Check.
-/
import Derived.Test.YtipaihpchnlkfaaS2AxCntG
namespace Go.AX
open Go.Proofs

set_option maxRecDepth 8000 in
set_option maxHeartbeats 2000000 in
theorem chk_okC (ops : List Op5) (hl : ops.length ≤ 140737488355328) : APure Try.prog 34 [ovec ops] (fun r => r = .pv (.tup [I64 (chk ops).1, I64 (chk ops).2])) := by
  refine apureN [2, 3] hmo Try.func34 (by kernel_rfl) rfl (fun _ _ => results_tmp2 rfl _ _ _) (by kernel_rfl) (Nat.le_of_ble_eq_true rfl) ?_
  simp [ovec]
  refine ⟨fun h => by rw [chk_big (by omega)]; exact ⟨rfl, rfl⟩, fun h => ?_⟩
  refine ALoop.intro (S := fun (i : Nat) => ⟨[(0, .pv (ovec ops)), (4, .omap true (mapE fI (usedTo ops i))), (5, .omap true (mapE fO (latTo ops i))), (16, .pv (ovec ops)), (17, .pv (I64 ops.length)), (18, .pv (I64 i))], []⟩) (fun i => i ≤ ops.length ∧ okTo ops i) (fun i => ops.length - i) 0 ?_ ?_ ?_
  · exact Weak.to (by simp [ovec, usedTo, latTo]) rfl (by simp) (by simp [ovec]) (by simp)
  · exact ⟨by omega, fun j hj => by omega⟩
  · intro i ⟨hi, hok⟩
    by_cases hlt : i < ops.length
    · have hw : w64 ((i : Int) + 1) = ((i + 1 : Nat) : Int) := by rw [w64_id (by omega) (by omega)]; omega
      have hfin : ∀ st, wkL st.t [(0, .pv (ovec ops)), (4, .omap true (mapE fI (useStep (usedTo ops i) ops[i]))), (5, .omap true (mapE fO (pt (latTo ops i) ops[i].p ops[i]))), (16, .pv (ovec ops)), (17, .pv (I64 ops.length)), (18, .pv (I64 ((i + 1 : Nat) : Int)))] → errAt ops i = 0 → ∃ y, ops.length - y < ops.length - i ∧ (y ≤ ops.length ∧ okTo ops y) ∧ Weak 0 st ⟨[(0, .pv (ovec ops)), (4, .omap true (mapE fI (usedTo ops y))), (5, .omap true (mapE fO (latTo ops y))), (16, .pv (ovec ops)), (17, .pv (I64 ops.length)), (18, .pv (I64 y))], []⟩ := by
        intro st h1 h2
        refine ⟨i + 1, by omega, ⟨by omega, okTo_succ hok h2⟩, ?_⟩
        rw [usedTo_succ hlt, latTo_succ hlt]
        exact Weak.to h1 rfl (by simp) (by simp [ovec]) (by simp)
      have hord := order_iff hlt hok
      have hopn := open_iff hlt hok
      rcases Nat.eq_zero_or_pos i with h0 | h0
      · subst h0
        simp [ovec, hlt, orow]
        refine CallK.intro (alone_ok ops[0]) (by simp) ?_
        simp
        refine ⟨fun hc => ?_, fun hc => ?_⟩
        · rw [chk_alone (by omega) hlt hok rfl hc]; exact ⟨rfl, rfl⟩
        have ho := hord hc
        rw [← used_pos hi hok, ← used_pos hi hok] at ho
        refine ⟨fun a1 => ⟨a1, fun a2 => ⟨a1, a2⟩⟩, fun hb => ?_, fun a1 a2 => ?_⟩
        · rw [chk_order (by omega) hlt hok hc (ho.2 (.inr hb))]; exact ⟨rfl, rfl⟩
        have hnb : (ops.take 0).any (fun a => badS a ops[0]) = false := rfl
        refine CallG.intro (r := .pv (BL (aheadS ((lk (latTo ops 0) ops[0].p).getD default) ops[0]))) (fun _ => ahead_ok _ _) (by simp) ?_
        simp
        refine ⟨fun b1 b2 => ?_, fun b1 => ?_⟩
        · rw [chk_open (by omega) hlt hok hc hnb (hopn.2 ⟨b1, b2⟩)]; exact ⟨rfl, rfl⟩
        have hno : (ops.take 0).any (fun a => openS a ops[0]) = false := rfl
        have he := errAt_zero hlt hc hnb hno
        have hw1 : w64 1 = 1 := by decide
        exact ⟨fun b2 => hfin _ (by simp [ovec, useStep, b2, hw1]) he, fun b2 => hfin _ (by simp [ovec, useStep, Int.not_le.2 b2, hw1]) he⟩
      · have hq : w64 ((i : Int) - 1) = ((i - 1 : Nat) : Int) := by rw [w64_id (by omega) (by omega)]; omega
        have hq2 : i - 1 < ops.length := by omega
        simp [ovec, hlt, orow]
        refine CallK.intro (alone_ok ops[i]) (by simp) ?_
        simp [h0, hq, hq2, orow]
        refine ⟨fun hc => ?_, fun hc => ?_⟩
        · rw [chk_alone (by omega) hlt hok rfl hc]; exact ⟨rfl, rfl⟩
        have ho := hord hc
        rw [← used_pos hi hok, ← used_pos hi hok] at ho
        refine ⟨fun a1 a2 => ⟨⟨a1, a2⟩, fun a3 => ⟨⟨a1, a2⟩, a3⟩⟩, fun hb => ?_, fun a1 a2 a3 => ?_⟩
        · rw [chk_order (by omega) hlt hok hc (ho.2 (hb.elim (fun h => h.elim (fun h => .inl ⟨h0, h⟩) (fun h => .inr (.inl h))) (fun h => .inr (.inr h))))]; exact ⟨rfl, rfl⟩
        have hnb : (ops.take i).any (fun a => badS a ops[i]) = false := by
          rw [Bool.eq_false_iff, ne_eq, ho]
          rintro (⟨_, h⟩ | h | ⟨h, h'⟩)
          · omega
          · omega
          · have := a3 h; omega
        refine CallG.intro (r := .pv (BL (aheadS ((lk (latTo ops i) ops[i].p).getD default) ops[i]))) (fun _ => ahead_ok _ _) (by simp) ?_
        simp
        refine ⟨fun b1 b2 => ?_, fun b1 => ?_⟩
        · rw [chk_open (by omega) hlt hok hc hnb (hopn.2 ⟨b1, b2⟩)]; exact ⟨rfl, rfl⟩
        have hno : (ops.take i).any (fun a => openS a ops[i]) = false := by
          rw [Bool.eq_false_iff, ne_eq, hopn]
          rintro ⟨h1, h2⟩
          rw [b1 h1] at h2; cases h2
        have he := errAt_zero hlt hc hnb hno
        exact ⟨fun b2 => hfin _ (by simp [ovec, useStep, b2, hw]) he, fun b2 => hfin _ (by simp [ovec, useStep, Int.not_le.2 b2, hw]) he⟩
    · simp [ovec, hlt]
      have : i = ops.length := by omega
      subst this
      rw [chk_ok (by omega) hok]; simp

end Go.AX
