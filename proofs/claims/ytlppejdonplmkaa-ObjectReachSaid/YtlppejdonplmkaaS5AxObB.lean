/-
  Contracts: objects that are the same, rows that are the same, what is reached, what never moves.
  Contracts: what is reached, in rounds.
-/
import Derived.Test.YtlppejdonplmkaaS5AxObP
import Derived.Test.YtlppejdonplmkaaAxAg
import Derived.Test.YtlppejdonplmkaaAxBL
namespace Go.AX
open Go.Proofs
set_option linter.unusedSimpArgs false

theorem rowExt : ∀ x y : ORow, x.s = y.s → x.k = y.k → x.n = y.n → x.r = y.r → x = y := fun x y h1 h2 h3 h4 => by
  cases x; cases y; simp at h1 h2 h3 h4; subst h1 h2 h3 h4; rfl
theorem eqRows_ok (a b : List ORow) (hl : a.length ≤ 140737488355328) : APure Try.prog 32 [.seq false 4 (a.map rrow), .seq false 4 (b.map rrow)] (fun r => r = .pv (BL (decide (a = b)))) := by
  refine apure1 hmo Try.func32 (by kernel_rfl) rfl rfl (by kernel_rfl) (Nat.le_of_ble_eq_true rfl) ?_
  simp
  refine ⟨fun h => fun e => h (by rw [e]), fun h => ?_⟩
  have hl2 : a.length = b.length := by omega
  refine ALoop.intro (S := fun (i : Nat) => ⟨[(0, .pv (.seq false 4 (a.map rrow))), (1, .pv (.seq false 4 (b.map rrow))), (12, .pv (I64 a.length)), (13, .pv (I64 i))], []⟩) (fun i => i ≤ a.length ∧ ∀ j (h1 : j < a.length), j < i → a[j] = b[j]'(hl2 ▸ h1)) (fun i => a.length - i) 0 ?_ ?_ ?_
  · exact Weak.to (by simp) rfl (by simp) (by simp) (by simp)
  · exact ⟨by omega, fun j _ hj => by omega⟩
  · intro i ⟨hi, ho⟩
    by_cases h3 : i < a.length
    · have hw : w64 ((i : Int) + 1) = ((i + 1 : Nat) : Int) := by rw [w64_id (by omega) (by omega)]; omega
      have h4 : i < b.length := by omega
      simp [h3, h4, rrow]
      refine ⟨fun c => fun e => by subst e; simp at c, fun c1 c2 c3 c4 => ⟨i + 1, by dsimp only; omega, ⟨by omega, fun j h1 hj => ?_⟩, Weak.to ?_ rfl (by simp) (by simp) (by simp)⟩⟩
      · by_cases e : j = i
        · subst e; exact rowExt _ _ c1 c2 c3 c4
        · exact ho j h1 (by omega)
      · simp [hw, rrow]
    · simp [h3]
      exact eq_of_get hl2 fun j h1 => ho j h1 (by omega)
theorem refSameRows_ok (a b : List ORow) (hl : a.length ≤ 140737488355328) : APure Try.prog 19 [.seq false 4 (a.map rrow), .seq false 4 (b.map rrow)] (fun r => r = .pv (BL (decide (a = b)))) := by
  refine apure1 hmo Try.func19 (by kernel_rfl) rfl rfl (by kernel_rfl) (Nat.le_of_ble_eq_true rfl) ?_
  simp
  refine ⟨fun h => fun e => h (by rw [e]), fun h => ?_⟩
  have hl2 : a.length = b.length := by omega
  refine ALoop.intro (S := fun (i : Nat) => ⟨[(0, .pv (.seq false 4 (a.map rrow))), (1, .pv (.seq false 4 (b.map rrow))), (5, .pv (I64 i))], []⟩) (fun i => i ≤ a.length ∧ ∀ j (h1 : j < a.length), j < i → a[j] = b[j]'(hl2 ▸ h1)) (fun i => a.length - i) 0 ?_ ?_ ?_
  · exact Weak.to (by simp) rfl (by simp) (by simp) (by simp)
  · exact ⟨by omega, fun j _ hj => by omega⟩
  · intro i ⟨hi, ho⟩
    by_cases h3 : i < a.length
    · have hw : w64 ((i : Int) + 1) = ((i + 1 : Nat) : Int) := by rw [w64_id (by omega) (by omega)]; omega
      have h4 : i < b.length := by omega
      simp [h3, h4, rrow]
      refine ⟨fun c => fun e => by subst e; simp at c, fun c1 c2 c3 c4 => ⟨i + 1, by dsimp only; omega, ⟨by omega, fun j h1 hj => ?_⟩, Weak.to ?_ rfl (by simp) (by simp) (by simp)⟩⟩
      · by_cases e : j = i
        · subst e; exact rowExt _ _ c1 c2 c3 c4
        · exact ho j h1 (by omega)
      · simp [hw, rrow]
    · simp [h3]
      exact eq_of_get hl2 fun j h1 => ho j h1 (by omega)

def sameO (a b : Obj) : Bool := decide (a.st = b.st) && (decide (a.kd = b.kd) && (decide (a.ini = b.ini) && decide (a.rows = b.rows)))
set_option maxRecDepth 8000 in
theorem sameO_ok (a b : Obj) (hl : a.rows.length ≤ 140737488355328) : APure Try.prog 17 [robj a, robj b] (fun r => r = .pv (BL (sameO a b))) := by
  refine apure1 hmo Try.func17 (by kernel_rfl) rfl rfl (by kernel_rfl) (Nat.le_of_ble_eq_true rfl) ?_
  simp [robj]
  refine CallG.intro (fun _ => eqRows_ok a.rows b.rows hl) (by simp) ?_
  simp [sameO, Bool.and_assoc]
  exact fun a b c => ⟨⟨a, b⟩, c⟩
set_option maxRecDepth 8000 in
theorem refSameO_ok (a b : Obj) (hl : a.rows.length ≤ 140737488355328) : APure Try.prog 18 [robj a, robj b] (fun r => r = .pv (BL (sameO a b))) := by
  refine apure1 hmo Try.func18 (by kernel_rfl) rfl rfl (by kernel_rfl) (Nat.le_of_ble_eq_true rfl) ?_
  simp [robj]
  refine CallG.intro (fun _ => refSameRows_ok a.rows b.rows hl) (by simp) ?_
  simp [sameO, Bool.and_assoc]
  exact fun a b c => ⟨⟨a, b⟩, c⟩

end Go.AX

namespace Go.AX
open Go.Proofs
set_option linter.unusedSimpArgs false

def bcells (b : List Bool) : List SV := b.map fun x => .pv (BL x)
theorem bcells_len (b : List Bool) : (bcells b).length = b.length := by unfold bcells; simp
theorem bcells_get (b : List Bool) {i : Nat} (h : i < b.length) : (bcells b)[i]? = some (.pv (BL (b.getD i false))) := by
  unfold bcells
  rw [List.getElem?_map, List.getElem?_eq_getElem h, List.getD_eq_getElem?_getD, List.getElem?_eq_getElem h]; rfl
@[simp] theorem bcells_el (b : List Bool) {i : Nat} (h : i < (bcells b).length) : (bcells b)[i] = .pv (BL (b.getD i false)) := by
  have := bcells_get b (i := i) (by rw [bcells_len] at h; exact h)
  rw [List.getElem?_eq_getElem h] at this
  exact Option.some.inj this
theorem bcells_set (b : List Bool) (i : Nat) (x : Bool) : (bcells b).set i (.pv (BL x)) = bcells (b.set i x) := by
  unfold bcells; rw [List.map_set]
theorem bcells_below (k : Nat) (b : List Bool) : belowC k (bcells b) := belowC_of fun x hx => by
  unfold bcells at hx
  obtain ⟨y, _, rfl⟩ := List.mem_map.1 hx
  trivial
theorem bcells_store (b : List Bool) {i : Nat} (h : i < b.length) (x : Bool) : (bcells b).take i ++ .pv (BL x) :: (bcells b).drop (i + 1) = bcells (b.set i x) := by
  rw [← bcells_set, List.set_eq_take_append_cons_drop, if_pos (by rw [bcells_len]; exact h)]
theorem bcells_zero : List.replicate 32 (SV.pv (BL false)) = bcells (List.replicate 32 false) := by unfold bcells; simp

set_option maxRecDepth 16000 in
theorem refReach_ok (o : Obj) (hr : objR o) (hl : o.rows.length ≤ 1000000) : APure Try.prog 14 [robj o] (fun r => r = .own true 1 (irow (reachS o))) := by
  refine APure.own0 (R := fun r => r = .own true 1 (irow (reachS o)) ∨ (reachS o = [] ∧ r = .pv (.lit (.slice none 0 0)))) ?_ (fun r h => h.imp id fun ⟨e1, e2⟩ => ⟨e2, true, 1, by rw [e1]; rfl⟩)
  refine apure1 hmo Try.func14 (by kernel_rfl) rfl rfl (by kernel_rfl) (Nat.le_of_ble_eq_true rfl) ?_
  have hc := refObjChk_ok o hr (by omega)
  simp [robj] at hc ⊢
  refine CallK.intro hc (by simp) ?_
  simp
  refine ⟨fun c => ?_, fun c => ?_⟩
  · unfold reachS
    rw [if_neg (fun h => c (objFine_iff.2 h))]
  have hf : objFine o := objFine_iff.1 c
  have hst := objFine_st hr hf
  have hob : ∀ {r : ORow}, r ∈ o.rows → 0 ≤ r.s ∧ r.s < 32 ∧ 0 ≤ r.n ∧ r.n < 32 := fun h => by have := objFine_row hf h; omega
  refine ⟨⟨by omega, by omega⟩, by omega, ?_⟩
  refine ALoop.intro (S := fun (y : Nat × List Bool) => ⟨[(1, .pv (.ptr 0 0)), (5, .pv (.ptr 1 0)), (6, .pv (I64 y.1))], [[.pv (I64 o.st), .pv (I64 o.kd), .pv (I64 o.ini), .pv (.seq false 4 (o.rows.map rrow))], bcells y.2]⟩)
    (fun y => y.1 ≤ 32 ∧ Rnd o y.2 y.2 y.1 0) (fun y => 32 - y.1) (0, (List.replicate 32 false).set o.ini.toNat true) ?_ ⟨Nat.zero_le _, Rnd.start hr hf⟩ ?_
  · refine Weak.to (by simp) ?_ (by simp) (by simp) (by simp [bcells_below])
    exact congrArg (fun z => [[SV.pv (I64 o.st), .pv (I64 o.kd), .pv (I64 o.ini), .pv (.seq false 4 (o.rows.map rrow))], z]) (bcells_store (List.replicate 32 false) (i := o.ini.toNat) (by simp; omega) true)
  rintro ⟨n, b0⟩ ⟨hn, hR⟩
  dsimp only at hn hR
  by_cases c1 : n < 32
  · have hw : w64 ((n : Int) + 1) = ((n + 1 : Nat) : Int) := by rw [w64_id (by omega) (by omega)]; omega
    have c1' : (n : Int) < 32 := by omega
    simp [c1']
    refine ALoop.intro (S := fun (y : Nat × List Bool) => ⟨[(1, .pv (.ptr 0 0)), (5, .pv (.ptr 1 0)), (6, .pv (I64 n)), (7, .pv (I64 y.1))], [[.pv (I64 o.st), .pv (I64 o.kd), .pv (I64 o.ini), .pv (.seq false 4 (o.rows.map rrow))], bcells y.2]⟩)
      (fun y => y.1 ≤ o.rows.length ∧ Rnd o b0 y.2 n y.1) (fun y => o.rows.length - y.1) (0, b0) ?_ ⟨Nat.zero_le _, hR⟩ ?_
    · exact Weak.to (by simp) (by simp) (by simp) (by simp) (by simp [bcells_below])
    rintro ⟨i, b⟩ ⟨hi, hR⟩
    dsimp only at hi hR
    by_cases c2 : i < o.rows.length
    · have hw2 : w64 ((i : Int) + 1) = ((i + 1 : Nat) : Int) := by rw [w64_id (by omega) (by omega)]; omega
      have hrow := hob (List.getElem_mem c2)
      have hs1 : o.rows[i].s.toNat < b.length := by rw [hR.len]; omega
      have hs2 : o.rows[i].n.toNat < b.length := by rw [hR.len]; omega
      have hg := bcells_get b hs1
      simp [c2, rrow, hrow, bcells_len, hs1, hs2]
      have hgd : bAt b o.rows[i].s = b[o.rows[i].s.toNat] := by unfold bAt; rw [List.getD_eq_getElem?_getD, List.getElem?_eq_getElem hs1]; rfl
      refine ⟨fun d => ⟨by omega, (i + 1, b.set o.rows[i].n.toNat true), by dsimp only; omega, ⟨by dsimp only; omega, hR.mark hr hf c2 (by rw [hgd]; exact d)⟩, Weak.to (by simp [hw2, rrow]) ?_ (by simp) (by simp) (by simp [bcells_below])⟩,
        fun d => ⟨(i + 1, b), by dsimp only; omega, ⟨by dsimp only; omega, hR.skip c2 (fun h => by rw [hgd, d] at h; cases h)⟩, Weak.to (by simp [hw2, rrow]) (by simp) (by simp) (by simp) (by simp [bcells_below])⟩⟩
      exact congrArg (fun z => [[SV.pv (I64 o.st), .pv (I64 o.kd), .pv (I64 o.ini), .pv (.seq false 4 (o.rows.map rrow))], z]) (bcells_store b (i := o.rows[i].n.toNat) hs2 true)
    · simp [c2]
      have hie : i = o.rows.length := by omega
      subst hie
      exact ⟨(n + 1, b), by dsimp only; omega, ⟨by dsimp only; omega, hR.next⟩, Weak.to (by simp [hw]) (by simp) (by simp) (by simp) (by simp [bcells_below])⟩
  · have c1' : ¬ (n : Int) < 32 := by omega
    simp [c1']
    have hn2 : n = 32 := by omega
    subst hn2
    have hend := fun s hs => hR.ends hr hf (s := s) hs
    have hlen := hR.len
    have hup : ∀ i, (upL o i).length ≤ i := fun i => by
      unfold upL; exact Nat.le_trans (List.length_filter_le _ _) (by simp)
    refine ALoop.intro (S := fun (i : Nat) => ⟨[(1, .pv (.ptr 0 0)), (5, .pv (.ptr 1 0)), (8, .own true 1 (irow (upL o i))), (9, .pv (I64 i))], [[.pv (I64 o.st), .pv (I64 o.kd), .pv (I64 o.ini), .pv (.seq false 4 (o.rows.map rrow))], bcells b0]⟩)
      (fun i => i ≤ o.st.toNat) (fun i => o.st.toNat - i) 0 ?_ (Nat.zero_le _) ?_
    · exact (Weak.nilOwn (s := 8) 1 true (by simp)).trans (Weak.to (by simp [upL, irow]) (by simp) (by simp) (by simp) (by simp [bcells_below]))
    intro i hi
    have hu := hup i
    by_cases c3 : i < o.st.toNat
    · have hw2 : w64 ((i : Int) + 1) = ((i + 1 : Nat) : Int) := by rw [w64_id (by omega) (by omega)]; omega
      have c3' : (i : Int) < o.st := by omega
      have hs1 : i < b0.length := by omega
      have hgd : bAt b0 i = b0[i] := by unfold bAt; rw [List.getD_eq_getElem?_getD, Int.toNat_natCast, List.getElem?_eq_getElem hs1]; rfl
      have hE := hend i (by omega)
      rw [hgd] at hE
      simp [c3', bcells_len, hs1]
      refine ⟨by omega, fun d => ⟨by omega, i + 1, by dsimp only; omega, by dsimp only; omega, Weak.to ?_ (by simp) (by simp) (by simp) (by simp [bcells_below])⟩,
        fun d => ⟨i + 1, by dsimp only; omega, by dsimp only; omega, Weak.to ?_ (by simp) (by simp) (by simp) (by simp [bcells_below])⟩⟩
      · simp [hw2, upL_succ, hE.1 d, irow]
      · have : ¬ RE o i := fun h => by rw [hE.2 h] at d; cases d
        simp [hw2, upL_succ, this]
    · have c3' : ¬ (i : Int) < o.st := by omega
      have hie : i = o.st.toNat := by omega
      simp [c3']
      unfold reachS
      rw [if_pos hf, reachL_up, hie]
end Go.AX
