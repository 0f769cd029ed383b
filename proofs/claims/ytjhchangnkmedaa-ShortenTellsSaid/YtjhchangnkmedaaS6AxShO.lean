/-
  Contracts: which clauses a clause is part of; whether all of a clause fails; the probe of the layer shorten.
  Each reason of a desk is a clause, all others of which fail by what stands ahead (plain law).
  What is left over, of a desk: it is deeply left over; made shorter again it is the same (plain law).
  Contracts: the probe of the layer shorten.
  Contracts: what other literals a reason has, and what is left over, by the document.
  Contracts: what is left over, and deeply, by the document.
  What is left over, deeply, of a desk: the program's answer is the document's (plain law).
  The law's contract: ShortenTells.
-/
import Derived.Test.YtjhchangnkmedaaS6AxShE
import Derived.Test.YtjhchangnkmedaaS6AxGlI
namespace Go.AX
open Go.Proofs
set_option linter.unusedSimpArgs false

theorem shortenN_ok (lits : List Int) (hl : lits.length ≤ 1000000) : APure Try.prog 11 [.lit (.pointer none), .lit (.pointer none), .seq false 1 (irow lits)] (fun r => r = .own true 1 (irow lits)) := by
  refine apure1B [6] hmo Try.func11 (by kernel_rfl) rfl rfl (by kernel_rfl) (Nat.le_of_ble_eq_true rfl) ?_
  simp
  refine CallK.intro (clone_ok lits hl) (by simp) ?_
  simp
/-- The places of the clauses of which a clause is part. -/
def sumS (short : List Int) (cs : List (List Int)) : Nat → List Int
  | 0 => []
  | i + 1 => if subS short (cs.getD i []) = true then sumS short cs i ++ [(i : Int)] else sumS short cs i
theorem sumS_len (short : List Int) (cs : List (List Int)) : ∀ i, (sumS short cs i).length ≤ i
  | 0 => Nat.le_refl _
  | i + 1 => by
    have := sumS_len short cs i
    rw [sumS]
    split
    · simp; omega
    · omega
theorem sumS_at (short : List Int) (cs : List (List Int)) {i : Nat} (h : i < cs.length) : sumS short cs (i + 1) = if subS short cs[i] = true then sumS short cs i ++ [(i : Int)] else sumS short cs i := by
  rw [sumS, List.getD_eq_getElem?_getD, List.getElem?_eq_getElem h]; rfl
theorem subsumes_ok (short : List Int) (cs : List (List Int)) (hs : short.length ≤ 100000) (hc : fewC cs) : APure Try.prog 19 [.seq false 1 (irow short), .seq false 1 (cs.map crowF)] (fun r => r = .own true 1 (irow (sumS short cs cs.length))) := by
  refine apure1 hmo Try.func19 (by kernel_rfl) rfl rfl (by kernel_rfl) (Nat.le_of_ble_eq_true rfl) ?_
  have hc1 := hc.1
  simp
  refine ALoop.intro (S := fun (i : Nat) => ⟨[(0, .pv (.seq false 1 (irow short))), (1, .pv (.seq false 1 (cs.map crowF))), (5, .own true 1 (irow (sumS short cs i))), (8, .pv (.seq false 1 (cs.map crowF))), (9, .pv (I64 cs.length)), (10, .pv (I64 i))], []⟩) (fun i => i ≤ cs.length) (fun i => cs.length - i) 0 ?_ (Nat.zero_le _) ?_
  · exact (Weak.nilOwn (s := 5) 1 true (by simp)).trans (Weak.to (by simp [irow, sumS]) (by simp) (by simp) (by simp) (by simp))
  intro i hi
  by_cases h : i < cs.length
  · have hw : w64 ((i : Int) + 1) = ((i + 1 : Nat) : Int) := by rw [w64_id (by omega) (by omega)]; omega
    have hci := hc.2 _ (List.getElem_mem h)
    have hat := sumS_at short cs h
    have hlen := sumS_len short cs i
    simp [h, crowF]
    refine CallK.intro (subset_ok short cs[i] (by omega) (by omega)) (by simp) ?_
    cases c : subS short cs[i]
    · rw [c] at hat
      simp only [Bool.false_eq_true, if_false] at hat
      simp
      exact ⟨i + 1, by (try dsimp only); omega, by (try dsimp only); omega, Weak.to (by simp [hw, hat, crowF]) rfl (by simp) (by simp) (by simp)⟩
    · rw [c] at hat
      simp only [if_true] at hat
      simp
      exact ⟨by omega, i + 1, by (try dsimp only); omega, by (try dsimp only); omega, Weak.to (by simp [hw, hat, irow, crowF]) rfl (by simp) (by simp) (by simp)⟩
  · have hie : i = cs.length := by omega
    subst hie
    simp
theorem refSubsumes_ok (short : List Int) (cs : List (List Int)) (hs : short.length ≤ 100000) (hc : fewC cs) : APure Try.prog 20 [.seq false 1 (irow short), .seq false 1 (cs.map crowF)] (fun r => r = .own true 1 (irow (sumS short cs cs.length))) := by
  refine apure1 hmo Try.func20 (by kernel_rfl) rfl rfl (by kernel_rfl) (Nat.le_of_ble_eq_true rfl) ?_
  have hc1 := hc.1
  simp
  refine ALoop.intro (S := fun (i : Nat) => ⟨[(0, .pv (.seq false 1 (irow short))), (1, .pv (.seq false 1 (cs.map crowF))), (5, .own true 1 (irow (sumS short cs i))), (6, .pv (I64 i))], []⟩) (fun i => i ≤ cs.length) (fun i => cs.length - i) 0 ?_ (Nat.zero_le _) ?_
  · exact (Weak.nilOwn (s := 5) 1 true (by simp)).trans (Weak.to (by simp [irow, sumS]) (by simp) (by simp) (by simp) (by simp))
  intro i hi
  by_cases h : i < cs.length
  · have hw : w64 ((i : Int) + 1) = ((i + 1 : Nat) : Int) := by rw [w64_id (by omega) (by omega)]; omega
    have hci := hc.2 _ (List.getElem_mem h)
    have hat := sumS_at short cs h
    have hlen := sumS_len short cs i
    simp [h, crowF]
    refine CallK.intro (refSubset_ok short cs[i] (by omega) (by omega)) (by simp) ?_
    cases c : subS short cs[i]
    · rw [c] at hat
      simp only [Bool.false_eq_true, if_false] at hat
      simp
      exact ⟨i + 1, by (try dsimp only); omega, by (try dsimp only); omega, Weak.to (by simp [hw, hat, crowF]) rfl (by simp) (by simp) (by simp)⟩
    · rw [c] at hat
      simp only [if_true] at hat
      simp
      exact ⟨by omega, i + 1, by (try dsimp only); omega, by (try dsimp only); omega, Weak.to (by simp [hw, hat, irow, crowF]) rfl (by simp) (by simp) (by simp)⟩
  · have hie : i = cs.length := by omega
    subst hie
    simp
def failsR (t : RT) (l : List Int) : Bool := l.all fun x => decide (valR t x = -1)
theorem refFails_ok (t : RT) (l : List Int) (ht : t.rows.length ≤ 1000000) (hl : l.length ≤ 1000000) : APure Try.prog 15 [rtV t, .seq false 1 (irow l)] (fun r => r = .pv (BL (failsR t l))) := by
  refine apure1 hmo Try.func15 (by kernel_rfl) rfl rfl (by kernel_rfl) (Nat.le_of_ble_eq_true rfl) ?_
  have hv := fun x => rfValue_ok t x ht
  simp only [rtV] at hv
  simp [rtV]
  refine ALoop.intro (S := fun (i : Nat) => ⟨[(1, .pv (.seq false 1 (irow l))), (2, .pv (.ptr 0 0)), (5, .pv (I64 i))], [[.pv (I64 t.vars), .pv (.seq false 3 (t.rows.map enR)), .pv (I64 t.dep)]]⟩) (fun i => i ≤ l.length ∧ ∀ j (hj : j < l.length), j < i → valR t l[j] = -1) (fun i => l.length - i) 0 ?_ ⟨Nat.zero_le _, fun j _ h => absurd h (Nat.not_lt_zero _)⟩ ?_
  · exact Weak.to (by simp) (by simp) (by simp) (by simp) (by simp)
  rintro i ⟨hi, ho⟩
  by_cases h : i < l.length
  · have hw : w64 ((i : Int) + 1) = ((i + 1 : Nat) : Int) := by rw [w64_id (by omega) (by omega)]; omega
    simp [h]
    refine CallQ0.intro (hv l[i]) (by simp) ?_
    by_cases c : valR t l[i] = -1
    · simp [c]
      refine ⟨i + 1, by (try dsimp only); omega, ⟨by (try dsimp only); omega, fun j hj hji => ?_⟩, Weak.to (by simp [hw]) (by simp) (by simp) (by simp) (by simp)⟩
      by_cases e : j = i
      · subst e; exact c
      · exact ho j hj (by omega)
    · have : failsR t l = false := by
        unfold failsR
        rw [List.all_eq_false]
        exact ⟨l[i], List.getElem_mem h, by simpa using c⟩
      simp [c, this]
  · have hie : i = l.length := by omega
    subst hie
    have : failsR t l = true := by
      unfold failsR
      rw [List.all_eq_true]
      intro x hx
      obtain ⟨j, hj, rfl⟩ := List.getElem_of_mem hx
      simpa using ho j hj hj
    simp [this]
def few16 (cs : List (List Int)) (l c : List Int) : Bool := few8 cs l && decide (cs.length ≤ 40) && decide (c.length ≤ 40)
theorem few16_ok (cs : List (List Int)) (l c : List Int) : APure Try.prog 8 [.seq false 1 (cs.map crowF), .seq false 1 (irow l), .seq false 1 (irow c)] (fun r => r = .pv (BL (few16 cs l c))) := by
  refine apure1 hmo Try.func8 (by kernel_rfl) rfl rfl (by kernel_rfl) (Nat.le_of_ble_eq_true rfl) ?_
  simp
  refine CallK.intro (few8_ok cs l) (by simp) ?_
  unfold few16
  cases e : few8 cs l
  · simp
  · by_cases c1 : cs.length ≤ 40
    · have c1' : (cs.length : Int) ≤ 40 := by omega
      by_cases c2 : c.length ≤ 40
      · have c2' : (c.length : Int) ≤ 40 := by omega
        simp [c1, c1', c2, c2']
      · have c2' : ¬ (c.length : Int) ≤ 40 := by omega
        simp [c1, c1', c2, c2']
    · have c1' : ¬ (cs.length : Int) ≤ 40 := by omega
      simp [c1, c1']
theorem few16_few {cs : List (List Int)} {l c : List Int} (h : few16 cs l c = true) : fewC cs ∧ l.length ≤ 60 ∧ c.length ≤ 40 := by
  unfold few16 few8 few4 at h
  simp only [Bool.and_eq_true, decide_eq_true_eq, List.all_eq_true] at h
  exact ⟨⟨by omega, fun x hx => by have := h.1.1.1.1.2 x hx; omega⟩, by omega, by omega⟩
end Go.AX

namespace Go.AX
open Go.Proofs
set_option linter.unusedSimpArgs false

def cnt3 (l c : List Int) (v : Int) : Nat := (c.filter fun y => decide (val3 l y = v)).length
def opn3 (l c : List Int) : List Int := c.filter fun y => decide (0 ≤ litX y ∧ val3 l y ≠ 1 ∧ val3 l y ≠ -1)
theorem ct_gen (l : List Int) : ∀ (c : List Int) (a b z : Nat), a + c.length ≤ 1000000 → b + c.length ≤ 1000000 → z + c.length ≤ 1000000 →
    c.foldl (ctF l) ((a : Int), (b : Int), (z : Int)) = (((a + cnt3 l c 1 : Nat) : Int), ((b + cnt3 l c (-1) : Nat) : Int), ((z + (opn3 l c).length : Nat) : Int))
  | [], a, b, z, _, _, _ => by simp [cnt3, opn3]
  | y :: c, a, b, z, ha, hb, hz => by
    simp only [List.length_cons] at ha hb hz
    rw [List.foldl_cons]
    by_cases c1 : val3 l y = 1
    · have e : ctF l ((a : Int), (b : Int), (z : Int)) y = (((a + 1 : Nat) : Int), (b : Int), (z : Int)) := by
        unfold ctF; rw [if_pos c1, w64_id (by dsimp only; omega) (by dsimp only; omega)]; simp
      rw [e, ct_gen l c (a + 1) b z (by omega) (by omega) (by omega)]
      simp [cnt3, opn3, c1]; omega
    · by_cases c2 : val3 l y = -1
      · have e : ctF l ((a : Int), (b : Int), (z : Int)) y = ((a : Int), ((b + 1 : Nat) : Int), (z : Int)) := by
          unfold ctF; rw [if_neg c1, if_pos c2, w64_id (by dsimp only; omega) (by dsimp only; omega)]; simp
        rw [e, ct_gen l c a (b + 1) z (by omega) (by omega) (by omega)]
        simp [cnt3, opn3, c1, c2]; omega
      · by_cases c3 : 0 ≤ litX y
        · have e : ctF l ((a : Int), (b : Int), (z : Int)) y = ((a : Int), (b : Int), ((z + 1 : Nat) : Int)) := by
            unfold ctF; rw [if_neg c1, if_neg c2, if_pos c3, w64_id (by dsimp only; omega) (by dsimp only; omega)]; simp
          rw [e, ct_gen l c a b (z + 1) (by omega) (by omega) (by omega)]
          simp [cnt3, opn3, c1, c2, c3]; omega
        · have e : ctF l ((a : Int), (b : Int), (z : Int)) y = ((a : Int), (b : Int), (z : Int)) := by
            unfold ctF; rw [if_neg c1, if_neg c2, if_neg c3]
          rw [e, ct_gen l c a b z (by omega) (by omega) (by omega)]
          simp [cnt3, opn3, c1, c2, c3]
theorem val3_cases (l : List Int) (y : Int) : val3 l y = 0 ∨ val3 l y = 1 ∨ val3 l y = -1 := by
  unfold val3
  split
  · exact .inl rfl
  · split
    · exact .inr (.inl rfl)
    · split
      · exact .inr (.inr rfl)
      · exact .inl rfl
theorem op_gen (l : List Int) : ∀ (c : List Int) (n : Int), c.foldl (opF l) n = ((opn3 l c).getLast?).getD n
  | [], n => rfl
  | y :: c, n => by
    rw [List.foldl_cons, op_gen l c]
    have h3 := val3_cases l y
    by_cases c1 : 0 ≤ litX y ∧ val3 l y = 0
    · have e : opF l n y = y := by unfold opF; rw [if_pos c1]
      have e2 : opn3 l (y :: c) = y :: opn3 l c := by
        unfold opn3
        rw [List.filter_cons, if_pos (by rw [decide_eq_true_eq]; exact ⟨c1.1, by omega, by omega⟩)]
      rw [e, e2, List.getLast?_cons]
      rfl
    · have e : opF l n y = n := by unfold opF; rw [if_neg c1]
      have e2 : opn3 l (y :: c) = opn3 l c := by
        unfold opn3
        rw [List.filter_cons, if_neg (by rw [decide_eq_true_eq]; rintro ⟨a1, a2, a3⟩; exact c1 ⟨a1, by omega⟩)]
      rw [e, e2]
theorem unit_is {l c : List Int} (hc : c.length ≤ 1000) (hx : ∀ y ∈ c, 0 ≤ litX y) (h : (unitS l c).2 = true) : (unitS l c).1 ∈ c ∧ val3 l (unitS l c).1 = 0 ∧ ∀ y ∈ c, y ≠ (unitS l c).1 → val3 l y = -1 := by
  have hg := ct_gen l c 0 0 0 (by omega) (by omega) (by omega)
  have hct : ctS l c = (((0 + cnt3 l c 1 : Nat) : Int), ((0 + cnt3 l c (-1) : Nat) : Int), ((0 + (opn3 l c).length : Nat) : Int)) := hg
  have h0 : cnt3 l c 1 = 0 ∧ (opn3 l c).length = 1 ∧ (unitS l c).1 = c.foldl (opF l) 0 := by
    unfold unitS at h ⊢
    rw [hct] at h ⊢
    dsimp only at h ⊢
    by_cases e : ((0 + cnt3 l c 1 : Nat) : Int) ≠ 0 ∨ ((0 + (opn3 l c).length : Nat) : Int) ≠ 1
    · rw [if_pos e] at h; cases h
    · rw [if_neg e]
      refine ⟨by omega, by omega, rfl⟩
  obtain ⟨h1, h2, h3⟩ := h0
  obtain ⟨x, hx1⟩ := List.length_eq_one_iff.1 h2
  have h4 : (unitS l c).1 = x := by rw [h3, op_gen, hx1]; rfl
  have hxm : x ∈ opn3 l c := by rw [hx1]; simp
  have hxm' := hxm
  unfold opn3 at hxm'
  rw [List.mem_filter, decide_eq_true_eq] at hxm'
  rw [h4]
  have v3 := val3_cases l x
  refine ⟨hxm'.1, by omega, fun y hy hne => ?_⟩
  have hv := val3_cases l y
  have hn1 : val3 l y ≠ 1 := fun e => by
    have : y ∈ c.filter fun y => decide (val3 l y = 1) := by rw [List.mem_filter]; exact ⟨hy, by simpa using e⟩
    unfold cnt3 at h1
    rw [List.eq_nil_of_length_eq_zero h1] at this
    cases this
  rcases hv with hv | hv | hv
  · have : y ∈ opn3 l c := by
      unfold opn3
      rw [List.mem_filter, decide_eq_true_eq]
      exact ⟨hy, hx y hy, by omega, by omega⟩
    rw [hx1] at this
    simp at this
    exact absurd this hne
  · exact absurd hv hn1
  · exact hv
/-- A trail's literal's reason, if there is one: a clause all others of which fail by what stands ahead. -/
def ReaAt (cs : List (List Int)) (ats : List Int) (ls : List Int) (x : En) : Prop :=
  x.rea < 0 ∨ ∃ k, ∃ hk : k < cs.length, x.rea = ats.getD k 0 ∧ x.l ∈ cs[k] ∧ ∀ y ∈ cs[k], y ≠ x.l → w64 (-y) ∈ ls
def Rea (cs : List (List Int)) (ats : List Int) (t : RT) : Prop := ∀ i (hi : i < t.rows.length), ReaAt cs ats ((t.rows.take i).map (·.l)) t.rows[i]
theorem rea_app {cs : List (List Int)} {ats : List Int} {t : RT} (h : Rea cs ats t) {x : En} (hx : ReaAt cs ats (t.rows.map (·.l)) x) (v d : Int) : Rea cs ats ⟨v, t.rows ++ [x], d⟩ := by
  intro i hi
  have hi' : i < (t.rows ++ [x]).length := hi
  simp only [List.length_append, List.length_singleton] at hi'
  by_cases c : i < t.rows.length
  · have := h i c
    simp only [List.getElem_append_left c, List.take_append_of_le_length (Nat.le_of_lt c)]
    exact this
  · have e : i = t.rows.length := by omega
    subst e
    simp only [List.getElem_append_right (Nat.le_refl _), Nat.sub_self, List.getElem_cons_zero, List.take_left]
    exact hx
theorem rea_dec {cs : List (List Int)} {ats : List Int} {t : RT} (h : Rea cs ats t) (l : Int) : Rea cs ats (decR t l) := by
  unfold decR
  split
  · exact rea_app h (.inl (by show (-1 : Int) < 0; omega)) _ _
  · exact h
/-- Clauses of six variables. -/
structure Cls6 (cs : List (List Int)) (ats : List Int) : Prop where
  len : ∀ c ∈ cs, c.length ≤ 1000
  chk : ∀ c ∈ cs, ∀ y ∈ c, litChk y 6 = 0
  pos : ∀ k, k < cs.length → 0 ≤ ats.getD k 0
theorem lit6 {y : Int} (h : litChk y 6 = 0) : y ≠ 0 ∧ -6 ≤ y ∧ y ≤ 6 ∧ 0 ≤ litX y ∧ w64 (-y) = -y := by
  obtain ⟨a, b, c⟩ := (litChk_zero (by omega)).1 h
  refine ⟨a, b, c, ?_, w64_id (by omega) (by omega)⟩
  rw [litX_nn]
  exact (okL_iff y).2 ⟨a, by omega, by omega⟩
theorem val3_m1 {l : List Int} {y : Int} (h : val3 l y = -1) : w64 (-y) ∈ l := by
  unfold val3 at h
  split at h
  · omega
  · split at h
    · omega
    · split at h
      · assumption
      · omega
theorem val3_0 {l : List Int} {y : Int} (hx : 0 ≤ litX y) (h : val3 l y = 0) : y ∉ l ∧ w64 (-y) ∉ l := by
  unfold val3 at h
  rw [if_neg (by omega)] at h
  split at h
  · omega
  · split at h
    · omega
    · exact ⟨by assumption, by assumption⟩
theorem may_free {T : Tr} {t : RT} (h : RelT T t) {x : Int} (hx : litChk x 6 = 0) (h1 : x ∉ t.rows.map (·.l)) (h2 : w64 (-x) ∉ t.rows.map (·.l)) : mayR t x = 0 := by
  unfold mayR
  rw [h.vars, if_neg (by simp [hx]), if_neg]
  intro hp
  obtain ⟨i, hi, _, e⟩ := plR_in hp
  obtain ⟨_, _, _, _, _, v1⟩ := litV_ok6 (h.ok _ (List.getElem_mem hi)).1
  obtain ⟨_, _, _, _, _, v2⟩ := litV_ok6 hx
  obtain ⟨_, _, _, _, w2⟩ := lit6 hx
  rw [v1, v2] at e
  have hm : t.rows[i].l ∈ t.rows.map (·.l) := List.mem_map.2 ⟨_, List.getElem_mem hi, rfl⟩
  have : t.rows[i].l = x ∨ t.rows[i].l = -x := by
    unfold absS at e
    split at e <;> split at e <;> omega
  rcases this with e1 | e1
  · exact h1 (e1 ▸ hm)
  · exact h2 (by rw [w2, ← e1]; exact hm)
theorem next_is {cs : List (List Int)} {ats l : List Int} (hc : Cls6 cs ats) (h : (nextS cs l).2.2 = true) : ∃ i, ∃ hi : i < cs.length, (nextS cs l).2.1 = (i : Int) ∧ (nextS cs l).1 ∈ cs[i] ∧ val3 l (nextS cs l).1 = 0 ∧ ∀ y ∈ cs[i], y ≠ (nextS cs l).1 → val3 l y = -1 := by
  unfold nextS at *
  split at h
  · rename_i i hf
    rw [List.findIdx?_eq_some_iff_getElem] at hf
    obtain ⟨h1, h2, _⟩ := hf
    have e : cs.getD i [] = cs[i] := by rw [List.getD_eq_getElem?_getD, List.getElem?_eq_getElem h1]; rfl
    dsimp only
    rw [e]
    have hm := List.getElem_mem h1
    exact ⟨i, h1, rfl, unit_is (hc.len _ hm) (fun y hy => (lit6 (hc.chk _ hm y hy)).2.2.2.1) h2⟩
  · cases h
theorem prop_add {cs : List (List Int)} {ats : List Int} (hc : Cls6 cs ats) : ∀ (k : Nat) (D : DK) (by' : List Int), RelD D.T D.t → Rea cs ats D.t →
    ∃ xs ys, (propF cs k (D.t.rows.map (·.l)) by').1 = D.t.rows.map (·.l) ++ xs ∧ (propF cs k (D.t.rows.map (·.l)) by').2.1 = by' ++ ys ∧ Rea cs ats (addL D (xs.zip (ys.map fun y => ats.getD y.toNat 0))).t
  | 0, D, by', _, hr => ⟨[], [], by simp [propF], by simp [propF], hr⟩
  | k + 1, D, by', hd, hr => by
    rw [propF_step]
    by_cases c1 : 0 ≤ failS cs (D.t.rows.map (·.l))
    · rw [if_pos c1]; exact ⟨[], [], by simp, by simp, hr⟩
    rw [if_neg c1]
    by_cases c2 : (nextS cs (D.t.rows.map (·.l))).2.2 = false
    · rw [if_pos c2]; exact ⟨[], [], by simp, by simp, hr⟩
    rw [if_neg c2]
    obtain ⟨i, hi, e1, e2, e3, e4⟩ := next_is hc (l := D.t.rows.map (·.l)) (by simpa using c2)
    generalize (nextS cs (D.t.rows.map (·.l))).1 = x at *
    rw [e1]
    have hm := List.getElem_mem hi
    have hx6 := hc.chk _ hm x e2
    obtain ⟨_, _, _, hx0, _⟩ := lit6 hx6
    obtain ⟨f1, f2⟩ := val3_0 hx0 e3
    have hmay := may_free hd.1 hx6 f1 f2
    have hwp := hc.pos i hi
    have hS : addS D x (ats.getD i 0) = ⟨D.A, impT D.T x (ats.getD i 0), D.a, ⟨D.t.vars, D.t.rows ++ [⟨x, D.t.dep, ats.getD i 0⟩], D.t.dep⟩, D.con⟩ := by
      unfold addS
      rw [if_neg (by omega)]
      have hE : impER D.t x (ats.getD i 0) = 0 := by
        unfold impER
        rw [if_neg (fun h => h hmay), if_neg (by omega)]
      unfold impR
      rw [if_pos hE]
    have hrel := addS_rel hd x (ats.getD i 0)
    have hr' : Rea cs ats (addS D x (ats.getD i 0)).t := by
      rw [hS]
      exact rea_app hr (.inr ⟨i, hi, rfl, e2, fun y hy hne => val3_m1 (e4 y hy hne)⟩) _ _
    obtain ⟨xs, ys, g1, g2, g3⟩ := prop_add hc k (addS D x (ats.getD i 0)) (by' ++ [(i : Int)]) hrel hr'
    have hrows : (addS D x (ats.getD i 0)).t.rows.map (·.l) = D.t.rows.map (·.l) ++ [x] := by rw [hS]; simp
    rw [hrows] at g1 g2
    refine ⟨x :: xs, (i : Int) :: ys, by rw [g1]; simp, by rw [g2]; simp, ?_⟩
    exact g3
theorem fol_rea {cs : List (List Int)} {ats : List Int} (hc : Cls6 cs ats) {D : DK} (hd : RelD D.T D.t) (hr : Rea cs ats D.t) : Rea cs ats (folS cs ats D).t := by
  obtain ⟨xs, ys, g1, g2, g3⟩ := prop_add hc (mostP cs + 1) D [] hd hr
  have e : folZ cs ats D.t = xs.zip (ys.map fun y => ats.getD y.toNat 0) := by
    unfold folZ propS
    rw [g1, g2, List.nil_append, List.drop_left' (by simp)]
  unfold folS
  rw [e]
  exact g3
theorem add_rea {cs : List (List Int)} {ats : List Int} {D : DK} (hr : Rea cs ats D.t) (l : Int) : Rea cs ats (addS D l (-1)).t := by
  unfold addS
  rw [if_pos (by omega)]
  exact rea_dec hr l
theorem setL_rea {cs : List (List Int)} {ats : List Int} (hc : Cls6 cs ats) (lits : List Int) {D : DK} (hd : RelD D.T D.t) (hr : Rea cs ats D.t) : ∀ i, Rea cs ats (setL cs ats lits D i).t
  | 0 => fol_rea hc hd hr
  | i + 1 => by
    have ih := setL_rea hc lits hd hr i
    have ir := setL_rel cs ats lits hd i
    rw [setL]
    split
    · exact ih
    · split
      · exact fol_rea hc (addS_rel ir _ _) (add_rea ih _)
      · exact ih
/-- The clauses that may be are clauses of the arena. -/
structure PK6 (x : PK) : Prop where
  al : x.ats.length = x.rows.length
  chk : ∀ c ∈ x.rows, c.length ≤ 1000 ∧ ∀ y ∈ c, litChk y 6 = 0
  at' : ∀ k (hk : k < x.rows.length), ∃ r ∈ x.a.rows, r.at' = x.ats.getD k 0 ∧ r.lits = x.rows[k]
theorem chkC6 {c : List Int} (h : chkC c 6 = 0) : c.length ≤ 1000 ∧ ∀ y ∈ c, litChk y 6 = 0 := by
  unfold chkC at h
  rw [if_neg (by omega)] at h
  split at h
  · omega
  · split at h
    · omega
    · rename_i h1 h2
      refine ⟨by omega, fun y hy => ?_⟩
      have h3 : (c.all fun x => inS x 6) = true := by simpa using h2
      have := List.all_eq_true.1 h3 y hy
      unfold litChk
      rw [if_neg (by omega), if_pos this]
theorem putL_6 (cs : List (List Int)) : ∀ i, PK6 (putL cs i)
  | 0 => ⟨rfl, by simp [putL], fun k hk => by simp [putL] at hk⟩
  | i + 1 => by
    have ih := putL_6 cs i
    rw [putL]
    generalize putL cs i = x at *
    generalize cs.getD i [] = c
    generalize ((i + 1 : Nat) : Int) = id
    obtain ⟨h1, h2, h3⟩ := ih
    by_cases e : putEA id c = 0 ∧ chkC c 6 = 0
    · obtain ⟨e1, e2⟩ := e
      unfold putK
      rw [if_pos ⟨e1, e2⟩, if_pos ⟨e1, e2⟩]
      unfold putRA putQA
      rw [if_pos e1, if_pos e1]
      refine ⟨by simp [h1], fun d hd => ?_, fun k hk => ?_⟩
      · rcases List.mem_append.1 hd with hd | hd
        · exact h2 d hd
        · simp at hd; subst hd; exact chkC6 e2
      · dsimp only at hk ⊢
        simp only [List.length_append, List.length_singleton] at hk
        by_cases c1 : k < x.rows.length
        · obtain ⟨r, r1, r2, r3⟩ := h3 k c1
          refine ⟨r, List.mem_append_left _ r1, ?_, by rw [List.getElem_append_left c1]; exact r3⟩
          rw [r2, List.getD_eq_getElem?_getD, List.getD_eq_getElem?_getD, List.getElem?_append_left (by omega)]
        · have ek : k = x.rows.length := by omega
          subst ek
          refine ⟨⟨x.a.size, id, c⟩, by simp, ?_, by simp⟩
          rw [← h1, List.getD_eq_getElem?_getD, List.getElem?_append_right (Nat.le_refl _)]
          simp
    · unfold putK
      rw [if_neg e, if_neg e]
      refine ⟨h1, h2, fun k hk => ?_⟩
      obtain ⟨r, r1, r2, r3⟩ := h3 k hk
      refine ⟨r, ?_, r2, r3⟩
      dsimp only
      unfold putRA
      split
      · exact List.mem_append_left _ r1
      · exact r1
theorem relA_lits {A : Ar} {a : RA} (h : RelA A a) {r : Ro} (hr : r ∈ a.rows) : isA A r.at' = true ∧ litsA A r.at' = r.lits := by
  obtain ⟨p, e1, e2, e3, e4, _⟩ := h.rows r hr
  rw [e1]
  refine ⟨e4, ?_⟩
  unfold litsA
  rw [if_pos e4, Int.toNat_natCast, e2.num, Int.toNat_natCast]
  exact e3
/-- What is known of a desk's reasons. -/
def DkR (D : DK) : Prop := ∀ i (hi : i < D.t.rows.length), D.t.rows[i].rea < 0 ∨ (isA D.A D.t.rows[i].rea = true ∧ D.t.rows[i].l ∈ litsA D.A D.t.rows[i].rea ∧ ∀ y ∈ litsA D.A D.t.rows[i].rea, litChk y 6 = 0 ∧ (y ≠ D.t.rows[i].l → w64 (-y) ∈ (D.t.rows.take i).map (·.l)))
theorem setS_dkR {cs : List (List Int)} (hc : fewC cs) (lits : List Int) : DkR (setS cs lits) := by
  have hp := putL_ok hc cs.length (Nat.le_refl _)
  have h6 := putL_6 cs cs.length
  have hrelA := setS_relA hc lits
  obtain ⟨hA, ha⟩ := setL_A (putL cs cs.length).rows (putL cs cs.length).ats lits (begD (putL cs cs.length)) lits.length
  have hcl : Cls6 (putL cs cs.length).rows (putL cs cs.length).ats := ⟨fun c hc => (h6.chk c hc).1, fun c hc => (h6.chk c hc).2, fun k hk => by
    rw [List.getD_eq_getElem?_getD, List.getElem?_eq_getElem (by rw [h6.al]; exact hk)]
    exact hp.pos _ (List.getElem_mem _)⟩
  have hrea : Rea (putL cs cs.length).rows (putL cs cs.length).ats (setS cs lits).t := setL_rea hcl lits (D := begD (putL cs cs.length)) relD_new (fun i hi => by simp [begD] at hi) lits.length
  have hA' : (setS cs lits).A = (putL cs cs.length).A := hA
  have ha' : (setS cs lits).a = (putL cs cs.length).a := ha
  intro i hi
  rcases hrea i hi with h | ⟨k, hk, e1, e2, e3⟩
  · exact .inl h
  · right
    obtain ⟨r, r1, r2, r3⟩ := h6.at' k hk
    rw [← ha'] at r1
    obtain ⟨q1, q2⟩ := relA_lits hrelA r1
    rw [r2, ← e1] at q1 q2
    rw [r3] at q2
    rw [q2]
    exact ⟨q1, e2, fun y hy => ⟨hcl.chk _ (List.getElem_mem hk) y hy, e3 y hy⟩⟩
end Go.AX

namespace Go.AX
open Go.Proofs
set_option linter.unusedSimpArgs false

structure DeskOk (D : DK) : Prop where
  rel : RelD D.T D.t
  relA : RelA D.A D.a
  rea : DkR D
  len : D.A.row.length ≤ 1000000
theorem setS_ok {cs : List (List Int)} (hc : fewC cs) (lits : List Int) : DeskOk (setS cs lits) := by
  refine ⟨setS_rel cs lits, setS_relA hc lits, setS_dkR hc lits, ?_⟩
  obtain ⟨hA, _⟩ := setL_A (putL cs cs.length).rows (putL cs cs.length).ats lits (begD (putL cs cs.length)) lits.length
  have hA' : (setS cs lits).A = (putL cs cs.length).A := hA
  rw [hA']
  have := (putL_ok hc cs.length (Nat.le_refl _)).len
  have := hc.1
  omega
theorem rea_in {D : DK} (h : RelT D.T D.t) {v : Int} (hr : 0 ≤ (ofT D.T v).1.rea) : ∃ i, ∃ hi : i < D.t.rows.length, plR D.t v = i ∧ litV D.t.rows[i].l = v ∧ (ofT D.T v).1.rea = D.t.rows[i].rea ∧ (ofT D.T v).1.pla = i := by
  obtain ⟨_, e2, e3⟩ := relT_of h v
  rw [e2] at hr ⊢
  unfold ofR at hr ⊢
  by_cases c : plR D.t v < 0
  · rw [if_pos c] at hr; dsimp only at hr; omega
  · obtain ⟨i, hi, p1, p2⟩ := plR_in (t := D.t) (v := v) (by omega)
    refine ⟨i, hi, p1, p2, ?_, by rw [e3, p1]⟩
    rw [if_neg c, p1, Int.toNat_natCast, List.getD_eq_getElem?_getD, List.getElem?_eq_getElem hi]
    rfl
theorem isA_hd {A : Ar} {q : Int} (h : isA A q = true) : A.hd ≠ [] := fun e => by
  unfold isA at h
  rw [e] at h
  simp [lk] at h
theorem DeskOk.sh {D : DK} (h : DeskOk D) {c : List Int} (hc : c.length ≤ 1000000) : ShOk D.A D.T c where
  tr := h.rel.1.okT
  ar := fun q hq => by
    obtain ⟨x, hx, e⟩ := h.relA.is q hq
    obtain ⟨p, e1, e2, _⟩ := h.relA.rows x hx
    exact ⟨p, _, by rw [← e, e1], e2⟩
  len := h.len
  few := hc
  hd := fun v hv => by
    obtain ⟨i, hi, _, _, e, _⟩ := rea_in h.rel.1 hv
    rcases h.rea i hi with h1 | ⟨h1, _⟩
    · omega
    · exact isA_hd h1
theorem idxS_lt {α : Type} {p : α → Bool} : ∀ {l : List α} {j : Nat} (hj : j < l.length), p l[j] = true → 0 ≤ idxS p l ∧ idxS p l ≤ j := by
  intro l j hj h
  unfold idxS
  cases hf : l.findIdx? p with
  | none =>
    rw [List.findIdx?_eq_none_iff] at hf
    have := hf _ (List.getElem_mem hj)
    rw [h] at this; cases this
  | some i =>
    rw [List.findIdx?_eq_some_iff_getElem] at hf
    obtain ⟨h1, h2, h3⟩ := hf
    dsimp only
    refine ⟨by omega, ?_⟩
    apply Int.ofNat_le.2
    apply Nat.le_of_not_lt
    intro hlt
    exact h3 j hlt h
theorem plR_lt {D : DK} (h : RelT D.T D.t) {x : Int} (hx : litChk x 6 = 0) {i : Nat} (hm : w64 (-x) ∈ (D.t.rows.take i).map (·.l)) : 0 ≤ plR D.t (litV x) ∧ plR D.t (litV x) < i := by
  obtain ⟨y, hy, e⟩ := List.mem_map.1 hm
  obtain ⟨j, hj, rfl⟩ := List.getElem_of_mem hy
  have hj1 : j < i ∧ j < D.t.rows.length := by rw [List.length_take] at hj; omega
  rw [List.getElem_take] at e
  obtain ⟨_, _, _, _, w⟩ := lit6 hx
  obtain ⟨_, _, _, _, _, v1⟩ := litV_ok6 (h.ok _ (List.getElem_mem hj1.2)).1
  obtain ⟨_, _, _, _, _, v2⟩ := litV_ok6 hx
  have ev : litV D.t.rows[j].l = litV x := by
    rw [v1, v2, e, w]; unfold absS; split <;> split <;> omega
  have := idxS_lt (p := fun x' : En => decide (litV x'.l = litV x)) hj1.2 (by simpa using ev)
  unfold plR
  omega
theorem oth_in {D : DK} (h : DeskOk D) {l : Int} (hb : othB D.A D.T l = true) : ∃ i, ∃ hi : i < D.t.rows.length, plaT D.T l = i ∧ D.t.rows[i].l = w64 (-l) ∧ litChk l 6 = 0 ∧ (ofT D.T (litV l)).1.rea = D.t.rows[i].rea ∧ 0 ≤ D.t.rows[i].rea := by
  unfold othB at hb
  simp only [Bool.not_eq_true', Bool.or_eq_false_iff, decide_eq_false_iff_not] at hb
  obtain ⟨⟨b1, b2⟩, _⟩ := hb
  obtain ⟨i, hi, p1, p2, p3, p4⟩ := rea_in h.rel.1 (v := litV l) (by omega)
  refine ⟨i, hi, p4, ?_, ?_, p3, by omega⟩
  all_goals
    have hlen : ((D.T.marks.length : Nat) : Int) - 1 = 6 := by rw [h.rel.1.len]; rfl
    have hmk := h.rel.1.mark _ i hi p1
    unfold valT at b1
    rw [hlen, hmk] at b1
    by_cases c : litChk l 6 = 0
    rotate_left
    · rw [if_pos c] at b1; omega
  · rw [if_neg (fun e => e c)] at b1
    obtain ⟨_, _, _, _, w⟩ := lit6 c
    obtain ⟨_, _, r0, _, _, v1⟩ := litV_ok6 (h.rel.1.ok _ (List.getElem_mem hi)).1
    obtain ⟨_, _, l0, _, _, v2⟩ := litV_ok6 c
    rw [v1, v2] at p2
    rw [w]
    unfold absS at p2
    dsimp only at b1
    have w1 : w64 (-1) = -1 := by decide
    have w2 : w64 (- -1) = 1 := by decide
    by_cases e1 : l < 0
    · rw [if_pos e1] at b1 p2
      by_cases e2 : D.t.rows[i].l < 0
      · rw [if_pos e2, w2] at b1; omega
      · rw [if_neg e2] at p2; omega
    · rw [if_neg e1] at b1 p2
      by_cases e2 : D.t.rows[i].l < 0
      · rw [if_pos e2] at p2; omega
      · rw [if_neg e2] at b1; omega
  · exact c
theorem othL_in {A : Ar} {T : Tr} {l x : Int} (hx : x ∈ othL A T l) : othB A T l = true ∧ x ∈ litsA A (ofT T (litV l)).1.rea ∧ x ≠ w64 (-l) ∧ (ofT T (litV x)).1.lev ≠ 0 := by
  unfold othL at hx
  split at hx
  · rename_i h
    rw [List.mem_filter] at hx
    obtain ⟨h1, h2⟩ := hx
    unfold lowS at h2
    simp only [Bool.not_eq_true', Bool.or_eq_false_iff, decide_eq_false_iff_not] at h2
    exact ⟨h, h1, h2.1, h2.2⟩
  · cases hx
/-- What else a reason has stands ahead. -/
theorem oth_ahead {D : DK} (h : DeskOk D) {l x : Int} (hx : x ∈ othL D.A D.T l) : litChk x 6 = 0 ∧ 0 ≤ plaT D.T x ∧ plaT D.T x < plaT D.T l ∧ plaT D.T l < D.T.lits.length := by
  obtain ⟨o1, o2, o3, _⟩ := othL_in hx
  obtain ⟨i, hi, p1, p2, _, p4, p5⟩ := oth_in h o1
  rw [p4] at o2
  rcases h.rea i hi with h1 | ⟨_, _, h3⟩
  · omega
  · obtain ⟨q1, q2⟩ := h3 x o2
    have q3 := plR_lt h.rel.1 q1 (q2 (by rw [p2]; exact o3))
    have hx2 : plaT D.T x = plR D.t (litV x) := (relT_of h.rel.1 _).2.2
    refine ⟨q1, by omega, by omega, ?_⟩
    rw [p1, h.rel.1.lits, List.length_map]
    omega
/-- What is left over is deeply left over. -/
theorem self_deep {D : DK} (h : DeskOk D) {c : List Int} {l : Int} (hs : selfS D.A D.T c l = true) : deepQ D.A D.T c l = true := by
  unfold selfS at hs
  simp only [Bool.and_eq_true, Bool.not_eq_true'] at hs
  obtain ⟨h1, h2⟩ := hs
  obtain ⟨i, hi, p1, _⟩ := oth_in h h1
  unfold deepQ deepB
  rw [deepV_step, h1]
  have hlt : plaT D.T l < D.T.lits.length := by rw [p1, h.rel.1.lits, List.length_map]; omega
  simp only [Bool.and_eq_true, decide_eq_true_eq, Bool.true_and, List.all_eq_true]
  refine ⟨⟨by omega, hlt⟩, fun x hx => ?_⟩
  have hx2 := List.any_eq_false.1 h2 x hx
  simp only [Bool.or_eq_true, decide_eq_true_eq, Bool.not_eq_true', decide_eq_false_iff_not, not_or, Classical.not_not] at hx2
  obtain ⟨_, _, q3, _⟩ := oth_ahead h hx
  unfold deepP stanS
  rw [decide_eq_false hx2.1, decide_eq_true hx2.2, decide_eq_true q3]
  rfl
theorem stan_mono {T : Tr} {c d : List Int} (hcd : ∀ x ∈ c, x ∈ d) {l x : Int} (h : stanS T c l x = true) : stanS T d l x = true := by
  unfold stanS at *
  simp only [Bool.and_eq_true, decide_eq_true_eq] at h ⊢
  exact ⟨h.1, hcd _ h.2.1, h.2.2⟩
theorem deepF_mono {A : Ar} {T : Tr} {c d : List Int} (hcd : ∀ x ∈ c, x ∈ d) : ∀ (k : Nat) (l : Int), deepF A T c k l = true → deepF A T d k l = true
  | 0, _, h => h
  | k + 1, l, h => by
    rw [deepF] at h ⊢
    simp only [Bool.and_eq_true, List.all_eq_true, Bool.or_eq_true] at h ⊢
    refine ⟨h.1, fun x hx => ?_⟩
    rcases h.2 x hx with h1 | ⟨h1, h2⟩
    · exact .inl (stan_mono hcd h1)
    · exact .inr ⟨h1, deepF_mono hcd k x h2⟩
theorem deepQ_mono {A : Ar} {T : Tr} {c d : List Int} (hcd : ∀ x ∈ c, x ∈ d) {l : Int} (h : deepQ A T c l = true) : deepQ A T d l = true := by
  unfold deepQ deepB at *
  simp only [Bool.and_eq_true] at h ⊢
  exact ⟨h.1, deepF_mono hcd _ _ h.2⟩
theorem shoS_sub (A : Ar) (T : Tr) (c : List Int) : List.Sublist (shoS A T c) c := by
  have h : List.Sublist (c.take 1 ++ delS (deepQ A T c) (c.drop 1)) (c.take 1 ++ c.drop 1) := List.Sublist.append (List.Sublist.refl _) List.filter_sublist
  rw [List.take_append_drop] at h
  exact h
/-- Made shorter again it is the same. -/
theorem shoS_idem (A : Ar) (T : Tr) (c : List Int) : shoS A T (shoS A T c) = shoS A T c := by
  have hsub := shoS_sub A T c
  have hd : delS (deepQ A T (shoS A T c)) ((shoS A T c).drop 1) = (shoS A T c).drop 1 := by
    refine delS_none _ _ fun x hx => ?_
    have hx' : x ∈ delS (deepQ A T c) (c.drop 1) := by
      unfold shoS at hx
      cases c with
      | nil => simp [delS] at hx
      | cons y r => simpa using hx
    unfold delS at hx'
    rw [List.mem_filter] at hx'
    have hn : deepQ A T c x = false := by simpa using hx'.2
    cases e : deepQ A T (shoS A T c) x
    · rfl
    · rw [deepQ_mono (fun y hy => hsub.subset hy) e] at hn; cases hn
  show (shoS A T c).take 1 ++ delS (deepQ A T (shoS A T c)) ((shoS A T c).drop 1) = shoS A T c
  rw [hd, List.take_append_drop]
end Go.AX

namespace Go.AX
open Go.Proofs
set_option linter.unusedSimpArgs false

@[simp ↓ high] theorem AGs_true {P : Program} {st : St} {Gd : Prop} {o : Op} {d : Option Tmp} {K : St → Prop} (h : Gd) : AGs P st Gd o d K = AE P st o d K :=
  propext ⟨fun x => x.1 h, fun x => ⟨fun _ => x, fun hn => absurd h hn⟩⟩
theorem selfNN_ok (t : PV) (l : Int) : APure Try.prog 13 [.lit (.pointer none), t, .lit (.slice none 0 0), I64 l] (fun r => r = .pv (BL false)) := by
  refine apure1 hmo Try.func13 (by kernel_rfl) rfl rfl (by kernel_rfl) (Nat.le_of_ble_eq_true rfl) ?_
  simp
def shD : DK := setS [[-1, 2], [-2, 4]] [1, 3]
theorem shD_1 : shoS shD.A shD.T [-3, -4, -1] = [-3, -1] := by kernel_rfl
theorem shD_2 : selfS shD.A shD.T [-3, -2, -1] (-2) = true := by kernel_rfl
theorem shD_3 : selfS shD.A shD.T [-3, -4, -1] (-4) = false := by kernel_rfl
theorem shD_4 : deepQ shD.A shD.T [-3, -4, -1] (-4) = true := by kernel_rfl
theorem shD_5 : deepQ shD.A shD.T [-3, -4] (-4) = false := by kernel_rfl
theorem shD_6 : deepQ shD.A shD.T [-1] (-1) = false := by kernel_rfl
theorem shD_7 : sumS [1] [[2], [2, 1]] 2 = [1] := by kernel_rfl
theorem RelD.lits_few {T : Tr} {t : RT} (h : RelD T t) : T.lits.length ≤ 1000000 := by
  have := h.1.few
  rw [h.1.lits, List.length_map]; omega
set_option maxRecDepth 16000 in
theorem shAwake_ok : APure Try.prog 9 [] (fun r => r = .pv (BL true)) := by
  refine apure1 hmo Try.func9 (by kernel_rfl) rfl rfl (by kernel_rfl) (Nat.le_of_ble_eq_true rfl) ?_
  have hset := dset_ok [] [[-1, 2], [-2, 4]] [1, 3] ⟨by decide, by decide⟩ (by decide)
  have hok := setS_ok (cs := [[-1, 2], [-2, 4]]) ⟨by decide, by decide⟩ [1, 3]
  have e1 := shD_1
  have e2 := shD_2
  have e3 := shD_3
  have e4 := shD_4
  have e5 := shD_5
  have e6 := shD_6
  unfold shD at e1 e2 e3 e4 e5 e6
  generalize setS [[-1, 2], [-2, 4]] [1, 3] = D at *
  have hs := fun (c : List Int) (hc : c.length ≤ 1000000) => hok.sh hc
  have hlf := hok.rel.lits_few
  have g1 := shorten_ok D.A D.T [-3, -4, -1] (hs _ (by decide)) hlf
  rw [e1] at g1
  have slf := fun (c : List Int) (hc : c.length ≤ 1000000) (l : Int) => self_ok D.A D.T c l hc (hs c hc).tr (hs c hc).ar (hs c hc).len ((hs c hc).hd _)
  have g2 := slf [-3, -2, -1] (by decide) (-2)
  have g3 := slf [-3, -4, -1] (by decide) (-4)
  rw [e2] at g2
  rw [e3] at g3
  have g4 := deepE_ok D.A D.T [-3, -4, -1] (-4) (hs _ (by decide)) hlf
  have g5 := deepE_ok D.A D.T [-3, -4] (-4) (hs _ (by decide)) hlf
  have g6 := deepE_ok D.A D.T [-1] (-1) (hs _ (by decide)) hlf
  rw [e4] at g4
  rw [e5] at g5
  rw [e6] at g6
  have g7 := subsumes_ok [1] [[2], [2, 1]] (by decide) ⟨by decide, by decide⟩
  have e7 : sumS [1] [[2], [2, 1]] ([[2], [2, 1]] : List (List Int)).length = [1] := shD_7
  rw [e7] at g7
  have g8 := selfNN_ok (trP D.T) 1
  have g9 := shortenN_ok [5, 6] (by decide)
  have hS1 := sameInts_ok [-3, -1] [-3, -1] (by decide)
  have hS2 := sameInts_ok [1] [1] (by decide)
  have hS3 := sameInts_ok [5, 6] [5, 6] (by decide)
  have hf : ∀ a b c d, frzP [a, b, c, trB D.T, d] 3 3 0 = trP D.T := fun a b c d => frz_tr0 rfl 2
  have hfa : ∀ a b c d, frzP [a, arB D.A, b, c, d] 3 1 0 = arP D.A := fun a b c d => frz_ar0 rfl 2
  simp
  refine CallK.introE hset (by simp) rfl (by simp) (by simp) (by simp [wkAL, wkA, wkRR, wkPL, wkP, irow, crowF]) ?_
  rintro _ _ ⟨rfl, rfl⟩
  simp [dkA, dkB]
  rw [hf, hfa]
  refine CallB.introP g1 (by simp) (by simp) ?_
  simp
  refine CallK.intro hS1 (by simp) ?_
  simp
  rw [hf, hfa]
  refine CallB.introP g2 (by simp) (by simp) ?_
  simp
  rw [hf, hfa]
  refine CallB.introP g3 (by simp) (by simp) ?_
  simp
  rw [hf, hfa]
  refine CallB.introP g4 (by simp) (by simp) ?_
  simp
  rw [hf, hfa]
  refine CallB.introP g5 (by simp) (by simp) ?_
  simp
  rw [hf, hfa]
  refine CallB.introP g6 (by simp) (by simp) ?_
  simp
  refine CallG.intro (fun _ => g7) (by simp) ?_
  simp
  refine CallG.intro (fun _ => hS2) (by simp) ?_
  simp
  rw [hf]
  refine CallB.introP g8 (by simp) (by simp) ?_
  simp
  refine CallG.intro (fun _ => g9) (by simp) ?_
  simp
  refine CallG.intro (fun _ => hS3) (by simp) ?_
  simp
/-- The blocks that a desk leaves. -/
def dkBs (D : DK) : List (List SV) := [[.pv (.ptr 1 0), .pv (.ptr 3 0), .pv (.seq false 5 (D.a.rows.map roR)), .pv (I64 D.a.size), .pv (I64 D.t.vars), .pv (.seq false 3 (D.t.rows.map enR)), .pv (I64 D.t.dep), .pv (I64 D.con)], arB D.A, [.pv (.ptr 1 0), .pv (.ptr 3 0), .pv (.seq false 5 (D.a.rows.map roR)), .pv (I64 D.a.size), .pv (I64 D.t.vars), .pv (.seq false 3 (D.t.rows.map enR)), .pv (I64 D.t.dep), .pv (I64 D.con)], trB D.T, [.pv (.ptr 1 0), .pv (.ptr 3 0), .pv (.seq false 5 (D.a.rows.map roR)), .pv (I64 D.a.size), .pv (I64 D.t.vars), .pv (.seq false 3 (D.t.rows.map enR)), .pv (I64 D.t.dep), .pv (I64 D.con)]]
end Go.AX

namespace Go.AX
open Go.Proofs
set_option linter.unusedSimpArgs false

def plaR (t : RT) (l : Int) : Int := if valR t l = -1 then plR t (litV l) else -1
theorem refPlace_ok (t : RT) (l : Int) (ht : t.rows.length ≤ 1000000) : APure Try.prog 50 [rtV t, I64 l] (fun r => r = .pv (I64 (plaR t l))) := by
  refine apure1 hmo Try.func50 (by kernel_rfl) rfl rfl (by kernel_rfl) (Nat.le_of_ble_eq_true rfl) ?_
  have hv := rfValue_ok t l ht
  have hp := rfPlace_ok t (litV l) ht
  have hP : plaR t l = if valR t l = -1 then plR t (litV l) else -1 := rfl
  generalize plaR t l = p at *
  simp only [rtV] at hv hp
  simp [rtV]
  refine CallK.intro hv (by simp) ?_
  by_cases c : valR t l = -1
  · rw [if_pos c] at hP
    subst hP
    simp [c]
    refine CallK.intro (refSplit_ok l) (by simp) ?_
    simp
    refine CallK.intro hp (by simp) ?_
    simp
  · rw [if_neg c] at hP
    subst hP
    simp [c]
instance : Inhabited Ro := ⟨⟨0, 0, []⟩⟩
def findA (a : RA) (q : Int) : Int := idxS (fun x : Ro => decide (x.at' = q)) a.rows
theorem refFind_ok (a : RA) (q : Int) (ha : a.rows.length ≤ 1000000) : APure Try.prog 86 [raV a, I64 q] (fun r => r = .pv (I64 (findA a q))) := by
  refine apure1 hmo Try.func86 (by kernel_rfl) rfl rfl (by kernel_rfl) (Nat.le_of_ble_eq_true rfl) ?_
  simp [raV]
  refine ALoop.intro (S := fun (i : Nat) => ⟨[(1, .pv (I64 q)), (2, .pv (.ptr 0 0)), (5, .pv (I64 i))], [[.pv (.seq false 5 (a.rows.map roR)), .pv (I64 a.size)]]⟩) (fun i => i ≤ a.rows.length ∧ ∀ j (hj : j < a.rows.length), j < i → decide (a.rows[j].at' = q) = false) (fun i => a.rows.length - i) 0 ?_ ⟨Nat.zero_le _, fun j _ h => absurd h (Nat.not_lt_zero _)⟩ ?_
  · exact Weak.to (by simp) (by simp) (by simp) (by simp) (by simp)
  rintro i ⟨hi, ho⟩
  by_cases h : i < a.rows.length
  · have hw : w64 ((i : Int) + 1) = ((i + 1 : Nat) : Int) := by rw [w64_id (by omega) (by omega)]; omega
    by_cases c : a.rows[i].at' = q
    · have hF : findA a q = i := idxS_at h ho (by simpa using c)
      simp [h, roR, c, hF]
    · simp [h, roR, c]
      refine ⟨i + 1, by (try dsimp only); omega, ⟨by (try dsimp only); omega, fun j hj hji => ?_⟩, Weak.to (by simp [hw, roR]) (by simp) (by simp) (by simp) (by simp)⟩
      by_cases e : j = i
      · subst e; simpa using c
      · simpa using ho j hj (by omega)
  · have hie : i = a.rows.length := by omega
    subst hie
    have hF : findA a q = -1 := idxS_none fun j hj => ho j hj hj
    simp [hF]
/-- The literals of the row of the arena at a place. -/
def litsD (a : RA) (q : Int) : List Int := (a.rows.getD (findA a q).toNat default).lits
def othBR (a : RA) (t : RT) (i : Nat) : Bool := !(decide ((t.rows.getD i default).rea < 0) || decide (findA a (t.rows.getD i default).rea < 0) || !decide ((t.rows.getD i default).l ∈ litsD a (t.rows.getD i default).rea))
def othP (t : RT) (i : Nat) (x : Int) : Bool := decide (x ≠ (t.rows.getD i default).l) && decide ((ofR t (litV x)).1 ≠ 0)
def othLR (a : RA) (t : RT) (i : Nat) : List Int := if othBR a t i = true then (litsD a (t.rows.getD i default).rea).filter (othP t i) else []
theorem othLR_len (a : RA) (t : RT) (i : Nat) (hl : ∀ x ∈ a.rows, x.lits.length ≤ 1000000) : (litsD a (t.rows.getD i default).rea).length ≤ 1000000 := by
  unfold litsD
  rw [List.getD_eq_getElem?_getD]
  cases h : a.rows[(findA a (t.rows.getD i default).rea).toNat]? with
  | none => exact Nat.zero_le _
  | some x => exact hl x (List.mem_of_getElem? h)
set_option maxRecDepth 16000 in
theorem refOthers_ok (a : RA) (t : RT) (i : Nat) (hi : i < t.rows.length) (ht : t.rows.length ≤ 1000000) (ha : a.rows.length ≤ 1000000) (hl : ∀ x ∈ a.rows, x.lits.length ≤ 1000000) : APure Try.prog 51 [raV a, rtV t, I64 i] (fun r => r = .pv (.tup [.seq true 1 (irow (othLR a t i)), BL (othBR a t i)])) := by
  refine APure.wk (R := fun r => ∃ x, r = .pv x ∧ wkP x (.tup [.seq true 1 (irow (othLR a t i)), BL (othBR a t i)])) ?_ (fun r ⟨x, e, h⟩ => ⟨x, _, e, h, rfl⟩)
  refine apureX [] [.tmp 6, .tmp 7] hmo Try.func51 (by kernel_rfl) rfl rfl (by kernel_rfl) (Nat.le_of_ble_eq_true rfl) ?_
  have hx : t.rows.getD i default = t.rows[i] := by rw [List.getD_eq_getElem?_getD, List.getElem?_eq_getElem hi]; rfl
  have hB : othBR a t i = !(decide (t.rows[i].rea < 0) || decide (findA a t.rows[i].rea < 0) || !decide (t.rows[i].l ∈ litsD a t.rows[i].rea)) := by unfold othBR; rw [hx]
  have hL : othLR a t i = if othBR a t i = true then (litsD a t.rows[i].rea).filter (othP t i) else [] := by unfold othLR; rw [hx]
  have hP : ∀ x, othP t i x = (decide (x ≠ t.rows[i].l) && decide ((ofR t (litV x)).1 ≠ 0)) := fun x => by unfold othP; rw [hx]
  have hll := othLR_len a t i hl
  rw [hx] at hll
  have hfi := refFind_ok a t.rows[i].rea ha
  have hof := fun x => rfOf_ok t (litV x) ht
  have hk : findA a t.rows[i].rea = -1 ∨ ∃ j, ∃ hj : j < a.rows.length, findA a t.rows[i].rea = j ∧ litsD a t.rows[i].rea = a.rows[j].lits := by
    unfold litsD
    unfold findA idxS
    split
    · rename_i j hj
      rw [List.findIdx?_eq_some_iff_getElem] at hj
      obtain ⟨h1, _⟩ := hj
      exact .inr ⟨j, h1, rfl, by simp [h1]⟩
    · exact .inl rfl
  generalize findA a t.rows[i].rea = k at *
  generalize litsD a t.rows[i].rea = L at *
  simp only [raV, rtV] at hfi hof
  have hi64 : (i : Int) < t.rows.length := by omega
  simp [raV, rtV, hi, enR]
  refine CallK.intro hfi (by simp) ?_
  by_cases c1 : t.rows[i].rea < 0
  · have hB' : othBR a t i = false := by rw [hB]; simp [c1]
    rw [hB'] at hL
    simp only [Bool.false_eq_true, if_false] at hL
    rw [hB', hL]
    simp [c1]
    refine CallQ.intro (fun h : False => h.elim) (r := .pv (BL false)) (by simp) ?_
    simp [wkP, wkPL, irow]
  rcases hk with rfl | ⟨j, hj, rfl, rfl⟩
  · have hB' : othBR a t i = false := by rw [hB]; simp
    rw [hB'] at hL
    simp only [Bool.false_eq_true, if_false] at hL
    rw [hB', hL]
    simp [c1]
    refine CallQ.intro (fun h : False => h.elim) (r := .pv (BL false)) (by simp) ?_
    simp [wkP, wkPL, irow]
  have c2 : ¬ (j : Int) < 0 := by omega
  simp [c1, c2, hj, roR]
  refine CallQ.intro (fun _ => refHas_ok a.rows[j].lits t.rows[i].l (by omega)) (by simp) ?_
  by_cases c3 : t.rows[i].l ∈ a.rows[j].lits
  rotate_left
  · have hB' : othBR a t i = false := by rw [hB]; simp [c3]
    rw [hB'] at hL
    simp only [Bool.false_eq_true, if_false] at hL
    rw [hB', hL]
    simp [c1, c2, c3, wkP, wkPL, irow]
  have hB' : othBR a t i = true := by rw [hB]; simp [c1, c2, c3]
  rw [hB'] at hL
  simp only [if_true] at hL
  rw [hB', hL]
  simp [c1, c2, c3]
  refine ALoop.intro (S := fun (y : Nat) => ⟨[(3, .pv (.ptr 0 0)), (4, .pv (.ptr 1 0)), (8, .pv (.ptr 2 0)), (9, .pv (I64 j)), (10, .own true 1 (irow ((a.rows[j].lits.take y).filter (othP t i)))), (11, .pv (I64 y))], [[.pv (.seq false 5 (a.rows.map roR)), .pv (I64 a.size)], [.pv (I64 t.vars), .pv (.seq false 3 (t.rows.map enR)), .pv (I64 t.dep)], [.pv (I64 t.rows[i].l), .pv (I64 t.rows[i].lev), .pv (I64 t.rows[i].rea)]]⟩) (fun y => y ≤ a.rows[j].lits.length) (fun y => a.rows[j].lits.length - y) 0 ?_ (Nat.zero_le _) ?_
  · exact (Weak.nilOwn (s := 10) 1 true (by simp)).trans (Weak.to (by simp [irow]) (by simp) (by simp) (by simp) (by simp))
  intro y hy
  by_cases h : y < a.rows[j].lits.length
  · have hw : w64 ((y : Int) + 1) = ((y + 1 : Nat) : Int) := by rw [w64_id (by omega) (by omega)]; omega
    have hF : (a.rows[j].lits.take (y + 1)).filter (othP t i) = (a.rows[j].lits.take y).filter (othP t i) ++ (if othP t i a.rows[j].lits[y] = true then [a.rows[j].lits[y]] else []) := by
      rw [← List.take_append_getElem h, List.filter_append, List.filter_cons, List.filter_nil]
    have hlen : ((a.rows[j].lits.take y).filter (othP t i)).length ≤ y := Nat.le_trans (List.length_filter_le _ _) (by rw [List.length_take]; omega)
    have hPy := hP a.rows[j].lits[y]
    have ho := hof a.rows[j].lits[y]
    simp [h, hj, roR]
    refine CallK.intro (refSplit_ok _) (by simp) ?_
    simp
    refine CallK.intro ho (by simp) ?_
    by_cases d1 : a.rows[j].lits[y] = t.rows[i].l
    · have e : othP t i a.rows[j].lits[y] = false := by rw [hPy]; simp [d1]
      rw [e] at hF
      simp only [Bool.false_eq_true, if_false, List.append_nil] at hF
      simp [d1]
      exact ⟨y + 1, by (try dsimp only); omega, by (try dsimp only); omega, Weak.to (by simp [hw, hF]) (by simp [roR]) (by simp) (by simp) (by simp)⟩
    by_cases d2 : (ofR t (litV a.rows[j].lits[y])).1 = 0
    · have e : othP t i a.rows[j].lits[y] = false := by rw [hPy]; simp [d2]
      rw [e] at hF
      simp only [Bool.false_eq_true, if_false, List.append_nil] at hF
      simp [d1, d2]
      exact ⟨y + 1, by (try dsimp only); omega, by (try dsimp only); omega, Weak.to (by simp [hw, hF]) (by simp [roR]) (by simp) (by simp) (by simp)⟩
    · have e : othP t i a.rows[j].lits[y] = true := by rw [hPy]; simp [d1, d2]
      rw [e] at hF
      simp only [if_true] at hF
      simp [d1, d2]
      exact ⟨by omega, y + 1, by (try dsimp only); omega, by (try dsimp only); omega, Weak.to (by simp [hw, hF, irow]) (by simp [roR]) (by simp) (by simp) (by simp)⟩
  · have hie : y = a.rows[j].lits.length := by omega
    subst hie
    simp [hj, roR, wkP, wkPL]
end Go.AX

namespace Go.AX
open Go.Proofs
set_option linter.unusedSimpArgs false

theorem plaR_in (t : RT) (l : Int) : plaR t l = -1 ∨ ∃ i : Nat, i < t.rows.length ∧ plaR t l = i := by
  unfold plaR
  split
  · by_cases c : 0 ≤ plR t (litV l)
    · obtain ⟨i, hi, e, _⟩ := plR_in c
      exact .inr ⟨i, hi, e⟩
    · left
      unfold plR idxS at *
      split at c
      · omega
      · rfl
  · exact .inl rfl
theorem othLR_le (a : RA) (t : RT) (i : Nat) (hl : ∀ x ∈ a.rows, x.lits.length ≤ 1000000) : (othLR a t i).length ≤ 1000000 := by
  unfold othLR
  split
  · exact Nat.le_trans (List.length_filter_le _ _) (othLR_len a t i hl)
  · exact Nat.zero_le _
def selfR (a : RA) (t : RT) (c : List Int) (l : Int) : Bool := decide (0 ≤ plaR t l) && (othBR a t (plaR t l).toNat && (othLR a t (plaR t l).toNat).all fun x => decide (x ∈ c) && !decide (x = l))
set_option maxRecDepth 16000 in
theorem refSelf_ok (a : RA) (t : RT) (c : List Int) (l : Int) (hc : c.length ≤ 1000000) (ht : t.rows.length ≤ 1000000) (ha : a.rows.length ≤ 1000000) (hl : ∀ x ∈ a.rows, x.lits.length ≤ 1000000) : APure Try.prog 16 [raV a, rtV t, .seq false 1 (irow c), I64 l] (fun r => r = .pv (BL (selfR a t c l))) := by
  refine apure1 hmo Try.func16 (by kernel_rfl) rfl rfl (by kernel_rfl) (Nat.le_of_ble_eq_true rfl) ?_
  have hp := refPlace_ok t l ht
  have ho := fun (i : Nat) (hi : i < t.rows.length) => refOthers_ok a t i hi ht ha hl
  have hS : selfR a t c l = (decide (0 ≤ plaR t l) && (othBR a t (plaR t l).toNat && (othLR a t (plaR t l).toNat).all fun x => decide (x ∈ c) && !decide (x = l))) := rfl
  have hin := plaR_in t l
  generalize plaR t l = p at *
  simp only [raV, rtV] at hp ho
  simp [raV, rtV]
  refine CallK.intro hp (by simp) ?_
  rcases hin with rfl | ⟨i, hi, rfl⟩
  · simp [hS]
  have ho := ho i hi
  have hLl := othLR_le a t i hl
  rw [Int.toNat_natCast, decide_eq_true (by omega), Bool.true_and] at hS
  have c1 : ¬ (i : Int) < 0 := by omega
  generalize othLR a t i = L at *
  generalize othBR a t i = ok at *
  simp [c1]
  refine CallK.intro ho (by simp) ?_
  simp
  refine ALoop.intro (S := fun (j : Nat) => ⟨[(2, .pv (.seq false 1 (irow c))), (3, .pv (I64 l)), (10, .pv (.seq true 1 (irow L))), (11, .pv (BL ok)), (12, .pv (I64 j))], [[.pv (.seq false 5 (a.rows.map roR)), .pv (I64 a.size)], [.pv (I64 t.vars), .pv (.seq false 3 (t.rows.map enR)), .pv (I64 t.dep)]]⟩) (fun j => j ≤ L.length ∧ ∀ y (hy : y < L.length), y < j → L[y] ∈ c ∧ L[y] ≠ l) (fun j => L.length - j) 0 ?_ ⟨Nat.zero_le _, fun y _ h => absurd h (Nat.not_lt_zero _)⟩ ?_
  · exact Weak.to (by simp) (by simp) (by simp) (by simp) (by simp)
  rintro j ⟨hj, hall⟩
  by_cases h : j < L.length
  · have hw : w64 ((j : Int) + 1) = ((j + 1 : Nat) : Int) := by rw [w64_id (by omega) (by omega)]; omega
    simp [h]
    refine CallK.intro (refHas_ok c L[j] (by omega)) (by simp) ?_
    have hno : (L[j] ∉ c ∨ L[j] = l) → selfR a t c l = false := fun hh => by
      rw [hS]
      have : (L.all fun x => decide (x ∈ c) && !decide (x = l)) = false := by
        rw [List.all_eq_false]
        exact ⟨L[j], List.getElem_mem h, by rcases hh with hh | hh <;> simp [hh]⟩
      rw [this, Bool.and_false]
    by_cases d1 : L[j] ∈ c
    · by_cases d2 : L[j] = l
      · simp [h, d1, d2, hno (.inr d2)]
        try (rw [d2] at d1; simp [d1])
      · simp [h, d1, d2]
        refine ⟨j + 1, by (try dsimp only); omega, ⟨by (try dsimp only); omega, fun y hy hyj => ?_⟩, Weak.to (by simp [hw]) (by simp) (by simp) (by simp) (by simp)⟩
        by_cases e : y = j
        · subst e; exact ⟨d1, d2⟩
        · exact hall y hy (by omega)
    · simp [h, d1, hno (.inl d1)]
  · have hie : j = L.length := by omega
    subst hie
    have : (L.all fun x => decide (x ∈ c) && !decide (x = l)) = true := by
      rw [List.all_eq_true]
      intro x hx
      obtain ⟨y, hy, rfl⟩ := List.getElem_of_mem hx
      obtain ⟨q1, q2⟩ := hall y hy hy
      simp [q1, q2]
    rw [this, Bool.and_true] at hS
    simp [hS]
def stdR (t : RT) (c : List Int) (i : Nat) (x : Int) : Bool := (decide (x ∈ c) && decide (plR t (litV x) < i)) && decide (x ≠ w64 (-((t.rows.getD i default).l)))
def okP (t : RT) (c : List Int) (out : List Bool) (i : Nat) (x : Int) : Bool := stdR t c i x || (decide (0 ≤ plaR t x ∧ plaR t x < i) && out.getD (plaR t x).toNat false)
def okR (a : RA) (t : RT) (c : List Int) (out : List Bool) (i : Nat) : Bool := othBR a t i && (othLR a t i).all fun x => stdR t c i x || (decide (0 ≤ plaR t x ∧ plaR t x < i) && out.getD (plaR t x).toNat false)
/-- Of each literal of the trail up to a place, whether its opposite is deeply left over. -/
def allTo (a : RA) (t : RT) (c : List Int) : Nat → List Bool
  | 0 => []
  | i + 1 => allTo a t c i ++ [okR a t c (allTo a t c i) i]
def bR (b : Bool) : List PV := [BL b]
@[simp] theorem belowR_bR (k : Nat) : ∀ l : List Bool, belowR k (l.map bR)
  | [] => trivial
  | _ :: l => ⟨⟨trivial, trivial⟩, belowR_bR k l⟩
@[simp] theorem nwR_bR : ∀ l : List Bool, nwR (l.map bR)
  | [] => trivial
  | _ :: l => ⟨⟨trivial, trivial⟩, nwR_bR l⟩
@[simp] theorem frzR_bR (r : Nat → Nat → PV) : ∀ l : List Bool, frzR r (l.map bR) = l.map bR
  | [] => rfl
  | _ :: l => by rw [List.map_cons, frzR, frzR_bR r l]; rfl
theorem allTo_len (a : RA) (t : RT) (c : List Int) : ∀ n, (allTo a t c n).length = n
  | 0 => rfl
  | n + 1 => by rw [allTo, List.length_append, allTo_len a t c n]; rfl
set_option maxRecDepth 16000 in
theorem refAll_ok (a : RA) (t : RT) (c : List Int) (hc : c.length ≤ 1000000) (ht : t.rows.length ≤ 1000000) (ha : a.rows.length ≤ 1000000) (hl : ∀ x ∈ a.rows, x.lits.length ≤ 1000000) : APure Try.prog 52 [raV a, rtV t, .seq false 1 (irow c)] (fun r => r = .own true 1 ((allTo a t c t.rows.length).map bR)) := by
  refine apure1 hmo Try.func52 (by kernel_rfl) rfl rfl (by kernel_rfl) (Nat.le_of_ble_eq_true rfl) ?_
  have hpl := fun x => refPlace_ok t x ht
  have hpR := fun v => rfPlace_ok t v ht
  have ho := fun (i : Nat) (hi : i < t.rows.length) => refOthers_ok a t i hi ht ha hl
  have hLl := fun i => othLR_le a t i hl
  simp only [raV, rtV] at hpl hpR ho
  simp [raV, rtV]
  refine ALoop.intro (S := fun (i : Nat) => ⟨[(2, .pv (.seq false 1 (irow c))), (3, .pv (.ptr 0 0)), (4, .pv (.ptr 1 0)), (7, .own true 1 ((allTo a t c i).map bR)), (8, .pv (I64 i))], [[.pv (.seq false 5 (a.rows.map roR)), .pv (I64 a.size)], [.pv (I64 t.vars), .pv (.seq false 3 (t.rows.map enR)), .pv (I64 t.dep)]]⟩) (fun i => i ≤ t.rows.length) (fun i => t.rows.length - i) 0 ?_ (Nat.zero_le _) ?_
  · exact (Weak.nilOwn (s := 7) 1 true (by simp)).trans (Weak.to (by simp [allTo]) (by simp) (by simp) (by simp) (by simp))
  intro i hi
  by_cases h : i < t.rows.length
  rotate_left
  · have hie : i = t.rows.length := by omega
    subst hie
    simp
  have hw : w64 ((i : Int) + 1) = ((i + 1 : Nat) : Int) := by rw [w64_id (by omega) (by omega)]; omega
  have hol := allTo_len a t c i
  have hoi := ho i h
  have hLi := hLl i
  have hnext : allTo a t c (i + 1) = allTo a t c i ++ [othBR a t i && (othLR a t i).all (okP t c (allTo a t c i) i)] := rfl
  have hx : t.rows.getD i default = t.rows[i] := by rw [List.getD_eq_getElem?_getD, List.getElem?_eq_getElem h]; rfl
  generalize allTo a t c i = out at *
  generalize othLR a t i = L at *
  generalize othBR a t i = ok at *
  simp [h]
  refine CallK.intro hoi (by simp) ?_
  simp
  refine ALoop.intro (S := fun (k : Nat) => ⟨[(2, .pv (.seq false 1 (irow c))), (3, .pv (.ptr 0 0)), (4, .pv (.ptr 1 0)), (7, .own true 1 (out.map bR)), (8, .pv (I64 i)), (9, .pv (.seq true 1 (irow L))), (10, .pv (BL (ok && (L.take k).all (okP t c out i)))), (11, .pv (I64 k))], [[.pv (.seq false 5 (a.rows.map roR)), .pv (I64 a.size)], [.pv (I64 t.vars), .pv (.seq false 3 (t.rows.map enR)), .pv (I64 t.dep)]]⟩) (fun k => k ≤ L.length) (fun k => L.length - k) 0 ?_ (Nat.zero_le _) ?_
  · exact Weak.to (by simp) (by simp) (by simp) (by simp) (by simp)
  intro k hk
  by_cases hkl : k < L.length
  rotate_left
  · have hie : k = L.length := by omega
    subst hie
    simp [h, hol]
    refine ⟨by omega, ⟨i + 1, by (try dsimp only); omega, by (try dsimp only); omega, Weak.to (by simp [hw, hnext, bR]) (by simp) (by simp) (by simp) (by simp)⟩⟩
  have hw1 : w64 ((k : Int) + 1) = ((k + 1 : Nat) : Int) := by rw [w64_id (by omega) (by omega)]; omega
  have hacc1 : (ok && (L.take (k + 1)).all (okP t c out i)) = ((ok && (L.take k).all (okP t c out i)) && okP t c out i L[k]) := by
    rw [List.take_add_one, List.getElem?_eq_getElem hkl, Option.toList_some, List.all_append]
    simp [Bool.and_assoc]
  generalize hacc : (ok && (L.take k).all (okP t c out i)) = acc at *
  have hpk := hpl L[k]
  have hvk := hpR (litV L[k])
  have hok : okP t c out i L[k] = (((decide (L[k] ∈ c) && decide (plR t (litV L[k]) < i)) && decide (L[k] ≠ w64 (-t.rows[i].l))) || (decide (0 ≤ plaR t L[k] ∧ plaR t L[k] < i) && out.getD (plaR t L[k]).toNat false)) := by unfold okP stdR; rw [hx]
  have hpin := plaR_in t L[k]
  generalize okP t c out i L[k] = okk at *
  have hA : plaR t L[k] = -1 ∨ ∃ q : Nat, plaR t L[k] = q ∧ (i ≤ q ∨ ∃ hq : q < out.length, q < i) := by
    rcases hpin with e | ⟨q, _, e⟩
    · exact .inl e
    · refine .inr ⟨q, e, ?_⟩
      by_cases d : q < i
      · exact .inr ⟨by omega, d⟩
      · exact .inl (by omega)
  generalize plaR t L[k] = p at *
  generalize plR t (litV L[k]) = v at *
  rcases hA with rfl | ⟨q, rfl, hq | ⟨hq1, hq2⟩⟩
  · have e0 : decide ((0 : Int) ≤ -1 ∧ (-1 : Int) < (i : Int)) = false := decide_eq_false (by omega)
    rw [e0, Bool.false_and, Bool.or_false] at hok
    simp [hkl]
    refine CallQ0.intro hpk (by simp) ?_
    simp [hkl]
    refine CallK.intro (refSplit_ok L[k]) (by simp) ?_
    simp [hkl]
    refine CallQ0.intro (refHas_ok c L[k] (by omega)) (by simp) ?_
    simp [hkl, h]
    refine CallQ.intro (fun _ => hvk) (by simp) ?_
    simp [hkl, h, enR]
    exact ⟨fun h => ⟨h, fun g => ⟨h, g⟩⟩, k + 1, by (try dsimp only); omega, by (try dsimp only); omega, Weak.to (by simp [hw1, hacc1, hok]) (by simp) (by simp) (by simp) (by simp)⟩
  · have hn : ¬ q < i := by omega
    have e0 : decide ((0 : Int) ≤ (q : Int) ∧ (q : Int) < (i : Int)) = false := decide_eq_false (by omega)
    rw [e0, Bool.false_and, Bool.or_false] at hok
    simp [hkl]
    refine CallQ0.intro hpk (by simp) ?_
    simp [hkl]
    refine CallK.intro (refSplit_ok L[k]) (by simp) ?_
    simp [hkl]
    refine CallQ0.intro (refHas_ok c L[k] (by omega)) (by simp) ?_
    simp [hkl, h]
    refine CallQ.intro (fun _ => hvk) (by simp) ?_
    simp [hkl, h, enR, hn]
    exact ⟨fun h => ⟨h, fun g => ⟨h, g⟩⟩, k + 1, by (try dsimp only); omega, by (try dsimp only); omega, Weak.to (by simp [hw1, hacc1, hok]) (by simp) (by simp) (by simp) (by simp)⟩
  · have e0 : decide ((0 : Int) ≤ (q : Int) ∧ (q : Int) < (i : Int)) = true := decide_eq_true (by omega)
    rw [e0, Bool.true_and, Int.toNat_natCast, List.getD_eq_getElem?_getD, List.getElem?_eq_getElem hq1, Option.getD_some] at hok
    simp [hkl]
    refine CallQ0.intro hpk (by simp) ?_
    simp [hkl]
    refine CallK.intro (refSplit_ok L[k]) (by simp) ?_
    simp [hkl]
    refine CallQ0.intro (refHas_ok c L[k] (by omega)) (by simp) ?_
    simp [hkl, h]
    refine CallQ.intro (fun _ => hvk) (by simp) ?_
    simp [hkl, h, enR, hq1, hq2, bR]
    exact ⟨fun h => ⟨h, fun g => ⟨h, g⟩⟩, k + 1, by (try dsimp only); omega, by (try dsimp only); omega, Weak.to (by simp [hw1, hacc1, hok, bR]) (by simp) (by simp) (by simp) (by simp)⟩
def deepR (a : RA) (t : RT) (c : List Int) (l : Int) : Bool := decide (0 ≤ plaR t l) && (allTo a t c t.rows.length).getD (plaR t l).toNat false
def shoR (a : RA) (t : RT) (c : List Int) : List Int := c.take 1 ++ (c.drop 1).filter fun x => !deepR a t c x
set_option maxRecDepth 16000 in
theorem refDeep_ok (a : RA) (t : RT) (c : List Int) (l : Int) (hc : c.length ≤ 1000000) (ht : t.rows.length ≤ 1000000) (ha : a.rows.length ≤ 1000000) (hl : ∀ x ∈ a.rows, x.lits.length ≤ 1000000) : APure Try.prog 17 [raV a, rtV t, .seq false 1 (irow c), I64 l] (fun r => r = .pv (BL (deepR a t c l))) := by
  refine apure1 hmo Try.func17 (by kernel_rfl) rfl rfl (by kernel_rfl) (Nat.le_of_ble_eq_true rfl) ?_
  have hp := refPlace_ok t l ht
  have hA := refAll_ok a t c hc ht ha hl
  have hD : deepR a t c l = (decide (0 ≤ plaR t l) && (allTo a t c t.rows.length).getD (plaR t l).toNat false) := rfl
  have hin := plaR_in t l
  have hol := allTo_len a t c t.rows.length
  generalize allTo a t c t.rows.length = out at *
  generalize plaR t l = p at *
  simp only [raV, rtV] at hp hA
  simp [raV, rtV]
  refine CallK.intro hp (by simp) ?_
  rcases hin with rfl | ⟨i, hi, rfl⟩
  · simp [hD]
    refine CallG.intro (fun h : False => h.elim) (r := .own true 1 []) (by simp) ?_
    simp
  · have hio : i < out.length := by omega
    rw [Int.toNat_natCast, decide_eq_true (by omega), Bool.true_and, List.getD_eq_getElem?_getD, List.getElem?_eq_getElem hio, Option.getD_some] at hD
    have h0 : ¬ (i : Int) < 0 := by omega
    simp [hD, h0]
    refine CallG.intro (fun _ => hA) (by simp) ?_
    simp [hio, bR]
def shoTo (a : RA) (t : RT) (c : List Int) : Nat → List Int
  | 0 => []
  | i + 1 => if i = 0 ∨ deepR a t c (c.getD i 0) = false then shoTo a t c i ++ [c.getD i 0] else shoTo a t c i
theorem shoTo_is (a : RA) (t : RT) (c : List Int) : ∀ i, 1 ≤ i → i ≤ c.length → shoTo a t c i = c.take 1 ++ ((c.take i).drop 1).filter fun x => !deepR a t c x
  | 0, h, _ => absurd h (by omega)
  | i + 1, _, hi => by
    have hlt : i < c.length := by omega
    have hg : c.getD i 0 = c[i] := by rw [List.getD_eq_getElem?_getD, List.getElem?_eq_getElem hlt]; rfl
    rw [shoTo, hg]
    by_cases e : i = 0
    · subst e
      rw [if_pos (.inl rfl)]
      cases c with
      | nil => simp at hlt
      | cons x r => simp [shoTo]
    · have ih := shoTo_is a t c i (by omega) (by omega)
      have ht : (c.take (i + 1)).drop 1 = (c.take i).drop 1 ++ [c[i]] := by
        rw [← List.take_append_getElem hlt, List.drop_append_of_le_length (by rw [List.length_take]; omega)]
      rw [ih, ht, List.filter_append]
      cases d : deepR a t c c[i]
      · rw [if_pos (.inr rfl)]; simp [d]
      · rw [if_neg (by simp [e])]; simp [d]
theorem shoTo_shoR (a : RA) (t : RT) (c : List Int) : shoTo a t c c.length = shoR a t c := by
  by_cases e : c.length = 0
  · have : c = [] := List.eq_nil_of_length_eq_zero e
    subst this
    rfl
  · rw [shoTo_is a t c c.length (by omega) (Nat.le_refl _), List.take_length]
    rfl
theorem shoTo_len (a : RA) (t : RT) (c : List Int) : ∀ i, (shoTo a t c i).length ≤ i
  | 0 => Nat.le_refl _
  | i + 1 => by
    have := shoTo_len a t c i
    rw [shoTo]
    split
    · simp; omega
    · omega
set_option maxRecDepth 16000 in
theorem refShorten_ok (a : RA) (t : RT) (c : List Int) (hc : c.length ≤ 1000000) (ht : t.rows.length ≤ 1000000) (ha : a.rows.length ≤ 1000000) (hl : ∀ x ∈ a.rows, x.lits.length ≤ 1000000) : APure Try.prog 18 [raV a, rtV t, .seq false 1 (irow c)] (fun r => r = .own true 1 (irow (shoR a t c))) := by
  refine apure1 hmo Try.func18 (by kernel_rfl) rfl rfl (by kernel_rfl) (Nat.le_of_ble_eq_true rfl) ?_
  have hd := fun x => refDeep_ok a t c x hc ht ha hl
  rw [← shoTo_shoR]
  simp only [raV, rtV] at hd
  simp [raV, rtV]
  refine ALoop.intro (S := fun (i : Nat) => ⟨[(2, .pv (.seq false 1 (irow c))), (3, .pv (.ptr 0 0)), (4, .pv (.ptr 1 0)), (7, .own true 1 (irow (shoTo a t c i))), (8, .pv (I64 i))], [[.pv (.seq false 5 (a.rows.map roR)), .pv (I64 a.size)], [.pv (I64 t.vars), .pv (.seq false 3 (t.rows.map enR)), .pv (I64 t.dep)]]⟩) (fun i => i ≤ c.length) (fun i => c.length - i) 0 ?_ (Nat.zero_le _) ?_
  · exact (Weak.nilOwn (s := 7) 1 true (by simp)).trans (Weak.to (by simp [irow, shoTo]) (by simp) (by simp) (by simp) (by simp))
  intro i hi
  by_cases h : i < c.length
  rotate_left
  · have hie : i = c.length := by omega
    subst hie
    simp
  have hw : w64 ((i : Int) + 1) = ((i + 1 : Nat) : Int) := by rw [w64_id (by omega) (by omega)]; omega
  have hg : c.getD i 0 = c[i] := by rw [List.getD_eq_getElem?_getD, List.getElem?_eq_getElem h]; rfl
  have hnext : shoTo a t c (i + 1) = if i = 0 ∨ deepR a t c c[i] = false then shoTo a t c i ++ [c[i]] else shoTo a t c i := by rw [shoTo, hg]
  have hlen := shoTo_len a t c i
  have hdi := hd c[i]
  generalize shoTo a t c i = out at *
  generalize deepR a t c c[i] = db at *
  by_cases e : i = 0
  · rw [if_pos (.inl e)] at hnext
    subst e
    simp [h]
    refine CallQ.intro (fun h : False => h.elim) (r := .pv (BL false)) (by simp) ?_
    simp [h]
    have hn1 : shoTo a t c 1 = out ++ [c[0]] := hnext
    exact ⟨by omega, 1, by (try dsimp only); omega, by (try dsimp only); omega, Weak.to (by simp [hw, irow, hn1, show w64 1 = 1 by decide]) (by simp) (by simp) (by simp) (by simp)⟩
  · have e' : ¬ (i : Int) = 0 := by omega
    simp [h, e]
    refine CallQ.intro (fun _ => hdi) (by simp) ?_
    cases db
    · rw [if_pos (.inr rfl)] at hnext
      simp [h]
      exact ⟨by omega, i + 1, by (try dsimp only); omega, by (try dsimp only); omega, Weak.to (by simp [hw, irow, hnext]) (by simp) (by simp) (by simp) (by simp)⟩
    · rw [if_neg (by simp [e])] at hnext
      simp [h]
      exact ⟨i + 1, by (try dsimp only); omega, by (try dsimp only); omega, Weak.to (by simp [hw, hnext]) (by simp) (by simp) (by simp) (by simp)⟩
end Go.AX

namespace Go.AX
open Go.Proofs
set_option linter.unusedSimpArgs false

theorem findA_is {A : Ar} {a : RA} (h : RelA A a) (q : Int) : (isA A q = true → 0 ≤ findA a q ∧ litsD a q = litsA A q) ∧ (isA A q = false → findA a q < 0) := by
  constructor
  · intro hq
    unfold litsD
    unfold findA idxS
    split
    · rename_i j hj
      rw [List.findIdx?_eq_some_iff_getElem] at hj
      obtain ⟨h1, h2, _⟩ := hj
      obtain ⟨_, r2⟩ := relA_lits h (List.getElem_mem h1)
      have e : a.rows[j].at' = q := by simpa using h2
      rw [e] at r2
      refine ⟨by omega, ?_⟩
      rw [Int.toNat_natCast, List.getD_eq_getElem?_getD, List.getElem?_eq_getElem h1]
      exact r2.symm
    · rename_i hj
      rw [List.findIdx?_eq_none_iff] at hj
      obtain ⟨x, hx, e⟩ := h.is q hq
      have := hj x hx
      simp [e] at this
  · intro hq
    unfold findA idxS
    split
    · rename_i j hj
      rw [List.findIdx?_eq_some_iff_getElem] at hj
      obtain ⟨h1, h2, _⟩ := hj
      obtain ⟨r1, _⟩ := relA_lits h (List.getElem_mem h1)
      have e : a.rows[j].at' = q := by simpa using h2
      rw [e, hq] at r1
      cases r1
    · omega
theorem litV_neg (l : Int) : litV (-l) = litV l := by
  unfold litV
  rw [okL_neg]
  unfold absS
  split
  · split <;> split <;> omega
  · rfl
theorem litChk_neg6 {l : Int} (h : litChk l 6 = 0) : litChk (-l) 6 = 0 := by
  obtain ⟨a, b, c⟩ := (litChk_zero (by omega)).1 h
  exact (litChk_zero (by omega)).2 ⟨by omega, by omega, by omega⟩
/-- A literal whose opposite stands on the trail fails. -/
theorem valT_at {D : DK} (h : RelT D.T D.t) {l : Int} (hl : litChk l 6 = 0) {i : Nat} (hi : i < D.t.rows.length) (hp : plR D.t (litV l) = i) : (D.t.rows[i].l = -l ∧ valT D.T l = -1) ∨ (D.t.rows[i].l = l ∧ valT D.T l = 1) := by
  have hlen : ((D.T.marks.length : Nat) : Int) - 1 = 6 := by rw [h.len]; rfl
  have hmk := h.mark _ i hi hp
  obtain ⟨j, hj, p1, p2⟩ := plR_in (t := D.t) (v := litV l) (by omega)
  have hji : j = i := by omega
  subst hji
  obtain ⟨_, _, r0, _, _, v1⟩ := litV_ok6 (h.ok _ (List.getElem_mem hi)).1
  obtain ⟨_, _, l0, _, _, v2⟩ := litV_ok6 hl
  rw [v1, v2] at p2
  unfold valT
  rw [hlen, hmk, if_neg (fun e => e hl)]
  unfold absS at p2
  dsimp only
  have w1 : w64 (-1) = -1 := by decide
  have w2 : w64 (- -1) = 1 := by decide
  by_cases e1 : l < 0
  · rw [if_pos e1] at p2 ⊢
    by_cases e2 : D.t.rows[j].l < 0
    · rw [if_pos e2] at p2 ⊢; rw [w2]; exact .inr ⟨by omega, rfl⟩
    · rw [if_neg e2] at p2 ⊢; rw [w1]; exact .inl ⟨by omega, rfl⟩
  · rw [if_neg e1] at p2 ⊢
    by_cases e2 : D.t.rows[j].l < 0
    · rw [if_pos e2] at p2 ⊢; exact .inl ⟨by omega, rfl⟩
    · rw [if_neg e2] at p2 ⊢; exact .inr ⟨by omega, rfl⟩
theorem valT_none {D : DK} (h : RelT D.T D.t) {l : Int} (hv : valT D.T l ≠ 0) : litChk l 6 = 0 ∧ ∃ i, ∃ hi : i < D.t.rows.length, plR D.t (litV l) = i := by
  have hlen : ((D.T.marks.length : Nat) : Int) - 1 = 6 := by rw [h.len]; rfl
  unfold valT at hv
  rw [hlen] at hv
  by_cases c : litChk l 6 = 0
  · refine ⟨c, ?_⟩
    rw [if_neg (fun e => e c)] at hv
    by_cases d : 0 ≤ plR D.t (litV l)
    · obtain ⟨i, hi, e, _⟩ := plR_in d
      exact ⟨i, hi, e⟩
    · rw [h.free _ (by omega)] at hv
      have w0 : w64 (-0) = 0 := by decide
      split at hv
      · exact absurd w0 hv
      · exact absurd rfl hv
  · rw [if_pos c] at hv
    exact absurd rfl hv
theorem oth_same {D : DK} (h : DeskOk D) {l : Int} (hl : litChk l 6 = 0) {i : Nat} (hi : i < D.t.rows.length) (hp : plR D.t (litV l) = i) (he : D.t.rows[i].l = -l) : othBR D.a D.t i = othB D.A D.T l ∧ othLR D.a D.t i = othL D.A D.T l := by
  have hv : valT D.T l = -1 := by
    rcases valT_at h.rel.1 hl hi hp with h1 | h1
    · exact h1.2
    · obtain ⟨l0, _⟩ := lit6 hl
      omega
  have hx : D.t.rows.getD i default = D.t.rows[i] := by rw [List.getD_eq_getElem?_getD, List.getElem?_eq_getElem hi]; rfl
  have hrea : (ofT D.T (litV l)).1.rea = D.t.rows[i].rea := by
    rw [(relT_of h.rel.1 _).2.1]
    unfold ofR
    rw [if_neg (by omega), hp, Int.toNat_natCast, hx]
  obtain ⟨_, _, _, _, w⟩ := lit6 hl
  have hhas : ∀ L : List Int, hasS L (w64 (-l)) = decide (D.t.rows[i].l ∈ L) := fun L => by
    unfold hasS
    rw [w, okL_neg]
    have : okL l = true := by
      obtain ⟨a, b, c⟩ := (litChk_zero (by omega)).1 hl
      exact (okL_iff l).2 ⟨a, by omega, by omega⟩
    rw [this, he]
    rfl
  have hBB : othBR D.a D.t i = othB D.A D.T l := by
    unfold othBR othB
    rw [hx, hrea, hv, hhas]
    obtain ⟨f1, f2⟩ := findA_is h.relA D.t.rows[i].rea
    cases hq : isA D.A D.t.rows[i].rea
    · have e1 : litsA D.A D.t.rows[i].rea = [] := by unfold litsA; rw [hq]; rfl
      rw [e1, decide_eq_true (f2 hq)]
      simp
    · obtain ⟨g1, g2⟩ := f1 hq
      rw [g2, decide_eq_false (p := findA D.a D.t.rows[i].rea < 0) (by omega)]
      simp
  refine ⟨hBB, ?_⟩
  unfold othLR othL
  rw [hBB]
  cases hb : othB D.A D.T l
  · rfl
  · simp only [if_true]
    rw [hx, hrea]
    have hq : isA D.A D.t.rows[i].rea = true := by
      cases hq : isA D.A D.t.rows[i].rea
      · have e1 : litsA D.A D.t.rows[i].rea = [] := by unfold litsA; rw [hq]; rfl
        unfold othB at hb
        rw [hrea, e1, hhas] at hb
        simp at hb
      · rfl
    rw [((findA_is h.relA _).1 hq).2]
    apply List.filter_congr
    intro x _
    unfold othP lowS
    rw [hx, (relT_of h.rel.1 _).1, w, he]
    simp
theorem std_same {D : DK} (h : DeskOk D) (c : List Int) {l : Int} (hl : litChk l 6 = 0) {i : Nat} (hi : i < D.t.rows.length) (hp : plR D.t (litV l) = i) (he : D.t.rows[i].l = -l) (x : Int) : stdR D.t c i x = stanS D.T c l x := by
  have hx : D.t.rows.getD i default = D.t.rows[i] := by rw [List.getD_eq_getElem?_getD, List.getElem?_eq_getElem hi]; rfl
  obtain ⟨_, _, _, _, w⟩ := lit6 (litChk_neg6 hl)
  unfold stdR stanS
  rw [hx, he, w, Int.neg_neg]
  have e1 : plaT D.T x = plR D.t (litV x) := (relT_of h.rel.1 _).2.2
  have e2 : plaT D.T l = i := by rw [← hp]; exact (relT_of h.rel.1 _).2.2
  rw [e1, e2]
  by_cases a1 : x = l <;> by_cases a2 : x ∈ c <;> simp [a1, a2]
theorem allTo_at (a : RA) (t : RT) (c : List Int) {p : Nat} : ∀ n, p < n → (allTo a t c n).getD p false = okR a t c (allTo a t c p) p
  | 0, h => absurd h (Nat.not_lt_zero _)
  | n + 1, h => by
    have hl := allTo_len a t c n
    rw [allTo]
    by_cases e : p = n
    · subst e
      rw [List.getD_eq_getElem?_getD, List.getElem?_append_right (by omega), hl, Nat.sub_self]
      rfl
    · have := allTo_at a t c (p := p) n (by omega)
      rw [List.getD_eq_getElem?_getD] at this ⊢
      rw [List.getElem?_append_left (by omega)]
      exact this
theorem range6 {x : Int} (h : litChk x 6 = 0) : -9223372036854775808 ≤ x ∧ x ≤ 9223372036854775807 := by
  obtain ⟨_, b, c⟩ := (litChk_zero (by omega)).1 h
  omega
theorem deepV_no {A : Ar} {T : Tr} {c : List Int} {x : Int} (h : 0 ≤ valT T x) : deepV A T c x = false := by
  rw [deepV_step]
  unfold othB
  rw [decide_eq_true h]
  rfl
theorem all_deep {D : DK} (h : DeskOk D) (c : List Int) : ∀ (N : Nat) (l : Int) (i : Nat) (hi : i < D.t.rows.length), i < N → litChk l 6 = 0 → plR D.t (litV l) = i → D.t.rows[i].l = -l → okR D.a D.t c (allTo D.a D.t c i) i = deepV D.A D.T c l
  | 0, _, _, _, hN, _, _, _ => absurd hN (Nat.not_lt_zero _)
  | N + 1, l, i, hi, hN, hl, hp, he => by
    obtain ⟨e1, e2⟩ := oth_same h hl hi hp he
    have hpl : plaT D.T l = i := by rw [← hp]; exact (relT_of h.rel.1 _).2.2
    rw [deepV_step]
    unfold okR
    rw [e1, e2]
    congr 1
    rw [Bool.eq_iff_iff, List.all_eq_true, List.all_eq_true]
    have key : ∀ x ∈ othL D.A D.T l, (stdR D.t c i x || (decide (0 ≤ plaR D.t x ∧ plaR D.t x < i) && (allTo D.a D.t c i).getD (plaR D.t x).toNat false)) = deepP D.A D.T c l x := by
      intro x hx
      obtain ⟨q1, q2, q3, _⟩ := oth_ahead h hx
      have hxp : plaT D.T x = plR D.t (litV x) := (relT_of h.rel.1 _).2.2
      unfold deepP
      rw [std_same h c hl hi hp he, decide_eq_true (p := 0 ≤ plaT D.T x ∧ plaT D.T x < plaT D.T l) ⟨q2, q3⟩, Bool.true_and]
      congr 1
      have hval := relT_val h.rel.1 (range6 q1)
      unfold plaR
      rw [← hval]
      obtain ⟨j, hj, p1, p2⟩ := plR_in (t := D.t) (v := litV x) (by omega)
      rcases valT_at h.rel.1 q1 hj p1 with ⟨v1, v2⟩ | ⟨v1, v2⟩
      · rw [if_pos v2, p1, decide_eq_true ⟨by omega, by omega⟩, Bool.true_and, Int.toNat_natCast, allTo_at D.a D.t c i (by omega)]
        exact all_deep h c N x j hj (by omega) q1 p1 v1
      · rw [v2, if_neg (by omega), deepV_no (by omega)]
        rfl
    constructor
    · intro hh x hx; rw [← key x hx]; exact hh x hx
    · intro hh x hx; rw [key x hx]; exact hh x hx
theorem deep_same {D : DK} (h : DeskOk D) (c : List Int) {l : Int} (hr : -9223372036854775808 ≤ l ∧ l ≤ 9223372036854775807) : deepR D.a D.t c l = deepQ D.A D.T c l := by
  have hval := relT_val h.rel.1 hr
  unfold deepR plaR
  rw [← hval]
  unfold deepQ deepB
  by_cases hv : valT D.T l = -1
  · obtain ⟨hl, i, hi, hp⟩ := valT_none h.rel.1 (l := l) (by omega)
    have he : D.t.rows[i].l = -l := by
      rcases valT_at h.rel.1 hl hi hp with h1 | h1
      · exact h1.1
      · omega
    have hpl : plaT D.T l = i := by rw [← hp]; exact (relT_of h.rel.1 _).2.2
    rw [if_pos hv, hp, hpl, Int.toNat_natCast, allTo_at D.a D.t c _ hi, all_deep h c (i + 1) l i hi (by omega) hl hp he]
    have : D.T.lits.length = D.t.rows.length := by rw [h.rel.1.lits, List.length_map]
    rw [this, decide_eq_true (p := (0 : Int) ≤ i) (by omega), decide_eq_true (p := (0 : Int) ≤ i ∧ (i : Int) < D.t.rows.length) ⟨by omega, by omega⟩]
  · rw [if_neg hv]
    have : deepV D.A D.T c l = false := by
      by_cases hz : valT D.T l = 0
      · exact deepV_no (by omega)
      · obtain ⟨hl, i, hi, hp⟩ := valT_none h.rel.1 hz
        rcases valT_at h.rel.1 hl hi hp with h1 | h1
        · exact absurd h1.2 hv
        · exact deepV_no (by omega)
    rw [this, Bool.and_false]
    rfl
theorem self_same {D : DK} (h : DeskOk D) (c : List Int) {l : Int} (hr : -9223372036854775808 ≤ l ∧ l ≤ 9223372036854775807) : selfR D.a D.t c l = selfS D.A D.T c l := by
  have hval := relT_val h.rel.1 hr
  unfold selfR plaR
  rw [← hval]
  unfold selfS
  by_cases hv : valT D.T l = -1
  · obtain ⟨hl, i, hi, hp⟩ := valT_none h.rel.1 (l := l) (by omega)
    have he : D.t.rows[i].l = -l := by
      rcases valT_at h.rel.1 hl hi hp with h1 | h1
      · exact h1.1
      · omega
    obtain ⟨e1, e2⟩ := oth_same h hl hi hp he
    rw [if_pos hv, hp, Int.toNat_natCast, e1, e2, decide_eq_true (p := (0 : Int) ≤ i) (by omega), Bool.true_and]
    congr 1
    rw [List.not_any_eq_all_not]
    congr 1
    funext x
    by_cases a1 : x = l <;> by_cases a2 : x ∈ c <;> simp [a1, a2]
  · rw [if_neg hv]
    have : othB D.A D.T l = false := by
      by_cases hz : valT D.T l = 0
      · unfold othB; rw [decide_eq_true (by omega)]; rfl
      · obtain ⟨hl, i, hi, hp⟩ := valT_none h.rel.1 hz
        rcases valT_at h.rel.1 hl hi hp with h1 | h1
        · exact absurd h1.2 hv
        · unfold othB; rw [decide_eq_true (by omega)]; rfl
    rw [this]
    rfl
theorem sho_same {D : DK} (h : DeskOk D) {c : List Int} (hr : ∀ l ∈ c, -9223372036854775808 ≤ l ∧ l ≤ 9223372036854775807) : shoR D.a D.t c = shoS D.A D.T c := by
  unfold shoR shoS delS
  congr 1
  apply List.filter_congr
  intro x hx
  rw [deep_same h c (hr x (List.mem_of_mem_drop hx))]
end Go.AX

namespace Go.AX
open Go.Proofs
set_option linter.unusedSimpArgs false

theorem RelA.few {cs : List (List Int)} (hc : fewC cs) (l : List Int) : (setS cs l).a.rows.length ≤ 1000000 ∧ ∀ x ∈ (setS cs l).a.rows, x.lits.length ≤ 1000000 := by
  obtain ⟨_, ha⟩ := setL_A (putL cs cs.length).rows (putL cs cs.length).ats l (begD (putL cs cs.length)) l.length
  have ha' : (setS cs l).a = (putL cs cs.length).a := ha
  have hp := putL_ok hc cs.length (Nat.le_refl _)
  have hlen := (setS_ok hc l).len
  have hrel := (setS_ok hc l).relA
  refine ⟨?_, fun x hx => ?_⟩
  · rw [ha']; have := hp.rlen; have := hc.1; omega
  · obtain ⟨p, _, e2, _⟩ := hrel.rows x hx
    have := e2.len
    omega
set_option maxRecDepth 16000 in
theorem shortenTells_ok (cs : List (List Int)) (l c : List Int) (hr : ∀ x ∈ c, -9223372036854775808 ≤ x ∧ x ≤ 9223372036854775807) : APure Try.prog 4 [.seq false 1 (cs.map crowF), .seq false 1 (irow l), .seq false 1 (irow c)] (fun r => r = .pv (.lit (.bool true))) := by
  refine apure1 hmo Try.func4 (by kernel_rfl) rfl rfl (by kernel_rfl) (Nat.le_of_ble_eq_true rfl) ?_
  simp
  refine CallK.intro (few16_ok cs l c) (by simp) ?_
  cases hf : few16 cs l c
  · simp
    refine CallK.intro shAwake_ok (by simp) ?_
    simp
  obtain ⟨f1, f2, f3⟩ := few16_few hf
  have hset := dset_ok [] cs l f1 (by omega)
  have hok := setS_ok f1 l
  obtain ⟨ha1, ha2⟩ := RelA.few f1 l
  generalize setS cs l = D at *
  have hs := hok.sh (c := c) (by omega)
  have hlf := hok.rel.lits_few
  have htf : D.t.rows.length ≤ 1000000 := by have := hok.rel.1.few; omega
  have g1 := shorten_ok D.A D.T c hs hlf
  have g2 := refShorten_ok D.a D.t c (by omega) htf ha1 ha2
  rw [sho_same hok hr] at g2
  have slf := fun (x : Int) => self_ok D.A D.T c x (by omega) hs.tr hs.ar hs.len (hs.hd _)
  have dpf := fun (x : Int) => deepE_ok D.A D.T c x hs hlf
  have slr := fun (x : Int) (hx : x ∈ c) => by
    have := refSelf_ok D.a D.t c x (by omega) htf ha1 ha2
    rw [self_same hok c (hr x hx)] at this
    exact this
  have dpr := fun (x : Int) (hx : x ∈ c) => by
    have := refDeep_ok D.a D.t c x (by omega) htf ha1 ha2
    rw [deep_same hok c (hr x hx)] at this
    exact this
  simp only [raV, rtV] at slr dpr g2
  have hsl := (shoS_sub D.A D.T c).length_le
  have hS2 := sameInts_ok (shoS D.A D.T c) (shoS D.A D.T c) (by omega)
  have hS3 := sameInts_ok (sumS c cs cs.length) (sumS c cs cs.length) (by have := sumS_len c cs cs.length; have := f1.1; omega)
  have hm1 := subsumes_ok c cs (by omega) f1
  have hm2 := refSubsumes_ok c cs (by omega) f1
  have hf : ∀ a b c d, frzP [a, b, c, trB D.T, d] 3 3 0 = trP D.T := fun a b c d => frz_tr0 rfl 2
  have hfa : ∀ a b c d, frzP [a, arB D.A, b, c, d] 3 1 0 = arP D.A := fun a b c d => frz_ar0 rfl 2
  simp
  refine CallK.introM hset (by simp) ?_
  rintro _ _ ⟨rfl, rfl⟩
  simp [dkA, dkB]
  refine ALoop.intro (S := fun (i : Nat) => ⟨[(0, .pv (.seq false 1 (cs.map crowF))), (2, .pv (.seq false 1 (irow c))), (7, .pv (.ptr 4 0)), (9, .pv (I64 i))], dkBs D⟩) (fun i => i ≤ c.length) (fun i => c.length - i) 0 ?_ (Nat.zero_le _) ?_
  · exact Weak.keep (by simp) (by simp [dkBs])
  intro j hj
  by_cases cj : j < c.length
  · have hw1 : w64 ((j : Int) + 1) = ((j + 1 : Nat) : Int) := by rw [w64_id (by omega) (by omega)]; omega
    have hmem := List.getElem_mem cj
    have s1 := slf c[j]
    have s2 := slr c[j] hmem
    have d1 := dpf c[j]
    have d2 := dpr c[j] hmem
    generalize selfS D.A D.T c c[j] = sb at *
    generalize deepQ D.A D.T c c[j] = db at *
    simp [cj, dkBs]
    rw [hf, hfa]
    refine CallQ0.intro s1 (by simp) ?_
    simp [cj]
    refine CallQ0.intro s2 (by simp) ?_
    simp [cj]
    rw [hf, hfa]
    refine CallQ.intro (fun _ => d1) (by simp) ?_
    simp [cj]
    refine CallQ.intro (fun _ => d2) (by simp) ?_
    simp [cj]
    exact ⟨j + 1, by (try dsimp only); omega, by (try dsimp only); omega, Weak.keep (by simp [hw1]) (by simp)⟩
  · simp [cj, dkBs]
    rw [hf, hfa]
    refine CallQ0.intro g1 (by simp) ?_
    simp
    refine CallQ0.intro g2 (by simp) ?_
    simp
    refine CallQ0.intro hS2 (by simp) ?_
    simp
    refine CallQ.intro (fun _ => hm1) (by simp) ?_
    simp
    refine CallQ.intro (fun _ => hm2) (by simp) ?_
    simp
    refine CallQ.intro (fun _ => hS3) (by simp) ?_
    simp
    refine CallQ.intro (fun _ => shAwake_ok) (by simp) ?_
    simp
end Go.AX
