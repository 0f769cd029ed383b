/-
  Contracts: which clauses a clause is part of; whether all of a clause fails; the probe of the layer shorten.
  Each reason of a desk is a clause, all others of which fail by what stands ahead (plain law).
  What is left over, of a desk: it is deeply left over; made shorter again it is the same (plain law).
  Contracts: the probe of the layer shorten.
  The law's contract: ShortenMinimal.
-/
import Derived.Test.YtjhchangnkmedaaS6AxShE
import Derived.Test.YtjhchangnkmedaaS6AxGlI
namespace Go.AX
open Go.Proofs
set_option linter.unusedSimpArgs false

theorem shortenN_ok (lits : List Int) (hl : lits.length ≤ 1000000) : APure Try.prog 11 [.lit (.pointer none), .lit (.pointer none), .seq false 1 (irow lits)] (fun r => r = .own true 1 (irow lits)) := by
  refine apure1B [6] hmo Try.func11 (by kernel_rfl) rfl rfl (by kernel_rfl) (Nat.le_of_ble_eq_true rfl) ?_
  simp
  refine CallK.intro (clone_ok lits hl) (by simp) ?_
  simp
/-- The places of the clauses of which a clause is part. -/
def sumS (short : List Int) (cs : List (List Int)) : Nat → List Int
  | 0 => []
  | i + 1 => if subS short (cs.getD i []) = true then sumS short cs i ++ [(i : Int)] else sumS short cs i
theorem sumS_len (short : List Int) (cs : List (List Int)) : ∀ i, (sumS short cs i).length ≤ i
  | 0 => Nat.le_refl _
  | i + 1 => by
    have := sumS_len short cs i
    rw [sumS]
    split
    · simp; omega
    · omega
theorem sumS_at (short : List Int) (cs : List (List Int)) {i : Nat} (h : i < cs.length) : sumS short cs (i + 1) = if subS short cs[i] = true then sumS short cs i ++ [(i : Int)] else sumS short cs i := by
  rw [sumS, List.getD_eq_getElem?_getD, List.getElem?_eq_getElem h]; rfl
theorem subsumes_ok (short : List Int) (cs : List (List Int)) (hs : short.length ≤ 100000) (hc : fewC cs) : APure Try.prog 19 [.seq false 1 (irow short), .seq false 1 (cs.map crowF)] (fun r => r = .own true 1 (irow (sumS short cs cs.length))) := by
  refine apure1 hmo Try.func19 (by kernel_rfl) rfl rfl (by kernel_rfl) (Nat.le_of_ble_eq_true rfl) ?_
  have hc1 := hc.1
  simp
  refine ALoop.intro (S := fun (i : Nat) => ⟨[(0, .pv (.seq false 1 (irow short))), (1, .pv (.seq false 1 (cs.map crowF))), (5, .own true 1 (irow (sumS short cs i))), (8, .pv (.seq false 1 (cs.map crowF))), (9, .pv (I64 cs.length)), (10, .pv (I64 i))], []⟩) (fun i => i ≤ cs.length) (fun i => cs.length - i) 0 ?_ (Nat.zero_le _) ?_
  · exact (Weak.nilOwn (s := 5) 1 true (by simp)).trans (Weak.to (by simp [irow, sumS]) (by simp) (by simp) (by simp) (by simp))
  intro i hi
  by_cases h : i < cs.length
  · have hw : w64 ((i : Int) + 1) = ((i + 1 : Nat) : Int) := by rw [w64_id (by omega) (by omega)]; omega
    have hci := hc.2 _ (List.getElem_mem h)
    have hat := sumS_at short cs h
    have hlen := sumS_len short cs i
    simp [h, crowF]
    refine CallK.intro (subset_ok short cs[i] (by omega) (by omega)) (by simp) ?_
    cases c : subS short cs[i]
    · rw [c] at hat
      simp only [Bool.false_eq_true, if_false] at hat
      simp
      exact ⟨i + 1, by (try dsimp only); omega, by (try dsimp only); omega, Weak.to (by simp [hw, hat, crowF]) rfl (by simp) (by simp) (by simp)⟩
    · rw [c] at hat
      simp only [if_true] at hat
      simp
      exact ⟨by omega, i + 1, by (try dsimp only); omega, by (try dsimp only); omega, Weak.to (by simp [hw, hat, irow, crowF]) rfl (by simp) (by simp) (by simp)⟩
  · have hie : i = cs.length := by omega
    subst hie
    simp
theorem refSubsumes_ok (short : List Int) (cs : List (List Int)) (hs : short.length ≤ 100000) (hc : fewC cs) : APure Try.prog 20 [.seq false 1 (irow short), .seq false 1 (cs.map crowF)] (fun r => r = .own true 1 (irow (sumS short cs cs.length))) := by
  refine apure1 hmo Try.func20 (by kernel_rfl) rfl rfl (by kernel_rfl) (Nat.le_of_ble_eq_true rfl) ?_
  have hc1 := hc.1
  simp
  refine ALoop.intro (S := fun (i : Nat) => ⟨[(0, .pv (.seq false 1 (irow short))), (1, .pv (.seq false 1 (cs.map crowF))), (5, .own true 1 (irow (sumS short cs i))), (6, .pv (I64 i))], []⟩) (fun i => i ≤ cs.length) (fun i => cs.length - i) 0 ?_ (Nat.zero_le _) ?_
  · exact (Weak.nilOwn (s := 5) 1 true (by simp)).trans (Weak.to (by simp [irow, sumS]) (by simp) (by simp) (by simp) (by simp))
  intro i hi
  by_cases h : i < cs.length
  · have hw : w64 ((i : Int) + 1) = ((i + 1 : Nat) : Int) := by rw [w64_id (by omega) (by omega)]; omega
    have hci := hc.2 _ (List.getElem_mem h)
    have hat := sumS_at short cs h
    have hlen := sumS_len short cs i
    simp [h, crowF]
    refine CallK.intro (refSubset_ok short cs[i] (by omega) (by omega)) (by simp) ?_
    cases c : subS short cs[i]
    · rw [c] at hat
      simp only [Bool.false_eq_true, if_false] at hat
      simp
      exact ⟨i + 1, by (try dsimp only); omega, by (try dsimp only); omega, Weak.to (by simp [hw, hat, crowF]) rfl (by simp) (by simp) (by simp)⟩
    · rw [c] at hat
      simp only [if_true] at hat
      simp
      exact ⟨by omega, i + 1, by (try dsimp only); omega, by (try dsimp only); omega, Weak.to (by simp [hw, hat, irow, crowF]) rfl (by simp) (by simp) (by simp)⟩
  · have hie : i = cs.length := by omega
    subst hie
    simp
def failsR (t : RT) (l : List Int) : Bool := l.all fun x => decide (valR t x = -1)
theorem refFails_ok (t : RT) (l : List Int) (ht : t.rows.length ≤ 1000000) (hl : l.length ≤ 1000000) : APure Try.prog 15 [rtV t, .seq false 1 (irow l)] (fun r => r = .pv (BL (failsR t l))) := by
  refine apure1 hmo Try.func15 (by kernel_rfl) rfl rfl (by kernel_rfl) (Nat.le_of_ble_eq_true rfl) ?_
  have hv := fun x => rfValue_ok t x ht
  simp only [rtV] at hv
  simp [rtV]
  refine ALoop.intro (S := fun (i : Nat) => ⟨[(1, .pv (.seq false 1 (irow l))), (2, .pv (.ptr 0 0)), (5, .pv (I64 i))], [[.pv (I64 t.vars), .pv (.seq false 3 (t.rows.map enR)), .pv (I64 t.dep)]]⟩) (fun i => i ≤ l.length ∧ ∀ j (hj : j < l.length), j < i → valR t l[j] = -1) (fun i => l.length - i) 0 ?_ ⟨Nat.zero_le _, fun j _ h => absurd h (Nat.not_lt_zero _)⟩ ?_
  · exact Weak.to (by simp) (by simp) (by simp) (by simp) (by simp)
  rintro i ⟨hi, ho⟩
  by_cases h : i < l.length
  · have hw : w64 ((i : Int) + 1) = ((i + 1 : Nat) : Int) := by rw [w64_id (by omega) (by omega)]; omega
    simp [h]
    refine CallQ0.intro (hv l[i]) (by simp) ?_
    by_cases c : valR t l[i] = -1
    · simp [c]
      refine ⟨i + 1, by (try dsimp only); omega, ⟨by (try dsimp only); omega, fun j hj hji => ?_⟩, Weak.to (by simp [hw]) (by simp) (by simp) (by simp) (by simp)⟩
      by_cases e : j = i
      · subst e; exact c
      · exact ho j hj (by omega)
    · have : failsR t l = false := by
        unfold failsR
        rw [List.all_eq_false]
        exact ⟨l[i], List.getElem_mem h, by simpa using c⟩
      simp [c, this]
  · have hie : i = l.length := by omega
    subst hie
    have : failsR t l = true := by
      unfold failsR
      rw [List.all_eq_true]
      intro x hx
      obtain ⟨j, hj, rfl⟩ := List.getElem_of_mem hx
      simpa using ho j hj hj
    simp [this]
def few16 (cs : List (List Int)) (l c : List Int) : Bool := few8 cs l && decide (cs.length ≤ 40) && decide (c.length ≤ 40)
theorem few16_ok (cs : List (List Int)) (l c : List Int) : APure Try.prog 8 [.seq false 1 (cs.map crowF), .seq false 1 (irow l), .seq false 1 (irow c)] (fun r => r = .pv (BL (few16 cs l c))) := by
  refine apure1 hmo Try.func8 (by kernel_rfl) rfl rfl (by kernel_rfl) (Nat.le_of_ble_eq_true rfl) ?_
  simp
  refine CallK.intro (few8_ok cs l) (by simp) ?_
  unfold few16
  cases e : few8 cs l
  · simp
  · by_cases c1 : cs.length ≤ 40
    · have c1' : (cs.length : Int) ≤ 40 := by omega
      by_cases c2 : c.length ≤ 40
      · have c2' : (c.length : Int) ≤ 40 := by omega
        simp [c1, c1', c2, c2']
      · have c2' : ¬ (c.length : Int) ≤ 40 := by omega
        simp [c1, c1', c2, c2']
    · have c1' : ¬ (cs.length : Int) ≤ 40 := by omega
      simp [c1, c1']
theorem few16_few {cs : List (List Int)} {l c : List Int} (h : few16 cs l c = true) : fewC cs ∧ l.length ≤ 60 ∧ c.length ≤ 40 := by
  unfold few16 few8 few4 at h
  simp only [Bool.and_eq_true, decide_eq_true_eq, List.all_eq_true] at h
  exact ⟨⟨by omega, fun x hx => by have := h.1.1.1.1.2 x hx; omega⟩, by omega, by omega⟩
end Go.AX

namespace Go.AX
open Go.Proofs
set_option linter.unusedSimpArgs false

def cnt3 (l c : List Int) (v : Int) : Nat := (c.filter fun y => decide (val3 l y = v)).length
def opn3 (l c : List Int) : List Int := c.filter fun y => decide (0 ≤ litX y ∧ val3 l y ≠ 1 ∧ val3 l y ≠ -1)
theorem ct_gen (l : List Int) : ∀ (c : List Int) (a b z : Nat), a + c.length ≤ 1000000 → b + c.length ≤ 1000000 → z + c.length ≤ 1000000 →
    c.foldl (ctF l) ((a : Int), (b : Int), (z : Int)) = (((a + cnt3 l c 1 : Nat) : Int), ((b + cnt3 l c (-1) : Nat) : Int), ((z + (opn3 l c).length : Nat) : Int))
  | [], a, b, z, _, _, _ => by simp [cnt3, opn3]
  | y :: c, a, b, z, ha, hb, hz => by
    simp only [List.length_cons] at ha hb hz
    rw [List.foldl_cons]
    by_cases c1 : val3 l y = 1
    · have e : ctF l ((a : Int), (b : Int), (z : Int)) y = (((a + 1 : Nat) : Int), (b : Int), (z : Int)) := by
        unfold ctF; rw [if_pos c1, w64_id (by dsimp only; omega) (by dsimp only; omega)]; simp
      rw [e, ct_gen l c (a + 1) b z (by omega) (by omega) (by omega)]
      simp [cnt3, opn3, c1]; omega
    · by_cases c2 : val3 l y = -1
      · have e : ctF l ((a : Int), (b : Int), (z : Int)) y = ((a : Int), ((b + 1 : Nat) : Int), (z : Int)) := by
          unfold ctF; rw [if_neg c1, if_pos c2, w64_id (by dsimp only; omega) (by dsimp only; omega)]; simp
        rw [e, ct_gen l c a (b + 1) z (by omega) (by omega) (by omega)]
        simp [cnt3, opn3, c1, c2]; omega
      · by_cases c3 : 0 ≤ litX y
        · have e : ctF l ((a : Int), (b : Int), (z : Int)) y = ((a : Int), (b : Int), ((z + 1 : Nat) : Int)) := by
            unfold ctF; rw [if_neg c1, if_neg c2, if_pos c3, w64_id (by dsimp only; omega) (by dsimp only; omega)]; simp
          rw [e, ct_gen l c a b (z + 1) (by omega) (by omega) (by omega)]
          simp [cnt3, opn3, c1, c2, c3]; omega
        · have e : ctF l ((a : Int), (b : Int), (z : Int)) y = ((a : Int), (b : Int), (z : Int)) := by
            unfold ctF; rw [if_neg c1, if_neg c2, if_neg c3]
          rw [e, ct_gen l c a b z (by omega) (by omega) (by omega)]
          simp [cnt3, opn3, c1, c2, c3]
theorem val3_cases (l : List Int) (y : Int) : val3 l y = 0 ∨ val3 l y = 1 ∨ val3 l y = -1 := by
  unfold val3
  split
  · exact .inl rfl
  · split
    · exact .inr (.inl rfl)
    · split
      · exact .inr (.inr rfl)
      · exact .inl rfl
theorem op_gen (l : List Int) : ∀ (c : List Int) (n : Int), c.foldl (opF l) n = ((opn3 l c).getLast?).getD n
  | [], n => rfl
  | y :: c, n => by
    rw [List.foldl_cons, op_gen l c]
    have h3 := val3_cases l y
    by_cases c1 : 0 ≤ litX y ∧ val3 l y = 0
    · have e : opF l n y = y := by unfold opF; rw [if_pos c1]
      have e2 : opn3 l (y :: c) = y :: opn3 l c := by
        unfold opn3
        rw [List.filter_cons, if_pos (by rw [decide_eq_true_eq]; exact ⟨c1.1, by omega, by omega⟩)]
      rw [e, e2, List.getLast?_cons]
      rfl
    · have e : opF l n y = n := by unfold opF; rw [if_neg c1]
      have e2 : opn3 l (y :: c) = opn3 l c := by
        unfold opn3
        rw [List.filter_cons, if_neg (by rw [decide_eq_true_eq]; rintro ⟨a1, a2, a3⟩; exact c1 ⟨a1, by omega⟩)]
      rw [e, e2]
theorem unit_is {l c : List Int} (hc : c.length ≤ 1000) (hx : ∀ y ∈ c, 0 ≤ litX y) (h : (unitS l c).2 = true) : (unitS l c).1 ∈ c ∧ val3 l (unitS l c).1 = 0 ∧ ∀ y ∈ c, y ≠ (unitS l c).1 → val3 l y = -1 := by
  have hg := ct_gen l c 0 0 0 (by omega) (by omega) (by omega)
  have hct : ctS l c = (((0 + cnt3 l c 1 : Nat) : Int), ((0 + cnt3 l c (-1) : Nat) : Int), ((0 + (opn3 l c).length : Nat) : Int)) := hg
  have h0 : cnt3 l c 1 = 0 ∧ (opn3 l c).length = 1 ∧ (unitS l c).1 = c.foldl (opF l) 0 := by
    unfold unitS at h ⊢
    rw [hct] at h ⊢
    dsimp only at h ⊢
    by_cases e : ((0 + cnt3 l c 1 : Nat) : Int) ≠ 0 ∨ ((0 + (opn3 l c).length : Nat) : Int) ≠ 1
    · rw [if_pos e] at h; cases h
    · rw [if_neg e]
      refine ⟨by omega, by omega, rfl⟩
  obtain ⟨h1, h2, h3⟩ := h0
  obtain ⟨x, hx1⟩ := List.length_eq_one_iff.1 h2
  have h4 : (unitS l c).1 = x := by rw [h3, op_gen, hx1]; rfl
  have hxm : x ∈ opn3 l c := by rw [hx1]; simp
  have hxm' := hxm
  unfold opn3 at hxm'
  rw [List.mem_filter, decide_eq_true_eq] at hxm'
  rw [h4]
  have v3 := val3_cases l x
  refine ⟨hxm'.1, by omega, fun y hy hne => ?_⟩
  have hv := val3_cases l y
  have hn1 : val3 l y ≠ 1 := fun e => by
    have : y ∈ c.filter fun y => decide (val3 l y = 1) := by rw [List.mem_filter]; exact ⟨hy, by simpa using e⟩
    unfold cnt3 at h1
    rw [List.eq_nil_of_length_eq_zero h1] at this
    cases this
  rcases hv with hv | hv | hv
  · have : y ∈ opn3 l c := by
      unfold opn3
      rw [List.mem_filter, decide_eq_true_eq]
      exact ⟨hy, hx y hy, by omega, by omega⟩
    rw [hx1] at this
    simp at this
    exact absurd this hne
  · exact absurd hv hn1
  · exact hv
/-- A trail's literal's reason, if there is one: a clause all others of which fail by what stands ahead. -/
def ReaAt (cs : List (List Int)) (ats : List Int) (ls : List Int) (x : En) : Prop :=
  x.rea < 0 ∨ ∃ k, ∃ hk : k < cs.length, x.rea = ats.getD k 0 ∧ x.l ∈ cs[k] ∧ ∀ y ∈ cs[k], y ≠ x.l → w64 (-y) ∈ ls
def Rea (cs : List (List Int)) (ats : List Int) (t : RT) : Prop := ∀ i (hi : i < t.rows.length), ReaAt cs ats ((t.rows.take i).map (·.l)) t.rows[i]
theorem rea_app {cs : List (List Int)} {ats : List Int} {t : RT} (h : Rea cs ats t) {x : En} (hx : ReaAt cs ats (t.rows.map (·.l)) x) (v d : Int) : Rea cs ats ⟨v, t.rows ++ [x], d⟩ := by
  intro i hi
  have hi' : i < (t.rows ++ [x]).length := hi
  simp only [List.length_append, List.length_singleton] at hi'
  by_cases c : i < t.rows.length
  · have := h i c
    simp only [List.getElem_append_left c, List.take_append_of_le_length (Nat.le_of_lt c)]
    exact this
  · have e : i = t.rows.length := by omega
    subst e
    simp only [List.getElem_append_right (Nat.le_refl _), Nat.sub_self, List.getElem_cons_zero, List.take_left]
    exact hx
theorem rea_dec {cs : List (List Int)} {ats : List Int} {t : RT} (h : Rea cs ats t) (l : Int) : Rea cs ats (decR t l) := by
  unfold decR
  split
  · exact rea_app h (.inl (by show (-1 : Int) < 0; omega)) _ _
  · exact h
/-- Clauses of six variables. -/
structure Cls6 (cs : List (List Int)) (ats : List Int) : Prop where
  len : ∀ c ∈ cs, c.length ≤ 1000
  chk : ∀ c ∈ cs, ∀ y ∈ c, litChk y 6 = 0
  pos : ∀ k, k < cs.length → 0 ≤ ats.getD k 0
theorem lit6 {y : Int} (h : litChk y 6 = 0) : y ≠ 0 ∧ -6 ≤ y ∧ y ≤ 6 ∧ 0 ≤ litX y ∧ w64 (-y) = -y := by
  obtain ⟨a, b, c⟩ := (litChk_zero (by omega)).1 h
  refine ⟨a, b, c, ?_, w64_id (by omega) (by omega)⟩
  rw [litX_nn]
  exact (okL_iff y).2 ⟨a, by omega, by omega⟩
theorem val3_m1 {l : List Int} {y : Int} (h : val3 l y = -1) : w64 (-y) ∈ l := by
  unfold val3 at h
  split at h
  · omega
  · split at h
    · omega
    · split at h
      · assumption
      · omega
theorem val3_0 {l : List Int} {y : Int} (hx : 0 ≤ litX y) (h : val3 l y = 0) : y ∉ l ∧ w64 (-y) ∉ l := by
  unfold val3 at h
  rw [if_neg (by omega)] at h
  split at h
  · omega
  · split at h
    · omega
    · exact ⟨by assumption, by assumption⟩
theorem may_free {T : Tr} {t : RT} (h : RelT T t) {x : Int} (hx : litChk x 6 = 0) (h1 : x ∉ t.rows.map (·.l)) (h2 : w64 (-x) ∉ t.rows.map (·.l)) : mayR t x = 0 := by
  unfold mayR
  rw [h.vars, if_neg (by simp [hx]), if_neg]
  intro hp
  obtain ⟨i, hi, _, e⟩ := plR_in hp
  obtain ⟨_, _, _, _, _, v1⟩ := litV_ok6 (h.ok _ (List.getElem_mem hi)).1
  obtain ⟨_, _, _, _, _, v2⟩ := litV_ok6 hx
  obtain ⟨_, _, _, _, w2⟩ := lit6 hx
  rw [v1, v2] at e
  have hm : t.rows[i].l ∈ t.rows.map (·.l) := List.mem_map.2 ⟨_, List.getElem_mem hi, rfl⟩
  have : t.rows[i].l = x ∨ t.rows[i].l = -x := by
    unfold absS at e
    split at e <;> split at e <;> omega
  rcases this with e1 | e1
  · exact h1 (e1 ▸ hm)
  · exact h2 (by rw [w2, ← e1]; exact hm)
theorem next_is {cs : List (List Int)} {ats l : List Int} (hc : Cls6 cs ats) (h : (nextS cs l).2.2 = true) : ∃ i, ∃ hi : i < cs.length, (nextS cs l).2.1 = (i : Int) ∧ (nextS cs l).1 ∈ cs[i] ∧ val3 l (nextS cs l).1 = 0 ∧ ∀ y ∈ cs[i], y ≠ (nextS cs l).1 → val3 l y = -1 := by
  unfold nextS at *
  split at h
  · rename_i i hf
    rw [List.findIdx?_eq_some_iff_getElem] at hf
    obtain ⟨h1, h2, _⟩ := hf
    have e : cs.getD i [] = cs[i] := by rw [List.getD_eq_getElem?_getD, List.getElem?_eq_getElem h1]; rfl
    dsimp only
    rw [e]
    have hm := List.getElem_mem h1
    exact ⟨i, h1, rfl, unit_is (hc.len _ hm) (fun y hy => (lit6 (hc.chk _ hm y hy)).2.2.2.1) h2⟩
  · cases h
theorem prop_add {cs : List (List Int)} {ats : List Int} (hc : Cls6 cs ats) : ∀ (k : Nat) (D : DK) (by' : List Int), RelD D.T D.t → Rea cs ats D.t →
    ∃ xs ys, (propF cs k (D.t.rows.map (·.l)) by').1 = D.t.rows.map (·.l) ++ xs ∧ (propF cs k (D.t.rows.map (·.l)) by').2.1 = by' ++ ys ∧ Rea cs ats (addL D (xs.zip (ys.map fun y => ats.getD y.toNat 0))).t
  | 0, D, by', _, hr => ⟨[], [], by simp [propF], by simp [propF], hr⟩
  | k + 1, D, by', hd, hr => by
    rw [propF_step]
    by_cases c1 : 0 ≤ failS cs (D.t.rows.map (·.l))
    · rw [if_pos c1]; exact ⟨[], [], by simp, by simp, hr⟩
    rw [if_neg c1]
    by_cases c2 : (nextS cs (D.t.rows.map (·.l))).2.2 = false
    · rw [if_pos c2]; exact ⟨[], [], by simp, by simp, hr⟩
    rw [if_neg c2]
    obtain ⟨i, hi, e1, e2, e3, e4⟩ := next_is hc (l := D.t.rows.map (·.l)) (by simpa using c2)
    generalize (nextS cs (D.t.rows.map (·.l))).1 = x at *
    rw [e1]
    have hm := List.getElem_mem hi
    have hx6 := hc.chk _ hm x e2
    obtain ⟨_, _, _, hx0, _⟩ := lit6 hx6
    obtain ⟨f1, f2⟩ := val3_0 hx0 e3
    have hmay := may_free hd.1 hx6 f1 f2
    have hwp := hc.pos i hi
    have hS : addS D x (ats.getD i 0) = ⟨D.A, impT D.T x (ats.getD i 0), D.a, ⟨D.t.vars, D.t.rows ++ [⟨x, D.t.dep, ats.getD i 0⟩], D.t.dep⟩, D.con⟩ := by
      unfold addS
      rw [if_neg (by omega)]
      have hE : impER D.t x (ats.getD i 0) = 0 := by
        unfold impER
        rw [if_neg (fun h => h hmay), if_neg (by omega)]
      unfold impR
      rw [if_pos hE]
    have hrel := addS_rel hd x (ats.getD i 0)
    have hr' : Rea cs ats (addS D x (ats.getD i 0)).t := by
      rw [hS]
      exact rea_app hr (.inr ⟨i, hi, rfl, e2, fun y hy hne => val3_m1 (e4 y hy hne)⟩) _ _
    obtain ⟨xs, ys, g1, g2, g3⟩ := prop_add hc k (addS D x (ats.getD i 0)) (by' ++ [(i : Int)]) hrel hr'
    have hrows : (addS D x (ats.getD i 0)).t.rows.map (·.l) = D.t.rows.map (·.l) ++ [x] := by rw [hS]; simp
    rw [hrows] at g1 g2
    refine ⟨x :: xs, (i : Int) :: ys, by rw [g1]; simp, by rw [g2]; simp, ?_⟩
    exact g3
theorem fol_rea {cs : List (List Int)} {ats : List Int} (hc : Cls6 cs ats) {D : DK} (hd : RelD D.T D.t) (hr : Rea cs ats D.t) : Rea cs ats (folS cs ats D).t := by
  obtain ⟨xs, ys, g1, g2, g3⟩ := prop_add hc (mostP cs + 1) D [] hd hr
  have e : folZ cs ats D.t = xs.zip (ys.map fun y => ats.getD y.toNat 0) := by
    unfold folZ propS
    rw [g1, g2, List.nil_append, List.drop_left' (by simp)]
  unfold folS
  rw [e]
  exact g3
theorem add_rea {cs : List (List Int)} {ats : List Int} {D : DK} (hr : Rea cs ats D.t) (l : Int) : Rea cs ats (addS D l (-1)).t := by
  unfold addS
  rw [if_pos (by omega)]
  exact rea_dec hr l
theorem setL_rea {cs : List (List Int)} {ats : List Int} (hc : Cls6 cs ats) (lits : List Int) {D : DK} (hd : RelD D.T D.t) (hr : Rea cs ats D.t) : ∀ i, Rea cs ats (setL cs ats lits D i).t
  | 0 => fol_rea hc hd hr
  | i + 1 => by
    have ih := setL_rea hc lits hd hr i
    have ir := setL_rel cs ats lits hd i
    rw [setL]
    split
    · exact ih
    · split
      · exact fol_rea hc (addS_rel ir _ _) (add_rea ih _)
      · exact ih
/-- The clauses that may be are clauses of the arena. -/
structure PK6 (x : PK) : Prop where
  al : x.ats.length = x.rows.length
  chk : ∀ c ∈ x.rows, c.length ≤ 1000 ∧ ∀ y ∈ c, litChk y 6 = 0
  at' : ∀ k (hk : k < x.rows.length), ∃ r ∈ x.a.rows, r.at' = x.ats.getD k 0 ∧ r.lits = x.rows[k]
theorem chkC6 {c : List Int} (h : chkC c 6 = 0) : c.length ≤ 1000 ∧ ∀ y ∈ c, litChk y 6 = 0 := by
  unfold chkC at h
  rw [if_neg (by omega)] at h
  split at h
  · omega
  · split at h
    · omega
    · rename_i h1 h2
      refine ⟨by omega, fun y hy => ?_⟩
      have h3 : (c.all fun x => inS x 6) = true := by simpa using h2
      have := List.all_eq_true.1 h3 y hy
      unfold litChk
      rw [if_neg (by omega), if_pos this]
theorem putL_6 (cs : List (List Int)) : ∀ i, PK6 (putL cs i)
  | 0 => ⟨rfl, by simp [putL], fun k hk => by simp [putL] at hk⟩
  | i + 1 => by
    have ih := putL_6 cs i
    rw [putL]
    generalize putL cs i = x at *
    generalize cs.getD i [] = c
    generalize ((i + 1 : Nat) : Int) = id
    obtain ⟨h1, h2, h3⟩ := ih
    by_cases e : putEA id c = 0 ∧ chkC c 6 = 0
    · obtain ⟨e1, e2⟩ := e
      unfold putK
      rw [if_pos ⟨e1, e2⟩, if_pos ⟨e1, e2⟩]
      unfold putRA putQA
      rw [if_pos e1, if_pos e1]
      refine ⟨by simp [h1], fun d hd => ?_, fun k hk => ?_⟩
      · rcases List.mem_append.1 hd with hd | hd
        · exact h2 d hd
        · simp at hd; subst hd; exact chkC6 e2
      · dsimp only at hk ⊢
        simp only [List.length_append, List.length_singleton] at hk
        by_cases c1 : k < x.rows.length
        · obtain ⟨r, r1, r2, r3⟩ := h3 k c1
          refine ⟨r, List.mem_append_left _ r1, ?_, by rw [List.getElem_append_left c1]; exact r3⟩
          rw [r2, List.getD_eq_getElem?_getD, List.getD_eq_getElem?_getD, List.getElem?_append_left (by omega)]
        · have ek : k = x.rows.length := by omega
          subst ek
          refine ⟨⟨x.a.size, id, c⟩, by simp, ?_, by simp⟩
          rw [← h1, List.getD_eq_getElem?_getD, List.getElem?_append_right (Nat.le_refl _)]
          simp
    · unfold putK
      rw [if_neg e, if_neg e]
      refine ⟨h1, h2, fun k hk => ?_⟩
      obtain ⟨r, r1, r2, r3⟩ := h3 k hk
      refine ⟨r, ?_, r2, r3⟩
      dsimp only
      unfold putRA
      split
      · exact List.mem_append_left _ r1
      · exact r1
theorem relA_lits {A : Ar} {a : RA} (h : RelA A a) {r : Ro} (hr : r ∈ a.rows) : isA A r.at' = true ∧ litsA A r.at' = r.lits := by
  obtain ⟨p, e1, e2, e3, e4, _⟩ := h.rows r hr
  rw [e1]
  refine ⟨e4, ?_⟩
  unfold litsA
  rw [if_pos e4, Int.toNat_natCast, e2.num, Int.toNat_natCast]
  exact e3
/-- What is known of a desk's reasons. -/
def DkR (D : DK) : Prop := ∀ i (hi : i < D.t.rows.length), D.t.rows[i].rea < 0 ∨ (isA D.A D.t.rows[i].rea = true ∧ D.t.rows[i].l ∈ litsA D.A D.t.rows[i].rea ∧ ∀ y ∈ litsA D.A D.t.rows[i].rea, litChk y 6 = 0 ∧ (y ≠ D.t.rows[i].l → w64 (-y) ∈ (D.t.rows.take i).map (·.l)))
theorem setS_dkR {cs : List (List Int)} (hc : fewC cs) (lits : List Int) : DkR (setS cs lits) := by
  have hp := putL_ok hc cs.length (Nat.le_refl _)
  have h6 := putL_6 cs cs.length
  have hrelA := setS_relA hc lits
  obtain ⟨hA, ha⟩ := setL_A (putL cs cs.length).rows (putL cs cs.length).ats lits (begD (putL cs cs.length)) lits.length
  have hcl : Cls6 (putL cs cs.length).rows (putL cs cs.length).ats := ⟨fun c hc => (h6.chk c hc).1, fun c hc => (h6.chk c hc).2, fun k hk => by
    rw [List.getD_eq_getElem?_getD, List.getElem?_eq_getElem (by rw [h6.al]; exact hk)]
    exact hp.pos _ (List.getElem_mem _)⟩
  have hrea : Rea (putL cs cs.length).rows (putL cs cs.length).ats (setS cs lits).t := setL_rea hcl lits (D := begD (putL cs cs.length)) relD_new (fun i hi => by simp [begD] at hi) lits.length
  have hA' : (setS cs lits).A = (putL cs cs.length).A := hA
  have ha' : (setS cs lits).a = (putL cs cs.length).a := ha
  intro i hi
  rcases hrea i hi with h | ⟨k, hk, e1, e2, e3⟩
  · exact .inl h
  · right
    obtain ⟨r, r1, r2, r3⟩ := h6.at' k hk
    rw [← ha'] at r1
    obtain ⟨q1, q2⟩ := relA_lits hrelA r1
    rw [r2, ← e1] at q1 q2
    rw [r3] at q2
    rw [q2]
    exact ⟨q1, e2, fun y hy => ⟨hcl.chk _ (List.getElem_mem hk) y hy, e3 y hy⟩⟩
end Go.AX

namespace Go.AX
open Go.Proofs
set_option linter.unusedSimpArgs false

structure DeskOk (D : DK) : Prop where
  rel : RelD D.T D.t
  relA : RelA D.A D.a
  rea : DkR D
  len : D.A.row.length ≤ 1000000
theorem setS_ok {cs : List (List Int)} (hc : fewC cs) (lits : List Int) : DeskOk (setS cs lits) := by
  refine ⟨setS_rel cs lits, setS_relA hc lits, setS_dkR hc lits, ?_⟩
  obtain ⟨hA, _⟩ := setL_A (putL cs cs.length).rows (putL cs cs.length).ats lits (begD (putL cs cs.length)) lits.length
  have hA' : (setS cs lits).A = (putL cs cs.length).A := hA
  rw [hA']
  have := (putL_ok hc cs.length (Nat.le_refl _)).len
  have := hc.1
  omega
theorem rea_in {D : DK} (h : RelT D.T D.t) {v : Int} (hr : 0 ≤ (ofT D.T v).1.rea) : ∃ i, ∃ hi : i < D.t.rows.length, plR D.t v = i ∧ litV D.t.rows[i].l = v ∧ (ofT D.T v).1.rea = D.t.rows[i].rea ∧ (ofT D.T v).1.pla = i := by
  obtain ⟨_, e2, e3⟩ := relT_of h v
  rw [e2] at hr ⊢
  unfold ofR at hr ⊢
  by_cases c : plR D.t v < 0
  · rw [if_pos c] at hr; dsimp only at hr; omega
  · obtain ⟨i, hi, p1, p2⟩ := plR_in (t := D.t) (v := v) (by omega)
    refine ⟨i, hi, p1, p2, ?_, by rw [e3, p1]⟩
    rw [if_neg c, p1, Int.toNat_natCast, List.getD_eq_getElem?_getD, List.getElem?_eq_getElem hi]
    rfl
theorem isA_hd {A : Ar} {q : Int} (h : isA A q = true) : A.hd ≠ [] := fun e => by
  unfold isA at h
  rw [e] at h
  simp [lk] at h
theorem DeskOk.sh {D : DK} (h : DeskOk D) {c : List Int} (hc : c.length ≤ 1000000) : ShOk D.A D.T c where
  tr := h.rel.1.okT
  ar := fun q hq => by
    obtain ⟨x, hx, e⟩ := h.relA.is q hq
    obtain ⟨p, e1, e2, _⟩ := h.relA.rows x hx
    exact ⟨p, _, by rw [← e, e1], e2⟩
  len := h.len
  few := hc
  hd := fun v hv => by
    obtain ⟨i, hi, _, _, e, _⟩ := rea_in h.rel.1 hv
    rcases h.rea i hi with h1 | ⟨h1, _⟩
    · omega
    · exact isA_hd h1
theorem idxS_lt {α : Type} {p : α → Bool} : ∀ {l : List α} {j : Nat} (hj : j < l.length), p l[j] = true → 0 ≤ idxS p l ∧ idxS p l ≤ j := by
  intro l j hj h
  unfold idxS
  cases hf : l.findIdx? p with
  | none =>
    rw [List.findIdx?_eq_none_iff] at hf
    have := hf _ (List.getElem_mem hj)
    rw [h] at this; cases this
  | some i =>
    rw [List.findIdx?_eq_some_iff_getElem] at hf
    obtain ⟨h1, h2, h3⟩ := hf
    dsimp only
    refine ⟨by omega, ?_⟩
    apply Int.ofNat_le.2
    apply Nat.le_of_not_lt
    intro hlt
    exact h3 j hlt h
theorem plR_lt {D : DK} (h : RelT D.T D.t) {x : Int} (hx : litChk x 6 = 0) {i : Nat} (hm : w64 (-x) ∈ (D.t.rows.take i).map (·.l)) : 0 ≤ plR D.t (litV x) ∧ plR D.t (litV x) < i := by
  obtain ⟨y, hy, e⟩ := List.mem_map.1 hm
  obtain ⟨j, hj, rfl⟩ := List.getElem_of_mem hy
  have hj1 : j < i ∧ j < D.t.rows.length := by rw [List.length_take] at hj; omega
  rw [List.getElem_take] at e
  obtain ⟨_, _, _, _, w⟩ := lit6 hx
  obtain ⟨_, _, _, _, _, v1⟩ := litV_ok6 (h.ok _ (List.getElem_mem hj1.2)).1
  obtain ⟨_, _, _, _, _, v2⟩ := litV_ok6 hx
  have ev : litV D.t.rows[j].l = litV x := by
    rw [v1, v2, e, w]; unfold absS; split <;> split <;> omega
  have := idxS_lt (p := fun x' : En => decide (litV x'.l = litV x)) hj1.2 (by simpa using ev)
  unfold plR
  omega
theorem oth_in {D : DK} (h : DeskOk D) {l : Int} (hb : othB D.A D.T l = true) : ∃ i, ∃ hi : i < D.t.rows.length, plaT D.T l = i ∧ D.t.rows[i].l = w64 (-l) ∧ litChk l 6 = 0 ∧ (ofT D.T (litV l)).1.rea = D.t.rows[i].rea ∧ 0 ≤ D.t.rows[i].rea := by
  unfold othB at hb
  simp only [Bool.not_eq_true', Bool.or_eq_false_iff, decide_eq_false_iff_not] at hb
  obtain ⟨⟨b1, b2⟩, _⟩ := hb
  obtain ⟨i, hi, p1, p2, p3, p4⟩ := rea_in h.rel.1 (v := litV l) (by omega)
  refine ⟨i, hi, p4, ?_, ?_, p3, by omega⟩
  all_goals
    have hlen : ((D.T.marks.length : Nat) : Int) - 1 = 6 := by rw [h.rel.1.len]; rfl
    have hmk := h.rel.1.mark _ i hi p1
    unfold valT at b1
    rw [hlen, hmk] at b1
    by_cases c : litChk l 6 = 0
    rotate_left
    · rw [if_pos c] at b1; omega
  · rw [if_neg (fun e => e c)] at b1
    obtain ⟨_, _, _, _, w⟩ := lit6 c
    obtain ⟨_, _, r0, _, _, v1⟩ := litV_ok6 (h.rel.1.ok _ (List.getElem_mem hi)).1
    obtain ⟨_, _, l0, _, _, v2⟩ := litV_ok6 c
    rw [v1, v2] at p2
    rw [w]
    unfold absS at p2
    dsimp only at b1
    have w1 : w64 (-1) = -1 := by decide
    have w2 : w64 (- -1) = 1 := by decide
    by_cases e1 : l < 0
    · rw [if_pos e1] at b1 p2
      by_cases e2 : D.t.rows[i].l < 0
      · rw [if_pos e2, w2] at b1; omega
      · rw [if_neg e2] at p2; omega
    · rw [if_neg e1] at b1 p2
      by_cases e2 : D.t.rows[i].l < 0
      · rw [if_pos e2] at p2; omega
      · rw [if_neg e2] at b1; omega
  · exact c
theorem othL_in {A : Ar} {T : Tr} {l x : Int} (hx : x ∈ othL A T l) : othB A T l = true ∧ x ∈ litsA A (ofT T (litV l)).1.rea ∧ x ≠ w64 (-l) ∧ (ofT T (litV x)).1.lev ≠ 0 := by
  unfold othL at hx
  split at hx
  · rename_i h
    rw [List.mem_filter] at hx
    obtain ⟨h1, h2⟩ := hx
    unfold lowS at h2
    simp only [Bool.not_eq_true', Bool.or_eq_false_iff, decide_eq_false_iff_not] at h2
    exact ⟨h, h1, h2.1, h2.2⟩
  · cases hx
/-- What else a reason has stands ahead. -/
theorem oth_ahead {D : DK} (h : DeskOk D) {l x : Int} (hx : x ∈ othL D.A D.T l) : litChk x 6 = 0 ∧ 0 ≤ plaT D.T x ∧ plaT D.T x < plaT D.T l ∧ plaT D.T l < D.T.lits.length := by
  obtain ⟨o1, o2, o3, _⟩ := othL_in hx
  obtain ⟨i, hi, p1, p2, _, p4, p5⟩ := oth_in h o1
  rw [p4] at o2
  rcases h.rea i hi with h1 | ⟨_, _, h3⟩
  · omega
  · obtain ⟨q1, q2⟩ := h3 x o2
    have q3 := plR_lt h.rel.1 q1 (q2 (by rw [p2]; exact o3))
    have hx2 : plaT D.T x = plR D.t (litV x) := (relT_of h.rel.1 _).2.2
    refine ⟨q1, by omega, by omega, ?_⟩
    rw [p1, h.rel.1.lits, List.length_map]
    omega
/-- What is left over is deeply left over. -/
theorem self_deep {D : DK} (h : DeskOk D) {c : List Int} {l : Int} (hs : selfS D.A D.T c l = true) : deepQ D.A D.T c l = true := by
  unfold selfS at hs
  simp only [Bool.and_eq_true, Bool.not_eq_true'] at hs
  obtain ⟨h1, h2⟩ := hs
  obtain ⟨i, hi, p1, _⟩ := oth_in h h1
  unfold deepQ deepB
  rw [deepV_step, h1]
  have hlt : plaT D.T l < D.T.lits.length := by rw [p1, h.rel.1.lits, List.length_map]; omega
  simp only [Bool.and_eq_true, decide_eq_true_eq, Bool.true_and, List.all_eq_true]
  refine ⟨⟨by omega, hlt⟩, fun x hx => ?_⟩
  have hx2 := List.any_eq_false.1 h2 x hx
  simp only [Bool.or_eq_true, decide_eq_true_eq, Bool.not_eq_true', decide_eq_false_iff_not, not_or, Classical.not_not] at hx2
  obtain ⟨_, _, q3, _⟩ := oth_ahead h hx
  unfold deepP stanS
  rw [decide_eq_false hx2.1, decide_eq_true hx2.2, decide_eq_true q3]
  rfl
theorem stan_mono {T : Tr} {c d : List Int} (hcd : ∀ x ∈ c, x ∈ d) {l x : Int} (h : stanS T c l x = true) : stanS T d l x = true := by
  unfold stanS at *
  simp only [Bool.and_eq_true, decide_eq_true_eq] at h ⊢
  exact ⟨h.1, hcd _ h.2.1, h.2.2⟩
theorem deepF_mono {A : Ar} {T : Tr} {c d : List Int} (hcd : ∀ x ∈ c, x ∈ d) : ∀ (k : Nat) (l : Int), deepF A T c k l = true → deepF A T d k l = true
  | 0, _, h => h
  | k + 1, l, h => by
    rw [deepF] at h ⊢
    simp only [Bool.and_eq_true, List.all_eq_true, Bool.or_eq_true] at h ⊢
    refine ⟨h.1, fun x hx => ?_⟩
    rcases h.2 x hx with h1 | ⟨h1, h2⟩
    · exact .inl (stan_mono hcd h1)
    · exact .inr ⟨h1, deepF_mono hcd k x h2⟩
theorem deepQ_mono {A : Ar} {T : Tr} {c d : List Int} (hcd : ∀ x ∈ c, x ∈ d) {l : Int} (h : deepQ A T c l = true) : deepQ A T d l = true := by
  unfold deepQ deepB at *
  simp only [Bool.and_eq_true] at h ⊢
  exact ⟨h.1, deepF_mono hcd _ _ h.2⟩
theorem shoS_sub (A : Ar) (T : Tr) (c : List Int) : List.Sublist (shoS A T c) c := by
  have h : List.Sublist (c.take 1 ++ delS (deepQ A T c) (c.drop 1)) (c.take 1 ++ c.drop 1) := List.Sublist.append (List.Sublist.refl _) List.filter_sublist
  rw [List.take_append_drop] at h
  exact h
/-- Made shorter again it is the same. -/
theorem shoS_idem (A : Ar) (T : Tr) (c : List Int) : shoS A T (shoS A T c) = shoS A T c := by
  have hsub := shoS_sub A T c
  have hd : delS (deepQ A T (shoS A T c)) ((shoS A T c).drop 1) = (shoS A T c).drop 1 := by
    refine delS_none _ _ fun x hx => ?_
    have hx' : x ∈ delS (deepQ A T c) (c.drop 1) := by
      unfold shoS at hx
      cases c with
      | nil => simp [delS] at hx
      | cons y r => simpa using hx
    unfold delS at hx'
    rw [List.mem_filter] at hx'
    have hn : deepQ A T c x = false := by simpa using hx'.2
    cases e : deepQ A T (shoS A T c) x
    · rfl
    · rw [deepQ_mono (fun y hy => hsub.subset hy) e] at hn; cases hn
  show (shoS A T c).take 1 ++ delS (deepQ A T (shoS A T c)) ((shoS A T c).drop 1) = shoS A T c
  rw [hd, List.take_append_drop]
end Go.AX

namespace Go.AX
open Go.Proofs
set_option linter.unusedSimpArgs false

@[simp ↓ high] theorem AGs_true {P : Program} {st : St} {Gd : Prop} {o : Op} {d : Option Tmp} {K : St → Prop} (h : Gd) : AGs P st Gd o d K = AE P st o d K :=
  propext ⟨fun x => x.1 h, fun x => ⟨fun _ => x, fun hn => absurd h hn⟩⟩
theorem selfNN_ok (t : PV) (l : Int) : APure Try.prog 13 [.lit (.pointer none), t, .lit (.slice none 0 0), I64 l] (fun r => r = .pv (BL false)) := by
  refine apure1 hmo Try.func13 (by kernel_rfl) rfl rfl (by kernel_rfl) (Nat.le_of_ble_eq_true rfl) ?_
  simp
def shD : DK := setS [[-1, 2], [-2, 4]] [1, 3]
theorem shD_1 : shoS shD.A shD.T [-3, -4, -1] = [-3, -1] := by kernel_rfl
theorem shD_2 : selfS shD.A shD.T [-3, -2, -1] (-2) = true := by kernel_rfl
theorem shD_3 : selfS shD.A shD.T [-3, -4, -1] (-4) = false := by kernel_rfl
theorem shD_4 : deepQ shD.A shD.T [-3, -4, -1] (-4) = true := by kernel_rfl
theorem shD_5 : deepQ shD.A shD.T [-3, -4] (-4) = false := by kernel_rfl
theorem shD_6 : deepQ shD.A shD.T [-1] (-1) = false := by kernel_rfl
theorem shD_7 : sumS [1] [[2], [2, 1]] 2 = [1] := by kernel_rfl
theorem RelD.lits_few {T : Tr} {t : RT} (h : RelD T t) : T.lits.length ≤ 1000000 := by
  have := h.1.few
  rw [h.1.lits, List.length_map]; omega
set_option maxRecDepth 16000 in
theorem shAwake_ok : APure Try.prog 9 [] (fun r => r = .pv (BL true)) := by
  refine apure1 hmo Try.func9 (by kernel_rfl) rfl rfl (by kernel_rfl) (Nat.le_of_ble_eq_true rfl) ?_
  have hset := dset_ok [] [[-1, 2], [-2, 4]] [1, 3] ⟨by decide, by decide⟩ (by decide)
  have hok := setS_ok (cs := [[-1, 2], [-2, 4]]) ⟨by decide, by decide⟩ [1, 3]
  have e1 := shD_1
  have e2 := shD_2
  have e3 := shD_3
  have e4 := shD_4
  have e5 := shD_5
  have e6 := shD_6
  unfold shD at e1 e2 e3 e4 e5 e6
  generalize setS [[-1, 2], [-2, 4]] [1, 3] = D at *
  have hs := fun (c : List Int) (hc : c.length ≤ 1000000) => hok.sh hc
  have hlf := hok.rel.lits_few
  have g1 := shorten_ok D.A D.T [-3, -4, -1] (hs _ (by decide)) hlf
  rw [e1] at g1
  have slf := fun (c : List Int) (hc : c.length ≤ 1000000) (l : Int) => self_ok D.A D.T c l hc (hs c hc).tr (hs c hc).ar (hs c hc).len ((hs c hc).hd _)
  have g2 := slf [-3, -2, -1] (by decide) (-2)
  have g3 := slf [-3, -4, -1] (by decide) (-4)
  rw [e2] at g2
  rw [e3] at g3
  have g4 := deepE_ok D.A D.T [-3, -4, -1] (-4) (hs _ (by decide)) hlf
  have g5 := deepE_ok D.A D.T [-3, -4] (-4) (hs _ (by decide)) hlf
  have g6 := deepE_ok D.A D.T [-1] (-1) (hs _ (by decide)) hlf
  rw [e4] at g4
  rw [e5] at g5
  rw [e6] at g6
  have g7 := subsumes_ok [1] [[2], [2, 1]] (by decide) ⟨by decide, by decide⟩
  have e7 : sumS [1] [[2], [2, 1]] ([[2], [2, 1]] : List (List Int)).length = [1] := shD_7
  rw [e7] at g7
  have g8 := selfNN_ok (trP D.T) 1
  have g9 := shortenN_ok [5, 6] (by decide)
  have hS1 := sameInts_ok [-3, -1] [-3, -1] (by decide)
  have hS2 := sameInts_ok [1] [1] (by decide)
  have hS3 := sameInts_ok [5, 6] [5, 6] (by decide)
  have hf : ∀ a b c d, frzP [a, b, c, trB D.T, d] 3 3 0 = trP D.T := fun a b c d => frz_tr0 rfl 2
  have hfa : ∀ a b c d, frzP [a, arB D.A, b, c, d] 3 1 0 = arP D.A := fun a b c d => frz_ar0 rfl 2
  simp
  refine CallK.introE hset (by simp) rfl (by simp) (by simp) (by simp [wkAL, wkA, wkRR, wkPL, wkP, irow, crowF]) ?_
  rintro _ _ ⟨rfl, rfl⟩
  simp [dkA, dkB]
  rw [hf, hfa]
  refine CallB.introP g1 (by simp) (by simp) ?_
  simp
  refine CallK.intro hS1 (by simp) ?_
  simp
  rw [hf, hfa]
  refine CallB.introP g2 (by simp) (by simp) ?_
  simp
  rw [hf, hfa]
  refine CallB.introP g3 (by simp) (by simp) ?_
  simp
  rw [hf, hfa]
  refine CallB.introP g4 (by simp) (by simp) ?_
  simp
  rw [hf, hfa]
  refine CallB.introP g5 (by simp) (by simp) ?_
  simp
  rw [hf, hfa]
  refine CallB.introP g6 (by simp) (by simp) ?_
  simp
  refine CallG.intro (fun _ => g7) (by simp) ?_
  simp
  refine CallG.intro (fun _ => hS2) (by simp) ?_
  simp
  rw [hf]
  refine CallB.introP g8 (by simp) (by simp) ?_
  simp
  refine CallG.intro (fun _ => g9) (by simp) ?_
  simp
  refine CallG.intro (fun _ => hS3) (by simp) ?_
  simp
end Go.AX

namespace Go.AX
open Go.Proofs
set_option linter.unusedSimpArgs false

theorem sub_cons {a b : Int} {s c : List Int} (h : List.Sublist (a :: s) (b :: c)) : (a = b → List.Sublist s c) ∧ (a ≠ b → List.Sublist (a :: s) c) := by
  constructor
  · intro e; subst e; exact List.cons_sublist_cons.1 h
  · intro e
    cases h with
    | cons _ h => exact h
    | cons_cons _ h => exact absurd rfl e
theorem sub_step {s c : List Int} {k i : Nat} (hk : k < s.length) (hi : i < c.length) (h : List.Sublist (s.drop k) (c.drop i)) : (s[k] = c[i] → List.Sublist (s.drop (k + 1)) (c.drop (i + 1))) ∧ (s[k] ≠ c[i] → List.Sublist (s.drop k) (c.drop (i + 1))) := by
  have e1 := List.drop_eq_getElem_cons hk
  have e2 := List.drop_eq_getElem_cons hi
  rw [e1, e2] at h
  rw [e1]
  exact sub_cons h
/-- The blocks that a desk leaves. -/
def dkBs (D : DK) : List (List SV) := [[.pv (.ptr 1 0), .pv (.ptr 3 0), .pv (.seq false 5 (D.a.rows.map roR)), .pv (I64 D.a.size), .pv (I64 D.t.vars), .pv (.seq false 3 (D.t.rows.map enR)), .pv (I64 D.t.dep), .pv (I64 D.con)], arB D.A, [.pv (.ptr 1 0), .pv (.ptr 3 0), .pv (.seq false 5 (D.a.rows.map roR)), .pv (I64 D.a.size), .pv (I64 D.t.vars), .pv (.seq false 3 (D.t.rows.map enR)), .pv (I64 D.t.dep), .pv (I64 D.con)], trB D.T, [.pv (.ptr 1 0), .pv (.ptr 3 0), .pv (.seq false 5 (D.a.rows.map roR)), .pv (I64 D.a.size), .pv (I64 D.t.vars), .pv (.seq false 3 (D.t.rows.map enR)), .pv (I64 D.t.dep), .pv (I64 D.con)]]
set_option maxRecDepth 16000 in
theorem shortenMinimal_ok (cs : List (List Int)) (l c : List Int) : APure Try.prog 3 [.seq false 1 (cs.map crowF), .seq false 1 (irow l), .seq false 1 (irow c)] (fun r => r = .pv (.lit (.bool true))) := by
  refine apure1 hmo Try.func3 (by kernel_rfl) rfl rfl (by kernel_rfl) (Nat.le_of_ble_eq_true rfl) ?_
  simp
  refine CallK.intro (few16_ok cs l c) (by simp) ?_
  cases hf : few16 cs l c
  · simp
    refine CallK.intro shAwake_ok (by simp) ?_
    simp
  obtain ⟨f1, f2, f3⟩ := few16_few hf
  have hset := dset_ok [] cs l f1 (by omega)
  have hok := setS_ok f1 l
  generalize setS cs l = D at *
  have hs := fun (c : List Int) (hc : c.length ≤ 1000000) => hok.sh hc
  have hlf := hok.rel.lits_few
  have hsub := shoS_sub D.A D.T c
  have hsl := hsub.length_le
  have g1 := shorten_ok D.A D.T c (hs _ (by omega)) hlf
  have g2 := shorten_ok D.A D.T (shoS D.A D.T c) (hs _ (by omega)) hlf
  rw [shoS_idem] at g2
  have slf := fun (x : Int) => self_ok D.A D.T c x (by omega) (hs c (by omega)).tr (hs c (by omega)).ar (hs c (by omega)).len ((hs c (by omega)).hd _)
  have dpf := fun (x : Int) => deepE_ok D.A D.T c x (hs c (by omega)) hlf
  have hself := fun (x : Int) (h : selfS D.A D.T c x = true) => self_deep hok h
  have hS1 := sameInts_ok c c (by omega)
  have hS2 := sameInts_ok (shoS D.A D.T c) (shoS D.A D.T c) (by omega)
  have hF1 := refFails_ok D.t c (by have := hok.rel.1.few; omega) (by omega)
  have hhead : ∀ x r, c = x :: r → ∃ r', shoS D.A D.T c = x :: r' := fun x r e => ⟨_, by rw [e]; rfl⟩
  generalize shoS D.A D.T c = s at *
  have hf : ∀ a b c d, frzP [a, b, c, trB D.T, d] 3 3 0 = trP D.T := fun a b c d => frz_tr0 rfl 2
  have hfa : ∀ a b c d, frzP [a, arB D.A, b, c, d] 3 1 0 = arP D.A := fun a b c d => frz_ar0 rfl 2
  simp
  refine CallK.introM hset (by simp) ?_
  rintro _ _ ⟨rfl, rfl⟩
  simp [dkA, dkB]
  refine ⟨by omega, ?_⟩
  rw [hf, hfa]
  refine CallB.introP g1 (by simp) (by simp) ?_
  simp
  refine CallQ0.intro hS1 (by simp) ?_
  have c1 : ¬ (c.length : Int) < s.length := by omega
  have hc0 : (¬ 0 < c.length) ∨ ∃ (h3 : 0 < c.length) (h4 : 0 < s.length), s[0] = c[0] ∧ s ≠ [] := by
    by_cases h3 : 0 < c.length
    · obtain ⟨r', hr⟩ := hhead c[0] (c.drop 1) (List.drop_eq_getElem_cons h3)
      subst hr
      exact .inr ⟨h3, by simp, rfl, by simp⟩
    · exact .inl h3
  rcases hc0 with hn | ⟨h3, h4, h5, h6⟩
  simp [c1, hn]
  rotate_left
  simp [c1, h3, h4, h5, h6]
  all_goals
    refine ALoop.intro (S := fun (y : Nat × Nat) => ⟨[(2, .pv (.seq false 1 (irow c))), (7, .pv (.ptr 4 0)), (10, .own true 1 (irow s)), (11, .pv (I64 y.1)), (12, .pv (I64 y.2))], dkBs D⟩) (fun y => y.1 ≤ s.length ∧ y.2 ≤ c.length ∧ List.Sublist (s.drop y.1) (c.drop y.2)) (fun y => c.length - y.2) (0, 0) ?_ ⟨Nat.zero_le _, Nat.zero_le _, by simpa using hsub⟩ ?_
    · exact Weak.keep (by simp) (by simp [dkBs])
    rintro ⟨k, i⟩ ⟨hk, hi, hsb⟩
    dsimp only at hk hi hsb
    by_cases ci : i < c.length
    by_cases ck : k < s.length
    · have hw1 : w64 ((i : Int) + 1) = ((i + 1 : Nat) : Int) := by rw [w64_id (by omega) (by omega)]; omega
      have hw2 : w64 ((k : Int) + 1) = ((k + 1 : Nat) : Int) := by rw [w64_id (by omega) (by omega)]; omega
      obtain ⟨q1, q2⟩ := sub_step ck ci hsb
      by_cases e : s[k] = c[i]
      · simp [ci, ck, e, dkBs]
        exact ⟨(k + 1, i + 1), by (try dsimp only); omega, ⟨by (try dsimp only); omega, by (try dsimp only); omega, q1 e⟩, Weak.keep (by simp [hw1, hw2]) (by simp)⟩
      · simp [ci, ck, e, dkBs]
        exact ⟨(k, i + 1), by (try dsimp only); omega, ⟨by (try dsimp only); omega, by (try dsimp only); omega, q2 e⟩, Weak.keep (by simp [hw1]) (by simp)⟩
    all_goals
      have hkl : k = s.length := by
        by_cases ck : k < s.length
        · have hie : i = c.length := by omega
          subst hie
          rw [List.drop_length] at hsb
          have := hsb.length_le
          simp at this
          omega
        · omega
      subst hkl
      simp [ci, dkBs]
    all_goals
      refine ALoop.intro (S := fun (i : Nat) => ⟨[(2, .pv (.seq false 1 (irow c))), (7, .pv (.ptr 4 0)), (10, .own true 1 (irow s)), (13, .pv (I64 i))], dkBs D⟩) (fun i => i ≤ c.length) (fun i => c.length - i) 0 ?_ (Nat.zero_le _) ?_
      · exact Weak.keep (by simp) (by simp [dkBs])
      intro j hj
      by_cases cj : j < c.length
      · have hw1 : w64 ((j : Int) + 1) = ((j + 1 : Nat) : Int) := by rw [w64_id (by omega) (by omega)]; omega
        simp [cj, dkBs]
        rw [hf, hfa]
        refine CallQ0.intro (slf c[j]) (by simp) ?_
        cases hsf : selfS D.A D.T c c[j]
        · simp [cj]
          refine CallQ.intro (r := .pv (BL true)) (fun h : False => h.elim) (by simp) ?_
          simp
          exact ⟨j + 1, by (try dsimp only); omega, by (try dsimp only); omega, Weak.keep (by simp [hw1]) (by simp)⟩
        · have hdq := hself _ hsf
          have hdj := dpf c[j]
          rw [hdq] at hdj
          simp [cj]
          rw [hf, hfa]
          refine CallQ.intro (fun _ => hdj) (by simp) ?_
          simp
          exact ⟨j + 1, by (try dsimp only); omega, by (try dsimp only); omega, Weak.keep (by simp [hw1]) (by simp)⟩
      · simp [cj, dkBs]
        refine CallK.intro hF1 (by simp) ?_
        cases failsR D.t c
        · simp
          refine CallG.intro (r := .pv (BL true)) (fun h : False => h.elim) (by simp) ?_
          simp
          refine CallK.intro shAwake_ok (by simp) ?_
          simp
        · simp
          rw [hf, hfa]
          refine CallB.introP g2 (by simp) (by simp) ?_
          simp
          refine CallG.intro (fun _ => hS2) (by simp) ?_
          simp
          refine CallK.intro shAwake_ok (by simp) ?_
          simp
end Go.AX
