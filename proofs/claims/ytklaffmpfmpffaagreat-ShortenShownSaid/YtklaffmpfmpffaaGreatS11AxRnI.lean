/-
  Contracts: which clauses a clause is part of; whether all of a clause fails; the probe of the layer shorten.
  Each reason of a desk is a clause, all others of which fail by what stands ahead (plain law).
  What is left over, of a desk: it is deeply left over; made shorter again it is the same (plain law).
  Contracts: the probe of the layer shorten.
  Contracts: what other literals a reason has, and what is left over, by the document.
  Contracts: what is left over, and deeply, by the document.
  What is left over, deeply, of a desk: the program's answer is the document's (plain law).
  How a desk's trail came about: each level is calm ahead of the next decision (plain law).
  A desk's trail came about as trails do; a conflict is a clause that fails (plain law).
  What a conflict teaches: of the last level one literal is left (plain law).
  What a conflict teaches: its first literal, its levels, and that it is shown by reasons (plain law).
  Contracts: a conflict is taken apart.
  Contracts: what a conflict teaches is gone through; levels; what fails.
  Contracts: what fails; whether literals say one thing ahead; the level to which one goes back.
  Contracts: the reasons that are needed are gathered.
  Contracts: by which clauses what a conflict teaches is shown.
-/
import Derived.Test.YtklaffmpfmpffaaGreatS11AxShE
import Derived.Test.YtklaffmpfmpffaaGreatS11AxGlI
import Derived.Test.YtklaffmpfmpffaaGreatS11AxMovS
import Derived.Test.YtklaffmpfmpffaaGreatS11AxGlD
namespace Go.AX
open Go.Proofs
set_option linter.unusedSimpArgs false

theorem shortenN_ok (lits : List Int) (hl : lits.length ≤ 1000000) : APure Tryz.prog 43 [.lit (.pointer none), .lit (.pointer none), .seq false 1 (irow lits)] (fun r => r = .own true 1 (irow lits)) := by
  refine apure1B [6] hmo Tryz.func43 (by kernel_rfl) rfl rfl (by kernel_rfl) (Nat.le_of_ble_eq_true rfl) ?_
  simp
  refine CallK.intro (clone_ok lits hl) (by simp) ?_
  simp
def sumS (short : List Int) (cs : List (List Int)) : Nat → List Int
  | 0 => []
  | i + 1 => if subS short (cs.getD i []) = true then sumS short cs i ++ [(i : Int)] else sumS short cs i
theorem sumS_len (short : List Int) (cs : List (List Int)) : ∀ i, (sumS short cs i).length ≤ i
  | 0 => Nat.le_refl _
  | i + 1 => by
    have := sumS_len short cs i
    rw [sumS]
    split
    · simp; omega
    · omega
theorem sumS_at (short : List Int) (cs : List (List Int)) {i : Nat} (h : i < cs.length) : sumS short cs (i + 1) = if subS short cs[i] = true then sumS short cs i ++ [(i : Int)] else sumS short cs i := by
  rw [sumS, List.getD_eq_getElem?_getD, List.getElem?_eq_getElem h]; rfl
theorem subsumes_ok (short : List Int) (cs : List (List Int)) (hs : short.length ≤ 100000) (hc : fewC cs) : APure Tryz.prog 104 [.seq false 1 (irow short), .seq false 1 (cs.map crowF)] (fun r => r = .own true 1 (irow (sumS short cs cs.length))) := by
  refine apure1 hmo Tryz.func104 (by kernel_rfl) rfl rfl (by kernel_rfl) (Nat.le_of_ble_eq_true rfl) ?_
  have hc1 := hc.1
  simp
  refine ALoop.intro (S := fun (i : Nat) => ⟨[(0, .pv (.seq false 1 (irow short))), (1, .pv (.seq false 1 (cs.map crowF))), (5, .own true 1 (irow (sumS short cs i))), (8, .pv (.seq false 1 (cs.map crowF))), (9, .pv (I64 cs.length)), (10, .pv (I64 i))], []⟩) (fun i => i ≤ cs.length) (fun i => cs.length - i) 0 ?_ (Nat.zero_le _) ?_
  · exact (Weak.nilOwn (s := 5) 1 true (by simp)).trans (Weak.to (by simp [irow, sumS]) (by simp) (by simp) (by simp) (by simp))
  intro i hi
  by_cases h : i < cs.length
  · have hw : w64 ((i : Int) + 1) = ((i + 1 : Nat) : Int) := by rw [w64_id (by omega) (by omega)]; omega
    have hci := hc.2 _ (List.getElem_mem h)
    have hat := sumS_at short cs h
    have hlen := sumS_len short cs i
    simp [h, crowF]
    refine CallK.intro (subset_ok short cs[i] (by omega) (by omega)) (by simp) ?_
    cases c : subS short cs[i]
    · rw [c] at hat
      simp only [Bool.false_eq_true, if_false] at hat
      simp
      exact ⟨i + 1, by (try dsimp only); omega, by (try dsimp only); omega, Weak.to (by simp [hw, hat, crowF]) rfl (by simp) (by simp) (by simp)⟩
    · rw [c] at hat
      simp only [if_true] at hat
      simp
      exact ⟨by omega, i + 1, by (try dsimp only); omega, by (try dsimp only); omega, Weak.to (by simp [hw, hat, irow, crowF]) rfl (by simp) (by simp) (by simp)⟩
  · have hie : i = cs.length := by omega
    subst hie
    simp
def few16 (cs : List (List Int)) (l c : List Int) : Bool := few8 cs l && decide (cs.length ≤ 40) && decide (c.length ≤ 40)
theorem few16_few {cs : List (List Int)} {l c : List Int} (h : few16 cs l c = true) : fewC cs ∧ l.length ≤ 60 ∧ c.length ≤ 40 := by
  unfold few16 few8 few4 at h
  simp only [Bool.and_eq_true, decide_eq_true_eq, List.all_eq_true] at h
  exact ⟨⟨by omega, fun x hx => by have := h.1.1.1.1.2 x hx; omega⟩, by omega, by omega⟩
end Go.AX

namespace Go.AX
open Go.Proofs
set_option linter.unusedSimpArgs false

def cnt3 (l c : List Int) (v : Int) : Nat := (c.filter fun y => decide (val3 l y = v)).length
def opn3 (l c : List Int) : List Int := c.filter fun y => decide (0 ≤ litX y ∧ val3 l y ≠ 1 ∧ val3 l y ≠ -1)
theorem ct_gen (l : List Int) : ∀ (c : List Int) (a b z : Nat), a + c.length ≤ 1000000 → b + c.length ≤ 1000000 → z + c.length ≤ 1000000 →
    c.foldl (ctF l) ((a : Int), (b : Int), (z : Int)) = (((a + cnt3 l c 1 : Nat) : Int), ((b + cnt3 l c (-1) : Nat) : Int), ((z + (opn3 l c).length : Nat) : Int))
  | [], a, b, z, _, _, _ => by simp [cnt3, opn3]
  | y :: c, a, b, z, ha, hb, hz => by
    simp only [List.length_cons] at ha hb hz
    rw [List.foldl_cons]
    by_cases c1 : val3 l y = 1
    · have e : ctF l ((a : Int), (b : Int), (z : Int)) y = (((a + 1 : Nat) : Int), (b : Int), (z : Int)) := by
        unfold ctF; rw [if_pos c1, w64_id (by dsimp only; omega) (by dsimp only; omega)]; simp
      rw [e, ct_gen l c (a + 1) b z (by omega) (by omega) (by omega)]
      simp [cnt3, opn3, c1]; omega
    · by_cases c2 : val3 l y = -1
      · have e : ctF l ((a : Int), (b : Int), (z : Int)) y = ((a : Int), ((b + 1 : Nat) : Int), (z : Int)) := by
          unfold ctF; rw [if_neg c1, if_pos c2, w64_id (by dsimp only; omega) (by dsimp only; omega)]; simp
        rw [e, ct_gen l c a (b + 1) z (by omega) (by omega) (by omega)]
        simp [cnt3, opn3, c1, c2]; omega
      · by_cases c3 : 0 ≤ litX y
        · have e : ctF l ((a : Int), (b : Int), (z : Int)) y = ((a : Int), (b : Int), ((z + 1 : Nat) : Int)) := by
            unfold ctF; rw [if_neg c1, if_neg c2, if_pos c3, w64_id (by dsimp only; omega) (by dsimp only; omega)]; simp
          rw [e, ct_gen l c a b (z + 1) (by omega) (by omega) (by omega)]
          simp [cnt3, opn3, c1, c2, c3]; omega
        · have e : ctF l ((a : Int), (b : Int), (z : Int)) y = ((a : Int), (b : Int), (z : Int)) := by
            unfold ctF; rw [if_neg c1, if_neg c2, if_neg c3]
          rw [e, ct_gen l c a b z (by omega) (by omega) (by omega)]
          simp [cnt3, opn3, c1, c2, c3]
theorem val3_cases (l : List Int) (y : Int) : val3 l y = 0 ∨ val3 l y = 1 ∨ val3 l y = -1 := by
  unfold val3
  split
  · exact .inl rfl
  · split
    · exact .inr (.inl rfl)
    · split
      · exact .inr (.inr rfl)
      · exact .inl rfl
theorem op_gen (l : List Int) : ∀ (c : List Int) (n : Int), c.foldl (opF l) n = ((opn3 l c).getLast?).getD n
  | [], n => rfl
  | y :: c, n => by
    rw [List.foldl_cons, op_gen l c]
    have h3 := val3_cases l y
    by_cases c1 : 0 ≤ litX y ∧ val3 l y = 0
    · have e : opF l n y = y := by unfold opF; rw [if_pos c1]
      have e2 : opn3 l (y :: c) = y :: opn3 l c := by
        unfold opn3
        rw [List.filter_cons, if_pos (by rw [decide_eq_true_eq]; exact ⟨c1.1, by omega, by omega⟩)]
      rw [e, e2, List.getLast?_cons]
      rfl
    · have e : opF l n y = n := by unfold opF; rw [if_neg c1]
      have e2 : opn3 l (y :: c) = opn3 l c := by
        unfold opn3
        rw [List.filter_cons, if_neg (by rw [decide_eq_true_eq]; rintro ⟨a1, a2, a3⟩; exact c1 ⟨a1, by omega⟩)]
      rw [e, e2]
theorem unit_is {l c : List Int} (hc : c.length ≤ 1000) (hx : ∀ y ∈ c, 0 ≤ litX y) (h : (unitS l c).2 = true) : (unitS l c).1 ∈ c ∧ val3 l (unitS l c).1 = 0 ∧ ∀ y ∈ c, y ≠ (unitS l c).1 → val3 l y = -1 := by
  have hg := ct_gen l c 0 0 0 (by omega) (by omega) (by omega)
  have hct : ctS l c = (((0 + cnt3 l c 1 : Nat) : Int), ((0 + cnt3 l c (-1) : Nat) : Int), ((0 + (opn3 l c).length : Nat) : Int)) := hg
  have h0 : cnt3 l c 1 = 0 ∧ (opn3 l c).length = 1 ∧ (unitS l c).1 = c.foldl (opF l) 0 := by
    unfold unitS at h ⊢
    rw [hct] at h ⊢
    dsimp only at h ⊢
    by_cases e : ((0 + cnt3 l c 1 : Nat) : Int) ≠ 0 ∨ ((0 + (opn3 l c).length : Nat) : Int) ≠ 1
    · rw [if_pos e] at h; cases h
    · rw [if_neg e]
      refine ⟨by omega, by omega, rfl⟩
  obtain ⟨h1, h2, h3⟩ := h0
  obtain ⟨x, hx1⟩ := List.length_eq_one_iff.1 h2
  have h4 : (unitS l c).1 = x := by rw [h3, op_gen, hx1]; rfl
  have hxm : x ∈ opn3 l c := by rw [hx1]; simp
  have hxm' := hxm
  unfold opn3 at hxm'
  rw [List.mem_filter, decide_eq_true_eq] at hxm'
  rw [h4]
  have v3 := val3_cases l x
  refine ⟨hxm'.1, by omega, fun y hy hne => ?_⟩
  have hv := val3_cases l y
  have hn1 : val3 l y ≠ 1 := fun e => by
    have : y ∈ c.filter fun y => decide (val3 l y = 1) := by rw [List.mem_filter]; exact ⟨hy, by simpa using e⟩
    unfold cnt3 at h1
    rw [List.eq_nil_of_length_eq_zero h1] at this
    cases this
  rcases hv with hv | hv | hv
  · have : y ∈ opn3 l c := by
      unfold opn3
      rw [List.mem_filter, decide_eq_true_eq]
      exact ⟨hy, hx y hy, by omega, by omega⟩
    rw [hx1] at this
    simp at this
    exact absurd this hne
  · exact absurd hv hn1
  · exact hv
def ReaAt (cs : List (List Int)) (ats : List Int) (ls : List Int) (x : En) : Prop :=
  x.rea < 0 ∨ ∃ k, ∃ hk : k < cs.length, x.rea = ats.getD k 0 ∧ x.l ∈ cs[k] ∧ ∀ y ∈ cs[k], y ≠ x.l → w64 (-y) ∈ ls
def Rea (cs : List (List Int)) (ats : List Int) (t : RT) : Prop := ∀ i (hi : i < t.rows.length), ReaAt cs ats ((t.rows.take i).map (·.l)) t.rows[i]
theorem rea_app {cs : List (List Int)} {ats : List Int} {t : RT} (h : Rea cs ats t) {x : En} (hx : ReaAt cs ats (t.rows.map (·.l)) x) (v d : Int) : Rea cs ats ⟨v, t.rows ++ [x], d⟩ := by
  intro i hi
  have hi' : i < (t.rows ++ [x]).length := hi
  simp only [List.length_append, List.length_singleton] at hi'
  by_cases c : i < t.rows.length
  · have := h i c
    simp only [List.getElem_append_left c, List.take_append_of_le_length (Nat.le_of_lt c)]
    exact this
  · have e : i = t.rows.length := by omega
    subst e
    simp only [List.getElem_append_right (Nat.le_refl _), Nat.sub_self, List.getElem_cons_zero, List.take_left]
    exact hx
theorem rea_dec {cs : List (List Int)} {ats : List Int} {t : RT} (h : Rea cs ats t) (l : Int) : Rea cs ats (decR t l) := by
  unfold decR
  split
  · exact rea_app h (.inl (by show (-1 : Int) < 0; omega)) _ _
  · exact h
structure Cls6 (cs : List (List Int)) (ats : List Int) : Prop where
  len : ∀ c ∈ cs, c.length ≤ 1000
  chk : ∀ c ∈ cs, ∀ y ∈ c, litChk y 6 = 0
  pos : ∀ k, k < cs.length → 0 ≤ ats.getD k 0
theorem lit6 {y : Int} (h : litChk y 6 = 0) : y ≠ 0 ∧ -6 ≤ y ∧ y ≤ 6 ∧ 0 ≤ litX y ∧ w64 (-y) = -y := by
  obtain ⟨a, b, c⟩ := (litChk_zero (by omega)).1 h
  refine ⟨a, b, c, ?_, w64_id (by omega) (by omega)⟩
  rw [litX_nn]
  exact (okL_iff y).2 ⟨a, by omega, by omega⟩
theorem val3_m1 {l : List Int} {y : Int} (h : val3 l y = -1) : w64 (-y) ∈ l := by
  unfold val3 at h
  split at h
  · omega
  · split at h
    · omega
    · split at h
      · assumption
      · omega
theorem val3_0 {l : List Int} {y : Int} (hx : 0 ≤ litX y) (h : val3 l y = 0) : y ∉ l ∧ w64 (-y) ∉ l := by
  unfold val3 at h
  rw [if_neg (by omega)] at h
  split at h
  · omega
  · split at h
    · omega
    · exact ⟨by assumption, by assumption⟩
theorem may_free {T : Tr} {t : RT} (h : RelT T t) {x : Int} (hx : litChk x 6 = 0) (h1 : x ∉ t.rows.map (·.l)) (h2 : w64 (-x) ∉ t.rows.map (·.l)) : mayR t x = 0 := by
  unfold mayR
  rw [h.vars, if_neg (by simp [hx]), if_neg]
  intro hp
  obtain ⟨i, hi, _, e⟩ := plR_in hp
  obtain ⟨_, _, _, _, _, v1⟩ := litV_ok6 (h.ok _ (List.getElem_mem hi)).1
  obtain ⟨_, _, _, _, _, v2⟩ := litV_ok6 hx
  obtain ⟨_, _, _, _, w2⟩ := lit6 hx
  rw [v1, v2] at e
  have hm : t.rows[i].l ∈ t.rows.map (·.l) := List.mem_map.2 ⟨_, List.getElem_mem hi, rfl⟩
  have : t.rows[i].l = x ∨ t.rows[i].l = -x := by
    unfold absS at e
    split at e <;> split at e <;> omega
  rcases this with e1 | e1
  · exact h1 (e1 ▸ hm)
  · exact h2 (by rw [w2, ← e1]; exact hm)
theorem next_is {cs : List (List Int)} {ats l : List Int} (hc : Cls6 cs ats) (h : (nextS cs l).2.2 = true) : ∃ i, ∃ hi : i < cs.length, (nextS cs l).2.1 = (i : Int) ∧ (nextS cs l).1 ∈ cs[i] ∧ val3 l (nextS cs l).1 = 0 ∧ ∀ y ∈ cs[i], y ≠ (nextS cs l).1 → val3 l y = -1 := by
  unfold nextS at *
  split at h
  · rename_i i hf
    rw [List.findIdx?_eq_some_iff_getElem] at hf
    obtain ⟨h1, h2, _⟩ := hf
    have e : cs.getD i [] = cs[i] := by rw [List.getD_eq_getElem?_getD, List.getElem?_eq_getElem h1]; rfl
    dsimp only
    rw [e]
    have hm := List.getElem_mem h1
    exact ⟨i, h1, rfl, unit_is (hc.len _ hm) (fun y hy => (lit6 (hc.chk _ hm y hy)).2.2.2.1) h2⟩
  · cases h
theorem prop_add {cs : List (List Int)} {ats : List Int} (hc : Cls6 cs ats) : ∀ (k : Nat) (D : DK) (by' : List Int), RelD D.T D.t → Rea cs ats D.t →
    ∃ xs ys, (propF cs k (D.t.rows.map (·.l)) by').1 = D.t.rows.map (·.l) ++ xs ∧ (propF cs k (D.t.rows.map (·.l)) by').2.1 = by' ++ ys ∧ Rea cs ats (addL D (xs.zip (ys.map fun y => ats.getD y.toNat 0))).t
  | 0, D, by', _, hr => ⟨[], [], by simp [propF], by simp [propF], hr⟩
  | k + 1, D, by', hd, hr => by
    rw [propF_step]
    by_cases c1 : 0 ≤ failS cs (D.t.rows.map (·.l))
    · rw [if_pos c1]; exact ⟨[], [], by simp, by simp, hr⟩
    rw [if_neg c1]
    by_cases c2 : (nextS cs (D.t.rows.map (·.l))).2.2 = false
    · rw [if_pos c2]; exact ⟨[], [], by simp, by simp, hr⟩
    rw [if_neg c2]
    obtain ⟨i, hi, e1, e2, e3, e4⟩ := next_is hc (l := D.t.rows.map (·.l)) (by simpa using c2)
    generalize (nextS cs (D.t.rows.map (·.l))).1 = x at *
    rw [e1]
    have hm := List.getElem_mem hi
    have hx6 := hc.chk _ hm x e2
    obtain ⟨_, _, _, hx0, _⟩ := lit6 hx6
    obtain ⟨f1, f2⟩ := val3_0 hx0 e3
    have hmay := may_free hd.1 hx6 f1 f2
    have hwp := hc.pos i hi
    have hS : addS D x (ats.getD i 0) = ⟨D.A, impT D.T x (ats.getD i 0), D.a, ⟨D.t.vars, D.t.rows ++ [⟨x, D.t.dep, ats.getD i 0⟩], D.t.dep⟩, D.con⟩ := by
      unfold addS
      rw [if_neg (by omega)]
      have hE : impER D.t x (ats.getD i 0) = 0 := by
        unfold impER
        rw [if_neg (fun h => h hmay), if_neg (by omega)]
      unfold impR
      rw [if_pos hE]
    have hrel := addS_rel hd x (ats.getD i 0)
    have hr' : Rea cs ats (addS D x (ats.getD i 0)).t := by
      rw [hS]
      exact rea_app hr (.inr ⟨i, hi, rfl, e2, fun y hy hne => val3_m1 (e4 y hy hne)⟩) _ _
    obtain ⟨xs, ys, g1, g2, g3⟩ := prop_add hc k (addS D x (ats.getD i 0)) (by' ++ [(i : Int)]) hrel hr'
    have hrows : (addS D x (ats.getD i 0)).t.rows.map (·.l) = D.t.rows.map (·.l) ++ [x] := by rw [hS]; simp
    rw [hrows] at g1 g2
    refine ⟨x :: xs, (i : Int) :: ys, by rw [g1]; simp, by rw [g2]; simp, ?_⟩
    exact g3
theorem fol_rea {cs : List (List Int)} {ats : List Int} (hc : Cls6 cs ats) {D : DK} (hd : RelD D.T D.t) (hr : Rea cs ats D.t) : Rea cs ats (folS cs ats D).t := by
  obtain ⟨xs, ys, g1, g2, g3⟩ := prop_add hc (mostP cs + 1) D [] hd hr
  have e : folZ cs ats D.t = xs.zip (ys.map fun y => ats.getD y.toNat 0) := by
    unfold folZ propS
    rw [g1, g2, List.nil_append, List.drop_left' (by simp)]
  unfold folS
  rw [e]
  exact g3
theorem add_rea {cs : List (List Int)} {ats : List Int} {D : DK} (hr : Rea cs ats D.t) (l : Int) : Rea cs ats (addS D l (-1)).t := by
  unfold addS
  rw [if_pos (by omega)]
  exact rea_dec hr l
theorem setL_rea {cs : List (List Int)} {ats : List Int} (hc : Cls6 cs ats) (lits : List Int) {D : DK} (hd : RelD D.T D.t) (hr : Rea cs ats D.t) : ∀ i, Rea cs ats (setL cs ats lits D i).t
  | 0 => fol_rea hc hd hr
  | i + 1 => by
    have ih := setL_rea hc lits hd hr i
    have ir := setL_rel cs ats lits hd i
    rw [setL]
    split
    · exact ih
    · split
      · exact fol_rea hc (addS_rel ir _ _) (add_rea ih _)
      · exact ih
structure PK6 (x : PK) : Prop where
  al : x.ats.length = x.rows.length
  chk : ∀ c ∈ x.rows, c.length ≤ 1000 ∧ ∀ y ∈ c, litChk y 6 = 0
  at' : ∀ k (hk : k < x.rows.length), ∃ r ∈ x.a.rows, r.at' = x.ats.getD k 0 ∧ r.lits = x.rows[k]
theorem chkC6 {c : List Int} (h : chkC c 6 = 0) : c.length ≤ 1000 ∧ ∀ y ∈ c, litChk y 6 = 0 := by
  unfold chkC at h
  rw [if_neg (by omega)] at h
  split at h
  · omega
  · split at h
    · omega
    · rename_i h1 h2
      refine ⟨by omega, fun y hy => ?_⟩
      have h3 : (c.all fun x => inS x 6) = true := by simpa using h2
      have := List.all_eq_true.1 h3 y hy
      unfold litChk
      rw [if_neg (by omega), if_pos this]
theorem putL_6 (cs : List (List Int)) : ∀ i, PK6 (putL cs i)
  | 0 => ⟨rfl, by simp [putL], fun k hk => by simp [putL] at hk⟩
  | i + 1 => by
    have ih := putL_6 cs i
    rw [putL]
    generalize putL cs i = x at *
    generalize cs.getD i [] = c
    generalize ((i + 1 : Nat) : Int) = id
    obtain ⟨h1, h2, h3⟩ := ih
    by_cases e : putEA id c = 0 ∧ chkC c 6 = 0
    · obtain ⟨e1, e2⟩ := e
      unfold putK
      rw [if_pos ⟨e1, e2⟩, if_pos ⟨e1, e2⟩]
      unfold putRA putQA
      rw [if_pos e1, if_pos e1]
      refine ⟨by simp [h1], fun d hd => ?_, fun k hk => ?_⟩
      · rcases List.mem_append.1 hd with hd | hd
        · exact h2 d hd
        · simp at hd; subst hd; exact chkC6 e2
      · dsimp only at hk ⊢
        simp only [List.length_append, List.length_singleton] at hk
        by_cases c1 : k < x.rows.length
        · obtain ⟨r, r1, r2, r3⟩ := h3 k c1
          refine ⟨r, List.mem_append_left _ r1, ?_, by rw [List.getElem_append_left c1]; exact r3⟩
          rw [r2, List.getD_eq_getElem?_getD, List.getD_eq_getElem?_getD, List.getElem?_append_left (by omega)]
        · have ek : k = x.rows.length := by omega
          subst ek
          refine ⟨⟨x.a.size, id, c⟩, by simp, ?_, by simp⟩
          rw [← h1, List.getD_eq_getElem?_getD, List.getElem?_append_right (Nat.le_refl _)]
          simp
    · unfold putK
      rw [if_neg e, if_neg e]
      refine ⟨h1, h2, fun k hk => ?_⟩
      obtain ⟨r, r1, r2, r3⟩ := h3 k hk
      refine ⟨r, ?_, r2, r3⟩
      dsimp only
      unfold putRA
      split
      · exact List.mem_append_left _ r1
      · exact r1
theorem relA_lits {A : Ar} {a : RA} (h : RelA A a) {r : Ro} (hr : r ∈ a.rows) : isA A r.at' = true ∧ litsA A r.at' = r.lits := by
  obtain ⟨p, e1, e2, e3, e4, _⟩ := h.rows r hr
  rw [e1]
  refine ⟨e4, ?_⟩
  unfold litsA
  rw [if_pos e4, Int.toNat_natCast, e2.num, Int.toNat_natCast]
  exact e3
def DkR (D : DK) : Prop := ∀ i (hi : i < D.t.rows.length), D.t.rows[i].rea < 0 ∨ (isA D.A D.t.rows[i].rea = true ∧ D.t.rows[i].l ∈ litsA D.A D.t.rows[i].rea ∧ ∀ y ∈ litsA D.A D.t.rows[i].rea, litChk y 6 = 0 ∧ (y ≠ D.t.rows[i].l → w64 (-y) ∈ (D.t.rows.take i).map (·.l)))
theorem setS_dkR {cs : List (List Int)} (hc : fewC cs) (lits : List Int) : DkR (setS cs lits) := by
  have hp := putL_ok hc cs.length (Nat.le_refl _)
  have h6 := putL_6 cs cs.length
  have hrelA := setS_relA hc lits
  obtain ⟨hA, ha⟩ := setL_A (putL cs cs.length).rows (putL cs cs.length).ats lits (begD (putL cs cs.length)) lits.length
  have hcl : Cls6 (putL cs cs.length).rows (putL cs cs.length).ats := ⟨fun c hc => (h6.chk c hc).1, fun c hc => (h6.chk c hc).2, fun k hk => by
    rw [List.getD_eq_getElem?_getD, List.getElem?_eq_getElem (by rw [h6.al]; exact hk)]
    exact hp.pos _ (List.getElem_mem _)⟩
  have hrea : Rea (putL cs cs.length).rows (putL cs cs.length).ats (setS cs lits).t := setL_rea hcl lits (D := begD (putL cs cs.length)) relD_new (fun i hi => by simp [begD] at hi) lits.length
  have hA' : (setS cs lits).A = (putL cs cs.length).A := hA
  have ha' : (setS cs lits).a = (putL cs cs.length).a := ha
  intro i hi
  rcases hrea i hi with h | ⟨k, hk, e1, e2, e3⟩
  · exact .inl h
  · right
    obtain ⟨r, r1, r2, r3⟩ := h6.at' k hk
    rw [← ha'] at r1
    obtain ⟨q1, q2⟩ := relA_lits hrelA r1
    rw [r2, ← e1] at q1 q2
    rw [r3] at q2
    rw [q2]
    exact ⟨q1, e2, fun y hy => ⟨hcl.chk _ (List.getElem_mem hk) y hy, e3 y hy⟩⟩
end Go.AX

namespace Go.AX
open Go.Proofs
set_option linter.unusedSimpArgs false

structure DeskOk (D : DK) : Prop where
  rel : RelD D.T D.t
  relA : RelA D.A D.a
  rea : DkR D
  len : D.A.row.length ≤ 1000000
theorem setS_ok {cs : List (List Int)} (hc : fewC cs) (lits : List Int) : DeskOk (setS cs lits) := by
  refine ⟨setS_rel cs lits, setS_relA hc lits, setS_dkR hc lits, ?_⟩
  obtain ⟨hA, _⟩ := setL_A (putL cs cs.length).rows (putL cs cs.length).ats lits (begD (putL cs cs.length)) lits.length
  have hA' : (setS cs lits).A = (putL cs cs.length).A := hA
  rw [hA']
  have := (putL_ok hc cs.length (Nat.le_refl _)).len
  have := hc.1
  omega
theorem rea_in {D : DK} (h : RelT D.T D.t) {v : Int} (hr : 0 ≤ (ofT D.T v).1.rea) : ∃ i, ∃ hi : i < D.t.rows.length, plR D.t v = i ∧ litV D.t.rows[i].l = v ∧ (ofT D.T v).1.rea = D.t.rows[i].rea ∧ (ofT D.T v).1.pla = i := by
  obtain ⟨_, e2, e3⟩ := relT_of h v
  rw [e2] at hr ⊢
  unfold ofR at hr ⊢
  by_cases c : plR D.t v < 0
  · rw [if_pos c] at hr; dsimp only at hr; omega
  · obtain ⟨i, hi, p1, p2⟩ := plR_in (t := D.t) (v := v) (by omega)
    refine ⟨i, hi, p1, p2, ?_, by rw [e3, p1]⟩
    rw [if_neg c, p1, Int.toNat_natCast, List.getD_eq_getElem?_getD, List.getElem?_eq_getElem hi]
    rfl
theorem isA_hd {A : Ar} {q : Int} (h : isA A q = true) : A.hd ≠ [] := fun e => by
  unfold isA at h
  rw [e] at h
  simp [lk] at h
theorem DeskOk.sh {D : DK} (h : DeskOk D) {c : List Int} (hc : c.length ≤ 1000000) : ShOk D.A D.T c where
  tr := h.rel.1.okT
  ar := fun q hq => by
    obtain ⟨x, hx, e⟩ := h.relA.is q hq
    obtain ⟨p, e1, e2, _⟩ := h.relA.rows x hx
    exact ⟨p, _, by rw [← e, e1], e2⟩
  len := h.len
  few := hc
  hd := fun v hv => by
    obtain ⟨i, hi, _, _, e, _⟩ := rea_in h.rel.1 hv
    rcases h.rea i hi with h1 | ⟨h1, _⟩
    · omega
    · exact isA_hd h1
theorem idxS_lt {α : Type} {p : α → Bool} : ∀ {l : List α} {j : Nat} (hj : j < l.length), p l[j] = true → 0 ≤ idxS p l ∧ idxS p l ≤ j := by
  intro l j hj h
  unfold idxS
  cases hf : l.findIdx? p with
  | none =>
    rw [List.findIdx?_eq_none_iff] at hf
    have := hf _ (List.getElem_mem hj)
    rw [h] at this; cases this
  | some i =>
    rw [List.findIdx?_eq_some_iff_getElem] at hf
    obtain ⟨h1, h2, h3⟩ := hf
    dsimp only
    refine ⟨by omega, ?_⟩
    apply Int.ofNat_le.2
    apply Nat.le_of_not_lt
    intro hlt
    exact h3 j hlt h
theorem oth_in {D : DK} (h : DeskOk D) {l : Int} (hb : othB D.A D.T l = true) : ∃ i, ∃ hi : i < D.t.rows.length, plaT D.T l = i ∧ D.t.rows[i].l = w64 (-l) ∧ litChk l 6 = 0 ∧ (ofT D.T (litV l)).1.rea = D.t.rows[i].rea ∧ 0 ≤ D.t.rows[i].rea := by
  unfold othB at hb
  simp only [Bool.not_eq_true', Bool.or_eq_false_iff, decide_eq_false_iff_not] at hb
  obtain ⟨⟨b1, b2⟩, _⟩ := hb
  obtain ⟨i, hi, p1, p2, p3, p4⟩ := rea_in h.rel.1 (v := litV l) (by omega)
  refine ⟨i, hi, p4, ?_, ?_, p3, by omega⟩
  all_goals
    have hlen : ((D.T.marks.length : Nat) : Int) - 1 = 6 := by rw [h.rel.1.len]; rfl
    have hmk := h.rel.1.mark _ i hi p1
    unfold valT at b1
    rw [hlen, hmk] at b1
    by_cases c : litChk l 6 = 0
    rotate_left
    · rw [if_pos c] at b1; omega
  · rw [if_neg (fun e => e c)] at b1
    obtain ⟨_, _, _, _, w⟩ := lit6 c
    obtain ⟨_, _, r0, _, _, v1⟩ := litV_ok6 (h.rel.1.ok _ (List.getElem_mem hi)).1
    obtain ⟨_, _, l0, _, _, v2⟩ := litV_ok6 c
    rw [v1, v2] at p2
    rw [w]
    unfold absS at p2
    dsimp only at b1
    have w1 : w64 (-1) = -1 := by decide
    have w2 : w64 (- -1) = 1 := by decide
    by_cases e1 : l < 0
    · rw [if_pos e1] at b1 p2
      by_cases e2 : D.t.rows[i].l < 0
      · rw [if_pos e2, w2] at b1; omega
      · rw [if_neg e2] at p2; omega
    · rw [if_neg e1] at b1 p2
      by_cases e2 : D.t.rows[i].l < 0
      · rw [if_pos e2] at p2; omega
      · rw [if_neg e2] at b1; omega
  · exact c
theorem shoS_sub (A : Ar) (T : Tr) (c : List Int) : List.Sublist (shoS A T c) c := by
  have h : List.Sublist (c.take 1 ++ delS (deepQ A T c) (c.drop 1)) (c.take 1 ++ c.drop 1) := List.Sublist.append (List.Sublist.refl _) List.filter_sublist
  rw [List.take_append_drop] at h
  exact h
end Go.AX

namespace Go.AX
open Go.Proofs
set_option linter.unusedSimpArgs false

@[simp ↓ high] theorem AGs_true {P : Program} {st : St} {Gd : Prop} {o : Op} {d : Option Tmp} {K : St → Prop} (h : Gd) : AGs P st Gd o d K = AE P st o d K :=
  propext ⟨fun x => x.1 h, fun x => ⟨fun _ => x, fun hn => absurd h hn⟩⟩
theorem selfNN_ok (t : PV) (l : Int) : APure Tryz.prog 102 [.lit (.pointer none), t, .lit (.slice none 0 0), I64 l] (fun r => r = .pv (BL false)) := by
  refine apure1 hmo Tryz.func102 (by kernel_rfl) rfl rfl (by kernel_rfl) (Nat.le_of_ble_eq_true rfl) ?_
  simp
def shD : DK := setS [[-1, 2], [-2, 4]] [1, 3]
theorem shD_1 : shoS shD.A shD.T [-3, -4, -1] = [-3, -1] := by kernel_rfl
theorem shD_2 : selfS shD.A shD.T [-3, -2, -1] (-2) = true := by kernel_rfl
theorem shD_3 : selfS shD.A shD.T [-3, -4, -1] (-4) = false := by kernel_rfl
theorem shD_4 : deepQ shD.A shD.T [-3, -4, -1] (-4) = true := by kernel_rfl
theorem shD_5 : deepQ shD.A shD.T [-3, -4] (-4) = false := by kernel_rfl
theorem shD_6 : deepQ shD.A shD.T [-1] (-1) = false := by kernel_rfl
theorem shD_7 : sumS [1] [[2], [2, 1]] 2 = [1] := by kernel_rfl
theorem RelD.lits_few {T : Tr} {t : RT} (h : RelD T t) : T.lits.length ≤ 1000000 := by
  have := h.1.few
  rw [h.1.lits, List.length_map]; omega
set_option maxRecDepth 16000 in
theorem shAwake_ok : APure Tryz.prog 42 [] (fun r => r = .pv (BL true)) := by
  refine apure1 hmo Tryz.func42 (by kernel_rfl) rfl rfl (by kernel_rfl) (Nat.le_of_ble_eq_true rfl) ?_
  have hset := dset_ok [] [[-1, 2], [-2, 4]] [1, 3] ⟨by decide, by decide⟩ (by decide)
  have hok := setS_ok (cs := [[-1, 2], [-2, 4]]) ⟨by decide, by decide⟩ [1, 3]
  have e1 := shD_1
  have e2 := shD_2
  have e3 := shD_3
  have e4 := shD_4
  have e5 := shD_5
  have e6 := shD_6
  unfold shD at e1 e2 e3 e4 e5 e6
  generalize setS [[-1, 2], [-2, 4]] [1, 3] = D at *
  have hs := fun (c : List Int) (hc : c.length ≤ 1000000) => hok.sh hc
  have hlf := hok.rel.lits_few
  have g1 := shorten_ok D.A D.T [-3, -4, -1] (hs _ (by decide)) hlf
  rw [e1] at g1
  have slf := fun (c : List Int) (hc : c.length ≤ 1000000) (l : Int) => self_ok D.A D.T c l hc (hs c hc).tr (hs c hc).ar (hs c hc).len ((hs c hc).hd _)
  have g2 := slf [-3, -2, -1] (by decide) (-2)
  have g3 := slf [-3, -4, -1] (by decide) (-4)
  rw [e2] at g2
  rw [e3] at g3
  have g4 := deepE_ok D.A D.T [-3, -4, -1] (-4) (hs _ (by decide)) hlf
  have g5 := deepE_ok D.A D.T [-3, -4] (-4) (hs _ (by decide)) hlf
  have g6 := deepE_ok D.A D.T [-1] (-1) (hs _ (by decide)) hlf
  rw [e4] at g4
  rw [e5] at g5
  rw [e6] at g6
  have g7 := subsumes_ok [1] [[2], [2, 1]] (by decide) ⟨by decide, by decide⟩
  have e7 : sumS [1] [[2], [2, 1]] ([[2], [2, 1]] : List (List Int)).length = [1] := shD_7
  rw [e7] at g7
  have g8 := selfNN_ok (trP D.T) 1
  have g9 := shortenN_ok [5, 6] (by decide)
  have hS1 := sameInts_ok [-3, -1] [-3, -1] (by decide)
  have hS2 := sameInts_ok [1] [1] (by decide)
  have hS3 := sameInts_ok [5, 6] [5, 6] (by decide)
  have hf : ∀ a b c d, frzP [a, b, c, trB D.T, d] 3 3 0 = trP D.T := fun a b c d => frz_tr0 rfl 2
  have hfa : ∀ a b c d, frzP [a, arB D.A, b, c, d] 3 1 0 = arP D.A := fun a b c d => frz_ar0 rfl 2
  simp
  refine CallK.introE hset (by simp) rfl (by simp) (by simp) (by simp [wkAL, wkA, wkRR, wkPL, wkP, irow, crowF]) ?_
  rintro _ _ ⟨rfl, rfl⟩
  simp [dkA, dkB]
  rw [hf, hfa]
  refine CallB.introP g1 (by simp) (by simp) ?_
  simp
  refine CallK.intro hS1 (by simp) ?_
  simp
  rw [hf, hfa]
  refine CallB.introP g2 (by simp) (by simp) ?_
  simp
  rw [hf, hfa]
  refine CallB.introP g3 (by simp) (by simp) ?_
  simp
  rw [hf, hfa]
  refine CallB.introP g4 (by simp) (by simp) ?_
  simp
  rw [hf, hfa]
  refine CallB.introP g5 (by simp) (by simp) ?_
  simp
  rw [hf, hfa]
  refine CallB.introP g6 (by simp) (by simp) ?_
  simp
  refine CallG.intro (fun _ => g7) (by simp) ?_
  simp
  refine CallG.intro (fun _ => hS2) (by simp) ?_
  simp
  rw [hf]
  refine CallB.introP g8 (by simp) (by simp) ?_
  simp
  refine CallG.intro (fun _ => g9) (by simp) ?_
  simp
  refine CallG.intro (fun _ => hS3) (by simp) ?_
  simp
def dkBs (D : DK) : List (List SV) := [[.pv (.ptr 1 0), .pv (.ptr 3 0), .pv (.seq false 5 (D.a.rows.map roR)), .pv (I64 D.a.size), .pv (I64 D.t.vars), .pv (.seq false 3 (D.t.rows.map enR)), .pv (I64 D.t.dep), .pv (I64 D.con)], arB D.A, [.pv (.ptr 1 0), .pv (.ptr 3 0), .pv (.seq false 5 (D.a.rows.map roR)), .pv (I64 D.a.size), .pv (I64 D.t.vars), .pv (.seq false 3 (D.t.rows.map enR)), .pv (I64 D.t.dep), .pv (I64 D.con)], trB D.T, [.pv (.ptr 1 0), .pv (.ptr 3 0), .pv (.seq false 5 (D.a.rows.map roR)), .pv (I64 D.a.size), .pv (I64 D.t.vars), .pv (.seq false 3 (D.t.rows.map enR)), .pv (I64 D.t.dep), .pv (I64 D.con)]]
end Go.AX

namespace Go.AX
open Go.Proofs
set_option linter.unusedSimpArgs false

instance : Inhabited Ro := ⟨⟨0, 0, []⟩⟩
def findA (a : RA) (q : Int) : Int := idxS (fun x : Ro => decide (x.at' = q)) a.rows
theorem refFind_ok (a : RA) (q : Int) (ha : a.rows.length ≤ 1000000) : APure Tryz.prog 44 [raV a, I64 q] (fun r => r = .pv (I64 (findA a q))) := by
  refine apure1 hmo Tryz.func44 (by kernel_rfl) rfl rfl (by kernel_rfl) (Nat.le_of_ble_eq_true rfl) ?_
  simp [raV]
  refine ALoop.intro (S := fun (i : Nat) => ⟨[(1, .pv (I64 q)), (2, .pv (.ptr 0 0)), (5, .pv (I64 i))], [[.pv (.seq false 5 (a.rows.map roR)), .pv (I64 a.size)]]⟩) (fun i => i ≤ a.rows.length ∧ ∀ j (hj : j < a.rows.length), j < i → decide (a.rows[j].at' = q) = false) (fun i => a.rows.length - i) 0 ?_ ⟨Nat.zero_le _, fun j _ h => absurd h (Nat.not_lt_zero _)⟩ ?_
  · exact Weak.to (by simp) (by simp) (by simp) (by simp) (by simp)
  rintro i ⟨hi, ho⟩
  by_cases h : i < a.rows.length
  · have hw : w64 ((i : Int) + 1) = ((i + 1 : Nat) : Int) := by rw [w64_id (by omega) (by omega)]; omega
    by_cases c : a.rows[i].at' = q
    · have hF : findA a q = i := idxS_at h ho (by simpa using c)
      simp [h, roR, c, hF]
    · simp [h, roR, c]
      refine ⟨i + 1, by (try dsimp only); omega, ⟨by (try dsimp only); omega, fun j hj hji => ?_⟩, Weak.to (by simp [hw, roR]) (by simp) (by simp) (by simp) (by simp)⟩
      by_cases e : j = i
      · subst e; simpa using c
      · simpa using ho j hj (by omega)
  · have hie : i = a.rows.length := by omega
    subst hie
    have hF : findA a q = -1 := idxS_none fun j hj => ho j hj hj
    simp [hF]
def litsD (a : RA) (q : Int) : List Int := (a.rows.getD (findA a q).toNat default).lits
end Go.AX

namespace Go.AX
open Go.Proofs
set_option linter.unusedSimpArgs false

def bR (b : Bool) : List PV := [BL b]
@[simp] theorem belowR_bR (k : Nat) : ∀ l : List Bool, belowR k (l.map bR)
  | [] => trivial
  | _ :: l => ⟨⟨trivial, trivial⟩, belowR_bR k l⟩
@[simp] theorem nwR_bR : ∀ l : List Bool, nwR (l.map bR)
  | [] => trivial
  | _ :: l => ⟨⟨trivial, trivial⟩, nwR_bR l⟩
@[simp] theorem frzR_bR (r : Nat → Nat → PV) : ∀ l : List Bool, frzR r (l.map bR) = l.map bR
  | [] => rfl
  | _ :: l => by rw [List.map_cons, frzR, frzR_bR r l]; rfl
end Go.AX

namespace Go.AX
open Go.Proofs
set_option linter.unusedSimpArgs false

theorem findA_is {A : Ar} {a : RA} (h : RelA A a) (q : Int) : (isA A q = true → 0 ≤ findA a q ∧ litsD a q = litsA A q) ∧ (isA A q = false → findA a q < 0) := by
  constructor
  · intro hq
    unfold litsD
    unfold findA idxS
    split
    · rename_i j hj
      rw [List.findIdx?_eq_some_iff_getElem] at hj
      obtain ⟨h1, h2, _⟩ := hj
      obtain ⟨_, r2⟩ := relA_lits h (List.getElem_mem h1)
      have e : a.rows[j].at' = q := by simpa using h2
      rw [e] at r2
      refine ⟨by omega, ?_⟩
      rw [Int.toNat_natCast, List.getD_eq_getElem?_getD, List.getElem?_eq_getElem h1]
      exact r2.symm
    · rename_i hj
      rw [List.findIdx?_eq_none_iff] at hj
      obtain ⟨x, hx, e⟩ := h.is q hq
      have := hj x hx
      simp [e] at this
  · intro hq
    unfold findA idxS
    split
    · rename_i j hj
      rw [List.findIdx?_eq_some_iff_getElem] at hj
      obtain ⟨h1, h2, _⟩ := hj
      obtain ⟨r1, _⟩ := relA_lits h (List.getElem_mem h1)
      have e : a.rows[j].at' = q := by simpa using h2
      rw [e, hq] at r1
      cases r1
    · omega
theorem litV_neg (l : Int) : litV (-l) = litV l := by
  unfold litV
  rw [okL_neg]
  unfold absS
  split
  · split <;> split <;> omega
  · rfl
theorem litChk_neg6 {l : Int} (h : litChk l 6 = 0) : litChk (-l) 6 = 0 := by
  obtain ⟨a, b, c⟩ := (litChk_zero (by omega)).1 h
  exact (litChk_zero (by omega)).2 ⟨by omega, by omega, by omega⟩
theorem valT_at {D : DK} (h : RelT D.T D.t) {l : Int} (hl : litChk l 6 = 0) {i : Nat} (hi : i < D.t.rows.length) (hp : plR D.t (litV l) = i) : (D.t.rows[i].l = -l ∧ valT D.T l = -1) ∨ (D.t.rows[i].l = l ∧ valT D.T l = 1) := by
  have hlen : ((D.T.marks.length : Nat) : Int) - 1 = 6 := by rw [h.len]; rfl
  have hmk := h.mark _ i hi hp
  obtain ⟨j, hj, p1, p2⟩ := plR_in (t := D.t) (v := litV l) (by omega)
  have hji : j = i := by omega
  subst hji
  obtain ⟨_, _, r0, _, _, v1⟩ := litV_ok6 (h.ok _ (List.getElem_mem hi)).1
  obtain ⟨_, _, l0, _, _, v2⟩ := litV_ok6 hl
  rw [v1, v2] at p2
  unfold valT
  rw [hlen, hmk, if_neg (fun e => e hl)]
  unfold absS at p2
  dsimp only
  have w1 : w64 (-1) = -1 := by decide
  have w2 : w64 (- -1) = 1 := by decide
  by_cases e1 : l < 0
  · rw [if_pos e1] at p2 ⊢
    by_cases e2 : D.t.rows[j].l < 0
    · rw [if_pos e2] at p2 ⊢; rw [w2]; exact .inr ⟨by omega, rfl⟩
    · rw [if_neg e2] at p2 ⊢; rw [w1]; exact .inl ⟨by omega, rfl⟩
  · rw [if_neg e1] at p2 ⊢
    by_cases e2 : D.t.rows[j].l < 0
    · rw [if_pos e2] at p2 ⊢; exact .inl ⟨by omega, rfl⟩
    · rw [if_neg e2] at p2 ⊢; exact .inr ⟨by omega, rfl⟩
theorem valT_none {D : DK} (h : RelT D.T D.t) {l : Int} (hv : valT D.T l ≠ 0) : litChk l 6 = 0 ∧ ∃ i, ∃ hi : i < D.t.rows.length, plR D.t (litV l) = i := by
  have hlen : ((D.T.marks.length : Nat) : Int) - 1 = 6 := by rw [h.len]; rfl
  unfold valT at hv
  rw [hlen] at hv
  by_cases c : litChk l 6 = 0
  · refine ⟨c, ?_⟩
    rw [if_neg (fun e => e c)] at hv
    by_cases d : 0 ≤ plR D.t (litV l)
    · obtain ⟨i, hi, e, _⟩ := plR_in d
      exact ⟨i, hi, e⟩
    · rw [h.free _ (by omega)] at hv
      have w0 : w64 (-0) = 0 := by decide
      split at hv
      · exact absurd w0 hv
      · exact absurd rfl hv
  · rw [if_pos c] at hv
    exact absurd rfl hv
end Go.AX

namespace Go.AX
open Go.Proofs
set_option linter.unusedSimpArgs false

theorem cl_gen (l : List Int) : ∀ (c : List Int) (n : Int), -1 ≤ n → n ≤ c.foldl (clF l) n ∧ (c.foldl (clF l) n = -1 ↔ n = -1 ∧ ∀ y ∈ c, 0 ≤ litX y → val3 l y = -1)
  | [], n, h => by simp
  | y :: c, n, h => by
    have h3 := val3_cases l y
    rw [List.foldl_cons]
    by_cases q : 0 ≤ litX y ∧ n < val3 l y
    · have e : clF l n y = val3 l y := by unfold clF; rw [if_pos q]
      rw [e]
      obtain ⟨g1, g2⟩ := cl_gen l c (val3 l y) (by omega)
      refine ⟨by omega, ?_⟩
      constructor
      · intro hh; omega
      · rintro ⟨a1, a2⟩
        have := a2 y (List.mem_cons_self ..) q.1
        omega
    · have e : clF l n y = n := by unfold clF; rw [if_neg q]
      rw [e]
      obtain ⟨g1, g2⟩ := cl_gen l c n h
      refine ⟨g1, ?_⟩
      rw [g2]
      constructor
      · rintro ⟨a1, a2⟩
        refine ⟨a1, fun z hz hx => ?_⟩
        rcases List.mem_cons.1 hz with rfl | hz
        · omega
        · exact a2 z hz hx
      · rintro ⟨a1, a2⟩
        exact ⟨a1, fun z hz => a2 z (List.mem_cons_of_mem _ hz)⟩
theorem clS_m1 {l c : List Int} : clS l c = -1 ↔ ∀ y ∈ c, 0 ≤ litX y → val3 l y = -1 := by
  have := (cl_gen l c (-1) (by omega)).2
  unfold clS
  rw [this]
  exact ⟨fun h => h.2, fun h => ⟨rfl, h⟩⟩
theorem opn3_one {l : List Int} {x : Int} (hv : val3 l x = 0) (hx0 : 0 ≤ litX x) : ∀ {c : List Int}, c.Nodup → x ∈ c → (∀ y ∈ c, y ≠ x → val3 l y = -1) → opn3 l c = [x]
  | [], _, h, _ => by cases h
  | y :: c, hn, hm, ho => by
    rw [List.nodup_cons] at hn
    unfold opn3
    by_cases e : y = x
    · subst e
      rw [List.filter_cons, if_pos (by rw [decide_eq_true_eq]; exact ⟨hx0, by omega, by omega⟩)]
      congr 1
      rw [List.filter_eq_nil_iff]
      intro z hz
      have := ho z (List.mem_cons_of_mem _ hz) (fun e => hn.1 (e ▸ hz))
      simp [this]
    · have hy := ho y (List.mem_cons_self ..) e
      rw [List.filter_cons, if_neg (by simp [hy])]
      rcases List.mem_cons.1 hm with rfl | hm
      · exact absurd rfl e
      · exact opn3_one hv hx0 hn.2 hm (fun z hz => ho z (List.mem_cons_of_mem _ hz))
theorem unit_of {l c : List Int} {x : Int} (hc : c.length ≤ 1000) (hn : c.Nodup) (hm : x ∈ c) (hx0 : 0 ≤ litX x) (hv : val3 l x = 0) (ho : ∀ y ∈ c, y ≠ x → val3 l y = -1) : unitS l c = (x, true) := by
  have hg := ct_gen l c 0 0 0 (by omega) (by omega) (by omega)
  have hct : ctS l c = (((0 + cnt3 l c 1 : Nat) : Int), ((0 + cnt3 l c (-1) : Nat) : Int), ((0 + (opn3 l c).length : Nat) : Int)) := hg
  have h1 := opn3_one hv hx0 hn hm ho
  have h2 : cnt3 l c 1 = 0 := by
    unfold cnt3
    rw [List.length_eq_zero_iff, List.filter_eq_nil_iff]
    intro y hy
    by_cases e : y = x
    · subst e; simp [hv]
    · simp [ho y hy e]
  unfold unitS
  rw [hct, h1, h2, op_gen, h1]
  simp

structure ClsN (cs : List (List Int)) (ats : List Int) : Prop extends Cls6 cs ats where
  nd : ∀ c ∈ cs, c.Nodup
def Calm (cs : List (List Int)) (ls : List Int) : Prop := ∀ c ∈ cs, (unitS ls c).2 = false ∧ clS ls c ≠ -1
def litsT (t : RT) : List Int := t.rows.map (·.l)
def bel (t : RT) (k : Int) : List Int := (t.rows.filter fun x => decide (x.lev < k)).map (·.l)
inductive Tra (cs : List (List Int)) (ats : List Int) : RT → Prop
  | nil : Tra cs ats ⟨6, [], 0⟩
  | dec {t : RT} {l : Int} : Tra cs ats t → mayR t l = 0 → Calm cs (litsT t) → Tra cs ats ⟨t.vars, t.rows ++ [⟨l, t.dep + 1, -1⟩], t.dep + 1⟩
  | imp {t : RT} {k : Nat} {x : Int} (hk : k < cs.length) : Tra cs ats t → mayR t x = 0 → unitS (litsT t) cs[k] = (x, true) → Tra cs ats ⟨t.vars, t.rows ++ [⟨x, t.dep, ats.getD k 0⟩], t.dep⟩

theorem bel_all {t : RT} (h : ∀ x ∈ t.rows, x.lev ≤ t.dep) : bel t (t.dep + 1) = litsT t := by
  unfold bel litsT
  rw [List.filter_eq_self.2]
  intro x hx
  have := h x hx
  simp; omega
theorem bel_sub {t : RT} {k : Int} : ∀ y ∈ bel t k, y ∈ litsT t := by
  intro y hy
  unfold bel at hy
  obtain ⟨x, hx, rfl⟩ := List.mem_map.1 hy
  exact List.mem_map.2 ⟨x, (List.mem_filter.1 hx).1, rfl⟩
theorem may_of {t : RT} {l : Int} (h : mayR t l = 0) : litChk l t.vars = 0 ∧ plR t (litV l) < 0 := by
  unfold mayR at h
  split at h
  · cases h
  · rename_i c1
    split at h
    · cases h
    · exact ⟨by simpa using c1, by omega⟩
theorem plR_neg {t : RT} {v : Int} (h : plR t v < 0) : ∀ x ∈ t.rows, litV x.l ≠ v := by
  intro x hx e
  obtain ⟨j, hj, rfl⟩ := List.getElem_of_mem hx
  have := idxS_lt (p := fun x : En => decide (litV x.l = v)) hj (by simp [e])
  unfold plR at h
  omega
structure TraF (cs : List (List Int)) (ats : List Int) (t : RT) : Prop where
  vars : t.vars = 6
  dep : 0 ≤ t.dep
  chk : ∀ x ∈ t.rows, litChk x.l 6 = 0
  nd : (t.rows.map fun x => litV x.l).Nodup
  lev : ∀ x ∈ t.rows, 0 ≤ x.lev ∧ x.lev ≤ t.dep
  mono : ∀ i j (hi : i < t.rows.length) (hj : j < t.rows.length), i < j → t.rows[i].lev ≤ t.rows[j].lev
  dec : ∀ i (hi : i < t.rows.length), t.rows[i].rea < 0 → 0 < t.rows[i].lev ∧ ∀ j (hj : j < t.rows.length), j < i → t.rows[j].lev < t.rows[i].lev
  top : 0 < t.dep → Calm cs (bel t t.dep)
  fst : ∀ k : Int, 0 < k → k ≤ t.dep → ∃ x ∈ t.rows, x.lev = k ∧ x.rea < 0
  imp : ∀ i (hi : i < t.rows.length), 0 ≤ t.rows[i].rea → ∃ k, ∃ hk : k < cs.length, t.rows[i].rea = ats.getD k 0 ∧ t.rows[i].l ∈ cs[k] ∧ (∀ y ∈ cs[k], y ≠ t.rows[i].l → ∃ j, ∃ hj : j < t.rows.length, j < i ∧ t.rows[j].l = -y) ∧
    (0 < t.rows[i].lev → ∃ y ∈ cs[k], y ≠ t.rows[i].l ∧ ∃ j, ∃ hj : j < t.rows.length, j < i ∧ t.rows[j].l = -y ∧ t.rows[j].lev = t.rows[i].lev)
theorem fst_append {α : Type} {l : List α} {x : α} {i : Nat} (h : i < (l ++ [x]).length) : (∃ hi : i < l.length, (l ++ [x])[i] = l[i]) ∨ (i = l.length ∧ (l ++ [x])[i] = x) := by
  by_cases c : i < l.length
  · exact .inl ⟨c, List.getElem_append_left c⟩
  · have : i = l.length := by simp at h; omega
    subst this
    exact .inr ⟨rfl, by simp⟩
theorem tra_app {cs : List (List Int)} {ats : List Int} {t : RT} (h : TraF cs ats t) {x : En} (hx : mayR t x.l = 0) {d : Int} (hd : x.lev = d) (hdt : t.dep ≤ d) (hdd : d ≤ t.dep + 1)
    (hdec : x.rea < 0 → d = t.dep + 1) (himp : 0 ≤ x.rea → d = t.dep) (htop : d = t.dep + 1 → Calm cs (litsT t))
    (hfst : d = t.dep + 1 → x.rea < 0)
    (hi2 : 0 ≤ x.rea → ∃ k, ∃ hk : k < cs.length, x.rea = ats.getD k 0 ∧ x.l ∈ cs[k] ∧ (∀ y ∈ cs[k], y ≠ x.l → ∃ j, ∃ hj : j < t.rows.length, t.rows[j].l = -y) ∧
      (0 < x.lev → ∃ y ∈ cs[k], y ≠ x.l ∧ ∃ j, ∃ hj : j < t.rows.length, t.rows[j].l = -y ∧ t.rows[j].lev = x.lev)) :
    TraF cs ats ⟨t.vars, t.rows ++ [x], d⟩ := by
  obtain ⟨m1, m2⟩ := may_of hx
  rw [h.vars] at m1
  have hlen : (t.rows ++ [x]).length = t.rows.length + 1 := by simp
  refine ⟨h.vars, by have := h.dep; dsimp only; omega, ?_, ?_, ?_, ?_, ?_, ?_, ?_, ?_⟩
  · intro y hy
    rcases List.mem_append.1 hy with hy | hy
    · exact h.chk y hy
    · simp at hy; subst hy; exact m1
  · dsimp only
    rw [List.map_append, List.nodup_append]
    refine ⟨h.nd, by simp, ?_⟩
    intro a ha b hb e
    obtain ⟨y, hy, rfl⟩ := List.mem_map.1 ha
    simp at hb
    exact plR_neg m2 y hy (e.trans hb)
  · intro y hy
    rcases List.mem_append.1 hy with hy | hy
    · have := h.lev y hy; dsimp only; omega
    · simp at hy; subst hy; have := h.dep; dsimp only; omega
  · intro i j hi hj hij
    dsimp only at hi hj ⊢
    rcases fst_append hj with ⟨hj', e⟩ | ⟨hj', e⟩
    · rcases fst_append hi with ⟨hi', e'⟩ | ⟨hi', e'⟩
      · rw [e, e']; exact h.mono i j hi' hj' hij
      · omega
    · rcases fst_append hi with ⟨hi', e'⟩ | ⟨hi', e'⟩
      · rw [e, e', hd]
        have := (h.lev _ (List.getElem_mem hi')).2
        omega
      · omega
  · intro i hi hr
    dsimp only at hi hr ⊢
    rcases fst_append hi with ⟨hi', e'⟩ | ⟨hi', e'⟩
    · rw [e'] at hr ⊢
      obtain ⟨g1, g2⟩ := h.dec i hi' hr
      refine ⟨g1, fun j hj hij => ?_⟩
      rw [List.getElem_append_left (by omega)]
      exact g2 j (by omega) hij
    · rw [e'] at hr ⊢
      have hd1 := hdec hr
      refine ⟨by have := h.dep; omega, fun j hj hij => ?_⟩
      rw [List.getElem_append_left (by omega)]
      have := (h.lev _ (List.getElem_mem (show j < t.rows.length by omega))).2
      omega
  · intro hd0
    dsimp only at hd0 ⊢
    have hb : bel ⟨t.vars, t.rows ++ [x], d⟩ d = bel t d := by
      unfold bel
      dsimp only
      rw [List.filter_append]
      have : List.filter (fun x : En => decide (x.lev < d)) [x] = [] := by simp [hd]
      rw [this, List.append_nil]
    rw [hb]
    by_cases c : d = t.dep + 1
    · rw [c, bel_all (fun x hx => (h.lev x hx).2)]
      exact htop c
    · have : d = t.dep := by omega
      subst this
      exact h.top hd0
  · intro k hk hkd
    dsimp only at hkd ⊢
    by_cases c : k ≤ t.dep
    · obtain ⟨y, hy, e⟩ := h.fst k hk c
      exact ⟨y, List.mem_append_left _ hy, e⟩
    · exact ⟨x, by simp, by omega, hfst (by omega)⟩
  · intro i hi hr
    dsimp only at hi hr ⊢
    rcases fst_append hi with ⟨hi', e'⟩ | ⟨hi', e'⟩
    · rw [e'] at hr ⊢
      obtain ⟨k, hk, g1, g2, g3, g4⟩ := h.imp i hi' hr
      refine ⟨k, hk, g1, g2, fun y hy hne => ?_, fun hl => ?_⟩
      · obtain ⟨j, hj, hji, e⟩ := g3 y hy hne
        exact ⟨j, by omega, hji, by rw [List.getElem_append_left hj]; exact e⟩
      · obtain ⟨y, hy, hne, j, hj, hji, e, e2⟩ := g4 hl
        exact ⟨y, hy, hne, j, by omega, hji, by rw [List.getElem_append_left hj]; exact e, by rw [List.getElem_append_left hj]; exact e2⟩
    · rw [e'] at hr ⊢
      obtain ⟨k, hk, g1, g2, g3, g4⟩ := hi2 hr
      refine ⟨k, hk, g1, g2, fun y hy hne => ?_, fun hl => ?_⟩
      · obtain ⟨j, hj, e⟩ := g3 y hy hne
        exact ⟨j, by omega, by omega, by rw [List.getElem_append_left hj]; exact e⟩
      · obtain ⟨y, hy, hne, j, hj, e, e2⟩ := g4 hl
        exact ⟨y, hy, hne, j, by omega, by omega, by rw [List.getElem_append_left hj]; exact e, by rw [List.getElem_append_left hj]; exact e2⟩
theorem val3_m1_of {l : List Int} {y : Int} (hy : litChk y 6 = 0) (h : -y ∈ l) (h2 : y ∉ l) : val3 l y = -1 := by
  obtain ⟨_, _, _, hx, hw⟩ := lit6 hy
  unfold val3
  rw [if_neg (by omega), if_neg h2, if_pos (by rw [hw]; exact h)]
theorem TraF.inj {cs : List (List Int)} {ats : List Int} {t : RT} (h : TraF cs ats t) {i j : Nat} (hi : i < t.rows.length) (hj : j < t.rows.length) (e : litV t.rows[i].l = litV t.rows[j].l) : i = j := by
  have hn := List.pairwise_iff_getElem.1 (List.pairwise_map.1 h.nd)
  rcases Nat.lt_trichotomy i j with c | c | c
  · exact absurd e (hn i j hi hj c)
  · exact c
  · exact absurd e.symm (hn j i hj hi c)
theorem TraF.one {cs : List (List Int)} {ats : List Int} {t : RT} (h : TraF cs ats t) {y : Int} (hy : litChk y 6 = 0) : ¬ (y ∈ litsT t ∧ -y ∈ litsT t) := by
  rintro ⟨h1, h2⟩
  unfold litsT at h1 h2
  obtain ⟨a, ha, e1⟩ := List.mem_map.1 h1
  obtain ⟨b, hb, e2⟩ := List.mem_map.1 h2
  obtain ⟨i, hi, rfl⟩ := List.getElem_of_mem ha
  obtain ⟨j, hj, rfl⟩ := List.getElem_of_mem hb
  have hv : litV t.rows[i].l = litV t.rows[j].l := by rw [e1, e2, litV_neg]
  have hij : i = j := h.inj hi hj hv
  subst hij
  obtain ⟨n0, _⟩ := lit6 hy
  omega
theorem tra_facts {cs : List (List Int)} {ats : List Int} (hc : ClsN cs ats) {t : RT} (h : Tra cs ats t) : TraF cs ats t := by
  induction h with
  | nil => exact ⟨rfl, by simp, by simp, by simp, by simp, fun i j hi => by simp at hi, fun i hi => by simp at hi, fun h => by simp at h, fun k h1 h2 => by simp at h2; omega, fun i hi => by simp at hi⟩
  | @dec t l _ hm hcalm ih =>
    exact tra_app ih (x := ⟨l, t.dep + 1, -1⟩) hm rfl (by omega) (by omega) (fun _ => rfl) (fun h => by dsimp only at h; omega) (fun _ => hcalm) (fun _ => by dsimp only; omega) (fun h => by dsimp only at h; omega)
  | @imp t k x hk _ hm hu ih =>
    have hmem := List.getElem_mem hk
    have hchk := hc.chk _ hmem
    obtain ⟨u1, u2, u3⟩ := unit_is (l := litsT t) (hc.len _ hmem) (fun y hy => (lit6 (hchk y hy)).2.2.2.1) (by rw [hu])
    rw [hu] at u1 u2 u3
    dsimp only at u1 u2 u3
    have hp := hc.pos k hk
    have hoth : ∀ y ∈ cs[k], y ≠ x → ∃ j, ∃ hj : j < t.rows.length, t.rows[j].l = -y := fun y hy hne => by
      have := val3_m1 (u3 y hy hne)
      rw [(lit6 (hchk y hy)).2.2.2.2] at this
      unfold litsT at this
      obtain ⟨a, ha, e⟩ := List.mem_map.1 this
      obtain ⟨j, hj, rfl⟩ := List.getElem_of_mem ha
      exact ⟨j, hj, e⟩
    refine tra_app ih (x := ⟨x, t.dep, ats.getD k 0⟩) hm rfl (by omega) (by omega) (fun h => by dsimp only at h; omega) (fun _ => rfl) (fun h => by omega) (fun h => by omega) (fun _ => ⟨k, hk, rfl, u1, hoth, fun hl => ?_⟩)
    dsimp only at hl ⊢
    apply Classical.byContradiction
    intro hno
    have hcalm := ih.top hl _ hmem
    have hx6 := hchk x u1
    have hx0 := (lit6 hx6).2.2.2.1
    obtain ⟨f1, f2⟩ := val3_0 hx0 u2
    have hv0 : val3 (bel t t.dep) x = 0 := by
      unfold val3
      rw [if_neg (by omega), if_neg (fun e => f1 (bel_sub _ e)), if_neg (fun e => f2 (bel_sub _ e))]
    have hv1 : ∀ y ∈ cs[k], y ≠ x → val3 (bel t t.dep) y = -1 := fun y hy hne => by
      obtain ⟨j, hj, e⟩ := hoth y hy hne
      have hlv := (ih.lev _ (List.getElem_mem hj)).2
      have hlt : t.rows[j].lev < t.dep := by
        rcases Int.lt_or_le t.rows[j].lev t.dep with c | c
        · exact c
        · exact absurd ⟨y, hy, hne, j, hj, e, by omega⟩ hno
      have hmb : -y ∈ bel t t.dep := by
        unfold bel
        rw [List.mem_map]
        exact ⟨t.rows[j], List.mem_filter.2 ⟨List.getElem_mem hj, by simpa using hlt⟩, e⟩
      exact val3_m1_of (hchk y hy) hmb (fun e2 => ih.one (hchk y hy) ⟨bel_sub _ e2, bel_sub _ hmb⟩)
    have := unit_of (hc.len _ hmem) (hc.nd _ hmem) u1 hx0 hv0 hv1
    rw [this] at hcalm
    exact absurd hcalm.1 (by simp)
theorem fail_top {cs : List (List Int)} {ats : List Int} (hc : ClsN cs ats) {t : RT} (h : TraF cs ats t) {c : List Int} (hm : c ∈ cs) (hf : clS (litsT t) c = -1) (hd : 0 < t.dep) : ∃ y ∈ c, ∃ x ∈ t.rows, x.l = -y ∧ x.lev = t.dep := by
  apply Classical.byContradiction
  intro hno
  have hcalm := (h.top hd _ hm).2
  apply hcalm
  rw [clS_m1] at hf ⊢
  intro y hy hx
  have hy6 := hc.chk _ hm y hy
  have := val3_m1 (hf y hy hx)
  rw [(lit6 hy6).2.2.2.2] at this
  unfold litsT at this
  obtain ⟨a, ha, e⟩ := List.mem_map.1 this
  have hlv := (h.lev _ ha).2
  have hlt : a.lev < t.dep := by
    rcases Int.lt_or_le a.lev t.dep with c | c
    · exact c
    · exact absurd ⟨y, hy, a, ha, e, by omega⟩ hno
  have hmb : -y ∈ bel t t.dep := by
    unfold bel
    rw [List.mem_map]
    exact ⟨a, List.mem_filter.2 ⟨ha, by simpa using hlt⟩, e⟩
  exact val3_m1_of hy6 hmb (fun e2 => h.one hy6 ⟨bel_sub _ e2, bel_sub _ hmb⟩)
end Go.AX

namespace Go.AX
open Go.Proofs
set_option linter.unusedSimpArgs false

theorem mostP_flat (cs : List (List Int)) : mostP cs = cs.flatten.length := by
  have : ∀ (cs : List (List Int)) (n : Nat), cs.foldl (fun n c => n + c.length) n = n + cs.flatten.length := by
    intro cs
    induction cs with
    | nil => intro n; simp
    | cons c cs ih => intro n; rw [List.foldl_cons, ih]; simp; omega
  unfold mostP
  rw [this]; omega
theorem calm_of {cs : List (List Int)} {ls : List Int} (h1 : failS cs ls < 0) (h2 : (nextS cs ls).2.2 = false) : Calm cs ls := by
  intro c hc
  constructor
  · unfold nextS at h2
    split at h2
    · cases h2
    · rename_i hf
      rw [List.findIdx?_eq_none_iff] at hf
      simpa using hf c hc
  · intro e
    obtain ⟨j, hj, rfl⟩ := List.getElem_of_mem hc
    have := idxS_lt (p := fun c => decide (clS ls c = -1)) hj (by simp [e])
    unfold failS at h1
    omega
theorem fail_of {cs : List (List Int)} {ls : List Int} (h : 0 ≤ failS cs ls) : ∃ i, ∃ hi : i < cs.length, failS cs ls = (i : Int) ∧ clS ls cs[i] = -1 := by
  unfold failS idxS at *
  split at h
  · rename_i i hf
    rw [List.findIdx?_eq_some_iff_getElem] at hf
    obtain ⟨h1, h2, _⟩ := hf
    exact ⟨i, h1, rfl, by simpa using h2⟩
  · omega
theorem prop_tra {cs : List (List Int)} {ats : List Int} (hc : ClsN cs ats) : ∀ (k : Nat) (D : DK) (by' : List Int), RelD D.T D.t → Tra cs ats D.t →
    ∃ xs ys, (propF cs k (litsT D.t) by').1 = litsT D.t ++ xs ∧ (propF cs k (litsT D.t) by').2.1 = by' ++ ys ∧ Tra cs ats (addL D (xs.zip (ys.map fun y => ats.getD y.toNat 0))).t ∧
      litsT (addL D (xs.zip (ys.map fun y => ats.getD y.toNat 0))).t = litsT D.t ++ xs ∧ (∀ x ∈ xs, x ∈ cs.flatten) ∧
      (0 ≤ (propF cs k (litsT D.t) by').2.2 → ∃ i, ∃ hi : i < cs.length, (propF cs k (litsT D.t) by').2.2 = (i : Int) ∧ clS (litsT D.t ++ xs) cs[i] = -1) ∧
      ((propF cs k (litsT D.t) by').2.2 < 0 → xs.length = k ∨ Calm cs (litsT D.t ++ xs))
  | 0, D, by', _, hr => ⟨[], [], by simp [propF], by simp [propF], hr, by simp [addL], by simp, fun h => by simp [propF] at h, fun _ => .inl rfl⟩
  | k + 1, D, by', hd, hr => by
    rw [propF_step]
    by_cases c1 : 0 ≤ failS cs (litsT D.t)
    · rw [if_pos c1]
      obtain ⟨i, hi, e1, e2⟩ := fail_of c1
      exact ⟨[], [], by simp, by simp, hr, by simp [addL], by simp, fun _ => ⟨i, hi, e1, by rw [List.append_nil]; exact e2⟩, fun h => by dsimp only at h; omega⟩
    rw [if_neg c1]
    by_cases c2 : (nextS cs (litsT D.t)).2.2 = false
    · rw [if_pos c2]
      exact ⟨[], [], by simp, by simp, hr, by simp [addL], by simp, fun h => by dsimp only at h; omega, fun _ => .inr (by rw [List.append_nil]; exact calm_of (by omega) c2)⟩
    rw [if_neg c2]
    have hfi : ∃ i, ∃ hi : i < cs.length, (nextS cs (litsT D.t)).2.1 = (i : Int) ∧ unitS (litsT D.t) cs[i] = ((nextS cs (litsT D.t)).1, true) := by
      unfold nextS at *
      split at c2
      · rename_i i hf
        rw [List.findIdx?_eq_some_iff_getElem] at hf
        obtain ⟨h1, h2, _⟩ := hf
        have e : cs.getD i [] = cs[i] := by rw [List.getD_eq_getElem?_getD, List.getElem?_eq_getElem h1]; rfl
        dsimp only
        rw [e]
        exact ⟨i, h1, rfl, by rw [← h2]⟩
      · exact absurd rfl c2
    obtain ⟨i, hi, e1, hu⟩ := hfi
    generalize (nextS cs (litsT D.t)).1 = x at *
    rw [e1]
    have hm := List.getElem_mem hi
    obtain ⟨e2, e3, e4⟩ := unit_is (l := litsT D.t) (hc.len _ hm) (fun y hy => (lit6 (hc.chk _ hm y hy)).2.2.2.1) (by rw [hu])
    rw [hu] at e2 e3 e4
    dsimp only at e2 e3 e4
    have hx6 := hc.chk _ hm x e2
    obtain ⟨_, _, _, hx0, _⟩ := lit6 hx6
    obtain ⟨f1, f2⟩ := val3_0 hx0 e3
    have hmay := may_free hd.1 hx6 f1 f2
    have hwp := hc.pos i hi
    have hS : addS D x (ats.getD i 0) = ⟨D.A, impT D.T x (ats.getD i 0), D.a, ⟨D.t.vars, D.t.rows ++ [⟨x, D.t.dep, ats.getD i 0⟩], D.t.dep⟩, D.con⟩ := by
      unfold addS
      rw [if_neg (by omega)]
      have hE : impER D.t x (ats.getD i 0) = 0 := by
        unfold impER
        rw [if_neg (fun h => h hmay), if_neg (by omega)]
      unfold impR
      rw [if_pos hE]
    have hrel := addS_rel hd x (ats.getD i 0)
    have hr' : Tra cs ats (addS D x (ats.getD i 0)).t := by
      rw [hS]
      exact Tra.imp hi hr hmay hu
    obtain ⟨xs, ys, g1, g2, g3, g4, g5, g6, g7⟩ := prop_tra hc k (addS D x (ats.getD i 0)) (by' ++ [(i : Int)]) hrel hr'
    have hrows : litsT (addS D x (ats.getD i 0)).t = litsT D.t ++ [x] := by rw [hS]; simp [litsT]
    rw [hrows] at g1 g2 g4 g6 g7
    have hap : litsT D.t ++ [x] ++ xs = litsT D.t ++ x :: xs := by simp
    rw [hap] at g1 g4 g6 g7
    refine ⟨x :: xs, (i : Int) :: ys, g1, by rw [g2]; simp, g3, g4, ?_, g6, fun h => (g7 h).imp (fun e => by simp [e]) id⟩
    intro y hy
    rcases List.mem_cons.1 hy with rfl | hy
    · exact List.mem_flatten.2 ⟨_, hm, e2⟩
    · exact g5 y hy
theorem litsT_nodup {cs : List (List Int)} {ats : List Int} {t : RT} (h : TraF cs ats t) : (litsT t).Nodup := by
  have hn := h.nd
  have : (t.rows.map fun x => litV x.l) = (litsT t).map litV := by simp [litsT, List.map_map, Function.comp_def]
  rw [this] at hn
  exact (List.pairwise_map.1 hn).imp fun h e => h (congrArg litV e)
structure Way (cs : List (List Int)) (ats : List Int) (D : DK) : Prop where
  rel : RelD D.T D.t
  tra : Tra cs ats D.t
  con : (D.con < 0 ∧ Calm cs (litsT D.t)) ∨ ∃ k, ∃ hk : k < cs.length, D.con = ats.getD k 0 ∧ clS (litsT D.t) cs[k] = -1
theorem fol_way {cs : List (List Int)} {ats : List Int} (hc : ClsN cs ats) {D : DK} (hd : RelD D.T D.t) (hr : Tra cs ats D.t) (h0 : D.con < 0) : Way cs ats (folS cs ats D) := by
  obtain ⟨xs, ys, g1, g2, g3, g4, g5, g6, g7⟩ := prop_tra hc (mostP cs + 1) D [] hd hr
  have e : folZ cs ats D.t = xs.zip (ys.map fun y => ats.getD y.toNat 0) := by
    unfold folZ propS
    have hl : D.t.rows.map (·.l) = litsT D.t := rfl
    rw [hl, g1, g2, List.nil_append, List.drop_left' (by simp [litsT])]
  have hk : (propS cs (D.t.rows.map (·.l))).2.2 = (propF cs (mostP cs + 1) (litsT D.t) []).2.2 := rfl
  refine ⟨folS_rel cs ats hd, ?_, ?_⟩
  · unfold folS
    rw [e]
    exact g3
  · unfold folS
    dsimp only
    rw [hk, e]
    by_cases c : 0 ≤ (propF cs (mostP cs + 1) (litsT D.t) []).2.2
    · right
      obtain ⟨i, hi, e1, e2⟩ := g6 c
      refine ⟨i, hi, ?_, by rw [g4]; exact e2⟩
      rw [if_pos c, e1]; rfl
    · left
      rw [if_neg c]
      refine ⟨by rw [(addL_A _ D).2.2]; exact h0, ?_⟩
      rw [g4]
      rcases g7 (by omega) with h | h
      · exfalso
        have hf := tra_facts hc g3
        have hn := litsT_nodup hf
        rw [g4, List.nodup_append] at hn
        have := len_of_sub xs cs.flatten hn.2.1 g5
        rw [h, mostP_flat] at this
        omega
      · exact h
theorem may_k {D : DK} (hd : RelD D.T D.t) {l : Int} (h : mayK D l = true) : mayR D.t l = 0 := by
  unfold mayK at h
  simp only [Bool.and_eq_true, decide_eq_true_eq] at h
  obtain ⟨h1, h2⟩ := h
  have hn : ∀ x ∈ D.t.rows, ¬ (x.l = l) ∧ ¬ (x.l = w64 (-l)) := by
    unfold valR at h2
    split at h2
    · split at h2 <;> omega
    · rename_i hf
      rw [List.find?_eq_none] at hf
      intro x hx
      simpa using hf x hx
  refine may_free hd.1 h1 (fun e => ?_) (fun e => ?_)
  · obtain ⟨x, hx, e⟩ := List.mem_map.1 e; exact (hn x hx).1 e
  · obtain ⟨x, hx, e⟩ := List.mem_map.1 e; exact (hn x hx).2 e
theorem dec_tra {cs : List (List Int)} {ats : List Int} {D : DK} (hd : RelD D.T D.t) (h : Tra cs ats D.t) {l : Int} (hm : mayR D.t l = 0) (hcalm : Calm cs (litsT D.t)) : Tra cs ats (addS D l (-1)).t := by
  have hf := hd.1.few
  have hb := hd.2
  have hdep := hd.1.dep
  unfold addS
  rw [if_pos (by omega)]
  dsimp only
  unfold decR
  rw [if_pos hm, w64_id (by omega) (by omega)]
  exact Tra.dec h hm hcalm
theorem setL_way {cs : List (List Int)} {ats : List Int} (hc : ClsN cs ats) (lits : List Int) {D : DK} (hd : RelD D.T D.t) (hr : Tra cs ats D.t) (h0 : D.con < 0) : ∀ i, Way cs ats (setL cs ats lits D i)
  | 0 => fol_way hc hd hr h0
  | i + 1 => by
    have ih := setL_way hc lits hd hr h0 i
    rw [setL]
    generalize setL cs ats lits D i = E at *
    split
    · exact ih
    · rename_i c
      split
      · rename_i c2
        have hcalm : Calm cs (litsT E.t) := by
          rcases ih.con with h | ⟨k, hk, e, _⟩
          · exact h.2
          · have := hc.pos k hk
            omega
        exact fol_way hc (addS_rel ih.rel _ _) (dec_tra ih.rel ih.tra (may_k ih.rel c2) hcalm) (by rw [addS_con]; omega)
      · exact ih
theorem dup_nodup {l : List Int} (h : dupTo l l.length = 0) : l.Nodup := by
  refine List.pairwise_iff_getElem.2 fun i j hi hj hij e => ?_
  have hm := dupTo_mono l (i := j + 1) l.length (by omega)
  rw [dupTo] at hm
  have : l.getD j 0 ∈ l.take j := by
    rw [List.getD_eq_getElem?_getD, List.getElem?_eq_getElem hj, Option.getD_some, ← e]
    rw [List.mem_take_iff_getElem]
    exact ⟨i, by omega, rfl⟩
  rw [if_pos this] at hm
  omega
theorem chkC_nodup {c : List Int} (h : chkC c 6 = 0) : c.Nodup := by
  unfold chkC at h
  rw [if_neg (by omega)] at h
  split at h
  · omega
  · split at h
    · omega
    · split at h
      · exact dup_nodup (by assumption)
      · omega
theorem putL_nd (cs : List (List Int)) : ∀ i, ∀ c ∈ (putL cs i).rows, c.Nodup
  | 0 => by simp [putL]
  | i + 1 => by
    have ih := putL_nd cs i
    rw [putL]
    unfold putK
    dsimp only
    split
    · rename_i h
      intro c hc
      rcases List.mem_append.1 hc with hc | hc
      · exact ih c hc
      · simp at hc; subst hc; exact chkC_nodup h.2
    · exact ih
structure DeskT (cs : List (List Int)) (ats : List Int) (D : DK) : Prop where
  ok : DeskOk D
  cls : ClsN cs ats
  way : Way cs ats D
  ars : ∀ k (hk : k < cs.length), isA D.A (ats.getD k 0) = true ∧ litsA D.A (ats.getD k 0) = cs[k]
theorem setS_T {cs : List (List Int)} (hc : fewC cs) (lits : List Int) : DeskT (putL cs cs.length).rows (putL cs cs.length).ats (setS cs lits) := by
  have hp := putL_ok hc cs.length (Nat.le_refl _)
  have h6 := putL_6 cs cs.length
  have hrelA := setS_relA hc lits
  obtain ⟨hA, ha⟩ := setL_A (putL cs cs.length).rows (putL cs cs.length).ats lits (begD (putL cs cs.length)) lits.length
  have hcl : Cls6 (putL cs cs.length).rows (putL cs cs.length).ats := ⟨fun c hc => (h6.chk c hc).1, fun c hc => (h6.chk c hc).2, fun k hk => by
    rw [List.getD_eq_getElem?_getD, List.getElem?_eq_getElem (by rw [h6.al]; exact hk)]
    exact hp.pos _ (List.getElem_mem _)⟩
  have hcn : ClsN (putL cs cs.length).rows (putL cs cs.length).ats := ⟨hcl, putL_nd cs _⟩
  have ha' : (setS cs lits).a = (putL cs cs.length).a := ha
  refine ⟨setS_ok hc lits, hcn, setL_way hcn lits (D := begD (putL cs cs.length)) relD_new Tra.nil (by show (-1 : Int) < 0; omega) lits.length, fun k hk => ?_⟩
  obtain ⟨r, r1, r2, r3⟩ := h6.at' k hk
  rw [← ha'] at r1
  obtain ⟨q1, q2⟩ := relA_lits hrelA r1
  rw [r2] at q1 q2
  rw [r3] at q2
  exact ⟨q1, q2⟩
end Go.AX

namespace Go.AX
open Go.Proofs
set_option linter.unusedSimpArgs false

structure PS where
  seen : List (Int × Int)
  lits : List Int
  many : Nat
def seenB (s : List (Int × Int)) (v : Int) : Bool := decide (0 < (lk s v).getD 0)
def lvl (T : Tr) (l : Int) : Int := (ofT T (litV l)).1.lev
def takeF (T : Tr) (but : Int) (p : PS) (l : Int) : PS :=
  if litV l = but ∨ seenB p.seen (litV l) = true ∨ lvl T l ≤ 0 then p
  else if lvl T l = T.beg.length then ⟨pt p.seen (litV l) 1, p.lits, p.many + 1⟩ else ⟨pt p.seen (litV l) 1, p.lits ++ [l], p.many⟩
def takeL (T : Tr) (but : Int) (c : List Int) (p : PS) : PS := c.foldl (takeF T but) p
def pickB (T : Tr) (p : PS) (l : Int) : Bool := seenB p.seen (litV l) && (decide (lvl T l = T.beg.length) && decide (0 ≤ (ofT T (litV l)).1.rea))
def resS (A : Ar) (T : Tr) (p : PS) (l : Int) : PS := takeL T (litV l) (litsA A (ofT T (litV l)).1.rea) ⟨pt p.seen (litV l) 0, p.lits, p.many - 1⟩
def walkF (A : Ar) (T : Tr) (all : List Int) : Nat → PS → PS
  | 0, p => p
  | n + 1, p => if p.many ≤ 1 then p else if pickB T p (all.getD n 0) = true then walkF A T all n (resS A T p (all.getD n 0)) else walkF A T all n p
def endS (T : Tr) (all : List Int) (p : PS) : List Int := p.lits ++ (all.filter fun l => seenB p.seen (litV l) && decide (lvl T l = T.beg.length)).map fun l => w64 (-l)

/-! ### Places of what is assigned -/
theorem TraF.pla {cs : List (List Int)} {ats : List Int} {t : RT} (h : TraF cs ats t) {j : Nat} (hj : j < t.rows.length) : plR t (litV t.rows[j].l) = j := by
  have h1 := idxS_lt (p := fun x : En => decide (litV x.l = litV t.rows[j].l)) hj (by simp)
  obtain ⟨i, hi, e1, e2⟩ := plR_in (t := t) (v := litV t.rows[j].l) h1.1
  have := h.inj hi hj e2
  subst this
  exact e1
theorem of_at {cs : List (List Int)} {ats : List Int} {T : Tr} {t : RT} (hT : RelT T t) (h : TraF cs ats t) {j : Nat} (hj : j < t.rows.length) : (ofT T (litV t.rows[j].l)).1.lev = t.rows[j].lev ∧ (ofT T (litV t.rows[j].l)).1.rea = t.rows[j].rea ∧ (ofT T (litV t.rows[j].l)).1.pla = j := by
  obtain ⟨e1, e2, e3⟩ := relT_of hT (litV t.rows[j].l)
  have hp := h.pla hj
  rw [e1, e2, e3]
  unfold ofR
  rw [hp, if_neg (by omega), Int.toNat_natCast, List.getD_eq_getElem?_getD, List.getElem?_eq_getElem hj]
  exact ⟨rfl, rfl, rfl⟩
theorem neg_at {t : RT} {j : Nat} (hj : j < t.rows.length) {y : Int} (hy : t.rows[j].l = -y) : litV y = litV t.rows[j].l := by rw [hy, litV_neg]
theorem lvl_at {cs : List (List Int)} {ats : List Int} {T : Tr} {t : RT} (hT : RelT T t) (h : TraF cs ats t) {j : Nat} (hj : j < t.rows.length) {y : Int} (hy : t.rows[j].l = -y) : lvl T y = t.rows[j].lev := by
  unfold lvl
  rw [neg_at hj hy]
  exact (of_at hT h hj).1
theorem neg_neg_at {t : RT} {j : Nat} (hj : j < t.rows.length) {y : Int} (hy : t.rows[j].l = -y) : y = -t.rows[j].l := by omega

/-! ### Counting -/
theorem countP_one {α : Type} {P Q : α → Bool} : ∀ {l : List α} {j : Nat} (hj : j < l.length), P l[j] = false → Q l[j] = true → (∀ i (hi : i < l.length), i ≠ j → Q l[i] = P l[i]) → l.countP Q = l.countP P + 1
  | [], j, hj, _, _, _ => by simp at hj
  | x :: l, 0, hj, hP, hQ, ho => by
    simp only [List.getElem_cons_zero] at hP hQ
    have : l.countP Q = l.countP P := by
      apply List.countP_congr
      intro y hy
      obtain ⟨i, hi, rfl⟩ := List.getElem_of_mem hy
      have := ho (i + 1) (by simpa using hi) (by omega)
      simp only [List.getElem_cons_succ] at this
      rw [this]
    rw [List.countP_cons, List.countP_cons, this, hP, hQ]
    simp
  | x :: l, j + 1, hj, hP, hQ, ho => by
    simp only [List.getElem_cons_succ] at hP hQ
    have h0 := ho 0 (by simp) (by omega)
    simp only [List.getElem_cons_zero] at h0
    have := countP_one (l := l) (j := j) (by simpa using hj) hP hQ (fun i hi hne => by
      have := ho (i + 1) (by simpa using hi) (by omega)
      simpa using this)
    rw [List.countP_cons, List.countP_cons, this, h0]
    omega
theorem countP_two {α : Type} {P : α → Bool} : ∀ {l : List α}, 2 ≤ l.countP P → ∃ i j, ∃ hi : i < l.length, ∃ hj : j < l.length, i < j ∧ P l[i] = true ∧ P l[j] = true
  | [], h => by simp at h
  | x :: l, h => by
    rw [List.countP_cons] at h
    by_cases c : P x = true
    · rw [if_pos c] at h
      have : 0 < l.countP P := by omega
      rw [List.countP_pos_iff] at this
      obtain ⟨y, hy, hp⟩ := this
      obtain ⟨j, hj, rfl⟩ := List.getElem_of_mem hy
      exact ⟨0, j + 1, by simp, by simpa using hj, by omega, by simpa using c, by simpa using hp⟩
    · rw [if_neg c] at h
      obtain ⟨i, j, hi, hj, hij, p1, p2⟩ := countP_two (l := l) (by omega)
      exact ⟨i + 1, j + 1, by simpa using hi, by simpa using hj, by omega, by simpa using p1, by simpa using p2⟩

/-! ### What is known while a conflict is taken apart -/
structure LI (t : RT) (p : PS) (n : Nat) : Prop where
  sn : ∀ v, seenB p.seen v = true → ∃ j, ∃ hj : j < t.rows.length, litV t.rows[j].l = v ∧ 0 < t.rows[j].lev ∧ (t.rows[j].lev = t.dep → j < n ∨ t.rows[j].rea < 0)
  li : ∀ l ∈ p.lits, ∃ j, ∃ hj : j < t.rows.length, t.rows[j].l = -l ∧ 0 < t.rows[j].lev ∧ t.rows[j].lev < t.dep
  ls : ∀ j (hj : j < t.rows.length), seenB p.seen (litV t.rows[j].l) = true → t.rows[j].lev < t.dep → -t.rows[j].l ∈ p.lits
  mn : p.many = t.rows.countP (fun x => seenB p.seen (litV x.l) && decide (x.lev = t.dep))
theorem seen_pt (s : List (Int × Int)) (v w : Int) (n : Int) : seenB (pt s v n) w = if v = w then decide (0 < n) else seenB s w := by
  unfold seenB
  rw [lk_pt]
  split <;> rfl
theorem li_nil (t : RT) (n : Nat) : LI t ⟨[], [], 0⟩ n where
  sn := fun v h => by simp [seenB, lk] at h
  li := by simp
  ls := fun j hj h => by simp [seenB, lk] at h
  mn := by
    symm
    rw [List.countP_eq_zero]
    intro x _
    simp [seenB, lk]
theorem take_li {cs : List (List Int)} {ats : List Int} {T : Tr} {t : RT} (hT : RelT T t) (hF : TraF cs ats t) {p : PS} {n : Nat} (h : LI t p n) {y : Int} {j : Nat} (hj : j < t.rows.length) (hy : t.rows[j].l = -y)
    (hn : t.rows[j].lev = t.dep → j < n ∨ t.rows[j].rea < 0) (but : Int) :
    LI t (takeF T but p y) n ∧ (litV y = but ∨ t.rows[j].lev ≤ 0 ∨ seenB (takeF T but p y).seen (litV y) = true) ∧ (∀ v, seenB p.seen v = true → seenB (takeF T but p y).seen v = true) ∧ p.many ≤ (takeF T but p y).many := by
  have hl := lvl_at hT hF hj hy
  have hv := neg_at hj hy
  have hd := hT.dep
  unfold takeF
  by_cases c : litV y = but ∨ seenB p.seen (litV y) = true ∨ lvl T y ≤ 0
  · rw [if_pos c]
    refine ⟨h, ?_, fun v hv => hv, Nat.le_refl _⟩
    rcases c with c | c | c
    · exact .inl c
    · exact .inr (.inr c)
    · exact .inr (.inl (by omega))
  rw [if_neg c]
  have hns : seenB p.seen (litV y) = false := by
    cases e : seenB p.seen (litV y)
    · rfl
    · exact absurd (.inr (.inl e)) c
  have hl0 : 0 < t.rows[j].lev := by
    rcases Int.lt_or_le 0 t.rows[j].lev with e | e
    · exact e
    · exact absurd (.inr (.inr (by omega))) c
  have hlev := (hF.lev _ (List.getElem_mem hj)).2
  by_cases c2 : lvl T y = T.beg.length
  · rw [if_pos c2]
    have hs : ∀ w, seenB (pt p.seen (litV y) 1) w = if litV y = w then true else seenB p.seen w := fun w => by rw [seen_pt]; simp
    refine ⟨⟨?_, h.li, ?_, ?_⟩, .inr (.inr (by rw [hs, if_pos rfl])), fun v hv => by rw [hs]; split <;> simp [hv], Nat.le_succ _⟩
    · intro v hsv
      rw [hs] at hsv
      split at hsv
      · rename_i e
        exact ⟨j, hj, by rw [← hv, e], hl0, hn⟩
      · exact h.sn v hsv
    · intro i hi hsi hlt
      rw [hs] at hsi
      split at hsi
      · rename_i e
        have := hF.inj hj hi (hv.symm.trans e)
        subst this
        omega
      · exact h.ls i hi hsi hlt
    · dsimp only
      rw [h.mn]
      symm
      apply countP_one hj
      · rw [← hv, hns]; rfl
      · rw [← hv, hs, if_pos rfl]; simp; omega
      · intro i hi hne
        rw [hs, if_neg]
        intro e
        exact hne (hF.inj hi hj (e.symm.trans hv))
  · rw [if_neg c2]
    have hs : ∀ w, seenB (pt p.seen (litV y) 1) w = if litV y = w then true else seenB p.seen w := fun w => by rw [seen_pt]; simp
    refine ⟨⟨?_, ?_, ?_, ?_⟩, .inr (.inr (by rw [hs, if_pos rfl])), fun v hv => by rw [hs]; split <;> simp [hv], Nat.le_refl _⟩
    · intro v hsv
      rw [hs] at hsv
      split at hsv
      · rename_i e
        exact ⟨j, hj, by rw [← hv, e], hl0, hn⟩
      · exact h.sn v hsv
    · intro l hm
      rcases List.mem_append.1 hm with hm | hm
      · exact h.li l hm
      · simp at hm; subst hm
        exact ⟨j, hj, hy, hl0, by omega⟩
    · intro i hi hsi hlt
      rw [hs] at hsi
      split at hsi
      · rename_i e
        have := hF.inj hj hi (hv.symm.trans e)
        subst this
        rw [hy]; simp
      · exact List.mem_append_left _ (h.ls i hi hsi hlt)
    · dsimp only
      rw [h.mn]
      apply List.countP_congr
      intro x hx
      rw [hs]
      split
      · rename_i e
        obtain ⟨i, hi, rfl⟩ := List.getElem_of_mem hx
        have := hF.inj hj hi (hv.symm.trans e)
        subst this
        have : ¬ t.rows[j].lev = t.dep := by omega
        simp [this]
      · rfl
theorem takeL_li {cs : List (List Int)} {ats : List Int} {T : Tr} {t : RT} (hT : RelT T t) (hF : TraF cs ats t) {n : Nat} (but : Int) : ∀ (c : List Int) (p : PS), LI t p n →
    (∀ y ∈ c, litV y = but ∨ ∃ j, ∃ hj : j < t.rows.length, t.rows[j].l = -y ∧ (t.rows[j].lev = t.dep → j < n ∨ t.rows[j].rea < 0)) →
    LI t (takeL T but c p) n ∧ (∀ y ∈ c, litV y = but ∨ lvl T y ≤ 0 ∨ seenB (takeL T but c p).seen (litV y) = true) ∧ (∀ v, seenB p.seen v = true → seenB (takeL T but c p).seen v = true) ∧ p.many ≤ (takeL T but c p).many
  | [], p, h, _ => ⟨h, by simp, fun _ hv => hv, Nat.le_refl _⟩
  | y :: c, p, h, hc => by
    have key : LI t (takeF T but p y) n ∧ (litV y = but ∨ lvl T y ≤ 0 ∨ seenB (takeF T but p y).seen (litV y) = true) ∧ (∀ v, seenB p.seen v = true → seenB (takeF T but p y).seen v = true) ∧ p.many ≤ (takeF T but p y).many := by
      rcases hc y (List.mem_cons_self ..) with e | ⟨j, hj, hy, hn⟩
      · have : takeF T but p y = p := by unfold takeF; rw [if_pos (.inl e)]
        rw [this]
        exact ⟨h, .inl e, fun _ hv => hv, Nat.le_refl _⟩
      · have := take_li hT hF h hj hy hn but
        rw [← lvl_at hT hF hj hy] at this
        exact this
    obtain ⟨k1, k2, k3, k4⟩ := key
    obtain ⟨g1, g2, g3, g4⟩ := takeL_li hT hF but c (takeF T but p y) k1 (fun z hz => hc z (List.mem_cons_of_mem _ hz))
    have e : takeL T but (y :: c) p = takeL T but c (takeF T but p y) := rfl
    rw [e]
    refine ⟨g1, ?_, fun v hv => g3 v (k3 v hv), Nat.le_trans k4 g4⟩
    intro z hz
    rcases List.mem_cons.1 hz with rfl | hz
    · rcases k2 with k2 | k2 | k2
      · exact .inl k2
      · exact .inr (.inl k2)
      · exact .inr (.inr (g3 _ k2))
    · exact g2 z hz
theorem drop_li {cs : List (List Int)} {ats : List Int} {t : RT} (hF : TraF cs ats t) {p : PS} {n : Nat} (h : LI t p (n + 1)) (hn : n < t.rows.length) (hs : seenB p.seen (litV t.rows[n].l) = true) (hd : t.rows[n].lev = t.dep) :
    LI t ⟨pt p.seen (litV t.rows[n].l) 0, p.lits, p.many - 1⟩ n := by
  have hs0 : ∀ w, seenB (pt p.seen (litV t.rows[n].l) 0) w = if litV t.rows[n].l = w then false else seenB p.seen w := fun w => by rw [seen_pt]; simp
  refine ⟨?_, h.li, ?_, ?_⟩
  · intro v hv
    rw [hs0] at hv
    split at hv
    · cases hv
    · rename_i e
      obtain ⟨j, hj, e1, e2, e3⟩ := h.sn v hv
      refine ⟨j, hj, e1, e2, fun hd => (e3 hd).imp (fun hlt => ?_) id⟩
      have : j ≠ n := fun e4 => by subst e4; exact e e1
      omega
  · intro j hj hsj hlt
    rw [hs0] at hsj
    split at hsj
    · cases hsj
    · exact h.ls j hj hsj hlt
  · dsimp only
    rw [h.mn]
    have := countP_one (l := t.rows) (P := fun x => seenB (pt p.seen (litV t.rows[n].l) 0) (litV x.l) && decide (x.lev = t.dep)) (Q := fun x => seenB p.seen (litV x.l) && decide (x.lev = t.dep)) hn (by
      rw [hs0, if_pos rfl]; rfl) (by rw [hs]; simp [hd]) (fun i hi hne => by
      rw [hs0, if_neg]
      intro e
      exact hne (hF.inj hi hn e.symm))
    rw [this]; omega
theorem rea_ahead {cs : List (List Int)} {ats : List Int} {D : DK} (h : DeskT cs ats D) {n : Nat} (hn : n < D.t.rows.length) (hr : 0 ≤ D.t.rows[n].rea) : isA D.A D.t.rows[n].rea = true ∧ D.t.rows[n].l ∈ litsA D.A D.t.rows[n].rea ∧
    ∀ y ∈ litsA D.A D.t.rows[n].rea, litChk y 6 = 0 ∧ (y ≠ D.t.rows[n].l → ∃ j, ∃ hj : j < D.t.rows.length, j < n ∧ D.t.rows[j].l = -y) := by
  rcases h.ok.rea n hn with h1 | ⟨h1, h2, h3⟩
  · omega
  · refine ⟨h1, h2, fun y hy => ?_⟩
    obtain ⟨q1, q2⟩ := h3 y hy
    refine ⟨q1, fun hne => ?_⟩
    have := q2 hne
    rw [(lit6 q1).2.2.2.2, List.mem_map] at this
    obtain ⟨x, hx, e⟩ := this
    obtain ⟨j, hj, rfl⟩ := List.getElem_of_mem hx
    have hj' : j < n ∧ j < D.t.rows.length := by simp at hj; omega
    refine ⟨j, hj'.2, hj'.1, ?_⟩
    rw [← e]; simp
theorem DeskT.facts {cs : List (List Int)} {ats : List Int} {D : DK} (h : DeskT cs ats D) : TraF cs ats D.t := tra_facts h.cls h.way.tra
theorem res_li {cs : List (List Int)} {ats : List Int} {D : DK} (h : DeskT cs ats D) {p : PS} {n : Nat} (hi : LI D.t p (n + 1)) (hn : n < D.t.rows.length) (hp : pickB D.T p D.t.rows[n].l = true) :
    LI D.t (resS D.A D.T p D.t.rows[n].l) n ∧ p.many - 1 ≤ (resS D.A D.T p D.t.rows[n].l).many ∧
      (∀ j (hj : j < D.t.rows.length), j ≠ n → seenB p.seen (litV D.t.rows[j].l) = true → seenB (resS D.A D.T p D.t.rows[n].l).seen (litV D.t.rows[j].l) = true) ∧
      (∀ y ∈ litsA D.A D.t.rows[n].rea, y ≠ D.t.rows[n].l → lvl D.T y ≤ 0 ∨ seenB (resS D.A D.T p D.t.rows[n].l).seen (litV y) = true) := by
  have hF := h.facts
  have hT := h.ok.rel.1
  unfold pickB lvl at hp
  obtain ⟨o1, o2, o3⟩ := of_at hT hF hn
  rw [o1, o2] at hp
  simp only [Bool.and_eq_true, decide_eq_true_eq] at hp
  obtain ⟨p1, p2, p3⟩ := hp
  have hd := hT.dep
  have h1 := drop_li hF hi hn p1 (by omega)
  obtain ⟨r1, r2, r3⟩ := rea_ahead h hn p3
  have hres : resS D.A D.T p D.t.rows[n].l = takeL D.T (litV D.t.rows[n].l) (litsA D.A D.t.rows[n].rea) ⟨pt p.seen (litV D.t.rows[n].l) 0, p.lits, p.many - 1⟩ := by
    unfold resS
    rw [o2]
  obtain ⟨g1, g2, g3, g4⟩ := takeL_li hT hF (litV D.t.rows[n].l) (litsA D.A D.t.rows[n].rea) _ h1 (fun y hy => by
    by_cases e : y = D.t.rows[n].l
    · exact .inl (by rw [e])
    · obtain ⟨j, hj, hjn, e2⟩ := (r3 y hy).2 e
      exact .inr ⟨j, hj, e2, fun _ => .inl hjn⟩)
  rw [hres]
  refine ⟨g1, g4, fun j hj hne hsj => ?_, fun y hy hne => ?_⟩
  · apply g3
    rw [seen_pt, if_neg]
    · exact hsj
    · intro e
      exact hne (hF.inj hj hn e.symm)
  · rcases g2 y hy with e | e | e
    · exfalso
      obtain ⟨j, hj, hjn, e2⟩ := (r3 y hy).2 hne
      rw [neg_at hj e2] at e
      have := hF.inj hj hn e
      omega
    · exact .inl e
    · exact .inr e
theorem li_less {t : RT} {T : Tr} {cs : List (List Int)} {ats : List Int} (hT : RelT T t) (hF : TraF cs ats t) {p : PS} {n : Nat} (h : LI t p (n + 1)) (hn : n < t.rows.length) (hp : ¬ pickB T p t.rows[n].l = true) : LI t p n := by
  refine ⟨fun v hv => ?_, h.li, h.ls, h.mn⟩
  obtain ⟨j, hj, e1, e2, e3⟩ := h.sn v hv
  refine ⟨j, hj, e1, e2, fun hd => ?_⟩
  rcases e3 hd with e | e
  · by_cases c : j = n
    · subst c
      right
      apply Classical.byContradiction
      intro hr
      apply hp
      unfold pickB lvl
      obtain ⟨o1, o2, o3⟩ := of_at hT hF hj
      rw [o1, o2, e1, hv]
      have := hT.dep
      simp only [Bool.and_eq_true, decide_eq_true_eq, true_and]
      omega
    · left; omega
  · exact .inr e
theorem li_last {t : RT} {cs : List (List Int)} {ats : List Int} (hF : TraF cs ats t) {p : PS} (h : LI t p 0) : p.many ≤ 1 := by
  apply Classical.byContradiction
  intro hno
  have h2 : 2 ≤ t.rows.countP (fun x => seenB p.seen (litV x.l) && decide (x.lev = t.dep)) := by rw [← h.mn]; omega
  obtain ⟨i, j, hi, hj, hij, p1, p2⟩ := countP_two h2
  simp only [Bool.and_eq_true, decide_eq_true_eq] at p1 p2
  obtain ⟨j', hj', e1, e2, e3⟩ := h.sn _ p2.1
  have := hF.inj hj' hj e1
  subst this
  rcases e3 p2.2 with e | e
  · omega
  · have := (hF.dec j' hj e).2 i hi hij
    omega
theorem all_at {T : Tr} {t : RT} (hT : RelT T t) {n : Nat} (hn : n < t.rows.length) : T.lits.getD n 0 = t.rows[n].l := by
  rw [hT.lits, List.getD_eq_getElem?_getD, List.getElem?_map, List.getElem?_eq_getElem hn]
  rfl
theorem walk_li {cs : List (List Int)} {ats : List Int} {D : DK} (h : DeskT cs ats D) : ∀ (n : Nat) (p : PS), n ≤ D.t.rows.length → LI D.t p n →
    (∃ m, LI D.t (walkF D.A D.T D.T.lits n p) m) ∧ (walkF D.A D.T D.T.lits n p).many ≤ 1 ∧ (1 ≤ p.many → 1 ≤ (walkF D.A D.T D.T.lits n p).many)
  | 0, p, _, hi => ⟨⟨0, hi⟩, li_last h.facts hi, fun e => e⟩
  | n + 1, p, hn, hi => by
    rw [walkF]
    split
    · exact ⟨⟨_, hi⟩, by assumption, fun e => e⟩
    rename_i c
    have hlt : n < D.t.rows.length := by omega
    rw [all_at h.ok.rel.1 hlt]
    split
    · rename_i hp
      obtain ⟨g1, g2, _⟩ := res_li h hi hlt hp
      obtain ⟨k1, k2, k3⟩ := walk_li h n _ (by omega) g1
      exact ⟨k1, k2, fun _ => k3 (by omega)⟩
    · rename_i hp
      exact walk_li h n p (by omega) (li_less h.ok.rel.1 h.facts hi hlt hp)
end Go.AX

namespace Go.AX
open Go.Proofs
set_option linter.unusedSimpArgs false

/-! ### The one literal of the greatest level first -/
def firTo (T : Tr) (out : List Int) : Nat → Int × Nat × Nat
  | 0 => (-1, 0, 0)
  | i + 1 => if (firTo T out i).1 < lvl T (out.getD i 0) then (lvl T (out.getD i 0), 1, i)
    else if lvl T (out.getD i 0) = (firTo T out i).1 then ((firTo T out i).1, (firTo T out i).2.1 + 1, (firTo T out i).2.2) else firTo T out i
def firP (T : Tr) (out : List Int) : List Int := if (firTo T out out.length).2.1 = 1 then out.getD (firTo T out out.length).2.2 0 :: out.eraseIdx (firTo T out out.length).2.2 else out
def firS (T : Tr) (lits : List Int) : List Int := firP T (normS lits)
def begP (A : Ar) (T : Tr) (con : Int) : PS := takeL T 0 (litsA A con) ⟨[], [], 0⟩
def learnS (A : Ar) (T : Tr) (con : Int) : List Int := firS T (endS T T.lits (walkF A T T.lits T.lits.length (begP A T con)))

theorem firTo_is {T : Tr} {out : List Int} {k : Nat} (hk : k < out.length) (h0 : 0 ≤ lvl T out[k]) (ho : ∀ i (hi : i < out.length), i ≠ k → lvl T out[i] < lvl T out[k]) : ∀ i, i ≤ out.length →
    if k < i then firTo T out i = (lvl T out[k], 1, k) else (firTo T out i).1 < lvl T out[k]
  | 0, _ => by rw [if_neg (by omega)]; simp only [firTo]; omega
  | i + 1, hi => by
    have ih := firTo_is hk h0 ho i (by omega)
    have hg : out.getD i 0 = out[i] := by rw [List.getD_eq_getElem?_getD, List.getElem?_eq_getElem (by omega)]; rfl
    rw [firTo, hg]
    by_cases c : k < i
    · rw [if_pos c] at ih
      have := ho i (by omega) (by omega)
      rw [if_pos (by omega), ih]
      dsimp only
      rw [if_neg (by omega), if_neg (by omega)]
    · rw [if_neg c] at ih
      by_cases e : k = i
      · subst e
        rw [if_pos (by omega), if_pos ih]
      · have := ho i (by omega) (by omega)
        rw [if_neg (by omega)]
        split
        · exact this
        · split
          · exact ih
          · exact ih
theorem firP_is {T : Tr} {out : List Int} {k : Nat} (hk : k < out.length) (h0 : 0 ≤ lvl T out[k]) (ho : ∀ i (hi : i < out.length), i ≠ k → lvl T out[i] < lvl T out[k]) : firP T out = out[k] :: out.eraseIdx k := by
  have := firTo_is hk h0 ho out.length (Nat.le_refl _)
  rw [if_pos hk] at this
  unfold firP
  rw [this, if_pos rfl, List.getD_eq_getElem?_getD, List.getElem?_eq_getElem hk]
  rfl
theorem mem_getElem_eraseIdx {l : List Int} {k : Nat} (hk : k < l.length) (x : Int) : x ∈ l[k] :: l.eraseIdx k ↔ x ∈ l := by
  rw [List.mem_cons, List.mem_eraseIdx_iff_getElem]
  constructor
  · rintro (rfl | ⟨i, hi, _, rfl⟩)
    · exact List.getElem_mem hk
    · exact List.getElem_mem _
  · intro h
    obtain ⟨i, hi, rfl⟩ := List.getElem_of_mem h
    by_cases e : i = k
    · subst e; exact .inl rfl
    · exact .inr ⟨i, hi, e, rfl⟩
theorem nodup_inj {l : List Int} (h : l.Nodup) {i j : Nat} (hi : i < l.length) (hj : j < l.length) (e : l[i] = l[j]) : i = j := by
  have hn := List.pairwise_iff_getElem.1 h
  rcases Nat.lt_trichotomy i j with c | c | c
  · exact absurd e (hn i j hi hj c)
  · exact c
  · exact absurd e.symm (hn j i hj hi c)
theorem normS_nodup (c : List Int) : (normS c).Nodup := (normS_is c).1.imp fun h e => by rw [e] at h; omega

/-! ### What reasons show -/
inductive HOk (A : Ar) (T : Tr) (R : List Int) : Int → Prop
  | stop {l : Int} : l ∈ R → HOk A T R l
  | why {l : Int} : valT T l < 0 → 0 ≤ (ofT T (litV l)).1.rea → isA A (ofT T (litV l)).1.rea = true → (∀ y ∈ litsA A (ofT T (litV l)).1.rea, y ≠ -l → HOk A T R y) → HOk A T R l
theorem val_at {cs : List (List Int)} {ats : List Int} {D : DK} (h : DeskT cs ats D) {j : Nat} (hj : j < D.t.rows.length) : valT D.T (-D.t.rows[j].l) = -1 ∧ valT D.T D.t.rows[j].l = 1 := by
  have hF := h.facts
  have hc := hF.chk _ (List.getElem_mem hj)
  have hp := hF.pla hj
  obtain ⟨n0, n1, n2, _⟩ := lit6 hc
  constructor
  · rcases valT_at h.ok.rel.1 (litChk_neg6 hc) hj (by rw [litV_neg]; exact hp) with ⟨_, e⟩ | ⟨e, _⟩
    · exact e
    · omega
  · rcases valT_at h.ok.rel.1 hc hj hp with ⟨e, _⟩ | ⟨_, e⟩
    · omega
    · exact e
theorem why_at {cs : List (List Int)} {ats : List Int} {D : DK} (h : DeskT cs ats D) {R : List Int} {j : Nat} (hj : j < D.t.rows.length) (hr : 0 ≤ D.t.rows[j].rea) (hy : ∀ y ∈ litsA D.A D.t.rows[j].rea, y ≠ D.t.rows[j].l → HOk D.A D.T R y) : HOk D.A D.T R (-D.t.rows[j].l) := by
  obtain ⟨o1, o2, o3⟩ := of_at h.ok.rel.1 h.facts hj
  obtain ⟨r1, r2, r3⟩ := rea_ahead h hj hr
  refine .why (by rw [(val_at h hj).1]; omega) ?_ ?_ ?_
  · rw [litV_neg, o2]; exact hr
  · rw [litV_neg, o2]; exact r1
  · rw [litV_neg, o2]
    intro y hm hne
    exact hy y hm (by rw [Int.neg_neg] at hne; exact hne)
theorem low_ok0 {cs : List (List Int)} {ats : List Int} {D : DK} (h : DeskT cs ats D) (R : List Int) : ∀ (n j : Nat) (hj : j < D.t.rows.length), j < n → D.t.rows[j].lev ≤ 0 → HOk D.A D.T R (-D.t.rows[j].l)
  | 0, _, _, hn, _ => by omega
  | n + 1, j, hj, hn, hl => by
    have hF := h.facts
    have hr : 0 ≤ D.t.rows[j].rea := by
      rcases Int.lt_or_le D.t.rows[j].rea 0 with e | e
      · have := (hF.dec j hj e).1; omega
      · exact e
    refine why_at h hj hr fun y hy hne => ?_
    obtain ⟨i, hi, hij, e⟩ := ((rea_ahead h hj hr).2.2 y hy).2 hne
    have hm := hF.mono i j hi hj hij
    have := low_ok0 h R n i hi (by omega) (by omega)
    rw [neg_neg_at hi e]; exact this
def Fr (D : DK) (p : PS) (R : List Int) : Prop := ∀ j (hj : j < D.t.rows.length), seenB p.seen (litV D.t.rows[j].l) = true → HOk D.A D.T R (-D.t.rows[j].l)
theorem fr_of {cs : List (List Int)} {ats : List Int} {D : DK} (h : DeskT cs ats D) {p : PS} {R : List Int} (hf : Fr D p R) {j : Nat} (hj : j < D.t.rows.length) {y : Int} (hy : D.t.rows[j].l = -y) (hs : lvl D.T y ≤ 0 ∨ seenB p.seen (litV y) = true) : HOk D.A D.T R y := by
  have hl := lvl_at h.ok.rel.1 h.facts hj hy
  rw [neg_neg_at hj hy]
  rcases hs with e | e
  · exact low_ok0 h R (j + 1) j hj (by omega) (by omega)
  · rw [neg_at hj hy] at e
    exact hf j hj e
theorem walk_fr {cs : List (List Int)} {ats : List Int} {D : DK} (h : DeskT cs ats D) {R : List Int} : ∀ (n : Nat) (p : PS), n ≤ D.t.rows.length → LI D.t p n → Fr D (walkF D.A D.T D.T.lits n p) R → Fr D p R
  | 0, p, _, _, hf => hf
  | n + 1, p, hn, hi, hf => by
    rw [walkF] at hf
    split at hf
    · exact hf
    have hlt : n < D.t.rows.length := by omega
    rw [all_at h.ok.rel.1 hlt] at hf
    split at hf
    · rename_i hp
      obtain ⟨g1, g2, g3, g4⟩ := res_li h hi hlt hp
      have ih := walk_fr h n _ (by omega) g1 hf
      intro j hj hs
      by_cases e : j = n
      · subst e
        obtain ⟨o1, o2, o3⟩ := of_at h.ok.rel.1 h.facts hj
        have hr : 0 ≤ D.t.rows[j].rea := by
          unfold pickB at hp
          rw [o2] at hp
          simp only [Bool.and_eq_true, decide_eq_true_eq] at hp
          exact hp.2.2
        refine why_at h hj hr fun y hy hne => ?_
        obtain ⟨i, hi2, _, e2⟩ := ((rea_ahead h hj hr).2.2 y hy).2 hne
        exact fr_of h ih hi2 e2 (g4 y hy hne)
      · exact ih j hj (g3 j hj e hs)
    · rename_i hp
      exact walk_fr h n p (by omega) (li_less h.ok.rel.1 h.facts hi hlt hp) hf
structure Conf (D : DK) (con : Int) : Prop where
  is : isA D.A con = true
  neg : ∀ y ∈ litsA D.A con, litChk y 6 = 0 ∧ ∃ j, ∃ hj : j < D.t.rows.length, D.t.rows[j].l = -y
  top : 0 < D.t.dep → ∃ y ∈ litsA D.A con, ∃ j, ∃ hj : j < D.t.rows.length, D.t.rows[j].l = -y ∧ D.t.rows[j].lev = D.t.dep
theorem conf_of {cs : List (List Int)} {ats : List Int} {D : DK} (h : DeskT cs ats D) (hc : 0 ≤ D.con) : Conf D D.con := by
  rcases h.way.con with ⟨e, _⟩ | ⟨k, hk, e, hf⟩
  · omega
  obtain ⟨a1, a2⟩ := h.ars k hk
  have hm := List.getElem_mem hk
  rw [e]
  refine ⟨a1, ?_, ?_⟩
  · rw [a2]
    intro y hy
    have hy6 := h.cls.chk _ hm y hy
    refine ⟨hy6, ?_⟩
    rw [clS_m1] at hf
    have := val3_m1 (hf y hy (lit6 hy6).2.2.2.1)
    rw [(lit6 hy6).2.2.2.2] at this
    unfold litsT at this
    obtain ⟨x, hx, e2⟩ := List.mem_map.1 this
    obtain ⟨j, hj, rfl⟩ := List.getElem_of_mem hx
    exact ⟨j, hj, e2⟩
  · rw [a2]
    intro hd
    obtain ⟨y, hy, x, hx, e2, e3⟩ := fail_top h.cls h.facts hm hf hd
    obtain ⟨j, hj, rfl⟩ := List.getElem_of_mem hx
    exact ⟨y, hy, j, hj, e2, e3⟩
theorem beg_li {cs : List (List Int)} {ats : List Int} {D : DK} (h : DeskT cs ats D) {con : Int} (hc : Conf D con) :
    LI D.t (begP D.A D.T con) D.t.rows.length ∧ (∀ y ∈ litsA D.A con, lvl D.T y ≤ 0 ∨ seenB (begP D.A D.T con).seen (litV y) = true) ∧ (0 < D.t.dep → 1 ≤ (begP D.A D.T con).many) := by
  obtain ⟨g1, g2, _, _⟩ := takeL_li h.ok.rel.1 h.facts 0 (litsA D.A con) _ (li_nil D.t D.t.rows.length) (fun y hy => by
    obtain ⟨_, j, hj, e⟩ := hc.neg y hy
    exact .inr ⟨j, hj, e, fun _ => .inl hj⟩)
  have g3 : ∀ y ∈ litsA D.A con, lvl D.T y ≤ 0 ∨ seenB (begP D.A D.T con).seen (litV y) = true := fun y hy => by
    rcases g2 y hy with e | e
    · have := (litV_ok6 (hc.neg y hy).1).1; omega
    · exact e
  refine ⟨g1, g3, fun hd => ?_⟩
  obtain ⟨y, hy, j, hj, e1, e2⟩ := hc.top hd
  have hl := lvl_at h.ok.rel.1 h.facts hj e1
  have hs : seenB (begP D.A D.T con).seen (litV y) = true := by
    rcases g3 y hy with e | e
    · omega
    · exact e
  have := g1.mn
  unfold begP at this ⊢
  rw [this, Nat.one_le_iff_ne_zero, Ne, List.countP_eq_zero]
  intro hno
  have h2 := hno _ (List.getElem_mem hj)
  rw [neg_at hj e1] at hs
  unfold begP at hs
  simp [hs, e2] at h2
structure Learnt (D : DK) (L : List Int) : Prop where
  nd : L.Nodup
  neg : ∀ y ∈ L, litChk y 6 = 0 ∧ ∃ j, ∃ hj : j < D.t.rows.length, D.t.rows[j].l = -y ∧ 0 < D.t.rows[j].lev
  nil : D.t.dep = 0 → L = []
  top : 0 < D.t.dep → ∃ u r, L = u :: r ∧ lvl D.T u = D.t.dep ∧ ∀ y ∈ r, lvl D.T y < D.t.dep
theorem endS_mem {cs : List (List Int)} {ats : List Int} {D : DK} (h : DeskT cs ats D) (p : PS) (y : Int) : y ∈ endS D.T D.T.lits p ↔ y ∈ p.lits ∨ ∃ j, ∃ hj : j < D.t.rows.length, D.t.rows[j].l = -y ∧ seenB p.seen (litV D.t.rows[j].l) = true ∧ D.t.rows[j].lev = D.t.dep := by
  have hT := h.ok.rel.1
  have hF := h.facts
  have hd := hT.dep
  unfold endS
  rw [List.mem_append, List.mem_map]
  constructor
  · rintro (e | ⟨l, hl, e⟩)
    · exact .inl e
    · rw [List.mem_filter, hT.lits] at hl
      obtain ⟨hl1, hl2⟩ := hl
      obtain ⟨x, hx, rfl⟩ := List.mem_map.1 hl1
      obtain ⟨j, hj, rfl⟩ := List.getElem_of_mem hx
      have hw := (lit6 (hF.chk _ hx)).2.2.2.2
      simp only [Bool.and_eq_true, decide_eq_true_eq] at hl2
      have ho := (of_at hT hF hj).1
      unfold lvl at hl2
      exact .inr ⟨j, hj, by omega, hl2.1, by omega⟩
  · rintro (e | ⟨j, hj, e1, e2, e3⟩)
    · exact .inl e
    · right
      have hw := (lit6 (hF.chk _ (List.getElem_mem hj))).2.2.2.2
      have ho := (of_at hT hF hj).1
      refine ⟨D.t.rows[j].l, ?_, by omega⟩
      rw [List.mem_filter, hT.lits]
      refine ⟨List.mem_map.2 ⟨_, List.getElem_mem hj, rfl⟩, ?_⟩
      unfold lvl
      simp only [Bool.and_eq_true, decide_eq_true_eq]
      exact ⟨e2, by omega⟩
theorem countP_ge2 {α : Type} {P : α → Bool} : ∀ {l : List α} {i j : Nat} (hij : i < j) (hj : j < l.length), P (l[i]'(by omega)) = true → P l[j] = true → 2 ≤ l.countP P
  | [], i, j, _, hj, _, _ => by simp at hj
  | x :: l, 0, j + 1, _, hj, h1, h2 => by
    simp only [List.getElem_cons_zero, List.getElem_cons_succ] at h1 h2
    have : 0 < l.countP P := List.countP_pos_iff.2 ⟨_, List.getElem_mem (by simpa using hj), h2⟩
    rw [List.countP_cons, if_pos h1]
    omega
  | x :: l, i + 1, j + 1, hij, hj, h1, h2 => by
    simp only [List.getElem_cons_succ] at h1 h2
    have := countP_ge2 (l := l) (i := i) (j := j) (by omega) (by simpa using hj) h1 h2
    rw [List.countP_cons]
    omega
theorem normS_nil : normS [] = [] := by
  have := (normS_is []).2
  cases e : normS [] with
  | nil => rfl
  | cons x l => have h := (this x).1 (by rw [e]; simp); simp at h
theorem okL6 {y : Int} (h : litChk y 6 = 0) : okL y = true := by
  obtain ⟨n0, n1, n2, _⟩ := lit6 h
  exact (okL_iff y).2 ⟨n0, by omega, by omega⟩
theorem learn_is {cs : List (List Int)} {ats : List Int} {D : DK} (h : DeskT cs ats D) {con : Int} (hc : Conf D con) :
    Learnt D (learnS D.A D.T con) ∧ ∀ y ∈ litsA D.A con, HOk D.A D.T (learnS D.A D.T con) y := by
  have hT := h.ok.rel.1
  have hF := h.facts
  have hd := hT.dep
  have hlen : D.T.lits.length = D.t.rows.length := by rw [hT.lits, List.length_map]
  obtain ⟨b1, b2, b3⟩ := beg_li h hc
  obtain ⟨⟨m, w1⟩, w2, w3⟩ := walk_li h D.t.rows.length (begP D.A D.T con) (Nat.le_refl _) b1
  have wf := fun R => walk_fr h (R := R) D.t.rows.length (begP D.A D.T con) (Nat.le_refl _) b1
  have hL : learnS D.A D.T con = firP D.T (normS (endS D.T D.T.lits (walkF D.A D.T D.T.lits D.t.rows.length (begP D.A D.T con)))) := by
    unfold learnS firS
    rw [hlen]
  have hmem := endS_mem h (walkF D.A D.T D.T.lits D.t.rows.length (begP D.A D.T con))
  generalize hp : walkF D.A D.T D.T.lits D.t.rows.length (begP D.A D.T con) = p at *
  generalize hE : endS D.T D.T.lits p = E at *
  have hEn : ∀ y ∈ E, litChk y 6 = 0 ∧ ∃ j, ∃ hj : j < D.t.rows.length, D.t.rows[j].l = -y ∧ 0 < D.t.rows[j].lev ∧ (D.t.rows[j].lev = D.t.dep → seenB p.seen (litV D.t.rows[j].l) = true) := fun y hy => by
    rcases (hmem y).1 hy with e | ⟨j, hj, e1, e2, e3⟩
    · obtain ⟨j, hj, e1, e2, e3⟩ := w1.li y e
      refine ⟨?_, j, hj, e1, e2, fun e4 => by omega⟩
      have := litChk_neg6 (hF.chk _ (List.getElem_mem hj))
      rw [e1, Int.neg_neg] at this
      exact this
    · obtain ⟨j', hj', q1, q2, _⟩ := w1.sn _ e2
      have := hF.inj hj' hj q1
      subst this
      refine ⟨?_, j', hj, e1, q2, fun _ => e2⟩
      have := litChk_neg6 (hF.chk _ (List.getElem_mem hj))
      rw [e1, Int.neg_neg] at this
      exact this
  have hN : ∀ y, y ∈ normS E ↔ y ∈ E := fun y => by
    rw [(normS_is E).2]
    exact ⟨fun e => e.2, fun e => ⟨okL6 (hEn y e).1, e⟩⟩
  have hnd := normS_nodup E
  have hfin : ∀ L, (∀ y, y ∈ L ↔ y ∈ E) → ∀ y ∈ litsA D.A con, HOk D.A D.T L y := fun L hLE => by
    have hfr : Fr D p L := fun j hj hs => by
      apply HOk.stop
      rw [hLE, hmem]
      rcases Int.lt_or_le D.t.rows[j].lev D.t.dep with e | e
      · exact .inl (w1.ls j hj hs e)
      · exact .inr ⟨j, hj, by omega, hs, by have := (hF.lev _ (List.getElem_mem hj)).2; omega⟩
    have := wf L hfr
    intro y hy
    obtain ⟨_, j, hj, e⟩ := hc.neg y hy
    exact fr_of h this hj e (b2 y hy)
  by_cases c : D.t.dep = 0
  · have hE0 : E = [] := by
      cases hEe : E with
      | nil => rfl
      | cons y r =>
        obtain ⟨_, j, hj, _, e2, _⟩ := hEn y (by rw [hEe]; simp)
        have := (hF.lev _ (List.getElem_mem hj)).2
        omega
    have hL0 : learnS D.A D.T con = [] := by rw [hL, hE0, normS_nil]; rfl
    refine ⟨⟨by rw [hL0]; exact List.nodup_nil, by rw [hL0]; simp, fun _ => hL0, fun e => by omega⟩, hfin _ fun y => by rw [hL0, hE0]⟩
  have hd0 : 0 < D.t.dep := by have := hF.dep; omega
  have hm1 : p.many = 1 := by have := w3 (b3 hd0); omega
  have hcnt : D.t.rows.countP (fun x => seenB p.seen (litV x.l) && decide (x.lev = D.t.dep)) = 1 := by rw [← w1.mn]; exact hm1
  have hex : 0 < D.t.rows.countP (fun x => seenB p.seen (litV x.l) && decide (x.lev = D.t.dep)) := by omega
  rw [List.countP_pos_iff] at hex
  obtain ⟨x, hx, hx2⟩ := hex
  obtain ⟨j, hj, rfl⟩ := List.getElem_of_mem hx
  simp only [Bool.and_eq_true, decide_eq_true_eq] at hx2
  have huE : -D.t.rows[j].l ∈ E := (hmem _).2 (.inr ⟨j, hj, by omega, hx2.1, hx2.2⟩)
  have huN := (hN _).2 huE
  obtain ⟨k, hk, hku⟩ := List.getElem_of_mem huN
  have hlk : lvl D.T (normS E)[k] = D.t.dep := by rw [hku, lvl_at hT hF hj (show D.t.rows[j].l = -(-D.t.rows[j].l) by omega)]; exact hx2.2
  have hlo : ∀ i (hi : i < (normS E).length), i ≠ k → lvl D.T (normS E)[i] < lvl D.T (normS E)[k] := fun i hi hne => by
    obtain ⟨_, j2, hj2, e1, e2, e3⟩ := hEn _ ((hN _).1 (List.getElem_mem hi))
    have hl := lvl_at hT hF hj2 e1
    have hle := (hF.lev _ (List.getElem_mem hj2)).2
    rw [hlk, hl]
    rcases Int.lt_or_le D.t.rows[j2].lev D.t.dep with e | e
    · exact e
    · exfalso
      have hs := e3 (by omega)
      have hjj : j2 = j := by
        rcases Nat.lt_trichotomy j2 j with q | q | q
        · have := countP_ge2 (P := fun x => seenB p.seen (litV x.l) && decide (x.lev = D.t.dep)) q hj (by simp only [Bool.and_eq_true, decide_eq_true_eq]; exact ⟨hs, by omega⟩) (by simp only [Bool.and_eq_true, decide_eq_true_eq]; exact hx2)
          omega
        · exact q
        · have := countP_ge2 (P := fun x => seenB p.seen (litV x.l) && decide (x.lev = D.t.dep)) q hj2 (by simp only [Bool.and_eq_true, decide_eq_true_eq]; exact hx2) (by simp only [Bool.and_eq_true, decide_eq_true_eq]; exact ⟨hs, by omega⟩)
          omega
      subst hjj
      have heq : (normS E)[i] = (normS E)[k] := by rw [hku]; omega
      exact hne (nodup_inj hnd hi hk heq)
  have hP := firP_is hk (by rw [hlk]; omega) hlo
  have hL1 : learnS D.A D.T con = (normS E)[k] :: (normS E).eraseIdx k := hL.trans hP
  have hLm : ∀ y, y ∈ learnS D.A D.T con ↔ y ∈ E := fun y => by rw [hL1, mem_getElem_eraseIdx hk, hN]
  refine ⟨⟨?_, fun y hy => ?_, fun e => absurd e c, fun _ => ⟨_, _, hL1, hlk, fun y hy => ?_⟩⟩, hfin _ hLm⟩
  · rw [hL1, List.nodup_cons]
    refine ⟨fun hm => ?_, hnd.sublist (List.eraseIdx_sublist _ _)⟩
    rw [List.mem_eraseIdx_iff_getElem] at hm
    obtain ⟨i, hi, hne, e⟩ := hm
    exact hne (nodup_inj hnd hi hk e)
  · obtain ⟨e0, j, hj, e1, e2, _⟩ := hEn y ((hLm y).1 hy)
    exact ⟨e0, j, hj, e1, e2⟩
  · rw [List.mem_eraseIdx_iff_getElem] at hy
    obtain ⟨i, hi, hne, rfl⟩ := hy
    have := hlo i hi hne
    omega
end Go.AX

namespace Go.AX
open Go.Proofs
set_option linter.unusedSimpArgs false

def psB (A : Ar) (T : Tr) (p : PS) : List SV := [.pv (arP A), .pv (trP T), .omap true (mapE fI p.seen), .own true 1 (irow p.lits), .pv (I64 p.many)]
@[simp] theorem frzL_arR (r : Nat → Nat → PV) (A : Ar) : frzL r (arR A) = arR A := by simp [arR]
@[simp] theorem frzL_trR (r : Nat → Nat → PV) (T : Tr) : frzL r (trR T) = trR T := by simp [trR]
@[simp] theorem belowL_arR (k : Nat) (A : Ar) : belowL k (arR A) := by simp [arR]
@[simp] theorem belowL_trR (k : Nat) (T : Tr) : belowL k (trR T) := by simp [trR]
theorem belowC_psB (k : Nat) (A : Ar) (T : Tr) (p : PS) : belowC k (psB A T p) := ⟨⟨⟨belowR_irow k _, belowE_fI k _, trivial⟩, trivial⟩, ⟨⟨belowR_mkR k _, belowR_irow k _, belowR_irow k _, trivial, trivial⟩, trivial⟩, belowE_fI k _, belowR_irow k _, trivial, trivial⟩
theorem takeF_le (T : Tr) (but : Int) (p : PS) (l : Int) : (takeF T but p l).many ≤ p.many + 1 ∧ (takeF T but p l).lits.length ≤ p.lits.length + 1 := by
  unfold takeF
  split
  · exact ⟨by omega, by omega⟩
  · split
    · exact ⟨by simp, by simp⟩
    · exact ⟨by simp, by simp⟩
theorem takeL_le (T : Tr) (but : Int) : ∀ (c : List Int) (p : PS), (takeL T but c p).many ≤ p.many + c.length ∧ (takeL T but c p).lits.length ≤ p.lits.length + c.length
  | [], p => ⟨Nat.le_refl _, Nat.le_refl _⟩
  | y :: c, p => by
    have h1 := takeF_le T but p y
    have h2 := takeL_le T but c (takeF T but p y)
    have e : takeL T but (y :: c) p = takeL T but c (takeF T but p y) := rfl
    rw [e, List.length_cons]
    omega
theorem takeL_succ (T : Tr) (but : Int) (c : List Int) (p : PS) {i : Nat} (h : i < c.length) : takeL T but (c.take (i + 1)) p = takeF T but (takeL T but (c.take i) p) c[i] := foldl_take_succ _ _ _ _ h
set_option maxRecDepth 16000 in
theorem ptake_ok (A : Ar) (T : Tr) (p : PS) (q but : Int) (ht : T.ok) (h0 : A.hd ≠ []) (hk : ArOk A) (hl : A.row.length ≤ 1000000) (hm : p.many ≤ 1000000000) (hp : p.lits.length ≤ 1000000000) :
    AMut Tryz.prog 87 [.ptr 0 0, I64 q, I64 but] [psB A T p] (fun r h' => h' = [psB A T (takeL T but (litsA A q) p)] ∧ r = .pv (.tup [])) := by
  refine amutXD [] [] [psB A T (takeL T but (litsA A q) p)] (by simp) (fun _ => ⟨belowC_psB _ _ _ _, trivial⟩) hmo Tryz.func87 (by kernel_rfl) rfl rfl (by kernel_rfl) (Nat.le_of_ble_eq_true rfl) ?_
  have hL := alitsF_ok A h0 hk hl q
  have hc := litsA_len A hk q
  generalize litsA A q = c at *
  simp [psB]
  refine CallK.intro hL (by simp) ?_
  simp
  refine ALoop.intro (S := fun (i : Nat) => ⟨[(0, .pv (.ptr 0 0)), (2, .pv (I64 but)), (6, .pv (.fn (.func 97) [trP T] [])), (20, .own true 1 (irow c)), (21, .pv (I64 c.length)), (22, .pv (I64 i))], [psB A T (takeL T but (c.take i) p)]⟩) (fun i => i ≤ c.length) (fun i => c.length - i) 0 ?_ (Nat.zero_le _) ?_
  · exact Weak.to (by simp) (by simp [psB, takeL]) (by simp) (by simp) (by simp [belowC_psB])
  intro i hi
  by_cases h : i < c.length
  rotate_left
  · have hie : i = c.length := by omega
    subst hie
    simp [psB, retXP]
  have hw : w64 ((i : Int) + 1) = ((i + 1 : Nat) : Int) := by rw [w64_id (by omega) (by omega)]; omega
  have hs := takeL_succ T but c p h
  have hle := takeL_le T but (c.take i) p
  rw [List.length_take] at hle
  generalize takeL T but (c.take i) p = s at *
  have hlv := tlevel_ok T (litV c[i]) ht
  simp [h, psB]
  refine CallK.intro (litVar_ok c[i]) (by simp) ?_
  simp
  refine CallG.intro (fun _ => hlv) (by simp) ?_
  by_cases c1 : litV c[i] = but
  · have hd : takeF T but s c[i] = s := by unfold takeF; rw [if_pos (.inl c1)]
    simp [c1]
    refine ⟨i + 1, by (try dsimp only); omega, by (try dsimp only); omega, Weak.to (by simp [hw]) (by simp [psB, hs, hd]) (by simp) (by simp) (by simp [belowC_psB])⟩
  by_cases c2 : 0 < (lk s.seen (litV c[i])).getD 0
  · have hd : takeF T but s c[i] = s := by unfold takeF; rw [if_pos (.inr (.inl (by simpa [seenB] using c2)))]
    simp [c1, c2]
    refine ⟨i + 1, by (try dsimp only); omega, by (try dsimp only); omega, Weak.to (by simp [hw]) (by simp [psB, hs, hd]) (by simp) (by simp) (by simp [belowC_psB])⟩
  have c2' : (lk s.seen (litV c[i])).getD 0 ≤ 0 := by omega
  by_cases c3 : (ofT T (litV c[i])).1.lev ≤ 0
  · have hd : takeF T but s c[i] = s := by unfold takeF; rw [if_pos (.inr (.inr c3))]
    simp [c1, c2, c2', c3]
    refine ⟨i + 1, by (try dsimp only); omega, by (try dsimp only); omega, Weak.to (by simp [hw]) (by simp [psB, hs, hd]) (by simp) (by simp) (by simp [belowC_psB])⟩
  have hd : takeF T but s c[i] = if (ofT T (litV c[i])).1.lev = T.beg.length then ⟨pt s.seen (litV c[i]) 1, s.lits, s.many + 1⟩ else ⟨pt s.seen (litV c[i]) 1, s.lits ++ [c[i]], s.many⟩ := by
    unfold takeF
    rw [if_neg]
    · rfl
    rintro (e | e | e)
    · exact c1 e
    · exact c2 (by simpa [seenB] using e)
    · exact c3 e
  simp [c1, c2, c2', c3]
  refine CallQ0.intro hlv (by simp) ?_
  simp
  refine CallQ0.intro (tdepth_ok T) (by simp) ?_
  by_cases c4 : (ofT T (litV c[i])).1.lev = T.beg.length
  · rw [if_pos c4] at hd
    have hwm : w64 ((s.many : Int) + 1) = ((s.many + 1 : Nat) : Int) := by rw [w64_id (by omega) (by omega)]; omega
    simp [c4]
    refine ⟨i + 1, by (try dsimp only); omega, by (try dsimp only); omega, Weak.to (by simp [hw]) (by simp [psB, hs, hd, hwm]) (by simp) (by simp) (by simp [belowC_psB])⟩
  · rw [if_neg c4] at hd
    simp [c4]
    refine ⟨by omega, i + 1, by (try dsimp only); omega, by (try dsimp only); omega, Weak.to (by simp [hw]) (by simp [psB, hs, hd, irow]) (by simp) (by simp) (by simp [belowC_psB])⟩

def pickN (T : Tr) (p : PS) (all : List Int) : Nat → Int
  | 0 => -1
  | n + 1 => if pickB T p (all.getD n 0) = true then (n : Int) else pickN T p all n
theorem walkF_few (A : Ar) (T : Tr) (all : List Int) (p : PS) (h : p.many ≤ 1) : ∀ k, walkF A T all k p = p
  | 0 => rfl
  | k + 1 => by rw [walkF, if_pos h]
theorem pickN_is (A : Ar) (T : Tr) (all : List Int) (p : PS) : ∀ k, (pickN T p all k = -1 ∧ walkF A T all k p = p) ∨ ∃ j, j < k ∧ pickN T p all k = (j : Int) ∧ (1 < p.many → walkF A T all k p = walkF A T all j (resS A T p (all.getD j 0)))
  | 0 => .inl ⟨rfl, rfl⟩
  | k + 1 => by
    rw [pickN, walkF]
    by_cases c : pickB T p (all.getD k 0) = true
    · rw [if_pos c, if_pos c]
      exact .inr ⟨k, by omega, rfl, fun h => by rw [if_neg (by omega)]⟩
    · rw [if_neg c, if_neg c]
      rcases pickN_is A T all p k with ⟨h1, h2⟩ | ⟨j, h1, h2, h3⟩
      · refine .inl ⟨h1, ?_⟩
        split
        · rfl
        · exact h2
      · refine .inr ⟨j, by omega, h2, fun h => ?_⟩
        rw [if_neg (by omega)]
        exact h3 h
set_option maxRecDepth 16000 in
theorem ppick_ok (A : Ar) (T : Tr) (p : PS) (all : List Int) (n : Nat) (ht : T.ok) (hn : n ≤ all.length) (hl : all.length ≤ 1000000) :
    AMut Tryz.prog 145 [.ptr 0 0, .seq false 1 (irow all), I64 ((n : Int) - 1)] [psB A T p] (fun r h' => h' = [psB A T p] ∧ r = .pv (I64 (pickN T p all n))) := by
  refine amutXD [] [.tmp 6] [psB A T p] (by simp) (fun _ => ⟨belowC_psB _ _ _ _, trivial⟩) hmo Tryz.func145 (by kernel_rfl) rfl rfl (by kernel_rfl) (Nat.le_of_ble_eq_true rfl) ?_
  generalize hF : pickN T p all n = F
  simp
  refine ALoop.intro (S := fun (k : Nat) => ⟨[(0, .pv (.ptr 0 0)), (1, .pv (.seq false 1 (irow all))), (7, .pv (I64 ((k : Int) - 1)))], [psB A T p]⟩) (fun k => k ≤ n ∧ F = pickN T p all k) (fun k => k) n ?_ ⟨Nat.le_refl _, hF.symm⟩ ?_
  · exact Weak.to (by simp) (by simp) (by simp) (by simp) (by simp [belowC_psB])
  rintro k ⟨hk, hP⟩
  cases k with
  | zero => simp [pickN] at hP; subst hP; simp [retXP]
  | succ j =>
    have hj : j < all.length := by omega
    have hg : all.getD j 0 = all[j] := by rw [List.getD_eq_getElem?_getD, List.getElem?_eq_getElem hj]; rfl
    have hw : w64 ((j : Int) - 1) = (j : Int) - 1 := w64_id (by omega) (by omega)
    have hlv := tlevel_ok T (litV all[j]) ht
    have hre := treason_ok T (litV all[j]) ht
    have hpk : pickN T p all (j + 1) = if pickB T p all[j] = true then (j : Int) else pickN T p all j := by rw [pickN, hg]
    have hB : pickB T p all[j] = (decide (0 < (lk p.seen (litV all[j])).getD 0) && (decide ((ofT T (litV all[j])).1.lev = T.beg.length) && decide (0 ≤ (ofT T (litV all[j])).1.rea))) := rfl
    rw [hpk, hB] at hP
    simp [hj, psB]
    refine CallK.intro (litVar_ok all[j]) (by simp) ?_
    simp
    refine CallQ.intro (fun _ => hlv) (by simp) ?_
    simp
    refine CallQ.intro (fun _ => tdepth_ok T) (by simp) ?_
    simp
    refine CallQ.intro (fun _ => hre) (by simp) ?_
    by_cases hc : (0 < (lk p.seen (litV all[j])).getD 0 ∧ (ofT T (litV all[j])).1.lev = T.beg.length) ∧ 0 ≤ (ofT T (litV all[j])).1.rea
    · obtain ⟨⟨e1, e2⟩, e3⟩ := hc
      rw [if_pos (by simp [e1, e2, e3])] at hP
      subst hP
      simp [e1, e2, e3, retXP, psB]
    · rw [if_neg (by simpa [and_assoc] using hc)] at hP
      simp [hc]
      refine fun _ => ⟨j, by (try dsimp only); omega, ⟨by (try dsimp only); omega, hP⟩, Weak.to (by simp [hw]) (by simp [psB]) (by simp) (by simp) (by simp [belowC_psB])⟩
end Go.AX

namespace Go.AX
open Go.Proofs
set_option linter.unusedSimpArgs false

theorem resS_le (A : Ar) (T : Tr) (hk : ArOk A) (hl : A.row.length ≤ 1000000) (p : PS) (l : Int) : (resS A T p l).many ≤ p.many + 1000000 ∧ (resS A T p l).lits.length ≤ p.lits.length + 1000000 := by
  have h := takeL_le T (litV l) (litsA A (ofT T (litV l)).1.rea) ⟨pt p.seen (litV l) 0, p.lits, p.many - 1⟩
  have h2 := litsA_len A hk (ofT T (litV l)).1.rea
  dsimp only at h
  unfold resS
  omega
def endF (T : Tr) (p : PS) (l : Int) : Bool := seenB p.seen (litV l) && decide (lvl T l = T.beg.length)
def endTo (T : Tr) (all : List Int) (p : PS) (i : Nat) : List Int := p.lits ++ ((all.take i).filter (endF T p)).map fun l => w64 (-l)
theorem endTo_succ (T : Tr) (all : List Int) (p : PS) {i : Nat} (h : i < all.length) : endTo T all p (i + 1) = if endF T p all[i] = true then endTo T all p i ++ [w64 (-all[i])] else endTo T all p i := by
  unfold endTo
  rw [← List.take_append_getElem h, List.filter_append, List.map_append]
  by_cases c : endF T p all[i] = true
  · rw [if_pos c, List.filter_cons, if_pos c]; simp
  · rw [if_neg c, List.filter_cons, if_neg c]; simp
theorem endTo_le (T : Tr) (all : List Int) (p : PS) (i : Nat) (hi : i ≤ all.length) : (endTo T all p i).length ≤ p.lits.length + i := by
  unfold endTo
  rw [List.length_append, List.length_map]
  have := List.length_filter_le (endF T p) (all.take i)
  rw [List.length_take] at this
  omega
theorem endTo_all (T : Tr) (all : List Int) (p : PS) : endTo T all p all.length = endS T all p := by
  unfold endTo endS
  rw [List.take_length]
  rfl
def fin (A : Ar) (T : Tr) (all : List Int) (p : PS) : PS := ⟨(walkF A T all all.length p).seen, endS T all (walkF A T all all.length p), (walkF A T all all.length p).many⟩
set_option maxRecDepth 16000 in
theorem pwalk_ok (A : Ar) (T : Tr) (p : PS) (all : List Int) (ht : T.ok) (h0 : A.hd ≠ []) (hk : ArOk A) (hl : A.row.length ≤ 1000000) (hn : all.length ≤ 400) (hm : p.many ≤ 1000000) (hp : p.lits.length ≤ 1000000) :
    AMut Tryz.prog 88 [.ptr 0 0, .seq false 1 (irow all)] [psB A T p] (fun r h' => h' = [psB A T (fin A T all p)] ∧ r = .pv (.tup [])) := by
  refine amutXD [] [] [psB A T (fin A T all p)] (by simp) (fun _ => ⟨belowC_psB _ _ _ _, trivial⟩) hmo Tryz.func88 (by kernel_rfl) rfl rfl (by kernel_rfl) (Nat.le_of_ble_eq_true rfl) ?_
  have hpick := fun p n hn => ppick_ok A T p all n ht hn (by omega)
  have hwn : w64 ((all.length : Int) - 1) = (all.length : Int) - 1 := w64_id (by omega) (by omega)
  unfold fin
  generalize hF : walkF A T all all.length p = F
  simp [hwn]
  refine CallB.intro (hpick p all.length (Nat.le_refl _)) (by simp) ?_
  rintro _ _ ⟨rfl, rfl⟩
  simp
  refine ALoop.intro (S := fun (x : Nat × PS) => ⟨[(0, .pv (.ptr 0 0)), (1, .pv (.seq false 1 (irow all))), (4, .pv (I64 (pickN T x.2 all x.1)))], [psB A T x.2]⟩) (fun x => x.1 ≤ all.length ∧ F = walkF A T all x.1 x.2 ∧ x.2.many ≤ 1000000 * (all.length - x.1 + 1) ∧ x.2.lits.length ≤ 1000000 * (all.length - x.1 + 1)) (fun x => x.1) (all.length, p) ?_ ⟨Nat.le_refl _, hF.symm, by dsimp only; omega, by dsimp only; omega⟩ ?_
  · exact Weak.to (by simp) (by simp) (by simp) (by simp) (by simp [belowC_psB])
  rintro ⟨k, s⟩ ⟨hkl, hFs, hs1, hs2⟩
  dsimp only at hkl hFs hs1 hs2
  have hpn := pickN_is A T all s k
  by_cases hc : (1 : Int) < (s.many : Int) ∧ 0 ≤ pickN T s all k
  rotate_left
  · have hFe : F = s := by
      rcases hpn with ⟨h1, h2⟩ | ⟨j, h1, h2, h3⟩
      · rw [hFs, h2]
      · rw [hFs, walkF_few A T all s (by omega)]
    subst hFe
    clear hFs hpn hpick
    simp [psB, hc]
    intro _
    refine ALoop.intro (S := fun (i : Nat) => ⟨[(0, .pv (.ptr 0 0)), (1, .pv (.seq false 1 (irow all))), (55, .pv (.seq false 1 (irow all))), (56, .pv (I64 all.length)), (57, .pv (I64 i))], [psB A T ⟨F.seen, endTo T all F i, F.many⟩]⟩) (fun i => i ≤ all.length) (fun i => all.length - i) 0 ?_ (Nat.zero_le _) ?_
    · exact Weak.to (by simp) (by simp [psB, endTo]) (by simp) (by simp) (by simp [belowC_psB])
    intro i hi
    by_cases h : i < all.length
    rotate_left
    · have hie : i = all.length := by omega
      subst hie
      simp [psB, retXP, endTo_all]
    have hw : w64 ((i : Int) + 1) = ((i + 1 : Nat) : Int) := by rw [w64_id (by omega) (by omega)]; omega
    have hsu := endTo_succ T all F h
    have hle := endTo_le T all F i hi
    have hlv := tlevel_ok T (litV all[i]) ht
    have hB : endF T F all[i] = (decide (0 < (lk F.seen (litV all[i])).getD 0) && decide ((ofT T (litV all[i])).1.lev = T.beg.length)) := rfl
    simp [h, psB]
    refine CallK.intro (litVar_ok all[i]) (by simp) ?_
    simp
    refine CallQ.intro (fun _ => hlv) (by simp) ?_
    simp
    refine CallQ.intro (fun _ => tdepth_ok T) (by simp) ?_
    by_cases hd : 0 < (lk F.seen (litV all[i])).getD 0 ∧ (ofT T (litV all[i])).1.lev = T.beg.length
    · rw [if_pos (by rw [hB]; simp [hd])] at hsu
      simp [hd]
      refine ⟨by omega, i + 1, by (try dsimp only); omega, by (try dsimp only); omega, Weak.to (by simp [hw]) (by simp [psB, hsu, irow]) (by simp) (by simp) (by simp [belowC_psB])⟩
    · rw [if_neg (by rw [hB]; simpa using hd)] at hsu
      simp [hd]
      refine fun _ => ⟨i + 1, by (try dsimp only); omega, by (try dsimp only); omega, Weak.to (by simp [hw]) (by simp [psB, hsu]) (by simp) (by simp) (by simp [belowC_psB])⟩
  obtain ⟨hc1, hc2⟩ := hc
  rcases hpn with ⟨h1, h2⟩ | ⟨j, h1, h2, h3⟩
  · omega
  have hj : j < all.length := by omega
  have hg : all.getD j 0 = all[j] := by rw [List.getD_eq_getElem?_getD, List.getElem?_eq_getElem hj]; rfl
  have h3' := h3 (by omega)
  rw [hg] at h3'
  have hre := treason_ok T (litV all[j]) ht
  have hwm : w64 ((s.many : Int) - 1) = ((s.many - 1 : Nat) : Int) := by rw [w64_id (by omega) (by omega)]; omega
  have hwj : w64 ((j : Int) - 1) = (j : Int) - 1 := w64_id (by omega) (by omega)
  have hbnd : 1000000 * (all.length - k + 1) + 1000000 ≤ 1000000 * (all.length - j + 1) := by omega
  have htk := ptake_ok A T ⟨pt s.seen (litV all[j]) 0, s.lits, s.many - 1⟩ (ofT T (litV all[j])).1.rea (litV all[j]) ht h0 hk hl (by dsimp only; omega) (by dsimp only; omega)
  have hle := resS_le A T hk hl s all[j]
  have hres : takeL T (litV all[j]) (litsA A (ofT T (litV all[j])).1.rea) ⟨pt s.seen (litV all[j]) 0, s.lits, s.many - 1⟩ = resS A T s all[j] := rfl
  rw [hres] at htk
  generalize resS A T s all[j] = s' at *
  simp [psB, hc1, h2, hj]
  refine CallK.intro (litVar_ok all[j]) (by simp) ?_
  simp [hwm]
  refine CallK.intro hre (by simp) ?_
  simp
  refine CallB.intro htk (by simp) ?_
  rintro _ _ ⟨rfl, rfl⟩
  simp [hwj]
  refine CallB.intro (hpick s' j (by omega)) (by simp) ?_
  rintro _ _ ⟨rfl, rfl⟩
  simp
  refine ⟨(j, s'), by (try dsimp only); omega, ⟨by (try dsimp only); omega, by (try dsimp only); rw [hFs, h3'], by (try dsimp only); omega, by (try dsimp only); omega⟩, Weak.to (by simp) (by simp [psB]) (by simp) (by simp) (by simp [belowC_psB])⟩
end Go.AX

namespace Go.AX
open Go.Proofs
set_option linter.unusedSimpArgs false

theorem rfails1_ok (T : Tr) (ht : T.ok) (x : Int) : APure Tryz.prog 143 [I64 x, .iptr 1 [[trP T]] 0 0] (fun r => r = .pv (BL (decide (0 ≤ valT T x)))) := by
  refine apure1 hmo Tryz.func143 (by kernel_rfl) rfl rfl (by kernel_rfl) (Nat.le_of_ble_eq_true rfl) ?_
  have hv := tvalue_ok T x ht
  simp
  refine CallK.intro hv (by simp) ?_
  simp
def failsS (T : Tr) (lits : List Int) : Bool := !(lits.any fun x => decide (0 ≤ valT T x))
theorem rfails_ok (T : Tr) (lits : List Int) (ht : T.ok) (hl : lits.length ≤ 1000000) : APure Tryz.prog 85 [trP T, .seq false 1 (irow lits)] (fun r => r = .pv (BL (failsS T lits))) := by
  refine apure1 hmo Tryz.func85 (by kernel_rfl) rfl rfl (by kernel_rfl) (Nat.le_of_ble_eq_true rfl) ?_
  have hC := containsF_ok lits hl 143 [.iptr 1 [[trP T]] 0 0] (fun x => decide (0 ≤ valT T x)) (fun r => by simp) rfl (fun k => by simp) (fun x _ => rfails1_ok T ht x)
  simp [frzP]
  refine CallK.intro hC (by simp) ?_
  simp [failsS]
def lasTo (T : Tr) (lits : List Int) : Nat → List (Int × Int)
  | 0 => []
  | i + 1 => if lvl T (lits.getD i 0) = T.beg.length then pt (lasTo T lits i) (litV (lits.getD i 0)) ((lk (lasTo T lits i) (litV (lits.getD i 0))).getD 0 + 1) else lasTo T lits i
theorem lasTo_le (T : Tr) (lits : List Int) : ∀ (i : Nat) (v : Int), 0 ≤ (lk (lasTo T lits i) v).getD 0 ∧ (lk (lasTo T lits i) v).getD 0 ≤ i
  | 0, v => by simp [lasTo, lk]
  | i + 1, v => by
    have h := lasTo_le T lits i
    rw [lasTo]
    split
    · rw [lk_pt]
      split
      · have := h (litV (lits.getD i 0))
        rw [Option.getD_some]; omega
      · have := h v; omega
    · have := h v; omega
def asrS (T : Tr) (lits : List Int) : Bool := decide (lits ≠ []) && failsS T lits && (decide ((lasTo T lits lits.length).length = 1) && decide (0 < (lk (lasTo T lits lits.length) (litV (lits.getD 0 0))).getD 0))
set_option maxRecDepth 16000 in
theorem asserts_ok (T : Tr) (lits : List Int) (ht : T.ok) (hl : lits.length ≤ 1000000) : APure Tryz.prog 38 [trP T, .seq false 1 (irow lits)] (fun r => r = .pv (BL (asrS T lits))) := by
  refine apure1 hmo Tryz.func38 (by kernel_rfl) rfl rfl (by kernel_rfl) (Nat.le_of_ble_eq_true rfl) ?_
  have hfl := rfails_ok T lits ht hl
  unfold asrS
  simp
  refine CallG.intro (fun _ => hfl) (by simp) ?_
  by_cases c1 : lits.length = 0
  · have : lits = [] := List.length_eq_zero_iff.1 c1
    subst this
    simp
  by_cases c2 : failsS T lits = true
  rotate_left
  · have c2' : failsS T lits = false := by simpa using c2
    simp [c1, c2']
  have c1' : lits ≠ [] := fun e => c1 (by simp [e])
  simp [c1, c2, c1']
  refine ALoop.intro (S := fun (i : Nat) => ⟨[(0, .pv (trP T)), (1, .pv (.seq false 1 (irow lits))), (5, .omap true (mapE fI (lasTo T lits i))), (23, .pv (.seq false 1 (irow lits))), (24, .pv (I64 lits.length)), (25, .pv (I64 i))], []⟩) (fun i => i ≤ lits.length) (fun i => lits.length - i) 0 ?_ (Nat.zero_le _) ?_
  · exact Weak.to (by simp [lasTo]) (by simp) (by simp) (by simp) (by simp)
  intro i hi
  by_cases h : i < lits.length
  · have hw : w64 ((i : Int) + 1) = ((i + 1 : Nat) : Int) := by rw [w64_id (by omega) (by omega)]; omega
    have hg : lits.getD i 0 = lits[i] := by rw [List.getD_eq_getElem?_getD, List.getElem?_eq_getElem h]; rfl
    have hlv := tlevel_ok T (litV lits[i]) ht
    have hsu : lasTo T lits (i + 1) = if (ofT T (litV lits[i])).1.lev = T.beg.length then pt (lasTo T lits i) (litV lits[i]) ((lk (lasTo T lits i) (litV lits[i])).getD 0 + 1) else lasTo T lits i := by rw [lasTo, hg]; rfl
    have hle := lasTo_le T lits i (litV lits[i])
    have hwm : w64 ((lk (lasTo T lits i) (litV lits[i])).getD 0 + 1) = (lk (lasTo T lits i) (litV lits[i])).getD 0 + 1 := w64_id (by omega) (by omega)
    simp [h]
    refine CallK.intro (litVar_ok lits[i]) (by simp) ?_
    simp
    refine CallK.intro hlv (by simp) ?_
    simp
    refine CallK.intro (tdepth_ok T) (by simp) ?_
    by_cases c3 : (ofT T (litV lits[i])).1.lev = T.beg.length
    · rw [if_pos c3] at hsu
      simp [c3]
      refine ⟨i + 1, by (try dsimp only); omega, by (try dsimp only); omega, Weak.to (by simp [hw, hsu, hwm]) (by simp) (by simp) (by simp) (by simp)⟩
    · rw [if_neg c3] at hsu
      simp [c3]
      refine ⟨i + 1, by (try dsimp only); omega, by (try dsimp only); omega, Weak.to (by simp [hw, hsu]) (by simp) (by simp) (by simp) (by simp)⟩
  have hie : i = lits.length := by omega
  subst hie
  have h0 : 0 < lits.length := by omega
  have hg0 : lits.getD 0 0 = lits[0] := by rw [List.getD_eq_getElem?_getD, List.getElem?_eq_getElem h0]; rfl
  have hml : ∀ m : List (Int × Int), (mapE fI m).length = m.length := fun m => by unfold mapE; simp
  simp [h0]
  refine CallG.intro (fun _ => litVar_ok lits[0]) (by simp) ?_
  have hn1 : ∀ n : Nat, ((n : Int) = 1) = (n = 1) := fun n => propext (by omega)
  simp [hml, hg0, hn1]
def levTo (T : Tr) (lits : List Int) (i : Nat) : List Int := ((lits.take i).filter fun l => !decide (valT T l = 0)).map (lvl T)
theorem levTo_succ (T : Tr) (lits : List Int) {i : Nat} (h : i < lits.length) : levTo T lits (i + 1) = if valT T lits[i] = 0 then levTo T lits i else levTo T lits i ++ [lvl T lits[i]] := by
  unfold levTo
  rw [← List.take_append_getElem h, List.filter_append, List.map_append]
  by_cases c : valT T lits[i] = 0
  · rw [if_pos c, List.filter_cons, if_neg (by simp [c])]; simp
  · rw [if_neg c, List.filter_cons, if_pos (by simp [c])]; simp
theorem levTo_le (T : Tr) (lits : List Int) (i : Nat) : (levTo T lits i).length ≤ i := by
  unfold levTo
  rw [List.length_map]
  have := List.length_filter_le (fun l => !decide (valT T l = 0)) (lits.take i)
  rw [List.length_take] at this
  omega
def levS (T : Tr) (lits : List Int) : List Int := compS (sortI (levTo T lits lits.length))
def backS (T : Tr) (lits : List Int) : Int := if (levS T lits).length < 2 then 0 else (levS T lits).getD ((levS T lits).length - 2) 0
set_option maxRecDepth 16000 in
theorem level_ok (T : Tr) (lits : List Int) (ht : T.ok) (hl : lits.length ≤ 1000000) : APure Tryz.prog 37 [trP T, .seq false 1 (irow lits)] (fun r => r = .pv (I64 (backS T lits))) := by
  refine apure1 hmo Tryz.func37 (by kernel_rfl) rfl rfl (by kernel_rfl) (Nat.le_of_ble_eq_true rfl) ?_
  simp
  refine ALoop.intro (S := fun (i : Nat) => ⟨[(0, .pv (trP T)), (5, .own true 1 (irow (levTo T lits i))), (8, .pv (.seq false 1 (irow lits))), (9, .pv (I64 lits.length)), (10, .pv (I64 i))], []⟩) (fun i => i ≤ lits.length) (fun i => lits.length - i) 0 ?_ (Nat.zero_le _) ?_
  · exact (Weak.nilOwn (s := 5) 1 true (by simp)).trans (Weak.to (by simp [levTo, irow]) (by simp) (by simp) (by simp) (by simp))
  intro i hi
  by_cases h : i < lits.length
  · have hw : w64 ((i : Int) + 1) = ((i + 1 : Nat) : Int) := by rw [w64_id (by omega) (by omega)]; omega
    have hlv := tlevel_ok T (litV lits[i]) ht
    have hv := tvalue_ok T lits[i] ht
    have hsu := levTo_succ T lits h
    have hle := levTo_le T lits i
    simp [h]
    refine CallG.intro (fun _ => hv) (by simp) ?_
    by_cases c : valT T lits[i] = 0
    · rw [if_pos c] at hsu
      simp [c]
      refine ⟨i + 1, by (try dsimp only); omega, by (try dsimp only); omega, Weak.to (by simp [hw, hsu]) (by simp) (by simp) (by simp) (by simp)⟩
    · rw [if_neg c] at hsu
      simp [c]
      refine CallK.intro (litVar_ok lits[i]) (by simp) ?_
      simp
      refine CallK.intro hlv (by simp) ?_
      simp
      refine ⟨by omega, i + 1, by (try dsimp only); omega, by (try dsimp only); omega, Weak.to (by simp [hw, hsu, irow, lvl]) (by simp) (by simp) (by simp) (by simp)⟩
  have hie : i = lits.length := by omega
  subst hie
  have hle := levTo_le T lits lits.length
  have hS := sortIg_ok (levTo T lits lits.length) (by omega)
  have hB : backS T lits = if (compS (sortI (levTo T lits lits.length))).length < 2 then 0 else (compS (sortI (levTo T lits lits.length))).getD ((compS (sortI (levTo T lits lits.length))).length - 2) 0 := rfl
  generalize backS T lits = B at *
  have hsl : (sortI (levTo T lits lits.length)).length = (levTo T lits lits.length).length := by unfold sortI; exact List.length_mergeSort _
  generalize levTo T lits lits.length = xs at *
  have hC := compact_ok (sortI xs) (by omega)
  have hcl := compTo_len (sortI xs) (sortI xs).length
  unfold cmpR at hC
  have hcs : compTo (sortI xs) (sortI xs).length = compS (sortI xs) := rfl
  rw [hcs] at hcl
  generalize sortI xs = so at *
  generalize compS so = co at *
  simp
  refine CallK.introX (CallX.introS (o := .slot 5) (lo := 0) (hi := xs.length) hS (by simp) rfl rfl (by simp) (by simp) rfl (by simp; exact List.take_of_length_le (by simp)) (belowR_irow 0 xs) (by simp) (by simp) ?_)
  rintro k rows' ⟨rfl, rfl⟩ _ _
  have hd1 : List.drop xs.length (irow xs) = [] := List.drop_eq_nil_of_le (by simp)
  simp [hd1]
  refine CallK.introX (CallX.introS (o := .slot 5) (lo := 0) (hi := so.length) hC (by simp) rfl rfl (by simp) (by simp) rfl (by simp; exact List.take_of_length_le (by simp)) (belowR_intsB 0 so) (by simp) (by simp) ?_)
  rintro k rows' ⟨rfl, rfl⟩ _ _
  have hd2 : List.drop so.length (irow so) = [] := List.drop_eq_nil_of_le (by simp)
  have hI : (intsB (co ++ List.replicate (so.length - co.length) 0)).length = so.length := by rw [intsB_len]; simp; omega
  have hmin : min co.length (intsB (co ++ List.replicate (so.length - co.length) 0)).length = co.length := by rw [hI]; omega
  have htk := intsB_take co (List.replicate (so.length - co.length) 0)
  by_cases c2 : co.length < 2
  · rw [if_pos c2] at hB
    have c2' : (co.length : Int) < 2 := by omega
    have c3' : ¬ 2 ≤ (co.length : Int) := by omega
    simp [hd2, c2, c2', c3', hB, hmin]
  rw [if_neg c2] at hB
  obtain ⟨m, hm⟩ : ∃ m, co.length = m + 2 := ⟨co.length - 2, by omega⟩
  have hw : w64 ((co.length : Int) - 2) = (m : Int) := by rw [w64_id (by omega) (by omega)]; omega
  have c2' : ¬ (co.length : Int) < 2 := by omega
  have hmco : m < co.length := by omega
  have hBm : B = co[m] := by rw [hB, hm, List.getD_eq_getElem?_getD, Nat.add_sub_cancel, List.getElem?_eq_getElem hmco]; rfl
  have hgm : (intsB co)[m]? = some [I64 co[m]] := by unfold intsB; rw [List.getElem?_map, List.getElem?_eq_getElem hmco]; rfl
  have hmi : (m : Int) < (co.length : Int) := by omega
  rw [hBm]
  clear hB hBm
  have hil := intsB_len co
  have c3' : 2 ≤ (co.length : Int) := by omega
  have hgm' : ∀ h, (intsB co)[m]'h = [I64 co[m]] := fun h => by rw [List.getElem?_eq_getElem h] at hgm; exact Option.some.inj hgm
  simp [hd2, c2, c2', c3', hw, hmin, htk, hmi, hil, hgm', hmco]
end Go.AX

namespace Go.AX
open Go.Proofs
set_option linter.unusedSimpArgs false

def idA (A : Ar) (q : Int) : Int := if isA A q = true then A.row.getD q.toNat 0 else 0
theorem aidF_ok (A : Ar) (h0 : A.hd ≠ []) (hk : ArOk A) (hl : A.row.length ≤ 1000000) (q : Int) : APure Tryz.prog 84 [arP A, I64 q] (fun r => r = .pv (I64 (idA A q))) := by
  refine apure1 hmo Tryz.func84 (by kernel_rfl) rfl rfl (by kernel_rfl) (Nat.le_of_ble_eq_true rfl) ?_
  have hi := aisF_ok A h0 q
  unfold idA
  simp only [arP, arR] at hi
  simp [arP, arR]
  refine CallK.intro hi (by simp) ?_
  by_cases c : isA A q = true
  rotate_left
  · have c' : isA A q = false := by simpa using c
    simp [c']
  obtain ⟨p, n, rfl, ha⟩ := hk q c
  have hp : p < A.row.length := by have := ha.len; omega
  simp [c, hp]
structure NS where
  at' : List (Int × Int)
  ok : Bool
def pla (T : Tr) (l : Int) : Int := (ofT T (litV l)).1.pla
def rea (T : Tr) (l : Int) : Int := (ofT T (litV l)).1.rea
def skipN (T : Tr) (stop : List (Int × Int)) (but : Int) (s : NS) (l : Int) : Bool := decide (l = but) || seenB stop l || (seenB s.at' (pla T l) && decide (0 ≤ pla T l))
def badN (A : Ar) (T : Tr) (l : Int) : Bool := decide (0 ≤ valT T l) || decide (rea T l < 0) || decide (idA A (rea T l) = 0)
def markN (T : Tr) (s : NS) (l : Int) : NS := ⟨pt s.at' (pla T l) (w64 ((lk s.at' (pla T l)).getD 0 + 1)), s.ok⟩
def clsL (f : NS → Int → Int → NS) (A : Ar) (T : Tr) (stop : List (Int × Int)) (but : Int) : List Int → NS → NS
  | [], s => s
  | l :: c, s => if skipN T stop but s l = true then clsL f A T stop but c s else if badN A T l = true then ⟨s.at', false⟩ else clsL f A T stop but c (f (markN T s l) (rea T l) (w64 (-l)))
def clsF (A : Ar) (T : Tr) (stop : List (Int × Int)) : Nat → NS → Int → Int → NS
  | 0, s, _, _ => s
  | k + 1, s, q, but => clsL (clsF A T stop k) A T stop but (litsA A q) s
def nsB (A : Ar) (T : Tr) (stop : List (Int × Int)) (s : NS) : List SV := [.pv (arP A), .pv (trP T), .omap true (mapE fI stop), .omap true (mapE fI s.at'), .pv (BL s.ok)]
theorem belowC_nsB (k : Nat) (A : Ar) (T : Tr) (stop : List (Int × Int)) (s : NS) : belowC k (nsB A T stop s) := ⟨⟨⟨belowR_irow k _, belowE_fI k _, trivial⟩, trivial⟩, ⟨⟨belowR_mkR k _, belowR_irow k _, belowR_irow k _, trivial, trivial⟩, trivial⟩, belowE_fI k _, belowE_fI k _, trivial, trivial⟩
structure AheadOk (A : Ar) (T : Tr) : Prop where
  tr : T.ok
  hd : A.hd ≠ []
  ar : ArOk A
  len : A.row.length ≤ 1000000
  ahead : ∀ l : Int, valT T l < 0 → 0 ≤ rea T l → 0 ≤ pla T l ∧ ∀ y ∈ litsA A (rea T l), y ≠ w64 (-l) → pla T y < pla T l
set_option maxRecDepth 16000 in
theorem ncls_ok (A : Ar) (T : Tr) (stop : List (Int × Int)) (hA : AheadOk A T) : ∀ (k : Nat) (q but : Int) (s : NS), (∀ y ∈ litsA A q, y ≠ but → pla T y < k) →
    AMut Tryz.prog 91 [.ptr 0 0, I64 q, I64 but] [nsB A T stop s] (fun r h' => h' = [nsB A T stop (clsF A T stop (k + 1) s q but)] ∧ r = .pv (.tup [])) := by
  intro k
  induction k using Nat.strongRecOn with
  | ind k ih =>
  intro q but s hq
  refine amutXD [] [] [nsB A T stop (clsF A T stop (k + 1) s q but)] (by simp) (fun _ => ⟨belowC_nsB _ _ _ _ _, trivial⟩) hmo Tryz.func91 (by kernel_rfl) rfl rfl (by kernel_rfl) (Nat.le_of_ble_eq_true rfl) ?_
  obtain ⟨ht, h0, hk, hl, hah⟩ := hA
  have hL := alitsF_ok A h0 hk hl q
  have hc := litsA_len A hk q
  rw [clsF]
  generalize hF : clsL (clsF A T stop k) A T stop but (litsA A q) s = F
  generalize litsA A q = c at *
  simp [nsB]
  refine CallK.intro hL (by simp) ?_
  simp
  refine ALoop.intro (S := fun (x : Nat × NS) => ⟨[(0, .pv (.ptr 0 0)), (2, .pv (I64 but)), (15, .own true 1 (irow c)), (16, .pv (I64 c.length)), (17, .pv (I64 x.1))], [nsB A T stop x.2]⟩) (fun x => x.1 ≤ c.length ∧ F = clsL (clsF A T stop k) A T stop but (c.drop x.1) x.2) (fun x => c.length - x.1) (0, s) ?_ ⟨Nat.zero_le _, hF.symm⟩ ?_
  · exact Weak.to (by simp) (by simp [nsB]) (by simp) (by simp) (by simp [belowC_nsB])
  clear hF
  rintro ⟨i, s⟩ ⟨hi, hFi⟩
  dsimp only at hi hFi
  by_cases h : i < c.length
  rotate_left
  · have hie : i = c.length := by omega
    subst hie
    rw [List.drop_eq_nil_of_le (Nat.le_refl _), clsL] at hFi
    subst hFi
    simp [nsB, retXP]
  have hw : w64 ((i : Int) + 1) = ((i + 1 : Nat) : Int) := by rw [w64_id (by omega) (by omega)]; omega
  have hdr : c.drop i = c[i] :: c.drop (i + 1) := List.drop_eq_getElem_cons h
  rw [hdr, clsL] at hFi
  have hpl := tplace_ok T (litV c[i]) ht
  have hre := treason_ok T (litV c[i]) ht
  have hva := tvalue_ok T c[i] ht
  have hsk : skipN T stop but s c[i] = (decide (c[i] = but) || decide (0 < (lk stop c[i]).getD 0) || (decide (0 < (lk s.at' (pla T c[i])).getD 0) && decide (0 ≤ pla T c[i]))) := rfl
  have hbd : badN A T c[i] = (decide (0 ≤ valT T c[i]) || decide (rea T c[i] < 0) || decide (idA A (rea T c[i]) = 0)) := rfl
  have hp0 : (ofT T (litV c[i])).1.pla = pla T c[i] := rfl
  have hr0 : (ofT T (litV c[i])).1.rea = rea T c[i] := rfl
  rw [hp0] at hpl
  rw [hr0] at hre
  simp [h, nsB]
  refine CallK.intro (litVar_ok c[i]) (by simp) ?_
  simp
  refine CallQ.intro (fun _ => hpl) (by simp) ?_
  simp
  refine CallQ.intro (fun _ => hpl) (by simp) ?_
  simp
  refine ⟨fun a b => ⟨⟨a, b⟩, fun e => ⟨⟨a, b⟩, e⟩⟩, fun hs => ?_, fun n1 n2 n3 => ?_⟩
  · rw [if_pos (by rw [hsk]; simpa using hs)] at hFi
    exact ⟨(i + 1, s), by (try dsimp only); omega, ⟨by (try dsimp only); omega, hFi⟩, Weak.to (by simp [hw]) (by simp [nsB]) (by simp) (by simp) (by simp [belowC_nsB])⟩
  have hsk2 : ¬ skipN T stop but s c[i] = true := by
    rw [hsk]
    simp only [Bool.or_eq_true, Bool.and_eq_true, decide_eq_true_eq]
    rintro ((e | e) | ⟨e1, e2⟩)
    · exact n1 e
    · omega
    · have := n3 e1; omega
  rw [if_neg hsk2] at hFi
  refine CallK.intro hre (by simp) ?_
  simp
  refine CallK.intro hva (by simp) ?_
  simp
  refine CallG.intro (fun _ => aidF_ok A h0 hk hl _) (by simp) ?_
  by_cases hb : badN A T c[i] = true
  · rw [if_pos hb] at hFi
    rw [hbd] at hb
    have hb' : (0 ≤ valT T c[i] ∨ rea T c[i] < 0) ∨ idA A (rea T c[i]) = 0 := by simpa using hb
    subst hFi
    simp [hb', retXP]
  rw [if_neg hb] at hFi
  have hb2 : ¬ (0 ≤ valT T c[i]) ∧ ¬ (rea T c[i] < 0) ∧ ¬ (idA A (rea T c[i]) = 0) := by
    rw [hbd] at hb
    simpa [and_assoc] using hb
  obtain ⟨m1, m2, m3⟩ := hb2
  obtain ⟨u1, u2⟩ := hah c[i] (by omega) (by omega)
  have hck := hq c[i] (List.getElem_mem h) n1
  simp [m1, m2, m3]
  refine ⟨by omega, ?_⟩
  refine CallQ0.intro hpl (by simp) ?_
  simp
  obtain ⟨k', rfl⟩ : ∃ k', k = k' + 1 := ⟨k - 1, by omega⟩
  have hrec := ih k' (by omega) (rea T c[i]) (w64 (-c[i])) (markN T s c[i]) (fun y hy hne => by have := u2 y hy hne; omega)
  simp only [nsB, markN] at hrec
  refine CallB.intro hrec (by simp) ?_
  rintro _ _ ⟨rfl, rfl⟩
  simp
  refine ⟨(i + 1, clsF A T stop (k' + 1) (markN T s c[i]) (rea T c[i]) (w64 (-c[i]))), by (try dsimp only); omega, ⟨by (try dsimp only); omega, hFi⟩, Weak.to (by simp [hw]) (by simp [nsB, markN]) (by simp) (by simp) (by simp [belowC_nsB])⟩
end Go.AX

namespace Go.AX
open Go.Proofs
set_option linter.unusedSimpArgs false

def stoTo (lits : List Int) : Nat → List (Int × Int)
  | 0 => []
  | i + 1 => pt (stoTo lits i) (lits.getD i 0) ((lk (stoTo lits i) (lits.getD i 0)).getD 0 + 1)
theorem stoTo_le (lits : List Int) : ∀ (i : Nat) (v : Int), 0 ≤ (lk (stoTo lits i) v).getD 0 ∧ (lk (stoTo lits i) v).getD 0 ≤ i
  | 0, v => by simp [stoTo, lk]
  | i + 1, v => by
    have h := stoTo_le lits i
    rw [stoTo, lk_pt]
    split
    · have := h (lits.getD i 0)
      rw [Option.getD_some]; omega
    · have := h v; omega
theorem stoTo_is (lits : List Int) (v : Int) : ∀ i, i ≤ lits.length → (seenB (stoTo lits i) v = true ↔ v ∈ lits.take i)
  | 0, _ => by simp [stoTo, lk, seenB]
  | i + 1, h => by
    have ih := stoTo_is lits v i (by omega)
    have hg : lits.getD i 0 = lits[i] := by rw [List.getD_eq_getElem?_getD, List.getElem?_eq_getElem (by omega)]; rfl
    have hle := stoTo_le lits i lits[i]
    rw [stoTo, hg, seen_pt, List.take_add_one, List.getElem?_eq_getElem (by omega), Option.toList_some, List.mem_append, List.mem_singleton]
    split
    · rename_i e
      subst e
      have : 0 < (lk (stoTo lits i) lits[i]).getD 0 + 1 := by omega
      simp [this]
    · rename_i e
      rw [ih]
      exact ⟨.inl, fun h => h.elim id (fun h => absurd h.symm e)⟩
def hinF (T : Tr) (at' : List (Int × Int)) (out : List Int) (i : Nat) : Bool := seenB at' i && !decide (rea T (T.lits.getD i 0) ∈ out)
def hinTo (T : Tr) (at' : List (Int × Int)) : Nat → List Int
  | 0 => []
  | i + 1 => if hinF T at' (hinTo T at' i) i = true then hinTo T at' i ++ [rea T (T.lits.getD i 0)] else hinTo T at' i
theorem hinTo_le (T : Tr) (at' : List (Int × Int)) : ∀ i, (hinTo T at' i).length ≤ i
  | 0 => by simp [hinTo]
  | i + 1 => by
    have := hinTo_le T at' i
    rw [hinTo]
    split
    · simp; omega
    · omega
def hinN (A : Ar) (T : Tr) (lits : List Int) (con : Int) : NS := clsF A T (stoTo lits lits.length) (T.lits.length + 1) ⟨[], true⟩ con 0
def hinO (T : Tr) (at' : List (Int × Int)) (con : Int) : List Int := if con ∈ hinTo T at' T.lits.length then hinTo T at' T.lits.length else hinTo T at' T.lits.length ++ [con]
def hinS (A : Ar) (T : Tr) (lits : List Int) (con : Int) : List Int × Bool :=
  if idA A con = 0 then ([], false) else if (hinN A T lits con).ok = false then ([], false) else (hinO T (hinN A T lits con).at' con, true)
set_option maxRecDepth 16000 in
theorem hints_ok (A : Ar) (T : Tr) (lits : List Int) (con : Int) (hA : AheadOk A T) (hp : ∀ l, pla T l < T.lits.length) (hl : lits.length ≤ 1000000) (hT : T.lits.length ≤ 1000000) :
    APure Tryz.prog 31 [arP A, trP T, .seq false 1 (irow lits), I64 con] (fun r => r = .pv (.tup [.seq true 1 (irow (hinS A T lits con).1), BL (hinS A T lits con).2])) := by
  refine APure.wk (R := fun r => ∃ x, r = .pv x ∧ wkP x (.tup [.seq true 1 (irow (hinS A T lits con).1), BL (hinS A T lits con).2])) ?_ (fun r ⟨x, e, h⟩ => ⟨x, _, e, h, rfl⟩)
  refine apureX [] [.tmp 8, .tmp 9] hmo Tryz.func31 (by kernel_rfl) rfl rfl (by kernel_rfl) (Nat.le_of_ble_eq_true rfl) ?_
  have hId := aidF_ok A hA.hd hA.ar hA.len con
  have hcls := ncls_ok A T (stoTo lits lits.length) hA T.lits.length con 0 ⟨[], true⟩ (fun y _ _ => hp y)
  have hL := tlits_ok T hT
  obtain ⟨H, hH⟩ : ∃ H, hinS A T lits con = H := ⟨_, rfl⟩
  rw [hH]
  unfold hinS at hH
  have hN : clsF A T (stoTo lits lits.length) (T.lits.length + 1) ⟨[], true⟩ con 0 = hinN A T lits con := rfl
  rw [hN] at hcls
  generalize hinN A T lits con = N at *
  simp
  refine CallG.intro (fun _ => hId) (by simp) ?_
  by_cases c0 : idA A con = 0
  · rw [if_pos c0] at hH
    subst hH
    simp [c0, wkP, wkPL, irow]
  rw [if_neg c0] at hH
  simp [c0]
  refine ALoop.intro (S := fun (i : Nat) => ⟨[(0, .pv (arP A)), (1, .pv (trP T)), (2, .pv (.seq false 1 (irow lits))), (3, .pv (I64 con)), (10, .pv (.ptr 0 0)), (35, .pv (.seq false 1 (irow lits))), (36, .pv (I64 lits.length)), (37, .pv (I64 i))], [nsB A T (stoTo lits i) ⟨[], true⟩]⟩) (fun i => i ≤ lits.length) (fun i => lits.length - i) 0 ?_ (Nat.zero_le _) ?_
  · exact Weak.to (by simp) (by simp [nsB, stoTo]) (by simp) (by simp) (by simp [belowC_nsB])
  intro i hi
  by_cases h : i < lits.length
  · have hw : w64 ((i : Int) + 1) = ((i + 1 : Nat) : Int) := by rw [w64_id (by omega) (by omega)]; omega
    have hg : lits.getD i 0 = lits[i] := by rw [List.getD_eq_getElem?_getD, List.getElem?_eq_getElem h]; rfl
    have hle := stoTo_le lits i lits[i]
    have hwm : w64 ((lk (stoTo lits i) lits[i]).getD 0 + 1) = (lk (stoTo lits i) lits[i]).getD 0 + 1 := w64_id (by omega) (by omega)
    have hsu : stoTo lits (i + 1) = pt (stoTo lits i) lits[i] ((lk (stoTo lits i) lits[i]).getD 0 + 1) := by rw [stoTo, hg]
    simp [h, nsB]
    refine ⟨i + 1, by (try dsimp only); omega, by (try dsimp only); omega, Weak.to (by simp [hw]) (by simp [nsB, hsu, hwm]) (by simp) (by simp) (by simp [belowC_nsB])⟩
  have hie : i = lits.length := by omega
  subst hie
  simp only [nsB] at hcls
  simp [nsB]
  refine CallB.intro hcls (by simp) ?_
  rintro _ _ ⟨rfl, rfl⟩
  cases c1 : N.ok
  · rw [if_pos c1] at hH
    subst hH
    simp [c1, wkP, wkPL, irow]
  rw [if_neg (by simp [c1])] at hH
  subst hH
  simp [c1]
  refine CallK.intro hL (by simp) ?_
  simp
  refine ALoop.intro (S := fun (i : Nat) => ⟨[(1, .pv (trP T)), (3, .pv (I64 con)), (10, .pv (.ptr 0 0)), (13, .own true 1 (irow (hinTo T N.at' i))), (58, .own true 1 (irow T.lits)), (59, .pv (I64 T.lits.length)), (60, .pv (I64 i))], [nsB A T (stoTo lits lits.length) N]⟩) (fun i => i ≤ T.lits.length) (fun i => T.lits.length - i) 0 ?_ (Nat.zero_le _) ?_
  · exact (Weak.nilOwn (s := 13) 1 true (by simp)).trans (Weak.to (by simp [hinTo, irow]) (by simp [nsB, c1]) (by simp) (by simp) (by simp [belowC_nsB]))
  intro i hi
  have hle := hinTo_le T N.at' i
  by_cases h : i < T.lits.length
  · have hw : w64 ((i : Int) + 1) = ((i + 1 : Nat) : Int) := by rw [w64_id (by omega) (by omega)]; omega
    have hg : T.lits.getD i 0 = T.lits[i] := by rw [List.getD_eq_getElem?_getD, List.getElem?_eq_getElem h]; rfl
    have hre := treason_ok T (litV T.lits[i]) hA.tr
    have hr0 : (ofT T (litV T.lits[i])).1.rea = rea T T.lits[i] := rfl
    rw [hr0] at hre
    have hsu : hinTo T N.at' (i + 1) = if hinF T N.at' (hinTo T N.at' i) i = true then hinTo T N.at' i ++ [rea T T.lits[i]] else hinTo T N.at' i := by rw [hinTo, hg]
    have hB : hinF T N.at' (hinTo T N.at' i) i = (decide (0 < (lk N.at' (i : Int)).getD 0) && !decide (rea T T.lits[i] ∈ hinTo T N.at' i)) := by unfold hinF; rw [hg]; rfl
    have hct := contains_ok (hinTo T N.at' i) (rea T T.lits[i]) (by omega)
    simp [h, nsB]
    refine CallK.intro (litVar_ok T.lits[i]) (by simp) ?_
    simp
    refine CallK.intro hre (by simp) ?_
    simp
    refine CallG.intro (fun _ => hct) (by simp) ?_
    by_cases hc : 0 < (lk N.at' (i : Int)).getD 0 ∧ ¬ rea T T.lits[i] ∈ hinTo T N.at' i
    · rw [if_pos (by rw [hB]; simp [hc])] at hsu
      simp [hc]
      refine ⟨by omega, i + 1, by (try dsimp only); omega, by (try dsimp only); omega, Weak.to (by simp [hw, hsu, irow]) (by simp [nsB]) (by simp) (by simp) (by simp [belowC_nsB])⟩
    · rw [if_neg (by rw [hB]; simpa using hc)] at hsu
      simp [hc]
      refine fun _ => ⟨i + 1, by (try dsimp only); omega, by (try dsimp only); omega, Weak.to (by simp [hw, hsu]) (by simp [nsB]) (by simp) (by simp) (by simp [belowC_nsB])⟩
  have hie : i = T.lits.length := by omega
  subst hie
  have hct := contains_ok (hinTo T N.at' T.lits.length) con (by omega)
  unfold hinO
  generalize hinTo T N.at' T.lits.length = O at *
  simp
  refine CallK.intro hct (by simp) ?_
  by_cases hc : con ∈ O
  · simp [hc, wkP, wkPL]
  · simp [hc, wkP, wkPL, irow]
    omega
end Go.AX
