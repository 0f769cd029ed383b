/-
  Contracts: the one literal of the greatest level first; what a conflict teaches.
  What is gathered of reasons is all that is needed (plain law).
  Hints that were found show what a conflict teaches (plain law).
  Contracts: the document's chains of hints.
  Contracts: assign: how many literals hold, fail, are open; what a unit says.
-/
import Derived.Test.YtklaffmpfmpffaaGreatS11AxRnI
import Derived.Test.YtklaffmpfmpffaaGreatS11AxShelf2
import Derived.Test.YtklaffmpfmpffaaGreatAxDl
namespace Go.AX
open Go.Proofs
set_option linter.unusedSimpArgs false

end Go.AX

namespace Go.AX
open Go.Proofs
set_option linter.unusedSimpArgs false

/-! ### What was gathered -/
def Met (D : DK) (L : List Int) (s : NS) (y : Int) : Prop := y ∈ L ∨ ∃ j, ∃ hj : j < D.t.rows.length, D.t.rows[j].l = -y ∧ seenB s.at' j = true
theorem Met.mono {D : DK} {L : List Int} {s s' : NS} {y : Int} (h : Met D L s y) (hm : ∀ p, seenB s.at' p = true → seenB s'.at' p = true) : Met D L s' y :=
  h.imp id fun ⟨j, hj, e1, e2⟩ => ⟨j, hj, e1, hm _ e2⟩
end Go.AX

namespace Go.AX
open Go.Proofs
set_option linter.unusedSimpArgs false

def chnF (l : List Int) : List (List Int) → Nat → List Int × Nat × Int
  | [], n => (l, n, 23)
  | h :: hs, n => if clS l h = -1 then (l, n + 1, 0) else if (unitS l h).2 = true then chnF (l ++ [(unitS l h).1]) hs (n + 1) else ([], n, 22)
def staTo (c : List Int) : Nat → List Int
  | 0 => []
  | i + 1 => if c.getD i 0 ∈ c.take i then staTo c i else staTo c i ++ [w64 (-(c.getD i 0))]
theorem staTo_mem (c : List Int) (x : Int) : ∀ i, i ≤ c.length → (x ∈ staTo c i ↔ ∃ y ∈ c.take i, x = w64 (-y))
  | 0, _ => by simp [staTo]
  | i + 1, h => by
    have ih := staTo_mem c x i (by omega)
    have hg : c.getD i 0 = c[i] := by rw [List.getD_eq_getElem?_getD, List.getElem?_eq_getElem (by omega)]; rfl
    have ht : c.take (i + 1) = c.take i ++ [c[i]] := (List.take_append_getElem (by omega)).symm
    rw [staTo, hg, ht]
    by_cases e : c[i] ∈ c.take i
    · rw [if_pos e, ih]
      constructor
      · rintro ⟨y, hy, e2⟩; exact ⟨y, List.mem_append_left _ hy, e2⟩
      · rintro ⟨y, hy, e2⟩
        rcases List.mem_append.1 hy with hy | hy
        · exact ⟨y, hy, e2⟩
        · simp at hy; subst hy; exact ⟨_, e, e2⟩
    · rw [if_neg e, List.mem_append, ih, List.mem_singleton]
      constructor
      · rintro (⟨y, hy, e2⟩ | e2)
        · exact ⟨y, List.mem_append_left _ hy, e2⟩
        · exact ⟨_, List.mem_append_right _ (List.mem_singleton.2 rfl), e2⟩
      · rintro ⟨y, hy, e2⟩
        rcases List.mem_append.1 hy with hy | hy
        · exact .inl ⟨y, hy, e2⟩
        · simp at hy; subst hy; exact .inr e2
def staL (c : List Int) : List Int := staTo c c.length
def rj (D : DK) (j : Nat) : Int := rea D.T (D.T.lits.getD j 0)
end Go.AX

namespace Go.AX
open Go.Proofs
set_option linter.unusedSimpArgs false

def stpS (l h : List Int) : List Int × Bool × Int := if clS l h = -1 then (l, true, 0) else if (unitS l h).2 = true then (l ++ [(unitS l h).1], false, 0) else ([], false, 22)
theorem crowF_at (hs : List (List Int)) {i : Nat} (h : i < hs.length) : ∀ h', (hs.map crowF)[i]'h' = [.seq false 1 (irow hs[i])] := fun h' => by simp [crowF]
def badL (c : List Int) : Bool := c.any fun x => decide (litX x < 0)
def staE (c : List Int) : Int := if badL c = true then 10 else if tautS c = true then 11 else 0
def staR (c : List Int) : List Int := if staE c = 0 then staL c else []
theorem staTo_le (c : List Int) : ∀ i, (staTo c i).length ≤ i
  | 0 => Nat.le_refl _
  | i + 1 => by
    have := staTo_le c i
    rw [staTo]
    split
    · omega
    · simp; omega
def shwS (c : List Int) (hs : List (List Int)) : Nat × Int := if staE c = 0 then ((chnF (staL c) hs 0).2.1, (chnF (staL c) hs 0).2.2) else (0, staE c)
end Go.AX

namespace Go.AX
open Go.Proofs
set_option linter.unusedSimpArgs false

def aval (l : List Int) (x : Int) : Int := if x ∈ l then 1 else if w64 (-x) ∈ l then -1 else 0
theorem sto_pos (l : List Int) (x : Int) : (0 < (lk (stoTo l l.length) x).getD 0) = (x ∈ l) := by
  have := stoTo_is l x l.length (Nat.le_refl _)
  rw [List.take_length] at this
  unfold seenB at this
  rw [decide_eq_true_eq] at this
  exact propext this
def valF (n : Nat) : PV := .fn (.func 261) [] [.ptr n 0]
theorem valuer1_ok (l : List Int) (x : Int) : APure Tryz.prog 261 [I64 x, .iptr 1 [[.amap false (mapE fI (stoTo l l.length))]] 0 0] (fun r => r = .pv (I64 (aval l x))) := by
  refine apure1 hmo Tryz.func261 (by kernel_rfl) rfl rfl (by kernel_rfl) (Nat.le_of_ble_eq_true rfl) ?_
  unfold aval
  by_cases c1 : x ∈ l
  · simp [sto_pos, c1]
  · by_cases c2 : w64 (-x) ∈ l
    · simp [sto_pos, c1, c2]
    · simp [sto_pos, c1, c2]
set_option maxRecDepth 16000 in
theorem valuer_ok (h : List (List SV)) (l : List Int) (hl : l.length ≤ 1000000) : AMut Tryz.prog 254 [.seq false 1 (irow l)] h (fun r h' => h' = h ++ [[.omap true (mapE fI (stoTo l l.length))]] ∧ r = .pv (valF h.length)) := by
  refine AMut.below (by kernel_rfl) fun hh => ?_
  refine amutX [] [.tmp 2] hmo Tryz.func254 (by kernel_rfl) rfl rfl (by kernel_rfl) (Nat.le_of_ble_eq_true rfl) ?_
  simp
  refine ALoop.intro (S := fun (i : Nat) => ⟨[(3, .pv (.ptr h.length 0)), (9, .pv (.seq false 1 (irow l))), (10, .pv (I64 l.length)), (11, .pv (I64 i))], h ++ [[.omap true (mapE fI (stoTo l i))]]⟩) (fun i => i ≤ l.length) (fun i => l.length - i) 0 ?_ (Nat.zero_le _) ?_
  · exact Weak.keep (by simp) (by simp [stoTo])
  intro i hi
  by_cases c : i < l.length
  · have hw : w64 ((i : Int) + 1) = ((i + 1 : Nat) : Int) := by rw [w64_id (by omega) (by omega)]; omega
    have hg : l.getD i 0 = l[i] := by simp [c]
    have hs : stoTo l (i + 1) = pt (stoTo l i) l[i] ((lk (stoTo l i) l[i]).getD 0 + 1) := by rw [stoTo, hg]
    have hb := stoTo_le l i l[i]
    have hw2 : w64 ((lk (stoTo l i) l[i]).getD 0 + 1) = (lk (stoTo l i) l[i]).getD 0 + 1 := w64_id (by omega) (by omega)
    simp [c]
    exact ⟨i + 1, by (try dsimp only); omega, by (try dsimp only); omega, Weak.keep (by simp [hw]) (by simp [hw2, hs])⟩
  · have : i = l.length := by omega
    subst this
    simp [valF]
theorem aval_val3 (l : List Int) (x : Int) (h : okL x = true) : val3 l x = aval l x := by
  unfold val3 aval
  rw [if_neg (by rw [litX_neg]; simp [h])]
theorem val3_not (l : List Int) (x : Int) (h : okL x = false) : val3 l x = 0 := by
  unfold val3
  rw [if_pos (by rw [litX_neg]; exact h)]
set_option maxRecDepth 16000 in
theorem aCount_ok (l c : List Int) (hl : l.length ≤ 1000000) (hc : c.length ≤ 1000000) : APure Tryz.prog 253 [.seq false 1 (irow l), .seq false 1 (irow c)] (fun r => r = .pv (.agg [I64 (ctS l c).1, I64 (ctS l c).2.1, I64 (ctS l c).2.2])) := by
  refine apureC hmo Tryz.func253 (by kernel_rfl) rfl rfl (by kernel_rfl) (Nat.le_of_ble_eq_true rfl) ?_
  have hv := fun h => valuer_ok h l hl
  simp
  refine CallK.introM (hv _) (by simp) ?_
  rintro _ _ ⟨rfl, rfl⟩
  simp [valF]
  refine ALoop.intro (S := fun (i : Nat) => ⟨[(4, .pv (.ptr 0 0)), (5, .pv (valF 1)), (6, .pv (.ptr 2 0)), (11, .pv (.seq false 1 (irow c))), (12, .pv (I64 c.length)), (13, .pv (I64 i))], [[.pv (I64 0), .pv (I64 0), .pv (I64 0)], [.omap true (mapE fI (stoTo l l.length))], [.pv (I64 ((c.take i).foldl (ctF l) (0, 0, 0)).1), .pv (I64 ((c.take i).foldl (ctF l) (0, 0, 0)).2.1), .pv (I64 ((c.take i).foldl (ctF l) (0, 0, 0)).2.2)]]⟩) (fun i => i ≤ c.length) (fun i => c.length - i) 0 ?_ (Nat.zero_le _) ?_
  · exact Weak.keep (by simp [valF]) (by simp)
  intro i hi
  by_cases h : i < c.length
  · have hw : w64 ((i : Int) + 1) = ((i + 1 : Nat) : Int) := by rw [w64_id (by omega) (by omega)]; omega
    have hF := foldl_take_succ (ctF l) (0, 0, 0) c i h
    generalize (c.take i).foldl (ctF l) (0, 0, 0) = t at hF ⊢
    obtain ⟨x, y, z⟩ := t
    have hS : ctF l (x, y, z) c[i] = if val3 l c[i] = 1 then (w64 (x + 1), y, z) else if val3 l c[i] = -1 then (x, w64 (y + 1), z) else if 0 ≤ litX c[i] then (x, y, w64 (z + 1)) else (x, y, z) := rfl
    have hva := valuer1_ok l c[i]
    simp [h, valF]
    refine CallK.intro (litVar_ok c[i]) (by simp) ?_
    cases ho : okL c[i]
    · have hz : litV c[i] = 0 := by rw [litV_zero]; exact ho
      have hx : ¬ 0 ≤ litX c[i] := by rw [litX_nn]; simp [ho]
      rw [val3_not l _ ho, if_neg (by decide), if_neg (by decide), if_neg hx] at hS
      rw [hS] at hF
      simp [hz]
      exact ⟨i + 1, by (try dsimp only); omega, by (try dsimp only); omega, Weak.keep (by simp [hw, valF]) (by simp [hF])⟩
    · have hz : litV c[i] ≠ 0 := fun e => by rw [litV_zero] at e; rw [ho] at e; cases e
      have hx : 0 ≤ litX c[i] := by rw [litX_nn]; exact ho
      rw [aval_val3 l _ ho, if_pos hx] at hS
      rw [hS] at hF
      simp [hz, frzP]
      refine CallB.introP hva (by simp) (by simp) ?_
      by_cases d1 : aval l c[i] = 1
      · rw [if_pos d1] at hF
        simp [d1]
        exact ⟨i + 1, by (try dsimp only); omega, by (try dsimp only); omega, Weak.keep (by simp [hw, valF]) (by simp [hF])⟩
      · rw [if_neg d1] at hF
        by_cases d2 : aval l c[i] = -1
        · rw [if_pos d2] at hF
          simp [d2]
          exact ⟨i + 1, by (try dsimp only); omega, by (try dsimp only); omega, Weak.keep (by simp [hw, valF]) (by simp [hF])⟩
        · rw [if_neg d2] at hF
          simp [d1, d2]
          exact ⟨i + 1, by (try dsimp only); omega, by (try dsimp only); omega, Weak.keep (by simp [hw, valF]) (by simp [hF])⟩
  · have hie : i = c.length := by omega
    subst hie
    simp [ctS]
theorem cl_top (l : List Int) : ∀ (c : List Int) (n : Int), n ≤ 1 → c.foldl (clF l) n ≤ 1 ∧ (1 ≤ c.foldl (clF l) n ↔ n = 1 ∨ ∃ y ∈ c, val3 l y = 1)
  | [], n, h => by simp; omega
  | y :: c, n, h => by
    have h3 := val3_cases l y
    have hx : val3 l y = 1 → 0 ≤ litX y := fun e => by
      unfold val3 at e
      split at e
      · omega
      · omega
    rw [List.foldl_cons]
    have hle : clF l n y ≤ 1 := by unfold clF; split <;> omega
    obtain ⟨g1, g2⟩ := cl_top l c (clF l n y) hle
    refine ⟨g1, ?_⟩
    rw [g2]
    constructor
    · rintro (e | ⟨z, hz, e⟩)
      · unfold clF at e
        split at e
        · exact .inr ⟨y, List.mem_cons_self, e⟩
        · exact .inl e
      · exact .inr ⟨z, List.mem_cons_of_mem _ hz, e⟩
    · rintro (e | ⟨z, hz, e⟩)
      · left
        unfold clF
        rw [if_neg (by omega)]
        exact e
      · rcases List.mem_cons.1 hz with rfl | hz
        · left
          unfold clF
          split
          · exact e
          · rename_i hn
            have := hx e
            omega
        · exact .inr ⟨z, hz, e⟩
theorem ct_is {l c : List Int} (hc : c.length ≤ 1000000) : ctS l c = ((cnt3 l c 1 : Int), (cnt3 l c (-1) : Int), ((opn3 l c).length : Int)) := by
  have := ct_gen l c 0 0 0 (by omega) (by omega) (by omega)
  simp only [Nat.zero_add] at this
  exact this
theorem cls_ct {l c : List Int} (hc : c.length ≤ 1000000) : clS l c = if 0 < (ctS l c).1 then 1 else if 0 < (ctS l c).2.2 then 0 else -1 := by
  rw [ct_is hc]
  obtain ⟨h1, h2⟩ := cl_top l c (-1) (by omega)
  have h3 := clS_m1 (l := l) (c := c)
  have h4 := (cl_gen l c (-1) (by omega)).1
  have e1 : cnt3 l c 1 = 0 ↔ ∀ y ∈ c, val3 l y ≠ 1 := by
    unfold cnt3
    rw [List.length_eq_zero_iff, List.filter_eq_nil_iff]
    simp
  have e2 : (opn3 l c).length = 0 ↔ ∀ y ∈ c, 0 ≤ litX y → val3 l y = 1 ∨ val3 l y = -1 := by
    unfold opn3
    rw [List.length_eq_zero_iff, List.filter_eq_nil_iff]
    constructor
    · intro h y hy hx
      have := h y hy
      have h5 := val3_cases l y
      simp only [decide_eq_true_eq, not_and, Classical.not_not] at this
      rcases h5 with e | e | e
      · exact .inr (this hx (by omega))
      · exact .inl e
      · exact .inr e
    · intro h y hy
      simp only [decide_eq_true_eq, not_and, Classical.not_not]
      intro hx hn
      rcases h y hy hx with e | e
      · exact absurd e hn
      · exact e
  unfold clS at h3 ⊢
  split
  · rename_i c1
    have : ¬ cnt3 l c 1 = 0 := by omega
    rw [e1] at this
    have : ∃ y ∈ c, val3 l y = 1 := Classical.byContradiction fun hn => this fun y hy e => hn ⟨y, hy, e⟩
    have := h2.2 (.inr this)
    omega
  · rename_i c1
    have hz : cnt3 l c 1 = 0 := by omega
    rw [e1] at hz
    have hn1 : ¬ 1 ≤ List.foldl (clF l) (-1) c := fun hh => by
      rcases h2.1 hh with e | ⟨y, hy, e⟩
      · omega
      · exact hz y hy e
    dsimp only
    split
    · rename_i c2
      have : ¬ List.foldl (clF l) (-1) c = -1 := fun e => by
        have hh := h3.1 e
        have : (opn3 l c).length = 0 := e2.2 fun y hy hx => .inr (hh y hy hx)
        omega
      omega
    · rename_i c2
      have ho : (opn3 l c).length = 0 := by omega
      rw [e2] at ho
      exact h3.2 fun y hy hx => (ho y hy hx).resolve_left (hz y hy)
set_option maxRecDepth 16000 in
theorem aClause_ok (l c : List Int) (hl : l.length ≤ 1000000) (hc : c.length ≤ 1000000) : APure Tryz.prog 235 [.seq false 1 (irow l), .seq false 1 (irow c)] (fun r => r = .pv (I64 (clS l c))) := by
  refine apure1 hmo Tryz.func235 (by kernel_rfl) rfl rfl (by kernel_rfl) (Nat.le_of_ble_eq_true rfl) ?_
  have hn := aCount_ok l c hl hc
  have hC := cls_ct (l := l) hc
  generalize clS l c = C at *
  generalize ctS l c = t at *
  obtain ⟨x, y, z⟩ := t
  simp only at hC hn
  simp
  refine CallK.intro hn (by simp) ?_
  by_cases c1 : 0 < x
  · rw [if_pos c1] at hC
    simp [c1, hC]
  · rw [if_neg c1] at hC
    by_cases c2 : 0 < z
    · rw [if_pos c2] at hC
      simp [c1, c2, hC]
    · rw [if_neg c2] at hC
      simp [c1, c2, hC]
theorem opn_val {l : List Int} {y : Int} : (decide (0 ≤ litX y ∧ val3 l y ≠ 1 ∧ val3 l y ≠ -1)) = (decide (0 < litV y) && decide (aval l y = 0)) := by
  cases ho : okL y
  · have h1 : ¬ 0 ≤ litX y := by rw [litX_nn]; simp [ho]
    have h2 : ¬ 0 < litV y := by rw [litV_pos]; simp [ho]
    simp [h1, h2]
  · have h1 : 0 ≤ litX y := by rw [litX_nn]; exact ho
    have h2 : 0 < litV y := by rw [litV_pos]; exact ho
    rw [aval_val3 l y ho]
    have : aval l y = 1 ∨ aval l y = -1 ∨ aval l y = 0 := by unfold aval; split <;> (try split) <;> simp
    simp only [h1, h2, true_and, decide_true, Bool.true_and, decide_eq_decide]
    omega
theorem unit1_ok (l : List Int) (x : Int) : APure Tryz.prog 255 [I64 x, .iptr 1 [[.fn (.func 261) [] [.iptr 1 [[.amap false (mapE fI (stoTo l l.length))]] 0 0]]] 0 0] (fun r => r = .pv (BL (decide (0 < litV x) && decide (aval l x = 0)))) := by
  refine apure1 hmo Tryz.func255 (by kernel_rfl) rfl rfl (by kernel_rfl) (Nat.le_of_ble_eq_true rfl) ?_
  have hva := valuer1_ok l x
  simp
  refine CallK.intro (litVar_ok x) (by simp) ?_
  by_cases c1 : 0 < litV x
  · simp [c1]
    refine CallG.intro (fun _ => hva) (by simp) ?_
    simp
  · simp [c1]
    refine CallG.intro (fun h : False => h.elim) (r := .pv (I64 0)) (by simp) ?_
    simp
theorem unit_at {l c : List Int} (hc : c.length ≤ 1000000) : ((ctS l c).1 ≤ 0 ∧ (ctS l c).2.2 = 1 → ∃ i, ∃ hi : i < c.length, idxS (fun x => decide (0 < litV x) && decide (aval l x = 0)) c = (i : Int) ∧ unitS l c = (c[i], true)) ∧ (¬ ((ctS l c).1 ≤ 0 ∧ (ctS l c).2.2 = 1) → unitS l c = (0, false)) := by
  have hct := ct_is (l := l) hc
  constructor
  · rintro ⟨h1, h2⟩
    have hu : unitS l c = (c.foldl (opF l) 0, true) := by
      unfold unitS
      rw [if_neg]
      rw [hct] at h1 h2 ⊢
      simp only at h1 h2 ⊢
      omega
    rw [hct] at h2
    simp only at h2
    obtain ⟨u, hu1⟩ := List.length_eq_one_iff.1 (show (opn3 l c).length = 1 by omega)
    rw [op_gen, hu1] at hu
    have hm : ∀ y, y ∈ opn3 l c ↔ y ∈ c ∧ (decide (0 < litV y) && decide (aval l y = 0)) = true := fun y => by
      unfold opn3
      rw [List.mem_filter, opn_val]
    rw [hu1] at hm
    have hx := (hm u).1 (List.mem_singleton.2 rfl)
    unfold idxS
    cases e : c.findIdx? (fun x => decide (0 < litV x) && decide (aval l x = 0)) with
    | none =>
      rw [List.findIdx?_eq_none_iff] at e
      have := e u hx.1
      rw [this] at hx
      cases hx.2
    | some i =>
      rw [List.findIdx?_eq_some_iff_getElem] at e
      obtain ⟨e1, e2, _⟩ := e
      refine ⟨i, e1, rfl, ?_⟩
      have := (hm c[i]).2 ⟨List.getElem_mem e1, e2⟩
      rw [List.mem_singleton] at this
      rw [this]
      exact hu
  · intro h
    unfold unitS
    rw [if_pos]
    rw [hct] at h ⊢
    simp only at h ⊢
    omega
set_option maxRecDepth 16000 in
theorem aUnit_ok (l c : List Int) (hl : l.length ≤ 1000000) (hc : c.length ≤ 1000000) : APure Tryz.prog 236 [.seq false 1 (irow l), .seq false 1 (irow c)] (fun r => r = .pv (.tup [I64 (unitS l c).1, BL (unitS l c).2])) := by
  refine apureN [4, 5] hmo Tryz.func236 (by kernel_rfl) rfl (fun _ _ => results_tmp2 rfl _ _ _) (by kernel_rfl) (Nat.le_of_ble_eq_true rfl) ?_
  have hn := aCount_ok l c hl hc
  have hv := fun h => valuer_ok h l hl
  have hI := indexF_ok c hc 255 [.iptr 1 [[.fn (.func 261) [] [.iptr 1 [[.amap false (mapE fI (stoTo l l.length))]] 0 0]]] 0 0] (fun x => decide (0 < litV x) && decide (aval l x = 0)) (fun r => by simp) rfl (fun k => by simp) (fun x _ => unit1_ok l x)
  obtain ⟨hU1, hU2⟩ := unit_at (l := l) hc
  generalize unitS l c = U at *
  generalize ctS l c = t at *
  obtain ⟨x, y, z⟩ := t
  simp only at hn hU1 hU2
  simp
  refine CallK.intro hn (by simp) ?_
  by_cases c1 : x ≤ 0
  rotate_left
  · have c1' : 0 < x := by omega
    rw [hU2 (fun h => c1 h.1)]
    simp [c1, c1']
  have c1' : ¬ 0 < x := by omega
  by_cases c2 : z = 1
  rotate_left
  · rw [hU2 (fun h => c2 h.2)]
    simp [c1, c1', c2]
  obtain ⟨i, hi, e1, e2⟩ := hU1 ⟨c1, c2⟩
  rw [e1] at hI
  rw [e2]
  simp [c1, c1', c2]
  refine CallK.introM (hv _) (by simp) ?_
  rintro _ _ ⟨rfl, rfl⟩
  simp [valF, frzP]
  refine ⟨rfl, CallK.intro hI (by simp) ?_⟩
  simp [hi]
end Go.AX
