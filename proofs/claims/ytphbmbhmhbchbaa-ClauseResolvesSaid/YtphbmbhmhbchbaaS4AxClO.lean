/-
  Contracts: clause.Norm.
  Contracts: the one form of a clause is the document's.
  Contracts: clause.Check, Without, Resolve.
  Contracts: clause.Resolve.
  Contracts: the probe of law02.
  ClauseNorm: plain laws, the walk.
-/
import Derived.Test.YtphbmbhmhbchbaaS4AxClD
import Derived.Test.YtphbmbhmhbchbaaS4AxShelf
import Derived.Test.YtphbmbhmhbchbaaAxSF
namespace Go.AX
open Go.Proofs
set_option linter.unusedSimpArgs false

/-- A literal. -/
abbrev Lit := { n : Int // okL n = true }
instance : Inhabited Lit := ⟨⟨1, rfl⟩⟩
def litC (a b : Lit) : Int := cmpS (litX a.1) (litX b.1)
theorem litX_inj {a b : Int} (ha : okL a = true) (hb : okL b = true) (h : litX a = litX b) : a = b := by
  obtain ⟨a1, a2, a3⟩ := (okL_iff a).1 ha
  obtain ⟨b1, b2, b3⟩ := (okL_iff b).1 hb
  unfold litX absS at h
  rw [if_pos ha, if_pos hb] at h
  split at h <;> split at h <;> omega
theorem ltLit (a b : Lit) : ltOf litC a b = decide (litX a.1 < litX b.1) := by
  unfold ltOf litC cmpS
  by_cases h : litX a.1 < litX b.1
  · simp [h]
  · by_cases h2 : litX a.1 > litX b.1 <;> simp [h, h2]
theorem litC_swo : Sort.SWO (ltOf litC) where
  irrefl x := by rw [ltLit]; simp
  trans x y z := by simp only [ltLit, decide_eq_true_eq]; omega
  ntrans x y z := by simp only [ltLit, decide_eq_false_iff_not]; omega
theorem litC_tot (x y : Lit) (h1 : ltOf litC x y = false) (h2 : ltOf litC y x = false) : x = y := by
  rw [ltLit] at h1 h2
  simp at h1 h2
  exact Subtype.ext (litX_inj x.2 y.2 (by omega))
theorem normC1_ok (x : Int) : APure Try.prog 112 [I64 x] (fun r => r = .pv (BL (!okL x))) := by
  refine apure1 hmo Try.func112 (by kernel_rfl) rfl rfl (by kernel_rfl) (Nat.le_of_ble_eq_true rfl) ?_
  simp
  refine CallK.intro (litVar_ok _) (by simp) ?_
  simp [litV_zero]
theorem normC2_ok (x y : Int) : APure Try.prog 115 [I64 x, I64 y] (fun r => r = .pv (I64 (cmpS (litX x) (litX y)))) := by
  refine apure1 hmo Try.func115 (by kernel_rfl) rfl rfl (by kernel_rfl) (Nat.le_of_ble_eq_true rfl) ?_
  simp
  refine CallK.intro (litIndex_ok _) (by simp) ?_
  simp
  refine CallK.intro (litIndex_ok _) (by simp) ?_
  simp
  refine CallK.intro (compare_ok _ _) (by simp) ?_
  simp
/-- The literals there are. -/
def litsOf : List Int → List Lit
  | [] => []
  | x :: l => if h : okL x = true then ⟨x, h⟩ :: litsOf l else litsOf l
theorem litsOf_map : ∀ l : List Int, (litsOf l).map (·.1) = l.filter okL
  | [] => rfl
  | x :: l => by
    rw [litsOf]
    split
    · rename_i h; rw [List.map_cons, litsOf_map l, List.filter_cons, if_pos h]
    · rename_i h; rw [litsOf_map l, List.filter_cons, if_neg h]
def sortL (l : List Lit) : List Lit := l.mergeSort fun x y => !(ltOf litC) y x
def normS (l : List Int) : List Int := compS ((sortL (litsOf l)).map (·.1))
theorem sortN_ok (l : List Lit) (hl : l.length ≤ 1000000) : AIn Try.prog 114 1 (intsB (l.map (·.1))) [.fn (.func 115) [] []] (fun k rows => k = none ∧ rows = intsB ((sortL l).map (·.1))) :=
  sortFunc_in Try.sortF (fun x : Lit => x.1) litC 115 l hl litC_swo litC_tot (enters_of Try.func115 (by kernel_rfl) rfl) (by kernel_rfl) (fun x y => normC2_ok x.1 y.1)
/-- A function that holds nothing, told as a value. -/
theorem AIn.asFn {P : Program} {f g : FuncId} {e : Nat} {rows : List (List PV)} {R : Option Nat → List (List PV) → Prop} (h : AIn P f e rows [.fn (.func g) [] []] R) : AIn P f e rows [.lit (.func (.func g) #[] #[])] R := by
  have hf : ∀ {G : Gh} {us : List Value}, FitL G [.lit (.func (.func g) #[] #[])] us → FitL G [.fn (.func g) [] []] us := fun ⟨v, r, h1, h2, h3⟩ => ⟨v, r, h1, ⟨#[], #[], h2, rfl, rfl⟩, h3⟩
  exact ⟨h.1, fun hn w c cap arr T pre vs suf us h1 h2 h3 h4 h5 h6 h7 => h.2.1 hn w c cap arr T pre vs suf us h1 h2 h3 h4 h5 (hf h6) h7, fun hn w p cap us h1 => h.2.2 hn w p cap us (hf h1)⟩
theorem belowR_intsB (k : Nat) : ∀ l : List Int, belowR k (intsB l)
  | [] => trivial
  | _ :: l => ⟨⟨trivial, trivial⟩, belowR_intsB k l⟩
theorem intsB_len (l : List Int) : (intsB l).length = l.length := by unfold intsB; simp
theorem intsB_append (a b : List Int) : intsB (a ++ b) = intsB a ++ intsB b := by unfold intsB; simp
theorem intsB_take (a b : List Int) : (intsB (a ++ b)).take a.length = intsB a := by rw [intsB_append, List.take_left' (intsB_len a)]
theorem delS_ok (l : List Int) : delS (fun x => !okL x) l = (litsOf l).map (·.1) := by
  rw [litsOf_map]; unfold delS; congr 1; funext x; simp
theorem norm_ok (l : List Int) (hl : l.length ≤ 1000000) : APure Try.prog 54 [.seq false 1 (irow l)] (fun r => r = .own true 1 (irow (normS l))) := by
  refine apure1 hmo Try.func54 (by kernel_rfl) rfl rfl (by kernel_rfl) (Nat.le_of_ble_eq_true rfl) ?_
  have hD := (deleteF_ok l hl 112 [] (fun x => !okL x) (fun r => rfl) rfl (fun k => trivial) trivial (fun x _ => normC1_ok x)).asFn
  have hdl := delS_len (fun x => !okL x) l
  have hde := delS_ok l
  unfold delR at hD
  rw [hde] at hD hdl
  have hln : (litsOf l).length ≤ 1000000 := by rw [List.length_map] at hdl; omega
  have hS := (sortN_ok (litsOf l) hln).asFn
  have hsl : (sortL (litsOf l)).length = (litsOf l).length := List.length_mergeSort _
  have hC := compact_ok ((sortL (litsOf l)).map (·.1)) (by rw [List.length_map, hsl]; exact hln)
  have hcl := compTo_len ((sortL (litsOf l)).map (·.1)) ((sortL (litsOf l)).map (·.1)).length
  unfold cmpR at hC
  have hcs : compS ((sortL (litsOf l)).map (·.1)) = normS l := rfl
  have hcs2 : compTo ((sortL (litsOf l)).map (·.1)) ((sortL (litsOf l)).map (·.1)).length = normS l := rfl
  rw [hcs] at hC
  rw [hcs2] at hcl
  have hsl2 : ((sortL (litsOf l)).map (·.1)).length = ((litsOf l).map (·.1)).length := by rw [List.length_map, List.length_map, hsl]
  generalize (sortL (litsOf l)).map (·.1) = so at *
  generalize (litsOf l).map (·.1) = va at *
  generalize normS l = no at *
  simp
  refine CallK.intro (clone_ok l hl) (by simp) ?_
  simp
  refine CallK.introX (CallX.introS (o := .slot 6) (lo := 0) (hi := l.length) hD (by simp) rfl rfl (by simp) (by simp) rfl (by simp; rw [List.take_of_length_le (by simp [irow])]; rfl) (belowR_intsB 0 l) (by simp) (by simp) ?_)
  rintro k rows' ⟨rfl, rfl⟩ _ _
  have hd1 : List.drop l.length (irow l) = [] := List.drop_eq_nil_of_le (by simp [irow])
  have hI := intsB_len (va ++ List.replicate (l.length - va.length) 0)
  simp [hd1]
  refine CallK.introX (CallX.introS (o := .slot 6) (lo := 0) (hi := va.length) hS (by simp) rfl rfl (by simp) (by simp) rfl (by simp; exact intsB_take _ _) (belowR_intsB 0 va) (by simp) (by simp) ?_)
  rintro k rows' ⟨rfl, rfl⟩ _ _
  simp
  refine CallK.introX (CallX.introS (o := .slot 6) (lo := 0) (hi := va.length) hC (by simp) rfl rfl (by simp) (by simp) rfl (by simp; rw [List.take_left' (by rw [intsB_len, hsl2])]) (belowR_intsB 0 so) (by simp) (by simp) ?_)
  rintro k rows' ⟨rfl, rfl⟩ _ _
  simp
  rw [List.take_append_of_le_length (by rw [intsB_len]; simp), intsB_take]
  rfl

end Go.AX

namespace Go.AX
open Go.Proofs
set_option linter.unusedSimpArgs false

/-- How many stand ahead of x. -/
def insP : List Int → Int → Nat
  | [], _ => 0
  | y :: l, x => if litX y < litX x then insP l x + 1 else 0
def insL (l : List Int) (x : Int) : List Int := l.take (insP l x) ++ x :: l.drop (insP l x)
theorem insP_le : ∀ (l : List Int) (x : Int), insP l x ≤ l.length
  | [], _ => Nat.le_refl _
  | y :: l, x => by
    rw [insP]; have := insP_le l x
    split
    · simp; omega
    · simp
theorem insL_cons (y : Int) (l : List Int) (x : Int) : insL (y :: l) x = if litX y < litX x then y :: insL l x else x :: y :: l := by
  unfold insL
  rw [insP]
  split
  · simp
  · simp
theorem insL_perm : ∀ (l : List Int) (x : Int), (insL l x).Perm (x :: l)
  | [], x => by simp [insL, insP]
  | y :: l, x => by
    rw [insL_cons]
    split
    · exact ((insL_perm l x).cons y).trans (.swap x y l)
    · exact .refl _
theorem insL_sorted : ∀ (l : List Int) (x : Int), (∀ y ∈ l, litX y ≠ litX x) → l.Pairwise (fun a b => litX a < litX b) → (insL l x).Pairwise (fun a b => litX a < litX b)
  | [], x, _, _ => by simp [insL, insP]
  | y :: l, x, hn, h => by
    rw [insL_cons]
    rw [List.pairwise_cons] at h
    split
    · rename_i c
      rw [List.pairwise_cons]
      refine ⟨fun z hz => ?_, insL_sorted l x (fun z hz => hn z (List.mem_cons_of_mem _ hz)) h.2⟩
      rcases List.mem_cons.1 ((insL_perm l x).mem_iff.1 hz) with rfl | hz
      · exact c
      · exact h.1 z hz
    · rename_i c
      rw [List.pairwise_cons, List.pairwise_cons]
      have := hn y List.mem_cons_self
      refine ⟨fun z hz => ?_, h⟩
      rcases List.mem_cons.1 hz with rfl | hz
      · omega
      · have := h.1 z hz; omega
theorem insP_step {l : List Int} {x : Int} {k : Nat} (hk : k < l.length) (hle : k ≤ insP l x) : k < insP l x ↔ litX l[k] < litX x := by
  induction l generalizing k with
  | nil => simp at hk
  | cons y l ih =>
    rw [insP] at *
    by_cases c : litX y < litX x
    · rw [if_pos c] at *
      cases k with
      | zero => simp [c]
      | succ k =>
        have := ih (k := k) (by simpa using hk) (by omega)
        simp only [List.getElem_cons_succ]
        omega
    · rw [if_neg c] at *
      have : k = 0 := by omega
      subst this
      simp; omega
def nrmTo (c : List Int) : Nat → List Int
  | 0 => []
  | i + 1 => if okL (c.getD i 0) = true ∧ c.getD i 0 ∉ nrmTo c i then insL (nrmTo c i) (c.getD i 0) else nrmTo c i
theorem nrmTo_len (c : List Int) : ∀ i, (nrmTo c i).length ≤ i
  | 0 => Nat.le_refl _
  | i + 1 => by
    have := nrmTo_len c i
    rw [nrmTo]
    split
    · rw [(insL_perm _ _).length_eq]; simp; omega
    · omega
theorem nrmTo_is (c : List Int) : ∀ i, i ≤ c.length → (nrmTo c i).Pairwise (fun a b => litX a < litX b) ∧ ∀ x, x ∈ nrmTo c i ↔ okL x = true ∧ x ∈ c.take i
  | 0, _ => ⟨by simp [nrmTo], fun x => by simp [nrmTo]⟩
  | i + 1, h => by
    obtain ⟨h1, h2⟩ := nrmTo_is c i (by omega)
    have hg : c.getD i 0 = c[i] := by simp [show i < c.length by omega]
    rw [nrmTo, hg, List.take_add_one, List.getElem?_eq_getElem (by omega), Option.toList_some]
    by_cases d : okL c[i] = true ∧ c[i] ∉ nrmTo c i
    · rw [if_pos d]
      refine ⟨insL_sorted _ _ (fun y hy e => d.2 ?_) h1, fun x => ?_⟩
      · rw [← litX_inj ((h2 y).1 hy).1 d.1 e]; exact hy
      · rw [(insL_perm _ _).mem_iff, List.mem_cons, h2, List.mem_append, List.mem_singleton]
        constructor
        · rintro (rfl | ⟨a, b⟩)
          · exact ⟨d.1, .inr rfl⟩
          · exact ⟨a, .inl b⟩
        · rintro ⟨a, b | b⟩
          · exact .inr ⟨a, b⟩
          · exact .inl b
    · rw [if_neg d]
      refine ⟨h1, fun x => ?_⟩
      rw [h2, List.mem_append, List.mem_singleton]
      constructor
      · rintro ⟨a, b⟩; exact ⟨a, .inl b⟩
      · rintro ⟨a, b | rfl⟩
        · exact ⟨a, b⟩
        · have hm : c[i] ∈ nrmTo c i := Classical.byContradiction fun h => d ⟨a, h⟩
          exact (h2 _).1 hm
theorem compTo_is {zs : List Int} (hs : zs.Pairwise (fun a b => litX a ≤ litX b)) (hok : ∀ x ∈ zs, okL x = true) : ∀ j, j ≤ zs.length → (compTo zs j).Pairwise (fun a b => litX a < litX b) ∧ ∀ x, x ∈ compTo zs j ↔ x ∈ zs.take j
  | 0, _ => ⟨by simp [compTo], fun x => by simp [compTo]⟩
  | j + 1, h => by
    obtain ⟨h1, h2⟩ := compTo_is hs hok j (by omega)
    have hg : zs.getD j 0 = zs[j] := by simp [show j < zs.length by omega]
    rw [compTo, hg, List.take_add_one, List.getElem?_eq_getElem (by omega), Option.toList_some]
    have hp := List.pairwise_iff_getElem.1 hs
    by_cases d : j = 0 ∨ zs[j] ≠ zs.getD (j - 1) 0
    · rw [if_pos d]
      refine ⟨List.pairwise_append.2 ⟨h1, by simp, fun y hy z hz => ?_⟩, fun x => by rw [List.mem_append, List.mem_append, h2]⟩
      rw [List.mem_singleton] at hz
      subst hz
      obtain ⟨k, hk, rfl⟩ := List.getElem_of_mem ((h2 y).1 hy)
      rw [List.length_take] at hk
      rw [List.getElem_take]
      rcases d with rfl | d
      · omega
      · have e2 : zs.getD (j - 1) 0 = zs[j - 1] := by simp [show j - 1 < zs.length by omega]
        rw [e2] at d
        have a1 : litX zs[k] ≤ litX zs[j - 1] := by
          by_cases e : k = j - 1
          · subst e; exact Int.le_refl _
          · exact hp k (j - 1) (by omega) (by omega) (by omega)
        have a2 : litX zs[j - 1] ≤ litX zs[j] := hp (j - 1) j (by omega) (by omega) (by omega)
        have a3 : litX zs[j - 1] ≠ litX zs[j] := fun e => d (litX_inj (hok _ (List.getElem_mem _)) (hok _ (List.getElem_mem _)) e.symm)
        omega
    · rw [if_neg d]
      refine ⟨h1, fun x => ?_⟩
      rw [h2, List.mem_append, List.mem_singleton]
      refine ⟨.inl, fun hx => hx.elim id fun e => ?_⟩
      have hj : j ≠ 0 := fun e => d (.inl e)
      have e2 : zs.getD (j - 1) 0 = zs[j - 1] := by simp [show j - 1 < zs.length by omega]
      have e3 : zs[j] = zs[j - 1] := Classical.byContradiction fun hh => d (.inr (by rw [e2]; exact hh))
      rw [e, e3]
      exact List.mem_take_iff_getElem.2 ⟨j - 1, by omega, rfl⟩
theorem normS_is (c : List Int) : (normS c).Pairwise (fun a b => litX a < litX b) ∧ ∀ x, x ∈ normS c ↔ okL x = true ∧ x ∈ c := by
  have hs : ((sortL (litsOf c)).map (·.1)).Pairwise (fun a b => litX a ≤ litX b) := by
    rw [List.pairwise_map]
    refine (List.pairwise_mergeSort (fun a b d => ?_) (fun a b => ?_) (litsOf c)).imp fun {a b} h => ?_
    · simp only [ltLit, Bool.not_eq_true', decide_eq_false_iff_not]; omega
    · simp only [ltLit, Bool.or_eq_true, Bool.not_eq_true', decide_eq_false_iff_not]; omega
    · simp only [ltLit, Bool.not_eq_true', decide_eq_false_iff_not] at h; omega
  have hm : ∀ x, x ∈ (sortL (litsOf c)).map (·.1) ↔ okL x = true ∧ x ∈ c := fun x => by
    unfold sortL
    rw [((List.mergeSort_perm _ _).map _).mem_iff, litsOf_map, List.mem_filter, And.comm]
  obtain ⟨h1, h2⟩ := compTo_is hs (fun x hx => ((hm x).1 hx).1) _ (Nat.le_refl _)
  refine ⟨h1, fun x => ?_⟩
  have := h2 x
  rw [List.take_length] at this
  exact this.trans (hm x)
theorem sorted_same {a b : List Int} (ha : a.Pairwise (fun x y => litX x < litX y)) (hb : b.Pairwise (fun x y => litX x < litX y)) (h : ∀ x, x ∈ a ↔ x ∈ b) : a = b := by
  have na : a.Nodup := ha.imp fun {x y} hxy e => by rw [e] at hxy; omega
  have nb : b.Nodup := hb.imp fun {x y} hxy e => by rw [e] at hxy; omega
  exact List.Perm.eq_of_pairwise (le := fun x y => litX x < litX y) (fun x y _ _ h1 h2 => by omega) ha hb ((List.perm_ext_iff_of_nodup na nb).2 h)
theorem nrm_same (c : List Int) : nrmTo c c.length = normS c := by
  obtain ⟨h1, h2⟩ := nrmTo_is c c.length (Nat.le_refl _)
  obtain ⟨h3, h4⟩ := normS_is c
  refine sorted_same h1 h3 fun x => ?_
  rw [h2, h4, List.take_length]

theorem irow_insL (l : List Int) (x : Int) : irow (insL l x) = (irow l).take (insP l x) ++ [I64 x] :: (irow l).drop (insP l x) := by
  simp [irow, insL, List.map_take, List.map_drop]

def nrmSch : Sch :=
  let T : Sch := .fork [(10, .fork [(14, .fork [(15, .done)])])]
  let X2 : Sch := .fork [(8, .fork [(9, T)])]
  let X3 : Sch := .fork [(4, .fork [(9, T)]), (9, .fork [(4, T)])]
  let Y2 : Sch := .fork [(0, .fork [(4, T)])]
  .take 1 (.take 2 (.take 3 (.take 5 (.take 6 (.take 7 (.take 11 (.take 12 (.take 13 (.fork [(0, .fork [(4, X2), (8, X3)]), (8, .fork [(0, X3), (9, Y2)])])))))))))
set_option maxRecDepth 16000 in
theorem refNorm_ok (l : List Int) (hl : l.length ≤ 1000000) : APure Try.prog 55 [.seq false 1 (irow l)] (fun r => r = .own true 1 (irow (normS l))) := by
  refine apure1B [10] hmo Try.func55 (by kernel_rfl) rfl rfl (by kernel_rfl) (Nat.le_of_ble_eq_true rfl) ?_
  simp
  refine ALoop.intro (S := fun (i : Nat) => ⟨[(0, .pv (.seq false 1 (irow l))), (3, .own true 1 (irow (nrmTo l i))), (4, .pv (I64 i))], []⟩) (fun i => i ≤ l.length) (fun i => l.length - i) 0 ?_ (Nat.zero_le _) ?_
  · exact (Weak.nilOwn (s := 3) 1 true (by simp)).trans (Weak.to (by simp [nrmTo, irow]) rfl (by simp) (by simp) (by simp))
  · intro i hi
    by_cases c : i < l.length
    · have hw : w64 ((i : Int) + 1) = ((i + 1 : Nat) : Int) := by rw [w64_id (by omega) (by omega)]; omega
      have hlen := nrmTo_len l i
      have hst : nrmTo l (i + 1) = if okL l[i] = true ∧ l[i] ∉ nrmTo l i then insL (nrmTo l i) l[i] else nrmTo l i := by
        rw [nrmTo]; simp [c]
      obtain ⟨x, hx⟩ : ∃ x, l[i] = x := ⟨_, rfl⟩
      rw [hx] at hst
      generalize nrmTo l i = out at *
      simp [c, hx]
      refine CallK.intro (refIndex_ok x) (by simp) ?_
      simp [c, hx]
      refine CallG.intro (r := .pv (BL (decide (x ∈ out)))) (fun _ => refHas_ok out x (by omega)) (by simp) ?_
      simp [litX_neg]
      by_cases d : okL x = true ∧ x ∉ out
      · rw [if_pos d] at hst
        simp [d.1, d.2]
        refine ⟨by rw [litX_nn]; exact d.1, ?_⟩
        have hlx : litX x ≤ 200000 ∧ -1 ≤ litX x := by
          obtain ⟨a1, a2, a3⟩ := (okL_iff x).1 d.1
          unfold litX absS
          rw [if_pos d.1]
          split <;> omega
        refine ALoop.intro (S := fun (k : Nat) => ⟨[(0, .pv (.seq false 1 (irow l))), (3, .own true 1 (irow out)), (4, .pv (I64 i)), (5, .pv (I64 (litX x))), (6, .pv (I64 k))], []⟩) (fun k => k ≤ insP out x) (fun k => out.length - k) 0 ?_ (Nat.zero_le _) ?_
        · exact Weak.to (by simp) rfl (by simp) (by simp) (by simp)
        · intro k hk
          have hkl := insP_le out x
          by_cases ck : k < out.length
          · have hst2 := insP_step ck hk
            have hw2 : w64 ((k : Int) + 1) = ((k + 1 : Nat) : Int) := by rw [w64_id (by omega) (by omega)]; omega
            simp [ck, irow]
            refine CallG.intro (r := .pv (I64 (litX out[k]))) (fun _ => refIndex_ok _) (by simp) ?_
            by_cases f : litX out[k] < litX x
            · simp [f]
              exact ⟨k + 1, by (try dsimp only); omega, by have := hst2.2 f; (try dsimp only); omega, Weak.to (by simp [hw2, irow]) rfl (by simp) (by simp) (by simp)⟩
            · have hke : k = insP out x := by
                have := fun h => f (hst2.1 h); omega
              simp [f]
              refine AAnyD.meet nrmSch ⟨[(0, .pv (.seq false 1 (irow l))), (3, .own true 1 (irow (insL out x))), (4, .pv (I64 i))], []⟩ (by kernel_rfl) ?_ ?_
              · have hfin : irow (insL out x) = List.take k (List.map (fun i => [I64 i]) out) ++ [I64 x] :: List.drop k (List.take out.length (List.map (fun i => [I64 i]) out)) := by
                  rw [irow_insL, ← hke]; unfold irow
                  rw [List.take_of_length_le (l := List.map (fun i => [I64 i]) out) (i := out.length) (by simp)]
                have hfin2 : List.map (fun i => [I64 i]) (insL out x) = List.take k (List.map (fun i => [I64 i]) out) ++ [I64 x] :: List.drop k (List.take out.length (List.map (fun i => [I64 i]) out)) := hfin
                simp [nrmSch, ck, c, hx, irow]
                and_intros
                all_goals first
                  | omega
                  | exact Weak.to (by simp [hfin, hfin2, irow]) rfl (by simp) (by simp) (by simp)
              · simp
                exact ⟨i + 1, by (try dsimp only); omega, by (try dsimp only); omega, Weak.to (by simp [hw, hst, irow]) rfl (by simp) (by simp) (by simp)⟩
          · have hke : k = insP out x := by omega
            have hkl2 : k = out.length := by omega
            simp [ck, irow]
            refine CallG.intro (r := .pv (I64 0)) (fun h => h.elim) (by simp) ?_
            simp
            refine AAnyD.meet nrmSch ⟨[(0, .pv (.seq false 1 (irow l))), (3, .own true 1 (irow (insL out x))), (4, .pv (I64 i))], []⟩ (by kernel_rfl) ?_ ?_
            · have hfin : irow (insL out x) = List.take k (List.map (fun i => [I64 i]) out) ++ [I64 x] :: List.drop k (List.take out.length (List.map (fun i => [I64 i]) out)) := by
                rw [irow_insL, ← hke]; unfold irow
                rw [List.take_of_length_le (l := List.map (fun i => [I64 i]) out) (i := out.length) (by simp)]
              have hfin2 : List.map (fun i => [I64 i]) (insL out x) = List.take k (List.map (fun i => [I64 i]) out) ++ [I64 x] :: List.drop k (List.take out.length (List.map (fun i => [I64 i]) out)) := hfin
              simp [nrmSch, ck, c, hx, irow]
              and_intros
              all_goals first
                | omega
                | exact Weak.to (by simp [hfin, hfin2, irow]) rfl (by simp) (by simp) (by simp)
            · simp
              exact ⟨i + 1, by (try dsimp only); omega, by (try dsimp only); omega, Weak.to (by simp [hw, hst, irow]) rfl (by simp) (by simp) (by simp)⟩
      · rw [if_neg d] at hst
        refine ⟨fun h => by rw [litX_nn]; exact h, fun _ => ⟨i + 1, by (try dsimp only); omega, by (try dsimp only); omega, Weak.to (by simp [hw, hst]) rfl (by simp) (by simp) (by simp)⟩, fun h1 h2 => absurd ⟨h1, h2⟩ d⟩
    · have : i = l.length := by omega
      subst this
      simp
      rw [nrm_same]

end Go.AX

namespace Go.AX
open Go.Proofs
set_option linter.unusedSimpArgs false

def dupTo (l : List Int) : Nat → Nat
  | 0 => 0
  | i + 1 => dupTo l i + if l.getD i 0 ∈ l.take i then 1 else 0
theorem dupTo_mono (l : List Int) {i : Nat} : ∀ n, i ≤ n → dupTo l i ≤ dupTo l n
  | 0, h => by
    have : i = 0 := by omega
    subst this; exact Nat.le_refl _
  | n + 1, h => by
    by_cases e : i = n + 1
    · subst e; exact Nat.le_refl _
    · have := dupTo_mono (i := i) l n (by omega)
      rw [dupTo]; omega
theorem pt_len {α : Type} : ∀ (l : List (Int × α)) (k : Int) (y : α), (pt l k y).length = l.length + if (lk l k).isNone = true then 1 else 0
  | [], k, y => by simp [pt, lk]
  | (j, x) :: r, k, y => by
    have ih := pt_len r k y
    rw [pt, lk]
    by_cases e : j = k
    · rw [if_pos e, if_pos e]; simp
    · rw [if_neg e, if_neg e, List.length_cons, ih, List.length_cons]; omega
theorem lk_seen_none (l : List Int) (x : Int) : ∀ n, n ≤ l.length → ((lk (seenTo l n) x).isNone = true ↔ ¬ (okL x = true ∧ x ∈ l.take n))
  | 0, _ => by simp [seenTo, lk]
  | n + 1, h => by
    have ih := lk_seen_none l x n (by omega)
    have hg : l.getD n 0 = l[n] := by simp [show n < l.length by omega]
    rw [seenTo, hg, List.take_add_one, List.getElem?_eq_getElem (by omega), Option.toList_some, List.mem_append, List.mem_singleton]
    by_cases c : okL l[n] = true
    · rw [if_pos c, lk_pt]
      by_cases e : l[n] = x
      · rw [if_pos e]
        subst e
        simp [c]
      · rw [if_neg e, ih]
        have e' : ¬ x = l[n] := fun h => e h.symm
        simp [e']
    · rw [if_neg c, ih]
      by_cases e : l[n] = x
      · subst e; simp [c]
      · have e' : ¬ x = l[n] := fun h => e h.symm
        simp [e']
theorem seen_dup (l : List Int) (hok : ∀ x ∈ l, okL x = true) : ∀ n, n ≤ l.length → (seenTo l n).length + dupTo l n = n
  | 0, _ => rfl
  | n + 1, h => by
    have ih := seen_dup l hok n (by omega)
    have hg : l.getD n 0 = l[n] := by simp [show n < l.length by omega]
    have hl := hok _ (List.getElem_mem (show n < l.length by omega))
    have hn := lk_seen_none l l[n] n (by omega)
    rw [seenTo, dupTo, hg, if_pos hl, pt_len]
    by_cases e : l[n] ∈ l.take n
    · rw [if_pos e, if_neg (fun h => hn.1 h ⟨hl, e⟩)]; omega
    · rw [if_neg e, if_pos (hn.2 fun h => e h.2)]; omega
def chkC (l : List Int) (m : Int) : Int :=
  if m < 0 ∨ 100000 < m then 2 else if 1000 < l.length then 3 else if (l.all fun x => inS x m) = false then 10 else if dupTo l l.length = 0 then 0 else 21
theorem inS_ok {x m : Int} (h : m ≤ 100000) (hi : inS x m = true) : okL x = true := by
  unfold inS at hi
  simp at hi
  exact (okL_iff x).2 (by omega)
theorem clCheck_ok (l : List Int) (m : Int) (hl : l.length ≤ 140737488355328) : APure Try.prog 52 [.seq false 1 (irow l), I64 m] (fun r => r = .pv (I64 (chkC l m))) := by
  refine apure1 hmo Try.func52 (by kernel_rfl) rfl rfl (by kernel_rfl) (Nat.le_of_ble_eq_true rfl) ?_
  by_cases c1 : m < 0
  · simp [c1, chkC]
  by_cases c2 : 100000 < m
  · simp [c1, c2, chkC]
  by_cases c3 : 1000 < l.length
  · have c3' : 1000 < (l.length : Int) := by omega
    simp [c1, c2, c3, c3', chkC]
  have c3' : ¬ 1000 < (l.length : Int) := by omega
  have hL : ∀ n, litChk n m = if inS n m = true then 0 else 10 := fun n => by unfold litChk; rw [if_neg (by omega)]
  simp [c1, c2, c3, c3']
  refine ALoop.intro (S := fun (i : Nat) => ⟨[(0, .pv (.seq false 1 (irow l))), (1, .pv (I64 m)), (19, .pv (.seq false 1 (irow l))), (20, .pv (I64 l.length)), (21, .pv (I64 i))], []⟩) (fun i => i ≤ l.length ∧ ∀ j (h : j < l.length), j < i → inS l[j] m = true) (fun i => l.length - i) 0 ?_ ⟨Nat.zero_le _, fun j _ h => by omega⟩ ?_
  · exact Weak.to (by simp) rfl (by simp) (by simp) (by simp)
  · rintro i ⟨hi, ho⟩
    by_cases c : i < l.length
    · have hw : w64 ((i : Int) + 1) = ((i + 1 : Nat) : Int) := by rw [w64_id (by omega) (by omega)]; omega
      simp [c]
      refine CallK.intro (litCheck_ok _ _) (by simp) ?_
      simp [hL]
      by_cases d : inS l[i] m = true
      · simp [d]
        refine ⟨i + 1, by (try dsimp only); omega, ⟨by omega, fun j h1 h2 => ?_⟩, Weak.to (by simp [hw]) rfl (by simp) (by simp) (by simp)⟩
        by_cases e : j = i
        · subst e; exact d
        · exact ho j h1 (by omega)
      · have hall : (l.all fun x => inS x m) = false := by
          rw [← Bool.not_eq_true]; intro h
          exact d (List.all_eq_true.1 h _ (List.getElem_mem c))
        simp [d, chkC, c1, c2, c3, hall]
    · have : i = l.length := by omega
      subst this
      have hall : (l.all fun x => inS x m) = true := List.all_eq_true.2 fun x hx => by
        obtain ⟨j, hj, rfl⟩ := List.getElem_of_mem hx
        exact ho j hj hj
      have hsd := seen_dup l (fun x hx => inS_ok (by omega) (List.all_eq_true.1 hall x hx)) l.length (Nat.le_refl _)
      have hml : (mapE fI (seenTo l l.length)).length = (seenTo l l.length).length := by unfold mapE; simp
      simp
      refine CallK.intro (seen_ok l (by omega)) (by simp) ?_
      simp [hml]
      by_cases d : dupTo l l.length = 0
      · have : ¬ (seenTo l l.length).length < l.length := by omega
        simp [this, chkC, c1, c2, c3, hall, d]
      · have : (seenTo l l.length).length < l.length := by omega
        simp [this, chkC, c1, c2, c3, hall, d]
theorem refClCheck_ok (l : List Int) (m : Int) (hl : l.length ≤ 140737488355328) : APure Try.prog 53 [.seq false 1 (irow l), I64 m] (fun r => r = .pv (I64 (chkC l m))) := by
  refine apure1 hmo Try.func53 (by kernel_rfl) rfl rfl (by kernel_rfl) (Nat.le_of_ble_eq_true rfl) ?_
  by_cases c1 : m < 0
  · simp [c1, chkC]
  by_cases c2 : 100000 < m
  · simp [c1, c2, chkC]
  by_cases c3 : 1000 < l.length
  · have c3' : 1000 < (l.length : Int) := by omega
    simp [c1, c2, c3, c3', chkC]
  have c3' : ¬ 1000 < (l.length : Int) := by omega
  have hL : ∀ n, litChk n m = if inS n m = true then 0 else 10 := fun n => by unfold litChk; rw [if_neg (by omega)]
  simp [c1, c2, c3, c3']
  refine ALoop.intro (S := fun (i : Nat) => ⟨[(0, .pv (.seq false 1 (irow l))), (1, .pv (I64 m)), (5, .pv (I64 i))], []⟩) (fun i => i ≤ l.length ∧ ∀ j (h : j < l.length), j < i → inS l[j] m = true) (fun i => l.length - i) 0 ?_ ⟨Nat.zero_le _, fun j _ h => by omega⟩ ?_
  · exact Weak.to (by simp) rfl (by simp) (by simp) (by simp)
  · rintro i ⟨hi, ho⟩
    by_cases c : i < l.length
    · have hw : w64 ((i : Int) + 1) = ((i + 1 : Nat) : Int) := by rw [w64_id (by omega) (by omega)]; omega
      simp [c]
      refine CallK.intro (refLitChk_ok _ _) (by simp) ?_
      simp [hL]
      by_cases d : inS l[i] m = true
      · simp [d]
        refine ⟨i + 1, by (try dsimp only); omega, ⟨by omega, fun j h1 h2 => ?_⟩, Weak.to (by simp [hw]) rfl (by simp) (by simp) (by simp)⟩
        by_cases e : j = i
        · subst e; exact d
        · exact ho j h1 (by omega)
      · have hall : (l.all fun x => inS x m) = false := by
          rw [← Bool.not_eq_true]; intro h
          exact d (List.all_eq_true.1 h _ (List.getElem_mem c))
        simp [d, chkC, c1, c2, c3, hall]
    · have : i = l.length := by omega
      subst this
      have hall : (l.all fun x => inS x m) = true := List.all_eq_true.2 fun x hx => by
        obtain ⟨j, hj, rfl⟩ := List.getElem_of_mem hx
        exact ho j hj hj
      simp
      refine ALoop.intro (S := fun (i : Nat) => ⟨[(0, .pv (.seq false 1 (irow l))), (6, .pv (I64 i))], []⟩) (fun i => i ≤ l.length ∧ dupTo l i = 0) (fun i => l.length - i) 0 ?_ ⟨Nat.zero_le _, rfl⟩ ?_
      · exact Weak.to (by simp) rfl (by simp) (by simp) (by simp)
      · rintro i ⟨hi, hz⟩
        by_cases c : i < l.length
        · have hw : w64 ((i : Int) + 1) = ((i + 1 : Nat) : Int) := by rw [w64_id (by omega) (by omega)]; omega
          have hg : l.getD i 0 = l[i] := by simp [c]
          have hd : dupTo l (i + 1) = if l[i] ∈ l.take i then 1 else 0 := by rw [dupTo, hz, hg, Nat.zero_add]
          have ht : List.take i (irow l) = irow (l.take i) := by simp [irow, List.map_take]
          have hk := refHas_ok (l.take i) l[i] (by rw [List.length_take]; omega)
          have hi2 : i ≤ l.length := hi
          simp [c, hi2, ht]
          refine CallQ0.intro hk (by simp) ?_
          simp
          refine ⟨fun h => ?_, fun h => ⟨i + 1, by (try dsimp only); omega, ⟨by (try dsimp only); omega, by (try dsimp only); rw [hd, if_neg h]⟩, Weak.to (by simp [hw]) rfl (by simp) (by simp) (by simp)⟩⟩
          rw [if_pos h] at hd
          have := dupTo_mono (i := i + 1) l l.length (by omega)
          have hne : ¬ dupTo l l.length = 0 := by omega
          simp [chkC, c1, c2, c3, hall, hne]
        · have : i = l.length := by omega
          subst this
          simp [chkC, c1, c2, c3, hall, hz]

def wthS (l : List Int) (n : Int) : List Int := (normS l).filter fun x => !decide (x = n)
theorem normS_len (l : List Int) : (normS l).length ≤ l.length := by
  rw [← nrm_same]; exact nrmTo_len l l.length
theorem wthC_ok (x n : Int) : APure Try.prog 123 [I64 x, .iptr 1 [[I64 n]] 0 0] (fun r => r = .pv (BL (decide (x = n)))) := by
  refine apure1 hmo Try.func123 (by kernel_rfl) rfl rfl (by kernel_rfl) (Nat.le_of_ble_eq_true rfl) ?_
  simp
theorem without_ok (l : List Int) (n : Int) (hl : l.length ≤ 1000000) : APure Try.prog 63 [.seq false 1 (irow l), I64 n] (fun r => r = .own true 1 (irow (wthS l n))) := by
  refine apure1 hmo Try.func63 (by kernel_rfl) rfl rfl (by kernel_rfl) (Nat.le_of_ble_eq_true rfl) ?_
  have hn := normS_len l
  have hD := deleteF_ok (normS l) (by omega) 123 [.iptr 1 [[I64 n]] 0 0] (fun x => decide (x = n)) (fun r => by simp) (by simp) (fun k => by simp) (by simp) (fun x _ => wthC_ok x n)
  have hdl := delS_len (fun x => decide (x = n)) (normS l)
  have hds : delS (fun x => decide (x = n)) (normS l) = wthS l n := rfl
  unfold delR at hD
  rw [hds] at hD hdl
  generalize wthS l n = wt at *
  have hN := norm_ok l hl
  generalize normS l = no at *
  simp
  refine CallK.intro hN (by simp) ?_
  simp
  refine CallK.introX (CallX.introS (o := .slot 6) (lo := 0) (hi := no.length) hD (by simp) rfl rfl (by simp) (by simp) rfl (by simp; rw [List.take_of_length_le (by simp [irow])]; rfl) (belowR_intsB 0 no) (by simp) (by simp [frzP, frzC]) ?_)
  rintro k rows' ⟨rfl, rfl⟩ _ _
  simp
  rw [List.take_append_of_le_length (by rw [intsB_len]; simp), intsB_take]
  rfl
def wthTo (no : List Int) (n : Int) (i : Nat) : List Int := (no.take i).filter fun x => !decide (x = n)
theorem refWithout_ok (l : List Int) (n : Int) (hl : l.length ≤ 1000000) : APure Try.prog 64 [.seq false 1 (irow l), I64 n] (fun r => r = .own true 1 (irow (wthS l n))) := by
  refine apure1 hmo Try.func64 (by kernel_rfl) rfl rfl (by kernel_rfl) (Nat.le_of_ble_eq_true rfl) ?_
  have hn := normS_len l
  have hN := refNorm_ok l hl
  have hds : wthTo (normS l) n (normS l).length = wthS l n := by unfold wthTo wthS; rw [List.take_length]
  generalize wthS l n = wt at *
  generalize normS l = no at *
  simp
  refine CallK.intro hN (by simp) ?_
  simp
  refine ALoop.intro (S := fun (i : Nat) => ⟨[(1, .pv (I64 n)), (5, .own true 1 (irow no)), (6, .own true 1 (irow (wthTo no n i))), (7, .pv (I64 i))], []⟩) (fun i => i ≤ no.length) (fun i => no.length - i) 0 ?_ (Nat.zero_le _) ?_
  · exact (Weak.nilOwn (s := 6) 1 true (by simp)).trans (Weak.to (by simp [wthTo, irow]) rfl (by simp) (by simp) (by simp))
  · intro i hi
    by_cases c : i < no.length
    · have hw : w64 ((i : Int) + 1) = ((i + 1 : Nat) : Int) := by rw [w64_id (by omega) (by omega)]; omega
      have hs : wthTo no n (i + 1) = if no[i] = n then wthTo no n i else wthTo no n i ++ [no[i]] := by
        unfold wthTo
        rw [List.take_add_one, List.getElem?_eq_getElem c, Option.toList_some, List.filter_append]
        simp only [List.filter_cons, List.filter_nil]
        by_cases e : no[i] = n <;> simp [e]
      have hlen : (wthTo no n i).length ≤ i := Nat.le_trans (List.length_filter_le _ _) (by rw [List.length_take]; omega)
      simp [c, irow]
      refine ⟨fun e => ?_, fun e => ?_⟩
      all_goals first
        | (rw [if_pos e] at hs
           exact ⟨i + 1, by (try dsimp only); omega, by (try dsimp only); omega, Weak.to (by simp [hw, hs, irow]) rfl (by simp) (by simp) (by simp)⟩)
        | (rw [if_neg e] at hs
           refine ⟨by omega, i + 1, by (try dsimp only); omega, by (try dsimp only); omega, Weak.to (by simp [hw, hs, irow]) rfl (by simp) (by simp) (by simp)⟩)
    · have : i = no.length := by omega
      subst this
      simp [irow] at hds ⊢
      rw [hds]

end Go.AX

namespace Go.AX
open Go.Proofs
set_option linter.unusedSimpArgs false

def resE (c d : List Int) (n : Int) : Int := if okL n = false then 10 else if (hasS c n && hasS d (-n)) = false then 11 else 0
def resS (c d : List Int) (n : Int) : List Int := normS (wthS c n ++ wthS d (-n))
def resPV (c d : List Int) (n : Int) : PV := if resE c d n = 0 then .seq true 1 (irow (resS c d n)) else .lit (.slice none 0 0)
theorem wthS_len (l : List Int) (n : Int) : (wthS l n).length ≤ l.length := Nat.le_trans (List.length_filter_le _ _) (normS_len l)
theorem resolve_ok (c d : List Int) (n : Int) (hl : c.length + d.length ≤ 1000000) : APure Try.prog 65 [.seq false 1 (irow c), .seq false 1 (irow d), I64 n] (fun r => r = .pv (.tup [resPV c d n, I64 (resE c d n)])) := by
  refine apureN [6, 7] hmo Try.func65 (by kernel_rfl) rfl (fun _ _ => results_tmp2 rfl _ _ _) (by kernel_rfl) (Nat.le_of_ble_eq_true rfl) ?_
  simp
  refine CallK.intro (litVar_ok n) (by simp) ?_
  simp [litV_zero]
  by_cases h1 : okL n = true
  rotate_left
  · simp [h1, resPV, resE]
  obtain ⟨a1, a2, a3⟩ := (okL_iff n).1 h1
  have hN : litN n = -n := by unfold litN; rw [if_pos h1]
  simp [h1]
  refine CallK.intro (has_ok c n (by omega)) (by simp) ?_
  simp
  refine CallG.intro (r := .pv (I64 (litN n))) (fun _ => litNeg_ok n) (by simp) ?_
  simp
  refine CallG.intro (r := .pv (BL (hasS d (-n)))) (fun _ => by rw [hN]; exact has_ok d (-n) (by omega)) (by simp) ?_
  cases h2 : hasS c n
  · simp [resPV, resE, h1, h2]
  cases h3 : hasS d (-n)
  · simp [resPV, resE, h1, h2, h3]
  have hE : resE c d n = 0 := by simp [resE, h1, h2, h3]
  have hw1 := wthS_len c n
  have hw2 := wthS_len d (-n)
  have k3 := norm_ok (wthS c n ++ wthS d (-n)) (by rw [List.length_append]; omega)
  have hi : irow (wthS c n ++ wthS d (-n)) = irow (wthS c n) ++ irow (wthS d (-n)) := by simp [irow]
  rw [hi] at k3
  simp
  refine CallK.intro (without_ok c n (by omega)) (by simp) ?_
  simp
  refine CallK.intro (litNeg_ok n) (by simp) ?_
  simp [hN]
  refine CallK.intro (without_ok d (-n) (by omega)) (by simp) ?_
  simp
  have hf : frzR (frzP [] 3) (irow (wthS c n) ++ irow (wthS d (-n))) = irow (wthS c n) ++ irow (wthS d (-n)) := by rw [← hi]; simp
  rw [hf]
  refine ⟨by omega, CallK.intro k3 (by simp) ?_⟩
  simp [resPV, hE, resS]
theorem refResolve_ok (c d : List Int) (n : Int) (hl : c.length + d.length ≤ 1000000) : APure Try.prog 66 [.seq false 1 (irow c), .seq false 1 (irow d), I64 n] (fun r => r = .pv (.tup [resPV c d n, I64 (resE c d n)])) := by
  refine apureN [6, 7] hmo Try.func66 (by kernel_rfl) rfl (fun _ _ => results_tmp2 rfl _ _ _) (by kernel_rfl) (Nat.le_of_ble_eq_true rfl) ?_
  simp
  refine CallK.intro (refIndex_ok n) (by simp) ?_
  simp [litX_neg]
  by_cases h1 : okL n = true
  rotate_left
  · simp [h1, resPV, resE]
  obtain ⟨a1, a2, a3⟩ := (okL_iff n).1 h1
  have hw : w64 (-n) = -n := w64_id (by omega) (by omega)
  simp [h1]
  refine CallK.intro (refHas2_ok c n (by omega)) (by simp) ?_
  simp [hw]
  refine CallG.intro (r := .pv (BL (hasS d (-n)))) (fun _ => refHas2_ok d (-n) (by omega)) (by simp) ?_
  cases h2 : hasS c n
  · simp [resPV, resE, h1, h2]
  cases h3 : hasS d (-n)
  · simp [resPV, resE, h1, h2, h3]
  have hE : resE c d n = 0 := by simp [resE, h1, h2, h3]
  have hw1 := wthS_len c n
  have hw2 := wthS_len d (-n)
  have k3 := refNorm_ok (wthS c n ++ wthS d (-n)) (by rw [List.length_append]; omega)
  have hi : irow (wthS c n ++ wthS d (-n)) = irow (wthS c n) ++ irow (wthS d (-n)) := by simp [irow]
  rw [hi] at k3
  simp
  refine CallK.intro (refWithout_ok c n (by omega)) (by simp) ?_
  simp [hw]
  refine CallK.intro (refWithout_ok d (-n) (by omega)) (by simp) ?_
  simp
  have hf : frzR (frzP [] 3) (irow (wthS c n) ++ irow (wthS d (-n))) = irow (wthS c n) ++ irow (wthS d (-n)) := by rw [← hi]; simp
  rw [hf]
  refine ⟨by omega, CallK.intro k3 (by simp) ?_⟩
  simp [resPV, hE, resS]

end Go.AX

namespace Go.AX
open Go.Proofs
set_option linter.unusedSimpArgs false

theorem nrm_ev {c d : List Int} (h : nrmTo c c.length = d) : normS c = d := by rw [← nrm_same]; exact h
theorem wth_ev {c d : List Int} {n : Int} (h : (nrmTo c c.length).filter (fun x => !decide (x = n)) = d) : wthS c n = d := by unfold wthS; rw [← nrm_same]; exact h
set_option maxRecDepth 16000 in
theorem clAwake_ok : APure Try.prog 51 [] (fun r => r = .pv (BL true)) := by
  refine apure1 hmo Try.func51 (by kernel_rfl) rfl rfl (by kernel_rfl) (Nat.le_of_ble_eq_true rfl) ?_
  have r1 := resolve_ok [1, 2] [-2, 3] 2 (by decide)
  have r2 := resolve_ok [1, 2] [-2, 3] 1 (by decide)
  have r3 := resolve_ok [1, 2] [-2, 3] 0 (by decide)
  have e1 : resPV [1, 2] [-2, 3] 2 = .seq true 1 [[I64 1], [I64 3]] := by
    unfold resPV
    rw [if_pos (by kernel_rfl)]
    unfold resS
    rw [wth_ev (c := [1, 2]) (d := [1]) (by kernel_rfl), wth_ev (c := [-2, 3]) (d := [3]) (by kernel_rfl), nrm_ev (d := [1, 3]) (by kernel_rfl)]
    rfl
  rw [e1, show resE [1, 2] [-2, 3] 2 = 0 by kernel_rfl] at r1
  rw [show resPV [1, 2] [-2, 3] 1 = .lit (.slice none 0 0) by (unfold resPV; rw [if_neg (by decide +kernel)]), show resE [1, 2] [-2, 3] 1 = 11 by kernel_rfl] at r2
  rw [show resPV [1, 2] [-2, 3] 0 = .lit (.slice none 0 0) by (unfold resPV; rw [if_neg (by decide +kernel)]), show resE [1, 2] [-2, 3] 0 = 10 by kernel_rfl] at r3
  have h1 := sameInts_ok [1, 3] [1, 3] (by decide)
  have h2 := norm_ok [-2, 0, 1, -2] (by decide)
  rw [nrm_ev (d := [1, -2]) (by kernel_rfl)] at h2
  have h3 := sameInts_ok [1, -2] [1, -2] (by decide)
  have h4 := taut_ok [1, 2, -1] (by decide)
  have h5 := taut_ok [1, 2] (by decide)
  rw [show tautS [1, 2, -1] = true by kernel_rfl] at h4
  rw [show tautS [1, 2] = false by kernel_rfl] at h5
  have h6 := subset_ok [1] [2, 1] (by decide) (by decide)
  have h7 := subset_ok [3] [2, 1] (by decide) (by decide)
  rw [show subS [1] [2, 1] = true by kernel_rfl] at h6
  rw [show subS [3] [2, 1] = false by kernel_rfl] at h7
  have h8 := same_ok [1, 2] [2, 1] (by decide) (by decide)
  rw [show sameS [1, 2] [2, 1] = true by kernel_rfl] at h8
  have h9 := has_ok [1, -2] (-2) (by decide)
  rw [show hasS [1, -2] (-2) = true by kernel_rfl] at h9
  have h10 := without_ok [3, 1, 2] 1 (by decide)
  rw [wth_ev (d := [2, 3]) (by kernel_rfl)] at h10
  have h11 := sameInts_ok [2, 3] [2, 3] (by decide)
  have h12 := clCheck_ok [1, -2] 2 (by decide)
  have h13 := clCheck_ok [1, 1] 2 (by decide)
  have h14 := clCheck_ok [3] 2 (by decide)
  rw [show chkC [1, -2] 2 = 0 by kernel_rfl] at h12
  rw [show chkC [1, 1] 2 = 21 by kernel_rfl] at h13
  rw [show chkC [3] 2 = 10 by kernel_rfl] at h14
  rw [decide_eq_true rfl] at h1 h3 h11
  simp only [List.map_cons, List.map_nil, irow] at r1 r2 r3 h1 h2 h3 h4 h5 h6 h7 h8 h9 h10 h11 h12 h13 h14
  simp
  refine CallK.intro r1 (by simp) ?_
  simp
  refine CallK.intro r2 (by simp) ?_
  simp
  refine CallK.intro r3 (by simp) ?_
  simp
  first | refine CallG.intro (fun _ => h1) (by simp) ?_ | refine CallK.intro h1 (by simp) ?_ | refine CallQ.intro (fun _ => h1) (by simp) ?_
  simp
  first | refine CallG.intro (fun _ => h2) (by simp) ?_ | refine CallK.intro h2 (by simp) ?_ | refine CallQ.intro (fun _ => h2) (by simp) ?_
  simp
  first | refine CallG.intro (fun _ => h3) (by simp) ?_ | refine CallK.intro h3 (by simp) ?_ | refine CallQ.intro (fun _ => h3) (by simp) ?_
  simp
  first | refine CallG.intro (fun _ => h4) (by simp) ?_ | refine CallK.intro h4 (by simp) ?_ | refine CallQ.intro (fun _ => h4) (by simp) ?_
  simp
  first | refine CallG.intro (fun _ => h5) (by simp) ?_ | refine CallK.intro h5 (by simp) ?_ | refine CallQ.intro (fun _ => h5) (by simp) ?_
  simp
  first | refine CallG.intro (fun _ => h6) (by simp) ?_ | refine CallK.intro h6 (by simp) ?_ | refine CallQ.intro (fun _ => h6) (by simp) ?_
  simp
  first | refine CallG.intro (fun _ => h7) (by simp) ?_ | refine CallK.intro h7 (by simp) ?_ | refine CallQ.intro (fun _ => h7) (by simp) ?_
  simp
  first | refine CallG.intro (fun _ => h8) (by simp) ?_ | refine CallK.intro h8 (by simp) ?_ | refine CallQ.intro (fun _ => h8) (by simp) ?_
  simp
  first | refine CallG.intro (fun _ => h9) (by simp) ?_ | refine CallK.intro h9 (by simp) ?_ | refine CallQ.intro (fun _ => h9) (by simp) ?_
  simp
  first | refine CallG.intro (fun _ => h10) (by simp) ?_ | refine CallK.intro h10 (by simp) ?_ | refine CallQ.intro (fun _ => h10) (by simp) ?_
  simp
  first | refine CallG.intro (fun _ => h11) (by simp) ?_ | refine CallK.intro h11 (by simp) ?_ | refine CallQ.intro (fun _ => h11) (by simp) ?_
  simp
  first | refine CallG.intro (fun _ => h12) (by simp) ?_ | refine CallK.intro h12 (by simp) ?_ | refine CallQ.intro (fun _ => h12) (by simp) ?_
  simp
  first | refine CallG.intro (fun _ => h13) (by simp) ?_ | refine CallK.intro h13 (by simp) ?_ | refine CallQ.intro (fun _ => h13) (by simp) ?_
  simp
  first | refine CallG.intro (fun _ => h14) (by simp) ?_ | refine CallK.intro h14 (by simp) ?_ | refine CallQ.intro (fun _ => h14) (by simp) ?_
  simp

end Go.AX

namespace Go.AX
open Go.Proofs
set_option linter.unusedSimpArgs false

theorem norm_norm (c : List Int) : normS (normS c) = normS c := by
  obtain ⟨h1, h2⟩ := normS_is c
  obtain ⟨h3, h4⟩ := normS_is (normS c)
  refine sorted_same h3 h1 fun x => ?_
  rw [h4]
  exact ⟨fun h => h.2, fun h => ⟨((h2 x).1 h).1, h⟩⟩
theorem has_iff (c : List Int) (n : Int) : hasS c n = true ↔ okL n = true ∧ n ∈ c := by unfold hasS; simp
theorem norm_has (c : List Int) (n : Int) : hasS (normS c) n = hasS c n := by
  rw [Bool.eq_iff_iff, has_iff, has_iff, (normS_is c).2]
  exact ⟨fun h => ⟨h.1, h.2.2⟩, fun h => ⟨h.1, h.1, h.2⟩⟩
theorem dup_nodup {l : List Int} (h : l.Nodup) : ∀ n, n ≤ l.length → dupTo l n = 0
  | 0, _ => rfl
  | n + 1, hn => by
    have hg : l.getD n 0 = l[n] := by simp [show n < l.length by omega]
    rw [dupTo, dup_nodup h n (by omega), hg, if_neg]
    intro hm
    obtain ⟨j, hj, he⟩ := List.getElem_of_mem hm
    rw [List.length_take] at hj
    rw [List.getElem_take] at he
    exact List.pairwise_iff_getElem.1 h j n (by omega) (by omega) (by omega) he
theorem norm_chk (c : List Int) (hl : c.length ≤ 1000) : chkC (normS c) 100000 = 0 := by
  have hn := normS_len c
  obtain ⟨h1, h2⟩ := normS_is c
  have hnd : (normS c).Nodup := h1.imp fun {x y} hxy e => by rw [e] at hxy; omega
  unfold chkC
  rw [if_neg (by omega), if_neg (by omega), if_neg, if_pos (dup_nodup hnd _ (Nat.le_refl _))]
  rw [Bool.not_eq_false]
  exact List.all_eq_true.2 fun x hx => ((h2 x).1 hx).1
theorem sub_iff (a b : List Int) : subS a b = true ↔ ∀ x, x ∈ normS a → x ∈ normS b := by
  unfold subS
  rw [List.all_eq_true]
  constructor
  · intro h x hx
    obtain ⟨h1, h2⟩ := ((normS_is a).2 x).1 hx
    have := h x h2
    rw [h1] at this
    exact ((normS_is b).2 x).2 ((has_iff b x).1 (by simpa using this))
  · intro h x hx
    cases ho : okL x
    · rfl
    · have := ((normS_is b).2 x).1 (h x (((normS_is a).2 x).2 ⟨ho, hx⟩))
      simp [hasS, ho, this.2]
theorem same_is (a b : List Int) : sameS a b = decide (normS a = normS b) := by
  unfold sameS
  rw [Bool.eq_iff_iff, Bool.and_eq_true, sub_iff, sub_iff, decide_eq_true_eq]
  constructor
  · rintro ⟨h1, h2⟩
    exact sorted_same (normS_is a).1 (normS_is b).1 fun x => ⟨h1 x, h2 x⟩
  · intro h
    rw [h]
    exact ⟨fun _ h => h, fun _ h => h⟩
set_option maxRecDepth 16000 in
theorem clauseNorm_ok (c d : List Int) (n : Int) : APure Try.prog 12 [.seq false 1 (irow c), .seq false 1 (irow d), I64 n] (fun r => r = .pv (BL true)) := by
  refine apure1 hmo Try.func12 (by kernel_rfl) rfl rfl (by kernel_rfl) (Nat.le_of_ble_eq_true rfl) ?_
  by_cases c1 : 300 < c.length
  · have c1' : 300 < (c.length : Int) := by omega
    simp [c1, c1']
    exact CallK.intro clAwake_ok (by simp) (by simp)
  have c1' : ¬ 300 < (c.length : Int) := by omega
  by_cases c2 : 300 < d.length
  · have c2' : 300 < (d.length : Int) := by omega
    simp [c1, c1', c2, c2']
    exact CallK.intro clAwake_ok (by simp) (by simp)
  have c2' : ¬ 300 < (d.length : Int) := by omega
  have hn := normS_len c
  have hnd := normS_len d
  have k1 := norm_ok c (by omega)
  have k2 := sameInts_ok c c (by omega)
  have k3 := norm_ok (normS c) (by omega)
  have k4 := sameInts_ok (normS c) (normS c) (by omega)
  have k5 := has_ok (normS c) n (by omega)
  have k6 := has_ok c n (by omega)
  have k7 := clCheck_ok (normS c) 100000 (by omega)
  have k8 := same_ok c d (by omega) (by omega)
  have k9 := norm_ok d (by omega)
  have k10 := sameInts_ok (normS c) (normS d) (by omega)
  have k11 := same_ok c (normS c) (by omega) (by omega)
  rw [norm_norm] at k3
  rw [norm_has] at k5
  rw [norm_chk c (by omega)] at k7
  rw [same_is] at k8
  rw [same_is, norm_norm, decide_eq_true rfl] at k11
  rw [decide_eq_true rfl] at k2 k4
  generalize decide (normS c = normS d) = D at *
  generalize normS c = no at *
  generalize normS d = nd at *
  generalize hasS c n = hs at *
  simp [c1, c1', c2, c2']
  refine ⟨by omega, CallK.intro k1 (by simp) ?_⟩
  simp
  first | refine CallK.intro k2 (by simp) ?_ | refine CallG.intro (fun _ => k2) (by simp) ?_ | refine CallQ0.intro k2 (by simp) ?_ | refine CallQ.intro (fun _ => k2) (by simp) ?_
  simp
  first | refine CallK.intro k3 (by simp) ?_ | refine CallG.intro (fun _ => k3) (by simp) ?_ | refine CallQ0.intro k3 (by simp) ?_ | refine CallQ.intro (fun _ => k3) (by simp) ?_
  simp
  first | refine CallK.intro k4 (by simp) ?_ | refine CallG.intro (fun _ => k4) (by simp) ?_ | refine CallQ0.intro k4 (by simp) ?_ | refine CallQ.intro (fun _ => k4) (by simp) ?_
  simp
  first | refine CallK.intro k5 (by simp) ?_ | refine CallG.intro (fun _ => k5) (by simp) ?_ | refine CallQ0.intro k5 (by simp) ?_ | refine CallQ.intro (fun _ => k5) (by simp) ?_
  simp
  first | refine CallK.intro k6 (by simp) ?_ | refine CallG.intro (fun _ => k6) (by simp) ?_ | refine CallQ0.intro k6 (by simp) ?_ | refine CallQ.intro (fun _ => k6) (by simp) ?_
  simp
  first | refine CallK.intro k7 (by simp) ?_ | refine CallG.intro (fun _ => k7) (by simp) ?_ | refine CallQ0.intro k7 (by simp) ?_ | refine CallQ.intro (fun _ => k7) (by simp) ?_
  simp
  first | refine CallK.intro k8 (by simp) ?_ | refine CallG.intro (fun _ => k8) (by simp) ?_ | refine CallQ0.intro k8 (by simp) ?_ | refine CallQ.intro (fun _ => k8) (by simp) ?_
  simp
  first | refine CallK.intro k9 (by simp) ?_ | refine CallG.intro (fun _ => k9) (by simp) ?_ | refine CallQ0.intro k9 (by simp) ?_ | refine CallQ.intro (fun _ => k9) (by simp) ?_
  simp
  first | refine CallK.intro k10 (by simp) ?_ | refine CallG.intro (fun _ => k10) (by simp) ?_ | refine CallQ0.intro k10 (by simp) ?_ | refine CallQ.intro (fun _ => k10) (by simp) ?_
  simp
  first | refine CallK.intro k11 (by simp) ?_ | refine CallG.intro (fun _ => k11) (by simp) ?_ | refine CallQ0.intro k11 (by simp) ?_ | refine CallQ.intro (fun _ => k11) (by simp) ?_
  simp
  first | refine CallK.intro clAwake_ok (by simp) ?_ | refine CallG.intro (fun _ => clAwake_ok) (by simp) ?_ | refine CallQ0.intro clAwake_ok (by simp) ?_ | refine CallQ.intro (fun _ => clAwake_ok) (by simp) ?_
  simp

end Go.AX
