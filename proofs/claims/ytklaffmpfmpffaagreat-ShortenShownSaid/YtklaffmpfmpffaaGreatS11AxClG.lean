/-
  Contracts: clause.Norm.
  Contracts: the one form of a clause is the document's.
  Contracts: clause.Check, Without, Resolve.
-/
import Derived.Test.YtklaffmpfmpffaaGreatS11AxClD
import Derived.Test.YtklaffmpfmpffaaGreatS11AxShelf
import Derived.Test.YtklaffmpfmpffaaGreatAxBR
namespace Go.AX
open Go.Proofs
set_option linter.unusedSimpArgs false

abbrev Lit := { n : Int // okL n = true }
instance : Inhabited Lit := ⟨⟨1, rfl⟩⟩
def litC (a b : Lit) : Int := cmpS (litX a.1) (litX b.1)
theorem litX_inj {a b : Int} (ha : okL a = true) (hb : okL b = true) (h : litX a = litX b) : a = b := by
  obtain ⟨a1, a2, a3⟩ := (okL_iff a).1 ha
  obtain ⟨b1, b2, b3⟩ := (okL_iff b).1 hb
  unfold litX absS at h
  rw [if_pos ha, if_pos hb] at h
  split at h <;> split at h <;> omega
theorem ltLit (a b : Lit) : ltOf litC a b = decide (litX a.1 < litX b.1) := by
  unfold ltOf litC cmpS
  by_cases h : litX a.1 < litX b.1
  · simp [h]
  · by_cases h2 : litX a.1 > litX b.1 <;> simp [h, h2]
theorem litC_swo : Sort.SWO (ltOf litC) where
  irrefl x := by rw [ltLit]; simp
  trans x y z := by simp only [ltLit, decide_eq_true_eq]; omega
  ntrans x y z := by simp only [ltLit, decide_eq_false_iff_not]; omega
theorem litC_tot (x y : Lit) (h1 : ltOf litC x y = false) (h2 : ltOf litC y x = false) : x = y := by
  rw [ltLit] at h1 h2
  simp at h1 h2
  exact Subtype.ext (litX_inj x.2 y.2 (by omega))
theorem normC1_ok (x : Int) : APure Tryz.prog 186 [I64 x] (fun r => r = .pv (BL (!okL x))) := by
  refine apure1 hmo Tryz.func186 (by kernel_rfl) rfl rfl (by kernel_rfl) (Nat.le_of_ble_eq_true rfl) ?_
  simp
  refine CallK.intro (litVar_ok _) (by simp) ?_
  simp [litV_zero]
theorem normC2_ok (x y : Int) : APure Tryz.prog 188 [I64 x, I64 y] (fun r => r = .pv (I64 (cmpS (litX x) (litX y)))) := by
  refine apure1 hmo Tryz.func188 (by kernel_rfl) rfl rfl (by kernel_rfl) (Nat.le_of_ble_eq_true rfl) ?_
  simp
  refine CallK.intro (litIndex_ok _) (by simp) ?_
  simp
  refine CallK.intro (litIndex_ok _) (by simp) ?_
  simp
  refine CallK.intro (compare_ok _ _) (by simp) ?_
  simp
def litsOf : List Int → List Lit
  | [] => []
  | x :: l => if h : okL x = true then ⟨x, h⟩ :: litsOf l else litsOf l
theorem litsOf_map : ∀ l : List Int, (litsOf l).map (·.1) = l.filter okL
  | [] => rfl
  | x :: l => by
    rw [litsOf]
    split
    · rename_i h; rw [List.map_cons, litsOf_map l, List.filter_cons, if_pos h]
    · rename_i h; rw [litsOf_map l, List.filter_cons, if_neg h]
def sortL (l : List Lit) : List Lit := l.mergeSort fun x y => !(ltOf litC) y x
def normS (l : List Int) : List Int := compS ((sortL (litsOf l)).map (·.1))
theorem sortN_ok (l : List Lit) (hl : l.length ≤ 1000000) : AIn Tryz.prog 187 1 (intsB (l.map (·.1))) [.fn (.func 188) [] []] (fun k rows => k = none ∧ rows = intsB ((sortL l).map (·.1))) :=
  sortFunc_in Tryz.sortF (fun x : Lit => x.1) litC 188 l hl litC_swo litC_tot (enters_of Tryz.func188 (by kernel_rfl) rfl) (by kernel_rfl) (fun x y => normC2_ok x.1 y.1)
theorem AIn.asFn {P : Program} {f g : FuncId} {e : Nat} {rows : List (List PV)} {R : Option Nat → List (List PV) → Prop} (h : AIn P f e rows [.fn (.func g) [] []] R) : AIn P f e rows [.lit (.func (.func g) #[] #[])] R := by
  have hf : ∀ {G : Gh} {us : List Value}, FitL G [.lit (.func (.func g) #[] #[])] us → FitL G [.fn (.func g) [] []] us := fun ⟨v, r, h1, h2, h3⟩ => ⟨v, r, h1, ⟨#[], #[], h2, rfl, rfl⟩, h3⟩
  exact ⟨h.1, fun hn w c cap arr T pre vs suf us h1 h2 h3 h4 h5 h6 h7 => h.2.1 hn w c cap arr T pre vs suf us h1 h2 h3 h4 h5 (hf h6) h7, fun hn w p cap us h1 => h.2.2 hn w p cap us (hf h1)⟩
theorem belowR_intsB (k : Nat) : ∀ l : List Int, belowR k (intsB l)
  | [] => trivial
  | _ :: l => ⟨⟨trivial, trivial⟩, belowR_intsB k l⟩
theorem intsB_len (l : List Int) : (intsB l).length = l.length := by unfold intsB; simp
theorem intsB_append (a b : List Int) : intsB (a ++ b) = intsB a ++ intsB b := by unfold intsB; simp
theorem intsB_take (a b : List Int) : (intsB (a ++ b)).take a.length = intsB a := by rw [intsB_append, List.take_left' (intsB_len a)]
theorem delS_ok (l : List Int) : delS (fun x => !okL x) l = (litsOf l).map (·.1) := by
  rw [litsOf_map]; unfold delS; congr 1; funext x; simp
theorem norm_ok (l : List Int) (hl : l.length ≤ 1000000) : APure Tryz.prog 146 [.seq false 1 (irow l)] (fun r => r = .own true 1 (irow (normS l))) := by
  refine apure1 hmo Tryz.func146 (by kernel_rfl) rfl rfl (by kernel_rfl) (Nat.le_of_ble_eq_true rfl) ?_
  have hD := (deleteF_ok l hl 186 [] (fun x => !okL x) (fun r => rfl) rfl (fun k => trivial) trivial (fun x _ => normC1_ok x)).asFn
  have hdl := delS_len (fun x => !okL x) l
  have hde := delS_ok l
  unfold delR at hD
  rw [hde] at hD hdl
  have hln : (litsOf l).length ≤ 1000000 := by rw [List.length_map] at hdl; omega
  have hS := (sortN_ok (litsOf l) hln).asFn
  have hsl : (sortL (litsOf l)).length = (litsOf l).length := List.length_mergeSort _
  have hC := compact_ok ((sortL (litsOf l)).map (·.1)) (by rw [List.length_map, hsl]; exact hln)
  have hcl := compTo_len ((sortL (litsOf l)).map (·.1)) ((sortL (litsOf l)).map (·.1)).length
  unfold cmpR at hC
  have hcs : compS ((sortL (litsOf l)).map (·.1)) = normS l := rfl
  have hcs2 : compTo ((sortL (litsOf l)).map (·.1)) ((sortL (litsOf l)).map (·.1)).length = normS l := rfl
  rw [hcs] at hC
  rw [hcs2] at hcl
  have hsl2 : ((sortL (litsOf l)).map (·.1)).length = ((litsOf l).map (·.1)).length := by rw [List.length_map, List.length_map, hsl]
  generalize (sortL (litsOf l)).map (·.1) = so at *
  generalize (litsOf l).map (·.1) = va at *
  generalize normS l = no at *
  simp
  refine CallK.intro (clone_ok l hl) (by simp) ?_
  simp
  refine CallK.introX (CallX.introS (o := .slot 6) (lo := 0) (hi := l.length) hD (by simp) rfl rfl (by simp) (by simp) rfl (by simp; rw [List.take_of_length_le (by simp [irow])]; rfl) (belowR_intsB 0 l) (by simp) (by simp) ?_)
  rintro k rows' ⟨rfl, rfl⟩ _ _
  have hd1 : List.drop l.length (irow l) = [] := List.drop_eq_nil_of_le (by simp [irow])
  have hI := intsB_len (va ++ List.replicate (l.length - va.length) 0)
  simp [hd1]
  refine CallK.introX (CallX.introS (o := .slot 6) (lo := 0) (hi := va.length) hS (by simp) rfl rfl (by simp) (by simp) rfl (by simp; exact intsB_take _ _) (belowR_intsB 0 va) (by simp) (by simp) ?_)
  rintro k rows' ⟨rfl, rfl⟩ _ _
  simp
  refine CallK.introX (CallX.introS (o := .slot 6) (lo := 0) (hi := va.length) hC (by simp) rfl rfl (by simp) (by simp) rfl (by simp; rw [List.take_left' (by rw [intsB_len, hsl2])]) (belowR_intsB 0 so) (by simp) (by simp) ?_)
  rintro k rows' ⟨rfl, rfl⟩ _ _
  simp
  rw [List.take_append_of_le_length (by rw [intsB_len]; simp), intsB_take]
  rfl

end Go.AX

namespace Go.AX
open Go.Proofs
set_option linter.unusedSimpArgs false

def insP : List Int → Int → Nat
  | [], _ => 0
  | y :: l, x => if litX y < litX x then insP l x + 1 else 0
def insL (l : List Int) (x : Int) : List Int := l.take (insP l x) ++ x :: l.drop (insP l x)
theorem insL_cons (y : Int) (l : List Int) (x : Int) : insL (y :: l) x = if litX y < litX x then y :: insL l x else x :: y :: l := by
  unfold insL
  rw [insP]
  split
  · simp
  · simp
theorem insL_perm : ∀ (l : List Int) (x : Int), (insL l x).Perm (x :: l)
  | [], x => by simp [insL, insP]
  | y :: l, x => by
    rw [insL_cons]
    split
    · exact ((insL_perm l x).cons y).trans (.swap x y l)
    · exact .refl _
theorem insL_sorted : ∀ (l : List Int) (x : Int), (∀ y ∈ l, litX y ≠ litX x) → l.Pairwise (fun a b => litX a < litX b) → (insL l x).Pairwise (fun a b => litX a < litX b)
  | [], x, _, _ => by simp [insL, insP]
  | y :: l, x, hn, h => by
    rw [insL_cons]
    rw [List.pairwise_cons] at h
    split
    · rename_i c
      rw [List.pairwise_cons]
      refine ⟨fun z hz => ?_, insL_sorted l x (fun z hz => hn z (List.mem_cons_of_mem _ hz)) h.2⟩
      rcases List.mem_cons.1 ((insL_perm l x).mem_iff.1 hz) with rfl | hz
      · exact c
      · exact h.1 z hz
    · rename_i c
      rw [List.pairwise_cons, List.pairwise_cons]
      have := hn y List.mem_cons_self
      refine ⟨fun z hz => ?_, h⟩
      rcases List.mem_cons.1 hz with rfl | hz
      · omega
      · have := h.1 z hz; omega
def nrmTo (c : List Int) : Nat → List Int
  | 0 => []
  | i + 1 => if okL (c.getD i 0) = true ∧ c.getD i 0 ∉ nrmTo c i then insL (nrmTo c i) (c.getD i 0) else nrmTo c i
theorem nrmTo_len (c : List Int) : ∀ i, (nrmTo c i).length ≤ i
  | 0 => Nat.le_refl _
  | i + 1 => by
    have := nrmTo_len c i
    rw [nrmTo]
    split
    · rw [(insL_perm _ _).length_eq]; simp; omega
    · omega
theorem nrmTo_is (c : List Int) : ∀ i, i ≤ c.length → (nrmTo c i).Pairwise (fun a b => litX a < litX b) ∧ ∀ x, x ∈ nrmTo c i ↔ okL x = true ∧ x ∈ c.take i
  | 0, _ => ⟨by simp [nrmTo], fun x => by simp [nrmTo]⟩
  | i + 1, h => by
    obtain ⟨h1, h2⟩ := nrmTo_is c i (by omega)
    have hg : c.getD i 0 = c[i] := by simp [show i < c.length by omega]
    rw [nrmTo, hg, List.take_add_one, List.getElem?_eq_getElem (by omega), Option.toList_some]
    by_cases d : okL c[i] = true ∧ c[i] ∉ nrmTo c i
    · rw [if_pos d]
      refine ⟨insL_sorted _ _ (fun y hy e => d.2 ?_) h1, fun x => ?_⟩
      · rw [← litX_inj ((h2 y).1 hy).1 d.1 e]; exact hy
      · rw [(insL_perm _ _).mem_iff, List.mem_cons, h2, List.mem_append, List.mem_singleton]
        constructor
        · rintro (rfl | ⟨a, b⟩)
          · exact ⟨d.1, .inr rfl⟩
          · exact ⟨a, .inl b⟩
        · rintro ⟨a, b | b⟩
          · exact .inr ⟨a, b⟩
          · exact .inl b
    · rw [if_neg d]
      refine ⟨h1, fun x => ?_⟩
      rw [h2, List.mem_append, List.mem_singleton]
      constructor
      · rintro ⟨a, b⟩; exact ⟨a, .inl b⟩
      · rintro ⟨a, b | rfl⟩
        · exact ⟨a, b⟩
        · have hm : c[i] ∈ nrmTo c i := Classical.byContradiction fun h => d ⟨a, h⟩
          exact (h2 _).1 hm
theorem compTo_is {zs : List Int} (hs : zs.Pairwise (fun a b => litX a ≤ litX b)) (hok : ∀ x ∈ zs, okL x = true) : ∀ j, j ≤ zs.length → (compTo zs j).Pairwise (fun a b => litX a < litX b) ∧ ∀ x, x ∈ compTo zs j ↔ x ∈ zs.take j
  | 0, _ => ⟨by simp [compTo], fun x => by simp [compTo]⟩
  | j + 1, h => by
    obtain ⟨h1, h2⟩ := compTo_is hs hok j (by omega)
    have hg : zs.getD j 0 = zs[j] := by simp [show j < zs.length by omega]
    rw [compTo, hg, List.take_add_one, List.getElem?_eq_getElem (by omega), Option.toList_some]
    have hp := List.pairwise_iff_getElem.1 hs
    by_cases d : j = 0 ∨ zs[j] ≠ zs.getD (j - 1) 0
    · rw [if_pos d]
      refine ⟨List.pairwise_append.2 ⟨h1, by simp, fun y hy z hz => ?_⟩, fun x => by rw [List.mem_append, List.mem_append, h2]⟩
      rw [List.mem_singleton] at hz
      subst hz
      obtain ⟨k, hk, rfl⟩ := List.getElem_of_mem ((h2 y).1 hy)
      rw [List.length_take] at hk
      rw [List.getElem_take]
      rcases d with rfl | d
      · omega
      · have e2 : zs.getD (j - 1) 0 = zs[j - 1] := by simp [show j - 1 < zs.length by omega]
        rw [e2] at d
        have a1 : litX zs[k] ≤ litX zs[j - 1] := by
          by_cases e : k = j - 1
          · subst e; exact Int.le_refl _
          · exact hp k (j - 1) (by omega) (by omega) (by omega)
        have a2 : litX zs[j - 1] ≤ litX zs[j] := hp (j - 1) j (by omega) (by omega) (by omega)
        have a3 : litX zs[j - 1] ≠ litX zs[j] := fun e => d (litX_inj (hok _ (List.getElem_mem _)) (hok _ (List.getElem_mem _)) e.symm)
        omega
    · rw [if_neg d]
      refine ⟨h1, fun x => ?_⟩
      rw [h2, List.mem_append, List.mem_singleton]
      refine ⟨.inl, fun hx => hx.elim id fun e => ?_⟩
      have hj : j ≠ 0 := fun e => d (.inl e)
      have e2 : zs.getD (j - 1) 0 = zs[j - 1] := by simp [show j - 1 < zs.length by omega]
      have e3 : zs[j] = zs[j - 1] := Classical.byContradiction fun hh => d (.inr (by rw [e2]; exact hh))
      rw [e, e3]
      exact List.mem_take_iff_getElem.2 ⟨j - 1, by omega, rfl⟩
theorem normS_is (c : List Int) : (normS c).Pairwise (fun a b => litX a < litX b) ∧ ∀ x, x ∈ normS c ↔ okL x = true ∧ x ∈ c := by
  have hs : ((sortL (litsOf c)).map (·.1)).Pairwise (fun a b => litX a ≤ litX b) := by
    rw [List.pairwise_map]
    refine (List.pairwise_mergeSort (fun a b d => ?_) (fun a b => ?_) (litsOf c)).imp fun {a b} h => ?_
    · simp only [ltLit, Bool.not_eq_true', decide_eq_false_iff_not]; omega
    · simp only [ltLit, Bool.or_eq_true, Bool.not_eq_true', decide_eq_false_iff_not]; omega
    · simp only [ltLit, Bool.not_eq_true', decide_eq_false_iff_not] at h; omega
  have hm : ∀ x, x ∈ (sortL (litsOf c)).map (·.1) ↔ okL x = true ∧ x ∈ c := fun x => by
    unfold sortL
    rw [((List.mergeSort_perm _ _).map _).mem_iff, litsOf_map, List.mem_filter, And.comm]
  obtain ⟨h1, h2⟩ := compTo_is hs (fun x hx => ((hm x).1 hx).1) _ (Nat.le_refl _)
  refine ⟨h1, fun x => ?_⟩
  have := h2 x
  rw [List.take_length] at this
  exact this.trans (hm x)
theorem sorted_same {a b : List Int} (ha : a.Pairwise (fun x y => litX x < litX y)) (hb : b.Pairwise (fun x y => litX x < litX y)) (h : ∀ x, x ∈ a ↔ x ∈ b) : a = b := by
  have na : a.Nodup := ha.imp fun {x y} hxy e => by rw [e] at hxy; omega
  have nb : b.Nodup := hb.imp fun {x y} hxy e => by rw [e] at hxy; omega
  exact List.Perm.eq_of_pairwise (le := fun x y => litX x < litX y) (fun x y _ _ h1 h2 => by omega) ha hb ((List.perm_ext_iff_of_nodup na nb).2 h)
theorem nrm_same (c : List Int) : nrmTo c c.length = normS c := by
  obtain ⟨h1, h2⟩ := nrmTo_is c c.length (Nat.le_refl _)
  obtain ⟨h3, h4⟩ := normS_is c
  refine sorted_same h1 h3 fun x => ?_
  rw [h2, h4, List.take_length]

end Go.AX

namespace Go.AX
open Go.Proofs
set_option linter.unusedSimpArgs false

def dupTo (l : List Int) : Nat → Nat
  | 0 => 0
  | i + 1 => dupTo l i + if l.getD i 0 ∈ l.take i then 1 else 0
theorem dupTo_mono (l : List Int) {i : Nat} : ∀ n, i ≤ n → dupTo l i ≤ dupTo l n
  | 0, h => by
    have : i = 0 := by omega
    subst this; exact Nat.le_refl _
  | n + 1, h => by
    by_cases e : i = n + 1
    · subst e; exact Nat.le_refl _
    · have := dupTo_mono (i := i) l n (by omega)
      rw [dupTo]; omega
theorem pt_len {α : Type} : ∀ (l : List (Int × α)) (k : Int) (y : α), (pt l k y).length = l.length + if (lk l k).isNone = true then 1 else 0
  | [], k, y => by simp [pt, lk]
  | (j, x) :: r, k, y => by
    have ih := pt_len r k y
    rw [pt, lk]
    by_cases e : j = k
    · rw [if_pos e, if_pos e]; simp
    · rw [if_neg e, if_neg e, List.length_cons, ih, List.length_cons]; omega
theorem lk_seen_none (l : List Int) (x : Int) : ∀ n, n ≤ l.length → ((lk (seenTo l n) x).isNone = true ↔ ¬ (okL x = true ∧ x ∈ l.take n))
  | 0, _ => by simp [seenTo, lk]
  | n + 1, h => by
    have ih := lk_seen_none l x n (by omega)
    have hg : l.getD n 0 = l[n] := by simp [show n < l.length by omega]
    rw [seenTo, hg, List.take_add_one, List.getElem?_eq_getElem (by omega), Option.toList_some, List.mem_append, List.mem_singleton]
    by_cases c : okL l[n] = true
    · rw [if_pos c, lk_pt]
      by_cases e : l[n] = x
      · rw [if_pos e]
        subst e
        simp [c]
      · rw [if_neg e, ih]
        have e' : ¬ x = l[n] := fun h => e h.symm
        simp [e']
    · rw [if_neg c, ih]
      by_cases e : l[n] = x
      · subst e; simp [c]
      · have e' : ¬ x = l[n] := fun h => e h.symm
        simp [e']
theorem seen_dup (l : List Int) (hok : ∀ x ∈ l, okL x = true) : ∀ n, n ≤ l.length → (seenTo l n).length + dupTo l n = n
  | 0, _ => rfl
  | n + 1, h => by
    have ih := seen_dup l hok n (by omega)
    have hg : l.getD n 0 = l[n] := by simp [show n < l.length by omega]
    have hl := hok _ (List.getElem_mem (show n < l.length by omega))
    have hn := lk_seen_none l l[n] n (by omega)
    rw [seenTo, dupTo, hg, if_pos hl, pt_len]
    by_cases e : l[n] ∈ l.take n
    · rw [if_pos e, if_neg (fun h => hn.1 h ⟨hl, e⟩)]; omega
    · rw [if_neg e, if_pos (hn.2 fun h => e h.2)]; omega
def chkC (l : List Int) (m : Int) : Int :=
  if m < 0 ∨ 100000 < m then 2 else if 1000 < l.length then 3 else if (l.all fun x => inS x m) = false then 10 else if dupTo l l.length = 0 then 0 else 21
theorem inS_ok {x m : Int} (h : m ≤ 100000) (hi : inS x m = true) : okL x = true := by
  unfold inS at hi
  simp at hi
  exact (okL_iff x).2 (by omega)
theorem clCheck_ok (l : List Int) (m : Int) (hl : l.length ≤ 140737488355328) : APure Tryz.prog 134 [.seq false 1 (irow l), I64 m] (fun r => r = .pv (I64 (chkC l m))) := by
  refine apure1 hmo Tryz.func134 (by kernel_rfl) rfl rfl (by kernel_rfl) (Nat.le_of_ble_eq_true rfl) ?_
  by_cases c1 : m < 0
  · simp [c1, chkC]
  by_cases c2 : 100000 < m
  · simp [c1, c2, chkC]
  by_cases c3 : 1000 < l.length
  · have c3' : 1000 < (l.length : Int) := by omega
    simp [c1, c2, c3, c3', chkC]
  have c3' : ¬ 1000 < (l.length : Int) := by omega
  have hL : ∀ n, litChk n m = if inS n m = true then 0 else 10 := fun n => by unfold litChk; rw [if_neg (by omega)]
  simp [c1, c2, c3, c3']
  refine ALoop.intro (S := fun (i : Nat) => ⟨[(0, .pv (.seq false 1 (irow l))), (1, .pv (I64 m)), (19, .pv (.seq false 1 (irow l))), (20, .pv (I64 l.length)), (21, .pv (I64 i))], []⟩) (fun i => i ≤ l.length ∧ ∀ j (h : j < l.length), j < i → inS l[j] m = true) (fun i => l.length - i) 0 ?_ ⟨Nat.zero_le _, fun j _ h => by omega⟩ ?_
  · exact Weak.to (by simp) rfl (by simp) (by simp) (by simp)
  · rintro i ⟨hi, ho⟩
    by_cases c : i < l.length
    · have hw : w64 ((i : Int) + 1) = ((i + 1 : Nat) : Int) := by rw [w64_id (by omega) (by omega)]; omega
      simp [c]
      refine CallK.intro (litCheck_ok _ _) (by simp) ?_
      simp [hL]
      by_cases d : inS l[i] m = true
      · simp [d]
        refine ⟨i + 1, by (try dsimp only); omega, ⟨by omega, fun j h1 h2 => ?_⟩, Weak.to (by simp [hw]) rfl (by simp) (by simp) (by simp)⟩
        by_cases e : j = i
        · subst e; exact d
        · exact ho j h1 (by omega)
      · have hall : (l.all fun x => inS x m) = false := by
          rw [← Bool.not_eq_true]; intro h
          exact d (List.all_eq_true.1 h _ (List.getElem_mem c))
        simp [d, chkC, c1, c2, c3, hall]
    · have : i = l.length := by omega
      subst this
      have hall : (l.all fun x => inS x m) = true := List.all_eq_true.2 fun x hx => by
        obtain ⟨j, hj, rfl⟩ := List.getElem_of_mem hx
        exact ho j hj hj
      have hsd := seen_dup l (fun x hx => inS_ok (by omega) (List.all_eq_true.1 hall x hx)) l.length (Nat.le_refl _)
      have hml : (mapE fI (seenTo l l.length)).length = (seenTo l l.length).length := by unfold mapE; simp
      simp
      refine CallK.intro (seen_ok l (by omega)) (by simp) ?_
      simp [hml]
      by_cases d : dupTo l l.length = 0
      · have : ¬ (seenTo l l.length).length < l.length := by omega
        simp [this, chkC, c1, c2, c3, hall, d]
      · have : (seenTo l l.length).length < l.length := by omega
        simp [this, chkC, c1, c2, c3, hall, d]
theorem refClCheck_ok (l : List Int) (m : Int) (hl : l.length ≤ 140737488355328) : APure Tryz.prog 33 [.seq false 1 (irow l), I64 m] (fun r => r = .pv (I64 (chkC l m))) := by
  refine apure1 hmo Tryz.func33 (by kernel_rfl) rfl rfl (by kernel_rfl) (Nat.le_of_ble_eq_true rfl) ?_
  by_cases c1 : m < 0
  · simp [c1, chkC]
  by_cases c2 : 100000 < m
  · simp [c1, c2, chkC]
  by_cases c3 : 1000 < l.length
  · have c3' : 1000 < (l.length : Int) := by omega
    simp [c1, c2, c3, c3', chkC]
  have c3' : ¬ 1000 < (l.length : Int) := by omega
  have hL : ∀ n, litChk n m = if inS n m = true then 0 else 10 := fun n => by unfold litChk; rw [if_neg (by omega)]
  simp [c1, c2, c3, c3']
  refine ALoop.intro (S := fun (i : Nat) => ⟨[(0, .pv (.seq false 1 (irow l))), (1, .pv (I64 m)), (5, .pv (I64 i))], []⟩) (fun i => i ≤ l.length ∧ ∀ j (h : j < l.length), j < i → inS l[j] m = true) (fun i => l.length - i) 0 ?_ ⟨Nat.zero_le _, fun j _ h => by omega⟩ ?_
  · exact Weak.to (by simp) rfl (by simp) (by simp) (by simp)
  · rintro i ⟨hi, ho⟩
    by_cases c : i < l.length
    · have hw : w64 ((i : Int) + 1) = ((i + 1 : Nat) : Int) := by rw [w64_id (by omega) (by omega)]; omega
      simp [c]
      refine CallK.intro (refLitChk_ok _ _) (by simp) ?_
      simp [hL]
      by_cases d : inS l[i] m = true
      · simp [d]
        refine ⟨i + 1, by (try dsimp only); omega, ⟨by omega, fun j h1 h2 => ?_⟩, Weak.to (by simp [hw]) rfl (by simp) (by simp) (by simp)⟩
        by_cases e : j = i
        · subst e; exact d
        · exact ho j h1 (by omega)
      · have hall : (l.all fun x => inS x m) = false := by
          rw [← Bool.not_eq_true]; intro h
          exact d (List.all_eq_true.1 h _ (List.getElem_mem c))
        simp [d, chkC, c1, c2, c3, hall]
    · have : i = l.length := by omega
      subst this
      have hall : (l.all fun x => inS x m) = true := List.all_eq_true.2 fun x hx => by
        obtain ⟨j, hj, rfl⟩ := List.getElem_of_mem hx
        exact ho j hj hj
      simp
      refine ALoop.intro (S := fun (i : Nat) => ⟨[(0, .pv (.seq false 1 (irow l))), (6, .pv (I64 i))], []⟩) (fun i => i ≤ l.length ∧ dupTo l i = 0) (fun i => l.length - i) 0 ?_ ⟨Nat.zero_le _, rfl⟩ ?_
      · exact Weak.to (by simp) rfl (by simp) (by simp) (by simp)
      · rintro i ⟨hi, hz⟩
        by_cases c : i < l.length
        · have hw : w64 ((i : Int) + 1) = ((i + 1 : Nat) : Int) := by rw [w64_id (by omega) (by omega)]; omega
          have hg : l.getD i 0 = l[i] := by simp [c]
          have hd : dupTo l (i + 1) = if l[i] ∈ l.take i then 1 else 0 := by rw [dupTo, hz, hg, Nat.zero_add]
          have ht : List.take i (irow l) = irow (l.take i) := by simp [irow, List.map_take]
          have hk := refHas_ok (l.take i) l[i] (by rw [List.length_take]; omega)
          have hi2 : i ≤ l.length := hi
          simp [c, hi2, ht]
          refine CallQ0.intro hk (by simp) ?_
          simp
          refine ⟨fun h => ?_, fun h => ⟨i + 1, by (try dsimp only); omega, ⟨by (try dsimp only); omega, by (try dsimp only); rw [hd, if_neg h]⟩, Weak.to (by simp [hw]) rfl (by simp) (by simp) (by simp)⟩⟩
          rw [if_pos h] at hd
          have := dupTo_mono (i := i + 1) l l.length (by omega)
          have hne : ¬ dupTo l l.length = 0 := by omega
          simp [chkC, c1, c2, c3, hall, hne]
        · have : i = l.length := by omega
          subst this
          simp [chkC, c1, c2, c3, hall, hz]

theorem normS_len (l : List Int) : (normS l).length ≤ l.length := by
  rw [← nrm_same]; exact nrmTo_len l l.length
end Go.AX
