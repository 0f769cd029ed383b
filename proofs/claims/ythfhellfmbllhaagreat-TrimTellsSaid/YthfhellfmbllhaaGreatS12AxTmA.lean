/-
  Contracts: arenas that are only read; what other literals a reason has.
  Contracts: the asker of what is deeply left over.
  Contracts: a clause that is made shorter.
  Each reason of a desk is a clause, all others of which fail by what stands ahead (plain law).
  What is left over, of a desk: it is deeply left over; made shorter again it is the same (plain law).
  Contracts: the probe of the layer shorten.
  Contracts: what other literals a reason has, and what is left over, by the document.
  Contracts: what is left over, and deeply, by the document.
  What is left over, deeply, of a desk: the program's answer is the document's (plain law).
  How a desk's trail came about: each level is calm ahead of the next decision (plain law).
  A desk's trail came about as trails do; a conflict is a clause that fails (plain law).
  What a conflict teaches: of the last level one literal is left (plain law).
  Contracts: a conflict is taken apart.
  Contracts: what a conflict teaches is gone through; levels; what fails.
  Contracts: the reasons that are needed are gathered.
  Contracts: by which clauses what a conflict teaches is shown.
  What is gathered of reasons is all that is needed (plain law).
  Hints that were found show what a conflict teaches (plain law).
  Contracts: the document's chains of hints.
  Contracts: assign: how many literals hold, fail, are open; what a unit says.
-/
import Derived.Test.YthfhellfmbllhaaGreatS12AxDkQ
import Derived.Test.YthfhellfmbllhaaGreatS12AxGlD
import Derived.Test.YthfhellfmbllhaaGreatAxBe
import Derived.Test.YthfhellfmbllhaaGreatS12AxEvC
import Derived.Test.YthfhellfmbllhaaGreatAxBL
import Derived.Test.YthfhellfmbllhaaGreatRows
import Derived.Test.YthfhellfmbllhaaGreatAxDr
import Derived.Sort.Grow
import Derived.Shelf.SlSortCmp.Insertion
namespace Go.AX
open Go.Proofs
set_option linter.unusedSimpArgs false
def arR (A : Ar) : List PV := [.seq false 1 (irow A.row), .amap false (mapE fI A.hd)]
@[simp] theorem oldR_irow : ∀ l : List Int, oldR (irow l)
  | [] => trivial
  | _ :: l => ⟨⟨trivial, trivial⟩, oldR_irow l⟩
@[simp] theorem oldR_mkR : ∀ l : List Mk, oldR (l.map mkR)
  | [] => trivial
  | _ :: l => ⟨⟨trivial, trivial, trivial, trivial, trivial⟩, oldR_mkR l⟩
@[simp] theorem mapE_cons (k v : Int) (l : List (Int × Int)) : mapE fI ((k, v) :: l) = (k, I64 v) :: mapE fI l := rfl
def litsA (A : Ar) (q : Int) : List Int := if isA A q = true then partA' A q.toNat (A.row.getD (q.toNat + 1) 0).toNat else []
def ArOk (A : Ar) : Prop := ∀ q : Int, isA A q = true → ∃ p n : Nat, q = (p : Int) ∧ AtOk A p n
end Go.AX

namespace Go.AX
open Go.Proofs
set_option linter.unusedSimpArgs false
@[simp] theorem z_fn73 : zeroL Tryz.prog 73 = some [.lit .nilFunc] := by kernel_rfl
structure ShOk (A : Ar) (T : Tr) (lits : List Int) : Prop where
  tr : T.ok
  ar : ArOk A
  len : A.row.length ≤ 1000000
  few : lits.length ≤ 1000000
  hd : ∀ v, 0 ≤ (ofT T v).1.rea → A.hd ≠ []
end Go.AX

namespace Go.AX
open Go.Proofs
set_option linter.unusedSimpArgs false
@[simp] theorem oldE_mapI : ∀ l : List (Int × Int), oldE (mapE fI l)
  | [] => trivial
  | (_, _) :: l => ⟨trivial, oldE_mapI l⟩
end Go.AX

namespace Go.AX
open Go.Proofs
set_option linter.unusedSimpArgs false
def cnt3 (l c : List Int) (v : Int) : Nat := (c.filter fun y => decide (val3 l y = v)).length
def opn3 (l c : List Int) : List Int := c.filter fun y => decide (0 ≤ litX y ∧ val3 l y ≠ 1 ∧ val3 l y ≠ -1)
theorem ct_gen (l : List Int) : ∀ (c : List Int) (a b z : Nat), a + c.length ≤ 1000000 → b + c.length ≤ 1000000 → z + c.length ≤ 1000000 →
    c.foldl (ctF l) ((a : Int), (b : Int), (z : Int)) = (((a + cnt3 l c 1 : Nat) : Int), ((b + cnt3 l c (-1) : Nat) : Int), ((z + (opn3 l c).length : Nat) : Int))
  | [], a, b, z, _, _, _ => by simp [cnt3, opn3]
  | y :: c, a, b, z, ha, hb, hz => by
    simp only [List.length_cons] at ha hb hz
    rw [List.foldl_cons]
    by_cases c1 : val3 l y = 1
    · have e : ctF l ((a : Int), (b : Int), (z : Int)) y = (((a + 1 : Nat) : Int), (b : Int), (z : Int)) := by
        unfold ctF; rw [if_pos c1, w64_id (by dsimp only; omega) (by dsimp only; omega)]; simp
      rw [e, ct_gen l c (a + 1) b z (by omega) (by omega) (by omega)]
      simp [cnt3, opn3, c1]; omega
    · by_cases c2 : val3 l y = -1
      · have e : ctF l ((a : Int), (b : Int), (z : Int)) y = ((a : Int), ((b + 1 : Nat) : Int), (z : Int)) := by
          unfold ctF; rw [if_neg c1, if_pos c2, w64_id (by dsimp only; omega) (by dsimp only; omega)]; simp
        rw [e, ct_gen l c a (b + 1) z (by omega) (by omega) (by omega)]
        simp [cnt3, opn3, c1, c2]; omega
      · by_cases c3 : 0 ≤ litX y
        · have e : ctF l ((a : Int), (b : Int), (z : Int)) y = ((a : Int), (b : Int), ((z + 1 : Nat) : Int)) := by
            unfold ctF; rw [if_neg c1, if_neg c2, if_pos c3, w64_id (by dsimp only; omega) (by dsimp only; omega)]; simp
          rw [e, ct_gen l c a b (z + 1) (by omega) (by omega) (by omega)]
          simp [cnt3, opn3, c1, c2, c3]; omega
        · have e : ctF l ((a : Int), (b : Int), (z : Int)) y = ((a : Int), (b : Int), (z : Int)) := by
            unfold ctF; rw [if_neg c1, if_neg c2, if_neg c3]
          rw [e, ct_gen l c a b z (by omega) (by omega) (by omega)]
          simp [cnt3, opn3, c1, c2, c3]
theorem val3_cases (l : List Int) (y : Int) : val3 l y = 0 ∨ val3 l y = 1 ∨ val3 l y = -1 := by
  unfold val3
  split
  · exact .inl rfl
  · split
    · exact .inr (.inl rfl)
    · split
      · exact .inr (.inr rfl)
      · exact .inl rfl
theorem op_gen (l : List Int) : ∀ (c : List Int) (n : Int), c.foldl (opF l) n = ((opn3 l c).getLast?).getD n
  | [], n => rfl
  | y :: c, n => by
    rw [List.foldl_cons, op_gen l c]
    have h3 := val3_cases l y
    by_cases c1 : 0 ≤ litX y ∧ val3 l y = 0
    · have e : opF l n y = y := by unfold opF; rw [if_pos c1]
      have e2 : opn3 l (y :: c) = y :: opn3 l c := by
        unfold opn3
        rw [List.filter_cons, if_pos (by rw [decide_eq_true_eq]; exact ⟨c1.1, by omega, by omega⟩)]
      rw [e, e2, List.getLast?_cons]
      rfl
    · have e : opF l n y = n := by unfold opF; rw [if_neg c1]
      have e2 : opn3 l (y :: c) = opn3 l c := by
        unfold opn3
        rw [List.filter_cons, if_neg (by rw [decide_eq_true_eq]; rintro ⟨a1, a2, a3⟩; exact c1 ⟨a1, by omega⟩)]
      rw [e, e2]
theorem unit_is {l c : List Int} (hc : c.length ≤ 1000) (hx : ∀ y ∈ c, 0 ≤ litX y) (h : (unitS l c).2 = true) : (unitS l c).1 ∈ c ∧ val3 l (unitS l c).1 = 0 ∧ ∀ y ∈ c, y ≠ (unitS l c).1 → val3 l y = -1 := by
  have hg := ct_gen l c 0 0 0 (by omega) (by omega) (by omega)
  have hct : ctS l c = (((0 + cnt3 l c 1 : Nat) : Int), ((0 + cnt3 l c (-1) : Nat) : Int), ((0 + (opn3 l c).length : Nat) : Int)) := hg
  have h0 : cnt3 l c 1 = 0 ∧ (opn3 l c).length = 1 ∧ (unitS l c).1 = c.foldl (opF l) 0 := by
    unfold unitS at h ⊢
    rw [hct] at h ⊢
    dsimp only at h ⊢
    by_cases e : ((0 + cnt3 l c 1 : Nat) : Int) ≠ 0 ∨ ((0 + (opn3 l c).length : Nat) : Int) ≠ 1
    · rw [if_pos e] at h; cases h
    · rw [if_neg e]
      refine ⟨by omega, by omega, rfl⟩
  obtain ⟨h1, h2, h3⟩ := h0
  obtain ⟨x, hx1⟩ := List.length_eq_one_iff.1 h2
  have h4 : (unitS l c).1 = x := by rw [h3, op_gen, hx1]; rfl
  have hxm : x ∈ opn3 l c := by rw [hx1]; simp
  have hxm' := hxm
  unfold opn3 at hxm'
  rw [List.mem_filter, decide_eq_true_eq] at hxm'
  rw [h4]
  have v3 := val3_cases l x
  refine ⟨hxm'.1, by omega, fun y hy hne => ?_⟩
  have hv := val3_cases l y
  have hn1 : val3 l y ≠ 1 := fun e => by
    have : y ∈ c.filter fun y => decide (val3 l y = 1) := by rw [List.mem_filter]; exact ⟨hy, by simpa using e⟩
    unfold cnt3 at h1
    rw [List.eq_nil_of_length_eq_zero h1] at this
    cases this
  rcases hv with hv | hv | hv
  · have : y ∈ opn3 l c := by
      unfold opn3
      rw [List.mem_filter, decide_eq_true_eq]
      exact ⟨hy, hx y hy, by omega, by omega⟩
    rw [hx1] at this
    simp at this
    exact absurd this hne
  · exact absurd hv hn1
  · exact hv
structure Cls6 (cs : List (List Int)) (ats : List Int) : Prop where
  len : ∀ c ∈ cs, c.length ≤ 1000
  chk : ∀ c ∈ cs, ∀ y ∈ c, litChk y 6 = 0
  pos : ∀ k, k < cs.length → 0 ≤ ats.getD k 0
theorem lit6 {y : Int} (h : litChk y 6 = 0) : y ≠ 0 ∧ -6 ≤ y ∧ y ≤ 6 ∧ 0 ≤ litX y ∧ w64 (-y) = -y := by
  obtain ⟨a, b, c⟩ := (litChk_zero (by omega)).1 h
  refine ⟨a, b, c, ?_, w64_id (by omega) (by omega)⟩
  rw [litX_nn]
  exact (okL_iff y).2 ⟨a, by omega, by omega⟩
theorem val3_m1 {l : List Int} {y : Int} (h : val3 l y = -1) : w64 (-y) ∈ l := by
  unfold val3 at h
  split at h
  · omega
  · split at h
    · omega
    · split at h
      · assumption
      · omega
theorem val3_0 {l : List Int} {y : Int} (hx : 0 ≤ litX y) (h : val3 l y = 0) : y ∉ l ∧ w64 (-y) ∉ l := by
  unfold val3 at h
  rw [if_neg (by omega)] at h
  split at h
  · omega
  · split at h
    · omega
    · exact ⟨by assumption, by assumption⟩
def DkR (D : DK) : Prop := ∀ i (hi : i < D.t.rows.length), D.t.rows[i].rea < 0 ∨ (isA D.A D.t.rows[i].rea = true ∧ D.t.rows[i].l ∈ litsA D.A D.t.rows[i].rea ∧ ∀ y ∈ litsA D.A D.t.rows[i].rea, litChk y 6 = 0 ∧ (y ≠ D.t.rows[i].l → w64 (-y) ∈ (D.t.rows.take i).map (·.l)))
end Go.AX

namespace Go.AX
open Go.Proofs
set_option linter.unusedSimpArgs false
structure DeskOk (D : DK) : Prop where
  rel : RelD D.T D.t
  relA : RelA D.A D.a
  rea : DkR D
  len : D.A.row.length ≤ 1000000
theorem rea_in {D : DK} (h : RelT D.T D.t) {v : Int} (hr : 0 ≤ (ofT D.T v).1.rea) : ∃ i, ∃ hi : i < D.t.rows.length, plR D.t v = i ∧ litV D.t.rows[i].l = v ∧ (ofT D.T v).1.rea = D.t.rows[i].rea ∧ (ofT D.T v).1.pla = i := by
  obtain ⟨_, e2, e3⟩ := relT_of h v
  rw [e2] at hr ⊢
  unfold ofR at hr ⊢
  by_cases c : plR D.t v < 0
  · rw [if_pos c] at hr; dsimp only at hr; omega
  · obtain ⟨i, hi, p1, p2⟩ := plR_in (t := D.t) (v := v) (by omega)
    refine ⟨i, hi, p1, p2, ?_, by rw [e3, p1]⟩
    rw [if_neg c, p1, Int.toNat_natCast, List.getD_eq_getElem?_getD, List.getElem?_eq_getElem hi]
    rfl
theorem isA_hd {A : Ar} {q : Int} (h : isA A q = true) : A.hd ≠ [] := fun e => by
  unfold isA at h
  rw [e] at h
  simp [lk] at h
theorem DeskOk.sh {D : DK} (h : DeskOk D) {c : List Int} (hc : c.length ≤ 1000000) : ShOk D.A D.T c where
  tr := h.rel.1.okT
  ar := fun q hq => by
    obtain ⟨x, hx, e⟩ := h.relA.is q hq
    obtain ⟨p, e1, e2, _⟩ := h.relA.rows x hx
    exact ⟨p, _, by rw [← e, e1], e2⟩
  len := h.len
  few := hc
  hd := fun v hv => by
    obtain ⟨i, hi, _, _, e, _⟩ := rea_in h.rel.1 hv
    rcases h.rea i hi with h1 | ⟨h1, _⟩
    · omega
    · exact isA_hd h1
theorem idxS_lt {α : Type} {p : α → Bool} : ∀ {l : List α} {j : Nat} (hj : j < l.length), p l[j] = true → 0 ≤ idxS p l ∧ idxS p l ≤ j := by
  intro l j hj h
  unfold idxS
  cases hf : l.findIdx? p with
  | none =>
    rw [List.findIdx?_eq_none_iff] at hf
    have := hf _ (List.getElem_mem hj)
    rw [h] at this; cases this
  | some i =>
    rw [List.findIdx?_eq_some_iff_getElem] at hf
    obtain ⟨h1, h2, h3⟩ := hf
    dsimp only
    refine ⟨by omega, ?_⟩
    apply Int.ofNat_le.2
    apply Nat.le_of_not_lt
    intro hlt
    exact h3 j hlt h
end Go.AX

namespace Go.AX
open Go.Proofs
set_option linter.unusedSimpArgs false
@[simp ↓ high] theorem AGs_true {P : Program} {st : St} {Gd : Prop} {o : Op} {d : Option Tmp} {K : St → Prop} (h : Gd) : AGs P st Gd o d K = AE P st o d K :=
  propext ⟨fun x => x.1 h, fun x => ⟨fun _ => x, fun hn => absurd h hn⟩⟩
end Go.AX

namespace Go.AX
open Go.Proofs
set_option linter.unusedSimpArgs false
instance : Inhabited Ro := ⟨⟨0, 0, []⟩⟩
end Go.AX

namespace Go.AX
open Go.Proofs
set_option linter.unusedSimpArgs false
def bR (b : Bool) : List PV := [BL b]
@[simp] theorem belowR_bR (k : Nat) : ∀ l : List Bool, belowR k (l.map bR)
  | [] => trivial
  | _ :: l => ⟨⟨trivial, trivial⟩, belowR_bR k l⟩
@[simp] theorem nwR_bR : ∀ l : List Bool, nwR (l.map bR)
  | [] => trivial
  | _ :: l => ⟨⟨trivial, trivial⟩, nwR_bR l⟩
@[simp] theorem frzR_bR (r : Nat → Nat → PV) : ∀ l : List Bool, frzR r (l.map bR) = l.map bR
  | [] => rfl
  | _ :: l => by rw [List.map_cons, frzR, frzR_bR r l]; rfl
end Go.AX

namespace Go.AX
open Go.Proofs
set_option linter.unusedSimpArgs false
theorem litV_neg (l : Int) : litV (-l) = litV l := by
  unfold litV
  rw [okL_neg]
  unfold absS
  split
  · split <;> split <;> omega
  · rfl
end Go.AX

namespace Go.AX
open Go.Proofs
set_option linter.unusedSimpArgs false
theorem cl_gen (l : List Int) : ∀ (c : List Int) (n : Int), -1 ≤ n → n ≤ c.foldl (clF l) n ∧ (c.foldl (clF l) n = -1 ↔ n = -1 ∧ ∀ y ∈ c, 0 ≤ litX y → val3 l y = -1)
  | [], n, h => by simp
  | y :: c, n, h => by
    have h3 := val3_cases l y
    rw [List.foldl_cons]
    by_cases q : 0 ≤ litX y ∧ n < val3 l y
    · have e : clF l n y = val3 l y := by unfold clF; rw [if_pos q]
      rw [e]
      obtain ⟨g1, g2⟩ := cl_gen l c (val3 l y) (by omega)
      refine ⟨by omega, ?_⟩
      constructor
      · intro hh; omega
      · rintro ⟨a1, a2⟩
        have := a2 y (List.mem_cons_self ..) q.1
        omega
    · have e : clF l n y = n := by unfold clF; rw [if_neg q]
      rw [e]
      obtain ⟨g1, g2⟩ := cl_gen l c n h
      refine ⟨g1, ?_⟩
      rw [g2]
      constructor
      · rintro ⟨a1, a2⟩
        refine ⟨a1, fun z hz hx => ?_⟩
        rcases List.mem_cons.1 hz with rfl | hz
        · omega
        · exact a2 z hz hx
      · rintro ⟨a1, a2⟩
        exact ⟨a1, fun z hz => a2 z (List.mem_cons_of_mem _ hz)⟩
theorem clS_m1 {l c : List Int} : clS l c = -1 ↔ ∀ y ∈ c, 0 ≤ litX y → val3 l y = -1 := by
  have := (cl_gen l c (-1) (by omega)).2
  unfold clS
  rw [this]
  exact ⟨fun h => h.2, fun h => ⟨rfl, h⟩⟩
theorem opn3_one {l : List Int} {x : Int} (hv : val3 l x = 0) (hx0 : 0 ≤ litX x) : ∀ {c : List Int}, c.Nodup → x ∈ c → (∀ y ∈ c, y ≠ x → val3 l y = -1) → opn3 l c = [x]
  | [], _, h, _ => by cases h
  | y :: c, hn, hm, ho => by
    rw [List.nodup_cons] at hn
    unfold opn3
    by_cases e : y = x
    · subst e
      rw [List.filter_cons, if_pos (by rw [decide_eq_true_eq]; exact ⟨hx0, by omega, by omega⟩)]
      congr 1
      rw [List.filter_eq_nil_iff]
      intro z hz
      have := ho z (List.mem_cons_of_mem _ hz) (fun e => hn.1 (e ▸ hz))
      simp [this]
    · have hy := ho y (List.mem_cons_self ..) e
      rw [List.filter_cons, if_neg (by simp [hy])]
      rcases List.mem_cons.1 hm with rfl | hm
      · exact absurd rfl e
      · exact opn3_one hv hx0 hn.2 hm (fun z hz => ho z (List.mem_cons_of_mem _ hz))
theorem unit_of {l c : List Int} {x : Int} (hc : c.length ≤ 1000) (hn : c.Nodup) (hm : x ∈ c) (hx0 : 0 ≤ litX x) (hv : val3 l x = 0) (ho : ∀ y ∈ c, y ≠ x → val3 l y = -1) : unitS l c = (x, true) := by
  have hg := ct_gen l c 0 0 0 (by omega) (by omega) (by omega)
  have hct : ctS l c = (((0 + cnt3 l c 1 : Nat) : Int), ((0 + cnt3 l c (-1) : Nat) : Int), ((0 + (opn3 l c).length : Nat) : Int)) := hg
  have h1 := opn3_one hv hx0 hn hm ho
  have h2 : cnt3 l c 1 = 0 := by
    unfold cnt3
    rw [List.length_eq_zero_iff, List.filter_eq_nil_iff]
    intro y hy
    by_cases e : y = x
    · subst e; simp [hv]
    · simp [ho y hy e]
  unfold unitS
  rw [hct, h1, h2, op_gen, h1]
  simp
structure ClsN (cs : List (List Int)) (ats : List Int) : Prop extends Cls6 cs ats where
  nd : ∀ c ∈ cs, c.Nodup
def Calm (cs : List (List Int)) (ls : List Int) : Prop := ∀ c ∈ cs, (unitS ls c).2 = false ∧ clS ls c ≠ -1
def litsT (t : RT) : List Int := t.rows.map (·.l)
def bel (t : RT) (k : Int) : List Int := (t.rows.filter fun x => decide (x.lev < k)).map (·.l)
inductive Tra (cs : List (List Int)) (ats : List Int) : RT → Prop
  | nil : Tra cs ats ⟨6, [], 0⟩
  | dec {t : RT} {l : Int} : Tra cs ats t → mayR t l = 0 → Calm cs (litsT t) → Tra cs ats ⟨t.vars, t.rows ++ [⟨l, t.dep + 1, -1⟩], t.dep + 1⟩
  | imp {t : RT} {k : Nat} {x : Int} (hk : k < cs.length) : Tra cs ats t → mayR t x = 0 → unitS (litsT t) cs[k] = (x, true) → Tra cs ats ⟨t.vars, t.rows ++ [⟨x, t.dep, ats.getD k 0⟩], t.dep⟩
theorem bel_all {t : RT} (h : ∀ x ∈ t.rows, x.lev ≤ t.dep) : bel t (t.dep + 1) = litsT t := by
  unfold bel litsT
  rw [List.filter_eq_self.2]
  intro x hx
  have := h x hx
  simp; omega
theorem bel_sub {t : RT} {k : Int} : ∀ y ∈ bel t k, y ∈ litsT t := by
  intro y hy
  unfold bel at hy
  obtain ⟨x, hx, rfl⟩ := List.mem_map.1 hy
  exact List.mem_map.2 ⟨x, (List.mem_filter.1 hx).1, rfl⟩
theorem may_of {t : RT} {l : Int} (h : mayR t l = 0) : litChk l t.vars = 0 ∧ plR t (litV l) < 0 := by
  unfold mayR at h
  split at h
  · cases h
  · rename_i c1
    split at h
    · cases h
    · exact ⟨by simpa using c1, by omega⟩
theorem plR_neg {t : RT} {v : Int} (h : plR t v < 0) : ∀ x ∈ t.rows, litV x.l ≠ v := by
  intro x hx e
  obtain ⟨j, hj, rfl⟩ := List.getElem_of_mem hx
  have := idxS_lt (p := fun x : En => decide (litV x.l = v)) hj (by simp [e])
  unfold plR at h
  omega
structure TraF (cs : List (List Int)) (ats : List Int) (t : RT) : Prop where
  vars : t.vars = 6
  dep : 0 ≤ t.dep
  chk : ∀ x ∈ t.rows, litChk x.l 6 = 0
  nd : (t.rows.map fun x => litV x.l).Nodup
  lev : ∀ x ∈ t.rows, 0 ≤ x.lev ∧ x.lev ≤ t.dep
  mono : ∀ i j (hi : i < t.rows.length) (hj : j < t.rows.length), i < j → t.rows[i].lev ≤ t.rows[j].lev
  dec : ∀ i (hi : i < t.rows.length), t.rows[i].rea < 0 → 0 < t.rows[i].lev ∧ ∀ j (hj : j < t.rows.length), j < i → t.rows[j].lev < t.rows[i].lev
  top : 0 < t.dep → Calm cs (bel t t.dep)
  fst : ∀ k : Int, 0 < k → k ≤ t.dep → ∃ x ∈ t.rows, x.lev = k ∧ x.rea < 0
  imp : ∀ i (hi : i < t.rows.length), 0 ≤ t.rows[i].rea → ∃ k, ∃ hk : k < cs.length, t.rows[i].rea = ats.getD k 0 ∧ t.rows[i].l ∈ cs[k] ∧ (∀ y ∈ cs[k], y ≠ t.rows[i].l → ∃ j, ∃ hj : j < t.rows.length, j < i ∧ t.rows[j].l = -y) ∧
    (0 < t.rows[i].lev → ∃ y ∈ cs[k], y ≠ t.rows[i].l ∧ ∃ j, ∃ hj : j < t.rows.length, j < i ∧ t.rows[j].l = -y ∧ t.rows[j].lev = t.rows[i].lev)
theorem fst_append {α : Type} {l : List α} {x : α} {i : Nat} (h : i < (l ++ [x]).length) : (∃ hi : i < l.length, (l ++ [x])[i] = l[i]) ∨ (i = l.length ∧ (l ++ [x])[i] = x) := by
  by_cases c : i < l.length
  · exact .inl ⟨c, List.getElem_append_left c⟩
  · have : i = l.length := by simp at h; omega
    subst this
    exact .inr ⟨rfl, by simp⟩
theorem tra_app {cs : List (List Int)} {ats : List Int} {t : RT} (h : TraF cs ats t) {x : En} (hx : mayR t x.l = 0) {d : Int} (hd : x.lev = d) (hdt : t.dep ≤ d) (hdd : d ≤ t.dep + 1)
    (hdec : x.rea < 0 → d = t.dep + 1) (himp : 0 ≤ x.rea → d = t.dep) (htop : d = t.dep + 1 → Calm cs (litsT t))
    (hfst : d = t.dep + 1 → x.rea < 0)
    (hi2 : 0 ≤ x.rea → ∃ k, ∃ hk : k < cs.length, x.rea = ats.getD k 0 ∧ x.l ∈ cs[k] ∧ (∀ y ∈ cs[k], y ≠ x.l → ∃ j, ∃ hj : j < t.rows.length, t.rows[j].l = -y) ∧
      (0 < x.lev → ∃ y ∈ cs[k], y ≠ x.l ∧ ∃ j, ∃ hj : j < t.rows.length, t.rows[j].l = -y ∧ t.rows[j].lev = x.lev)) :
    TraF cs ats ⟨t.vars, t.rows ++ [x], d⟩ := by
  obtain ⟨m1, m2⟩ := may_of hx
  rw [h.vars] at m1
  have hlen : (t.rows ++ [x]).length = t.rows.length + 1 := by simp
  refine ⟨h.vars, by have := h.dep; dsimp only; omega, ?_, ?_, ?_, ?_, ?_, ?_, ?_, ?_⟩
  · intro y hy
    rcases List.mem_append.1 hy with hy | hy
    · exact h.chk y hy
    · simp at hy; subst hy; exact m1
  · dsimp only
    rw [List.map_append, List.nodup_append]
    refine ⟨h.nd, by simp, ?_⟩
    intro a ha b hb e
    obtain ⟨y, hy, rfl⟩ := List.mem_map.1 ha
    simp at hb
    exact plR_neg m2 y hy (e.trans hb)
  · intro y hy
    rcases List.mem_append.1 hy with hy | hy
    · have := h.lev y hy; dsimp only; omega
    · simp at hy; subst hy; have := h.dep; dsimp only; omega
  · intro i j hi hj hij
    dsimp only at hi hj ⊢
    rcases fst_append hj with ⟨hj', e⟩ | ⟨hj', e⟩
    · rcases fst_append hi with ⟨hi', e'⟩ | ⟨hi', e'⟩
      · rw [e, e']; exact h.mono i j hi' hj' hij
      · omega
    · rcases fst_append hi with ⟨hi', e'⟩ | ⟨hi', e'⟩
      · rw [e, e', hd]
        have := (h.lev _ (List.getElem_mem hi')).2
        omega
      · omega
  · intro i hi hr
    dsimp only at hi hr ⊢
    rcases fst_append hi with ⟨hi', e'⟩ | ⟨hi', e'⟩
    · rw [e'] at hr ⊢
      obtain ⟨g1, g2⟩ := h.dec i hi' hr
      refine ⟨g1, fun j hj hij => ?_⟩
      rw [List.getElem_append_left (by omega)]
      exact g2 j (by omega) hij
    · rw [e'] at hr ⊢
      have hd1 := hdec hr
      refine ⟨by have := h.dep; omega, fun j hj hij => ?_⟩
      rw [List.getElem_append_left (by omega)]
      have := (h.lev _ (List.getElem_mem (show j < t.rows.length by omega))).2
      omega
  · intro hd0
    dsimp only at hd0 ⊢
    have hb : bel ⟨t.vars, t.rows ++ [x], d⟩ d = bel t d := by
      unfold bel
      dsimp only
      rw [List.filter_append]
      have : List.filter (fun x : En => decide (x.lev < d)) [x] = [] := by simp [hd]
      rw [this, List.append_nil]
    rw [hb]
    by_cases c : d = t.dep + 1
    · rw [c, bel_all (fun x hx => (h.lev x hx).2)]
      exact htop c
    · have : d = t.dep := by omega
      subst this
      exact h.top hd0
  · intro k hk hkd
    dsimp only at hkd ⊢
    by_cases c : k ≤ t.dep
    · obtain ⟨y, hy, e⟩ := h.fst k hk c
      exact ⟨y, List.mem_append_left _ hy, e⟩
    · exact ⟨x, by simp, by omega, hfst (by omega)⟩
  · intro i hi hr
    dsimp only at hi hr ⊢
    rcases fst_append hi with ⟨hi', e'⟩ | ⟨hi', e'⟩
    · rw [e'] at hr ⊢
      obtain ⟨k, hk, g1, g2, g3, g4⟩ := h.imp i hi' hr
      refine ⟨k, hk, g1, g2, fun y hy hne => ?_, fun hl => ?_⟩
      · obtain ⟨j, hj, hji, e⟩ := g3 y hy hne
        exact ⟨j, by omega, hji, by rw [List.getElem_append_left hj]; exact e⟩
      · obtain ⟨y, hy, hne, j, hj, hji, e, e2⟩ := g4 hl
        exact ⟨y, hy, hne, j, by omega, hji, by rw [List.getElem_append_left hj]; exact e, by rw [List.getElem_append_left hj]; exact e2⟩
    · rw [e'] at hr ⊢
      obtain ⟨k, hk, g1, g2, g3, g4⟩ := hi2 hr
      refine ⟨k, hk, g1, g2, fun y hy hne => ?_, fun hl => ?_⟩
      · obtain ⟨j, hj, e⟩ := g3 y hy hne
        exact ⟨j, by omega, by omega, by rw [List.getElem_append_left hj]; exact e⟩
      · obtain ⟨y, hy, hne, j, hj, e, e2⟩ := g4 hl
        exact ⟨y, hy, hne, j, by omega, by omega, by rw [List.getElem_append_left hj]; exact e, by rw [List.getElem_append_left hj]; exact e2⟩
theorem val3_m1_of {l : List Int} {y : Int} (hy : litChk y 6 = 0) (h : -y ∈ l) (h2 : y ∉ l) : val3 l y = -1 := by
  obtain ⟨_, _, _, hx, hw⟩ := lit6 hy
  unfold val3
  rw [if_neg (by omega), if_neg h2, if_pos (by rw [hw]; exact h)]
theorem TraF.inj {cs : List (List Int)} {ats : List Int} {t : RT} (h : TraF cs ats t) {i j : Nat} (hi : i < t.rows.length) (hj : j < t.rows.length) (e : litV t.rows[i].l = litV t.rows[j].l) : i = j := by
  have hn := List.pairwise_iff_getElem.1 (List.pairwise_map.1 h.nd)
  rcases Nat.lt_trichotomy i j with c | c | c
  · exact absurd e (hn i j hi hj c)
  · exact c
  · exact absurd e.symm (hn j i hj hi c)
theorem TraF.one {cs : List (List Int)} {ats : List Int} {t : RT} (h : TraF cs ats t) {y : Int} (hy : litChk y 6 = 0) : ¬ (y ∈ litsT t ∧ -y ∈ litsT t) := by
  rintro ⟨h1, h2⟩
  unfold litsT at h1 h2
  obtain ⟨a, ha, e1⟩ := List.mem_map.1 h1
  obtain ⟨b, hb, e2⟩ := List.mem_map.1 h2
  obtain ⟨i, hi, rfl⟩ := List.getElem_of_mem ha
  obtain ⟨j, hj, rfl⟩ := List.getElem_of_mem hb
  have hv : litV t.rows[i].l = litV t.rows[j].l := by rw [e1, e2, litV_neg]
  have hij : i = j := h.inj hi hj hv
  subst hij
  obtain ⟨n0, _⟩ := lit6 hy
  omega
theorem tra_facts {cs : List (List Int)} {ats : List Int} (hc : ClsN cs ats) {t : RT} (h : Tra cs ats t) : TraF cs ats t := by
  induction h with
  | nil => exact ⟨rfl, by simp, by simp, by simp, by simp, fun i j hi => by simp at hi, fun i hi => by simp at hi, fun h => by simp at h, fun k h1 h2 => by simp at h2; omega, fun i hi => by simp at hi⟩
  | @dec t l _ hm hcalm ih =>
    exact tra_app ih (x := ⟨l, t.dep + 1, -1⟩) hm rfl (by omega) (by omega) (fun _ => rfl) (fun h => by dsimp only at h; omega) (fun _ => hcalm) (fun _ => by dsimp only; omega) (fun h => by dsimp only at h; omega)
  | @imp t k x hk _ hm hu ih =>
    have hmem := List.getElem_mem hk
    have hchk := hc.chk _ hmem
    obtain ⟨u1, u2, u3⟩ := unit_is (l := litsT t) (hc.len _ hmem) (fun y hy => (lit6 (hchk y hy)).2.2.2.1) (by rw [hu])
    rw [hu] at u1 u2 u3
    dsimp only at u1 u2 u3
    have hp := hc.pos k hk
    have hoth : ∀ y ∈ cs[k], y ≠ x → ∃ j, ∃ hj : j < t.rows.length, t.rows[j].l = -y := fun y hy hne => by
      have := val3_m1 (u3 y hy hne)
      rw [(lit6 (hchk y hy)).2.2.2.2] at this
      unfold litsT at this
      obtain ⟨a, ha, e⟩ := List.mem_map.1 this
      obtain ⟨j, hj, rfl⟩ := List.getElem_of_mem ha
      exact ⟨j, hj, e⟩
    refine tra_app ih (x := ⟨x, t.dep, ats.getD k 0⟩) hm rfl (by omega) (by omega) (fun h => by dsimp only at h; omega) (fun _ => rfl) (fun h => by omega) (fun h => by omega) (fun _ => ⟨k, hk, rfl, u1, hoth, fun hl => ?_⟩)
    dsimp only at hl ⊢
    apply Classical.byContradiction
    intro hno
    have hcalm := ih.top hl _ hmem
    have hx6 := hchk x u1
    have hx0 := (lit6 hx6).2.2.2.1
    obtain ⟨f1, f2⟩ := val3_0 hx0 u2
    have hv0 : val3 (bel t t.dep) x = 0 := by
      unfold val3
      rw [if_neg (by omega), if_neg (fun e => f1 (bel_sub _ e)), if_neg (fun e => f2 (bel_sub _ e))]
    have hv1 : ∀ y ∈ cs[k], y ≠ x → val3 (bel t t.dep) y = -1 := fun y hy hne => by
      obtain ⟨j, hj, e⟩ := hoth y hy hne
      have hlv := (ih.lev _ (List.getElem_mem hj)).2
      have hlt : t.rows[j].lev < t.dep := by
        rcases Int.lt_or_le t.rows[j].lev t.dep with c | c
        · exact c
        · exact absurd ⟨y, hy, hne, j, hj, e, by omega⟩ hno
      have hmb : -y ∈ bel t t.dep := by
        unfold bel
        rw [List.mem_map]
        exact ⟨t.rows[j], List.mem_filter.2 ⟨List.getElem_mem hj, by simpa using hlt⟩, e⟩
      exact val3_m1_of (hchk y hy) hmb (fun e2 => ih.one (hchk y hy) ⟨bel_sub _ e2, bel_sub _ hmb⟩)
    have := unit_of (hc.len _ hmem) (hc.nd _ hmem) u1 hx0 hv0 hv1
    rw [this] at hcalm
    exact absurd hcalm.1 (by simp)
end Go.AX

namespace Go.AX
open Go.Proofs
set_option linter.unusedSimpArgs false
structure Way (cs : List (List Int)) (ats : List Int) (D : DK) : Prop where
  rel : RelD D.T D.t
  tra : Tra cs ats D.t
  con : (D.con < 0 ∧ Calm cs (litsT D.t)) ∨ ∃ k, ∃ hk : k < cs.length, D.con = ats.getD k 0 ∧ clS (litsT D.t) cs[k] = -1
structure DeskT (cs : List (List Int)) (ats : List Int) (D : DK) : Prop where
  ok : DeskOk D
  cls : ClsN cs ats
  way : Way cs ats D
  ars : ∀ k (hk : k < cs.length), isA D.A (ats.getD k 0) = true ∧ litsA D.A (ats.getD k 0) = cs[k]
end Go.AX

namespace Go.AX
open Go.Proofs
set_option linter.unusedSimpArgs false
structure PS where
  seen : List (Int × Int)
  lits : List Int
  many : Nat
def seenB (s : List (Int × Int)) (v : Int) : Bool := decide (0 < (lk s v).getD 0)
def lvl (T : Tr) (l : Int) : Int := (ofT T (litV l)).1.lev
def takeF (T : Tr) (but : Int) (p : PS) (l : Int) : PS :=
  if litV l = but ∨ seenB p.seen (litV l) = true ∨ lvl T l ≤ 0 then p
  else if lvl T l = T.beg.length then ⟨pt p.seen (litV l) 1, p.lits, p.many + 1⟩ else ⟨pt p.seen (litV l) 1, p.lits ++ [l], p.many⟩
def takeL (T : Tr) (but : Int) (c : List Int) (p : PS) : PS := c.foldl (takeF T but) p
def pickB (T : Tr) (p : PS) (l : Int) : Bool := seenB p.seen (litV l) && (decide (lvl T l = T.beg.length) && decide (0 ≤ (ofT T (litV l)).1.rea))
def resS (A : Ar) (T : Tr) (p : PS) (l : Int) : PS := takeL T (litV l) (litsA A (ofT T (litV l)).1.rea) ⟨pt p.seen (litV l) 0, p.lits, p.many - 1⟩
def walkF (A : Ar) (T : Tr) (all : List Int) : Nat → PS → PS
  | 0, p => p
  | n + 1, p => if p.many ≤ 1 then p else if pickB T p (all.getD n 0) = true then walkF A T all n (resS A T p (all.getD n 0)) else walkF A T all n p
def endS (T : Tr) (all : List Int) (p : PS) : List Int := p.lits ++ (all.filter fun l => seenB p.seen (litV l) && decide (lvl T l = T.beg.length)).map fun l => w64 (-l)
/-! ### Places of what is assigned -/
theorem TraF.pla {cs : List (List Int)} {ats : List Int} {t : RT} (h : TraF cs ats t) {j : Nat} (hj : j < t.rows.length) : plR t (litV t.rows[j].l) = j := by
  have h1 := idxS_lt (p := fun x : En => decide (litV x.l = litV t.rows[j].l)) hj (by simp)
  obtain ⟨i, hi, e1, e2⟩ := plR_in (t := t) (v := litV t.rows[j].l) h1.1
  have := h.inj hi hj e2
  subst this
  exact e1
/-! ### Counting -/
/-! ### What is known while a conflict is taken apart -/
theorem seen_pt (s : List (Int × Int)) (v w : Int) (n : Int) : seenB (pt s v n) w = if v = w then decide (0 < n) else seenB s w := by
  unfold seenB
  rw [lk_pt]
  split <;> rfl
theorem DeskT.facts {cs : List (List Int)} {ats : List Int} {D : DK} (h : DeskT cs ats D) : TraF cs ats D.t := tra_facts h.cls h.way.tra
end Go.AX

namespace Go.AX
open Go.Proofs
set_option linter.unusedSimpArgs false
@[simp] theorem frzL_arR (r : Nat → Nat → PV) (A : Ar) : frzL r (arR A) = arR A := by simp [arR]
@[simp] theorem frzL_trR (r : Nat → Nat → PV) (T : Tr) : frzL r (trR T) = trR T := by simp [trR]
@[simp] theorem belowL_arR (k : Nat) (A : Ar) : belowL k (arR A) := by simp [arR]
@[simp] theorem belowL_trR (k : Nat) (T : Tr) : belowL k (trR T) := by simp [trR]
end Go.AX

namespace Go.AX
open Go.Proofs
set_option linter.unusedSimpArgs false
def fin (A : Ar) (T : Tr) (all : List Int) (p : PS) : PS := ⟨(walkF A T all all.length p).seen, endS T all (walkF A T all all.length p), (walkF A T all all.length p).many⟩
end Go.AX

namespace Go.AX
open Go.Proofs
set_option linter.unusedSimpArgs false
structure NS where
  at' : List (Int × Int)
  ok : Bool
def pla (T : Tr) (l : Int) : Int := (ofT T (litV l)).1.pla
def rea (T : Tr) (l : Int) : Int := (ofT T (litV l)).1.rea
end Go.AX

namespace Go.AX
open Go.Proofs
set_option linter.unusedSimpArgs false
def stoTo (lits : List Int) : Nat → List (Int × Int)
  | 0 => []
  | i + 1 => pt (stoTo lits i) (lits.getD i 0) ((lk (stoTo lits i) (lits.getD i 0)).getD 0 + 1)
theorem stoTo_le (lits : List Int) : ∀ (i : Nat) (v : Int), 0 ≤ (lk (stoTo lits i) v).getD 0 ∧ (lk (stoTo lits i) v).getD 0 ≤ i
  | 0, v => by simp [stoTo, lk]
  | i + 1, v => by
    have h := stoTo_le lits i
    rw [stoTo, lk_pt]
    split
    · have := h (lits.getD i 0)
      rw [Option.getD_some]; omega
    · have := h v; omega
theorem stoTo_is (lits : List Int) (v : Int) : ∀ i, i ≤ lits.length → (seenB (stoTo lits i) v = true ↔ v ∈ lits.take i)
  | 0, _ => by simp [stoTo, lk, seenB]
  | i + 1, h => by
    have ih := stoTo_is lits v i (by omega)
    have hg : lits.getD i 0 = lits[i] := by rw [List.getD_eq_getElem?_getD, List.getElem?_eq_getElem (by omega)]; rfl
    have hle := stoTo_le lits i lits[i]
    rw [stoTo, hg, seen_pt, List.take_add_one, List.getElem?_eq_getElem (by omega), Option.toList_some, List.mem_append, List.mem_singleton]
    split
    · rename_i e
      subst e
      have : 0 < (lk (stoTo lits i) lits[i]).getD 0 + 1 := by omega
      simp [this]
    · rename_i e
      rw [ih]
      exact ⟨.inl, fun h => h.elim id (fun h => absurd h.symm e)⟩
end Go.AX

namespace Go.AX
open Go.Proofs
set_option linter.unusedSimpArgs false
/-! ### What was gathered -/
def Met (D : DK) (L : List Int) (s : NS) (y : Int) : Prop := y ∈ L ∨ ∃ j, ∃ hj : j < D.t.rows.length, D.t.rows[j].l = -y ∧ seenB s.at' j = true
theorem Met.mono {D : DK} {L : List Int} {s s' : NS} {y : Int} (h : Met D L s y) (hm : ∀ p, seenB s.at' p = true → seenB s'.at' p = true) : Met D L s' y :=
  h.imp id fun ⟨j, hj, e1, e2⟩ => ⟨j, hj, e1, hm _ e2⟩
end Go.AX

namespace Go.AX
open Go.Proofs
set_option linter.unusedSimpArgs false
def chnF (l : List Int) : List (List Int) → Nat → List Int × Nat × Int
  | [], n => (l, n, 23)
  | h :: hs, n => if clS l h = -1 then (l, n + 1, 0) else if (unitS l h).2 = true then chnF (l ++ [(unitS l h).1]) hs (n + 1) else ([], n, 22)
def staTo (c : List Int) : Nat → List Int
  | 0 => []
  | i + 1 => if c.getD i 0 ∈ c.take i then staTo c i else staTo c i ++ [w64 (-(c.getD i 0))]
theorem staTo_mem (c : List Int) (x : Int) : ∀ i, i ≤ c.length → (x ∈ staTo c i ↔ ∃ y ∈ c.take i, x = w64 (-y))
  | 0, _ => by simp [staTo]
  | i + 1, h => by
    have ih := staTo_mem c x i (by omega)
    have hg : c.getD i 0 = c[i] := by rw [List.getD_eq_getElem?_getD, List.getElem?_eq_getElem (by omega)]; rfl
    have ht : c.take (i + 1) = c.take i ++ [c[i]] := (List.take_append_getElem (by omega)).symm
    rw [staTo, hg, ht]
    by_cases e : c[i] ∈ c.take i
    · rw [if_pos e, ih]
      constructor
      · rintro ⟨y, hy, e2⟩; exact ⟨y, List.mem_append_left _ hy, e2⟩
      · rintro ⟨y, hy, e2⟩
        rcases List.mem_append.1 hy with hy | hy
        · exact ⟨y, hy, e2⟩
        · simp at hy; subst hy; exact ⟨_, e, e2⟩
    · rw [if_neg e, List.mem_append, ih, List.mem_singleton]
      constructor
      · rintro (⟨y, hy, e2⟩ | e2)
        · exact ⟨y, List.mem_append_left _ hy, e2⟩
        · exact ⟨_, List.mem_append_right _ (List.mem_singleton.2 rfl), e2⟩
      · rintro ⟨y, hy, e2⟩
        rcases List.mem_append.1 hy with hy | hy
        · exact .inl ⟨y, hy, e2⟩
        · simp at hy; subst hy; exact .inr e2
def staL (c : List Int) : List Int := staTo c c.length
def rj (D : DK) (j : Nat) : Int := rea D.T (D.T.lits.getD j 0)
end Go.AX

namespace Go.AX
open Go.Proofs
set_option linter.unusedSimpArgs false
def stpS (l h : List Int) : List Int × Bool × Int := if clS l h = -1 then (l, true, 0) else if (unitS l h).2 = true then (l ++ [(unitS l h).1], false, 0) else ([], false, 22)
set_option maxRecDepth 16000 in
theorem refStep8_ok (g : List (List SV)) (l h : List Int) (hl : l.length ≤ 1000000) (hh : h.length ≤ 1000000) : AMut Tryz.prog 198 [.seq false 1 (irow l), .seq false 1 (irow h)] g (fun r g' => g' = g ∧ r = .pv (.tup [.seq false 1 (irow (stpS l h).1), BL (stpS l h).2.1, I64 (stpS l h).2.2])) := by
  refine amutXW [] [.tmp 4, .tmp 5, .tmp 6] hmo Tryz.func198 (by kernel_rfl) rfl rfl (by kernel_rfl) (Nat.le_of_ble_eq_true rfl) ?_
  have hC := rf3Clause_ok l h hl hh
  have hU := rf3Unit_ok l h hl hh
  unfold stpS
  simp
  refine CallK.intro hC (by simp) ?_
  by_cases c1 : clS l h = -1
  · simp [c1, wkP, wkPL]
  simp [c1]
  refine CallK.intro hU (by simp) ?_
  cases c2 : (unitS l h).2
  · simp [c2, wkP, wkPL, irow]
  · simp [c2, wkP, wkPL, irow]
    omega
theorem crowF_at (hs : List (List Int)) {i : Nat} (h : i < hs.length) : ∀ h', (hs.map crowF)[i]'h' = [.seq false 1 (irow hs[i])] := fun h' => by simp [crowF]
set_option maxRecDepth 16000 in
theorem refChain8_ok (g : List (List SV)) (l : List Int) (hs : List (List Int)) (hl : l.length + hs.length ≤ 1000000) (hh : ∀ h ∈ hs, h.length ≤ 1000000) : AMut Tryz.prog 161 [.seq false 1 (irow l), .seq false 1 (hs.map crowF)] g (fun r g' => g' = g ∧ r = .pv (.tup [.seq false 1 (irow (chnF l hs 0).1), I64 (chnF l hs 0).2.1, I64 (chnF l hs 0).2.2])) := by
  refine amutXW [] [.tmp 4, .tmp 5, .tmp 6] hmo Tryz.func161 (by kernel_rfl) rfl rfl (by kernel_rfl) (Nat.le_of_ble_eq_true rfl) ?_
  generalize hF : chnF l hs 0 = F
  simp
  refine ALoop.intro (S := fun (x : Nat × List Int) => ⟨[(0, .pv (.seq false 1 (irow x.2))), (1, .pv (.seq false 1 (hs.map crowF))), (7, .pv (I64 x.1))], g⟩) (fun x => x.1 ≤ hs.length ∧ x.2.length ≤ l.length + x.1 ∧ F = chnF x.2 (hs.drop x.1) x.1) (fun x => hs.length - x.1) (0, l) ?_ ⟨Nat.zero_le _, Nat.le_refl _, hF.symm⟩ ?_
  · exact Weak.keep (by simp) (by simp)
  clear hF
  rintro ⟨i, l1⟩ ⟨hi, hl1, hF⟩
  dsimp only at hi hl1 hF
  by_cases h : i < hs.length
  rotate_left
  · have hie : i = hs.length := by omega
    subst hie
    rw [List.drop_eq_nil_of_le (Nat.le_refl _), chnF] at hF
    subst hF
    simp [wkP, wkPL]
  have hw : w64 ((i : Int) + 1) = ((i + 1 : Nat) : Int) := by rw [w64_id (by omega) (by omega)]; omega
  have hdr : hs.drop i = hs[i] :: hs.drop (i + 1) := List.drop_eq_getElem_cons h
  rw [hdr, chnF] at hF
  have hst := fun g => refStep8_ok g l1 hs[i] (by omega) (hh _ (List.getElem_mem h))
  have hrow := crowF_at hs h
  generalize hs[i] = c at *
  have hS : stpS l1 c = if clS l1 c = -1 then (l1, true, 0) else if (unitS l1 c).2 = true then (l1 ++ [(unitS l1 c).1], false, 0) else ([], false, 22) := rfl
  generalize stpS l1 c = s at *
  simp [h, hrow]
  refine CallK.introM (hst _) (by simp) ?_
  rintro _ _ ⟨rfl, rfl⟩
  by_cases c1 : clS l1 c = -1
  · rw [if_pos c1] at hF hS
    subst hF hS
    simp [wkP, wkPL, hw]
  rw [if_neg c1] at hF hS
  by_cases c2 : (unitS l1 c).2 = true
  · rw [if_pos c2] at hF hS
    subst hS
    simp
    refine ⟨(i + 1, l1 ++ [(unitS l1 c).1]), by (try dsimp only); omega, ⟨by (try dsimp only); omega, by simp; omega, hF⟩, Weak.keep (by simp [hw]) (by simp)⟩
  · rw [if_neg c2] at hF hS
    subst hF hS
    simp [wkP, wkPL, irow]
def badL (c : List Int) : Bool := c.any fun x => decide (litX x < 0)
def staE (c : List Int) : Int := if badL c = true then 10 else if tautS c = true then 11 else 0
def staR (c : List Int) : List Int := if staE c = 0 then staL c else []
theorem staTo_le (c : List Int) : ∀ i, (staTo c i).length ≤ i
  | 0 => Nat.le_refl _
  | i + 1 => by
    have := staTo_le c i
    rw [staTo]
    split
    · omega
    · simp; omega
set_option maxRecDepth 16000 in
theorem refStart8_ok (c : List Int) (hl : c.length ≤ 1000000) : APure Tryz.prog 160 [.seq false 1 (irow c)] (fun r => r = .pv (.tup [.seq true 1 (irow (staR c)), I64 (staE c)])) := by
  refine APure.wk (R := fun r => ∃ x, r = .pv x ∧ wkP x (.tup [.seq true 1 (irow (staR c)), I64 (staE c)])) ?_ (fun r ⟨x, e, h⟩ => ⟨x, _, e, h, rfl⟩)
  refine apureX [] [.tmp 2, .tmp 3] hmo Tryz.func160 (by kernel_rfl) rfl rfl (by kernel_rfl) (Nat.le_of_ble_eq_true rfl) ?_
  have hE : staE c = if badL c = true then 10 else if tautS c = true then 11 else 0 := rfl
  have hR : staR c = if staE c = 0 then staL c else [] := rfl
  have hT := refTaut_ok c hl
  generalize staR c = R at *
  generalize staE c = E at *
  simp
  refine ALoop.intro (S := fun (i : Nat) => ⟨[(0, .pv (.seq false 1 (irow c))), (4, .pv (I64 i))], []⟩) (fun i => i ≤ c.length ∧ ∀ j (h : j < c.length), j < i → 0 ≤ litX c[j]) (fun i => c.length - i) 0 ?_ ⟨Nat.zero_le _, fun j _ h => by omega⟩ ?_
  · exact Weak.to (by simp) (by simp) (by simp) (by simp) (by simp)
  rintro i ⟨hi, ho⟩
  by_cases h : i < c.length
  · have hw : w64 ((i : Int) + 1) = ((i + 1 : Nat) : Int) := by rw [w64_id (by omega) (by omega)]; omega
    simp [h]
    refine CallK.intro (refIndex_ok c[i]) (by simp) ?_
    by_cases c1 : litX c[i] < 0
    · have hb : badL c = true := List.any_eq_true.2 ⟨_, List.getElem_mem h, by simpa using c1⟩
      rw [if_pos hb] at hE
      subst hE
      rw [if_neg (by omega)] at hR
      subst hR
      simp [c1, wkP, wkPL, irow]
    · simp [c1]
      refine ⟨i + 1, by (try dsimp only); omega, ⟨by (try dsimp only); omega, fun j hj hji => ?_⟩, Weak.to (by simp [hw]) (by simp) (by simp) (by simp) (by simp)⟩
      by_cases e : j = i
      · subst e; omega
      · exact ho j hj (by omega)
  have hie : i = c.length := by omega
  subst hie
  have hb : badL c = false := List.any_eq_false.2 fun x hx => by
    obtain ⟨j, hj, rfl⟩ := List.getElem_of_mem hx
    have := ho j hj hj
    simp; omega
  rw [if_neg (by simp [hb])] at hE
  clear ho hb hi h
  simp
  refine CallK.intro hT (by simp) ?_
  cases c2 : tautS c
  rotate_left
  · rw [if_pos c2] at hE
    subst hE
    rw [if_neg (by omega)] at hR
    subst hR
    simp [wkP, wkPL, irow]
  rw [if_neg (by simp [c2])] at hE
  subst hE
  rw [if_pos rfl] at hR
  subst hR
  simp
  refine ALoop.intro (S := fun (i : Nat) => ⟨[(0, .pv (.seq false 1 (irow c))), (5, .own true 1 (irow (staTo c i))), (6, .pv (I64 i))], []⟩) (fun i => i ≤ c.length) (fun i => c.length - i) 0 ?_ (Nat.zero_le _) ?_
  · exact (Weak.nilOwn (s := 5) 1 true (by simp)).trans (Weak.to (by simp [staTo, irow]) (by simp) (by simp) (by simp) (by simp))
  intro i hi
  have hle := staTo_le c i
  by_cases h : i < c.length
  rotate_left
  · have hie : i = c.length := by omega
    subst hie
    simp [wkP, wkPL, staL]
  have hw : w64 ((i : Int) + 1) = ((i + 1 : Nat) : Int) := by rw [w64_id (by omega) (by omega)]; omega
  have hg : c.getD i 0 = c[i] := by rw [List.getD_eq_getElem?_getD, List.getElem?_eq_getElem h]; rfl
  have hsu : staTo c (i + 1) = if c[i] ∈ c.take i then staTo c i else staTo c i ++ [w64 (-c[i])] := by rw [staTo, hg]
  have hH := refHas_ok (c.take i) c[i] (by simp; omega)
  have hit : (irow c).take i = irow (c.take i) := by unfold irow; rw [List.map_take]
  simp [h, hit]
  refine ⟨by omega, ?_⟩
  refine CallQ0.intro hH (by simp) ?_
  by_cases c3 : c[i] ∈ c.take i
  · rw [if_pos c3] at hsu
    simp [c3]
    refine ⟨i + 1, by (try dsimp only); omega, by (try dsimp only); omega, Weak.to (by simp [hw, hsu]) (by simp) (by simp) (by simp) (by simp)⟩
  · rw [if_neg c3] at hsu
    simp [c3, h]
    refine ⟨by omega, i + 1, by (try dsimp only); omega, by (try dsimp only); omega, Weak.to (by simp [hw, hsu, irow]) (by simp) (by simp) (by simp) (by simp)⟩
def shwS (c : List Int) (hs : List (List Int)) : Nat × Int := if staE c = 0 then ((chnF (staL c) hs 0).2.1, (chnF (staL c) hs 0).2.2) else (0, staE c)
set_option maxRecDepth 16000 in
theorem refShow8_ok (c : List Int) (hs : List (List Int)) (hl : c.length + hs.length ≤ 1000000) (hh : ∀ h ∈ hs, h.length ≤ 1000000) : APure Tryz.prog 126 [.seq false 1 (irow c), .seq false 1 (hs.map crowF)] (fun r => r = .pv (.tup [I64 (shwS c hs).1, I64 (shwS c hs).2])) := by
  refine apureN [4, 5] hmo Tryz.func126 (by kernel_rfl) rfl (fun _ _ => results_tmp2 rfl _ _ _) (by kernel_rfl) (Nat.le_of_ble_eq_true rfl) ?_
  have hS := refStart8_ok c (by omega)
  have hle := staTo_le c c.length
  have hC := fun g => refChain8_ok g (staL c) hs (by unfold staL; omega) hh
  unfold shwS
  have hR : staR c = if staE c = 0 then staL c else [] := rfl
  simp
  refine CallK.intro hS (by simp) ?_
  by_cases c1 : staE c = 0
  · rw [if_pos c1] at hR
    rw [hR]
    simp [c1]
    refine CallK.introM (hC _) (by simp) ?_
    rintro _ _ ⟨rfl, rfl⟩
    simp
  · simp [c1]
end Go.AX

namespace Go.AX
open Go.Proofs
set_option linter.unusedSimpArgs false
def aval (l : List Int) (x : Int) : Int := if x ∈ l then 1 else if w64 (-x) ∈ l then -1 else 0
theorem sto_pos (l : List Int) (x : Int) : (0 < (lk (stoTo l l.length) x).getD 0) = (x ∈ l) := by
  have := stoTo_is l x l.length (Nat.le_refl _)
  rw [List.take_length] at this
  unfold seenB at this
  rw [decide_eq_true_eq] at this
  exact propext this
def valF (n : Nat) : PV := .fn (.func 223) [] [.ptr n 0]
theorem valuer1_ok (l : List Int) (x : Int) : APure Tryz.prog 223 [I64 x, .iptr 1 [[.amap false (mapE fI (stoTo l l.length))]] 0 0] (fun r => r = .pv (I64 (aval l x))) := by
  refine apure1 hmo Tryz.func223 (by kernel_rfl) rfl rfl (by kernel_rfl) (Nat.le_of_ble_eq_true rfl) ?_
  unfold aval
  by_cases c1 : x ∈ l
  · simp [sto_pos, c1]
  · by_cases c2 : w64 (-x) ∈ l
    · simp [sto_pos, c1, c2]
    · simp [sto_pos, c1, c2]
set_option maxRecDepth 16000 in
theorem valuer_ok (h : List (List SV)) (l : List Int) (hl : l.length ≤ 1000000) : AMut Tryz.prog 218 [.seq false 1 (irow l)] h (fun r h' => h' = h ++ [[.omap true (mapE fI (stoTo l l.length))]] ∧ r = .pv (valF h.length)) := by
  refine AMut.below (by kernel_rfl) fun hh => ?_
  refine amutX [] [.tmp 2] hmo Tryz.func218 (by kernel_rfl) rfl rfl (by kernel_rfl) (Nat.le_of_ble_eq_true rfl) ?_
  simp
  refine ALoop.intro (S := fun (i : Nat) => ⟨[(3, .pv (.ptr h.length 0)), (9, .pv (.seq false 1 (irow l))), (10, .pv (I64 l.length)), (11, .pv (I64 i))], h ++ [[.omap true (mapE fI (stoTo l i))]]⟩) (fun i => i ≤ l.length) (fun i => l.length - i) 0 ?_ (Nat.zero_le _) ?_
  · exact Weak.keep (by simp) (by simp [stoTo])
  intro i hi
  by_cases c : i < l.length
  · have hw : w64 ((i : Int) + 1) = ((i + 1 : Nat) : Int) := by rw [w64_id (by omega) (by omega)]; omega
    have hg : l.getD i 0 = l[i] := by simp [c]
    have hs : stoTo l (i + 1) = pt (stoTo l i) l[i] ((lk (stoTo l i) l[i]).getD 0 + 1) := by rw [stoTo, hg]
    have hb := stoTo_le l i l[i]
    have hw2 : w64 ((lk (stoTo l i) l[i]).getD 0 + 1) = (lk (stoTo l i) l[i]).getD 0 + 1 := w64_id (by omega) (by omega)
    simp [c]
    exact ⟨i + 1, by (try dsimp only); omega, by (try dsimp only); omega, Weak.keep (by simp [hw]) (by simp [hw2, hs])⟩
  · have : i = l.length := by omega
    subst this
    simp [valF]
theorem aval_val3 (l : List Int) (x : Int) (h : okL x = true) : val3 l x = aval l x := by
  unfold val3 aval
  rw [if_neg (by rw [litX_neg]; simp [h])]
theorem val3_not (l : List Int) (x : Int) (h : okL x = false) : val3 l x = 0 := by
  unfold val3
  rw [if_pos (by rw [litX_neg]; exact h)]
set_option maxRecDepth 16000 in
theorem aCount_ok (l c : List Int) (hl : l.length ≤ 1000000) (hc : c.length ≤ 1000000) : APure Tryz.prog 217 [.seq false 1 (irow l), .seq false 1 (irow c)] (fun r => r = .pv (.agg [I64 (ctS l c).1, I64 (ctS l c).2.1, I64 (ctS l c).2.2])) := by
  refine apureC hmo Tryz.func217 (by kernel_rfl) rfl rfl (by kernel_rfl) (Nat.le_of_ble_eq_true rfl) ?_
  have hv := fun h => valuer_ok h l hl
  simp
  refine CallK.introM (hv _) (by simp) ?_
  rintro _ _ ⟨rfl, rfl⟩
  simp [valF]
  refine ALoop.intro (S := fun (i : Nat) => ⟨[(4, .pv (.ptr 0 0)), (5, .pv (valF 1)), (6, .pv (.ptr 2 0)), (11, .pv (.seq false 1 (irow c))), (12, .pv (I64 c.length)), (13, .pv (I64 i))], [[.pv (I64 0), .pv (I64 0), .pv (I64 0)], [.omap true (mapE fI (stoTo l l.length))], [.pv (I64 ((c.take i).foldl (ctF l) (0, 0, 0)).1), .pv (I64 ((c.take i).foldl (ctF l) (0, 0, 0)).2.1), .pv (I64 ((c.take i).foldl (ctF l) (0, 0, 0)).2.2)]]⟩) (fun i => i ≤ c.length) (fun i => c.length - i) 0 ?_ (Nat.zero_le _) ?_
  · exact Weak.keep (by simp [valF]) (by simp)
  intro i hi
  by_cases h : i < c.length
  · have hw : w64 ((i : Int) + 1) = ((i + 1 : Nat) : Int) := by rw [w64_id (by omega) (by omega)]; omega
    have hF := foldl_take_succ (ctF l) (0, 0, 0) c i h
    generalize (c.take i).foldl (ctF l) (0, 0, 0) = t at hF ⊢
    obtain ⟨x, y, z⟩ := t
    have hS : ctF l (x, y, z) c[i] = if val3 l c[i] = 1 then (w64 (x + 1), y, z) else if val3 l c[i] = -1 then (x, w64 (y + 1), z) else if 0 ≤ litX c[i] then (x, y, w64 (z + 1)) else (x, y, z) := rfl
    have hva := valuer1_ok l c[i]
    simp [h, valF]
    refine CallK.intro (litVar_ok c[i]) (by simp) ?_
    cases ho : okL c[i]
    · have hz : litV c[i] = 0 := by rw [litV_zero]; exact ho
      have hx : ¬ 0 ≤ litX c[i] := by rw [litX_nn]; simp [ho]
      rw [val3_not l _ ho, if_neg (by decide), if_neg (by decide), if_neg hx] at hS
      rw [hS] at hF
      simp [hz]
      exact ⟨i + 1, by (try dsimp only); omega, by (try dsimp only); omega, Weak.keep (by simp [hw, valF]) (by simp [hF])⟩
    · have hz : litV c[i] ≠ 0 := fun e => by rw [litV_zero] at e; rw [ho] at e; cases e
      have hx : 0 ≤ litX c[i] := by rw [litX_nn]; exact ho
      rw [aval_val3 l _ ho, if_pos hx] at hS
      rw [hS] at hF
      simp [hz, frzP]
      refine CallB.introP hva (by simp) (by simp) ?_
      by_cases d1 : aval l c[i] = 1
      · rw [if_pos d1] at hF
        simp [d1]
        exact ⟨i + 1, by (try dsimp only); omega, by (try dsimp only); omega, Weak.keep (by simp [hw, valF]) (by simp [hF])⟩
      · rw [if_neg d1] at hF
        by_cases d2 : aval l c[i] = -1
        · rw [if_pos d2] at hF
          simp [d2]
          exact ⟨i + 1, by (try dsimp only); omega, by (try dsimp only); omega, Weak.keep (by simp [hw, valF]) (by simp [hF])⟩
        · rw [if_neg d2] at hF
          simp [d1, d2]
          exact ⟨i + 1, by (try dsimp only); omega, by (try dsimp only); omega, Weak.keep (by simp [hw, valF]) (by simp [hF])⟩
  · have hie : i = c.length := by omega
    subst hie
    simp [ctS]
theorem cl_top (l : List Int) : ∀ (c : List Int) (n : Int), n ≤ 1 → c.foldl (clF l) n ≤ 1 ∧ (1 ≤ c.foldl (clF l) n ↔ n = 1 ∨ ∃ y ∈ c, val3 l y = 1)
  | [], n, h => by simp; omega
  | y :: c, n, h => by
    have h3 := val3_cases l y
    have hx : val3 l y = 1 → 0 ≤ litX y := fun e => by
      unfold val3 at e
      split at e
      · omega
      · omega
    rw [List.foldl_cons]
    have hle : clF l n y ≤ 1 := by unfold clF; split <;> omega
    obtain ⟨g1, g2⟩ := cl_top l c (clF l n y) hle
    refine ⟨g1, ?_⟩
    rw [g2]
    constructor
    · rintro (e | ⟨z, hz, e⟩)
      · unfold clF at e
        split at e
        · exact .inr ⟨y, List.mem_cons_self, e⟩
        · exact .inl e
      · exact .inr ⟨z, List.mem_cons_of_mem _ hz, e⟩
    · rintro (e | ⟨z, hz, e⟩)
      · left
        unfold clF
        rw [if_neg (by omega)]
        exact e
      · rcases List.mem_cons.1 hz with rfl | hz
        · left
          unfold clF
          split
          · exact e
          · rename_i hn
            have := hx e
            omega
        · exact .inr ⟨z, hz, e⟩
theorem ct_is {l c : List Int} (hc : c.length ≤ 1000000) : ctS l c = ((cnt3 l c 1 : Int), (cnt3 l c (-1) : Int), ((opn3 l c).length : Int)) := by
  have := ct_gen l c 0 0 0 (by omega) (by omega) (by omega)
  simp only [Nat.zero_add] at this
  exact this
theorem cls_ct {l c : List Int} (hc : c.length ≤ 1000000) : clS l c = if 0 < (ctS l c).1 then 1 else if 0 < (ctS l c).2.2 then 0 else -1 := by
  rw [ct_is hc]
  obtain ⟨h1, h2⟩ := cl_top l c (-1) (by omega)
  have h3 := clS_m1 (l := l) (c := c)
  have h4 := (cl_gen l c (-1) (by omega)).1
  have e1 : cnt3 l c 1 = 0 ↔ ∀ y ∈ c, val3 l y ≠ 1 := by
    unfold cnt3
    rw [List.length_eq_zero_iff, List.filter_eq_nil_iff]
    simp
  have e2 : (opn3 l c).length = 0 ↔ ∀ y ∈ c, 0 ≤ litX y → val3 l y = 1 ∨ val3 l y = -1 := by
    unfold opn3
    rw [List.length_eq_zero_iff, List.filter_eq_nil_iff]
    constructor
    · intro h y hy hx
      have := h y hy
      have h5 := val3_cases l y
      simp only [decide_eq_true_eq, not_and, Classical.not_not] at this
      rcases h5 with e | e | e
      · exact .inr (this hx (by omega))
      · exact .inl e
      · exact .inr e
    · intro h y hy
      simp only [decide_eq_true_eq, not_and, Classical.not_not]
      intro hx hn
      rcases h y hy hx with e | e
      · exact absurd e hn
      · exact e
  unfold clS at h3 ⊢
  split
  · rename_i c1
    have : ¬ cnt3 l c 1 = 0 := by omega
    rw [e1] at this
    have : ∃ y ∈ c, val3 l y = 1 := Classical.byContradiction fun hn => this fun y hy e => hn ⟨y, hy, e⟩
    have := h2.2 (.inr this)
    omega
  · rename_i c1
    have hz : cnt3 l c 1 = 0 := by omega
    rw [e1] at hz
    have hn1 : ¬ 1 ≤ List.foldl (clF l) (-1) c := fun hh => by
      rcases h2.1 hh with e | ⟨y, hy, e⟩
      · omega
      · exact hz y hy e
    dsimp only
    split
    · rename_i c2
      have : ¬ List.foldl (clF l) (-1) c = -1 := fun e => by
        have hh := h3.1 e
        have : (opn3 l c).length = 0 := e2.2 fun y hy hx => .inr (hh y hy hx)
        omega
      omega
    · rename_i c2
      have ho : (opn3 l c).length = 0 := by omega
      rw [e2] at ho
      exact h3.2 fun y hy hx => (ho y hy hx).resolve_left (hz y hy)
set_option maxRecDepth 16000 in
theorem aClause_ok (l c : List Int) (hl : l.length ≤ 1000000) (hc : c.length ≤ 1000000) : APure Tryz.prog 208 [.seq false 1 (irow l), .seq false 1 (irow c)] (fun r => r = .pv (I64 (clS l c))) := by
  refine apure1 hmo Tryz.func208 (by kernel_rfl) rfl rfl (by kernel_rfl) (Nat.le_of_ble_eq_true rfl) ?_
  have hn := aCount_ok l c hl hc
  have hC := cls_ct (l := l) hc
  generalize clS l c = C at *
  generalize ctS l c = t at *
  obtain ⟨x, y, z⟩ := t
  simp only at hC hn
  simp
  refine CallK.intro hn (by simp) ?_
  by_cases c1 : 0 < x
  · rw [if_pos c1] at hC
    simp [c1, hC]
  · rw [if_neg c1] at hC
    by_cases c2 : 0 < z
    · rw [if_pos c2] at hC
      simp [c1, c2, hC]
    · rw [if_neg c2] at hC
      simp [c1, c2, hC]
theorem opn_val {l : List Int} {y : Int} : (decide (0 ≤ litX y ∧ val3 l y ≠ 1 ∧ val3 l y ≠ -1)) = (decide (0 < litV y) && decide (aval l y = 0)) := by
  cases ho : okL y
  · have h1 : ¬ 0 ≤ litX y := by rw [litX_nn]; simp [ho]
    have h2 : ¬ 0 < litV y := by rw [litV_pos]; simp [ho]
    simp [h1, h2]
  · have h1 : 0 ≤ litX y := by rw [litX_nn]; exact ho
    have h2 : 0 < litV y := by rw [litV_pos]; exact ho
    rw [aval_val3 l y ho]
    have : aval l y = 1 ∨ aval l y = -1 ∨ aval l y = 0 := by unfold aval; split <;> (try split) <;> simp
    simp only [h1, h2, true_and, decide_true, Bool.true_and, decide_eq_decide]
    omega
theorem unit1_ok (l : List Int) (x : Int) : APure Tryz.prog 219 [I64 x, .iptr 1 [[.fn (.func 223) [] [.iptr 1 [[.amap false (mapE fI (stoTo l l.length))]] 0 0]]] 0 0] (fun r => r = .pv (BL (decide (0 < litV x) && decide (aval l x = 0)))) := by
  refine apure1 hmo Tryz.func219 (by kernel_rfl) rfl rfl (by kernel_rfl) (Nat.le_of_ble_eq_true rfl) ?_
  have hva := valuer1_ok l x
  simp
  refine CallK.intro (litVar_ok x) (by simp) ?_
  by_cases c1 : 0 < litV x
  · simp [c1]
    refine CallG.intro (fun _ => hva) (by simp) ?_
    simp
  · simp [c1]
    refine CallG.intro (fun h : False => h.elim) (r := .pv (I64 0)) (by simp) ?_
    simp
theorem unit_at {l c : List Int} (hc : c.length ≤ 1000000) : ((ctS l c).1 ≤ 0 ∧ (ctS l c).2.2 = 1 → ∃ i, ∃ hi : i < c.length, idxS (fun x => decide (0 < litV x) && decide (aval l x = 0)) c = (i : Int) ∧ unitS l c = (c[i], true)) ∧ (¬ ((ctS l c).1 ≤ 0 ∧ (ctS l c).2.2 = 1) → unitS l c = (0, false)) := by
  have hct := ct_is (l := l) hc
  constructor
  · rintro ⟨h1, h2⟩
    have hu : unitS l c = (c.foldl (opF l) 0, true) := by
      unfold unitS
      rw [if_neg]
      rw [hct] at h1 h2 ⊢
      simp only at h1 h2 ⊢
      omega
    rw [hct] at h2
    simp only at h2
    obtain ⟨u, hu1⟩ := List.length_eq_one_iff.1 (show (opn3 l c).length = 1 by omega)
    rw [op_gen, hu1] at hu
    have hm : ∀ y, y ∈ opn3 l c ↔ y ∈ c ∧ (decide (0 < litV y) && decide (aval l y = 0)) = true := fun y => by
      unfold opn3
      rw [List.mem_filter, opn_val]
    rw [hu1] at hm
    have hx := (hm u).1 (List.mem_singleton.2 rfl)
    unfold idxS
    cases e : c.findIdx? (fun x => decide (0 < litV x) && decide (aval l x = 0)) with
    | none =>
      rw [List.findIdx?_eq_none_iff] at e
      have := e u hx.1
      rw [this] at hx
      cases hx.2
    | some i =>
      rw [List.findIdx?_eq_some_iff_getElem] at e
      obtain ⟨e1, e2, _⟩ := e
      refine ⟨i, e1, rfl, ?_⟩
      have := (hm c[i]).2 ⟨List.getElem_mem e1, e2⟩
      rw [List.mem_singleton] at this
      rw [this]
      exact hu
  · intro h
    unfold unitS
    rw [if_pos]
    rw [hct] at h ⊢
    simp only at h ⊢
    omega
set_option maxRecDepth 16000 in
theorem aUnit_ok (l c : List Int) (hl : l.length ≤ 1000000) (hc : c.length ≤ 1000000) : APure Tryz.prog 209 [.seq false 1 (irow l), .seq false 1 (irow c)] (fun r => r = .pv (.tup [I64 (unitS l c).1, BL (unitS l c).2])) := by
  refine apureN [4, 5] hmo Tryz.func209 (by kernel_rfl) rfl (fun _ _ => results_tmp2 rfl _ _ _) (by kernel_rfl) (Nat.le_of_ble_eq_true rfl) ?_
  have hn := aCount_ok l c hl hc
  have hv := fun h => valuer_ok h l hl
  have hI := indexF_ok c hc 219 [.iptr 1 [[.fn (.func 223) [] [.iptr 1 [[.amap false (mapE fI (stoTo l l.length))]] 0 0]]] 0 0] (fun x => decide (0 < litV x) && decide (aval l x = 0)) (fun r => by simp) rfl (fun k => by simp) (fun x _ => unit1_ok l x)
  obtain ⟨hU1, hU2⟩ := unit_at (l := l) hc
  generalize unitS l c = U at *
  generalize ctS l c = t at *
  obtain ⟨x, y, z⟩ := t
  simp only at hn hU1 hU2
  simp
  refine CallK.intro hn (by simp) ?_
  by_cases c1 : x ≤ 0
  rotate_left
  · have c1' : 0 < x := by omega
    rw [hU2 (fun h => c1 h.1)]
    simp [c1, c1']
  have c1' : ¬ 0 < x := by omega
  by_cases c2 : z = 1
  rotate_left
  · rw [hU2 (fun h => c2 h.2)]
    simp [c1, c1', c2]
  obtain ⟨i, hi, e1, e2⟩ := hU1 ⟨c1, c2⟩
  rw [e1] at hI
  rw [e2]
  simp [c1, c1', c2]
  refine CallK.introM (hv _) (by simp) ?_
  rintro _ _ ⟨rfl, rfl⟩
  simp [valF, frzP]
  refine ⟨rfl, CallK.intro hI (by simp) ?_⟩
  simp [hi]
end Go.AX
