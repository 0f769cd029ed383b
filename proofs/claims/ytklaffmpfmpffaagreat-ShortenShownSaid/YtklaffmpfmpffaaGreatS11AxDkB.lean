/-
  A desk: what the program keeps and what the document keeps go together (plain law).
  Contracts: a desk, a literal put on it, and all that follows.
  Contracts: a desk, all that follows is put on it.
-/
import Derived.Test.YtklaffmpfmpffaaGreatS11AxDkP
import Derived.Test.YtklaffmpfmpffaaGreatS11AxArA
import Derived.Test.YtklaffmpfmpffaaGreatS11AxRfB
namespace Go.AX
open Go.Proofs
set_option linter.unusedSimpArgs false

structure RelA (A : Ar) (a : RA) : Prop where
  size : a.size = A.row.length
  rows : ∀ x ∈ a.rows, ∃ p : Nat, x.at' = p ∧ AtOk A p x.lits.length ∧ partA' A p x.lits.length = x.lits ∧ isA A p = true ∧ A.row.getD p 0 = x.id
  is : ∀ q : Int, isA A q = true → ∃ x ∈ a.rows, x.at' = q
theorem relA_new : RelA ⟨[], []⟩ ⟨[], 0⟩ := ⟨rfl, by simp, fun q h => by simp [isA, lk] at h⟩
theorem relA_put {A : Ar} {a : RA} (h : RelA A a) {id : Int} {c : List Int} (hl : A.row.length + 3 + c.length ≤ 1000000) : RelA (putAr A id c) (putRA a id c) := by
  unfold putAr putRA
  by_cases he : putEA id c = 0
  rotate_left
  · rw [if_neg he, if_neg he]; exact h
  rw [if_pos he, if_pos he]
  have hid : 1 ≤ id := by
    unfold putEA at he
    split at he
    · cases he
    · omega
  have hs := h.size
  have hw : w64 (w64 (a.size + 3) + c.length) = a.size + 3 + c.length := by
    rw [w64_id (n := a.size + 3) (by omega) (by omega), w64_id (n := a.size + 3 + c.length) (by omega) (by omega)]
  have hlk : ∀ q : Int, lk (pt A.hd A.row.length id) q = if (A.row.length : Int) = q then some id else lk A.hd q := fun q => lk_pt A.hd _ id q
  refine ⟨?_, ?_, ?_⟩
  · show w64 (w64 (a.size + 3) + c.length) = _
    rw [hw, hs]; simp; omega
  · intro x hx
    rcases List.mem_append.1 hx with hx | hx
    · obtain ⟨p, e1, e2, e3, e4, e5⟩ := h.rows x hx
      have hp := e2.len
      refine ⟨p, e1, ⟨by simp only [List.length_append]; omega, ?_⟩, ?_, ?_, ?_⟩
      · rw [← e2.num]
        simp only [List.getD_eq_getElem?_getD]
        rw [List.getElem?_append_left (by omega)]
      · rw [← e3]
        unfold partA'
        simp only
        rw [List.drop_append_of_le_length (by omega), List.take_append_of_le_length (by rw [List.length_drop, List.length_take, List.length_drop]; omega), List.length_take, List.length_drop]
        congr 1; omega
      · unfold isA at e4 ⊢
        simp only [hlk]
        rw [if_neg (by omega)]
        exact e4
      · rw [← e5]
        simp only [List.getD_eq_getElem?_getD]
        rw [List.getElem?_append_left (by omega)]
    · simp at hx; subst hx
      refine ⟨A.row.length, hs, ⟨by simp; omega, ?_⟩, ?_, ?_, ?_⟩
      · simp only [List.getD_eq_getElem?_getD]
        rw [List.getElem?_append_right (by omega)]
        simp
      · unfold partA'
        simp only
        rw [List.drop_append, List.drop_eq_nil_of_le (by omega)]
        have : A.row.length + 3 - A.row.length = 3 := by omega
        simp [this]
      · unfold isA
        simp only [hlk, if_true, Option.getD_some, decide_eq_true_eq]; omega
      · simp only [List.getD_eq_getElem?_getD]
        rw [List.getElem?_append_right (by omega)]
        simp
  · intro q hq
    unfold isA at hq
    simp only [hlk] at hq
    split at hq
    · rename_i e
      exact ⟨⟨a.size, id, c⟩, by simp, by rw [← e]; exact hs⟩
    · obtain ⟨x, hx, e⟩ := h.is q hq
      exact ⟨x, List.mem_append_left _ hx, e⟩

structure DK where
  A : Ar
  T : Tr
  a : RA
  t : RT
  con : Int
def addS (D : DK) (l why : Int) : DK := if why < 0 then ⟨D.A, decT D.T l, D.a, decR D.t l, D.con⟩ else ⟨D.A, impT D.T l why, D.a, impR D.t l why, D.con⟩
theorem addS_rel {D : DK} (h : RelD D.T D.t) (l why : Int) : RelD (addS D l why).T (addS D l why).t := by
  unfold addS
  split
  · exact relD_dec h l
  · exact (relD_imp h l why).1
theorem addS_A (D : DK) (l why : Int) : (addS D l why).A = D.A := by unfold addS; split <;> rfl
theorem addS_a (D : DK) (l why : Int) : (addS D l why).a = D.a := by unfold addS; split <;> rfl
theorem addS_con (D : DK) (l why : Int) : (addS D l why).con = D.con := by unfold addS; split <;> rfl
def addL (D : DK) (zs : List (Int × Int)) : DK := zs.foldl (fun D z => addS D z.1 z.2) D
theorem addL_rel : ∀ (zs : List (Int × Int)) {D : DK}, RelD D.T D.t → RelD (addL D zs).T (addL D zs).t
  | [], _, h => h
  | z :: zs, _, h => addL_rel zs (addS_rel h z.1 z.2)
theorem addL_A : ∀ (zs : List (Int × Int)) (D : DK), (addL D zs).A = D.A ∧ (addL D zs).a = D.a ∧ (addL D zs).con = D.con
  | [], _ => ⟨rfl, rfl, rfl⟩
  | z :: zs, D => by
    obtain ⟨a, b, c⟩ := addL_A zs (addS D z.1 z.2)
    exact ⟨a.trans (addS_A ..), b.trans (addS_a ..), c.trans (addS_con ..)⟩
def folZ (cs : List (List Int)) (ats : List Int) (t : RT) : List (Int × Int) :=
  ((propS cs (t.rows.map (·.l))).1.drop t.rows.length).zip ((propS cs (t.rows.map (·.l))).2.1.map fun y => ats.getD y.toNat 0)
def folS (cs : List (List Int)) (ats : List Int) (D : DK) : DK :=
  let k := (propS cs (D.t.rows.map (·.l))).2.2
  let E := addL D (folZ cs ats D.t)
  ⟨E.A, E.T, E.a, E.t, if 0 ≤ k then ats.getD k.toNat 0 else E.con⟩
theorem folS_rel (cs : List (List Int)) (ats : List Int) {D : DK} (h : RelD D.T D.t) : RelD (folS cs ats D).T (folS cs ats D).t := addL_rel _ h
theorem folS_A (cs : List (List Int)) (ats : List Int) (D : DK) : (folS cs ats D).A = D.A ∧ (folS cs ats D).a = D.a := ⟨(addL_A _ D).1, (addL_A _ D).2.1⟩
structure PK where
  A : Ar
  a : RA
  rows : List (List Int)
  ats : List Int
def putK (x : PK) (c : List Int) (id : Int) : PK :=
  ⟨putAr x.A id c, putRA x.a id c, if putEA id c = 0 ∧ chkC c 6 = 0 then x.rows ++ [c] else x.rows, if putEA id c = 0 ∧ chkC c 6 = 0 then x.ats ++ [putQA x.a id c] else x.ats⟩
def putL (cs : List (List Int)) : Nat → PK
  | 0 => ⟨⟨[], []⟩, ⟨[], 0⟩, [], []⟩
  | i + 1 => putK (putL cs i) (cs.getD i []) ((i + 1 : Nat) : Int)
structure PKok (cs : List (List Int)) (i : Nat) (x : PK) : Prop where
  rel : RelA x.A x.a
  len : x.A.row.length ≤ i * 1003
  rlen : x.a.rows.length ≤ i
  sl : x.rows.length ≤ i
  al : x.ats.length = x.rows.length
  sub : ∀ c ∈ x.rows, c ∈ cs
  pos : ∀ y ∈ x.ats, 0 ≤ y
set_option maxRecDepth 8000 in
theorem putL_ok {cs : List (List Int)} (hc : fewC cs) : ∀ i, i ≤ cs.length → PKok cs i (putL cs i)
  | 0, _ => ⟨relA_new, by simp [putL], by simp [putL], by simp [putL], rfl, by simp [putL], by simp [putL]⟩
  | i + 1, hi => by
    have h := putL_ok hc i (by omega)
    obtain ⟨h1, h2, h3, h4, h5, h6, h7⟩ := h
    have hce : cs.getD i [] = cs[i] := by rw [List.getD_eq_getElem?_getD, List.getElem?_eq_getElem (by omega)]; rfl
    have hcm : cs.getD i [] ∈ cs := by rw [hce]; exact List.getElem_mem _
    have hcl := hc.2 _ hcm
    have h500 := hc.1
    rw [putL]
    generalize putL cs i = x at *
    generalize cs.getD i [] = c at *
    refine ⟨relA_put (c := c) h1 (by omega), ?_, ?_, ?_, ?_, ?_, ?_⟩
    · unfold putK putAr
      dsimp only
      split
      · simp only [List.length_append, List.length_cons, List.length_nil]; omega
      · omega
    · unfold putK putRA
      dsimp only
      split
      · simp only [List.length_append, List.length_cons, List.length_nil]; omega
      · omega
    · unfold putK
      dsimp only
      split
      · simp only [List.length_append, List.length_cons, List.length_nil]; omega
      · omega
    · unfold putK
      dsimp only
      split
      · simp [h5]
      · exact h5
    · unfold putK
      dsimp only
      split
      · intro d hd
        rcases List.mem_append.1 hd with hd | hd
        · exact h6 d hd
        · simp at hd; rw [hd]; exact hcm
      · exact h6
    · unfold putK
      dsimp only
      split
      · intro d hd
        rcases List.mem_append.1 hd with hd | hd
        · exact h7 d hd
        · simp at hd; rw [hd]
          unfold putQA
          split
          · rw [h1.size]; omega
          · omega
      · exact h7
def mayK (D : DK) (l : Int) : Bool := decide (litChk l 6 = 0) && decide (valR D.t l = 0)
def setL (cs : List (List Int)) (ats : List Int) (lits : List Int) (D : DK) : Nat → DK
  | 0 => folS cs ats D
  | i + 1 => let E := setL cs ats lits D i
    if 0 ≤ E.con then E else if mayK E (lits.getD i 0) = true then folS cs ats (addS E (lits.getD i 0) (-1)) else E
def begD (x : PK) : DK := ⟨x.A, newT 6, x.a, ⟨6, [], 0⟩, -1⟩
def setS (cs : List (List Int)) (lits : List Int) : DK := setL (putL cs cs.length).rows (putL cs cs.length).ats lits (begD (putL cs cs.length)) lits.length
theorem setL_rel (cs : List (List Int)) (ats lits : List Int) {D : DK} (h : RelD D.T D.t) : ∀ i, RelD (setL cs ats lits D i).T (setL cs ats lits D i).t
  | 0 => folS_rel cs ats h
  | i + 1 => by
    have ih := setL_rel cs ats lits h i
    rw [setL]
    split
    · exact ih
    · split
      · exact folS_rel cs ats (addS_rel ih _ _)
      · exact ih
theorem setL_A (cs : List (List Int)) (ats lits : List Int) (D : DK) : ∀ i, (setL cs ats lits D i).A = D.A ∧ (setL cs ats lits D i).a = D.a
  | 0 => folS_A cs ats D
  | i + 1 => by
    have ih := setL_A cs ats lits D i
    rw [setL]
    split
    · exact ih
    · split
      · obtain ⟨h1, h2⟩ := folS_A cs ats (addS (setL cs ats lits D i) (lits.getD i 0) (-1))
        exact ⟨h1.trans ((addS_A ..).trans ih.1), h2.trans ((addS_a ..).trans ih.2)⟩
      · exact ih
theorem relD_new : RelD (newT 6) ⟨6, [], 0⟩ := ⟨relT_new, by simp [newT]⟩
theorem setS_rel (cs : List (List Int)) (lits : List Int) : RelD (setS cs lits).T (setS cs lits).t := setL_rel _ _ _ relD_new _
theorem setS_relA {cs : List (List Int)} (hc : fewC cs) (lits : List Int) : RelA (setS cs lits).A (setS cs lits).a := by
  obtain ⟨h1, h2⟩ := setL_A (putL cs cs.length).rows (putL cs cs.length).ats lits (begD (putL cs cs.length)) lits.length
  have := (putL_ok hc cs.length (by omega)).rel
  unfold setS
  rw [h1, h2]
  exact this
end Go.AX

namespace Go.AX
open Go.Proofs
set_option linter.unusedSimpArgs false

def dkB (p q : PV) (D : DK) : List SV := [.pv p, .pv q, .pv (.seq false 5 (D.a.rows.map roR)), .pv (I64 D.a.size), .pv (I64 D.t.vars), .pv (.seq false 3 (D.t.rows.map enR)), .pv (I64 D.t.dep), .pv (I64 D.con)]
theorem belowH_getD {k : Nat} : ∀ {h : List (List SV)} {b : Nat} {x : List SV}, belowH k h → h[b]? = some x → belowC k x
  | [], _, _, _, e => by cases e
  | _ :: _, 0, _, hh, e => by cases e; exact hh.1
  | _ :: _, b + 1, _, hh, e => belowH_getD hh.2 e
theorem belowC_dkB {k : Nat} {p q : PV} {D E : DK} (h : belowC k (dkB p q D)) : belowC k (dkB p q E) :=
  ⟨h.1, h.2.1, belowR_roR k _, trivial, trivial, belowR_enR k _, trivial, trivial, trivial⟩
theorem belowH_desk {k : Nat} {h : List (List SV)} {bd bt ba : Nat} {D E : DK} {T : Tr} (hd : h[bd]? = some (dkB (.ptr ba 0) (.ptr bt 0) D)) (hh : belowH k h) : belowH k ((h.set bt (trB T)).set bd (dkB (.ptr ba 0) (.ptr bt 0) E)) :=
  belowH_setT (belowC_dkB (belowH_getD hh hd)) bd (belowH_setT (belowC_trB _ _) bt hh)
set_option maxRecDepth 16000 in
theorem dadd_ok (h : List (List SV)) (bd bt ba : Nat) (D : DK) (hd : h[bd]? = some (dkB (.ptr ba 0) (.ptr bt 0) D)) (ht : h[bt]? = some (trB D.T)) (hne : bd ≠ bt) (hr : RelD D.T D.t) (l why : Int) :
    AMut Tryz.prog 83 [.ptr bd 0, I64 l, I64 why] h (fun r h' => h' = (h.set bt (trB (addS D l why).T)).set bd (dkB (.ptr ba 0) (.ptr bt 0) (addS D l why)) ∧ r = .pv (BL true)) := by
  refine amutXD [] [.tmp 6] ((h.set bt (trB (addS D l why).T)).set bd (dkB (.ptr ba 0) (.ptr bt 0) (addS D l why))) (by simp) ?_ hmo Tryz.func83 (by kernel_rfl) rfl rfl (by kernel_rfl) (Nat.le_of_ble_eq_true rfl) ?_
  · intro hh; rw [List.length_set, List.length_set]; exact belowH_desk hd hh
  obtain ⟨hdl, hd'⟩ := List.getElem?_eq_some_iff.1 hd
  obtain ⟨htl, ht'⟩ := List.getElem?_eq_some_iff.1 ht
  have hf := hr.1.few
  have hb := hr.2
  have hls : D.T.lits.length = D.t.rows.length := by rw [hr.1.lits]; simp
  have c1 := tdecide_ok h bt D.T ht l hr.1.okT (by omega) (by omega)
  have c2 := timply_ok h bt D.T ht l why hr.1.okT (by omega)
  have em := relT_may hr.1 l
  have ei := (relD_imp hr l why).2
  have hg : ∀ x (hl : bd < (h.set bt x).length), (h.set bt x)[bd]'hl = dkB (.ptr ba 0) (.ptr bt 0) D := fun x hl => by rw [List.getElem_set_ne (Ne.symm hne)]; exact hd'
  have c3 := fun h' => rfDecide_ok h' D.t l (by omega)
  have c4 := fun h' => rfImply_ok h' D.t l why (by omega)
  have htk : ∀ x y : List SV, List.take h.length ((h.set bt x).set bd y) = (h.set bt x).set bd y := fun x y => List.take_of_length_le (by simp)
  by_cases cw : why < 0
  · simp [hd', hdl, dkB, cw]
    refine CallB.intro c1 (by simp) ?_
    rintro _ _ ⟨rfl, rfl⟩
    simp [hg, hdl, dkB, cw]
    refine CallK.introM (c3 _) (by simp) ?_
    rintro _ _ ⟨rfl, rfl⟩
    simp [hg, hdl, dkB, cw, rtV]
    rw [htk, show addS D l why = ⟨D.A, decT D.T l, D.a, decR D.t l, D.con⟩ from if_pos cw]
    exact ⟨rfl, em⟩
  · simp [hd', hdl, dkB, cw]
    refine CallB.intro c2 (by simp) ?_
    rintro _ _ ⟨rfl, rfl⟩
    simp [hg, hdl, dkB, cw]
    refine CallK.introM (c4 _) (by simp) ?_
    rintro _ _ ⟨rfl, rfl⟩
    simp [hg, hdl, dkB, cw, rtV]
    rw [htk, show addS D l why = ⟨D.A, impT D.T l why, D.a, impR D.t l why, D.con⟩ from if_neg cw]
    exact ⟨rfl, ei⟩
end Go.AX

namespace Go.AX
open Go.Proofs
set_option linter.unusedSimpArgs false

def dkH (h : List (List SV)) (bd bt ba : Nat) (D : DK) : List (List SV) := (h.set bt (trB D.T)).set bd (dkB (.ptr ba 0) (.ptr bt 0) D)
theorem dkH_len (h : List (List SV)) (bd bt ba : Nat) (D : DK) : (dkH h bd bt ba D).length = h.length := by simp [dkH]
theorem dkH_d {h : List (List SV)} {bd bt ba : Nat} (hd : bd < h.length) (D : DK) : (dkH h bd bt ba D)[bd]? = some (dkB (.ptr ba 0) (.ptr bt 0) D) := by simp [dkH, hd]
theorem dkH_t {h : List (List SV)} {bd bt ba : Nat} (ht : bt < h.length) (hne : bd ≠ bt) (D : DK) : (dkH h bd bt ba D)[bt]? = some (trB D.T) := by simp [dkH, ht, hne]
theorem dkH_dkH {h : List (List SV)} {bd bt ba : Nat} (hne : bd ≠ bt) (D E : DK) : dkH (dkH h bd bt ba D) bd bt ba E = dkH h bd bt ba E := by
  unfold dkH
  rw [List.set_comm _ _ hne, List.set_set, List.set_set]
theorem dkH_same {h : List (List SV)} {bd bt ba : Nat} {D : DK} (hd : h[bd]? = some (dkB (.ptr ba 0) (.ptr bt 0) D)) (ht : h[bt]? = some (trB D.T)) : dkH h bd bt ba D = h := by
  unfold dkH
  rw [set_sameT ht, set_sameT hd]
theorem dkH_con {h : List (List SV)} {bd bt ba : Nat} (hd : bd < h.length) (D : DK) (k : Int) : (dkH h bd bt ba D).set bd (dkB (.ptr ba 0) (.ptr bt 0) ⟨D.A, D.T, D.a, D.t, k⟩) = dkH h bd bt ba ⟨D.A, D.T, D.a, D.t, k⟩ := by
  unfold dkH
  rw [List.set_set]
theorem belowH_dkH {k : Nat} {h : List (List SV)} {bd bt ba : Nat} {D E : DK} (hd : h[bd]? = some (dkB (.ptr ba 0) (.ptr bt 0) D)) (hh : belowH k h) : belowH k (dkH h bd bt ba E) := belowH_desk hd hh
theorem getElem_of {h : List (List SV)} {b : Nat} {x : List SV} (hb : h[b]? = some x) : ∀ hl : b < h.length, h[b] = x := fun hl => by
  obtain ⟨_, e⟩ := List.getElem?_eq_some_iff.1 hb; exact e
def folSch : Sch :=
  let E : Sch := .fork [(15, .take 16 .done)]
  .take 0 (.take 1 (.take 2 (.take 3 (.take 5 (.take 6 (.take 7 (.take 8 (.take 9 (.take 10 (.take 11 (.fork [(4, .fork [(12, .take 13 (.fork [(14, E)]))]), (12, .take 13 (.fork [(4, .fork [(14, E)]), (14, .fork [(4, E)])]))])))))))))))
theorem addL_snoc (D : DK) (zs : List (Int × Int)) (j : Nat) (h : j < zs.length) : addL D (zs.take (j + 1)) = addS (addL D (zs.take j)) zs[j].1 zs[j].2 := by
  unfold addL
  rw [foldl_take_succ _ _ _ _ h]
set_option maxRecDepth 16000 in
theorem dfollow_ok (h : List (List SV)) (bd bt ba : Nat) (D : DK) (hd : h[bd]? = some (dkB (.ptr ba 0) (.ptr bt 0) D)) (ht : h[bt]? = some (trB D.T)) (hne : bd ≠ bt) (hr : RelD D.T D.t) (cs : List (List Int)) (ats : List Int) (hc : fewC cs) (ha : ats.length = cs.length) :
    AMut Tryz.prog 80 [.ptr bd 0, .seq false 1 (cs.map crowF), .seq false 1 (irow ats)] h (fun r h' => h' = dkH h bd bt ba (folS cs ats D) ∧ r = .pv (BL true)) := by
  refine amutXD [6] [.tmp 6] (dkH h bd bt ba (folS cs ats D)) (by rw [dkH_len]; exact Nat.le_refl _) (fun hh => by rw [dkH_len]; exact belowH_dkH hd hh) hmo Tryz.func80 (by kernel_rfl) rfl rfl (by kernel_rfl) (Nat.le_of_ble_eq_true rfl) ?_
  obtain ⟨hdl, hd'⟩ := List.getElem?_eq_some_iff.1 hd
  obtain ⟨htl, ht'⟩ := List.getElem?_eq_some_iff.1 ht
  have hf := hr.1.few
  have hc1 := hc.1
  obtain ⟨xs, ys, e1, e2, e3, e4, e5, e6, e7⟩ := propF_is cs (mostP cs + 1) (D.t.rows.map (·.l)) []
  have hP : propF cs (mostP cs + 1) (D.t.rows.map (·.l)) [] = propS cs (D.t.rows.map (·.l)) := rfl
  rw [hP] at e1 e2 e6 e7
  rw [List.nil_append] at e2
  have hz : folZ cs ats D.t = xs.zip (ys.map fun y => ats.getD y.toNat 0) := by
    unfold folZ
    rw [e1, e2, List.drop_left' (by simp)]
  have hF : folS cs ats D = ⟨(addL D (folZ cs ats D.t)).A, (addL D (folZ cs ats D.t)).T, (addL D (folZ cs ats D.t)).a, (addL D (folZ cs ats D.t)).t, if 0 ≤ (propS cs (D.t.rows.map (·.l))).2.2 then ats.getD (propS cs (D.t.rows.map (·.l))).2.2.toNat 0 else (addL D (folZ cs ats D.t)).con⟩ := rfl
  have hmost : mostP cs ≤ 1000 * cs.length := by
    have := mostP_le hc.2 cs.length
    rw [List.take_length] at this
    exact this
  have hfp := rf7prop_ok cs (D.t.rows.map (·.l)) (by simp; omega) hc
  have hfl := rfLits_ok D.t (by omega)
  generalize folS cs ats D = F at hF ⊢
  generalize hzs : folZ cs ats D.t = zs at *
  generalize hk : (propS cs (D.t.rows.map (·.l))).2.2 = k at *
  generalize hout : (propS cs (D.t.rows.map (·.l))).1 = out at *
  generalize hby : (propS cs (D.t.rows.map (·.l))).2.1 = bys at *
  subst e2
  simp [hd', hdl, dkB]
  refine CallK.intro hfl (by simp) ?_
  simp [hd', hdl, dkB]
  refine CallK.intro hfp (by simp) ?_
  have hzl : zs.length = xs.length := by rw [hz]; simp [e3]
  simp [hd', hdl, dkB]
  refine ALoop.intro (S := fun (y : Nat) => ⟨[(0, .pv (.ptr bd 0)), (2, .pv (.seq false 1 (irow ats))), (7, .own true 1 (irow (D.t.rows.map (·.l)))), (8, .pv (.seq true 1 (irow out))), (9, .pv (.seq true 1 (irow bys))), (10, .pv (I64 k)), (11, .pv (I64 ((D.t.rows.length + y : Nat) : Int)))], dkH h bd bt ba (addL D (zs.take y))⟩) (fun y => y ≤ xs.length) (fun y => xs.length - y) 0 ?_ (Nat.zero_le _) ?_
  · exact Weak.keep (by simp) (dkH_same hd ht).symm
  intro y hy
  have hEr : RelD (addL D (zs.take y)).T (addL D (zs.take y)).t := addL_rel _ hr
  have hol : out.length = D.t.rows.length + xs.length := by rw [e1]; simp
  by_cases c : y < xs.length
  · obtain ⟨m, hm⟩ := Int.eq_ofNat_of_zero_le (e5 bys[y] (List.getElem_mem _)).1
    have hm2 := (e5 bys[y] (List.getElem_mem _)).2
    rw [hm] at hm2
    have hm' : bys[y] = (m : Int) := hm
    have hml : m < ats.length := by omega
    have hzy : zs[y]'(by omega) = (xs[y], ats[m]) := by
      simp only [hz, List.getElem_zip, List.getElem_map, hm', Int.toNat_natCast, List.getD_eq_getElem?_getD, List.getElem?_eq_getElem hml, Option.getD_some]
    have hsn := addL_snoc D zs y (by omega)
    rw [hzy] at hsn
    have hadd := dadd_ok (dkH h bd bt ba (addL D (zs.take y))) bd bt ba (addL D (zs.take y)) (dkH_d hdl _) (dkH_t htl hne _) hne hEr xs[y] ats[m]
    rw [← hsn] at hadd
    have hset : ∀ X, ((dkH h bd bt ba (addL D (zs.take y))).set bt (trB X.T)).set bd (dkB (.ptr ba 0) (.ptr bt 0) X) = dkH h bd bt ba X := fun X => dkH_dkH hne _ X
    rw [hset] at hadd
    generalize addL D (zs.take y) = E at *
    generalize hE' : addL D (zs.take (y + 1)) = E' at *
    obtain ⟨i, hi⟩ : ∃ i, i = D.t.rows.length + y := ⟨_, rfl⟩
    have hxi : ∀ hl : i < out.length, out[i] = xs[y] := fun hl => by
      subst hi
      simp only [e1]
      rw [List.getElem_append_right (by simp)]
      simp
    rw [← hi]
    have hil : i < out.length := by omega
    have hx := hxi hil
    have hw : w64 ((i : Int) - D.t.rows.length) = (y : Int) := by rw [w64_id (by omega) (by omega)]; omega
    have hw2 : w64 ((i : Int) + 1) = ((D.t.rows.length + (y + 1) : Nat) : Int) := by rw [w64_id (by omega) (by omega)]; omega
    have hyb : y < bys.length := by omega
    have hgd := getElem_of (dkH_d (h := h) (bt := bt) (ba := ba) hdl E)
    have hgl := dkH_len h bd bt ba E
    generalize dkH h bd bt ba E = H at *
    simp [hil]
    refine AAnyD.one folSch (by kernel_rfl) ?_
    simp [folSch, hx, hw, hm', hml, hyb, hil]
    and_intros
    all_goals first
      | omega
      | skip
    all_goals
      refine CallB.intro hadd (by simp) ?_
      rintro _ _ ⟨rfl, rfl⟩
      simp
      exact ⟨y + 1, by dsimp only; omega, by dsimp only; omega, Weak.keep (by simp [hw2]) (by simp [hE'])⟩
  · have hye : y = xs.length := by omega
    subst hye
    have ht2 : zs.take xs.length = zs := List.take_of_length_le (by omega)
    rw [ht2]
    have h1 : ¬ ((D.t.rows.length + xs.length : Nat) : Int) < out.length := by omega
    have h2 : out.length = D.t.rows.length + xs.length := hol
    have hgd := getElem_of (dkH_d (h := h) (bt := bt) (ba := ba) hdl (addL D zs))
    have hgl := dkH_len h bd bt ba (addL D zs)
    have hcn := dkH_con (h := h) (bt := bt) (ba := ba) hdl (addL D zs)
    generalize addL D zs = E at *
    by_cases ck : 0 ≤ k
    · rw [if_pos ck] at hF
      obtain ⟨m, hm⟩ := Int.eq_ofNat_of_zero_le ck
      have hm' : k = (m : Int) := hm
      subst hm'
      have hml : m < ats.length := by omega
      simp [h2, hml, hgd, hgl, hdl, dkB]
      have hv : ats.getD ((m : Int)).toNat 0 = ats[m] := by
        rw [Int.toNat_natCast, List.getD_eq_getElem?_getD, List.getElem?_eq_getElem hml]; rfl
      rw [hv] at hF
      subst hF
      have h3 := hcn ats[m]
      simp only [dkB] at h3
      rw [h3]
      exact List.take_of_length_le (by simp [dkH_len])
    · rw [if_neg ck] at hF
      subst hF
      simp [h2, ck]
end Go.AX
