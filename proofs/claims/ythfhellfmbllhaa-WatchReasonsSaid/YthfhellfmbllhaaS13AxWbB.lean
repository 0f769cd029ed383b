/-
  A desk with clauses and a watch, whatever is done: what always holds, and that all is as the document says (plain law).
  Contracts: a desk with clauses and a watch: whatever is done; the law's contract WatchCloses.
  The law's contract: WatchReasons.
-/
import Derived.Test.YthfhellfmbllhaaS13AxWaY
import Derived.Test.YthfhellfmbllhaaS13AxWaO
namespace Go.AX
open Go.Proofs
set_option linter.unusedSimpArgs false

structure CloOk (n : Nat) (D : DW) : Prop where
  rel : RelP D.A D.a
  hn : n ≤ 1000
  vars : D.t.vars = n
  tok : TOk n D.T
  on : sortZ (D.S.prs.map (·.1)) = D.on
  wok : WOk n D.S
  lits : ∀ k p, lk D.S.prs k = some p → isA D.A k = true ∧ p.lits = litsA D.A k
  cls : ∀ x ∈ D.a.rows, x.lits.Nodup ∧ x.lits.length ≤ 1000
  row : D.A.row.length ≤ 1000000
  rows : D.a.rows.length ≤ 1000000
  ats : D.ats.length ≤ 1000000
  few : D.on.length ≤ 500
section
variable {n : Nat} {D : DW}
theorem CloOk.len (h : CloOk n D) : (D.T.marks.length : Int) - 1 = D.t.vars := by rw [h.vars, h.tok.len]; omega
theorem CloOk.mem (h : CloOk n D) {k : Int} : k ∈ D.on ↔ ∃ p, lk D.S.prs k = some p := by
  rw [← h.on, mem_sortZ, ← mem_keys, Option.isSome_iff_exists]
theorem CloOk.find (h : CloOk n D) {k : Int} {p : Pr} (hp : lk D.S.prs k = some p) : ∃ q : Nat, findA D.a k = q ∧ ∃ hq : q < D.a.rows.length, D.a.rows[q].lits = p.lits := by
  obtain ⟨h1, h2⟩ := h.lits k p hp
  obtain ⟨f1, f2⟩ := (findA_is h.rel.toRelA k).1 h1
  obtain ⟨q, hq, hql⟩ := findA_lt f1
  refine ⟨q, hq, hql, ?_⟩
  rw [h2, ← f2]
  unfold litsD
  rw [hq]
  simp [List.getD_eq_getElem?_getD, List.getElem?_eq_getElem hql]
theorem CloOk.cls_is (h : CloOk n D) (c : List Int) : c ∈ clsW D.a D.on ↔ ∃ k p, lk D.S.prs k = some p ∧ p.lits = c := by
  unfold clsW
  rw [List.mem_map]
  constructor
  · rintro ⟨k, hk, rfl⟩
    obtain ⟨hk, _⟩ := List.mem_filter.1 hk
    obtain ⟨p, hp⟩ := h.mem.1 hk
    obtain ⟨q, hq, hql, e⟩ := h.find hp
    refine ⟨k, p, hp, ?_⟩
    rw [← e]
    unfold litsD
    rw [hq]
    simp [List.getD_eq_getElem?_getD, List.getElem?_eq_getElem hql]
  · rintro ⟨k, p, hp, rfl⟩
    obtain ⟨q, hq, hql, e⟩ := h.find hp
    refine ⟨k, List.mem_filter.2 ⟨h.mem.2 ⟨p, hp⟩, by rw [decide_eq_true_eq, hq]; omega⟩, ?_⟩
    rw [← e]
    unfold litsD
    rw [hq]
    simp [List.getD_eq_getElem?_getD, List.getElem?_eq_getElem hql]
theorem CloOk.uok (h : CloOk n D) : UOk n (clsW D.a D.on) where
  hn := h.tok.hn
  nd := fun c hc => by obtain ⟨k, p, hp, rfl⟩ := (h.cls_is c).1 hc; exact (h.wok.lits k p hp).2.1
  len := fun c hc => by obtain ⟨k, p, hp, rfl⟩ := (h.cls_is c).1 hc; exact (h.wok.lits k p hp).2.2.1
  chk := fun c hc => by obtain ⟨k, p, hp, rfl⟩ := (h.cls_is c).1 hc; exact (h.wok.lits k p hp).2.2.2
theorem CloOk.fewC (h : CloOk n D) : fewC (clsW D.a D.on) := ⟨Nat.le_trans (clsW_len _ _) h.few, h.uok.len⟩
theorem CloOk.lit (h : CloOk n D) : ∀ x ∈ D.a.rows, x.lits.length ≤ 1000000 := fun x hx => by have := (h.cls x hx).2; omega
theorem TMk.cons {n : Nat} {T : Tr} (h : TMk n T) : Cons T.lits := fun _ hy hy2 => h.one hy hy2
theorem Grow.der {S : WS} {T0 T : Tr} (hT : TOk n T0) {cs : List (List Int)} (hc : ∀ k c, CW S k c → c ∈ cs) (g : Grow (CW S) n T0 T) : TOk n T ∧ Der cs T0.lits T.lits := by
  induction g with
  | refl => exact ⟨hT, .base⟩
  | @step T k o c _ h1 h2 h3 h4 h5 ih =>
    obtain ⟨m1, m2, m3⟩ := (ih.1.may o).1 h3
    exact ⟨ih.1.imp h3 k, .step ih.2 (hc _ _ h1) h2 m2 m3 h5⟩
def RowG (C : Int → List Int → Prop) (T : Tr) (i : Nat) (hi : i < T.lits.length) : Prop :=
  ∃ c, C (ofT T (litV T.lits[i])).1.rea c ∧ 0 ≤ (ofT T (litV T.lits[i])).1.rea ∧ T.lits[i] ∈ c ∧ (∀ y ∈ c, y ≠ T.lits[i] → -y ∈ T.lits.take i) ∧ (ofT T (litV T.lits[i])).1.lev = T.beg.length
theorem ofT_in {T : Tr} (hT : TMk n T) {i : Nat} (hi : i < T.lits.length) : ofT T (litV T.lits[i]) = (mkAt T (litV T.lits[i]), true) := by
  obtain ⟨_, _, _, v1, v2, _⟩ := litN_ok hT.hn (hT.chk _ (List.getElem_mem hi))
  have hm := (hT.mark i hi).1
  unfold ofT
  rw [if_neg]
  rintro (h | h | h)
  · omega
  · rw [hT.len] at h; omega
  · rw [hm] at h; unfold sgnM at h; split at h <;> omega
theorem Grow.rows {C : Int → List Int → Prop} {T0 T : Tr} (hT : TOk n T0) (g : Grow C n T0 T) : TOk n T ∧ ∀ i, T0.lits.length ≤ i → ∀ (hi : i < T.lits.length), RowG C T i hi := by
  induction g with
  | refl => exact ⟨hT, fun i h1 h2 => absurd h2 (by omega)⟩
  | @step T k o c g0 h1 h2 h3 h4 h5 ih =>
    obtain ⟨ihT, ih⟩ := ih
    obtain ⟨m1, m2, m3⟩ := (ihT.may o).1 h3
    obtain ⟨_, _, _, v1, v2, _⟩ := litN_ok ihT.hn m1
    have hN := ihT.imp h3 k
    have hlt : litV o < T.marks.length := by rw [ihT.len]; omega
    have hle := g0.pre.1.length_le
    refine ⟨hN, fun i i1 hi => ?_⟩
    have hi0 : i < (T.lits ++ [o]).length := hi
    have hi' : i < T.lits.length + 1 := by simpa using hi0
    have hof := ofT_in hN.toTMk hi
    have hlev := (hN.mark i hi).2.1
    unfold RowG
    rw [hof]
    by_cases e : i < T.lits.length
    · have hg : ∀ h', (putT T o k).lits[i]'h' = T.lits[i] := fun h' => List.getElem_append_left e
      rw [hg] at hlev ⊢
      obtain ⟨c', r1, r2, r3, r4, r5⟩ := ih i i1 e
      have hne : litV T.lits[i] ≠ litV o := fun q => by
        rcases (litV_eqN ihT.hn (ihT.chk _ (List.getElem_mem e)) m1).1 q with q | q
        · exact m2 (q ▸ List.getElem_mem e)
        · exact m3 (q ▸ List.getElem_mem e)
      have hpos : 0 ≤ litV T.lits[i] := by have := (litN_ok ihT.hn (ihT.chk _ (List.getElem_mem e))).2.2.2.1; omega
      have hmk : mkAt (putT T o k) (litV T.lits[i]) = mkAt T (litV T.lits[i]) := by rw [mkAt_put T o k v1 hlt _ hpos, if_neg hne]
      rw [ofT_in ihT.toTMk e] at r1 r2 r5
      simp only [hmk]
      refine ⟨c', r1, r2, r3, ?_, r5⟩
      have ht : (putT T o k).lits.take i = T.lits.take i := List.take_append_of_le_length (Nat.le_of_lt e)
      rw [ht]
      exact r4
    · have hie : i = T.lits.length := by omega
      subst hie
      have hg : ∀ h', (putT T o k).lits[T.lits.length]'h' = o := fun h' => by
        show (T.lits ++ [o])[T.lits.length]'hi0 = o
        rw [List.getElem_append_right (Nat.le_refl _)]
        simp
      rw [hg]
      have hmk : mkAt (putT T o k) (litV o) = ⟨sgnM o, T.beg.length, k, T.lits.length⟩ := by rw [mkAt_put T o k v1 hlt _ (by omega), if_pos rfl]
      simp only [hmk]
      refine ⟨c, h1, h4, h2, ?_, rfl⟩
      have ht : (putT T o k).lits.take T.lits.length = T.lits := List.take_left
      rw [ht]
      exact h5
theorem CloOk.fol (h : CloOk n D) : FolOk D (prpS D.S D.T).2.1 (prpS D.S D.T).2.2 := by
  have hP := prp_is h.wok h.tok
  have hU := h.uok
  generalize prpS D.S D.T = Q at *
  obtain ⟨S2, T2, k⟩ := Q
  obtain ⟨p1, p2, p3, p4, p5, p6⟩ := hP
  simp only at p1 p2 p3 p4 p5 p6
  have hCW : ∀ k c, CW D.S k c → c ∈ clsW D.a D.on := fun k c ⟨p, hp, e⟩ => (h.cls_is c).2 ⟨k, p, hp, e⟩
  obtain ⟨_, hD⟩ := p4.der h.tok hCW
  obtain ⟨_, hR⟩ := p4.rows h.tok
  have hcons := p2.toTMk.cons
  have hpre := p4.pre.1
  have hle := hpre.length_le
  have hcls : ∀ c ∈ clsW D.a D.on, ∃ k p, lk S2.prs k = some p ∧ p.lits = c := fun c hc => by
    obtain ⟨k, p, hp, e⟩ := (h.cls_is c).1 hc
    obtain ⟨p', hp', e'⟩ := (p3.lits k c).2 ⟨p, hp, e⟩
    exact ⟨k, p', hp', e'⟩
  have hfails : ∀ {c}, c ∈ clsW D.a D.on → (clS T2.lits c = -1 ↔ ∀ y ∈ c, -y ∈ T2.lits) := fun hc => hU.fail hcons hc
  have hend : (k = -1 ∧ Calm (clsW D.a D.on) T2.lits) ∨ (0 ≤ k ∧ ∃ p, lk D.S.prs k = some p ∧ clS T2.lits p.lits = -1) := by
    rcases p6 with ⟨rfl, q⟩ | ⟨k0, p, hp, q⟩
    · refine .inl ⟨rfl, fun c hc => ?_⟩
      obtain ⟨k, p, hp, rfl⟩ := hcls c hc
      constructor
      · cases hu : (unitS T2.lits p.lits).2
        · rfl
        · obtain ⟨u1, u2, u3, u4⟩ := hU.unit hc hu
          rcases q k p hp with ⟨x, x1, x2⟩ | ⟨x, y, x1, y1, hxy, x2, y2⟩
          · by_cases e : x = (unitS T2.lits p.lits).1
            · exact absurd (e ▸ x2) u2
            · exact absurd (u4 x x1 e) (hcons x x2)
          · by_cases e : x = (unitS T2.lits p.lits).1
            · exact absurd (u4 y y1 (fun e2 => hxy (e.trans e2.symm))) y2
            · exact absurd (u4 x x1 e) x2
      · intro hf
        have hf := (hfails hc).1 hf
        rcases q k p hp with ⟨x, x1, x2⟩ | ⟨x, y, x1, y1, hxy, x2, y2⟩
        · exact hcons x x2 (hf x x1)
        · exact x2 (hf x x1)
    · obtain ⟨p', hp', e⟩ := (p3.lits k p.lits).1 ⟨p, hp, rfl⟩
      refine .inr ⟨k0, p', hp', ?_⟩
      rw [e]
      exact (hfails ((h.cls_is _).2 ⟨k, p', hp', e⟩)).2 q
  have hsame := der_same hU h.tok.toTMk.cons h.tok.toTMk.nodup hD (by
    rcases hend with ⟨_, q⟩ | ⟨_, p, hp, q⟩
    · exact .inl q
    · exact .inr ⟨p.lits, (h.cls_is _).2 ⟨k, p, hp, rfl⟩, q⟩)
  refine ⟨hle, ?_, ?_, ?_, ?_⟩
  · obtain ⟨t, ht⟩ := hpre
    rw [← ht]; exact List.take_left
  · show decide (0 ≤ k) = _
    rw [decide_eq_decide]
    rcases hend with ⟨rfl, q⟩ | ⟨k0, p, hp, q⟩
    · have := (hsame.2 q).1
      omega
    · exact ⟨fun _ => hsame.1.2 ⟨p.lits, (h.cls_is _).2 ⟨k, p, hp, rfl⟩, q⟩, fun _ => k0⟩
  · intro i h1 hi
    have hx := p2.chk _ (List.getElem_mem hi)
    obtain ⟨l0, l1, l2, _, _, lv, _⟩ := litN_ok p2.hn hx
    have hnn := p2.hn
    refine ⟨by omega, by omega, ?_⟩
    obtain ⟨c, ⟨p, hp, hpc⟩, r2, r3, r4, r5⟩ := hR i h1 hi
    rw [lv] at hp r2 r5
    obtain ⟨q, hq, hql, e⟩ := h.find hp
    refine ⟨q, hq, hql, h.mem.2 ⟨p, hp⟩, ?_, r5⟩
    rw [e, hpc]
    unfold rightS
    rw [Bool.and_eq_true]
    refine ⟨by simpa using r3, List.all_eq_true.2 fun x hx => ?_⟩
    by_cases c1 : x = T2.lits[i]
    · simp [c1]
    · have hxc := (h.wok.lits _ p hp).2.2.2 x (by rw [hpc]; exact hx)
      have := (val3N_m p2.hn hxc (l := T2.lits.take i)).2 ⟨fun hm => hcons x (List.mem_of_mem_take hm) (List.mem_of_mem_take (r4 x hx c1)), r4 x hx c1⟩
      simp [this]
  · rcases hend with ⟨rfl, q⟩ | ⟨k0, p, hp, q⟩
    · obtain ⟨s1, s2, s3⟩ := hsame.2 q
      refine .inr ⟨rfl, s2, ?_, closS_is q⟩
      unfold subS
      rw [List.all_eq_true]
      intro x hx
      unfold hasS
      have := s3 x hx
      cases okL x <;> simp [this]
    · obtain ⟨q2, hq, hql, e⟩ := h.find hp
      exact .inl ⟨k0, q2, hq, hql, h.mem.2 ⟨p, hp⟩, by rw [e]; exact q⟩
theorem CloOk.folK (h : CloOk n D) : CloOk n ⟨D.A, (prpS D.S D.T).2.1, (prpS D.S D.T).1, D.a, D.t, D.on, D.ats⟩ := by
  have hP := prp_is h.wok h.tok
  exact { rel := h.rel, hn := h.hn, vars := h.vars, tok := hP.tok, on := by show sortZ ((prpS D.S D.T).1.prs.map (·.1)) = D.on; rw [hP.same.keys]; exact h.on
          wok := hP.ok, cls := h.cls, row := h.row, rows := h.rows, ats := h.ats, few := h.few
          lits := fun k p hp => by
            obtain ⟨p', hp', e⟩ := (hP.same.lits k p.lits).1 ⟨p, hp, rfl⟩
            have := h.lits k p' hp'
            rw [e] at this
            exact this }
theorem CloOk.decK (h : CloOk n D) (l : Int) : CloOk n ⟨D.A, decT D.T l, D.S, D.a, D.t, D.on, D.ats⟩ :=
  { rel := h.rel, hn := h.hn, vars := h.vars, tok := h.tok.dec l, on := h.on, wok := h.wok, cls := h.cls, row := h.row, rows := h.rows, ats := h.ats, few := h.few, lits := h.lits }
theorem CloOk.att (h : CloOk n D) (k : Int) : attE D.A D.T D.S k = rattE D.a D.t.vars D.on k := att_same h.rel h.len h.on k
theorem CloOk.attK (h : CloOk n D) (k : Int) (hf : D.on.length < 500) : CloOk n ⟨D.A, D.T, attS D.A D.T D.S k, D.a, D.t, rattL D.a D.t.vars D.on k, D.ats⟩ := by
  have e := h.att k
  unfold attS rattL
  rw [e]
  by_cases c : rattE D.a D.t.vars D.on k = 0
  rotate_left
  · rw [if_neg c, if_neg c]; exact h
  rw [if_pos c, if_pos c]
  rw [← e] at c
  unfold attE at c
  split at c
  · omega
  rename_i c1
  split at c
  · omega
  rename_i c2
  split at c
  · omega
  rename_i c3
  have hno : (lk D.S.prs k).isSome = false := by simpa using c2
  have hnk : k ∉ D.S.prs.map (·.1) := fun hm => by rw [mem_keys.2 hm] at hno; cases hno
  have his : isA D.A k = true := by
    cases hq : isA D.A k
    · exact absurd ((h.rel.id0 k).2 hq) c1
    · rfl
  obtain ⟨f1, f2⟩ := (findA_is h.rel.toRelA k).1 his
  obtain ⟨q, hq, hql⟩ := findA_lt f1
  have hrow : litsA D.A k = D.a.rows[q].lits := by
    rw [← f2]
    unfold litsD
    rw [hq]
    simp [List.getD_eq_getElem?_getD, List.getElem?_eq_getElem hql]
  obtain ⟨n1, n2⟩ := h.cls _ (List.getElem_mem hql)
  rw [← hrow] at n1 n2
  have hchk : ∀ y ∈ litsA D.A k, litChk y n = 0 := fun y hy => by
    apply Classical.byContradiction
    intro hn
    apply c3
    rw [List.any_eq_true]
    refine ⟨y, hy, ?_⟩
    rw [h.len, h.vars]
    simp [hn]
  obtain ⟨p, m, rfl, ha⟩ := h.rel.arok k his
  have hal := ha.len
  have hro := h.row
  have hW := h.wok.put hnk ⟨by omega, by omega⟩ n1 n2 hchk (w64 ((lk D.S.late (p : Int)).getD 0 + 1))
  have hfr : pt D.S.prs (p : Int) ⟨litsA D.A p, 0, 0⟩ = D.S.prs ++ [((p : Int), ⟨litsA D.A p, 0, 0⟩)] := pt_fresh fun q hq e => hnk (List.mem_map.2 ⟨q, hq, e⟩)
  have hol : D.S.prs.length = D.on.length := by rw [← h.on]; unfold sortZ; rw [List.length_mergeSort, List.length_map]
  refine { rel := h.rel, hn := h.hn, vars := h.vars, tok := h.tok, cls := h.cls, row := h.row, rows := h.rows, ats := h.ats, on := ?_, wok := ?_, lits := ?_, few := by show (insW D.on p).length ≤ 500; rw [insW_len]; omega }
  · show sortZ ((pt D.S.prs (p : Int) _).map (·.1)) = insW D.on p
    rw [hfr, insW_is, ← h.on]
    refine sortZ_of ?_ (insR_rise p (sortZ_pairwise _))
    rw [List.map_append]
    refine List.perm_append_comm.trans ?_
    refine List.Perm.trans ?_ (insR_perm p _).symm
    refine List.Perm.cons _ ?_
    unfold sortZ
    exact (List.mergeSort_perm _ _).symm
  · exact { hW with
      few := by show (pt D.S.prs (p : Int) _).length ≤ 1000000; rw [hfr, List.length_append, hol]; simp; omega
      h0 := h.wok.h0, h1 := h.wok.h1, sl := h.wok.sl, clr := h.wok.clr }
  · intro k' p' hp'
    have hp' : lk (pt D.S.prs (p : Int) ⟨litsA D.A p, 0, 0⟩) k' = some p' := hp'
    by_cases e : k' = p
    · subst e; rw [lk_ptS] at hp'; cases hp'; exact ⟨his, rfl⟩
    · rw [lk_ptN e] at hp'; exact h.lits k' p' hp'
end

section
variable {n : Nat}
end
theorem chkC_nodupN {c : List Int} {m : Int} (h : chkC c m = 0) : c.Nodup ∧ c.length ≤ 1000 := by
  unfold chkC at h
  split at h
  · omega
  · split at h
    · omega
    · split at h
      · omega
      · split at h
        · rename_i h1 h2 h3 h4; exact ⟨dup_nodup h4, by omega⟩
        · omega
theorem putJ_cls (cs : List (List Int)) : ∀ i, ∀ x ∈ (putJ cs i).a.rows, x.lits.Nodup ∧ x.lits.length ≤ 1000
  | 0 => by simp [putJ]
  | i + 1 => by
    intro x hx
    rw [putJ, putJ1] at hx
    have hx : x ∈ (putRA (putJ cs i).a ((i + 1 : Nat) : Int) (cs.getD i [])).rows := hx
    unfold putRA at hx
    split at hx
    · rename_i h
      rcases List.mem_append.1 hx with hx | hx
      · exact putJ_cls cs i x hx
      · simp at hx
        rw [hx]
        unfold putEA at h
        split at h
        · omega
        · exact chkC_nodupN h
    · exact putJ_cls cs i x hx
theorem begW_clo {cs : List (List Int)} (hc : fewC cs) : CloOk 6 (begW cs) := by
  have hS := begW_small hc
  have hP := begW_play hc
  exact { rel := hP.rel, hn := by omega, vars := rfl, tok := TOk.new (n := 6) (by omega), on := hP.on
          wok := { nd := by simp [begW], lits := fun k p hp => by (cases hp), lnd := by simp [begW], lpr := fun k hk => by simp [begW] at hk
                   two := fun k p hp => by (cases hp), bnd := fun l => by simp [begW, bF, lk]
                   mem := fun l k => by
                     constructor
                     · intro h; simp [begW, bF, lk] at h
                     · rintro ⟨_, p, hp, _⟩; cases hp
                   few := by simp [begW], h0 := by simp [begW], h1 := by simp [begW], sl := by simp [begW]
                   clr := fun y hy => by simp [begW] at hy }
          lits := fun k p hp => by (cases hp)
          cls := putJ_cls cs cs.length, row := hS.row, rows := hS.rows, ats := hS.ats, few := by simp [begW] }

def RowR (A : Ar) (ls : List Int) (T : Tr) (i : Nat) (hi : i < T.lits.length) : Prop :=
  ((ofT T (litV T.lits[i])).1.rea < 0 ∧ T.lits[i] ∈ ls) ∨ (0 ≤ (ofT T (litV T.lits[i])).1.rea ∧ isA A (ofT T (litV T.lits[i])).1.rea = true ∧ (litsA A (ofT T (litV T.lits[i])).1.rea).length ≤ 1000 ∧ (∀ y ∈ litsA A (ofT T (litV T.lits[i])).1.rea, litChk y 6 = 0) ∧ T.lits[i] ∈ litsA A (ofT T (litV T.lits[i])).1.rea ∧ ∀ y ∈ litsA A (ofT T (litV T.lits[i])).1.rea, y ≠ T.lits[i] → -y ∈ T.lits.take i)
section
variable {n : Nat}
theorem Grow.old {C : Int → List Int → Prop} {T0 T : Tr} (hT : TOk n T0) (g : Grow C n T0 T) : TOk n T ∧ ∀ i (hi : i < T0.lits.length), mkAt T (litV T0.lits[i]) = mkAt T0 (litV T0.lits[i]) := by
  induction g with
  | refl => exact ⟨hT, fun _ _ => rfl⟩
  | @step T k o c g0 h1 h2 h3 h4 h5 ih =>
    obtain ⟨ihT, ih⟩ := ih
    obtain ⟨m1, m2, m3⟩ := (ihT.may o).1 h3
    obtain ⟨_, _, _, v1, v2, _⟩ := litN_ok ihT.hn m1
    refine ⟨ihT.imp h3 k, fun i hi => ?_⟩
    have hsub := g0.pre.1.subset (List.getElem_mem hi)
    have hchk := ihT.chk _ hsub
    have hne : litV T0.lits[i] ≠ litV o := fun q => by
      rcases (litV_eqN ihT.hn hchk m1).1 q with q | q
      · exact m2 (q ▸ hsub)
      · exact m3 (q ▸ hsub)
    have hpos : 0 ≤ litV T0.lits[i] := by have := (litN_ok ihT.hn hchk).2.2.2.1; omega
    rw [mkAt_put T o k v1 (by rw [ihT.len]; omega) _ hpos, if_neg hne]
    exact ih i hi
theorem RowR.same {A : Ar} {ls : List Int} {T T' : Tr} (hT : TMk n T) (hT' : TMk n T') (hp : T.lits <+: T'.lits) {i : Nat} (hi : i < T.lits.length) (hi' : i < T'.lits.length) (hm : (mkAt T' (litV T.lits[i])).rea = (mkAt T (litV T.lits[i])).rea) (h : RowR A ls T i hi) : RowR A ls T' i hi' := by
  obtain ⟨t, ht⟩ := hp
  have hg : T'.lits[i] = T.lits[i] := by
    have h1 : T'.lits[i]? = T.lits[i]? := by rw [← ht, List.getElem?_append_left hi]
    rw [List.getElem?_eq_getElem hi', List.getElem?_eq_getElem hi] at h1
    exact Option.some.inj h1
  have htk : T'.lits.take i = T.lits.take i := by rw [← ht]; exact List.take_append_of_le_length (Nat.le_of_lt hi)
  have hr : (ofT T' (litV T'.lits[i])).1.rea = (ofT T (litV T.lits[i])).1.rea := by
    rw [ofT_in hT' hi', ofT_in hT hi, hg]; exact hm
  unfold RowR
  rw [hr, hg, htk]
  exact h
end
def RowsR (A : Ar) (ls : List Int) (T : Tr) : Prop := ∀ i (hi : i < T.lits.length), RowR A ls T i hi
theorem RowsR.dec {A : Ar} {ls : List Int} {T : Tr} (hT : TOk 6 T) (h : RowsR A ls T) {l : Int} (hl : l ∈ ls) : RowsR A ls (decT T l) := by
  have hN := hT.dec l
  unfold decT at hN ⊢
  by_cases c : mayT T l = 0
  rotate_left
  · rw [if_neg c]; exact h
  rw [if_pos c] at hN ⊢
  obtain ⟨m1, m2, m3⟩ := (hT.may l).1 c
  obtain ⟨_, _, _, v1, v2, _⟩ := litN_ok hT.hn m1
  have hlt : litV l < (begT T).marks.length := by show litV l < T.marks.length; rw [hT.len]; omega
  intro i hi
  have hi0 : i < (T.lits ++ [l]).length := hi
  have hi1 : i < T.lits.length + 1 := by simpa using hi0
  by_cases e : i < T.lits.length
  · refine (h i e).same hT.toTMk hN.toTMk (List.prefix_append _ _) e hi ?_
    have hchk := hT.chk _ (List.getElem_mem e)
    have hne : litV T.lits[i] ≠ litV l := fun q => by
      rcases (litV_eqN hT.hn hchk m1).1 q with q | q
      · exact m2 (q ▸ List.getElem_mem e)
      · exact m3 (q ▸ List.getElem_mem e)
    have hpos : 0 ≤ litV T.lits[i] := by have := (litN_ok hT.hn hchk).2.2.2.1; omega
    rw [mkAt_put (begT T) l (-1) v1 hlt _ hpos, if_neg hne]
    rfl
  · have hie : i = T.lits.length := by omega
    subst hie
    have hg : ∀ h', (putT (begT T) l (-1)).lits[T.lits.length]'h' = l := fun h' => by
      show (T.lits ++ [l])[T.lits.length]'hi0 = l
      rw [List.getElem_append_right (Nat.le_refl _)]
      simp
    unfold RowR
    rw [ofT_in hN.toTMk hi, hg]
    have hmk : mkAt (putT (begT T) l (-1)) (litV l) = ⟨sgnM l, (begT T).beg.length, -1, (begT T).lits.length⟩ := by rw [mkAt_put (begT T) l (-1) v1 hlt _ (by omega), if_pos rfl]
    rw [hmk]
    exact .inl ⟨by show (-1 : Int) < 0; omega, hl⟩
theorem RowsR.fol {D : DW} (hC : CloOk 6 D) {ls : List Int} (h : RowsR D.A ls D.T) : RowsR D.A ls (prpS D.S D.T).2.1 := by
  have hP := prp_is hC.wok hC.tok
  have hg := hP.grow
  have hN := hP.tok
  generalize (prpS D.S D.T).2.1 = T2 at *
  obtain ⟨_, ho⟩ := hg.old hC.tok
  obtain ⟨_, hr⟩ := hg.rows hC.tok
  intro i hi
  by_cases e : i < D.T.lits.length
  · exact (h i e).same hC.tok.toTMk hN.toTMk hg.pre.1 e hi (by rw [ho i e])
  · obtain ⟨c, ⟨p, hp, hpc⟩, r2, r3, r4, _⟩ := hr i (by omega) hi
    obtain ⟨q1, q2⟩ := hC.lits _ p hp
    obtain ⟨_, _, w3, w4⟩ := hC.wok.lits _ p hp
    rw [hpc] at q2 w3 w4
    refine .inr ⟨r2, q1, ?_, ?_, ?_, ?_⟩
    · rw [← q2]; exact w3
    · rw [← q2]; exact w4
    · rw [← q2]; exact r3
    · rw [← q2]; exact r4
theorem CloOk.again {n : Nat} {D : DW} (h : CloOk n D) (hk : ¬ 0 ≤ (prpS D.S D.T).2.2) :
    (prpS (prpS D.S D.T).1 (prpS D.S D.T).2.1).2.2 = -1 ∧ (prpS (prpS D.S D.T).1 (prpS D.S D.T).2.1).2.1.lits = (prpS D.S D.T).2.1.lits := by
  have hF := h.fol
  have hN := h.folK
  have hF2 := hN.fol
  generalize prpS D.S D.T = Q at *
  obtain ⟨S2, T2, k⟩ := Q
  simp only at *
  have hcl : closS (clsW D.a D.on) T2.lits = true := by
    rcases hF.fin with ⟨q, _⟩ | ⟨_, _, _, q⟩
    · exact absurd q hk
    · exact q
  have hcalm : Calm (clsW D.a D.on) T2.lits := by
    unfold closS at hcl
    rw [Bool.and_eq_true, decide_eq_true_eq] at hcl
    exact calm_of hcl.2 (by simpa using hcl.1)
  have hU := hN.uok
  have hcons := hN.tok.toTMk.cons
  have hps := propS_is hU hcons hN.tok.toTMk.nodup
  have hstay : propS (clsW D.a D.on) T2.lits = (T2.lits, [], -1) := by
    unfold propS
    rw [propF_step]
    have h1 : ¬ 0 ≤ failS (clsW D.a D.on) T2.lits := fun q => by
      obtain ⟨i, hi, _, e⟩ := fail_of q
      exact (hcalm _ (List.getElem_mem hi)).2 e
    have h2 : (nextS (clsW D.a D.on) T2.lits).2.2 = false := by
      have := hcl
      unfold closS at this
      rw [Bool.and_eq_true] at this
      simpa using this.1
    rw [if_neg h1, if_pos h2]
  have hb := hF2.bad
  simp only at hb
  rw [hstay] at hb
  have hk2 : ¬ 0 ≤ (prpS S2 T2).2.2 := by simpa using hb
  rcases hF2.fin with ⟨q, _⟩ | ⟨q1, q2, _, _⟩
  · exact absurd q hk2
  · refine ⟨q1, ?_⟩
    have q2 : (prpS S2 T2).2.1.lits.length = (propS (clsW D.a D.on) T2.lits).1.length := q2
    rw [hstay] at q2
    have hp := hF2.pre
    simp only at hp
    rw [← hp, List.take_of_length_le (by simp only at q2; omega)]
structure LayR (h : List (List SV)) (cs : List (List Int)) (mp : List (Int × Nat)) (mb : List (Int × By)) (D : DW) : Prop where
  lay : LayW h 4 1 3 mp mb D.A D.T D.S
  d : h[5]? = some (dwB 1 3 4 (begW cs))
  nd : ¬ DomW 4 3 mp mb 5
theorem LayR.go {h h' : List (List SV)} {cs : List (List Int)} {mp mp' : List (Int × Nat)} {mb mb' : List (Int × By)} {D D' : DW} (L : LayR h cs mp mb D) (l : LayW h' 4 1 3 mp' mb' D'.A D'.T D'.S) (e : Ext h h' (DomW 4 3 mp mb) (DomW 4 3 mp' mb')) : LayR h' cs mp' mb' D' := by
  have hl := (List.getElem?_eq_some_iff.1 L.d).1
  exact ⟨l, by rw [e.same 5 hl L.nd, L.d], fun hd => L.nd (e.sub 5 hl hd)⟩
def wr9Sch : Sch :=
  let s0 : Sch := .fork [(7, .done)]
  let s1 : Sch := .fork [(6, s0)]
  let s2 : Sch := .fork [(3, .take 5 s1)]
  let s3 : Sch := .fork [(1, s0)]
  let s4 : Sch := .fork [(1, s1), (6, s3)]
  let s5 : Sch := .fork [(1, s2), (3, .take 5 s4)]
  .take 0 (.take 2 (.take 4 s5))
def wr15Sch : Sch :=
  let s0 : Sch := .fork [(6, .done)]
  let s1 : Sch := .fork [(5, s0)]
  let s2 : Sch := .fork [(1, s0)]
  let s3 : Sch := .fork [(1, s1), (5, s2)]
  .take 0 (.take 2 (.take 3 (.take 4 s3)))
def few15 (cs : List (List Int)) (ls : List Int) : Bool := few8 cs ls && decide (cs.length ≤ 30)
theorem few15_few {cs : List (List Int)} {ls : List Int} (h : few15 cs ls = true) : fewC cs ∧ cs.length ≤ 30 ∧ ls.length ≤ 60 := by
  unfold few15 few8 few4 at h
  simp only [Bool.and_eq_true, decide_eq_true_eq, List.all_eq_true] at h
  exact ⟨⟨by omega, fun x hx => by have := h.1.1.1.2 x hx; omega⟩, by omega, by omega⟩
theorem begW_layR (x y : List SV) (cs : List (List Int)) : LayR [x, arB (begW cs).A, y, trB (begW cs).T, wtB 1 3 ⟨[], [], [], 0, []⟩, dwB 1 3 4 (begW cs)] cs [] [] (begW cs) :=
  ⟨(begW_lay x y cs).lay, rfl, (begW_lay x y cs).nd⟩
set_option maxRecDepth 32000 in
set_option maxHeartbeats 2000000 in
theorem watchReasons_ok (cs : List (List Int)) (ls : List Int) : APure Try.prog 3 [.seq false 1 (cs.map crowF), .seq false 1 (irow ls)] (fun r => r = .pv (BL true)) := by
  refine apure1B [9, 15] hmo Try.func3 (by kernel_rfl) rfl rfl (by kernel_rfl) (Nat.le_of_ble_eq_true rfl) ?_
  have kFew := few8_ok cs ls
  have hF : few15 cs ls = (few8 cs ls && decide (cs.length ≤ 30)) := rfl
  have hf' : few15 cs ls = true → fewC cs ∧ cs.length ≤ 30 ∧ ls.length ≤ 60 := few15_few
  generalize few15 cs ls = F at *
  simp
  refine CallK.intro kFew (by simp) ?_
  cases F with
  | false =>
    have e1 : decide ((30 : Int) < cs.length) = !decide (cs.length ≤ 30) := by
      by_cases c : cs.length ≤ 30
      · have c2 : ¬ (30 : Int) < cs.length := by omega
        simp [c, c2]
      · have c2 : (30 : Int) < cs.length := by omega
        simp [c, c2]
    cases h8 : few8 cs ls
    · simp
      refine CallK.intro w14Awake_ok (by simp) ?_
      simp
    · rw [h8] at hF
      have h9 : decide (cs.length ≤ 30) = false := by simpa using hF.symm
      simp [e1, h9]
      refine CallK.intro w14Awake_ok (by simp) ?_
      simp
  | true =>
  obtain ⟨hc, f2, f3⟩ := hf' rfl
  have f2' : ¬ (30 : Int) < cs.length := by omega
  have f8 : few8 cs ls = true := by
    cases h8 : few8 cs ls
    · rw [h8] at hF; cases hF
    · rfl
  have kB := wbegun_ok [] cs hc
  have hC0 := begW_clo hc
  have hat : (begW cs).ats.length ≤ 30 := by show (putJ cs cs.length).ats.length ≤ 30; have := putJ_len cs cs.length; omega
  have hR0 : ∀ i (hi : i < (begW cs).T.lits.length), False := fun i hi => by simp [begW, newT] at hi
  simp [f8, f2']
  refine CallK.introM kB (by simp) ?_
  rintro _ _ ⟨⟨bx, bz, rfl⟩, rfl⟩
  simp [dwA]
  generalize hE : begW cs = E at *
  have hl0 := begW_layR bx bz cs
  rw [hE] at hl0
  refine ALoop.intro (S := fun (x : Nat × List (List SV) × List (Int × Nat) × List (Int × By) × DW) => ⟨[(1, .pv (.seq false 1 (irow ls))), (5, .pv (.ptr 5 0)), (6, .pv (I64 x.1))], x.2.1⟩)
    (fun x => x.1 ≤ E.ats.length ∧ LayR x.2.1 cs x.2.2.1 x.2.2.2.1 x.2.2.2.2 ∧ CloOk 6 x.2.2.2.2 ∧ x.2.2.2.2.on.length ≤ x.1 ∧ x.2.2.2.2.T = E.T) (fun x => E.ats.length - x.1)
    (0, [bx, arB E.A, bz, trB E.T, wtB 1 3 ⟨[], [], [], 0, []⟩, dwB 1 3 4 E], [], [], E) ?_ ⟨Nat.zero_le _, hl0, hC0, by rw [← hE]; exact Nat.le_refl _, rfl⟩ ?_
  · refine Weak.le (by simp) ?_
    simp [dwB, wkCs_refl]
  rintro ⟨i, H, mp, mb, D⟩ ⟨hi, L, hC, hon, hDT⟩
  dsimp only at hi L hC hon hDT
  have hLd := L.d
  rw [hE] at hLd
  obtain ⟨d1, d2⟩ := List.getElem?_eq_some_iff.1 hLd
  by_cases d : i < E.ats.length
  · have hw' : w64 ((i : Int) + 1) = ((i + 1 : Nat) : Int) := by rw [w64_id (by omega) (by omega)]; omega
    have hq : E.ats[i]? = some E.ats[i] := List.getElem?_eq_getElem d
    have hfw := hC.tok.few
    have hml : D.T.marks.length ≤ 1000000 := by rw [hC.tok.len]; omega
    have kA := wattach_ok H 4 1 3 mp mb D.A D.T D.S L.lay hC.rel.arok hC.row hml (by omega) E.ats[i]
    have hCn := hC.attK E.ats[i] (by omega)
    have hLn := rattL_len D.a D.t.vars D.on E.ats[i]
    simp [d1, d2, dwB, d]
    refine AAnyD.one wr9Sch (by kernel_rfl) ?_
    simp [wr9Sch, d1, d2, dwB, d]
    and_intros
    all_goals
      refine CallB.intro kA (by simp) ?_
      rintro _ H2 ⟨rfl, mp2, L2, E2⟩
      simp
      exact ⟨(i + 1, H2, mp2, mb, ⟨D.A, D.T, attS D.A D.T D.S E.ats[i], D.a, D.t, rattL D.a D.t.vars D.on E.ats[i], D.ats⟩), by (try dsimp only); omega, ⟨by (try dsimp only); omega, L.go L2 E2, hCn, by (try dsimp only); omega, hDT⟩, Weak.keep (by simp [hw']) rfl⟩
  have hR1 : RowsR D.A ls D.T := fun j hj => absurd (hDT ▸ hj) (fun h => hR0 j h)
  simp [d1, d2, dwB, d]
  refine ALoop.intro (S := fun (x : Nat × List (List SV) × List (Int × Nat) × List (Int × By) × DW) => ⟨[(1, .pv (.seq false 1 (irow ls))), (5, .pv (.ptr 5 0)), (7, .pv (I64 x.1))], x.2.1⟩)
    (fun x => x.1 ≤ ls.length ∧ LayR x.2.1 cs x.2.2.1 x.2.2.2.1 x.2.2.2.2 ∧ CloOk 6 x.2.2.2.2 ∧ RowsR x.2.2.2.2.A ls x.2.2.2.2.T) (fun x => ls.length - x.1)
    (0, H, mp, mb, D) ?_ ⟨Nat.zero_le _, L, hC, hR1⟩ ?_
  · exact Weak.keep (by simp) rfl
  clear hR1 hDT hon hC L d1 d2 hLd hl0 hR0 d hi
  rintro ⟨j, H, mp, mb, D⟩ ⟨hj, L, hC, hR⟩
  dsimp only at hj L hC hR
  have hLd := L.d
  rw [hE] at hLd
  obtain ⟨d1, d2⟩ := List.getElem?_eq_some_iff.1 hLd
  have kW := wprop_ok H 4 1 3 mp mb D.A L.lay hC.wok hC.tok
  have hC2 := hC.folK
  have hR2 := RowsR.fol hC hR
  have hag := hC.again
  have hf2 := hC2.tok.few
  obtain ⟨Q, hQ⟩ : ∃ Q, prpS D.S D.T = Q := ⟨_, rfl⟩
  rw [hQ] at kW hC2 hR2 hag hf2
  obtain ⟨S2, T2, k2⟩ := Q
  simp only at kW hC2 hR2 hag hf2
  by_cases d : j < ls.length
  · have hw' : w64 ((j : Int) + 1) = ((j + 1 : Nat) : Int) := by rw [w64_id (by omega) (by omega)]; omega
    have hq : ls[j]? = some ls[j] := List.getElem?_eq_getElem d
    simp [d1, d2, dwB, d]
    refine CallB.intro kW (by simp) ?_
    rintro _ H2 ⟨rfl, mb2, L2, E2⟩
    have LR2 : LayR H2 cs mp mb2 ⟨D.A, T2, S2, D.a, D.t, D.on, D.ats⟩ := L.go L2 E2
    have hLd2 := LR2.d
    rw [hE] at hLd2
    obtain ⟨g1, g2⟩ := List.getElem?_eq_some_iff.1 hLd2
    by_cases c : 0 ≤ k2
    · simp [c]
      refine CallK.intro w14Awake_ok (by simp) ?_
      simp
    · have hbl : T2.beg.length ≤ 1000000 := by
        have h1 : T2.beg.Nodup := hC2.tok.rise.imp (fun h => Int.ne_of_lt h)
        have := len_of_sub T2.beg ((List.range T2.lits.length).map Int.ofNat) h1 (fun b hb => by
          have := hC2.tok.bnd b hb
          simp only at this
          exact List.mem_map.2 ⟨b.toNat, List.mem_range.2 (by omega), by show ((b.toNat : Nat) : Int) = b; omega⟩)
        rw [List.length_map, List.length_range] at this
        omega
      have kT := tdecide_ok H2 3 T2 L2.t ls[j] hC2.tok.okT (by omega) hbl
      have hR3 := hR2.dec hC2.tok (List.getElem_mem d)
      have hC3 := hC2.decK ls[j]
      simp only at hC3
      simp [c, g1, g2, dwB]
      refine AAnyD.one wr15Sch (by kernel_rfl) ?_
      simp [wr15Sch, g1, g2, dwB, d]
      and_intros
      all_goals
        refine CallB.intro kT (by simp) ?_
        rintro _ _ ⟨rfl, rfl⟩
        simp
        exact ⟨(j + 1, _, mp, mb2, ⟨D.A, decT T2 ls[j], S2, D.a, D.t, D.on, D.ats⟩), by (try dsimp only); omega, ⟨by (try dsimp only); omega, ⟨L2.setT _, by rw [List.getElem?_set_ne (by omega)]; exact LR2.d, LR2.nd⟩, hC3, hR3⟩, Weak.keep (by simp [hw']) rfl⟩
  simp [d1, d2, dwB, d]
  refine CallB.intro kW (by simp) ?_
  rintro _ H2 ⟨rfl, mb2, L2, E2⟩
  have LR2 : LayR H2 cs mp mb2 ⟨D.A, T2, S2, D.a, D.t, D.on, D.ats⟩ := L.go L2 E2
  have hLd2 := LR2.d
  rw [hE] at hLd2
  obtain ⟨g1, g2⟩ := List.getElem?_eq_some_iff.1 hLd2
  by_cases c : 0 ≤ k2
  · simp [c]
    refine CallK.intro w14Awake_ok (by simp) ?_
    simp
  have hz2 := frz_tr0 L2.t 2
  have kL2 := tlits_ok T2 (by omega)
  have kW2 := wprop_ok H2 4 1 3 mp mb2 D.A L2 hC2.wok hC2.tok
  have hC3 := hC2.folK
  have hR3 := RowsR.fol hC2 hR2
  obtain ⟨ag1, ag2⟩ := hag c
  simp only at hC3 hR3 kW2
  obtain ⟨Q, hQ2⟩ : ∃ Q, prpS S2 T2 = Q := ⟨_, rfl⟩
  rw [hQ2] at kW2 hC3 hR3 ag1 ag2
  obtain ⟨S3, T3, k3⟩ := Q
  simp only at kW2 hC3 hR3 ag1 ag2
  subst ag1
  simp [c, g1, g2, dwB, hz2]
  refine CallB.introP kL2 (by simp) (by simp) ?_
  simp [g1, g2, dwB]
  refine CallB.intro kW2 (by simp) ?_
  rintro _ H3 ⟨rfl, mb3, L3, E3⟩
  have LR3 : LayR H3 cs mp mb3 ⟨D.A, T3, S3, D.a, D.t, D.on, D.ats⟩ := LR2.go L3 E3
  have hLd3 := LR3.d
  rw [hE] at hLd3
  obtain ⟨u1, u2⟩ := List.getElem?_eq_some_iff.1 hLd3
  have hz3 := frz_tr0 L3.t 2
  have hza := frz_ar0 L3.a 2
  have kL3 := tlits_ok T3 (by rw [ag2]; omega)
  have kS := sameInts_ok T3.lits T2.lits (by rw [ag2]; omega)
  rw [ag2] at kL3 kS
  simp [u1, u2, dwB, hz3]
  refine CallB.introP kL3 (by simp) (by simp) ?_
  simp
  refine CallG.intro (fun _ => kS) (by simp) ?_
  simp
  refine ALoop.intro (S := fun (i : Nat) => ⟨[(1, .pv (.seq false 1 (irow ls))), (5, .pv (.ptr 5 0)), (8, .own true 1 (irow T2.lits)), (9, .pv (I64 i))], H3⟩) (fun i => i ≤ T2.lits.length) (fun i => T2.lits.length - i) 0 ?_ (Nat.zero_le _) ?_
  · exact Weak.keep (by simp) rfl
  intro i hi
  by_cases e : i < T2.lits.length
  · have hw' : w64 ((i : Int) + 1) = ((i + 1 : Nat) : Int) := by rw [w64_id (by omega) (by omega)]; omega
    have hq : T2.lits[i]? = some T2.lits[i] := List.getElem?_eq_getElem e
    have hrow := hR3 i (by rw [ag2]; exact e)
    have hchk := hC2.tok.chk _ (List.getElem_mem e)
    obtain ⟨l0, l1, l2, _, _, lv, _⟩ := litN_ok (n := 6) (by omega) hchk
    have hneg : w64 (-T2.lits[i]) = -T2.lits[i] := w64_id (by omega) (by omega)
    have hmx : (if T2.lits[i] < -T2.lits[i] then -T2.lits[i] else T2.lits[i]) = absS T2.lits[i] := by unfold absS; split <;> split <;> omega
    have kRe := treason_ok T3 (absS T2.lits[i]) hC3.tok.okT
    have hg3 : T3.lits[i]'(by rw [ag2]; exact e) = T2.lits[i] := by simp only [ag2]
    unfold RowR at hrow
    rw [hg3, lv, ag2] at hrow
    have htk : List.take i (irow T2.lits) = irow (T2.lits.take i) := by unfold irow; rw [List.map_take]
    have kHa := refHas_ok ls T2.lits[i] (by omega)
    have kRi := fun (c : List Int) (hc : c.length ≤ 1000000) => rright_ok (T2.lits.take i) T2.lits[i] c (by rw [List.length_take]; omega) hc
    have kLi := fun (q : Int) (h0 : D.A.hd ≠ []) => alitsF_ok D.A h0 hC.rel.arok hC.row q
    generalize (ofT T3 (absS T2.lits[i])).1.rea = rea at *
    generalize absS T2.lits[i] = v at *
    have hil : i ≤ T2.lits.length := by omega
    simp [e, hq, hneg, hmx, u1, u2, dwB, hz3]
    refine CallQ0.intro kRe (by simp) ?_
    rcases hrow with ⟨r1, r2⟩ | ⟨r1, r2, r3, r4, r5, r6⟩
    · have r1' : ¬ 0 ≤ rea := by omega
      have hHa : decide (T2.lits[i] ∈ ls) = true := by simpa using r2
      rw [hHa] at kHa
      simp [r1, r1', e, hq, u1, u2, dwB, hz3]
      refine CallQ.intro (fun _ => kHa) (by simp) ?_
      simp [r1, r1', e, hq, u1, u2, dwB, hz3, hza, hil, htk]
      refine CallQ.intro (r := .pv (.seq false 1 [])) (fun h => h.elim) (by simp) ?_
      simp [r1, r1', e, hq, u1, u2, dwB, hz3, hza, hil, htk]
      refine CallQ.intro (r := .pv (BL true)) (fun h => h.elim) (by simp) ?_
      simp
      exact ⟨i + 1, by (try dsimp only); omega, by (try dsimp only); omega, Weak.keep (by simp [hw']) rfl⟩
    · have r1' : ¬ rea < 0 := by omega
      have h0 : D.A.hd ≠ [] := isA_hd r2
      have hRi : rightS (T2.lits.take i) T2.lits[i] (litsA D.A rea) = true := by
        unfold rightS
        rw [Bool.and_eq_true]
        refine ⟨by simpa using r5, List.all_eq_true.2 fun x hx => ?_⟩
        by_cases c1 : x = T2.lits[i]
        · simp [c1]
        · have hcons := hC2.tok.toTMk.cons
          have := (val3N_m (n := 6) (by omega) (r4 x hx) (l := T2.lits.take i)).2 ⟨fun hm => hcons x (List.mem_of_mem_take hm) (List.mem_of_mem_take (r6 x hx c1)), r6 x hx c1⟩
          simp [this]
      have kRi2 := kRi (litsA D.A rea) (by omega)
      rw [hRi] at kRi2
      simp [r1, r1', e, hq, u1, u2, dwB, hz3, hza, hil, htk]
      refine CallQ.intro (r := .pv (BL true)) (fun h => h.elim) (by simp) ?_
      simp [r1, r1', e, hq, u1, u2, dwB, hz3, hza, hil, htk]
      refine CallQ.intro (fun _ => kLi rea h0) (by simp) ?_
      simp [r1, r1', e, hq, u1, u2, dwB, hz3, hza, hil, htk]
      refine CallQ.intro (fun _ => kRi2) (by simp) ?_
      simp
      exact ⟨i + 1, by (try dsimp only); omega, by (try dsimp only); omega, Weak.keep (by simp [hw']) rfl⟩
  · have hie : i = T2.lits.length := by omega
    subst hie
    simp
    refine CallK.intro w14Awake_ok (by simp) ?_
    simp
end Go.AX
