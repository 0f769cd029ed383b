/-
  Contracts: the one literal of the greatest level first; what a conflict teaches.
  What is gathered of reasons is all that is needed (plain law).
  Hints that were found show what a conflict teaches (plain law).
  Contracts: the document's chains of hints.
  Contracts: do hints show literals?
  Contracts: the probe of the layer reason.
  Contracts: ReasonShown.
  Contracts: trails that go back.
  Plain facts: the level to which one goes back, and what fails there.
  Contracts: ReasonAsserts.
-/
import Derived.Test.YtklaffmpfmpffaaGreatS11AxRnI
import Derived.Test.YtklaffmpfmpffaaGreatS11AxShelf2
import Derived.Test.YtklaffmpfmpffaaGreatAxDl
namespace Go.AX
open Go.Proofs
set_option linter.unusedSimpArgs false

theorem firTo_at (T : Tr) (out : List Int) : ∀ i, (firTo T out i).2.1 ≤ i ∧ ((firTo T out i).2.1 = 0 ∨ (firTo T out i).2.2 < i) ∧ (firTo T out i).2.2 ≤ i
  | 0 => ⟨Nat.le_refl _, .inl rfl, Nat.le_refl _⟩
  | i + 1 => by
    have ih := firTo_at T out i
    rw [firTo]
    split
    · exact ⟨by dsimp only; omega, .inr (by dsimp only; omega), by dsimp only; omega⟩
    · split
      · refine ⟨by dsimp only; omega, ?_, by dsimp only; omega⟩
        dsimp only
        rename_i c1 c2
        rcases ih.2.1 with e | e
        · exact .inr (by omega)
        · exact .inr (by omega)
      · exact ⟨by omega, ih.2.1.imp id (fun e => by omega), by omega⟩
set_option maxRecDepth 16000 in
theorem rfirst_ok (T : Tr) (lits : List Int) (ht : T.ok) (hl : lits.length ≤ 1000000) : APure Tryz.prog 90 [trP T, .seq false 1 (irow lits)] (fun r => r = .own true 1 (irow (firS T lits))) := by
  refine apure1 hmo Tryz.func90 (by kernel_rfl) rfl rfl (by kernel_rfl) (Nat.le_of_ble_eq_true rfl) ?_
  have hN := norm_ok lits hl
  have hnl := normS_len lits
  unfold firS firP
  generalize normS lits = out at *
  simp
  refine CallK.intro hN (by simp) ?_
  simp
  refine ALoop.intro (S := fun (i : Nat) => ⟨[(0, .pv (trP T)), (5, .own true 1 (irow out)), (6, .pv (I64 (firTo T out i).1)), (7, .pv (I64 (firTo T out i).2.1)), (8, .pv (I64 (firTo T out i).2.2)), (15, .al (.slot 5)), (16, .pv (I64 out.length)), (17, .pv (I64 i))], []⟩) (fun i => i ≤ out.length) (fun i => out.length - i) 0 ?_ (Nat.zero_le _) ?_
  · exact Weak.to (by simp [firTo]) (by simp) (by simp) (by simp) (by simp)
  intro i hi
  obtain ⟨a1, a2, a3⟩ := firTo_at T out i
  by_cases h : i < out.length
  · have hw : w64 ((i : Int) + 1) = ((i + 1 : Nat) : Int) := by rw [w64_id (by omega) (by omega)]; omega
    have hg : out.getD i 0 = out[i] := by rw [List.getD_eq_getElem?_getD, List.getElem?_eq_getElem h]; rfl
    have hlv := tlevel_ok T (litV out[i]) ht
    have hsu : firTo T out (i + 1) = if (firTo T out i).1 < (ofT T (litV out[i])).1.lev then ((ofT T (litV out[i])).1.lev, 1, i) else if (ofT T (litV out[i])).1.lev = (firTo T out i).1 then ((firTo T out i).1, (firTo T out i).2.1 + 1, (firTo T out i).2.2) else firTo T out i := by rw [firTo, hg]; rfl
    have hwm : w64 (((firTo T out i).2.1 : Int) + 1) = (((firTo T out i).2.1 + 1 : Nat) : Int) := by rw [w64_id (by omega) (by omega)]; omega
    simp [h]
    refine CallK.intro (litVar_ok out[i]) (by simp) ?_
    simp
    refine CallK.intro hlv (by simp) ?_
    by_cases c1 : (firTo T out i).1 < (ofT T (litV out[i])).1.lev
    · rw [if_pos c1] at hsu
      simp [c1]
      refine ⟨i + 1, by (try dsimp only); omega, by (try dsimp only); omega, Weak.to (by simp [hw, hsu]) (by simp) (by simp) (by simp) (by simp)⟩
    rw [if_neg c1] at hsu
    by_cases c2 : (ofT T (litV out[i])).1.lev = (firTo T out i).1
    · rw [if_pos c2] at hsu
      simp [c1, c2]
      refine ⟨i + 1, by (try dsimp only); omega, by (try dsimp only); omega, Weak.to (by simp [hw, hsu, hwm]) (by simp) (by simp) (by simp) (by simp)⟩
    · rw [if_neg c2] at hsu
      simp [c1, c2]
      refine ⟨i + 1, by (try dsimp only); omega, by (try dsimp only); omega, Weak.to (by simp [hw, hsu]) (by simp) (by simp) (by simp) (by simp)⟩
  have hie : i = out.length := by omega
  subst hie
  clear hi h
  generalize firTo T out out.length = s at *
  obtain ⟨top, many, at'⟩ := s
  dsimp only at a1 a2 a3 ⊢
  by_cases c : many = 1
  rotate_left
  · have c' : ¬ (many : Int) = 1 := by omega
    simp [c, c']
  subst c
  have hat : at' < out.length := by omega
  have hg : out.getD at' 0 = out[at'] := by rw [List.getD_eq_getElem?_getD, List.getElem?_eq_getElem hat]; rfl
  have hw : w64 ((at' : Int) + 1) = ((at' + 1 : Nat) : Int) := by rw [w64_id (by omega) (by omega)]; omega
  simp only [if_pos, hg]
  simp [hat, hw]
  have hdl : (out.take at' ++ out.drop (at' + 1) ++ List.replicate (at' + 1 - at') 0).length = out.length := by simp; omega
  have hd1 : out.length - (at' + 1 - at') = out.length - 1 := by omega
  have hD := deleteAt_in Tryz.dlaA out at' (at' + 1) (by omega) (by omega) (by kernel_rfl)
  rw [hd1] at hD
  refine CallK.introX (CallX.introW (ps := .slot 5) (hi := out.length) hD hdl (by omega) (fun e => by rw [e] at hat; simp at hat) (by simp) rfl rfl (by simp) (by simp) rfl (by simp) (by simp) ?_)
  have hpl : (out.take at' ++ out.drop (at' + 1)).length = out.length - 1 := by simp; omega
  have htk : (out.take at' ++ out.drop (at' + 1) ++ List.replicate (at' + 1 - at') 0).take (out.length - 1) = out.eraseIdx at' := by
    rw [List.take_left' hpl, List.eraseIdx_eq_take_drop_succ]
  have hdk : (out.take at' ++ out.drop (at' + 1) ++ List.replicate (at' + 1 - at') 0).drop (out.length - 1 + 1) = [] := List.drop_eq_nil_of_le (by rw [hdl]; omega)
  generalize out.take at' ++ out.drop (at' + 1) ++ List.replicate (at' + 1 - at') 0 = dl at *
  generalize out[at'] = u at *
  simp
  refine CallK.introX (CallX.introI (ps := .slot 5) (py := .slot 51) (hi := out.length - 1) (zs := dl) (x := u) Tryz.insA (by kernel_rfl) (by simp) rfl rfl (by simp) (by simp) (by simp) (by simp) (by simp) (by simp) rfl (by decide) rfl (by omega) ?_)
  rw [htk, hdk]
  simp
  exact List.take_of_length_le (by rw [intsB_len, List.length_cons, List.length_eraseIdx_of_lt hat]; omega)
def psZ (A : Ar) (T : Tr) : List SV := [.pv (arP A), .pv (trP T), .omap true (mapE fI []), .pv (.lit (.slice none 0 0)), .pv (I64 0)]
set_option maxRecDepth 16000 in
theorem ptake0_ok (A : Ar) (T : Tr) (q but : Int) (ht : T.ok) (h0 : A.hd ≠ []) (hk : ArOk A) (hl : A.row.length ≤ 1000000) :
    AMut Tryz.prog 87 [.ptr 0 0, I64 q, I64 but] [psZ A T] (fun r h' => h' = [psB A T (takeL T but (litsA A q) ⟨[], [], 0⟩)] ∧ r = .pv (.tup [])) := by
  obtain ⟨p, hp⟩ : ∃ p : PS, p = ⟨[], [], 0⟩ := ⟨_, rfl⟩
  rw [← hp]
  have hm0 : p.many = 0 := by rw [hp]
  have hl0 : p.lits.length = 0 := by rw [hp]; rfl
  refine amutXD [] [] [psB A T (takeL T but (litsA A q) p)] (by simp) (fun _ => ⟨belowC_psB _ _ _ _, trivial⟩) hmo Tryz.func87 (by kernel_rfl) rfl rfl (by kernel_rfl) (Nat.le_of_ble_eq_true rfl) ?_
  have hL := alitsF_ok A h0 hk hl q
  have hc := litsA_len A hk q
  generalize litsA A q = c at *
  simp [psZ]
  refine CallK.intro hL (by simp) ?_
  simp
  refine ALoop.intro (S := fun (i : Nat) => ⟨[(0, .pv (.ptr 0 0)), (2, .pv (I64 but)), (6, .pv (.fn (.func 97) [trP T] [])), (20, .own true 1 (irow c)), (21, .pv (I64 c.length)), (22, .pv (I64 i))], [psB A T (takeL T but (c.take i) p)]⟩) (fun i => i ≤ c.length) (fun i => c.length - i) 0 ?_ (Nat.zero_le _) ?_
  · exact (Weak.nilCell (b := 0) (k := 3) (xs := psZ A T) 1 true (by simp [psZ]) (by simp [psZ])).trans (Weak.to (by simp) (by simp [psB, psZ, takeL, hp, irow]) (by simp) (by simp) (by simp [belowC_psB]))
  intro i hi
  by_cases h : i < c.length
  rotate_left
  · have hie : i = c.length := by omega
    subst hie
    simp [psB, retXP]
  have hw : w64 ((i : Int) + 1) = ((i + 1 : Nat) : Int) := by rw [w64_id (by omega) (by omega)]; omega
  have hs := takeL_succ T but c p h
  have hle := takeL_le T but (c.take i) p
  rw [List.length_take] at hle
  generalize takeL T but (c.take i) p = s at *
  have hlv := tlevel_ok T (litV c[i]) ht
  simp [h, psB]
  refine CallK.intro (litVar_ok c[i]) (by simp) ?_
  simp
  refine CallG.intro (fun _ => hlv) (by simp) ?_
  by_cases c1 : litV c[i] = but
  · have hd : takeF T but s c[i] = s := by unfold takeF; rw [if_pos (.inl c1)]
    simp [c1]
    refine ⟨i + 1, by (try dsimp only); omega, by (try dsimp only); omega, Weak.to (by simp [hw]) (by simp [psB, hs, hd]) (by simp) (by simp) (by simp [belowC_psB])⟩
  by_cases c2 : 0 < (lk s.seen (litV c[i])).getD 0
  · have hd : takeF T but s c[i] = s := by unfold takeF; rw [if_pos (.inr (.inl (by simpa [seenB] using c2)))]
    simp [c1, c2]
    refine ⟨i + 1, by (try dsimp only); omega, by (try dsimp only); omega, Weak.to (by simp [hw]) (by simp [psB, hs, hd]) (by simp) (by simp) (by simp [belowC_psB])⟩
  have c2' : (lk s.seen (litV c[i])).getD 0 ≤ 0 := by omega
  by_cases c3 : (ofT T (litV c[i])).1.lev ≤ 0
  · have hd : takeF T but s c[i] = s := by unfold takeF; rw [if_pos (.inr (.inr c3))]
    simp [c1, c2, c2', c3]
    refine ⟨i + 1, by (try dsimp only); omega, by (try dsimp only); omega, Weak.to (by simp [hw]) (by simp [psB, hs, hd]) (by simp) (by simp) (by simp [belowC_psB])⟩
  have hd : takeF T but s c[i] = if (ofT T (litV c[i])).1.lev = T.beg.length then ⟨pt s.seen (litV c[i]) 1, s.lits, s.many + 1⟩ else ⟨pt s.seen (litV c[i]) 1, s.lits ++ [c[i]], s.many⟩ := by
    unfold takeF
    rw [if_neg]
    · rfl
    rintro (e | e | e)
    · exact c1 e
    · exact c2 (by simpa [seenB] using e)
    · exact c3 e
  simp [c1, c2, c2', c3]
  refine CallQ0.intro hlv (by simp) ?_
  simp
  refine CallQ0.intro (tdepth_ok T) (by simp) ?_
  by_cases c4 : (ofT T (litV c[i])).1.lev = T.beg.length
  · rw [if_pos c4] at hd
    have hwm : w64 ((s.many : Int) + 1) = ((s.many + 1 : Nat) : Int) := by rw [w64_id (by omega) (by omega)]; omega
    simp [c4]
    refine ⟨i + 1, by (try dsimp only); omega, by (try dsimp only); omega, Weak.to (by simp [hw]) (by simp [psB, hs, hd, hwm]) (by simp) (by simp) (by simp [belowC_psB])⟩
  · rw [if_neg c4] at hd
    simp [c4]
    refine ⟨by omega, i + 1, by (try dsimp only); omega, by (try dsimp only); omega, Weak.to (by simp [hw]) (by simp [psB, hs, hd, irow]) (by simp) (by simp) (by simp [belowC_psB])⟩

theorem walkF_le (A : Ar) (T : Tr) (hk : ArOk A) (all : List Int) : ∀ (n : Nat) (p : PS), (walkF A T all n p).lits.length ≤ p.lits.length + n * A.row.length
  | 0, p => by simp [walkF]
  | n + 1, p => by
    rw [walkF, Nat.succ_mul]
    split
    · omega
    split
    · have h := walkF_le A T hk all n (resS A T p (all.getD n 0))
      have h1 := takeL_le T (litV (all.getD n 0)) (litsA A (ofT T (litV (all.getD n 0))).1.rea) ⟨pt p.seen (litV (all.getD n 0)) 0, p.lits, p.many - 1⟩
      have h2 := litsA_len A hk (ofT T (litV (all.getD n 0))).1.rea
      have h3 : resS A T p (all.getD n 0) = takeL T (litV (all.getD n 0)) (litsA A (ofT T (litV (all.getD n 0))).1.rea) ⟨pt p.seen (litV (all.getD n 0)) 0, p.lits, p.many - 1⟩ := rfl
      rw [h3] at h ⊢
      dsimp only at h1
      omega
    · have h := walkF_le A T hk all n p
      omega
def learnE (A : Ar) (T : Tr) (con : Int) : Int := if idA A con = 0 then 20 else if failsS T (litsA A con) = false then 30 else 0
def learnR (A : Ar) (T : Tr) (con : Int) : List Int := if learnE A T con = 0 then learnS A T con else []
set_option maxRecDepth 16000 in
theorem rlearn_ok (A : Ar) (T : Tr) (con : Int) (ht : T.ok) (h0 : A.hd ≠ []) (hk : ArOk A) (hl : A.row.length ≤ 100000) (hT : T.lits.length ≤ 7) :
    APure Tryz.prog 30 [arP A, trP T, I64 con] (fun r => r = .pv (.tup [.seq true 1 (irow (learnR A T con)), I64 (learnE A T con)])) := by
  refine APure.wk (R := fun r => ∃ x, r = .pv x ∧ wkP x (.tup [.seq true 1 (irow (learnR A T con)), I64 (learnE A T con)])) ?_ (fun r ⟨x, e, h⟩ => ⟨x, _, e, h, rfl⟩)
  refine apureX [] [.tmp 6, .tmp 7] hmo Tryz.func30 (by kernel_rfl) rfl rfl (by kernel_rfl) (Nat.le_of_ble_eq_true rfl) ?_
  have hId := aidF_ok A h0 hk (by omega) con
  have hL := alitsF_ok A h0 hk (by omega) con
  have hcl := litsA_len A hk con
  have hfl := rfails_ok T (litsA A con) ht (by omega)
  have htk := ptake0_ok A T con 0 ht h0 hk (by omega)
  have hbg : takeL T 0 (litsA A con) ⟨[], [], 0⟩ = begP A T con := rfl
  rw [hbg] at htk
  have hble := takeL_le T 0 (litsA A con) ⟨[], [], 0⟩
  rw [hbg] at hble
  dsimp only [List.length_nil] at hble
  have hlt := tlits_ok T (by omega)
  have hw := pwalk_ok A T (begP A T con) T.lits ht h0 hk (by omega) (by omega) (by omega) (by omega)
  have hfd : fin A T T.lits (begP A T con) = ⟨(walkF A T T.lits T.lits.length (begP A T con)).seen, endS T T.lits (walkF A T T.lits T.lits.length (begP A T con)), (walkF A T T.lits T.lits.length (begP A T con)).many⟩ := rfl
  have hE : learnE A T con = if idA A con = 0 then 20 else if failsS T (litsA A con) = false then 30 else 0 := rfl
  have hR : learnR A T con = if learnE A T con = 0 then learnS A T con else [] := rfl
  have hS : learnS A T con = firS T (endS T T.lits (walkF A T T.lits T.lits.length (begP A T con))) := rfl
  have hend : (endS T T.lits (walkF A T T.lits T.lits.length (begP A T con))).length ≤ 1000000 := by
    have q1 := endTo_le T T.lits (walkF A T T.lits T.lits.length (begP A T con)) T.lits.length (Nat.le_refl _)
    rw [endTo_all] at q1
    have q2 := walkF_le A T hk T.lits T.lits.length (begP A T con)
    have q3 : T.lits.length * A.row.length ≤ 7 * 100000 := Nat.mul_le_mul hT hl
    omega
  generalize learnR A T con = R at *
  generalize learnE A T con = E at *
  generalize learnS A T con = S at *
  generalize litsA A con = c at *
  rw [hfd] at hw
  generalize walkF A T T.lits T.lits.length (begP A T con) = W at *
  generalize begP A T con = B at *
  simp
  refine CallK.intro hId (by simp) ?_
  by_cases c1 : idA A con = 0
  · rw [if_pos c1] at hE
    subst hE
    rw [if_neg (by omega)] at hR
    subst hR
    simp [c1, wkP, wkPL, irow]
  rw [if_neg c1] at hE
  simp [c1]
  refine CallK.intro hL (by simp) ?_
  simp
  refine CallK.intro hfl (by simp) ?_
  cases c2 : failsS T c
  · rw [if_pos c2] at hE
    subst hE
    rw [if_neg (by omega)] at hR
    subst hR
    simp [c2, wkP, wkPL, irow]
  rw [if_neg (by simp [c2])] at hE
  subst hE
  rw [if_pos rfl] at hR
  subst hR
  simp [c2]
  simp only [psZ, psB] at htk hw
  refine CallB.intro htk (by simp) ?_
  rintro _ _ ⟨rfl, rfl⟩
  simp
  refine CallK.intro hlt (by simp) ?_
  simp
  refine CallB.intro (hw.args (xs := [.ptr 0 0, .seq true 1 (irow T.lits)]) (by simp [wkPL, wkP])) (by simp) ?_
  rintro _ _ ⟨rfl, rfl⟩
  have hf := rfirst_ok T (endS T T.lits W) ht hend
  rw [← hS] at hf
  simp
  refine CallK.intro hf (by simp) ?_
  simp [wkP, wkPL]
end Go.AX

namespace Go.AX
open Go.Proofs
set_option linter.unusedSimpArgs false

theorem putL_id (cs : List (List Int)) : ∀ i, ∀ x ∈ (putL cs i).a.rows, 1 ≤ x.id
  | 0 => by simp [putL]
  | i + 1 => by
    have ih := putL_id cs i
    rw [putL]
    unfold putK
    dsimp only
    unfold putRA
    split
    · rename_i h
      intro x hx
      rcases List.mem_append.1 hx with hx | hx
      · exact ih x hx
      · simp at hx; subst hx
        unfold putEA at h
        split at h
        · omega
        · dsimp only; omega
    · exact ih
/-- A desk whose clauses have numbers. -/
structure DeskI (cs : List (List Int)) (ats : List Int) (D : DK) : Prop extends DeskT cs ats D where
  id : ∀ x ∈ D.a.rows, 1 ≤ x.id
theorem setS_I {cs : List (List Int)} (hc : fewC cs) (lits : List Int) : DeskI (putL cs cs.length).rows (putL cs cs.length).ats (setS cs lits) := by
  refine ⟨setS_T hc lits, ?_⟩
  obtain ⟨_, ha⟩ := setL_A (putL cs cs.length).rows (putL cs cs.length).ats lits (begD (putL cs cs.length)) lits.length
  have ha' : (setS cs lits).a = (putL cs cs.length).a := ha
  rw [ha']
  exact putL_id cs _
theorem id_is {cs : List (List Int)} {ats : List Int} {D : DK} (h : DeskI cs ats D) {q : Int} (hq : isA D.A q = true) : idA D.A q ≠ 0 := by
  obtain ⟨x, hx, e⟩ := h.ok.relA.is q hq
  obtain ⟨p, e1, _, _, _, e5⟩ := h.ok.relA.rows x hx
  have hi := h.id x hx
  have hqp : q = (p : Int) := by rw [← e, e1]
  unfold idA
  rw [if_pos hq, hqp, Int.toNat_natCast, e5]
  omega
theorem pla_at {cs : List (List Int)} {ats : List Int} {D : DK} (h : DeskT cs ats D) {j : Nat} (hj : j < D.t.rows.length) {y : Int} (hy : D.t.rows[j].l = -y) : pla D.T y = j ∧ rea D.T y = D.t.rows[j].rea := by
  unfold pla rea
  rw [neg_at hj hy]
  exact ⟨(of_at h.ok.rel.1 h.facts hj).2.2, (of_at h.ok.rel.1 h.facts hj).2.1⟩
theorem val_neg {cs : List (List Int)} {ats : List Int} {D : DK} (h : DeskT cs ats D) {l : Int} (hv : valT D.T l < 0) : litChk l 6 = 0 ∧ ∃ j, ∃ hj : j < D.t.rows.length, D.t.rows[j].l = -l := by
  obtain ⟨hc, i, hi, hp⟩ := valT_none h.ok.rel.1 (l := l) (by omega)
  refine ⟨hc, i, hi, ?_⟩
  rcases valT_at h.ok.rel.1 hc hi hp with ⟨e, _⟩ | ⟨_, e⟩
  · exact e
  · omega
theorem val_of {cs : List (List Int)} {ats : List Int} {D : DK} (h : DeskT cs ats D) {l : Int} {j : Nat} (hj : j < D.t.rows.length) (e : D.t.rows[j].l = -l) : valT D.T l = -1 := by
  have := (val_at h hj).1
  rw [e, Int.neg_neg] at this
  exact this
theorem ahead_ok {cs : List (List Int)} {ats : List Int} {D : DK} (h : DeskT cs ats D) (h0 : D.A.hd ≠ []) : AheadOk D.A D.T where
  tr := h.ok.rel.1.okT
  hd := h0
  ar := fun q hq => by
    obtain ⟨x, hx, e⟩ := h.ok.relA.is q hq
    obtain ⟨p, e1, e2, _⟩ := h.ok.relA.rows x hx
    exact ⟨p, _, by rw [← e, e1], e2⟩
  len := h.ok.len
  ahead := fun l hv hr => by
    obtain ⟨hc, j, hj, e⟩ := val_neg h hv
    obtain ⟨p1, p2⟩ := pla_at h hj e
    rw [p1]
    refine ⟨by omega, fun y hy hne => ?_⟩
    rw [p2] at hy hr
    have hw := (lit6 hc).2.2.2.2
    obtain ⟨i, hi, hij, e2⟩ := ((rea_ahead h hj hr).2.2 y hy).2 (by rw [e, ← hw]; exact hne)
    rw [(pla_at h hi e2).1]
    omega
theorem pla_lt {cs : List (List Int)} {ats : List Int} {D : DK} (h : DeskT cs ats D) (l : Int) : pla D.T l < D.T.lits.length := by
  unfold pla
  rw [(relT_of h.ok.rel.1 (litV l)).2.2, h.ok.rel.1.lits, List.length_map]
  rcases Int.lt_or_le (plR D.t (litV l)) 0 with c | c
  · omega
  · obtain ⟨i, hi, e, _⟩ := plR_in c
    omega

/-! ### What was gathered -/
/-- A literal is one of some, or its place is marked. -/
def Met (D : DK) (L : List Int) (s : NS) (y : Int) : Prop := y ∈ L ∨ ∃ j, ∃ hj : j < D.t.rows.length, D.t.rows[j].l = -y ∧ seenB s.at' j = true
theorem Met.mono {D : DK} {L : List Int} {s s' : NS} {y : Int} (h : Met D L s y) (hm : ∀ p, seenB s.at' p = true → seenB s'.at' p = true) : Met D L s' y :=
  h.imp id fun ⟨j, hj, e1, e2⟩ => ⟨j, hj, e1, hm _ e2⟩
end Go.AX

namespace Go.AX
open Go.Proofs
set_option linter.unusedSimpArgs false

def rj (D : DK) (j : Nat) : Int := rea D.T (D.T.lits.getD j 0)
end Go.AX

namespace Go.AX
open Go.Proofs
set_option linter.unusedSimpArgs false

end Go.AX

namespace Go.AX
open Go.Proofs
set_option linter.unusedSimpArgs false

theorem few15_ok (cs : List (List Int)) (l : List Int) : APure Tryz.prog 27 [.seq false 1 (cs.map crowF), .seq false 1 (irow l)] (fun r => r = .pv (BL (few16 cs l []))) := by
  refine apure1 hmo Tryz.func27 (by kernel_rfl) rfl rfl (by kernel_rfl) (Nat.le_of_ble_eq_true rfl) ?_
  simp
  refine CallK.intro (few8_ok cs l) (by simp) ?_
  unfold few16
  cases e : few8 cs l
  · simp
  · by_cases c1 : cs.length ≤ 40
    · have c1' : (cs.length : Int) ≤ 40 := by omega
      simp [c1, c1']
    · have c1' : ¬ (cs.length : Int) ≤ 40 := by omega
      simp [c1, c1']
end Go.AX

namespace Go.AX
open Go.Proofs
set_option linter.unusedSimpArgs false

theorem learnNil_ok (t : PV) (q : Int) : APure Tryz.prog 30 [.lit (.pointer none), t, I64 q] (fun r => r = .pv (.tup [.seq true 1 (irow []), I64 1])) := by
  refine APure.wk (R := fun r => ∃ x, r = .pv x ∧ wkP x (.tup [.seq true 1 (irow []), I64 1])) ?_ (fun r ⟨x, e, h⟩ => ⟨x, _, e, h, rfl⟩)
  refine apureX [] [.tmp 6, .tmp 7] hmo Tryz.func30 (by kernel_rfl) rfl rfl (by kernel_rfl) (Nat.le_of_ble_eq_true rfl) ?_
  simp [wkP, wkPL, irow]
theorem assertsNil_ok (l : List Int) : APure Tryz.prog 38 [.lit (.pointer none), .seq false 1 (irow l)] (fun r => r = .pv (BL false)) := by
  refine apure1 hmo Tryz.func38 (by kernel_rfl) rfl rfl (by kernel_rfl) (Nat.le_of_ble_eq_true rfl) ?_
  simp
  refine CallG.intro (fun h : False => h.elim) (r := .pv (BL false)) (by simp) ?_
  simp
set_option maxRecDepth 16000 in
theorem levelNil_ok (lits : List Int) (hl : lits.length ≤ 1000000) : APure Tryz.prog 37 [.lit (.pointer none), .seq false 1 (irow lits)] (fun r => r = .pv (I64 0)) := by
  refine apure1 hmo Tryz.func37 (by kernel_rfl) rfl rfl (by kernel_rfl) (Nat.le_of_ble_eq_true rfl) ?_
  simp
  refine ALoop.intro (S := fun (i : Nat) => ⟨[(0, .pv (.lit (.pointer none))), (5, .own true 1 (irow [])), (8, .pv (.seq false 1 (irow lits))), (9, .pv (I64 lits.length)), (10, .pv (I64 i))], []⟩) (fun i => i ≤ lits.length) (fun i => lits.length - i) 0 ?_ (Nat.zero_le _) ?_
  · exact (Weak.nilOwn (s := 5) 1 true (by simp)).trans (Weak.to (by simp [irow]) (by simp) (by simp) (by simp) (by simp))
  intro i hi
  by_cases h : i < lits.length
  · have hw : w64 ((i : Int) + 1) = ((i + 1 : Nat) : Int) := by rw [w64_id (by omega) (by omega)]; omega
    simp [h]
    refine CallG.intro (fun h : False => h.elim) (r := .pv (I64 0)) (by simp) ?_
    simp
    refine ⟨i + 1, by (try dsimp only); omega, by (try dsimp only); omega, Weak.to (by simp [hw]) (by simp) (by simp) (by simp) (by simp)⟩
  have hie : i = lits.length := by omega
  subst hie
  have hS := sortIg_ok [] (by simp)
  have e0 : sortI [] = [] := by simp [sortI]
  rw [e0] at hS
  have hC := compact_ok [] (by simp)
  unfold cmpR at hC
  have ec : compS [] = [] := rfl
  have ei : irow [] = [] := rfl
  have eb : intsB [] = [] := rfl
  rw [ec] at hC
  simp only [ei, eb, List.length_nil, List.append_nil, Nat.sub_zero, List.replicate_zero] at hS hC
  simp [ei]
  refine CallK.introX (CallX.introS (o := .slot 5) (lo := 0) (hi := 0) hS (by simp) rfl rfl (by simp) (by simp) rfl (by simp) (by simp) (by simp) (by simp) ?_)
  rintro k rows' ⟨rfl, rfl⟩ _ _
  simp
  refine CallK.introX (CallX.introS (o := .slot 5) (lo := 0) (hi := 0) hC (by simp) rfl rfl (by simp) (by simp) rfl (by simp) (by simp) (by simp) (by simp) ?_)
  rintro k rows' ⟨rfl, rfl⟩ _ _
  simp
theorem nrm_ev' {c d : List Int} (h : nrmTo c c.length = d) : normS c = d := by rw [← nrm_same]; exact h
def rnD : DK := setS [[-1, -2, 3], [-2, -3]] [1, 2]
theorem rnD_0 : rnD.con = 6 := by kernel_rfl
theorem rnD_1 : endS rnD.T rnD.T.lits (walkF rnD.A rnD.T rnD.T.lits rnD.T.lits.length (begP rnD.A rnD.T rnD.con)) = [-1, -2] := by kernel_rfl
theorem rnD_2 : learnS rnD.A rnD.T rnD.con = [-2, -1] := by
  unfold learnS firS
  rw [rnD_1, nrm_ev' (d := [-1, -2]) (by kernel_rfl)]
  kernel_rfl
theorem rnD_3 : levTo rnD.T [-2, -1] 2 = [2, 1] := by kernel_rfl
theorem sortI_21 : sortI [2, 1] = [1, 2] := by
  simp [sortI, List.mergeSort]
theorem rnD_4 : backS rnD.T [-2, -1] = 1 := by
  unfold backS levS
  rw [show ([-2, -1] : List Int).length = 2 from rfl, rnD_3, sortI_21]
  kernel_rfl
theorem rnD_5 : asrS rnD.T [-2, -1] = true := by kernel_rfl
theorem rnD_6 : hinS rnD.A rnD.T [-2, -1] rnD.con = ([0, 6], true) := by kernel_rfl
theorem rnD_7 : learnE rnD.A rnD.T 99 = 20 := by kernel_rfl
theorem rnD_8 : learnE rnD.A rnD.T rnD.con = 0 := by kernel_rfl
theorem rnD_9 : isA rnD.A rnD.con = true := by kernel_rfl
theorem rnD_a : learnR rnD.A rnD.T 99 = [] := by unfold learnR; rw [rnD_7]; rfl
theorem rnD_b : rnD.A.row.length = 11 := by kernel_rfl
theorem rnD_c : rnD.T.lits.length = 3 := by kernel_rfl
set_option maxRecDepth 16000 in
theorem rnAwake_ok : APure Tryz.prog 28 [] (fun r => r = .pv (BL true)) := by
  refine apure1 hmo Tryz.func28 (by kernel_rfl) rfl rfl (by kernel_rfl) (Nat.le_of_ble_eq_true rfl) ?_
  have hset := dset_ok [] [[-1, -2, 3], [-2, -3]] [1, 2] ⟨by decide, by decide⟩ (by decide)
  have hI := setS_I (cs := [[-1, -2, 3], [-2, -3]]) ⟨by decide, by decide⟩ [1, 2]
  have e0 := rnD_0
  have e2 := rnD_2
  have e4 := rnD_4
  have e5 := rnD_5
  have e6 := rnD_6
  have e7 := rnD_7
  have e8 := rnD_8
  have e9 := rnD_9
  have ea := rnD_a
  have eb := rnD_b
  have ec := rnD_c
  unfold rnD at e0 e2 e4 e5 e6 e7 e8 e9 ea eb ec
  generalize setS [[-1, -2, 3], [-2, -3]] [1, 2] = D at *
  have hs := hI.ok.sh (c := []) (by decide)
  have h0 := isA_hd e9
  have g1 := rlearn_ok D.A D.T D.con hs.tr h0 hs.ar (by omega) (by omega)
  have g2 := rlearn_ok D.A D.T 99 hs.tr h0 hs.ar (by omega) (by omega)
  have g3 := hints_ok D.A D.T [-2, -1] D.con (ahead_ok hI.toDeskT h0) (pla_lt hI.toDeskT) (by decide) (by omega)
  have g4 := level_ok D.T [-2, -1] hs.tr (by decide)
  have g5 := asserts_ok D.T [-2, -1] hs.tr (by decide)
  have el : learnR D.A D.T D.con = [-2, -1] := by unfold learnR; rw [e8, if_pos rfl, e2]
  rw [el, e8] at g1
  rw [ea, e7] at g2
  rw [e6] at g3
  rw [e4] at g4
  rw [e5] at g5
  have g6 := learnNil_ok (trP D.T) 0
  have g7 := assertsNil_ok [-2, -1]
  have g8 := levelNil_ok [-2, -1] (by decide)
  have hS1 := sameInts_ok [-2, -1] [-2, -1] (by decide)
  rw [e0] at g1 g3
  have hf : ∀ a b c d, frzP [a, b, c, trB D.T, d] 3 3 0 = trP D.T := fun a b c d => frz_tr0 rfl 2
  have hfa : ∀ a b c d, frzP [a, arB D.A, b, c, d] 3 1 0 = arP D.A := fun a b c d => frz_ar0 rfl 2
  simp
  refine CallK.introE hset (by simp) rfl (by simp) (by simp) (by simp [wkAL, wkA, wkRR, wkPL, wkP, irow, crowF]) ?_
  rintro _ _ ⟨rfl, rfl⟩
  simp [dkA, dkB, e0]
  rw [hf, hfa]
  refine CallB.introP g1 (by simp) (by simp) ?_
  simp
  rw [hf, hfa]
  refine CallB.introP g3 (by simp) (by simp) ?_
  simp
  rw [hf, hfa]
  refine CallB.introP g2 (by simp) (by simp) ?_
  simp
  rw [hf]
  refine CallB.introP g6 (by simp) (by simp) ?_
  simp
  refine CallQ.intro (fun _ => hS1) (by simp) ?_
  simp
  rw [hf]
  refine CallQ.intro (fun _ => g4) (by simp) ?_
  simp
  rw [hf]
  refine CallQ.intro (fun _ => g5) (by simp) ?_
  simp
  refine CallQ.intro (fun _ => g7) (by simp) ?_
  simp
  refine CallQ.intro (fun _ => g8) (by simp) ?_
  simp
end Go.AX

namespace Go.AX
open Go.Proofs
set_option linter.unusedSimpArgs false

theorem rows_few {cs : List (List Int)} {ats : List Int} {D : DK} (h : DeskT cs ats D) : D.T.lits.length ≤ 7 := by
  have := h.ok.rel.1.few
  rw [h.ok.rel.1.lits, List.length_map]; omega
theorem conf_fails {cs : List (List Int)} {ats : List Int} {D : DK} (h : DeskI cs ats D) {con : Int} (hc : Conf D con) : learnE D.A D.T con = 0 := by
  unfold learnE
  rw [if_neg (id_is h hc.is)]
  have : failsS D.T (litsA D.A con) = true := by
    unfold failsS
    rw [Bool.not_eq_true', List.any_eq_false]
    intro x hx
    obtain ⟨_, j, hj, e⟩ := hc.neg x hx
    have := val_of h.toDeskT hj e
    simp; omega
  rw [if_neg (by simp [this])]
theorem rows_len {cs : List (List Int)} (hc : fewC cs) (h4 : cs.length ≤ 40) (lits : List Int) : (setS cs lits).A.row.length ≤ 100000 ∧ (setS cs lits).a.rows.length ≤ 1000000 := by
  obtain ⟨hA, ha⟩ := setL_A (putL cs cs.length).rows (putL cs cs.length).ats lits (begD (putL cs cs.length)) lits.length
  have hA' : (setS cs lits).A = (putL cs cs.length).A := hA
  have ha' : (setS cs lits).a = (putL cs cs.length).a := ha
  rw [hA', ha']
  have hp := putL_ok hc cs.length (Nat.le_refl _)
  have := hp.len
  have := hp.rlen
  omega
theorem few16_40 {cs : List (List Int)} {l c : List Int} (h : few16 cs l c = true) : cs.length ≤ 40 := by
  unfold few16 at h
  simp only [Bool.and_eq_true, decide_eq_true_eq] at h
  exact h.1.2
end Go.AX

namespace Go.AX
open Go.Proofs
set_option linter.unusedSimpArgs false

def popT (T : Tr) : Tr := ⟨T.marks.set (litV (T.lits.getD (T.lits.length - 1) 0)).toNat ⟨0, 0, 0, 0⟩, T.lits.take (T.lits.length - 1), T.beg⟩
def popN (T : Tr) : Nat → Tr
  | 0 => T
  | j + 1 => popT (popN T j)
def backT (T : Tr) (k : Nat) : Tr := ⟨(popN T (T.lits.length - (T.beg.getD k 0).toNat)).marks, (popN T (T.lits.length - (T.beg.getD k 0).toNat)).lits, T.beg.take k⟩
set_option maxRecDepth 16000 in
theorem popper1_ok (h : List (List SV)) (n b : Nat) (T : Tr) (hn : h[n]? = some [.pv (.ptr b 0)]) (hb : h[b]? = some (trB T)) (h0 : T.lits ≠ []) (hs : T.lits.length ≤ 1000000) (hv : ∀ y ∈ T.lits, 0 ≤ litV y ∧ litV y < T.marks.length) :
    AMut Tryz.prog 156 [.ptr n 0] h (fun r h' => h' = h.set b (trB (popT T)) ∧ r = .pv (I64 (T.lits.getD (T.lits.length - 1) 0))) := by
  refine amutXD [] [.tmp 1] (h.set b (trB (popT T))) (by simp) (fun hh => by rw [List.length_set]; exact belowH_setT (belowC_trB _ _) b hh) hmo Tryz.func156 (by kernel_rfl) rfl rfl (by kernel_rfl) (Nat.le_of_ble_eq_true rfl) ?_
  obtain ⟨hlt, hb'⟩ := List.getElem?_eq_some_iff.1 hb
  obtain ⟨hltn, hn'⟩ := List.getElem?_eq_some_iff.1 hn
  obtain ⟨m, hm⟩ : ∃ m, T.lits.length = m + 1 := ⟨T.lits.length - 1, by have := List.length_pos_iff.2 h0; omega⟩
  have hml : m < T.lits.length := by omega
  have hw : w64 ((T.lits.length : Int) - 1) = (m : Int) := by rw [w64_id (by omega) (by omega)]; omega
  have hg : T.lits.getD (T.lits.length - 1) 0 = T.lits[m] := by rw [hm, Nat.add_sub_cancel, List.getD_eq_getElem?_getD, List.getElem?_eq_getElem hml]; rfl
  rw [hg]
  have hne : n ≠ b := fun e => by subst e; rw [hn] at hb; simp [trB] at hb
  have hgn : ∀ x, (h.set b x)[n]? = some [.pv (.ptr b 0)] := fun x => by rw [List.getElem?_set_ne (Ne.symm hne)]; exact hn
  have hgn' : ∀ x hh, (h.set b x)[n]'hh = [.pv (.ptr b 0)] := fun x hh => by have := hgn x; rw [List.getElem?_eq_getElem hh] at this; exact Option.some.inj this
  have hgs : ∀ x hh, (h.set b x)[b]'hh = x := fun x hh => by simp
  obtain ⟨v1, v2⟩ := hv _ (List.getElem_mem hml)
  have hLV := litVar_ok T.lits[m]
  obtain ⟨i, hi⟩ : ∃ i : Nat, litV T.lits[m] = (i : Int) := ⟨(litV T.lits[m]).toNat, by omega⟩
  have hil : i < T.marks.length := by omega
  have hmk : (T.marks.map mkR).set i [I64 0, I64 0, I64 0, I64 0] = (T.marks.set i ⟨0, 0, 0, 0⟩).map mkR := by rw [List.map_set]; rfl
  have hlt2 : (irow T.lits).take m = irow (T.lits.take m) := by unfold irow; rw [List.map_take]
  have hpo : popT T = ⟨T.marks.set i ⟨0, 0, 0, 0⟩, T.lits.take m, T.beg⟩ := by unfold popT; rw [hg, hi, Int.toNat_natCast, hm, Nat.add_sub_cancel]
  have hlm : m ≤ T.lits.length := by omega
  rw [hpo]
  rw [hi] at hLV
  simp [hb', hn', hlt, hltn, trB, hw, hgn', hgs, hml, hlm, hlt2]
  refine CallQ0.intro hLV (by simp) ?_
  simp [hb', hn', hlt, hltn, trB, hw, hgn', hgs, hml, hlm, hlt2, hil, hmk]
  rw [List.take_of_length_le (by simp)]
  simp [mkR]
theorem popper_ok (h : List (List SV)) (b : Nat) :
    AMut Tryz.prog 100 [.ptr b 0] h (fun r h' => h' = h ++ [[.pv (.ptr b 0)]] ∧ r = .pv (.fn (.func 156) [] [.ptr h.length 0])) := by
  refine amutX [] [.tmp 2] hmo Tryz.func100 (by kernel_rfl) rfl rfl (by kernel_rfl) (Nat.le_of_ble_eq_true rfl) ?_
  simp
theorem popN_beg (T : Tr) : ∀ j, (popN T j).beg = T.beg
  | 0 => rfl
  | j + 1 => popN_beg T j
theorem popN_mk (T : Tr) : ∀ j, (popN T j).marks.length = T.marks.length
  | 0 => rfl
  | j + 1 => by rw [popN]; unfold popT; rw [List.length_set]; exact popN_mk T j
theorem popN_lits (T : Tr) : ∀ j, (popN T j).lits = T.lits.take (T.lits.length - j)
  | 0 => by rw [popN, Nat.sub_zero, List.take_length]
  | j + 1 => by
    rw [popN]
    unfold popT
    simp only
    rw [popN_lits T j, List.take_take, List.length_take, show min (min (T.lits.length - j) T.lits.length - 1) (T.lits.length - j) = T.lits.length - (j + 1) by omega]
def popO (T : Tr) : Nat → List Int
  | 0 => []
  | j + 1 => popO T j ++ [(popN T j).lits.getD ((popN T j).lits.length - 1) 0]
theorem popO_len (T : Tr) : ∀ j, (popO T j).length = j
  | 0 => rfl
  | j + 1 => by rw [popO, List.length_append, popO_len T j]; rfl
set_option maxRecDepth 16000 in
theorem back_ok (h : List (List SV)) (b : Nat) (T : Tr) (hb : h[b]? = some (trB T)) (k : Nat) (hk : k < T.beg.length) (h0 : 0 ≤ T.beg.getD k 0 ∧ T.beg.getD k 0 ≤ T.lits.length) (hs : T.lits.length ≤ 1000000) (hv : ∀ y ∈ T.lits, 0 ≤ litV y ∧ litV y < T.marks.length) :
    AMut Tryz.prog 39 [.ptr b 0, I64 k] h (fun r h' => h' = h.set b (trB (backT T k)) ∧ r = .pv (.seq true 1 (irow (popO T (T.lits.length - (T.beg.getD k 0).toNat))))) := by
  refine amutXD [] [.tmp 4] (h.set b (trB (backT T k))) (by simp) (fun hh => by rw [List.length_set]; exact belowH_setT (belowC_trB _ _) b hh) hmo Tryz.func39 (by kernel_rfl) rfl rfl (by kernel_rfl) (Nat.le_of_ble_eq_true rfl) ?_
  obtain ⟨hlt, hb'⟩ := List.getElem?_eq_some_iff.1 hb
  have hbg : T.beg.getD k 0 = T.beg[k] := by rw [List.getD_eq_getElem?_getD, List.getElem?_eq_getElem hk]; rfl
  rw [hbg] at h0 ⊢
  obtain ⟨m, hm⟩ : ∃ m : Nat, T.beg[k] = (m : Int) := ⟨T.beg[k].toNat, by omega⟩
  have hB : backT T k = ⟨(popN T (T.lits.length - m)).marks, (popN T (T.lits.length - m)).lits, T.beg.take k⟩ := by unfold backT; rw [hbg, hm]; rfl
  rw [hB, hm, Int.toNat_natCast]
  rw [hm] at h0
  clear hB
  have his := tis_ok T
  have hfr : ∀ n, frzP h (n + 1) b 0 = trP T := fun n => frz_tr0 hb n
  simp only [trP] at his hfr
  have ck : ¬ (k : Int) < 0 := by omega
  simp [ck]
  refine CallB.introP (r := .pv (BL true)) (by simpa [hfr] using his) (by simp [hlt]) (by simp) ?_
  simp [hb', hlt, trB, hk]
  refine CallB.intro (popper_ok h b) (by simp) ?_
  rintro _ _ ⟨rfl, rfl⟩
  have hH0 : h.set b (trB T) = h := set_sameT hb
  simp
  refine ALoop.intro (S := fun (j : Nat) => ⟨[(0, .pv (.ptr b 0)), (1, .pv (I64 k)), (5, .pv (.fn (.func 156) [] [.ptr h.length 0])), (6, .own true 1 (irow (popO T j)))], h.set b (trB (popN T j)) ++ [[.pv (.ptr b 0)]]⟩) (fun j => j ≤ T.lits.length - m) (fun j => T.lits.length - j) 0 ?_ (Nat.zero_le _) ?_
  · rw [popN, hH0]
    exact (Weak.nilOwn (s := 6) 1 true (by simp)).trans (Weak.keep (by simp [popO, irow]) rfl)
  intro j hj
  have hXl : (popN T j).lits.length = T.lits.length - j := by rw [popN_lits, List.length_take]; omega
  have hXb := popN_beg T j
  have hXv : ∀ y ∈ (popN T j).lits, 0 ≤ litV y ∧ litV y < (popN T j).marks.length := fun y hy => by
    rw [popN_lits] at hy
    rw [popN_mk]
    exact hv y (List.mem_of_mem_take hy)
  have hX1 : popN T (j + 1) = popT (popN T j) := rfl
  have hO1 : popO T (j + 1) = popO T j ++ [(popN T j).lits.getD ((popN T j).lits.length - 1) 0] := rfl
  have hOl := popO_len T j
  have hpp := fun (h : List (List SV)) (n b : Nat) h1 h2 h3 => popper1_ok h n b (popN T j) h1 h2 h3 (by omega) hXv
  have hHb : ∀ (Y z : List SV) hh, (h.set b Y ++ [z])[b]'hh = Y := fun Y z hh => by rw [List.getElem_append_left (by simpa using hlt)]; simp
  have hHb2 : ∀ (Y z : List SV), (h.set b Y ++ [z])[b]? = some Y := fun Y z => by rw [List.getElem?_append_left (by simpa using hlt)]; simp [hlt]
  have hHs : ∀ (Y z W : List SV), (h.set b Y ++ [z]).set b W = h.set b W ++ [z] := fun Y z W => by rw [set_app (by simpa using hlt), List.set_set]
  have hlt1 : b < h.length + 1 := by omega
  by_cases c : m < T.lits.length - j
  · have hne : (popN T j).lits ≠ [] := fun e => by rw [e] at hXl; simp at hXl; omega
    have hc1 : (m : Int) < ((popN T j).lits.length : Int) := by omega
    have hpp := hpp (h.set b (trB (popN T j)) ++ [[.pv (.ptr b 0)]]) h.length b (by rw [List.getElem?_append_right (by simp)]; simp) (hHb2 _ _) hne
    rw [hHs] at hpp
    generalize popN T j = X at *
    simp only [trB, hXb] at hpp
    simp [hHb, hlt1, trB, hXb, hk, hm, hc1]
    refine CallB.intro hpp (by simp) ?_
    rintro _ _ ⟨rfl, rfl⟩
    simp
    refine ⟨by omega, j + 1, by (try dsimp only); omega, by (try dsimp only); omega, Weak.keep (by simp [hO1, irow]) (by simp [hX1])⟩
  · have hc1 : ¬ (m : Int) < ((popN T j).lits.length : Int) := by omega
    have hje : j = T.lits.length - m := by omega
    subst hje
    have hbt : (irow T.beg).take k = irow (T.beg.take k) := by unfold irow; rw [List.map_take]
    have hkl : k ≤ T.beg.length := by omega
    clear hpp hXv hX1 hO1
    generalize popN T (T.lits.length - m) = X at *
    simp [hHb, hHs, hlt1, trB, hXb, hk, hm, hc1, hbt, hkl]
end Go.AX

namespace Go.AX
open Go.Proofs
set_option linter.unusedSimpArgs false

/-! ### Levels, in order, each once -/
theorem compI_is {zs : List Int} (hs : zs.Pairwise (· ≤ ·)) : ∀ j, j ≤ zs.length → (compTo zs j).Pairwise (· < ·) ∧ ∀ x, x ∈ compTo zs j ↔ x ∈ zs.take j
  | 0, _ => ⟨by simp [compTo], fun x => by simp [compTo]⟩
  | j + 1, h => by
    obtain ⟨h1, h2⟩ := compI_is hs j (by omega)
    have hg : zs.getD j 0 = zs[j] := by simp [show j < zs.length by omega]
    rw [compTo, hg, List.take_add_one, List.getElem?_eq_getElem (by omega), Option.toList_some]
    have hp := List.pairwise_iff_getElem.1 hs
    by_cases d : j = 0 ∨ zs[j] ≠ zs.getD (j - 1) 0
    · rw [if_pos d]
      refine ⟨List.pairwise_append.2 ⟨h1, by simp, fun y hy z hz => ?_⟩, fun x => by rw [List.mem_append, List.mem_append, h2]⟩
      rw [List.mem_singleton] at hz
      subst hz
      obtain ⟨k, hk, rfl⟩ := List.getElem_of_mem ((h2 y).1 hy)
      rw [List.length_take] at hk
      rw [List.getElem_take]
      rcases d with rfl | d
      · omega
      · have e2 : zs.getD (j - 1) 0 = zs[j - 1] := by simp [show j - 1 < zs.length by omega]
        rw [e2] at d
        have a1 : zs[k] ≤ zs[j - 1] := by
          by_cases e : k = j - 1
          · subst e; exact Int.le_refl _
          · exact hp k (j - 1) (by omega) (by omega) (by omega)
        have a2 : zs[j - 1] ≤ zs[j] := hp (j - 1) j (by omega) (by omega) (by omega)
        omega
    · rw [if_neg d]
      refine ⟨h1, fun x => ?_⟩
      rw [h2, List.mem_append, List.mem_singleton]
      refine ⟨.inl, fun hx => hx.elim id fun e => ?_⟩
      have hj : j ≠ 0 := fun e => d (.inl e)
      have e2 : zs.getD (j - 1) 0 = zs[j - 1] := by simp [show j - 1 < zs.length by omega]
      have e3 : zs[j] = zs[j - 1] := Classical.byContradiction fun hh => d (.inr (by rw [e2]; exact hh))
      rw [e, e3]
      exact List.mem_take_iff_getElem.2 ⟨j - 1, by omega, rfl⟩
theorem compS_is (l : List Int) : (compS (sortI l)).Pairwise (· < ·) ∧ ∀ x, x ∈ compS (sortI l) ↔ x ∈ l := by
  obtain ⟨h1, h2⟩ := compI_is (sortI_sorted l) (sortI l).length (Nat.le_refl _)
  refine ⟨h1, fun x => ?_⟩
  rw [List.take_length] at h2
  refine (h2 x).trans ?_
  unfold sortI
  exact (List.mergeSort_perm _ _).mem_iff
/-- The level ahead of the last one. -/
theorem back_is {T : Tr} {L : List Int} {u : Int} {r : List Int} (e : L = u :: r) (hv : ∀ y ∈ L, valT T y ≠ 0) (hp : ∀ y ∈ L, 0 < lvl T y) (hr : ∀ y ∈ r, lvl T y < lvl T u) :
    0 ≤ backS T L ∧ backS T L < lvl T u ∧ ∀ y ∈ r, lvl T y ≤ backS T L := by
  have hlv : levTo T L L.length = L.map (lvl T) := by
    unfold levTo
    rw [List.take_length, List.filter_eq_self.2 (fun y hy => by simpa using hv y hy)]
  obtain ⟨h1, h2⟩ := compS_is (L.map (lvl T))
  unfold backS levS
  rw [hlv]
  have hu : lvl T u ∈ compS (sortI (L.map (lvl T))) := (h2 _).2 (List.mem_map.2 ⟨u, by rw [e]; exact List.mem_cons_self, rfl⟩)
  have hm : ∀ y ∈ r, lvl T y ∈ compS (sortI (L.map (lvl T))) := fun y hy => (h2 _).2 (List.mem_map.2 ⟨y, by rw [e]; exact List.mem_cons_of_mem _ hy, rfl⟩)
  have hb : ∀ x ∈ compS (sortI (L.map (lvl T))), 0 < x ∧ x ≤ lvl T u := fun x hx => by
    obtain ⟨y, hy, rfl⟩ := List.mem_map.1 ((h2 x).1 hx)
    refine ⟨hp y hy, ?_⟩
    rw [e] at hy
    rcases List.mem_cons.1 hy with rfl | hy
    · exact Int.le_refl _
    · have := hr y hy; omega
  generalize compS (sortI (L.map (lvl T))) = C at *
  have hpw := List.pairwise_iff_getElem.1 h1
  obtain ⟨i, hi, hui⟩ := List.getElem_of_mem hu
  have hlast : i = C.length - 1 := by
    refine Classical.byContradiction fun hne => ?_
    have := hpw i (C.length - 1) hi (by omega) (by omega)
    have := (hb _ (List.getElem_mem (show C.length - 1 < C.length by omega))).2
    omega
  have hpu := hp u (by rw [e]; exact List.mem_cons_self)
  split
  · rename_i hlt
    refine ⟨Int.le_refl _, hpu, fun y hy => ?_⟩
    obtain ⟨j, hj, hyj⟩ := List.getElem_of_mem (hm y hy)
    have hji : j = i := by omega
    subst hji
    have := hr y hy
    omega
  · rename_i hlt
    have hC2 : C.getD (C.length - 2) 0 = C[C.length - 2] := by rw [List.getD_eq_getElem?_getD, List.getElem?_eq_getElem (by omega)]; rfl
    rw [hC2]
    have h2l := hb _ (List.getElem_mem (show C.length - 2 < C.length by omega))
    refine ⟨by omega, ?_, fun y hy => ?_⟩
    · have := hpw (C.length - 2) i (by omega) hi (by omega)
      omega
    · obtain ⟨j, hj, hyj⟩ := List.getElem_of_mem (hm y hy)
      have hne : j ≠ i := fun e => by subst e; have := hr y hy; omega
      by_cases e2 : j = C.length - 2
      · subst e2; omega
      · have := hpw j (C.length - 2) hj (by omega) (by omega)
        omega
theorem lasTo_is {T : Tr} {L : List Int} {u : Int} {r : List Int} (e : L = u :: r) (hu : lvl T u = T.beg.length) (hr : ∀ y ∈ r, lvl T y ≠ T.beg.length) : ∀ i, i < L.length → lasTo T L (i + 1) = [(litV u, 1)]
  | 0, _ => by
    have : L.getD 0 0 = u := by rw [e]; rfl
    rw [lasTo, this, if_pos hu]
    simp [lasTo, lk, pt]
  | i + 1, h => by
    have ih := lasTo_is e hu hr i (by omega)
    have hg : L.getD (i + 1) 0 ∈ r := by
      subst e
      simp only [List.length_cons] at h
      simp only [List.getD_eq_getElem?_getD, List.getElem?_cons_succ]
      rw [List.getElem?_eq_getElem (by omega)]
      exact List.getElem_mem _
    rw [lasTo, if_neg (hr _ hg), ih]
theorem asr_is {T : Tr} {L : List Int} {u : Int} {r : List Int} (e : L = u :: r) (hv : ∀ y ∈ L, valT T y = -1) (hu : lvl T u = T.beg.length) (hr : ∀ y ∈ r, lvl T y ≠ T.beg.length) : asrS T L = true := by
  have hl := lasTo_is e hu hr (L.length - 1) (by rw [e]; simp)
  have hn : L.length - 1 + 1 = L.length := by rw [e]; simp
  rw [hn] at hl
  have hf : failsS T L = true := by
    unfold failsS
    rw [Bool.not_eq_true', List.any_eq_false]
    intro x hx
    have := hv x hx
    simp; omega
  unfold asrS
  rw [hl, hf, e]
  simp [lk]

/-! ### Where levels begin -/
def BegI (T : Tr) (t : RT) : Prop := ∀ k (_ : k < T.beg.length), (0 ≤ T.beg[k] ∧ T.beg[k] ≤ t.rows.length) ∧ ∀ i (_ : i < t.rows.length), (i : Int) < T.beg[k] ↔ t.rows[i].lev ≤ k
theorem begI_dec {T : Tr} {t : RT} (hr : RelD T t) (h : BegI T t) (l : Int) : BegI (decT T l) (decR t l) := by
  have hf := hr.1.few
  have hd := hr.1.dep
  have hb := hr.2
  unfold decT decR
  rw [relT_may hr.1]
  split
  · rw [w64_id (by omega) (by omega)]
    have hlen : T.lits.length = t.rows.length := by rw [hr.1.lits, List.length_map]
    intro k hk
    simp only [putT, begT] at hk ⊢
    rw [List.length_append, List.length_singleton] at hk
    by_cases c : k < T.beg.length
    · obtain ⟨⟨b1, b2⟩, b3⟩ := h k c
      rw [List.getElem_append_left c]
      refine ⟨⟨b1, by rw [List.length_append]; omega⟩, fun i hi => ?_⟩
      rw [List.length_append, List.length_singleton] at hi
      by_cases c2 : i < t.rows.length
      · rw [List.getElem_append_left c2]; exact b3 i c2
      · have : i = t.rows.length := by omega
        subst this
        simp
        omega
    · have hke : k = T.beg.length := by omega
      subst hke
      simp only [List.getElem_append_right (Nat.le_refl _), Nat.sub_self, List.getElem_cons_zero]
      refine ⟨⟨by omega, by rw [List.length_append]; omega⟩, fun i hi => ?_⟩
      rw [List.length_append, List.length_singleton] at hi
      by_cases c2 : i < t.rows.length
      · rw [List.getElem_append_left c2]
        have := (hr.1.ok _ (List.getElem_mem c2)).2.2
        omega
      · have : i = t.rows.length := by omega
        subst this
        simp
        omega
  · exact h
theorem begI_imp {T : Tr} {t : RT} (hr : RelD T t) (h : BegI T t) (l rea : Int) : BegI (impT T l rea) (impR t l rea) := by
  have hf := hr.1.few
  have hd := hr.1.dep
  have hb := hr.2
  have e := (relD_imp hr l rea).2
  unfold impT impR
  rw [e]
  split
  · intro k hk
    simp only [putT] at hk ⊢
    obtain ⟨⟨b1, b2⟩, b3⟩ := h k hk
    refine ⟨⟨b1, by rw [List.length_append]; omega⟩, fun i hi => ?_⟩
    rw [List.length_append, List.length_singleton] at hi
    by_cases c2 : i < t.rows.length
    · rw [List.getElem_append_left c2]; exact b3 i c2
    · have : i = t.rows.length := by omega
      subst this
      simp
      omega
  · exact h
theorem addS_beg {D : DK} (hr : RelD D.T D.t) (h : BegI D.T D.t) (l why : Int) : BegI (addS D l why).T (addS D l why).t := by
  unfold addS
  split
  · exact begI_dec hr h l
  · exact begI_imp hr h l why
theorem addL_beg : ∀ (zs : List (Int × Int)) {D : DK}, RelD D.T D.t → BegI D.T D.t → BegI (addL D zs).T (addL D zs).t
  | [], _, _, h => h
  | z :: zs, _, hr, h => addL_beg zs (addS_rel hr z.1 z.2) (addS_beg hr h z.1 z.2)
theorem folS_beg (cs : List (List Int)) (ats : List Int) {D : DK} (hr : RelD D.T D.t) (h : BegI D.T D.t) : BegI (folS cs ats D).T (folS cs ats D).t := addL_beg _ hr h
theorem setL_beg (cs : List (List Int)) (ats lits : List Int) {D : DK} (hr : RelD D.T D.t) (h : BegI D.T D.t) : ∀ i, BegI (setL cs ats lits D i).T (setL cs ats lits D i).t
  | 0 => folS_beg cs ats hr h
  | i + 1 => by
    have ih := setL_beg cs ats lits hr h i
    have ir := setL_rel cs ats lits hr i
    rw [setL]
    split
    · exact ih
    · split
      · exact folS_beg cs ats (addS_rel ir _ _) (addS_beg ir ih _ _)
      · exact ih
theorem setS_beg (cs : List (List Int)) (lits : List Int) : BegI (setS cs lits).T (setS cs lits).t := setL_beg _ _ _ relD_new (fun k hk => absurd hk (by simp [begD, newT])) _

/-! ### Back -/
theorem popN_is {cs : List (List Int)} {ats : List Int} {T : Tr} {t : RT} (hT : RelT T t) (hF : TraF cs ats t) : ∀ j, j ≤ t.rows.length →
    (popN T j).lits = T.lits.take (t.rows.length - j) ∧ (popN T j).beg = T.beg ∧ (popN T j).marks.length = 7 ∧ ∀ v : Int, 1 ≤ v → v ≤ 6 → mkAt (popN T j) v = if ((t.rows.length - j : Nat) : Int) ≤ plR t v then ⟨0, 0, 0, 0⟩ else mkAt T v
  | 0, _ => by
    refine ⟨by rw [popN, Nat.sub_zero, List.take_of_length_le]; rw [hT.lits, List.length_map]; exact Nat.le_refl _, rfl, hT.len, fun v h1 h2 => ?_⟩
    rw [popN, if_neg]
    rcases Int.lt_or_le (plR t v) 0 with c | c
    · omega
    · obtain ⟨i, hi, e, _⟩ := plR_in c
      omega
  | j + 1, h => by
    obtain ⟨h1, h2, h3, h4⟩ := popN_is hT hF j (by omega)
    have hlen : T.lits.length = t.rows.length := by rw [hT.lits, List.length_map]
    have hpl : (popN T j).lits.length = t.rows.length - j := by rw [h1, List.length_take]; omega
    have hm : t.rows.length - j - 1 < t.rows.length := by omega
    have hg : (popN T j).lits.getD ((popN T j).lits.length - 1) 0 = t.rows[t.rows.length - j - 1].l := by
      rw [hpl, h1, List.getD_eq_getElem?_getD, List.getElem?_take, if_pos (by omega), ← List.getD_eq_getElem?_getD]
      exact all_at hT hm
    obtain ⟨v1, v2, _⟩ := litV_ok6 (hT.ok _ (List.getElem_mem hm)).1
    have hpa := hF.pla hm
    refine ⟨?_, h2, by rw [popN]; unfold popT; rw [List.length_set]; exact h3, fun v a1 a2 => ?_⟩
    · rw [popN]
      unfold popT
      simp only
      rw [hpl, h1, List.take_take, show min (t.rows.length - j - 1) (t.rows.length - j) = t.rows.length - (j + 1) by omega]
    · have e4 := h4 v a1 a2
      rw [popN]
      unfold popT mkAt
      rw [hg]
      simp only [List.getD_eq_getElem?_getD]
      unfold mkAt at e4
      simp only [List.getD_eq_getElem?_getD] at e4
      by_cases c : v = litV t.rows[t.rows.length - j - 1].l
      · subst c
        rw [List.getElem?_set_self (by omega), if_pos (by rw [hpa]; omega)]
        rfl
      · rw [List.getElem?_set_ne (by omega), e4]
        have hne : plR t v ≠ ((t.rows.length - j - 1 : Nat) : Int) := fun e => by
          obtain ⟨i, hi, p1, p2⟩ := plR_in (t := t) (v := v) (by omega)
          have : i = t.rows.length - j - 1 := by omega
          subst this
          exact c p2.symm
        by_cases d : ((t.rows.length - j : Nat) : Int) ≤ plR t v
        · rw [if_pos d, if_pos (by omega)]
        · rw [if_neg d, if_neg (by omega)]
theorem back_val {cs : List (List Int)} {ats : List Int} {D : DK} (h : DeskT cs ats D) (hB : BegI D.T D.t) {k : Nat} (hk : k < D.T.beg.length) {i : Nat} (hi : i < D.t.rows.length) :
    valT (backT D.T k) (-D.t.rows[i].l) = if D.t.rows[i].lev ≤ k then -1 else 0 := by
  have hT := h.ok.rel.1
  obtain ⟨⟨b1, b2⟩, b3⟩ := hB k hk
  have hlen : D.T.lits.length = D.t.rows.length := by rw [hT.lits, List.length_map]
  have hbg : D.T.beg.getD k 0 = D.T.beg[k] := by rw [List.getD_eq_getElem?_getD, List.getElem?_eq_getElem hk]; rfl
  obtain ⟨p1, p2, p3, p4⟩ := popN_is hT h.facts (D.T.lits.length - (D.T.beg.getD k 0).toNat) (by omega)
  have hc := (hT.ok _ (List.getElem_mem hi)).1
  obtain ⟨v1, v2, _⟩ := litV_ok6 hc
  have hpa := h.facts.pla hi
  have hmk := p4 (litV D.t.rows[i].l) v1 v2
  have hv := (val_at h hi).1
  unfold valT at hv ⊢
  have hm7 : ((backT D.T k).marks.length : Int) - 1 = (D.T.marks.length : Int) - 1 := by unfold backT; rw [p3, hT.len]
  have hmm : mkAt (backT D.T k) (litV (-D.t.rows[i].l)) = mkAt (popN D.T (D.T.lits.length - (D.T.beg.getD k 0).toNat)) (litV (-D.t.rows[i].l)) := rfl
  rw [hm7, hmm]
  rw [litV_neg] at hv ⊢
  rw [hmk, hpa, hbg, hlen]
  have h3 := b3 i hi
  by_cases c : D.t.rows[i].lev ≤ k
  · rw [if_neg (show ¬ ((D.t.rows.length - (D.t.rows.length - D.T.beg[k].toNat) : Nat) : Int) ≤ i by omega), if_pos c]
    exact hv
  · rw [if_pos (show ((D.t.rows.length - (D.t.rows.length - D.T.beg[k].toNat) : Nat) : Int) ≤ i by omega), if_neg c]
    split
    · rfl
    · split <;> rfl
end Go.AX

namespace Go.AX
open Go.Proofs
set_option linter.unusedSimpArgs false

structure AsrOk (D : DK) (L : List Int) : Prop where
  fails : failsR D.t L = true
  nil : L = [] ↔ D.T.beg.length = 0
  asr : L ≠ [] → asrS D.T L = true
  back : L ≠ [] → ∃ k : Nat, backS D.T L = k ∧ k < D.T.beg.length ∧ ∀ i (hi : i < L.length), valT (backT D.T k) L[i] = if i = 0 then 0 else -1
theorem asr_ok {cs : List (List Int)} {ats : List Int} {D : DK} (h : DeskT cs ats D) (hB : BegI D.T D.t) {L : List Int} (hL : Learnt D L) : AsrOk D L := by
  have hT := h.ok.rel.1
  have hd := hT.dep
  have hv : ∀ y ∈ L, valT D.T y = -1 := fun y hy => by
    obtain ⟨_, j, hj, e, _⟩ := hL.neg y hy
    exact val_of h hj e
  have hp : ∀ y ∈ L, 0 < lvl D.T y := fun y hy => by
    obtain ⟨_, j, hj, e, e2⟩ := hL.neg y hy
    rw [lvl_at hT h.facts hj e]
    exact e2
  have hne : L ≠ [] → ∃ u r, L = u :: r ∧ lvl D.T u = D.t.dep ∧ ∀ y ∈ r, lvl D.T y < D.t.dep := fun hh => by
    refine hL.top ?_
    have := h.facts.dep
    rcases Int.lt_or_le 0 D.t.dep with c | c
    · exact c
    · exact absurd (hL.nil (by omega)) hh
  refine ⟨?_, ⟨fun e => ?_, fun e => hL.nil (by omega)⟩, fun hh => ?_, fun hh => ?_⟩
  · unfold failsR
    rw [List.all_eq_true]
    intro y hy
    obtain ⟨c, _⟩ := hL.neg y hy
    obtain ⟨n0, n1, n2, _⟩ := lit6 c
    rw [← relT_val hT (by omega), hv y hy]
    rfl
  · have := h.facts.dep
    rcases Int.lt_or_le 0 D.t.dep with c | c
    · obtain ⟨u, r, e2, _⟩ := hL.top c
      rw [e] at e2
      exact absurd e2 (by simp)
    · omega
  · obtain ⟨u, r, e, e1, e2⟩ := hne hh
    exact asr_is e hv (by omega) (fun y hy => by have := e2 y hy; omega)
  · obtain ⟨u, r, e, e1, e2⟩ := hne hh
    obtain ⟨b0, b1, b2⟩ := back_is e (fun y hy => by rw [hv y hy]; decide) hp (fun y hy => by have := e2 y hy; omega)
    obtain ⟨k, hk⟩ : ∃ k : Nat, backS D.T L = (k : Int) := ⟨(backS D.T L).toNat, by omega⟩
    refine ⟨k, hk, by omega, fun i hi => ?_⟩
    obtain ⟨_, j, hj, e4, _⟩ := hL.neg _ (List.getElem_mem hi)
    have e5 := lvl_at hT h.facts hj e4
    have e6 : L[i] = -D.t.rows[j].l := by omega
    rw [e6, back_val h hB (by omega) hj]
    by_cases c : i = 0
    · subst c
      have : L[0] = u := by simp [e]
      rw [if_pos rfl, if_neg]
      rw [this] at e5
      omega
    · rw [if_neg c, if_pos]
      have : L[i] ∈ r := by
        obtain ⟨i', rfl⟩ : ∃ i', i = i' + 1 := ⟨i - 1, by omega⟩
        simp [e]
      have := b2 _ this
      omega
theorem learn_len {cs : List (List Int)} {ats : List Int} {D : DK} (h : DeskT cs ats D) {L : List Int} (t1 : Learnt D L) : L.length ≤ 7 := by
  have hsub : L ⊆ D.t.rows.map fun x => -x.l := fun y hy => by
    obtain ⟨_, j, hj, e, _⟩ := t1.neg y hy
    exact List.mem_map.2 ⟨_, List.getElem_mem hj, by rw [e, Int.neg_neg]⟩
  have h7 := h.ok.rel.1.few
  have := t1.nd.length_le_of_subset hsub
  rw [List.length_map] at this
  omega
set_option maxRecDepth 16000 in
theorem reasonAsserts_ok (cs : List (List Int)) (l : List Int) : APure Tryz.prog 7 [.seq false 1 (cs.map crowF), .seq false 1 (irow l)] (fun r => r = .pv (BL true)) := by
  refine apure1 hmo Tryz.func7 (by kernel_rfl) rfl rfl (by kernel_rfl) (Nat.le_of_ble_eq_true rfl) ?_
  have haw := rnAwake_ok
  have hfw := few15_ok cs l
  simp
  refine CallK.intro hfw (by simp) ?_
  cases c1 : few16 cs l []
  · simp
    refine CallK.intro haw (by simp) ?_
    simp
  obtain ⟨f1, f2, _⟩ := few16_few c1
  have f3 := few16_40 c1
  have hset := fun h => dset_ok h cs l f1 (by omega)
  have hI := setS_I f1 l
  have hB := setS_beg cs l
  obtain ⟨r1, r2⟩ := rows_len f1 f3 l
  generalize setS cs l = D at *
  have hs := hI.ok.sh (c := []) (by decide)
  simp
  refine CallK.introM (hset _) (by simp) ?_
  rintro _ _ ⟨rfl, rfl⟩
  by_cases c3 : D.con < 0
  · have c3' : ¬ 0 ≤ D.con := by omega
    simp [dkA, dkB, c3, c3']
    refine CallK.intro haw (by simp) ?_
    simp
  have hC := conf_of hI.toDeskT (by omega)
  have h0 := isA_hd hC.is
  obtain ⟨t1, _⟩ := learn_is hI.toDeskT hC
  have hf7 := rows_few hI.toDeskT
  have lE := conf_fails hI hC
  have lR : learnR D.A D.T D.con = learnS D.A D.T D.con := by unfold learnR; rw [if_pos lE]
  have g1 := rlearn_ok D.A D.T D.con hs.tr h0 hs.ar r1 hf7
  rw [lE, lR] at g1
  have n6 := learn_len hI.toDeskT t1
  have hO := asr_ok hI.toDeskT hB t1
  have g2 := refFails_ok D.t (learnS D.A D.T D.con) (by have := hI.ok.rel.1.few; omega) (by omega)
  rw [hO.fails] at g2
  have g3 := tdepth_ok D.T
  have g4 := level_ok D.T (learnS D.A D.T D.con) hs.tr (by omega)
  have g5 := asserts_ok D.T (learnS D.A D.T D.con) hs.tr (by omega)
  generalize learnS D.A D.T D.con = L at *
  have hf : ∀ a b c d, frzP [a, b, c, trB D.T, d] 3 3 0 = trP D.T := fun a b c d => frz_tr0 rfl 2
  have hfa : ∀ a b c d, frzP [a, arB D.A, b, c, d] 3 1 0 = arP D.A := fun a b c d => frz_ar0 rfl 2
  have c3' : 0 ≤ D.con := by omega
  simp only [rtV] at g2
  simp [dkA, dkB, c3, c3']
  rw [hf, hfa]
  refine CallB.introP g1 (by simp) (by simp) ?_
  simp
  refine CallG.intro (fun _ => g2) (by simp) ?_
  simp
  rw [hf]
  refine CallB.introP g3 (by simp) (by simp) ?_
  by_cases c4 : L = []
  · have e0 := hO.nil.1 c4
    subst c4
    simp [e0]
    refine CallK.intro haw (by simp) ?_
    simp
  have hl0 : L.length ≠ 0 := fun e => c4 (List.length_eq_zero_iff.1 e)
  have hb0 : D.T.beg.length ≠ 0 := fun e => c4 (hO.nil.2 e)
  have hb0' : D.T.beg ≠ [] := fun e => hb0 (by rw [e]; rfl)
  obtain ⟨k, k1, k2, k3⟩ := hO.back c4
  rw [k1] at g4
  rw [hO.asr c4] at g5
  simp [c4, hb0, hb0', hl0]
  rw [hf]
  refine CallB.introP g4 (by simp) (by simp) ?_
  simp
  rw [hf]
  refine CallB.introP g5 (by simp) (by simp) ?_
  simp
  rw [hf]
  refine CallB.introP g3 (by simp) (by simp) ?_
  have k4 : ¬ D.T.beg.length ≤ k := by omega
  simp [k4]
  have hT := hI.ok.rel.1
  have hbl := hT.dep
  have hlen : D.T.lits.length = D.t.rows.length := by rw [hT.lits, List.length_map]
  have g6 := fun (h : List (List SV)) hb => back_ok h 3 D.T hb k k2 (by
    obtain ⟨b1, b2⟩ := (hB k k2).1
    rw [List.getD_eq_getElem?_getD, List.getElem?_eq_getElem k2, Option.getD_some]
    omega) (by omega) (fun y hy => by
    rw [hT.lits] at hy
    obtain ⟨x, hx, rfl⟩ := List.mem_map.1 hy
    obtain ⟨v1, v2, _⟩ := litV_ok6 (hT.ok x hx).1
    rw [hT.len]
    omega)
  have hm7 : (backT D.T k).marks.length = 7 := by unfold backT; rw [popN_mk]; exact hT.len
  have g7 := fun x => tvalue_ok (backT D.T k) x ⟨by omega, by omega⟩
  generalize backT D.T k = X at *
  refine CallB.intro (g6 _ rfl) (by simp) ?_
  rintro _ _ ⟨rfl, rfl⟩
  have hfX : ∀ a b c d, frzP [a, b, c, trB X, d] 3 3 0 = trP X := fun a b c d => frz_tr0 rfl 2
  simp
  refine ALoop.intro (S := fun (i : Nat) => ⟨[(5, .pv (.ptr 4 0)), (7, .pv (.seq true 1 (irow L))), (10, .pv (I64 i))], dkBs ⟨D.A, X, D.a, D.t, D.con⟩⟩) (fun i => i ≤ L.length) (fun i => L.length - i) 0 ?_ (Nat.zero_le _) ?_
  · exact Weak.keep (by simp) (by simp [dkBs])
  intro i hi
  by_cases c : i < L.length
  · have hw1 : w64 ((i : Int) + 1) = ((i + 1 : Nat) : Int) := by rw [w64_id (by omega) (by omega)]; omega
    have g8 := g7 L[i]
    rw [k3 i c] at g8
    simp [c, dkBs]
    rw [hfX]
    refine CallQ0.intro g8 (by simp) ?_
    by_cases c0 : i = 0
    · have hw0 : w64 1 = 1 := by decide
      simp [c0]
      exact ⟨1, by (try dsimp only); omega, by (try dsimp only); omega, Weak.keep (by simp [hw0]) (by simp)⟩
    · have c0' : 0 < i := by omega
      simp [c0, c0']
      exact ⟨i + 1, by (try dsimp only); omega, by (try dsimp only); omega, Weak.keep (by simp [hw1]) (by simp)⟩
  · simp [c, dkBs]
    refine CallK.intro haw (by simp) ?_
    simp
end Go.AX
