/-
  Contracts: the one literal of the greatest level first; what a conflict teaches.
  What is gathered of reasons is all that is needed (plain law).
  Hints that were found show what a conflict teaches (plain law).
  Contracts: the document's chains of hints.
  Contracts: do hints show literals?
  Contracts: the probe of the layer reason.
  Contracts: ReasonShown.
  Contracts: trails that go back.
  Plain facts: the level to which one goes back, and what fails there.
  Contracts: ReasonAsserts.
-/
import Derived.Test.YtklaffmpfmpffaaGreatS11AxRnI
import Derived.Test.YtklaffmpfmpffaaGreatS11AxShelf2
import Derived.Test.YtklaffmpfmpffaaGreatAxDl
namespace Go.AX
open Go.Proofs
set_option linter.unusedSimpArgs false

theorem firTo_at (T : Tr) (out : List Int) : ∀ i, (firTo T out i).2.1 ≤ i ∧ ((firTo T out i).2.1 = 0 ∨ (firTo T out i).2.2 < i) ∧ (firTo T out i).2.2 ≤ i
  | 0 => ⟨Nat.le_refl _, .inl rfl, Nat.le_refl _⟩
  | i + 1 => by
    have ih := firTo_at T out i
    rw [firTo]
    split
    · exact ⟨by dsimp only; omega, .inr (by dsimp only; omega), by dsimp only; omega⟩
    · split
      · refine ⟨by dsimp only; omega, ?_, by dsimp only; omega⟩
        dsimp only
        rename_i c1 c2
        rcases ih.2.1 with e | e
        · exact .inr (by omega)
        · exact .inr (by omega)
      · exact ⟨by omega, ih.2.1.imp id (fun e => by omega), by omega⟩
set_option maxRecDepth 16000 in
theorem rfirst_ok (T : Tr) (lits : List Int) (ht : T.ok) (hl : lits.length ≤ 1000000) : APure Tryz.prog 90 [trP T, .seq false 1 (irow lits)] (fun r => r = .own true 1 (irow (firS T lits))) := by
  refine apure1 hmo Tryz.func90 (by kernel_rfl) rfl rfl (by kernel_rfl) (Nat.le_of_ble_eq_true rfl) ?_
  have hN := norm_ok lits hl
  have hnl := normS_len lits
  unfold firS firP
  generalize normS lits = out at *
  simp
  refine CallK.intro hN (by simp) ?_
  simp
  refine ALoop.intro (S := fun (i : Nat) => ⟨[(0, .pv (trP T)), (5, .own true 1 (irow out)), (6, .pv (I64 (firTo T out i).1)), (7, .pv (I64 (firTo T out i).2.1)), (8, .pv (I64 (firTo T out i).2.2)), (15, .al (.slot 5)), (16, .pv (I64 out.length)), (17, .pv (I64 i))], []⟩) (fun i => i ≤ out.length) (fun i => out.length - i) 0 ?_ (Nat.zero_le _) ?_
  · exact Weak.to (by simp [firTo]) (by simp) (by simp) (by simp) (by simp)
  intro i hi
  obtain ⟨a1, a2, a3⟩ := firTo_at T out i
  by_cases h : i < out.length
  · have hw : w64 ((i : Int) + 1) = ((i + 1 : Nat) : Int) := by rw [w64_id (by omega) (by omega)]; omega
    have hg : out.getD i 0 = out[i] := by rw [List.getD_eq_getElem?_getD, List.getElem?_eq_getElem h]; rfl
    have hlv := tlevel_ok T (litV out[i]) ht
    have hsu : firTo T out (i + 1) = if (firTo T out i).1 < (ofT T (litV out[i])).1.lev then ((ofT T (litV out[i])).1.lev, 1, i) else if (ofT T (litV out[i])).1.lev = (firTo T out i).1 then ((firTo T out i).1, (firTo T out i).2.1 + 1, (firTo T out i).2.2) else firTo T out i := by rw [firTo, hg]; rfl
    have hwm : w64 (((firTo T out i).2.1 : Int) + 1) = (((firTo T out i).2.1 + 1 : Nat) : Int) := by rw [w64_id (by omega) (by omega)]; omega
    simp [h]
    refine CallK.intro (litVar_ok out[i]) (by simp) ?_
    simp
    refine CallK.intro hlv (by simp) ?_
    by_cases c1 : (firTo T out i).1 < (ofT T (litV out[i])).1.lev
    · rw [if_pos c1] at hsu
      simp [c1]
      refine ⟨i + 1, by (try dsimp only); omega, by (try dsimp only); omega, Weak.to (by simp [hw, hsu]) (by simp) (by simp) (by simp) (by simp)⟩
    rw [if_neg c1] at hsu
    by_cases c2 : (ofT T (litV out[i])).1.lev = (firTo T out i).1
    · rw [if_pos c2] at hsu
      simp [c1, c2]
      refine ⟨i + 1, by (try dsimp only); omega, by (try dsimp only); omega, Weak.to (by simp [hw, hsu, hwm]) (by simp) (by simp) (by simp) (by simp)⟩
    · rw [if_neg c2] at hsu
      simp [c1, c2]
      refine ⟨i + 1, by (try dsimp only); omega, by (try dsimp only); omega, Weak.to (by simp [hw, hsu]) (by simp) (by simp) (by simp) (by simp)⟩
  have hie : i = out.length := by omega
  subst hie
  clear hi h
  generalize firTo T out out.length = s at *
  obtain ⟨top, many, at'⟩ := s
  dsimp only at a1 a2 a3 ⊢
  by_cases c : many = 1
  rotate_left
  · have c' : ¬ (many : Int) = 1 := by omega
    simp [c, c']
  subst c
  have hat : at' < out.length := by omega
  have hg : out.getD at' 0 = out[at'] := by rw [List.getD_eq_getElem?_getD, List.getElem?_eq_getElem hat]; rfl
  have hw : w64 ((at' : Int) + 1) = ((at' + 1 : Nat) : Int) := by rw [w64_id (by omega) (by omega)]; omega
  simp only [if_pos, hg]
  simp [hat, hw]
  have hdl : (out.take at' ++ out.drop (at' + 1) ++ List.replicate (at' + 1 - at') 0).length = out.length := by simp; omega
  have hd1 : out.length - (at' + 1 - at') = out.length - 1 := by omega
  have hD := deleteAt_in Tryz.dlaA out at' (at' + 1) (by omega) (by omega) (by kernel_rfl)
  rw [hd1] at hD
  refine CallK.introX (CallX.introW (ps := .slot 5) (hi := out.length) hD hdl (by omega) (fun e => by rw [e] at hat; simp at hat) (by simp) rfl rfl (by simp) (by simp) rfl (by simp) (by simp) ?_)
  have hpl : (out.take at' ++ out.drop (at' + 1)).length = out.length - 1 := by simp; omega
  have htk : (out.take at' ++ out.drop (at' + 1) ++ List.replicate (at' + 1 - at') 0).take (out.length - 1) = out.eraseIdx at' := by
    rw [List.take_left' hpl, List.eraseIdx_eq_take_drop_succ]
  have hdk : (out.take at' ++ out.drop (at' + 1) ++ List.replicate (at' + 1 - at') 0).drop (out.length - 1 + 1) = [] := List.drop_eq_nil_of_le (by rw [hdl]; omega)
  generalize out.take at' ++ out.drop (at' + 1) ++ List.replicate (at' + 1 - at') 0 = dl at *
  generalize out[at'] = u at *
  simp
  refine CallK.introX (CallX.introI (ps := .slot 5) (py := .slot 51) (hi := out.length - 1) (zs := dl) (x := u) Tryz.insA (by kernel_rfl) (by simp) rfl rfl (by simp) (by simp) (by simp) (by simp) (by simp) (by simp) rfl (by decide) rfl (by omega) ?_)
  rw [htk, hdk]
  simp
  exact List.take_of_length_le (by rw [intsB_len, List.length_cons, List.length_eraseIdx_of_lt hat]; omega)
def psZ (A : Ar) (T : Tr) : List SV := [.pv (arP A), .pv (trP T), .omap true (mapE fI []), .pv (.lit (.slice none 0 0)), .pv (I64 0)]
set_option maxRecDepth 16000 in
theorem ptake0_ok (A : Ar) (T : Tr) (q but : Int) (ht : T.ok) (h0 : A.hd ≠ []) (hk : ArOk A) (hl : A.row.length ≤ 1000000) :
    AMut Tryz.prog 87 [.ptr 0 0, I64 q, I64 but] [psZ A T] (fun r h' => h' = [psB A T (takeL T but (litsA A q) ⟨[], [], 0⟩)] ∧ r = .pv (.tup [])) := by
  obtain ⟨p, hp⟩ : ∃ p : PS, p = ⟨[], [], 0⟩ := ⟨_, rfl⟩
  rw [← hp]
  have hm0 : p.many = 0 := by rw [hp]
  have hl0 : p.lits.length = 0 := by rw [hp]; rfl
  refine amutXD [] [] [psB A T (takeL T but (litsA A q) p)] (by simp) (fun _ => ⟨belowC_psB _ _ _ _, trivial⟩) hmo Tryz.func87 (by kernel_rfl) rfl rfl (by kernel_rfl) (Nat.le_of_ble_eq_true rfl) ?_
  have hL := alitsF_ok A h0 hk hl q
  have hc := litsA_len A hk q
  generalize litsA A q = c at *
  simp [psZ]
  refine CallK.intro hL (by simp) ?_
  simp
  refine ALoop.intro (S := fun (i : Nat) => ⟨[(0, .pv (.ptr 0 0)), (2, .pv (I64 but)), (6, .pv (.fn (.func 97) [trP T] [])), (20, .own true 1 (irow c)), (21, .pv (I64 c.length)), (22, .pv (I64 i))], [psB A T (takeL T but (c.take i) p)]⟩) (fun i => i ≤ c.length) (fun i => c.length - i) 0 ?_ (Nat.zero_le _) ?_
  · exact (Weak.nilCell (b := 0) (k := 3) (xs := psZ A T) 1 true (by simp [psZ]) (by simp [psZ])).trans (Weak.to (by simp) (by simp [psB, psZ, takeL, hp, irow]) (by simp) (by simp) (by simp [belowC_psB]))
  intro i hi
  by_cases h : i < c.length
  rotate_left
  · have hie : i = c.length := by omega
    subst hie
    simp [psB, retXP]
  have hw : w64 ((i : Int) + 1) = ((i + 1 : Nat) : Int) := by rw [w64_id (by omega) (by omega)]; omega
  have hs := takeL_succ T but c p h
  have hle := takeL_le T but (c.take i) p
  rw [List.length_take] at hle
  generalize takeL T but (c.take i) p = s at *
  have hlv := tlevel_ok T (litV c[i]) ht
  simp [h, psB]
  refine CallK.intro (litVar_ok c[i]) (by simp) ?_
  simp
  refine CallG.intro (fun _ => hlv) (by simp) ?_
  by_cases c1 : litV c[i] = but
  · have hd : takeF T but s c[i] = s := by unfold takeF; rw [if_pos (.inl c1)]
    simp [c1]
    refine ⟨i + 1, by (try dsimp only); omega, by (try dsimp only); omega, Weak.to (by simp [hw]) (by simp [psB, hs, hd]) (by simp) (by simp) (by simp [belowC_psB])⟩
  by_cases c2 : 0 < (lk s.seen (litV c[i])).getD 0
  · have hd : takeF T but s c[i] = s := by unfold takeF; rw [if_pos (.inr (.inl (by simpa [seenB] using c2)))]
    simp [c1, c2]
    refine ⟨i + 1, by (try dsimp only); omega, by (try dsimp only); omega, Weak.to (by simp [hw]) (by simp [psB, hs, hd]) (by simp) (by simp) (by simp [belowC_psB])⟩
  have c2' : (lk s.seen (litV c[i])).getD 0 ≤ 0 := by omega
  by_cases c3 : (ofT T (litV c[i])).1.lev ≤ 0
  · have hd : takeF T but s c[i] = s := by unfold takeF; rw [if_pos (.inr (.inr c3))]
    simp [c1, c2, c2', c3]
    refine ⟨i + 1, by (try dsimp only); omega, by (try dsimp only); omega, Weak.to (by simp [hw]) (by simp [psB, hs, hd]) (by simp) (by simp) (by simp [belowC_psB])⟩
  have hd : takeF T but s c[i] = if (ofT T (litV c[i])).1.lev = T.beg.length then ⟨pt s.seen (litV c[i]) 1, s.lits, s.many + 1⟩ else ⟨pt s.seen (litV c[i]) 1, s.lits ++ [c[i]], s.many⟩ := by
    unfold takeF
    rw [if_neg]
    · rfl
    rintro (e | e | e)
    · exact c1 e
    · exact c2 (by simpa [seenB] using e)
    · exact c3 e
  simp [c1, c2, c2', c3]
  refine CallQ0.intro hlv (by simp) ?_
  simp
  refine CallQ0.intro (tdepth_ok T) (by simp) ?_
  by_cases c4 : (ofT T (litV c[i])).1.lev = T.beg.length
  · rw [if_pos c4] at hd
    have hwm : w64 ((s.many : Int) + 1) = ((s.many + 1 : Nat) : Int) := by rw [w64_id (by omega) (by omega)]; omega
    simp [c4]
    refine ⟨i + 1, by (try dsimp only); omega, by (try dsimp only); omega, Weak.to (by simp [hw]) (by simp [psB, hs, hd, hwm]) (by simp) (by simp) (by simp [belowC_psB])⟩
  · rw [if_neg c4] at hd
    simp [c4]
    refine ⟨by omega, i + 1, by (try dsimp only); omega, by (try dsimp only); omega, Weak.to (by simp [hw]) (by simp [psB, hs, hd, irow]) (by simp) (by simp) (by simp [belowC_psB])⟩

theorem walkF_le (A : Ar) (T : Tr) (hk : ArOk A) (all : List Int) : ∀ (n : Nat) (p : PS), (walkF A T all n p).lits.length ≤ p.lits.length + n * A.row.length
  | 0, p => by simp [walkF]
  | n + 1, p => by
    rw [walkF, Nat.succ_mul]
    split
    · omega
    split
    · have h := walkF_le A T hk all n (resS A T p (all.getD n 0))
      have h1 := takeL_le T (litV (all.getD n 0)) (litsA A (ofT T (litV (all.getD n 0))).1.rea) ⟨pt p.seen (litV (all.getD n 0)) 0, p.lits, p.many - 1⟩
      have h2 := litsA_len A hk (ofT T (litV (all.getD n 0))).1.rea
      have h3 : resS A T p (all.getD n 0) = takeL T (litV (all.getD n 0)) (litsA A (ofT T (litV (all.getD n 0))).1.rea) ⟨pt p.seen (litV (all.getD n 0)) 0, p.lits, p.many - 1⟩ := rfl
      rw [h3] at h ⊢
      dsimp only at h1
      omega
    · have h := walkF_le A T hk all n p
      omega
def learnE (A : Ar) (T : Tr) (con : Int) : Int := if idA A con = 0 then 20 else if failsS T (litsA A con) = false then 30 else 0
def learnR (A : Ar) (T : Tr) (con : Int) : List Int := if learnE A T con = 0 then learnS A T con else []
set_option maxRecDepth 16000 in
theorem rlearn_ok (A : Ar) (T : Tr) (con : Int) (ht : T.ok) (h0 : A.hd ≠ []) (hk : ArOk A) (hl : A.row.length ≤ 100000) (hT : T.lits.length ≤ 7) :
    APure Tryz.prog 30 [arP A, trP T, I64 con] (fun r => r = .pv (.tup [.seq true 1 (irow (learnR A T con)), I64 (learnE A T con)])) := by
  refine APure.wk (R := fun r => ∃ x, r = .pv x ∧ wkP x (.tup [.seq true 1 (irow (learnR A T con)), I64 (learnE A T con)])) ?_ (fun r ⟨x, e, h⟩ => ⟨x, _, e, h, rfl⟩)
  refine apureX [] [.tmp 6, .tmp 7] hmo Tryz.func30 (by kernel_rfl) rfl rfl (by kernel_rfl) (Nat.le_of_ble_eq_true rfl) ?_
  have hId := aidF_ok A h0 hk (by omega) con
  have hL := alitsF_ok A h0 hk (by omega) con
  have hcl := litsA_len A hk con
  have hfl := rfails_ok T (litsA A con) ht (by omega)
  have htk := ptake0_ok A T con 0 ht h0 hk (by omega)
  have hbg : takeL T 0 (litsA A con) ⟨[], [], 0⟩ = begP A T con := rfl
  rw [hbg] at htk
  have hble := takeL_le T 0 (litsA A con) ⟨[], [], 0⟩
  rw [hbg] at hble
  dsimp only [List.length_nil] at hble
  have hlt := tlits_ok T (by omega)
  have hw := pwalk_ok A T (begP A T con) T.lits ht h0 hk (by omega) (by omega) (by omega) (by omega)
  have hfd : fin A T T.lits (begP A T con) = ⟨(walkF A T T.lits T.lits.length (begP A T con)).seen, endS T T.lits (walkF A T T.lits T.lits.length (begP A T con)), (walkF A T T.lits T.lits.length (begP A T con)).many⟩ := rfl
  have hE : learnE A T con = if idA A con = 0 then 20 else if failsS T (litsA A con) = false then 30 else 0 := rfl
  have hR : learnR A T con = if learnE A T con = 0 then learnS A T con else [] := rfl
  have hS : learnS A T con = firS T (endS T T.lits (walkF A T T.lits T.lits.length (begP A T con))) := rfl
  have hend : (endS T T.lits (walkF A T T.lits T.lits.length (begP A T con))).length ≤ 1000000 := by
    have q1 := endTo_le T T.lits (walkF A T T.lits T.lits.length (begP A T con)) T.lits.length (Nat.le_refl _)
    rw [endTo_all] at q1
    have q2 := walkF_le A T hk T.lits T.lits.length (begP A T con)
    have q3 : T.lits.length * A.row.length ≤ 7 * 100000 := Nat.mul_le_mul hT hl
    omega
  generalize learnR A T con = R at *
  generalize learnE A T con = E at *
  generalize learnS A T con = S at *
  generalize litsA A con = c at *
  rw [hfd] at hw
  generalize walkF A T T.lits T.lits.length (begP A T con) = W at *
  generalize begP A T con = B at *
  simp
  refine CallK.intro hId (by simp) ?_
  by_cases c1 : idA A con = 0
  · rw [if_pos c1] at hE
    subst hE
    rw [if_neg (by omega)] at hR
    subst hR
    simp [c1, wkP, wkPL, irow]
  rw [if_neg c1] at hE
  simp [c1]
  refine CallK.intro hL (by simp) ?_
  simp
  refine CallK.intro hfl (by simp) ?_
  cases c2 : failsS T c
  · rw [if_pos c2] at hE
    subst hE
    rw [if_neg (by omega)] at hR
    subst hR
    simp [c2, wkP, wkPL, irow]
  rw [if_neg (by simp [c2])] at hE
  subst hE
  rw [if_pos rfl] at hR
  subst hR
  simp [c2]
  simp only [psZ, psB] at htk hw
  refine CallB.intro htk (by simp) ?_
  rintro _ _ ⟨rfl, rfl⟩
  simp
  refine CallK.intro hlt (by simp) ?_
  simp
  refine CallB.intro (hw.args (xs := [.ptr 0 0, .seq true 1 (irow T.lits)]) (by simp [wkPL, wkP])) (by simp) ?_
  rintro _ _ ⟨rfl, rfl⟩
  have hf := rfirst_ok T (endS T T.lits W) ht hend
  rw [← hS] at hf
  simp
  refine CallK.intro hf (by simp) ?_
  simp [wkP, wkPL]
end Go.AX

namespace Go.AX
open Go.Proofs
set_option linter.unusedSimpArgs false

theorem putL_id (cs : List (List Int)) : ∀ i, ∀ x ∈ (putL cs i).a.rows, 1 ≤ x.id
  | 0 => by simp [putL]
  | i + 1 => by
    have ih := putL_id cs i
    rw [putL]
    unfold putK
    dsimp only
    unfold putRA
    split
    · rename_i h
      intro x hx
      rcases List.mem_append.1 hx with hx | hx
      · exact ih x hx
      · simp at hx; subst hx
        unfold putEA at h
        split at h
        · omega
        · dsimp only; omega
    · exact ih
structure DeskI (cs : List (List Int)) (ats : List Int) (D : DK) : Prop extends DeskT cs ats D where
  id : ∀ x ∈ D.a.rows, 1 ≤ x.id
theorem setS_I {cs : List (List Int)} (hc : fewC cs) (lits : List Int) : DeskI (putL cs cs.length).rows (putL cs cs.length).ats (setS cs lits) := by
  refine ⟨setS_T hc lits, ?_⟩
  obtain ⟨_, ha⟩ := setL_A (putL cs cs.length).rows (putL cs cs.length).ats lits (begD (putL cs cs.length)) lits.length
  have ha' : (setS cs lits).a = (putL cs cs.length).a := ha
  rw [ha']
  exact putL_id cs _
theorem id_is {cs : List (List Int)} {ats : List Int} {D : DK} (h : DeskI cs ats D) {q : Int} (hq : isA D.A q = true) : idA D.A q ≠ 0 := by
  obtain ⟨x, hx, e⟩ := h.ok.relA.is q hq
  obtain ⟨p, e1, _, _, _, e5⟩ := h.ok.relA.rows x hx
  have hi := h.id x hx
  have hqp : q = (p : Int) := by rw [← e, e1]
  unfold idA
  rw [if_pos hq, hqp, Int.toNat_natCast, e5]
  omega
theorem pla_at {cs : List (List Int)} {ats : List Int} {D : DK} (h : DeskT cs ats D) {j : Nat} (hj : j < D.t.rows.length) {y : Int} (hy : D.t.rows[j].l = -y) : pla D.T y = j ∧ rea D.T y = D.t.rows[j].rea := by
  unfold pla rea
  rw [neg_at hj hy]
  exact ⟨(of_at h.ok.rel.1 h.facts hj).2.2, (of_at h.ok.rel.1 h.facts hj).2.1⟩
theorem val_neg {cs : List (List Int)} {ats : List Int} {D : DK} (h : DeskT cs ats D) {l : Int} (hv : valT D.T l < 0) : litChk l 6 = 0 ∧ ∃ j, ∃ hj : j < D.t.rows.length, D.t.rows[j].l = -l := by
  obtain ⟨hc, i, hi, hp⟩ := valT_none h.ok.rel.1 (l := l) (by omega)
  refine ⟨hc, i, hi, ?_⟩
  rcases valT_at h.ok.rel.1 hc hi hp with ⟨e, _⟩ | ⟨_, e⟩
  · exact e
  · omega
theorem val_of {cs : List (List Int)} {ats : List Int} {D : DK} (h : DeskT cs ats D) {l : Int} {j : Nat} (hj : j < D.t.rows.length) (e : D.t.rows[j].l = -l) : valT D.T l = -1 := by
  have := (val_at h hj).1
  rw [e, Int.neg_neg] at this
  exact this
theorem ahead_ok {cs : List (List Int)} {ats : List Int} {D : DK} (h : DeskT cs ats D) (h0 : D.A.hd ≠ []) : AheadOk D.A D.T where
  tr := h.ok.rel.1.okT
  hd := h0
  ar := fun q hq => by
    obtain ⟨x, hx, e⟩ := h.ok.relA.is q hq
    obtain ⟨p, e1, e2, _⟩ := h.ok.relA.rows x hx
    exact ⟨p, _, by rw [← e, e1], e2⟩
  len := h.ok.len
  ahead := fun l hv hr => by
    obtain ⟨hc, j, hj, e⟩ := val_neg h hv
    obtain ⟨p1, p2⟩ := pla_at h hj e
    rw [p1]
    refine ⟨by omega, fun y hy hne => ?_⟩
    rw [p2] at hy hr
    have hw := (lit6 hc).2.2.2.2
    obtain ⟨i, hi, hij, e2⟩ := ((rea_ahead h hj hr).2.2 y hy).2 (by rw [e, ← hw]; exact hne)
    rw [(pla_at h hi e2).1]
    omega
theorem pla_lt {cs : List (List Int)} {ats : List Int} {D : DK} (h : DeskT cs ats D) (l : Int) : pla D.T l < D.T.lits.length := by
  unfold pla
  rw [(relT_of h.ok.rel.1 (litV l)).2.2, h.ok.rel.1.lits, List.length_map]
  rcases Int.lt_or_le (plR D.t (litV l)) 0 with c | c
  · omega
  · obtain ⟨i, hi, e, _⟩ := plR_in c
    omega

/-! ### What was gathered -/
structure NI (D : DK) (L : List Int) (s : NS) : Prop where
  val : ∀ p, 0 ≤ (lk s.at' p).getD 0
  mem : ∀ p, seenB s.at' p = true → ∃ j, ∃ hj : j < D.t.rows.length, p = (j : Int) ∧ 0 ≤ D.t.rows[j].rea ∧ -D.t.rows[j].l ∉ L
def Met (D : DK) (L : List Int) (s : NS) (y : Int) : Prop := y ∈ L ∨ ∃ j, ∃ hj : j < D.t.rows.length, D.t.rows[j].l = -y ∧ seenB s.at' j = true
structure Post (D : DK) (L : List Int) (s s' : NS) (c : List Int) (but : Int) : Prop where
  ni : NI D L s'
  mono : ∀ p, seenB s.at' p = true → seenB s'.at' p = true
  all : s'.ok = true → s.ok = true ∧ (∀ y ∈ c, y ≠ but → Met D L s' y) ∧ ∀ j (hj : j < D.t.rows.length), seenB s'.at' j = true → seenB s.at' j = false → ∀ y ∈ litsA D.A D.t.rows[j].rea, y ≠ D.t.rows[j].l → Met D L s' y
  ok : (∀ y ∈ c, y ≠ but → HOk D.A D.T L y) → s'.ok = s.ok
theorem Met.mono {D : DK} {L : List Int} {s s' : NS} {y : Int} (h : Met D L s y) (hm : ∀ p, seenB s.at' p = true → seenB s'.at' p = true) : Met D L s' y :=
  h.imp id fun ⟨j, hj, e1, e2⟩ => ⟨j, hj, e1, hm _ e2⟩
theorem clsL_post {cs : List (List Int)} {ats : List Int} {D : DK} (h : DeskI cs ats D) {L : List Int} {stop : List (Int × Int)} (hst : ∀ y, seenB stop y = true ↔ y ∈ L) {k : Nat} {f : NS → Int → Int → NS}
    (hf : ∀ (s : NS) (j : Nat) (hj : j < D.t.rows.length), j < k → 0 ≤ D.t.rows[j].rea → NI D L s → Post D L s (f s D.t.rows[j].rea D.t.rows[j].l) (litsA D.A D.t.rows[j].rea) D.t.rows[j].l) (but : Int) :
    ∀ (c : List Int) (s : NS), NI D L s → (∀ y ∈ c, y ≠ but → litChk y 6 = 0 ∧ ∃ j, ∃ hj : j < D.t.rows.length, D.t.rows[j].l = -y ∧ j < k) → Post D L s (clsL f D.A D.T stop but c s) c but
  | [], s, hn, _ => ⟨hn, fun _ e => e, fun e => ⟨e, by simp, fun j hj h1 h2 => by rw [clsL] at h1; rw [h1] at h2; cases h2⟩, fun _ => rfl⟩
  | y :: c, s, hn, hc => by
    have hc' := fun z hz => hc z (List.mem_cons_of_mem _ hz)
    rw [clsL]
    by_cases hs : skipN D.T stop but s y = true
    · rw [if_pos hs]
      have ih := clsL_post h hst hf but c s hn hc'
      refine ⟨ih.ni, ih.mono, fun ho => ?_, fun hk => ih.ok fun z hz => hk z (List.mem_cons_of_mem _ hz)⟩
      obtain ⟨a1, a2, a3⟩ := ih.all ho
      refine ⟨a1, fun z hz hne => ?_, a3⟩
      rcases List.mem_cons.1 hz with rfl | hz
      · unfold skipN at hs
        simp only [Bool.or_eq_true, Bool.and_eq_true, decide_eq_true_eq] at hs
        rcases hs with (e | e) | ⟨e, _⟩
        · exact absurd e hne
        · exact .inl ((hst _).1 e)
        · obtain ⟨_, j, hj, e1, _⟩ := hc z (List.mem_cons_self ..) hne
          rw [(pla_at h.toDeskT hj e1).1] at e
          exact .inr ⟨j, hj, e1, ih.mono _ e⟩
      · exact a2 z hz hne
    rw [if_neg hs]
    have hns : y ≠ but ∧ y ∉ L ∧ ¬ (seenB s.at' (pla D.T y) = true ∧ 0 ≤ pla D.T y) := by
      unfold skipN at hs
      simp only [Bool.or_eq_true, Bool.and_eq_true, decide_eq_true_eq, not_or] at hs
      exact ⟨hs.1.1, fun e => hs.1.2 ((hst _).2 e), hs.2⟩
    obtain ⟨n1, n2, n3⟩ := hns
    obtain ⟨y6, j, hj, e1, hjk⟩ := hc y (List.mem_cons_self ..) n1
    obtain ⟨p1, p2⟩ := pla_at h.toDeskT hj e1
    have hval := val_of h.toDeskT hj e1
    by_cases hb : badN D.A D.T y = true
    · rw [if_pos hb]
      refine ⟨⟨hn.val, hn.mem⟩, fun _ e => e, fun e => (by cases e), fun hk => ?_⟩
      exfalso
      unfold badN at hb
      simp only [Bool.or_eq_true, decide_eq_true_eq] at hb
      have hy := hk y (List.mem_cons_self ..) n1
      cases hy with
      | stop e => exact n2 e
      | why v1 v2 v3 _ =>
        rcases hb with (e | e) | e
        · omega
        · have : rea D.T y = (ofT D.T (litV y)).1.rea := rfl
          omega
        · exact id_is h v3 e
    rw [if_neg hb]
    have hbn : 0 ≤ rea D.T y := by
      unfold badN at hb
      simp only [Bool.or_eq_true, decide_eq_true_eq, not_or] at hb
      omega
    have hw := (lit6 y6).2.2.2.2
    have hwl : w64 (-y) = D.t.rows[j].l := by rw [hw, e1]
    rw [p2] at hbn ⊢
    rw [hwl]
    have hnm : seenB s.at' j = false := by
      cases e : seenB s.at' j
      · rfl
      · exact absurd ⟨by rw [p1]; exact e, by omega⟩ n3
    have h0 : (lk s.at' (j : Int)).getD 0 = 0 := by
      have := hn.val j
      unfold seenB at hnm
      simp at hnm
      omega
    have hmk : markN D.T s y = ⟨pt s.at' j 1, s.ok⟩ := by
      unfold markN
      rw [p1, h0]
      rfl
    rw [hmk]
    have hsm : ∀ p, seenB (pt s.at' (j : Int) 1) p = if (j : Int) = p then true else seenB s.at' p := fun p => by rw [seen_pt]; simp
    have hn1 : NI D L ⟨pt s.at' j 1, s.ok⟩ := by
      refine ⟨fun p => ?_, fun p hp => ?_⟩
      · dsimp only
        rw [lk_pt]
        split
        · simp
        · exact hn.val p
      · dsimp only at hp
        rw [hsm] at hp
        split at hp
        · rename_i e
          exact ⟨j, hj, e.symm, hbn, by rw [e1, Int.neg_neg]; exact n2⟩
        · exact hn.mem p hp
    have g1 := hf ⟨pt s.at' j 1, s.ok⟩ j hj hjk hbn hn1
    generalize f ⟨pt s.at' j 1, s.ok⟩ D.t.rows[j].rea D.t.rows[j].l = s2 at *
    have g2 := clsL_post h hst hf but c s2 g1.ni hc'
    generalize clsL f D.A D.T stop but c s2 = s3 at *
    have hm1 : ∀ p, seenB s.at' p = true → seenB (pt s.at' (j : Int) 1) p = true := fun p hp => by rw [hsm]; split <;> simp [hp]
    have hmj : seenB s2.at' j = true := g1.mono j (by dsimp only; rw [hsm, if_pos rfl])
    refine ⟨g2.ni, fun p hp => g2.mono p (g1.mono p (hm1 p hp)), fun ho => ?_, fun hk => ?_⟩
    · obtain ⟨a1, a2, a3⟩ := g2.all ho
      obtain ⟨b1, b2, b3⟩ := g1.all a1
      refine ⟨b1, fun z hz hne => ?_, fun i hi h3 h4 z hz hne => ?_⟩
      · rcases List.mem_cons.1 hz with rfl | hz
        · exact .inr ⟨j, hj, e1, g2.mono _ hmj⟩
        · exact a2 z hz hne
      · cases c2 : seenB s2.at' i
        · exact a3 i hi h3 c2 z hz hne
        · by_cases e : j = i
          · subst e
            exact (b2 z hz hne).mono g2.mono
          · exact (b3 i hi c2 (by dsimp only; rw [hsm, if_neg (by omega)]; exact h4) z hz hne).mono g2.mono
    · rw [g2.ok fun z hz => hk z (List.mem_cons_of_mem _ hz)]
      have hy := hk y (List.mem_cons_self ..) n1
      cases hy with
      | stop e => exact absurd e n2
      | why _ _ _ v4 =>
        refine g1.ok fun z hz hne => ?_
        have hr : (ofT D.T (litV y)).1.rea = D.t.rows[j].rea := p2
        rw [hr] at v4
        exact v4 z hz (by rw [← e1]; exact hne)
theorem clsF_post {cs : List (List Int)} {ats : List Int} {D : DK} (h : DeskI cs ats D) {L : List Int} {stop : List (Int × Int)} (hst : ∀ y, seenB stop y = true ↔ y ∈ L) : ∀ (k : Nat) (q but : Int) (s : NS), NI D L s →
    (∀ y ∈ litsA D.A q, y ≠ but → litChk y 6 = 0 ∧ ∃ j, ∃ hj : j < D.t.rows.length, D.t.rows[j].l = -y ∧ j < k) → Post D L s (clsF D.A D.T stop (k + 1) s q but) (litsA D.A q) but
  | 0, q, but, s, hn, hq => by
    rw [clsF]
    exact clsL_post h hst (k := 0) (fun _ j _ hj => by omega) but _ s hn hq
  | k + 1, q, but, s, hn, hq => by
    rw [clsF]
    refine clsL_post h hst (k := k + 1) (fun s j hj hjk hr hn => ?_) but _ s hn hq
    refine clsF_post h hst k _ _ s hn fun y hy hne => ?_
    obtain ⟨y6, hh⟩ := (rea_ahead h.toDeskT hj hr).2.2 y hy
    obtain ⟨i, hi, hij, e⟩ := hh hne
    exact ⟨y6, i, hi, e, by omega⟩
end Go.AX

namespace Go.AX
open Go.Proofs
set_option linter.unusedSimpArgs false

def chnF (l : List Int) : List (List Int) → Nat → List Int × Nat × Int
  | [], n => (l, n, 23)
  | h :: hs, n => if clS l h = -1 then (l, n + 1, 0) else if (unitS l h).2 = true then chnF (l ++ [(unitS l h).1]) hs (n + 1) else ([], n, 22)
def staTo (c : List Int) : Nat → List Int
  | 0 => []
  | i + 1 => if c.getD i 0 ∈ c.take i then staTo c i else staTo c i ++ [w64 (-(c.getD i 0))]
theorem staTo_mem (c : List Int) (x : Int) : ∀ i, i ≤ c.length → (x ∈ staTo c i ↔ ∃ y ∈ c.take i, x = w64 (-y))
  | 0, _ => by simp [staTo]
  | i + 1, h => by
    have ih := staTo_mem c x i (by omega)
    have hg : c.getD i 0 = c[i] := by rw [List.getD_eq_getElem?_getD, List.getElem?_eq_getElem (by omega)]; rfl
    have ht : c.take (i + 1) = c.take i ++ [c[i]] := (List.take_append_getElem (by omega)).symm
    rw [staTo, hg, ht]
    by_cases e : c[i] ∈ c.take i
    · rw [if_pos e, ih]
      constructor
      · rintro ⟨y, hy, e2⟩; exact ⟨y, List.mem_append_left _ hy, e2⟩
      · rintro ⟨y, hy, e2⟩
        rcases List.mem_append.1 hy with hy | hy
        · exact ⟨y, hy, e2⟩
        · simp at hy; subst hy; exact ⟨_, e, e2⟩
    · rw [if_neg e, List.mem_append, ih, List.mem_singleton]
      constructor
      · rintro (⟨y, hy, e2⟩ | e2)
        · exact ⟨y, List.mem_append_left _ hy, e2⟩
        · exact ⟨_, List.mem_append_right _ (List.mem_singleton.2 rfl), e2⟩
      · rintro ⟨y, hy, e2⟩
        rcases List.mem_append.1 hy with hy | hy
        · exact .inl ⟨y, hy, e2⟩
        · simp at hy; subst hy; exact .inr e2
def staL (c : List Int) : List Int := staTo c c.length
theorem staL_mem (c : List Int) (x : Int) : x ∈ staL c ↔ ∃ y ∈ c, x = w64 (-y) := by
  have := staTo_mem c x c.length (Nat.le_refl _)
  rwa [List.take_length] at this

def AllNeg (D : DK) (L : List Int) : Prop := ∀ y ∈ L, litChk y 6 = 0 ∧ ∃ j, ∃ hj : j < D.t.rows.length, D.t.rows[j].l = -y
def rj (D : DK) (j : Nat) : Int := rea D.T (D.T.lits.getD j 0)
theorem rj_is {cs : List (List Int)} {ats : List Int} {D : DK} (h : DeskT cs ats D) {j : Nat} (hj : j < D.t.rows.length) : rj D j = D.t.rows[j].rea := by
  unfold rj rea
  rw [all_at h.ok.rel.1 hj]
  exact (of_at h.ok.rel.1 h.facts hj).2.1
theorem mem_litsT {t : RT} {j : Nat} (hj : j < t.rows.length) : t.rows[j].l ∈ litsT t := List.mem_map.2 ⟨_, List.getElem_mem hj, rfl⟩
theorem hin_post {cs : List (List Int)} {ats : List Int} {D : DK} (h : DeskI cs ats D) {con : Int} (hc : Conf D con) (L : List Int) : Post D L ⟨[], true⟩ (hinN D.A D.T L con) (litsA D.A con) 0 := by
  have hlen : D.T.lits.length = D.t.rows.length := by rw [h.ok.rel.1.lits, List.length_map]
  unfold hinN
  refine clsF_post h (fun y => ?_) D.T.lits.length con 0 ⟨[], true⟩ ⟨fun p => by simp [lk], fun p hp => by simp [seenB, lk] at hp⟩ fun y hy _ => ?_
  · have := stoTo_is L y L.length (Nat.le_refl _)
    rwa [List.take_length] at this
  · obtain ⟨y6, j, hj, e⟩ := hc.neg y hy
    exact ⟨y6, j, hj, e, by omega⟩
theorem rea_ne {cs : List (List Int)} {ats : List Int} {D : DK} (h : DeskT cs ats D) {i j : Nat} (hi : i < D.t.rows.length) (hj : j < D.t.rows.length) (hij : i < j) (hri : 0 ≤ D.t.rows[i].rea) (hrj : 0 ≤ D.t.rows[j].rea) : D.t.rows[i].rea ≠ D.t.rows[j].rea := by
  intro e
  have hF := h.facts
  have h1 := (rea_ahead h hi hri).2.1
  rw [e] at h1
  obtain ⟨h6, h2⟩ := (rea_ahead h hj hrj).2.2 _ h1
  have hne : D.t.rows[i].l ≠ D.t.rows[j].l := fun e2 => by
    have := hF.inj hi hj (by rw [e2])
    omega
  obtain ⟨k, hk, _, e3⟩ := h2 hne
  exact hF.one h6 ⟨mem_litsT hi, by rw [← e3]; exact mem_litsT hk⟩
theorem con_ne {cs : List (List Int)} {ats : List Int} {D : DK} (h : DeskT cs ats D) {con : Int} (hc : Conf D con) {i : Nat} (hi : i < D.t.rows.length) (hri : 0 ≤ D.t.rows[i].rea) : D.t.rows[i].rea ≠ con := by
  intro e
  have h1 := (rea_ahead h hi hri).2.1
  rw [e] at h1
  obtain ⟨h6, k, hk, e3⟩ := hc.neg _ h1
  exact h.facts.one h6 ⟨mem_litsT hi, by rw [← e3]; exact mem_litsT hk⟩
def mkd (s : NS) (i : Nat) : List Nat := (List.range i).filter fun j => seenB s.at' j
theorem mkd_succ (s : NS) (i : Nat) : mkd s (i + 1) = if seenB s.at' i = true then mkd s i ++ [i] else mkd s i := by
  unfold mkd
  rw [List.range_succ, List.filter_append]
  by_cases c : seenB s.at' i = true
  · rw [if_pos c, List.filter_cons, if_pos c]; rfl
  · rw [if_neg c, List.filter_cons, if_neg c]; simp
theorem mkd_mem (s : NS) (i j : Nat) : j ∈ mkd s i ↔ j < i ∧ seenB s.at' j = true := by
  unfold mkd
  rw [List.mem_filter, List.mem_range]
theorem hinTo_is {cs : List (List Int)} {ats : List Int} {D : DK} (h : DeskT cs ats D) {L : List Int} {s : NS} (hn : NI D L s) : ∀ i, i ≤ D.t.rows.length → hinTo D.T s.at' i = (mkd s i).map (rj D)
  | 0, _ => rfl
  | i + 1, hi => by
    have ih := hinTo_is h hn i (by omega)
    have hr : rea D.T (D.T.lits.getD i 0) = rj D i := rfl
    rw [hinTo, mkd_succ]
    unfold hinF
    rw [ih, hr]
    by_cases c : seenB s.at' i = true
    · obtain ⟨j, hj, e1, e2, _⟩ := hn.mem _ c
      have hij : i = j := by omega
      subst hij
      have : ¬ rj D i ∈ (mkd s i).map (rj D) := by
        intro e
        obtain ⟨m, hm, e3⟩ := List.mem_map.1 e
        rw [mkd_mem] at hm
        obtain ⟨j, hj2, f1, f2, _⟩ := hn.mem _ hm.2
        have hmj : m = j := by omega
        subst hmj
        rw [rj_is h hj2, rj_is h hj] at e3
        exact rea_ne h hj2 hj hm.1 f2 e2 e3
      rw [if_pos (by simp only [c, this, decide_false, Bool.not_false, Bool.and_self]), if_pos c, List.map_append]
      rfl
    · have c' : seenB s.at' i = false := by simpa using c
      rw [if_neg (by simp [c']), if_neg c]
structure CInv (D : DK) (L : List Int) (s : NS) (l : List Int) (js : List Nat) : Prop where
  sub : ∀ x ∈ l, x ∈ litsT D.t
  neg : ∀ y ∈ L, -y ∈ l
  don : ∀ j (hj : j < D.t.rows.length), seenB s.at' j = true → j ∉ js → D.t.rows[j].l ∈ l
  todo : ∀ j ∈ js, ∃ hj : j < D.t.rows.length, seenB s.at' j = true ∧ D.t.rows[j].l ∉ l
  inc : js.Pairwise (· < ·)
theorem met_m1 {cs : List (List Int)} {ats : List Int} {D : DK} (h : DeskT cs ats D) {L : List Int} {s : NS} {l : List Int} {js : List Nat} (hi : CInv D L s l js) {y : Int} (y6 : litChk y 6 = 0) (hm : -y ∈ l) : val3 l y = -1 :=
  val3_m1_of y6 hm (fun e => h.facts.one y6 ⟨hi.sub _ e, hi.sub _ hm⟩)
theorem chn_go {cs : List (List Int)} {ats : List Int} {D : DK} (h : DeskI cs ats D) {con : Int} (hc : Conf D con) {L : List Int} {s : NS} (hn : NI D L s)
    (hcl : ∀ j (hj : j < D.t.rows.length), seenB s.at' j = true → ∀ y ∈ litsA D.A D.t.rows[j].rea, y ≠ D.t.rows[j].l → Met D L s y) (hco : ∀ y ∈ litsA D.A con, Met D L s y) :
    ∀ (js : List Nat) (l : List Int) (n : Nat), CInv D L s l js → ∃ l', chnF l ((js.map (rj D)).map (litsA D.A) ++ [litsA D.A con]) n = (l', n + js.length + 1, 0)
  | [], l, n, hi => by
    refine ⟨l, ?_⟩
    have : clS l (litsA D.A con) = -1 := by
      rw [clS_m1]
      intro y hy _
      have y6 := (hc.neg y hy).1
      refine met_m1 h.toDeskT hi y6 ?_
      rcases hco y hy with e | ⟨j, hj, e1, e2⟩
      · exact hi.neg y e
      · rw [← e1]; exact hi.don j hj e2 (by simp)
    simp [chnF, this]
  | j :: js, l, n, hi => by
    obtain ⟨hj, hs, hnl⟩ := hi.todo j (List.mem_cons_self ..)
    obtain ⟨j2, hj2, e1, hr, _⟩ := hn.mem _ hs
    have hjj : j = j2 := by omega
    subst hjj
    have hF := h.facts
    obtain ⟨r1, r2, r3⟩ := rea_ahead h.toDeskT hj hr
    have x6 := (r3 _ r2).1
    have hx0 := (lit6 x6).2.2.2.1
    have hw := (lit6 x6).2.2.2.2
    have hcl' := hcl j hj hs
    have hinc := List.pairwise_cons.1 hi.inc
    obtain ⟨k, hk, ek1, ek2⟩ : ∃ k, ∃ hk : k < cs.length, litsA D.A D.t.rows[j].rea = cs[k] ∧ True := by
      obtain ⟨k, hk, e, _⟩ := hF.imp j hj hr
      rw [e]
      exact ⟨k, hk, (h.ars k hk).2, trivial⟩
    have hlen := h.cls.len _ (List.getElem_mem hk)
    have hnd := h.cls.nd _ (List.getElem_mem hk)
    rw [← ek1] at hlen hnd
    have hv0 : val3 l D.t.rows[j].l = 0 := by
      unfold val3
      rw [if_neg (by omega), if_neg hnl, if_neg]
      rw [hw]
      intro e
      exact hF.one x6 ⟨mem_litsT hj, hi.sub _ e⟩
    have hv1 : ∀ y ∈ litsA D.A D.t.rows[j].rea, y ≠ D.t.rows[j].l → val3 l y = -1 := fun y hy hne => by
      have y6 := (r3 y hy).1
      refine met_m1 h.toDeskT hi y6 ?_
      rcases hcl' y hy hne with e | ⟨i, hi2, e1, e2⟩
      · exact hi.neg y e
      · obtain ⟨i', hi', hij, e3⟩ := (r3 y hy).2 hne
        have : i = i' := hF.inj hi2 hi' (by rw [e1, e3])
        subst this
        rw [← e1]
        refine hi.don i hi2 e2 ?_
        intro hm
        rcases List.mem_cons.1 hm with e | hm
        · omega
        · have := hinc.1 i hm; omega
    have hu := unit_of hlen hnd r2 hx0 hv0 hv1
    have hnc : ¬ clS l (litsA D.A D.t.rows[j].rea) = -1 := by
      rw [clS_m1]
      intro e
      have := e _ r2 hx0
      omega
    have hi2 : CInv D L s (l ++ [D.t.rows[j].l]) js := by
      refine ⟨?_, fun y hy => List.mem_append_left _ (hi.neg y hy), ?_, ?_, hinc.2⟩
      · intro x hx
        rcases List.mem_append.1 hx with hx | hx
        · exact hi.sub x hx
        · simp at hx; subst hx; exact mem_litsT hj
      · intro i hil his hnm
        by_cases e : i = j
        · subst e; simp
        · exact List.mem_append_left _ (hi.don i hil his (by simp [e, hnm]))
      · intro i hm
        obtain ⟨hil, his, hni⟩ := hi.todo i (List.mem_cons_of_mem _ hm)
        refine ⟨hil, his, ?_⟩
        intro e
        rcases List.mem_append.1 e with e | e
        · exact hni e
        · simp at e
          have := hF.inj hil hj (by rw [e])
          have := hinc.1 i hm
          omega
    obtain ⟨l', hl'⟩ := chn_go h hc hn hcl hco js _ (n + 1) hi2
    refine ⟨l', ?_⟩
    rw [List.map_cons, List.map_cons, List.cons_append, chnF, rj_is h.toDeskT hj, if_neg hnc, hu, if_pos rfl, hl', List.length_cons]
    congr 2; omega
theorem hints_show {cs : List (List Int)} {ats : List Int} {D : DK} (h : DeskI cs ats D) {con : Int} (hc : Conf D con) {L : List Int} (hL : AllNeg D L) (ho : (hinN D.A D.T L con).ok = true) :
    (hinO D.T (hinN D.A D.T L con).at' con).Nodup ∧ (∀ q ∈ hinO D.T (hinN D.A D.T L con).at' con, isA D.A q = true) ∧
      ∃ l', chnF (staL L) ((hinO D.T (hinN D.A D.T L con).at' con).map (litsA D.A)) 0 = (l', (hinO D.T (hinN D.A D.T L con).at' con).length, 0) := by
  have hp := hin_post h hc L
  generalize hinN D.A D.T L con = s at *
  obtain ⟨_, a2, a3⟩ := hp.all ho
  have hF := h.facts
  have hlen : D.T.lits.length = D.t.rows.length := by rw [h.ok.rel.1.lits, List.length_map]
  have hin := hinTo_is h.toDeskT hp.ni D.t.rows.length (Nat.le_refl _)
  have hmk : ∀ j ∈ mkd s D.t.rows.length, ∃ hj : j < D.t.rows.length, seenB s.at' j = true ∧ 0 ≤ D.t.rows[j].rea ∧ -D.t.rows[j].l ∉ L := fun j hj => by
    rw [mkd_mem] at hj
    obtain ⟨j', hj', e1, e2, e3⟩ := hp.ni.mem _ hj.2
    have : j = j' := by omega
    subst this
    exact ⟨hj', hj.2, e2, e3⟩
  have hnc : con ∉ (mkd s D.t.rows.length).map (rj D) := by
    intro e
    obtain ⟨j, hj, e1⟩ := List.mem_map.1 e
    obtain ⟨hj', _, hr, _⟩ := hmk j hj
    rw [rj_is h.toDeskT hj'] at e1
    exact con_ne h.toDeskT hc hj' hr e1
  have hO : hinO D.T s.at' con = (mkd s D.t.rows.length).map (rj D) ++ [con] := by
    unfold hinO
    rw [hlen, hin, if_neg hnc]
  have hinc : (mkd s D.t.rows.length).Pairwise (· < ·) := List.Pairwise.filter _ List.pairwise_lt_range
  rw [hO]
  refine ⟨?_, ?_, ?_⟩
  · rw [List.nodup_append]
    refine ⟨?_, by simp, fun a ha b hb e => ?_⟩
    · refine List.pairwise_map.2 (hinc.imp_of_mem fun {i j} hi hj hij => ?_)
      obtain ⟨hi', _, hri, _⟩ := hmk i hi
      obtain ⟨hj', _, hrj, _⟩ := hmk j hj
      rw [rj_is h.toDeskT hi', rj_is h.toDeskT hj']
      exact rea_ne h.toDeskT hi' hj' hij hri hrj
    · simp at hb
      subst hb
      exact hnc (e ▸ ha)
  · intro q hq
    rcases List.mem_append.1 hq with hq | hq
    · obtain ⟨j, hj, e1⟩ := List.mem_map.1 hq
      obtain ⟨hj', _, hr, _⟩ := hmk j hj
      rw [rj_is h.toDeskT hj'] at e1
      rw [← e1]
      exact (rea_ahead h.toDeskT hj' hr).1
    · simp at hq; subst hq; exact hc.is
  · have hci : CInv D L s (staL L) (mkd s D.t.rows.length) := by
      refine ⟨?_, ?_, ?_, ?_, hinc⟩
      · intro x hx
        rw [staL_mem] at hx
        obtain ⟨y, hy, rfl⟩ := hx
        obtain ⟨y6, j, hj, e⟩ := hL y hy
        rw [(lit6 y6).2.2.2.2, ← e]
        exact mem_litsT hj
      · intro y hy
        rw [staL_mem]
        exact ⟨y, hy, (lit6 (hL y hy).1).2.2.2.2.symm⟩
      · intro j hj hs hnm
        exact absurd ((mkd_mem s _ j).2 ⟨hj, hs⟩) hnm
      · intro j hj
        obtain ⟨hj', hs, _, hnL⟩ := hmk j hj
        refine ⟨hj', hs, fun e => ?_⟩
        rw [staL_mem] at e
        obtain ⟨y, hy, e2⟩ := e
        rw [(lit6 (hL y hy).1).2.2.2.2] at e2
        apply hnL
        rw [e2, Int.neg_neg]
        exact hy
    obtain ⟨l', hl'⟩ := chn_go h hc hp.ni (fun j hj hs y hy hne => a3 j hj hs (by simp [seenB, lk]) y hy hne) (fun y hy => a2 y hy (by have := lit6 (hc.neg y hy).1; omega)) _ _ 0 hci
    refine ⟨l', ?_⟩
    rw [List.map_append]
    have : List.map (litsA D.A) [con] = [litsA D.A con] := rfl
    rw [this, hl']
    congr 2
    simp
theorem hints_ok_of {cs : List (List Int)} {ats : List Int} {D : DK} (h : DeskI cs ats D) {con : Int} (hc : Conf D con) {L : List Int} (hk : ∀ y ∈ litsA D.A con, HOk D.A D.T L y) : (hinN D.A D.T L con).ok = true :=
  (hin_post h hc L).ok fun y hy _ => hk y hy
end Go.AX

namespace Go.AX
open Go.Proofs
set_option linter.unusedSimpArgs false

def stpS (l h : List Int) : List Int × Bool × Int := if clS l h = -1 then (l, true, 0) else if (unitS l h).2 = true then (l ++ [(unitS l h).1], false, 0) else ([], false, 22)
set_option maxRecDepth 16000 in
theorem refStep8_ok (g : List (List SV)) (l h : List Int) (hl : l.length ≤ 1000000) (hh : h.length ≤ 1000000) : AMut Tryz.prog 162 [.seq false 1 (irow l), .seq false 1 (irow h)] g (fun r g' => g' = g ∧ r = .pv (.tup [.seq false 1 (irow (stpS l h).1), BL (stpS l h).2.1, I64 (stpS l h).2.2])) := by
  refine amutXW [] [.tmp 4, .tmp 5, .tmp 6] hmo Tryz.func162 (by kernel_rfl) rfl rfl (by kernel_rfl) (Nat.le_of_ble_eq_true rfl) ?_
  have hC := rf3Clause_ok l h hl hh
  have hU := rf3Unit_ok l h hl hh
  unfold stpS
  simp
  refine CallK.intro hC (by simp) ?_
  by_cases c1 : clS l h = -1
  · simp [c1, wkP, wkPL]
  simp [c1]
  refine CallK.intro hU (by simp) ?_
  cases c2 : (unitS l h).2
  · simp [c2, wkP, wkPL, irow]
  · simp [c2, wkP, wkPL, irow]
    omega
theorem crowF_at (hs : List (List Int)) {i : Nat} (h : i < hs.length) : ∀ h', (hs.map crowF)[i]'h' = [.seq false 1 (irow hs[i])] := fun h' => by simp [crowF]
set_option maxRecDepth 16000 in
theorem refChain8_ok (g : List (List SV)) (l : List Int) (hs : List (List Int)) (hl : l.length + hs.length ≤ 1000000) (hh : ∀ h ∈ hs, h.length ≤ 1000000) : AMut Tryz.prog 108 [.seq false 1 (irow l), .seq false 1 (hs.map crowF)] g (fun r g' => g' = g ∧ r = .pv (.tup [.seq false 1 (irow (chnF l hs 0).1), I64 (chnF l hs 0).2.1, I64 (chnF l hs 0).2.2])) := by
  refine amutXW [] [.tmp 4, .tmp 5, .tmp 6] hmo Tryz.func108 (by kernel_rfl) rfl rfl (by kernel_rfl) (Nat.le_of_ble_eq_true rfl) ?_
  generalize hF : chnF l hs 0 = F
  simp
  refine ALoop.intro (S := fun (x : Nat × List Int) => ⟨[(0, .pv (.seq false 1 (irow x.2))), (1, .pv (.seq false 1 (hs.map crowF))), (7, .pv (I64 x.1))], g⟩) (fun x => x.1 ≤ hs.length ∧ x.2.length ≤ l.length + x.1 ∧ F = chnF x.2 (hs.drop x.1) x.1) (fun x => hs.length - x.1) (0, l) ?_ ⟨Nat.zero_le _, Nat.le_refl _, hF.symm⟩ ?_
  · exact Weak.keep (by simp) (by simp)
  clear hF
  rintro ⟨i, l1⟩ ⟨hi, hl1, hF⟩
  dsimp only at hi hl1 hF
  by_cases h : i < hs.length
  rotate_left
  · have hie : i = hs.length := by omega
    subst hie
    rw [List.drop_eq_nil_of_le (Nat.le_refl _), chnF] at hF
    subst hF
    simp [wkP, wkPL]
  have hw : w64 ((i : Int) + 1) = ((i + 1 : Nat) : Int) := by rw [w64_id (by omega) (by omega)]; omega
  have hdr : hs.drop i = hs[i] :: hs.drop (i + 1) := List.drop_eq_getElem_cons h
  rw [hdr, chnF] at hF
  have hst := fun g => refStep8_ok g l1 hs[i] (by omega) (hh _ (List.getElem_mem h))
  have hrow := crowF_at hs h
  generalize hs[i] = c at *
  have hS : stpS l1 c = if clS l1 c = -1 then (l1, true, 0) else if (unitS l1 c).2 = true then (l1 ++ [(unitS l1 c).1], false, 0) else ([], false, 22) := rfl
  generalize stpS l1 c = s at *
  simp [h, hrow]
  refine CallK.introM (hst _) (by simp) ?_
  rintro _ _ ⟨rfl, rfl⟩
  by_cases c1 : clS l1 c = -1
  · rw [if_pos c1] at hF hS
    subst hF hS
    simp [wkP, wkPL, hw]
  rw [if_neg c1] at hF hS
  by_cases c2 : (unitS l1 c).2 = true
  · rw [if_pos c2] at hF hS
    subst hS
    simp
    refine ⟨(i + 1, l1 ++ [(unitS l1 c).1]), by (try dsimp only); omega, ⟨by (try dsimp only); omega, by simp; omega, hF⟩, Weak.keep (by simp [hw]) (by simp)⟩
  · rw [if_neg c2] at hF hS
    subst hF hS
    simp [wkP, wkPL, irow]
def badL (c : List Int) : Bool := c.any fun x => decide (litX x < 0)
def staE (c : List Int) : Int := if badL c = true then 10 else if tautS c = true then 11 else 0
def staR (c : List Int) : List Int := if staE c = 0 then staL c else []
theorem staTo_le (c : List Int) : ∀ i, (staTo c i).length ≤ i
  | 0 => Nat.le_refl _
  | i + 1 => by
    have := staTo_le c i
    rw [staTo]
    split
    · omega
    · simp; omega
set_option maxRecDepth 16000 in
theorem refStart8_ok (c : List Int) (hl : c.length ≤ 1000000) : APure Tryz.prog 107 [.seq false 1 (irow c)] (fun r => r = .pv (.tup [.seq true 1 (irow (staR c)), I64 (staE c)])) := by
  refine APure.wk (R := fun r => ∃ x, r = .pv x ∧ wkP x (.tup [.seq true 1 (irow (staR c)), I64 (staE c)])) ?_ (fun r ⟨x, e, h⟩ => ⟨x, _, e, h, rfl⟩)
  refine apureX [] [.tmp 2, .tmp 3] hmo Tryz.func107 (by kernel_rfl) rfl rfl (by kernel_rfl) (Nat.le_of_ble_eq_true rfl) ?_
  have hE : staE c = if badL c = true then 10 else if tautS c = true then 11 else 0 := rfl
  have hR : staR c = if staE c = 0 then staL c else [] := rfl
  have hT := refTaut_ok c hl
  generalize staR c = R at *
  generalize staE c = E at *
  simp
  refine ALoop.intro (S := fun (i : Nat) => ⟨[(0, .pv (.seq false 1 (irow c))), (4, .pv (I64 i))], []⟩) (fun i => i ≤ c.length ∧ ∀ j (h : j < c.length), j < i → 0 ≤ litX c[j]) (fun i => c.length - i) 0 ?_ ⟨Nat.zero_le _, fun j _ h => by omega⟩ ?_
  · exact Weak.to (by simp) (by simp) (by simp) (by simp) (by simp)
  rintro i ⟨hi, ho⟩
  by_cases h : i < c.length
  · have hw : w64 ((i : Int) + 1) = ((i + 1 : Nat) : Int) := by rw [w64_id (by omega) (by omega)]; omega
    simp [h]
    refine CallK.intro (refIndex_ok c[i]) (by simp) ?_
    by_cases c1 : litX c[i] < 0
    · have hb : badL c = true := List.any_eq_true.2 ⟨_, List.getElem_mem h, by simpa using c1⟩
      rw [if_pos hb] at hE
      subst hE
      rw [if_neg (by omega)] at hR
      subst hR
      simp [c1, wkP, wkPL, irow]
    · simp [c1]
      refine ⟨i + 1, by (try dsimp only); omega, ⟨by (try dsimp only); omega, fun j hj hji => ?_⟩, Weak.to (by simp [hw]) (by simp) (by simp) (by simp) (by simp)⟩
      by_cases e : j = i
      · subst e; omega
      · exact ho j hj (by omega)
  have hie : i = c.length := by omega
  subst hie
  have hb : badL c = false := List.any_eq_false.2 fun x hx => by
    obtain ⟨j, hj, rfl⟩ := List.getElem_of_mem hx
    have := ho j hj hj
    simp; omega
  rw [if_neg (by simp [hb])] at hE
  clear ho hb hi h
  simp
  refine CallK.intro hT (by simp) ?_
  cases c2 : tautS c
  rotate_left
  · rw [if_pos c2] at hE
    subst hE
    rw [if_neg (by omega)] at hR
    subst hR
    simp [wkP, wkPL, irow]
  rw [if_neg (by simp [c2])] at hE
  subst hE
  rw [if_pos rfl] at hR
  subst hR
  simp
  refine ALoop.intro (S := fun (i : Nat) => ⟨[(0, .pv (.seq false 1 (irow c))), (5, .own true 1 (irow (staTo c i))), (6, .pv (I64 i))], []⟩) (fun i => i ≤ c.length) (fun i => c.length - i) 0 ?_ (Nat.zero_le _) ?_
  · exact (Weak.nilOwn (s := 5) 1 true (by simp)).trans (Weak.to (by simp [staTo, irow]) (by simp) (by simp) (by simp) (by simp))
  intro i hi
  have hle := staTo_le c i
  by_cases h : i < c.length
  rotate_left
  · have hie : i = c.length := by omega
    subst hie
    simp [wkP, wkPL, staL]
  have hw : w64 ((i : Int) + 1) = ((i + 1 : Nat) : Int) := by rw [w64_id (by omega) (by omega)]; omega
  have hg : c.getD i 0 = c[i] := by rw [List.getD_eq_getElem?_getD, List.getElem?_eq_getElem h]; rfl
  have hsu : staTo c (i + 1) = if c[i] ∈ c.take i then staTo c i else staTo c i ++ [w64 (-c[i])] := by rw [staTo, hg]
  have hH := refHas_ok (c.take i) c[i] (by simp; omega)
  have hit : (irow c).take i = irow (c.take i) := by unfold irow; rw [List.map_take]
  simp [h, hit]
  refine ⟨by omega, ?_⟩
  refine CallQ0.intro hH (by simp) ?_
  by_cases c3 : c[i] ∈ c.take i
  · rw [if_pos c3] at hsu
    simp [c3]
    refine ⟨i + 1, by (try dsimp only); omega, by (try dsimp only); omega, Weak.to (by simp [hw, hsu]) (by simp) (by simp) (by simp) (by simp)⟩
  · rw [if_neg c3] at hsu
    simp [c3, h]
    refine ⟨by omega, i + 1, by (try dsimp only); omega, by (try dsimp only); omega, Weak.to (by simp [hw, hsu, irow]) (by simp) (by simp) (by simp) (by simp)⟩
def shwS (c : List Int) (hs : List (List Int)) : Nat × Int := if staE c = 0 then ((chnF (staL c) hs 0).2.1, (chnF (staL c) hs 0).2.2) else (0, staE c)
end Go.AX

namespace Go.AX
open Go.Proofs
set_option linter.unusedSimpArgs false

def shnS (D : DK) (l h : List Int) : Bool := decide ((shwS l (h.map (litsA D.A))).2 = 0) && decide ((shwS l (h.map (litsA D.A))).1 = h.length)
end Go.AX

namespace Go.AX
open Go.Proofs
set_option linter.unusedSimpArgs false

end Go.AX

namespace Go.AX
open Go.Proofs
set_option linter.unusedSimpArgs false

theorem rows_few {cs : List (List Int)} {ats : List Int} {D : DK} (h : DeskT cs ats D) : D.T.lits.length ≤ 7 := by
  have := h.ok.rel.1.few
  rw [h.ok.rel.1.lits, List.length_map]; omega
theorem litX_6 {x : Int} (h : litChk x 6 = 0) : 0 ≤ litX x := by
  obtain ⟨n0, n1, n2, _⟩ := lit6 h
  have : okL x = true := (okL_iff x).2 (by omega)
  unfold litX absS
  rw [if_pos this]
  split <;> omega
theorem allNeg_sta {cs : List (List Int)} {ats : List Int} {D : DK} (h : DeskT cs ats D) {L : List Int} (hL : AllNeg D L) : staE L = 0 := by
  have hb : badL L = false := List.any_eq_false.2 fun x hx => by
    have := litX_6 (hL x hx).1
    simp; omega
  have ht : tautS L = false := List.any_eq_false.2 fun x hx => by
    intro hh
    rw [Bool.and_eq_true] at hh
    unfold hasS at hh
    simp only [Bool.and_eq_true, decide_eq_true_eq] at hh
    obtain ⟨c1, i, hi, e1⟩ := hL x hh.1.2
    obtain ⟨_, j, hj, e2⟩ := hL (-x) hh.2.2
    have v1 := val_of h hi e1
    have v2 := (val_at h hj).2
    rw [e2, Int.neg_neg] at v2
    omega
  unfold staE
  rw [if_neg (by simp [hb]), if_neg (by simp [ht])]
theorem learnt_neg {D : DK} {L : List Int} (h : Learnt D L) : AllNeg D L := fun y hy => by
  obtain ⟨a, j, hj, e, _⟩ := h.neg y hy
  exact ⟨a, j, hj, e⟩
theorem conf_fails {cs : List (List Int)} {ats : List Int} {D : DK} (h : DeskI cs ats D) {con : Int} (hc : Conf D con) : learnE D.A D.T con = 0 := by
  unfold learnE
  rw [if_neg (id_is h hc.is)]
  have : failsS D.T (litsA D.A con) = true := by
    unfold failsS
    rw [Bool.not_eq_true', List.any_eq_false]
    intro x hx
    obtain ⟨_, j, hj, e⟩ := hc.neg x hx
    have := val_of h.toDeskT hj e
    simp; omega
  rw [if_neg (by simp [this])]
theorem hinO_len (T : Tr) (at' : List (Int × Int)) (con : Int) : (hinO T at' con).length ≤ T.lits.length + 1 := by
  unfold hinO
  have := hinTo_le T at' T.lits.length
  split
  · omega
  · simp; omega
theorem hints_shn {cs : List (List Int)} {ats : List Int} {D : DK} (h : DeskI cs ats D) {con : Int} (hc : Conf D con) {L : List Int} (hL : AllNeg D L) (ho : (hinS D.A D.T L con).2 = true) :
    (hinS D.A D.T L con).1.Nodup ∧ (∀ q ∈ (hinS D.A D.T L con).1, isA D.A q = true) ∧ shnS D L (hinS D.A D.T L con).1 = true ∧ (hinS D.A D.T L con).1.length ≤ 8 := by
  have hk : (hinN D.A D.T L con).ok = true := by
    unfold hinS at ho
    rw [if_neg (id_is h hc.is)] at ho
    split at ho
    · exact absurd ho (by decide)
    · rename_i hh; simpa using hh
  have e : (hinS D.A D.T L con).1 = hinO D.T (hinN D.A D.T L con).at' con := by
    unfold hinS
    rw [if_neg (id_is h hc.is), if_neg (by simp [hk])]
  obtain ⟨a1, a2, l', a3⟩ := hints_show h hc hL hk
  have a4 := hinO_len D.T (hinN D.A D.T L con).at' con
  have a5 := rows_few h.toDeskT
  rw [e]
  refine ⟨a1, a2, ?_, by omega⟩
  unfold shnS shwS
  rw [if_pos (allNeg_sta h.toDeskT hL), a3]
  simp
theorem hints_yes {cs : List (List Int)} {ats : List Int} {D : DK} (h : DeskI cs ats D) {con : Int} (hc : Conf D con) {L : List Int} (hk : ∀ y ∈ litsA D.A con, HOk D.A D.T L y) : (hinS D.A D.T L con).2 = true := by
  unfold hinS
  rw [if_neg (id_is h hc.is), if_neg (by simp [hints_ok_of h hc hk])]
theorem rows_len {cs : List (List Int)} (hc : fewC cs) (h4 : cs.length ≤ 40) (lits : List Int) : (setS cs lits).A.row.length ≤ 100000 ∧ (setS cs lits).a.rows.length ≤ 1000000 := by
  obtain ⟨hA, ha⟩ := setL_A (putL cs cs.length).rows (putL cs cs.length).ats lits (begD (putL cs cs.length)) lits.length
  have hA' : (setS cs lits).A = (putL cs cs.length).A := hA
  have ha' : (setS cs lits).a = (putL cs cs.length).a := ha
  rw [hA', ha']
  have hp := putL_ok hc cs.length (Nat.le_refl _)
  have := hp.len
  have := hp.rlen
  omega
theorem few16_40 {cs : List (List Int)} {l c : List Int} (h : few16 cs l c = true) : cs.length ≤ 40 := by
  unfold few16 at h
  simp only [Bool.and_eq_true, decide_eq_true_eq] at h
  exact h.1.2
end Go.AX

namespace Go.AX
open Go.Proofs
set_option linter.unusedSimpArgs false

end Go.AX

namespace Go.AX
open Go.Proofs
set_option linter.unusedSimpArgs false

/-! ### Levels, in order, each once -/
theorem compI_is {zs : List Int} (hs : zs.Pairwise (· ≤ ·)) : ∀ j, j ≤ zs.length → (compTo zs j).Pairwise (· < ·) ∧ ∀ x, x ∈ compTo zs j ↔ x ∈ zs.take j
  | 0, _ => ⟨by simp [compTo], fun x => by simp [compTo]⟩
  | j + 1, h => by
    obtain ⟨h1, h2⟩ := compI_is hs j (by omega)
    have hg : zs.getD j 0 = zs[j] := by simp [show j < zs.length by omega]
    rw [compTo, hg, List.take_add_one, List.getElem?_eq_getElem (by omega), Option.toList_some]
    have hp := List.pairwise_iff_getElem.1 hs
    by_cases d : j = 0 ∨ zs[j] ≠ zs.getD (j - 1) 0
    · rw [if_pos d]
      refine ⟨List.pairwise_append.2 ⟨h1, by simp, fun y hy z hz => ?_⟩, fun x => by rw [List.mem_append, List.mem_append, h2]⟩
      rw [List.mem_singleton] at hz
      subst hz
      obtain ⟨k, hk, rfl⟩ := List.getElem_of_mem ((h2 y).1 hy)
      rw [List.length_take] at hk
      rw [List.getElem_take]
      rcases d with rfl | d
      · omega
      · have e2 : zs.getD (j - 1) 0 = zs[j - 1] := by simp [show j - 1 < zs.length by omega]
        rw [e2] at d
        have a1 : zs[k] ≤ zs[j - 1] := by
          by_cases e : k = j - 1
          · subst e; exact Int.le_refl _
          · exact hp k (j - 1) (by omega) (by omega) (by omega)
        have a2 : zs[j - 1] ≤ zs[j] := hp (j - 1) j (by omega) (by omega) (by omega)
        omega
    · rw [if_neg d]
      refine ⟨h1, fun x => ?_⟩
      rw [h2, List.mem_append, List.mem_singleton]
      refine ⟨.inl, fun hx => hx.elim id fun e => ?_⟩
      have hj : j ≠ 0 := fun e => d (.inl e)
      have e2 : zs.getD (j - 1) 0 = zs[j - 1] := by simp [show j - 1 < zs.length by omega]
      have e3 : zs[j] = zs[j - 1] := Classical.byContradiction fun hh => d (.inr (by rw [e2]; exact hh))
      rw [e, e3]
      exact List.mem_take_iff_getElem.2 ⟨j - 1, by omega, rfl⟩
theorem compS_is (l : List Int) : (compS (sortI l)).Pairwise (· < ·) ∧ ∀ x, x ∈ compS (sortI l) ↔ x ∈ l := by
  obtain ⟨h1, h2⟩ := compI_is (sortI_sorted l) (sortI l).length (Nat.le_refl _)
  refine ⟨h1, fun x => ?_⟩
  rw [List.take_length] at h2
  refine (h2 x).trans ?_
  unfold sortI
  exact (List.mergeSort_perm _ _).mem_iff
theorem back_is {T : Tr} {L : List Int} {u : Int} {r : List Int} (e : L = u :: r) (hv : ∀ y ∈ L, valT T y ≠ 0) (hp : ∀ y ∈ L, 0 < lvl T y) (hr : ∀ y ∈ r, lvl T y < lvl T u) :
    0 ≤ backS T L ∧ backS T L < lvl T u ∧ ∀ y ∈ r, lvl T y ≤ backS T L := by
  have hlv : levTo T L L.length = L.map (lvl T) := by
    unfold levTo
    rw [List.take_length, List.filter_eq_self.2 (fun y hy => by simpa using hv y hy)]
  obtain ⟨h1, h2⟩ := compS_is (L.map (lvl T))
  unfold backS levS
  rw [hlv]
  have hu : lvl T u ∈ compS (sortI (L.map (lvl T))) := (h2 _).2 (List.mem_map.2 ⟨u, by rw [e]; exact List.mem_cons_self, rfl⟩)
  have hm : ∀ y ∈ r, lvl T y ∈ compS (sortI (L.map (lvl T))) := fun y hy => (h2 _).2 (List.mem_map.2 ⟨y, by rw [e]; exact List.mem_cons_of_mem _ hy, rfl⟩)
  have hb : ∀ x ∈ compS (sortI (L.map (lvl T))), 0 < x ∧ x ≤ lvl T u := fun x hx => by
    obtain ⟨y, hy, rfl⟩ := List.mem_map.1 ((h2 x).1 hx)
    refine ⟨hp y hy, ?_⟩
    rw [e] at hy
    rcases List.mem_cons.1 hy with rfl | hy
    · exact Int.le_refl _
    · have := hr y hy; omega
  generalize compS (sortI (L.map (lvl T))) = C at *
  have hpw := List.pairwise_iff_getElem.1 h1
  obtain ⟨i, hi, hui⟩ := List.getElem_of_mem hu
  have hlast : i = C.length - 1 := by
    refine Classical.byContradiction fun hne => ?_
    have := hpw i (C.length - 1) hi (by omega) (by omega)
    have := (hb _ (List.getElem_mem (show C.length - 1 < C.length by omega))).2
    omega
  have hpu := hp u (by rw [e]; exact List.mem_cons_self)
  split
  · rename_i hlt
    refine ⟨Int.le_refl _, hpu, fun y hy => ?_⟩
    obtain ⟨j, hj, hyj⟩ := List.getElem_of_mem (hm y hy)
    have hji : j = i := by omega
    subst hji
    have := hr y hy
    omega
  · rename_i hlt
    have hC2 : C.getD (C.length - 2) 0 = C[C.length - 2] := by rw [List.getD_eq_getElem?_getD, List.getElem?_eq_getElem (by omega)]; rfl
    rw [hC2]
    have h2l := hb _ (List.getElem_mem (show C.length - 2 < C.length by omega))
    refine ⟨by omega, ?_, fun y hy => ?_⟩
    · have := hpw (C.length - 2) i (by omega) hi (by omega)
      omega
    · obtain ⟨j, hj, hyj⟩ := List.getElem_of_mem (hm y hy)
      have hne : j ≠ i := fun e => by subst e; have := hr y hy; omega
      by_cases e2 : j = C.length - 2
      · subst e2; omega
      · have := hpw j (C.length - 2) hj (by omega) (by omega)
        omega
theorem lasTo_is {T : Tr} {L : List Int} {u : Int} {r : List Int} (e : L = u :: r) (hu : lvl T u = T.beg.length) (hr : ∀ y ∈ r, lvl T y ≠ T.beg.length) : ∀ i, i < L.length → lasTo T L (i + 1) = [(litV u, 1)]
  | 0, _ => by
    have : L.getD 0 0 = u := by rw [e]; rfl
    rw [lasTo, this, if_pos hu]
    simp [lasTo, lk, pt]
  | i + 1, h => by
    have ih := lasTo_is e hu hr i (by omega)
    have hg : L.getD (i + 1) 0 ∈ r := by
      subst e
      simp only [List.length_cons] at h
      simp only [List.getD_eq_getElem?_getD, List.getElem?_cons_succ]
      rw [List.getElem?_eq_getElem (by omega)]
      exact List.getElem_mem _
    rw [lasTo, if_neg (hr _ hg), ih]
theorem asr_is {T : Tr} {L : List Int} {u : Int} {r : List Int} (e : L = u :: r) (hv : ∀ y ∈ L, valT T y = -1) (hu : lvl T u = T.beg.length) (hr : ∀ y ∈ r, lvl T y ≠ T.beg.length) : asrS T L = true := by
  have hl := lasTo_is e hu hr (L.length - 1) (by rw [e]; simp)
  have hn : L.length - 1 + 1 = L.length := by rw [e]; simp
  rw [hn] at hl
  have hf : failsS T L = true := by
    unfold failsS
    rw [Bool.not_eq_true', List.any_eq_false]
    intro x hx
    have := hv x hx
    simp; omega
  unfold asrS
  rw [hl, hf, e]
  simp [lk]

/-! ### Where levels begin -/
/-! ### Back -/
end Go.AX

namespace Go.AX
open Go.Proofs
set_option linter.unusedSimpArgs false

theorem learn_len {cs : List (List Int)} {ats : List Int} {D : DK} (h : DeskT cs ats D) {L : List Int} (t1 : Learnt D L) : L.length ≤ 7 := by
  have hsub : L ⊆ D.t.rows.map fun x => -x.l := fun y hy => by
    obtain ⟨_, j, hj, e, _⟩ := t1.neg y hy
    exact List.mem_map.2 ⟨_, List.getElem_mem hj, by rw [e, Int.neg_neg]⟩
  have h7 := h.ok.rel.1.few
  have := t1.nd.length_le_of_subset hsub
  rw [List.length_map] at this
  omega
end Go.AX
