/-
  Contracts: the one literal of the greatest level first; what a conflict teaches.
  What is gathered of reasons is all that is needed (plain law).
  Hints that were found show what a conflict teaches (plain law).
  Contracts: the document's chains of hints.
  Contracts: do hints show literals?
  Contracts: the probe of the layer reason.
  Contracts: ReasonShown.
-/
import Derived.Test.YtklaffmpfmpffaaGreatS11AxRnI
import Derived.Test.YtklaffmpfmpffaaGreatS11AxShelf2
import Derived.Test.YtklaffmpfmpffaaGreatAxDl
namespace Go.AX
open Go.Proofs
set_option linter.unusedSimpArgs false

theorem firTo_at (T : Tr) (out : List Int) : ∀ i, (firTo T out i).2.1 ≤ i ∧ ((firTo T out i).2.1 = 0 ∨ (firTo T out i).2.2 < i) ∧ (firTo T out i).2.2 ≤ i
  | 0 => ⟨Nat.le_refl _, .inl rfl, Nat.le_refl _⟩
  | i + 1 => by
    have ih := firTo_at T out i
    rw [firTo]
    split
    · exact ⟨by dsimp only; omega, .inr (by dsimp only; omega), by dsimp only; omega⟩
    · split
      · refine ⟨by dsimp only; omega, ?_, by dsimp only; omega⟩
        dsimp only
        rename_i c1 c2
        rcases ih.2.1 with e | e
        · exact .inr (by omega)
        · exact .inr (by omega)
      · exact ⟨by omega, ih.2.1.imp id (fun e => by omega), by omega⟩
set_option maxRecDepth 16000 in
theorem rfirst_ok (T : Tr) (lits : List Int) (ht : T.ok) (hl : lits.length ≤ 1000000) : APure Tryz.prog 90 [trP T, .seq false 1 (irow lits)] (fun r => r = .own true 1 (irow (firS T lits))) := by
  refine apure1 hmo Tryz.func90 (by kernel_rfl) rfl rfl (by kernel_rfl) (Nat.le_of_ble_eq_true rfl) ?_
  have hN := norm_ok lits hl
  have hnl := normS_len lits
  unfold firS firP
  generalize normS lits = out at *
  simp
  refine CallK.intro hN (by simp) ?_
  simp
  refine ALoop.intro (S := fun (i : Nat) => ⟨[(0, .pv (trP T)), (5, .own true 1 (irow out)), (6, .pv (I64 (firTo T out i).1)), (7, .pv (I64 (firTo T out i).2.1)), (8, .pv (I64 (firTo T out i).2.2)), (15, .al (.slot 5)), (16, .pv (I64 out.length)), (17, .pv (I64 i))], []⟩) (fun i => i ≤ out.length) (fun i => out.length - i) 0 ?_ (Nat.zero_le _) ?_
  · exact Weak.to (by simp [firTo]) (by simp) (by simp) (by simp) (by simp)
  intro i hi
  obtain ⟨a1, a2, a3⟩ := firTo_at T out i
  by_cases h : i < out.length
  · have hw : w64 ((i : Int) + 1) = ((i + 1 : Nat) : Int) := by rw [w64_id (by omega) (by omega)]; omega
    have hg : out.getD i 0 = out[i] := by rw [List.getD_eq_getElem?_getD, List.getElem?_eq_getElem h]; rfl
    have hlv := tlevel_ok T (litV out[i]) ht
    have hsu : firTo T out (i + 1) = if (firTo T out i).1 < (ofT T (litV out[i])).1.lev then ((ofT T (litV out[i])).1.lev, 1, i) else if (ofT T (litV out[i])).1.lev = (firTo T out i).1 then ((firTo T out i).1, (firTo T out i).2.1 + 1, (firTo T out i).2.2) else firTo T out i := by rw [firTo, hg]; rfl
    have hwm : w64 (((firTo T out i).2.1 : Int) + 1) = (((firTo T out i).2.1 + 1 : Nat) : Int) := by rw [w64_id (by omega) (by omega)]; omega
    simp [h]
    refine CallK.intro (litVar_ok out[i]) (by simp) ?_
    simp
    refine CallK.intro hlv (by simp) ?_
    by_cases c1 : (firTo T out i).1 < (ofT T (litV out[i])).1.lev
    · rw [if_pos c1] at hsu
      simp [c1]
      refine ⟨i + 1, by (try dsimp only); omega, by (try dsimp only); omega, Weak.to (by simp [hw, hsu]) (by simp) (by simp) (by simp) (by simp)⟩
    rw [if_neg c1] at hsu
    by_cases c2 : (ofT T (litV out[i])).1.lev = (firTo T out i).1
    · rw [if_pos c2] at hsu
      simp [c1, c2]
      refine ⟨i + 1, by (try dsimp only); omega, by (try dsimp only); omega, Weak.to (by simp [hw, hsu, hwm]) (by simp) (by simp) (by simp) (by simp)⟩
    · rw [if_neg c2] at hsu
      simp [c1, c2]
      refine ⟨i + 1, by (try dsimp only); omega, by (try dsimp only); omega, Weak.to (by simp [hw, hsu]) (by simp) (by simp) (by simp) (by simp)⟩
  have hie : i = out.length := by omega
  subst hie
  clear hi h
  generalize firTo T out out.length = s at *
  obtain ⟨top, many, at'⟩ := s
  dsimp only at a1 a2 a3 ⊢
  by_cases c : many = 1
  rotate_left
  · have c' : ¬ (many : Int) = 1 := by omega
    simp [c, c']
  subst c
  have hat : at' < out.length := by omega
  have hg : out.getD at' 0 = out[at'] := by rw [List.getD_eq_getElem?_getD, List.getElem?_eq_getElem hat]; rfl
  have hw : w64 ((at' : Int) + 1) = ((at' + 1 : Nat) : Int) := by rw [w64_id (by omega) (by omega)]; omega
  simp only [if_pos, hg]
  simp [hat, hw]
  have hdl : (out.take at' ++ out.drop (at' + 1) ++ List.replicate (at' + 1 - at') 0).length = out.length := by simp; omega
  have hd1 : out.length - (at' + 1 - at') = out.length - 1 := by omega
  have hD := deleteAt_in Tryz.dlaA out at' (at' + 1) (by omega) (by omega) (by kernel_rfl)
  rw [hd1] at hD
  refine CallK.introX (CallX.introW (ps := .slot 5) (hi := out.length) hD hdl (by omega) (fun e => by rw [e] at hat; simp at hat) (by simp) rfl rfl (by simp) (by simp) rfl (by simp) (by simp) ?_)
  have hpl : (out.take at' ++ out.drop (at' + 1)).length = out.length - 1 := by simp; omega
  have htk : (out.take at' ++ out.drop (at' + 1) ++ List.replicate (at' + 1 - at') 0).take (out.length - 1) = out.eraseIdx at' := by
    rw [List.take_left' hpl, List.eraseIdx_eq_take_drop_succ]
  have hdk : (out.take at' ++ out.drop (at' + 1) ++ List.replicate (at' + 1 - at') 0).drop (out.length - 1 + 1) = [] := List.drop_eq_nil_of_le (by rw [hdl]; omega)
  generalize out.take at' ++ out.drop (at' + 1) ++ List.replicate (at' + 1 - at') 0 = dl at *
  generalize out[at'] = u at *
  simp
  refine CallK.introX (CallX.introI (ps := .slot 5) (py := .slot 51) (hi := out.length - 1) (zs := dl) (x := u) Tryz.insA (by kernel_rfl) (by simp) rfl rfl (by simp) (by simp) (by simp) (by simp) (by simp) (by simp) rfl (by decide) rfl (by omega) ?_)
  rw [htk, hdk]
  simp
  exact List.take_of_length_le (by rw [intsB_len, List.length_cons, List.length_eraseIdx_of_lt hat]; omega)
def psZ (A : Ar) (T : Tr) : List SV := [.pv (arP A), .pv (trP T), .omap true (mapE fI []), .pv (.lit (.slice none 0 0)), .pv (I64 0)]
set_option maxRecDepth 16000 in
theorem ptake0_ok (A : Ar) (T : Tr) (q but : Int) (ht : T.ok) (h0 : A.hd ≠ []) (hk : ArOk A) (hl : A.row.length ≤ 1000000) :
    AMut Tryz.prog 87 [.ptr 0 0, I64 q, I64 but] [psZ A T] (fun r h' => h' = [psB A T (takeL T but (litsA A q) ⟨[], [], 0⟩)] ∧ r = .pv (.tup [])) := by
  obtain ⟨p, hp⟩ : ∃ p : PS, p = ⟨[], [], 0⟩ := ⟨_, rfl⟩
  rw [← hp]
  have hm0 : p.many = 0 := by rw [hp]
  have hl0 : p.lits.length = 0 := by rw [hp]; rfl
  refine amutXD [] [] [psB A T (takeL T but (litsA A q) p)] (by simp) (fun _ => ⟨belowC_psB _ _ _ _, trivial⟩) hmo Tryz.func87 (by kernel_rfl) rfl rfl (by kernel_rfl) (Nat.le_of_ble_eq_true rfl) ?_
  have hL := alitsF_ok A h0 hk hl q
  have hc := litsA_len A hk q
  generalize litsA A q = c at *
  simp [psZ]
  refine CallK.intro hL (by simp) ?_
  simp
  refine ALoop.intro (S := fun (i : Nat) => ⟨[(0, .pv (.ptr 0 0)), (2, .pv (I64 but)), (6, .pv (.fn (.func 97) [trP T] [])), (20, .own true 1 (irow c)), (21, .pv (I64 c.length)), (22, .pv (I64 i))], [psB A T (takeL T but (c.take i) p)]⟩) (fun i => i ≤ c.length) (fun i => c.length - i) 0 ?_ (Nat.zero_le _) ?_
  · exact (Weak.nilCell (b := 0) (k := 3) (xs := psZ A T) 1 true (by simp [psZ]) (by simp [psZ])).trans (Weak.to (by simp) (by simp [psB, psZ, takeL, hp, irow]) (by simp) (by simp) (by simp [belowC_psB]))
  intro i hi
  by_cases h : i < c.length
  rotate_left
  · have hie : i = c.length := by omega
    subst hie
    simp [psB, retXP]
  have hw : w64 ((i : Int) + 1) = ((i + 1 : Nat) : Int) := by rw [w64_id (by omega) (by omega)]; omega
  have hs := takeL_succ T but c p h
  have hle := takeL_le T but (c.take i) p
  rw [List.length_take] at hle
  generalize takeL T but (c.take i) p = s at *
  have hlv := tlevel_ok T (litV c[i]) ht
  simp [h, psB]
  refine CallK.intro (litVar_ok c[i]) (by simp) ?_
  simp
  refine CallG.intro (fun _ => hlv) (by simp) ?_
  by_cases c1 : litV c[i] = but
  · have hd : takeF T but s c[i] = s := by unfold takeF; rw [if_pos (.inl c1)]
    simp [c1]
    refine ⟨i + 1, by (try dsimp only); omega, by (try dsimp only); omega, Weak.to (by simp [hw]) (by simp [psB, hs, hd]) (by simp) (by simp) (by simp [belowC_psB])⟩
  by_cases c2 : 0 < (lk s.seen (litV c[i])).getD 0
  · have hd : takeF T but s c[i] = s := by unfold takeF; rw [if_pos (.inr (.inl (by simpa [seenB] using c2)))]
    simp [c1, c2]
    refine ⟨i + 1, by (try dsimp only); omega, by (try dsimp only); omega, Weak.to (by simp [hw]) (by simp [psB, hs, hd]) (by simp) (by simp) (by simp [belowC_psB])⟩
  have c2' : (lk s.seen (litV c[i])).getD 0 ≤ 0 := by omega
  by_cases c3 : (ofT T (litV c[i])).1.lev ≤ 0
  · have hd : takeF T but s c[i] = s := by unfold takeF; rw [if_pos (.inr (.inr c3))]
    simp [c1, c2, c2', c3]
    refine ⟨i + 1, by (try dsimp only); omega, by (try dsimp only); omega, Weak.to (by simp [hw]) (by simp [psB, hs, hd]) (by simp) (by simp) (by simp [belowC_psB])⟩
  have hd : takeF T but s c[i] = if (ofT T (litV c[i])).1.lev = T.beg.length then ⟨pt s.seen (litV c[i]) 1, s.lits, s.many + 1⟩ else ⟨pt s.seen (litV c[i]) 1, s.lits ++ [c[i]], s.many⟩ := by
    unfold takeF
    rw [if_neg]
    · rfl
    rintro (e | e | e)
    · exact c1 e
    · exact c2 (by simpa [seenB] using e)
    · exact c3 e
  simp [c1, c2, c2', c3]
  refine CallQ0.intro hlv (by simp) ?_
  simp
  refine CallQ0.intro (tdepth_ok T) (by simp) ?_
  by_cases c4 : (ofT T (litV c[i])).1.lev = T.beg.length
  · rw [if_pos c4] at hd
    have hwm : w64 ((s.many : Int) + 1) = ((s.many + 1 : Nat) : Int) := by rw [w64_id (by omega) (by omega)]; omega
    simp [c4]
    refine ⟨i + 1, by (try dsimp only); omega, by (try dsimp only); omega, Weak.to (by simp [hw]) (by simp [psB, hs, hd, hwm]) (by simp) (by simp) (by simp [belowC_psB])⟩
  · rw [if_neg c4] at hd
    simp [c4]
    refine ⟨by omega, i + 1, by (try dsimp only); omega, by (try dsimp only); omega, Weak.to (by simp [hw]) (by simp [psB, hs, hd, irow]) (by simp) (by simp) (by simp [belowC_psB])⟩

theorem walkF_le (A : Ar) (T : Tr) (hk : ArOk A) (all : List Int) : ∀ (n : Nat) (p : PS), (walkF A T all n p).lits.length ≤ p.lits.length + n * A.row.length
  | 0, p => by simp [walkF]
  | n + 1, p => by
    rw [walkF, Nat.succ_mul]
    split
    · omega
    split
    · have h := walkF_le A T hk all n (resS A T p (all.getD n 0))
      have h1 := takeL_le T (litV (all.getD n 0)) (litsA A (ofT T (litV (all.getD n 0))).1.rea) ⟨pt p.seen (litV (all.getD n 0)) 0, p.lits, p.many - 1⟩
      have h2 := litsA_len A hk (ofT T (litV (all.getD n 0))).1.rea
      have h3 : resS A T p (all.getD n 0) = takeL T (litV (all.getD n 0)) (litsA A (ofT T (litV (all.getD n 0))).1.rea) ⟨pt p.seen (litV (all.getD n 0)) 0, p.lits, p.many - 1⟩ := rfl
      rw [h3] at h ⊢
      dsimp only at h1
      omega
    · have h := walkF_le A T hk all n p
      omega
def learnE (A : Ar) (T : Tr) (con : Int) : Int := if idA A con = 0 then 20 else if failsS T (litsA A con) = false then 30 else 0
def learnR (A : Ar) (T : Tr) (con : Int) : List Int := if learnE A T con = 0 then learnS A T con else []
set_option maxRecDepth 16000 in
theorem rlearn_ok (A : Ar) (T : Tr) (con : Int) (ht : T.ok) (h0 : A.hd ≠ []) (hk : ArOk A) (hl : A.row.length ≤ 100000) (hT : T.lits.length ≤ 7) :
    APure Tryz.prog 30 [arP A, trP T, I64 con] (fun r => r = .pv (.tup [.seq true 1 (irow (learnR A T con)), I64 (learnE A T con)])) := by
  refine APure.wk (R := fun r => ∃ x, r = .pv x ∧ wkP x (.tup [.seq true 1 (irow (learnR A T con)), I64 (learnE A T con)])) ?_ (fun r ⟨x, e, h⟩ => ⟨x, _, e, h, rfl⟩)
  refine apureX [] [.tmp 6, .tmp 7] hmo Tryz.func30 (by kernel_rfl) rfl rfl (by kernel_rfl) (Nat.le_of_ble_eq_true rfl) ?_
  have hId := aidF_ok A h0 hk (by omega) con
  have hL := alitsF_ok A h0 hk (by omega) con
  have hcl := litsA_len A hk con
  have hfl := rfails_ok T (litsA A con) ht (by omega)
  have htk := ptake0_ok A T con 0 ht h0 hk (by omega)
  have hbg : takeL T 0 (litsA A con) ⟨[], [], 0⟩ = begP A T con := rfl
  rw [hbg] at htk
  have hble := takeL_le T 0 (litsA A con) ⟨[], [], 0⟩
  rw [hbg] at hble
  dsimp only [List.length_nil] at hble
  have hlt := tlits_ok T (by omega)
  have hw := pwalk_ok A T (begP A T con) T.lits ht h0 hk (by omega) (by omega) (by omega) (by omega)
  have hfd : fin A T T.lits (begP A T con) = ⟨(walkF A T T.lits T.lits.length (begP A T con)).seen, endS T T.lits (walkF A T T.lits T.lits.length (begP A T con)), (walkF A T T.lits T.lits.length (begP A T con)).many⟩ := rfl
  have hE : learnE A T con = if idA A con = 0 then 20 else if failsS T (litsA A con) = false then 30 else 0 := rfl
  have hR : learnR A T con = if learnE A T con = 0 then learnS A T con else [] := rfl
  have hS : learnS A T con = firS T (endS T T.lits (walkF A T T.lits T.lits.length (begP A T con))) := rfl
  have hend : (endS T T.lits (walkF A T T.lits T.lits.length (begP A T con))).length ≤ 1000000 := by
    have q1 := endTo_le T T.lits (walkF A T T.lits T.lits.length (begP A T con)) T.lits.length (Nat.le_refl _)
    rw [endTo_all] at q1
    have q2 := walkF_le A T hk T.lits T.lits.length (begP A T con)
    have q3 : T.lits.length * A.row.length ≤ 7 * 100000 := Nat.mul_le_mul hT hl
    omega
  generalize learnR A T con = R at *
  generalize learnE A T con = E at *
  generalize learnS A T con = S at *
  generalize litsA A con = c at *
  rw [hfd] at hw
  generalize walkF A T T.lits T.lits.length (begP A T con) = W at *
  generalize begP A T con = B at *
  simp
  refine CallK.intro hId (by simp) ?_
  by_cases c1 : idA A con = 0
  · rw [if_pos c1] at hE
    subst hE
    rw [if_neg (by omega)] at hR
    subst hR
    simp [c1, wkP, wkPL, irow]
  rw [if_neg c1] at hE
  simp [c1]
  refine CallK.intro hL (by simp) ?_
  simp
  refine CallK.intro hfl (by simp) ?_
  cases c2 : failsS T c
  · rw [if_pos c2] at hE
    subst hE
    rw [if_neg (by omega)] at hR
    subst hR
    simp [c2, wkP, wkPL, irow]
  rw [if_neg (by simp [c2])] at hE
  subst hE
  rw [if_pos rfl] at hR
  subst hR
  simp [c2]
  simp only [psZ, psB] at htk hw
  refine CallB.intro htk (by simp) ?_
  rintro _ _ ⟨rfl, rfl⟩
  simp
  refine CallK.intro hlt (by simp) ?_
  simp
  refine CallB.intro (hw.args (xs := [.ptr 0 0, .seq true 1 (irow T.lits)]) (by simp [wkPL, wkP])) (by simp) ?_
  rintro _ _ ⟨rfl, rfl⟩
  have hf := rfirst_ok T (endS T T.lits W) ht hend
  rw [← hS] at hf
  simp
  refine CallK.intro hf (by simp) ?_
  simp [wkP, wkPL]
end Go.AX

namespace Go.AX
open Go.Proofs
set_option linter.unusedSimpArgs false

theorem putL_id (cs : List (List Int)) : ∀ i, ∀ x ∈ (putL cs i).a.rows, 1 ≤ x.id
  | 0 => by simp [putL]
  | i + 1 => by
    have ih := putL_id cs i
    rw [putL]
    unfold putK
    dsimp only
    unfold putRA
    split
    · rename_i h
      intro x hx
      rcases List.mem_append.1 hx with hx | hx
      · exact ih x hx
      · simp at hx; subst hx
        unfold putEA at h
        split at h
        · omega
        · dsimp only; omega
    · exact ih
/-- A desk whose clauses have numbers. -/
structure DeskI (cs : List (List Int)) (ats : List Int) (D : DK) : Prop extends DeskT cs ats D where
  id : ∀ x ∈ D.a.rows, 1 ≤ x.id
theorem setS_I {cs : List (List Int)} (hc : fewC cs) (lits : List Int) : DeskI (putL cs cs.length).rows (putL cs cs.length).ats (setS cs lits) := by
  refine ⟨setS_T hc lits, ?_⟩
  obtain ⟨_, ha⟩ := setL_A (putL cs cs.length).rows (putL cs cs.length).ats lits (begD (putL cs cs.length)) lits.length
  have ha' : (setS cs lits).a = (putL cs cs.length).a := ha
  rw [ha']
  exact putL_id cs _
theorem id_is {cs : List (List Int)} {ats : List Int} {D : DK} (h : DeskI cs ats D) {q : Int} (hq : isA D.A q = true) : idA D.A q ≠ 0 := by
  obtain ⟨x, hx, e⟩ := h.ok.relA.is q hq
  obtain ⟨p, e1, _, _, _, e5⟩ := h.ok.relA.rows x hx
  have hi := h.id x hx
  have hqp : q = (p : Int) := by rw [← e, e1]
  unfold idA
  rw [if_pos hq, hqp, Int.toNat_natCast, e5]
  omega
theorem pla_at {cs : List (List Int)} {ats : List Int} {D : DK} (h : DeskT cs ats D) {j : Nat} (hj : j < D.t.rows.length) {y : Int} (hy : D.t.rows[j].l = -y) : pla D.T y = j ∧ rea D.T y = D.t.rows[j].rea := by
  unfold pla rea
  rw [neg_at hj hy]
  exact ⟨(of_at h.ok.rel.1 h.facts hj).2.2, (of_at h.ok.rel.1 h.facts hj).2.1⟩
theorem val_neg {cs : List (List Int)} {ats : List Int} {D : DK} (h : DeskT cs ats D) {l : Int} (hv : valT D.T l < 0) : litChk l 6 = 0 ∧ ∃ j, ∃ hj : j < D.t.rows.length, D.t.rows[j].l = -l := by
  obtain ⟨hc, i, hi, hp⟩ := valT_none h.ok.rel.1 (l := l) (by omega)
  refine ⟨hc, i, hi, ?_⟩
  rcases valT_at h.ok.rel.1 hc hi hp with ⟨e, _⟩ | ⟨_, e⟩
  · exact e
  · omega
theorem val_of {cs : List (List Int)} {ats : List Int} {D : DK} (h : DeskT cs ats D) {l : Int} {j : Nat} (hj : j < D.t.rows.length) (e : D.t.rows[j].l = -l) : valT D.T l = -1 := by
  have := (val_at h hj).1
  rw [e, Int.neg_neg] at this
  exact this
theorem ahead_ok {cs : List (List Int)} {ats : List Int} {D : DK} (h : DeskT cs ats D) (h0 : D.A.hd ≠ []) : AheadOk D.A D.T where
  tr := h.ok.rel.1.okT
  hd := h0
  ar := fun q hq => by
    obtain ⟨x, hx, e⟩ := h.ok.relA.is q hq
    obtain ⟨p, e1, e2, _⟩ := h.ok.relA.rows x hx
    exact ⟨p, _, by rw [← e, e1], e2⟩
  len := h.ok.len
  ahead := fun l hv hr => by
    obtain ⟨hc, j, hj, e⟩ := val_neg h hv
    obtain ⟨p1, p2⟩ := pla_at h hj e
    rw [p1]
    refine ⟨by omega, fun y hy hne => ?_⟩
    rw [p2] at hy hr
    have hw := (lit6 hc).2.2.2.2
    obtain ⟨i, hi, hij, e2⟩ := ((rea_ahead h hj hr).2.2 y hy).2 (by rw [e, ← hw]; exact hne)
    rw [(pla_at h hi e2).1]
    omega
theorem pla_lt {cs : List (List Int)} {ats : List Int} {D : DK} (h : DeskT cs ats D) (l : Int) : pla D.T l < D.T.lits.length := by
  unfold pla
  rw [(relT_of h.ok.rel.1 (litV l)).2.2, h.ok.rel.1.lits, List.length_map]
  rcases Int.lt_or_le (plR D.t (litV l)) 0 with c | c
  · omega
  · obtain ⟨i, hi, e, _⟩ := plR_in c
    omega

/-! ### What was gathered -/
structure NI (D : DK) (L : List Int) (s : NS) : Prop where
  val : ∀ p, 0 ≤ (lk s.at' p).getD 0
  mem : ∀ p, seenB s.at' p = true → ∃ j, ∃ hj : j < D.t.rows.length, p = (j : Int) ∧ 0 ≤ D.t.rows[j].rea ∧ -D.t.rows[j].l ∉ L
/-- A literal is one of some, or its place is marked. -/
def Met (D : DK) (L : List Int) (s : NS) (y : Int) : Prop := y ∈ L ∨ ∃ j, ∃ hj : j < D.t.rows.length, D.t.rows[j].l = -y ∧ seenB s.at' j = true
structure Post (D : DK) (L : List Int) (s s' : NS) (c : List Int) (but : Int) : Prop where
  ni : NI D L s'
  mono : ∀ p, seenB s.at' p = true → seenB s'.at' p = true
  all : s'.ok = true → s.ok = true ∧ (∀ y ∈ c, y ≠ but → Met D L s' y) ∧ ∀ j (hj : j < D.t.rows.length), seenB s'.at' j = true → seenB s.at' j = false → ∀ y ∈ litsA D.A D.t.rows[j].rea, y ≠ D.t.rows[j].l → Met D L s' y
  ok : (∀ y ∈ c, y ≠ but → HOk D.A D.T L y) → s'.ok = s.ok
theorem Met.mono {D : DK} {L : List Int} {s s' : NS} {y : Int} (h : Met D L s y) (hm : ∀ p, seenB s.at' p = true → seenB s'.at' p = true) : Met D L s' y :=
  h.imp id fun ⟨j, hj, e1, e2⟩ => ⟨j, hj, e1, hm _ e2⟩
theorem clsL_post {cs : List (List Int)} {ats : List Int} {D : DK} (h : DeskI cs ats D) {L : List Int} {stop : List (Int × Int)} (hst : ∀ y, seenB stop y = true ↔ y ∈ L) {k : Nat} {f : NS → Int → Int → NS}
    (hf : ∀ (s : NS) (j : Nat) (hj : j < D.t.rows.length), j < k → 0 ≤ D.t.rows[j].rea → NI D L s → Post D L s (f s D.t.rows[j].rea D.t.rows[j].l) (litsA D.A D.t.rows[j].rea) D.t.rows[j].l) (but : Int) :
    ∀ (c : List Int) (s : NS), NI D L s → (∀ y ∈ c, y ≠ but → litChk y 6 = 0 ∧ ∃ j, ∃ hj : j < D.t.rows.length, D.t.rows[j].l = -y ∧ j < k) → Post D L s (clsL f D.A D.T stop but c s) c but
  | [], s, hn, _ => ⟨hn, fun _ e => e, fun e => ⟨e, by simp, fun j hj h1 h2 => by rw [clsL] at h1; rw [h1] at h2; cases h2⟩, fun _ => rfl⟩
  | y :: c, s, hn, hc => by
    have hc' := fun z hz => hc z (List.mem_cons_of_mem _ hz)
    rw [clsL]
    by_cases hs : skipN D.T stop but s y = true
    · rw [if_pos hs]
      have ih := clsL_post h hst hf but c s hn hc'
      refine ⟨ih.ni, ih.mono, fun ho => ?_, fun hk => ih.ok fun z hz => hk z (List.mem_cons_of_mem _ hz)⟩
      obtain ⟨a1, a2, a3⟩ := ih.all ho
      refine ⟨a1, fun z hz hne => ?_, a3⟩
      rcases List.mem_cons.1 hz with rfl | hz
      · unfold skipN at hs
        simp only [Bool.or_eq_true, Bool.and_eq_true, decide_eq_true_eq] at hs
        rcases hs with (e | e) | ⟨e, _⟩
        · exact absurd e hne
        · exact .inl ((hst _).1 e)
        · obtain ⟨_, j, hj, e1, _⟩ := hc z (List.mem_cons_self ..) hne
          rw [(pla_at h.toDeskT hj e1).1] at e
          exact .inr ⟨j, hj, e1, ih.mono _ e⟩
      · exact a2 z hz hne
    rw [if_neg hs]
    have hns : y ≠ but ∧ y ∉ L ∧ ¬ (seenB s.at' (pla D.T y) = true ∧ 0 ≤ pla D.T y) := by
      unfold skipN at hs
      simp only [Bool.or_eq_true, Bool.and_eq_true, decide_eq_true_eq, not_or] at hs
      exact ⟨hs.1.1, fun e => hs.1.2 ((hst _).2 e), hs.2⟩
    obtain ⟨n1, n2, n3⟩ := hns
    obtain ⟨y6, j, hj, e1, hjk⟩ := hc y (List.mem_cons_self ..) n1
    obtain ⟨p1, p2⟩ := pla_at h.toDeskT hj e1
    have hval := val_of h.toDeskT hj e1
    by_cases hb : badN D.A D.T y = true
    · rw [if_pos hb]
      refine ⟨⟨hn.val, hn.mem⟩, fun _ e => e, fun e => (by cases e), fun hk => ?_⟩
      exfalso
      unfold badN at hb
      simp only [Bool.or_eq_true, decide_eq_true_eq] at hb
      have hy := hk y (List.mem_cons_self ..) n1
      cases hy with
      | stop e => exact n2 e
      | why v1 v2 v3 _ =>
        rcases hb with (e | e) | e
        · omega
        · have : rea D.T y = (ofT D.T (litV y)).1.rea := rfl
          omega
        · exact id_is h v3 e
    rw [if_neg hb]
    have hbn : 0 ≤ rea D.T y := by
      unfold badN at hb
      simp only [Bool.or_eq_true, decide_eq_true_eq, not_or] at hb
      omega
    have hw := (lit6 y6).2.2.2.2
    have hwl : w64 (-y) = D.t.rows[j].l := by rw [hw, e1]
    rw [p2] at hbn ⊢
    rw [hwl]
    have hnm : seenB s.at' j = false := by
      cases e : seenB s.at' j
      · rfl
      · exact absurd ⟨by rw [p1]; exact e, by omega⟩ n3
    have h0 : (lk s.at' (j : Int)).getD 0 = 0 := by
      have := hn.val j
      unfold seenB at hnm
      simp at hnm
      omega
    have hmk : markN D.T s y = ⟨pt s.at' j 1, s.ok⟩ := by
      unfold markN
      rw [p1, h0]
      rfl
    rw [hmk]
    have hsm : ∀ p, seenB (pt s.at' (j : Int) 1) p = if (j : Int) = p then true else seenB s.at' p := fun p => by rw [seen_pt]; simp
    have hn1 : NI D L ⟨pt s.at' j 1, s.ok⟩ := by
      refine ⟨fun p => ?_, fun p hp => ?_⟩
      · dsimp only
        rw [lk_pt]
        split
        · simp
        · exact hn.val p
      · dsimp only at hp
        rw [hsm] at hp
        split at hp
        · rename_i e
          exact ⟨j, hj, e.symm, hbn, by rw [e1, Int.neg_neg]; exact n2⟩
        · exact hn.mem p hp
    have g1 := hf ⟨pt s.at' j 1, s.ok⟩ j hj hjk hbn hn1
    generalize f ⟨pt s.at' j 1, s.ok⟩ D.t.rows[j].rea D.t.rows[j].l = s2 at *
    have g2 := clsL_post h hst hf but c s2 g1.ni hc'
    generalize clsL f D.A D.T stop but c s2 = s3 at *
    have hm1 : ∀ p, seenB s.at' p = true → seenB (pt s.at' (j : Int) 1) p = true := fun p hp => by rw [hsm]; split <;> simp [hp]
    have hmj : seenB s2.at' j = true := g1.mono j (by dsimp only; rw [hsm, if_pos rfl])
    refine ⟨g2.ni, fun p hp => g2.mono p (g1.mono p (hm1 p hp)), fun ho => ?_, fun hk => ?_⟩
    · obtain ⟨a1, a2, a3⟩ := g2.all ho
      obtain ⟨b1, b2, b3⟩ := g1.all a1
      refine ⟨b1, fun z hz hne => ?_, fun i hi h3 h4 z hz hne => ?_⟩
      · rcases List.mem_cons.1 hz with rfl | hz
        · exact .inr ⟨j, hj, e1, g2.mono _ hmj⟩
        · exact a2 z hz hne
      · cases c2 : seenB s2.at' i
        · exact a3 i hi h3 c2 z hz hne
        · by_cases e : j = i
          · subst e
            exact (b2 z hz hne).mono g2.mono
          · exact (b3 i hi c2 (by dsimp only; rw [hsm, if_neg (by omega)]; exact h4) z hz hne).mono g2.mono
    · rw [g2.ok fun z hz => hk z (List.mem_cons_of_mem _ hz)]
      have hy := hk y (List.mem_cons_self ..) n1
      cases hy with
      | stop e => exact absurd e n2
      | why _ _ _ v4 =>
        refine g1.ok fun z hz hne => ?_
        have hr : (ofT D.T (litV y)).1.rea = D.t.rows[j].rea := p2
        rw [hr] at v4
        exact v4 z hz (by rw [← e1]; exact hne)
theorem clsF_post {cs : List (List Int)} {ats : List Int} {D : DK} (h : DeskI cs ats D) {L : List Int} {stop : List (Int × Int)} (hst : ∀ y, seenB stop y = true ↔ y ∈ L) : ∀ (k : Nat) (q but : Int) (s : NS), NI D L s →
    (∀ y ∈ litsA D.A q, y ≠ but → litChk y 6 = 0 ∧ ∃ j, ∃ hj : j < D.t.rows.length, D.t.rows[j].l = -y ∧ j < k) → Post D L s (clsF D.A D.T stop (k + 1) s q but) (litsA D.A q) but
  | 0, q, but, s, hn, hq => by
    rw [clsF]
    exact clsL_post h hst (k := 0) (fun _ j _ hj => by omega) but _ s hn hq
  | k + 1, q, but, s, hn, hq => by
    rw [clsF]
    refine clsL_post h hst (k := k + 1) (fun s j hj hjk hr hn => ?_) but _ s hn hq
    refine clsF_post h hst k _ _ s hn fun y hy hne => ?_
    obtain ⟨y6, hh⟩ := (rea_ahead h.toDeskT hj hr).2.2 y hy
    obtain ⟨i, hi, hij, e⟩ := hh hne
    exact ⟨y6, i, hi, e, by omega⟩
end Go.AX

namespace Go.AX
open Go.Proofs
set_option linter.unusedSimpArgs false

def chnF (l : List Int) : List (List Int) → Nat → List Int × Nat × Int
  | [], n => (l, n, 23)
  | h :: hs, n => if clS l h = -1 then (l, n + 1, 0) else if (unitS l h).2 = true then chnF (l ++ [(unitS l h).1]) hs (n + 1) else ([], n, 22)
def staTo (c : List Int) : Nat → List Int
  | 0 => []
  | i + 1 => if c.getD i 0 ∈ c.take i then staTo c i else staTo c i ++ [w64 (-(c.getD i 0))]
theorem staTo_mem (c : List Int) (x : Int) : ∀ i, i ≤ c.length → (x ∈ staTo c i ↔ ∃ y ∈ c.take i, x = w64 (-y))
  | 0, _ => by simp [staTo]
  | i + 1, h => by
    have ih := staTo_mem c x i (by omega)
    have hg : c.getD i 0 = c[i] := by rw [List.getD_eq_getElem?_getD, List.getElem?_eq_getElem (by omega)]; rfl
    have ht : c.take (i + 1) = c.take i ++ [c[i]] := (List.take_append_getElem (by omega)).symm
    rw [staTo, hg, ht]
    by_cases e : c[i] ∈ c.take i
    · rw [if_pos e, ih]
      constructor
      · rintro ⟨y, hy, e2⟩; exact ⟨y, List.mem_append_left _ hy, e2⟩
      · rintro ⟨y, hy, e2⟩
        rcases List.mem_append.1 hy with hy | hy
        · exact ⟨y, hy, e2⟩
        · simp at hy; subst hy; exact ⟨_, e, e2⟩
    · rw [if_neg e, List.mem_append, ih, List.mem_singleton]
      constructor
      · rintro (⟨y, hy, e2⟩ | e2)
        · exact ⟨y, List.mem_append_left _ hy, e2⟩
        · exact ⟨_, List.mem_append_right _ (List.mem_singleton.2 rfl), e2⟩
      · rintro ⟨y, hy, e2⟩
        rcases List.mem_append.1 hy with hy | hy
        · exact .inl ⟨y, hy, e2⟩
        · simp at hy; subst hy; exact .inr e2
def staL (c : List Int) : List Int := staTo c c.length
theorem staL_mem (c : List Int) (x : Int) : x ∈ staL c ↔ ∃ y ∈ c, x = w64 (-y) := by
  have := staTo_mem c x c.length (Nat.le_refl _)
  rwa [List.take_length] at this

/-- Literals that all fail. -/
def AllNeg (D : DK) (L : List Int) : Prop := ∀ y ∈ L, litChk y 6 = 0 ∧ ∃ j, ∃ hj : j < D.t.rows.length, D.t.rows[j].l = -y
def rj (D : DK) (j : Nat) : Int := rea D.T (D.T.lits.getD j 0)
theorem rj_is {cs : List (List Int)} {ats : List Int} {D : DK} (h : DeskT cs ats D) {j : Nat} (hj : j < D.t.rows.length) : rj D j = D.t.rows[j].rea := by
  unfold rj rea
  rw [all_at h.ok.rel.1 hj]
  exact (of_at h.ok.rel.1 h.facts hj).2.1
theorem mem_litsT {t : RT} {j : Nat} (hj : j < t.rows.length) : t.rows[j].l ∈ litsT t := List.mem_map.2 ⟨_, List.getElem_mem hj, rfl⟩
theorem hin_post {cs : List (List Int)} {ats : List Int} {D : DK} (h : DeskI cs ats D) {con : Int} (hc : Conf D con) (L : List Int) : Post D L ⟨[], true⟩ (hinN D.A D.T L con) (litsA D.A con) 0 := by
  have hlen : D.T.lits.length = D.t.rows.length := by rw [h.ok.rel.1.lits, List.length_map]
  unfold hinN
  refine clsF_post h (fun y => ?_) D.T.lits.length con 0 ⟨[], true⟩ ⟨fun p => by simp [lk], fun p hp => by simp [seenB, lk] at hp⟩ fun y hy _ => ?_
  · have := stoTo_is L y L.length (Nat.le_refl _)
    rwa [List.take_length] at this
  · obtain ⟨y6, j, hj, e⟩ := hc.neg y hy
    exact ⟨y6, j, hj, e, by omega⟩
/-- Two that are marked have different reasons. -/
theorem rea_ne {cs : List (List Int)} {ats : List Int} {D : DK} (h : DeskT cs ats D) {i j : Nat} (hi : i < D.t.rows.length) (hj : j < D.t.rows.length) (hij : i < j) (hri : 0 ≤ D.t.rows[i].rea) (hrj : 0 ≤ D.t.rows[j].rea) : D.t.rows[i].rea ≠ D.t.rows[j].rea := by
  intro e
  have hF := h.facts
  have h1 := (rea_ahead h hi hri).2.1
  rw [e] at h1
  obtain ⟨h6, h2⟩ := (rea_ahead h hj hrj).2.2 _ h1
  have hne : D.t.rows[i].l ≠ D.t.rows[j].l := fun e2 => by
    have := hF.inj hi hj (by rw [e2])
    omega
  obtain ⟨k, hk, _, e3⟩ := h2 hne
  exact hF.one h6 ⟨mem_litsT hi, by rw [← e3]; exact mem_litsT hk⟩
theorem con_ne {cs : List (List Int)} {ats : List Int} {D : DK} (h : DeskT cs ats D) {con : Int} (hc : Conf D con) {i : Nat} (hi : i < D.t.rows.length) (hri : 0 ≤ D.t.rows[i].rea) : D.t.rows[i].rea ≠ con := by
  intro e
  have h1 := (rea_ahead h hi hri).2.1
  rw [e] at h1
  obtain ⟨h6, k, hk, e3⟩ := hc.neg _ h1
  exact h.facts.one h6 ⟨mem_litsT hi, by rw [← e3]; exact mem_litsT hk⟩
def mkd (s : NS) (i : Nat) : List Nat := (List.range i).filter fun j => seenB s.at' j
theorem mkd_succ (s : NS) (i : Nat) : mkd s (i + 1) = if seenB s.at' i = true then mkd s i ++ [i] else mkd s i := by
  unfold mkd
  rw [List.range_succ, List.filter_append]
  by_cases c : seenB s.at' i = true
  · rw [if_pos c, List.filter_cons, if_pos c]; rfl
  · rw [if_neg c, List.filter_cons, if_neg c]; simp
theorem mkd_mem (s : NS) (i j : Nat) : j ∈ mkd s i ↔ j < i ∧ seenB s.at' j = true := by
  unfold mkd
  rw [List.mem_filter, List.mem_range]
theorem hinTo_is {cs : List (List Int)} {ats : List Int} {D : DK} (h : DeskT cs ats D) {L : List Int} {s : NS} (hn : NI D L s) : ∀ i, i ≤ D.t.rows.length → hinTo D.T s.at' i = (mkd s i).map (rj D)
  | 0, _ => rfl
  | i + 1, hi => by
    have ih := hinTo_is h hn i (by omega)
    have hr : rea D.T (D.T.lits.getD i 0) = rj D i := rfl
    rw [hinTo, mkd_succ]
    unfold hinF
    rw [ih, hr]
    by_cases c : seenB s.at' i = true
    · obtain ⟨j, hj, e1, e2, _⟩ := hn.mem _ c
      have hij : i = j := by omega
      subst hij
      have : ¬ rj D i ∈ (mkd s i).map (rj D) := by
        intro e
        obtain ⟨m, hm, e3⟩ := List.mem_map.1 e
        rw [mkd_mem] at hm
        obtain ⟨j, hj2, f1, f2, _⟩ := hn.mem _ hm.2
        have hmj : m = j := by omega
        subst hmj
        rw [rj_is h hj2, rj_is h hj] at e3
        exact rea_ne h hj2 hj hm.1 f2 e2 e3
      rw [if_pos (by simp only [c, this, decide_false, Bool.not_false, Bool.and_self]), if_pos c, List.map_append]
      rfl
    · have c' : seenB s.at' i = false := by simpa using c
      rw [if_neg (by simp [c']), if_neg c]
structure CInv (D : DK) (L : List Int) (s : NS) (l : List Int) (js : List Nat) : Prop where
  sub : ∀ x ∈ l, x ∈ litsT D.t
  neg : ∀ y ∈ L, -y ∈ l
  don : ∀ j (hj : j < D.t.rows.length), seenB s.at' j = true → j ∉ js → D.t.rows[j].l ∈ l
  todo : ∀ j ∈ js, ∃ hj : j < D.t.rows.length, seenB s.at' j = true ∧ D.t.rows[j].l ∉ l
  inc : js.Pairwise (· < ·)
theorem met_m1 {cs : List (List Int)} {ats : List Int} {D : DK} (h : DeskT cs ats D) {L : List Int} {s : NS} {l : List Int} {js : List Nat} (hi : CInv D L s l js) {y : Int} (y6 : litChk y 6 = 0) (hm : -y ∈ l) : val3 l y = -1 :=
  val3_m1_of y6 hm (fun e => h.facts.one y6 ⟨hi.sub _ e, hi.sub _ hm⟩)
theorem chn_go {cs : List (List Int)} {ats : List Int} {D : DK} (h : DeskI cs ats D) {con : Int} (hc : Conf D con) {L : List Int} {s : NS} (hn : NI D L s)
    (hcl : ∀ j (hj : j < D.t.rows.length), seenB s.at' j = true → ∀ y ∈ litsA D.A D.t.rows[j].rea, y ≠ D.t.rows[j].l → Met D L s y) (hco : ∀ y ∈ litsA D.A con, Met D L s y) :
    ∀ (js : List Nat) (l : List Int) (n : Nat), CInv D L s l js → ∃ l', chnF l ((js.map (rj D)).map (litsA D.A) ++ [litsA D.A con]) n = (l', n + js.length + 1, 0)
  | [], l, n, hi => by
    refine ⟨l, ?_⟩
    have : clS l (litsA D.A con) = -1 := by
      rw [clS_m1]
      intro y hy _
      have y6 := (hc.neg y hy).1
      refine met_m1 h.toDeskT hi y6 ?_
      rcases hco y hy with e | ⟨j, hj, e1, e2⟩
      · exact hi.neg y e
      · rw [← e1]; exact hi.don j hj e2 (by simp)
    simp [chnF, this]
  | j :: js, l, n, hi => by
    obtain ⟨hj, hs, hnl⟩ := hi.todo j (List.mem_cons_self ..)
    obtain ⟨j2, hj2, e1, hr, _⟩ := hn.mem _ hs
    have hjj : j = j2 := by omega
    subst hjj
    have hF := h.facts
    obtain ⟨r1, r2, r3⟩ := rea_ahead h.toDeskT hj hr
    have x6 := (r3 _ r2).1
    have hx0 := (lit6 x6).2.2.2.1
    have hw := (lit6 x6).2.2.2.2
    have hcl' := hcl j hj hs
    have hinc := List.pairwise_cons.1 hi.inc
    obtain ⟨k, hk, ek1, ek2⟩ : ∃ k, ∃ hk : k < cs.length, litsA D.A D.t.rows[j].rea = cs[k] ∧ True := by
      obtain ⟨k, hk, e, _⟩ := hF.imp j hj hr
      rw [e]
      exact ⟨k, hk, (h.ars k hk).2, trivial⟩
    have hlen := h.cls.len _ (List.getElem_mem hk)
    have hnd := h.cls.nd _ (List.getElem_mem hk)
    rw [← ek1] at hlen hnd
    have hv0 : val3 l D.t.rows[j].l = 0 := by
      unfold val3
      rw [if_neg (by omega), if_neg hnl, if_neg]
      rw [hw]
      intro e
      exact hF.one x6 ⟨mem_litsT hj, hi.sub _ e⟩
    have hv1 : ∀ y ∈ litsA D.A D.t.rows[j].rea, y ≠ D.t.rows[j].l → val3 l y = -1 := fun y hy hne => by
      have y6 := (r3 y hy).1
      refine met_m1 h.toDeskT hi y6 ?_
      rcases hcl' y hy hne with e | ⟨i, hi2, e1, e2⟩
      · exact hi.neg y e
      · obtain ⟨i', hi', hij, e3⟩ := (r3 y hy).2 hne
        have : i = i' := hF.inj hi2 hi' (by rw [e1, e3])
        subst this
        rw [← e1]
        refine hi.don i hi2 e2 ?_
        intro hm
        rcases List.mem_cons.1 hm with e | hm
        · omega
        · have := hinc.1 i hm; omega
    have hu := unit_of hlen hnd r2 hx0 hv0 hv1
    have hnc : ¬ clS l (litsA D.A D.t.rows[j].rea) = -1 := by
      rw [clS_m1]
      intro e
      have := e _ r2 hx0
      omega
    have hi2 : CInv D L s (l ++ [D.t.rows[j].l]) js := by
      refine ⟨?_, fun y hy => List.mem_append_left _ (hi.neg y hy), ?_, ?_, hinc.2⟩
      · intro x hx
        rcases List.mem_append.1 hx with hx | hx
        · exact hi.sub x hx
        · simp at hx; subst hx; exact mem_litsT hj
      · intro i hil his hnm
        by_cases e : i = j
        · subst e; simp
        · exact List.mem_append_left _ (hi.don i hil his (by simp [e, hnm]))
      · intro i hm
        obtain ⟨hil, his, hni⟩ := hi.todo i (List.mem_cons_of_mem _ hm)
        refine ⟨hil, his, ?_⟩
        intro e
        rcases List.mem_append.1 e with e | e
        · exact hni e
        · simp at e
          have := hF.inj hil hj (by rw [e])
          have := hinc.1 i hm
          omega
    obtain ⟨l', hl'⟩ := chn_go h hc hn hcl hco js _ (n + 1) hi2
    refine ⟨l', ?_⟩
    rw [List.map_cons, List.map_cons, List.cons_append, chnF, rj_is h.toDeskT hj, if_neg hnc, hu, if_pos rfl, hl', List.length_cons]
    congr 2; omega
/-- Hints that were found show: all are needed, the conflict is the last. -/
theorem hints_show {cs : List (List Int)} {ats : List Int} {D : DK} (h : DeskI cs ats D) {con : Int} (hc : Conf D con) {L : List Int} (hL : AllNeg D L) (ho : (hinN D.A D.T L con).ok = true) :
    (hinO D.T (hinN D.A D.T L con).at' con).Nodup ∧ (∀ q ∈ hinO D.T (hinN D.A D.T L con).at' con, isA D.A q = true) ∧
      ∃ l', chnF (staL L) ((hinO D.T (hinN D.A D.T L con).at' con).map (litsA D.A)) 0 = (l', (hinO D.T (hinN D.A D.T L con).at' con).length, 0) := by
  have hp := hin_post h hc L
  generalize hinN D.A D.T L con = s at *
  obtain ⟨_, a2, a3⟩ := hp.all ho
  have hF := h.facts
  have hlen : D.T.lits.length = D.t.rows.length := by rw [h.ok.rel.1.lits, List.length_map]
  have hin := hinTo_is h.toDeskT hp.ni D.t.rows.length (Nat.le_refl _)
  have hmk : ∀ j ∈ mkd s D.t.rows.length, ∃ hj : j < D.t.rows.length, seenB s.at' j = true ∧ 0 ≤ D.t.rows[j].rea ∧ -D.t.rows[j].l ∉ L := fun j hj => by
    rw [mkd_mem] at hj
    obtain ⟨j', hj', e1, e2, e3⟩ := hp.ni.mem _ hj.2
    have : j = j' := by omega
    subst this
    exact ⟨hj', hj.2, e2, e3⟩
  have hnc : con ∉ (mkd s D.t.rows.length).map (rj D) := by
    intro e
    obtain ⟨j, hj, e1⟩ := List.mem_map.1 e
    obtain ⟨hj', _, hr, _⟩ := hmk j hj
    rw [rj_is h.toDeskT hj'] at e1
    exact con_ne h.toDeskT hc hj' hr e1
  have hO : hinO D.T s.at' con = (mkd s D.t.rows.length).map (rj D) ++ [con] := by
    unfold hinO
    rw [hlen, hin, if_neg hnc]
  have hinc : (mkd s D.t.rows.length).Pairwise (· < ·) := List.Pairwise.filter _ List.pairwise_lt_range
  rw [hO]
  refine ⟨?_, ?_, ?_⟩
  · rw [List.nodup_append]
    refine ⟨?_, by simp, fun a ha b hb e => ?_⟩
    · refine List.pairwise_map.2 (hinc.imp_of_mem fun {i j} hi hj hij => ?_)
      obtain ⟨hi', _, hri, _⟩ := hmk i hi
      obtain ⟨hj', _, hrj, _⟩ := hmk j hj
      rw [rj_is h.toDeskT hi', rj_is h.toDeskT hj']
      exact rea_ne h.toDeskT hi' hj' hij hri hrj
    · simp at hb
      subst hb
      exact hnc (e ▸ ha)
  · intro q hq
    rcases List.mem_append.1 hq with hq | hq
    · obtain ⟨j, hj, e1⟩ := List.mem_map.1 hq
      obtain ⟨hj', _, hr, _⟩ := hmk j hj
      rw [rj_is h.toDeskT hj'] at e1
      rw [← e1]
      exact (rea_ahead h.toDeskT hj' hr).1
    · simp at hq; subst hq; exact hc.is
  · have hci : CInv D L s (staL L) (mkd s D.t.rows.length) := by
      refine ⟨?_, ?_, ?_, ?_, hinc⟩
      · intro x hx
        rw [staL_mem] at hx
        obtain ⟨y, hy, rfl⟩ := hx
        obtain ⟨y6, j, hj, e⟩ := hL y hy
        rw [(lit6 y6).2.2.2.2, ← e]
        exact mem_litsT hj
      · intro y hy
        rw [staL_mem]
        exact ⟨y, hy, (lit6 (hL y hy).1).2.2.2.2.symm⟩
      · intro j hj hs hnm
        exact absurd ((mkd_mem s _ j).2 ⟨hj, hs⟩) hnm
      · intro j hj
        obtain ⟨hj', hs, _, hnL⟩ := hmk j hj
        refine ⟨hj', hs, fun e => ?_⟩
        rw [staL_mem] at e
        obtain ⟨y, hy, e2⟩ := e
        rw [(lit6 (hL y hy).1).2.2.2.2] at e2
        apply hnL
        rw [e2, Int.neg_neg]
        exact hy
    obtain ⟨l', hl'⟩ := chn_go h hc hp.ni (fun j hj hs y hy hne => a3 j hj hs (by simp [seenB, lk]) y hy hne) (fun y hy => a2 y hy (by have := lit6 (hc.neg y hy).1; omega)) _ _ 0 hci
    refine ⟨l', ?_⟩
    rw [List.map_append]
    have : List.map (litsA D.A) [con] = [litsA D.A con] := rfl
    rw [this, hl']
    congr 2
    simp
/-- What is shown by reasons has hints. -/
theorem hints_ok_of {cs : List (List Int)} {ats : List Int} {D : DK} (h : DeskI cs ats D) {con : Int} (hc : Conf D con) {L : List Int} (hk : ∀ y ∈ litsA D.A con, HOk D.A D.T L y) : (hinN D.A D.T L con).ok = true :=
  (hin_post h hc L).ok fun y hy _ => hk y hy
end Go.AX

namespace Go.AX
open Go.Proofs
set_option linter.unusedSimpArgs false

def stpS (l h : List Int) : List Int × Bool × Int := if clS l h = -1 then (l, true, 0) else if (unitS l h).2 = true then (l ++ [(unitS l h).1], false, 0) else ([], false, 22)
set_option maxRecDepth 16000 in
theorem refStep8_ok (g : List (List SV)) (l h : List Int) (hl : l.length ≤ 1000000) (hh : h.length ≤ 1000000) : AMut Tryz.prog 162 [.seq false 1 (irow l), .seq false 1 (irow h)] g (fun r g' => g' = g ∧ r = .pv (.tup [.seq false 1 (irow (stpS l h).1), BL (stpS l h).2.1, I64 (stpS l h).2.2])) := by
  refine amutXW [] [.tmp 4, .tmp 5, .tmp 6] hmo Tryz.func162 (by kernel_rfl) rfl rfl (by kernel_rfl) (Nat.le_of_ble_eq_true rfl) ?_
  have hC := rf3Clause_ok l h hl hh
  have hU := rf3Unit_ok l h hl hh
  unfold stpS
  simp
  refine CallK.intro hC (by simp) ?_
  by_cases c1 : clS l h = -1
  · simp [c1, wkP, wkPL]
  simp [c1]
  refine CallK.intro hU (by simp) ?_
  cases c2 : (unitS l h).2
  · simp [c2, wkP, wkPL, irow]
  · simp [c2, wkP, wkPL, irow]
    omega
theorem crowF_at (hs : List (List Int)) {i : Nat} (h : i < hs.length) : ∀ h', (hs.map crowF)[i]'h' = [.seq false 1 (irow hs[i])] := fun h' => by simp [crowF]
set_option maxRecDepth 16000 in
theorem refChain8_ok (g : List (List SV)) (l : List Int) (hs : List (List Int)) (hl : l.length + hs.length ≤ 1000000) (hh : ∀ h ∈ hs, h.length ≤ 1000000) : AMut Tryz.prog 108 [.seq false 1 (irow l), .seq false 1 (hs.map crowF)] g (fun r g' => g' = g ∧ r = .pv (.tup [.seq false 1 (irow (chnF l hs 0).1), I64 (chnF l hs 0).2.1, I64 (chnF l hs 0).2.2])) := by
  refine amutXW [] [.tmp 4, .tmp 5, .tmp 6] hmo Tryz.func108 (by kernel_rfl) rfl rfl (by kernel_rfl) (Nat.le_of_ble_eq_true rfl) ?_
  generalize hF : chnF l hs 0 = F
  simp
  refine ALoop.intro (S := fun (x : Nat × List Int) => ⟨[(0, .pv (.seq false 1 (irow x.2))), (1, .pv (.seq false 1 (hs.map crowF))), (7, .pv (I64 x.1))], g⟩) (fun x => x.1 ≤ hs.length ∧ x.2.length ≤ l.length + x.1 ∧ F = chnF x.2 (hs.drop x.1) x.1) (fun x => hs.length - x.1) (0, l) ?_ ⟨Nat.zero_le _, Nat.le_refl _, hF.symm⟩ ?_
  · exact Weak.keep (by simp) (by simp)
  clear hF
  rintro ⟨i, l1⟩ ⟨hi, hl1, hF⟩
  dsimp only at hi hl1 hF
  by_cases h : i < hs.length
  rotate_left
  · have hie : i = hs.length := by omega
    subst hie
    rw [List.drop_eq_nil_of_le (Nat.le_refl _), chnF] at hF
    subst hF
    simp [wkP, wkPL]
  have hw : w64 ((i : Int) + 1) = ((i + 1 : Nat) : Int) := by rw [w64_id (by omega) (by omega)]; omega
  have hdr : hs.drop i = hs[i] :: hs.drop (i + 1) := List.drop_eq_getElem_cons h
  rw [hdr, chnF] at hF
  have hst := fun g => refStep8_ok g l1 hs[i] (by omega) (hh _ (List.getElem_mem h))
  have hrow := crowF_at hs h
  generalize hs[i] = c at *
  have hS : stpS l1 c = if clS l1 c = -1 then (l1, true, 0) else if (unitS l1 c).2 = true then (l1 ++ [(unitS l1 c).1], false, 0) else ([], false, 22) := rfl
  generalize stpS l1 c = s at *
  simp [h, hrow]
  refine CallK.introM (hst _) (by simp) ?_
  rintro _ _ ⟨rfl, rfl⟩
  by_cases c1 : clS l1 c = -1
  · rw [if_pos c1] at hF hS
    subst hF hS
    simp [wkP, wkPL, hw]
  rw [if_neg c1] at hF hS
  by_cases c2 : (unitS l1 c).2 = true
  · rw [if_pos c2] at hF hS
    subst hS
    simp
    refine ⟨(i + 1, l1 ++ [(unitS l1 c).1]), by (try dsimp only); omega, ⟨by (try dsimp only); omega, by simp; omega, hF⟩, Weak.keep (by simp [hw]) (by simp)⟩
  · rw [if_neg c2] at hF hS
    subst hF hS
    simp [wkP, wkPL, irow]
def badL (c : List Int) : Bool := c.any fun x => decide (litX x < 0)
def staE (c : List Int) : Int := if badL c = true then 10 else if tautS c = true then 11 else 0
def staR (c : List Int) : List Int := if staE c = 0 then staL c else []
theorem staTo_le (c : List Int) : ∀ i, (staTo c i).length ≤ i
  | 0 => Nat.le_refl _
  | i + 1 => by
    have := staTo_le c i
    rw [staTo]
    split
    · omega
    · simp; omega
set_option maxRecDepth 16000 in
theorem refStart8_ok (c : List Int) (hl : c.length ≤ 1000000) : APure Tryz.prog 107 [.seq false 1 (irow c)] (fun r => r = .pv (.tup [.seq true 1 (irow (staR c)), I64 (staE c)])) := by
  refine APure.wk (R := fun r => ∃ x, r = .pv x ∧ wkP x (.tup [.seq true 1 (irow (staR c)), I64 (staE c)])) ?_ (fun r ⟨x, e, h⟩ => ⟨x, _, e, h, rfl⟩)
  refine apureX [] [.tmp 2, .tmp 3] hmo Tryz.func107 (by kernel_rfl) rfl rfl (by kernel_rfl) (Nat.le_of_ble_eq_true rfl) ?_
  have hE : staE c = if badL c = true then 10 else if tautS c = true then 11 else 0 := rfl
  have hR : staR c = if staE c = 0 then staL c else [] := rfl
  have hT := refTaut_ok c hl
  generalize staR c = R at *
  generalize staE c = E at *
  simp
  refine ALoop.intro (S := fun (i : Nat) => ⟨[(0, .pv (.seq false 1 (irow c))), (4, .pv (I64 i))], []⟩) (fun i => i ≤ c.length ∧ ∀ j (h : j < c.length), j < i → 0 ≤ litX c[j]) (fun i => c.length - i) 0 ?_ ⟨Nat.zero_le _, fun j _ h => by omega⟩ ?_
  · exact Weak.to (by simp) (by simp) (by simp) (by simp) (by simp)
  rintro i ⟨hi, ho⟩
  by_cases h : i < c.length
  · have hw : w64 ((i : Int) + 1) = ((i + 1 : Nat) : Int) := by rw [w64_id (by omega) (by omega)]; omega
    simp [h]
    refine CallK.intro (refIndex_ok c[i]) (by simp) ?_
    by_cases c1 : litX c[i] < 0
    · have hb : badL c = true := List.any_eq_true.2 ⟨_, List.getElem_mem h, by simpa using c1⟩
      rw [if_pos hb] at hE
      subst hE
      rw [if_neg (by omega)] at hR
      subst hR
      simp [c1, wkP, wkPL, irow]
    · simp [c1]
      refine ⟨i + 1, by (try dsimp only); omega, ⟨by (try dsimp only); omega, fun j hj hji => ?_⟩, Weak.to (by simp [hw]) (by simp) (by simp) (by simp) (by simp)⟩
      by_cases e : j = i
      · subst e; omega
      · exact ho j hj (by omega)
  have hie : i = c.length := by omega
  subst hie
  have hb : badL c = false := List.any_eq_false.2 fun x hx => by
    obtain ⟨j, hj, rfl⟩ := List.getElem_of_mem hx
    have := ho j hj hj
    simp; omega
  rw [if_neg (by simp [hb])] at hE
  clear ho hb hi h
  simp
  refine CallK.intro hT (by simp) ?_
  cases c2 : tautS c
  rotate_left
  · rw [if_pos c2] at hE
    subst hE
    rw [if_neg (by omega)] at hR
    subst hR
    simp [wkP, wkPL, irow]
  rw [if_neg (by simp [c2])] at hE
  subst hE
  rw [if_pos rfl] at hR
  subst hR
  simp
  refine ALoop.intro (S := fun (i : Nat) => ⟨[(0, .pv (.seq false 1 (irow c))), (5, .own true 1 (irow (staTo c i))), (6, .pv (I64 i))], []⟩) (fun i => i ≤ c.length) (fun i => c.length - i) 0 ?_ (Nat.zero_le _) ?_
  · exact (Weak.nilOwn (s := 5) 1 true (by simp)).trans (Weak.to (by simp [staTo, irow]) (by simp) (by simp) (by simp) (by simp))
  intro i hi
  have hle := staTo_le c i
  by_cases h : i < c.length
  rotate_left
  · have hie : i = c.length := by omega
    subst hie
    simp [wkP, wkPL, staL]
  have hw : w64 ((i : Int) + 1) = ((i + 1 : Nat) : Int) := by rw [w64_id (by omega) (by omega)]; omega
  have hg : c.getD i 0 = c[i] := by rw [List.getD_eq_getElem?_getD, List.getElem?_eq_getElem h]; rfl
  have hsu : staTo c (i + 1) = if c[i] ∈ c.take i then staTo c i else staTo c i ++ [w64 (-c[i])] := by rw [staTo, hg]
  have hH := refHas_ok (c.take i) c[i] (by simp; omega)
  have hit : (irow c).take i = irow (c.take i) := by unfold irow; rw [List.map_take]
  simp [h, hit]
  refine ⟨by omega, ?_⟩
  refine CallQ0.intro hH (by simp) ?_
  by_cases c3 : c[i] ∈ c.take i
  · rw [if_pos c3] at hsu
    simp [c3]
    refine ⟨i + 1, by (try dsimp only); omega, by (try dsimp only); omega, Weak.to (by simp [hw, hsu]) (by simp) (by simp) (by simp) (by simp)⟩
  · rw [if_neg c3] at hsu
    simp [c3, h]
    refine ⟨by omega, i + 1, by (try dsimp only); omega, by (try dsimp only); omega, Weak.to (by simp [hw, hsu, irow]) (by simp) (by simp) (by simp) (by simp)⟩
def shwS (c : List Int) (hs : List (List Int)) : Nat × Int := if staE c = 0 then ((chnF (staL c) hs 0).2.1, (chnF (staL c) hs 0).2.2) else (0, staE c)
set_option maxRecDepth 16000 in
theorem refShow8_ok (c : List Int) (hs : List (List Int)) (hl : c.length + hs.length ≤ 1000000) (hh : ∀ h ∈ hs, h.length ≤ 1000000) : APure Tryz.prog 45 [.seq false 1 (irow c), .seq false 1 (hs.map crowF)] (fun r => r = .pv (.tup [I64 (shwS c hs).1, I64 (shwS c hs).2])) := by
  refine apureN [4, 5] hmo Tryz.func45 (by kernel_rfl) rfl (fun _ _ => results_tmp2 rfl _ _ _) (by kernel_rfl) (Nat.le_of_ble_eq_true rfl) ?_
  have hS := refStart8_ok c (by omega)
  have hle := staTo_le c c.length
  have hC := fun g => refChain8_ok g (staL c) hs (by unfold staL; omega) hh
  unfold shwS
  have hR : staR c = if staE c = 0 then staL c else [] := rfl
  simp
  refine CallK.intro hS (by simp) ?_
  by_cases c1 : staE c = 0
  · rw [if_pos c1] at hR
    rw [hR]
    simp [c1]
    refine CallK.introM (hC _) (by simp) ?_
    rintro _ _ ⟨rfl, rfl⟩
    simp
  · simp [c1]
end Go.AX

namespace Go.AX
open Go.Proofs
set_option linter.unusedSimpArgs false

theorem few15_ok (cs : List (List Int)) (l : List Int) : APure Tryz.prog 27 [.seq false 1 (cs.map crowF), .seq false 1 (irow l)] (fun r => r = .pv (BL (few16 cs l []))) := by
  refine apure1 hmo Tryz.func27 (by kernel_rfl) rfl rfl (by kernel_rfl) (Nat.le_of_ble_eq_true rfl) ?_
  simp
  refine CallK.intro (few8_ok cs l) (by simp) ?_
  unfold few16
  cases e : few8 cs l
  · simp
  · by_cases c1 : cs.length ≤ 40
    · have c1' : (cs.length : Int) ≤ 40 := by omega
      simp [c1, c1']
    · have c1' : ¬ (cs.length : Int) ≤ 40 := by omega
      simp [c1, c1']
def shnS (D : DK) (l h : List Int) : Bool := decide ((shwS l (h.map (litsA D.A))).2 = 0) && decide ((shwS l (h.map (litsA D.A))).1 = h.length)
set_option maxRecDepth 16000 in
theorem shown_ok {cs : List (List Int)} {ats : List Int} {D : DK} (hD : DeskI cs ats D) (l h : List Int) (hl : l.length ≤ 100000) (hh : h.length ≤ 100000) (hn : h.Nodup) (hi : ∀ q ∈ h, isA D.A q = true) (ha : D.a.rows.length ≤ 1000000) :
    APure Tryz.prog 32 [dkA (arP D.A) (trP D.T) D, .seq false 1 (irow l), .seq false 1 (irow h)] (fun r => r = .pv (BL (shnS D l h))) := by
  refine apure1 hmo Tryz.func32 (by kernel_rfl) rfl rfl (by kernel_rfl) (Nat.le_of_ble_eq_true rfl) ?_
  have hll : ∀ q, (litsA D.A q).length ≤ 1000000 := fun q => by
    have h1 := litsA_len D.A (fun q hq => by obtain ⟨x, hx, e⟩ := hD.ok.relA.is q hq; obtain ⟨p, e1, e2, _⟩ := hD.ok.relA.rows x hx; exact ⟨p, _, by rw [← e, e1], e2⟩) q
    have := hD.ok.len
    omega
  obtain ⟨C, hCe⟩ : ∃ C, C = h.map (litsA D.A) := ⟨_, rfl⟩
  have hCl : C.length = h.length := by rw [hCe, List.length_map]
  obtain ⟨Q, hQ⟩ : ∃ Q : Nat → List (List Int), ∀ i, Q i = C.take i := ⟨_, fun _ => rfl⟩
  have hQl : ∀ i, (Q i).length ≤ i := fun i => by rw [hQ, List.length_take]; omega
  have hCa : ∀ i (c : i < h.length), C[i]? = some (litsA D.A h[i]) := fun i c => by rw [hCe, List.getElem?_map, List.getElem?_eq_getElem c]; rfl
  have hS8 := refShow8_ok l C (by omega) (fun x hx => by rw [hCe] at hx; obtain ⟨q, _, rfl⟩ := List.mem_map.1 hx; exact hll q)
  simp [dkA]
  refine ALoop.intro (S := fun (i : Nat) => ⟨[(1, .pv (.seq false 1 (irow l))), (2, .pv (.seq false 1 (irow h))), (3, .pv (.ptr 0 0)), (7, .own true 1 ((Q i).map crowF)), (8, .pv (I64 i))], [dkB (arP D.A) (trP D.T) D]⟩) (fun i => i ≤ h.length) (fun i => h.length - i) 0 ?_ (Nat.zero_le _) ?_
  · exact (Weak.nilOwn (s := 7) 1 true (by simp)).trans (Weak.to (by simp [hQ]) (by simp [dkB]) (by simp) (by simp) (by simp [dkB]))
  intro i hi'
  by_cases c : i < h.length
  · have hw : w64 ((i : Int) + 1) = ((i + 1 : Nat) : Int) := by rw [w64_id (by omega) (by omega)]; omega
    have hF := refFind_ok D.a h[i] ha
    obtain ⟨f1, f2⟩ := (findA_is hD.ok.relA h[i]).1 (hi _ (List.getElem_mem c))
    have hH := refHas_ok (h.take i) h[i] (by simp; omega)
    have hit : (irow h).take i = irow (h.take i) := by unfold irow; rw [List.map_take]
    have hni : decide (h[i] ∈ h.take i) = false := by
      simp only [decide_eq_false_iff_not]
      intro hm
      obtain ⟨j, hj, e⟩ := List.getElem_of_mem hm
      rw [List.length_take] at hj
      rw [List.getElem_take] at e
      exact absurd ((List.getElem_inj (h₀ := by omega) (h₁ := c) hn).1 e) (by omega)
    rw [hni] at hH
    obtain ⟨k, hk, e1, e2⟩ : ∃ k, ∃ hk : k < D.a.rows.length, findA D.a h[i] = (k : Int) ∧ D.a.rows[k].lits = litsA D.A h[i] := by
      unfold litsD at f2
      unfold findA idxS at f1 f2 ⊢
      split at f1
      · rename_i j hj
        rw [hj] at f2
        rw [List.findIdx?_eq_some_iff_getElem] at hj
        obtain ⟨h1, _⟩ := hj
        refine ⟨j, h1, rfl, ?_⟩
        simp only [Int.toNat_natCast, List.getD_eq_getElem?_getD, List.getElem?_eq_getElem h1, Option.getD_some] at f2
        exact f2
      · omega
    have hCt : Q (i + 1) = Q i ++ [D.a.rows[k].lits] := by
      have : i < C.length := by omega
      have hx := hCa i c
      rw [List.getElem?_eq_getElem this] at hx
      rw [e2, ← Option.some.inj hx, hQ, hQ, List.take_succ_eq_append_getElem this]
    have hQi := hQl i
    rw [e1] at hF
    have hni2 : ¬ ((k : Int) < 0) := by omega
    simp [dkB, c, hit]
    refine CallQ0.intro hF (by simp) ?_
    have hL : h[i]? = some h[i] := List.getElem?_eq_getElem c
    simp [hni2, hit, hL, c]
    refine ⟨by omega, ?_⟩
    refine CallQ.intro (fun _ => hH) (by simp) ?_
    simp [hk, roR]
    exact ⟨by omega, i + 1, by (try dsimp only); omega, by (try dsimp only); omega, Weak.to (by simp [hw, hCt, crowF]) (by simp) (by simp) (by simp) (by simp)⟩
  have hie : i = h.length := by omega
  subst hie
  have hQe : Q h.length = C := by rw [hQ]; exact List.take_of_length_le (by omega)
  simp [dkB, hQe]
  refine CallK.intro hS8 (by simp) ?_
  unfold shnS
  rw [← hCe]
  by_cases d1 : (shwS l C).2 = 0
  · simp [d1]
    by_cases d2 : (shwS l C).1 = h.length
    · simp [d2, hCl]
    · have : ¬ (((shwS l C).1 : Int) = h.length) := by omega
      simp [d2, this, hCl]
  · simp [d1]
end Go.AX

namespace Go.AX
open Go.Proofs
set_option linter.unusedSimpArgs false

theorem learnNil_ok (t : PV) (q : Int) : APure Tryz.prog 30 [.lit (.pointer none), t, I64 q] (fun r => r = .pv (.tup [.seq true 1 (irow []), I64 1])) := by
  refine APure.wk (R := fun r => ∃ x, r = .pv x ∧ wkP x (.tup [.seq true 1 (irow []), I64 1])) ?_ (fun r ⟨x, e, h⟩ => ⟨x, _, e, h, rfl⟩)
  refine apureX [] [.tmp 6, .tmp 7] hmo Tryz.func30 (by kernel_rfl) rfl rfl (by kernel_rfl) (Nat.le_of_ble_eq_true rfl) ?_
  simp [wkP, wkPL, irow]
theorem assertsNil_ok (l : List Int) : APure Tryz.prog 38 [.lit (.pointer none), .seq false 1 (irow l)] (fun r => r = .pv (BL false)) := by
  refine apure1 hmo Tryz.func38 (by kernel_rfl) rfl rfl (by kernel_rfl) (Nat.le_of_ble_eq_true rfl) ?_
  simp
  refine CallG.intro (fun h : False => h.elim) (r := .pv (BL false)) (by simp) ?_
  simp
set_option maxRecDepth 16000 in
theorem levelNil_ok (lits : List Int) (hl : lits.length ≤ 1000000) : APure Tryz.prog 37 [.lit (.pointer none), .seq false 1 (irow lits)] (fun r => r = .pv (I64 0)) := by
  refine apure1 hmo Tryz.func37 (by kernel_rfl) rfl rfl (by kernel_rfl) (Nat.le_of_ble_eq_true rfl) ?_
  simp
  refine ALoop.intro (S := fun (i : Nat) => ⟨[(0, .pv (.lit (.pointer none))), (5, .own true 1 (irow [])), (8, .pv (.seq false 1 (irow lits))), (9, .pv (I64 lits.length)), (10, .pv (I64 i))], []⟩) (fun i => i ≤ lits.length) (fun i => lits.length - i) 0 ?_ (Nat.zero_le _) ?_
  · exact (Weak.nilOwn (s := 5) 1 true (by simp)).trans (Weak.to (by simp [irow]) (by simp) (by simp) (by simp) (by simp))
  intro i hi
  by_cases h : i < lits.length
  · have hw : w64 ((i : Int) + 1) = ((i + 1 : Nat) : Int) := by rw [w64_id (by omega) (by omega)]; omega
    simp [h]
    refine CallG.intro (fun h : False => h.elim) (r := .pv (I64 0)) (by simp) ?_
    simp
    refine ⟨i + 1, by (try dsimp only); omega, by (try dsimp only); omega, Weak.to (by simp [hw]) (by simp) (by simp) (by simp) (by simp)⟩
  have hie : i = lits.length := by omega
  subst hie
  have hS := sortIg_ok [] (by simp)
  have e0 : sortI [] = [] := by simp [sortI]
  rw [e0] at hS
  have hC := compact_ok [] (by simp)
  unfold cmpR at hC
  have ec : compS [] = [] := rfl
  have ei : irow [] = [] := rfl
  have eb : intsB [] = [] := rfl
  rw [ec] at hC
  simp only [ei, eb, List.length_nil, List.append_nil, Nat.sub_zero, List.replicate_zero] at hS hC
  simp [ei]
  refine CallK.introX (CallX.introS (o := .slot 5) (lo := 0) (hi := 0) hS (by simp) rfl rfl (by simp) (by simp) rfl (by simp) (by simp) (by simp) (by simp) ?_)
  rintro k rows' ⟨rfl, rfl⟩ _ _
  simp
  refine CallK.introX (CallX.introS (o := .slot 5) (lo := 0) (hi := 0) hC (by simp) rfl rfl (by simp) (by simp) rfl (by simp) (by simp) (by simp) (by simp) ?_)
  rintro k rows' ⟨rfl, rfl⟩ _ _
  simp
theorem nrm_ev' {c d : List Int} (h : nrmTo c c.length = d) : normS c = d := by rw [← nrm_same]; exact h
def rnD : DK := setS [[-1, -2, 3], [-2, -3]] [1, 2]
theorem rnD_0 : rnD.con = 6 := by kernel_rfl
theorem rnD_1 : endS rnD.T rnD.T.lits (walkF rnD.A rnD.T rnD.T.lits rnD.T.lits.length (begP rnD.A rnD.T rnD.con)) = [-1, -2] := by kernel_rfl
theorem rnD_2 : learnS rnD.A rnD.T rnD.con = [-2, -1] := by
  unfold learnS firS
  rw [rnD_1, nrm_ev' (d := [-1, -2]) (by kernel_rfl)]
  kernel_rfl
theorem rnD_3 : levTo rnD.T [-2, -1] 2 = [2, 1] := by kernel_rfl
theorem sortI_21 : sortI [2, 1] = [1, 2] := by
  simp [sortI, List.mergeSort]
theorem rnD_4 : backS rnD.T [-2, -1] = 1 := by
  unfold backS levS
  rw [show ([-2, -1] : List Int).length = 2 from rfl, rnD_3, sortI_21]
  kernel_rfl
theorem rnD_5 : asrS rnD.T [-2, -1] = true := by kernel_rfl
theorem rnD_6 : hinS rnD.A rnD.T [-2, -1] rnD.con = ([0, 6], true) := by kernel_rfl
theorem rnD_7 : learnE rnD.A rnD.T 99 = 20 := by kernel_rfl
theorem rnD_8 : learnE rnD.A rnD.T rnD.con = 0 := by kernel_rfl
theorem rnD_9 : isA rnD.A rnD.con = true := by kernel_rfl
theorem rnD_a : learnR rnD.A rnD.T 99 = [] := by unfold learnR; rw [rnD_7]; rfl
theorem rnD_b : rnD.A.row.length = 11 := by kernel_rfl
theorem rnD_c : rnD.T.lits.length = 3 := by kernel_rfl
set_option maxRecDepth 16000 in
theorem rnAwake_ok : APure Tryz.prog 28 [] (fun r => r = .pv (BL true)) := by
  refine apure1 hmo Tryz.func28 (by kernel_rfl) rfl rfl (by kernel_rfl) (Nat.le_of_ble_eq_true rfl) ?_
  have hset := dset_ok [] [[-1, -2, 3], [-2, -3]] [1, 2] ⟨by decide, by decide⟩ (by decide)
  have hI := setS_I (cs := [[-1, -2, 3], [-2, -3]]) ⟨by decide, by decide⟩ [1, 2]
  have e0 := rnD_0
  have e2 := rnD_2
  have e4 := rnD_4
  have e5 := rnD_5
  have e6 := rnD_6
  have e7 := rnD_7
  have e8 := rnD_8
  have e9 := rnD_9
  have ea := rnD_a
  have eb := rnD_b
  have ec := rnD_c
  unfold rnD at e0 e2 e4 e5 e6 e7 e8 e9 ea eb ec
  generalize setS [[-1, -2, 3], [-2, -3]] [1, 2] = D at *
  have hs := hI.ok.sh (c := []) (by decide)
  have h0 := isA_hd e9
  have g1 := rlearn_ok D.A D.T D.con hs.tr h0 hs.ar (by omega) (by omega)
  have g2 := rlearn_ok D.A D.T 99 hs.tr h0 hs.ar (by omega) (by omega)
  have g3 := hints_ok D.A D.T [-2, -1] D.con (ahead_ok hI.toDeskT h0) (pla_lt hI.toDeskT) (by decide) (by omega)
  have g4 := level_ok D.T [-2, -1] hs.tr (by decide)
  have g5 := asserts_ok D.T [-2, -1] hs.tr (by decide)
  have el : learnR D.A D.T D.con = [-2, -1] := by unfold learnR; rw [e8, if_pos rfl, e2]
  rw [el, e8] at g1
  rw [ea, e7] at g2
  rw [e6] at g3
  rw [e4] at g4
  rw [e5] at g5
  have g6 := learnNil_ok (trP D.T) 0
  have g7 := assertsNil_ok [-2, -1]
  have g8 := levelNil_ok [-2, -1] (by decide)
  have hS1 := sameInts_ok [-2, -1] [-2, -1] (by decide)
  rw [e0] at g1 g3
  have hf : ∀ a b c d, frzP [a, b, c, trB D.T, d] 3 3 0 = trP D.T := fun a b c d => frz_tr0 rfl 2
  have hfa : ∀ a b c d, frzP [a, arB D.A, b, c, d] 3 1 0 = arP D.A := fun a b c d => frz_ar0 rfl 2
  simp
  refine CallK.introE hset (by simp) rfl (by simp) (by simp) (by simp [wkAL, wkA, wkRR, wkPL, wkP, irow, crowF]) ?_
  rintro _ _ ⟨rfl, rfl⟩
  simp [dkA, dkB, e0]
  rw [hf, hfa]
  refine CallB.introP g1 (by simp) (by simp) ?_
  simp
  rw [hf, hfa]
  refine CallB.introP g3 (by simp) (by simp) ?_
  simp
  rw [hf, hfa]
  refine CallB.introP g2 (by simp) (by simp) ?_
  simp
  rw [hf]
  refine CallB.introP g6 (by simp) (by simp) ?_
  simp
  refine CallQ.intro (fun _ => hS1) (by simp) ?_
  simp
  rw [hf]
  refine CallQ.intro (fun _ => g4) (by simp) ?_
  simp
  rw [hf]
  refine CallQ.intro (fun _ => g5) (by simp) ?_
  simp
  refine CallQ.intro (fun _ => g7) (by simp) ?_
  simp
  refine CallQ.intro (fun _ => g8) (by simp) ?_
  simp
end Go.AX

namespace Go.AX
open Go.Proofs
set_option linter.unusedSimpArgs false

theorem rows_few {cs : List (List Int)} {ats : List Int} {D : DK} (h : DeskT cs ats D) : D.T.lits.length ≤ 7 := by
  have := h.ok.rel.1.few
  rw [h.ok.rel.1.lits, List.length_map]; omega
theorem litX_6 {x : Int} (h : litChk x 6 = 0) : 0 ≤ litX x := by
  obtain ⟨n0, n1, n2, _⟩ := lit6 h
  have : okL x = true := (okL_iff x).2 (by omega)
  unfold litX absS
  rw [if_pos this]
  split <;> omega
theorem allNeg_sta {cs : List (List Int)} {ats : List Int} {D : DK} (h : DeskT cs ats D) {L : List Int} (hL : AllNeg D L) : staE L = 0 := by
  have hb : badL L = false := List.any_eq_false.2 fun x hx => by
    have := litX_6 (hL x hx).1
    simp; omega
  have ht : tautS L = false := List.any_eq_false.2 fun x hx => by
    intro hh
    rw [Bool.and_eq_true] at hh
    unfold hasS at hh
    simp only [Bool.and_eq_true, decide_eq_true_eq] at hh
    obtain ⟨c1, i, hi, e1⟩ := hL x hh.1.2
    obtain ⟨_, j, hj, e2⟩ := hL (-x) hh.2.2
    have v1 := val_of h hi e1
    have v2 := (val_at h hj).2
    rw [e2, Int.neg_neg] at v2
    omega
  unfold staE
  rw [if_neg (by simp [hb]), if_neg (by simp [ht])]
theorem learnt_neg {D : DK} {L : List Int} (h : Learnt D L) : AllNeg D L := fun y hy => by
  obtain ⟨a, j, hj, e, _⟩ := h.neg y hy
  exact ⟨a, j, hj, e⟩
theorem failsR_neg {D : DK} {c : List Int} (hk : chkC c 6 = 0) (hf : failsR D.t c = true) : AllNeg D c := fun y hy => by
  have h6 : litChk y 6 = 0 := by
    unfold chkC at hk
    rw [if_neg (by decide)] at hk
    split at hk
    · omega
    split at hk
    · omega
    rename_i hn
    have := List.all_eq_true.1 (by simpa using hn : (c.all fun x => inS x 6) = true) y hy
    unfold litChk
    rw [if_neg (by decide), if_pos this]
  refine ⟨h6, ?_⟩
  have hv := List.all_eq_true.1 hf y hy
  simp only [decide_eq_true_eq] at hv
  unfold valR at hv
  split at hv
  · rename_i x hx
    have hm := List.mem_of_find?_eq_some hx
    have hp := List.find?_some hx
    split at hv
    · omega
    · rename_i hne
      simp only [hne, decide_false, Bool.false_or, decide_eq_true_eq] at hp
      obtain ⟨n0, n1, n2, _⟩ := lit6 h6
      rw [w64_id (by omega) (by omega)] at hp
      obtain ⟨j, hj, rfl⟩ := List.getElem_of_mem hm
      exact ⟨j, hj, hp⟩
  · omega
theorem conf_fails {cs : List (List Int)} {ats : List Int} {D : DK} (h : DeskI cs ats D) {con : Int} (hc : Conf D con) : learnE D.A D.T con = 0 := by
  unfold learnE
  rw [if_neg (id_is h hc.is)]
  have : failsS D.T (litsA D.A con) = true := by
    unfold failsS
    rw [Bool.not_eq_true', List.any_eq_false]
    intro x hx
    obtain ⟨_, j, hj, e⟩ := hc.neg x hx
    have := val_of h.toDeskT hj e
    simp; omega
  rw [if_neg (by simp [this])]
theorem hinO_len (T : Tr) (at' : List (Int × Int)) (con : Int) : (hinO T at' con).length ≤ T.lits.length + 1 := by
  unfold hinO
  have := hinTo_le T at' T.lits.length
  split
  · omega
  · simp; omega
theorem hints_shn {cs : List (List Int)} {ats : List Int} {D : DK} (h : DeskI cs ats D) {con : Int} (hc : Conf D con) {L : List Int} (hL : AllNeg D L) (ho : (hinS D.A D.T L con).2 = true) :
    (hinS D.A D.T L con).1.Nodup ∧ (∀ q ∈ (hinS D.A D.T L con).1, isA D.A q = true) ∧ shnS D L (hinS D.A D.T L con).1 = true ∧ (hinS D.A D.T L con).1.length ≤ 8 := by
  have hk : (hinN D.A D.T L con).ok = true := by
    unfold hinS at ho
    rw [if_neg (id_is h hc.is)] at ho
    split at ho
    · exact absurd ho (by decide)
    · rename_i hh; simpa using hh
  have e : (hinS D.A D.T L con).1 = hinO D.T (hinN D.A D.T L con).at' con := by
    unfold hinS
    rw [if_neg (id_is h hc.is), if_neg (by simp [hk])]
  obtain ⟨a1, a2, l', a3⟩ := hints_show h hc hL hk
  have a4 := hinO_len D.T (hinN D.A D.T L con).at' con
  have a5 := rows_few h.toDeskT
  rw [e]
  refine ⟨a1, a2, ?_, by omega⟩
  unfold shnS shwS
  rw [if_pos (allNeg_sta h.toDeskT hL), a3]
  simp
theorem hints_yes {cs : List (List Int)} {ats : List Int} {D : DK} (h : DeskI cs ats D) {con : Int} (hc : Conf D con) {L : List Int} (hk : ∀ y ∈ litsA D.A con, HOk D.A D.T L y) : (hinS D.A D.T L con).2 = true := by
  unfold hinS
  rw [if_neg (id_is h hc.is), if_neg (by simp [hints_ok_of h hc hk])]
theorem rows_len {cs : List (List Int)} (hc : fewC cs) (h4 : cs.length ≤ 40) (lits : List Int) : (setS cs lits).A.row.length ≤ 100000 ∧ (setS cs lits).a.rows.length ≤ 1000000 := by
  obtain ⟨hA, ha⟩ := setL_A (putL cs cs.length).rows (putL cs cs.length).ats lits (begD (putL cs cs.length)) lits.length
  have hA' : (setS cs lits).A = (putL cs cs.length).A := hA
  have ha' : (setS cs lits).a = (putL cs cs.length).a := ha
  rw [hA', ha']
  have hp := putL_ok hc cs.length (Nat.le_refl _)
  have := hp.len
  have := hp.rlen
  omega
theorem few16_40 {cs : List (List Int)} {l c : List Int} (h : few16 cs l c = true) : cs.length ≤ 40 := by
  unfold few16 at h
  simp only [Bool.and_eq_true, decide_eq_true_eq] at h
  exact h.1.2
set_option maxRecDepth 16000 in
theorem reasonShown_ok (cs : List (List Int)) (l c : List Int) : APure Tryz.prog 6 [.seq false 1 (cs.map crowF), .seq false 1 (irow l), .seq false 1 (irow c)] (fun r => r = .pv (BL true)) := by
  refine apure1 hmo Tryz.func6 (by kernel_rfl) rfl rfl (by kernel_rfl) (Nat.le_of_ble_eq_true rfl) ?_
  have haw := rnAwake_ok
  have hfw := few15_ok cs l
  simp
  refine CallK.intro hfw (by simp) ?_
  cases c1 : few16 cs l []
  · simp
    refine CallK.intro haw (by simp) ?_
    simp
  by_cases c2 : (20 : Int) < c.length
  · simp [c2]
    refine CallK.intro haw (by simp) ?_
    simp
  obtain ⟨f1, f2, _⟩ := few16_few c1
  have f3 := few16_40 c1
  have hset := fun h => dset_ok h cs l f1 (by omega)
  have hI := setS_I f1 l
  obtain ⟨r1, r2⟩ := rows_len f1 f3 l
  generalize setS cs l = D at *
  have hs := hI.ok.sh (c := []) (by decide)
  simp [c2]
  refine CallK.introM (hset _) (by simp) ?_
  rintro _ _ ⟨rfl, rfl⟩
  by_cases c3 : D.con < 0
  · have c3' : ¬ 0 ≤ D.con := by omega
    simp [dkA, dkB, c3, c3']
    refine CallK.intro haw (by simp) ?_
    simp
  have hC := conf_of hI.toDeskT (by omega)
  have h0 := isA_hd hC.is
  obtain ⟨t1, t2⟩ := learn_is hI.toDeskT hC
  have hf7 := rows_few hI.toDeskT
  have lE := conf_fails hI hC
  have lR : learnR D.A D.T D.con = learnS D.A D.T D.con := by unfold learnR; rw [if_pos lE]
  have g1 := rlearn_ok D.A D.T D.con hs.tr h0 hs.ar r1 hf7
  rw [lE, lR] at g1
  obtain ⟨n1, n2, n3, n4⟩ := hints_shn hI hC (learnt_neg t1) (hints_yes hI hC t2)
  have n5 := hints_yes hI hC t2
  have n6 : (learnS D.A D.T D.con).length ≤ 100000 := by
    have hsub : learnS D.A D.T D.con ⊆ D.t.rows.map fun x => -x.l := fun y hy => by
      obtain ⟨_, j, hj, e, _⟩ := t1.neg y hy
      exact List.mem_map.2 ⟨_, List.getElem_mem hj, by rw [e, Int.neg_neg]⟩
    have h7 := hI.ok.rel.1.few
    have := t1.nd.length_le_of_subset hsub
    rw [List.length_map] at this
    omega
  have hA := ahead_ok hI.toDeskT h0
  have g2 := hints_ok D.A D.T (learnS D.A D.T D.con) D.con hA (pla_lt hI.toDeskT) (by omega) (by omega)
  have g3 := shown_ok hI (learnS D.A D.T D.con) (hinS D.A D.T (learnS D.A D.T D.con) D.con).1 n6 (by omega) n1 n2 r2
  rw [n3] at g3
  rw [n5] at g2
  have g4 := hints_ok D.A D.T c D.con hA (pla_lt hI.toDeskT) (by omega) (by omega)
  have g5 := refClCheck_ok c 6 (by omega)
  have g6 := refTaut_ok c (by omega)
  have g7 := refFails_ok D.t c (by have := hI.ok.rel.1.few; omega) (by omega)
  have g8 : (hinS D.A D.T c D.con).2 = true → chkC c 6 = 0 → failsR D.t c = true → APure Tryz.prog 32 [dkA (arP D.A) (trP D.T) D, .seq false 1 (irow c), .seq false 1 (irow (hinS D.A D.T c D.con).1)] (fun r => r = .pv (BL true)) := fun q1 q2 q3 => by
    obtain ⟨m1, m2, m3, m4⟩ := hints_shn hI hC (failsR_neg q2 q3) q1
    have := shown_ok hI c (hinS D.A D.T c D.con).1 (by omega) (by omega) m1 m2 r2
    rwa [m3] at this
  generalize hinS D.A D.T c D.con = N at *
  generalize hinS D.A D.T (learnS D.A D.T D.con) D.con = H at *
  generalize learnS D.A D.T D.con = L at *
  have hf : ∀ a b c d, frzP [a, b, c, trB D.T, d] 3 3 0 = trP D.T := fun a b c d => frz_tr0 rfl 2
  have hfa : ∀ a b c d, frzP [a, arB D.A, b, c, d] 3 1 0 = arP D.A := fun a b c d => frz_ar0 rfl 2
  have c3' : 0 ≤ D.con := by omega
  simp [dkA, dkB, c3, c3']
  rw [hf, hfa]
  refine CallB.introP g1 (by simp) (by simp) ?_
  simp
  rw [hf, hfa]
  refine CallB.introP g2 (by simp) (by simp) ?_
  simp
  rw [hf, hfa]
  simp only [dkA, rtV] at g3 g7 g8
  refine CallG.intro (fun _ => g3) (by simp) ?_
  simp
  rw [hf, hfa]
  refine CallB.introP g4 (by simp) (by simp) ?_
  cases d1 : N.2
  · simp
    refine CallG.intro (fun h : False => h.elim) (r := .pv (I64 0)) (by simp) ?_
    simp
    refine CallG.intro (fun h : False => h.elim) (r := .pv (BL false)) (by simp) ?_
    simp
    refine CallG.intro (fun h : False => h.elim) (r := .pv (BL false)) (by simp) ?_
    simp
    refine CallG.intro (fun h : False => h.elim) (r := .pv (BL false)) (by simp) ?_
    simp
    refine CallK.intro haw (by simp) ?_
    simp
  simp
  refine CallG.intro (fun _ => g5) (by simp) ?_
  by_cases d2 : chkC c 6 = 0
  rotate_left
  · simp [d2]
    refine CallG.intro (fun h : False => h.elim) (r := .pv (BL false)) (by simp) ?_
    simp
    refine CallG.intro (fun h : False => h.elim) (r := .pv (BL false)) (by simp) ?_
    simp
    refine CallG.intro (fun h : False => h.elim) (r := .pv (BL false)) (by simp) ?_
    simp
    refine CallK.intro haw (by simp) ?_
    simp
  simp [d2]
  refine CallG.intro (fun _ => g6) (by simp) ?_
  cases d3 : tautS c
  rotate_left
  · simp
    refine CallG.intro (fun h : False => h.elim) (r := .pv (BL false)) (by simp) ?_
    simp
    refine CallG.intro (fun h : False => h.elim) (r := .pv (BL false)) (by simp) ?_
    simp
    refine CallK.intro haw (by simp) ?_
    simp
  simp
  refine CallG.intro (fun _ => g7) (by simp) ?_
  cases d4 : failsR D.t c
  · simp
    refine CallG.intro (fun h : False => h.elim) (r := .pv (BL false)) (by simp) ?_
    simp
    refine CallK.intro haw (by simp) ?_
    simp
  simp
  rw [hf, hfa]
  refine CallG.intro (fun _ => g8 d1 d2 d4) (by simp) ?_
  simp
  refine CallK.intro haw (by simp) ?_
  simp
end Go.AX
