/-
  Contracts: a desk with clauses: places; a clause is attached, or detached.
  A watch to which clauses are attached, and detached, goes with the document (plain law).
  A watch of two clauses, step by step: what awake sees (plain law).
  Contracts: awake.
  The law's contract: WatchPlays.
-/
import Derived.Test.YthfhellfmbllhaaGreatS12AxWaJ
import Derived.Test.YthfhellfmbllhaaGreatAxPu
import Derived.Test.YthfhellfmbllhaaGreatS12AxRnM
import Derived.Test.YthfhellfmbllhaaGreatS12AxTmS
import Derived.Test.YthfhellfmbllhaaGreatAxBe
import Derived.Test.YthfhellfmbllhaaGreatS12AxGlI
namespace Go.AX
open Go.Proofs
set_option linter.unusedSimpArgs false
def plaW (ats : List Int) (n : Int) : Int := if 0 ≤ n ∧ n < ats.length then ats.getD n.toNat 0 else n
def dwC (H : List (List SV)) (m ba bt bw : Nat) (D : DW) : PV := .agg [frzP H (m + 1) ba 0, frzP H (m + 1) bt 0, frzP H (m + 1) bw 0, .seq false 5 (D.a.rows.map roR), I64 D.a.size, I64 D.t.vars, .seq false 3 (D.t.rows.map enR), I64 D.t.dep, .seq false 1 (irow D.on), .seq false 1 (irow D.ats), BL true]
theorem wplace_ok (H : List (List SV)) (m ba bt bw : Nat) (D : DW) (n : Int) (hl : D.ats.length ≤ 1000000) :
    APure Tryz.prog 41 [dwC H m ba bt bw D, I64 n] (fun r => r = .pv (I64 (plaW D.ats n))) := by
  refine apure1 hmo Tryz.func41 (by kernel_rfl) rfl rfl (by kernel_rfl) (Nat.le_of_ble_eq_true rfl) ?_
  unfold dwC
  have hP : plaW D.ats n = if 0 ≤ n ∧ n < D.ats.length then D.ats.getD n.toNat 0 else n := rfl
  generalize plaW D.ats n = R at *
  simp only [frzP]
  by_cases c : 0 ≤ n ∧ n < D.ats.length
  · rw [if_pos c] at hP
    obtain ⟨k, rfl⟩ : ∃ k : Nat, n = k := ⟨n.toNat, by omega⟩
    have hk : k < D.ats.length := by omega
    have hP' : R = D.ats[k] := by rw [hP]; simp [List.getD_eq_getElem?_getD, List.getElem?_eq_getElem hk]
    simp [c.1, hk, hP']
  · rw [if_neg c] at hP
    subst hP
    by_cases c1 : 0 ≤ R
    · have c2 : ¬ R < D.ats.length := fun h => c ⟨c1, h⟩
      simp [c1, c2]
    · simp [c1]
def DomD (bd bw bt : Nat) (mp : List (Int × Nat)) (mb : List (Int × By)) (b : Nat) : Prop := b = bd ∨ DomW bw bt mp mb b
structure LayD (h : List (List SV)) (bd ba bt bw : Nat) (mp : List (Int × Nat)) (mb : List (Int × By)) (D : DW) : Prop where
  lay : LayW h bw ba bt mp mb D.A D.T D.S
  d : h[bd]? = some (dwB ba bt bw D)
  nd : ¬ DomW bw bt mp mb bd
  na : bd ≠ ba
theorem LayW.other {h : List (List SV)} {bw ba bt : Nat} {mp : List (Int × Nat)} {mb : List (Int × By)} {A : Ar} {T : Tr} {S : WS} (L : LayW h bw ba bt mp mb A T S) (b : Nat) (x : List SV) (hd : ¬ DomW bw bt mp mb b) (ha : b ≠ ba) : LayW (h.set b x) bw ba bt mp mb A T S := by
  have up : ∀ {c : Nat} {y : List SV}, b ≠ c → h[c]? = some y → (h.set b x)[c]? = some y := fun hn hx => by rw [List.getElem?_set_ne hn, hx]
  exact { w := up (fun e => hd (.inl e)) L.w, a := up ha L.a, t := up (fun e => hd (.inr (.inl e))) L.t, wa := L.wa, wt := L.wt, at' := L.at', keys := L.keys, pinj := L.pinj, byn := L.byn, binj := L.binj, pb := L.pb
          pr := fun k c hc => by obtain ⟨p, h1, h2, h3⟩ := L.pr k c hc; exact ⟨p, h1, up (fun e => hd (.inr (.inr (.inl ⟨k, e ▸ hc⟩)))) h2, h3⟩
          by' := fun l e he => by
            obtain ⟨zs, h1, ⟨sp, h2, h3⟩, h4⟩ := L.by' l e he
            exact ⟨zs, h1, ⟨sp, up (fun e2 => hd (.inr (.inr (.inr ⟨l, e, he, e2.symm⟩)))) h2, h3⟩, h4⟩ }
theorem Ext.wide {h h' : List (List SV)} {D D' : Nat → Prop} (e : Ext h h' D D') (bd : Nat) : Ext h h' (fun b => b = bd ∨ D b) (fun b => b = bd ∨ D' b) :=
  ⟨e.len, fun b hb hn => e.same b hb fun hd => hn (.inr hd), fun b hb hd => hd.imp id (e.sub b hb)⟩
def dw6Sch : Sch :=
  let s0 : Sch := .fork [(10, .take 12 (.take 13 .done))]
  let s1 : Sch := .fork [(9, s0)]
  let s2 : Sch := .fork [(8, s1)]
  let s3 : Sch := .fork [(6, s1)]
  let s4 : Sch := .fork [(6, s2), (8, s3)]
  let s5 : Sch := .fork [(3, s0)]
  let s6 : Sch := .fork [(3, s1), (9, s5)]
  let s7 : Sch := .fork [(3, s2), (8, s6)]
  let s8 : Sch := .fork [(3, s3), (6, s6)]
  let s9 : Sch := .fork [(3, s4), (6, s7), (8, s8)]
  .take 0 (.take 1 (.take 2 (.take 4 (.take 5 (.take 7 (.take 11 s9))))))
set_option maxRecDepth 16000 in
theorem wdoA_ok (h : List (List SV)) (bd ba bt bw : Nat) (mp : List (Int × Nat)) (mb : List (Int × By)) (D : DW) (L : LayD h bd ba bt bw mp mb D) (n : Int) (hk : ArOk D.A) (hl : D.A.row.length ≤ 1000000) (hm : D.T.marks.length ≤ 1000000) (hTl : D.T.lits.length ≤ 1000000)
    (ha : D.a.rows.length ≤ 1000000) (hr : ∀ x ∈ D.a.rows, x.lits.length ≤ 1000000) (hon : D.on.length ≤ 1000000) (hat : D.ats.length ≤ 1000000) :
    AMut Tryz.prog 9 [.ptr bd 0, .agg [I64 0, I64 n]] h (fun r h' => r = .pv (BL (decide (attE D.A D.T D.S (plaW D.ats n) = rattE D.a D.t.vars D.on (plaW D.ats n)))) ∧ ∃ mp', LayD h' bd ba bt bw mp' mb ⟨D.A, D.T, attS D.A D.T D.S (plaW D.ats n), D.a, D.t, rattL D.a D.t.vars D.on (plaW D.ats n), D.ats⟩ ∧ Ext h h' (DomD bd bw bt mp mb) (DomD bd bw bt mp' mb)) := by
  refine amutX [4, 6] [.tmp 4] hmo Tryz.func9 (by kernel_rfl) rfl rfl (by kernel_rfl) (Nat.le_of_ble_eq_true rfl) ?_
  obtain ⟨d1, d2⟩ := List.getElem?_eq_some_iff.1 L.d
  have kP := fun H => wplace_ok H 2 ba bt bw D n hat
  have kR := fun H => rattach_ok H D.a D.t D.on (plaW D.ats n) ha hr hon
  obtain ⟨G, hG⟩ : ∃ G, G = h ++ [[SV.pv (I64 0), SV.pv (I64 n)]] := ⟨_, rfl⟩
  simp
  rw [← hG]
  have g1 : bd < G.length := by rw [hG]; simp; omega
  have g2 : G[bd]'g1 = dwB ba bt bw D := by simp only [hG]; rw [List.getElem_append_left d1, d2]
  have b1 : h.length < G.length := by rw [hG]; simp
  have b2 : G[h.length]'b1 = [SV.pv (I64 0), SV.pv (I64 n)] := by simp [hG]
  generalize hk0 : plaW D.ats n = k at *
  generalize rattE D.a D.t.vars D.on k = RE at *
  generalize rattL D.a D.t.vars D.on k = RL at *
  refine AAnyD.dagE [] (fun _ : Unit => ⟨[(0, .pv (.ptr bd 0)), (3, .pv (.ptr h.length 0)), (5, .pv (.seq false 1 (irow RL))), (6, .pv (I64 RE))], G⟩) (fun _ => True) 24 (bvA 24 0) (by kernel_rfl) (fun stp stM hstp hstM C hC => ?_) ?_
  · have oe0 := hstp 0
    simp only [AStepI, AStep, AEx, gslot, boxedIn, List.getElem?_cons_zero, List.getElem?_cons_succ, Option.bind_some, Bool.or_false, Bool.false_or, Bool.or_true, Bool.true_or, Bool.false_and, Bool.true_and, Bool.false_eq_true, if_false] at oe0
    have oe1 := hstp 1
    simp only [AStepI, AStep, AEx, gslot, boxedIn, List.getElem?_cons_zero, List.getElem?_cons_succ, Option.bind_some, Bool.or_false, Bool.false_or, Bool.or_true, Bool.true_or, Bool.false_and, Bool.true_and, Bool.false_eq_true, if_false] at oe1
    have oe2 := hstp 2
    simp only [AStepI, AStep, AEx, gslot, boxedIn, List.getElem?_cons_zero, List.getElem?_cons_succ, Option.bind_some, Bool.or_false, Bool.false_or, Bool.or_true, Bool.true_or, Bool.false_and, Bool.true_and, Bool.false_eq_true, if_false] at oe2
    have oe3 := hstM 3
    simp only [AStepMI, AStepM, blkOf, cutOfB, AStepI, AStep, AEx, gslot, boxedIn, List.getElem?_cons_zero, List.getElem?_cons_succ, Option.bind_some, Bool.or_false, Bool.false_or, Bool.or_true, Bool.true_or, Bool.false_and, Bool.true_and, Bool.false_eq_true, if_false] at oe3
    have oe4 := hstp 4
    simp only [AStepI, AStep, AEx, gslot, boxedIn, List.getElem?_cons_zero, List.getElem?_cons_succ, Option.bind_some, Bool.or_false, Bool.false_or, Bool.or_true, Bool.true_or, Bool.false_and, Bool.true_and, Bool.false_eq_true, if_false] at oe4
    have oe5 := hstp 5
    simp only [AStepI, AStep, AEx, gslot, boxedIn, List.getElem?_cons_zero, List.getElem?_cons_succ, Option.bind_some, Bool.or_false, Bool.false_or, Bool.or_true, Bool.true_or, Bool.false_and, Bool.true_and, Bool.false_eq_true, if_false] at oe5
    have oe6 := hstp 6
    simp only [AStepI, AStep, AEx, gslot, boxedIn, List.getElem?_cons_zero, List.getElem?_cons_succ, Option.bind_some, Bool.or_false, Bool.false_or, Bool.or_true, Bool.true_or, Bool.false_and, Bool.true_and, Bool.false_eq_true, if_false] at oe6
    have oe7 := hstM 7
    simp only [AStepMI, AStepM, blkOf, cutOfB, AStepI, AStep, AEx, gslot, boxedIn, List.getElem?_cons_zero, List.getElem?_cons_succ, Option.bind_some, Bool.or_false, Bool.false_or, Bool.or_true, Bool.true_or, Bool.false_and, Bool.true_and, Bool.false_eq_true, if_false] at oe7
    have oe8 := hstp 8
    simp only [AStepI, AStep, AEx, gslot, boxedIn, List.getElem?_cons_zero, List.getElem?_cons_succ, Option.bind_some, Bool.or_false, Bool.false_or, Bool.or_true, Bool.true_or, Bool.false_and, Bool.true_and, Bool.false_eq_true, if_false] at oe8
    have oe9 := hstp 9
    simp only [AStepI, AStep, AEx, gslot, boxedIn, List.getElem?_cons_zero, List.getElem?_cons_succ, Option.bind_some, Bool.or_false, Bool.false_or, Bool.or_true, Bool.true_or, Bool.false_and, Bool.true_and, Bool.false_eq_true, if_false] at oe9
    have oe10 := hstp 10
    simp only [AStepI, AStep, AEx, gslot, boxedIn, List.getElem?_cons_zero, List.getElem?_cons_succ, Option.bind_some, Bool.or_false, Bool.false_or, Bool.or_true, Bool.true_or, Bool.false_and, Bool.true_and, Bool.false_eq_true, if_false] at oe10
    have oe11 := hstM 11
    simp only [AStepMI, AStepM, blkOf, cutOfB, AStepI, AStep, AEx, gslot, boxedIn, List.getElem?_cons_zero, List.getElem?_cons_succ, Option.bind_some, Bool.or_false, Bool.false_or, Bool.or_true, Bool.true_or, Bool.false_and, Bool.true_and, Bool.false_eq_true, if_false] at oe11
    have oe12 := hstp 12
    simp only [AStepI, AStep, AEx, gslot, boxedIn, List.getElem?_cons_zero, List.getElem?_cons_succ, Option.bind_some, Bool.or_false, Bool.false_or, Bool.or_true, Bool.true_or, Bool.false_and, Bool.true_and, Bool.false_eq_true, if_false] at oe12
    have oe13 := hstp 13
    simp only [AStepI, AStep, AEx, gslot, boxedIn, List.getElem?_cons_zero, List.getElem?_cons_succ, Option.bind_some, Bool.or_false, Bool.false_or, Bool.or_true, Bool.true_or, Bool.false_and, Bool.true_and, Bool.false_eq_true, if_false] at oe13
    have oe14 := hstM 14
    simp only [AStepMI, AStepM, blkOf, cutOfB, AStepI, AStep, AEx, gslot, boxedIn, List.getElem?_cons_zero, List.getElem?_cons_succ, Option.bind_some, Bool.or_false, Bool.false_or, Bool.or_true, Bool.true_or, Bool.false_and, Bool.true_and, Bool.false_eq_true, if_false] at oe14
    have oe15 := hstp 15
    simp only [AStepI, AStep, AEx, gslot, boxedIn, List.getElem?_cons_zero, List.getElem?_cons_succ, Option.bind_some, Bool.or_false, Bool.false_or, Bool.or_true, Bool.true_or, Bool.false_and, Bool.true_and, Bool.false_eq_true, if_false] at oe15
    have oe16 := hstM 16
    simp only [AStepMI, AStepM, blkOf, cutOfB, AStepI, AStep, AEx, gslot, boxedIn, List.getElem?_cons_zero, List.getElem?_cons_succ, Option.bind_some, Bool.or_false, Bool.false_or, Bool.or_true, Bool.true_or, Bool.false_and, Bool.true_and, Bool.false_eq_true, if_false] at oe16
    have oe17 := hstM 17
    simp only [AStepMI, AStepM, blkOf, cutOfB, AStepI, AStep, AEx, gslot, boxedIn, List.getElem?_cons_zero, List.getElem?_cons_succ, Option.bind_some, Bool.or_false, Bool.false_or, Bool.or_true, Bool.true_or, Bool.false_and, Bool.true_and, Bool.false_eq_true, if_false] at oe17
    have oe18 := hstM 18
    simp only [AStepMI, AStepM, blkOf, cutOfB, AStepI, AStep, AEx, gslot, boxedIn, List.getElem?_cons_zero, List.getElem?_cons_succ, Option.bind_some, Bool.or_false, Bool.false_or, Bool.or_true, Bool.true_or, Bool.false_and, Bool.true_and, Bool.false_eq_true, if_false] at oe18
    have oe19 := hstp 19
    simp only [AStepI, AStep, AEx, gslot, boxedIn, List.getElem?_cons_zero, List.getElem?_cons_succ, Option.bind_some, Bool.or_false, Bool.false_or, Bool.or_true, Bool.true_or, Bool.false_and, Bool.true_and, Bool.false_eq_true, if_false] at oe19
    have oe20 := hstp 20
    simp only [AStepI, AStep, AEx, gslot, boxedIn, List.getElem?_cons_zero, List.getElem?_cons_succ, Option.bind_some, Bool.or_false, Bool.false_or, Bool.or_true, Bool.true_or, Bool.false_and, Bool.true_and, Bool.false_eq_true, if_false] at oe20
    have oe21 := hstp 21
    simp only [AStepI, AStep, AEx, gslot, boxedIn, List.getElem?_cons_zero, List.getElem?_cons_succ, Option.bind_some, Bool.or_false, Bool.false_or, Bool.or_true, Bool.true_or, Bool.false_and, Bool.true_and, Bool.false_eq_true, if_false] at oe21
    have oe22 := hstp 22
    simp only [AStepI, AStep, AEx, gslot, boxedIn, List.getElem?_cons_zero, List.getElem?_cons_succ, Option.bind_some, Bool.or_false, Bool.false_or, Bool.or_true, Bool.true_or, Bool.false_and, Bool.true_and, Bool.false_eq_true, if_false] at oe22
    have oe23 := hstp 23
    simp only [AStepI, AStep, AEx, gslot, boxedIn, List.getElem?_cons_zero, List.getElem?_cons_succ, Option.bind_some, Bool.or_false, Bool.false_or, Bool.or_true, Bool.true_or, Bool.false_and, Bool.true_and, Bool.false_eq_true, if_false] at oe23
    clear hstp hstM
    have d0 : C 0 (bvA 24 16777215) ⟨[(0, .pv (.ptr bd 0)), (3, .pv (.ptr h.length 0)), (5, .pv (.seq false 1 (irow RL))), (6, .pv (I64 RE))], G⟩ := by
      refine hC.done _ _ _ ?_ ?_
      · kernel_rfl
      exact ⟨(), trivial, Weak.keep (by simp) rfl⟩
    have d1 : C 6 (bvA 24 262143) ⟨[(0, .pv (.ptr bd 0)), (3, .pv (.ptr h.length 0)), (19, .pv (.agg [.seq false 5 (D.a.rows.map roR), I64 D.a.size])), (23, .pv (.agg [I64 D.t.vars, .seq false 3 (D.t.rows.map enR), I64 D.t.dep])), (27, .pv (.seq false 1 (irow D.on))), (33, .pv (I64 k))], G⟩ := by
      refine hC.fork [(18, (bvA 24 524287))] ?_ ⟨?_, trivial⟩
      · kernel_rfl
      · simp [oe18, g1, g2, b1, b2, dwB]
        refine CallK.introM (kR _) (by simp [raV, rtV]) ?_
        rintro _ _ ⟨rfl, rfl⟩
        refine hC.take 19 (bvA 24 1048575) ?_ ?_
        · kernel_rfl
        simp [oe19, g1, g2, b1, b2, dwB]
        refine hC.take 20 (bvA 24 2097151) ?_ ?_
        · kernel_rfl
        simp [oe20, g1, g2, b1, b2, dwB]
        refine hC.take 21 (bvA 24 4194303) ?_ ?_
        · kernel_rfl
        simp [oe21, g1, g2, b1, b2, dwB]
        refine hC.take 22 (bvA 24 8388607) ?_ ?_
        · kernel_rfl
        simp [oe22, g1, g2, b1, b2, dwB]
        refine hC.take 23 (bvA 24 16777215) ?_ ?_
        · kernel_rfl
        simp [oe23, g1, g2, b1, b2, dwB]
        refine hC.weak d0 (Weak.keep ?_ ?_) <;> simp [g1, g2, b1, b2, dwB]
    have d2 : C 7 (bvA 24 131071) ⟨[(0, .pv (.ptr bd 0)), (3, .pv (.ptr h.length 0)), (19, .pv (.agg [.seq false 5 (D.a.rows.map roR), I64 D.a.size])), (23, .pv (.agg [I64 D.t.vars, .seq false 3 (D.t.rows.map enR), I64 D.t.dep])), (27, .pv (.seq false 1 (irow D.on))), (30, .pv (.agg [.ptr ba 0, .ptr bt 0, .ptr bw 0, .seq false 5 (D.a.rows.map roR), I64 D.a.size, I64 D.t.vars, .seq false 3 (D.t.rows.map enR), I64 D.t.dep, .seq false 1 (irow D.on), .seq false 1 (irow D.ats), BL true])), (32, .pv (I64 n))], G⟩ := by
      refine hC.fork [(17, (bvA 24 262143))] ?_ ⟨?_, trivial⟩
      · kernel_rfl
      · simp [oe17, g1, g2, b1, b2, dwB]
        refine CallK.intro (kP G) (by simp) ?_
        refine hC.weak d1 (Weak.keep ?_ ?_) <;> simp [g1, g2, b1, b2, dwB]
    have d3 : C 8 (bvA 24 65535) ⟨[(0, .pv (.ptr bd 0)), (3, .pv (.ptr h.length 0)), (19, .pv (.agg [.seq false 5 (D.a.rows.map roR), I64 D.a.size])), (23, .pv (.agg [I64 D.t.vars, .seq false 3 (D.t.rows.map enR), I64 D.t.dep])), (27, .pv (.seq false 1 (irow D.on))), (30, .pv (.agg [.ptr ba 0, .ptr bt 0, .ptr bw 0, .seq false 5 (D.a.rows.map roR), I64 D.a.size, I64 D.t.vars, .seq false 3 (D.t.rows.map enR), I64 D.t.dep, .seq false 1 (irow D.on), .seq false 1 (irow D.ats), BL true])), (31, .pv (.ptr h.length 1))], G⟩ := by
      refine hC.fork [(16, (bvA 24 131071))] ?_ ⟨?_, trivial⟩
      · kernel_rfl
      · simp [oe16, g1, g2, b1, b2, dwB]
        refine hC.weak d2 (Weak.keep ?_ ?_) <;> simp [g1, g2, b1, b2, dwB]
    have d4 : C 8 (bvA 24 114687) ⟨[(0, .pv (.ptr bd 0)), (3, .pv (.ptr h.length 0)), (19, .pv (.agg [.seq false 5 (D.a.rows.map roR), I64 D.a.size])), (23, .pv (.agg [I64 D.t.vars, .seq false 3 (D.t.rows.map enR), I64 D.t.dep])), (27, .pv (.seq false 1 (irow D.on))), (29, .pv (.ptr bd 0)), (32, .pv (I64 n))], G⟩ := by
      refine hC.fork [(14, (bvA 24 131071))] ?_ ⟨?_, trivial⟩
      · kernel_rfl
      · simp [oe14, g1, g2, b1, b2, dwB]
        refine hC.weak d2 (Weak.keep ?_ ?_) <;> simp [g1, g2, b1, b2, dwB]
    have d5 : C 9 (bvA 24 49151) ⟨[(0, .pv (.ptr bd 0)), (3, .pv (.ptr h.length 0)), (19, .pv (.agg [.seq false 5 (D.a.rows.map roR), I64 D.a.size])), (23, .pv (.agg [I64 D.t.vars, .seq false 3 (D.t.rows.map enR), I64 D.t.dep])), (27, .pv (.seq false 1 (irow D.on))), (29, .pv (.ptr bd 0)), (31, .pv (.ptr h.length 1))], G⟩ := by
      refine hC.fork [(14, (bvA 24 65535)), (16, (bvA 24 114687))] ?_ ⟨?_, ?_, trivial⟩
      · kernel_rfl
      · simp [oe14, g1, g2, b1, b2, dwB]
        refine hC.weak d3 (Weak.keep ?_ ?_) <;> simp [g1, g2, b1, b2, dwB]
      · simp [oe16, g1, g2, b1, b2, dwB]
        refine hC.weak d4 (Weak.keep ?_ ?_) <;> simp [g1, g2, b1, b2, dwB]
    have d6 : C 7 (bvA 24 260095) ⟨[(0, .pv (.ptr bd 0)), (3, .pv (.ptr h.length 0)), (19, .pv (.agg [.seq false 5 (D.a.rows.map roR), I64 D.a.size])), (23, .pv (.agg [I64 D.t.vars, .seq false 3 (D.t.rows.map enR), I64 D.t.dep])), (26, .pv (.ptr bd 8)), (33, .pv (I64 k))], G⟩ := by
      refine hC.fork [(11, (bvA 24 262143))] ?_ ⟨?_, trivial⟩
      · kernel_rfl
      · simp [oe11, g1, g2, b1, b2, dwB]
        refine hC.weak d1 (Weak.keep ?_ ?_) <;> simp [g1, g2, b1, b2, dwB]
    have d7 : C 8 (bvA 24 129023) ⟨[(0, .pv (.ptr bd 0)), (3, .pv (.ptr h.length 0)), (19, .pv (.agg [.seq false 5 (D.a.rows.map roR), I64 D.a.size])), (23, .pv (.agg [I64 D.t.vars, .seq false 3 (D.t.rows.map enR), I64 D.t.dep])), (26, .pv (.ptr bd 8)), (30, .pv (.agg [.ptr ba 0, .ptr bt 0, .ptr bw 0, .seq false 5 (D.a.rows.map roR), I64 D.a.size, I64 D.t.vars, .seq false 3 (D.t.rows.map enR), I64 D.t.dep, .seq false 1 (irow D.on), .seq false 1 (irow D.ats), BL true])), (32, .pv (I64 n))], G⟩ := by
      refine hC.fork [(11, (bvA 24 131071)), (17, (bvA 24 260095))] ?_ ⟨?_, ?_, trivial⟩
      · kernel_rfl
      · simp [oe11, g1, g2, b1, b2, dwB]
        refine hC.weak d2 (Weak.keep ?_ ?_) <;> simp [g1, g2, b1, b2, dwB]
      · simp [oe17, g1, g2, b1, b2, dwB]
        refine CallK.intro (kP G) (by simp) ?_
        refine hC.weak d6 (Weak.keep ?_ ?_) <;> simp [g1, g2, b1, b2, dwB]
    have d8 : C 9 (bvA 24 63487) ⟨[(0, .pv (.ptr bd 0)), (3, .pv (.ptr h.length 0)), (19, .pv (.agg [.seq false 5 (D.a.rows.map roR), I64 D.a.size])), (23, .pv (.agg [I64 D.t.vars, .seq false 3 (D.t.rows.map enR), I64 D.t.dep])), (26, .pv (.ptr bd 8)), (30, .pv (.agg [.ptr ba 0, .ptr bt 0, .ptr bw 0, .seq false 5 (D.a.rows.map roR), I64 D.a.size, I64 D.t.vars, .seq false 3 (D.t.rows.map enR), I64 D.t.dep, .seq false 1 (irow D.on), .seq false 1 (irow D.ats), BL true])), (31, .pv (.ptr h.length 1))], G⟩ := by
      refine hC.fork [(11, (bvA 24 65535)), (16, (bvA 24 129023))] ?_ ⟨?_, ?_, trivial⟩
      · kernel_rfl
      · simp [oe11, g1, g2, b1, b2, dwB]
        refine hC.weak d3 (Weak.keep ?_ ?_) <;> simp [g1, g2, b1, b2, dwB]
      · simp [oe16, g1, g2, b1, b2, dwB]
        refine hC.weak d7 (Weak.keep ?_ ?_) <;> simp [g1, g2, b1, b2, dwB]
    have d9 : C 9 (bvA 24 112639) ⟨[(0, .pv (.ptr bd 0)), (3, .pv (.ptr h.length 0)), (19, .pv (.agg [.seq false 5 (D.a.rows.map roR), I64 D.a.size])), (23, .pv (.agg [I64 D.t.vars, .seq false 3 (D.t.rows.map enR), I64 D.t.dep])), (26, .pv (.ptr bd 8)), (29, .pv (.ptr bd 0)), (32, .pv (I64 n))], G⟩ := by
      refine hC.fork [(11, (bvA 24 114687)), (14, (bvA 24 129023))] ?_ ⟨?_, ?_, trivial⟩
      · kernel_rfl
      · simp [oe11, g1, g2, b1, b2, dwB]
        refine hC.weak d4 (Weak.keep ?_ ?_) <;> simp [g1, g2, b1, b2, dwB]
      · simp [oe14, g1, g2, b1, b2, dwB]
        refine hC.weak d7 (Weak.keep ?_ ?_) <;> simp [g1, g2, b1, b2, dwB]
    have d10 : C 10 (bvA 24 47103) ⟨[(0, .pv (.ptr bd 0)), (3, .pv (.ptr h.length 0)), (19, .pv (.agg [.seq false 5 (D.a.rows.map roR), I64 D.a.size])), (23, .pv (.agg [I64 D.t.vars, .seq false 3 (D.t.rows.map enR), I64 D.t.dep])), (26, .pv (.ptr bd 8)), (29, .pv (.ptr bd 0)), (31, .pv (.ptr h.length 1))], G⟩ := by
      refine hC.fork [(11, (bvA 24 49151)), (14, (bvA 24 63487)), (16, (bvA 24 112639))] ?_ ⟨?_, ?_, ?_, trivial⟩
      · kernel_rfl
      · simp [oe11, g1, g2, b1, b2, dwB]
        refine hC.weak d5 (Weak.keep ?_ ?_) <;> simp [g1, g2, b1, b2, dwB]
      · simp [oe14, g1, g2, b1, b2, dwB]
        refine hC.weak d8 (Weak.keep ?_ ?_) <;> simp [g1, g2, b1, b2, dwB]
      · simp [oe16, g1, g2, b1, b2, dwB]
        refine hC.weak d9 (Weak.keep ?_ ?_) <;> simp [g1, g2, b1, b2, dwB]
    have d11 : C 7 (bvA 24 262015) ⟨[(0, .pv (.ptr bd 0)), (3, .pv (.ptr h.length 0)), (19, .pv (.agg [.seq false 5 (D.a.rows.map roR), I64 D.a.size])), (22, .pv (.ptr bd 5)), (27, .pv (.seq false 1 (irow D.on))), (33, .pv (I64 k))], G⟩ := by
      refine hC.fork [(7, (bvA 24 262143))] ?_ ⟨?_, trivial⟩
      · kernel_rfl
      · simp [oe7, g1, g2, b1, b2, dwB]
        refine hC.weak d1 (Weak.keep ?_ ?_) <;> simp [g1, g2, b1, b2, dwB]
    have d12 : C 8 (bvA 24 130943) ⟨[(0, .pv (.ptr bd 0)), (3, .pv (.ptr h.length 0)), (19, .pv (.agg [.seq false 5 (D.a.rows.map roR), I64 D.a.size])), (22, .pv (.ptr bd 5)), (27, .pv (.seq false 1 (irow D.on))), (30, .pv (.agg [.ptr ba 0, .ptr bt 0, .ptr bw 0, .seq false 5 (D.a.rows.map roR), I64 D.a.size, I64 D.t.vars, .seq false 3 (D.t.rows.map enR), I64 D.t.dep, .seq false 1 (irow D.on), .seq false 1 (irow D.ats), BL true])), (32, .pv (I64 n))], G⟩ := by
      refine hC.fork [(7, (bvA 24 131071)), (17, (bvA 24 262015))] ?_ ⟨?_, ?_, trivial⟩
      · kernel_rfl
      · simp [oe7, g1, g2, b1, b2, dwB]
        refine hC.weak d2 (Weak.keep ?_ ?_) <;> simp [g1, g2, b1, b2, dwB]
      · simp [oe17, g1, g2, b1, b2, dwB]
        refine CallK.intro (kP G) (by simp) ?_
        refine hC.weak d11 (Weak.keep ?_ ?_) <;> simp [g1, g2, b1, b2, dwB]
    have d13 : C 9 (bvA 24 65407) ⟨[(0, .pv (.ptr bd 0)), (3, .pv (.ptr h.length 0)), (19, .pv (.agg [.seq false 5 (D.a.rows.map roR), I64 D.a.size])), (22, .pv (.ptr bd 5)), (27, .pv (.seq false 1 (irow D.on))), (30, .pv (.agg [.ptr ba 0, .ptr bt 0, .ptr bw 0, .seq false 5 (D.a.rows.map roR), I64 D.a.size, I64 D.t.vars, .seq false 3 (D.t.rows.map enR), I64 D.t.dep, .seq false 1 (irow D.on), .seq false 1 (irow D.ats), BL true])), (31, .pv (.ptr h.length 1))], G⟩ := by
      refine hC.fork [(7, (bvA 24 65535)), (16, (bvA 24 130943))] ?_ ⟨?_, ?_, trivial⟩
      · kernel_rfl
      · simp [oe7, g1, g2, b1, b2, dwB]
        refine hC.weak d3 (Weak.keep ?_ ?_) <;> simp [g1, g2, b1, b2, dwB]
      · simp [oe16, g1, g2, b1, b2, dwB]
        refine hC.weak d12 (Weak.keep ?_ ?_) <;> simp [g1, g2, b1, b2, dwB]
    have d14 : C 9 (bvA 24 114559) ⟨[(0, .pv (.ptr bd 0)), (3, .pv (.ptr h.length 0)), (19, .pv (.agg [.seq false 5 (D.a.rows.map roR), I64 D.a.size])), (22, .pv (.ptr bd 5)), (27, .pv (.seq false 1 (irow D.on))), (29, .pv (.ptr bd 0)), (32, .pv (I64 n))], G⟩ := by
      refine hC.fork [(7, (bvA 24 114687)), (14, (bvA 24 130943))] ?_ ⟨?_, ?_, trivial⟩
      · kernel_rfl
      · simp [oe7, g1, g2, b1, b2, dwB]
        refine hC.weak d4 (Weak.keep ?_ ?_) <;> simp [g1, g2, b1, b2, dwB]
      · simp [oe14, g1, g2, b1, b2, dwB]
        refine hC.weak d12 (Weak.keep ?_ ?_) <;> simp [g1, g2, b1, b2, dwB]
    have d15 : C 10 (bvA 24 49023) ⟨[(0, .pv (.ptr bd 0)), (3, .pv (.ptr h.length 0)), (19, .pv (.agg [.seq false 5 (D.a.rows.map roR), I64 D.a.size])), (22, .pv (.ptr bd 5)), (27, .pv (.seq false 1 (irow D.on))), (29, .pv (.ptr bd 0)), (31, .pv (.ptr h.length 1))], G⟩ := by
      refine hC.fork [(7, (bvA 24 49151)), (14, (bvA 24 65407)), (16, (bvA 24 114559))] ?_ ⟨?_, ?_, ?_, trivial⟩
      · kernel_rfl
      · simp [oe7, g1, g2, b1, b2, dwB]
        refine hC.weak d5 (Weak.keep ?_ ?_) <;> simp [g1, g2, b1, b2, dwB]
      · simp [oe14, g1, g2, b1, b2, dwB]
        refine hC.weak d13 (Weak.keep ?_ ?_) <;> simp [g1, g2, b1, b2, dwB]
      · simp [oe16, g1, g2, b1, b2, dwB]
        refine hC.weak d14 (Weak.keep ?_ ?_) <;> simp [g1, g2, b1, b2, dwB]
    have d16 : C 8 (bvA 24 259967) ⟨[(0, .pv (.ptr bd 0)), (3, .pv (.ptr h.length 0)), (19, .pv (.agg [.seq false 5 (D.a.rows.map roR), I64 D.a.size])), (22, .pv (.ptr bd 5)), (26, .pv (.ptr bd 8)), (33, .pv (I64 k))], G⟩ := by
      refine hC.fork [(7, (bvA 24 260095)), (11, (bvA 24 262015))] ?_ ⟨?_, ?_, trivial⟩
      · kernel_rfl
      · simp [oe7, g1, g2, b1, b2, dwB]
        refine hC.weak d6 (Weak.keep ?_ ?_) <;> simp [g1, g2, b1, b2, dwB]
      · simp [oe11, g1, g2, b1, b2, dwB]
        refine hC.weak d11 (Weak.keep ?_ ?_) <;> simp [g1, g2, b1, b2, dwB]
    have d17 : C 9 (bvA 24 128895) ⟨[(0, .pv (.ptr bd 0)), (3, .pv (.ptr h.length 0)), (19, .pv (.agg [.seq false 5 (D.a.rows.map roR), I64 D.a.size])), (22, .pv (.ptr bd 5)), (26, .pv (.ptr bd 8)), (30, .pv (.agg [.ptr ba 0, .ptr bt 0, .ptr bw 0, .seq false 5 (D.a.rows.map roR), I64 D.a.size, I64 D.t.vars, .seq false 3 (D.t.rows.map enR), I64 D.t.dep, .seq false 1 (irow D.on), .seq false 1 (irow D.ats), BL true])), (32, .pv (I64 n))], G⟩ := by
      refine hC.fork [(7, (bvA 24 129023)), (11, (bvA 24 130943)), (17, (bvA 24 259967))] ?_ ⟨?_, ?_, ?_, trivial⟩
      · kernel_rfl
      · simp [oe7, g1, g2, b1, b2, dwB]
        refine hC.weak d7 (Weak.keep ?_ ?_) <;> simp [g1, g2, b1, b2, dwB]
      · simp [oe11, g1, g2, b1, b2, dwB]
        refine hC.weak d12 (Weak.keep ?_ ?_) <;> simp [g1, g2, b1, b2, dwB]
      · simp [oe17, g1, g2, b1, b2, dwB]
        refine CallK.intro (kP G) (by simp) ?_
        refine hC.weak d16 (Weak.keep ?_ ?_) <;> simp [g1, g2, b1, b2, dwB]
    have d18 : C 10 (bvA 24 63359) ⟨[(0, .pv (.ptr bd 0)), (3, .pv (.ptr h.length 0)), (19, .pv (.agg [.seq false 5 (D.a.rows.map roR), I64 D.a.size])), (22, .pv (.ptr bd 5)), (26, .pv (.ptr bd 8)), (30, .pv (.agg [.ptr ba 0, .ptr bt 0, .ptr bw 0, .seq false 5 (D.a.rows.map roR), I64 D.a.size, I64 D.t.vars, .seq false 3 (D.t.rows.map enR), I64 D.t.dep, .seq false 1 (irow D.on), .seq false 1 (irow D.ats), BL true])), (31, .pv (.ptr h.length 1))], G⟩ := by
      refine hC.fork [(7, (bvA 24 63487)), (11, (bvA 24 65407)), (16, (bvA 24 128895))] ?_ ⟨?_, ?_, ?_, trivial⟩
      · kernel_rfl
      · simp [oe7, g1, g2, b1, b2, dwB]
        refine hC.weak d8 (Weak.keep ?_ ?_) <;> simp [g1, g2, b1, b2, dwB]
      · simp [oe11, g1, g2, b1, b2, dwB]
        refine hC.weak d13 (Weak.keep ?_ ?_) <;> simp [g1, g2, b1, b2, dwB]
      · simp [oe16, g1, g2, b1, b2, dwB]
        refine hC.weak d17 (Weak.keep ?_ ?_) <;> simp [g1, g2, b1, b2, dwB]
    have d19 : C 10 (bvA 24 112511) ⟨[(0, .pv (.ptr bd 0)), (3, .pv (.ptr h.length 0)), (19, .pv (.agg [.seq false 5 (D.a.rows.map roR), I64 D.a.size])), (22, .pv (.ptr bd 5)), (26, .pv (.ptr bd 8)), (29, .pv (.ptr bd 0)), (32, .pv (I64 n))], G⟩ := by
      refine hC.fork [(7, (bvA 24 112639)), (11, (bvA 24 114559)), (14, (bvA 24 128895))] ?_ ⟨?_, ?_, ?_, trivial⟩
      · kernel_rfl
      · simp [oe7, g1, g2, b1, b2, dwB]
        refine hC.weak d9 (Weak.keep ?_ ?_) <;> simp [g1, g2, b1, b2, dwB]
      · simp [oe11, g1, g2, b1, b2, dwB]
        refine hC.weak d14 (Weak.keep ?_ ?_) <;> simp [g1, g2, b1, b2, dwB]
      · simp [oe14, g1, g2, b1, b2, dwB]
        refine hC.weak d17 (Weak.keep ?_ ?_) <;> simp [g1, g2, b1, b2, dwB]
    have d20 : C 11 (bvA 24 46975) ⟨[(0, .pv (.ptr bd 0)), (3, .pv (.ptr h.length 0)), (19, .pv (.agg [.seq false 5 (D.a.rows.map roR), I64 D.a.size])), (22, .pv (.ptr bd 5)), (26, .pv (.ptr bd 8)), (29, .pv (.ptr bd 0)), (31, .pv (.ptr h.length 1))], G⟩ := by
      refine hC.fork [(7, (bvA 24 47103)), (11, (bvA 24 49023)), (14, (bvA 24 63359)), (16, (bvA 24 112511))] ?_ ⟨?_, ?_, ?_, ?_, trivial⟩
      · kernel_rfl
      · simp [oe7, g1, g2, b1, b2, dwB]
        refine hC.weak d10 (Weak.keep ?_ ?_) <;> simp [g1, g2, b1, b2, dwB]
      · simp [oe11, g1, g2, b1, b2, dwB]
        refine hC.weak d15 (Weak.keep ?_ ?_) <;> simp [g1, g2, b1, b2, dwB]
      · simp [oe14, g1, g2, b1, b2, dwB]
        refine hC.weak d18 (Weak.keep ?_ ?_) <;> simp [g1, g2, b1, b2, dwB]
      · simp [oe16, g1, g2, b1, b2, dwB]
        refine hC.weak d19 (Weak.keep ?_ ?_) <;> simp [g1, g2, b1, b2, dwB]
    have d21 : C 7 (bvA 24 262135) ⟨[(0, .pv (.ptr bd 0)), (3, .pv (.ptr h.length 0)), (18, .pv (.ptr bd 3)), (23, .pv (.agg [I64 D.t.vars, .seq false 3 (D.t.rows.map enR), I64 D.t.dep])), (27, .pv (.seq false 1 (irow D.on))), (33, .pv (I64 k))], G⟩ := by
      refine hC.fork [(3, (bvA 24 262143))] ?_ ⟨?_, trivial⟩
      · kernel_rfl
      · simp [oe3, g1, g2, b1, b2, dwB]
        refine hC.weak d1 (Weak.keep ?_ ?_) <;> simp [g1, g2, b1, b2, dwB]
    have d22 : C 8 (bvA 24 131063) ⟨[(0, .pv (.ptr bd 0)), (3, .pv (.ptr h.length 0)), (18, .pv (.ptr bd 3)), (23, .pv (.agg [I64 D.t.vars, .seq false 3 (D.t.rows.map enR), I64 D.t.dep])), (27, .pv (.seq false 1 (irow D.on))), (30, .pv (.agg [.ptr ba 0, .ptr bt 0, .ptr bw 0, .seq false 5 (D.a.rows.map roR), I64 D.a.size, I64 D.t.vars, .seq false 3 (D.t.rows.map enR), I64 D.t.dep, .seq false 1 (irow D.on), .seq false 1 (irow D.ats), BL true])), (32, .pv (I64 n))], G⟩ := by
      refine hC.fork [(3, (bvA 24 131071)), (17, (bvA 24 262135))] ?_ ⟨?_, ?_, trivial⟩
      · kernel_rfl
      · simp [oe3, g1, g2, b1, b2, dwB]
        refine hC.weak d2 (Weak.keep ?_ ?_) <;> simp [g1, g2, b1, b2, dwB]
      · simp [oe17, g1, g2, b1, b2, dwB]
        refine CallK.intro (kP G) (by simp) ?_
        refine hC.weak d21 (Weak.keep ?_ ?_) <;> simp [g1, g2, b1, b2, dwB]
    have d23 : C 9 (bvA 24 65527) ⟨[(0, .pv (.ptr bd 0)), (3, .pv (.ptr h.length 0)), (18, .pv (.ptr bd 3)), (23, .pv (.agg [I64 D.t.vars, .seq false 3 (D.t.rows.map enR), I64 D.t.dep])), (27, .pv (.seq false 1 (irow D.on))), (30, .pv (.agg [.ptr ba 0, .ptr bt 0, .ptr bw 0, .seq false 5 (D.a.rows.map roR), I64 D.a.size, I64 D.t.vars, .seq false 3 (D.t.rows.map enR), I64 D.t.dep, .seq false 1 (irow D.on), .seq false 1 (irow D.ats), BL true])), (31, .pv (.ptr h.length 1))], G⟩ := by
      refine hC.fork [(3, (bvA 24 65535)), (16, (bvA 24 131063))] ?_ ⟨?_, ?_, trivial⟩
      · kernel_rfl
      · simp [oe3, g1, g2, b1, b2, dwB]
        refine hC.weak d3 (Weak.keep ?_ ?_) <;> simp [g1, g2, b1, b2, dwB]
      · simp [oe16, g1, g2, b1, b2, dwB]
        refine hC.weak d22 (Weak.keep ?_ ?_) <;> simp [g1, g2, b1, b2, dwB]
    have d24 : C 9 (bvA 24 114679) ⟨[(0, .pv (.ptr bd 0)), (3, .pv (.ptr h.length 0)), (18, .pv (.ptr bd 3)), (23, .pv (.agg [I64 D.t.vars, .seq false 3 (D.t.rows.map enR), I64 D.t.dep])), (27, .pv (.seq false 1 (irow D.on))), (29, .pv (.ptr bd 0)), (32, .pv (I64 n))], G⟩ := by
      refine hC.fork [(3, (bvA 24 114687)), (14, (bvA 24 131063))] ?_ ⟨?_, ?_, trivial⟩
      · kernel_rfl
      · simp [oe3, g1, g2, b1, b2, dwB]
        refine hC.weak d4 (Weak.keep ?_ ?_) <;> simp [g1, g2, b1, b2, dwB]
      · simp [oe14, g1, g2, b1, b2, dwB]
        refine hC.weak d22 (Weak.keep ?_ ?_) <;> simp [g1, g2, b1, b2, dwB]
    have d25 : C 10 (bvA 24 49143) ⟨[(0, .pv (.ptr bd 0)), (3, .pv (.ptr h.length 0)), (18, .pv (.ptr bd 3)), (23, .pv (.agg [I64 D.t.vars, .seq false 3 (D.t.rows.map enR), I64 D.t.dep])), (27, .pv (.seq false 1 (irow D.on))), (29, .pv (.ptr bd 0)), (31, .pv (.ptr h.length 1))], G⟩ := by
      refine hC.fork [(3, (bvA 24 49151)), (14, (bvA 24 65527)), (16, (bvA 24 114679))] ?_ ⟨?_, ?_, ?_, trivial⟩
      · kernel_rfl
      · simp [oe3, g1, g2, b1, b2, dwB]
        refine hC.weak d5 (Weak.keep ?_ ?_) <;> simp [g1, g2, b1, b2, dwB]
      · simp [oe14, g1, g2, b1, b2, dwB]
        refine hC.weak d23 (Weak.keep ?_ ?_) <;> simp [g1, g2, b1, b2, dwB]
      · simp [oe16, g1, g2, b1, b2, dwB]
        refine hC.weak d24 (Weak.keep ?_ ?_) <;> simp [g1, g2, b1, b2, dwB]
    have d26 : C 8 (bvA 24 260087) ⟨[(0, .pv (.ptr bd 0)), (3, .pv (.ptr h.length 0)), (18, .pv (.ptr bd 3)), (23, .pv (.agg [I64 D.t.vars, .seq false 3 (D.t.rows.map enR), I64 D.t.dep])), (26, .pv (.ptr bd 8)), (33, .pv (I64 k))], G⟩ := by
      refine hC.fork [(3, (bvA 24 260095)), (11, (bvA 24 262135))] ?_ ⟨?_, ?_, trivial⟩
      · kernel_rfl
      · simp [oe3, g1, g2, b1, b2, dwB]
        refine hC.weak d6 (Weak.keep ?_ ?_) <;> simp [g1, g2, b1, b2, dwB]
      · simp [oe11, g1, g2, b1, b2, dwB]
        refine hC.weak d21 (Weak.keep ?_ ?_) <;> simp [g1, g2, b1, b2, dwB]
    have d27 : C 9 (bvA 24 129015) ⟨[(0, .pv (.ptr bd 0)), (3, .pv (.ptr h.length 0)), (18, .pv (.ptr bd 3)), (23, .pv (.agg [I64 D.t.vars, .seq false 3 (D.t.rows.map enR), I64 D.t.dep])), (26, .pv (.ptr bd 8)), (30, .pv (.agg [.ptr ba 0, .ptr bt 0, .ptr bw 0, .seq false 5 (D.a.rows.map roR), I64 D.a.size, I64 D.t.vars, .seq false 3 (D.t.rows.map enR), I64 D.t.dep, .seq false 1 (irow D.on), .seq false 1 (irow D.ats), BL true])), (32, .pv (I64 n))], G⟩ := by
      refine hC.fork [(3, (bvA 24 129023)), (11, (bvA 24 131063)), (17, (bvA 24 260087))] ?_ ⟨?_, ?_, ?_, trivial⟩
      · kernel_rfl
      · simp [oe3, g1, g2, b1, b2, dwB]
        refine hC.weak d7 (Weak.keep ?_ ?_) <;> simp [g1, g2, b1, b2, dwB]
      · simp [oe11, g1, g2, b1, b2, dwB]
        refine hC.weak d22 (Weak.keep ?_ ?_) <;> simp [g1, g2, b1, b2, dwB]
      · simp [oe17, g1, g2, b1, b2, dwB]
        refine CallK.intro (kP G) (by simp) ?_
        refine hC.weak d26 (Weak.keep ?_ ?_) <;> simp [g1, g2, b1, b2, dwB]
    have d28 : C 10 (bvA 24 63479) ⟨[(0, .pv (.ptr bd 0)), (3, .pv (.ptr h.length 0)), (18, .pv (.ptr bd 3)), (23, .pv (.agg [I64 D.t.vars, .seq false 3 (D.t.rows.map enR), I64 D.t.dep])), (26, .pv (.ptr bd 8)), (30, .pv (.agg [.ptr ba 0, .ptr bt 0, .ptr bw 0, .seq false 5 (D.a.rows.map roR), I64 D.a.size, I64 D.t.vars, .seq false 3 (D.t.rows.map enR), I64 D.t.dep, .seq false 1 (irow D.on), .seq false 1 (irow D.ats), BL true])), (31, .pv (.ptr h.length 1))], G⟩ := by
      refine hC.fork [(3, (bvA 24 63487)), (11, (bvA 24 65527)), (16, (bvA 24 129015))] ?_ ⟨?_, ?_, ?_, trivial⟩
      · kernel_rfl
      · simp [oe3, g1, g2, b1, b2, dwB]
        refine hC.weak d8 (Weak.keep ?_ ?_) <;> simp [g1, g2, b1, b2, dwB]
      · simp [oe11, g1, g2, b1, b2, dwB]
        refine hC.weak d23 (Weak.keep ?_ ?_) <;> simp [g1, g2, b1, b2, dwB]
      · simp [oe16, g1, g2, b1, b2, dwB]
        refine hC.weak d27 (Weak.keep ?_ ?_) <;> simp [g1, g2, b1, b2, dwB]
    have d29 : C 10 (bvA 24 112631) ⟨[(0, .pv (.ptr bd 0)), (3, .pv (.ptr h.length 0)), (18, .pv (.ptr bd 3)), (23, .pv (.agg [I64 D.t.vars, .seq false 3 (D.t.rows.map enR), I64 D.t.dep])), (26, .pv (.ptr bd 8)), (29, .pv (.ptr bd 0)), (32, .pv (I64 n))], G⟩ := by
      refine hC.fork [(3, (bvA 24 112639)), (11, (bvA 24 114679)), (14, (bvA 24 129015))] ?_ ⟨?_, ?_, ?_, trivial⟩
      · kernel_rfl
      · simp [oe3, g1, g2, b1, b2, dwB]
        refine hC.weak d9 (Weak.keep ?_ ?_) <;> simp [g1, g2, b1, b2, dwB]
      · simp [oe11, g1, g2, b1, b2, dwB]
        refine hC.weak d24 (Weak.keep ?_ ?_) <;> simp [g1, g2, b1, b2, dwB]
      · simp [oe14, g1, g2, b1, b2, dwB]
        refine hC.weak d27 (Weak.keep ?_ ?_) <;> simp [g1, g2, b1, b2, dwB]
    have d30 : C 11 (bvA 24 47095) ⟨[(0, .pv (.ptr bd 0)), (3, .pv (.ptr h.length 0)), (18, .pv (.ptr bd 3)), (23, .pv (.agg [I64 D.t.vars, .seq false 3 (D.t.rows.map enR), I64 D.t.dep])), (26, .pv (.ptr bd 8)), (29, .pv (.ptr bd 0)), (31, .pv (.ptr h.length 1))], G⟩ := by
      refine hC.fork [(3, (bvA 24 47103)), (11, (bvA 24 49143)), (14, (bvA 24 63479)), (16, (bvA 24 112631))] ?_ ⟨?_, ?_, ?_, ?_, trivial⟩
      · kernel_rfl
      · simp [oe3, g1, g2, b1, b2, dwB]
        refine hC.weak d10 (Weak.keep ?_ ?_) <;> simp [g1, g2, b1, b2, dwB]
      · simp [oe11, g1, g2, b1, b2, dwB]
        refine hC.weak d25 (Weak.keep ?_ ?_) <;> simp [g1, g2, b1, b2, dwB]
      · simp [oe14, g1, g2, b1, b2, dwB]
        refine hC.weak d28 (Weak.keep ?_ ?_) <;> simp [g1, g2, b1, b2, dwB]
      · simp [oe16, g1, g2, b1, b2, dwB]
        refine hC.weak d29 (Weak.keep ?_ ?_) <;> simp [g1, g2, b1, b2, dwB]
    have d31 : C 8 (bvA 24 262007) ⟨[(0, .pv (.ptr bd 0)), (3, .pv (.ptr h.length 0)), (18, .pv (.ptr bd 3)), (22, .pv (.ptr bd 5)), (27, .pv (.seq false 1 (irow D.on))), (33, .pv (I64 k))], G⟩ := by
      refine hC.fork [(3, (bvA 24 262015)), (7, (bvA 24 262135))] ?_ ⟨?_, ?_, trivial⟩
      · kernel_rfl
      · simp [oe3, g1, g2, b1, b2, dwB]
        refine hC.weak d11 (Weak.keep ?_ ?_) <;> simp [g1, g2, b1, b2, dwB]
      · simp [oe7, g1, g2, b1, b2, dwB]
        refine hC.weak d21 (Weak.keep ?_ ?_) <;> simp [g1, g2, b1, b2, dwB]
    have d32 : C 9 (bvA 24 130935) ⟨[(0, .pv (.ptr bd 0)), (3, .pv (.ptr h.length 0)), (18, .pv (.ptr bd 3)), (22, .pv (.ptr bd 5)), (27, .pv (.seq false 1 (irow D.on))), (30, .pv (.agg [.ptr ba 0, .ptr bt 0, .ptr bw 0, .seq false 5 (D.a.rows.map roR), I64 D.a.size, I64 D.t.vars, .seq false 3 (D.t.rows.map enR), I64 D.t.dep, .seq false 1 (irow D.on), .seq false 1 (irow D.ats), BL true])), (32, .pv (I64 n))], G⟩ := by
      refine hC.fork [(3, (bvA 24 130943)), (7, (bvA 24 131063)), (17, (bvA 24 262007))] ?_ ⟨?_, ?_, ?_, trivial⟩
      · kernel_rfl
      · simp [oe3, g1, g2, b1, b2, dwB]
        refine hC.weak d12 (Weak.keep ?_ ?_) <;> simp [g1, g2, b1, b2, dwB]
      · simp [oe7, g1, g2, b1, b2, dwB]
        refine hC.weak d22 (Weak.keep ?_ ?_) <;> simp [g1, g2, b1, b2, dwB]
      · simp [oe17, g1, g2, b1, b2, dwB]
        refine CallK.intro (kP G) (by simp) ?_
        refine hC.weak d31 (Weak.keep ?_ ?_) <;> simp [g1, g2, b1, b2, dwB]
    have d33 : C 10 (bvA 24 65399) ⟨[(0, .pv (.ptr bd 0)), (3, .pv (.ptr h.length 0)), (18, .pv (.ptr bd 3)), (22, .pv (.ptr bd 5)), (27, .pv (.seq false 1 (irow D.on))), (30, .pv (.agg [.ptr ba 0, .ptr bt 0, .ptr bw 0, .seq false 5 (D.a.rows.map roR), I64 D.a.size, I64 D.t.vars, .seq false 3 (D.t.rows.map enR), I64 D.t.dep, .seq false 1 (irow D.on), .seq false 1 (irow D.ats), BL true])), (31, .pv (.ptr h.length 1))], G⟩ := by
      refine hC.fork [(3, (bvA 24 65407)), (7, (bvA 24 65527)), (16, (bvA 24 130935))] ?_ ⟨?_, ?_, ?_, trivial⟩
      · kernel_rfl
      · simp [oe3, g1, g2, b1, b2, dwB]
        refine hC.weak d13 (Weak.keep ?_ ?_) <;> simp [g1, g2, b1, b2, dwB]
      · simp [oe7, g1, g2, b1, b2, dwB]
        refine hC.weak d23 (Weak.keep ?_ ?_) <;> simp [g1, g2, b1, b2, dwB]
      · simp [oe16, g1, g2, b1, b2, dwB]
        refine hC.weak d32 (Weak.keep ?_ ?_) <;> simp [g1, g2, b1, b2, dwB]
    have d34 : C 10 (bvA 24 114551) ⟨[(0, .pv (.ptr bd 0)), (3, .pv (.ptr h.length 0)), (18, .pv (.ptr bd 3)), (22, .pv (.ptr bd 5)), (27, .pv (.seq false 1 (irow D.on))), (29, .pv (.ptr bd 0)), (32, .pv (I64 n))], G⟩ := by
      refine hC.fork [(3, (bvA 24 114559)), (7, (bvA 24 114679)), (14, (bvA 24 130935))] ?_ ⟨?_, ?_, ?_, trivial⟩
      · kernel_rfl
      · simp [oe3, g1, g2, b1, b2, dwB]
        refine hC.weak d14 (Weak.keep ?_ ?_) <;> simp [g1, g2, b1, b2, dwB]
      · simp [oe7, g1, g2, b1, b2, dwB]
        refine hC.weak d24 (Weak.keep ?_ ?_) <;> simp [g1, g2, b1, b2, dwB]
      · simp [oe14, g1, g2, b1, b2, dwB]
        refine hC.weak d32 (Weak.keep ?_ ?_) <;> simp [g1, g2, b1, b2, dwB]
    have d35 : C 11 (bvA 24 49015) ⟨[(0, .pv (.ptr bd 0)), (3, .pv (.ptr h.length 0)), (18, .pv (.ptr bd 3)), (22, .pv (.ptr bd 5)), (27, .pv (.seq false 1 (irow D.on))), (29, .pv (.ptr bd 0)), (31, .pv (.ptr h.length 1))], G⟩ := by
      refine hC.fork [(3, (bvA 24 49023)), (7, (bvA 24 49143)), (14, (bvA 24 65399)), (16, (bvA 24 114551))] ?_ ⟨?_, ?_, ?_, ?_, trivial⟩
      · kernel_rfl
      · simp [oe3, g1, g2, b1, b2, dwB]
        refine hC.weak d15 (Weak.keep ?_ ?_) <;> simp [g1, g2, b1, b2, dwB]
      · simp [oe7, g1, g2, b1, b2, dwB]
        refine hC.weak d25 (Weak.keep ?_ ?_) <;> simp [g1, g2, b1, b2, dwB]
      · simp [oe14, g1, g2, b1, b2, dwB]
        refine hC.weak d33 (Weak.keep ?_ ?_) <;> simp [g1, g2, b1, b2, dwB]
      · simp [oe16, g1, g2, b1, b2, dwB]
        refine hC.weak d34 (Weak.keep ?_ ?_) <;> simp [g1, g2, b1, b2, dwB]
    have d36 : C 9 (bvA 24 259959) ⟨[(0, .pv (.ptr bd 0)), (3, .pv (.ptr h.length 0)), (18, .pv (.ptr bd 3)), (22, .pv (.ptr bd 5)), (26, .pv (.ptr bd 8)), (33, .pv (I64 k))], G⟩ := by
      refine hC.fork [(3, (bvA 24 259967)), (7, (bvA 24 260087)), (11, (bvA 24 262007))] ?_ ⟨?_, ?_, ?_, trivial⟩
      · kernel_rfl
      · simp [oe3, g1, g2, b1, b2, dwB]
        refine hC.weak d16 (Weak.keep ?_ ?_) <;> simp [g1, g2, b1, b2, dwB]
      · simp [oe7, g1, g2, b1, b2, dwB]
        refine hC.weak d26 (Weak.keep ?_ ?_) <;> simp [g1, g2, b1, b2, dwB]
      · simp [oe11, g1, g2, b1, b2, dwB]
        refine hC.weak d31 (Weak.keep ?_ ?_) <;> simp [g1, g2, b1, b2, dwB]
    have d37 : C 10 (bvA 24 128887) ⟨[(0, .pv (.ptr bd 0)), (3, .pv (.ptr h.length 0)), (18, .pv (.ptr bd 3)), (22, .pv (.ptr bd 5)), (26, .pv (.ptr bd 8)), (30, .pv (.agg [.ptr ba 0, .ptr bt 0, .ptr bw 0, .seq false 5 (D.a.rows.map roR), I64 D.a.size, I64 D.t.vars, .seq false 3 (D.t.rows.map enR), I64 D.t.dep, .seq false 1 (irow D.on), .seq false 1 (irow D.ats), BL true])), (32, .pv (I64 n))], G⟩ := by
      refine hC.fork [(3, (bvA 24 128895)), (7, (bvA 24 129015)), (11, (bvA 24 130935)), (17, (bvA 24 259959))] ?_ ⟨?_, ?_, ?_, ?_, trivial⟩
      · kernel_rfl
      · simp [oe3, g1, g2, b1, b2, dwB]
        refine hC.weak d17 (Weak.keep ?_ ?_) <;> simp [g1, g2, b1, b2, dwB]
      · simp [oe7, g1, g2, b1, b2, dwB]
        refine hC.weak d27 (Weak.keep ?_ ?_) <;> simp [g1, g2, b1, b2, dwB]
      · simp [oe11, g1, g2, b1, b2, dwB]
        refine hC.weak d32 (Weak.keep ?_ ?_) <;> simp [g1, g2, b1, b2, dwB]
      · simp [oe17, g1, g2, b1, b2, dwB]
        refine CallK.intro (kP G) (by simp) ?_
        refine hC.weak d36 (Weak.keep ?_ ?_) <;> simp [g1, g2, b1, b2, dwB]
    have d38 : C 11 (bvA 24 63351) ⟨[(0, .pv (.ptr bd 0)), (3, .pv (.ptr h.length 0)), (18, .pv (.ptr bd 3)), (22, .pv (.ptr bd 5)), (26, .pv (.ptr bd 8)), (30, .pv (.agg [.ptr ba 0, .ptr bt 0, .ptr bw 0, .seq false 5 (D.a.rows.map roR), I64 D.a.size, I64 D.t.vars, .seq false 3 (D.t.rows.map enR), I64 D.t.dep, .seq false 1 (irow D.on), .seq false 1 (irow D.ats), BL true])), (31, .pv (.ptr h.length 1))], G⟩ := by
      refine hC.fork [(3, (bvA 24 63359)), (7, (bvA 24 63479)), (11, (bvA 24 65399)), (16, (bvA 24 128887))] ?_ ⟨?_, ?_, ?_, ?_, trivial⟩
      · kernel_rfl
      · simp [oe3, g1, g2, b1, b2, dwB]
        refine hC.weak d18 (Weak.keep ?_ ?_) <;> simp [g1, g2, b1, b2, dwB]
      · simp [oe7, g1, g2, b1, b2, dwB]
        refine hC.weak d28 (Weak.keep ?_ ?_) <;> simp [g1, g2, b1, b2, dwB]
      · simp [oe11, g1, g2, b1, b2, dwB]
        refine hC.weak d33 (Weak.keep ?_ ?_) <;> simp [g1, g2, b1, b2, dwB]
      · simp [oe16, g1, g2, b1, b2, dwB]
        refine hC.weak d37 (Weak.keep ?_ ?_) <;> simp [g1, g2, b1, b2, dwB]
    have d39 : C 11 (bvA 24 112503) ⟨[(0, .pv (.ptr bd 0)), (3, .pv (.ptr h.length 0)), (18, .pv (.ptr bd 3)), (22, .pv (.ptr bd 5)), (26, .pv (.ptr bd 8)), (29, .pv (.ptr bd 0)), (32, .pv (I64 n))], G⟩ := by
      refine hC.fork [(3, (bvA 24 112511)), (7, (bvA 24 112631)), (11, (bvA 24 114551)), (14, (bvA 24 128887))] ?_ ⟨?_, ?_, ?_, ?_, trivial⟩
      · kernel_rfl
      · simp [oe3, g1, g2, b1, b2, dwB]
        refine hC.weak d19 (Weak.keep ?_ ?_) <;> simp [g1, g2, b1, b2, dwB]
      · simp [oe7, g1, g2, b1, b2, dwB]
        refine hC.weak d29 (Weak.keep ?_ ?_) <;> simp [g1, g2, b1, b2, dwB]
      · simp [oe11, g1, g2, b1, b2, dwB]
        refine hC.weak d34 (Weak.keep ?_ ?_) <;> simp [g1, g2, b1, b2, dwB]
      · simp [oe14, g1, g2, b1, b2, dwB]
        refine hC.weak d37 (Weak.keep ?_ ?_) <;> simp [g1, g2, b1, b2, dwB]
    have d40 : C 12 (bvA 24 46967) ⟨[(0, .pv (.ptr bd 0)), (3, .pv (.ptr h.length 0)), (18, .pv (.ptr bd 3)), (22, .pv (.ptr bd 5)), (26, .pv (.ptr bd 8)), (29, .pv (.ptr bd 0)), (31, .pv (.ptr h.length 1))], G⟩ := by
      refine hC.fork [(3, (bvA 24 46975)), (7, (bvA 24 47095)), (11, (bvA 24 49015)), (14, (bvA 24 63351)), (16, (bvA 24 112503))] ?_ ⟨?_, ?_, ?_, ?_, ?_, trivial⟩
      · kernel_rfl
      · simp [oe3, g1, g2, b1, b2, dwB]
        refine hC.weak d20 (Weak.keep ?_ ?_) <;> simp [g1, g2, b1, b2, dwB]
      · simp [oe7, g1, g2, b1, b2, dwB]
        refine hC.weak d30 (Weak.keep ?_ ?_) <;> simp [g1, g2, b1, b2, dwB]
      · simp [oe11, g1, g2, b1, b2, dwB]
        refine hC.weak d35 (Weak.keep ?_ ?_) <;> simp [g1, g2, b1, b2, dwB]
      · simp [oe14, g1, g2, b1, b2, dwB]
        refine hC.weak d38 (Weak.keep ?_ ?_) <;> simp [g1, g2, b1, b2, dwB]
      · simp [oe16, g1, g2, b1, b2, dwB]
        refine hC.weak d39 (Weak.keep ?_ ?_) <;> simp [g1, g2, b1, b2, dwB]
    refine hC.take 0 (bvA 24 1) ?_ ?_
    · kernel_rfl
    simp [oe0, g1, g2, b1, b2, dwB]
    refine hC.take 1 (bvA 24 3) ?_ ?_
    · kernel_rfl
    simp [oe1, g1, g2, b1, b2, dwB]
    refine hC.take 2 (bvA 24 7) ?_ ?_
    · kernel_rfl
    simp [oe2, g1, g2, b1, b2, dwB]
    refine hC.take 4 (bvA 24 23) ?_ ?_
    · kernel_rfl
    simp [oe4, g1, g2, b1, b2, dwB]
    refine hC.take 5 (bvA 24 55) ?_ ?_
    · kernel_rfl
    simp [oe5, g1, g2, b1, b2, dwB]
    refine hC.take 6 (bvA 24 119) ?_ ?_
    · kernel_rfl
    simp [oe6, g1, g2, b1, b2, dwB]
    refine hC.take 8 (bvA 24 375) ?_ ?_
    · kernel_rfl
    simp [oe8, g1, g2, b1, b2, dwB]
    refine hC.take 9 (bvA 24 887) ?_ ?_
    · kernel_rfl
    simp [oe9, g1, g2, b1, b2, dwB]
    refine hC.take 10 (bvA 24 1911) ?_ ?_
    · kernel_rfl
    simp [oe10, g1, g2, b1, b2, dwB]
    refine hC.take 12 (bvA 24 6007) ?_ ?_
    · kernel_rfl
    simp [oe12, g1, g2, b1, b2, dwB]
    refine hC.take 13 (bvA 24 14199) ?_ ?_
    · kernel_rfl
    simp [oe13, g1, g2, b1, b2, dwB]
    refine hC.take 15 (bvA 24 46967) ?_ ?_
    · kernel_rfl
    simp [oe15, g1, g2, b1, b2, dwB]
    refine hC.weak d40 (Weak.keep ?_ ?_) <;> simp [g1, g2, b1, b2, dwB]
  rintro _ _
  obtain ⟨G2, hG2⟩ : ∃ G2, G2 = G.set bd (dwB ba bt bw ⟨D.A, D.T, D.S, D.a, D.t, RL, D.ats⟩) := ⟨_, rfl⟩
  simp [g1, g2, dwB]
  simp only [dwB] at hG2
  rw [← hG2]
  have L0 : LayW G bw ba bt mp mb D.A D.T D.S := by rw [hG]; exact L.lay.app _
  have L2 : LayW G2 bw ba bt mp mb D.A D.T D.S := by rw [hG2]; exact L0.other _ _ L.nd L.na
  have E2 : Ext h G2 (DomD bd bw bt mp mb) (DomD bd bw bt mp mb) := by rw [hG2, hG]; exact (Ext.app _ _ _).trans (Ext.set bd _ (.inl rfl))
  have g3 : bd < G2.length := by rw [hG2]; simpa using g1
  have g4 : G2[bd]'g3 = dwB ba bt bw ⟨D.A, D.T, D.S, D.a, D.t, RL, D.ats⟩ := by simp [hG2, dwB]
  have hne : bd ≠ h.length := by omega
  have g5 : h.length < G2.length := by rw [hG2]; simpa using b1
  have g6 : G2[h.length]'g5 = [SV.pv (I64 0), SV.pv (I64 n)] := by
    simp only [hG2]
    rw [List.getElem_set_ne hne, b2]
  have kP2 : ∀ (H : List (List SV)), APure Tryz.prog 41 [dwC H 2 ba bt bw ⟨D.A, D.T, D.S, D.a, D.t, RL, D.ats⟩, I64 n] fun r => r = SV.pv (I64 k) := fun H => by
    rw [← hk0]; exact wplace_ok H 2 ba bt bw ⟨D.A, D.T, D.S, D.a, D.t, RL, D.ats⟩ n hat
  have kA := wattach_ok G2 bw ba bt mp mb D.A D.T D.S L2 hk hl hm hTl k
  refine AAnyD.one dw6Sch (by kernel_rfl) ?_
  simp [dw6Sch, g3, g4, g5, g6, dwB]
  and_intros
  all_goals
    refine CallK.intro (kP2 _) (by simp) ?_
    simp [g3, g4, g5, g6, dwB]
  all_goals try and_intros
  all_goals
    refine CallB.intro kA (by simp) ?_
    rintro _ H3 ⟨rfl, mp3, L3, E3⟩
    simp
    have g7 : H3[bd]? = some (dwB ba bt bw ⟨D.A, D.T, D.S, D.a, D.t, RL, D.ats⟩) := by
      rw [E3.same bd g3 L.nd, List.getElem?_eq_getElem g3, g4]
    refine ⟨mp3, ⟨L3, g7, fun hd => L.nd (E3.sub bd g3 hd), L.na⟩, E2.trans (E3.wide bd)⟩
def dw8Sch : Sch :=
  let s0 : Sch := .fork [(10, .take 11 (.take 12 (.take 13 (.take 14 (.take 15 .done)))))]
  let s1 : Sch := .fork [(9, s0)]
  let s2 : Sch := .fork [(8, s1)]
  let s3 : Sch := .fork [(6, s1)]
  let s4 : Sch := .fork [(6, s2), (8, s3)]
  let s5 : Sch := .fork [(3, s0)]
  let s6 : Sch := .fork [(3, s1), (9, s5)]
  let s7 : Sch := .fork [(3, s2), (8, s6)]
  let s8 : Sch := .fork [(3, s3), (6, s6)]
  let s9 : Sch := .fork [(3, s4), (6, s7), (8, s8)]
  .take 0 (.take 1 (.take 2 (.take 4 (.take 5 (.take 7 s9)))))
def dw10Sch : Sch :=
  let s0 : Sch := .fork [(10, .take 12 (.take 13 .done))]
  let s1 : Sch := .fork [(9, s0)]
  let s2 : Sch := .fork [(8, s1)]
  let s3 : Sch := .fork [(6, s1)]
  let s4 : Sch := .fork [(6, s2), (8, s3)]
  let s5 : Sch := .fork [(3, s0)]
  let s6 : Sch := .fork [(3, s1), (9, s5)]
  let s7 : Sch := .fork [(3, s2), (8, s6)]
  let s8 : Sch := .fork [(3, s3), (6, s6)]
  let s9 : Sch := .fork [(3, s4), (6, s7), (8, s8)]
  .take 0 (.take 1 (.take 2 (.take 4 (.take 5 (.take 7 (.take 11 s9))))))
set_option maxRecDepth 16000 in
theorem wdoD_ok (h : List (List SV)) (bd ba bt bw : Nat) (mp : List (Int × Nat)) (mb : List (Int × By)) (D : DW) (L : LayD h bd ba bt bw mp mb D) (n : Int) (hon : D.on.length ≤ 1000000) (hat : D.ats.length ≤ 1000000) (hn : (D.S.prs.map (·.1)).Nodup)
    (hx : ∀ p, lk D.S.prs (plaW D.ats n) = some p → (p.x ≠ 0 → ∃ zs, lk D.S.byl p.x = some zs ∧ zs ≠ []) ∧ (p.y ≠ 0 → ∃ zs, lk (forB D.S.byl (plaW D.ats n) p.x) p.y = some zs ∧ zs ≠ [])) (hz : ∀ l zs, lk D.S.byl l = some zs → zs.length ≤ 1000000) :
    AMut Tryz.prog 9 [.ptr bd 0, .agg [I64 1, I64 n]] h (fun r h' => r = .pv (BL (decide (detE D.S (plaW D.ats n) = rdetE D.on (plaW D.ats n)))) ∧ ∃ mp' mb', LayD h' bd ba bt bw mp' mb' ⟨D.A, D.T, detS D.S (plaW D.ats n), D.a, D.t, rdetL D.on (plaW D.ats n), D.ats⟩ ∧ Ext h h' (DomD bd bw bt mp mb) (DomD bd bw bt mp' mb')) := by
  refine amutX [8, 10] [.tmp 4] hmo Tryz.func9 (by kernel_rfl) rfl rfl (by kernel_rfl) (Nat.le_of_ble_eq_true rfl) ?_
  obtain ⟨d1, d2⟩ := List.getElem?_eq_some_iff.1 L.d
  have kP := fun H => wplace_ok H 2 ba bt bw D n hat
  have kR := fun H => rdetach_ok H D.on (plaW D.ats n) hon
  obtain ⟨G, hG⟩ : ∃ G, G = h ++ [[SV.pv (I64 1), SV.pv (I64 n)]] := ⟨_, rfl⟩
  simp
  rw [← hG]
  have g1 : bd < G.length := by rw [hG]; simp; omega
  have g2 : G[bd]'g1 = dwB ba bt bw D := by simp only [hG]; rw [List.getElem_append_left d1, d2]
  have b1 : h.length < G.length := by rw [hG]; simp
  have b2 : G[h.length]'b1 = [SV.pv (I64 1), SV.pv (I64 n)] := by simp [hG]
  generalize hk0 : plaW D.ats n = k at *
  generalize rdetE D.on k = RE at *
  generalize rdetL D.on k = RL at *
  refine AAnyD.meet dw8Sch ⟨[(0, .pv (.ptr bd 0)), (3, .pv (.ptr h.length 0)), (7, .pv (.seq false 1 (irow RL))), (8, .pv (I64 RE))], G⟩ (by kernel_rfl) ?_ ?_
  · simp [dw8Sch, g1, g2, b1, b2, dwB]
    and_intros
    all_goals
      refine CallK.intro (kP _) (by simp) ?_
      simp [g1, g2, b1, b2, dwB]
    all_goals try and_intros
    all_goals
      refine CallK.introM (kR _) (by simp) ?_
      rintro _ _ ⟨rfl, rfl⟩
      simp
      exact Weak.keep (by simp) rfl
  obtain ⟨G2, hG2⟩ : ∃ G2, G2 = G.set bd (dwB ba bt bw ⟨D.A, D.T, D.S, D.a, D.t, RL, D.ats⟩) := ⟨_, rfl⟩
  simp [g1, g2, dwB]
  simp only [dwB] at hG2
  rw [← hG2]
  have L0 : LayW G bw ba bt mp mb D.A D.T D.S := by rw [hG]; exact L.lay.app _
  have L2 : LayW G2 bw ba bt mp mb D.A D.T D.S := by rw [hG2]; exact L0.other _ _ L.nd L.na
  have E2 : Ext h G2 (DomD bd bw bt mp mb) (DomD bd bw bt mp mb) := by rw [hG2, hG]; exact (Ext.app _ _ _).trans (Ext.set bd _ (.inl rfl))
  have g3 : bd < G2.length := by rw [hG2]; simpa using g1
  have g4 : G2[bd]'g3 = dwB ba bt bw ⟨D.A, D.T, D.S, D.a, D.t, RL, D.ats⟩ := by simp [hG2, dwB]
  have hne : bd ≠ h.length := by omega
  have g5 : h.length < G2.length := by rw [hG2]; simpa using b1
  have g6 : G2[h.length]'g5 = [SV.pv (I64 1), SV.pv (I64 n)] := by
    simp only [hG2]
    rw [List.getElem_set_ne hne, b2]
  have kP2 : ∀ (H : List (List SV)), APure Tryz.prog 41 [dwC H 2 ba bt bw ⟨D.A, D.T, D.S, D.a, D.t, RL, D.ats⟩, I64 n] fun r => r = SV.pv (I64 k) := fun H => by
    rw [← hk0]; exact wplace_ok H 2 ba bt bw ⟨D.A, D.T, D.S, D.a, D.t, RL, D.ats⟩ n hat
  have kA := wdetach_ok G2 bw ba bt mp mb D.A D.T D.S L2 hn k hx hz
  refine AAnyD.one dw10Sch (by kernel_rfl) ?_
  simp [dw10Sch, g3, g4, g5, g6, dwB]
  and_intros
  all_goals
    refine CallK.intro (kP2 _) (by simp) ?_
    simp [g3, g4, g5, g6, dwB]
  all_goals try and_intros
  all_goals
    refine CallB.intro kA (by simp) ?_
    rintro _ H3 ⟨rfl, mp3, mb3, L3, E3⟩
    simp
    have g7 : H3[bd]? = some (dwB ba bt bw ⟨D.A, D.T, D.S, D.a, D.t, RL, D.ats⟩) := by
      rw [E3.same bd g3 L.nd, List.getElem?_eq_getElem g3, g4]
    refine ⟨mp3, mb3, ⟨L3, g7, fun hd => L.nd (E3.sub bd g3 hd), L.na⟩, E2.trans (E3.wide bd)⟩
theorem sortZ_of {l l' : List Int} (h : l.Perm l') (hs : l'.Pairwise (· ≤ ·)) : sortZ l = l' := by
  refine List.Perm.eq_of_pairwise (le := (· ≤ ·)) (fun a b _ _ h1 h2 => Int.le_antisymm h1 h2) (sortZ_pairwise l) hs ?_
  unfold sortZ
  exact (List.mergeSort_perm l _).trans h
theorem RelA.arok {A : Ar} {a : RA} (h : RelA A a) : ArOk A := fun q hq => by
  obtain ⟨x, hx, e⟩ := h.is q hq
  obtain ⟨p, e1, e2, _⟩ := h.rows x hx
  exact ⟨p, x.lits.length, by rw [← e, e1], e2⟩
theorem mem_keys {α : Type} : ∀ {l : List (Int × α)} {k : Int}, (lk l k).isSome = true ↔ k ∈ l.map (·.1)
  | [], k => by simp [lk]
  | (j, x) :: l, k => by
    rw [lk, List.map_cons, List.mem_cons]
    by_cases e : j = k
    · rw [if_pos e]; simp [e]
    · rw [if_neg e, mem_keys]
      constructor
      · exact fun h => .inr h
      · rintro (h | h)
        · exact absurd h.symm e
        · exact h
def insR (k : Int) : List Int → List Int
  | [] => [k]
  | x :: xs => if k < x then k :: x :: xs else x :: insR k xs
theorem insF_true (k : Int) : ∀ (l o : List Int), l.foldl (insF k) (o, true) = (o ++ l, true)
  | [], o => by simp
  | x :: l, o => by
    have e : insF k (o, true) x = (o ++ [x], true) := by unfold insF; rw [if_neg (by simp)]
    rw [List.foldl_cons, e, insF_true k l, List.append_assoc]; rfl
theorem insF_false (k : Int) : ∀ (l o : List Int), (if (l.foldl (insF k) (o, false)).2 = true then (l.foldl (insF k) (o, false)).1 else (l.foldl (insF k) (o, false)).1 ++ [k]) = o ++ insR k l
  | [], o => by simp [insR]
  | x :: l, o => by
    rw [List.foldl_cons, insR]
    by_cases c : k < x
    · have e : insF k (o, false) x = (o ++ [k] ++ [x], true) := by unfold insF; rw [if_pos ⟨c, rfl⟩]
      rw [e, insF_true, if_pos c]
      simp
    · have e : insF k (o, false) x = (o ++ [x], false) := by unfold insF; rw [if_neg (fun h => c h.1)]
      rw [e, insF_false k l, if_neg c, List.append_assoc]; rfl
theorem insW_is (l : List Int) (k : Int) : insW l k = insR k l := by
  unfold insW insT
  rw [List.take_length]
  have := insF_false k l []
  rw [List.nil_append] at this
  exact this
theorem insR_perm (k : Int) : ∀ l : List Int, (insR k l).Perm (k :: l)
  | [] => List.Perm.refl _
  | x :: l => by
    rw [insR]
    split
    · exact List.Perm.refl _
    · exact ((insR_perm k l).cons x).trans (List.Perm.swap k x l)
theorem insR_rise (k : Int) : ∀ {l : List Int}, l.Pairwise (· ≤ ·) → (insR k l).Pairwise (· ≤ ·)
  | [], _ => by simp [insR]
  | x :: l, h => by
    rw [insR]
    have h' := List.pairwise_cons.1 h
    split
    · rename_i c
      refine List.pairwise_cons.2 ⟨fun y hy => ?_, h⟩
      rcases List.mem_cons.1 hy with rfl | hy
      · omega
      · have := h'.1 y hy; omega
    · rename_i c
      refine List.pairwise_cons.2 ⟨fun y hy => ?_, insR_rise k h'.2⟩
      rcases List.mem_cons.1 ((insR_perm k l).mem_iff.1 hy) with rfl | hy
      · omega
      · exact h'.1 y hy
theorem dl_erase {α : Type} : ∀ (l : List (Int × α)) (k : Int), (dl l k).map (·.1) = (l.map (·.1)).erase k
  | [], _ => rfl
  | (j, x) :: l, k => by
    rw [dl, List.map_cons, List.erase_cons]
    by_cases e : j = k
    · rw [if_pos e, if_pos (by simpa using e)]
    · rw [if_neg e, if_neg (by simpa using e), List.map_cons, dl_erase l k]
theorem remW_erase {l : List Int} (h : l.Nodup) (k : Int) : remW l k = l.erase k := by
  rw [h.erase_eq_filter]
  unfold remW
  congr 1
  funext x
  by_cases e : x = k <;> simp [e]
theorem sortZ_erase (l : List Int) (k : Int) : sortZ (l.erase k) = (sortZ l).erase k := by
  refine sortZ_of ?_ ((sortZ_pairwise l).sublist List.erase_sublist)
  refine List.Perm.erase k ?_
  unfold sortZ
  exact (List.mergeSort_perm l _).symm
theorem sortZ_nodup {l : List Int} (h : l.Nodup) : (sortZ l).Nodup := by
  unfold sortZ
  exact (List.mergeSort_perm l _).nodup_iff.2 h
structure RelP (A : Ar) (a : RA) : Prop extends RelA A a where
  pos : ∀ x ∈ a.rows, 1 ≤ x.id
theorem RelP.id0 {A : Ar} {a : RA} (h : RelP A a) (q : Int) : idA A q = 0 ↔ isA A q = false := by
  unfold idA
  cases hq : isA A q
  · simp
  · obtain ⟨x, hx, e⟩ := h.is q hq
    obtain ⟨p, e1, _, _, _, e5⟩ := h.rows x hx
    have := h.pos x hx
    have hp : q.toNat = p := by omega
    rw [if_pos rfl, hp, e5]
    constructor
    · intro h0; omega
    · intro h0; cases h0
theorem att_same {A : Ar} {a : RA} (h : RelP A a) {T : Tr} {v : Int} (hv : (T.marks.length : Int) - 1 = v) {S : WS} {on : List Int} (hon : sortZ (S.prs.map (·.1)) = on) (k : Int) : attE A T S k = rattE a v on k := by
  unfold attE rattE
  have hm : (lk S.prs k).isSome = true ↔ k ∈ on := by rw [mem_keys, ← hon, mem_sortZ]
  rw [hv]
  cases hq : isA A k
  · rw [if_pos ((h.id0 k).2 hq), if_pos ((findA_is h.toRelA k).2 hq)]
  · obtain ⟨f1, f2⟩ := (findA_is h.toRelA k).1 hq
    have hne : ¬ idA A k = 0 := fun e => by rw [h.id0 k] at e; rw [hq] at e; cases e
    rw [if_neg hne, if_neg (show ¬ findA a k < 0 by omega)]
    have f2' : (a.rows.getD (findA a k).toNat default).lits = litsA A k := by
      rw [← f2]; unfold litsD; simp [f1]
    rw [f2']
    by_cases c : k ∈ on
    · rw [if_pos c, if_pos (hm.2 c)]
    · rw [if_neg c, if_neg (fun e => c (hm.1 e))]
structure PlayOk (D : DW) : Prop where
  rel : RelP D.A D.a
  len : (D.T.marks.length : Int) - 1 = D.t.vars
  on : sortZ (D.S.prs.map (·.1)) = D.on
  nd : (D.S.prs.map (·.1)).Nodup
  zer : ∀ k p, lk D.S.prs k = some p → p.x = 0 ∧ p.y = 0
  byl : D.S.byl = []
theorem PlayOk.att {D : DW} (h : PlayOk D) (k : Int) : attE D.A D.T D.S k = rattE D.a D.t.vars D.on k := att_same h.rel h.len h.on k
theorem PlayOk.attK {D : DW} (h : PlayOk D) (k : Int) : PlayOk ⟨D.A, D.T, attS D.A D.T D.S k, D.a, D.t, rattL D.a D.t.vars D.on k, D.ats⟩ := by
  have e := h.att k
  unfold attS rattL
  rw [e]
  by_cases c : rattE D.a D.t.vars D.on k = 0
  rotate_left
  · rw [if_neg c, if_neg c]; exact ⟨h.rel, h.len, h.on, h.nd, h.zer, h.byl⟩
  rw [if_pos c, if_pos c]
  have hno : (lk D.S.prs k).isSome = false := by
    rw [← e] at c
    unfold attE at c
    split at c
    · omega
    · split at c
      · omega
      · rename_i hn; simpa using hn
  have hnk : k ∉ D.S.prs.map (·.1) := fun hm => by rw [mem_keys.2 hm] at hno; cases hno
  have hfr : pt D.S.prs k ⟨litsA D.A k, 0, 0⟩ = D.S.prs ++ [(k, ⟨litsA D.A k, 0, 0⟩)] := pt_fresh fun q hq e => hnk (List.mem_map.2 ⟨q, hq, e⟩)
  refine ⟨h.rel, h.len, ?_, ?_, ?_, h.byl⟩
  · show sortZ ((pt D.S.prs k _).map (·.1)) = insW D.on k
    rw [hfr, insW_is, ← h.on]
    refine sortZ_of ?_ (insR_rise k (sortZ_pairwise _))
    rw [List.map_append]
    refine List.perm_append_comm.trans ?_
    refine List.Perm.trans ?_ (insR_perm k _).symm
    refine List.Perm.cons k ?_
    unfold sortZ
    exact (List.mergeSort_perm _ _).symm
  · show ((pt D.S.prs k _).map (·.1)).Nodup
    exact pt_nodupT _ _ _ h.nd
  · intro k' p hp
    have hp : lk (pt D.S.prs k ⟨litsA D.A k, 0, 0⟩) k' = some p := hp
    rw [lk_pt] at hp
    split at hp
    · cases hp; exact ⟨rfl, rfl⟩
    · exact h.zer k' p hp
theorem PlayOk.det {D : DW} (h : PlayOk D) (k : Int) : detE D.S k = rdetE D.on k := by
  unfold detE rdetE
  have hm : (lk D.S.prs k).isSome = true ↔ k ∈ D.on := by rw [mem_keys, ← h.on, mem_sortZ]
  by_cases c : k ∈ D.on
  · rw [if_pos c, if_pos (hm.2 c)]
  · rw [if_neg c, if_neg (fun e => c (hm.1 e))]
theorem PlayOk.detK {D : DW} (h : PlayOk D) (k : Int) : PlayOk ⟨D.A, D.T, detS D.S k, D.a, D.t, rdetL D.on k, D.ats⟩ := by
  have hm : (lk D.S.prs k).isSome = true ↔ k ∈ D.on := by rw [mem_keys, ← h.on, mem_sortZ]
  unfold detS rdetL
  cases hp : lk D.S.prs k with
  | none =>
    rw [hp] at hm
    rw [if_neg (fun e => by have := hm.2 e; cases this)]
    exact ⟨h.rel, h.len, h.on, h.nd, h.zer, h.byl⟩
  | some p =>
    rw [hp] at hm
    rw [if_pos (hm.1 rfl)]
    obtain ⟨z1, z2⟩ := h.zer k p hp
    have hk : (pt D.S.prs k ⟨p.lits, 0, 0⟩).map (·.1) = D.S.prs.map (·.1) := pt_keepW _ hp
    have hn : ((pt D.S.prs k ⟨p.lits, 0, 0⟩).map (·.1)).Nodup := by rw [hk]; exact h.nd
    refine ⟨h.rel, h.len, ?_, ?_, ?_, ?_⟩
    · show sortZ ((dl (pt D.S.prs k _) k).map (·.1)) = remW D.on k
      rw [dl_erase, hk, sortZ_erase, h.on, remW_erase]
      rw [← h.on]; exact sortZ_nodup h.nd
    · show ((dl (pt D.S.prs k _) k).map (·.1)).Nodup
      rw [dl_erase, hk]; exact h.nd.erase k
    · intro k' p' hp'
      have hp' : lk (dl (pt D.S.prs k ⟨p.lits, 0, 0⟩) k) k' = some p' := hp'
      rw [lk_dlN hn] at hp'
      split at hp'
      · cases hp'
      · rename_i hne
        rw [lk_pt, if_neg (fun e => hne e.symm)] at hp'
        exact h.zer k' p' hp'
    · show forB (forB D.S.byl k p.x) k p.y = []
      rw [z1, z2, forB, if_pos rfl, forB, if_pos rfl]
      exact h.byl
theorem PlayOk.hx {D : DW} (h : PlayOk D) (k : Int) : ∀ p, lk D.S.prs k = some p → (p.x ≠ 0 → ∃ zs, lk D.S.byl p.x = some zs ∧ zs ≠ []) ∧ (p.y ≠ 0 → ∃ zs, lk (forB D.S.byl k p.x) p.y = some zs ∧ zs ≠ []) := fun p hp =>
  ⟨fun e => absurd (h.zer k p hp).1 e, fun e => absurd (h.zer k p hp).2 e⟩
theorem PlayOk.hz {D : DW} (h : PlayOk D) : ∀ l zs, lk D.S.byl l = some zs → zs.length ≤ 1000000 := fun l zs hz => by rw [h.byl] at hz; cases hz
theorem putJ_relP {cs : List (List Int)} (hc : fewC cs) : ∀ i, i ≤ cs.length → RelP (putJ cs i).A (putJ cs i).a
  | 0, _ => ⟨relA_new, by simp [putJ]⟩
  | i + 1, hi => by
    have ih := putJ_relP hc i (by omega)
    have hok := putL_ok hc (i + 1) hi
    obtain ⟨e1, e2⟩ := putJ_L cs (i + 1)
    refine ⟨by rw [e1, e2]; exact hok.rel, ?_⟩
    intro x hx
    rw [putJ, putJ1] at hx
    have hx : x ∈ (putRA (putJ cs i).a ((i + 1 : Nat) : Int) (cs.getD i [])).rows := hx
    unfold putRA at hx
    split at hx
    · rcases List.mem_append.1 hx with hx | hx
      · exact ih.pos x hx
      · simp at hx; rw [hx]; simp only; omega
    · exact ih.pos x hx
theorem begW_play {cs : List (List Int)} (hc : fewC cs) : PlayOk (begW cs) where
  rel := putJ_relP hc _ (Nat.le_refl _)
  len := rfl
  on := sortZ_of (List.Perm.refl _) List.Pairwise.nil
  nd := by simp [begW]
  zer := fun k p hp => by cases hp
  byl := rfl
deriving instance DecidableEq for Pr
deriving instance DecidableEq for WS
deriving instance DecidableEq for Mk
deriving instance DecidableEq for Tr
deriving instance DecidableEq for Ar
def a14A1 : Ar := putAr ⟨[], []⟩ 1 [1, 2]
def a14A : Ar := putAr a14A1 2 [-1, 3]
def a14T0 : Tr := newT 3
def a14T1 : Tr := decT a14T0 (-2)
def a14T2 : Tr := impT a14T1 1 0
def a14T3 : Tr := impT a14T2 3 5
def a14S0 : WS := ⟨[], [], [], 0, []⟩
def a14S1 : WS := ⟨[(0, ⟨[1, 2], 0, 0⟩)], [], [(0, 1)], 0, []⟩
def a14S2 : WS := ⟨[(0, ⟨[1, 2], 0, 0⟩), (5, ⟨[-1, 3], 0, 0⟩)], [], [(0, 1), (5, 1)], 0, []⟩
def a14S3 : WS := ⟨[(0, ⟨[1, 2], 1, 2⟩), (5, ⟨[-1, 3], 0, 0⟩)], [(1, [0]), (2, [0])], [(5, 1)], 0, []⟩
def a14S4 : WS := ⟨[(0, ⟨[1, 2], 1, 2⟩), (5, ⟨[-1, 3], -1, 3⟩)], [(1, [0]), (2, [0]), (-1, [5]), (3, [5])], [], 0, []⟩
def a14S5 : WS := ⟨[(0, ⟨[1, 2], 0, 0⟩), (5, ⟨[-1, 3], -1, 3⟩)], [(1, []), (2, []), (-1, [5]), (3, [5])], [(0, 1)], 0, []⟩
def a14S6 : WS := ⟨[(0, ⟨[1, 2], 0, 0⟩), (5, ⟨[-1, 3], 0, 0⟩)], [(1, []), (2, []), (-1, []), (3, [])], [(0, 1), (5, 1)], 1, []⟩
def wsH (S : WS) (n : Int) : WS := ⟨S.prs, S.byl, S.late, n, S.seen⟩
theorem a14_A : a14A = ⟨[1, 2, 0, 1, 2, 2, 2, 0, -1, 3], [(0, 1), (5, 2)]⟩ := by decide +kernel
theorem a14_put1 : putEA 1 [1, 2] = 0 ∧ putEA 2 [-1, 3] = 0 ∧ a14A1.row.length = 5 := by decide +kernel
theorem a14_att1 : attE a14A a14T0 a14S0 0 = 0 ∧ attS a14A a14T0 a14S0 0 = a14S1 := by decide +kernel
theorem a14_att2 : attE a14A a14T0 a14S1 5 = 0 ∧ attS a14A a14T0 a14S1 5 = a14S2 := by decide +kernel
theorem a14_att3 : attE a14A a14T0 a14S2 0 = 21 ∧ attS a14A a14T0 a14S2 0 = a14S2 := by decide +kernel
theorem a14_att4 : attE a14A a14T0 a14S2 99 = 20 ∧ attS a14A a14T0 a14S2 99 = a14S2 := by decide +kernel
theorem a14_sort : sortZ (a14S2.late.map (·.1)) = [0, 5] := sortZ_of (List.Perm.refl _) (by simp [a14S2])
theorem a14_fre1 : freB a14T0 ⟨[1, 2], 0, 0⟩ = false ∧ freS a14S2 a14T0 0 ⟨[1, 2], 0, 0⟩ = a14S3 ∧ freT a14T0 0 ⟨[1, 2], 0, 0⟩ = a14T0 := by decide +kernel
theorem a14_fre2 : freB a14T0 ⟨[-1, 3], 0, 0⟩ = false ∧ freS a14S3 a14T0 5 ⟨[-1, 3], 0, 0⟩ = a14S4 ∧ freT a14T0 5 ⟨[-1, 3], 0, 0⟩ = a14T0 := by decide +kernel
theorem a14_fai1 : faiS a14S4 a14T1 2 = (a14S5, a14T2, -1) := by decide +kernel
theorem a14_fai2 : faiS (wsH a14S5 1) a14T2 (-1) = (a14S6, a14T3, -1) := by decide +kernel
theorem a14_fai3 : faiS (wsH a14S6 2) a14T3 (-3) = (wsH a14S6 2, a14T3, -1) := by decide +kernel
theorem a14_lits : a14T0.lits = [] ∧ a14T1.lits = [-2] ∧ a14T2.lits = [-2, 1] ∧ a14T3.lits = [-2, 1, 3] := by decide +kernel
theorem a14_neg : negL a14T1 a14S4 = 2 ∧ negL a14T2 (wsH a14S5 1) = -1 ∧ negL a14T3 (wsH a14S6 2) = -3 := by decide +kernel
theorem a14_up : upH a14S5 = wsH a14S5 1 ∧ upH a14S6 = wsH a14S6 2 ∧ upH (wsH a14S6 2) = wsH a14S6 3 := by decide +kernel
theorem lk_bound {l : List (Int × List Int)} {n : Nat} (h : ∀ q ∈ l, q.2.length ≤ n) : ∀ k zs, lk l k = some zs → zs.length ≤ n := fun k zs hz => h _ (lk_in hz)
def a14J (S : WS) (T : Tr) : Prop := (S = a14S4 ∧ T = a14T1) ∨ (S = wsH a14S5 1 ∧ T = a14T2) ∨ (S = wsH a14S6 2 ∧ T = a14T3) ∨ (S = wsH a14S6 3 ∧ T = a14T3)
theorem a14_ok : a14T0.ok ∧ a14T1.ok ∧ a14T2.ok ∧ a14T3.ok := by
  refine ⟨⟨?_, ?_⟩, ⟨?_, ?_⟩, ⟨?_, ?_⟩, ⟨?_, ?_⟩⟩ <;> decide +kernel
theorem a14_one {S : WS} {T : Tr} {l k : Int} {p : Pr} (h : StepOk S T l k p) : ∃ Jf : Nat → WS → Tr → Prop, Jf 0 S T ∧ ∀ i S' T', Jf i S' T' → ∀ (hi : i < [k].length), ∃ p, StepOk S' T' l [k][i] p ∧ (wstB T' l p = false → Jf (i + 1) (wstS S' T' l [k][i] p) (wstT T' l [k][i] p)) := by
  refine ⟨fun i S' T' => i = 0 → S' = S ∧ T' = T, fun _ => ⟨rfl, rfl⟩, fun i S' T' hq hi => ?_⟩
  have h0 : i = 0 := by simpa using hi
  subst h0
  obtain ⟨rfl, rfl⟩ := hq rfl
  exact ⟨p, h, fun _ h => by cases h⟩
theorem a14_st1 : StepOk a14S4 a14T1 2 0 ⟨[1, 2], 1, 2⟩ where
  hp := by decide +kernel
  l0 := by decide
  two := .inr rfl
  lits := by decide
  byl := ⟨[0], by decide +kernel, by decide⟩
  hx := fun _ => ⟨[0], by decide +kernel, by decide⟩
  hy := fun _ => ⟨[0], by decide +kernel, by decide⟩
  hz := lk_bound (by simp [a14S4])
  ok := a14_ok.2.1
  tl := by decide +kernel
theorem a14_st2 : StepOk (wsH a14S5 1) a14T2 (-1) 5 ⟨[-1, 3], -1, 3⟩ where
  hp := by decide +kernel
  l0 := by decide
  two := .inl rfl
  lits := by decide
  byl := ⟨[5], by decide +kernel, by decide⟩
  hx := fun _ => ⟨[5], by decide +kernel, by decide⟩
  hy := fun _ => ⟨[5], by decide +kernel, by decide⟩
  hz := lk_bound (by simp [wsH, a14S5])
  ok := a14_ok.2.2.1
  tl := by decide +kernel
theorem a14_lk1 : lk a14S4.byl 2 = some [0] ∧ lk (wsH a14S5 1).byl (-1) = some [5] ∧ lk (wsH a14S6 2).byl (-3) = none := by decide +kernel
theorem a14_pro : ProOk a14J where
  ok := by
    rintro S T (⟨rfl, rfl⟩ | ⟨rfl, rfl⟩ | ⟨rfl, rfl⟩ | ⟨rfl, rfl⟩)
    · exact ⟨a14_ok.2.1, by decide +kernel, by decide +kernel, by decide +kernel⟩
    · exact ⟨a14_ok.2.2.1, by decide +kernel, by decide +kernel, by decide +kernel⟩
    · exact ⟨a14_ok.2.2.2, by decide +kernel, by decide +kernel, by decide +kernel⟩
    · exact ⟨a14_ok.2.2.2, by decide +kernel, by decide +kernel, by decide +kernel⟩
  step := by
    rintro S T (⟨rfl, rfl⟩ | ⟨rfl, rfl⟩ | ⟨rfl, rfl⟩ | ⟨rfl, rfl⟩) hlt zs hzs
    · rw [a14_neg.1] at hzs ⊢
      rw [a14_lk1.1] at hzs
      cases hzs
      exact ⟨by decide, a14_one a14_st1⟩
    · rw [a14_neg.2.1] at hzs ⊢
      rw [a14_lk1.2.1] at hzs
      cases hzs
      exact ⟨by decide, a14_one a14_st2⟩
    · rw [a14_neg.2.2] at hzs
      rw [a14_lk1.2.2] at hzs
      cases hzs
    · exact absurd hlt (by decide +kernel)
  len := by
    rintro S T (⟨rfl, rfl⟩ | ⟨rfl, rfl⟩ | ⟨rfl, rfl⟩ | ⟨rfl, rfl⟩) hlt
    · rw [a14_neg.1, a14_fai1]; decide +kernel
    · rw [a14_neg.2.1, a14_fai2]; decide +kernel
    · rw [a14_neg.2.2, a14_fai3]; decide +kernel
    · exact absurd hlt (by decide +kernel)
  next := by
    rintro S T (⟨rfl, rfl⟩ | ⟨rfl, rfl⟩ | ⟨rfl, rfl⟩ | ⟨rfl, rfl⟩) hlt _
    · rw [a14_neg.1, a14_fai1]
      exact ⟨rfl, .inr (.inl ⟨a14_up.1, rfl⟩), rfl, by decide +kernel⟩
    · rw [a14_neg.2.1, a14_fai2]
      exact ⟨rfl, .inr (.inr (.inl ⟨a14_up.2.1, rfl⟩)), rfl, by decide +kernel⟩
    · rw [a14_neg.2.2, a14_fai3]
      exact ⟨rfl, .inr (.inr (.inr ⟨a14_up.2.2, rfl⟩)), rfl, by decide +kernel⟩
    · exact absurd hlt (by decide +kernel)
theorem proF_step (n : Nat) (S : WS) (T : Tr) (l : Int) (S' : WS) (T' : Tr) (k : Int) (h : S.head < T.lits.length) (hl : negL T S = l) (hf : faiS S T l = (S', T', k)) (hk : k < 0) : proF (n + 1) S T = proF n (upH S') T' := by
  rw [proF, if_pos h, hl, hf]
  simp only
  rw [if_neg (by omega)]
theorem proF_end (n : Nat) (S : WS) (T : Tr) (h : ¬ S.head < T.lits.length) : proF n S T = (S, T, -1) := by
  cases n with
  | zero => rfl
  | succ n => rw [proF, if_neg h]
theorem a14_las1 : lasS (shrS a14S2 a14T0.lits) a14T0 = (a14S4, a14T0, -1) := by
  have e : shrS a14S2 a14T0.lits = a14S2 := by decide +kernel
  rw [e, lasS, a14_sort]
  have f1 := a14_fre1
  have f2 := a14_fre2
  rw [latF, show lk a14S2.prs 0 = some ⟨[1, 2], 0, 0⟩ by decide +kernel]
  simp only
  rw [if_neg (by rw [f1.1]; simp), f1.2.1, f1.2.2, latF, show lk a14S3.prs 5 = some ⟨[-1, 3], 0, 0⟩ by decide +kernel]
  simp only
  rw [if_neg (by rw [f2.1]; simp), f2.2.1, f2.2.2, latF]
theorem a14_prp1 : prpS a14S2 a14T0 = (a14S4, a14T0, -1) := by
  have m : midS a14S2 a14T0 = (a14S4, a14T0, -1) := by
    unfold midS
    rw [a14_las1]
    simp only
    rw [if_neg (by omega), proF_end _ _ _ (by decide +kernel)]
  unfold prpS
  rw [m]
  rfl
def a14S7 : WS := ⟨a14S6.prs, a14S6.byl, a14S6.late, 3, [-2, 1, 3]⟩
theorem a14_las2 : lasS (shrS a14S4 a14T1.lits) a14T1 = (a14S4, a14T1, -1) := by
  have e : shrS a14S4 a14T1.lits = a14S4 := by decide +kernel
  rw [e, lasS, show sortZ (a14S4.late.map (·.1)) = [] from sortZ_of (List.Perm.refl _) List.Pairwise.nil, latF]
theorem a14_prp2 : prpS a14S4 a14T1 = (a14S7, a14T3, -1) := by
  have m : midS a14S4 a14T1 = (wsH a14S6 3, a14T3, -1) := by
    unfold midS
    rw [a14_las2]
    simp only
    rw [if_neg (by omega), show (1000001 : Nat) = 1000000 + 1 from rfl, proF_step _ _ _ _ _ _ _ (by decide +kernel) a14_neg.1 a14_fai1 (by omega), a14_up.1,
      show (1000000 : Nat) = 999999 + 1 from rfl, proF_step _ _ _ _ _ _ _ (by decide +kernel) a14_neg.2.1 a14_fai2 (by omega), a14_up.2.1,
      show (999999 : Nat) = 999998 + 1 from rfl, proF_step _ _ _ _ _ _ _ (by decide +kernel) a14_neg.2.2 a14_fai3 (by omega), a14_up.2.2, proF_end _ _ _ (by decide +kernel)]
  unfold prpS
  rw [m]
  decide +kernel
theorem a14_det : detE a14S7 0 = 0 ∧ (detS a14S7 0).prs.map (·.1) = [5] := by decide +kernel
theorem aw14P1_ok (h : List (List SV)) (bw ba bt : Nat) (mp : List (Int × Nat)) (mb : List (Int × By)) (L : LayW h bw ba bt mp mb a14A a14T0 a14S2) :
    AMut Tryz.prog 33 [.ptr bw 0] h (fun r h' => r = .pv (I64 (-1)) ∧ ∃ mb', LayW h' bw ba bt mp mb' a14A a14T0 a14S4 ∧ Ext h h' (DomW bw bt mp mb) (DomW bw bt mp mb')) := by
  have e : shrS a14S2 a14T0.lits = a14S2 := by decide +kernel
  have := wpropagate_ok h bw ba bt mp mb a14A a14T0 a14S2 L (by decide +kernel) (by decide +kernel) [0, 5] a14_sort
    (fun i S T => (i = 0 ∧ S = a14S2 ∧ T = a14T0) ∨ (i = 1 ∧ S = a14S3 ∧ T = a14T0) ∨ 2 ≤ i) (.inl ⟨rfl, e, rfl⟩) (fun q hq => by simp [a14S2] at hq; rcases hq with rfl | rfl <;> rfl) (by decide +kernel) ?_ ?_ ?_ (fun S T => S = a14S4 ∧ T = a14T0) ?_ ?_
  · rw [a14_prp1] at this; exact this
  · rintro i S T (⟨rfl, rfl, rfl⟩ | ⟨rfl, rfl, rfl⟩ | h2) hi
    · exact ⟨a14_ok.1, by decide +kernel, lk_bound (by simp [a14S2]), ⟨[1, 2], 0, 0⟩, by show lk a14S2.prs 0 = _; decide +kernel, by decide⟩
    · exact ⟨a14_ok.1, by decide +kernel, lk_bound (by simp [a14S3]), ⟨[-1, 3], 0, 0⟩, by show lk a14S3.prs 5 = _; decide +kernel, by decide⟩
    · simp at hi; omega
  · rintro i S T p (⟨rfl, rfl, rfl⟩ | ⟨rfl, rfl, rfl⟩ | h2) hi hp _
    · have hp : lk a14S2.prs 0 = some p := hp
      rw [show lk a14S2.prs 0 = some ⟨[1, 2], 0, 0⟩ by decide +kernel] at hp
      cases hp
      exact .inr (.inl ⟨rfl, a14_fre1.2.1, a14_fre1.2.2⟩)
    · exact .inr (.inr (Nat.le_refl _))
    · simp at hi; omega
  · rw [a14_las1]; decide +kernel
  · constructor
    · rintro S T ⟨rfl, rfl⟩; exact ⟨a14_ok.1, by decide +kernel, by decide +kernel, by decide +kernel⟩
    · rintro S T ⟨rfl, rfl⟩ hlt; exact absurd hlt (by decide +kernel)
    · rintro S T ⟨rfl, rfl⟩ hlt; exact absurd hlt (by decide +kernel)
    · rintro S T ⟨rfl, rfl⟩ hlt; exact absurd hlt (by decide +kernel)
  · intro _; rw [a14_las1]; exact ⟨rfl, rfl, rfl⟩
theorem aw14P2_ok (h : List (List SV)) (bw ba bt : Nat) (mp : List (Int × Nat)) (mb : List (Int × By)) (L : LayW h bw ba bt mp mb a14A a14T1 a14S4) :
    AMut Tryz.prog 33 [.ptr bw 0] h (fun r h' => r = .pv (I64 (-1)) ∧ ∃ mb', LayW h' bw ba bt mp mb' a14A a14T3 a14S7 ∧ Ext h h' (DomW bw bt mp mb) (DomW bw bt mp mb')) := by
  have e : shrS a14S4 a14T1.lits = a14S4 := by decide +kernel
  have := wpropagate_ok h bw ba bt mp mb a14A a14T1 a14S4 L (by decide +kernel) (by decide +kernel) [] (sortZ_of (List.Perm.refl _) List.Pairwise.nil)
    (fun _ _ _ => True) trivial (by simp [a14S4]) (by decide +kernel) (fun _ _ _ _ hi => absurd hi (Nat.not_lt_zero _)) (fun _ _ _ _ _ hi => absurd hi (Nat.not_lt_zero _)) ?_ a14J a14_pro ?_
  · rw [a14_prp2] at this; exact this
  · rw [a14_las2]; decide +kernel
  · intro _; rw [a14_las2]; exact ⟨rfl, .inl ⟨rfl, rfl⟩⟩
theorem wpropN_ok : APure Tryz.prog 33 [.lit (.pointer none)] (fun r => r = .pv (I64 (-1))) := by
  refine apure1 hmo Tryz.func33 (by kernel_rfl) rfl rfl (by kernel_rfl) (Nat.le_of_ble_eq_true rfl) ?_
  simp
  refine CallK.intro wmadeN_ok (by simp) ?_
  simp
theorem wattN_ok (k : Int) : APure Tryz.prog 32 [.lit (.pointer none), I64 k] (fun r => r = .pv (I64 1)) := by
  refine apure1B [8] hmo Tryz.func32 (by kernel_rfl) rfl rfl (by kernel_rfl) (Nat.le_of_ble_eq_true rfl) ?_
  simp
  refine CallK.intro wmadeN_ok (by simp) ?_
  simp
set_option maxRecDepth 16000 in
set_option maxHeartbeats 1000000 in
theorem w14Awake_ok : APure Tryz.prog 7 [] (fun r => r = .pv (BL true)) := by
  refine apure1B [5, 8] hmo Tryz.func7 (by kernel_rfl) rfl rfl (by kernel_rfl) (Nat.le_of_ble_eq_true rfl) ?_
  simp
  refine CallK.introM (anew_ok _) (by simp) ?_
  rintro _ _ ⟨rfl, rfl⟩
  simp
  refine CallK.introM (tnew_ok _ 3 (by omega)) (by simp) ?_
  rintro _ _ ⟨rfl, rfl⟩
  simp
  have hbA0 : ([arB ⟨[], []⟩, trB (newT 3)] : List (List SV))[0]? = some (arB ⟨[], []⟩) := rfl
  have hbA1 : ([arB a14A1, trB (newT 3)] : List (List SV))[0]? = some (arB a14A1) := rfl
  have kp1 := aput_ok _ 0 ⟨[], []⟩ hbA0 1 [1, 2] (by simp) (by simp)
  have kp2 := aput_ok _ 0 a14A1 hbA1 2 [-1, 3] (by simp) (by decide +kernel)
  obtain ⟨q1, q2, q3⟩ := a14_put1
  rw [q1] at kp1
  rw [q2, q3] at kp2
  simp only [List.set_cons_zero] at kp1 kp2
  rw [show putAr ⟨[], []⟩ 1 [1, 2] = a14A1 from rfl] at kp1
  rw [show putAr a14A1 2 [-1, 3] = a14A from rfl] at kp2
  refine ASem.to ⟨[(1, .pv (.ptr 0 0)), (2, .pv (.ptr 1 0))], [arB ⟨[], []⟩, trB (newT 3)]⟩ ?_ (ASem.ops ?_)
  · refine (Weak.keep (t1 := [(1, .pv (.ptr 0 0)), (2, .pv (.ptr 1 0))]) (by simp) rfl).trans ?_
    refine (Weak.nilCell (b := 0) (k := 0) (xs := arZ) 1 true (by simp) (by simp [arZ])).trans ?_
    refine (Weak.nilCell (b := 1) (k := 1) (xs := [.own true 4 (List.map mkR (newT 3).marks), .pv (.lit (.slice none 0 0)), .pv (.lit (.slice none 0 0)), .pv (BL true)]) 1 true (by simp) (by simp)).trans ?_
    refine (Weak.nilCell (b := 1) (k := 2) (xs := [.own true 4 (List.map mkR (newT 3).marks), .own true 1 [], .pv (.lit (.slice none 0 0)), .pv (BL true)]) 1 true (by simp) (by simp)).trans ?_
    refine Weak.le ?_ ?_
    · simp
    · simp [arZ, arB, trB, irow, newT, mapE]
  simp
  refine CallB.intro (kp1.args (xs := [.ptr 0 0, I64 1, .seq true 1 (irow [1, 2]), BL false]) (by simp [wkPL, wkP])) (by simp) ?_
  rintro _ _ ⟨rfl, rfl⟩
  simp
  refine CallB.intro (kp2.args (xs := [.ptr 0 0, I64 2, .seq true 1 (irow [-1, 3]), BL false]) (by simp [wkPL, wkP])) (by simp) ?_
  rintro _ _ ⟨rfl, rfl⟩
  simp
  refine CallB.intro (wnew_ok _ 0 1) (by simp) ?_
  rintro _ _ ⟨rfl, rfl⟩
  simp
  obtain ⟨G, hG⟩ : ∃ G, G = [arB a14A, trB a14T0, wtB 0 1 ⟨[], [], [], 0, []⟩] := ⟨_, rfl⟩
  refine ASem.to ⟨[(1, .pv (.ptr 0 0)), (2, .pv (.ptr 1 0)), (4, .pv (I64 0)), (6, .pv (I64 5)), (8, .pv (.ptr 2 0))], G⟩ ?_ (ASem.ops ?_)
  · refine (Weak.keep (t1 := [(1, .pv (.ptr 0 0)), (2, .pv (.ptr 1 0)), (4, .pv (I64 0)), (6, .pv (I64 5)), (8, .pv (.ptr 2 0))]) (by simp) rfl).trans ?_
    refine (Weak.nilCell (b := 2) (k := 6) 1 true (xs := [.pv (.ptr 0 0), .pv (.ptr 1 0), .omap true [], .omap true [], .omap true [], .pv (I64 0), .pv (.lit (.slice none 0 0))]) (by simp) (by simp)).trans ?_
    refine Weak.le ?_ ?_
    · simp
    · rw [hG]; simp [wtB, irow, mapE, wkCs_refl, a14T0]
  have L0 : LayW G 2 0 1 [] [] a14A a14T0 a14S0 := by
    subst hG
    exact { w := rfl, a := rfl, t := rfl, wa := by omega, wt := by omega, at' := by omega, keys := rfl, pr := (fun k b hb => by cases hb), pinj := (fun k k' b hb => by cases hb), by' := (fun l e he => by cases he), byn := (fun l _ => rfl), binj := (fun l l' e e' he => by cases he), pb := (fun k b l e hb => by cases hb) }
  clear hG
  have hok : ArOk a14A := by
    rw [a14_A]
    intro q hq
    have hlk : (lk [((0 : Int), (1 : Int)), (5, 2)] q).isSome = true := by
      cases hx : lk [((0 : Int), (1 : Int)), (5, 2)] q with
      | some _ => rfl
      | none => unfold isA at hq; simp [hx] at hq
    have : q = 0 ∨ q = 5 := by simpa using mem_keys.1 hlk
    rcases this with rfl | rfl
    · exact ⟨0, 2, rfl, by simp, rfl⟩
    · exact ⟨5, 2, rfl, by simp, rfl⟩
  have hrl : a14A.row.length ≤ 1000000 := by decide +kernel
  have hml : a14T0.marks.length ≤ 1000000 := by decide +kernel
  have htl : a14T0.lits.length ≤ 1000000 := by decide +kernel
  have katt := fun H mp S (L : LayW H 2 0 1 mp [] a14A a14T0 S) k => wattach_ok H 2 0 1 mp [] a14A a14T0 S L hok hrl hml htl k
  simp
  refine CallB.intro (wnewN_ok _ 1) (by simp) ?_
  rintro _ h2 ⟨e, rfl⟩
  rw [e]
  clear e h2
  simp
  have k1 := katt G [] a14S0 L0 0
  rw [a14_att1.1, a14_att1.2] at k1
  refine CallB.intro k1 (by simp) ?_
  rintro _ G1 ⟨rfl, mp1, L1, -⟩
  have k2 := katt G1 mp1 a14S1 L1 5
  rw [a14_att2.1, a14_att2.2] at k2
  simp
  refine CallB.intro k2 (by simp) ?_
  rintro _ G2 ⟨rfl, mp2, L2, -⟩
  have k3 := katt G2 mp2 a14S2 L2 0
  rw [a14_att3.1, a14_att3.2] at k3
  simp
  refine CallB.intro k3 (by simp) ?_
  rintro _ G3 ⟨rfl, mp3, L3, -⟩
  have k4 := katt G3 mp3 a14S2 L3 99
  rw [a14_att4.1, a14_att4.2] at k4
  simp
  refine CallB.intro k4 (by simp) ?_
  rintro _ G4 ⟨rfl, mp4, L4, -⟩
  simp
  refine CallB.intro (aw14P1_ok G4 2 0 1 mp4 [] L4) (by simp) ?_
  rintro _ G5 ⟨rfl, mb5, L5, -⟩
  simp
  refine CallB.intro (tdecide_ok G5 1 a14T0 L5.t (-2) a14_ok.1 htl (by decide +kernel)) (by simp) ?_
  rintro _ G6 ⟨hG6, rfl⟩
  have L6 : LayW G6 2 0 1 mp4 mb5 a14A a14T1 a14S4 := by rw [hG6]; exact L5.setT a14T1
  clear hG6
  simp
  refine CallB.intro (aw14P2_ok G6 2 0 1 mp4 mb5 L6) (by simp) ?_
  rintro _ G7 ⟨rfl, mb7, L7, -⟩
  have hz7 := frz_tr0 L7.t 2
  have kL := tlits_ok a14T3 (by decide +kernel)
  rw [a14_lits.2.2.2] at kL
  simp [hz7]
  refine CallB.introP kL (by simp) (by simp) ?_
  have kD := wdetach_ok G7 2 0 1 mp4 mb7 a14A a14T3 a14S7 L7 (by decide +kernel) 0 (fun p hp => by
    rw [show lk a14S7.prs 0 = some ⟨[1, 2], 0, 0⟩ by decide +kernel] at hp
    cases hp
    exact ⟨fun e => absurd rfl e, fun e => absurd rfl e⟩) (lk_bound (by simp [a14S7, a14S6]))
  rw [a14_det.1] at kD
  simp
  refine CallB.intro kD (by simp) ?_
  rintro _ G8 ⟨rfl, mp8, mb8, L8, -⟩
  have hkeys : mp8.map (·.1) = [5] := by rw [L8.keys, a14_det.2]
  have kA := wattached_ok G8 2 0 1 _ L8.w (fun q hq => by
    have : q.1 ∈ mp8.map (·.1) := List.mem_map.2 ⟨q, hq, rfl⟩
    rw [hkeys] at this
    simp at this
    rw [this]; rfl) (by have := congrArg List.length hkeys; simp at this; show mp8.length ≤ _; omega)
  rw [show sortZ ((Wt.prs ⟨mp8, mb8, (detS a14S7 0).late, (detS a14S7 0).head, (detS a14S7 0).seen⟩).map (·.1)) = [5] from by show sortZ (mp8.map (·.1)) = [5]; rw [hkeys]; exact sortZ_of (List.Perm.refl _) (by simp)] at kA
  have hz8 := frz_tr0 L8.t 2
  have kr1 := treason_ok a14T3 1 a14_ok.2.2.2
  have kr3 := treason_ok a14T3 3 a14_ok.2.2.2
  rw [show (ofT a14T3 1).1.rea = 0 by decide +kernel] at kr1
  rw [show (ofT a14T3 3).1.rea = 5 by decide +kernel] at kr3
  have ks1 := sameInts_ok [-2, 1, 3] [-2, 1, 3] (by simp)
  have ks2 := sameInts_ok [5] [5] (by simp)
  simp
  refine CallG.intro (fun _ => ks1) (by simp) ?_
  simp [hz8]
  refine CallB.introP kr1 (by simp) (by simp) ?_
  simp [hz8]
  refine CallB.introP kr3 (by simp) (by simp) ?_
  simp
  refine CallB.intro kA (by simp) ?_
  rintro _ h2 ⟨e, rfl⟩
  rw [e]
  clear e h2
  simp
  refine CallG.intro (fun _ => ks2) (by simp) ?_
  simp
  refine CallG.intro (fun _ => wpropN_ok) (by simp) ?_
  simp
  refine CallG.intro (fun _ => wattN_ok 1) (by simp) ?_
  simp
def few14 (cs : List (List Int)) (l : List (Int × Int)) : Bool := few8 cs [] && decide (cs.length ≤ 30) && decide (l.length ≤ 60)
theorem few14_few {cs : List (List Int)} {l : List (Int × Int)} (h : few14 cs l = true) : fewC cs ∧ cs.length ≤ 30 ∧ l.length ≤ 60 := by
  unfold few14 few8 few4 at h
  simp only [Bool.and_eq_true, decide_eq_true_eq, List.all_eq_true] at h
  exact ⟨⟨by omega, fun x hx => by have := h.1.1.1.1.2 x hx; omega⟩, by omega, by omega⟩
def actR (x : Int × Int) : List PV := [I64 x.1, I64 x.2]
@[simp] theorem belowR_actR (k : Nat) (l : List (Int × Int)) : belowR k (l.map actR) := by
  induction l with
  | nil => trivial
  | cons x xs ih => exact ⟨⟨trivial, trivial, trivial⟩, ih⟩
@[simp] theorem frzR_actR (r : Nat → Nat → PV) (l : List (Int × Int)) : frzR r (l.map actR) = l.map actR := by
  induction l with
  | nil => rfl
  | cons x xs ih => simp only [List.map_cons, frzR, ih]; rfl
theorem begW_lay (x y : List SV) (cs : List (List Int)) : LayD [x, arB (begW cs).A, y, trB (begW cs).T, wtB 1 3 ⟨[], [], [], 0, []⟩, dwB 1 3 4 (begW cs)] 5 1 3 4 [] [] (begW cs) where
  lay := { w := rfl, a := rfl, t := rfl, wa := by omega, wt := by omega, at' := by omega, keys := rfl, pr := (fun k b hb => by cases hb), pinj := (fun k k' b hb => by cases hb), by' := (fun l e he => by cases he), byn := (fun l _ => rfl), binj := (fun l l' e e' he => by cases he), pb := (fun k b l e hb => by cases hb) }
  d := rfl
  nd := fun hd => by
    rcases hd with h | h | ⟨_, h⟩ | ⟨_, _, h, _⟩
    · cases h
    · cases h
    · cases h
    · cases h
  na := by omega
structure SmallD (D : DW) : Prop where
  row : D.A.row.length ≤ 1000000
  marks : D.T.marks.length ≤ 1000000
  lits : D.T.lits.length ≤ 1000000
  rows : D.a.rows.length ≤ 1000000
  len : ∀ x ∈ D.a.rows, x.lits.length ≤ 1000000
  ats : D.ats.length ≤ 1000000
theorem begW_small {cs : List (List Int)} (hc : fewC cs) : SmallD (begW cs) := by
  have hok := putL_ok hc cs.length (Nat.le_refl _)
  obtain ⟨e1, e2⟩ := putJ_L cs cs.length
  have hl := hok.len
  have hr := hok.rlen
  have h5 := hc.1
  have hrow : (putJ cs cs.length).A.row.length ≤ 1000000 := by rw [e1]; omega
  have hrel := putJ_relP hc cs.length (Nat.le_refl _)
  refine ⟨hrow, by show (newT 6).marks.length ≤ _; decide, by show (newT 6).lits.length ≤ _; decide, by show (putJ cs cs.length).a.rows.length ≤ _; rw [e2]; omega, fun x hx => ?_, by show (putJ cs cs.length).ats.length ≤ _; have := putJ_len cs cs.length; omega⟩
  obtain ⟨p, _, h2, _⟩ := hrel.rows x hx
  have := h2.len
  omega
theorem insW_len (l : List Int) (k : Int) : (insW l k).length = l.length + 1 := by rw [insW_is]; exact (insR_perm k l).length_eq
theorem rattL_len (a : RA) (v : Int) (l : List Int) (k : Int) : (rattL a v l k).length ≤ l.length + 1 := by
  unfold rattL
  split
  · rw [insW_len]; exact Nat.le_refl _
  · omega
theorem rdetL_len (l : List Int) (k : Int) : (rdetL l k).length ≤ l.length + 1 := by
  unfold rdetL
  split
  · have := remW_len l k; omega
  · omega
theorem LayD.att {h : List (List SV)} {bd ba bt bw : Nat} {mp : List (Int × Nat)} {mb : List (Int × By)} {D : DW} (L : LayD h bd ba bt bw mp mb D) (hP : PlayOk D) (hw : ∀ k ∈ D.on, wfI k) (hl : D.on.length ≤ 1000000) :
    AMut Tryz.prog 11 [.ptr bw 0] h (fun r h' => h' = h ∧ r = .pv (.seq true 1 (irow D.on))) := by
  have hk : mp.map (·.1) = D.S.prs.map (·.1) := L.lay.keys
  have hp : (mp.map (·.1)).Perm D.on := by
    rw [hk, ← hP.on]; unfold sortZ; exact (List.mergeSort_perm _ _).symm
  have := wattached_ok h bw ba bt _ L.lay.w (fun q hq => hw _ (hp.mem_iff.1 (List.mem_map.2 ⟨q, hq, rfl⟩))) (by have := hp.length_eq; simp at this; show mp.length ≤ _; omega)
  rw [show sortZ ((Wt.prs ⟨mp, mb, D.S.late, D.S.head, D.S.seen⟩).map (·.1)) = D.on from by show sortZ (mp.map (·.1)) = _; rw [hk]; exact hP.on] at this
  exact this
theorem wfI_at {A : Ar} (hk : ArOk A) (hl : A.row.length ≤ 1000000) {k : Int} (h : isA A k = true) : wfI k := by
  obtain ⟨p, n, rfl, ha⟩ := hk k h
  have := ha.len
  exact wfI_of (by omega) (by omega)
theorem rattL_on {D : DW} (hP : PlayOk D) {k : Int} (h : ∀ x ∈ D.on, isA D.A x = true) : ∀ x ∈ rattL D.a D.t.vars D.on k, isA D.A x = true := fun x hx => by
  unfold rattL at hx
  split at hx
  · rename_i e
    rw [insW_is] at hx
    rcases List.mem_cons.1 ((insR_perm k D.on).mem_iff.1 hx) with rfl | hx
    · unfold rattE at e
      split at e
      · omega
      · rename_i hn
        cases hq : isA D.A x
        · exact absurd ((findA_is hP.rel.toRelA x).2 hq) hn
        · rfl
    · exact h x hx
  · exact h x hx
theorem rdetL_on {D : DW} {k : Int} (h : ∀ x ∈ D.on, isA D.A x = true) : ∀ x ∈ rdetL D.on k, isA D.A x = true := fun x hx => by
  unfold rdetL at hx
  split at hx
  · exact h x (List.mem_filter.1 hx).1
  · exact h x hx
theorem LayD.app {h : List (List SV)} {bd ba bt bw : Nat} {mp : List (Int × Nat)} {mb : List (Int × By)} {D : DW} (L : LayD h bd ba bt bw mp mb D) (g : List (List SV)) : LayD (h ++ g) bd ba bt bw mp mb D :=
  ⟨L.lay.app g, by rw [List.getElem?_append_left (List.getElem?_eq_some_iff.1 L.d).1, L.d], L.nd, L.na⟩
def wp10Sch : Sch :=
  let s0 : Sch := .fork [(19, .take 20 (.take 21 .done))]
  let s1 : Sch := .fork [(18, s0)]
  let s2 : Sch := .fork [(16, s0)]
  let s3 : Sch := .fork [(16, s1), (18, s2)]
  let s4 : Sch := .fork [(15, s2)]
  let s5 : Sch := .fork [(15, s3), (18, s4)]
  let s6 : Sch := .fork [(10, .take 11 (.take 12 (.take 13 (.take 14 (.take 17 s5)))))]
  let s7 : Sch := .fork [(9, s6)]
  let s8 : Sch := .fork [(5, .take 6 (.take 7 (.take 8 s7)))]
  let s9 : Sch := .fork [(1, .take 2 (.take 3 (.take 4 s8)))]
  .take 0 s9
set_option maxRecDepth 16000 in
set_option maxHeartbeats 1000000 in
theorem watchPlays_ok (cs : List (List Int)) (l : List (Int × Int)) : APure Tryz.prog 3 [.seq false 1 (cs.map crowF), .seq false 2 (l.map actR)] (fun r => r = .pv (BL true)) := by
  refine apure1B [10] hmo Tryz.func3 (by kernel_rfl) rfl rfl (by kernel_rfl) (Nat.le_of_ble_eq_true rfl) ?_
  have kFew := few8_ok cs []
  have hF : few14 cs l = (few8 cs [] && decide (cs.length ≤ 30) && decide (l.length ≤ 60)) := rfl
  have hf' : few14 cs l = true → fewC cs ∧ cs.length ≤ 30 ∧ l.length ≤ 60 := few14_few
  generalize few14 cs l = F at *
  replace kFew := kFew.conv (xs := [.seq false 1 (cs.map crowF), .lit (.slice none 0 0)]) ⟨_, _, rfl, .refl _, _, _, rfl, PV.as_nil 1, rfl⟩
  simp
  refine CallK.intro kFew (by simp) ?_
  have hz : F = false → (few8 cs [] = false ∨ ¬ cs.length ≤ 30 ∨ ¬ l.length ≤ 60) := fun h => by
    rw [hF] at h
    cases h8 : few8 cs []
    · exact .inl rfl
    · rw [h8] at h
      by_cases h9 : cs.length ≤ 30
      · by_cases h10 : l.length ≤ 60
        · simp [h9, h10] at h
        · exact .inr (.inr h10)
      · exact .inr (.inl h9)
  cases F with
  | false =>
    have h := hz rfl
    have e1 : decide ((30 : Int) < cs.length) = !decide (cs.length ≤ 30) := by
      by_cases c : cs.length ≤ 30
      · have c2 : ¬ (30 : Int) < cs.length := by omega
        simp [c, c2]
      · have c2 : (30 : Int) < cs.length := by omega
        simp [c, c2]
    have e2 : decide ((60 : Int) < l.length) = !decide (l.length ≤ 60) := by
      by_cases c : l.length ≤ 60
      · have c2 : ¬ (60 : Int) < l.length := by omega
        simp [c, c2]
      · have c2 : (60 : Int) < l.length := by omega
        simp [c, c2]
    rcases h with h | h | h
    · simp [h]
      refine CallK.intro w14Awake_ok (by simp) ?_
      simp
    · simp [e1, h]
      cases few8 cs [] <;> simp <;> refine CallK.intro w14Awake_ok (by simp) ?_ <;> simp
    · simp [e1, e2, h]
      refine CallK.intro w14Awake_ok (by simp) ?_
      simp
  | true =>
  obtain ⟨hc, f2, f3⟩ := hf' rfl
  have f2' : ¬ (30 : Int) < cs.length := by omega
  have f3' : ¬ (60 : Int) < l.length := by omega
  have f8 : few8 cs [] = true := by
    cases h8 : few8 cs []
    · rw [h8] at hF; cases hF
    · rfl
  have kB := wbegun_ok [] cs hc
  have hP0 := begW_play hc
  simp [f8, f2', f3']
  refine CallK.introM kB (by simp) ?_
  rintro _ _ ⟨⟨bx, bz, rfl⟩, rfl⟩
  simp [dwA]
  refine ALoop.intro (S := fun (x : Nat × List (List SV) × List (Int × Nat) × List (Int × By) × DW) => ⟨[(1, .pv (.seq false 2 (l.map actR))), (5, .pv (.ptr 5 0)), (6, .pv (I64 x.1))], x.2.1⟩)
    (fun x => x.1 ≤ l.length ∧ LayD x.2.1 5 1 3 4 x.2.2.1 x.2.2.2.1 x.2.2.2.2 ∧ PlayOk x.2.2.2.2 ∧ SmallD x.2.2.2.2 ∧ x.2.2.2.2.on.length ≤ x.1 ∧ ∀ k ∈ x.2.2.2.2.on, isA x.2.2.2.2.A k = true) (fun x => l.length - x.1)
    (0, [bx, arB (begW cs).A, bz, trB (begW cs).T, wtB 1 3 ⟨[], [], [], 0, []⟩, dwB 1 3 4 (begW cs)], [], [], begW cs) ?_ ⟨Nat.zero_le _, begW_lay bx bz cs, hP0, begW_small hc, Nat.le_refl _, by simp [begW]⟩ ?_
  · refine Weak.le (by simp) ?_
    simp [dwB, wkCs_refl, begW]
  rintro ⟨i, H, mp, mb, D⟩ ⟨hi, L, hP, hS, hon, hwf⟩
  dsimp only at hi L hP hS hon hwf
  by_cases d : i < l.length
  · have hw' : w64 ((i : Int) + 1) = ((i + 1 : Nat) : Int) := by rw [w64_id (by omega) (by omega)]; omega
    obtain ⟨⟨k, n⟩, hx⟩ : ∃ x, l[i] = x := ⟨_, rfl⟩
    have d1 := (List.getElem?_eq_some_iff.1 L.d).1
    have hwI : ∀ {E : DW}, E.A = D.A → (∀ k ∈ E.on, isA E.A k = true) → ∀ k ∈ E.on, wfI k := fun {E} e h k hk => wfI_at hP.rel.arok hS.row (e ▸ h k hk)
    simp [d, hx, actR]
    obtain ⟨G, hG⟩ : ∃ G, G = H ++ [[SV.pv (I64 k), SV.pv (I64 n)]] := ⟨_, rfl⟩
    rw [← hG]
    have LG : LayD G 5 1 3 4 mp mb D := by rw [hG]; exact L.app _
    have hsame : decide (D.on = D.on) = true := by simp
    have kS := fun (on : List Int) (h : on.length ≤ 1000) => sameInts_ok on on (by omega)
    obtain ⟨g1, g2⟩ := List.getElem?_eq_some_iff.1 LG.d
    have b1 : H.length < G.length := by rw [hG]; simp
    have b2 : G[H.length]'b1 = [SV.pv (I64 k), SV.pv (I64 n)] := by simp [hG]
    by_cases c0 : k = 0
    · subst c0
      have kD := wdoA_ok G 5 1 3 4 mp mb D LG n hP.rel.arok hS.row hS.marks hS.lits hS.rows hS.len (by omega) hS.ats
      have hPn := hP.attK (plaW D.ats n)
      have hSn : SmallD ⟨D.A, D.T, attS D.A D.T D.S (plaW D.ats n), D.a, D.t, rattL D.a D.t.vars D.on (plaW D.ats n), D.ats⟩ := ⟨hS.row, hS.marks, hS.lits, hS.rows, hS.len, hS.ats⟩
      have hLn := rattL_len D.a D.t.vars D.on (plaW D.ats n)
      have hOn := rattL_on hP (k := plaW D.ats n) hwf
      rw [hP.att] at kD
      generalize attS D.A D.T D.S (plaW D.ats n) = S2 at *
      generalize rattL D.a D.t.vars D.on (plaW D.ats n) = on2 at *
      generalize rattE D.a D.t.vars D.on (plaW D.ats n) = e2 at *
      refine AAnyD.one wp10Sch (by kernel_rfl) ?_
      simp [wp10Sch, b1, b2]
      refine CallB.intro kD (by simp) ?_
      rintro _ H2 ⟨rfl, mp2, L2, -⟩
      have kA := L2.att hPn (hwI (E := ⟨D.A, D.T, S2, D.a, D.t, on2, D.ats⟩) rfl hOn) (by show on2.length ≤ _; omega)
      have kS2 := kS on2 (by omega)
      obtain ⟨u1, u2⟩ := List.getElem?_eq_some_iff.1 L2.d
      simp [u1, u2, dwB]
      repeat' first
        | refine And.intro ?_ ?_
        | (refine CallB.intro kA (by simp) ?_; rintro _ h2 ⟨e, rfl⟩; rw [e]; clear e h2; simp [u1, u2, dwB])
        | (refine CallG.intro (fun _ => kS2) (by simp) ?_; simp [u1, u2, dwB])
        | exact ⟨(i + 1, H2, mp2, mb, ⟨D.A, D.T, S2, D.a, D.t, on2, D.ats⟩), by (try dsimp only); omega, ⟨by (try dsimp only); omega, L2, hPn, hSn, by (try dsimp only); omega, hOn⟩, Weak.keep (by simp [hw']) rfl⟩
    by_cases c1 : k = 1
    · subst c1
      have kD := wdoD_ok G 5 1 3 4 mp mb D LG n (by omega) hS.ats hP.nd (hP.hx _) hP.hz
      have hPn := hP.detK (plaW D.ats n)
      have hSn : SmallD ⟨D.A, D.T, detS D.S (plaW D.ats n), D.a, D.t, rdetL D.on (plaW D.ats n), D.ats⟩ := ⟨hS.row, hS.marks, hS.lits, hS.rows, hS.len, hS.ats⟩
      have hLn := rdetL_len D.on (plaW D.ats n)
      have hOn := rdetL_on (D := D) (k := plaW D.ats n) hwf
      rw [hP.det] at kD
      generalize detS D.S (plaW D.ats n) = S2 at *
      generalize rdetL D.on (plaW D.ats n) = on2 at *
      generalize rdetE D.on (plaW D.ats n) = e2 at *
      refine AAnyD.one wp10Sch (by kernel_rfl) ?_
      simp [wp10Sch, b1, b2]
      refine CallB.intro kD (by simp) ?_
      rintro _ H2 ⟨rfl, mp2, mb2, L2, -⟩
      have kA := L2.att hPn (hwI (E := ⟨D.A, D.T, S2, D.a, D.t, on2, D.ats⟩) rfl hOn) (by show on2.length ≤ _; omega)
      have kS2 := kS on2 (by omega)
      obtain ⟨u1, u2⟩ := List.getElem?_eq_some_iff.1 L2.d
      simp [u1, u2, dwB]
      repeat' first
        | refine And.intro ?_ ?_
        | (refine CallB.intro kA (by simp) ?_; rintro _ h2 ⟨e, rfl⟩; rw [e]; clear e h2; simp [u1, u2, dwB])
        | (refine CallG.intro (fun _ => kS2) (by simp) ?_; simp [u1, u2, dwB])
        | exact ⟨(i + 1, H2, mp2, mb2, ⟨D.A, D.T, S2, D.a, D.t, on2, D.ats⟩), by (try dsimp only); omega, ⟨by (try dsimp only); omega, L2, hPn, hSn, by (try dsimp only); omega, hOn⟩, Weak.keep (by simp [hw']) rfl⟩
    · have hk : decide (k < 2) = true → decide (0 ≤ k) = false := fun h => by
        have := of_decide_eq_true h
        exact decide_eq_false (by omega)
      have kA := LG.att hP (hwI rfl hwf) (by omega)
      have kS2 := kS D.on (by omega)
      refine AAnyD.one wp10Sch (by kernel_rfl) ?_
      by_cases c2 : k < 2
      · have c3 : ¬ 0 ≤ k := by omega
        simp [wp10Sch, b1, b2, c2, c3, g1, g2, dwB]
        repeat' first
          | refine And.intro ?_ ?_
          | (refine CallB.intro kA (by simp) ?_; rintro _ h2 ⟨e, rfl⟩; rw [e]; clear e h2; simp [g1, g2, dwB])
          | (refine CallG.intro (fun _ => kS2) (by simp) ?_; simp [g1, g2, dwB])
          | exact ⟨(i + 1, G, mp, mb, D), by (try dsimp only); omega, ⟨by (try dsimp only); omega, LG, hP, hS, by (try dsimp only); omega, hwf⟩, Weak.keep (by simp [hw']) rfl⟩
      · simp [wp10Sch, b1, b2, c2, g1, g2, dwB]
        repeat' first
          | refine And.intro ?_ ?_
          | (refine CallB.intro kA (by simp) ?_; rintro _ h2 ⟨e, rfl⟩; rw [e]; clear e h2; simp [g1, g2, dwB])
          | (refine CallG.intro (fun _ => kS2) (by simp) ?_; simp [g1, g2, dwB])
          | exact ⟨(i + 1, G, mp, mb, D), by (try dsimp only); omega, ⟨by (try dsimp only); omega, LG, hP, hS, by (try dsimp only); omega, hwf⟩, Weak.keep (by simp [hw']) rfl⟩
  · have hie : i = l.length := by omega
    subst hie
    simp
    refine CallK.intro w14Awake_ok (by simp) ?_
    simp
end Go.AX
