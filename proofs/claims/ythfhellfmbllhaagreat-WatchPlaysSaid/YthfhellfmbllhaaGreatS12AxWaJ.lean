/-
  Contracts: watches: fails.
  Contracts: watches: Propagate.
  Contracts: watches: made anew, Attach, Detach, Attached.
  Contracts: the document's watches: Attach, Detach.
  Contracts: a desk with clauses, of six variables, and a watch.
-/
import Derived.Test.YthfhellfmbllhaaGreatS12AxWaE
import Derived.Test.YthfhellfmbllhaaGreatAxAs
import Derived.Test.YthfhellfmbllhaaGreatS12AxRnM
import Derived.Test.YthfhellfmbllhaaGreatS12AxTtA
import Derived.Test.YthfhellfmbllhaaGreatS12AxDkQ
import Derived.Test.YthfhellfmbllhaaGreatAxBe
import Derived.Test.YthfhellfmbllhaaGreatAxAf
namespace Go.AX
open Go.Proofs
set_option linter.unusedSimpArgs false
def fa1Sch : Sch :=
  let s0 : Sch := .fork [(6, .take 7 .done)]
  let s1 : Sch := .fork [(5, s0)]
  let s2 : Sch := .fork [(4, s1)]
  let s3 : Sch := .fork [(3, s1)]
  let s4 : Sch := .fork [(3, s2), (4, s3)]
  let s5 : Sch := .fork [(0, .take 1 (.take 2 s3))]
  let s6 : Sch := .fork [(0, .take 1 (.take 2 s4)), (4, s5)]
  s6
def fa6Sch : Sch :=
  let s0 : Sch := .fork [(5, .take 6 .done)]
  let s1 : Sch := .fork [(4, s0)]
  let s2 : Sch := .fork [(3, s0)]
  let s3 : Sch := .fork [(3, s1), (4, s2)]
  let s4 : Sch := .fork [(0, .take 1 (.take 2 s2))]
  let s5 : Sch := .fork [(0, .take 1 (.take 2 s3)), (4, s4)]
  s5
def fa7Sch : Sch :=
  let s0 : Sch := .fork [(5, .take 6 .done)]
  let s1 : Sch := .fork [(4, s0)]
  .take 0 (.take 1 (.take 2 (.take 3 s1)))
def fa18Sch : Sch :=
  let s0 : Sch := .fork [(7, .done)]
  let s1 : Sch := .fork [(5, .take 6 s0)]
  let s2 : Sch := .fork [(4, s1)]
  let s3 : Sch := .fork [(3, s1)]
  let s4 : Sch := .fork [(3, s2), (4, s3)]
  let s5 : Sch := .fork [(0, .take 1 (.take 2 s3))]
  let s6 : Sch := .fork [(0, .take 1 (.take 2 s4)), (4, s5)]
  s6
def opB (T : Tr) (l other x : Int) : Bool := decide (x ≠ l) && (decide (x ≠ other) && decide (0 ≤ valT T x))
set_option maxRecDepth 16000 in
theorem wopen_ok (h : List (List SV)) (bw ba bt nb : Nat) (W : Wt) (T : Tr) (hw : h[bw]? = some (wtB ba bt W)) (ht : h[bt]? = some (trB T)) (hT : T.ok) (l : Int) (h0 : h[nb]? = some [.pv (.ptr bw 0)]) (h1 : h[nb + 1]? = some [.pv (I64 l)]) (x other : Int) :
    AMut Tryz.prog 137 [I64 x, I64 other, .ptr (nb + 1) 0, .ptr nb 0] h (fun r h' => h' = h ∧ r = .pv (BL (opB T l other x))) := by
  refine amutXW [] [.tmp 6] hmo Tryz.func137 (by kernel_rfl) rfl rfl (by kernel_rfl) (Nat.le_of_ble_eq_true rfl) ?_
  obtain ⟨w1, w2⟩ := List.getElem?_eq_some_iff.1 hw
  obtain ⟨a1, a2⟩ := List.getElem?_eq_some_iff.1 h0
  obtain ⟨b1, b2⟩ := List.getElem?_eq_some_iff.1 h1
  have hv := tvalue_ok T x hT
  have hz := frz_tr0 ht 2
  unfold opB
  by_cases c1 : x = l
  · simp [w1, w2, wtB, a1, a2, b1, b2, c1]
  by_cases c2 : x = other
  · have c3 : ¬ other = l := fun e => c1 (c2.trans e)
    simp [w1, w2, wtB, a1, a2, b1, b2, c1, c2, c3]
  simp [w1, w2, wtB, a1, a2, b1, b2, c1, c2, hz]
  refine CallB.introP hv (by simp [c1, c2]) (by simp) ?_
  simp [c1, c2]
theorem isAt2_ok (x v : Int) : APure Tryz.prog 140 [I64 x, .iptr 1 [[I64 v]] 0 0] (fun r => r = .pv (BL (decide (x = v)))) := by
  refine apure1 hmo Tryz.func140 (by kernel_rfl) rfl rfl (by kernel_rfl) (Nat.le_of_ble_eq_true rfl) ?_
  simp
def othS (l : Int) (p : Pr) : Int := if p.x = l then p.y else p.x
def pick14 (T : Tr) (l : Int) (p : Pr) : Option Int := p.lits.find? (opB T l (othS l p))
def movP (l : Int) (p : Pr) (x : Int) : Pr := if p.x = l then ⟨p.lits, x, p.y⟩ else ⟨p.lits, p.x, x⟩
def movS (S : WS) (k l : Int) (p : Pr) (x : Int) : WS := ⟨pt S.prs k (movP l p x), addB (forB S.byl k l) k x, S.late, S.head, S.seen⟩
def lateS (S : WS) (k : Int) : WS := ⟨S.prs, S.byl, pt S.late k (w64 ((lk S.late k).getD 0 + 1)), S.head, S.seen⟩
def zerP (p : Pr) : Pr := ⟨p.lits, 0, 0⟩
def wstS (S : WS) (T : Tr) (l k : Int) (p : Pr) : WS := match pick14 T l p with
  | some x => movS S k l p x
  | none => freS (lateS (forS S k p) k) T k (zerP p)
def wstT (T : Tr) (l k : Int) (p : Pr) : Tr := match pick14 T l p with
  | some _ => T
  | none => freT T k (zerP p)
def wstB (T : Tr) (l : Int) (p : Pr) : Bool := match pick14 T l p with
  | some _ => false
  | none => freB T (zerP p)
def faiF (l : Int) : List Int → WS → Tr → WS × Tr × Int
  | [], S, T => (S, T, -1)
  | k :: ks, S, T => match lk S.prs k with
    | some p => if wstB T l p = true then (wstS S T l k p, wstT T l k p, k) else faiF l ks (wstS S T l k p) (wstT T l k p)
    | none => (S, T, -1)
structure StepOk (S : WS) (T : Tr) (l k : Int) (p : Pr) : Prop where
  hp : lk S.prs k = some p
  l0 : l ≠ 0
  two : p.x = l ∨ p.y = l
  lits : p.lits.length ≤ 1000000
  byl : ∃ zs, lk S.byl l = some zs ∧ zs ≠ []
  hx : p.x ≠ 0 → ∃ zs, lk S.byl p.x = some zs ∧ zs ≠ []
  hy : p.y ≠ 0 → ∃ zs, lk (forB S.byl k p.x) p.y = some zs ∧ zs ≠ []
  hz : ∀ l zs, lk S.byl l = some zs → zs.length ≤ 1000000
  ok : T.ok
  tl : T.lits.length ≤ 1000000
theorem forB_len {byl : List (Int × List Int)} {k l : Int} {n : Nat} (h : ∀ l zs, lk byl l = some zs → zs.length ≤ n) : ∀ m zs, lk (forB byl k l) m = some zs → zs.length ≤ n := fun m zs hm => by
  unfold forB at hm
  split at hm
  · exact h m zs hm
  · rw [lk_pt] at hm
    split at hm
    · cases hm
      refine Nat.le_trans (delS_len _ _) ?_
      cases hq : lk byl l with
      | none => exact Nat.zero_le _
      | some z => exact h l z hq
    · exact h m zs hm
def bvA (n m : Nat) : Array Bool := ((List.range n).map fun i => (m >>> i) % 2 == 1).toArray
def faB (a m : Nat) (zs : List Int) (i : Nat) (x : Int) : List (Nat × SV) := [(2, .pv (.ptr a 0)), (3, .pv (.ptr (a + 1) 0)), (5, .own true 1 (irow zs)), (6, .pv (.fn (.func 137) [] [.ptr (a + 1) 0, .ptr a 0])), (8, .pv (.ptr m 0)), (13, .pv (I64 x)), (22, .al (.slot 5)), (23, .pv (I64 zs.length)), (24, .pv (I64 i))]
set_option maxRecDepth 32000 in
set_option maxHeartbeats 8000000 in
theorem wfails_ok (h : List (List SV)) (bw ba bt : Nat) (mp : List (Int × Nat)) (mb : List (Int × By)) (A : Ar) (T : Tr) (S : WS) (L : LayW h bw ba bt mp mb A T S) (l : Int) (zs : List Int) (hzs : lk S.byl l = some zs) (hzl : zs.length ≤ 1000000) (J : Nat → WS → Tr → Prop) (hJ0 : J 0 S T)
    (hJ : ∀ i S' T', J i S' T' → ∀ (hi : i < zs.length), ∃ p, StepOk S' T' l zs[i] p ∧ (wstB T' l p = false → J (i + 1) (wstS S' T' l zs[i] p) (wstT T' l zs[i] p))) :
    AMut Tryz.prog 90 [.ptr bw 0, I64 l] h (fun r h' => r = .pv (I64 (faiF l zs S T).2.2) ∧ ∃ mb', LayW h' bw ba bt mp mb' A (faiF l zs S T).2.1 (faiF l zs S T).1 ∧ Ext h h' (DomW bw bt mp mb) (DomW bw bt mp mb')) := by
  refine amutX [1, 6, 7, 14, 15, 18] [.tmp 4] hmo Tryz.func90 (by kernel_rfl) rfl rfl (by kernel_rfl) (Nat.le_of_ble_eq_true rfl) ?_
  obtain ⟨e, he, ⟨sp, e1, e2, e3, e4, e5⟩, e6, e7, e8⟩ := L.some_b hzs
  obtain ⟨G, hG⟩ : ∃ G, G = h ++ [[SV.pv (.ptr bw 0)], [SV.pv (I64 l)]] := ⟨_, rfl⟩
  have L0 : LayW G bw ba bt mp mb A T S := by rw [hG]; exact L.app _
  have E0 : Ext h G (DomW bw bt mp mb) (DomW bw bt mp mb) := by rw [hG]; exact Ext.app _ _ _
  have n0? : G[h.length]? = some [.pv (.ptr bw 0)] := by rw [hG]; simp
  have n1? : G[h.length + 1]? = some [.pv (I64 l)] := by rw [hG]; simp
  have hout : ∀ b, h.length ≤ b → ¬ DomW bw bt mp mb b := fun b hb hd => by
    have lt : ∀ {c : Nat} {x : List SV}, h[c]? = some x → c < h.length := fun hx => (List.getElem?_eq_some_iff.1 hx).1
    rcases hd with q | q | ⟨k, q⟩ | ⟨l', e', q, rfl⟩
    · have := lt L.w; omega
    · have := lt L.t; omega
    · obtain ⟨_, _, a2, _⟩ := L.pr k b q; have := lt a2; omega
    · obtain ⟨_, _, ⟨_, a2, _⟩, _⟩ := L.by' l' e' q; have := lt a2; omega
  obtain ⟨w1, w2⟩ := List.getElem?_eq_some_iff.1 L0.w
  obtain ⟨a1, a2⟩ := List.getElem?_eq_some_iff.1 n0?
  obtain ⟨b1, b2⟩ := List.getElem?_eq_some_iff.1 n1?
  have hcl := clone_ok zs hzl
  have heG : G[e.b]? = some (icells zs ++ sp) := by rw [hG, List.getElem?_append_left (List.getElem?_eq_some_iff.1 e1).1, e1]
  have hfz : frzB (frzP G 3 e.b 0) 1 e.n = .seq false 1 (irow zs) := by rw [← e3]; exact frzB_ic G e.b zs sp heG 2
  have hF0 : faiF l zs S T = faiF l (zs.drop 0) S T := rfl
  generalize faiF l zs S T = Z at *
  simp
  rw [← hG]
  refine AAnyD.meet fa1Sch ⟨[(2, .pv (.ptr h.length 0)), (3, .pv (.ptr (h.length + 1) 0)), (5, .own true 1 (irow zs))], G⟩ (by kernel_rfl) ?_ ?_
  · simp [fa1Sch, w1, w2, wtB, a1, a2, b1, b2, he, byV, hfz]
    and_intros
    all_goals
      refine CallB.introP hcl (by simp) (by simp) ?_
      simp
      exact Weak.keep (by simp) rfl
  simp
  refine ALoop.intro (S := fun (x : Nat × List (List SV) × List (Int × By) × WS × Tr) => ⟨[(2, .pv (.ptr h.length 0)), (3, .pv (.ptr (h.length + 1) 0)), (5, .own true 1 (irow zs)), (6, .pv (.fn (.func 137) [] [.ptr (h.length + 1) 0, .ptr h.length 0])), (22, .al (.slot 5)), (23, .pv (I64 zs.length)), (24, .pv (I64 x.1))], x.2.1⟩)
    (fun x => x.1 ≤ zs.length ∧ LayW x.2.1 bw ba bt mp x.2.2.1 A x.2.2.2.2 x.2.2.2.1 ∧ J x.1 x.2.2.2.1 x.2.2.2.2 ∧ Ext G x.2.1 (DomW bw bt mp mb) (DomW bw bt mp x.2.2.1) ∧ Z = faiF l (zs.drop x.1) x.2.2.2.1 x.2.2.2.2)
    (fun x => zs.length - x.1) (0, G, mb, S, T) ?_ ⟨Nat.zero_le _, L0, hJ0, Ext.refl _ _, hF0⟩ ?_
  · exact Weak.keep (by simp) rfl
  rintro ⟨i, H, mb', S', T'⟩ ⟨hi, LH, hJ', hE, hZ⟩
  dsimp only at hi LH hJ' hE hZ
  have hGl : G.length = h.length + 2 := by rw [hG]; simp
  have m0? : H[h.length]? = some [.pv (.ptr bw 0)] := by rw [hE.same h.length (by omega) (hout _ (Nat.le_refl _)), n0?]
  have m1? : H[h.length + 1]? = some [.pv (I64 l)] := by rw [hE.same (h.length + 1) (by omega) (hout _ (by omega)), n1?]
  have hou2 : ∀ b, h.length ≤ b → b < G.length → ¬ DomW bw bt mp mb' b := fun b hb hb2 hd => hout b hb (hE.sub b hb2 hd)
  by_cases d : i < zs.length
  rotate_left
  · have : i = zs.length := by omega
    subst this
    rw [List.drop_eq_nil_of_le (Nat.le_refl _), faiF] at hZ
    subst hZ
    simp
    exact ⟨mb', LH, E0.trans hE⟩
  have hw' : w64 ((i : Int) + 1) = ((i + 1 : Nat) : Int) := by rw [w64_id (by omega) (by omega)]; omega
  have hq : zs[i]? = some zs[i] := List.getElem?_eq_getElem d
  obtain ⟨p, hS, hJn⟩ := hJ i S' T' hJ' d
  rw [List.drop_eq_getElem_cons d, faiF, hS.hp] at hZ
  simp only at hZ
  obtain ⟨k, hkk⟩ : ∃ k, zs[i] = k := ⟨_, rfl⟩
  rw [hkk] at hS hJn hZ hq
  obtain ⟨b, hb, q1, q2, q3, q4⟩ := LH.some_p hS.hp
  -- the number is boxed
  obtain ⟨G2, hG2⟩ : ∃ G2, G2 = H ++ [[SV.pv (I64 k)]] := ⟨_, rfl⟩
  have L2 : LayW G2 bw ba bt mp mb' A T' S' := by rw [hG2]; exact LH.app _
  have E2 : Ext H G2 (DomW bw bt mp mb') (DomW bw bt mp mb') := by rw [hG2]; exact Ext.app _ _ _
  have lt : ∀ {c : Nat} {x : List SV}, H[c]? = some x → c < H.length := fun hx => (List.getElem?_eq_some_iff.1 hx).1
  have up : ∀ {c : Nat} {x : List SV}, H[c]? = some x → G2[c]? = some x := fun hx => by rw [hG2, List.getElem?_append_left (lt hx), hx]
  have hk? : G2[H.length]? = some [.pv (I64 k)] := by rw [hG2]; simp
  have p0? := up m0?
  have p1? := up m1?
  have pb? := up q1
  have houk : ¬ DomW bw bt mp mb' H.length := fun hd => by
    rcases hd with q | q | ⟨k', q⟩ | ⟨l', e', q, qe⟩
    · have := lt LH.w; omega
    · have := lt LH.t; omega
    · obtain ⟨_, _, a2, _⟩ := LH.pr k' _ q; have := lt a2; omega
    · obtain ⟨_, _, ⟨_, a2, _⟩, _⟩ := LH.by' l' e' q; have := lt a2; omega
  obtain ⟨w3, w4⟩ := List.getElem?_eq_some_iff.1 L2.w
  obtain ⟨c1, c2⟩ := List.getElem?_eq_some_iff.1 p0?
  obtain ⟨d1, d2⟩ := List.getElem?_eq_some_iff.1 p1?
  obtain ⟨f1, f2⟩ := List.getElem?_eq_some_iff.1 hk?
  obtain ⟨g1, g2⟩ := List.getElem?_eq_some_iff.1 pb?
  obtain ⟨kx, hkx⟩ : ∃ kx : Nat, kx = if p.x = l then 0 else 1 := ⟨_, rfl⟩
  have hpos : posS [p.x, p.y] l = (kx : Int) := by
    unfold posS
    by_cases c : p.x = l
    · rw [hkx, if_pos c]
      exact idxS_at (i := 0) (by simp) (fun j hj h => by omega) (by simp [c])
    · rw [hkx, if_neg c]
      exact idxS_at (i := 1) (by simp) (fun j hj h => by have : j = 0 := by omega
                                                         subst this; simp [c]) (by simp [hS.two.resolve_left c])
  have hIx := index_ok [p.x, p.y] l (by simp)
  rw [hpos] at hIx
  have hfz2 : frzB (frzP G2 3 b 1) 1 2 = .seq false 1 (irow [p.x, p.y]) := by
    have e0 : G2.getD b [] = prB p := by rw [List.getD_eq_getElem?_getD, pb?]; rfl
    simp only [frzP, e0, prB, pairB]
    simp [frzB, frzC, irow]
  simp [d, hkk]
  rw [← hG2]
  refine AAnyD.meet fa6Sch ⟨[(2, .pv (.ptr h.length 0)), (3, .pv (.ptr (h.length + 1) 0)), (5, .own true 1 (irow zs)), (6, .pv (.fn (.func 137) [] [.ptr (h.length + 1) 0, .ptr h.length 0])), (22, .al (.slot 5)), (23, .pv (I64 zs.length)), (24, .pv (I64 i)), (8, .pv (.ptr H.length 0)), (9, .pv (.ptr b 0))], G2⟩ (by kernel_rfl) ?_ ?_
  · simp [fa6Sch, w3, w4, wtB, c1, c2, d1, d2, f1, f2, hb, prV]
    and_intros
    all_goals exact Weak.keep (by simp) rfl
  simp
  refine AAnyD.arr [] fa7Sch (fun _ : Unit => ⟨[(2, .pv (.ptr h.length 0)), (3, .pv (.ptr (h.length + 1) 0)), (5, .own true 1 (irow zs)), (6, .pv (.fn (.func 137) [] [.ptr (h.length + 1) 0, .ptr h.length 0])), (22, .al (.slot 5)), (23, .pv (I64 zs.length)), (24, .pv (I64 i)), (8, .pv (.ptr H.length 0)), (9, .pv (.ptr b 0)), (10, .pv (I64 kx))], G2⟩) (fun _ => True) (by kernel_rfl) ?_ ?_
  · simp [fa7Sch, w3, w4, wtB, c1, c2, d1, d2, f1, f2, g1, g2, prB, pairB, hfz2]
    refine CallB.introP hIx (by simp) (by simp) ?_
    simp
    exact Weak.keep (by simp) rfl
  rintro _ _
  have hkl : kx ≤ 1 := by rw [hkx]; split <;> omega
  have hw1 : w64 (1 - (kx : Int)) = ((1 - kx : Nat) : Int) := by rw [w64_id (by omega) (by omega)]; omega
  have hx1 : ((1 - kx : Nat) : Int) < 2 := by omega
  have hx2 : 1 + (1 - kx) < 3 := by omega
  have hcell : ∀ hh : 1 + (1 - kx) < [SV.pv (.seq false 1 (irow p.lits)), SV.pv (I64 p.x), SV.pv (I64 p.y)].length, [SV.pv (.seq false 1 (irow p.lits)), SV.pv (I64 p.x), SV.pv (I64 p.y)][1 + (1 - kx)]'hh = SV.pv (I64 (othS l p)) := fun hh => by
    unfold othS
    by_cases c : p.x = l
    · rw [if_pos c] at hkx
      subst hkx
      rw [if_pos c]; rfl
    · rw [if_neg c] at hkx
      subst hkx
      rw [if_neg c]; rfl
  simp [hw1, hx1, hx2, g1, g2, prB, pairB, hcell]
  have kO := fun x => wopen_ok G2 bw ba bt h.length ⟨mp, mb', S'.late, S'.head, S'.seen⟩ T' L2.w L2.t hS.ok l p0? p1? x (othS l p)
  have hpk : pick14 T' l p = (p.lits.drop 0).find? (opB T' l (othS l p)) := rfl
  refine ALoop.intro (S := fun (j : Nat) => ⟨[(2, .pv (.ptr h.length 0)), (3, .pv (.ptr (h.length + 1) 0)), (5, .own true 1 (irow zs)), (6, .pv (.fn (.func 137) [] [.ptr (h.length + 1) 0, .ptr h.length 0])), (22, .al (.slot 5)), (23, .pv (I64 zs.length)), (24, .pv (I64 i)), (8, .pv (.ptr H.length 0)), (9, .pv (.ptr b 0)), (10, .pv (I64 kx)), (11, .pv (I64 (othS l p))), (50, .pv (.seq false 1 (irow p.lits))), (51, .pv (I64 p.lits.length)), (52, .pv (I64 j))], G2⟩)
    (fun j => j ≤ p.lits.length ∧ pick14 T' l p = (p.lits.drop j).find? (opB T' l (othS l p))) (fun j => p.lits.length - j) 0 ?_ ⟨Nat.zero_le _, hpk⟩ ?_
  · exact Weak.keep (by simp) rfl
  rintro j ⟨hj, hpj⟩
  have hlits := hS.lits
  by_cases dj : j < p.lits.length
  · have hwj : w64 ((j : Int) + 1) = ((j + 1 : Nat) : Int) := by rw [w64_id (by omega) (by omega)]; omega
    have hqj : p.lits[j]? = some p.lits[j] := List.getElem?_eq_getElem dj
    rw [List.drop_eq_getElem_cons dj, List.find?_cons] at hpj
    simp [dj, hqj]
    refine CallB.intro (kO p.lits[j]) (by simp) ?_
    rintro _ H3 ⟨e3', rfl⟩
    rw [e3']
    clear e3' H3
    cases ho : opB T' l (othS l p) p.lits[j]
    · rw [ho] at hpj
      simp only at hpj
      simp
      exact ⟨j + 1, by (try dsimp only); omega, ⟨by (try dsimp only); omega, hpj⟩, Weak.keep (by simp [hwj]) rfl⟩
    · rw [ho] at hpj
      simp only at hpj
      have hk2 : (kx : Int) < 2 := by omega
      have hk3 : kx + 1 ≤ 2 := by omega
      simp [hk2, hk3, g1, g2, prB, pairB]
      refine ⟨by omega, ?_⟩
      have hset : List.take (1 + kx) [SV.pv (PV.seq false 1 (irow p.lits)), SV.pv (I64 p.x), SV.pv (I64 p.y)] ++ SV.pv (I64 p.lits[j]) :: List.drop (1 + kx) [SV.pv (I64 p.x), SV.pv (I64 p.y)] = prB (movP l p p.lits[j]) := by
        unfold movP
        by_cases c : p.x = l
        · rw [if_pos c] at hkx
          subst hkx
          rw [if_pos c]; rfl
        · rw [if_neg c] at hkx
          subst hkx
          rw [if_neg c]; rfl
      rw [hset]
      clear hset
      have eS : wstS S' T' l k p = movS S' k l p p.lits[j] := by unfold wstS; rw [hpj]
      have eT : wstT T' l k p = T' := by unfold wstT; rw [hpj]
      have eB : wstB T' l p = false := by unfold wstB; rw [hpj]
      rw [if_neg (by rw [eB]; simp)] at hZ
      have hJn := hJn eB
      rw [eS, eT] at hZ hJn
      generalize p.lits[j] = x at *
      have L6 := L2.setP hb (movP l p x) (L2.keys.trans (pt_keepW _ hS.hp).symm)
      have E6 := Ext.set (h := G2) (D := DomW bw bt mp mb') b (prB (movP l p x)) (.inr (.inr (.inl ⟨k, hb⟩)))
      have n2 : ¬ DomW bw bt mp mb' h.length := hou2 _ (Nat.le_refl _) (by omega)
      have n3 : ¬ DomW bw bt mp mb' (h.length + 1) := hou2 _ (by omega) (by omega)
      generalize hH6 : G2.set b (prB (movP l p x)) = H6 at *
      have h60? : H6[h.length]? = some [.pv (.ptr bw 0)] := by rw [E6.same h.length c1 n2, p0?]
      have h61? : H6[h.length + 1]? = some [.pv (I64 l)] := by rw [E6.same (h.length + 1) d1 n3, p1?]
      have hk6? : H6[H.length]? = some [.pv (I64 k)] := by rw [E6.same H.length f1 houk, hk?]
      obtain ⟨h6a, h6b⟩ := List.getElem?_eq_some_iff.1 L6.w
      obtain ⟨h6c, h6d⟩ := List.getElem?_eq_some_iff.1 h60?
      obtain ⟨h6e, h6f⟩ := List.getElem?_eq_some_iff.1 h61?
      obtain ⟨h6g, h6h⟩ := List.getElem?_eq_some_iff.1 hk6?
      obtain ⟨z9, hz9, hz9n⟩ := hS.byl
      obtain ⟨ey, hey, ⟨sp9, ey1, ey2, ey3, ey4, ey5⟩, ey6, ey7, ey8⟩ := L6.some_b (show lk S'.byl l = some z9 from hz9)
      have hzl9 : z9.length ≤ 1000000 := hS.hz l z9 hz9
      have hpos9 : 0 < z9.length := List.length_pos_iff.2 hz9n
      have hdey : DomW bw bt mp mb' ey.b := .inr (.inr (.inr ⟨l, ey, hey, rfl⟩))
      have hbox : H.length ≠ ey.b := fun q => houk (q ▸ hdey)
      have hb0n : ey.b ≠ h.length := fun q => n2 (q ▸ hdey)
      have hb1n : ey.b ≠ h.length + 1 := fun q => n3 (q ▸ hdey)
      have hD9 := deleteF_ok z9 hzl9 140 [.iptr 1 [[I64 k]] 0 0] (fun q => decide (q = k)) (fun r => by simp) rfl (fun m => by simp) (by simp) (fun q _ => isAt2_ok q k)
      have hDl9 : (delS (fun q => decide (q = k)) z9).length ≤ z9.length := delS_len _ _
      obtain ⟨Z9, hZ9⟩ : ∃ Z9, Z9 = delS (fun q => decide (q = k)) z9 := ⟨_, rfl⟩
      unfold delR at hD9
      rw [← hZ9] at hD9 hDl9
      obtain ⟨X9, hX9⟩ : ∃ X : List SV, X = (Z9 ++ List.replicate (z9.length - Z9.length) 0).map (fun z => SV.pv (.lit (.int .i64 z))) ++ sp9 := ⟨_, rfl⟩
      have hXc : X9 = icells Z9 ++ ((List.replicate (z9.length - Z9.length) 0).map (fun z => SV.pv (.lit (.int .i64 z))) ++ sp9) := by
        rw [hX9, List.map_append, List.append_assoc]; rfl
      have L7 := L6.setB hey Z9 ((List.replicate (z9.length - Z9.length) 0).map (fun z => SV.pv (.lit (.int .i64 z))) ++ sp9) (fun m => belowC_ic m (ey2 m) _) Z9.length rfl (by omega) (by simp; omega)
      rw [← hXc] at L7
      have E7 : Ext H6 ((H6.set ey.b X9).set bw (wtB ba bt ⟨mp, pt mb' l ⟨ey.b, Z9.length, ey.cp⟩, S'.late, S'.head, S'.seen⟩)) (DomW bw bt mp mb') (DomW bw bt mp (pt mb' l ⟨ey.b, Z9.length, ey.cp⟩)) := by
        refine (((Ext.set ey.b X9 hdey).trans (Ext.set bw _ (.inl rfl))).dom ?_)
        rintro c _ (q | q | q | ⟨l', e', q, rfl⟩)
        · exact .inl q
        · exact .inr (.inl q)
        · exact .inr (.inr (.inl q))
        · rw [lk_pt] at q
          split at q
          · cases q; exact hdey
          · exact .inr (.inr (.inr ⟨l', e', q, rfl⟩))
      obtain ⟨H7a, hH7a⟩ : ∃ H7a, H7a = H6.set ey.b X9 := ⟨_, rfl⟩
      rw [← hH7a] at L7 E7
      have h7w? : H7a[bw]? = some (wtB ba bt ⟨mp, mb', S'.late, S'.head, S'.seen⟩) := by rw [hH7a, List.getElem?_set_ne ey6]; exact L6.w
      have h70? : H7a[h.length]? = some [.pv (.ptr bw 0)] := by rw [hH7a, List.getElem?_set_ne hb0n, h60?]
      have h71? : H7a[h.length + 1]? = some [.pv (I64 l)] := by rw [hH7a, List.getElem?_set_ne hb1n, h61?]
      have h7k? : H7a[H.length]? = some [.pv (I64 k)] := by rw [hH7a, List.getElem?_set_ne hbox.symm, hk6?]
      obtain ⟨h7a, h7b⟩ := List.getElem?_eq_some_iff.1 h7w?
      obtain ⟨h7c, h7d⟩ := List.getElem?_eq_some_iff.1 h70?
      obtain ⟨h7e, h7f⟩ := List.getElem?_eq_some_iff.1 h71?
      obtain ⟨h7g, h7h⟩ := List.getElem?_eq_some_iff.1 h7k?
      have fF := And.intro h6a (And.intro h6b (And.intro h6c (And.intro h6d (And.intro h6e (And.intro h6f (And.intro h6g (And.intro h6h (And.intro h7a (And.intro h7b (And.intro h7c (And.intro h7d (And.intro h7e (And.intro h7f (And.intro h7g (And.intro h7h (And.intro hey (And.intro ey6 ey6.symm)))))))))))))))))
      refine AAnyD.dagE [] (fun _ : Unit => ⟨[(2, .pv (.ptr h.length 0)), (3, .pv (.ptr (h.length + 1) 0)), (5, .own true 1 (irow zs)), (6, .pv (.fn (.func 137) [] [.ptr (h.length + 1) 0, .ptr h.length 0])), (8, .pv (.ptr H.length 0)), (13, .pv (I64 x)), (22, .al (.slot 5)), (23, .pv (I64 zs.length)), (24, .pv (I64 i))], H7a.set bw (wtB ba bt ⟨mp, pt mb' l ⟨ey.b, Z9.length, ey.cp⟩, S'.late, S'.head, S'.seen⟩)⟩) (fun _ => True) 14 (bvA 14 0) (by kernel_rfl) (fun stp stM hstp hstM C hC => ?_) ?_
      · have oe0 := hstM 0
        simp only [AStepMI, AStepM, blkOf, cutOfB, AStepI, AStep, AEx, gslot, boxedIn, List.getElem?_cons_zero, List.getElem?_cons_succ, Option.bind_some, Bool.or_false, Bool.false_or, Bool.or_true, Bool.true_or, Bool.false_and, Bool.true_and, Bool.false_eq_true, if_false] at oe0
        have oe1 := hstp 1
        simp only [AStepI, AStep, AEx, gslot, boxedIn, List.getElem?_cons_zero, List.getElem?_cons_succ, Option.bind_some, Bool.or_false, Bool.false_or, Bool.or_true, Bool.true_or, Bool.false_and, Bool.true_and, Bool.false_eq_true, if_false] at oe1
        have oe2 := hstp 2
        simp only [AStepI, AStep, AEx, gslot, boxedIn, List.getElem?_cons_zero, List.getElem?_cons_succ, Option.bind_some, Bool.or_false, Bool.false_or, Bool.or_true, Bool.true_or, Bool.false_and, Bool.true_and, Bool.false_eq_true, if_false] at oe2
        have oe3 := hstM 3
        simp only [AStepMI, AStepM, blkOf, cutOfB, AStepI, AStep, AEx, gslot, boxedIn, List.getElem?_cons_zero, List.getElem?_cons_succ, Option.bind_some, Bool.or_false, Bool.false_or, Bool.or_true, Bool.true_or, Bool.false_and, Bool.true_and, Bool.false_eq_true, if_false] at oe3
        have oe4 := hstM 4
        simp only [AStepMI, AStepM, blkOf, cutOfB, AStepI, AStep, AEx, gslot, boxedIn, List.getElem?_cons_zero, List.getElem?_cons_succ, Option.bind_some, Bool.or_false, Bool.false_or, Bool.or_true, Bool.true_or, Bool.false_and, Bool.true_and, Bool.false_eq_true, if_false] at oe4
        have oe5 := hstM 5
        simp only [AStepMI, AStepM, blkOf, cutOfB, AStepI, AStep, AEx, gslot, boxedIn, List.getElem?_cons_zero, List.getElem?_cons_succ, Option.bind_some, Bool.or_false, Bool.false_or, Bool.or_true, Bool.true_or, Bool.false_and, Bool.true_and, Bool.false_eq_true, if_false] at oe5
        have oe6 := hstp 6
        simp only [AStepI, AStep, AEx, gslot, boxedIn, List.getElem?_cons_zero, List.getElem?_cons_succ, Option.bind_some, Bool.or_false, Bool.false_or, Bool.or_true, Bool.true_or, Bool.false_and, Bool.true_and, Bool.false_eq_true, if_false] at oe6
        have oe7 := hstp 7
        simp only [AStepI, AStep, AEx, gslot, boxedIn, List.getElem?_cons_zero, List.getElem?_cons_succ, Option.bind_some, Bool.or_false, Bool.false_or, Bool.or_true, Bool.true_or, Bool.false_and, Bool.true_and, Bool.false_eq_true, if_false] at oe7
        have oe8 := hstM 8
        simp only [AStepMI, AStepM, blkOf, cutOfB, AStepI, AStep, AEx, gslot, boxedIn, List.getElem?_cons_zero, List.getElem?_cons_succ, Option.bind_some, Bool.or_false, Bool.false_or, Bool.or_true, Bool.true_or, Bool.false_and, Bool.true_and, Bool.false_eq_true, if_false] at oe8
        have oe9 := hstM 9
        simp only [AStepMI, AStepM, blkOf, cutOfB, AStepI, AStep, AEx, gslot, boxedIn, List.getElem?_cons_zero, List.getElem?_cons_succ, Option.bind_some, Bool.or_false, Bool.false_or, Bool.or_true, Bool.true_or, Bool.false_and, Bool.true_and, Bool.false_eq_true, if_false] at oe9
        have oe10 := hstM 10
        simp only [AStepMI, AStepM, blkOf, cutOfB, AStepI, AStep, AEx, gslot, boxedIn, List.getElem?_cons_zero, List.getElem?_cons_succ, Option.bind_some, Bool.or_false, Bool.false_or, Bool.or_true, Bool.true_or, Bool.false_and, Bool.true_and, Bool.false_eq_true, if_false] at oe10
        have oe11 := hstM 11
        simp only [AStepMI, AStepM, blkOf, cutOfB, AStepI, AStep, AEx, gslot, boxedIn, List.getElem?_cons_zero, List.getElem?_cons_succ, Option.bind_some, Bool.or_false, Bool.false_or, Bool.or_true, Bool.true_or, Bool.false_and, Bool.true_and, Bool.false_eq_true, if_false] at oe11
        have oe12 := hstM 12
        simp only [AStepMI, AStepM, blkOf, cutOfB, AStepI, AStep, AEx, gslot, boxedIn, List.getElem?_cons_zero, List.getElem?_cons_succ, Option.bind_some, Bool.or_false, Bool.false_or, Bool.or_true, Bool.true_or, Bool.false_and, Bool.true_and, Bool.false_eq_true, if_false] at oe12
        have oe13 := hstM 13
        simp only [AStepMI, AStepM, blkOf, cutOfB, AStepI, AStep, AEx, gslot, boxedIn, List.getElem?_cons_zero, List.getElem?_cons_succ, Option.bind_some, Bool.or_false, Bool.false_or, Bool.or_true, Bool.true_or, Bool.false_and, Bool.true_and, Bool.false_eq_true, if_false] at oe13
        clear hstp hstM
        have d0 : C 0 (bvA 14 16383) ⟨faB h.length H.length zs i x ++ [], H7a.set bw (wtB ba bt ⟨mp, pt mb' l ⟨ey.b, Z9.length, ey.cp⟩, S'.late, S'.head, S'.seen⟩)⟩ := by
          refine hC.done _ _ _ ?_ ?_
          · kernel_rfl
          exact ⟨(), trivial, Weak.keep (by simp [faB]) rfl⟩
        have d1 : C 1 (bvA 14 8191) ⟨faB h.length H.length zs i x ++ [(69, .al (.cell bw 3)), (70, .pv (I64 l)), (78, .pv (.bsl ey.b 1 0 Z9.length ey.cp))], H7a⟩ := by
          refine hC.fork [(13, (bvA 14 16383))] ?_ ⟨?_, trivial⟩
          · kernel_rfl
          · simp [oe13, fF, byV, wtB, qCells, faB]
            refine hC.weak d0 (Weak.keep ?_ ?_) <;> simp [fF, byV, wtB, qCells, faB]
        have d2 : C 2 (bvA 14 4095) ⟨faB h.length H.length zs i x ++ [(69, .al (.cell bw 3)), (70, .pv (I64 l)), (76, .pv (.bsl ey.b 1 0 ey.n ey.cp)), (77, .pv (.fn (.func 140) [] [.ptr H.length 0]))], H6⟩ := by
          refine hC.fork [(12, (bvA 14 8191))] ?_ ⟨?_, trivial⟩
          · kernel_rfl
          · simp [oe12, fF, byV, wtB, qCells, faB]
            refine CallB.introX (CallX.introT (b := ey.b) (b2 := H.length) (zs := z9) (sp := sp9) (cp := ey.cp) hD9 (by simp) (by simp) rfl (by simp) (by simp [ey3]) (by simp) (by simp) ey1 hk6? hbox hpos9 hzl9 ?_)
            rintro _ _ ⟨rfl, rfl⟩
            refine ⟨_, _, rfl, rfl, by simp; omega, hDl9, ?_⟩
            rw [← hX9, ← hH7a]
            simp [ey6, ey6.symm, qCells, faB]
            refine hC.weak d1 (Weak.keep ?_ ?_) <;> simp [fF, byV, wtB, qCells, faB]
        have d3 : C 3 (bvA 14 2047) ⟨faB h.length H.length zs i x ++ [(69, .al (.cell bw 3)), (70, .pv (I64 l)), (76, .pv (.bsl ey.b 1 0 ey.n ey.cp))], H6⟩ := by
          refine hC.fork [(11, (bvA 14 4095))] ?_ ⟨?_, trivial⟩
          · kernel_rfl
          · simp [oe11, fF, byV, wtB, qCells, faB]
            refine hC.weak d2 (Weak.keep ?_ ?_) <;> simp [fF, byV, wtB, qCells, faB]
        have d4 : C 3 (bvA 14 3071) ⟨faB h.length H.length zs i x ++ [(69, .al (.cell bw 3)), (70, .pv (I64 l)), (74, .al (.cell bw 3)), (75, .pv (I64 l)), (77, .pv (.fn (.func 140) [] [.ptr H.length 0]))], H6⟩ := by
          refine hC.fork [(10, (bvA 14 4095))] ?_ ⟨?_, trivial⟩
          · kernel_rfl
          · simp [oe10, fF, byV, wtB, qCells, faB]
            refine hC.weak d2 (Weak.keep ?_ ?_) <;> simp [fF, byV, wtB, qCells, faB]
        have d5 : C 4 (bvA 14 1023) ⟨faB h.length H.length zs i x ++ [(69, .al (.cell bw 3)), (70, .pv (I64 l)), (74, .al (.cell bw 3)), (75, .pv (I64 l))], H6⟩ := by
          refine hC.fork [(10, (bvA 14 2047)), (11, (bvA 14 3071))] ?_ ⟨?_, ?_, trivial⟩
          · kernel_rfl
          · simp [oe10, fF, byV, wtB, qCells, faB]
            refine hC.weak d3 (Weak.keep ?_ ?_) <;> simp [fF, byV, wtB, qCells, faB]
          · simp [oe11, fF, byV, wtB, qCells, faB]
            refine hC.weak d4 (Weak.keep ?_ ?_) <;> simp [fF, byV, wtB, qCells, faB]
        have d6 : C 4 (bvA 14 2559) ⟨faB h.length H.length zs i x ++ [(69, .al (.cell bw 3)), (70, .pv (I64 l)), (74, .al (.cell bw 3)), (77, .pv (.fn (.func 140) [] [.ptr H.length 0]))], H6⟩ := by
          refine hC.fork [(9, (bvA 14 3071))] ?_ ⟨?_, trivial⟩
          · kernel_rfl
          · simp [oe9, fF, byV, wtB, qCells, faB]
            refine hC.weak d4 (Weak.keep ?_ ?_) <;> simp [fF, byV, wtB, qCells, faB]
        have d7 : C 5 (bvA 14 511) ⟨faB h.length H.length zs i x ++ [(69, .al (.cell bw 3)), (70, .pv (I64 l)), (74, .al (.cell bw 3))], H6⟩ := by
          refine hC.fork [(9, (bvA 14 1023)), (11, (bvA 14 2559))] ?_ ⟨?_, ?_, trivial⟩
          · kernel_rfl
          · simp [oe9, fF, byV, wtB, qCells, faB]
            refine hC.weak d5 (Weak.keep ?_ ?_) <;> simp [fF, byV, wtB, qCells, faB]
          · simp [oe11, fF, byV, wtB, qCells, faB]
            refine hC.weak d6 (Weak.keep ?_ ?_) <;> simp [fF, byV, wtB, qCells, faB]
        have d8 : C 4 (bvA 14 2815) ⟨faB h.length H.length zs i x ++ [(69, .al (.cell bw 3)), (70, .pv (I64 l)), (73, .pv (.ptr bw 3)), (75, .pv (I64 l)), (77, .pv (.fn (.func 140) [] [.ptr H.length 0]))], H6⟩ := by
          refine hC.fork [(8, (bvA 14 3071))] ?_ ⟨?_, trivial⟩
          · kernel_rfl
          · simp [oe8, fF, byV, wtB, qCells, faB]
            refine hC.weak d4 (Weak.keep ?_ ?_) <;> simp [fF, byV, wtB, qCells, faB]
        have d9 : C 5 (bvA 14 767) ⟨faB h.length H.length zs i x ++ [(69, .al (.cell bw 3)), (70, .pv (I64 l)), (73, .pv (.ptr bw 3)), (75, .pv (I64 l))], H6⟩ := by
          refine hC.fork [(8, (bvA 14 1023)), (11, (bvA 14 2815))] ?_ ⟨?_, ?_, trivial⟩
          · kernel_rfl
          · simp [oe8, fF, byV, wtB, qCells, faB]
            refine hC.weak d5 (Weak.keep ?_ ?_) <;> simp [fF, byV, wtB, qCells, faB]
          · simp [oe11, fF, byV, wtB, qCells, faB]
            refine hC.weak d8 (Weak.keep ?_ ?_) <;> simp [fF, byV, wtB, qCells, faB]
        have d10 : C 5 (bvA 14 2303) ⟨faB h.length H.length zs i x ++ [(69, .al (.cell bw 3)), (70, .pv (I64 l)), (73, .pv (.ptr bw 3)), (77, .pv (.fn (.func 140) [] [.ptr H.length 0]))], H6⟩ := by
          refine hC.fork [(8, (bvA 14 2559)), (9, (bvA 14 2815))] ?_ ⟨?_, ?_, trivial⟩
          · kernel_rfl
          · simp [oe8, fF, byV, wtB, qCells, faB]
            refine hC.weak d6 (Weak.keep ?_ ?_) <;> simp [fF, byV, wtB, qCells, faB]
          · simp [oe9, fF, byV, wtB, qCells, faB]
            refine hC.weak d8 (Weak.keep ?_ ?_) <;> simp [fF, byV, wtB, qCells, faB]
        have d11 : C 6 (bvA 14 255) ⟨faB h.length H.length zs i x ++ [(69, .al (.cell bw 3)), (70, .pv (I64 l)), (73, .pv (.ptr bw 3))], H6⟩ := by
          refine hC.fork [(8, (bvA 14 511)), (9, (bvA 14 767)), (11, (bvA 14 2303))] ?_ ⟨?_, ?_, ?_, trivial⟩
          · kernel_rfl
          · simp [oe8, fF, byV, wtB, qCells, faB]
            refine hC.weak d7 (Weak.keep ?_ ?_) <;> simp [fF, byV, wtB, qCells, faB]
          · simp [oe9, fF, byV, wtB, qCells, faB]
            refine hC.weak d9 (Weak.keep ?_ ?_) <;> simp [fF, byV, wtB, qCells, faB]
          · simp [oe11, fF, byV, wtB, qCells, faB]
            refine hC.weak d10 (Weak.keep ?_ ?_) <;> simp [fF, byV, wtB, qCells, faB]
        have d12 : C 7 (bvA 14 2591) ⟨faB h.length H.length zs i x ++ [(69, .al (.cell bw 3)), (70, .pv (I64 l)), (75, .pv (I64 l)), (77, .pv (.fn (.func 140) [] [.ptr H.length 0]))], H6⟩ := by
          refine hC.fork [(5, (bvA 14 2623))] ?_ ⟨?_, trivial⟩
          · kernel_rfl
          · simp [oe5, fF, byV, wtB, qCells, faB]
            refine hC.take 6 (bvA 14 2687) ?_ ?_
            · kernel_rfl
            simp [oe6, fF, byV, wtB, qCells, faB]
            refine hC.take 7 (bvA 14 2815) ?_ ?_
            · kernel_rfl
            simp [oe7, fF, byV, wtB, qCells, faB]
            refine hC.weak d8 (Weak.keep ?_ ?_) <;> simp [fF, byV, wtB, qCells, faB]
        have d13 : C 8 (bvA 14 543) ⟨faB h.length H.length zs i x ++ [(69, .al (.cell bw 3)), (70, .pv (I64 l)), (75, .pv (I64 l))], H6⟩ := by
          refine hC.fork [(5, (bvA 14 575)), (11, (bvA 14 2591))] ?_ ⟨?_, ?_, trivial⟩
          · kernel_rfl
          · simp [oe5, fF, byV, wtB, qCells, faB]
            refine hC.take 6 (bvA 14 639) ?_ ?_
            · kernel_rfl
            simp [oe6, fF, byV, wtB, qCells, faB]
            refine hC.take 7 (bvA 14 767) ?_ ?_
            · kernel_rfl
            simp [oe7, fF, byV, wtB, qCells, faB]
            refine hC.weak d9 (Weak.keep ?_ ?_) <;> simp [fF, byV, wtB, qCells, faB]
          · simp [oe11, fF, byV, wtB, qCells, faB]
            refine hC.weak d12 (Weak.keep ?_ ?_) <;> simp [fF, byV, wtB, qCells, faB]
        have d14 : C 8 (bvA 14 2079) ⟨faB h.length H.length zs i x ++ [(69, .al (.cell bw 3)), (70, .pv (I64 l)), (77, .pv (.fn (.func 140) [] [.ptr H.length 0]))], H6⟩ := by
          refine hC.fork [(5, (bvA 14 2111)), (9, (bvA 14 2591))] ?_ ⟨?_, ?_, trivial⟩
          · kernel_rfl
          · simp [oe5, fF, byV, wtB, qCells, faB]
            refine hC.take 6 (bvA 14 2175) ?_ ?_
            · kernel_rfl
            simp [oe6, fF, byV, wtB, qCells, faB]
            refine hC.take 7 (bvA 14 2303) ?_ ?_
            · kernel_rfl
            simp [oe7, fF, byV, wtB, qCells, faB]
            refine hC.weak d10 (Weak.keep ?_ ?_) <;> simp [fF, byV, wtB, qCells, faB]
          · simp [oe9, fF, byV, wtB, qCells, faB]
            refine hC.weak d12 (Weak.keep ?_ ?_) <;> simp [fF, byV, wtB, qCells, faB]
        have d15 : C 9 (bvA 14 31) ⟨faB h.length H.length zs i x ++ [(69, .al (.cell bw 3)), (70, .pv (I64 l))], H6⟩ := by
          refine hC.fork [(5, (bvA 14 63)), (9, (bvA 14 543)), (11, (bvA 14 2079))] ?_ ⟨?_, ?_, ?_, trivial⟩
          · kernel_rfl
          · simp [oe5, fF, byV, wtB, qCells, faB]
            refine hC.take 6 (bvA 14 127) ?_ ?_
            · kernel_rfl
            simp [oe6, fF, byV, wtB, qCells, faB]
            refine hC.take 7 (bvA 14 255) ?_ ?_
            · kernel_rfl
            simp [oe7, fF, byV, wtB, qCells, faB]
            refine hC.weak d11 (Weak.keep ?_ ?_) <;> simp [fF, byV, wtB, qCells, faB]
          · simp [oe9, fF, byV, wtB, qCells, faB]
            refine hC.weak d13 (Weak.keep ?_ ?_) <;> simp [fF, byV, wtB, qCells, faB]
          · simp [oe11, fF, byV, wtB, qCells, faB]
            refine hC.weak d14 (Weak.keep ?_ ?_) <;> simp [fF, byV, wtB, qCells, faB]
        have d16 : C 2 (bvA 14 8175) ⟨faB h.length H.length zs i x ++ [(69, .al (.cell bw 3)), (78, .pv (.bsl ey.b 1 0 Z9.length ey.cp))], H7a⟩ := by
          refine hC.fork [(4, (bvA 14 8191))] ?_ ⟨?_, trivial⟩
          · kernel_rfl
          · simp [oe4, fF, byV, wtB, qCells, faB]
            refine hC.weak d1 (Weak.keep ?_ ?_) <;> simp [fF, byV, wtB, qCells, faB]
        have d17 : C 3 (bvA 14 4079) ⟨faB h.length H.length zs i x ++ [(69, .al (.cell bw 3)), (76, .pv (.bsl ey.b 1 0 ey.n ey.cp)), (77, .pv (.fn (.func 140) [] [.ptr H.length 0]))], H6⟩ := by
          refine hC.fork [(4, (bvA 14 4095)), (12, (bvA 14 8175))] ?_ ⟨?_, ?_, trivial⟩
          · kernel_rfl
          · simp [oe4, fF, byV, wtB, qCells, faB]
            refine hC.weak d2 (Weak.keep ?_ ?_) <;> simp [fF, byV, wtB, qCells, faB]
          · simp [oe12, fF, byV, wtB, qCells, faB]
            refine CallB.introX (CallX.introT (b := ey.b) (b2 := H.length) (zs := z9) (sp := sp9) (cp := ey.cp) hD9 (by simp) (by simp) rfl (by simp) (by simp [ey3]) (by simp) (by simp) ey1 hk6? hbox hpos9 hzl9 ?_)
            rintro _ _ ⟨rfl, rfl⟩
            refine ⟨_, _, rfl, rfl, by simp; omega, hDl9, ?_⟩
            rw [← hX9, ← hH7a]
            simp [ey6, ey6.symm, qCells, faB]
            refine hC.weak d16 (Weak.keep ?_ ?_) <;> simp [fF, byV, wtB, qCells, faB]
        have d18 : C 4 (bvA 14 2031) ⟨faB h.length H.length zs i x ++ [(69, .al (.cell bw 3)), (76, .pv (.bsl ey.b 1 0 ey.n ey.cp))], H6⟩ := by
          refine hC.fork [(4, (bvA 14 2047)), (11, (bvA 14 4079))] ?_ ⟨?_, ?_, trivial⟩
          · kernel_rfl
          · simp [oe4, fF, byV, wtB, qCells, faB]
            refine hC.weak d3 (Weak.keep ?_ ?_) <;> simp [fF, byV, wtB, qCells, faB]
          · simp [oe11, fF, byV, wtB, qCells, faB]
            refine hC.weak d17 (Weak.keep ?_ ?_) <;> simp [fF, byV, wtB, qCells, faB]
        have d19 : C 4 (bvA 14 3055) ⟨faB h.length H.length zs i x ++ [(69, .al (.cell bw 3)), (74, .al (.cell bw 3)), (75, .pv (I64 l)), (77, .pv (.fn (.func 140) [] [.ptr H.length 0]))], H6⟩ := by
          refine hC.fork [(4, (bvA 14 3071)), (10, (bvA 14 4079))] ?_ ⟨?_, ?_, trivial⟩
          · kernel_rfl
          · simp [oe4, fF, byV, wtB, qCells, faB]
            refine hC.weak d4 (Weak.keep ?_ ?_) <;> simp [fF, byV, wtB, qCells, faB]
          · simp [oe10, fF, byV, wtB, qCells, faB]
            refine hC.weak d17 (Weak.keep ?_ ?_) <;> simp [fF, byV, wtB, qCells, faB]
        have d20 : C 5 (bvA 14 1007) ⟨faB h.length H.length zs i x ++ [(69, .al (.cell bw 3)), (74, .al (.cell bw 3)), (75, .pv (I64 l))], H6⟩ := by
          refine hC.fork [(4, (bvA 14 1023)), (10, (bvA 14 2031)), (11, (bvA 14 3055))] ?_ ⟨?_, ?_, ?_, trivial⟩
          · kernel_rfl
          · simp [oe4, fF, byV, wtB, qCells, faB]
            refine hC.weak d5 (Weak.keep ?_ ?_) <;> simp [fF, byV, wtB, qCells, faB]
          · simp [oe10, fF, byV, wtB, qCells, faB]
            refine hC.weak d18 (Weak.keep ?_ ?_) <;> simp [fF, byV, wtB, qCells, faB]
          · simp [oe11, fF, byV, wtB, qCells, faB]
            refine hC.weak d19 (Weak.keep ?_ ?_) <;> simp [fF, byV, wtB, qCells, faB]
        have d21 : C 5 (bvA 14 2543) ⟨faB h.length H.length zs i x ++ [(69, .al (.cell bw 3)), (74, .al (.cell bw 3)), (77, .pv (.fn (.func 140) [] [.ptr H.length 0]))], H6⟩ := by
          refine hC.fork [(4, (bvA 14 2559)), (9, (bvA 14 3055))] ?_ ⟨?_, ?_, trivial⟩
          · kernel_rfl
          · simp [oe4, fF, byV, wtB, qCells, faB]
            refine hC.weak d6 (Weak.keep ?_ ?_) <;> simp [fF, byV, wtB, qCells, faB]
          · simp [oe9, fF, byV, wtB, qCells, faB]
            refine hC.weak d19 (Weak.keep ?_ ?_) <;> simp [fF, byV, wtB, qCells, faB]
        have d22 : C 6 (bvA 14 495) ⟨faB h.length H.length zs i x ++ [(69, .al (.cell bw 3)), (74, .al (.cell bw 3))], H6⟩ := by
          refine hC.fork [(4, (bvA 14 511)), (9, (bvA 14 1007)), (11, (bvA 14 2543))] ?_ ⟨?_, ?_, ?_, trivial⟩
          · kernel_rfl
          · simp [oe4, fF, byV, wtB, qCells, faB]
            refine hC.weak d7 (Weak.keep ?_ ?_) <;> simp [fF, byV, wtB, qCells, faB]
          · simp [oe9, fF, byV, wtB, qCells, faB]
            refine hC.weak d20 (Weak.keep ?_ ?_) <;> simp [fF, byV, wtB, qCells, faB]
          · simp [oe11, fF, byV, wtB, qCells, faB]
            refine hC.weak d21 (Weak.keep ?_ ?_) <;> simp [fF, byV, wtB, qCells, faB]
        have d23 : C 5 (bvA 14 2799) ⟨faB h.length H.length zs i x ++ [(69, .al (.cell bw 3)), (73, .pv (.ptr bw 3)), (75, .pv (I64 l)), (77, .pv (.fn (.func 140) [] [.ptr H.length 0]))], H6⟩ := by
          refine hC.fork [(4, (bvA 14 2815)), (8, (bvA 14 3055))] ?_ ⟨?_, ?_, trivial⟩
          · kernel_rfl
          · simp [oe4, fF, byV, wtB, qCells, faB]
            refine hC.weak d8 (Weak.keep ?_ ?_) <;> simp [fF, byV, wtB, qCells, faB]
          · simp [oe8, fF, byV, wtB, qCells, faB]
            refine hC.weak d19 (Weak.keep ?_ ?_) <;> simp [fF, byV, wtB, qCells, faB]
        have d24 : C 6 (bvA 14 751) ⟨faB h.length H.length zs i x ++ [(69, .al (.cell bw 3)), (73, .pv (.ptr bw 3)), (75, .pv (I64 l))], H6⟩ := by
          refine hC.fork [(4, (bvA 14 767)), (8, (bvA 14 1007)), (11, (bvA 14 2799))] ?_ ⟨?_, ?_, ?_, trivial⟩
          · kernel_rfl
          · simp [oe4, fF, byV, wtB, qCells, faB]
            refine hC.weak d9 (Weak.keep ?_ ?_) <;> simp [fF, byV, wtB, qCells, faB]
          · simp [oe8, fF, byV, wtB, qCells, faB]
            refine hC.weak d20 (Weak.keep ?_ ?_) <;> simp [fF, byV, wtB, qCells, faB]
          · simp [oe11, fF, byV, wtB, qCells, faB]
            refine hC.weak d23 (Weak.keep ?_ ?_) <;> simp [fF, byV, wtB, qCells, faB]
        have d25 : C 6 (bvA 14 2287) ⟨faB h.length H.length zs i x ++ [(69, .al (.cell bw 3)), (73, .pv (.ptr bw 3)), (77, .pv (.fn (.func 140) [] [.ptr H.length 0]))], H6⟩ := by
          refine hC.fork [(4, (bvA 14 2303)), (8, (bvA 14 2543)), (9, (bvA 14 2799))] ?_ ⟨?_, ?_, ?_, trivial⟩
          · kernel_rfl
          · simp [oe4, fF, byV, wtB, qCells, faB]
            refine hC.weak d10 (Weak.keep ?_ ?_) <;> simp [fF, byV, wtB, qCells, faB]
          · simp [oe8, fF, byV, wtB, qCells, faB]
            refine hC.weak d21 (Weak.keep ?_ ?_) <;> simp [fF, byV, wtB, qCells, faB]
          · simp [oe9, fF, byV, wtB, qCells, faB]
            refine hC.weak d23 (Weak.keep ?_ ?_) <;> simp [fF, byV, wtB, qCells, faB]
        have d26 : C 7 (bvA 14 239) ⟨faB h.length H.length zs i x ++ [(69, .al (.cell bw 3)), (73, .pv (.ptr bw 3))], H6⟩ := by
          refine hC.fork [(4, (bvA 14 255)), (8, (bvA 14 495)), (9, (bvA 14 751)), (11, (bvA 14 2287))] ?_ ⟨?_, ?_, ?_, ?_, trivial⟩
          · kernel_rfl
          · simp [oe4, fF, byV, wtB, qCells, faB]
            refine hC.weak d11 (Weak.keep ?_ ?_) <;> simp [fF, byV, wtB, qCells, faB]
          · simp [oe8, fF, byV, wtB, qCells, faB]
            refine hC.weak d22 (Weak.keep ?_ ?_) <;> simp [fF, byV, wtB, qCells, faB]
          · simp [oe9, fF, byV, wtB, qCells, faB]
            refine hC.weak d24 (Weak.keep ?_ ?_) <;> simp [fF, byV, wtB, qCells, faB]
          · simp [oe11, fF, byV, wtB, qCells, faB]
            refine hC.weak d25 (Weak.keep ?_ ?_) <;> simp [fF, byV, wtB, qCells, faB]
        have d27 : C 8 (bvA 14 2575) ⟨faB h.length H.length zs i x ++ [(69, .al (.cell bw 3)), (75, .pv (I64 l)), (77, .pv (.fn (.func 140) [] [.ptr H.length 0]))], H6⟩ := by
          refine hC.fork [(4, (bvA 14 2591)), (5, (bvA 14 2607))] ?_ ⟨?_, ?_, trivial⟩
          · kernel_rfl
          · simp [oe4, fF, byV, wtB, qCells, faB]
            refine hC.weak d12 (Weak.keep ?_ ?_) <;> simp [fF, byV, wtB, qCells, faB]
          · simp [oe5, fF, byV, wtB, qCells, faB]
            refine hC.take 6 (bvA 14 2671) ?_ ?_
            · kernel_rfl
            simp [oe6, fF, byV, wtB, qCells, faB]
            refine hC.take 7 (bvA 14 2799) ?_ ?_
            · kernel_rfl
            simp [oe7, fF, byV, wtB, qCells, faB]
            refine hC.weak d23 (Weak.keep ?_ ?_) <;> simp [fF, byV, wtB, qCells, faB]
        have d28 : C 9 (bvA 14 527) ⟨faB h.length H.length zs i x ++ [(69, .al (.cell bw 3)), (75, .pv (I64 l))], H6⟩ := by
          refine hC.fork [(4, (bvA 14 543)), (5, (bvA 14 559)), (11, (bvA 14 2575))] ?_ ⟨?_, ?_, ?_, trivial⟩
          · kernel_rfl
          · simp [oe4, fF, byV, wtB, qCells, faB]
            refine hC.weak d13 (Weak.keep ?_ ?_) <;> simp [fF, byV, wtB, qCells, faB]
          · simp [oe5, fF, byV, wtB, qCells, faB]
            refine hC.take 6 (bvA 14 623) ?_ ?_
            · kernel_rfl
            simp [oe6, fF, byV, wtB, qCells, faB]
            refine hC.take 7 (bvA 14 751) ?_ ?_
            · kernel_rfl
            simp [oe7, fF, byV, wtB, qCells, faB]
            refine hC.weak d24 (Weak.keep ?_ ?_) <;> simp [fF, byV, wtB, qCells, faB]
          · simp [oe11, fF, byV, wtB, qCells, faB]
            refine hC.weak d27 (Weak.keep ?_ ?_) <;> simp [fF, byV, wtB, qCells, faB]
        have d29 : C 9 (bvA 14 2063) ⟨faB h.length H.length zs i x ++ [(69, .al (.cell bw 3)), (77, .pv (.fn (.func 140) [] [.ptr H.length 0]))], H6⟩ := by
          refine hC.fork [(4, (bvA 14 2079)), (5, (bvA 14 2095)), (9, (bvA 14 2575))] ?_ ⟨?_, ?_, ?_, trivial⟩
          · kernel_rfl
          · simp [oe4, fF, byV, wtB, qCells, faB]
            refine hC.weak d14 (Weak.keep ?_ ?_) <;> simp [fF, byV, wtB, qCells, faB]
          · simp [oe5, fF, byV, wtB, qCells, faB]
            refine hC.take 6 (bvA 14 2159) ?_ ?_
            · kernel_rfl
            simp [oe6, fF, byV, wtB, qCells, faB]
            refine hC.take 7 (bvA 14 2287) ?_ ?_
            · kernel_rfl
            simp [oe7, fF, byV, wtB, qCells, faB]
            refine hC.weak d25 (Weak.keep ?_ ?_) <;> simp [fF, byV, wtB, qCells, faB]
          · simp [oe9, fF, byV, wtB, qCells, faB]
            refine hC.weak d27 (Weak.keep ?_ ?_) <;> simp [fF, byV, wtB, qCells, faB]
        have d30 : C 10 (bvA 14 15) ⟨faB h.length H.length zs i x ++ [(69, .al (.cell bw 3))], H6⟩ := by
          refine hC.fork [(4, (bvA 14 31)), (5, (bvA 14 47)), (9, (bvA 14 527)), (11, (bvA 14 2063))] ?_ ⟨?_, ?_, ?_, ?_, trivial⟩
          · kernel_rfl
          · simp [oe4, fF, byV, wtB, qCells, faB]
            refine hC.weak d15 (Weak.keep ?_ ?_) <;> simp [fF, byV, wtB, qCells, faB]
          · simp [oe5, fF, byV, wtB, qCells, faB]
            refine hC.take 6 (bvA 14 111) ?_ ?_
            · kernel_rfl
            simp [oe6, fF, byV, wtB, qCells, faB]
            refine hC.take 7 (bvA 14 239) ?_ ?_
            · kernel_rfl
            simp [oe7, fF, byV, wtB, qCells, faB]
            refine hC.weak d26 (Weak.keep ?_ ?_) <;> simp [fF, byV, wtB, qCells, faB]
          · simp [oe9, fF, byV, wtB, qCells, faB]
            refine hC.weak d28 (Weak.keep ?_ ?_) <;> simp [fF, byV, wtB, qCells, faB]
          · simp [oe11, fF, byV, wtB, qCells, faB]
            refine hC.weak d29 (Weak.keep ?_ ?_) <;> simp [fF, byV, wtB, qCells, faB]
        have d31 : C 2 (bvA 14 8183) ⟨faB h.length H.length zs i x ++ [(68, .pv (.ptr bw 3)), (70, .pv (I64 l)), (78, .pv (.bsl ey.b 1 0 Z9.length ey.cp))], H7a⟩ := by
          refine hC.fork [(3, (bvA 14 8191))] ?_ ⟨?_, trivial⟩
          · kernel_rfl
          · simp [oe3, fF, byV, wtB, qCells, faB]
            refine hC.weak d1 (Weak.keep ?_ ?_) <;> simp [fF, byV, wtB, qCells, faB]
        have d32 : C 3 (bvA 14 4087) ⟨faB h.length H.length zs i x ++ [(68, .pv (.ptr bw 3)), (70, .pv (I64 l)), (76, .pv (.bsl ey.b 1 0 ey.n ey.cp)), (77, .pv (.fn (.func 140) [] [.ptr H.length 0]))], H6⟩ := by
          refine hC.fork [(3, (bvA 14 4095)), (12, (bvA 14 8183))] ?_ ⟨?_, ?_, trivial⟩
          · kernel_rfl
          · simp [oe3, fF, byV, wtB, qCells, faB]
            refine hC.weak d2 (Weak.keep ?_ ?_) <;> simp [fF, byV, wtB, qCells, faB]
          · simp [oe12, fF, byV, wtB, qCells, faB]
            refine CallB.introX (CallX.introT (b := ey.b) (b2 := H.length) (zs := z9) (sp := sp9) (cp := ey.cp) hD9 (by simp) (by simp) rfl (by simp) (by simp [ey3]) (by simp) (by simp) ey1 hk6? hbox hpos9 hzl9 ?_)
            rintro _ _ ⟨rfl, rfl⟩
            refine ⟨_, _, rfl, rfl, by simp; omega, hDl9, ?_⟩
            rw [← hX9, ← hH7a]
            simp [ey6, ey6.symm, qCells, faB]
            refine hC.weak d31 (Weak.keep ?_ ?_) <;> simp [fF, byV, wtB, qCells, faB]
        have d33 : C 4 (bvA 14 2039) ⟨faB h.length H.length zs i x ++ [(68, .pv (.ptr bw 3)), (70, .pv (I64 l)), (76, .pv (.bsl ey.b 1 0 ey.n ey.cp))], H6⟩ := by
          refine hC.fork [(3, (bvA 14 2047)), (11, (bvA 14 4087))] ?_ ⟨?_, ?_, trivial⟩
          · kernel_rfl
          · simp [oe3, fF, byV, wtB, qCells, faB]
            refine hC.weak d3 (Weak.keep ?_ ?_) <;> simp [fF, byV, wtB, qCells, faB]
          · simp [oe11, fF, byV, wtB, qCells, faB]
            refine hC.weak d32 (Weak.keep ?_ ?_) <;> simp [fF, byV, wtB, qCells, faB]
        have d34 : C 4 (bvA 14 3063) ⟨faB h.length H.length zs i x ++ [(68, .pv (.ptr bw 3)), (70, .pv (I64 l)), (74, .al (.cell bw 3)), (75, .pv (I64 l)), (77, .pv (.fn (.func 140) [] [.ptr H.length 0]))], H6⟩ := by
          refine hC.fork [(3, (bvA 14 3071)), (10, (bvA 14 4087))] ?_ ⟨?_, ?_, trivial⟩
          · kernel_rfl
          · simp [oe3, fF, byV, wtB, qCells, faB]
            refine hC.weak d4 (Weak.keep ?_ ?_) <;> simp [fF, byV, wtB, qCells, faB]
          · simp [oe10, fF, byV, wtB, qCells, faB]
            refine hC.weak d32 (Weak.keep ?_ ?_) <;> simp [fF, byV, wtB, qCells, faB]
        have d35 : C 5 (bvA 14 1015) ⟨faB h.length H.length zs i x ++ [(68, .pv (.ptr bw 3)), (70, .pv (I64 l)), (74, .al (.cell bw 3)), (75, .pv (I64 l))], H6⟩ := by
          refine hC.fork [(3, (bvA 14 1023)), (10, (bvA 14 2039)), (11, (bvA 14 3063))] ?_ ⟨?_, ?_, ?_, trivial⟩
          · kernel_rfl
          · simp [oe3, fF, byV, wtB, qCells, faB]
            refine hC.weak d5 (Weak.keep ?_ ?_) <;> simp [fF, byV, wtB, qCells, faB]
          · simp [oe10, fF, byV, wtB, qCells, faB]
            refine hC.weak d33 (Weak.keep ?_ ?_) <;> simp [fF, byV, wtB, qCells, faB]
          · simp [oe11, fF, byV, wtB, qCells, faB]
            refine hC.weak d34 (Weak.keep ?_ ?_) <;> simp [fF, byV, wtB, qCells, faB]
        have d36 : C 5 (bvA 14 2551) ⟨faB h.length H.length zs i x ++ [(68, .pv (.ptr bw 3)), (70, .pv (I64 l)), (74, .al (.cell bw 3)), (77, .pv (.fn (.func 140) [] [.ptr H.length 0]))], H6⟩ := by
          refine hC.fork [(3, (bvA 14 2559)), (9, (bvA 14 3063))] ?_ ⟨?_, ?_, trivial⟩
          · kernel_rfl
          · simp [oe3, fF, byV, wtB, qCells, faB]
            refine hC.weak d6 (Weak.keep ?_ ?_) <;> simp [fF, byV, wtB, qCells, faB]
          · simp [oe9, fF, byV, wtB, qCells, faB]
            refine hC.weak d34 (Weak.keep ?_ ?_) <;> simp [fF, byV, wtB, qCells, faB]
        have d37 : C 6 (bvA 14 503) ⟨faB h.length H.length zs i x ++ [(68, .pv (.ptr bw 3)), (70, .pv (I64 l)), (74, .al (.cell bw 3))], H6⟩ := by
          refine hC.fork [(3, (bvA 14 511)), (9, (bvA 14 1015)), (11, (bvA 14 2551))] ?_ ⟨?_, ?_, ?_, trivial⟩
          · kernel_rfl
          · simp [oe3, fF, byV, wtB, qCells, faB]
            refine hC.weak d7 (Weak.keep ?_ ?_) <;> simp [fF, byV, wtB, qCells, faB]
          · simp [oe9, fF, byV, wtB, qCells, faB]
            refine hC.weak d35 (Weak.keep ?_ ?_) <;> simp [fF, byV, wtB, qCells, faB]
          · simp [oe11, fF, byV, wtB, qCells, faB]
            refine hC.weak d36 (Weak.keep ?_ ?_) <;> simp [fF, byV, wtB, qCells, faB]
        have d38 : C 5 (bvA 14 2807) ⟨faB h.length H.length zs i x ++ [(68, .pv (.ptr bw 3)), (70, .pv (I64 l)), (73, .pv (.ptr bw 3)), (75, .pv (I64 l)), (77, .pv (.fn (.func 140) [] [.ptr H.length 0]))], H6⟩ := by
          refine hC.fork [(3, (bvA 14 2815)), (8, (bvA 14 3063))] ?_ ⟨?_, ?_, trivial⟩
          · kernel_rfl
          · simp [oe3, fF, byV, wtB, qCells, faB]
            refine hC.weak d8 (Weak.keep ?_ ?_) <;> simp [fF, byV, wtB, qCells, faB]
          · simp [oe8, fF, byV, wtB, qCells, faB]
            refine hC.weak d34 (Weak.keep ?_ ?_) <;> simp [fF, byV, wtB, qCells, faB]
        have d39 : C 6 (bvA 14 759) ⟨faB h.length H.length zs i x ++ [(68, .pv (.ptr bw 3)), (70, .pv (I64 l)), (73, .pv (.ptr bw 3)), (75, .pv (I64 l))], H6⟩ := by
          refine hC.fork [(3, (bvA 14 767)), (8, (bvA 14 1015)), (11, (bvA 14 2807))] ?_ ⟨?_, ?_, ?_, trivial⟩
          · kernel_rfl
          · simp [oe3, fF, byV, wtB, qCells, faB]
            refine hC.weak d9 (Weak.keep ?_ ?_) <;> simp [fF, byV, wtB, qCells, faB]
          · simp [oe8, fF, byV, wtB, qCells, faB]
            refine hC.weak d35 (Weak.keep ?_ ?_) <;> simp [fF, byV, wtB, qCells, faB]
          · simp [oe11, fF, byV, wtB, qCells, faB]
            refine hC.weak d38 (Weak.keep ?_ ?_) <;> simp [fF, byV, wtB, qCells, faB]
        have d40 : C 6 (bvA 14 2295) ⟨faB h.length H.length zs i x ++ [(68, .pv (.ptr bw 3)), (70, .pv (I64 l)), (73, .pv (.ptr bw 3)), (77, .pv (.fn (.func 140) [] [.ptr H.length 0]))], H6⟩ := by
          refine hC.fork [(3, (bvA 14 2303)), (8, (bvA 14 2551)), (9, (bvA 14 2807))] ?_ ⟨?_, ?_, ?_, trivial⟩
          · kernel_rfl
          · simp [oe3, fF, byV, wtB, qCells, faB]
            refine hC.weak d10 (Weak.keep ?_ ?_) <;> simp [fF, byV, wtB, qCells, faB]
          · simp [oe8, fF, byV, wtB, qCells, faB]
            refine hC.weak d36 (Weak.keep ?_ ?_) <;> simp [fF, byV, wtB, qCells, faB]
          · simp [oe9, fF, byV, wtB, qCells, faB]
            refine hC.weak d38 (Weak.keep ?_ ?_) <;> simp [fF, byV, wtB, qCells, faB]
        have d41 : C 7 (bvA 14 247) ⟨faB h.length H.length zs i x ++ [(68, .pv (.ptr bw 3)), (70, .pv (I64 l)), (73, .pv (.ptr bw 3))], H6⟩ := by
          refine hC.fork [(3, (bvA 14 255)), (8, (bvA 14 503)), (9, (bvA 14 759)), (11, (bvA 14 2295))] ?_ ⟨?_, ?_, ?_, ?_, trivial⟩
          · kernel_rfl
          · simp [oe3, fF, byV, wtB, qCells, faB]
            refine hC.weak d11 (Weak.keep ?_ ?_) <;> simp [fF, byV, wtB, qCells, faB]
          · simp [oe8, fF, byV, wtB, qCells, faB]
            refine hC.weak d37 (Weak.keep ?_ ?_) <;> simp [fF, byV, wtB, qCells, faB]
          · simp [oe9, fF, byV, wtB, qCells, faB]
            refine hC.weak d39 (Weak.keep ?_ ?_) <;> simp [fF, byV, wtB, qCells, faB]
          · simp [oe11, fF, byV, wtB, qCells, faB]
            refine hC.weak d40 (Weak.keep ?_ ?_) <;> simp [fF, byV, wtB, qCells, faB]
        have d42 : C 8 (bvA 14 2583) ⟨faB h.length H.length zs i x ++ [(68, .pv (.ptr bw 3)), (70, .pv (I64 l)), (75, .pv (I64 l)), (77, .pv (.fn (.func 140) [] [.ptr H.length 0]))], H6⟩ := by
          refine hC.fork [(3, (bvA 14 2591)), (5, (bvA 14 2615))] ?_ ⟨?_, ?_, trivial⟩
          · kernel_rfl
          · simp [oe3, fF, byV, wtB, qCells, faB]
            refine hC.weak d12 (Weak.keep ?_ ?_) <;> simp [fF, byV, wtB, qCells, faB]
          · simp [oe5, fF, byV, wtB, qCells, faB]
            refine hC.take 6 (bvA 14 2679) ?_ ?_
            · kernel_rfl
            simp [oe6, fF, byV, wtB, qCells, faB]
            refine hC.take 7 (bvA 14 2807) ?_ ?_
            · kernel_rfl
            simp [oe7, fF, byV, wtB, qCells, faB]
            refine hC.weak d38 (Weak.keep ?_ ?_) <;> simp [fF, byV, wtB, qCells, faB]
        have d43 : C 9 (bvA 14 535) ⟨faB h.length H.length zs i x ++ [(68, .pv (.ptr bw 3)), (70, .pv (I64 l)), (75, .pv (I64 l))], H6⟩ := by
          refine hC.fork [(3, (bvA 14 543)), (5, (bvA 14 567)), (11, (bvA 14 2583))] ?_ ⟨?_, ?_, ?_, trivial⟩
          · kernel_rfl
          · simp [oe3, fF, byV, wtB, qCells, faB]
            refine hC.weak d13 (Weak.keep ?_ ?_) <;> simp [fF, byV, wtB, qCells, faB]
          · simp [oe5, fF, byV, wtB, qCells, faB]
            refine hC.take 6 (bvA 14 631) ?_ ?_
            · kernel_rfl
            simp [oe6, fF, byV, wtB, qCells, faB]
            refine hC.take 7 (bvA 14 759) ?_ ?_
            · kernel_rfl
            simp [oe7, fF, byV, wtB, qCells, faB]
            refine hC.weak d39 (Weak.keep ?_ ?_) <;> simp [fF, byV, wtB, qCells, faB]
          · simp [oe11, fF, byV, wtB, qCells, faB]
            refine hC.weak d42 (Weak.keep ?_ ?_) <;> simp [fF, byV, wtB, qCells, faB]
        have d44 : C 9 (bvA 14 2071) ⟨faB h.length H.length zs i x ++ [(68, .pv (.ptr bw 3)), (70, .pv (I64 l)), (77, .pv (.fn (.func 140) [] [.ptr H.length 0]))], H6⟩ := by
          refine hC.fork [(3, (bvA 14 2079)), (5, (bvA 14 2103)), (9, (bvA 14 2583))] ?_ ⟨?_, ?_, ?_, trivial⟩
          · kernel_rfl
          · simp [oe3, fF, byV, wtB, qCells, faB]
            refine hC.weak d14 (Weak.keep ?_ ?_) <;> simp [fF, byV, wtB, qCells, faB]
          · simp [oe5, fF, byV, wtB, qCells, faB]
            refine hC.take 6 (bvA 14 2167) ?_ ?_
            · kernel_rfl
            simp [oe6, fF, byV, wtB, qCells, faB]
            refine hC.take 7 (bvA 14 2295) ?_ ?_
            · kernel_rfl
            simp [oe7, fF, byV, wtB, qCells, faB]
            refine hC.weak d40 (Weak.keep ?_ ?_) <;> simp [fF, byV, wtB, qCells, faB]
          · simp [oe9, fF, byV, wtB, qCells, faB]
            refine hC.weak d42 (Weak.keep ?_ ?_) <;> simp [fF, byV, wtB, qCells, faB]
        have d45 : C 10 (bvA 14 23) ⟨faB h.length H.length zs i x ++ [(68, .pv (.ptr bw 3)), (70, .pv (I64 l))], H6⟩ := by
          refine hC.fork [(3, (bvA 14 31)), (5, (bvA 14 55)), (9, (bvA 14 535)), (11, (bvA 14 2071))] ?_ ⟨?_, ?_, ?_, ?_, trivial⟩
          · kernel_rfl
          · simp [oe3, fF, byV, wtB, qCells, faB]
            refine hC.weak d15 (Weak.keep ?_ ?_) <;> simp [fF, byV, wtB, qCells, faB]
          · simp [oe5, fF, byV, wtB, qCells, faB]
            refine hC.take 6 (bvA 14 119) ?_ ?_
            · kernel_rfl
            simp [oe6, fF, byV, wtB, qCells, faB]
            refine hC.take 7 (bvA 14 247) ?_ ?_
            · kernel_rfl
            simp [oe7, fF, byV, wtB, qCells, faB]
            refine hC.weak d41 (Weak.keep ?_ ?_) <;> simp [fF, byV, wtB, qCells, faB]
          · simp [oe9, fF, byV, wtB, qCells, faB]
            refine hC.weak d43 (Weak.keep ?_ ?_) <;> simp [fF, byV, wtB, qCells, faB]
          · simp [oe11, fF, byV, wtB, qCells, faB]
            refine hC.weak d44 (Weak.keep ?_ ?_) <;> simp [fF, byV, wtB, qCells, faB]
        have d46 : C 3 (bvA 14 8167) ⟨faB h.length H.length zs i x ++ [(68, .pv (.ptr bw 3)), (78, .pv (.bsl ey.b 1 0 Z9.length ey.cp))], H7a⟩ := by
          refine hC.fork [(3, (bvA 14 8175)), (4, (bvA 14 8183))] ?_ ⟨?_, ?_, trivial⟩
          · kernel_rfl
          · simp [oe3, fF, byV, wtB, qCells, faB]
            refine hC.weak d16 (Weak.keep ?_ ?_) <;> simp [fF, byV, wtB, qCells, faB]
          · simp [oe4, fF, byV, wtB, qCells, faB]
            refine hC.weak d31 (Weak.keep ?_ ?_) <;> simp [fF, byV, wtB, qCells, faB]
        have d47 : C 4 (bvA 14 4071) ⟨faB h.length H.length zs i x ++ [(68, .pv (.ptr bw 3)), (76, .pv (.bsl ey.b 1 0 ey.n ey.cp)), (77, .pv (.fn (.func 140) [] [.ptr H.length 0]))], H6⟩ := by
          refine hC.fork [(3, (bvA 14 4079)), (4, (bvA 14 4087)), (12, (bvA 14 8167))] ?_ ⟨?_, ?_, ?_, trivial⟩
          · kernel_rfl
          · simp [oe3, fF, byV, wtB, qCells, faB]
            refine hC.weak d17 (Weak.keep ?_ ?_) <;> simp [fF, byV, wtB, qCells, faB]
          · simp [oe4, fF, byV, wtB, qCells, faB]
            refine hC.weak d32 (Weak.keep ?_ ?_) <;> simp [fF, byV, wtB, qCells, faB]
          · simp [oe12, fF, byV, wtB, qCells, faB]
            refine CallB.introX (CallX.introT (b := ey.b) (b2 := H.length) (zs := z9) (sp := sp9) (cp := ey.cp) hD9 (by simp) (by simp) rfl (by simp) (by simp [ey3]) (by simp) (by simp) ey1 hk6? hbox hpos9 hzl9 ?_)
            rintro _ _ ⟨rfl, rfl⟩
            refine ⟨_, _, rfl, rfl, by simp; omega, hDl9, ?_⟩
            rw [← hX9, ← hH7a]
            simp [ey6, ey6.symm, qCells, faB]
            refine hC.weak d46 (Weak.keep ?_ ?_) <;> simp [fF, byV, wtB, qCells, faB]
        have d48 : C 5 (bvA 14 2023) ⟨faB h.length H.length zs i x ++ [(68, .pv (.ptr bw 3)), (76, .pv (.bsl ey.b 1 0 ey.n ey.cp))], H6⟩ := by
          refine hC.fork [(3, (bvA 14 2031)), (4, (bvA 14 2039)), (11, (bvA 14 4071))] ?_ ⟨?_, ?_, ?_, trivial⟩
          · kernel_rfl
          · simp [oe3, fF, byV, wtB, qCells, faB]
            refine hC.weak d18 (Weak.keep ?_ ?_) <;> simp [fF, byV, wtB, qCells, faB]
          · simp [oe4, fF, byV, wtB, qCells, faB]
            refine hC.weak d33 (Weak.keep ?_ ?_) <;> simp [fF, byV, wtB, qCells, faB]
          · simp [oe11, fF, byV, wtB, qCells, faB]
            refine hC.weak d47 (Weak.keep ?_ ?_) <;> simp [fF, byV, wtB, qCells, faB]
        have d49 : C 5 (bvA 14 3047) ⟨faB h.length H.length zs i x ++ [(68, .pv (.ptr bw 3)), (74, .al (.cell bw 3)), (75, .pv (I64 l)), (77, .pv (.fn (.func 140) [] [.ptr H.length 0]))], H6⟩ := by
          refine hC.fork [(3, (bvA 14 3055)), (4, (bvA 14 3063)), (10, (bvA 14 4071))] ?_ ⟨?_, ?_, ?_, trivial⟩
          · kernel_rfl
          · simp [oe3, fF, byV, wtB, qCells, faB]
            refine hC.weak d19 (Weak.keep ?_ ?_) <;> simp [fF, byV, wtB, qCells, faB]
          · simp [oe4, fF, byV, wtB, qCells, faB]
            refine hC.weak d34 (Weak.keep ?_ ?_) <;> simp [fF, byV, wtB, qCells, faB]
          · simp [oe10, fF, byV, wtB, qCells, faB]
            refine hC.weak d47 (Weak.keep ?_ ?_) <;> simp [fF, byV, wtB, qCells, faB]
        have d50 : C 6 (bvA 14 999) ⟨faB h.length H.length zs i x ++ [(68, .pv (.ptr bw 3)), (74, .al (.cell bw 3)), (75, .pv (I64 l))], H6⟩ := by
          refine hC.fork [(3, (bvA 14 1007)), (4, (bvA 14 1015)), (10, (bvA 14 2023)), (11, (bvA 14 3047))] ?_ ⟨?_, ?_, ?_, ?_, trivial⟩
          · kernel_rfl
          · simp [oe3, fF, byV, wtB, qCells, faB]
            refine hC.weak d20 (Weak.keep ?_ ?_) <;> simp [fF, byV, wtB, qCells, faB]
          · simp [oe4, fF, byV, wtB, qCells, faB]
            refine hC.weak d35 (Weak.keep ?_ ?_) <;> simp [fF, byV, wtB, qCells, faB]
          · simp [oe10, fF, byV, wtB, qCells, faB]
            refine hC.weak d48 (Weak.keep ?_ ?_) <;> simp [fF, byV, wtB, qCells, faB]
          · simp [oe11, fF, byV, wtB, qCells, faB]
            refine hC.weak d49 (Weak.keep ?_ ?_) <;> simp [fF, byV, wtB, qCells, faB]
        have d51 : C 6 (bvA 14 2535) ⟨faB h.length H.length zs i x ++ [(68, .pv (.ptr bw 3)), (74, .al (.cell bw 3)), (77, .pv (.fn (.func 140) [] [.ptr H.length 0]))], H6⟩ := by
          refine hC.fork [(3, (bvA 14 2543)), (4, (bvA 14 2551)), (9, (bvA 14 3047))] ?_ ⟨?_, ?_, ?_, trivial⟩
          · kernel_rfl
          · simp [oe3, fF, byV, wtB, qCells, faB]
            refine hC.weak d21 (Weak.keep ?_ ?_) <;> simp [fF, byV, wtB, qCells, faB]
          · simp [oe4, fF, byV, wtB, qCells, faB]
            refine hC.weak d36 (Weak.keep ?_ ?_) <;> simp [fF, byV, wtB, qCells, faB]
          · simp [oe9, fF, byV, wtB, qCells, faB]
            refine hC.weak d49 (Weak.keep ?_ ?_) <;> simp [fF, byV, wtB, qCells, faB]
        have d52 : C 7 (bvA 14 487) ⟨faB h.length H.length zs i x ++ [(68, .pv (.ptr bw 3)), (74, .al (.cell bw 3))], H6⟩ := by
          refine hC.fork [(3, (bvA 14 495)), (4, (bvA 14 503)), (9, (bvA 14 999)), (11, (bvA 14 2535))] ?_ ⟨?_, ?_, ?_, ?_, trivial⟩
          · kernel_rfl
          · simp [oe3, fF, byV, wtB, qCells, faB]
            refine hC.weak d22 (Weak.keep ?_ ?_) <;> simp [fF, byV, wtB, qCells, faB]
          · simp [oe4, fF, byV, wtB, qCells, faB]
            refine hC.weak d37 (Weak.keep ?_ ?_) <;> simp [fF, byV, wtB, qCells, faB]
          · simp [oe9, fF, byV, wtB, qCells, faB]
            refine hC.weak d50 (Weak.keep ?_ ?_) <;> simp [fF, byV, wtB, qCells, faB]
          · simp [oe11, fF, byV, wtB, qCells, faB]
            refine hC.weak d51 (Weak.keep ?_ ?_) <;> simp [fF, byV, wtB, qCells, faB]
        have d53 : C 6 (bvA 14 2791) ⟨faB h.length H.length zs i x ++ [(68, .pv (.ptr bw 3)), (73, .pv (.ptr bw 3)), (75, .pv (I64 l)), (77, .pv (.fn (.func 140) [] [.ptr H.length 0]))], H6⟩ := by
          refine hC.fork [(3, (bvA 14 2799)), (4, (bvA 14 2807)), (8, (bvA 14 3047))] ?_ ⟨?_, ?_, ?_, trivial⟩
          · kernel_rfl
          · simp [oe3, fF, byV, wtB, qCells, faB]
            refine hC.weak d23 (Weak.keep ?_ ?_) <;> simp [fF, byV, wtB, qCells, faB]
          · simp [oe4, fF, byV, wtB, qCells, faB]
            refine hC.weak d38 (Weak.keep ?_ ?_) <;> simp [fF, byV, wtB, qCells, faB]
          · simp [oe8, fF, byV, wtB, qCells, faB]
            refine hC.weak d49 (Weak.keep ?_ ?_) <;> simp [fF, byV, wtB, qCells, faB]
        have d54 : C 7 (bvA 14 743) ⟨faB h.length H.length zs i x ++ [(68, .pv (.ptr bw 3)), (73, .pv (.ptr bw 3)), (75, .pv (I64 l))], H6⟩ := by
          refine hC.fork [(3, (bvA 14 751)), (4, (bvA 14 759)), (8, (bvA 14 999)), (11, (bvA 14 2791))] ?_ ⟨?_, ?_, ?_, ?_, trivial⟩
          · kernel_rfl
          · simp [oe3, fF, byV, wtB, qCells, faB]
            refine hC.weak d24 (Weak.keep ?_ ?_) <;> simp [fF, byV, wtB, qCells, faB]
          · simp [oe4, fF, byV, wtB, qCells, faB]
            refine hC.weak d39 (Weak.keep ?_ ?_) <;> simp [fF, byV, wtB, qCells, faB]
          · simp [oe8, fF, byV, wtB, qCells, faB]
            refine hC.weak d50 (Weak.keep ?_ ?_) <;> simp [fF, byV, wtB, qCells, faB]
          · simp [oe11, fF, byV, wtB, qCells, faB]
            refine hC.weak d53 (Weak.keep ?_ ?_) <;> simp [fF, byV, wtB, qCells, faB]
        have d55 : C 7 (bvA 14 2279) ⟨faB h.length H.length zs i x ++ [(68, .pv (.ptr bw 3)), (73, .pv (.ptr bw 3)), (77, .pv (.fn (.func 140) [] [.ptr H.length 0]))], H6⟩ := by
          refine hC.fork [(3, (bvA 14 2287)), (4, (bvA 14 2295)), (8, (bvA 14 2535)), (9, (bvA 14 2791))] ?_ ⟨?_, ?_, ?_, ?_, trivial⟩
          · kernel_rfl
          · simp [oe3, fF, byV, wtB, qCells, faB]
            refine hC.weak d25 (Weak.keep ?_ ?_) <;> simp [fF, byV, wtB, qCells, faB]
          · simp [oe4, fF, byV, wtB, qCells, faB]
            refine hC.weak d40 (Weak.keep ?_ ?_) <;> simp [fF, byV, wtB, qCells, faB]
          · simp [oe8, fF, byV, wtB, qCells, faB]
            refine hC.weak d51 (Weak.keep ?_ ?_) <;> simp [fF, byV, wtB, qCells, faB]
          · simp [oe9, fF, byV, wtB, qCells, faB]
            refine hC.weak d53 (Weak.keep ?_ ?_) <;> simp [fF, byV, wtB, qCells, faB]
        have d56 : C 8 (bvA 14 231) ⟨faB h.length H.length zs i x ++ [(68, .pv (.ptr bw 3)), (73, .pv (.ptr bw 3))], H6⟩ := by
          refine hC.fork [(3, (bvA 14 239)), (4, (bvA 14 247)), (8, (bvA 14 487)), (9, (bvA 14 743)), (11, (bvA 14 2279))] ?_ ⟨?_, ?_, ?_, ?_, ?_, trivial⟩
          · kernel_rfl
          · simp [oe3, fF, byV, wtB, qCells, faB]
            refine hC.weak d26 (Weak.keep ?_ ?_) <;> simp [fF, byV, wtB, qCells, faB]
          · simp [oe4, fF, byV, wtB, qCells, faB]
            refine hC.weak d41 (Weak.keep ?_ ?_) <;> simp [fF, byV, wtB, qCells, faB]
          · simp [oe8, fF, byV, wtB, qCells, faB]
            refine hC.weak d52 (Weak.keep ?_ ?_) <;> simp [fF, byV, wtB, qCells, faB]
          · simp [oe9, fF, byV, wtB, qCells, faB]
            refine hC.weak d54 (Weak.keep ?_ ?_) <;> simp [fF, byV, wtB, qCells, faB]
          · simp [oe11, fF, byV, wtB, qCells, faB]
            refine hC.weak d55 (Weak.keep ?_ ?_) <;> simp [fF, byV, wtB, qCells, faB]
        have d57 : C 9 (bvA 14 2567) ⟨faB h.length H.length zs i x ++ [(68, .pv (.ptr bw 3)), (75, .pv (I64 l)), (77, .pv (.fn (.func 140) [] [.ptr H.length 0]))], H6⟩ := by
          refine hC.fork [(3, (bvA 14 2575)), (4, (bvA 14 2583)), (5, (bvA 14 2599))] ?_ ⟨?_, ?_, ?_, trivial⟩
          · kernel_rfl
          · simp [oe3, fF, byV, wtB, qCells, faB]
            refine hC.weak d27 (Weak.keep ?_ ?_) <;> simp [fF, byV, wtB, qCells, faB]
          · simp [oe4, fF, byV, wtB, qCells, faB]
            refine hC.weak d42 (Weak.keep ?_ ?_) <;> simp [fF, byV, wtB, qCells, faB]
          · simp [oe5, fF, byV, wtB, qCells, faB]
            refine hC.take 6 (bvA 14 2663) ?_ ?_
            · kernel_rfl
            simp [oe6, fF, byV, wtB, qCells, faB]
            refine hC.take 7 (bvA 14 2791) ?_ ?_
            · kernel_rfl
            simp [oe7, fF, byV, wtB, qCells, faB]
            refine hC.weak d53 (Weak.keep ?_ ?_) <;> simp [fF, byV, wtB, qCells, faB]
        have d58 : C 10 (bvA 14 519) ⟨faB h.length H.length zs i x ++ [(68, .pv (.ptr bw 3)), (75, .pv (I64 l))], H6⟩ := by
          refine hC.fork [(3, (bvA 14 527)), (4, (bvA 14 535)), (5, (bvA 14 551)), (11, (bvA 14 2567))] ?_ ⟨?_, ?_, ?_, ?_, trivial⟩
          · kernel_rfl
          · simp [oe3, fF, byV, wtB, qCells, faB]
            refine hC.weak d28 (Weak.keep ?_ ?_) <;> simp [fF, byV, wtB, qCells, faB]
          · simp [oe4, fF, byV, wtB, qCells, faB]
            refine hC.weak d43 (Weak.keep ?_ ?_) <;> simp [fF, byV, wtB, qCells, faB]
          · simp [oe5, fF, byV, wtB, qCells, faB]
            refine hC.take 6 (bvA 14 615) ?_ ?_
            · kernel_rfl
            simp [oe6, fF, byV, wtB, qCells, faB]
            refine hC.take 7 (bvA 14 743) ?_ ?_
            · kernel_rfl
            simp [oe7, fF, byV, wtB, qCells, faB]
            refine hC.weak d54 (Weak.keep ?_ ?_) <;> simp [fF, byV, wtB, qCells, faB]
          · simp [oe11, fF, byV, wtB, qCells, faB]
            refine hC.weak d57 (Weak.keep ?_ ?_) <;> simp [fF, byV, wtB, qCells, faB]
        have d59 : C 10 (bvA 14 2055) ⟨faB h.length H.length zs i x ++ [(68, .pv (.ptr bw 3)), (77, .pv (.fn (.func 140) [] [.ptr H.length 0]))], H6⟩ := by
          refine hC.fork [(3, (bvA 14 2063)), (4, (bvA 14 2071)), (5, (bvA 14 2087)), (9, (bvA 14 2567))] ?_ ⟨?_, ?_, ?_, ?_, trivial⟩
          · kernel_rfl
          · simp [oe3, fF, byV, wtB, qCells, faB]
            refine hC.weak d29 (Weak.keep ?_ ?_) <;> simp [fF, byV, wtB, qCells, faB]
          · simp [oe4, fF, byV, wtB, qCells, faB]
            refine hC.weak d44 (Weak.keep ?_ ?_) <;> simp [fF, byV, wtB, qCells, faB]
          · simp [oe5, fF, byV, wtB, qCells, faB]
            refine hC.take 6 (bvA 14 2151) ?_ ?_
            · kernel_rfl
            simp [oe6, fF, byV, wtB, qCells, faB]
            refine hC.take 7 (bvA 14 2279) ?_ ?_
            · kernel_rfl
            simp [oe7, fF, byV, wtB, qCells, faB]
            refine hC.weak d55 (Weak.keep ?_ ?_) <;> simp [fF, byV, wtB, qCells, faB]
          · simp [oe9, fF, byV, wtB, qCells, faB]
            refine hC.weak d57 (Weak.keep ?_ ?_) <;> simp [fF, byV, wtB, qCells, faB]
        have d60 : C 11 (bvA 14 7) ⟨faB h.length H.length zs i x ++ [(68, .pv (.ptr bw 3))], H6⟩ := by
          refine hC.fork [(3, (bvA 14 15)), (4, (bvA 14 23)), (5, (bvA 14 39)), (9, (bvA 14 519)), (11, (bvA 14 2055))] ?_ ⟨?_, ?_, ?_, ?_, ?_, trivial⟩
          · kernel_rfl
          · simp [oe3, fF, byV, wtB, qCells, faB]
            refine hC.weak d30 (Weak.keep ?_ ?_) <;> simp [fF, byV, wtB, qCells, faB]
          · simp [oe4, fF, byV, wtB, qCells, faB]
            refine hC.weak d45 (Weak.keep ?_ ?_) <;> simp [fF, byV, wtB, qCells, faB]
          · simp [oe5, fF, byV, wtB, qCells, faB]
            refine hC.take 6 (bvA 14 103) ?_ ?_
            · kernel_rfl
            simp [oe6, fF, byV, wtB, qCells, faB]
            refine hC.take 7 (bvA 14 231) ?_ ?_
            · kernel_rfl
            simp [oe7, fF, byV, wtB, qCells, faB]
            refine hC.weak d56 (Weak.keep ?_ ?_) <;> simp [fF, byV, wtB, qCells, faB]
          · simp [oe9, fF, byV, wtB, qCells, faB]
            refine hC.weak d58 (Weak.keep ?_ ?_) <;> simp [fF, byV, wtB, qCells, faB]
          · simp [oe11, fF, byV, wtB, qCells, faB]
            refine hC.weak d59 (Weak.keep ?_ ?_) <;> simp [fF, byV, wtB, qCells, faB]
        have d61 : C 5 (bvA 14 8176) ⟨faB h.length H.length zs i x ++ [(70, .pv (I64 l)), (78, .pv (.bsl ey.b 1 0 Z9.length ey.cp))], H7a⟩ := by
          refine hC.fork [(0, (bvA 14 8177))] ?_ ⟨?_, trivial⟩
          · kernel_rfl
          · simp [oe0, fF, byV, wtB, qCells, faB]
            refine hC.take 1 (bvA 14 8179) ?_ ?_
            · kernel_rfl
            simp [oe1, fF, byV, wtB, qCells, faB]
            refine hC.take 2 (bvA 14 8183) ?_ ?_
            · kernel_rfl
            simp [oe2, fF, byV, wtB, qCells, faB]
            refine hC.weak d31 (Weak.keep ?_ ?_) <;> simp [fF, byV, wtB, qCells, faB]
        have d62 : C 6 (bvA 14 4080) ⟨faB h.length H.length zs i x ++ [(70, .pv (I64 l)), (76, .pv (.bsl ey.b 1 0 ey.n ey.cp)), (77, .pv (.fn (.func 140) [] [.ptr H.length 0]))], H6⟩ := by
          refine hC.fork [(0, (bvA 14 4081)), (12, (bvA 14 8176))] ?_ ⟨?_, ?_, trivial⟩
          · kernel_rfl
          · simp [oe0, fF, byV, wtB, qCells, faB]
            refine hC.take 1 (bvA 14 4083) ?_ ?_
            · kernel_rfl
            simp [oe1, fF, byV, wtB, qCells, faB]
            refine hC.take 2 (bvA 14 4087) ?_ ?_
            · kernel_rfl
            simp [oe2, fF, byV, wtB, qCells, faB]
            refine hC.weak d32 (Weak.keep ?_ ?_) <;> simp [fF, byV, wtB, qCells, faB]
          · simp [oe12, fF, byV, wtB, qCells, faB]
            refine CallB.introX (CallX.introT (b := ey.b) (b2 := H.length) (zs := z9) (sp := sp9) (cp := ey.cp) hD9 (by simp) (by simp) rfl (by simp) (by simp [ey3]) (by simp) (by simp) ey1 hk6? hbox hpos9 hzl9 ?_)
            rintro _ _ ⟨rfl, rfl⟩
            refine ⟨_, _, rfl, rfl, by simp; omega, hDl9, ?_⟩
            rw [← hX9, ← hH7a]
            simp [ey6, ey6.symm, qCells, faB]
            refine hC.weak d61 (Weak.keep ?_ ?_) <;> simp [fF, byV, wtB, qCells, faB]
        have d63 : C 7 (bvA 14 2032) ⟨faB h.length H.length zs i x ++ [(70, .pv (I64 l)), (76, .pv (.bsl ey.b 1 0 ey.n ey.cp))], H6⟩ := by
          refine hC.fork [(0, (bvA 14 2033)), (11, (bvA 14 4080))] ?_ ⟨?_, ?_, trivial⟩
          · kernel_rfl
          · simp [oe0, fF, byV, wtB, qCells, faB]
            refine hC.take 1 (bvA 14 2035) ?_ ?_
            · kernel_rfl
            simp [oe1, fF, byV, wtB, qCells, faB]
            refine hC.take 2 (bvA 14 2039) ?_ ?_
            · kernel_rfl
            simp [oe2, fF, byV, wtB, qCells, faB]
            refine hC.weak d33 (Weak.keep ?_ ?_) <;> simp [fF, byV, wtB, qCells, faB]
          · simp [oe11, fF, byV, wtB, qCells, faB]
            refine hC.weak d62 (Weak.keep ?_ ?_) <;> simp [fF, byV, wtB, qCells, faB]
        have d64 : C 7 (bvA 14 3056) ⟨faB h.length H.length zs i x ++ [(70, .pv (I64 l)), (74, .al (.cell bw 3)), (75, .pv (I64 l)), (77, .pv (.fn (.func 140) [] [.ptr H.length 0]))], H6⟩ := by
          refine hC.fork [(0, (bvA 14 3057)), (10, (bvA 14 4080))] ?_ ⟨?_, ?_, trivial⟩
          · kernel_rfl
          · simp [oe0, fF, byV, wtB, qCells, faB]
            refine hC.take 1 (bvA 14 3059) ?_ ?_
            · kernel_rfl
            simp [oe1, fF, byV, wtB, qCells, faB]
            refine hC.take 2 (bvA 14 3063) ?_ ?_
            · kernel_rfl
            simp [oe2, fF, byV, wtB, qCells, faB]
            refine hC.weak d34 (Weak.keep ?_ ?_) <;> simp [fF, byV, wtB, qCells, faB]
          · simp [oe10, fF, byV, wtB, qCells, faB]
            refine hC.weak d62 (Weak.keep ?_ ?_) <;> simp [fF, byV, wtB, qCells, faB]
        have d65 : C 8 (bvA 14 1008) ⟨faB h.length H.length zs i x ++ [(70, .pv (I64 l)), (74, .al (.cell bw 3)), (75, .pv (I64 l))], H6⟩ := by
          refine hC.fork [(0, (bvA 14 1009)), (10, (bvA 14 2032)), (11, (bvA 14 3056))] ?_ ⟨?_, ?_, ?_, trivial⟩
          · kernel_rfl
          · simp [oe0, fF, byV, wtB, qCells, faB]
            refine hC.take 1 (bvA 14 1011) ?_ ?_
            · kernel_rfl
            simp [oe1, fF, byV, wtB, qCells, faB]
            refine hC.take 2 (bvA 14 1015) ?_ ?_
            · kernel_rfl
            simp [oe2, fF, byV, wtB, qCells, faB]
            refine hC.weak d35 (Weak.keep ?_ ?_) <;> simp [fF, byV, wtB, qCells, faB]
          · simp [oe10, fF, byV, wtB, qCells, faB]
            refine hC.weak d63 (Weak.keep ?_ ?_) <;> simp [fF, byV, wtB, qCells, faB]
          · simp [oe11, fF, byV, wtB, qCells, faB]
            refine hC.weak d64 (Weak.keep ?_ ?_) <;> simp [fF, byV, wtB, qCells, faB]
        have d66 : C 8 (bvA 14 2544) ⟨faB h.length H.length zs i x ++ [(70, .pv (I64 l)), (74, .al (.cell bw 3)), (77, .pv (.fn (.func 140) [] [.ptr H.length 0]))], H6⟩ := by
          refine hC.fork [(0, (bvA 14 2545)), (9, (bvA 14 3056))] ?_ ⟨?_, ?_, trivial⟩
          · kernel_rfl
          · simp [oe0, fF, byV, wtB, qCells, faB]
            refine hC.take 1 (bvA 14 2547) ?_ ?_
            · kernel_rfl
            simp [oe1, fF, byV, wtB, qCells, faB]
            refine hC.take 2 (bvA 14 2551) ?_ ?_
            · kernel_rfl
            simp [oe2, fF, byV, wtB, qCells, faB]
            refine hC.weak d36 (Weak.keep ?_ ?_) <;> simp [fF, byV, wtB, qCells, faB]
          · simp [oe9, fF, byV, wtB, qCells, faB]
            refine hC.weak d64 (Weak.keep ?_ ?_) <;> simp [fF, byV, wtB, qCells, faB]
        have d67 : C 9 (bvA 14 496) ⟨faB h.length H.length zs i x ++ [(70, .pv (I64 l)), (74, .al (.cell bw 3))], H6⟩ := by
          refine hC.fork [(0, (bvA 14 497)), (9, (bvA 14 1008)), (11, (bvA 14 2544))] ?_ ⟨?_, ?_, ?_, trivial⟩
          · kernel_rfl
          · simp [oe0, fF, byV, wtB, qCells, faB]
            refine hC.take 1 (bvA 14 499) ?_ ?_
            · kernel_rfl
            simp [oe1, fF, byV, wtB, qCells, faB]
            refine hC.take 2 (bvA 14 503) ?_ ?_
            · kernel_rfl
            simp [oe2, fF, byV, wtB, qCells, faB]
            refine hC.weak d37 (Weak.keep ?_ ?_) <;> simp [fF, byV, wtB, qCells, faB]
          · simp [oe9, fF, byV, wtB, qCells, faB]
            refine hC.weak d65 (Weak.keep ?_ ?_) <;> simp [fF, byV, wtB, qCells, faB]
          · simp [oe11, fF, byV, wtB, qCells, faB]
            refine hC.weak d66 (Weak.keep ?_ ?_) <;> simp [fF, byV, wtB, qCells, faB]
        have d68 : C 8 (bvA 14 2800) ⟨faB h.length H.length zs i x ++ [(70, .pv (I64 l)), (73, .pv (.ptr bw 3)), (75, .pv (I64 l)), (77, .pv (.fn (.func 140) [] [.ptr H.length 0]))], H6⟩ := by
          refine hC.fork [(0, (bvA 14 2801)), (8, (bvA 14 3056))] ?_ ⟨?_, ?_, trivial⟩
          · kernel_rfl
          · simp [oe0, fF, byV, wtB, qCells, faB]
            refine hC.take 1 (bvA 14 2803) ?_ ?_
            · kernel_rfl
            simp [oe1, fF, byV, wtB, qCells, faB]
            refine hC.take 2 (bvA 14 2807) ?_ ?_
            · kernel_rfl
            simp [oe2, fF, byV, wtB, qCells, faB]
            refine hC.weak d38 (Weak.keep ?_ ?_) <;> simp [fF, byV, wtB, qCells, faB]
          · simp [oe8, fF, byV, wtB, qCells, faB]
            refine hC.weak d64 (Weak.keep ?_ ?_) <;> simp [fF, byV, wtB, qCells, faB]
        have d69 : C 9 (bvA 14 752) ⟨faB h.length H.length zs i x ++ [(70, .pv (I64 l)), (73, .pv (.ptr bw 3)), (75, .pv (I64 l))], H6⟩ := by
          refine hC.fork [(0, (bvA 14 753)), (8, (bvA 14 1008)), (11, (bvA 14 2800))] ?_ ⟨?_, ?_, ?_, trivial⟩
          · kernel_rfl
          · simp [oe0, fF, byV, wtB, qCells, faB]
            refine hC.take 1 (bvA 14 755) ?_ ?_
            · kernel_rfl
            simp [oe1, fF, byV, wtB, qCells, faB]
            refine hC.take 2 (bvA 14 759) ?_ ?_
            · kernel_rfl
            simp [oe2, fF, byV, wtB, qCells, faB]
            refine hC.weak d39 (Weak.keep ?_ ?_) <;> simp [fF, byV, wtB, qCells, faB]
          · simp [oe8, fF, byV, wtB, qCells, faB]
            refine hC.weak d65 (Weak.keep ?_ ?_) <;> simp [fF, byV, wtB, qCells, faB]
          · simp [oe11, fF, byV, wtB, qCells, faB]
            refine hC.weak d68 (Weak.keep ?_ ?_) <;> simp [fF, byV, wtB, qCells, faB]
        have d70 : C 9 (bvA 14 2288) ⟨faB h.length H.length zs i x ++ [(70, .pv (I64 l)), (73, .pv (.ptr bw 3)), (77, .pv (.fn (.func 140) [] [.ptr H.length 0]))], H6⟩ := by
          refine hC.fork [(0, (bvA 14 2289)), (8, (bvA 14 2544)), (9, (bvA 14 2800))] ?_ ⟨?_, ?_, ?_, trivial⟩
          · kernel_rfl
          · simp [oe0, fF, byV, wtB, qCells, faB]
            refine hC.take 1 (bvA 14 2291) ?_ ?_
            · kernel_rfl
            simp [oe1, fF, byV, wtB, qCells, faB]
            refine hC.take 2 (bvA 14 2295) ?_ ?_
            · kernel_rfl
            simp [oe2, fF, byV, wtB, qCells, faB]
            refine hC.weak d40 (Weak.keep ?_ ?_) <;> simp [fF, byV, wtB, qCells, faB]
          · simp [oe8, fF, byV, wtB, qCells, faB]
            refine hC.weak d66 (Weak.keep ?_ ?_) <;> simp [fF, byV, wtB, qCells, faB]
          · simp [oe9, fF, byV, wtB, qCells, faB]
            refine hC.weak d68 (Weak.keep ?_ ?_) <;> simp [fF, byV, wtB, qCells, faB]
        have d71 : C 10 (bvA 14 240) ⟨faB h.length H.length zs i x ++ [(70, .pv (I64 l)), (73, .pv (.ptr bw 3))], H6⟩ := by
          refine hC.fork [(0, (bvA 14 241)), (8, (bvA 14 496)), (9, (bvA 14 752)), (11, (bvA 14 2288))] ?_ ⟨?_, ?_, ?_, ?_, trivial⟩
          · kernel_rfl
          · simp [oe0, fF, byV, wtB, qCells, faB]
            refine hC.take 1 (bvA 14 243) ?_ ?_
            · kernel_rfl
            simp [oe1, fF, byV, wtB, qCells, faB]
            refine hC.take 2 (bvA 14 247) ?_ ?_
            · kernel_rfl
            simp [oe2, fF, byV, wtB, qCells, faB]
            refine hC.weak d41 (Weak.keep ?_ ?_) <;> simp [fF, byV, wtB, qCells, faB]
          · simp [oe8, fF, byV, wtB, qCells, faB]
            refine hC.weak d67 (Weak.keep ?_ ?_) <;> simp [fF, byV, wtB, qCells, faB]
          · simp [oe9, fF, byV, wtB, qCells, faB]
            refine hC.weak d69 (Weak.keep ?_ ?_) <;> simp [fF, byV, wtB, qCells, faB]
          · simp [oe11, fF, byV, wtB, qCells, faB]
            refine hC.weak d70 (Weak.keep ?_ ?_) <;> simp [fF, byV, wtB, qCells, faB]
        have d72 : C 11 (bvA 14 2576) ⟨faB h.length H.length zs i x ++ [(70, .pv (I64 l)), (75, .pv (I64 l)), (77, .pv (.fn (.func 140) [] [.ptr H.length 0]))], H6⟩ := by
          refine hC.fork [(0, (bvA 14 2577)), (5, (bvA 14 2608))] ?_ ⟨?_, ?_, trivial⟩
          · kernel_rfl
          · simp [oe0, fF, byV, wtB, qCells, faB]
            refine hC.take 1 (bvA 14 2579) ?_ ?_
            · kernel_rfl
            simp [oe1, fF, byV, wtB, qCells, faB]
            refine hC.take 2 (bvA 14 2583) ?_ ?_
            · kernel_rfl
            simp [oe2, fF, byV, wtB, qCells, faB]
            refine hC.weak d42 (Weak.keep ?_ ?_) <;> simp [fF, byV, wtB, qCells, faB]
          · simp [oe5, fF, byV, wtB, qCells, faB]
            refine hC.take 6 (bvA 14 2672) ?_ ?_
            · kernel_rfl
            simp [oe6, fF, byV, wtB, qCells, faB]
            refine hC.take 7 (bvA 14 2800) ?_ ?_
            · kernel_rfl
            simp [oe7, fF, byV, wtB, qCells, faB]
            refine hC.weak d68 (Weak.keep ?_ ?_) <;> simp [fF, byV, wtB, qCells, faB]
        have d73 : C 12 (bvA 14 528) ⟨faB h.length H.length zs i x ++ [(70, .pv (I64 l)), (75, .pv (I64 l))], H6⟩ := by
          refine hC.fork [(0, (bvA 14 529)), (5, (bvA 14 560)), (11, (bvA 14 2576))] ?_ ⟨?_, ?_, ?_, trivial⟩
          · kernel_rfl
          · simp [oe0, fF, byV, wtB, qCells, faB]
            refine hC.take 1 (bvA 14 531) ?_ ?_
            · kernel_rfl
            simp [oe1, fF, byV, wtB, qCells, faB]
            refine hC.take 2 (bvA 14 535) ?_ ?_
            · kernel_rfl
            simp [oe2, fF, byV, wtB, qCells, faB]
            refine hC.weak d43 (Weak.keep ?_ ?_) <;> simp [fF, byV, wtB, qCells, faB]
          · simp [oe5, fF, byV, wtB, qCells, faB]
            refine hC.take 6 (bvA 14 624) ?_ ?_
            · kernel_rfl
            simp [oe6, fF, byV, wtB, qCells, faB]
            refine hC.take 7 (bvA 14 752) ?_ ?_
            · kernel_rfl
            simp [oe7, fF, byV, wtB, qCells, faB]
            refine hC.weak d69 (Weak.keep ?_ ?_) <;> simp [fF, byV, wtB, qCells, faB]
          · simp [oe11, fF, byV, wtB, qCells, faB]
            refine hC.weak d72 (Weak.keep ?_ ?_) <;> simp [fF, byV, wtB, qCells, faB]
        have d74 : C 12 (bvA 14 2064) ⟨faB h.length H.length zs i x ++ [(70, .pv (I64 l)), (77, .pv (.fn (.func 140) [] [.ptr H.length 0]))], H6⟩ := by
          refine hC.fork [(0, (bvA 14 2065)), (5, (bvA 14 2096)), (9, (bvA 14 2576))] ?_ ⟨?_, ?_, ?_, trivial⟩
          · kernel_rfl
          · simp [oe0, fF, byV, wtB, qCells, faB]
            refine hC.take 1 (bvA 14 2067) ?_ ?_
            · kernel_rfl
            simp [oe1, fF, byV, wtB, qCells, faB]
            refine hC.take 2 (bvA 14 2071) ?_ ?_
            · kernel_rfl
            simp [oe2, fF, byV, wtB, qCells, faB]
            refine hC.weak d44 (Weak.keep ?_ ?_) <;> simp [fF, byV, wtB, qCells, faB]
          · simp [oe5, fF, byV, wtB, qCells, faB]
            refine hC.take 6 (bvA 14 2160) ?_ ?_
            · kernel_rfl
            simp [oe6, fF, byV, wtB, qCells, faB]
            refine hC.take 7 (bvA 14 2288) ?_ ?_
            · kernel_rfl
            simp [oe7, fF, byV, wtB, qCells, faB]
            refine hC.weak d70 (Weak.keep ?_ ?_) <;> simp [fF, byV, wtB, qCells, faB]
          · simp [oe9, fF, byV, wtB, qCells, faB]
            refine hC.weak d72 (Weak.keep ?_ ?_) <;> simp [fF, byV, wtB, qCells, faB]
        have d75 : C 13 (bvA 14 16) ⟨faB h.length H.length zs i x ++ [(70, .pv (I64 l))], H6⟩ := by
          refine hC.fork [(0, (bvA 14 17)), (5, (bvA 14 48)), (9, (bvA 14 528)), (11, (bvA 14 2064))] ?_ ⟨?_, ?_, ?_, ?_, trivial⟩
          · kernel_rfl
          · simp [oe0, fF, byV, wtB, qCells, faB]
            refine hC.take 1 (bvA 14 19) ?_ ?_
            · kernel_rfl
            simp [oe1, fF, byV, wtB, qCells, faB]
            refine hC.take 2 (bvA 14 23) ?_ ?_
            · kernel_rfl
            simp [oe2, fF, byV, wtB, qCells, faB]
            refine hC.weak d45 (Weak.keep ?_ ?_) <;> simp [fF, byV, wtB, qCells, faB]
          · simp [oe5, fF, byV, wtB, qCells, faB]
            refine hC.take 6 (bvA 14 112) ?_ ?_
            · kernel_rfl
            simp [oe6, fF, byV, wtB, qCells, faB]
            refine hC.take 7 (bvA 14 240) ?_ ?_
            · kernel_rfl
            simp [oe7, fF, byV, wtB, qCells, faB]
            refine hC.weak d71 (Weak.keep ?_ ?_) <;> simp [fF, byV, wtB, qCells, faB]
          · simp [oe9, fF, byV, wtB, qCells, faB]
            refine hC.weak d73 (Weak.keep ?_ ?_) <;> simp [fF, byV, wtB, qCells, faB]
          · simp [oe11, fF, byV, wtB, qCells, faB]
            refine hC.weak d74 (Weak.keep ?_ ?_) <;> simp [fF, byV, wtB, qCells, faB]
        have d76 : C 6 (bvA 14 8160) ⟨faB h.length H.length zs i x ++ [(78, .pv (.bsl ey.b 1 0 Z9.length ey.cp))], H7a⟩ := by
          refine hC.fork [(0, (bvA 14 8161)), (4, (bvA 14 8176))] ?_ ⟨?_, ?_, trivial⟩
          · kernel_rfl
          · simp [oe0, fF, byV, wtB, qCells, faB]
            refine hC.take 1 (bvA 14 8163) ?_ ?_
            · kernel_rfl
            simp [oe1, fF, byV, wtB, qCells, faB]
            refine hC.take 2 (bvA 14 8167) ?_ ?_
            · kernel_rfl
            simp [oe2, fF, byV, wtB, qCells, faB]
            refine hC.weak d46 (Weak.keep ?_ ?_) <;> simp [fF, byV, wtB, qCells, faB]
          · simp [oe4, fF, byV, wtB, qCells, faB]
            refine hC.weak d61 (Weak.keep ?_ ?_) <;> simp [fF, byV, wtB, qCells, faB]
        have d77 : C 7 (bvA 14 4064) ⟨faB h.length H.length zs i x ++ [(76, .pv (.bsl ey.b 1 0 ey.n ey.cp)), (77, .pv (.fn (.func 140) [] [.ptr H.length 0]))], H6⟩ := by
          refine hC.fork [(0, (bvA 14 4065)), (4, (bvA 14 4080)), (12, (bvA 14 8160))] ?_ ⟨?_, ?_, ?_, trivial⟩
          · kernel_rfl
          · simp [oe0, fF, byV, wtB, qCells, faB]
            refine hC.take 1 (bvA 14 4067) ?_ ?_
            · kernel_rfl
            simp [oe1, fF, byV, wtB, qCells, faB]
            refine hC.take 2 (bvA 14 4071) ?_ ?_
            · kernel_rfl
            simp [oe2, fF, byV, wtB, qCells, faB]
            refine hC.weak d47 (Weak.keep ?_ ?_) <;> simp [fF, byV, wtB, qCells, faB]
          · simp [oe4, fF, byV, wtB, qCells, faB]
            refine hC.weak d62 (Weak.keep ?_ ?_) <;> simp [fF, byV, wtB, qCells, faB]
          · simp [oe12, fF, byV, wtB, qCells, faB]
            refine CallB.introX (CallX.introT (b := ey.b) (b2 := H.length) (zs := z9) (sp := sp9) (cp := ey.cp) hD9 (by simp) (by simp) rfl (by simp) (by simp [ey3]) (by simp) (by simp) ey1 hk6? hbox hpos9 hzl9 ?_)
            rintro _ _ ⟨rfl, rfl⟩
            refine ⟨_, _, rfl, rfl, by simp; omega, hDl9, ?_⟩
            rw [← hX9, ← hH7a]
            simp [ey6, ey6.symm, qCells, faB]
            refine hC.weak d76 (Weak.keep ?_ ?_) <;> simp [fF, byV, wtB, qCells, faB]
        have d78 : C 8 (bvA 14 2016) ⟨faB h.length H.length zs i x ++ [(76, .pv (.bsl ey.b 1 0 ey.n ey.cp))], H6⟩ := by
          refine hC.fork [(0, (bvA 14 2017)), (4, (bvA 14 2032)), (11, (bvA 14 4064))] ?_ ⟨?_, ?_, ?_, trivial⟩
          · kernel_rfl
          · simp [oe0, fF, byV, wtB, qCells, faB]
            refine hC.take 1 (bvA 14 2019) ?_ ?_
            · kernel_rfl
            simp [oe1, fF, byV, wtB, qCells, faB]
            refine hC.take 2 (bvA 14 2023) ?_ ?_
            · kernel_rfl
            simp [oe2, fF, byV, wtB, qCells, faB]
            refine hC.weak d48 (Weak.keep ?_ ?_) <;> simp [fF, byV, wtB, qCells, faB]
          · simp [oe4, fF, byV, wtB, qCells, faB]
            refine hC.weak d63 (Weak.keep ?_ ?_) <;> simp [fF, byV, wtB, qCells, faB]
          · simp [oe11, fF, byV, wtB, qCells, faB]
            refine hC.weak d77 (Weak.keep ?_ ?_) <;> simp [fF, byV, wtB, qCells, faB]
        have d79 : C 8 (bvA 14 3040) ⟨faB h.length H.length zs i x ++ [(74, .al (.cell bw 3)), (75, .pv (I64 l)), (77, .pv (.fn (.func 140) [] [.ptr H.length 0]))], H6⟩ := by
          refine hC.fork [(0, (bvA 14 3041)), (4, (bvA 14 3056)), (10, (bvA 14 4064))] ?_ ⟨?_, ?_, ?_, trivial⟩
          · kernel_rfl
          · simp [oe0, fF, byV, wtB, qCells, faB]
            refine hC.take 1 (bvA 14 3043) ?_ ?_
            · kernel_rfl
            simp [oe1, fF, byV, wtB, qCells, faB]
            refine hC.take 2 (bvA 14 3047) ?_ ?_
            · kernel_rfl
            simp [oe2, fF, byV, wtB, qCells, faB]
            refine hC.weak d49 (Weak.keep ?_ ?_) <;> simp [fF, byV, wtB, qCells, faB]
          · simp [oe4, fF, byV, wtB, qCells, faB]
            refine hC.weak d64 (Weak.keep ?_ ?_) <;> simp [fF, byV, wtB, qCells, faB]
          · simp [oe10, fF, byV, wtB, qCells, faB]
            refine hC.weak d77 (Weak.keep ?_ ?_) <;> simp [fF, byV, wtB, qCells, faB]
        have d80 : C 9 (bvA 14 992) ⟨faB h.length H.length zs i x ++ [(74, .al (.cell bw 3)), (75, .pv (I64 l))], H6⟩ := by
          refine hC.fork [(0, (bvA 14 993)), (4, (bvA 14 1008)), (10, (bvA 14 2016)), (11, (bvA 14 3040))] ?_ ⟨?_, ?_, ?_, ?_, trivial⟩
          · kernel_rfl
          · simp [oe0, fF, byV, wtB, qCells, faB]
            refine hC.take 1 (bvA 14 995) ?_ ?_
            · kernel_rfl
            simp [oe1, fF, byV, wtB, qCells, faB]
            refine hC.take 2 (bvA 14 999) ?_ ?_
            · kernel_rfl
            simp [oe2, fF, byV, wtB, qCells, faB]
            refine hC.weak d50 (Weak.keep ?_ ?_) <;> simp [fF, byV, wtB, qCells, faB]
          · simp [oe4, fF, byV, wtB, qCells, faB]
            refine hC.weak d65 (Weak.keep ?_ ?_) <;> simp [fF, byV, wtB, qCells, faB]
          · simp [oe10, fF, byV, wtB, qCells, faB]
            refine hC.weak d78 (Weak.keep ?_ ?_) <;> simp [fF, byV, wtB, qCells, faB]
          · simp [oe11, fF, byV, wtB, qCells, faB]
            refine hC.weak d79 (Weak.keep ?_ ?_) <;> simp [fF, byV, wtB, qCells, faB]
        have d81 : C 9 (bvA 14 2528) ⟨faB h.length H.length zs i x ++ [(74, .al (.cell bw 3)), (77, .pv (.fn (.func 140) [] [.ptr H.length 0]))], H6⟩ := by
          refine hC.fork [(0, (bvA 14 2529)), (4, (bvA 14 2544)), (9, (bvA 14 3040))] ?_ ⟨?_, ?_, ?_, trivial⟩
          · kernel_rfl
          · simp [oe0, fF, byV, wtB, qCells, faB]
            refine hC.take 1 (bvA 14 2531) ?_ ?_
            · kernel_rfl
            simp [oe1, fF, byV, wtB, qCells, faB]
            refine hC.take 2 (bvA 14 2535) ?_ ?_
            · kernel_rfl
            simp [oe2, fF, byV, wtB, qCells, faB]
            refine hC.weak d51 (Weak.keep ?_ ?_) <;> simp [fF, byV, wtB, qCells, faB]
          · simp [oe4, fF, byV, wtB, qCells, faB]
            refine hC.weak d66 (Weak.keep ?_ ?_) <;> simp [fF, byV, wtB, qCells, faB]
          · simp [oe9, fF, byV, wtB, qCells, faB]
            refine hC.weak d79 (Weak.keep ?_ ?_) <;> simp [fF, byV, wtB, qCells, faB]
        have d82 : C 10 (bvA 14 480) ⟨faB h.length H.length zs i x ++ [(74, .al (.cell bw 3))], H6⟩ := by
          refine hC.fork [(0, (bvA 14 481)), (4, (bvA 14 496)), (9, (bvA 14 992)), (11, (bvA 14 2528))] ?_ ⟨?_, ?_, ?_, ?_, trivial⟩
          · kernel_rfl
          · simp [oe0, fF, byV, wtB, qCells, faB]
            refine hC.take 1 (bvA 14 483) ?_ ?_
            · kernel_rfl
            simp [oe1, fF, byV, wtB, qCells, faB]
            refine hC.take 2 (bvA 14 487) ?_ ?_
            · kernel_rfl
            simp [oe2, fF, byV, wtB, qCells, faB]
            refine hC.weak d52 (Weak.keep ?_ ?_) <;> simp [fF, byV, wtB, qCells, faB]
          · simp [oe4, fF, byV, wtB, qCells, faB]
            refine hC.weak d67 (Weak.keep ?_ ?_) <;> simp [fF, byV, wtB, qCells, faB]
          · simp [oe9, fF, byV, wtB, qCells, faB]
            refine hC.weak d80 (Weak.keep ?_ ?_) <;> simp [fF, byV, wtB, qCells, faB]
          · simp [oe11, fF, byV, wtB, qCells, faB]
            refine hC.weak d81 (Weak.keep ?_ ?_) <;> simp [fF, byV, wtB, qCells, faB]
        have d83 : C 9 (bvA 14 2784) ⟨faB h.length H.length zs i x ++ [(73, .pv (.ptr bw 3)), (75, .pv (I64 l)), (77, .pv (.fn (.func 140) [] [.ptr H.length 0]))], H6⟩ := by
          refine hC.fork [(0, (bvA 14 2785)), (4, (bvA 14 2800)), (8, (bvA 14 3040))] ?_ ⟨?_, ?_, ?_, trivial⟩
          · kernel_rfl
          · simp [oe0, fF, byV, wtB, qCells, faB]
            refine hC.take 1 (bvA 14 2787) ?_ ?_
            · kernel_rfl
            simp [oe1, fF, byV, wtB, qCells, faB]
            refine hC.take 2 (bvA 14 2791) ?_ ?_
            · kernel_rfl
            simp [oe2, fF, byV, wtB, qCells, faB]
            refine hC.weak d53 (Weak.keep ?_ ?_) <;> simp [fF, byV, wtB, qCells, faB]
          · simp [oe4, fF, byV, wtB, qCells, faB]
            refine hC.weak d68 (Weak.keep ?_ ?_) <;> simp [fF, byV, wtB, qCells, faB]
          · simp [oe8, fF, byV, wtB, qCells, faB]
            refine hC.weak d79 (Weak.keep ?_ ?_) <;> simp [fF, byV, wtB, qCells, faB]
        have d84 : C 10 (bvA 14 736) ⟨faB h.length H.length zs i x ++ [(73, .pv (.ptr bw 3)), (75, .pv (I64 l))], H6⟩ := by
          refine hC.fork [(0, (bvA 14 737)), (4, (bvA 14 752)), (8, (bvA 14 992)), (11, (bvA 14 2784))] ?_ ⟨?_, ?_, ?_, ?_, trivial⟩
          · kernel_rfl
          · simp [oe0, fF, byV, wtB, qCells, faB]
            refine hC.take 1 (bvA 14 739) ?_ ?_
            · kernel_rfl
            simp [oe1, fF, byV, wtB, qCells, faB]
            refine hC.take 2 (bvA 14 743) ?_ ?_
            · kernel_rfl
            simp [oe2, fF, byV, wtB, qCells, faB]
            refine hC.weak d54 (Weak.keep ?_ ?_) <;> simp [fF, byV, wtB, qCells, faB]
          · simp [oe4, fF, byV, wtB, qCells, faB]
            refine hC.weak d69 (Weak.keep ?_ ?_) <;> simp [fF, byV, wtB, qCells, faB]
          · simp [oe8, fF, byV, wtB, qCells, faB]
            refine hC.weak d80 (Weak.keep ?_ ?_) <;> simp [fF, byV, wtB, qCells, faB]
          · simp [oe11, fF, byV, wtB, qCells, faB]
            refine hC.weak d83 (Weak.keep ?_ ?_) <;> simp [fF, byV, wtB, qCells, faB]
        have d85 : C 10 (bvA 14 2272) ⟨faB h.length H.length zs i x ++ [(73, .pv (.ptr bw 3)), (77, .pv (.fn (.func 140) [] [.ptr H.length 0]))], H6⟩ := by
          refine hC.fork [(0, (bvA 14 2273)), (4, (bvA 14 2288)), (8, (bvA 14 2528)), (9, (bvA 14 2784))] ?_ ⟨?_, ?_, ?_, ?_, trivial⟩
          · kernel_rfl
          · simp [oe0, fF, byV, wtB, qCells, faB]
            refine hC.take 1 (bvA 14 2275) ?_ ?_
            · kernel_rfl
            simp [oe1, fF, byV, wtB, qCells, faB]
            refine hC.take 2 (bvA 14 2279) ?_ ?_
            · kernel_rfl
            simp [oe2, fF, byV, wtB, qCells, faB]
            refine hC.weak d55 (Weak.keep ?_ ?_) <;> simp [fF, byV, wtB, qCells, faB]
          · simp [oe4, fF, byV, wtB, qCells, faB]
            refine hC.weak d70 (Weak.keep ?_ ?_) <;> simp [fF, byV, wtB, qCells, faB]
          · simp [oe8, fF, byV, wtB, qCells, faB]
            refine hC.weak d81 (Weak.keep ?_ ?_) <;> simp [fF, byV, wtB, qCells, faB]
          · simp [oe9, fF, byV, wtB, qCells, faB]
            refine hC.weak d83 (Weak.keep ?_ ?_) <;> simp [fF, byV, wtB, qCells, faB]
        have d86 : C 11 (bvA 14 224) ⟨faB h.length H.length zs i x ++ [(73, .pv (.ptr bw 3))], H6⟩ := by
          refine hC.fork [(0, (bvA 14 225)), (4, (bvA 14 240)), (8, (bvA 14 480)), (9, (bvA 14 736)), (11, (bvA 14 2272))] ?_ ⟨?_, ?_, ?_, ?_, ?_, trivial⟩
          · kernel_rfl
          · simp [oe0, fF, byV, wtB, qCells, faB]
            refine hC.take 1 (bvA 14 227) ?_ ?_
            · kernel_rfl
            simp [oe1, fF, byV, wtB, qCells, faB]
            refine hC.take 2 (bvA 14 231) ?_ ?_
            · kernel_rfl
            simp [oe2, fF, byV, wtB, qCells, faB]
            refine hC.weak d56 (Weak.keep ?_ ?_) <;> simp [fF, byV, wtB, qCells, faB]
          · simp [oe4, fF, byV, wtB, qCells, faB]
            refine hC.weak d71 (Weak.keep ?_ ?_) <;> simp [fF, byV, wtB, qCells, faB]
          · simp [oe8, fF, byV, wtB, qCells, faB]
            refine hC.weak d82 (Weak.keep ?_ ?_) <;> simp [fF, byV, wtB, qCells, faB]
          · simp [oe9, fF, byV, wtB, qCells, faB]
            refine hC.weak d84 (Weak.keep ?_ ?_) <;> simp [fF, byV, wtB, qCells, faB]
          · simp [oe11, fF, byV, wtB, qCells, faB]
            refine hC.weak d85 (Weak.keep ?_ ?_) <;> simp [fF, byV, wtB, qCells, faB]
        have d87 : C 12 (bvA 14 2560) ⟨faB h.length H.length zs i x ++ [(75, .pv (I64 l)), (77, .pv (.fn (.func 140) [] [.ptr H.length 0]))], H6⟩ := by
          refine hC.fork [(0, (bvA 14 2561)), (4, (bvA 14 2576)), (5, (bvA 14 2592))] ?_ ⟨?_, ?_, ?_, trivial⟩
          · kernel_rfl
          · simp [oe0, fF, byV, wtB, qCells, faB]
            refine hC.take 1 (bvA 14 2563) ?_ ?_
            · kernel_rfl
            simp [oe1, fF, byV, wtB, qCells, faB]
            refine hC.take 2 (bvA 14 2567) ?_ ?_
            · kernel_rfl
            simp [oe2, fF, byV, wtB, qCells, faB]
            refine hC.weak d57 (Weak.keep ?_ ?_) <;> simp [fF, byV, wtB, qCells, faB]
          · simp [oe4, fF, byV, wtB, qCells, faB]
            refine hC.weak d72 (Weak.keep ?_ ?_) <;> simp [fF, byV, wtB, qCells, faB]
          · simp [oe5, fF, byV, wtB, qCells, faB]
            refine hC.take 6 (bvA 14 2656) ?_ ?_
            · kernel_rfl
            simp [oe6, fF, byV, wtB, qCells, faB]
            refine hC.take 7 (bvA 14 2784) ?_ ?_
            · kernel_rfl
            simp [oe7, fF, byV, wtB, qCells, faB]
            refine hC.weak d83 (Weak.keep ?_ ?_) <;> simp [fF, byV, wtB, qCells, faB]
        have d88 : C 13 (bvA 14 512) ⟨faB h.length H.length zs i x ++ [(75, .pv (I64 l))], H6⟩ := by
          refine hC.fork [(0, (bvA 14 513)), (4, (bvA 14 528)), (5, (bvA 14 544)), (11, (bvA 14 2560))] ?_ ⟨?_, ?_, ?_, ?_, trivial⟩
          · kernel_rfl
          · simp [oe0, fF, byV, wtB, qCells, faB]
            refine hC.take 1 (bvA 14 515) ?_ ?_
            · kernel_rfl
            simp [oe1, fF, byV, wtB, qCells, faB]
            refine hC.take 2 (bvA 14 519) ?_ ?_
            · kernel_rfl
            simp [oe2, fF, byV, wtB, qCells, faB]
            refine hC.weak d58 (Weak.keep ?_ ?_) <;> simp [fF, byV, wtB, qCells, faB]
          · simp [oe4, fF, byV, wtB, qCells, faB]
            refine hC.weak d73 (Weak.keep ?_ ?_) <;> simp [fF, byV, wtB, qCells, faB]
          · simp [oe5, fF, byV, wtB, qCells, faB]
            refine hC.take 6 (bvA 14 608) ?_ ?_
            · kernel_rfl
            simp [oe6, fF, byV, wtB, qCells, faB]
            refine hC.take 7 (bvA 14 736) ?_ ?_
            · kernel_rfl
            simp [oe7, fF, byV, wtB, qCells, faB]
            refine hC.weak d84 (Weak.keep ?_ ?_) <;> simp [fF, byV, wtB, qCells, faB]
          · simp [oe11, fF, byV, wtB, qCells, faB]
            refine hC.weak d87 (Weak.keep ?_ ?_) <;> simp [fF, byV, wtB, qCells, faB]
        have d89 : C 13 (bvA 14 2048) ⟨faB h.length H.length zs i x ++ [(77, .pv (.fn (.func 140) [] [.ptr H.length 0]))], H6⟩ := by
          refine hC.fork [(0, (bvA 14 2049)), (4, (bvA 14 2064)), (5, (bvA 14 2080)), (9, (bvA 14 2560))] ?_ ⟨?_, ?_, ?_, ?_, trivial⟩
          · kernel_rfl
          · simp [oe0, fF, byV, wtB, qCells, faB]
            refine hC.take 1 (bvA 14 2051) ?_ ?_
            · kernel_rfl
            simp [oe1, fF, byV, wtB, qCells, faB]
            refine hC.take 2 (bvA 14 2055) ?_ ?_
            · kernel_rfl
            simp [oe2, fF, byV, wtB, qCells, faB]
            refine hC.weak d59 (Weak.keep ?_ ?_) <;> simp [fF, byV, wtB, qCells, faB]
          · simp [oe4, fF, byV, wtB, qCells, faB]
            refine hC.weak d74 (Weak.keep ?_ ?_) <;> simp [fF, byV, wtB, qCells, faB]
          · simp [oe5, fF, byV, wtB, qCells, faB]
            refine hC.take 6 (bvA 14 2144) ?_ ?_
            · kernel_rfl
            simp [oe6, fF, byV, wtB, qCells, faB]
            refine hC.take 7 (bvA 14 2272) ?_ ?_
            · kernel_rfl
            simp [oe7, fF, byV, wtB, qCells, faB]
            refine hC.weak d85 (Weak.keep ?_ ?_) <;> simp [fF, byV, wtB, qCells, faB]
          · simp [oe9, fF, byV, wtB, qCells, faB]
            refine hC.weak d87 (Weak.keep ?_ ?_) <;> simp [fF, byV, wtB, qCells, faB]
        have d90 : C 14 (bvA 14 0) ⟨faB h.length H.length zs i x ++ [], H6⟩ := by
          refine hC.fork [(0, (bvA 14 1)), (4, (bvA 14 16)), (5, (bvA 14 32)), (9, (bvA 14 512)), (11, (bvA 14 2048))] ?_ ⟨?_, ?_, ?_, ?_, ?_, trivial⟩
          · kernel_rfl
          · simp [oe0, fF, byV, wtB, qCells, faB]
            refine hC.take 1 (bvA 14 3) ?_ ?_
            · kernel_rfl
            simp [oe1, fF, byV, wtB, qCells, faB]
            refine hC.take 2 (bvA 14 7) ?_ ?_
            · kernel_rfl
            simp [oe2, fF, byV, wtB, qCells, faB]
            refine hC.weak d60 (Weak.keep ?_ ?_) <;> simp [fF, byV, wtB, qCells, faB]
          · simp [oe4, fF, byV, wtB, qCells, faB]
            refine hC.weak d75 (Weak.keep ?_ ?_) <;> simp [fF, byV, wtB, qCells, faB]
          · simp [oe5, fF, byV, wtB, qCells, faB]
            refine hC.take 6 (bvA 14 96) ?_ ?_
            · kernel_rfl
            simp [oe6, fF, byV, wtB, qCells, faB]
            refine hC.take 7 (bvA 14 224) ?_ ?_
            · kernel_rfl
            simp [oe7, fF, byV, wtB, qCells, faB]
            refine hC.weak d86 (Weak.keep ?_ ?_) <;> simp [fF, byV, wtB, qCells, faB]
          · simp [oe9, fF, byV, wtB, qCells, faB]
            refine hC.weak d88 (Weak.keep ?_ ?_) <;> simp [fF, byV, wtB, qCells, faB]
          · simp [oe11, fF, byV, wtB, qCells, faB]
            refine hC.weak d89 (Weak.keep ?_ ?_) <;> simp [fF, byV, wtB, qCells, faB]
        refine hC.weak d90 (Weak.keep ?_ ?_) <;> simp [fF, byV, wtB, qCells, faB]
      rintro _ _
      have hfb : forB S'.byl k l = pt S'.byl l Z9 := by unfold forB; rw [if_neg hS.l0, hz9, Option.getD_some, hZ9]
      have h8n? : (H7a.set bw (wtB ba bt ⟨mp, pt mb' l ⟨ey.b, Z9.length, ey.cp⟩, S'.late, S'.head, S'.seen⟩))[h.length]? = some [.pv (.ptr bw 0)] := by rw [List.getElem?_set_ne (fun q => n2 (.inl q.symm)), h70?]
      have h8k? : (H7a.set bw (wtB ba bt ⟨mp, pt mb' l ⟨ey.b, Z9.length, ey.cp⟩, S'.late, S'.head, S'.seen⟩))[H.length]? = some [.pv (I64 k)] := by rw [List.getElem?_set_ne (fun q => houk (.inl q.symm)), h7k?]
      rw [← hfb] at L7
      have hzB := forB_len (k := k) (l := l) hS.hz
      clear fF h7a h7b h7c h7d h7e h7f h7g h7h h7w? h70? h71? h7k? hH7a hD9 hX9 hXc
      generalize pt mb' l ⟨ey.b, Z9.length, ey.cp⟩ = mb7 at *
      generalize H7a.set bw (wtB ba bt ⟨mp, mb7, S'.late, S'.head, S'.seen⟩) = H7 at *
      have n7 : ¬ DomW bw bt mp mb7 h.length := fun q => n2 (E6.sub _ c1 (E7.sub _ h6c q))
      have nk7 : ¬ DomW bw bt mp mb7 H.length := fun q => houk (E6.sub _ f1 (E7.sub _ h6g q))
      obtain ⟨h8a, h8b⟩ := List.getElem?_eq_some_iff.1 L7.w
      obtain ⟨h8c, h8d⟩ := List.getElem?_eq_some_iff.1 h8n?
      obtain ⟨h8e, h8f⟩ := List.getElem?_eq_some_iff.1 h8k?
      obtain ⟨JE, hJE⟩ : ∃ JE : List (List SV) → List (Int × By) → Prop, ∀ Y m, JE Y m ↔ (LayW Y bw ba bt mp m A T' (movS S' k l p x) ∧ Ext H7 Y (DomW bw bt mp mb7) (DomW bw bt mp m)) := ⟨_, fun _ _ => Iff.rfl⟩
      have dom : ∀ e', (∀ c, c < H7.length → e'.b = c → ∃ l0 e0, lk mb7 l0 = some e0 ∧ e0.b = c) → ∀ c, c < H7.length → DomW bw bt mp (pt mb7 x e') c → DomW bw bt mp mb7 c := fun e' he' c hc q => by
        rcases q with q | q | q | ⟨l', e2, q, q2⟩
        · exact .inl q
        · exact .inr (.inl q)
        · exact .inr (.inr (.inl q))
        · rw [lk_pt] at q
          split at q
          · cases q; exact .inr (.inr (.inr (he' c hc q2)))
          · exact .inr (.inr (.inr ⟨l', e2, q, q2⟩))
      have hfin : ∀ (x2 : List (List SV) × List (Int × By)), JE x2.1 x2.2 → LayW x2.1 bw ba bt mp x2.2 A T' (movS S' k l p x) ∧ Ext G x2.1 (DomW bw bt mp mb) (DomW bw bt mp x2.2) := fun x2 hj => by
        obtain ⟨j1, j2⟩ := (hJE _ _).1 hj
        exact ⟨j1, (hE.trans E2).trans ((E6.trans E7).trans j2)⟩
      simp
      cases hl2 : lk mb7 x with
      | none =>
        have hb0 := L7.byn x hl2
        have hst : movS S' k l p x = ⟨pt S'.prs k (movP l p x), pt (forB S'.byl k l) x [k], S'.late, S'.head, S'.seen⟩ := by
          unfold movS addB
          rw [show lk (forB S'.byl k l) x = none from hb0]; rfl
        have hnew : ∀ cap, 1 ≤ cap → (H7 ++ [SV.pv (I64 k) :: List.replicate (cap - 1) (SV.pv .bot)])[bw]? = some (wtB ba bt ⟨mp, mb7, S'.late, S'.head, S'.seen⟩) ∧ (H7 ++ [SV.pv (I64 k) :: List.replicate (cap - 1) (SV.pv .bot)])[h.length]? = some [.pv (.ptr bw 0)] ∧ JE ((H7 ++ [SV.pv (I64 k) :: List.replicate (cap - 1) (SV.pv .bot)]).set bw (wtB ba bt ⟨mp, pt mb7 x ⟨H7.length, 1, cap⟩, S'.late, S'.head, S'.seen⟩)) (pt mb7 x ⟨H7.length, 1, cap⟩) := fun cap hc => by
          refine ⟨by rw [List.getElem?_append_left h8a]; exact L7.w, by rw [List.getElem?_append_left h8c, h8n?], (hJE _ _).2 ⟨?_, ?_⟩⟩
          · rw [hst]
            exact L7.newB x [k] (List.replicate (cap - 1) (SV.pv .bot)) (fun m => belowC_repW m _) 1 cap rfl hc (by simp; omega)
          · refine (((Ext.app H7 [SV.pv (I64 k) :: List.replicate (cap - 1) (SV.pv .bot)] _).trans (Ext.set bw _ (.inl rfl))).dom (dom _ fun c hc e => ?_))
            simp only at e; omega
        have fG := And.intro h8a (And.intro h8b (And.intro h8c (And.intro h8d (And.intro h8e (And.intro h8f hl2)))))
        refine AAnyD.dagE [92] (fun x2 : List (List SV) × List (Int × By) => ⟨[(2, .pv (.ptr h.length 0)), (3, .pv (.ptr (h.length + 1) 0)), (5, .own true 1 (irow zs)), (6, .pv (.fn (.func 137) [] [.ptr (h.length + 1) 0, .ptr h.length 0])), (8, .pv (.ptr H.length 0)), (13, .pv (I64 x)), (22, .al (.slot 5)), (23, .pv (I64 zs.length)), (24, .pv (I64 i))], x2.1⟩) (fun x2 => JE x2.1 x2.2) 15 (bvA 15 0) (by kernel_rfl) (fun stp stM hstp hstM C hC => ?_) ?_
        · have oe0 := hstM 0
          simp only [AStepMI, AStepM, blkOf, cutOfB, AStepI, AStep, AEx, gslot, boxedIn, List.getElem?_cons_zero, List.getElem?_cons_succ, Option.bind_some, Bool.or_false, Bool.false_or, Bool.or_true, Bool.true_or, Bool.false_and, Bool.true_and, Bool.false_eq_true, if_false] at oe0
          have oe1 := hstp 1
          simp only [AStepI, AStep, AEx, gslot, boxedIn, List.getElem?_cons_zero, List.getElem?_cons_succ, Option.bind_some, Bool.or_false, Bool.false_or, Bool.or_true, Bool.true_or, Bool.false_and, Bool.true_and, Bool.false_eq_true, if_false] at oe1
          have oe2 := hstp 2
          simp only [AStepI, AStep, AEx, gslot, boxedIn, List.getElem?_cons_zero, List.getElem?_cons_succ, Option.bind_some, Bool.or_false, Bool.false_or, Bool.or_true, Bool.true_or, Bool.false_and, Bool.true_and, Bool.false_eq_true, if_false] at oe2
          have oe3 := hstM 3
          simp only [AStepMI, AStepM, blkOf, cutOfB, AStepI, AStep, AEx, gslot, boxedIn, List.getElem?_cons_zero, List.getElem?_cons_succ, Option.bind_some, Bool.or_false, Bool.false_or, Bool.or_true, Bool.true_or, Bool.false_and, Bool.true_and, Bool.false_eq_true, if_false] at oe3
          have oe4 := hstp 4
          simp only [AStepI, AStep, AEx, gslot, boxedIn, List.getElem?_cons_zero, List.getElem?_cons_succ, Option.bind_some, Bool.or_false, Bool.false_or, Bool.or_true, Bool.true_or, Bool.false_and, Bool.true_and, Bool.false_eq_true, if_false] at oe4
          have oe5 := hstM 5
          simp only [AStepMI, AStepM, blkOf, cutOfB, AStepI, AStep, AEx, gslot, boxedIn, List.getElem?_cons_zero, List.getElem?_cons_succ, Option.bind_some, Bool.or_false, Bool.false_or, Bool.or_true, Bool.true_or, Bool.false_and, Bool.true_and, Bool.false_eq_true, if_false] at oe5
          have oe6 := hstp 6
          simp only [AStepI, AStep, AEx, gslot, boxedIn, List.getElem?_cons_zero, List.getElem?_cons_succ, Option.bind_some, Bool.or_false, Bool.false_or, Bool.or_true, Bool.true_or, Bool.false_and, Bool.true_and, Bool.false_eq_true, if_false] at oe6
          have oe7 := hstp 7
          simp only [AStepI, AStep, AEx, gslot, boxedIn, List.getElem?_cons_zero, List.getElem?_cons_succ, Option.bind_some, Bool.or_false, Bool.false_or, Bool.or_true, Bool.true_or, Bool.false_and, Bool.true_and, Bool.false_eq_true, if_false] at oe7
          have oe8 := hstM 8
          simp only [AStepMI, AStepM, blkOf, cutOfB, AStepI, AStep, AEx, gslot, boxedIn, List.getElem?_cons_zero, List.getElem?_cons_succ, Option.bind_some, Bool.or_false, Bool.false_or, Bool.or_true, Bool.true_or, Bool.false_and, Bool.true_and, Bool.false_eq_true, if_false] at oe8
          have oe9 := hstp 9
          simp only [AStepI, AStep, AEx, gslot, boxedIn, List.getElem?_cons_zero, List.getElem?_cons_succ, Option.bind_some, Bool.or_false, Bool.false_or, Bool.or_true, Bool.true_or, Bool.false_and, Bool.true_and, Bool.false_eq_true, if_false] at oe9
          have oe10 := hstM 10
          simp only [AStepMI, AStepM, blkOf, cutOfB, AStepI, AStep, AEx, gslot, boxedIn, List.getElem?_cons_zero, List.getElem?_cons_succ, Option.bind_some, Bool.or_false, Bool.false_or, Bool.or_true, Bool.true_or, Bool.false_and, Bool.true_and, Bool.false_eq_true, if_false] at oe10
          have oe11 := hstM 11
          simp only [AStepMI, AStepM, blkOf, cutOfB, AStepI, AStep, AEx, gslot, boxedIn, List.getElem?_cons_zero, List.getElem?_cons_succ, Option.bind_some, Bool.or_false, Bool.false_or, Bool.or_true, Bool.true_or, Bool.false_and, Bool.true_and, Bool.false_eq_true, if_false] at oe11
          have oe12 := hstM 12
          simp only [AStepMI, AStepM, blkOf, cutOfB, AStepI, AStep, AEx, gslot, boxedIn, List.getElem?_cons_zero, List.getElem?_cons_succ, Option.bind_some, Bool.or_false, Bool.false_or, Bool.or_true, Bool.true_or, Bool.false_and, Bool.true_and, Bool.false_eq_true, if_false] at oe12
          have oe13 := hstM 13
          simp only [AStepMI, AStepM, blkOf, cutOfB, AStepI, AStep, AEx, gslot, boxedIn, List.getElem?_cons_zero, List.getElem?_cons_succ, Option.bind_some, Bool.or_false, Bool.false_or, Bool.or_true, Bool.true_or, Bool.false_and, Bool.true_and, Bool.false_eq_true, if_false] at oe13
          have oe14 := hstM 14
          simp only [AStepMI, AStepM, blkOf, cutOfB, AStepI, AStep, AEx, gslot, boxedIn, List.getElem?_cons_zero, List.getElem?_cons_succ, Option.bind_some, Bool.or_false, Bool.false_or, Bool.or_true, Bool.true_or, Bool.false_and, Bool.true_and, Bool.false_eq_true, if_false] at oe14
          clear hstp hstM
          have d0 : ∀ (Y : List (List SV)) (y : By) (hY : Y[bw]? = some (wtB ba bt ⟨mp, mb7, S'.late, S'.head, S'.seen⟩) ∧ Y[h.length]? = some [.pv (.ptr bw 0)] ∧ JE (Y.set bw (wtB ba bt ⟨mp, pt mb7 x y, S'.late, S'.head, S'.seen⟩)) (pt mb7 x y)), C 0 (bvA 15 32767) ⟨faB h.length H.length zs i x ++ [], Y.set bw (wtB ba bt ⟨mp, pt mb7 x y, S'.late, S'.head, S'.seen⟩)⟩ := by
            intro Y y hY
            have hY2 := hY
            obtain ⟨yw, yb, yj⟩ := hY2
            obtain ⟨yw1, yw2⟩ := List.getElem?_eq_some_iff.1 yw
            obtain ⟨yb1, yb2⟩ := List.getElem?_eq_some_iff.1 yb
            refine hC.done _ _ _ ?_ ?_
            · kernel_rfl
            exact ⟨(Y.set bw (wtB ba bt ⟨mp, pt mb7 x y, S'.late, S'.head, S'.seen⟩), pt mb7 x y), yj, Weak.keep (by simp [faB]) rfl⟩
          have d1 : ∀ (Y : List (List SV)) (y : By) (hY : Y[bw]? = some (wtB ba bt ⟨mp, mb7, S'.late, S'.head, S'.seen⟩) ∧ Y[h.length]? = some [.pv (.ptr bw 0)] ∧ JE (Y.set bw (wtB ba bt ⟨mp, pt mb7 x y, S'.late, S'.head, S'.seen⟩)) (pt mb7 x y)), C 1 (bvA 15 16383) ⟨faB h.length H.length zs i x ++ [(82, .al (.cell bw 3)), (83, .pv (I64 x)), (92, .pv (.bsl y.b 1 0 y.n y.cp))], Y⟩ := by
            intro Y y hY
            have hY2 := hY
            obtain ⟨yw, yb, yj⟩ := hY2
            obtain ⟨yw1, yw2⟩ := List.getElem?_eq_some_iff.1 yw
            obtain ⟨yb1, yb2⟩ := List.getElem?_eq_some_iff.1 yb
            refine hC.fork [(14, (bvA 15 32767))] ?_ ⟨?_, trivial⟩
            · kernel_rfl
            · simp [oe14, yw1, yw2, yb1, yb2, wtB, byV, faB]
              refine hC.weak (d0 Y y hY) (Weak.keep ?_ ?_) <;> simp [yw1, yw2, yb1, yb2, wtB, byV, faB]
          have d2 : C 2 (bvA 15 8191) ⟨faB h.length H.length zs i x ++ [(82, .al (.cell bw 3)), (83, .pv (I64 x)), (89, .pv (.lit (.slice none 0 0))), (91, .own true 1 [[I64 k]])], H7⟩ := by
            refine hC.fork [(13, (bvA 15 16383))] ?_ ⟨?_, trivial⟩
            · kernel_rfl
            · simp [oe13, fG, byV, wtB, faB]
              intro cap hc
              refine hC.weak (d1 _ ⟨H7.length, 1, cap⟩ (hnew cap hc)) (Weak.keep ?_ ?_) <;> simp [faB]
          have d3 : C 3 (bvA 15 4095) ⟨faB h.length H.length zs i x ++ [(82, .al (.cell bw 3)), (83, .pv (I64 x)), (89, .pv (.lit (.slice none 0 0))), (90, .pv (I64 k))], H7⟩ := by
            refine hC.fork [(12, (bvA 15 8191))] ?_ ⟨?_, trivial⟩
            · kernel_rfl
            · simp [oe12, fG, byV, wtB, faB]
              refine hC.weak d2 (Weak.keep ?_ ?_) <;> simp [fG, byV, wtB, faB]
          have d4 : C 4 (bvA 15 2047) ⟨faB h.length H.length zs i x ++ [(82, .al (.cell bw 3)), (83, .pv (I64 x)), (89, .pv (.lit (.slice none 0 0)))], H7⟩ := by
            refine hC.fork [(11, (bvA 15 4095))] ?_ ⟨?_, trivial⟩
            · kernel_rfl
            · simp [oe11, fG, byV, wtB, faB]
              refine hC.weak d3 (Weak.keep ?_ ?_) <;> simp [fG, byV, wtB, faB]
          have d5 : C 3 (bvA 15 7167) ⟨faB h.length H.length zs i x ++ [(82, .al (.cell bw 3)), (83, .pv (I64 x)), (87, .al (.cell bw 3)), (88, .pv (I64 x)), (91, .own true 1 [[I64 k]])], H7⟩ := by
            refine hC.fork [(10, (bvA 15 8191))] ?_ ⟨?_, trivial⟩
            · kernel_rfl
            · simp [oe10, fG, byV, wtB, faB]
              refine hC.weak d2 (Weak.keep ?_ ?_) <;> simp [fG, byV, wtB, faB]
          have d6 : C 4 (bvA 15 3071) ⟨faB h.length H.length zs i x ++ [(82, .al (.cell bw 3)), (83, .pv (I64 x)), (87, .al (.cell bw 3)), (88, .pv (I64 x)), (90, .pv (I64 k))], H7⟩ := by
            refine hC.fork [(10, (bvA 15 4095)), (12, (bvA 15 7167))] ?_ ⟨?_, ?_, trivial⟩
            · kernel_rfl
            · simp [oe10, fG, byV, wtB, faB]
              refine hC.weak d3 (Weak.keep ?_ ?_) <;> simp [fG, byV, wtB, faB]
            · simp [oe12, fG, byV, wtB, faB]
              refine hC.weak d5 (Weak.keep ?_ ?_) <;> simp [fG, byV, wtB, faB]
          have d7 : C 5 (bvA 15 1023) ⟨faB h.length H.length zs i x ++ [(82, .al (.cell bw 3)), (83, .pv (I64 x)), (87, .al (.cell bw 3)), (88, .pv (I64 x))], H7⟩ := by
            refine hC.fork [(10, (bvA 15 2047)), (11, (bvA 15 3071))] ?_ ⟨?_, ?_, trivial⟩
            · kernel_rfl
            · simp [oe10, fG, byV, wtB, faB]
              refine hC.weak d4 (Weak.keep ?_ ?_) <;> simp [fG, byV, wtB, faB]
            · simp [oe11, fG, byV, wtB, faB]
              refine hC.weak d6 (Weak.keep ?_ ?_) <;> simp [fG, byV, wtB, faB]
          have d8 : C 4 (bvA 15 6911) ⟨faB h.length H.length zs i x ++ [(82, .al (.cell bw 3)), (83, .pv (I64 x)), (86, .pv (.ptr bw 3)), (88, .pv (I64 x)), (91, .own true 1 [[I64 k]])], H7⟩ := by
            refine hC.fork [(8, (bvA 15 7167))] ?_ ⟨?_, trivial⟩
            · kernel_rfl
            · simp [oe8, fG, byV, wtB, faB]
              refine hC.weak d5 (Weak.keep ?_ ?_) <;> simp [fG, byV, wtB, faB]
          have d9 : C 5 (bvA 15 2815) ⟨faB h.length H.length zs i x ++ [(82, .al (.cell bw 3)), (83, .pv (I64 x)), (86, .pv (.ptr bw 3)), (88, .pv (I64 x)), (90, .pv (I64 k))], H7⟩ := by
            refine hC.fork [(8, (bvA 15 3071)), (12, (bvA 15 6911))] ?_ ⟨?_, ?_, trivial⟩
            · kernel_rfl
            · simp [oe8, fG, byV, wtB, faB]
              refine hC.weak d6 (Weak.keep ?_ ?_) <;> simp [fG, byV, wtB, faB]
            · simp [oe12, fG, byV, wtB, faB]
              refine hC.weak d8 (Weak.keep ?_ ?_) <;> simp [fG, byV, wtB, faB]
          have d10 : C 6 (bvA 15 767) ⟨faB h.length H.length zs i x ++ [(82, .al (.cell bw 3)), (83, .pv (I64 x)), (86, .pv (.ptr bw 3)), (88, .pv (I64 x))], H7⟩ := by
            refine hC.fork [(8, (bvA 15 1023)), (11, (bvA 15 2815))] ?_ ⟨?_, ?_, trivial⟩
            · kernel_rfl
            · simp [oe8, fG, byV, wtB, faB]
              refine hC.weak d7 (Weak.keep ?_ ?_) <;> simp [fG, byV, wtB, faB]
            · simp [oe11, fG, byV, wtB, faB]
              refine hC.weak d9 (Weak.keep ?_ ?_) <;> simp [fG, byV, wtB, faB]
          have d11 : C 7 (bvA 15 6687) ⟨faB h.length H.length zs i x ++ [(82, .al (.cell bw 3)), (83, .pv (I64 x)), (88, .pv (I64 x)), (91, .own true 1 [[I64 k]])], H7⟩ := by
            refine hC.fork [(5, (bvA 15 6719))] ?_ ⟨?_, trivial⟩
            · kernel_rfl
            · simp [oe5, fG, byV, wtB, faB]
              refine hC.take 6 (bvA 15 6783) ?_ ?_
              · kernel_rfl
              simp [oe6, fG, byV, wtB, faB]
              refine hC.take 7 (bvA 15 6911) ?_ ?_
              · kernel_rfl
              simp [oe7, fG, byV, wtB, faB]
              refine hC.weak d8 (Weak.keep ?_ ?_) <;> simp [fG, byV, wtB, faB]
          have d12 : C 8 (bvA 15 2591) ⟨faB h.length H.length zs i x ++ [(82, .al (.cell bw 3)), (83, .pv (I64 x)), (88, .pv (I64 x)), (90, .pv (I64 k))], H7⟩ := by
            refine hC.fork [(5, (bvA 15 2623)), (12, (bvA 15 6687))] ?_ ⟨?_, ?_, trivial⟩
            · kernel_rfl
            · simp [oe5, fG, byV, wtB, faB]
              refine hC.take 6 (bvA 15 2687) ?_ ?_
              · kernel_rfl
              simp [oe6, fG, byV, wtB, faB]
              refine hC.take 7 (bvA 15 2815) ?_ ?_
              · kernel_rfl
              simp [oe7, fG, byV, wtB, faB]
              refine hC.weak d9 (Weak.keep ?_ ?_) <;> simp [fG, byV, wtB, faB]
            · simp [oe12, fG, byV, wtB, faB]
              refine hC.weak d11 (Weak.keep ?_ ?_) <;> simp [fG, byV, wtB, faB]
          have d13 : C 9 (bvA 15 543) ⟨faB h.length H.length zs i x ++ [(82, .al (.cell bw 3)), (83, .pv (I64 x)), (88, .pv (I64 x))], H7⟩ := by
            refine hC.fork [(5, (bvA 15 575)), (11, (bvA 15 2591))] ?_ ⟨?_, ?_, trivial⟩
            · kernel_rfl
            · simp [oe5, fG, byV, wtB, faB]
              refine hC.take 6 (bvA 15 639) ?_ ?_
              · kernel_rfl
              simp [oe6, fG, byV, wtB, faB]
              refine hC.take 7 (bvA 15 767) ?_ ?_
              · kernel_rfl
              simp [oe7, fG, byV, wtB, faB]
              refine hC.weak d10 (Weak.keep ?_ ?_) <;> simp [fG, byV, wtB, faB]
            · simp [oe11, fG, byV, wtB, faB]
              refine hC.weak d12 (Weak.keep ?_ ?_) <;> simp [fG, byV, wtB, faB]
          have d14 : ∀ (Y : List (List SV)) (y : By) (hY : Y[bw]? = some (wtB ba bt ⟨mp, mb7, S'.late, S'.head, S'.seen⟩) ∧ Y[h.length]? = some [.pv (.ptr bw 0)] ∧ JE (Y.set bw (wtB ba bt ⟨mp, pt mb7 x y, S'.late, S'.head, S'.seen⟩)) (pt mb7 x y)), C 2 (bvA 15 16375) ⟨faB h.length H.length zs i x ++ [(81, .pv (.ptr bw 3)), (83, .pv (I64 x)), (92, .pv (.bsl y.b 1 0 y.n y.cp))], Y⟩ := by
            intro Y y hY
            have hY2 := hY
            obtain ⟨yw, yb, yj⟩ := hY2
            obtain ⟨yw1, yw2⟩ := List.getElem?_eq_some_iff.1 yw
            obtain ⟨yb1, yb2⟩ := List.getElem?_eq_some_iff.1 yb
            refine hC.fork [(3, (bvA 15 16383))] ?_ ⟨?_, trivial⟩
            · kernel_rfl
            · simp [oe3, yw1, yw2, yb1, yb2, wtB, byV, faB]
              refine hC.weak (d1 Y y hY) (Weak.keep ?_ ?_) <;> simp [yw1, yw2, yb1, yb2, wtB, byV, faB]
          have d15 : C 3 (bvA 15 8183) ⟨faB h.length H.length zs i x ++ [(81, .pv (.ptr bw 3)), (83, .pv (I64 x)), (89, .pv (.lit (.slice none 0 0))), (91, .own true 1 [[I64 k]])], H7⟩ := by
            refine hC.fork [(3, (bvA 15 8191)), (13, (bvA 15 16375))] ?_ ⟨?_, ?_, trivial⟩
            · kernel_rfl
            · simp [oe3, fG, byV, wtB, faB]
              refine hC.weak d2 (Weak.keep ?_ ?_) <;> simp [fG, byV, wtB, faB]
            · simp [oe13, fG, byV, wtB, faB]
              intro cap hc
              refine hC.weak (d14 _ ⟨H7.length, 1, cap⟩ (hnew cap hc)) (Weak.keep ?_ ?_) <;> simp [faB]
          have d16 : C 4 (bvA 15 4087) ⟨faB h.length H.length zs i x ++ [(81, .pv (.ptr bw 3)), (83, .pv (I64 x)), (89, .pv (.lit (.slice none 0 0))), (90, .pv (I64 k))], H7⟩ := by
            refine hC.fork [(3, (bvA 15 4095)), (12, (bvA 15 8183))] ?_ ⟨?_, ?_, trivial⟩
            · kernel_rfl
            · simp [oe3, fG, byV, wtB, faB]
              refine hC.weak d3 (Weak.keep ?_ ?_) <;> simp [fG, byV, wtB, faB]
            · simp [oe12, fG, byV, wtB, faB]
              refine hC.weak d15 (Weak.keep ?_ ?_) <;> simp [fG, byV, wtB, faB]
          have d17 : C 5 (bvA 15 2039) ⟨faB h.length H.length zs i x ++ [(81, .pv (.ptr bw 3)), (83, .pv (I64 x)), (89, .pv (.lit (.slice none 0 0)))], H7⟩ := by
            refine hC.fork [(3, (bvA 15 2047)), (11, (bvA 15 4087))] ?_ ⟨?_, ?_, trivial⟩
            · kernel_rfl
            · simp [oe3, fG, byV, wtB, faB]
              refine hC.weak d4 (Weak.keep ?_ ?_) <;> simp [fG, byV, wtB, faB]
            · simp [oe11, fG, byV, wtB, faB]
              refine hC.weak d16 (Weak.keep ?_ ?_) <;> simp [fG, byV, wtB, faB]
          have d18 : C 4 (bvA 15 7159) ⟨faB h.length H.length zs i x ++ [(81, .pv (.ptr bw 3)), (83, .pv (I64 x)), (87, .al (.cell bw 3)), (88, .pv (I64 x)), (91, .own true 1 [[I64 k]])], H7⟩ := by
            refine hC.fork [(3, (bvA 15 7167)), (10, (bvA 15 8183))] ?_ ⟨?_, ?_, trivial⟩
            · kernel_rfl
            · simp [oe3, fG, byV, wtB, faB]
              refine hC.weak d5 (Weak.keep ?_ ?_) <;> simp [fG, byV, wtB, faB]
            · simp [oe10, fG, byV, wtB, faB]
              refine hC.weak d15 (Weak.keep ?_ ?_) <;> simp [fG, byV, wtB, faB]
          have d19 : C 5 (bvA 15 3063) ⟨faB h.length H.length zs i x ++ [(81, .pv (.ptr bw 3)), (83, .pv (I64 x)), (87, .al (.cell bw 3)), (88, .pv (I64 x)), (90, .pv (I64 k))], H7⟩ := by
            refine hC.fork [(3, (bvA 15 3071)), (10, (bvA 15 4087)), (12, (bvA 15 7159))] ?_ ⟨?_, ?_, ?_, trivial⟩
            · kernel_rfl
            · simp [oe3, fG, byV, wtB, faB]
              refine hC.weak d6 (Weak.keep ?_ ?_) <;> simp [fG, byV, wtB, faB]
            · simp [oe10, fG, byV, wtB, faB]
              refine hC.weak d16 (Weak.keep ?_ ?_) <;> simp [fG, byV, wtB, faB]
            · simp [oe12, fG, byV, wtB, faB]
              refine hC.weak d18 (Weak.keep ?_ ?_) <;> simp [fG, byV, wtB, faB]
          have d20 : C 6 (bvA 15 1015) ⟨faB h.length H.length zs i x ++ [(81, .pv (.ptr bw 3)), (83, .pv (I64 x)), (87, .al (.cell bw 3)), (88, .pv (I64 x))], H7⟩ := by
            refine hC.fork [(3, (bvA 15 1023)), (10, (bvA 15 2039)), (11, (bvA 15 3063))] ?_ ⟨?_, ?_, ?_, trivial⟩
            · kernel_rfl
            · simp [oe3, fG, byV, wtB, faB]
              refine hC.weak d7 (Weak.keep ?_ ?_) <;> simp [fG, byV, wtB, faB]
            · simp [oe10, fG, byV, wtB, faB]
              refine hC.weak d17 (Weak.keep ?_ ?_) <;> simp [fG, byV, wtB, faB]
            · simp [oe11, fG, byV, wtB, faB]
              refine hC.weak d19 (Weak.keep ?_ ?_) <;> simp [fG, byV, wtB, faB]
          have d21 : C 5 (bvA 15 6903) ⟨faB h.length H.length zs i x ++ [(81, .pv (.ptr bw 3)), (83, .pv (I64 x)), (86, .pv (.ptr bw 3)), (88, .pv (I64 x)), (91, .own true 1 [[I64 k]])], H7⟩ := by
            refine hC.fork [(3, (bvA 15 6911)), (8, (bvA 15 7159))] ?_ ⟨?_, ?_, trivial⟩
            · kernel_rfl
            · simp [oe3, fG, byV, wtB, faB]
              refine hC.weak d8 (Weak.keep ?_ ?_) <;> simp [fG, byV, wtB, faB]
            · simp [oe8, fG, byV, wtB, faB]
              refine hC.weak d18 (Weak.keep ?_ ?_) <;> simp [fG, byV, wtB, faB]
          have d22 : C 6 (bvA 15 2807) ⟨faB h.length H.length zs i x ++ [(81, .pv (.ptr bw 3)), (83, .pv (I64 x)), (86, .pv (.ptr bw 3)), (88, .pv (I64 x)), (90, .pv (I64 k))], H7⟩ := by
            refine hC.fork [(3, (bvA 15 2815)), (8, (bvA 15 3063)), (12, (bvA 15 6903))] ?_ ⟨?_, ?_, ?_, trivial⟩
            · kernel_rfl
            · simp [oe3, fG, byV, wtB, faB]
              refine hC.weak d9 (Weak.keep ?_ ?_) <;> simp [fG, byV, wtB, faB]
            · simp [oe8, fG, byV, wtB, faB]
              refine hC.weak d19 (Weak.keep ?_ ?_) <;> simp [fG, byV, wtB, faB]
            · simp [oe12, fG, byV, wtB, faB]
              refine hC.weak d21 (Weak.keep ?_ ?_) <;> simp [fG, byV, wtB, faB]
          have d23 : C 7 (bvA 15 759) ⟨faB h.length H.length zs i x ++ [(81, .pv (.ptr bw 3)), (83, .pv (I64 x)), (86, .pv (.ptr bw 3)), (88, .pv (I64 x))], H7⟩ := by
            refine hC.fork [(3, (bvA 15 767)), (8, (bvA 15 1015)), (11, (bvA 15 2807))] ?_ ⟨?_, ?_, ?_, trivial⟩
            · kernel_rfl
            · simp [oe3, fG, byV, wtB, faB]
              refine hC.weak d10 (Weak.keep ?_ ?_) <;> simp [fG, byV, wtB, faB]
            · simp [oe8, fG, byV, wtB, faB]
              refine hC.weak d20 (Weak.keep ?_ ?_) <;> simp [fG, byV, wtB, faB]
            · simp [oe11, fG, byV, wtB, faB]
              refine hC.weak d22 (Weak.keep ?_ ?_) <;> simp [fG, byV, wtB, faB]
          have d24 : C 8 (bvA 15 6679) ⟨faB h.length H.length zs i x ++ [(81, .pv (.ptr bw 3)), (83, .pv (I64 x)), (88, .pv (I64 x)), (91, .own true 1 [[I64 k]])], H7⟩ := by
            refine hC.fork [(3, (bvA 15 6687)), (5, (bvA 15 6711))] ?_ ⟨?_, ?_, trivial⟩
            · kernel_rfl
            · simp [oe3, fG, byV, wtB, faB]
              refine hC.weak d11 (Weak.keep ?_ ?_) <;> simp [fG, byV, wtB, faB]
            · simp [oe5, fG, byV, wtB, faB]
              refine hC.take 6 (bvA 15 6775) ?_ ?_
              · kernel_rfl
              simp [oe6, fG, byV, wtB, faB]
              refine hC.take 7 (bvA 15 6903) ?_ ?_
              · kernel_rfl
              simp [oe7, fG, byV, wtB, faB]
              refine hC.weak d21 (Weak.keep ?_ ?_) <;> simp [fG, byV, wtB, faB]
          have d25 : C 9 (bvA 15 2583) ⟨faB h.length H.length zs i x ++ [(81, .pv (.ptr bw 3)), (83, .pv (I64 x)), (88, .pv (I64 x)), (90, .pv (I64 k))], H7⟩ := by
            refine hC.fork [(3, (bvA 15 2591)), (5, (bvA 15 2615)), (12, (bvA 15 6679))] ?_ ⟨?_, ?_, ?_, trivial⟩
            · kernel_rfl
            · simp [oe3, fG, byV, wtB, faB]
              refine hC.weak d12 (Weak.keep ?_ ?_) <;> simp [fG, byV, wtB, faB]
            · simp [oe5, fG, byV, wtB, faB]
              refine hC.take 6 (bvA 15 2679) ?_ ?_
              · kernel_rfl
              simp [oe6, fG, byV, wtB, faB]
              refine hC.take 7 (bvA 15 2807) ?_ ?_
              · kernel_rfl
              simp [oe7, fG, byV, wtB, faB]
              refine hC.weak d22 (Weak.keep ?_ ?_) <;> simp [fG, byV, wtB, faB]
            · simp [oe12, fG, byV, wtB, faB]
              refine hC.weak d24 (Weak.keep ?_ ?_) <;> simp [fG, byV, wtB, faB]
          have d26 : C 10 (bvA 15 535) ⟨faB h.length H.length zs i x ++ [(81, .pv (.ptr bw 3)), (83, .pv (I64 x)), (88, .pv (I64 x))], H7⟩ := by
            refine hC.fork [(3, (bvA 15 543)), (5, (bvA 15 567)), (11, (bvA 15 2583))] ?_ ⟨?_, ?_, ?_, trivial⟩
            · kernel_rfl
            · simp [oe3, fG, byV, wtB, faB]
              refine hC.weak d13 (Weak.keep ?_ ?_) <;> simp [fG, byV, wtB, faB]
            · simp [oe5, fG, byV, wtB, faB]
              refine hC.take 6 (bvA 15 631) ?_ ?_
              · kernel_rfl
              simp [oe6, fG, byV, wtB, faB]
              refine hC.take 7 (bvA 15 759) ?_ ?_
              · kernel_rfl
              simp [oe7, fG, byV, wtB, faB]
              refine hC.weak d23 (Weak.keep ?_ ?_) <;> simp [fG, byV, wtB, faB]
            · simp [oe11, fG, byV, wtB, faB]
              refine hC.weak d25 (Weak.keep ?_ ?_) <;> simp [fG, byV, wtB, faB]
          have d27 : ∀ (Y : List (List SV)) (y : By) (hY : Y[bw]? = some (wtB ba bt ⟨mp, mb7, S'.late, S'.head, S'.seen⟩) ∧ Y[h.length]? = some [.pv (.ptr bw 0)] ∧ JE (Y.set bw (wtB ba bt ⟨mp, pt mb7 x y, S'.late, S'.head, S'.seen⟩)) (pt mb7 x y)), C 5 (bvA 15 16368) ⟨faB h.length H.length zs i x ++ [(83, .pv (I64 x)), (92, .pv (.bsl y.b 1 0 y.n y.cp))], Y⟩ := by
            intro Y y hY
            have hY2 := hY
            obtain ⟨yw, yb, yj⟩ := hY2
            obtain ⟨yw1, yw2⟩ := List.getElem?_eq_some_iff.1 yw
            obtain ⟨yb1, yb2⟩ := List.getElem?_eq_some_iff.1 yb
            refine hC.fork [(0, (bvA 15 16369))] ?_ ⟨?_, trivial⟩
            · kernel_rfl
            · simp [oe0, yw1, yw2, yb1, yb2, wtB, byV, faB]
              refine hC.take 1 (bvA 15 16371) ?_ ?_
              · kernel_rfl
              simp [oe1, yw1, yw2, yb1, yb2, wtB, byV, faB]
              refine hC.take 2 (bvA 15 16375) ?_ ?_
              · kernel_rfl
              simp [oe2, yw1, yw2, yb1, yb2, wtB, byV, faB]
              refine hC.weak (d14 Y y hY) (Weak.keep ?_ ?_) <;> simp [yw1, yw2, yb1, yb2, wtB, byV, faB]
          have d28 : C 6 (bvA 15 8176) ⟨faB h.length H.length zs i x ++ [(83, .pv (I64 x)), (89, .pv (.lit (.slice none 0 0))), (91, .own true 1 [[I64 k]])], H7⟩ := by
            refine hC.fork [(0, (bvA 15 8177)), (13, (bvA 15 16368))] ?_ ⟨?_, ?_, trivial⟩
            · kernel_rfl
            · simp [oe0, fG, byV, wtB, faB]
              refine hC.take 1 (bvA 15 8179) ?_ ?_
              · kernel_rfl
              simp [oe1, fG, byV, wtB, faB]
              refine hC.take 2 (bvA 15 8183) ?_ ?_
              · kernel_rfl
              simp [oe2, fG, byV, wtB, faB]
              refine hC.weak d15 (Weak.keep ?_ ?_) <;> simp [fG, byV, wtB, faB]
            · simp [oe13, fG, byV, wtB, faB]
              intro cap hc
              refine hC.weak (d27 _ ⟨H7.length, 1, cap⟩ (hnew cap hc)) (Weak.keep ?_ ?_) <;> simp [faB]
          have d29 : C 7 (bvA 15 4080) ⟨faB h.length H.length zs i x ++ [(83, .pv (I64 x)), (89, .pv (.lit (.slice none 0 0))), (90, .pv (I64 k))], H7⟩ := by
            refine hC.fork [(0, (bvA 15 4081)), (12, (bvA 15 8176))] ?_ ⟨?_, ?_, trivial⟩
            · kernel_rfl
            · simp [oe0, fG, byV, wtB, faB]
              refine hC.take 1 (bvA 15 4083) ?_ ?_
              · kernel_rfl
              simp [oe1, fG, byV, wtB, faB]
              refine hC.take 2 (bvA 15 4087) ?_ ?_
              · kernel_rfl
              simp [oe2, fG, byV, wtB, faB]
              refine hC.weak d16 (Weak.keep ?_ ?_) <;> simp [fG, byV, wtB, faB]
            · simp [oe12, fG, byV, wtB, faB]
              refine hC.weak d28 (Weak.keep ?_ ?_) <;> simp [fG, byV, wtB, faB]
          have d30 : C 8 (bvA 15 2032) ⟨faB h.length H.length zs i x ++ [(83, .pv (I64 x)), (89, .pv (.lit (.slice none 0 0)))], H7⟩ := by
            refine hC.fork [(0, (bvA 15 2033)), (11, (bvA 15 4080))] ?_ ⟨?_, ?_, trivial⟩
            · kernel_rfl
            · simp [oe0, fG, byV, wtB, faB]
              refine hC.take 1 (bvA 15 2035) ?_ ?_
              · kernel_rfl
              simp [oe1, fG, byV, wtB, faB]
              refine hC.take 2 (bvA 15 2039) ?_ ?_
              · kernel_rfl
              simp [oe2, fG, byV, wtB, faB]
              refine hC.weak d17 (Weak.keep ?_ ?_) <;> simp [fG, byV, wtB, faB]
            · simp [oe11, fG, byV, wtB, faB]
              refine hC.weak d29 (Weak.keep ?_ ?_) <;> simp [fG, byV, wtB, faB]
          have d31 : C 7 (bvA 15 7152) ⟨faB h.length H.length zs i x ++ [(83, .pv (I64 x)), (87, .al (.cell bw 3)), (88, .pv (I64 x)), (91, .own true 1 [[I64 k]])], H7⟩ := by
            refine hC.fork [(0, (bvA 15 7153)), (10, (bvA 15 8176))] ?_ ⟨?_, ?_, trivial⟩
            · kernel_rfl
            · simp [oe0, fG, byV, wtB, faB]
              refine hC.take 1 (bvA 15 7155) ?_ ?_
              · kernel_rfl
              simp [oe1, fG, byV, wtB, faB]
              refine hC.take 2 (bvA 15 7159) ?_ ?_
              · kernel_rfl
              simp [oe2, fG, byV, wtB, faB]
              refine hC.weak d18 (Weak.keep ?_ ?_) <;> simp [fG, byV, wtB, faB]
            · simp [oe10, fG, byV, wtB, faB]
              refine hC.weak d28 (Weak.keep ?_ ?_) <;> simp [fG, byV, wtB, faB]
          have d32 : C 8 (bvA 15 3056) ⟨faB h.length H.length zs i x ++ [(83, .pv (I64 x)), (87, .al (.cell bw 3)), (88, .pv (I64 x)), (90, .pv (I64 k))], H7⟩ := by
            refine hC.fork [(0, (bvA 15 3057)), (10, (bvA 15 4080)), (12, (bvA 15 7152))] ?_ ⟨?_, ?_, ?_, trivial⟩
            · kernel_rfl
            · simp [oe0, fG, byV, wtB, faB]
              refine hC.take 1 (bvA 15 3059) ?_ ?_
              · kernel_rfl
              simp [oe1, fG, byV, wtB, faB]
              refine hC.take 2 (bvA 15 3063) ?_ ?_
              · kernel_rfl
              simp [oe2, fG, byV, wtB, faB]
              refine hC.weak d19 (Weak.keep ?_ ?_) <;> simp [fG, byV, wtB, faB]
            · simp [oe10, fG, byV, wtB, faB]
              refine hC.weak d29 (Weak.keep ?_ ?_) <;> simp [fG, byV, wtB, faB]
            · simp [oe12, fG, byV, wtB, faB]
              refine hC.weak d31 (Weak.keep ?_ ?_) <;> simp [fG, byV, wtB, faB]
          have d33 : C 9 (bvA 15 1008) ⟨faB h.length H.length zs i x ++ [(83, .pv (I64 x)), (87, .al (.cell bw 3)), (88, .pv (I64 x))], H7⟩ := by
            refine hC.fork [(0, (bvA 15 1009)), (10, (bvA 15 2032)), (11, (bvA 15 3056))] ?_ ⟨?_, ?_, ?_, trivial⟩
            · kernel_rfl
            · simp [oe0, fG, byV, wtB, faB]
              refine hC.take 1 (bvA 15 1011) ?_ ?_
              · kernel_rfl
              simp [oe1, fG, byV, wtB, faB]
              refine hC.take 2 (bvA 15 1015) ?_ ?_
              · kernel_rfl
              simp [oe2, fG, byV, wtB, faB]
              refine hC.weak d20 (Weak.keep ?_ ?_) <;> simp [fG, byV, wtB, faB]
            · simp [oe10, fG, byV, wtB, faB]
              refine hC.weak d30 (Weak.keep ?_ ?_) <;> simp [fG, byV, wtB, faB]
            · simp [oe11, fG, byV, wtB, faB]
              refine hC.weak d32 (Weak.keep ?_ ?_) <;> simp [fG, byV, wtB, faB]
          have d34 : C 8 (bvA 15 6896) ⟨faB h.length H.length zs i x ++ [(83, .pv (I64 x)), (86, .pv (.ptr bw 3)), (88, .pv (I64 x)), (91, .own true 1 [[I64 k]])], H7⟩ := by
            refine hC.fork [(0, (bvA 15 6897)), (8, (bvA 15 7152))] ?_ ⟨?_, ?_, trivial⟩
            · kernel_rfl
            · simp [oe0, fG, byV, wtB, faB]
              refine hC.take 1 (bvA 15 6899) ?_ ?_
              · kernel_rfl
              simp [oe1, fG, byV, wtB, faB]
              refine hC.take 2 (bvA 15 6903) ?_ ?_
              · kernel_rfl
              simp [oe2, fG, byV, wtB, faB]
              refine hC.weak d21 (Weak.keep ?_ ?_) <;> simp [fG, byV, wtB, faB]
            · simp [oe8, fG, byV, wtB, faB]
              refine hC.weak d31 (Weak.keep ?_ ?_) <;> simp [fG, byV, wtB, faB]
          have d35 : C 9 (bvA 15 2800) ⟨faB h.length H.length zs i x ++ [(83, .pv (I64 x)), (86, .pv (.ptr bw 3)), (88, .pv (I64 x)), (90, .pv (I64 k))], H7⟩ := by
            refine hC.fork [(0, (bvA 15 2801)), (8, (bvA 15 3056)), (12, (bvA 15 6896))] ?_ ⟨?_, ?_, ?_, trivial⟩
            · kernel_rfl
            · simp [oe0, fG, byV, wtB, faB]
              refine hC.take 1 (bvA 15 2803) ?_ ?_
              · kernel_rfl
              simp [oe1, fG, byV, wtB, faB]
              refine hC.take 2 (bvA 15 2807) ?_ ?_
              · kernel_rfl
              simp [oe2, fG, byV, wtB, faB]
              refine hC.weak d22 (Weak.keep ?_ ?_) <;> simp [fG, byV, wtB, faB]
            · simp [oe8, fG, byV, wtB, faB]
              refine hC.weak d32 (Weak.keep ?_ ?_) <;> simp [fG, byV, wtB, faB]
            · simp [oe12, fG, byV, wtB, faB]
              refine hC.weak d34 (Weak.keep ?_ ?_) <;> simp [fG, byV, wtB, faB]
          have d36 : C 10 (bvA 15 752) ⟨faB h.length H.length zs i x ++ [(83, .pv (I64 x)), (86, .pv (.ptr bw 3)), (88, .pv (I64 x))], H7⟩ := by
            refine hC.fork [(0, (bvA 15 753)), (8, (bvA 15 1008)), (11, (bvA 15 2800))] ?_ ⟨?_, ?_, ?_, trivial⟩
            · kernel_rfl
            · simp [oe0, fG, byV, wtB, faB]
              refine hC.take 1 (bvA 15 755) ?_ ?_
              · kernel_rfl
              simp [oe1, fG, byV, wtB, faB]
              refine hC.take 2 (bvA 15 759) ?_ ?_
              · kernel_rfl
              simp [oe2, fG, byV, wtB, faB]
              refine hC.weak d23 (Weak.keep ?_ ?_) <;> simp [fG, byV, wtB, faB]
            · simp [oe8, fG, byV, wtB, faB]
              refine hC.weak d33 (Weak.keep ?_ ?_) <;> simp [fG, byV, wtB, faB]
            · simp [oe11, fG, byV, wtB, faB]
              refine hC.weak d35 (Weak.keep ?_ ?_) <;> simp [fG, byV, wtB, faB]
          have d37 : C 11 (bvA 15 6672) ⟨faB h.length H.length zs i x ++ [(83, .pv (I64 x)), (88, .pv (I64 x)), (91, .own true 1 [[I64 k]])], H7⟩ := by
            refine hC.fork [(0, (bvA 15 6673)), (5, (bvA 15 6704))] ?_ ⟨?_, ?_, trivial⟩
            · kernel_rfl
            · simp [oe0, fG, byV, wtB, faB]
              refine hC.take 1 (bvA 15 6675) ?_ ?_
              · kernel_rfl
              simp [oe1, fG, byV, wtB, faB]
              refine hC.take 2 (bvA 15 6679) ?_ ?_
              · kernel_rfl
              simp [oe2, fG, byV, wtB, faB]
              refine hC.weak d24 (Weak.keep ?_ ?_) <;> simp [fG, byV, wtB, faB]
            · simp [oe5, fG, byV, wtB, faB]
              refine hC.take 6 (bvA 15 6768) ?_ ?_
              · kernel_rfl
              simp [oe6, fG, byV, wtB, faB]
              refine hC.take 7 (bvA 15 6896) ?_ ?_
              · kernel_rfl
              simp [oe7, fG, byV, wtB, faB]
              refine hC.weak d34 (Weak.keep ?_ ?_) <;> simp [fG, byV, wtB, faB]
          have d38 : C 12 (bvA 15 2576) ⟨faB h.length H.length zs i x ++ [(83, .pv (I64 x)), (88, .pv (I64 x)), (90, .pv (I64 k))], H7⟩ := by
            refine hC.fork [(0, (bvA 15 2577)), (5, (bvA 15 2608)), (12, (bvA 15 6672))] ?_ ⟨?_, ?_, ?_, trivial⟩
            · kernel_rfl
            · simp [oe0, fG, byV, wtB, faB]
              refine hC.take 1 (bvA 15 2579) ?_ ?_
              · kernel_rfl
              simp [oe1, fG, byV, wtB, faB]
              refine hC.take 2 (bvA 15 2583) ?_ ?_
              · kernel_rfl
              simp [oe2, fG, byV, wtB, faB]
              refine hC.weak d25 (Weak.keep ?_ ?_) <;> simp [fG, byV, wtB, faB]
            · simp [oe5, fG, byV, wtB, faB]
              refine hC.take 6 (bvA 15 2672) ?_ ?_
              · kernel_rfl
              simp [oe6, fG, byV, wtB, faB]
              refine hC.take 7 (bvA 15 2800) ?_ ?_
              · kernel_rfl
              simp [oe7, fG, byV, wtB, faB]
              refine hC.weak d35 (Weak.keep ?_ ?_) <;> simp [fG, byV, wtB, faB]
            · simp [oe12, fG, byV, wtB, faB]
              refine hC.weak d37 (Weak.keep ?_ ?_) <;> simp [fG, byV, wtB, faB]
          have d39 : C 13 (bvA 15 528) ⟨faB h.length H.length zs i x ++ [(83, .pv (I64 x)), (88, .pv (I64 x))], H7⟩ := by
            refine hC.fork [(0, (bvA 15 529)), (5, (bvA 15 560)), (11, (bvA 15 2576))] ?_ ⟨?_, ?_, ?_, trivial⟩
            · kernel_rfl
            · simp [oe0, fG, byV, wtB, faB]
              refine hC.take 1 (bvA 15 531) ?_ ?_
              · kernel_rfl
              simp [oe1, fG, byV, wtB, faB]
              refine hC.take 2 (bvA 15 535) ?_ ?_
              · kernel_rfl
              simp [oe2, fG, byV, wtB, faB]
              refine hC.weak d26 (Weak.keep ?_ ?_) <;> simp [fG, byV, wtB, faB]
            · simp [oe5, fG, byV, wtB, faB]
              refine hC.take 6 (bvA 15 624) ?_ ?_
              · kernel_rfl
              simp [oe6, fG, byV, wtB, faB]
              refine hC.take 7 (bvA 15 752) ?_ ?_
              · kernel_rfl
              simp [oe7, fG, byV, wtB, faB]
              refine hC.weak d36 (Weak.keep ?_ ?_) <;> simp [fG, byV, wtB, faB]
            · simp [oe11, fG, byV, wtB, faB]
              refine hC.weak d38 (Weak.keep ?_ ?_) <;> simp [fG, byV, wtB, faB]
          refine hC.take 4 (bvA 15 16) ?_ ?_
          · kernel_rfl
          simp [oe4, fG, byV, wtB, faB]
          refine hC.take 9 (bvA 15 528) ?_ ?_
          · kernel_rfl
          simp [oe9, fG, byV, wtB, faB]
          refine hC.weak d39 (Weak.keep ?_ ?_) <;> simp [fG, byV, wtB, faB]
        rintro x2 hj2
        obtain ⟨j1, j2⟩ := hfin x2 hj2
        simp
        exact ⟨(i + 1, x2.1, x2.2, movS S' k l p x, T'), by (try dsimp only); omega, ⟨by (try dsimp only); omega, j1, hJn, j2, hZ⟩, Weak.keep (by simp [hw']) rfl⟩
      | some e2 =>
        obtain ⟨zq, hzq, ⟨sp2, e21, e22, e23, e24, e25⟩, n2e, e27, e28⟩ := L7.by' x e2 hl2
        obtain ⟨v2a, v2b⟩ := List.getElem?_eq_some_iff.1 e21
        have hst : movS S' k l p x = ⟨pt S'.prs k (movP l p x), pt (forB S'.byl k l) x (zq ++ [k]), S'.late, S'.head, S'.seen⟩ := by
          unfold movS addB
          rw [show lk (forB S'.byl k l) x = some zq from hzq]; rfl
        have hil : (icells zq).length = e2.n := by rw [icells_len]; exact e23
        have hzn : e2.n ≤ 1000000 := by rw [← e23]; exact hzB x zq hzq
        have hde : DomW bw bt mp mb7 e2.b := .inr (.inr (.inr ⟨x, e2, hl2, rfl⟩))
        have n70 : e2.b ≠ h.length := fun q => n7 (q ▸ hde)
        have belD : ∀ m (s0 : List SV), belowC m s0 → belowC m (s0.drop 1) := fun m s0 hs0 => by cases s0 with | nil => exact hs0 | cons _ _ => exact hs0.2
        have hYl : (icells zq ++ sp2).length = e2.n + sp2.length := by rw [List.length_append, hil]
        have hT1 : (icells zq ++ sp2).take e2.n = icells zq := List.take_left' hil
        have hT2 : (icells zq ++ sp2).take e2.n = (zq.map fun z => PV.lit (.int .i64 z)).map SV.pv := by rw [hT1]; unfold icells; rw [List.map_map]; rfl
        have hcat : ∀ R : List SV, icells (zq ++ [k]) ++ R = icells zq ++ SV.pv (I64 k) :: R := fun R => by unfold icells; rw [List.map_append, List.append_assoc]; rfl
        have hD1 : (icells zq ++ sp2).drop (e2.n + 1) = sp2.drop 1 := by rw [← hil, List.drop_append]; simp
        have hroom : e2.n + 1 ≤ e2.cp → (H7.set e2.b (List.take e2.n (icells zq ++ sp2) ++ SV.pv (I64 k) :: List.drop (e2.n + 1) (icells zq ++ sp2)))[bw]? = some (wtB ba bt ⟨mp, mb7, S'.late, S'.head, S'.seen⟩) ∧ (H7.set e2.b (List.take e2.n (icells zq ++ sp2) ++ SV.pv (I64 k) :: List.drop (e2.n + 1) (icells zq ++ sp2)))[h.length]? = some [.pv (.ptr bw 0)] ∧
            JE ((H7.set e2.b (List.take e2.n (icells zq ++ sp2) ++ SV.pv (I64 k) :: List.drop (e2.n + 1) (icells zq ++ sp2))).set bw (wtB ba bt ⟨mp, pt mb7 x ⟨e2.b, e2.n + 1, e2.cp⟩, S'.late, S'.head, S'.seen⟩)) (pt mb7 x ⟨e2.b, e2.n + 1, e2.cp⟩) := fun hr => by
          refine ⟨by rw [List.getElem?_set_ne n2e]; exact L7.w, by rw [List.getElem?_set_ne n70, h8n?], (hJE _ _).2 ⟨?_, ?_⟩⟩
          · rw [hT1, hD1, ← hcat, hst]
            exact L7.setB hl2 (zq ++ [k]) (sp2.drop 1) (fun m => belD m sp2 (e22 m)) (e2.n + 1) (by simp; omega) hr (by rw [List.length_drop]; omega)
          · refine (((Ext.set e2.b _ hde).trans (Ext.set bw _ (.inl rfl))).dom (dom _ fun c hc q => ?_))
            exact ⟨x, e2, hl2, q⟩
        have hgrow : ∀ cap, e2.n + 1 ≤ cap → (H7 ++ [(zq.map fun z => PV.lit (.int .i64 z)).map SV.pv ++ SV.pv (I64 k) :: List.replicate (cap - (e2.n + 1)) (SV.pv .bot)])[bw]? = some (wtB ba bt ⟨mp, mb7, S'.late, S'.head, S'.seen⟩) ∧ (H7 ++ [(zq.map fun z => PV.lit (.int .i64 z)).map SV.pv ++ SV.pv (I64 k) :: List.replicate (cap - (e2.n + 1)) (SV.pv .bot)])[h.length]? = some [.pv (.ptr bw 0)] ∧
            JE ((H7 ++ [(zq.map fun z => PV.lit (.int .i64 z)).map SV.pv ++ SV.pv (I64 k) :: List.replicate (cap - (e2.n + 1)) (SV.pv .bot)]).set bw (wtB ba bt ⟨mp, pt mb7 x ⟨H7.length, e2.n + 1, cap⟩, S'.late, S'.head, S'.seen⟩)) (pt mb7 x ⟨H7.length, e2.n + 1, cap⟩) := fun cap hc => by
          refine ⟨by rw [List.getElem?_append_left h8a]; exact L7.w, by rw [List.getElem?_append_left h8c, h8n?], (hJE _ _).2 ⟨?_, ?_⟩⟩
          · rw [hst, ← hT2, hT1, ← hcat]
            exact L7.newB x (zq ++ [k]) (List.replicate (cap - (e2.n + 1)) (SV.pv .bot)) (fun m => belowC_repW m _) (e2.n + 1) cap (by simp; omega) hc (by simp; omega)
          · refine (((Ext.app H7 _ _).trans (Ext.set bw _ (.inl rfl))).dom (dom _ fun c hc q => ?_))
            simp only at q; omega
        clear hT1 hD1 hcat
        generalize hYc : icells zq ++ sp2 = Yc at *
        have fG := And.intro h8a (And.intro h8b (And.intro h8c (And.intro h8d (And.intro h8e (And.intro h8f (And.intro hl2 (And.intro v2a (And.intro v2b (And.intro n2e n2e.symm)))))))))
        refine AAnyD.dagE [92] (fun x2 : List (List SV) × List (Int × By) => ⟨[(2, .pv (.ptr h.length 0)), (3, .pv (.ptr (h.length + 1) 0)), (5, .own true 1 (irow zs)), (6, .pv (.fn (.func 137) [] [.ptr (h.length + 1) 0, .ptr h.length 0])), (8, .pv (.ptr H.length 0)), (13, .pv (I64 x)), (22, .al (.slot 5)), (23, .pv (I64 zs.length)), (24, .pv (I64 i))], x2.1⟩) (fun x2 => JE x2.1 x2.2) 15 (bvA 15 0) (by kernel_rfl) (fun stp stM hstp hstM C hC => ?_) ?_
        · have oe0 := hstM 0
          simp only [AStepMI, AStepM, blkOf, cutOfB, AStepI, AStep, AEx, gslot, boxedIn, List.getElem?_cons_zero, List.getElem?_cons_succ, Option.bind_some, Bool.or_false, Bool.false_or, Bool.or_true, Bool.true_or, Bool.false_and, Bool.true_and, Bool.false_eq_true, if_false] at oe0
          have oe1 := hstp 1
          simp only [AStepI, AStep, AEx, gslot, boxedIn, List.getElem?_cons_zero, List.getElem?_cons_succ, Option.bind_some, Bool.or_false, Bool.false_or, Bool.or_true, Bool.true_or, Bool.false_and, Bool.true_and, Bool.false_eq_true, if_false] at oe1
          have oe2 := hstp 2
          simp only [AStepI, AStep, AEx, gslot, boxedIn, List.getElem?_cons_zero, List.getElem?_cons_succ, Option.bind_some, Bool.or_false, Bool.false_or, Bool.or_true, Bool.true_or, Bool.false_and, Bool.true_and, Bool.false_eq_true, if_false] at oe2
          have oe3 := hstM 3
          simp only [AStepMI, AStepM, blkOf, cutOfB, AStepI, AStep, AEx, gslot, boxedIn, List.getElem?_cons_zero, List.getElem?_cons_succ, Option.bind_some, Bool.or_false, Bool.false_or, Bool.or_true, Bool.true_or, Bool.false_and, Bool.true_and, Bool.false_eq_true, if_false] at oe3
          have oe4 := hstp 4
          simp only [AStepI, AStep, AEx, gslot, boxedIn, List.getElem?_cons_zero, List.getElem?_cons_succ, Option.bind_some, Bool.or_false, Bool.false_or, Bool.or_true, Bool.true_or, Bool.false_and, Bool.true_and, Bool.false_eq_true, if_false] at oe4
          have oe5 := hstM 5
          simp only [AStepMI, AStepM, blkOf, cutOfB, AStepI, AStep, AEx, gslot, boxedIn, List.getElem?_cons_zero, List.getElem?_cons_succ, Option.bind_some, Bool.or_false, Bool.false_or, Bool.or_true, Bool.true_or, Bool.false_and, Bool.true_and, Bool.false_eq_true, if_false] at oe5
          have oe6 := hstp 6
          simp only [AStepI, AStep, AEx, gslot, boxedIn, List.getElem?_cons_zero, List.getElem?_cons_succ, Option.bind_some, Bool.or_false, Bool.false_or, Bool.or_true, Bool.true_or, Bool.false_and, Bool.true_and, Bool.false_eq_true, if_false] at oe6
          have oe7 := hstp 7
          simp only [AStepI, AStep, AEx, gslot, boxedIn, List.getElem?_cons_zero, List.getElem?_cons_succ, Option.bind_some, Bool.or_false, Bool.false_or, Bool.or_true, Bool.true_or, Bool.false_and, Bool.true_and, Bool.false_eq_true, if_false] at oe7
          have oe8 := hstM 8
          simp only [AStepMI, AStepM, blkOf, cutOfB, AStepI, AStep, AEx, gslot, boxedIn, List.getElem?_cons_zero, List.getElem?_cons_succ, Option.bind_some, Bool.or_false, Bool.false_or, Bool.or_true, Bool.true_or, Bool.false_and, Bool.true_and, Bool.false_eq_true, if_false] at oe8
          have oe9 := hstp 9
          simp only [AStepI, AStep, AEx, gslot, boxedIn, List.getElem?_cons_zero, List.getElem?_cons_succ, Option.bind_some, Bool.or_false, Bool.false_or, Bool.or_true, Bool.true_or, Bool.false_and, Bool.true_and, Bool.false_eq_true, if_false] at oe9
          have oe10 := hstM 10
          simp only [AStepMI, AStepM, blkOf, cutOfB, AStepI, AStep, AEx, gslot, boxedIn, List.getElem?_cons_zero, List.getElem?_cons_succ, Option.bind_some, Bool.or_false, Bool.false_or, Bool.or_true, Bool.true_or, Bool.false_and, Bool.true_and, Bool.false_eq_true, if_false] at oe10
          have oe11 := hstM 11
          simp only [AStepMI, AStepM, blkOf, cutOfB, AStepI, AStep, AEx, gslot, boxedIn, List.getElem?_cons_zero, List.getElem?_cons_succ, Option.bind_some, Bool.or_false, Bool.false_or, Bool.or_true, Bool.true_or, Bool.false_and, Bool.true_and, Bool.false_eq_true, if_false] at oe11
          have oe12 := hstM 12
          simp only [AStepMI, AStepM, blkOf, cutOfB, AStepI, AStep, AEx, gslot, boxedIn, List.getElem?_cons_zero, List.getElem?_cons_succ, Option.bind_some, Bool.or_false, Bool.false_or, Bool.or_true, Bool.true_or, Bool.false_and, Bool.true_and, Bool.false_eq_true, if_false] at oe12
          have oe13 := hstM 13
          simp only [AStepMI, AStepM, blkOf, cutOfB, AStepI, AStep, AEx, gslot, boxedIn, List.getElem?_cons_zero, List.getElem?_cons_succ, Option.bind_some, Bool.or_false, Bool.false_or, Bool.or_true, Bool.true_or, Bool.false_and, Bool.true_and, Bool.false_eq_true, if_false] at oe13
          have oe14 := hstM 14
          simp only [AStepMI, AStepM, blkOf, cutOfB, AStepI, AStep, AEx, gslot, boxedIn, List.getElem?_cons_zero, List.getElem?_cons_succ, Option.bind_some, Bool.or_false, Bool.false_or, Bool.or_true, Bool.true_or, Bool.false_and, Bool.true_and, Bool.false_eq_true, if_false] at oe14
          clear hstp hstM
          have d0 : ∀ (Y : List (List SV)) (y : By) (hY : Y[bw]? = some (wtB ba bt ⟨mp, mb7, S'.late, S'.head, S'.seen⟩) ∧ Y[h.length]? = some [.pv (.ptr bw 0)] ∧ JE (Y.set bw (wtB ba bt ⟨mp, pt mb7 x y, S'.late, S'.head, S'.seen⟩)) (pt mb7 x y)), C 0 (bvA 15 32767) ⟨faB h.length H.length zs i x ++ [], Y.set bw (wtB ba bt ⟨mp, pt mb7 x y, S'.late, S'.head, S'.seen⟩)⟩ := by
            intro Y y hY
            have hY2 := hY
            obtain ⟨yw, yb, yj⟩ := hY2
            obtain ⟨yw1, yw2⟩ := List.getElem?_eq_some_iff.1 yw
            obtain ⟨yb1, yb2⟩ := List.getElem?_eq_some_iff.1 yb
            refine hC.done _ _ _ ?_ ?_
            · kernel_rfl
            exact ⟨(Y.set bw (wtB ba bt ⟨mp, pt mb7 x y, S'.late, S'.head, S'.seen⟩), pt mb7 x y), yj, Weak.keep (by simp [faB]) rfl⟩
          have d1 : ∀ (Y : List (List SV)) (y : By) (hY : Y[bw]? = some (wtB ba bt ⟨mp, mb7, S'.late, S'.head, S'.seen⟩) ∧ Y[h.length]? = some [.pv (.ptr bw 0)] ∧ JE (Y.set bw (wtB ba bt ⟨mp, pt mb7 x y, S'.late, S'.head, S'.seen⟩)) (pt mb7 x y)), C 1 (bvA 15 16383) ⟨faB h.length H.length zs i x ++ [(82, .al (.cell bw 3)), (83, .pv (I64 x)), (92, .pv (.bsl y.b 1 0 y.n y.cp))], Y⟩ := by
            intro Y y hY
            have hY2 := hY
            obtain ⟨yw, yb, yj⟩ := hY2
            obtain ⟨yw1, yw2⟩ := List.getElem?_eq_some_iff.1 yw
            obtain ⟨yb1, yb2⟩ := List.getElem?_eq_some_iff.1 yb
            refine hC.fork [(14, (bvA 15 32767))] ?_ ⟨?_, trivial⟩
            · kernel_rfl
            · simp [oe14, yw1, yw2, yb1, yb2, wtB, byV, faB]
              refine hC.weak (d0 Y y hY) (Weak.keep ?_ ?_) <;> simp [yw1, yw2, yb1, yb2, wtB, byV, faB]
          have d2 : C 2 (bvA 15 8191) ⟨faB h.length H.length zs i x ++ [(82, .al (.cell bw 3)), (83, .pv (I64 x)), (89, .pv (.bsl e2.b 1 0 e2.n e2.cp)), (91, .own true 1 [[I64 k]])], H7⟩ := by
            refine hC.fork [(13, (bvA 15 16383))] ?_ ⟨?_, trivial⟩
            · kernel_rfl
            · simp [oe13, fG, byV, wtB, faB]
              first | omega | skip
              refine ⟨by omega, by omega, _, hT2, by simpa using e23, fun hr => ?_, fun hn cap hc => ?_⟩
              · refine hC.weak (d1 _ ⟨e2.b, e2.n + 1, e2.cp⟩ (hroom hr)) (Weak.keep ?_ ?_) <;> simp [faB]
              · refine hC.weak (d1 _ ⟨H7.length, e2.n + 1, cap⟩ (hgrow cap hc)) (Weak.keep ?_ ?_) <;> simp [faB]
          have d3 : C 3 (bvA 15 4095) ⟨faB h.length H.length zs i x ++ [(82, .al (.cell bw 3)), (83, .pv (I64 x)), (89, .pv (.bsl e2.b 1 0 e2.n e2.cp)), (90, .pv (I64 k))], H7⟩ := by
            refine hC.fork [(12, (bvA 15 8191))] ?_ ⟨?_, trivial⟩
            · kernel_rfl
            · simp [oe12, fG, byV, wtB, faB]
              refine hC.weak d2 (Weak.keep ?_ ?_) <;> simp [fG, byV, wtB, faB]
          have d4 : C 4 (bvA 15 2047) ⟨faB h.length H.length zs i x ++ [(82, .al (.cell bw 3)), (83, .pv (I64 x)), (89, .pv (.bsl e2.b 1 0 e2.n e2.cp))], H7⟩ := by
            refine hC.fork [(11, (bvA 15 4095))] ?_ ⟨?_, trivial⟩
            · kernel_rfl
            · simp [oe11, fG, byV, wtB, faB]
              refine hC.weak d3 (Weak.keep ?_ ?_) <;> simp [fG, byV, wtB, faB]
          have d5 : C 3 (bvA 15 7167) ⟨faB h.length H.length zs i x ++ [(82, .al (.cell bw 3)), (83, .pv (I64 x)), (87, .al (.cell bw 3)), (88, .pv (I64 x)), (91, .own true 1 [[I64 k]])], H7⟩ := by
            refine hC.fork [(10, (bvA 15 8191))] ?_ ⟨?_, trivial⟩
            · kernel_rfl
            · simp [oe10, fG, byV, wtB, faB]
              refine hC.weak d2 (Weak.keep ?_ ?_) <;> simp [fG, byV, wtB, faB]
          have d6 : C 4 (bvA 15 3071) ⟨faB h.length H.length zs i x ++ [(82, .al (.cell bw 3)), (83, .pv (I64 x)), (87, .al (.cell bw 3)), (88, .pv (I64 x)), (90, .pv (I64 k))], H7⟩ := by
            refine hC.fork [(10, (bvA 15 4095)), (12, (bvA 15 7167))] ?_ ⟨?_, ?_, trivial⟩
            · kernel_rfl
            · simp [oe10, fG, byV, wtB, faB]
              refine hC.weak d3 (Weak.keep ?_ ?_) <;> simp [fG, byV, wtB, faB]
            · simp [oe12, fG, byV, wtB, faB]
              refine hC.weak d5 (Weak.keep ?_ ?_) <;> simp [fG, byV, wtB, faB]
          have d7 : C 5 (bvA 15 1023) ⟨faB h.length H.length zs i x ++ [(82, .al (.cell bw 3)), (83, .pv (I64 x)), (87, .al (.cell bw 3)), (88, .pv (I64 x))], H7⟩ := by
            refine hC.fork [(10, (bvA 15 2047)), (11, (bvA 15 3071))] ?_ ⟨?_, ?_, trivial⟩
            · kernel_rfl
            · simp [oe10, fG, byV, wtB, faB]
              refine hC.weak d4 (Weak.keep ?_ ?_) <;> simp [fG, byV, wtB, faB]
            · simp [oe11, fG, byV, wtB, faB]
              refine hC.weak d6 (Weak.keep ?_ ?_) <;> simp [fG, byV, wtB, faB]
          have d8 : C 4 (bvA 15 6911) ⟨faB h.length H.length zs i x ++ [(82, .al (.cell bw 3)), (83, .pv (I64 x)), (86, .pv (.ptr bw 3)), (88, .pv (I64 x)), (91, .own true 1 [[I64 k]])], H7⟩ := by
            refine hC.fork [(8, (bvA 15 7167))] ?_ ⟨?_, trivial⟩
            · kernel_rfl
            · simp [oe8, fG, byV, wtB, faB]
              refine hC.weak d5 (Weak.keep ?_ ?_) <;> simp [fG, byV, wtB, faB]
          have d9 : C 5 (bvA 15 2815) ⟨faB h.length H.length zs i x ++ [(82, .al (.cell bw 3)), (83, .pv (I64 x)), (86, .pv (.ptr bw 3)), (88, .pv (I64 x)), (90, .pv (I64 k))], H7⟩ := by
            refine hC.fork [(8, (bvA 15 3071)), (12, (bvA 15 6911))] ?_ ⟨?_, ?_, trivial⟩
            · kernel_rfl
            · simp [oe8, fG, byV, wtB, faB]
              refine hC.weak d6 (Weak.keep ?_ ?_) <;> simp [fG, byV, wtB, faB]
            · simp [oe12, fG, byV, wtB, faB]
              refine hC.weak d8 (Weak.keep ?_ ?_) <;> simp [fG, byV, wtB, faB]
          have d10 : C 6 (bvA 15 767) ⟨faB h.length H.length zs i x ++ [(82, .al (.cell bw 3)), (83, .pv (I64 x)), (86, .pv (.ptr bw 3)), (88, .pv (I64 x))], H7⟩ := by
            refine hC.fork [(8, (bvA 15 1023)), (11, (bvA 15 2815))] ?_ ⟨?_, ?_, trivial⟩
            · kernel_rfl
            · simp [oe8, fG, byV, wtB, faB]
              refine hC.weak d7 (Weak.keep ?_ ?_) <;> simp [fG, byV, wtB, faB]
            · simp [oe11, fG, byV, wtB, faB]
              refine hC.weak d9 (Weak.keep ?_ ?_) <;> simp [fG, byV, wtB, faB]
          have d11 : C 7 (bvA 15 6687) ⟨faB h.length H.length zs i x ++ [(82, .al (.cell bw 3)), (83, .pv (I64 x)), (88, .pv (I64 x)), (91, .own true 1 [[I64 k]])], H7⟩ := by
            refine hC.fork [(5, (bvA 15 6719))] ?_ ⟨?_, trivial⟩
            · kernel_rfl
            · simp [oe5, fG, byV, wtB, faB]
              refine hC.take 6 (bvA 15 6783) ?_ ?_
              · kernel_rfl
              simp [oe6, fG, byV, wtB, faB]
              refine hC.take 7 (bvA 15 6911) ?_ ?_
              · kernel_rfl
              simp [oe7, fG, byV, wtB, faB]
              refine hC.weak d8 (Weak.keep ?_ ?_) <;> simp [fG, byV, wtB, faB]
          have d12 : C 8 (bvA 15 2591) ⟨faB h.length H.length zs i x ++ [(82, .al (.cell bw 3)), (83, .pv (I64 x)), (88, .pv (I64 x)), (90, .pv (I64 k))], H7⟩ := by
            refine hC.fork [(5, (bvA 15 2623)), (12, (bvA 15 6687))] ?_ ⟨?_, ?_, trivial⟩
            · kernel_rfl
            · simp [oe5, fG, byV, wtB, faB]
              refine hC.take 6 (bvA 15 2687) ?_ ?_
              · kernel_rfl
              simp [oe6, fG, byV, wtB, faB]
              refine hC.take 7 (bvA 15 2815) ?_ ?_
              · kernel_rfl
              simp [oe7, fG, byV, wtB, faB]
              refine hC.weak d9 (Weak.keep ?_ ?_) <;> simp [fG, byV, wtB, faB]
            · simp [oe12, fG, byV, wtB, faB]
              refine hC.weak d11 (Weak.keep ?_ ?_) <;> simp [fG, byV, wtB, faB]
          have d13 : C 9 (bvA 15 543) ⟨faB h.length H.length zs i x ++ [(82, .al (.cell bw 3)), (83, .pv (I64 x)), (88, .pv (I64 x))], H7⟩ := by
            refine hC.fork [(5, (bvA 15 575)), (11, (bvA 15 2591))] ?_ ⟨?_, ?_, trivial⟩
            · kernel_rfl
            · simp [oe5, fG, byV, wtB, faB]
              refine hC.take 6 (bvA 15 639) ?_ ?_
              · kernel_rfl
              simp [oe6, fG, byV, wtB, faB]
              refine hC.take 7 (bvA 15 767) ?_ ?_
              · kernel_rfl
              simp [oe7, fG, byV, wtB, faB]
              refine hC.weak d10 (Weak.keep ?_ ?_) <;> simp [fG, byV, wtB, faB]
            · simp [oe11, fG, byV, wtB, faB]
              refine hC.weak d12 (Weak.keep ?_ ?_) <;> simp [fG, byV, wtB, faB]
          have d14 : ∀ (Y : List (List SV)) (y : By) (hY : Y[bw]? = some (wtB ba bt ⟨mp, mb7, S'.late, S'.head, S'.seen⟩) ∧ Y[h.length]? = some [.pv (.ptr bw 0)] ∧ JE (Y.set bw (wtB ba bt ⟨mp, pt mb7 x y, S'.late, S'.head, S'.seen⟩)) (pt mb7 x y)), C 2 (bvA 15 16375) ⟨faB h.length H.length zs i x ++ [(81, .pv (.ptr bw 3)), (83, .pv (I64 x)), (92, .pv (.bsl y.b 1 0 y.n y.cp))], Y⟩ := by
            intro Y y hY
            have hY2 := hY
            obtain ⟨yw, yb, yj⟩ := hY2
            obtain ⟨yw1, yw2⟩ := List.getElem?_eq_some_iff.1 yw
            obtain ⟨yb1, yb2⟩ := List.getElem?_eq_some_iff.1 yb
            refine hC.fork [(3, (bvA 15 16383))] ?_ ⟨?_, trivial⟩
            · kernel_rfl
            · simp [oe3, yw1, yw2, yb1, yb2, wtB, byV, faB]
              refine hC.weak (d1 Y y hY) (Weak.keep ?_ ?_) <;> simp [yw1, yw2, yb1, yb2, wtB, byV, faB]
          have d15 : C 3 (bvA 15 8183) ⟨faB h.length H.length zs i x ++ [(81, .pv (.ptr bw 3)), (83, .pv (I64 x)), (89, .pv (.bsl e2.b 1 0 e2.n e2.cp)), (91, .own true 1 [[I64 k]])], H7⟩ := by
            refine hC.fork [(3, (bvA 15 8191)), (13, (bvA 15 16375))] ?_ ⟨?_, ?_, trivial⟩
            · kernel_rfl
            · simp [oe3, fG, byV, wtB, faB]
              refine hC.weak d2 (Weak.keep ?_ ?_) <;> simp [fG, byV, wtB, faB]
            · simp [oe13, fG, byV, wtB, faB]
              first | omega | skip
              refine ⟨by omega, by omega, _, hT2, by simpa using e23, fun hr => ?_, fun hn cap hc => ?_⟩
              · refine hC.weak (d14 _ ⟨e2.b, e2.n + 1, e2.cp⟩ (hroom hr)) (Weak.keep ?_ ?_) <;> simp [faB]
              · refine hC.weak (d14 _ ⟨H7.length, e2.n + 1, cap⟩ (hgrow cap hc)) (Weak.keep ?_ ?_) <;> simp [faB]
          have d16 : C 4 (bvA 15 4087) ⟨faB h.length H.length zs i x ++ [(81, .pv (.ptr bw 3)), (83, .pv (I64 x)), (89, .pv (.bsl e2.b 1 0 e2.n e2.cp)), (90, .pv (I64 k))], H7⟩ := by
            refine hC.fork [(3, (bvA 15 4095)), (12, (bvA 15 8183))] ?_ ⟨?_, ?_, trivial⟩
            · kernel_rfl
            · simp [oe3, fG, byV, wtB, faB]
              refine hC.weak d3 (Weak.keep ?_ ?_) <;> simp [fG, byV, wtB, faB]
            · simp [oe12, fG, byV, wtB, faB]
              refine hC.weak d15 (Weak.keep ?_ ?_) <;> simp [fG, byV, wtB, faB]
          have d17 : C 5 (bvA 15 2039) ⟨faB h.length H.length zs i x ++ [(81, .pv (.ptr bw 3)), (83, .pv (I64 x)), (89, .pv (.bsl e2.b 1 0 e2.n e2.cp))], H7⟩ := by
            refine hC.fork [(3, (bvA 15 2047)), (11, (bvA 15 4087))] ?_ ⟨?_, ?_, trivial⟩
            · kernel_rfl
            · simp [oe3, fG, byV, wtB, faB]
              refine hC.weak d4 (Weak.keep ?_ ?_) <;> simp [fG, byV, wtB, faB]
            · simp [oe11, fG, byV, wtB, faB]
              refine hC.weak d16 (Weak.keep ?_ ?_) <;> simp [fG, byV, wtB, faB]
          have d18 : C 4 (bvA 15 7159) ⟨faB h.length H.length zs i x ++ [(81, .pv (.ptr bw 3)), (83, .pv (I64 x)), (87, .al (.cell bw 3)), (88, .pv (I64 x)), (91, .own true 1 [[I64 k]])], H7⟩ := by
            refine hC.fork [(3, (bvA 15 7167)), (10, (bvA 15 8183))] ?_ ⟨?_, ?_, trivial⟩
            · kernel_rfl
            · simp [oe3, fG, byV, wtB, faB]
              refine hC.weak d5 (Weak.keep ?_ ?_) <;> simp [fG, byV, wtB, faB]
            · simp [oe10, fG, byV, wtB, faB]
              refine hC.weak d15 (Weak.keep ?_ ?_) <;> simp [fG, byV, wtB, faB]
          have d19 : C 5 (bvA 15 3063) ⟨faB h.length H.length zs i x ++ [(81, .pv (.ptr bw 3)), (83, .pv (I64 x)), (87, .al (.cell bw 3)), (88, .pv (I64 x)), (90, .pv (I64 k))], H7⟩ := by
            refine hC.fork [(3, (bvA 15 3071)), (10, (bvA 15 4087)), (12, (bvA 15 7159))] ?_ ⟨?_, ?_, ?_, trivial⟩
            · kernel_rfl
            · simp [oe3, fG, byV, wtB, faB]
              refine hC.weak d6 (Weak.keep ?_ ?_) <;> simp [fG, byV, wtB, faB]
            · simp [oe10, fG, byV, wtB, faB]
              refine hC.weak d16 (Weak.keep ?_ ?_) <;> simp [fG, byV, wtB, faB]
            · simp [oe12, fG, byV, wtB, faB]
              refine hC.weak d18 (Weak.keep ?_ ?_) <;> simp [fG, byV, wtB, faB]
          have d20 : C 6 (bvA 15 1015) ⟨faB h.length H.length zs i x ++ [(81, .pv (.ptr bw 3)), (83, .pv (I64 x)), (87, .al (.cell bw 3)), (88, .pv (I64 x))], H7⟩ := by
            refine hC.fork [(3, (bvA 15 1023)), (10, (bvA 15 2039)), (11, (bvA 15 3063))] ?_ ⟨?_, ?_, ?_, trivial⟩
            · kernel_rfl
            · simp [oe3, fG, byV, wtB, faB]
              refine hC.weak d7 (Weak.keep ?_ ?_) <;> simp [fG, byV, wtB, faB]
            · simp [oe10, fG, byV, wtB, faB]
              refine hC.weak d17 (Weak.keep ?_ ?_) <;> simp [fG, byV, wtB, faB]
            · simp [oe11, fG, byV, wtB, faB]
              refine hC.weak d19 (Weak.keep ?_ ?_) <;> simp [fG, byV, wtB, faB]
          have d21 : C 5 (bvA 15 6903) ⟨faB h.length H.length zs i x ++ [(81, .pv (.ptr bw 3)), (83, .pv (I64 x)), (86, .pv (.ptr bw 3)), (88, .pv (I64 x)), (91, .own true 1 [[I64 k]])], H7⟩ := by
            refine hC.fork [(3, (bvA 15 6911)), (8, (bvA 15 7159))] ?_ ⟨?_, ?_, trivial⟩
            · kernel_rfl
            · simp [oe3, fG, byV, wtB, faB]
              refine hC.weak d8 (Weak.keep ?_ ?_) <;> simp [fG, byV, wtB, faB]
            · simp [oe8, fG, byV, wtB, faB]
              refine hC.weak d18 (Weak.keep ?_ ?_) <;> simp [fG, byV, wtB, faB]
          have d22 : C 6 (bvA 15 2807) ⟨faB h.length H.length zs i x ++ [(81, .pv (.ptr bw 3)), (83, .pv (I64 x)), (86, .pv (.ptr bw 3)), (88, .pv (I64 x)), (90, .pv (I64 k))], H7⟩ := by
            refine hC.fork [(3, (bvA 15 2815)), (8, (bvA 15 3063)), (12, (bvA 15 6903))] ?_ ⟨?_, ?_, ?_, trivial⟩
            · kernel_rfl
            · simp [oe3, fG, byV, wtB, faB]
              refine hC.weak d9 (Weak.keep ?_ ?_) <;> simp [fG, byV, wtB, faB]
            · simp [oe8, fG, byV, wtB, faB]
              refine hC.weak d19 (Weak.keep ?_ ?_) <;> simp [fG, byV, wtB, faB]
            · simp [oe12, fG, byV, wtB, faB]
              refine hC.weak d21 (Weak.keep ?_ ?_) <;> simp [fG, byV, wtB, faB]
          have d23 : C 7 (bvA 15 759) ⟨faB h.length H.length zs i x ++ [(81, .pv (.ptr bw 3)), (83, .pv (I64 x)), (86, .pv (.ptr bw 3)), (88, .pv (I64 x))], H7⟩ := by
            refine hC.fork [(3, (bvA 15 767)), (8, (bvA 15 1015)), (11, (bvA 15 2807))] ?_ ⟨?_, ?_, ?_, trivial⟩
            · kernel_rfl
            · simp [oe3, fG, byV, wtB, faB]
              refine hC.weak d10 (Weak.keep ?_ ?_) <;> simp [fG, byV, wtB, faB]
            · simp [oe8, fG, byV, wtB, faB]
              refine hC.weak d20 (Weak.keep ?_ ?_) <;> simp [fG, byV, wtB, faB]
            · simp [oe11, fG, byV, wtB, faB]
              refine hC.weak d22 (Weak.keep ?_ ?_) <;> simp [fG, byV, wtB, faB]
          have d24 : C 8 (bvA 15 6679) ⟨faB h.length H.length zs i x ++ [(81, .pv (.ptr bw 3)), (83, .pv (I64 x)), (88, .pv (I64 x)), (91, .own true 1 [[I64 k]])], H7⟩ := by
            refine hC.fork [(3, (bvA 15 6687)), (5, (bvA 15 6711))] ?_ ⟨?_, ?_, trivial⟩
            · kernel_rfl
            · simp [oe3, fG, byV, wtB, faB]
              refine hC.weak d11 (Weak.keep ?_ ?_) <;> simp [fG, byV, wtB, faB]
            · simp [oe5, fG, byV, wtB, faB]
              refine hC.take 6 (bvA 15 6775) ?_ ?_
              · kernel_rfl
              simp [oe6, fG, byV, wtB, faB]
              refine hC.take 7 (bvA 15 6903) ?_ ?_
              · kernel_rfl
              simp [oe7, fG, byV, wtB, faB]
              refine hC.weak d21 (Weak.keep ?_ ?_) <;> simp [fG, byV, wtB, faB]
          have d25 : C 9 (bvA 15 2583) ⟨faB h.length H.length zs i x ++ [(81, .pv (.ptr bw 3)), (83, .pv (I64 x)), (88, .pv (I64 x)), (90, .pv (I64 k))], H7⟩ := by
            refine hC.fork [(3, (bvA 15 2591)), (5, (bvA 15 2615)), (12, (bvA 15 6679))] ?_ ⟨?_, ?_, ?_, trivial⟩
            · kernel_rfl
            · simp [oe3, fG, byV, wtB, faB]
              refine hC.weak d12 (Weak.keep ?_ ?_) <;> simp [fG, byV, wtB, faB]
            · simp [oe5, fG, byV, wtB, faB]
              refine hC.take 6 (bvA 15 2679) ?_ ?_
              · kernel_rfl
              simp [oe6, fG, byV, wtB, faB]
              refine hC.take 7 (bvA 15 2807) ?_ ?_
              · kernel_rfl
              simp [oe7, fG, byV, wtB, faB]
              refine hC.weak d22 (Weak.keep ?_ ?_) <;> simp [fG, byV, wtB, faB]
            · simp [oe12, fG, byV, wtB, faB]
              refine hC.weak d24 (Weak.keep ?_ ?_) <;> simp [fG, byV, wtB, faB]
          have d26 : C 10 (bvA 15 535) ⟨faB h.length H.length zs i x ++ [(81, .pv (.ptr bw 3)), (83, .pv (I64 x)), (88, .pv (I64 x))], H7⟩ := by
            refine hC.fork [(3, (bvA 15 543)), (5, (bvA 15 567)), (11, (bvA 15 2583))] ?_ ⟨?_, ?_, ?_, trivial⟩
            · kernel_rfl
            · simp [oe3, fG, byV, wtB, faB]
              refine hC.weak d13 (Weak.keep ?_ ?_) <;> simp [fG, byV, wtB, faB]
            · simp [oe5, fG, byV, wtB, faB]
              refine hC.take 6 (bvA 15 631) ?_ ?_
              · kernel_rfl
              simp [oe6, fG, byV, wtB, faB]
              refine hC.take 7 (bvA 15 759) ?_ ?_
              · kernel_rfl
              simp [oe7, fG, byV, wtB, faB]
              refine hC.weak d23 (Weak.keep ?_ ?_) <;> simp [fG, byV, wtB, faB]
            · simp [oe11, fG, byV, wtB, faB]
              refine hC.weak d25 (Weak.keep ?_ ?_) <;> simp [fG, byV, wtB, faB]
          have d27 : ∀ (Y : List (List SV)) (y : By) (hY : Y[bw]? = some (wtB ba bt ⟨mp, mb7, S'.late, S'.head, S'.seen⟩) ∧ Y[h.length]? = some [.pv (.ptr bw 0)] ∧ JE (Y.set bw (wtB ba bt ⟨mp, pt mb7 x y, S'.late, S'.head, S'.seen⟩)) (pt mb7 x y)), C 5 (bvA 15 16368) ⟨faB h.length H.length zs i x ++ [(83, .pv (I64 x)), (92, .pv (.bsl y.b 1 0 y.n y.cp))], Y⟩ := by
            intro Y y hY
            have hY2 := hY
            obtain ⟨yw, yb, yj⟩ := hY2
            obtain ⟨yw1, yw2⟩ := List.getElem?_eq_some_iff.1 yw
            obtain ⟨yb1, yb2⟩ := List.getElem?_eq_some_iff.1 yb
            refine hC.fork [(0, (bvA 15 16369))] ?_ ⟨?_, trivial⟩
            · kernel_rfl
            · simp [oe0, yw1, yw2, yb1, yb2, wtB, byV, faB]
              refine hC.take 1 (bvA 15 16371) ?_ ?_
              · kernel_rfl
              simp [oe1, yw1, yw2, yb1, yb2, wtB, byV, faB]
              refine hC.take 2 (bvA 15 16375) ?_ ?_
              · kernel_rfl
              simp [oe2, yw1, yw2, yb1, yb2, wtB, byV, faB]
              refine hC.weak (d14 Y y hY) (Weak.keep ?_ ?_) <;> simp [yw1, yw2, yb1, yb2, wtB, byV, faB]
          have d28 : C 6 (bvA 15 8176) ⟨faB h.length H.length zs i x ++ [(83, .pv (I64 x)), (89, .pv (.bsl e2.b 1 0 e2.n e2.cp)), (91, .own true 1 [[I64 k]])], H7⟩ := by
            refine hC.fork [(0, (bvA 15 8177)), (13, (bvA 15 16368))] ?_ ⟨?_, ?_, trivial⟩
            · kernel_rfl
            · simp [oe0, fG, byV, wtB, faB]
              refine hC.take 1 (bvA 15 8179) ?_ ?_
              · kernel_rfl
              simp [oe1, fG, byV, wtB, faB]
              refine hC.take 2 (bvA 15 8183) ?_ ?_
              · kernel_rfl
              simp [oe2, fG, byV, wtB, faB]
              refine hC.weak d15 (Weak.keep ?_ ?_) <;> simp [fG, byV, wtB, faB]
            · simp [oe13, fG, byV, wtB, faB]
              first | omega | skip
              refine ⟨by omega, by omega, _, hT2, by simpa using e23, fun hr => ?_, fun hn cap hc => ?_⟩
              · refine hC.weak (d27 _ ⟨e2.b, e2.n + 1, e2.cp⟩ (hroom hr)) (Weak.keep ?_ ?_) <;> simp [faB]
              · refine hC.weak (d27 _ ⟨H7.length, e2.n + 1, cap⟩ (hgrow cap hc)) (Weak.keep ?_ ?_) <;> simp [faB]
          have d29 : C 7 (bvA 15 4080) ⟨faB h.length H.length zs i x ++ [(83, .pv (I64 x)), (89, .pv (.bsl e2.b 1 0 e2.n e2.cp)), (90, .pv (I64 k))], H7⟩ := by
            refine hC.fork [(0, (bvA 15 4081)), (12, (bvA 15 8176))] ?_ ⟨?_, ?_, trivial⟩
            · kernel_rfl
            · simp [oe0, fG, byV, wtB, faB]
              refine hC.take 1 (bvA 15 4083) ?_ ?_
              · kernel_rfl
              simp [oe1, fG, byV, wtB, faB]
              refine hC.take 2 (bvA 15 4087) ?_ ?_
              · kernel_rfl
              simp [oe2, fG, byV, wtB, faB]
              refine hC.weak d16 (Weak.keep ?_ ?_) <;> simp [fG, byV, wtB, faB]
            · simp [oe12, fG, byV, wtB, faB]
              refine hC.weak d28 (Weak.keep ?_ ?_) <;> simp [fG, byV, wtB, faB]
          have d30 : C 8 (bvA 15 2032) ⟨faB h.length H.length zs i x ++ [(83, .pv (I64 x)), (89, .pv (.bsl e2.b 1 0 e2.n e2.cp))], H7⟩ := by
            refine hC.fork [(0, (bvA 15 2033)), (11, (bvA 15 4080))] ?_ ⟨?_, ?_, trivial⟩
            · kernel_rfl
            · simp [oe0, fG, byV, wtB, faB]
              refine hC.take 1 (bvA 15 2035) ?_ ?_
              · kernel_rfl
              simp [oe1, fG, byV, wtB, faB]
              refine hC.take 2 (bvA 15 2039) ?_ ?_
              · kernel_rfl
              simp [oe2, fG, byV, wtB, faB]
              refine hC.weak d17 (Weak.keep ?_ ?_) <;> simp [fG, byV, wtB, faB]
            · simp [oe11, fG, byV, wtB, faB]
              refine hC.weak d29 (Weak.keep ?_ ?_) <;> simp [fG, byV, wtB, faB]
          have d31 : C 7 (bvA 15 7152) ⟨faB h.length H.length zs i x ++ [(83, .pv (I64 x)), (87, .al (.cell bw 3)), (88, .pv (I64 x)), (91, .own true 1 [[I64 k]])], H7⟩ := by
            refine hC.fork [(0, (bvA 15 7153)), (10, (bvA 15 8176))] ?_ ⟨?_, ?_, trivial⟩
            · kernel_rfl
            · simp [oe0, fG, byV, wtB, faB]
              refine hC.take 1 (bvA 15 7155) ?_ ?_
              · kernel_rfl
              simp [oe1, fG, byV, wtB, faB]
              refine hC.take 2 (bvA 15 7159) ?_ ?_
              · kernel_rfl
              simp [oe2, fG, byV, wtB, faB]
              refine hC.weak d18 (Weak.keep ?_ ?_) <;> simp [fG, byV, wtB, faB]
            · simp [oe10, fG, byV, wtB, faB]
              refine hC.weak d28 (Weak.keep ?_ ?_) <;> simp [fG, byV, wtB, faB]
          have d32 : C 8 (bvA 15 3056) ⟨faB h.length H.length zs i x ++ [(83, .pv (I64 x)), (87, .al (.cell bw 3)), (88, .pv (I64 x)), (90, .pv (I64 k))], H7⟩ := by
            refine hC.fork [(0, (bvA 15 3057)), (10, (bvA 15 4080)), (12, (bvA 15 7152))] ?_ ⟨?_, ?_, ?_, trivial⟩
            · kernel_rfl
            · simp [oe0, fG, byV, wtB, faB]
              refine hC.take 1 (bvA 15 3059) ?_ ?_
              · kernel_rfl
              simp [oe1, fG, byV, wtB, faB]
              refine hC.take 2 (bvA 15 3063) ?_ ?_
              · kernel_rfl
              simp [oe2, fG, byV, wtB, faB]
              refine hC.weak d19 (Weak.keep ?_ ?_) <;> simp [fG, byV, wtB, faB]
            · simp [oe10, fG, byV, wtB, faB]
              refine hC.weak d29 (Weak.keep ?_ ?_) <;> simp [fG, byV, wtB, faB]
            · simp [oe12, fG, byV, wtB, faB]
              refine hC.weak d31 (Weak.keep ?_ ?_) <;> simp [fG, byV, wtB, faB]
          have d33 : C 9 (bvA 15 1008) ⟨faB h.length H.length zs i x ++ [(83, .pv (I64 x)), (87, .al (.cell bw 3)), (88, .pv (I64 x))], H7⟩ := by
            refine hC.fork [(0, (bvA 15 1009)), (10, (bvA 15 2032)), (11, (bvA 15 3056))] ?_ ⟨?_, ?_, ?_, trivial⟩
            · kernel_rfl
            · simp [oe0, fG, byV, wtB, faB]
              refine hC.take 1 (bvA 15 1011) ?_ ?_
              · kernel_rfl
              simp [oe1, fG, byV, wtB, faB]
              refine hC.take 2 (bvA 15 1015) ?_ ?_
              · kernel_rfl
              simp [oe2, fG, byV, wtB, faB]
              refine hC.weak d20 (Weak.keep ?_ ?_) <;> simp [fG, byV, wtB, faB]
            · simp [oe10, fG, byV, wtB, faB]
              refine hC.weak d30 (Weak.keep ?_ ?_) <;> simp [fG, byV, wtB, faB]
            · simp [oe11, fG, byV, wtB, faB]
              refine hC.weak d32 (Weak.keep ?_ ?_) <;> simp [fG, byV, wtB, faB]
          have d34 : C 8 (bvA 15 6896) ⟨faB h.length H.length zs i x ++ [(83, .pv (I64 x)), (86, .pv (.ptr bw 3)), (88, .pv (I64 x)), (91, .own true 1 [[I64 k]])], H7⟩ := by
            refine hC.fork [(0, (bvA 15 6897)), (8, (bvA 15 7152))] ?_ ⟨?_, ?_, trivial⟩
            · kernel_rfl
            · simp [oe0, fG, byV, wtB, faB]
              refine hC.take 1 (bvA 15 6899) ?_ ?_
              · kernel_rfl
              simp [oe1, fG, byV, wtB, faB]
              refine hC.take 2 (bvA 15 6903) ?_ ?_
              · kernel_rfl
              simp [oe2, fG, byV, wtB, faB]
              refine hC.weak d21 (Weak.keep ?_ ?_) <;> simp [fG, byV, wtB, faB]
            · simp [oe8, fG, byV, wtB, faB]
              refine hC.weak d31 (Weak.keep ?_ ?_) <;> simp [fG, byV, wtB, faB]
          have d35 : C 9 (bvA 15 2800) ⟨faB h.length H.length zs i x ++ [(83, .pv (I64 x)), (86, .pv (.ptr bw 3)), (88, .pv (I64 x)), (90, .pv (I64 k))], H7⟩ := by
            refine hC.fork [(0, (bvA 15 2801)), (8, (bvA 15 3056)), (12, (bvA 15 6896))] ?_ ⟨?_, ?_, ?_, trivial⟩
            · kernel_rfl
            · simp [oe0, fG, byV, wtB, faB]
              refine hC.take 1 (bvA 15 2803) ?_ ?_
              · kernel_rfl
              simp [oe1, fG, byV, wtB, faB]
              refine hC.take 2 (bvA 15 2807) ?_ ?_
              · kernel_rfl
              simp [oe2, fG, byV, wtB, faB]
              refine hC.weak d22 (Weak.keep ?_ ?_) <;> simp [fG, byV, wtB, faB]
            · simp [oe8, fG, byV, wtB, faB]
              refine hC.weak d32 (Weak.keep ?_ ?_) <;> simp [fG, byV, wtB, faB]
            · simp [oe12, fG, byV, wtB, faB]
              refine hC.weak d34 (Weak.keep ?_ ?_) <;> simp [fG, byV, wtB, faB]
          have d36 : C 10 (bvA 15 752) ⟨faB h.length H.length zs i x ++ [(83, .pv (I64 x)), (86, .pv (.ptr bw 3)), (88, .pv (I64 x))], H7⟩ := by
            refine hC.fork [(0, (bvA 15 753)), (8, (bvA 15 1008)), (11, (bvA 15 2800))] ?_ ⟨?_, ?_, ?_, trivial⟩
            · kernel_rfl
            · simp [oe0, fG, byV, wtB, faB]
              refine hC.take 1 (bvA 15 755) ?_ ?_
              · kernel_rfl
              simp [oe1, fG, byV, wtB, faB]
              refine hC.take 2 (bvA 15 759) ?_ ?_
              · kernel_rfl
              simp [oe2, fG, byV, wtB, faB]
              refine hC.weak d23 (Weak.keep ?_ ?_) <;> simp [fG, byV, wtB, faB]
            · simp [oe8, fG, byV, wtB, faB]
              refine hC.weak d33 (Weak.keep ?_ ?_) <;> simp [fG, byV, wtB, faB]
            · simp [oe11, fG, byV, wtB, faB]
              refine hC.weak d35 (Weak.keep ?_ ?_) <;> simp [fG, byV, wtB, faB]
          have d37 : C 11 (bvA 15 6672) ⟨faB h.length H.length zs i x ++ [(83, .pv (I64 x)), (88, .pv (I64 x)), (91, .own true 1 [[I64 k]])], H7⟩ := by
            refine hC.fork [(0, (bvA 15 6673)), (5, (bvA 15 6704))] ?_ ⟨?_, ?_, trivial⟩
            · kernel_rfl
            · simp [oe0, fG, byV, wtB, faB]
              refine hC.take 1 (bvA 15 6675) ?_ ?_
              · kernel_rfl
              simp [oe1, fG, byV, wtB, faB]
              refine hC.take 2 (bvA 15 6679) ?_ ?_
              · kernel_rfl
              simp [oe2, fG, byV, wtB, faB]
              refine hC.weak d24 (Weak.keep ?_ ?_) <;> simp [fG, byV, wtB, faB]
            · simp [oe5, fG, byV, wtB, faB]
              refine hC.take 6 (bvA 15 6768) ?_ ?_
              · kernel_rfl
              simp [oe6, fG, byV, wtB, faB]
              refine hC.take 7 (bvA 15 6896) ?_ ?_
              · kernel_rfl
              simp [oe7, fG, byV, wtB, faB]
              refine hC.weak d34 (Weak.keep ?_ ?_) <;> simp [fG, byV, wtB, faB]
          have d38 : C 12 (bvA 15 2576) ⟨faB h.length H.length zs i x ++ [(83, .pv (I64 x)), (88, .pv (I64 x)), (90, .pv (I64 k))], H7⟩ := by
            refine hC.fork [(0, (bvA 15 2577)), (5, (bvA 15 2608)), (12, (bvA 15 6672))] ?_ ⟨?_, ?_, ?_, trivial⟩
            · kernel_rfl
            · simp [oe0, fG, byV, wtB, faB]
              refine hC.take 1 (bvA 15 2579) ?_ ?_
              · kernel_rfl
              simp [oe1, fG, byV, wtB, faB]
              refine hC.take 2 (bvA 15 2583) ?_ ?_
              · kernel_rfl
              simp [oe2, fG, byV, wtB, faB]
              refine hC.weak d25 (Weak.keep ?_ ?_) <;> simp [fG, byV, wtB, faB]
            · simp [oe5, fG, byV, wtB, faB]
              refine hC.take 6 (bvA 15 2672) ?_ ?_
              · kernel_rfl
              simp [oe6, fG, byV, wtB, faB]
              refine hC.take 7 (bvA 15 2800) ?_ ?_
              · kernel_rfl
              simp [oe7, fG, byV, wtB, faB]
              refine hC.weak d35 (Weak.keep ?_ ?_) <;> simp [fG, byV, wtB, faB]
            · simp [oe12, fG, byV, wtB, faB]
              refine hC.weak d37 (Weak.keep ?_ ?_) <;> simp [fG, byV, wtB, faB]
          have d39 : C 13 (bvA 15 528) ⟨faB h.length H.length zs i x ++ [(83, .pv (I64 x)), (88, .pv (I64 x))], H7⟩ := by
            refine hC.fork [(0, (bvA 15 529)), (5, (bvA 15 560)), (11, (bvA 15 2576))] ?_ ⟨?_, ?_, ?_, trivial⟩
            · kernel_rfl
            · simp [oe0, fG, byV, wtB, faB]
              refine hC.take 1 (bvA 15 531) ?_ ?_
              · kernel_rfl
              simp [oe1, fG, byV, wtB, faB]
              refine hC.take 2 (bvA 15 535) ?_ ?_
              · kernel_rfl
              simp [oe2, fG, byV, wtB, faB]
              refine hC.weak d26 (Weak.keep ?_ ?_) <;> simp [fG, byV, wtB, faB]
            · simp [oe5, fG, byV, wtB, faB]
              refine hC.take 6 (bvA 15 624) ?_ ?_
              · kernel_rfl
              simp [oe6, fG, byV, wtB, faB]
              refine hC.take 7 (bvA 15 752) ?_ ?_
              · kernel_rfl
              simp [oe7, fG, byV, wtB, faB]
              refine hC.weak d36 (Weak.keep ?_ ?_) <;> simp [fG, byV, wtB, faB]
            · simp [oe11, fG, byV, wtB, faB]
              refine hC.weak d38 (Weak.keep ?_ ?_) <;> simp [fG, byV, wtB, faB]
          refine hC.take 4 (bvA 15 16) ?_ ?_
          · kernel_rfl
          simp [oe4, fG, byV, wtB, faB]
          refine hC.take 9 (bvA 15 528) ?_ ?_
          · kernel_rfl
          simp [oe9, fG, byV, wtB, faB]
          refine hC.weak d39 (Weak.keep ?_ ?_) <;> simp [fG, byV, wtB, faB]
        rintro x2 hj2
        obtain ⟨j1, j2⟩ := hfin x2 hj2
        simp
        exact ⟨(i + 1, x2.1, x2.2, movS S' k l p x, T'), by (try dsimp only); omega, ⟨by (try dsimp only); omega, j1, hJn, j2, hZ⟩, Weak.keep (by simp [hw']) rfl⟩
  · have : j = p.lits.length := by omega
    subst this
    rw [List.drop_eq_nil_of_le (Nat.le_refl _), List.find?_nil] at hpj
    have kF := wforget_ok G2 bw ba bt mp mb' A T' S' L2 k p hS.hp hS.hx hS.hy hS.hz
    have eS : wstS S' T' l k p = freS (lateS (forS S' k p) k) T' k (zerP p) := by unfold wstS; rw [hpj]
    have eT : wstT T' l k p = freT T' k (zerP p) := by unfold wstT; rw [hpj]
    have eB : wstB T' l p = freB T' (zerP p) := by unfold wstB; rw [hpj]
    simp [f1, f2, c1, c2]
    refine CallB.intro kF (by simp) ?_
    rintro _ H3 ⟨rfl, mb3, L3, E3⟩
    have hl2 : H.length < G2.length := f1
    have n2 : ¬ DomW bw bt mp mb' h.length := hou2 _ (Nat.le_refl _) (by omega)
    have n3 : ¬ DomW bw bt mp mb' (h.length + 1) := hou2 _ (by omega) (by omega)
    have r0? : H3[h.length]? = some [.pv (.ptr bw 0)] := by rw [E3.same h.length c1 n2, p0?]
    have rk? : H3[H.length]? = some [.pv (I64 k)] := by rw [E3.same H.length f1 houk, hk?]
    obtain ⟨s1, s2⟩ := List.getElem?_eq_some_iff.1 L3.w
    obtain ⟨t1, t2⟩ := List.getElem?_eq_some_iff.1 r0?
    obtain ⟨u1, u2⟩ := List.getElem?_eq_some_iff.1 rk?
    have L4 := L3.setW (pt S'.late k (w64 ((lk S'.late k).getD 0 + 1))) S'.head S'.seen
    have E4 := Ext.set (h := H3) (D := DomW bw bt mp mb3) bw (wtB ba bt ⟨mp, mb3, pt S'.late k (w64 ((lk S'.late k).getD 0 + 1)), S'.head, S'.seen⟩) (.inl rfl)
    have x0? : (H3.set bw (wtB ba bt ⟨mp, mb3, pt S'.late k (w64 ((lk S'.late k).getD 0 + 1)), S'.head, S'.seen⟩))[h.length]? = some [.pv (.ptr bw 0)] := by
      rw [List.getElem?_set_ne (fun q => n2 (.inl q.symm)), r0?]
    have xk? : (H3.set bw (wtB ba bt ⟨mp, mb3, pt S'.late k (w64 ((lk S'.late k).getD 0 + 1)), S'.head, S'.seen⟩))[H.length]? = some [.pv (I64 k)] := by
      rw [List.getElem?_set_ne (fun q => houk (.inl q.symm)), rk?]
    simp
    refine AAnyD.meet fa18Sch ⟨[(2, .pv (.ptr h.length 0)), (3, .pv (.ptr (h.length + 1) 0)), (5, .own true 1 (irow zs)), (6, .pv (.fn (.func 137) [] [.ptr (h.length + 1) 0, .ptr h.length 0])), (22, .al (.slot 5)), (23, .pv (I64 zs.length)), (24, .pv (I64 i)), (8, .pv (.ptr H.length 0))], H3.set bw (wtB ba bt ⟨mp, mb3, pt S'.late k (w64 ((lk S'.late k).getD 0 + 1)), S'.head, S'.seen⟩)⟩ (by kernel_rfl) ?_ ?_
    · simp [fa18Sch, s1, s2, wtB, t1, t2, u1, u2, forS]
      and_intros
      all_goals exact Weak.keep (by simp) (by simp [wtB])
    generalize H3.set bw (wtB ba bt ⟨mp, mb3, pt S'.late k (w64 ((lk S'.late k).getD 0 + 1)), S'.head, S'.seen⟩) = H4 at *
    obtain ⟨y1, y2⟩ := List.getElem?_eq_some_iff.1 x0?
    obtain ⟨z1, z2⟩ := List.getElem?_eq_some_iff.1 xk?
    have hp4 : lk (forS S' k p).prs k = some (zerP p) := by
      show lk (pt S'.prs k _) k = _
      rw [lk_pt, if_pos rfl]; rfl
    have kR := wfresh_ok H4 bw ba bt mp mb3 A T' (lateS (forS S' k p) k) L4 k (zerP p) hp4 hS.ok hS.tl hS.lits (forB_len (forB_len hS.hz))
    simp [y1, y2, z1, z2]
    refine CallB.intro kR (by simp) ?_
    rintro _ H5 ⟨rfl, mb5, L5, E5⟩
    rw [← eS, ← eT] at L5
    rw [← eB]
    have E35 : Ext G2 H5 (DomW bw bt mp mb') (DomW bw bt mp mb5) := (E3.trans E4).trans E5
    cases hb5 : wstB T' l p
    · rw [if_neg (by rw [hb5]; simp)] at hZ
      simp
      exact ⟨(i + 1, H5, mb5, wstS S' T' l k p, wstT T' l k p), by (try dsimp only); omega, ⟨by (try dsimp only); omega, L5, hJn hb5, (hE.trans E2).trans E35, hZ⟩, Weak.keep (by simp [hw']) rfl⟩
    · rw [if_pos hb5] at hZ
      subst hZ
      have hk5 : H5[H.length]? = some [.pv (I64 k)] := by
        rw [E35.same H.length f1 houk, hk?]
      obtain ⟨o1, o2⟩ := List.getElem?_eq_some_iff.1 hk5
      simp [o1, o2]
      exact ⟨mb5, L5, E0.trans ((hE.trans E2).trans E35)⟩
def faiS (S : WS) (T : Tr) (l : Int) : WS × Tr × Int := match lk S.byl l with
  | some zs => faiF l zs S T
  | none => (S, T, -1)
def upH (S : WS) : WS := ⟨S.prs, S.byl, S.late, w64 (S.head + 1), S.seen⟩
def negL (T : Tr) (S : WS) : Int := w64 (-(T.lits.getD S.head.toNat 0))
def proF : Nat → WS → Tr → WS × Tr × Int
  | 0, S, T => (S, T, -1)
  | n + 1, S, T => if S.head < T.lits.length then (if 0 ≤ (faiS S T (negL T S)).2.2 then faiS S T (negL T S) else proF n (upH (faiS S T (negL T S)).1) (faiS S T (negL T S)).2.1) else (S, T, -1)
def shrS (S : WS) (now : List Int) : WS := ⟨S.prs, S.byl, S.late, if (preN S.seen now : Int) < S.head then (preN S.seen now : Int) else S.head, S.seen⟩
def lasS (S : WS) (T : Tr) : WS × Tr × Int := latF (sortZ (S.late.map (·.1))) S T
def midS (S : WS) (T : Tr) : WS × Tr × Int := if 0 ≤ (lasS (shrS S T.lits) T).2.2 then lasS (shrS S T.lits) T else proF 1000001 (lasS (shrS S T.lits) T).1 (lasS (shrS S T.lits) T).2.1
def prpS (S : WS) (T : Tr) : WS × Tr × Int := (⟨(midS S T).1.prs, (midS S T).1.byl, (midS S T).1.late, (midS S T).1.head, (midS S T).2.1.lits⟩, (midS S T).2.1, (midS S T).2.2)
theorem wfailsN_ok (h : List (List SV)) (bw ba bt : Nat) (mp : List (Int × Nat)) (mb : List (Int × By)) (A : Ar) (T : Tr) (S : WS) (L : LayW h bw ba bt mp mb A T S) (l : Int) (hzs : lk S.byl l = none) :
    AMut Tryz.prog 90 [.ptr bw 0, I64 l] h (fun r h' => r = .pv (I64 (-1)) ∧ ∃ mb', LayW h' bw ba bt mp mb' A T S ∧ Ext h h' (DomW bw bt mp mb) (DomW bw bt mp mb')) := by
  refine amutX [1, 6, 7, 14, 15, 18] [.tmp 4] hmo Tryz.func90 (by kernel_rfl) rfl rfl (by kernel_rfl) (Nat.le_of_ble_eq_true rfl) ?_
  have hmb : lk mb l = none := by
    cases hq : lk mb l with
    | none => rfl
    | some e => obtain ⟨zs, h1, _⟩ := L.by' l e hq; rw [hzs] at h1; cases h1
  obtain ⟨G, hG⟩ : ∃ G, G = h ++ [[SV.pv (.ptr bw 0)], [SV.pv (I64 l)]] := ⟨_, rfl⟩
  have L0 : LayW G bw ba bt mp mb A T S := by rw [hG]; exact L.app _
  have E0 : Ext h G (DomW bw bt mp mb) (DomW bw bt mp mb) := by rw [hG]; exact Ext.app _ _ _
  have n0? : G[h.length]? = some [.pv (.ptr bw 0)] := by rw [hG]; simp
  have n1? : G[h.length + 1]? = some [.pv (I64 l)] := by rw [hG]; simp
  obtain ⟨w1, w2⟩ := List.getElem?_eq_some_iff.1 L0.w
  obtain ⟨a1, a2⟩ := List.getElem?_eq_some_iff.1 n0?
  obtain ⟨b1, b2⟩ := List.getElem?_eq_some_iff.1 n1?
  simp
  rw [← hG]
  refine AAnyD.meet fa1Sch ⟨[(2, .pv (.ptr h.length 0)), (3, .pv (.ptr (h.length + 1) 0)), (5, .pv (.lit (.slice none 0 0)))], G⟩ (by kernel_rfl) ?_ ?_
  · simp [fa1Sch, w1, w2, wtB, a1, a2, b1, b2, hmb]
    and_intros
    all_goals
      refine CallK.intro cloneN2_ok (by simp) ?_
      simp
      exact Weak.keep (by simp) rfl
  simp
  refine ALoop.intro (S := fun _ : Unit => ⟨[(2, .pv (.ptr h.length 0)), (3, .pv (.ptr (h.length + 1) 0)), (23, .pv (I64 0)), (24, .pv (I64 0))], G⟩) (fun _ => True) (fun _ => 0) () ?_ trivial ?_
  · exact Weak.keep (by simp) rfl
  rintro _ _
  simp
  exact ⟨mb, L0, E0⟩
structure ProOk (J : WS → Tr → Prop) : Prop where
  ok : ∀ S T, J S T → T.ok ∧ T.lits.length ≤ 1000000 ∧ 0 ≤ S.head ∧ S.head ≤ T.lits.length
  step : ∀ S T, J S T → S.head < T.lits.length → ∀ zs, lk S.byl (negL T S) = some zs → zs.length ≤ 1000000 ∧ ∃ Jf : Nat → WS → Tr → Prop, Jf 0 S T ∧ ∀ i S' T', Jf i S' T' → ∀ (hi : i < zs.length), ∃ p, StepOk S' T' (negL T S) zs[i] p ∧ (wstB T' (negL T S) p = false → Jf (i + 1) (wstS S' T' (negL T S) zs[i] p) (wstT T' (negL T S) zs[i] p))
  len : ∀ S T, J S T → S.head < T.lits.length → (faiS S T (negL T S)).2.1.lits.length ≤ 1000000
  next : ∀ S T, J S T → S.head < T.lits.length → ¬ 0 ≤ (faiS S T (negL T S)).2.2 → (faiS S T (negL T S)).2.2 = -1 ∧ J (upH (faiS S T (negL T S)).1) (faiS S T (negL T S)).2.1 ∧ (faiS S T (negL T S)).1.head = S.head ∧ T.lits <+: (faiS S T (negL T S)).2.1.lits
set_option maxRecDepth 16000 in
theorem wpropagate_ok (h : List (List SV)) (bw ba bt : Nat) (mp : List (Int × Nat)) (mb : List (Int × By)) (A : Ar) (T : Tr) (S : WS) (L : LayW h bw ba bt mp mb A T S) (hTl : T.lits.length ≤ 1000000) (hsl : S.seen.length ≤ 1000000)
    (Ks : List Int) (hKs : sortZ (S.late.map (·.1)) = Ks) (J1 : Nat → WS → Tr → Prop) (hJ0 : J1 0 (shrS S T.lits) T) (hkw : ∀ q ∈ S.late, wfI q.1) (hll : S.late.length ≤ 1000000)
    (hB : ∀ i S' T', J1 i S' T' → ∀ (hi : i < Ks.length), T'.ok ∧ T'.lits.length ≤ 1000000 ∧ (∀ l zs, lk S'.byl l = some zs → zs.length ≤ 1000000) ∧ ∃ p, lk S'.prs Ks[i] = some p ∧ p.lits.length ≤ 1000000)
    (hJ : ∀ i S' T' p, J1 i S' T' → ∀ (hi : i < Ks.length), lk S'.prs Ks[i] = some p → freB T' p = false → J1 (i + 1) (freS S' T' Ks[i] p) (freT T' Ks[i] p))
    (hLl : (lasS (shrS S T.lits) T).2.1.lits.length ≤ 1000000) (J : WS → Tr → Prop) (hP : ProOk J) (hJP : ¬ 0 ≤ (lasS (shrS S T.lits) T).2.2 → (lasS (shrS S T.lits) T).2.2 = -1 ∧ J (lasS (shrS S T.lits) T).1 (lasS (shrS S T.lits) T).2.1) :
    AMut Tryz.prog 33 [.ptr bw 0] h (fun r h' => r = .pv (I64 (prpS S T).2.2) ∧ ∃ mb', LayW h' bw ba bt mp mb' A (prpS S T).2.1 (prpS S T).1 ∧ Ext h h' (DomW bw bt mp mb) (DomW bw bt mp mb')) := by
  refine amutX [] [.tmp 2] hmo Tryz.func33 (by kernel_rfl) rfl rfl (by kernel_rfl) (Nat.le_of_ble_eq_true rfl) ?_
  obtain ⟨w1, w2⟩ := List.getElem?_eq_some_iff.1 L.w
  have hz := frz_tr0 L.t 2
  have kM := wmade_ok h bw ba bt _ L.w
  have kL := tlits_ok T hTl
  have kS := wshrunk_ok h bw ba bt ⟨mp, mb, S.late, S.head, S.seen⟩ T.lits L.w hTl hsl
  have L1 := L.setW S.late (if (preN S.seen T.lits : Int) < S.head then (preN S.seen T.lits : Int) else S.head) S.seen
  have E1 := Ext.set (h := h) (D := DomW bw bt mp mb) bw (wtB ba bt (shrW ⟨mp, mb, S.late, S.head, S.seen⟩ T.lits)) (.inl rfl)
  simp
  refine CallB.intro kM (by simp) ?_
  rintro _ h2 ⟨e, rfl⟩
  rw [e]
  clear e h2
  simp [w1, w2, wtB, hz]
  refine CallB.introP kL (by simp) (by simp) ?_
  simp
  refine CallB.intro (kS.args (xs := [.ptr bw 0, .seq true 1 (irow T.lits)]) (by simp [wkPL, wkP])) (by simp) ?_
  rintro _ H1 ⟨rfl, rfl⟩
  have L1' : LayW (h.set bw (wtB ba bt (shrW ⟨mp, mb, S.late, S.head, S.seen⟩ T.lits))) bw ba bt mp mb A T (shrS S T.lits) := L1
  have kLa := wlates_ok _ bw ba bt mp mb A T (shrS S T.lits) L1' Ks hKs J1 hJ0 hkw hll hB hJ
  generalize h.set bw (wtB ba bt (shrW ⟨mp, mb, S.late, S.head, S.seen⟩ T.lits)) = H1 at *
  have hMid : midS S T = if 0 ≤ (lasS (shrS S T.lits) T).2.2 then lasS (shrS S T.lits) T else proF 1000001 (lasS (shrS S T.lits) T).1 (lasS (shrS S T.lits) T).2.1 := rfl
  have hPr : prpS S T = (⟨(midS S T).1.prs, (midS S T).1.byl, (midS S T).1.late, (midS S T).1.head, (midS S T).2.1.lits⟩, (midS S T).2.1, (midS S T).2.2) := rfl
  have hLd : latF Ks (shrS S T.lits) T = lasS (shrS S T.lits) T := by unfold lasS; rw [← hKs]; rfl
  rw [hLd] at kLa
  generalize lasS (shrS S T.lits) T = V at *
  generalize midS S T = M at *
  generalize prpS S T = Q at *
  obtain ⟨S2, T2, k2⟩ := V
  simp only at *
  simp
  refine CallB.intro kLa (by simp) ?_
  rintro _ H2 ⟨rfl, mb2, L2, E2⟩
  have kL2 := tlits_ok T2 hLl
  have hz2 := frz_tr0 L2.t 2
  obtain ⟨v1, v2⟩ := List.getElem?_eq_some_iff.1 L2.w
  simp [v1, v2, wtB, hz2]
  refine CallB.introP kL2 (by simp) (by simp) ?_
  simp
  refine ALoop.intro (S := fun (x : List (List SV) × List (Int × By) × WS × Tr × Int × List Int × Nat) => ⟨[(0, .pv (.ptr bw 0)), (3, .pv (I64 x.2.2.2.2.1)), (4, .own true 1 (irow x.2.2.2.2.2.1))], x.1⟩)
    (fun x => LayW x.1 bw ba bt mp x.2.1 A x.2.2.2.1 x.2.2.1 ∧ Ext h x.1 (DomW bw bt mp mb) (DomW bw bt mp x.2.1) ∧ x.2.2.2.1.lits.length ≤ 1000000 ∧
      ((0 ≤ x.2.2.2.2.1 ∧ M = (x.2.2.1, x.2.2.2.1, x.2.2.2.2.1)) ∨ (¬ 0 ≤ x.2.2.2.2.1 ∧ x.2.2.2.2.1 = -1 ∧ J x.2.2.1 x.2.2.2.1 ∧ x.2.2.2.2.2.1 <+: x.2.2.2.1.lits ∧ (x.2.2.1.head < x.2.2.2.2.2.1.length ∨ x.2.2.2.2.2.1 = x.2.2.2.1.lits) ∧ M = proF x.2.2.2.2.2.2 x.2.2.1 x.2.2.2.1 ∧ 1000001 ≤ x.2.2.1.head + x.2.2.2.2.2.2)))
    (fun x => x.2.2.2.2.2.2) (H2, mb2, S2, T2, k2, T2.lits, 1000001) ?_ ?_ ?_
  · exact Weak.keep (by simp) rfl
  · refine ⟨L2, E1.trans E2, hLl, ?_⟩
    by_cases c : 0 ≤ k2
    · rw [if_pos c] at hMid
      exact .inl ⟨c, hMid⟩
    · rw [if_neg c] at hMid
      have hj := hJP c
      have hh := (hP.ok _ _ hj.2).2.2.1
      exact .inr ⟨c, hj.1, hj.2, List.prefix_refl _, .inr rfl, hMid, by simp only; omega⟩
  rintro ⟨H, mb', S', T', kc, now, n⟩ ⟨LH, hE, hTl', hcase⟩
  dsimp only at LH hE hTl' hcase
  obtain ⟨u1, u2⟩ := List.getElem?_eq_some_iff.1 LH.w
  have hzH := frz_tr0 LH.t 2
  have kL3 := tlits_ok T' hTl'
  have kPost : ∀ (M1 : M = (S', T', kc)), (LayW (H.set bw (wtB ba bt ⟨mp, mb', S'.late, S'.head, T'.lits⟩)) bw ba bt mp mb' A Q.2.1 Q.1) ∧ Ext h (H.set bw (wtB ba bt ⟨mp, mb', S'.late, S'.head, T'.lits⟩)) (DomW bw bt mp mb) (DomW bw bt mp mb') ∧ Q.2.2 = kc := fun M1 => by
    rw [hPr, M1]
    exact ⟨LH.setW S'.late S'.head T'.lits, hE.trans (Ext.set bw _ (.inl rfl)), rfl⟩
  rcases hcase with ⟨hc, hM⟩ | ⟨hc, hc1, hj, hpre, hlt, hM, hn⟩
  · have hc' : ¬ kc < 0 := by omega
    obtain ⟨g1, g2, g3⟩ := kPost hM
    simp [hc']
    simp [u1, u2, wtB, hzH]
    refine CallB.introP kL3 (by simp) (by simp) ?_
    simp [u1, u2, wtB]
    exact ⟨g3.symm, mb', g1, g2⟩
  · have hc' : kc < 0 := by omega
    obtain ⟨q1, q2, q3, q4⟩ := hP.ok _ _ hj
    obtain ⟨hd, hhd⟩ : ∃ k : Nat, S'.head = k := ⟨S'.head.toNat, by omega⟩
    by_cases d : hd < now.length
    · have dT : hd < T'.lits.length := Nat.lt_of_lt_of_le d hpre.length_le
      have hq : now[hd]? = some T'.lits[hd] := by
        obtain ⟨t, ht⟩ := hpre
        rw [← List.getElem?_eq_getElem dT, ← ht, List.getElem?_append_left d]
      have hlt2 : S'.head < T'.lits.length := by omega
      have hqe : now[hd] = T'.lits[hd] := by rw [List.getElem?_eq_getElem d] at hq; exact Option.some.inj hq
      have hneg : w64 (-now[hd]) = negL T' S' := by rw [hqe]; simp [negL, hhd, List.getElem?_eq_getElem dT]
      have kF : AMut Tryz.prog 90 [.ptr bw 0, I64 (negL T' S')] H (fun r h' => r = .pv (I64 (faiS S' T' (negL T' S')).2.2) ∧ ∃ mb'', LayW h' bw ba bt mp mb'' A (faiS S' T' (negL T' S')).2.1 (faiS S' T' (negL T' S')).1 ∧ Ext H h' (DomW bw bt mp mb') (DomW bw bt mp mb'')) := by
        cases hb : lk S'.byl (negL T' S') with
        | none =>
          simp only [faiS, hb]
          exact wfailsN_ok H bw ba bt mp mb' A T' S' LH _ hb
        | some zs =>
          obtain ⟨z1, Jf, z2, z3⟩ := hP.step S' T' hj hlt2 zs hb
          simp only [faiS, hb]
          exact wfails_ok H bw ba bt mp mb' A T' S' LH _ zs hb z1 Jf z2 z3
      have hFl := hP.len S' T' hj hlt2
      have hFn := hP.next S' T' hj hlt2
      cases n with
      | zero => omega
      | succ n =>
      rw [proF, if_pos hlt2] at hM
      generalize faiS S' T' (negL T' S') = V at *
      generalize negL T' S' = l at *
      obtain ⟨S3, T3, k3⟩ := V
      simp only at hM hFl hFn kF
      clear kL kL2 kM kS kLa hB hJ hMid hLd L1 L1' hz hz2 w1 w2 v1 v2
      simp [hc', u1, u2, wtB, hhd, d, hneg]
      refine CallB.intro kF (by simp) ?_
      rintro _ H3 ⟨rfl, mb3, L3, E3⟩
      obtain ⟨t1, t2⟩ := List.getElem?_eq_some_iff.1 L3.w
      have hz3 := frz_tr0 L3.t 2
      have kL4 := tlits_ok T3 hFl
      by_cases c3 : 0 ≤ k3
      · rw [if_pos c3] at hM
        simp [c3, t1, t2, wtB, hz3]
        refine CallB.introP kL4 (by simp) (by simp) ?_
        simp [t1, t2, wtB]
        have := L3.setW S3.late S3.head T3.lits
        rw [hPr, hM]
        exact ⟨rfl, mb3, this, (hE.trans E3).trans (Ext.set bw _ (.inl rfl))⟩
      · rw [if_neg c3] at hM
        obtain ⟨r1, r2, r3, r4⟩ := hFn c3
        obtain ⟨b1, b2, b3, b4⟩ := hP.ok _ _ r2
        have c3' : ¬ 0 ≤ k3 := c3
        have L4 := L3.setW S3.late (w64 (S3.head + 1)) S3.seen
        have E4 : Ext h (H3.set bw (wtB ba bt ⟨mp, mb3, S3.late, w64 (S3.head + 1), S3.seen⟩)) (DomW bw bt mp mb) (DomW bw bt mp mb3) := (hE.trans E3).trans (Ext.set bw _ (.inl rfl))
        have hw' : w64 ((hd : Int) + 1) = ((hd + 1 : Nat) : Int) := by rw [w64_id (by omega) (by omega)]; omega
        have hh3 : S3.head = hd := r3.trans hhd
        rw [hh3, hw'] at L4 E4
        have hz4 : frzP (H3.set bw (wtB ba bt ⟨mp, mb3, S3.late, ((hd + 1 : Nat) : Int), S3.seen⟩)) (2 + 1) bt 0 = trP T3 := frz_tr0 L4.t 2
        have hup : upH S3 = ⟨S3.prs, S3.byl, S3.late, ((hd + 1 : Nat) : Int), S3.seen⟩ := by unfold upH; rw [hh3, hw']
        rw [hup] at hM r2
        clear kF
        by_cases dn : hd + 1 = now.length
        · rw [dn] at L4 E4 hz4 hM r2
          simp only [wtB] at hz4
          simp [c3, t1, t2, wtB, hz3, hh3, hw', dn, hz4]
          refine CallB.introP kL4 (by simp) (by simp) ?_
          simp
          exact ⟨(_, mb3, ⟨S3.prs, S3.byl, S3.late, (now.length : Int), S3.seen⟩, T3, k3, T3.lits, n), Nat.lt_succ_self n, ⟨L4, E4, hFl, .inr ⟨by simp only; omega, r1, r2, List.prefix_refl _, .inr rfl, hM, by simp only; omega⟩⟩, Weak.keep (by simp) rfl⟩
        · have hw2 : ¬ ((hd : Int) + 1 = now.length) := by omega
          simp [c3, t1, t2, wtB, hz3, hh3, hw', hw2]
          exact ⟨(_, mb3, ⟨S3.prs, S3.byl, S3.late, ((hd + 1 : Nat) : Int), S3.seen⟩, T3, k3, now, n), Nat.lt_succ_self n, ⟨L4, E4, hFl, .inr ⟨by simp only; omega, r1, r2, hpre.trans r4, .inl (by simp only; omega), hM, by simp only; omega⟩⟩, Weak.keep (by simp) rfl⟩
    · have hnl : ¬ S'.head < T'.lits.length := by
        rcases hlt with h1 | h1
        · omega
        · rw [← h1]; omega
      have hM' : M = (S', T', -1) := by
        rw [hM]; cases n with
        | zero => rfl
        | succ n => rw [proF, if_neg hnl]
      obtain ⟨g1, g2, g3⟩ := kPost (by rw [hM', hc1])
      clear kL kL2 kM kS kLa hB hJ hMid hLd L1 L1' hz hz2 w1 w2 v1 v2
      simp [hc', u1, u2, wtB, hhd, d]
      simp [u1, u2, wtB, hzH]
      refine CallB.introP kL3 (by simp) (by simp) ?_
      simp [u1, u2, wtB]
      exact ⟨g3.symm, mb', g1, g2⟩
theorem topen_ok (T : Tr) (hm : T.marks.length ≤ 1000000) (hl : T.lits.length ≤ 1000000) : APure Tryz.prog 84 [trP T] (fun r => r = .pv (I64 ((T.marks.length : Int) - 1 - T.lits.length))) := by
  refine apure1 hmo Tryz.func84 (by kernel_rfl) rfl rfl (by kernel_rfl) (Nat.le_of_ble_eq_true rfl) ?_
  have hi := tis_ok T
  have w1 : w64 ((T.marks.length : Int) - 1) = (T.marks.length : Int) - 1 := w64_id (by omega) (by omega)
  have w2 : w64 ((T.marks.length : Int) - 1 - T.lits.length) = (T.marks.length : Int) - 1 - T.lits.length := w64_id (by omega) (by omega)
  simp only [trP, trR] at hi
  simp [trP, trR]
  refine CallK.intro hi (by simp) ?_
  simp [w1, w2]
theorem vchk_ok (x v : Int) : APure Tryz.prog 86 [I64 x, .iptr 1 [[I64 v]] 0 0] (fun r => r = .pv (BL (!decide (litChk x v = 0)))) := by
  refine apure1 hmo Tryz.func86 (by kernel_rfl) rfl rfl (by kernel_rfl) (Nat.le_of_ble_eq_true rfl) ?_
  simp
  refine CallK.intro (litCheck_ok x v) (by simp) ?_
  by_cases c : litChk x v = 0
  · simp [c]
  · simp [c]
theorem aid_ok (h : List (List SV)) (b : Nat) (A : Ar) (hb : h[b]? = some (arB A)) (hk : ArOk A) (hl : A.row.length ≤ 1000000) (q : Int) : AMut Tryz.prog 82 [.ptr b 0, I64 q] h (fun r h' => h' = h ∧ r = .pv (I64 (idA A q))) := by
  refine amutXP [] [.tmp 4] hmo Tryz.func82 (by kernel_rfl) rfl rfl (by kernel_rfl) (Nat.le_of_ble_eq_true rfl) ?_
  obtain ⟨hlt, hb'⟩ := List.getElem?_eq_some_iff.1 hb
  unfold idA
  simp
  refine CallB.intro (ais_ok h b A hb q) (by simp) ?_
  rintro _ _ ⟨rfl, rfl⟩
  by_cases c : isA A q = true
  · obtain ⟨p, n, rfl, ha⟩ := hk q c
    have hp : p < A.row.length := by have := ha.len; omega
    simp [hb', hlt, arB, c, hp]
  · have c' : isA A q = false := by simpa using c
    simp [c']
theorem alitsW_ok (h : List (List SV)) (b : Nat) (A : Ar) (hb : h[b]? = some (arB A)) (hk : ArOk A) (hl : A.row.length ≤ 1000000) (q : Int) (hi : isA A q = true) :
    AMut Tryz.prog 83 [.ptr b 0, I64 q] h (fun r h' => h' = h ∧ r = .pv (.seq false 1 (irow (litsA A q)))) := by
  obtain ⟨p, n, rfl, ha⟩ := hk q hi
  have e : litsA A (p : Int) = partA' A p n := by
    unfold litsA
    rw [if_pos hi]
    have h1 : p + 1 < A.row.length := by have := ha.len; omega
    have h2 : A.row.getD ((p : Int).toNat + 1) 0 = (n : Int) := by rw [← ha.num]; rfl
    rw [h2]; rfl
  rw [e]
  exact alits_ok h b A hb p n hi ha hl
theorem wnew_ok (h : List (List SV)) (ba bt : Nat) : AMut Tryz.prog 31 [.ptr ba 0, .ptr bt 0] h (fun r h' => h' = h ++ [[.pv (.ptr ba 0), .pv (.ptr bt 0), .omap true [], .omap true [], .omap true [], .pv (I64 0), .pv (.lit (.slice none 0 0))]] ∧ r = .pv (.ptr h.length 0)) := by
  refine amutX [] [.tmp 4] hmo Tryz.func31 (by kernel_rfl) rfl rfl (by kernel_rfl) (Nat.le_of_ble_eq_true rfl) ?_
  simp
theorem wnewN_ok (h : List (List SV)) (bt : Nat) : AMut Tryz.prog 31 [.lit (.pointer none), .ptr bt 0] h (fun r h' => h' = h ∧ r = .pv (.lit (.pointer none))) := by
  refine amutX [] [.tmp 4] hmo Tryz.func31 (by kernel_rfl) rfl rfl (by kernel_rfl) (Nat.le_of_ble_eq_true rfl) ?_
  simp
@[simp] theorem del_prV : ∀ (l : List (Int × Nat)) (k : Int), amDel k (mapE prV l) = mapE prV (dl l k)
  | [], k => rfl
  | (j, x) :: l, k => by
    show (if j = k then mapE prV l else (j, prV x) :: amDel k (mapE prV l)) = mapE prV (if j = k then l else (j, x) :: dl l k)
    rw [del_prV l k]
    split <;> rfl
theorem dl_keysW {α β : Type} : ∀ (a : List (Int × α)) (c : List (Int × β)) (k : Int), a.map (·.1) = c.map (·.1) → (dl a k).map (·.1) = (dl c k).map (·.1)
  | [], [], _, _ => rfl
  | [], _ :: _, _, h => by simp at h
  | _ :: _, [], _, h => by simp at h
  | u :: a, w :: c, k, h => by
    obtain ⟨u1, u2⟩ := u
    obtain ⟨w1, w2⟩ := w
    simp only [List.map_cons, List.cons.injEq] at h
    obtain ⟨h1, h2⟩ := h
    subst h1
    show (if u1 = k then a else (u1, u2) :: dl a k).map (·.1) = (if u1 = k then c else (u1, w2) :: dl c k).map (·.1)
    by_cases e : u1 = k
    · rw [if_pos e, if_pos e]; exact h2
    · rw [if_neg e, if_neg e, List.map_cons, List.map_cons, dl_keysW a c k h2]
theorem lk_none_of {α : Type} : ∀ {l : List (Int × α)} {k : Int}, k ∉ l.map (·.1) → lk l k = none
  | [], _, _ => rfl
  | (j, x) :: l, k, h => by
    simp only [List.map_cons, List.mem_cons, not_or] at h
    rw [lk, if_neg (fun e => h.1 e.symm)]
    exact lk_none_of h.2
theorem lk_dlN {α : Type} : ∀ {l : List (Int × α)}, (l.map (·.1)).Nodup → ∀ k x : Int, lk (dl l k) x = if x = k then none else lk l x
  | [], _, k, x => by show none = _; split <;> rfl
  | (j, y) :: l, h, k, x => by
    simp only [List.map_cons, List.nodup_cons] at h
    show lk (if j = k then l else (j, y) :: dl l k) x = if x = k then none else if j = x then some y else lk l x
    by_cases e : j = k
    · rw [if_pos e]
      by_cases c : x = k
      · rw [if_pos c, c, ← e]; exact lk_none_of h.1
      · rw [if_neg c, if_neg (fun e2 => c (e2.symm.trans e))]
    · rw [if_neg e, lk, lk_dlN h.2 k x]
      by_cases c : x = k
      · rw [if_pos c, if_pos c, if_neg (fun e2 => e (e2.trans c))]
      · rw [if_neg c, if_neg c]
section
variable {h : List (List SV)} {bw ba bt : Nat} {mp : List (Int × Nat)} {mb : List (Int × By)} {A : Ar} {T : Tr} {S : WS}
theorem LayW.newP (L : LayW h bw ba bt mp mb A T S) (k : Int) (p : Pr) (late : List (Int × Int)) :
    LayW ((h ++ [prB p]).set bw (wtB ba bt ⟨pt mp k h.length, mb, late, S.head, S.seen⟩)) bw ba bt (pt mp k h.length) mb A T ⟨pt S.prs k p, S.byl, late, S.head, S.seen⟩ := by
  have hwl := (List.getElem?_eq_some_iff.1 L.w).1
  have lt : ∀ {b : Nat} {x : List SV}, h[b]? = some x → b < h.length := fun hx => (List.getElem?_eq_some_iff.1 hx).1
  have up : ∀ {c : Nat} {x : List SV}, c ≠ bw → h[c]? = some x → ((h ++ [prB p]).set bw (wtB ba bt ⟨pt mp k h.length, mb, late, S.head, S.seen⟩))[c]? = some x := fun n1 hx => by
    rw [List.getElem?_set_ne (fun e => n1 e.symm), List.getElem?_append_left (lt hx), hx]
  have self : ((h ++ [prB p]).set bw (wtB ba bt ⟨pt mp k h.length, mb, late, S.head, S.seen⟩))[h.length]? = some (prB p) := by
    rw [List.getElem?_set_ne (by omega)]; simp
  have old : ∀ k' b, lk mp k' = some b → b < h.length := fun k' b hb => by obtain ⟨_, _, a2, _⟩ := L.pr k' b hb; exact lt a2
  exact { w := List.getElem?_set_self (by simp; omega), a := up L.wa.symm L.a, t := up L.wt.symm L.t, wa := L.wa, wt := L.wt, at' := L.at', keys := pt_keysW _ _ _ _ _ L.keys, byn := L.byn, binj := L.binj
          pr := fun k' b hb => by
            rw [lk_pt] at hb
            show ∃ p', lk (pt S.prs k p) k' = some p' ∧ _
            rw [lk_pt]
            by_cases c : k = k'
            · rw [if_pos c] at hb; cases hb
              exact ⟨p, if_pos c, self, Nat.ne_of_gt hwl, Nat.ne_of_gt (lt L.a), Nat.ne_of_gt (lt L.t)⟩
            · rw [if_neg c] at hb
              obtain ⟨p', a1, a2, a3⟩ := L.pr k' b hb
              exact ⟨p', by rw [if_neg c]; exact a1, up a3.1 a2, a3⟩
          by' := fun l e he => by
            obtain ⟨zs, a1, ⟨sp, a2, a3⟩, a4⟩ := L.by' l e he
            exact ⟨zs, a1, ⟨sp, up a4.1 a2, a3⟩, a4⟩
          pinj := fun k1 k2 b h1 h2 => by
            rw [lk_pt] at h1 h2
            by_cases c1 : k = k1
            · by_cases c2 : k = k2
              · exact c1.symm.trans c2
              · rw [if_pos c1] at h1; rw [if_neg c2] at h2; cases h1
                have := old k2 _ h2; omega
            · rw [if_neg c1] at h1
              by_cases c2 : k = k2
              · rw [if_pos c2] at h2; cases h2
                have := old k1 _ h1; omega
              · rw [if_neg c2] at h2
                exact L.pinj k1 k2 b h1 h2
          pb := fun k' b l e hb he => by
            rw [lk_pt] at hb
            by_cases c : k = k'
            · rw [if_pos c] at hb; cases hb
              obtain ⟨_, _, ⟨_, a2, _⟩, _⟩ := L.by' l e he
              exact Nat.ne_of_gt (lt a2)
            · rw [if_neg c] at hb; exact L.pb k' b l e hb he }
theorem LayW.delP (L : LayW h bw ba bt mp mb A T S) (hn : (S.prs.map (·.1)).Nodup) (k : Int) (late : List (Int × Int)) :
    LayW (h.set bw (wtB ba bt ⟨dl mp k, mb, late, S.head, S.seen⟩)) bw ba bt (dl mp k) mb A T ⟨dl S.prs k, S.byl, late, S.head, S.seen⟩ := by
  have hl := (List.getElem?_eq_some_iff.1 L.w).1
  have hn' : (mp.map (·.1)).Nodup := by rw [L.keys]; exact hn
  have up : ∀ {b : Nat} {x : List SV}, b ≠ bw → h[b]? = some x → (h.set bw (wtB ba bt ⟨dl mp k, mb, late, S.head, S.seen⟩))[b]? = some x := fun hn hx => by rw [List.getElem?_set_ne (fun e => hn e.symm), hx]
  have sub : ∀ {k' b}, lk (dl mp k) k' = some b → k' ≠ k ∧ lk mp k' = some b := fun {k' b} hb => by
    rw [lk_dlN hn'] at hb
    by_cases c : k' = k
    · rw [if_pos c] at hb; cases hb
    · rw [if_neg c] at hb; exact ⟨c, hb⟩
  exact { w := List.getElem?_set_self hl, a := up L.wa.symm L.a, t := up L.wt.symm L.t, wa := L.wa, wt := L.wt, at' := L.at', keys := dl_keysW _ _ _ L.keys, byn := L.byn, binj := L.binj
          pr := fun k' b hb => by
            obtain ⟨c, hb⟩ := sub hb
            obtain ⟨p, h1, h2, h3⟩ := L.pr k' b hb
            exact ⟨p, by show lk (dl S.prs k) k' = _; rw [lk_dlN hn, if_neg c]; exact h1, up h3.1 h2, h3⟩
          by' := fun l e he => by
            obtain ⟨zs, h1, ⟨sp, h2, h3⟩, h4⟩ := L.by' l e he
            exact ⟨zs, h1, ⟨sp, up h4.1 h2, h3⟩, h4⟩
          pinj := fun k1 k2 b h1 h2 => L.pinj k1 k2 b (sub h1).2 (sub h2).2
          pb := fun k' b l e hb he => L.pb k' b l e (sub hb).2 he }
end
def attE (A : Ar) (T : Tr) (S : WS) (k : Int) : Int := if idA A k = 0 then 20 else if (lk S.prs k).isSome = true then 21 else if (litsA A k).any (fun l => !decide (litChk l ((T.marks.length : Int) - 1) = 0)) = true then 10 else 0
def attS (A : Ar) (T : Tr) (S : WS) (k : Int) : WS := if attE A T S k = 0 then ⟨pt S.prs k ⟨litsA A k, 0, 0⟩, S.byl, pt S.late k (w64 ((lk S.late k).getD 0 + 1)), S.head, S.seen⟩ else S
def at8Sch : Sch :=
  let s0 : Sch := .fork [(13, .done)]
  let s1 : Sch := .fork [(12, s0)]
  let s2 : Sch := .fork [(9, .take 10 (.take 11 s0))]
  let s3 : Sch := .fork [(9, .take 10 (.take 11 s1)), (12, s2)]
  let s4 : Sch := .fork [(8, s2)]
  let s5 : Sch := .fork [(8, s3), (12, s4)]
  let s6 : Sch := .fork [(4, s2)]
  let s7 : Sch := .fork [(4, s3), (12, s6)]
  let s8 : Sch := .fork [(4, s4), (8, s6)]
  let s9 : Sch := .fork [(4, s5), (8, s7), (12, s8)]
  let s10 : Sch := .fork [(3, s6)]
  let s11 : Sch := .fork [(3, s7), (12, s10)]
  let s12 : Sch := .fork [(3, s8), (8, s10)]
  let s13 : Sch := .fork [(3, s9), (8, s11), (12, s12)]
  .take 0 (.take 1 (.take 2 (.take 5 (.take 6 (.take 7 s13)))))
set_option maxRecDepth 16000 in
theorem wattach_ok (h : List (List SV)) (bw ba bt : Nat) (mp : List (Int × Nat)) (mb : List (Int × By)) (A : Ar) (T : Tr) (S : WS) (L : LayW h bw ba bt mp mb A T S) (hk : ArOk A) (hl : A.row.length ≤ 1000000) (hm : T.marks.length ≤ 1000000) (hTl : T.lits.length ≤ 1000000) (k : Int) :
    AMut Tryz.prog 32 [.ptr bw 0, I64 k] h (fun r h' => r = .pv (I64 (attE A T S k)) ∧ ∃ mp', LayW h' bw ba bt mp' mb A T (attS A T S k) ∧ Ext h h' (DomW bw bt mp mb) (DomW bw bt mp' mb)) := by
  refine amutX [8] [.tmp 4] hmo Tryz.func32 (by kernel_rfl) rfl rfl (by kernel_rfl) (Nat.le_of_ble_eq_true rfl) ?_
  obtain ⟨w1, w2⟩ := List.getElem?_eq_some_iff.1 L.w
  have kM := wmade_ok h bw ba bt _ L.w
  have kI := aid_ok h ba A L.a hk hl k
  simp
  refine CallB.intro kM (by simp) ?_
  rintro _ h2 ⟨e, rfl⟩
  rw [e]
  clear e h2
  simp [w1, w2, wtB]
  refine CallB.intro kI (by simp) ?_
  rintro _ h2 ⟨e, rfl⟩
  rw [e]
  clear e h2
  by_cases c1 : idA A k = 0
  · have eE : attE A T S k = 20 := by unfold attE; rw [if_pos c1]
    have eS : attS A T S k = S := by unfold attS; rw [eE]; rfl
    rw [eE, eS]
    simp [c1]
    exact ⟨mp, L, Ext.refl _ _⟩
  have hisA : isA A k = true := by
    unfold idA at c1
    by_cases c : isA A k = true
    · exact c
    · rw [if_neg c] at c1; exact absurd rfl c1
  cases hp : lk mp k with
  | some b =>
    obtain ⟨p, hp1, _⟩ := L.pr k b hp
    have eE : attE A T S k = 21 := by unfold attE; rw [if_neg c1, hp1]; rfl
    have eS : attS A T S k = S := by unfold attS; rw [eE]; rfl
    rw [eE, eS]
    simp [c1, w1, w2, wtB, hp, prV]
    exact ⟨mp, L, Ext.refl _ _⟩
  | none =>
  have hpn : lk S.prs k = none := by
    cases hq : lk S.prs k with
    | none => rfl
    | some p => obtain ⟨b, hb, _⟩ := L.some_p hq; rw [hp] at hb; cases hb
  have kL := alitsW_ok h ba A L.a hk hl k hisA
  simp [c1, w1, w2, wtB, hp, prV]
  refine CallB.intro kL (by simp) ?_
  rintro _ h2 ⟨e, rfl⟩
  rw [e]
  clear e h2
  simp
  obtain ⟨G, hG⟩ : ∃ G, G = h ++ [[SV.pv (I64 ((T.marks.length : Int) - 1))]] := ⟨_, rfl⟩
  have L0 : LayW G bw ba bt mp mb A T S := by rw [hG]; exact L.app _
  have E0 : Ext h G (DomW bw bt mp mb) (DomW bw bt mp mb) := by rw [hG]; exact Ext.app _ _ _
  have hz := frz_tr0 L.t 2
  have hz2 := fun x => frz_tr0 (L.app [x]).t 2
  have kO := topen_ok T hm hTl
  have kT := tlits_ok T hTl
  have ew : w64 ((T.marks.length : Int) - 1) = (T.marks.length : Int) - 1 := w64_id (by omega) (by omega)
  obtain ⟨g1, g2⟩ := List.getElem?_eq_some_iff.1 L0.w
  have a1 : ∀ x, (h ++ [x])[bw]? = some (wtB ba bt ⟨mp, mb, S.late, S.head, S.seen⟩) := fun x => (L.app [x]).w
  refine AAnyD.meet at8Sch ⟨[(0, .pv (.ptr bw 0)), (1, .pv (I64 k)), (5, .pv (.seq false 1 (irow (litsA A k)))), (6, .pv (.ptr h.length 0))], G⟩ (by kernel_rfl) ?_ ?_
  · simp [at8Sch, w1, w2, wtB, hz, a1, hz2]
    repeat' first
      | refine And.intro ?_ ?_
      | (refine CallB.introP kO (by simp) (by simp) ?_; simp [w1, w2, wtB, hz, a1, hz2, ew])
      | (refine CallB.introP kT (by simp) (by simp) ?_; simp [w1, w2, wtB, hz, a1, hz2, ew])
      | exact Weak.keep (by simp) (by rw [hG])
  have kC := containsF_ok (litsA A k) (by have := litsA_len A hk k; omega) 86 [.iptr 1 [[I64 ((T.marks.length : Int) - 1)]] 0 0] (fun l => !decide (litChk l ((T.marks.length : Int) - 1) = 0)) (fun r => by simp) rfl (fun m => by simp) (fun x _ => vchk_ok x _)
  have n1 : h.length < G.length := by rw [hG]; simp
  have n2 : G[h.length]'n1 = [.pv (I64 ((T.marks.length : Int) - 1))] := by simp [hG]
  generalize hany : (litsA A k).any (fun l => !decide (litChk l ((T.marks.length : Int) - 1) = 0)) = B at kC
  have hf : ∀ n, frzP G (n + 1) h.length 0 = .iptr 1 [[I64 ((T.marks.length : Int) - 1)]] 0 0 := fun n => by simp [frzP, n1, n2, frzC]
  have hA : attE A T S k = if B = true then 10 else 0 := by unfold attE; rw [if_neg c1, hpn, hany]; rfl
  have hS' : attS A T S k = if attE A T S k = 0 then ⟨pt S.prs k ⟨litsA A k, 0, 0⟩, S.byl, pt S.late k (w64 ((lk S.late k).getD 0 + 1)), S.head, S.seen⟩ else S := rfl
  rw [hA] at hS' ⊢
  generalize attS A T S k = S2 at *
  simp [hf]
  refine CallK.intro kC (by simp) ?_
  cases B
  · have e0 : (if false = true then (10 : Int) else 0) = 0 := rfl
    rw [e0] at hS' ⊢
    rw [if_pos rfl] at hS'
    subst hS'
    have L1 := L0.newP k ⟨litsA A k, 0, 0⟩ (pt S.late k (w64 ((lk S.late k).getD 0 + 1)))
    have E1 : Ext h ((G ++ [prB ⟨litsA A k, 0, 0⟩]).set bw (wtB ba bt ⟨pt mp k G.length, mb, pt S.late k (w64 ((lk S.late k).getD 0 + 1)), S.head, S.seen⟩)) (DomW bw bt mp mb) (DomW bw bt (pt mp k G.length) mb) :=
      ((E0.trans (Ext.app G _ _)).trans (Ext.set bw _ (.inl rfl))).dom fun b hb hd => by
        rcases hd with h1 | h1 | ⟨k', h1⟩ | h1
        · exact .inl h1
        · exact .inr (.inl h1)
        · rw [lk_pt] at h1
          by_cases c : k = k'
          · rw [if_pos c] at h1; cases h1; have := E0.len; omega
          · rw [if_neg c] at h1; exact .inr (.inr (.inl ⟨k', h1⟩))
        · exact .inr (.inr (.inr h1))
    have hgl : G.length = h.length + 1 := by rw [hG]; simp
    have b1 : ∀ x, (G ++ [x])[bw]? = some (wtB ba bt ⟨mp, mb, S.late, S.head, S.seen⟩) := fun x => (L0.app [x]).w
    have b2 : ∀ x y, (G.set bw y ++ [x])[bw]? = some y := fun x y => by rw [List.getElem?_append_left (by simpa using g1), List.getElem?_set_self g1]
    rw [List.set_append_left _ _ g1] at L1 E1
    simp [g1, g2, wtB, b1, b2]
    exact ⟨_, L1, E1⟩
  · have e0 : (if true = true then (10 : Int) else 0) = 10 := rfl
    rw [e0] at hS' ⊢
    rw [if_neg (by omega)] at hS'
    subst hS'
    simp
    exact ⟨mp, L0, E0⟩
def detE (S : WS) (k : Int) : Int := if (lk S.prs k).isSome = true then 0 else 20
def detS (S : WS) (k : Int) : WS := match lk S.prs k with
  | some p => ⟨dl (forS S k p).prs k, (forS S k p).byl, dl S.late k, S.head, S.seen⟩
  | none => S
set_option maxRecDepth 16000 in
theorem wdetach_ok (h : List (List SV)) (bw ba bt : Nat) (mp : List (Int × Nat)) (mb : List (Int × By)) (A : Ar) (T : Tr) (S : WS) (L : LayW h bw ba bt mp mb A T S) (hn : (S.prs.map (·.1)).Nodup) (k : Int)
    (hx : ∀ p, lk S.prs k = some p → (p.x ≠ 0 → ∃ zs, lk S.byl p.x = some zs ∧ zs ≠ []) ∧ (p.y ≠ 0 → ∃ zs, lk (forB S.byl k p.x) p.y = some zs ∧ zs ≠ [])) (hz : ∀ l zs, lk S.byl l = some zs → zs.length ≤ 1000000) :
    AMut Tryz.prog 36 [.ptr bw 0, I64 k] h (fun r h' => r = .pv (I64 (detE S k)) ∧ ∃ mp' mb', LayW h' bw ba bt mp' mb' A T (detS S k) ∧ Ext h h' (DomW bw bt mp mb) (DomW bw bt mp' mb')) := by
  refine amutX [] [.tmp 4] hmo Tryz.func36 (by kernel_rfl) rfl rfl (by kernel_rfl) (Nat.le_of_ble_eq_true rfl) ?_
  obtain ⟨w1, w2⟩ := List.getElem?_eq_some_iff.1 L.w
  have kM := wmade_ok h bw ba bt _ L.w
  simp
  refine CallB.intro kM (by simp) ?_
  rintro _ h2 ⟨e, rfl⟩
  rw [e]
  clear e h2
  cases hp : lk S.prs k with
  | none =>
    have hm : lk mp k = none := by
      cases hq : lk mp k with
      | none => rfl
      | some b => obtain ⟨p, h1, _⟩ := L.pr k b hq; rw [hp] at h1; cases h1
    simp [w1, w2, wtB, hm, detE, detS, hp]
    exact ⟨mp, mb, L, Ext.refl _ _⟩
  | some p =>
    obtain ⟨b, hb, _⟩ := L.some_p hp
    obtain ⟨hx1, hx2⟩ := hx p hp
    have kF := wforget_ok h bw ba bt mp mb A T S L k p hp hx1 hx2 hz
    simp [w1, w2, wtB, hb, prV, detE, detS, hp]
    refine CallB.intro kF (by simp) ?_
    rintro _ H1 ⟨rfl, mb1, L1, E1⟩
    obtain ⟨v1, v2⟩ := List.getElem?_eq_some_iff.1 L1.w
    have hn1 : ((forS S k p).prs.map (·.1)).Nodup := by show ((pt S.prs k _).map (·.1)).Nodup; rw [pt_keepW _ hp]; exact hn
    have L2 := L1.delP hn1 k (dl S.late k)
    have E2 : Ext h (H1.set bw (wtB ba bt ⟨dl mp k, mb1, dl S.late k, (forS S k p).head, (forS S k p).seen⟩)) (DomW bw bt mp mb) (DomW bw bt (dl mp k) mb1) :=
      (E1.trans (Ext.set bw _ (.inl rfl))).dom fun c hc hd => by
        have key : ∀ k' c, lk (dl mp k) k' = some c → ∃ k'', lk mp k'' = some c := fun k' c h1 => by
          have hn2 : (mp.map (·.1)).Nodup := by rw [L.keys]; exact hn
          rw [lk_dlN hn2] at h1
          by_cases e : k' = k
          · rw [if_pos e] at h1; cases h1
          · rw [if_neg e] at h1; exact ⟨k', h1⟩
        rcases hd with h1 | h1 | ⟨k', h1⟩ | ⟨l, e, h1, h2⟩
        · exact .inl h1
        · exact .inr (.inl h1)
        · exact .inr (.inr (.inl (key k' c h1)))
        · exact E1.sub c hc (.inr (.inr (.inr ⟨l, e, h1, h2⟩)))
    have e0 : (forS S k p).late = S.late := rfl
    simp [v1, v2, wtB, e0]
    exact ⟨_, _, L2, E2⟩
def remW (l : List Int) (k : Int) : List Int := l.filter fun x => decide (x ≠ k)
theorem remW_take (l : List Int) (k : Int) {i : Nat} (h : i < l.length) : remW (l.take (i + 1)) k = if l[i] = k then remW (l.take i) k else remW (l.take i) k ++ [l[i]] := by
  unfold remW
  rw [List.take_add_one, List.getElem?_eq_getElem h, Option.toList_some, List.filter_append, List.filter_cons, List.filter_nil]
  by_cases c : l[i] = k
  · rw [if_pos c, if_neg (by simpa using c), List.append_nil]
  · rw [if_neg c, if_pos (by simpa using c)]
theorem remW_len (l : List Int) (k : Int) : (remW l k).length ≤ l.length := List.length_filter_le _ _
def rdetL (l : List Int) (k : Int) : List Int := if k ∈ l then remW l k else l
def rdetE (l : List Int) (k : Int) : Int := if k ∈ l then 0 else 20
set_option maxRecDepth 16000 in
theorem rdetach_ok (h : List (List SV)) (l : List Int) (k : Int) (hl : l.length ≤ 1000000) : AMut Tryz.prog 42 [.seq false 1 (irow l), I64 k] h (fun r h' => h' = h ∧ r = .pv (.tup [.seq false 1 (irow (rdetL l k)), I64 (rdetE l k)])) := by
  refine amutXW [] [.tmp 4, .tmp 5] hmo Tryz.func42 (by kernel_rfl) rfl rfl (by kernel_rfl) (Nat.le_of_ble_eq_true rfl) ?_
  have kH := refHas_ok l k (by omega)
  simp
  refine CallK.intro kH (by simp) ?_
  unfold rdetL rdetE
  by_cases c : k ∈ l
  rotate_left
  · simp [c, wkPL, wkP]
  simp [c]
  refine ALoop.intro (S := fun (i : Nat) => ⟨[(0, .pv (.seq false 1 (irow l))), (1, .pv (I64 k)), (6, .own true 1 (irow (remW (l.take i) k))), (7, .pv (I64 i))], h⟩) (fun i => i ≤ l.length) (fun i => l.length - i) 0 ?_ (Nat.zero_le _) ?_
  · refine (Weak.nilOwn (s := 6) 1 true (by simp)).trans (Weak.keep (by simp [remW, irow]) rfl)
  intro i hi
  by_cases d : i < l.length
  · have hw' : w64 ((i : Int) + 1) = ((i + 1 : Nat) : Int) := by rw [w64_id (by omega) (by omega)]; omega
    have hq : l[i]? = some l[i] := List.getElem?_eq_getElem d
    have ho := remW_take l k d
    have hol : (remW (l.take i) k).length ≤ i := Nat.le_trans (remW_len _ _) (by rw [List.length_take]; omega)
    by_cases e : l[i] = k
    · rw [if_pos e] at ho
      simp [d, hq, e]
      exact ⟨i + 1, by (try dsimp only); omega, by (try dsimp only); omega, Weak.keep (by simp [hw', ho]) rfl⟩
    · rw [if_neg e] at ho
      simp [d, hq, e]
      exact ⟨by omega, i + 1, by (try dsimp only); omega, by (try dsimp only); omega, Weak.keep (by simp [hw', ho, irow]) rfl⟩
  · have : i = l.length := by omega
    subst this
    simp [wkPL, wkP]
def insF (k : Int) (p : List Int × Bool) (x : Int) : List Int × Bool := if k < x ∧ p.2 = false then (p.1 ++ [k] ++ [x], true) else (p.1 ++ [x], p.2)
def insT (l : List Int) (k : Int) (i : Nat) : List Int × Bool := (l.take i).foldl (insF k) ([], false)
def insW (l : List Int) (k : Int) : List Int := if (insT l k l.length).2 = true then (insT l k l.length).1 else (insT l k l.length).1 ++ [k]
theorem insT_succ (l : List Int) (k : Int) {i : Nat} (h : i < l.length) : insT l k (i + 1) = insF k (insT l k i) l[i] := foldl_take_succ _ _ _ _ h
theorem insT_len (l : List Int) (k : Int) : ∀ i, i ≤ l.length → (insT l k i).1.length ≤ 2 * i
  | 0, _ => by simp [insT]
  | i + 1, h => by
    have := insT_len l k i (by omega)
    rw [insT_succ l k (by omega), insF]
    split <;> simp <;> omega
def rattE (a : RA) (v : Int) (l : List Int) (k : Int) : Int :=
  if findA a k < 0 then 20 else if k ∈ l then 21 else if (a.rows.getD (findA a k).toNat default).lits.any (fun x => !decide (litChk x v = 0)) = true then 10 else 0
def rattL (a : RA) (v : Int) (l : List Int) (k : Int) : List Int := if rattE a v l k = 0 then insW l k else l
set_option maxRecDepth 16000 in
theorem rattach_ok (h : List (List SV)) (a : RA) (t : RT) (l : List Int) (k : Int) (ha : a.rows.length ≤ 1000000) (hr : ∀ x ∈ a.rows, x.lits.length ≤ 1000000) (hl : l.length ≤ 1000000) :
    AMut Tryz.prog 40 [raV a, rtV t, .seq false 1 (irow l), I64 k] h (fun r h' => h' = h ∧ r = .pv (.tup [.seq false 1 (irow (rattL a t.vars l k)), I64 (rattE a t.vars l k)])) := by
  refine amutXW [] [.tmp 8, .tmp 9] hmo Tryz.func40 (by kernel_rfl) rfl rfl (by kernel_rfl) (Nat.le_of_ble_eq_true rfl) ?_
  have kH := refHas_ok l k (by omega)
  have kF := refFind_ok a k ha
  have hE : rattE a t.vars l k = if findA a k < 0 then 20 else if k ∈ l then 21 else if (a.rows.getD (findA a k).toNat default).lits.any (fun x => !decide (litChk x t.vars = 0)) = true then 10 else 0 := rfl
  have hL : rattL a t.vars l k = if rattE a t.vars l k = 0 then insW l k else l := rfl
  generalize rattE a t.vars l k = E at *
  generalize rattL a t.vars l k = R at *
  simp only [raV] at kF
  simp [raV, rtV]
  refine CallK.intro kF (by simp) ?_
  by_cases c1 : findA a k < 0
  · rw [if_pos c1] at hE
    subst hE
    rw [if_neg (by omega)] at hL
    subst hL
    simp [c1, wkPL, wkP]
  rw [if_neg c1] at hE
  obtain ⟨p, hp⟩ : ∃ p : Nat, findA a k = p := ⟨(findA a k).toNat, by omega⟩
  have hpl : p < a.rows.length := by
    unfold findA idxS at hp
    cases h : a.rows.findIdx? (fun x => decide (x.at' = k)) with
    | none => rw [h] at hp; have hp : (-1 : Int) = p := hp; omega
    | some i =>
      rw [h] at hp
      rw [List.findIdx?_eq_some_iff_getElem] at h
      obtain ⟨h1, _⟩ := h
      have hp : (i : Int) = p := hp
      omega
  rw [hp] at hE c1
  have hrow : a.rows.getD ((p : Int).toNat) default = a.rows[p] := by simp [List.getD_eq_getElem?_getD, List.getElem?_eq_getElem hpl]
  rw [hrow] at hE
  have hrl := hr _ (List.getElem_mem hpl)
  generalize hcs : a.rows[p].lits = cs at *
  simp [hp]
  refine CallK.intro kH (by simp) ?_
  by_cases c2 : k ∈ l
  · rw [if_pos c2] at hE
    subst hE
    rw [if_neg (by omega)] at hL
    subst hL
    simp [c2, wkPL, wkP]
  rw [if_neg c2] at hE
  simp [c2]
  obtain ⟨G, hG⟩ : ∃ G, G = h ++ [[SV.pv (.seq false 5 (a.rows.map roR)), SV.pv (I64 a.size)], [SV.pv (I64 t.vars), SV.pv (.seq false 3 (t.rows.map enR)), SV.pv (I64 t.dep)]] := ⟨_, rfl⟩
  have hGt : List.take h.length G = h := by rw [hG]; simp
  have g1 : h.length < G.length := by rw [hG]; simp
  have g2 : G[h.length]'g1 = [SV.pv (.seq false 5 (a.rows.map roR)), SV.pv (I64 a.size)] := by simp [hG]
  have g3 : h.length + 1 < G.length := by rw [hG]; simp
  have g4 : G[h.length + 1]'g3 = [SV.pv (I64 t.vars), SV.pv (.seq false 3 (t.rows.map enR)), SV.pv (I64 t.dep)] := by simp [hG]
  refine ALoop.intro (S := fun (i : Nat) => ⟨[(2, .pv (.seq false 1 (irow l))), (3, .pv (I64 k)), (4, .pv (.ptr h.length 0)), (5, .pv (.ptr (h.length + 1) 0)), (10, .pv (I64 p)), (11, .pv (I64 i))], G⟩) (fun i => i ≤ cs.length ∧ ∀ j (hj : j < cs.length), j < i → litChk cs[j] t.vars = 0) (fun i => cs.length - i) 0 ?_ ⟨Nat.zero_le _, fun j _ h => absurd h (Nat.not_lt_zero _)⟩ ?_
  · exact Weak.keep (by simp) (by simp [hG])
  rintro i ⟨hi, ho⟩
  by_cases d : i < cs.length
  · have hw' : w64 ((i : Int) + 1) = ((i + 1 : Nat) : Int) := by rw [w64_id (by omega) (by omega)]; omega
    simp [g1, g2, g3, g4, d, hpl, roR, hcs]
    refine CallQ0.intro (refLitChk_ok cs[i] t.vars) (by simp) ?_
    by_cases e : litChk cs[i] t.vars = 0
    · simp [e]
      refine ⟨i + 1, by (try dsimp only); omega, ⟨by (try dsimp only); omega, fun j hj hji => ?_⟩, Weak.keep (by simp [hw']) rfl⟩
      by_cases e2 : j = i
      · subst e2; exact e
      · exact ho j hj (by omega)
    · have hany : cs.any (fun x => !decide (litChk x t.vars = 0)) = true := List.any_eq_true.2 ⟨_, List.getElem_mem d, by simp [e]⟩
      rw [if_pos hany] at hE
      subst hE
      rw [if_neg (by omega)] at hL
      subst hL
      simp [e, wkPL, wkP, hGt]
  · have hie : i = cs.length := by omega
    subst hie
    have hany : ¬ cs.any (fun x => !decide (litChk x t.vars = 0)) = true := fun h => by
      obtain ⟨x, hx, h2⟩ := List.any_eq_true.1 h
      obtain ⟨j, hj, rfl⟩ := List.getElem_of_mem hx
      rw [ho j hj hj] at h2
      exact absurd h2 (by simp)
    rw [if_neg hany] at hE
    subst hE
    rw [if_pos rfl] at hL
    subst hL
    simp [g1, g2, g3, g4, hpl, roR, hcs]
    refine ALoop.intro (S := fun (i : Nat) => ⟨[(2, .pv (.seq false 1 (irow l))), (3, .pv (I64 k)), (12, .own true 1 (irow (insT l k i).1)), (13, .pv (BL (insT l k i).2)), (14, .pv (I64 i))], G⟩) (fun i => i ≤ l.length) (fun i => l.length - i) 0 ?_ (Nat.zero_le _) ?_
    · exact (Weak.nilOwn (s := 12) 1 true (by simp)).trans (Weak.keep (by simp [insT, irow]) rfl)
    intro i hi
    have hlen := insT_len l k i hi
    by_cases d : i < l.length
    · have hw' : w64 ((i : Int) + 1) = ((i + 1 : Nat) : Int) := by rw [w64_id (by omega) (by omega)]; omega
      have hs := insT_succ l k d
      unfold insF at hs
      generalize insT l k i = Y at *
      obtain ⟨o, b⟩ := Y
      simp only at hlen hs
      have ho1 : (o.length + 1) * 8 ≤ 140737488355328 := by omega
      have ho2 : (o.length + 1 + 1) * 8 ≤ 140737488355328 := by omega
      by_cases e : k < l[i]
      · cases b
        · rw [if_pos ⟨e, rfl⟩] at hs
          simp [d, e]
          refine ⟨by omega, by omega, i + 1, by (try dsimp only); omega, by (try dsimp only); omega, Weak.keep (by simp [hw', hs, irow]) rfl⟩
        · rw [if_neg (fun h => by simp at h)] at hs
          simp [d, e]
          refine ⟨by omega, i + 1, by (try dsimp only); omega, by (try dsimp only); omega, Weak.keep (by simp [hw', hs, irow]) rfl⟩
      · rw [if_neg (fun h => e h.1)] at hs
        simp [d, e]
        refine ⟨by omega, i + 1, by (try dsimp only); omega, by (try dsimp only); omega, Weak.keep (by simp [hw', hs, irow]) rfl⟩
    · have hie : i = l.length := by omega
      subst hie
      unfold insW
      generalize insT l k l.length = Y at *
      obtain ⟨o, b⟩ := Y
      simp only at hlen
      cases b
      · simp [wkPL, wkP, hGt]
        exact ⟨by omega, by simp [irow]⟩
      · simp [wkPL, wkP, hGt]
theorem ASem.to {P : Program} {k0 : Nat} {ops : Array Oper} {K : St → Prop} {st : St} (st1 : St) (hw : Weak k0 st st1) (h : ASem P k0 ops K st1) : ASem P k0 ops K st :=
  ASem.weak (ι := Unit) (fun _ => st1) (fun g a w h0 hs => by obtain ⟨g', t, s'⟩ := hw g a w h0 hs; exact ⟨g', (), t, s'⟩) fun _ => h
structure PJ where
  A : Ar
  a : RA
  ats : List Int
def putJ1 (x : PJ) (c : List Int) (id : Int) : PJ := ⟨putAr x.A id c, putRA x.a id c, if putEA id c = 0 then x.ats ++ [putQA x.a id c] else x.ats⟩
def putJ (cs : List (List Int)) : Nat → PJ
  | 0 => ⟨⟨[], []⟩, ⟨[], 0⟩, []⟩
  | i + 1 => putJ1 (putJ cs i) (cs.getD i []) ((i + 1 : Nat) : Int)
theorem putJ_L (cs : List (List Int)) : ∀ i, (putJ cs i).A = (putL cs i).A ∧ (putJ cs i).a = (putL cs i).a
  | 0 => ⟨rfl, rfl⟩
  | i + 1 => by
    obtain ⟨h1, h2⟩ := putJ_L cs i
    rw [putJ, putL, putJ1, putK, h1, h2]
    exact ⟨rfl, rfl⟩
theorem putJ_len (cs : List (List Int)) : ∀ i, (putJ cs i).ats.length ≤ i
  | 0 => Nat.le_refl _
  | i + 1 => by
    have := putJ_len cs i
    rw [putJ, putJ1]
    dsimp only
    split
    · simp; omega
    · omega
structure DW where
  A : Ar
  T : Tr
  S : WS
  a : RA
  t : RT
  on : List Int
  ats : List Int
def dwB (ba bt bw : Nat) (D : DW) : List SV := [.pv (.ptr ba 0), .pv (.ptr bt 0), .pv (.ptr bw 0), .pv (.seq false 5 (D.a.rows.map roR)), .pv (I64 D.a.size), .pv (I64 D.t.vars), .pv (.seq false 3 (D.t.rows.map enR)), .pv (I64 D.t.dep), .pv (.seq false 1 (irow D.on)), .pv (.seq false 1 (irow D.ats)), .pv (BL true)]
def dwA (ba bt bw : Nat) (D : DW) : PV := .agg [.ptr ba 0, .ptr bt 0, .ptr bw 0, .seq false 5 (D.a.rows.map roR), I64 D.a.size, I64 D.t.vars, .seq false 3 (D.t.rows.map enR), I64 D.t.dep, .seq false 1 (irow D.on), .seq true 1 (irow D.ats), BL true]
def begW (cs : List (List Int)) : DW := ⟨(putJ cs cs.length).A, newT 6, ⟨[], [], [], 0, []⟩, (putJ cs cs.length).a, ⟨6, [], 0⟩, [], (putJ cs cs.length).ats⟩
def bg10Sch : Sch :=
  let s0 : Sch := .fork [(8, .take 9 (.take 10 (.take 11 (.take 12 (.take 13 .done)))))]
  let s1 : Sch := .fork [(7, s0)]
  let s2 : Sch := .fork [(1, s0)]
  let s3 : Sch := .fork [(1, s1), (7, s2)]
  .take 0 (.take 2 (.take 3 (.take 4 (.take 5 (.take 6 s3)))))
def bg11Sch : Sch :=
  let s0 : Sch := .fork [(14, .take 15 (.take 16 .done))]
  let s1 : Sch := .fork [(13, s0)]
  let s2 : Sch := .fork [(8, .take 9 (.take 10 (.take 11 (.take 12 s0))))]
  let s3 : Sch := .fork [(8, .take 9 (.take 10 (.take 11 (.take 12 s1)))), (13, s2)]
  let s4 : Sch := .fork [(7, s2)]
  let s5 : Sch := .fork [(7, s3), (13, s4)]
  let s6 : Sch := .fork [(1, s2)]
  let s7 : Sch := .fork [(1, s3), (13, s6)]
  let s8 : Sch := .fork [(1, s4), (7, s6)]
  let s9 : Sch := .fork [(1, s5), (7, s7), (13, s8)]
  .take 0 (.take 2 (.take 3 (.take 4 (.take 5 (.take 6 s9)))))
def zW : List SV := [.pv (.lit (.pointer none)), .pv (.lit (.pointer none)), .pv (.lit (.pointer none)), .pv (.lit (.slice none 0 0)), .pv (.lit (.int .i64 0)), .pv (.lit (.int .i64 0)), .pv (.lit (.slice none 0 0)), .pv (.lit (.int .i64 0)), .pv (.lit (.slice none 0 0)), .pv (.lit (.slice none 0 0)), .pv (.lit (.bool false))]
def bgB (ba bt : Nat) (x : PJ) : List SV := [.pv (.ptr ba 0), .pv (.ptr bt 0), .pv (.lit (.pointer none)), .pv (.seq false 5 (x.a.rows.map roR)), .pv (I64 x.a.size), .pv (I64 6), .pv (.seq false 3 []), .pv (I64 0), .pv (.seq false 1 []), .own true 1 (irow x.ats), .pv (BL true)]
def bgH (h : List (List SV)) (x : PJ) : List (List SV) := h ++ [zW, arB x.A, bgB (h.length + 1) (h.length + 3) x, trB (newT 6)]
def bgT (h : List (List SV)) (cs : List (List Int)) (y : Nat) : List (Nat × SV) :=
  [(0, .pv (.seq false 1 (cs.map crowF))), (2, .pv (.ptr h.length 0)), (3, .pv (.ptr (h.length + 2) 0)), (4, .pv (.ptr (h.length + 3) 0)), (6, .pv (I64 y))]
theorem belowH_bgH {h : List (List SV)} (hh : belowH h.length h) (x : PJ) : belowH (h.length + 4) (bgH h x) :=
  belowH_app (belowH_up (by omega) _ hh) ⟨⟨trivial, trivial, trivial, trivial, trivial, trivial, trivial, trivial, trivial, trivial, trivial, trivial⟩, belowC_arB _ _, ⟨by show _ < _; omega, by show _ < _; omega, trivial, belowR_roR _ _, trivial, trivial, trivial, trivial, trivial, belowR_irow _ _, trivial, trivial⟩, belowC_trB _ _, trivial⟩
theorem bgH_len (h : List (List SV)) (x : PJ) : (bgH h x).length = h.length + 4 := by simp [bgH]
theorem Weak.bg4 {k0 : Nat} {t t1 : List (Nat × SV)} {h : List (List SV)} {a b c d e : List SV} {x : PJ} (hh : belowH h.length h) (hk : k0 ≤ h.length) (ht : wkL t t1) (hd : [a, b, c, d] = [zW, arB x.A, bgB (h.length + 1) (h.length + 3) x, trB (newT 6)]) (hb : belowT (h.length + 4) t1) : Weak k0 ⟨t, h ++ [a, b, c, d, e]⟩ ⟨t1, bgH h x⟩ := by
  refine Weak.to ht ?_ (by rw [bgH_len]; omega) (by rw [bgH_len]; exact hb) (by rw [bgH_len]; exact belowH_bgH hh x)
  rw [bgH_len, bgH, ← hd, List.take_append, List.take_of_length_le (by omega)]
  have : h.length + 4 - h.length = 4 := by omega
  rw [this]; rfl
theorem belowT_bgT (h : List (List SV)) (cs : List (List Int)) (y : Nat) : belowT (h.length + 4) (bgT h cs y) := by
  refine ⟨belowR_crowF _ _, ?_, ?_, ?_, trivial, trivial⟩
  · show _ < _; omega
  · show _ < _; omega
  · show _ < _; omega
set_option maxRecDepth 16000 in
set_option maxHeartbeats 400000 in
theorem wbegun_ok (h : List (List SV)) (cs : List (List Int)) (hc : fewC cs) :
    AMut Tryz.prog 8 [.seq false 1 (cs.map crowF)] h (fun r h' => (∃ x y, h' = h ++ [x, arB (begW cs).A, y, trB (begW cs).T, wtB (h.length + 1) (h.length + 3) ⟨[], [], [], 0, []⟩]) ∧
      r = .pv (dwA (h.length + 1) (h.length + 3) (h.length + 4) (begW cs))) := by
  refine AMut.below (by kernel_rfl) fun hh => ?_
  refine amutX [10, 11, 18] [.cell 2 _] hmo Tryz.func8 (by kernel_rfl) rfl rfl (by kernel_rfl) (Nat.le_of_ble_eq_true rfl) ?_
  simp
  refine CallK.introM (anew_ok _) (by simp) ?_
  rintro _ _ ⟨rfl, rfl⟩
  simp
  refine CallK.introM (tnew_ok _ 6 (by omega)) (by simp) ?_
  rintro _ _ ⟨rfl, rfl⟩
  simp
  refine CallK.introM (rfNew_ok _) (by simp) ?_
  rintro _ _ ⟨rfl, rfl⟩
  simp [rtV]
  refine ALoop.intro (S := fun (y : Nat) => ⟨bgT h cs y, bgH h (putJ cs y)⟩) (fun y => y ≤ cs.length) (fun y => cs.length - y) 0 ?_ (Nat.zero_le _) ?_
  · refine (Weak.keep (t1 := [(0, .pv (.seq false 1 (cs.map crowF))), (2, .pv (.ptr h.length 0)), (3, .pv (.ptr (h.length + 2) 0)), (4, .pv (.ptr (h.length + 3) 0)), (6, .pv (I64 0))]) (by simp) rfl).trans ?_
    refine (Weak.nilCell (b := h.length + 1) (k := 0) (xs := arZ) 1 true (by simp) (by simp [arZ])).trans ?_
    refine (Weak.nilCell (b := h.length + 2) (k := 9) (xs := [.pv (.ptr (h.length + 1) 0), .pv (.ptr (h.length + 3) 0), .pv (.lit (.pointer none)), .pv (.lit (.slice none 0 0)), .pv (.lit (.int .i64 0)), .pv (I64 6), .pv (.seq false 3 []), .pv (I64 0), .pv (.lit (.slice none 0 0)), .pv (.lit (.slice none 0 0)), .pv (.lit (.bool true))]) 1 true (by simp) (by simp)).trans ?_
    refine (Weak.nilCell (b := h.length + 3) (k := 1) (xs := [.own true 4 (List.map mkR (newT 6).marks), .pv (.lit (.slice none 0 0)), .pv (.lit (.slice none 0 0)), .pv (BL true)]) 1 true (by simp) (by simp)).trans ?_
    refine (Weak.nilCell (b := h.length + 3) (k := 2) (xs := [.own true 4 (List.map mkR (newT 6).marks), .own true 1 [], .pv (.lit (.slice none 0 0)), .pv (BL true)]) 1 true (by simp) (by simp)).trans ?_
    refine Weak.le ?_ ?_
    · simp [bgT]
    · simp [bgH, arZ]
      refine wkHs_app h ?_
      simp [zW, bgB, arB, trB, putJ, irow, newT, mapE]
  intro y hy
  by_cases c : y < cs.length
  · have hok := putL_ok hc y hy
    have hcl := hc.2 _ (List.getElem_mem c)
    have hc1 := hc.1
    have hce : cs.getD y [] = cs[y] := by rw [List.getD_eq_getElem?_getD, List.getElem?_eq_getElem (by omega)]; rfl
    have hnx : putJ cs (y + 1) = putJ1 (putJ cs y) cs[y] ((y + 1 : Nat) : Int) := by rw [← hce]; rfl
    have hw : w64 ((y : Int) + 1) = ((y + 1 : Nat) : Int) := by rw [w64_id (by omega) (by omega)]; omega
    have hlen := hok.len
    have hrl := hok.rlen
    have hsz := hok.rel.size
    have hal := putJ_len cs y
    obtain ⟨hJ1, hJ2⟩ := putJ_L cs y
    rw [← hJ1] at hlen hsz
    rw [← hJ2] at hrl hsz
    have hid : ((y + 1 : Nat) : Int) = (y : Int) + 1 := by omega
    rw [hid] at hnx
    clear hJ1 hJ2
    have hap := fun h' b hb => aput_ok h' b (putJ cs y).A hb ((y : Int) + 1) cs[y] (by omega) (by omega)
    have hrp := fun h' => raPut_ok h' (putJ cs y).a ((y : Int) + 1) cs[y] (by omega) (by omega)
    generalize putJ cs y = x at *
    generalize hcc : cs[y] = cy at *
    obtain ⟨E, hE⟩ : ∃ E, putEA ((y : Int) + 1) cy = E := ⟨_, rfl⟩
    simp [bgT, c]
    refine AAnyD.meet bg10Sch ⟨[(0, .pv (.seq false 1 (cs.map crowF))), (2, .pv (.ptr h.length 0)), (3, .pv (.ptr (h.length + 2) 0)), (4, .pv (.ptr (h.length + 3) 0)), (6, .pv (I64 y)), (7, .pv (I64 (if E = 0 then x.A.row.length else 0))), (8, .pv (I64 E))], bgH h ⟨putAr x.A ((y : Int) + 1) cy, x.a, x.ats⟩⟩ (by kernel_rfl) ?_ ?_
    · simp [bg10Sch, bgH, bgB, c, crowF, hcc, hw]
      have hb0 : (bgH h x)[h.length + 1]? = some (arB x.A) := by simp [bgH]
      have ha := hap _ _ hb0
      simp [bgH, bgB] at ha
      and_intros
      all_goals
        refine CallB.intro ha (by trivial) ?_
        rintro _ _ ⟨rfl, rfl⟩
        simp [hE]
        exact Weak.keep (by simp) rfl
    · simp [bgH, bgB]
      refine AAnyD.meet bg11Sch ⟨[(0, .pv (.seq false 1 (cs.map crowF))), (2, .pv (.ptr h.length 0)), (3, .pv (.ptr (h.length + 2) 0)), (4, .pv (.ptr (h.length + 3) 0)), (6, .pv (I64 y)), (7, .pv (I64 (if E = 0 then x.A.row.length else 0))), (8, .pv (I64 E)), (9, .pv (.ptr (h.length + 4) 0)), (10, .pv (I64 (putQA x.a ((y : Int) + 1) cy))), (11, .pv (I64 E))], bgH h ⟨putAr x.A ((y : Int) + 1) cy, x.a, x.ats⟩ ++ [[.pv (.seq false 5 ((putRA x.a ((y : Int) + 1) cy).rows.map roR)), .pv (I64 (putRA x.a ((y : Int) + 1) cy).size)]]⟩ (by kernel_rfl) ?_ ?_
      · simp [bg11Sch, bgH, bgB, c, crowF, hcc, hw]
        and_intros
        all_goals
          refine CallK.introM (hrp _) ?_ ?_
          · simp
          rintro _ _ ⟨rfl, rfl⟩
          simp [hE, raV]
          exact Weak.keep (by simp) rfl
      · have hq : putQA x.a ((y : Int) + 1) cy = if E = 0 then (x.A.row.length : Int) else 0 := by unfold putQA; rw [hE, hsz]
        have hnA : (putJ cs (y + 1)).A = putAr x.A ((y : Int) + 1) cy := by rw [hnx]; rfl
        have hna : (putJ cs (y + 1)).a = putRA x.a ((y : Int) + 1) cy := by rw [hnx]; rfl
        by_cases e0 : E = 0
        · subst e0
          rw [if_pos rfl] at hq
          have hnt : (putJ cs (y + 1)).ats = x.ats ++ [(x.A.row.length : Int)] := by rw [hnx, ← hq]; exact if_pos hE
          simp [bgH, bgB, hq, c, crowF, hcc]
          refine ⟨by omega, ?_⟩
          exact ⟨y + 1, by dsimp only; omega, by dsimp only; omega, Weak.bg4 hh (Nat.le_refl _) (by simp [hw]) (by simp [bgB, hnA, hna, hnt, irow]) (belowT_bgT h cs _)⟩
        · rw [if_neg e0] at hq
          have hnt : (putJ cs (y + 1)).ats = x.ats := by rw [hnx]; exact if_neg (fun h => e0 (hE ▸ h))
          simp [bgH, bgB, hq, c, crowF, hcc, e0]
          exact ⟨y + 1, by dsimp only; omega, by dsimp only; omega, Weak.bg4 hh (Nat.le_refl _) (by simp [hw]) (by simp [bgB, hnA, hna, hnt]) (belowT_bgT h cs _)⟩
  · have hye : y = cs.length := by omega
    subst hye
    have hB : begW cs = ⟨(putJ cs cs.length).A, newT 6, ⟨[], [], [], 0, []⟩, (putJ cs cs.length).a, ⟨6, [], 0⟩, [], (putJ cs cs.length).ats⟩ := rfl
    generalize begW cs = D at *
    generalize putJ cs cs.length = x at *
    subst hB
    simp [bgT, bgH, bgB]
    refine CallB.intro (wnew_ok _ _ _) (by simp) ?_
    rintro _ _ ⟨rfl, rfl⟩
    simp
    refine ASem.to ⟨[(2, .pv (.ptr h.length 0)), (3, .pv (.ptr (h.length + 2) 0))], h ++ [zW, arB x.A, [.pv (.ptr (h.length + 1) 0), .pv (.ptr (h.length + 3) 0), .pv (.ptr (h.length + 4) 0), .pv (.seq false 5 (x.a.rows.map roR)), .pv (I64 x.a.size), .pv (I64 6), .pv (.seq false 3 []), .pv (I64 0), .pv (.seq false 1 []), .own true 1 (irow x.ats), .pv (BL true)], trB (newT 6), wtB (h.length + 1) (h.length + 3) ⟨[], [], [], 0, []⟩]⟩ ?_ (ASem.ops ?_)
    · refine (Weak.keep (t1 := [(2, .pv (.ptr h.length 0)), (3, .pv (.ptr (h.length + 2) 0))]) (by simp) rfl).trans ?_
      refine (Weak.nilCell (b := h.length + 4) (k := 6) 1 true (xs := [.pv (.ptr (h.length + 1) 0), .pv (.ptr (h.length + 3) 0), .omap true [], .omap true [], .omap true [], .pv (I64 0), .pv (.lit (.slice none 0 0))]) (by simp) (by simp)).trans ?_
      refine Weak.le ?_ ?_
      · simp
      · simp [wtB, irow, mapE]
        refine wkHs_app h ?_
        simp [wkCs_refl]
    simp [zW]
    rfl
end Go.AX
