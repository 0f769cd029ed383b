/-
  OperPairs: plain laws.
  OperPairs: the walk.
-/
import Derived.Test.YtphbmbhmhbchbaaS4AxEvO
import Derived.Test.YtphbmbhmhbchbaaS4AxEvE
namespace Go.AX
open Go.Proofs Go.Maps
set_option linter.unusedSimpArgs false

/-- The next event of a process. -/
theorem next_is {l : List Ev} {i : Nat} : ∀ (n m : Nat), nextTo l i n = (m : Int) → i < m ∧ m < n ∧ (l.getD m default).p = (l.getD i default).p ∧ nextTo l i m < 0
  | 0, m, h => by simp only [nextTo] at h; omega
  | n + 1, m, h => by
    rw [nextTo] at h
    by_cases c : 0 ≤ nextTo l i n
    · rw [if_pos c] at h
      obtain ⟨h1, h2, h3, h4⟩ := next_is n m h
      exact ⟨h1, by omega, h3, h4⟩
    · rw [if_neg c] at h
      by_cases d : i < n ∧ (l.getD n default).p = (l.getD i default).p
      · rw [if_pos d] at h
        have : n = m := by omega
        subst this
        exact ⟨d.1, by omega, d.2, by omega⟩
      · rw [if_neg d] at h; omega
theorem next_le {l : List Ev} {i k : Nat} (hk : i < k) (hp : (l.getD k default).p = (l.getD i default).p) : ∀ n : Nat, k < n → 0 ≤ nextTo l i n ∧ nextTo l i n ≤ (k : Int)
  | 0, h => by omega
  | n + 1, h => by
    rw [nextTo]
    by_cases c : 0 ≤ nextTo l i n
    · rw [if_pos c]
      refine ⟨c, ?_⟩
      by_cases e : k < n
      · exact (next_le hk hp n e).2
      · have := (nextTo_lt l i n).2; omega
    · rw [if_neg c]
      by_cases e : k < n
      · exact absurd (next_le hk hp n e).1 c
      · have : k = n := by omega
        subst this
        rw [if_pos ⟨hk, hp⟩]; omega
theorem next_back {l : List Ev} {i m n : Nat} (hE : ∀ j, j < n → evErr l j = 0) (hw : (l.getD i default).w = 1) (h : nextTo l i n = (m : Int)) : (l.getD m default).w = 2 := by
  obtain ⟨h1, h2, h3, h4⟩ := next_is n m h
  have h5 := last_of_next (l := l) m h1 h4
  obtain ⟨_, _, ho⟩ := evErr_zero (hE m h2)
  apply ho.1
  rw [lk_opTo, h3, h5, if_pos (by omega), Int.toNat_natCast, hw]
  rfl

theorem cnt_of {l : List Ev} : ∀ n, (∀ j, j < n → evErr l j = 0) → (ofOpen l n).1.length + (ofOpen l n).1.countP (fun o => decide (0 ≤ o.e)) = n
  | 0, _ => by simp [ofOpen]
  | n + 1, he => by
    have ih := cnt_of n (fun j hj => he j (by omega))
    obtain ⟨h1, h2⟩ := of_same n (fun j hj => he j (by omega))
    obtain ⟨_, hw, ho⟩ := evErr_zero (he n (by omega))
    obtain ⟨x, hx⟩ : ∃ x, l.getD n default = x := ⟨_, rfl⟩
    rw [hx] at hw ho
    rw [ofOpen]
    simp only [hx]
    rcases hw with hw | hw
    · rw [if_pos hw]
      dsimp only
      rw [List.length_append, List.countP_append]
      simp
      omega
    · rw [if_neg (by omega)]
      dsimp only
      have hyes : opnS l x.p n = true := (opn_iff l x.p n).1 (ho.2 hw)
      obtain ⟨j, h3, h4⟩ := h2 x.p hyes
      obtain ⟨hj, h5⟩ := List.getElem?_eq_some_iff.1 h4
      have hlen : (ofOpen l n).1.length = (callsTo l n).length := by rw [h1, List.length_map]
      have hl0 : 0 ≤ lastTo l x.p n := by
        unfold opnS at hyes; simp at hyes; exact hyes.1
      obtain ⟨m, hm⟩ : ∃ m : Nat, lastTo l x.p n = (m : Int) := ⟨(lastTo l x.p n).toNat, by omega⟩
      rw [hm, Int.toNat_natCast] at h5
      obtain ⟨hmn, hmp⟩ := lastTo_p l x.p n m hm
      have hnm : nextTo l m n < 0 := next_of_last n hmn (by rw [hmp]; exact hm)
      have hj2 : j < (ofOpen l n).1.length := by omega
      have hoj : (ofOpen l n).1[j] = opAt l n m := by
        have : (ofOpen l n).1[j]? = some (opAt l n m) := by rw [h1, List.getElem?_map, h4, hm]; rfl
        exact (List.getElem?_eq_some_iff.1 this).2
      rw [h3]
      simp only [Option.getD_some, Int.toNat_natCast, List.length_set]
      rw [List.countP_set (by exact hj2), hoj]
      have e1 : decide (0 ≤ (opAt l n m).e) = false := by
        unfold opAt; simp; omega
      rw [e1]
      simp
      omega
theorem ops_entry {l : List Ev} {N : Nat} (hN : N ≤ l.length) (hE : ∀ j, j < N → evErr l j = 0) {c : Nat} (hc : c < N) (hw : (l.getD c default).w = 1) :
    l.getD c default = ⟨1, (opAt l N c).p, (opAt l N c).k⟩ ∧ ((opAt l N c).e = -1 ∧ (opAt l N c).r = -1 ∨ ∃ m : Nat, (opAt l N c).e = (m : Int) ∧ c < m ∧ m < N ∧ l.getD m default = ⟨2, (opAt l N c).p, (opAt l N c).r⟩) := by
  refine ⟨ev_ext _ _ hw rfl rfl, ?_⟩
  by_cases h : 0 ≤ nextTo l c N
  · right
    obtain ⟨m, hm⟩ : ∃ m : Nat, nextTo l c N = (m : Int) := ⟨(nextTo l c N).toNat, by omega⟩
    obtain ⟨h1, h2, h3, h4⟩ := next_is N m hm
    refine ⟨m, hm, h1, h2, ev_ext _ _ (next_back hE hw hm) h3 ?_⟩
    unfold opAt resTo
    rw [hm, if_pos (by omega), Int.toNat_natCast]
  · left
    have := (nextTo_lt l c N).1
    unfold opAt resTo
    rw [if_neg h]
    exact ⟨by dsimp only; omega, rfl⟩
theorem alone_op {l : List Ev} {N : Nat} (hN : N ≤ l.length) (hl : N ≤ 9999) (hE : ∀ j, j < N → evErr l j = 0) {c : Nat} (hc : c < N) (hw : (l.getD c default).w = 1) : aloneS (opAt l N c) = 0 := by
  obtain ⟨ha, _, _⟩ := evErr_zero (hE c hc)
  obtain ⟨h1, h2⟩ := ops_entry hN hE hc hw
  rw [h1] at ha
  unfold evAlone at ha
  have hs : (opAt l N c).s = (c : Int) := rfl
  generalize opAt l N c = o at *
  obtain ⟨p, k, s, e, r⟩ := o
  dsimp only at h1 h2 ha hs
  subst hs
  have hp : ¬ (p < 1 ∨ 1000 < p) := fun h => by
    rw [if_neg (by omega), if_pos h] at ha; cases ha
  rw [if_neg (by omega), if_neg hp] at ha
  have hk : ¬ (k < 0 ∨ 64 ≤ k) := fun h => by
    rw [if_pos ⟨rfl, h⟩] at ha; cases ha
  unfold aloneS
  dsimp only
  rw [if_neg (by omega), if_neg (by omega)]
  have : endedS ⟨p, k, (c : Int), e, r⟩ = true := by
    unfold endedS
    dsimp only
    rcases h2 with ⟨h3, h4⟩ | ⟨m, h3, h4, h5, h6⟩
    · rw [if_pos h3, h4]; rfl
    · obtain ⟨hb, _, _⟩ := evErr_zero (hE m h5)
      rw [h6] at hb
      unfold evAlone at hb
      dsimp only at hb
      rw [if_neg (by omega), if_neg hp, if_neg (by omega)] at hb
      have hr : ¬ (r < 0 ∨ 1000000 < r) := fun h => by
        rw [if_pos ⟨rfl, h⟩] at hb; cases hb
      rw [if_neg (by omega)]
      simp
      omega
  rw [this]; rfl
theorem pair_ops {l : List Ev} {N : Nat} (hE : ∀ j, j < N → evErr l j = 0) {a b : Nat} (hab : a < b) (hb : b < N) (hwa : (l.getD a default).w = 1) (hwb : (l.getD b default).w = 1) :
    badS (opAt l N a) (opAt l N b) = false ∧ openS (opAt l N a) (opAt l N b) = false := by
  have hna : nextTo l a N ≠ (b : Int) := fun h => by
    have := next_back hE hwa h; omega
  have hlb := nextTo_lt l b N
  have hla := nextTo_lt l a N
  constructor
  · unfold badS meetsS opAt
    dsimp only
    have e1 : decide ((b : Int) ≤ (a : Int)) = false := by simp; omega
    have e2 : decide ((a : Int) = (b : Int)) = false := by simp; omega
    have e3 : decide (nextTo l a N = (b : Int)) = false := by simpa using hna
    have e4 : decide ((a : Int) = nextTo l b N) = false := by
      simp only [decide_eq_false_iff_not]
      intro h
      obtain ⟨m, hm⟩ : ∃ m : Nat, nextTo l b N = (m : Int) := ⟨a, h.symm⟩
      have := (next_is N m hm).1
      omega
    have e5 : (decide (nextTo l a N = nextTo l b N) && !decide (nextTo l a N = -1)) = false := by
      by_cases h : nextTo l a N = -1
      · simp [h]
      · have : decide (nextTo l a N = nextTo l b N) = false := by
          simp only [decide_eq_false_iff_not]
          intro he
          obtain ⟨m, hm⟩ : ∃ m : Nat, nextTo l a N = (m : Int) := ⟨(nextTo l a N).toNat, by omega⟩
          obtain ⟨h1, h2, h3, h4⟩ := next_is N m hm
          obtain ⟨h5, h6, h7, h8⟩ := next_is N m (he.symm.trans hm)
          have := next_le (l := l) (i := a) (k := b) hab (h7.symm.trans h3) m h5
          omega
        rw [this]; rfl
    rw [e1, e2, e3, e4, e5]; rfl
  · unfold openS aheadS opAt
    dsimp only
    by_cases hp : (l.getD a default).p = (l.getD b default).p
    · have h1 := next_le (l := l) (i := a) (k := b) hab hp.symm N hb
      have e1 : decide (nextTo l a N ≥ 0) = true := by simp; omega
      have e2 : decide (nextTo l a N < (b : Int)) = true := by simp; omega
      rw [e1, e2]; simp
    · rw [decide_eq_false hp]; rfl
theorem calls_lt (l : List Ev) (n : Nat) : (callsTo l n).Pairwise (· < ·) := List.Pairwise.filter _ List.pairwise_lt_range
theorem chk_ops {l : List Ev} (hl : l.length ≤ 5000) (hE : ∀ j, j < l.length → evErr l j = 0) : chk (refOps l l.length) = (((refOps l l.length).length : Int), 0) := by
  have hlen := refOps_len l l.length
  have hz : ∀ i, i < (refOps l l.length).length → errAt (refOps l l.length) i = 0 := by
    intro i hi
    unfold errAt stepE
    have hic : i < (callsTo l l.length).length := by unfold refOps at hi; simpa using hi
    have hg : (refOps l l.length).getD i default = opAt l l.length (callsTo l l.length)[i] := by
      unfold refOps; simp [hic]
    obtain ⟨hcn, hcw⟩ := mem_callsTo.1 (List.getElem_mem hic)
    rw [hg, if_neg (by simpa using alone_op (Nat.le_refl _) (by omega) hE hcn hcw)]
    have key : ∀ a ∈ (refOps l l.length).take i, badS a (opAt l l.length (callsTo l l.length)[i]) = false ∧ openS a (opAt l l.length (callsTo l l.length)[i]) = false := by
      intro a ha
      obtain ⟨j, hj, rfl⟩ := List.getElem_of_mem ha
      rw [List.length_take] at hj
      have hjc : j < (callsTo l l.length).length := by omega
      have : ((refOps l l.length).take i)[j] = opAt l l.length (callsTo l l.length)[j] := by
        rw [List.getElem_take]
        apply List.getElem_map
      rw [this]
      obtain ⟨hjn, hjw⟩ := mem_callsTo.1 (List.getElem_mem hjc)
      exact pair_ops hE (List.pairwise_iff_getElem.1 (calls_lt l l.length) j i hjc hic (by omega)) hcn hjw hcw
    have e1 : ((refOps l l.length).take i).any (fun a => badS a (opAt l l.length (callsTo l l.length)[i])) = false := by
      rw [List.any_eq_false]; intro a ha; rw [(key a ha).1]; simp
    have e2 : ((refOps l l.length).take i).any (fun a => openS a (opAt l l.length (callsTo l l.length)[i])) = false := by
      rw [List.any_eq_false]; intro a ha; rw [(key a ha).2]; simp
    rw [e1, e2]; rfl
  unfold chk
  rw [if_neg (by omega)]
  have : (List.range (refOps l l.length).length).find? (fun i => decide (errAt (refOps l l.length) i ≠ 0)) = none := by
    rw [List.find?_eq_none]
    intro i hi
    rw [hz i (List.mem_range.1 hi)]; simp
  rw [this]
theorem pend_count {l : List Ev} : (pendTo (refOps l l.length) (refOps l l.length).length).length = (openL l).length := by
  have h1 : ∀ (xs : List Op5) (n : Nat), n ≤ xs.length → (pendTo xs n).length = (xs.take n).countP (fun o => decide (o.e = -1)) := by
    intro xs n
    induction n with
    | zero => intro _; rfl
    | succ n ih =>
      intro hn
      rw [pendTo_succ xs (by omega), List.take_add_one, List.countP_append]
      have e : xs[n]?.toList = [xs[n]] := by rw [List.getElem?_eq_getElem (by omega)]; rfl
      rw [e, List.countP_singleton]
      have := ih (by omega)
      by_cases c : xs[n].e = -1
      · rw [if_pos c, List.length_append, this]; simp [c]
      · rw [if_neg c, this]; simp [c]
  rw [h1 _ _ (Nat.le_refl _), List.take_length, ← open_same, (refOpTo_perm l l.length).length_eq, List.length_map]
  unfold refOps
  rw [List.countP_map]
  unfold callsTo
  rw [List.countP_filter, List.countP_eq_length_filter]
  congr 1
  apply List.filter_congr
  intro i hi
  rw [List.mem_range] at hi
  unfold isOp
  show (decide ((opAt l l.length i).e = -1) && decide ((l.getD i default).w = 1)) = _
  by_cases c : (l.getD i default).w = 1
  · have h5 : decide ((opAt l l.length i).e = -1) = decide (lastTo l (l.getD i default).p l.length = (i : Int)) := by
      show decide (nextTo l i l.length = -1) = _
      have := (nextTo_lt l i l.length).1
      by_cases d : nextTo l i l.length < 0
      · have := last_of_next (l := l) l.length hi d
        rw [decide_eq_true this, decide_eq_true (by omega)]
      · rw [decide_eq_false (by omega), decide_eq_false (fun h => d (next_of_last l.length hi h))]
    rw [h5, decide_eq_true c]; simp
  · rw [decide_eq_false c]; simp

end Go.AX

namespace Go.AX
open Go.Proofs Go.Maps
set_option linter.unusedSimpArgs false

theorem cnt_step (ops : List Op5) {i : Nat} (h : i < ops.length) : (ops.take (i + 1)).countP (fun o => decide (0 ≤ o.e)) = (ops.take i).countP (fun o => decide (0 ≤ o.e)) + if 0 ≤ ops[i].e then 1 else 0 := by
  rw [List.take_add_one, List.countP_append, List.getElem?_eq_getElem h]
  show _ + List.countP _ [ops[i]] = _
  rw [List.countP_singleton]
  by_cases c : 0 ≤ ops[i].e <;> simp [c]
set_option maxRecDepth 16000 in
theorem operPairs_ok (l : List Ev) (hw : ∀ x ∈ l, wfI x.p) : APure Try.prog 14 [evV l] (fun r => r = .pv (BL true)) := by
  refine apure1 hmo Try.func14 (by kernel_rfl) rfl rfl (by kernel_rfl) (Nat.le_of_ble_eq_true rfl) ?_
  by_cases c1 : 100 < l.length
  · have c1' : 100 < (l.length : Int) := by omega
    simp [evV, c1, c1']
    exact CallK.intro opAwake_ok (by simp) (by simp)
  have c1' : ¬ 100 < (l.length : Int) := by omega
  have k1 := of_ok l (by omega)
  by_cases c : (evChk l).2 = 0
  rotate_left
  · rw [ofV, if_neg c] at k1
    generalize evChk l = ec at *
    simp only [evV] at k1
    simp [evV, c1, c1']
    refine CallK.intro k1 (by simp) ?_
    simp [c]
    refine CallG.intro (r := .pv (BL true)) (fun _ => opAwake_ok) (by simp) ?_
    simp
  have hE : ∀ j, j < l.length → evErr l j = 0 := by
    have c' := c
    unfold evChk at c'
    rw [if_neg (by omega)] at c'
    exact fun j hj => evGo_okI l.length 0 c' j (Nat.zero_le _) (by omega)
  have ho := (of_same (l := l) l.length hE).1
  have hcnt := cnt_of (l := l) l.length hE
  have hchk := chk_ops (l := l) (by omega) hE
  have hpend := pend_count (l := l)
  rw [ofV, if_pos c, c] at k1
  have hr : (callsTo l l.length).map (opAt l l.length) = refOps l l.length := rfl
  rw [ho, hr] at k1 hcnt
  have hl2 := refOps_len l l.length
  have k2 := chk_okC (refOps l l.length) (by omega)
  rw [hchk] at k2
  have k3 := pending_ok (refOps l l.length) (by omega)
  have k4 := openE_ok l hw (by omega)
  have hent : ∀ j (h : j < (refOps l l.length).length), ∃ c : Nat, c < l.length ∧ ((refOps l l.length)[j]).s = (c : Int) ∧ l.getD c default = ⟨1, ((refOps l l.length)[j]).p, ((refOps l l.length)[j]).k⟩ ∧ (((refOps l l.length)[j]).e = -1 ∧ ((refOps l l.length)[j]).r = -1 ∨ ∃ m : Nat, ((refOps l l.length)[j]).e = (m : Int) ∧ c < m ∧ m < l.length ∧ l.getD m default = ⟨2, ((refOps l l.length)[j]).p, ((refOps l l.length)[j]).r⟩) := by
    intro j h
    have hj : j < (callsTo l l.length).length := by simpa [refOps] using h
    have e : (refOps l l.length)[j] = opAt l l.length (callsTo l l.length)[j] := List.getElem_map _
    rw [e]
    obtain ⟨h1, h2⟩ := mem_callsTo.1 (List.getElem_mem hj)
    obtain ⟨h3, h4⟩ := ops_entry (Nat.le_refl _) hE h1 h2
    exact ⟨_, h1, rfl, h3, h4⟩
  have hpl := pendTo_length (refOps l l.length) (refOps l l.length).length
  generalize pendTo (refOps l l.length) (refOps l l.length).length = pd at *
  generalize openL l = op at *
  generalize refOps l l.length = ops at *
  simp only [ovec, evV] at k1 k2 k3 k4
  simp [evV, c1, c1']
  refine CallK.intro k1 (by simp) ?_
  simp
  refine CallK.intro k2 (by simp) ?_
  simp
  refine CallG.intro (fun _ => k3) (by simp) ?_
  simp
  refine CallG.intro (fun _ => k4) (by simp) ?_
  simp [irow, hpend]
  refine ALoop.intro (S := fun (i : Nat) => ⟨[(0, .pv (evV l)), (3, .pv (.seq true 5 (ops.map orow))), (7, .pv (I64 ((i + (ops.take i).countP (fun o => decide (0 ≤ o.e)) : Nat) : Int))), (8, .pv (I64 i))], []⟩) (fun i => i ≤ ops.length) (fun i => ops.length - i) 0 ?_ (Nat.zero_le _) ?_
  · exact Weak.to (by simp [evV]) rfl (by simp) (by simp [evV]) (by simp)
  · intro i hi
    by_cases ci : i < ops.length
    · have hw : w64 ((i : Int) + 1) = ((i + 1 : Nat) : Int) := by rw [w64_id (by omega) (by omega)]; omega
      have hstep := cnt_step ops ci
      have hle : (ops.take i).countP (fun o => decide (0 ≤ o.e)) ≤ i := by
        refine Nat.le_trans (List.countP_le_length) ?_
        rw [List.length_take]; omega
      obtain ⟨s, hs, h1, h2, h3⟩ := hent i ci
      obtain ⟨o, ho⟩ : ∃ o, ops[i] = o := ⟨_, rfl⟩
      rw [ho] at h1 h2 h3 hstep
      have hls : l[s] = ⟨1, o.p, o.k⟩ := by rw [← h2]; simp [hs]
      obtain ⟨p, k, s', e, r⟩ := o
      dsimp only at h1 h2 h3 hstep hls
      subst h1
      rcases h3 with ⟨rfl, rfl⟩ | ⟨m, rfl, hm1, hm2, hm3⟩
      · rw [if_neg (by omega)] at hstep
        have hw2 : w64 ((i : Int) + ((ops.take i).countP (fun o => decide (0 ≤ o.e)) : Nat) + 1) = ((i + 1 + (ops.take (i + 1)).countP (fun o => decide (0 ≤ o.e)) : Nat) : Int) := by rw [w64_id (by omega) (by omega)]; omega
        have hll : (-1 : Int) < l.length := by omega
        simp [evV, evR, orow, ci, ho, hs, hls]
        exact ⟨hll, fun _ => ⟨i + 1, by (try dsimp only); omega, by (try dsimp only); omega, Weak.to (by simp [hw, hw2, evV]) rfl (by simp) (by simp [evV]) (by simp)⟩⟩
      · have hlm : l[m] = ⟨2, p, r⟩ := by rw [← hm3]; simp [hm2]
        rw [if_pos (by omega)] at hstep
        have hw1 : w64 ((i : Int) + ((ops.take i).countP (fun o => decide (0 ≤ o.e)) : Nat) + 1) = ((i : Int) + ((ops.take i).countP (fun o => decide (0 ≤ o.e)) : Nat) + 1) := by rw [w64_id (by omega) (by omega)]
        have hw2 : w64 ((i : Int) + ((ops.take i).countP (fun o => decide (0 ≤ o.e)) : Nat) + 1 + 1) = ((i + 1 + (ops.take (i + 1)).countP (fun o => decide (0 ≤ o.e)) : Nat) : Int) := by rw [w64_id (by omega) (by omega)]; omega
        simp [evV, evR, orow, ci, ho, hs, hls, hm2, hlm]
        exact ⟨i + 1, by (try dsimp only); omega, by (try dsimp only); omega, Weak.to (by simp [hw, hw1, hw2, evV]) rfl (by simp) (by simp [evV]) (by simp)⟩
    · have : i = ops.length := by omega
      subst this
      rw [List.take_length, hcnt]
      simp [evV]
      refine CallG.intro (r := .pv (BL true)) (fun _ => opAwake_ok) (by simp) ?_
      simp

end Go.AX
