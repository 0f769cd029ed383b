/-
  Contracts: lrat.Checker: a step.
  Contracts: lrat.New, lrat.Check.
  Contracts: trim: shown, Plain, empty.
  Contracts: trim: what is needed.
  Contracts: the document's checker: what it holds.
  Contracts: the document's checker: there, rows.
  Contracts: the document's checker: drop.
  Contracts: the document's Show with candidates.
  Contracts: the document's check of one step.
-/
import Derived.Test.YthfhellfmbllhaaGreatS12AxTmS
import Derived.Test.YthfhellfmbllhaaGreatS12AxTmQ
namespace Go.AX
open Go.Proofs
set_option linter.unusedSimpArgs false
def addC (c : Ck) (s : Stp) : Ck × Int :=
  if s.id ≤ c.last then (c, 21) else if tautS s.lits = true then (c, 11) else if thereS c s.hints = false then (c, 20)
  else if shoC c s.lits s.hints ≠ 0 then (c, shoC c s.lits s.hints) else (putC c s.id s.lits, 0)
set_option maxRecDepth 16000 in
theorem cadd_ok (h : List (List SV)) (b : Nat) (c : Ck) (hb : h[b]? = some (ckB c)) (hc : CkOk c) (s : Stp) (hl : s.lits.length ≤ 100000) (hh : s.hints.length ≤ 100000) :
    AMut Tryz.prog 123 [.ptr b 0, .agg (stpR s)] h (fun r h' => h' = h.set b (ckB (addC c s).1) ∧ r = .pv (I64 (addC c s).2)) := by
  refine amutXD [] [.tmp 4] (h.set b (ckB (addC c s).1)) (by simp) (fun hh => by rw [List.length_set]; exact belowH_setT (belowC_ckB _ _) b hh) hmo Tryz.func123 (by kernel_rfl) rfl rfl (by kernel_rfl) (Nat.le_of_ble_eq_true rfl) ?_
  obtain ⟨hlt, hb'⟩ := List.getElem?_eq_some_iff.1 hb
  have hset : h.set b (ckB c) = h := by rw [← hb']; exact List.set_getElem_self hlt
  obtain ⟨G, hG⟩ : ∃ G : List (List SV), G = h ++ [[.pv (I64 s.kind), .pv (I64 s.id), .pv (.seq false 1 (irow s.lits)), .pv (.seq false 1 (irow s.hints))]] := ⟨_, rfl⟩
  have hGl : h.length < G.length := by rw [hG]; simp
  have hGb : b < G.length := by rw [hG]; simp; omega
  have hGs : G[h.length] = [.pv (I64 s.kind), .pv (I64 s.id), .pv (.seq false 1 (irow s.lits)), .pv (.seq false 1 (irow s.hints))] := by simp [hG]
  have hGc : G[b] = ckB c := by simp only [hG]; rw [List.getElem_append_left hlt, hb']
  have hGc? : G[b]? = some (ckB c) := by rw [List.getElem?_eq_getElem hGb, hGc]
  have hGt : G.take h.length = h := by rw [hG]; simp
  have hfz : frzP G 3 b 0 = ckP c := frz_ck hGc? 2
  have hT := taut_ok s.lits (by omega)
  have hTh := there_ok c s.hints (by omega)
  have hS := cshow_ok c hc s.lits s.hints hl hh
  have hP := cput_ok G b c hGc? s.id s.lits (by omega)
  have hA : addC c s = if s.id ≤ c.last then (c, 21) else if tautS s.lits = true then (c, 11) else if thereS c s.hints = false then (c, 20)
    else if shoC c s.lits s.hints ≠ 0 then (c, shoC c s.lits s.hints) else (putC c s.id s.lits, 0) := rfl
  generalize addC c s = A at *
  simp [stpR, hb', hlt, ckB]
  rw [← hG]
  by_cases c1 : s.id ≤ c.last
  · have c1' : ¬ c.last < s.id := by omega
    rw [if_pos c1] at hA
    subst hA
    simp [hGb, hGc, hGs, hGl, ckB, c1, c1']
    first | exact hset.symm | (rw [hGt]; exact hset.symm)
  have c1' : c.last < s.id := by omega
  rw [if_neg c1] at hA
  simp [hGb, hGc, hGs, hGl, ckB, c1, c1']
  refine CallK.intro hT (by simp) ?_
  by_cases c2 : tautS s.lits = true
  · rw [if_pos c2] at hA
    subst hA
    simp [c2]
    first | exact hset.symm | (rw [hGt]; exact hset.symm)
  rw [if_neg c2] at hA
  simp [c2, hGb, hGc, hGs, hGl, hfz]
  refine CallB.introP hTh (by simp) (by simp) ?_
  cases c3 : thereS c s.hints
  · rw [if_pos c3] at hA
    subst hA
    simp
    first | exact hset.symm | (rw [hGt]; exact hset.symm)
  rw [if_neg (by simp [c3])] at hA
  simp [hGb, hGc, hGs, hGl, hfz]
  refine CallB.introP hS (by simp) (by simp) ?_
  by_cases c4 : shoC c s.lits s.hints = 0
  rotate_left
  · rw [if_pos c4] at hA
    subst hA
    simp [c4]
    first | exact hset.symm | (rw [hGt]; exact hset.symm)
  rw [if_neg (by simp [c4])] at hA
  subst hA
  simp [c4, hGb, hGc, hGs, hGl, ckB]
  refine CallB.intro hP (by simp) ?_
  rintro _ _ ⟨rfl, rfl⟩
  simp
  rw [hG, List.set_append_left _ _ hlt, List.take_append_of_le_length (by simp), List.take_of_length_le (by simp)]
  rfl
def stepC (c : Ck) (s : Stp) : Ck × Int :=
  if pchE [s] ≠ 0 then (c, pchE [s]) else if s.kind = 2 then (dropC c s.hints, dropE c s.hints) else addC c s
set_option maxRecDepth 16000 in
theorem cstep_ok (h : List (List SV)) (b : Nat) (c : Ck) (hb : h[b]? = some (ckB c)) (hc : CkOk c) (s : Stp) (hl : s.lits.length ≤ 100000) (hh : s.hints.length ≤ 100000) :
    AMut Tryz.prog 74 [.ptr b 0, .agg (stpR s)] h (fun r h' => h' = h.set b (ckB (stepC c s).1) ∧ r = .pv (I64 (stepC c s).2)) := by
  refine amutXD [] [.tmp 4] (h.set b (ckB (stepC c s).1)) (by simp) (fun hh => by rw [List.length_set]; exact belowH_setT (belowC_ckB _ _) b hh) hmo Tryz.func74 (by kernel_rfl) rfl rfl (by kernel_rfl) (Nat.le_of_ble_eq_true rfl) ?_
  obtain ⟨hlt, hb'⟩ := List.getElem?_eq_some_iff.1 hb
  have hset : h.set b (ckB c) = h := by rw [← hb']; exact List.set_getElem_self hlt
  obtain ⟨G, hG⟩ : ∃ G : List (List SV), G = h ++ [[.pv (I64 s.kind), .pv (I64 s.id), .pv (.seq false 1 (irow s.lits)), .pv (.seq false 1 (irow s.hints))]] := ⟨_, rfl⟩
  have hGl : h.length < G.length := by rw [hG]; simp
  have hGb : b < G.length := by rw [hG]; simp; omega
  have hGs : G[h.length] = [.pv (I64 s.kind), .pv (I64 s.id), .pv (.seq false 1 (irow s.lits)), .pv (.seq false 1 (irow s.hints))] := by simp [hG]
  have hGc : G[b] = ckB c := by simp only [hG]; rw [List.getElem_append_left hlt, hb']
  have hGc? : G[b]? = some (ckB c) := by rw [List.getElem?_eq_getElem hGb, hGc]
  have hGt : G.take h.length = h := by rw [hG]; simp
  have hM := cmade_ok G b c hGc?
  have hPc := pCheck_ok [s] (fun x hx => by rw [List.mem_singleton] at hx; subst hx; omega)
  have hD := cdrop_ok G b c hGc? s.hints (by omega)
  have hAd := cadd_ok G b c hGc? hc s hl hh
  have hS : stepC c s = if pchE [s] ≠ 0 then (c, pchE [s]) else if s.kind = 2 then (dropC c s.hints, dropE c s.hints) else addC c s := rfl
  have hGset : ∀ y, List.take h.length (G.set b y) = h.set b y := fun y => by
    rw [hG, List.set_append_left _ _ hlt, List.take_append_of_le_length (by simp), List.take_of_length_le (by simp)]
  generalize stepC c s = S at *
  generalize pchE [s] = pe at *
  generalize pchA [s] = pa at *
  simp only [List.map_cons, List.map_nil, stpR] at hPc hAd
  simp [stpR]
  rw [← hG]
  refine CallB.intro hM (by simp) ?_
  rintro _ _ ⟨rfl, rfl⟩
  simp [hGl, hGs]
  refine CallK.intro hPc (by simp) ?_
  by_cases c1 : pe = 0
  rotate_left
  · rw [if_pos c1] at hS
    subst hS
    simp [c1]
    first | exact hset.symm | (rw [hGt]; exact hset.symm)
  rw [if_neg (by simp [c1])] at hS
  by_cases c2 : s.kind = 2
  · rw [if_pos c2] at hS
    subst hS
    simp [c1, c2, hGl, hGs]
    refine CallB.intro hD (by simp) ?_
    rintro _ _ ⟨rfl, rfl⟩
    simp
    exact hGset _
  · rw [if_neg c2] at hS
    subst hS
    simp [c1, c2, hGl, hGs]
    refine CallB.intro hAd (by simp) ?_
    rintro _ _ ⟨rfl, rfl⟩
    simp
    exact hGset _
end Go.AX

namespace Go.AX
open Go.Proofs
set_option linter.unusedSimpArgs false
def newF (c : Ck) (l : List Int) : Ck := putC c (w64 (c.last + 1)) l
def newTo (L : List (List Int)) (i : Nat) : Ck := (L.take i).foldl newF ⟨[], 0, false⟩
def newC (L : List (List Int)) : Ck := newTo L L.length
set_option maxRecDepth 16000 in
theorem cnew_ok (h : List (List SV)) (v : Int) (L : List (List Int)) (hr : ∀ c ∈ L, c.length ≤ 1000000) :
    AMut Tryz.prog 72 [.agg [I64 v, .seq false 1 (L.map crowF)]] h (fun r h' => if (cnfS v L).2 ≠ 0 then ∃ x, h' = h ++ x ∧ r = .pv (.tup [.lit (.pointer none), I64 (cnfS v L).2]) else h' = h ++ [[.pv (I64 v), .pv (.seq false 1 (L.map crowF))], ckB (newC L)] ∧ r = .pv (.tup [.ptr (h.length + 1) 0, I64 0])) := by
  refine amutX [] [.tmp 2, .tmp 3] hmo Tryz.func72 (by kernel_rfl) rfl rfl (by kernel_rfl) (Nat.le_of_ble_eq_true rfl) ?_
  have hC := cnfS_ok v L hr
  have hle : (cnfS v L).2 = 0 → L.length ≤ 1000000 := fun e => Classical.byContradiction fun hn => by
    unfold cnfS at e
    split at e
    · cases e
    · rw [if_pos (by omega)] at e; cases e
  generalize cnfS v L = S at *
  obtain ⟨s1, s2⟩ := S
  simp only at hle
  simp
  refine CallK.intro hC (by simp) ?_
  by_cases c1 : s2 = 0
  rotate_left
  · simp [c1]
  subst c1
  have hln := hle rfl
  simp
  obtain ⟨G, hG⟩ : ∃ G : Nat → List (List SV), ∀ i, G i = h ++ [[.pv (I64 v), .pv (.seq false 1 (L.map crowF))], ckB (newTo L i)] := ⟨_, fun _ => rfl⟩
  have hGl : ∀ i, h.length + 1 < (G i).length := fun i => by rw [hG]; simp
  have hGb : ∀ i, (G i)[h.length + 1]? = some (ckB (newTo L i)) := fun i => by
    rw [hG, List.getElem?_append_right (by omega)]
    simp
  have hGs : ∀ i, i < L.length → (G i).set (h.length + 1) (ckB (newTo L (i + 1))) = G (i + 1) := fun i hi => by
    rw [hG, hG, List.set_append_right _ _ (by omega)]
    simp
  refine ALoop.intro (S := fun (i : Nat) => ⟨[(6, .pv (.ptr (h.length + 1) 0)), (24, .pv (.seq false 1 (L.map crowF))), (25, .pv (I64 L.length)), (26, .pv (I64 i))], G i⟩) (fun i => i ≤ L.length) (fun i => L.length - i) 0 ?_ (Nat.zero_le _) ?_
  · exact Weak.keep (by simp) (by rw [hG]; rfl)
  intro i hi
  have hgl := hGl i
  obtain ⟨_, hgb'⟩ := List.getElem?_eq_some_iff.1 (hGb i)
  by_cases c : i < L.length
  · have hw : w64 ((i : Int) + 1) = ((i + 1 : Nat) : Int) := by rw [w64_id (by omega) (by omega)]; omega
    have hrow := crowF_at L c
    have hn : newTo L (i + 1) = putC (newTo L i) (w64 ((newTo L i).last + 1)) L[i] := foldl_take_succ newF ⟨[], 0, false⟩ L i c
    have hgs := hGs i c
    have hP := cput_ok (G i) (h.length + 1) (newTo L i) (hGb i) (w64 ((newTo L i).last + 1)) L[i] (hr _ (List.getElem_mem c))
    rw [← hn] at hP
    generalize hK : newTo L i = K at *
    simp [c, hgl, hgb', ckB, hrow]
    refine CallB.intro hP (by simp) ?_
    rintro _ _ ⟨rfl, rfl⟩
    simp
    exact ⟨i + 1, by (try dsimp only); omega, by (try dsimp only); omega, Weak.keep (by simp [hw]) (by rw [← hgs])⟩
  · have hie : i = L.length := by omega
    subst hie
    simp
    exact hG _
def chkGo : Ck → List Stp → Nat → Int × Int
  | c, [], i => if c.done = true then ((i : Int), 0) else ((i : Int), 25)
  | c, s :: ss, i => if (stepC c s).2 ≠ 0 then ((i : Int), (stepC c s).2) else chkGo (stepC c s).1 ss (i + 1)
def chkS (v : Int) (L : List (List Int)) (ss : List Stp) : Int × Int := if (cnfS v L).2 ≠ 0 then (-1, (cnfS v L).2) else chkGo (newC L) ss 0
def ckTo (L : List (List Int)) (ss : List Stp) (i : Nat) : Ck := (ss.take i).foldl (fun c s => (stepC c s).1) (newC L)
theorem pt_le {α : Type} (l : List (Int × α)) (k : Int) (y : α) : (pt l k y).length ≤ l.length + 1 := by
  rw [pt_len]
  split <;> omega
theorem pt_all {α : Type} {p : Int × α → Prop} : ∀ {l : List (Int × α)} {k : Int} {y : α}, (∀ q ∈ l, p q) → p (k, y) → ∀ q ∈ pt l k y, p q
  | [], k, y, _, h2, q, hq => by
    rw [pt] at hq
    rw [List.mem_singleton] at hq; subst hq; exact h2
  | (j, x) :: l, k, y, h1, h2, q, hq => by
    rw [pt] at hq
    split at hq
    · rename_i e
      rcases List.mem_cons.1 hq with rfl | hq
      · exact e ▸ h2
      · exact h1 q (List.mem_cons_of_mem _ hq)
    · rcases List.mem_cons.1 hq with rfl | hq
      · exact h1 _ List.mem_cons_self
      · exact pt_all (fun q hq => h1 q (List.mem_cons_of_mem _ hq)) h2 q hq
theorem dl_sub {α : Type} : ∀ (l : List (Int × α)) (k : Int), ∀ q ∈ dl l k, q ∈ l
  | [], k, q, h => h
  | (j, x) :: l, k, q, h => by
    rw [dl] at h
    split at h
    · exact List.mem_cons_of_mem _ h
    · rcases List.mem_cons.1 h with rfl | h
      · exact List.mem_cons_self
      · exact List.mem_cons_of_mem _ (dl_sub l k q h)
theorem dl_le {α : Type} : ∀ (l : List (Int × α)) (k : Int), (dl l k).length ≤ l.length
  | [], k => Nat.le_refl _
  | (j, x) :: l, k => by
    rw [dl]
    split
    · simp
    · have := dl_le l k
      simp; omega
structure CkN (n : Nat) (c : Ck) : Prop where
  n : c.m.length ≤ n
  w : ∀ q ∈ c.m, wfI q.1
  l : ∀ q ∈ c.m, q.2.length ≤ 100000
  t : 0 ≤ c.last ∧ c.last ≤ 20000000
theorem CkN.ok {n : Nat} {c : Ck} (h : CkN n c) (hn : n ≤ 100000) : CkOk c := ⟨Nat.le_trans h.n hn, h.w, h.l⟩
theorem wfI_of {x : Int} (h1 : 0 ≤ x) (h2 : x ≤ 20000000) : wfI x := by
  unfold wfI
  have e1 : IntKind.i64.min = -9223372036854775808 := by decide
  have e2 : IntKind.i64.max = 9223372036854775807 := by decide
  simp only [Lit.wf, e1, e2, Bool.and_eq_true, decide_eq_true_eq]
  omega
theorem CkN.put {n : Nat} {c : Ck} (h : CkN n c) {id : Int} {l : List Int} (hid : 0 ≤ id ∧ id ≤ 20000000) (hl : l.length ≤ 100000) : CkN (n + 1) (putC c id l) :=
  ⟨Nat.le_trans (pt_le _ _ _) (Nat.succ_le_succ h.n), pt_all h.w (wfI_of hid.1 hid.2), pt_all h.l hl, hid⟩
theorem foldl_dl {p : Int × List Int → Prop} : ∀ (ids : List Int) (m : List (Int × List Int)), (∀ q ∈ m, p q) → (∀ q ∈ ids.foldl dl m, p q) ∧ (ids.foldl dl m).length ≤ m.length
  | [], m, h => ⟨h, Nat.le_refl _⟩
  | id :: ids, m, h => by
    obtain ⟨h1, h2⟩ := foldl_dl ids (dl m id) (fun q hq => h q (dl_sub m id q hq))
    exact ⟨h1, Nat.le_trans h2 (dl_le _ _)⟩
theorem CkN.drop {n : Nat} {c : Ck} (h : CkN n c) (ids : List Int) : CkN n (dropC c ids) := by
  unfold dropC
  split
  · exact h
  · unfold dropTo
    obtain ⟨h1, h2⟩ := foldl_dl (p := fun q => wfI q.1) (ids.take ids.length) c.m h.w
    obtain ⟨h3, _⟩ := foldl_dl (p := fun q => q.2.length ≤ 100000) (ids.take ids.length) c.m h.l
    exact ⟨Nat.le_trans h2 h.n, h1, h3, h.t⟩
theorem CkN.up {n m : Nat} {c : Ck} (h : CkN n c) (hm : n ≤ m) : CkN m c := ⟨Nat.le_trans h.n hm, h.w, h.l, h.t⟩
theorem pchE_one (s : Stp) : pchE [s] = if mayP s = true then 0 else 2 := by
  unfold pchE idxS
  cases hm : mayP s
  · simp [List.findIdx?_cons, hm]
  · simp [List.findIdx?_cons, hm]
theorem mayP_id {s : Stp} (h : mayP s = true) : (s.kind = 1 ∨ s.kind = 2) ∧ 0 ≤ s.id ∧ s.id ≤ 10000000 := by
  unfold mayP at h
  split at h
  · simp only [Bool.and_eq_true, decide_eq_true_eq] at h
    exact ⟨.inl (by assumption), by omega, by omega⟩
  · split at h
    · simp only [Bool.and_eq_true, decide_eq_true_eq] at h
      exact ⟨.inr (by assumption), by omega, by omega⟩
    · cases h
theorem CkN.step {n : Nat} {c : Ck} (h : CkN n c) {s : Stp} (hl : s.lits.length ≤ 100000) : CkN (n + 1) (stepC c s).1 := by
  unfold stepC
  split
  · exact h.up (Nat.le_succ n)
  · rename_i hp
    rw [pchE_one] at hp
    have hm : mayP s = true := Classical.byContradiction fun hn => hp (by rw [if_neg hn]; decide)
    obtain ⟨_, h1, h2⟩ := mayP_id hm
    split
    · exact (h.drop s.hints).up (Nat.le_succ n)
    · unfold addC
      split
      · exact h.up (Nat.le_succ n)
      · split
        · exact h.up (Nat.le_succ n)
        · split
          · exact h.up (Nat.le_succ n)
          · split
            · exact h.up (Nat.le_succ n)
            · exact h.put ⟨h1, by omega⟩ hl
theorem newTo_ok {L : List (List Int)} (hL : ∀ c ∈ L, c.length ≤ 100000) (hn : L.length ≤ 1000000) : ∀ i, i ≤ L.length → CkN i (newTo L i) ∧ (newTo L i).last = (i : Int)
  | 0, _ => ⟨⟨Nat.le_refl _, (fun q hq => by cases hq), (fun q hq => by cases hq), Int.le_refl _, by show (0 : Int) ≤ 20000000; omega⟩, rfl⟩
  | i + 1, h => by
    obtain ⟨h1, h2⟩ := newTo_ok hL hn i (by omega)
    have hs : newTo L (i + 1) = newF (newTo L i) L[i] := foldl_take_succ newF ⟨[], 0, false⟩ L i (by omega)
    have hw : w64 ((i : Int) + 1) = ((i + 1 : Nat) : Int) := by rw [w64_id (by omega) (by omega)]; omega
    rw [hs]
    unfold newF
    rw [h2, hw]
    exact ⟨h1.put (by omega) (hL _ (List.getElem_mem (by omega))), rfl⟩
theorem cnfS_few {v : Int} {L : List (List Int)} (h : (cnfS v L).2 = 0) : L.length ≤ 1000000 := Classical.byContradiction fun hn => by
  unfold cnfS at h
  split at h
  · cases h
  · rw [if_pos (by omega)] at h; cases h
set_option maxRecDepth 16000 in
theorem lcheck_ok (v : Int) (L : List (List Int)) (ss : List Stp) (hn : L.length + ss.length ≤ 90000) (hL : ∀ c ∈ L, c.length ≤ 100000) (hs : ∀ s ∈ ss, s.lits.length ≤ 100000 ∧ s.hints.length ≤ 100000) :
    APure Tryz.prog 108 [.agg [I64 v, .seq false 1 (L.map crowF)], .seq false 4 (ss.map stpR)] (fun r => r = .pv (.tup [I64 (chkS v L ss).1, I64 (chkS v L ss).2])) := by
  refine apureN [4, 5] hmo Tryz.func108 (by kernel_rfl) rfl (fun _ _ => results_tmp2 rfl _ _ _) (by kernel_rfl) (Nat.le_of_ble_eq_true rfl) ?_
  have hN := fun h => cnew_ok h v L (fun c hc => by have := hL c hc; omega)
  have hC : chkS v L ss = if (cnfS v L).2 ≠ 0 then (-1, (cnfS v L).2) else chkGo (newC L) (ss.drop 0) 0 := rfl
  generalize chkS v L ss = C at *
  simp
  refine CallK.introM (hN _) (by simp) ?_
  intro r h' hR
  by_cases c1 : (cnfS v L).2 = 0
  rotate_left
  · rw [if_pos c1] at hR hC
    subst hC
    obtain ⟨x, rfl, rfl⟩ := hR
    simp [c1]
  rw [if_neg (by simp [c1])] at hR hC
  obtain ⟨rfl, rfl⟩ := hR
  clear hN
  have hnew := (newTo_ok hL (cnfS_few c1) L.length (Nat.le_refl _)).1
  simp
  obtain ⟨K, hK⟩ : ∃ K : Nat → Ck, ∀ i, K i = ckTo L ss i := ⟨_, fun _ => rfl⟩
  have hK0 : newC L = K 0 := by rw [hK]; rfl
  rw [hK0]
  obtain ⟨F, hF⟩ : ∃ F : List SV, F = [.pv (I64 v), .pv (.seq false 1 (L.map crowF))] := ⟨_, rfl⟩
  have hFb : ∀ k, belowC k F := fun k => by rw [hF]; exact ⟨trivial, belowR_crowF _ _, trivial⟩
  rw [← hF]
  refine ALoop.intro (S := fun (i : Nat) => ⟨[(1, .pv (.seq false 4 (ss.map stpR))), (6, .pv (.ptr 2 0)), (18, .pv (.seq false 4 (ss.map stpR))), (19, .pv (I64 ss.length)), (20, .pv (I64 i))], [F, F, ckB (K i)]⟩) (fun i => i ≤ ss.length ∧ CkN (L.length + i) (K i) ∧ C = chkGo (K i) (ss.drop i) i) (fun i => ss.length - i) 0 ?_ ⟨Nat.zero_le _, by rw [← hK0]; exact hnew, by rw [← hK0]; exact hC⟩ ?_
  · exact Weak.keep (by simp) (by simp)
  rintro i ⟨hi, hki, hCi⟩
  by_cases h : i < ss.length
  · have hw : w64 ((i : Int) + 1) = ((i + 1 : Nat) : Int) := by rw [w64_id (by omega) (by omega)]; omega
    have hKs : K (i + 1) = (stepC (K i) ss[i]).1 := by rw [hK, hK]; exact foldl_take_succ (fun c s => (stepC c s).1) (newC L) ss i h
    rw [List.drop_eq_getElem_cons h, chkGo] at hCi
    have hsi := hs _ (List.getElem_mem h)
    have hSt := fun X => cstep_ok [F, F, ckB (K i), X] 2 (K i) rfl (hki.ok (by omega)) ss[i] hsi.1 hsi.2
    have hkn := hki.step (s := ss[i]) hsi.1
    rw [← hKs] at hkn hCi
    generalize hsd : stepC (K i) ss[i] = sd at *
    have hSt := hSt [.pv (I64 ss[i].kind), .pv (I64 ss[i].id), .pv (.seq false 1 (irow ss[i].lits)), .pv (.seq false 1 (irow ss[i].hints))]
    simp only [stpR] at hSt
    simp [h, stpR]
    refine CallB.intro hSt (by simp) ?_
    rintro _ _ ⟨rfl, rfl⟩
    by_cases d : sd.2 = 0
    · rw [if_neg (by simp [d])] at hCi
      simp [d]
      exact ⟨i + 1, by (try dsimp only); omega, ⟨by (try dsimp only); omega, by rw [← Nat.add_assoc]; exact hkn, hCi⟩, Weak.to (by simp [hw]) (by simp [hKs]) (by simp) (by simp) ⟨hFb _, hFb _, belowC_ckB _ _, trivial⟩⟩
    · rw [if_pos d] at hCi
      subst hCi
      simp [d]
  · have hie : i = ss.length := by omega
    subst hie
    rw [List.drop_eq_nil_of_le (Nat.le_refl _), chkGo] at hCi
    have hD := cdone_ok [F, F, ckB (K ss.length)] 2 (K ss.length) rfl
    simp
    refine CallB.intro hD (by simp) ?_
    rintro _ _ ⟨rfl, rfl⟩
    cases d : (K ss.length).done
    · rw [if_neg (by simp [d])] at hCi
      subst hCi
      simp
    · rw [if_pos d] at hCi
      subst hCi
      simp
end Go.AX

namespace Go.AX
open Go.Proofs
set_option linter.unusedSimpArgs false
def shnB (c : Ck) (s : Stp) : Bool := (s.hints.all fun h => (lk c.m h).isSome) && decide ((shwS s.lits (rowsS c s.hints)).2 = 0)
set_option maxRecDepth 16000 in
theorem tShown_ok (h : List (List SV)) (b : Nat) (c : Ck) (hb : h[b]? = some (ckB c)) (hc : CkOk c) (s : Stp) (hl : s.lits.length ≤ 100000) (hh : s.hints.length ≤ 100000) :
    AMut Tryz.prog 73 [.ptr b 0, .agg (stpR s)] h (fun r h' => h' = h ∧ r = .pv (BL (shnB c s))) := by
  refine amutXD [] [.tmp 4] h (Nat.le_refl _) (fun hh => hh) hmo Tryz.func73 (by kernel_rfl) rfl rfl (by kernel_rfl) (Nat.le_of_ble_eq_true rfl) ?_
  obtain ⟨hlt, hb'⟩ := List.getElem?_eq_some_iff.1 hb
  obtain ⟨G, hG⟩ : ∃ G : List (List SV), G = h ++ [[.pv (I64 s.kind), .pv (I64 s.id), .pv (.seq false 1 (irow s.lits)), .pv (.seq false 1 (irow s.hints))]] := ⟨_, rfl⟩
  have hGl : h.length < G.length := by rw [hG]; simp
  have hGs : G[h.length] = [.pv (I64 s.kind), .pv (I64 s.id), .pv (.seq false 1 (irow s.lits)), .pv (.seq false 1 (irow s.hints))] := by simp [hG]
  have hGc? : G[b]? = some (ckB c) := by rw [hG, List.getElem?_append_left hlt, hb]
  have hGt : G.take h.length = h := by rw [hG]; simp
  have hS : shnB c s = ((s.hints.all fun h => (lk c.m h).isSome) && decide ((shwS s.lits (rowsS c s.hints)).2 = 0)) := rfl
  have hrl := rowsS_le hc s.hints
  have hSh := rShowP_ok s.lits (rowsS c s.hints) (by omega) (fun x hx => by have := hrl.2 x hx; omega)
  generalize shnB c s = S at *
  obtain ⟨Q, hQ⟩ : ∃ Q : Nat → List (List Int), ∀ i, Q i = (rowsS c s.hints).take i := ⟨_, fun _ => rfl⟩
  have hQl : ∀ i, (Q i).length ≤ i := fun i => by rw [hQ, List.length_take]; omega
  simp [stpR]
  rw [← hG]
  try simp [hGl, hGs]
  refine ALoop.intro (S := fun (i : Nat) => ⟨[(0, .pv (.ptr b 0)), (3, .pv (.ptr h.length 0)), (5, .own true 1 ((Q i).map crowF)), (13, .pv (.seq false 1 (irow s.hints))), (14, .pv (I64 s.hints.length)), (15, .pv (I64 i))], G⟩) (fun i => i ≤ s.hints.length ∧ ∀ k (_ : k < s.hints.length), k < i → (lk c.m s.hints[k]).isSome = true) (fun i => s.hints.length - i) 0 ?_ ⟨Nat.zero_le _, fun k _ h => by omega⟩ ?_
  · exact (Weak.nilOwn (s := 5) 1 true (by simp)).trans (Weak.keep (by simp [hQ]) rfl)
  rintro i ⟨hi, ho⟩
  by_cases d : i < s.hints.length
  · have hw : w64 ((i : Int) + 1) = ((i + 1 : Nat) : Int) := by rw [w64_id (by omega) (by omega)]; omega
    have hC := (cclause_ok G b c hGc? s.hints[i] (fun l hl => by have := hc.l _ (lk_in hl); simp only at this; omega)).res (R' := fun r h' => h' = G ∧ r = .pv (.tup [.seq false 1 (irow ((lk c.m s.hints[i]).getD [])), BL (lk c.m s.hints[i]).isSome])) fun r h' hh => ⟨_, .tup [.seq false 1 (irow ((lk c.m s.hints[i]).getD [])), BL (lk c.m s.hints[i]).isSome], hh.2, by simp [wkP, wkPL], hh.1, rfl⟩
    have hQs : Q (i + 1) = Q i ++ [(lk c.m s.hints[i]).getD []] := by
      rw [hQ, hQ, List.take_succ_eq_append_getElem (by unfold rowsS; rw [List.length_map]; exact d)]
      simp [rowsS]
    have hQi := hQl i
    have hstep : (lk c.m s.hints[i]).isSome = true → ∀ k (_ : k < s.hints.length), k < i + 1 → (lk c.m s.hints[k]).isSome = true := fun hx k h1 h2 => by
      by_cases e : k = i
      · subst e; exact hx
      · exact ho k h1 (by omega)
    simp [d]
    refine CallB.intro hC (by simp) ?_
    rintro _ _ ⟨rfl, rfl⟩
    cases e : lk c.m s.hints[i] with
    | none =>
      have hF : S = false := by
        rw [hS]
        have : (s.hints.all fun h => (lk c.m h).isSome) = false := List.all_eq_false.2 ⟨_, List.getElem_mem d, by simp [e]⟩
        rw [this]; rfl
      rw [hF]
      simp
      try first | exact hGt | trivial
    | some l =>
      rw [e] at hQs hstep
      simp
      refine ⟨by omega, i + 1, by (try dsimp only); omega, ⟨by (try dsimp only); omega, hstep rfl⟩, Weak.keep (by simp [hw, hQs, crowF]) (by simp)⟩
  · have hie : i = s.hints.length := by omega
    subst hie
    have hA : (s.hints.all fun h => (lk c.m h).isSome) = true := List.all_eq_true.2 fun x hx => by
      obtain ⟨k, hk, rfl⟩ := List.getElem_of_mem hx
      exact ho k hk hk
    rw [hA, Bool.true_and] at hS
    have hQe : Q s.hints.length = rowsS c s.hints := by rw [hQ]; exact List.take_of_length_le (by unfold rowsS; simp)
    simp [hQe, hGl, hGs]
    refine CallK.intro hSh (by simp) ?_
    by_cases e : (shwS s.lits (rowsS c s.hints)).2 = 0
    · rw [decide_eq_true e] at hS
      subst hS
      simp [e, hGt]
    · rw [decide_eq_false e] at hS
      subst hS
      simp [e, hGt]
def plnGo : Ck → List Stp → Bool
  | c, [] => c.done
  | c, s :: ss => if (s.kind = 1 ∧ shnB c s = false) ∨ (stepC c s).2 ≠ 0 then false else plnGo (stepC c s).1 ss
def plnS (v : Int) (L : List (List Int)) (ss : List Stp) : Bool := if (cnfS v L).2 ≠ 0 then false else plnGo (newC L) ss
set_option maxRecDepth 16000 in
theorem plain_ok (v : Int) (L : List (List Int)) (ss : List Stp) (hn : L.length + ss.length ≤ 90000) (hL : ∀ c ∈ L, c.length ≤ 100000) (hs : ∀ s ∈ ss, s.lits.length ≤ 100000 ∧ s.hints.length ≤ 100000) :
    APure Tryz.prog 23 [.agg [I64 v, .seq false 1 (L.map crowF)], .seq false 4 (ss.map stpR)] (fun r => r = .pv (BL (plnS v L ss))) := by
  refine apure1 hmo Tryz.func23 (by kernel_rfl) rfl rfl (by kernel_rfl) (Nat.le_of_ble_eq_true rfl) ?_
  have hN := fun h => cnew_ok h v L (fun c hc => by have := hL c hc; omega)
  have hC : plnS v L ss = if (cnfS v L).2 ≠ 0 then false else plnGo (newC L) (ss.drop 0) := rfl
  generalize plnS v L ss = C at *
  simp
  refine CallK.introM (hN _) (by simp) ?_
  intro r h' hR
  by_cases c1 : (cnfS v L).2 = 0
  rotate_left
  · rw [if_pos c1] at hR hC
    subst hC
    obtain ⟨x, rfl, rfl⟩ := hR
    simp [c1]
  rw [if_neg (by simp [c1])] at hR hC
  obtain ⟨rfl, rfl⟩ := hR
  clear hN
  have hnew := (newTo_ok hL (cnfS_few c1) L.length (Nat.le_refl _)).1
  simp
  obtain ⟨K, hK⟩ : ∃ K : Nat → Ck, ∀ i, K i = ckTo L ss i := ⟨_, fun _ => rfl⟩
  have hK0 : newC L = K 0 := by rw [hK]; rfl
  rw [hK0]
  obtain ⟨F, hF⟩ : ∃ F : List SV, F = [.pv (I64 v), .pv (.seq false 1 (L.map crowF))] := ⟨_, rfl⟩
  have hFb : ∀ k, belowC k F := fun k => by rw [hF]; exact ⟨trivial, belowR_crowF _ _, trivial⟩
  rw [← hF]
  refine ALoop.intro (S := fun (i : Nat) => ⟨[(1, .pv (.seq false 4 (ss.map stpR))), (5, .pv (.ptr 2 0)), (16, .pv (.seq false 4 (ss.map stpR))), (17, .pv (I64 ss.length)), (18, .pv (I64 i))], [F, F, ckB (K i)]⟩) (fun i => i ≤ ss.length ∧ CkN (L.length + i) (K i) ∧ C = plnGo (K i) (ss.drop i)) (fun i => ss.length - i) 0 ?_ ⟨Nat.zero_le _, by rw [← hK0]; exact hnew, by rw [← hK0]; exact hC⟩ ?_
  · exact Weak.keep (by simp) (by simp)
  rintro i ⟨hi, hki, hCi⟩
  by_cases h : i < ss.length
  · have hw : w64 ((i : Int) + 1) = ((i + 1 : Nat) : Int) := by rw [w64_id (by omega) (by omega)]; omega
    have hKs : K (i + 1) = (stepC (K i) ss[i]).1 := by rw [hK, hK]; exact foldl_take_succ (fun c s => (stepC c s).1) (newC L) ss i h
    rw [List.drop_eq_getElem_cons h, plnGo] at hCi
    have hsi := hs _ (List.getElem_mem h)
    have hSt := cstep_ok [F, F, ckB (K i), [.pv (I64 ss[i].kind), .pv (I64 ss[i].id), .pv (.seq false 1 (irow ss[i].lits)), .pv (.seq false 1 (irow ss[i].hints))]] 2 (K i) rfl (hki.ok (by omega)) ss[i] hsi.1 hsi.2
    have hSh := tShown_ok [F, F, ckB (K i), [.pv (I64 ss[i].kind), .pv (I64 ss[i].id), .pv (.seq false 1 (irow ss[i].lits)), .pv (.seq false 1 (irow ss[i].hints))]] 2 (K i) rfl (hki.ok (by omega)) ss[i] hsi.1 hsi.2
    have hkn := hki.step (s := ss[i]) hsi.1
    rw [← hKs] at hkn hCi
    simp only [stpR] at hSt hSh
    generalize hsd : stepC (K i) ss[i] = sd at *
    generalize shnB (K i) ss[i] = sb at *
    have hfin : sd.2 = 0 → (i + 1) ≤ ss.length ∧ CkN (L.length + (i + 1)) (K (i + 1)) := fun _ => ⟨by omega, by rw [← Nat.add_assoc]; exact hkn⟩
    by_cases k1 : ss[i].kind = 1
    · rw [k1] at hSt hSh
      cases sb
      · rw [if_pos (.inl ⟨k1, rfl⟩)] at hCi
        subst hCi
        simp [h, stpR, k1]
        refine CallB.intro hSh (by simp) ?_
        rintro _ _ ⟨rfl, rfl⟩
        simp [k1]
      · simp [h, stpR, k1]
        refine CallB.intro hSh (by simp) ?_
        rintro _ _ ⟨rfl, rfl⟩
        simp [k1]
        refine CallB.intro hSt (by simp) ?_
        rintro _ _ ⟨rfl, rfl⟩
        by_cases d : sd.2 = 0
        · rw [if_neg (by simp [d])] at hCi
          simp [d]
          exact ⟨i + 1, by (try dsimp only); omega, ⟨(hfin d).1, (hfin d).2, hCi⟩, Weak.to (by simp [hw]) (by simp [hKs]) (by simp) (by simp) ⟨hFb _, hFb _, belowC_ckB _ _, trivial⟩⟩
        · rw [if_pos (.inr d)] at hCi
          subst hCi
          simp [d]
    · simp [h, stpR, k1]
      refine CallB.intro hSt (by simp) ?_
      rintro _ _ ⟨rfl, rfl⟩
      by_cases d : sd.2 = 0
      · rw [if_neg (by simp [d, k1])] at hCi
        simp [d]
        exact ⟨i + 1, by (try dsimp only); omega, ⟨(hfin d).1, (hfin d).2, hCi⟩, Weak.to (by simp [hw]) (by simp [hKs]) (by simp) (by simp) ⟨hFb _, hFb _, belowC_ckB _ _, trivial⟩⟩
      · rw [if_pos (.inr d)] at hCi
        subst hCi
        simp [d]
  · have hie : i = ss.length := by omega
    subst hie
    rw [List.drop_eq_nil_of_le (Nat.le_refl _), plnGo] at hCi
    have hD := cdone_ok [F, F, ckB (K ss.length)] 2 (K ss.length) rfl
    subst hCi
    simp
    refine CallB.intro hD (by simp) ?_
    rintro _ _ ⟨rfl, rfl⟩
    simp
end Go.AX

namespace Go.AX
open Go.Proofs
set_option linter.unusedSimpArgs false
def emGo1 : List (List Int) → Nat → Option Int
  | [], _ => none
  | c :: L, i => if c = [] then some ((i + 1 : Nat) : Int) else emGo1 L (i + 1)
def emGo2 : List Stp → Int
  | [] => 0
  | s :: ss => if s.kind = 1 ∧ s.lits = [] then s.id else emGo2 ss
def emptyS (L : List (List Int)) (ss : List Stp) : Int := (emGo1 L 0).getD (emGo2 ss)
set_option maxRecDepth 16000 in
theorem empty_ok (v : Int) (L : List (List Int)) (ss : List Stp) (hn : L.length + ss.length ≤ 90000) :
    APure Tryz.prog 149 [.agg [I64 v, .seq false 1 (L.map crowF)], .seq false 4 (ss.map stpR)] (fun r => r = .pv (I64 (emptyS L ss))) := by
  refine apure1 hmo Tryz.func149 (by kernel_rfl) rfl rfl (by kernel_rfl) (Nat.le_of_ble_eq_true rfl) ?_
  have hE : emptyS L ss = (emGo1 (L.drop 0) 0).getD (emGo2 ss) := rfl
  generalize emptyS L ss = E at *
  simp
  refine ALoop.intro (S := fun (i : Nat) => ⟨[(1, .pv (.seq false 4 (ss.map stpR))), (2, .pv (.ptr 0 0)), (10, .pv (I64 L.length)), (11, .pv (I64 i))], [[.pv (I64 v), .pv (.seq false 1 (L.map crowF))]]⟩) (fun i => i ≤ L.length ∧ E = (emGo1 (L.drop i) i).getD (emGo2 ss)) (fun i => L.length - i) 0 ?_ ⟨Nat.zero_le _, hE⟩ ?_
  · exact Weak.keep (by simp) (by simp)
  rintro i ⟨hi, hEi⟩
  by_cases h : i < L.length
  · have hw : w64 ((i : Int) + 1) = ((i + 1 : Nat) : Int) := by rw [w64_id (by omega) (by omega)]; omega
    have hrow := crowF_at L h
    have hq : L[i]? = some L[i] := List.getElem?_eq_getElem h
    rw [List.drop_eq_getElem_cons h, emGo1] at hEi
    by_cases c : L[i] = []
    · rw [if_pos c] at hEi
      subst hEi
      simp [h, hrow, hq, c, crowF, irow, hw]
    · rw [if_neg c] at hEi
      have c' : L[i].length ≠ 0 := fun e => c (List.length_eq_zero_iff.1 e)
      simp [h, hrow, hq, c, crowF]
      exact ⟨i + 1, by (try dsimp only); omega, ⟨by (try dsimp only); omega, hEi⟩, Weak.keep (by simp [hw]) (by simp)⟩
  · have hie : i = L.length := by omega
    subst hie
    rw [List.drop_eq_nil_of_le (Nat.le_refl _), emGo1, Option.getD_none] at hEi
    simp
    refine ALoop.intro (S := fun (i : Nat) => ⟨[(24, .pv (.seq false 4 (ss.map stpR))), (25, .pv (I64 ss.length)), (26, .pv (I64 i))], [[.pv (I64 v), .pv (.seq false 1 (L.map crowF))]]⟩) (fun i => i ≤ ss.length ∧ E = emGo2 (ss.drop i)) (fun i => ss.length - i) 0 ?_ ⟨Nat.zero_le _, hEi⟩ ?_
    · exact Weak.keep (by simp) (by simp)
    rintro j ⟨hj, hEj⟩
    by_cases d : j < ss.length
    · have hw : w64 ((j : Int) + 1) = ((j + 1 : Nat) : Int) := by rw [w64_id (by omega) (by omega)]; omega
      rw [List.drop_eq_getElem_cons d, emGo2] at hEj
      by_cases k1 : ss[j].kind = 1
      · by_cases k2 : ss[j].lits = []
        · rw [if_pos ⟨k1, k2⟩] at hEj
          subst hEj
          simp [d, stpR, k1, k2, irow]
        · rw [if_neg (fun e => k2 e.2)] at hEj
          simp [d, stpR, k1, k2]
          exact ⟨j + 1, by (try dsimp only); omega, ⟨by (try dsimp only); omega, hEj⟩, Weak.to (by simp [hw, stpR]) rfl (by simp) (by simp) (by simp)⟩
      · rw [if_neg (fun e => k1 e.1)] at hEj
        simp [d, stpR, k1]
        exact ⟨j + 1, by (try dsimp only); omega, ⟨by (try dsimp only); omega, hEj⟩, Weak.to (by simp [hw, stpR]) rfl (by simp) (by simp) (by simp)⟩
    · have hje : j = ss.length := by omega
      subst hje
      rw [List.drop_eq_nil_of_le (Nat.le_refl _), emGo2] at hEj
      subst hEj
      simp
def incS (m : List (Int × Int)) (k : Int) : List (Int × Int) := pt m k (w64 ((lk m k).getD 0 + 1))
def allTo1 : Nat → List (Int × Int)
  | 0 => []
  | i + 1 => incS (allTo1 i) ((i + 1 : Nat) : Int)
def allF (m : List (Int × Int)) (s : Stp) : List (Int × Int) := if s.kind = 1 then incS m s.id else m
def allS (L : List (List Int)) (ss : List Stp) : List (Int × Int) := ss.foldl allF (allTo1 L.length)
set_option maxRecDepth 16000 in
theorem tAll_ok (v : Int) (L : List (List Int)) (ss : List Stp) (hn : L.length + ss.length ≤ 90000) :
    APure Tryz.prog 109 [.agg [I64 v, .seq false 1 (L.map crowF)], .seq false 4 (ss.map stpR)] (fun r => r = .omap true (mapE fI (allS L ss))) := by
  refine apure1 hmo Tryz.func109 (by kernel_rfl) rfl rfl (by kernel_rfl) (Nat.le_of_ble_eq_true rfl) ?_
  simp
  obtain ⟨F, hF⟩ : ∃ F : List SV, F = [.pv (I64 v), .pv (.seq false 1 (L.map crowF))] := ⟨_, rfl⟩
  have hFb : ∀ k, belowC k F := fun k => by rw [hF]; exact ⟨trivial, belowR_crowF _ _, trivial⟩
  rw [← hF]
  obtain ⟨A, hA⟩ : ∃ A : Nat → List (Int × Int), ∀ i, A i = allTo1 i := ⟨_, fun _ => rfl⟩
  have hbE : ∀ (k : Nat) (m : List (Int × Int)), belowE k (mapE fI m) := fun k m => by simp
  refine ALoop.intro (S := fun (i : Nat) => ⟨[(1, .pv (.seq false 4 (ss.map stpR))), (5, .omap true (mapE fI (A i))), (12, .pv (I64 L.length)), (13, .pv (I64 i))], [F]⟩) (fun i => i ≤ L.length) (fun i => L.length - i) 0 ?_ (Nat.zero_le _) ?_
  · exact Weak.keep (by simp [hA, allTo1, mapE]) (by simp)
  intro i hi
  by_cases h : i < L.length
  · have hw : w64 ((i : Int) + 1) = ((i + 1 : Nat) : Int) := by rw [w64_id (by omega) (by omega)]; omega
    have hAs : A (i + 1) = pt (A i) ((i + 1 : Nat) : Int) (w64 ((lk (A i) ((i + 1 : Nat) : Int)).getD 0 + 1)) := by rw [hA, hA]; rfl
    simp [h, hw]
    exact ⟨i + 1, by (try dsimp only); omega, by (try dsimp only); omega, Weak.keep (by simp [hw, hAs]) (by simp)⟩
  · have hie : i = L.length := by omega
    subst hie
    simp
    obtain ⟨B, hB⟩ : ∃ B : Nat → List (Int × Int), ∀ i, B i = (ss.take i).foldl allF (allTo1 L.length) := ⟨_, fun _ => rfl⟩
    refine ALoop.intro (S := fun (i : Nat) => ⟨[(5, .omap true (mapE fI (B i))), (22, .pv (.seq false 4 (ss.map stpR))), (23, .pv (I64 ss.length)), (24, .pv (I64 i))], [F]⟩) (fun i => i ≤ ss.length) (fun i => ss.length - i) 0 ?_ (Nat.zero_le _) ?_
    · exact Weak.keep (by simp [hA, hB]) (by simp)
    intro j hj
    by_cases d : j < ss.length
    · have hw : w64 ((j : Int) + 1) = ((j + 1 : Nat) : Int) := by rw [w64_id (by omega) (by omega)]; omega
      have hBs : B (j + 1) = allF (B j) ss[j] := by rw [hB, hB]; exact foldl_take_succ allF _ ss j d
      by_cases k1 : ss[j].kind = 1
      · have hBs' : B (j + 1) = pt (B j) ss[j].id (w64 ((lk (B j) ss[j].id).getD 0 + 1)) := by rw [hBs]; unfold allF; rw [if_pos k1]; rfl
        simp [d, stpR, k1]
        exact ⟨j + 1, by (try dsimp only); omega, by (try dsimp only); omega, Weak.to (by simp [hw, stpR, hBs']) rfl (by simp) (by simp) ⟨hFb _, trivial⟩⟩
      · have hBs' : B (j + 1) = B j := by rw [hBs]; unfold allF; rw [if_neg k1]
        simp [d, stpR, k1]
        exact ⟨j + 1, by (try dsimp only); omega, by (try dsimp only); omega, Weak.to (by simp [hw, stpR, hBs']) rfl (by simp) (by simp) ⟨hFb _, trivial⟩⟩
    · have hje : j = ss.length := by omega
      subst hje
      have hBe : B ss.length = allS L ss := by rw [hB, List.take_length]; rfl
      simp [hBe]
set_option maxRecDepth 16000 in
theorem marks1_ok (h : List (List SV)) (b : Nat) (m : List (Int × Int)) (hb : h[b]? = some [.omap true (mapE fI m)]) (s : Stp) (hh : s.hints.length ≤ 100000) :
    AMut Tryz.prog 150 [.agg (stpR s), .ptr b 0] h (fun r h' => h' = h.set b [.omap true (mapE fI (s.hints.foldl incS m))] ∧ r = .pv (.tup [])) := by
  refine amutXD [] [] (h.set b [.omap true (mapE fI (s.hints.foldl incS m))]) (by simp) (fun hh => by rw [List.length_set]; exact belowH_setT (x := [.omap true (mapE fI (s.hints.foldl incS m))]) ⟨by simp, trivial⟩ b hh) hmo Tryz.func150 (by kernel_rfl) rfl rfl (by kernel_rfl) (Nat.le_of_ble_eq_true rfl) ?_
  obtain ⟨hlt, hb'⟩ := List.getElem?_eq_some_iff.1 hb
  obtain ⟨M, hM⟩ : ∃ M : Nat → List (Int × Int), ∀ i, M i = (s.hints.take i).foldl incS m := ⟨_, fun _ => rfl⟩
  obtain ⟨G, hG⟩ : ∃ G : Nat → List (List SV), ∀ i, G i = h.set b [.omap true (mapE fI (M i))] ++ [[.pv (I64 s.kind), .pv (I64 s.id), .pv (.seq false 1 (irow s.lits)), .pv (.seq false 1 (irow s.hints))]] := ⟨_, fun _ => rfl⟩
  have hset : h.set b [.omap true (mapE fI m)] = h := by rw [← hb']; exact List.set_getElem_self hlt
  have hG0 : h ++ [[.pv (I64 s.kind), .pv (I64 s.id), .pv (.seq false 1 (irow s.lits)), .pv (.seq false 1 (irow s.hints))]] = G 0 := by
    rw [hG, hM]
    show _ = h.set b [.omap true (mapE fI m)] ++ _
    rw [hset]
  have hGl : ∀ i, b < (G i).length := fun i => by rw [hG]; simp; omega
  have hGl2 : ∀ i, h.length < (G i).length := fun i => by rw [hG]; simp
  have hGs2 : ∀ i, (G i)[h.length]'(hGl2 i) = [.pv (I64 s.kind), .pv (I64 s.id), .pv (.seq false 1 (irow s.lits)), .pv (.seq false 1 (irow s.hints))] := fun i => by
    simp only [hG]
    rw [List.getElem_append_right (by simp)]
    simp
  have hGb : ∀ i, (G i)[b]'(hGl i) = [.omap true (mapE fI (M i))] := fun i => by
    simp only [hG]
    rw [List.getElem_append_left (by simpa using hlt), List.getElem_set_self]
  have hGs : ∀ i, (G i).set b [.omap true (mapE fI (M (i + 1)))] = G (i + 1) := fun i => by
    rw [hG, hG, List.set_append_left _ _ (by simpa using hlt), List.set_set]
  simp [stpR]
  rw [hG0]
  have e1 := hGl2 0
  have e2 := hGs2 0
  try simp [e1, e2]
  refine ALoop.intro (S := fun (i : Nat) => ⟨[(1, .pv (.ptr b 0)), (6, .pv (.seq false 1 (irow s.hints))), (7, .pv (I64 s.hints.length)), (8, .pv (I64 i))], G i⟩) (fun i => i ≤ s.hints.length) (fun i => s.hints.length - i) 0 ?_ (Nat.zero_le _) ?_
  · exact Weak.keep (by simp) rfl
  intro i hi
  have hgl := hGl i
  have hgb := hGb i
  have hgs := hGs i
  by_cases d : i < s.hints.length
  · have hw : w64 ((i : Int) + 1) = ((i + 1 : Nat) : Int) := by rw [w64_id (by omega) (by omega)]; omega
    have hMs : M (i + 1) = pt (M i) s.hints[i] (w64 ((lk (M i) s.hints[i]).getD 0 + 1)) := by rw [hM, hM]; exact foldl_take_succ incS m s.hints i d
    rw [hMs] at hgs
    generalize M i = Mi at *
    simp [d, hgl, hgb]
    exact ⟨i + 1, by (try dsimp only); omega, by (try dsimp only); omega, Weak.keep (by simp [hw]) (by rw [← hgs])⟩
  · have hie : i = s.hints.length := by omega
    subst hie
    have hMe : M s.hints.length = s.hints.foldl incS m := by rw [hM, List.take_length]
    simp
    rw [hG, hMe, List.take_append_of_le_length (by simp), List.take_of_length_le (by simp)]
def mrkS (m : List (Int × Int)) (s : Stp) : List (Int × Int) := if s.kind = 1 ∧ 0 < (lk m s.id).getD 0 then s.hints.foldl incS m else m
def marR (m : List (Int × Int)) : List Stp → List (Int × Int)
  | [] => m
  | s :: ss => mrkS (marR m ss) s
def marksS (L : List (List Int)) (ss : List Stp) : List (Int × Int) := marR [(emptyS L ss, 1)] ss
set_option maxRecDepth 16000 in
theorem marks_ok (v : Int) (L : List (List Int)) (ss : List Stp) (hn : L.length + ss.length ≤ 90000) (hs : ∀ s ∈ ss, s.lits.length ≤ 100000 ∧ s.hints.length ≤ 100000) :
    APure Tryz.prog 110 [.agg [I64 v, .seq false 1 (L.map crowF)], .seq false 4 (ss.map stpR)] (fun r => r = .omap true (mapE fI (marksS L ss))) := by
  refine apure1 hmo Tryz.func110 (by kernel_rfl) rfl rfl (by kernel_rfl) (Nat.le_of_ble_eq_true rfl) ?_
  have hE := empty_ok v L ss hn
  have hM0 : marksS L ss = marR [(emptyS L ss, 1)] ss := rfl
  generalize marksS L ss = MS at *
  generalize emptyS L ss = E at *
  simp
  refine CallK.intro hE (by simp) ?_
  obtain ⟨M, hM⟩ : ∃ M : Nat → List (Int × Int), ∀ k, M k = marR [(E, 1)] (ss.drop k) := ⟨_, fun _ => rfl⟩
  have hMe : M ss.length = [(E, 1)] := by rw [hM, List.drop_eq_nil_of_le (Nat.le_refl _)]; rfl
  have hM00 : M 0 = MS := by rw [hM, hM0]; rfl
  have hwl : w64 ((ss.length : Int) - 1) = (ss.length : Int) - 1 := w64_id (by omega) (by omega)
  simp [hwl]
  obtain ⟨F, hF⟩ : ∃ F : List SV, F = [.pv (I64 v), .pv (.seq false 1 (L.map crowF))] := ⟨_, rfl⟩
  have hFb : ∀ k, belowC k F := fun k => by rw [hF]; exact ⟨trivial, belowR_crowF _ _, trivial⟩
  rw [← hF]
  refine ALoop.intro (S := fun (k : Nat) => ⟨[(1, .pv (.seq false 4 (ss.map stpR))), (5, .pv (.ptr 1 0)), (6, .pv (.fn (.func 150) [] [.ptr 1 0])), (7, .pv (I64 ((k : Int) - 1)))], [F, [.omap true (mapE fI (M k))]]⟩) (fun k => k ≤ ss.length) (fun k => k) ss.length ?_ (Nat.le_refl _) ?_
  · exact Weak.keep (by simp) (by simp [hMe, mapE, fI])
  intro k hk
  cases k with
  | zero =>
    rw [← hM00]
    simp
  | succ j =>
    have e : (((j + 1 : Nat) : Int) - 1) = (j : Int) := by omega
    have hj : j < ss.length := by omega
    have hw : w64 ((j : Int) - 1) = (j : Int) - 1 := w64_id (by omega) (by omega)
    have hMj : M j = mrkS (M (j + 1)) ss[j] := by rw [hM, hM, List.drop_eq_getElem_cons hj]; rfl
    have h1 := marks1_ok [F, [.omap true (mapE fI (M (j + 1)))]] 1 (M (j + 1)) rfl ss[j] (hs _ (List.getElem_mem hj)).2
    have hq : ss[j]? = some ss[j] := List.getElem?_eq_getElem hj
    unfold mrkS at hMj
    simp only [stpR] at h1
    generalize M (j + 1) = Mj at *
    by_cases k1 : ss[j].kind = 1
    · by_cases k2 : 0 < (lk Mj ss[j].id).getD 0
      · rw [if_pos ⟨k1, k2⟩] at hMj
        rw [k1] at h1
        simp [e, hj, hq, stpR, k1, k2]
        refine CallB.intro h1 (by simp) ?_
        rintro _ _ ⟨rfl, rfl⟩
        simp
        exact ⟨j, by (try dsimp only); omega, by (try dsimp only); omega, Weak.keep (by simp [hw, stpR]) (by simp [hMj])⟩
      · rw [if_neg (fun e => k2 e.2)] at hMj
        simp [e, hj, hq, stpR, k1, k2]
        exact ⟨j, by (try dsimp only); omega, by (try dsimp only); omega, Weak.keep (by simp [hw, stpR]) (by simp [hMj])⟩
    · rw [if_neg (fun e => k1 e.1)] at hMj
      simp [e, hj, hq, stpR, k1]
      exact ⟨j, by (try dsimp only); omega, by (try dsimp only); omega, Weak.keep (by simp [hw, stpR]) (by simp [hMj])⟩
def neeM (v : Int) (L : List (List Int)) (ss : List Stp) : List (Int × Int) := if plnS v L ss = true then marksS L ss else allS L ss
set_option maxRecDepth 16000 in
theorem needed_ok (v : Int) (L : List (List Int)) (ss : List Stp) (hn : L.length + ss.length ≤ 90000) (hL : ∀ c ∈ L, c.length ≤ 100000) (hs : ∀ s ∈ ss, s.lits.length ≤ 100000 ∧ s.hints.length ≤ 100000) :
    APure Tryz.prog 59 [.agg [I64 v, .seq false 1 (L.map crowF)], .seq false 4 (ss.map stpR)] (fun r => r = .pv (.tup [if (chkS v L ss).2 ≠ 0 then .lit (.map none) else .amap true (mapE fI (neeM v L ss)), I64 (chkS v L ss).2])) := by
  refine apureX [] [.tmp 4, .tmp 5] hmo Tryz.func59 (by kernel_rfl) rfl rfl (by kernel_rfl) (Nat.le_of_ble_eq_true rfl) ?_
  have hC := lcheck_ok v L ss hn hL hs
  have hP := plain_ok v L ss hn hL hs
  have hA := tAll_ok v L ss hn
  have hM := marks_ok v L ss hn hs
  have hN : neeM v L ss = if plnS v L ss = true then marksS L ss else allS L ss := rfl
  generalize chkS v L ss = C at *
  obtain ⟨c1, c2⟩ := C
  simp only at *
  generalize neeM v L ss = N at *
  simp
  refine CallK.intro hC (by simp) ?_
  by_cases c : c2 = 0
  rotate_left
  · simp [c]
  subst c
  simp
  refine CallK.intro hP (by simp) ?_
  cases d : plnS v L ss
  · rw [if_neg (by simp [d])] at hN
    subst hN
    simp
    refine CallK.intro hA (by simp) ?_
    simp
  · rw [if_pos d] at hN
    subst hN
    simp
    refine CallK.intro hM (by simp) ?_
    simp
end Go.AX

namespace Go.AX
open Go.Proofs
set_option linter.unusedSimpArgs false
def numR (q : Int × List Int) : List PV := [I64 q.1, .seq false 1 (irow q.2)]
abbrev ckD (nw : Bool) (c : Ck) : PV := .agg [.seq nw 2 (c.m.map numR), I64 c.last, BL c.done]
@[simp] theorem belowR_numR (k : Nat) (l : List (Int × List Int)) : belowR k (l.map numR) := by
  induction l with
  | nil => trivial
  | cons x xs ih => exact ⟨⟨trivial, belowR_irow k _, trivial⟩, ih⟩
@[simp] theorem frzR_numR (r : Nat → Nat → PV) (l : List (Int × List Int)) : frzR r (l.map numR) = l.map numR := by
  rw [frzR_map, List.map_map]
  apply List.map_congr_left
  intro x _
  simp [numR]
theorem lk_ahead {α : Type} {l : List (Int × α)} {id : Int} : ∀ {i : Nat}, i ≤ l.length → (∀ k (_ : k < l.length), k < i → l[k].1 ≠ id) → lk l id = lk (l.drop i) id
  | 0, _, _ => rfl
  | i + 1, h, ho => by
    rw [lk_ahead (i := i) (by omega) (fun k h1 h2 => ho k h1 (by omega)), List.drop_eq_getElem_cons (show i < l.length by omega)]
    have := ho i (by omega) (by omega)
    rw [show l[i] = (l[i].1, l[i].2) from rfl, lk, if_neg this]
theorem lk_found {α : Type} {l : List (Int × α)} {id : Int} {i : Nat} (h : i < l.length) (ho : ∀ k (_ : k < l.length), k < i → l[k].1 ≠ id) (he : l[i].1 = id) : lk l id = some l[i].2 := by
  rw [lk_ahead (Nat.le_of_lt h) ho, List.drop_eq_getElem_cons h, show l[i] = (l[i].1, l[i].2) from rfl, lk, if_pos he]
theorem lk_none' {α : Type} {l : List (Int × α)} {id : Int} (ho : ∀ k (_ : k < l.length), l[k].1 ≠ id) : lk l id = none := by
  rw [lk_ahead (Nat.le_refl _) (fun k h _ => ho k h), List.drop_eq_nil_of_le (Nat.le_refl _)]
  rfl
set_option maxRecDepth 16000 in
theorem rfind_ok (g : List (List SV)) (c : Ck) (id : Int) (hl : c.m.length ≤ 100000) : AMut Tryz.prog 125 [ckD false c, I64 id] g (fun r g' => g' = g ∧ r = .pv (.tup [.seq false 1 (irow ((lk c.m id).getD [])), BL (lk c.m id).isSome])) := by
  refine AMut.below (by kernel_rfl) fun hh => ?_
  refine amutXW [] [.tmp 4, .tmp 5] hmo Tryz.func125 (by kernel_rfl) rfl rfl (by kernel_rfl) (Nat.le_of_ble_eq_true rfl) ?_
  obtain ⟨G, hG⟩ : ∃ G : List (List SV), G = g ++ [[.pv (.seq false 2 (c.m.map numR)), .pv (I64 c.last), .pv (BL c.done)]] := ⟨_, rfl⟩
  have hGl : g.length < G.length := by rw [hG]; simp
  have hGs : G[g.length] = [.pv (.seq false 2 (c.m.map numR)), .pv (I64 c.last), .pv (BL c.done)] := by simp [hG]
  have hGt : G.take g.length = g := by rw [hG]; simp
  have hL : ∀ x : Option (List Int), lk c.m id = x → (lk c.m id).getD [] = x.getD [] ∧ (lk c.m id).isSome = x.isSome := fun x h => by rw [h]; exact ⟨rfl, rfl⟩
  generalize (lk c.m id).getD [] = L1 at *
  generalize (lk c.m id).isSome = L2 at *
  simp
  rw [← hG]
  refine ALoop.intro (S := fun (i : Nat) => ⟨[(1, .pv (I64 id)), (2, .pv (.ptr g.length 0)), (6, .pv (I64 i))], G⟩) (fun i => i ≤ c.m.length ∧ ∀ k (_ : k < c.m.length), k < i → c.m[k].1 ≠ id) (fun i => c.m.length - i) 0 ?_ ⟨Nat.zero_le _, fun k _ h => by omega⟩ ?_
  · exact Weak.keep (by simp) rfl
  rintro i ⟨hi, ho⟩
  by_cases d : i < c.m.length
  · have hw : w64 ((i : Int) + 1) = ((i + 1 : Nat) : Int) := by rw [w64_id (by omega) (by omega)]; omega
    have hq : c.m[i]? = some c.m[i] := List.getElem?_eq_getElem d
    by_cases e : c.m[i].1 = id
    · obtain ⟨rfl, rfl⟩ := hL _ (lk_found d ho e)
      simp [d, hGl, hGs, hq, numR, e, wkP, wkPL]
      try exact hGt
    · simp [d, hGl, hGs, hq, numR, e]
      refine ⟨i + 1, by (try dsimp only); omega, ⟨by (try dsimp only); omega, fun k h1 h2 => ?_⟩, Weak.keep (by simp [hw]) (by simp)⟩
      by_cases ek : k = i
      · subst ek; exact e
      · exact ho k h1 (by omega)
  · have hie : i = c.m.length := by omega
    subst hie
    obtain ⟨rfl, rfl⟩ := hL _ (lk_none' (fun k h => ho k h h))
    simp [hGl, hGs, wkP, wkPL, irow]
    try exact hGt
def dIds (c : Ck) : List Int := c.m.map (·.1)
set_option maxRecDepth 16000 in
theorem rids_ok (c : Ck) (hl : c.m.length ≤ 100000) : APure Tryz.prog 167 [ckD false c] (fun r => r = .own true 1 (irow (dIds c))) := by
  refine apure1 hmo Tryz.func167 (by kernel_rfl) rfl rfl (by kernel_rfl) (Nat.le_of_ble_eq_true rfl) ?_
  obtain ⟨Q, hQ⟩ : ∃ Q : Nat → List (List PV), ∀ i, Q i = irow ((c.m.take i).map (·.1)) := ⟨_, fun _ => rfl⟩
  have hQ0 : Q 0 = [] := by rw [hQ]; rfl
  have hQe : Q c.m.length = irow (dIds c) := by rw [hQ, List.take_length]; rfl
  have hQs : ∀ i (h : i < c.m.length), Q (i + 1) = Q i ++ [[I64 c.m[i].1]] := fun i h => by
    rw [hQ, hQ, List.take_add_one, List.getElem?_eq_getElem h, List.map_append]
    unfold irow
    rw [List.map_append]; rfl
  have hQl : ∀ i, (Q i).length ≤ c.m.length := fun i => by rw [hQ]; simp [irow]; omega
  simp
  refine ALoop.intro (S := fun (i : Nat) => ⟨[(1, .pv (.ptr 0 0)), (3, .own true 1 (Q i)), (4, .pv (I64 i))], [[.pv (.seq false 2 (c.m.map numR)), .pv (I64 c.last), .pv (BL c.done)]]⟩) (fun i => i ≤ c.m.length) (fun i => c.m.length - i) 0 ?_ (Nat.zero_le _) ?_
  · exact (Weak.nilOwn (s := 3) 1 true (by simp)).trans (Weak.keep (by simp [hQ0]) (by simp))
  intro i hi
  have hql := hQl i
  by_cases d : i < c.m.length
  · have hw : w64 ((i : Int) + 1) = ((i + 1 : Nat) : Int) := by rw [w64_id (by omega) (by omega)]; omega
    have hq : c.m[i]? = some c.m[i] := List.getElem?_eq_getElem d
    have hqs := hQs i d
    simp [d, hq, numR]
    exact ⟨by omega, i + 1, by (try dsimp only); omega, by (try dsimp only); omega, Weak.keep (by simp [hw, hqs]) (by simp [numR])⟩
  · have : i = c.m.length := by omega
    subst this
    simp [hQe]
theorem rsize_ok (n : Int) : APure Tryz.prog 164 [I64 n] (fun r => r = .pv (I64 (if n < 0 then w64 (-n) else n))) := by
  refine apure1 hmo Tryz.func164 (by kernel_rfl) rfl rfl (by kernel_rfl) (Nat.le_of_ble_eq_true rfl) ?_
  by_cases c : n < 0
  · simp [c]
  · simp [c]
end Go.AX

namespace Go.AX
open Go.Proofs
set_option linter.unusedSimpArgs false
def sizD (n : Int) : Int := if n < 0 then w64 (-n) else n
def thereD (c : Ck) (ids : List Int) : Bool := ids.all fun id => (lk c.m (sizD id)).isSome
def thdSch : Sch :=
  let s0 : Sch := .fork [(6, .take 7 (.take 8 (.take 9 (.take 10 (.take 11 .done)))))]
  let s1 : Sch := .fork [(5, s0)]
  let s2 : Sch := .fork [(4, s1)]
  let s3 : Sch := .fork [(0, s0)]
  let s4 : Sch := .fork [(0, s1), (5, s3)]
  let s5 : Sch := .fork [(0, s2), (4, s4)]
  .take 1 (.take 2 (.take 3 s5))
set_option maxRecDepth 16000 in
theorem rthere_ok (c : Ck) (ids : List Int) (hl : c.m.length ≤ 100000) (hi : ids.length ≤ 1000000) : APure Tryz.prog 130 [ckD false c, .seq false 1 (irow ids)] (fun r => r = .pv (BL (thereD c ids))) := by
  refine apure1B [4] hmo Tryz.func130 (by kernel_rfl) rfl rfl (by kernel_rfl) (Nat.le_of_ble_eq_true rfl) ?_
  have hT : thereD c ids = ids.all fun id => (lk c.m (sizD id)).isSome := rfl
  generalize thereD c ids = T at *
  simp
  refine ALoop.intro (S := fun (i : Nat) => ⟨[(1, .pv (.seq false 1 (irow ids))), (2, .pv (.ptr 0 0)), (5, .pv (I64 i))], [[.pv (.seq false 2 (c.m.map numR)), .pv (I64 c.last), .pv (BL c.done)]]⟩) (fun i => i ≤ ids.length ∧ ∀ k (_ : k < ids.length), k < i → (lk c.m (sizD ids[k])).isSome = true) (fun i => ids.length - i) 0 ?_ ⟨Nat.zero_le _, fun k _ h => by omega⟩ ?_
  · exact Weak.keep (by simp) (by simp)
  rintro i ⟨hi', ho⟩
  by_cases d : i < ids.length
  · have hw : w64 ((i : Int) + 1) = ((i + 1 : Nat) : Int) := by rw [w64_id (by omega) (by omega)]; omega
    have hq : ids[i]? = some ids[i] := List.getElem?_eq_getElem d
    have hF := (rfind_ok [] c (sizD ids[i]) hl).mono (R' := fun r _ => r = .pv (.tup [.seq false 1 (irow ((lk c.m (sizD ids[i])).getD [])), BL (lk c.m (sizD ids[i])).isSome])) fun _ _ h => h.2
    have hZ := rsize_ok ids[i]
    have hZ' : APure Tryz.prog 164 [I64 ids[i]] (fun r => r = .pv (I64 (sizD ids[i]))) := hZ
    generalize hLr : (lk c.m (sizD ids[i])).getD [] = Lr at *
    cases e : (lk c.m (sizD ids[i])).isSome
    · have hTf : T = false := by
        rw [hT, List.all_eq_false]
        exact ⟨ids[i], List.getElem_mem d, by rw [e]; simp⟩
      rw [e] at hF
      subst hTf
      simp [d, hq]
      refine AAnyD.one thdSch (by kernel_rfl) ?_
      simp [thdSch, d, hq]
      refine ⟨?_, ?_, ?_⟩
      all_goals
        refine CallK.intro hZ' (by simp) ?_
        simp [d, hq]
        refine CallK.introX (CallX.pureM (p := []) (q := []) (zs := [ckD false c, I64 (sizD ids[i])]) hF (by simp) rfl (by simp [argsPv]) (by simp) (by simp) ?_)
        simp
    · rw [e] at hF
      simp [d, hq]
      refine AAnyD.one thdSch (by kernel_rfl) ?_
      simp [thdSch, d, hq]
      refine ⟨?_, ?_, ?_⟩
      all_goals
        refine CallK.intro hZ' (by simp) ?_
        simp [d, hq]
        refine CallK.introX (CallX.pureM (p := []) (q := []) (zs := [ckD false c, I64 (sizD ids[i])]) hF (by simp) rfl (by simp [argsPv]) (by simp) (by simp) ?_)
        simp
        refine ⟨i + 1, by (try dsimp only); omega, ⟨by (try dsimp only); omega, fun k h1 h2 => ?_⟩, Weak.keep (by simp [hw]) (by simp)⟩
        by_cases ek : k = i
        · subst ek; exact e
        · exact ho k h1 (by omega)
  · have : i = ids.length := by omega
    subst this
    have hTt : T = true := by
      rw [hT, List.all_eq_true]
      intro x hx
      obtain ⟨k, hk, rfl⟩ := List.getElem_of_mem hx
      exact ho k hk hk
    subst hTt
    simp
def drwSch : Sch :=
  let s0 : Sch := .fork [(5, .take 6 (.take 7 (.take 8 (.take 9 (.take 10 .done)))))]
  let s1 : Sch := .fork [(4, s0)]
  let s2 : Sch := .fork [(0, s0)]
  let s3 : Sch := .fork [(0, s1), (4, s2)]
  .take 1 (.take 2 (.take 3 s3))
set_option maxRecDepth 16000 in
theorem rrows_ok (g : List (List SV)) (c : Ck) (ids : List Int) (hl : c.m.length ≤ 100000) (hi : ids.length ≤ 1000000) : AMut Tryz.prog 166 [ckD false c, .seq false 1 (irow ids)] g (fun r g' => g' = g ∧ r = .pv (.seq true 1 ((rowsS c ids).map crowF))) := by
  refine AMut.below (by kernel_rfl) fun hh => ?_
  refine amutXW [5] [.tmp 4] hmo Tryz.func166 (by kernel_rfl) rfl rfl (by kernel_rfl) (Nat.le_of_ble_eq_true rfl) ?_
  obtain ⟨G, hG⟩ : ∃ G : List (List SV), G = g ++ [[.pv (.seq false 2 (c.m.map numR)), .pv (I64 c.last), .pv (BL c.done)]] := ⟨_, rfl⟩
  have hGl : g.length < G.length := by rw [hG]; simp
  have hGs : G[g.length] = [.pv (.seq false 2 (c.m.map numR)), .pv (I64 c.last), .pv (BL c.done)] := by simp [hG]
  have hGt : G.take g.length = g := by rw [hG]; simp
  obtain ⟨Q, hQ⟩ : ∃ Q : Nat → List (List PV), ∀ i, Q i = (rowsS c (ids.take i)).map crowF := ⟨_, fun _ => rfl⟩
  have hQ0 : Q 0 = [] := by rw [hQ]; rfl
  have hQe : Q ids.length = (rowsS c ids).map crowF := by rw [hQ, List.take_length]
  have hQs : ∀ i (h : i < ids.length), Q (i + 1) = Q i ++ [[.seq false 1 (irow ((lk c.m ids[i]).getD []))]] := fun i h => by
    rw [hQ, hQ, List.take_add_one, List.getElem?_eq_getElem h]
    unfold rowsS
    rw [List.map_append, List.map_append]; rfl
  have hQl : ∀ i, (Q i).length ≤ ids.length := fun i => by rw [hQ]; simp [rowsS]; omega
  simp
  rw [← hG]
  refine ALoop.intro (S := fun (i : Nat) => ⟨[(1, .pv (.seq false 1 (irow ids))), (2, .pv (.ptr g.length 0)), (5, .own true 1 (Q i)), (6, .pv (I64 i))], G⟩) (fun i => i ≤ ids.length) (fun i => ids.length - i) 0 ?_ (Nat.zero_le _) ?_
  · exact (Weak.nilOwn (s := 5) 1 true (by simp)).trans (Weak.keep (by simp [hQ0]) (by simp))
  intro i hi'
  have hql := hQl i
  by_cases d : i < ids.length
  · have hw : w64 ((i : Int) + 1) = ((i + 1 : Nat) : Int) := by rw [w64_id (by omega) (by omega)]; omega
    have hq : ids[i]? = some ids[i] := List.getElem?_eq_getElem d
    have hqs := hQs i d
    have hF := (rfind_ok [] c ids[i] hl).mono (R' := fun r _ => r = .pv (.tup [.seq false 1 (irow ((lk c.m ids[i]).getD [])), BL (lk c.m ids[i]).isSome])) fun _ _ h => h.2
    generalize (lk c.m ids[i]).getD [] = Lr at *
    generalize (lk c.m ids[i]).isSome = e at *
    simp [d, hq, hGl, hGs]
    refine AAnyD.one drwSch (by kernel_rfl) ?_
    simp [drwSch, d, hq, hGl, hGs]
    refine ⟨?_, ?_⟩
    all_goals
      refine CallK.introX (CallX.pureM (p := []) (q := []) (zs := [ckD false c, I64 ids[i]]) hF (by simp) rfl (by simp [argsPv]) (by simp) (by simp) ?_)
      simp
      refine ⟨by omega, i + 1, by (try dsimp only); omega, by (try dsimp only); omega, Weak.keep (by simp [hw, hqs]) rfl⟩
  · have : i = ids.length := by omega
    subst this
    simp [hQe, hGt, wkP]
end Go.AX

namespace Go.AX
open Go.Proofs
set_option linter.unusedSimpArgs false
def fltD (m : List (Int × List Int)) (id : Int) : List (Int × List Int) := m.filter fun q => decide (q.1 ≠ id)
def drpGo : List (Int × List Int) → List Int → List (Int × List Int) × Int
  | m, [] => (m, 0)
  | m, id :: ids => if (lk m id).isSome = false then (m, 20) else drpGo (fltD m id) ids
set_option maxRecDepth 16000 in
theorem rdrop_ok (c : Ck) (ids : List Int) (hl : c.m.length ≤ 100000) (hi : ids.length ≤ 1000000) : AMut Tryz.prog 128 [ckD false c, .seq false 1 (irow ids)] [] (fun r g' => g' = [] ∧ r = .pv (.tup [ckD false ⟨(drpGo c.m ids).1, c.last, c.done⟩, I64 (drpGo c.m ids).2])) := by
  refine amutXW [4] [.cell 4 _, .tmp 5] hmo Tryz.func128 (by kernel_rfl) rfl rfl (by kernel_rfl) (Nat.le_of_ble_eq_true rfl) ?_
  have hD : drpGo c.m ids = drpGo c.m (ids.drop 0) := rfl
  generalize drpGo c.m ids = D at *
  simp
  refine ALoop.intro (S := fun (x : Nat × List (Int × List Int) × Bool) => ⟨[(1, .pv (.seq false 1 (irow ids))), (2, .pv (.ptr 0 0)), (4, .pv (.ptr 1 0)), (6, .pv (I64 x.1))], [[.pv (.seq x.2.2 2 (x.2.1.map numR)), .pv (I64 c.last), .pv (BL c.done)], [.pv (.lit (.slice none 0 0)), .pv (I64 0), .pv (BL false)]]⟩) (fun x => x.1 ≤ ids.length ∧ x.2.1.length ≤ 100000 ∧ D = drpGo x.2.1 (ids.drop x.1)) (fun x => ids.length - x.1) (0, c.m, false) ?_ ⟨Nat.zero_le _, hl, hD⟩ ?_
  · exact Weak.keep (by simp) (by simp)
  rintro ⟨i, m, nw⟩ ⟨hi', hm, hDi⟩
  dsimp only at hi' hm hDi
  by_cases d : i < ids.length
  · have hw : w64 ((i : Int) + 1) = ((i + 1 : Nat) : Int) := by rw [w64_id (by omega) (by omega)]; omega
    have hq : ids[i]? = some ids[i] := List.getElem?_eq_getElem d
    rw [List.drop_eq_getElem_cons d, drpGo] at hDi
    have hF := ((rfind_ok [] ⟨m, c.last, c.done⟩ ids[i] hm).args (xs := [ckD nw ⟨m, c.last, c.done⟩, I64 ids[i]]) (by simp [wkPL, wkP])).mono (R' := fun r _ => r = .pv (.tup [.seq false 1 (irow ((lk m ids[i]).getD [])), BL (lk m ids[i]).isSome])) fun _ _ h => h.2
    generalize (lk m ids[i]).getD [] = Lr at *
    cases e : (lk m ids[i]).isSome
    · rw [if_pos e] at hDi
      rw [e] at hF
      subst hDi
      simp [d, hq]
      refine AAnyD.one drwSch (by kernel_rfl) ?_
      simp [drwSch, d, hq]
      refine ⟨?_, ?_⟩
      all_goals
        refine CallK.introX (CallX.pureM (p := []) (q := []) (zs := [ckD nw ⟨m, c.last, c.done⟩, I64 ids[i]]) hF (by simp) rfl (by simp [argsPv]) (by simp) (by simp) ?_)
        simp [wkP, wkPL]
    · rw [if_neg (by rw [e]; simp)] at hDi
      rw [e] at hF
      obtain ⟨W, hW⟩ : ∃ W : Nat → List (List PV), ∀ j, W j = (fltD (m.take j) ids[i]).map numR := ⟨_, fun _ => rfl⟩
      have hW0 : W 0 = [] := by rw [hW]; rfl
      have hWe : W m.length = (fltD m ids[i]).map numR := by rw [hW, List.take_length]
      have hWs : ∀ j (h : j < m.length), W (j + 1) = if m[j].1 = ids[i] then W j else W j ++ [numR m[j]] := fun j h => by
        rw [hW, hW, List.take_add_one, List.getElem?_eq_getElem h]
        unfold fltD
        rw [List.filter_append, List.map_append]
        show _ ++ List.map numR (List.filter _ [m[j]]) = _
        rw [List.filter_cons, List.filter_nil]
        by_cases e : m[j].1 = ids[i]
        · rw [if_pos e]; simp [e]
        · rw [if_neg e]; simp [e]
      have hWl : ∀ j, (W j).length ≤ m.length := fun j => by
        rw [hW, List.length_map]
        exact Nat.le_trans (List.length_filter_le _ _) (by rw [List.length_take]; exact Nat.min_le_right _ _)
      simp [d, hq]
      refine AAnyD.one drwSch (by kernel_rfl) ?_
      simp [drwSch, d, hq]
      refine ⟨?_, ?_⟩
      all_goals
        refine CallK.introX (CallX.pureM (p := []) (q := []) (zs := [ckD nw ⟨m, c.last, c.done⟩, I64 ids[i]]) hF (by simp) rfl (by simp [argsPv]) (by simp) (by simp) ?_)
        simp
        refine ALoop.intro (S := fun (j : Nat) => ⟨[(1, .pv (.seq false 1 (irow ids))), (2, .pv (.ptr 0 0)), (4, .pv (.ptr 1 0)), (6, .pv (I64 i)), (9, .own true 2 (W j)), (10, .pv (I64 j))], [[.pv (.seq nw 2 (m.map numR)), .pv (I64 c.last), .pv (BL c.done)], [.pv (.lit (.slice none 0 0)), .pv (I64 0), .pv (BL false)]]⟩) (fun j => j ≤ m.length) (fun j => m.length - j) 0 ?_ (Nat.zero_le _) ?_
        · exact (Weak.nilOwn (s := 9) 2 true (by simp)).trans (Weak.keep (by simp [hW0]) (by simp))
        intro j hj
        have hwl := hWl j
        by_cases f : j < m.length
        · have hwj : w64 ((j : Int) + 1) = ((j + 1 : Nat) : Int) := by rw [w64_id (by omega) (by omega)]; omega
          have hqj : m[j]? = some m[j] := List.getElem?_eq_getElem f
          have hws := hWs j f
          by_cases k : m[j].1 = ids[i]
          · rw [if_pos k] at hws
            simp [f, d, hqj, hq, numR, k]
            refine ⟨j + 1, by (try dsimp only); omega, by (try dsimp only); omega, Weak.keep (by simp [hwj, hws]) (by simp [numR])⟩
          · rw [if_neg k] at hws
            simp [f, d, hqj, hq, numR, k]
            refine ⟨by omega, j + 1, by (try dsimp only); omega, by (try dsimp only); omega, Weak.keep (by simp [hwj, hws, numR]) (by simp [numR])⟩
        · have : j = m.length := by omega
          subst this
          simp
          have hfl : (fltD m ids[i]).length ≤ m.length := List.length_filter_le _ _
          refine ⟨(i + 1, fltD m ids[i], true), by (try dsimp only); omega, ⟨by (try dsimp only); omega, by (try dsimp only); omega, hDi⟩, (Weak.frzC (b := 0) (k := 0) (e := 2) (nw := true) (rows := W m.length) (by simp)).trans (Weak.keep (by simp [hw]) (by simp [hWe]))⟩
  · have : i = ids.length := by omega
    subst this
    rw [List.drop_eq_nil_of_le (Nat.le_refl _), drpGo] at hDi
    subst hDi
    simp [wkP, wkPL]
end Go.AX

namespace Go.AX
open Go.Proofs
set_option linter.unusedSimpArgs false
def eacR (e : Int × List (List Int)) : List PV := [I64 e.1, .seq false 1 (e.2.map crowF)]
@[simp] theorem belowR_eacR (k : Nat) (l : List (Int × List (List Int))) : belowR k (l.map eacR) := by
  induction l with
  | nil => trivial
  | cons x xs ih => exact ⟨⟨trivial, belowR_crowF k _, trivial⟩, ih⟩
@[simp] theorem frzR_eacR (r : Nat → Nat → PV) (l : List (Int × List (List Int))) : frzR r (l.map eacR) = l.map eacR := by
  rw [frzR_map, List.map_map]
  apply List.map_congr_left
  intro x _
  simp [eacR]
def ptA (E : List (Int × List (List Int))) : List (Int × List (List Int)) := E.foldl (fun m e => pt m e.1 e.2) []
def okE (cs : List (List Int)) (c l : List Int) (i : Int) (ok : Bool) (e : Int × List (List Int)) : Bool := if e.1 = i then decide (refE l (cs.getD i.toNat []) (c.headD 0) e.2 = 0) else ok
theorem okE_is (cs : List (List Int)) (c l : List Int) (i : Int) : ∀ (E : List (Int × List (List Int))) (m : List (Int × List (List Int))), E.foldl (okE cs c l i) (refB cs c l m i) = refB cs c l (E.foldl (fun m e => pt m e.1 e.2) m) i
  | [], m => rfl
  | e :: E, m => by
    rw [List.foldl_cons, List.foldl_cons, ← okE_is cs c l i E]
    congr 1
    unfold okE refB
    rw [lk_pt]
    by_cases h : e.1 = i
    · rw [if_pos h, if_pos h]
    · rw [if_neg h, if_neg h]
theorem okE_all (cs : List (List Int)) (c l : List Int) (i : Int) (E : List (Int × List (List Int))) : E.foldl (okE cs c l i) false = refB cs c l (ptA E) i := okE_is cs c l i E []
set_option maxRecDepth 16000 in
theorem refShow9_ok (cs : List (List Int)) (c : List Int) (ahead : List (List Int)) (E : List (Int × List (List Int))) (hn : cs.length ≤ 100000) (hcs : ∀ x ∈ cs, x.length ≤ 100000) (hc : c.length ≤ 100000) (ha : ahead.length ≤ 100000) (hah : ∀ x ∈ ahead, x.length ≤ 100000)
    (he : ∀ e ∈ E, e.2.length ≤ 100000 ∧ ∀ x ∈ e.2, x.length ≤ 100000) (hE : E.length ≤ 1000000) :
    APure Tryz.prog 168 [.seq false 1 (cs.map crowF), .seq false 1 (irow c), .seq false 1 (ahead.map crowF), .seq false 2 (E.map eacR)] (fun r => r = .pv (.tup [I64 (ratS cs c ahead (ptA E)).1, I64 (ratS cs c ahead (ptA E)).2])) := by
  refine apureN [8, 9] hmo Tryz.func168 (by kernel_rfl) rfl (fun _ _ => results_tmp2 rfl _ _ _) (by kernel_rfl) (Nat.le_of_ble_eq_true rfl) ?_
  have hSt := refStart8_ok c (by omega)
  have hle := staTo_le c c.length
  have hCh := fun g => refChain8_ok g (staL c) ahead (by unfold staL; omega) (fun x hx => by have := hah x hx; omega)
  have hlen := chnF_len ahead (staL c) 0
  have hR : staR c = if staE c = 0 then staL c else [] := rfl
  have hS : ratS cs c ahead (ptA E) = if staE c ≠ 0 then (-1, staE c) else if c = [] then (-1, 11) else if (chnF (staL c) ahead 0).2.2 ≠ 23 then (-1, (chnF (staL c) ahead 0).2.2)
    else ratGo (refB cs c (chnF (staL c) ahead 0).1 (ptA E)) (canS cs (c.headD 0) cs.length) (canS cs (c.headD 0) cs.length).length := rfl
  generalize ratS cs c ahead (ptA E) = S at *
  have hll : (staL c).length ≤ c.length := hle
  generalize chnF (staL c) ahead 0 = F at *
  obtain ⟨L, fn, fe⟩ := F
  simp only at hlen hS hCh
  simp
  refine CallK.intro hSt (by simp) ?_
  by_cases c1 : staE c = 0
  rotate_left
  · rw [if_pos c1] at hS
    subst hS
    simp [c1]
  rw [if_neg (by simp [c1])] at hS
  rw [if_pos c1] at hR
  rw [hR]
  by_cases c2 : c = []
  · rw [if_pos c2] at hS
    subst hS
    subst c2
    simp [c1]
  rw [if_neg c2] at hS
  have c2' : c.length ≠ 0 := fun e => c2 (List.length_eq_zero_iff.1 e)
  simp [c1, c2]
  refine CallK.introM (hCh _) (by simp) ?_
  rintro _ _ ⟨rfl, rfl⟩
  by_cases c3 : fe = 23
  rotate_left
  · rw [if_pos c3] at hS
    subst hS
    simp [c3]
  rw [if_neg (by simp [c3])] at hS
  obtain ⟨x, c', rfl⟩ : ∃ x c', c = x :: c' := by
    cases c with
    | nil => exact absurd rfl c2
    | cons x c => exact ⟨x, c, rfl⟩
  have hCa := refCands9_ok cs x (by omega) (fun y hy => by have := hcs y hy; omega)
  have hcl := canS_len cs x cs.length
  have hcm := canS_mem cs x cs.length
  simp only [List.headD_cons] at hS
  generalize hX : canS cs x cs.length = X at *
  clear hX
  simp [c3]
  refine CallK.intro hCa (by simp) ?_
  simp
  refine ALoop.intro (S := fun (i : Nat) => ⟨[(0, .pv (.seq false 1 (cs.map crowF))), (1, .pv (.seq false 1 (irow (x :: c')))), (3, .pv (.seq false 2 (E.map eacR))), (10, .pv (.seq false 1 (irow L))), (12, .own true 1 (irow X)), (13, .pv (I64 i))], []⟩) (fun i => i ≤ X.length ∧ S = ratGo (refB cs (x :: c') L (ptA E)) (X.drop i) X.length) (fun i => X.length - i) 0 ?_ ⟨Nat.zero_le _, hS⟩ ?_
  · exact Weak.keep (by simp) (by simp)
  rintro i ⟨hi, hSi⟩
  by_cases h : i < X.length
  · have hw : w64 ((i : Int) + 1) = ((i + 1 : Nat) : Int) := by rw [w64_id (by omega) (by omega)]; omega
    obtain ⟨k, hk, hxk⟩ := hcm _ (List.getElem_mem h)
    have hqx : X[i]? = some (k : Int) := by rw [List.getElem?_eq_getElem h, hxk]
    rw [List.drop_eq_getElem_cons h, ratGo, hxk] at hSi
    have hqk : cs[k]? = some cs[k] := List.getElem?_eq_getElem hk
    have hck := hcs _ (List.getElem_mem hk)
    have hgk : cs.getD ((k : Int)).toNat [] = cs[k] := by rw [Int.toNat_natCast, List.getD_eq_getElem?_getD, hqk]; rfl
    obtain ⟨O, hO⟩ : ∃ O : Nat → Bool, ∀ j, O j = (E.take j).foldl (okE cs (x :: c') L k) false := ⟨_, fun _ => rfl⟩
    have hO0 : O 0 = false := by rw [hO]; rfl
    have hOe : O E.length = refB cs (x :: c') L (ptA E) k := by rw [hO, List.take_length]; exact okE_all _ _ _ _ _
    have hOs : ∀ j (e : j < E.length), O (j + 1) = if E[j].1 = (k : Int) then decide (refE L cs[k] x E[j].2 = 0) else O j := fun j e => by
      rw [hO, hO, foldl_take_succ _ _ E j e]
      unfold okE
      rw [hgk]; rfl
    simp [h, hxk]
    refine ALoop.intro (S := fun (j : Nat) => ⟨[(0, .pv (.seq false 1 (cs.map crowF))), (1, .pv (.seq false 1 (irow (x :: c')))), (3, .pv (.seq false 2 (E.map eacR))), (10, .pv (.seq false 1 (irow L))), (12, .own true 1 (irow X)), (13, .pv (I64 i)), (14, .pv (BL (O j))), (15, .pv (I64 j))], []⟩) (fun j => j ≤ E.length) (fun j => E.length - j) 0 ?_ (Nat.zero_le _) ?_
    · exact Weak.keep (by simp [hO0]) (by simp)
    intro j hj
    by_cases e : j < E.length
    · have hwj : w64 ((j : Int) + 1) = ((j + 1 : Nat) : Int) := by rw [w64_id (by omega) (by omega)]; omega
      have hqj : E[j]? = some E[j] := List.getElem?_eq_getElem e
      have hej := he _ (List.getElem_mem e)
      have hos := hOs j e
      have hR9 : APure Tryz.prog 201 [.seq false 1 (irow L), .seq false 1 (irow cs[k]), I64 x, .seq false 1 (E[j].2.map crowF)] (fun r => r = .pv (I64 (refE L cs[k] x E[j].2))) :=
        AMut.pure ((refRefute9_ok [] L cs[k] x E[j].2 (by simp only [List.length_cons] at *; omega) (fun y hy => by have := hej.2 y hy; omega)).mono fun _ _ h => ⟨_, h.2, rfl⟩)
      by_cases f : E[j].1 = (k : Int)
      · rw [if_pos f] at hos
        simp [e, h, hqx, hqj, hqk, hk, hxk, eacR, f, crowF]
        refine CallQ0.intro hR9 (by simp) ?_
        simp
        refine ⟨j + 1, by (try dsimp only); omega, by (try dsimp only); omega, Weak.keep (by simp [hwj, hos]) (by simp)⟩
      · rw [if_neg f] at hos
        simp [e, h, hqx, hqj, hxk, eacR, f]
        refine ⟨j + 1, by (try dsimp only); omega, by (try dsimp only); omega, Weak.keep (by simp [hwj, hos, eacR]) (by simp)⟩
    · have : j = E.length := by omega
      subst this
      rw [hOe]
      cases hb : refB cs (x :: c') L (ptA E) k
      · rw [if_pos hb] at hSi
        subst hSi
        simp [h, hqx, hxk]
      · rw [if_neg (by simp [hb])] at hSi
        simp
        exact ⟨i + 1, by (try dsimp only); omega, ⟨by (try dsimp only); omega, hSi⟩, Weak.keep (by simp [hw]) (by simp)⟩
  · have hie : i = X.length := by omega
    subst hie
    rw [List.drop_eq_nil_of_le (Nat.le_refl _), ratGo] at hSi
    subst hSi
    simp
end Go.AX

namespace Go.AX
open Go.Proofs
set_option linter.unusedSimpArgs false
set_option maxRecDepth 16000 in
theorem refChk10_ok (s : Stp) (hl : s.lits.length ≤ 100000) (hh : s.hints.length ≤ 100000) : APure Tryz.prog 127 [.seq false 4 [stpR s]] (fun r => r = .pv (.tup [I64 (if mayP s = true then 1 else 0), I64 (if mayP s = true then 0 else 2)])) := by
  refine apureN [2, 3] hmo Tryz.func127 (by kernel_rfl) rfl (fun _ _ => results_tmp2 rfl _ _ _) (by kernel_rfl) (Nat.le_of_ble_eq_true rfl) ?_
  have hC := refClCheck_ok s.lits 100000 (by omega)
  have hW1 := refWthn10_ok s.hints (-10000000) (by omega)
  have hW2 := refWthn10_ok s.hints 1 (by omega)
  have hM : mayP s = (((((decide (s.kind = 1) && decide (1 ≤ s.id)) && decide (s.id ≤ 10000000)) && decide (chkC s.lits 100000 = 0)) && wthnS s.hints (-10000000)) || ((((decide (s.kind = 2) && decide (0 ≤ s.id)) && decide (s.id ≤ 10000000)) && decide (s.lits.length = 0)) && wthnS s.hints 1)) := by
    unfold mayP
    by_cases k1 : s.kind = 1
    · rw [if_pos k1]; simp [k1]
      simp only [Bool.and_assoc]
    · rw [if_neg k1]
      by_cases k2 : s.kind = 2
      · rw [if_pos k2]; simp [k2]; simp only [Bool.and_assoc]
      · rw [if_neg k2]; simp [k1, k2]
  generalize mayP s = M at *
  simp
  refine ALoop.intro (S := fun (i : Nat) => ⟨[(0, .pv (.seq false 4 [stpR s])), (4, .pv (I64 i))], []⟩) (fun i => i ≤ 1 ∧ (i = 1 → M = true)) (fun i => 1 - i) 0 ?_ ⟨Nat.zero_le _, fun h => by cases h⟩ ?_
  · exact Weak.keep (by simp) (by simp)
  rintro i ⟨hi, ho⟩
  by_cases d : i = 1
  · have := ho d
    subst d this
    simp
  · have : i = 0 := by omega
    subst this
    simp [stpR]
    refine CallG.intro (fun _ => hC) (by simp) ?_
    simp
    refine CallG.intro (fun _ => hW1) (by simp) ?_
    simp
    refine CallG.intro (fun _ => hW2) (by simp) ?_
    simp
    have hMf : M = false ↔ (((((¬s.kind = 1 ∨ s.id < 1) ∨ 10000000 < s.id) ∨ ¬chkC s.lits 100000 = 0) ∨ wthnS s.hints (-10000000) = false) ∧ ((((¬s.kind = 2 ∨ s.id < 0) ∨ 10000000 < s.id) ∨ ¬s.lits = []) ∨ wthnS s.hints 1 = false)) := by
      rw [hM, Bool.or_eq_false_iff]
      simp only [Bool.and_eq_false_iff, decide_eq_false_iff_not, Int.not_le, List.length_eq_zero_iff]
    refine ⟨fun h1 h2 => hMf.2 ⟨h1, h2⟩, fun h => ?_⟩
    have hMt : M = true := by
      cases hm : M
      · obtain ⟨h1, h2⟩ := hMf.1 hm
        obtain ⟨⟨⟨⟨k1, k2⟩, k3⟩, k4⟩, k5⟩ := h h1
        rcases h2 with (((h2 | h2) | h2) | h2) | h2
        · exact absurd k1 h2
        · omega
        · omega
        · exact absurd k4 h2
        · rw [k5] at h2; cases h2
      · rfl
    exact ⟨1, by (try dsimp only); omega, ⟨Nat.le_refl _, fun _ => hMt⟩, Weak.to (by simp [show w64 1 = 1 from w64_id (by omega) (by omega), stpR]) rfl (by simp) (by simp) (by simp)⟩
end Go.AX
