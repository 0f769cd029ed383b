/-
  Contracts: proof.Split: hints, parted.
  Contracts: proof.Check: steps that may be.
  Contracts: lrat.Checker: what it holds.
  Contracts: lrat.Checker, read only.
  Contracts: rat: candidates.
  Contracts: the document's candidates (layer 9).
  Plain facts: hints, parted by where they are below 0.
  Contracts: the document's Split.
  Contracts: the document's steps: within.
  Contracts: whether a formula may be: the program's, the document's.
-/
import Derived.Test.YthfhellfmbllhaaGreatS12AxTmB
import Derived.Test.YthfhellfmbllhaaGreatAxFz
namespace Go.AX
open Go.Proofs
set_option linter.unusedSimpArgs false
def splF (x : List Int × List (List Int)) (h : Int) : List Int × List (List Int) :=
  if h < 0 then (x.1, x.2 ++ [[h]]) else if x.2 = [] then (x.1 ++ [h], x.2) else (x.1, x.2.dropLast ++ [x.2.getLastD [] ++ [h]])
def splTo (hs : List Int) (i : Nat) : List Int × List (List Int) := (hs.take i).foldl splF ([], [])
def splS (hs : List Int) : List Int × List (List Int) := splTo hs hs.length
structure Bs where
  b : Nat
  n : Nat
  cap : Nat
def bsR (e : Bs) : List PV := [.bsl e.b 1 0 e.n e.cap]
def i64C (l : List Int) : List SV := l.map fun x => .pv (I64 x)
structure BsOk (h : List (List SV)) (e : Bs) (l : List Int) : Prop where
  n : e.n = l.length
  cap : e.n ≤ e.cap
  at' : ∃ sp, h[e.b]? = some (i64C l ++ sp) ∧ sp.length = e.cap - e.n
theorem splF_len (x : List Int × List (List Int)) (h : Int) : (splF x h).1.length + (splF x h).2.length ≤ x.1.length + x.2.length + 1 ∧ ∀ l ∈ (splF x h).2, ∃ l' , (l' = [] ∨ l' ∈ x.2) ∧ l.length ≤ l'.length + 1 := by
  unfold splF
  split
  · refine ⟨by simp; omega, fun l hl => ?_⟩
    rcases List.mem_append.1 hl with hl | hl
    · exact ⟨l, .inr hl, by omega⟩
    · rw [List.mem_singleton] at hl; subst hl; exact ⟨[], .inl rfl, by simp⟩
  · split
    · exact ⟨by simp; omega, fun l hl => ⟨l, .inr hl, by omega⟩⟩
    · rename_i hne
      have hp := List.length_pos_iff.2 hne
      refine ⟨by simp; omega, fun l hl => ?_⟩
      rcases List.mem_append.1 hl with hl | hl
      · exact ⟨l, .inr (List.dropLast_subset _ hl), by omega⟩
      · rw [List.mem_singleton] at hl
        subst hl
        refine ⟨x.2.getLastD [], .inr ?_, by simp⟩
        rw [List.getLastD_eq_getLast?, List.getLast?_eq_some_getLast hne]
        exact List.getLast_mem hne
theorem splTo_succ (hs : List Int) {i : Nat} (h : i < hs.length) : splTo hs (i + 1) = splF (splTo hs i) hs[i] := foldl_take_succ splF ([], []) hs i h
theorem splTo_len (hs : List Int) : ∀ i, i ≤ hs.length → (splTo hs i).1.length + (splTo hs i).2.length ≤ i ∧ ∀ l ∈ (splTo hs i).2, l.length ≤ i
  | 0, _ => by simp [splTo]
  | i + 1, h => by
    obtain ⟨h1, h2⟩ := splTo_len hs i (by omega)
    obtain ⟨h3, h4⟩ := splF_len (splTo hs i) hs[i]
    rw [splTo_succ hs (by omega)]
    refine ⟨by omega, fun l hl => ?_⟩
    obtain ⟨l', h5, h6⟩ := h4 l hl
    rcases h5 with rfl | h5
    · simp at h6; omega
    · have := h2 l' h5; omega
theorem last_set (l : List (List Int)) {m : Nat} (hm : l.length = m + 1) (h : Int) : l.dropLast ++ [l.getLastD [] ++ [h]] = l.set m ((l.getD m []) ++ [h]) := by
  have hne : l ≠ [] := fun e => by rw [e] at hm; simp at hm
  have h1 : l.getLastD [] = l.getD m [] := by
    rw [List.getLastD_eq_getLast?, List.getLast?_eq_getElem?, hm, Nat.add_sub_cancel, List.getD_eq_getElem?_getD]
  rw [h1]
  apply List.ext_getElem?
  intro k
  rw [List.getElem?_set]
  have hdl : l.dropLast.length = m := by rw [List.length_dropLast]; omega
  rcases Nat.lt_trichotomy k m with c | c | c
  · rw [List.getElem?_append_left (by omega), if_neg (by omega), List.getElem?_dropLast, if_pos (by omega)]
  · subst c
    rw [List.getElem?_append_right (by omega), if_pos rfl, if_pos (by omega), hdl, Nat.sub_self]
    rfl
  · rw [List.getElem?_eq_none (by rw [List.length_append, hdl, List.length_singleton]; omega), if_neg (by omega), List.getElem?_eq_none (by omega)]
theorem WeakE.of {k0 : Nat} {st S : St} (h : Weak k0 st S) : WeakE k0 st (fun _ : Unit => S) := fun g a w h0 hs => by
  obtain ⟨g', t, s'⟩ := h g a w h0 hs
  exact ⟨g', (), t, s'⟩
theorem BsOk.app {h : List (List SV)} {e : Bs} {l : List Int} (hb : BsOk h e l) (hlt : e.b < h.length) (B : List (List SV)) : BsOk (h ++ B) e l := ⟨hb.n, hb.cap, by
  obtain ⟨sp, h1, h2⟩ := hb.at'
  exact ⟨sp, by rw [List.getElem?_append_left hlt]; exact h1, h2⟩⟩
theorem BsOk.lt {h : List (List SV)} {e : Bs} {l : List Int} (hb : BsOk h e l) : e.b < h.length := by
  obtain ⟨sp, h1, _⟩ := hb.at'
  exact (List.getElem?_eq_some_iff.1 h1).1
theorem frz_groups {h : List (List SV)} {k : Nat} : ∀ {gs : List Bs} {L : List (List Int)}, gs.length = L.length → (∀ i (_ : i < gs.length) (_ : i < L.length), BsOk h gs[i] L[i]) → (∀ e ∈ gs, k ≤ e.b) → frzQR h k (gs.map bsR) (L.map crowF)
  | [], L, hl, _, _ => by
    have : L = [] := List.length_eq_zero_iff.1 hl.symm
    subst this; rfl
  | e :: gs, [], hl, _, _ => by cases hl
  | e :: gs, l :: L, hl, ho, hk => by
    obtain ⟨h1, h2, sp, h3, h4⟩ := ho 0 (Nat.zero_lt_succ _) (Nat.zero_lt_succ _)
    refine ⟨_, _, rfl, ⟨_, _, rfl, ⟨rfl, hk e List.mem_cons_self, l, [], sp, rfl, h1, h3, rfl⟩, rfl⟩, frz_groups (by simpa using hl) (fun i a b => ?_) (fun x hx => hk x (List.mem_cons_of_mem _ hx))⟩
    have := ho (i + 1) (by simpa using a) (by simpa using b)
    simpa using this
set_option maxRecDepth 16000 in
theorem prSplit_ok (g : List (List SV)) (hs : List Int) (hl : hs.length ≤ 1000000) : AMut Tryz.prog 191 [.seq false 1 (irow hs)] g (fun r g' => g' = g ∧ r = .pv (.tup [.seq true 1 (irow (splS hs).1), .seq true 1 ((splS hs).2.map crowF)])) := by
  refine amutXF [5, 7, 11] [.tmp 2, .tmp 3] hmo Tryz.func191 (by kernel_rfl) rfl rfl (by kernel_rfl) (Nat.le_of_ble_eq_true rfl) ?_
  simp
  refine ALoop.intro (S := fun (x : Nat × List Bs × List (List SV)) => ⟨[(2, .own true 1 (irow (splTo hs x.1).1)), (3, .own true 1 (x.2.1.map bsR)), (7, .pv (.seq false 1 (irow hs))), (8, .pv (I64 hs.length)), (9, .pv (I64 x.1))], g ++ x.2.2⟩) (fun x => x.1 ≤ hs.length ∧ x.2.1.length = (splTo hs x.1).2.length ∧ (∀ k (_ : k < x.2.1.length) (_ : k < (splTo hs x.1).2.length), BsOk (g ++ x.2.2) x.2.1[k] (splTo hs x.1).2[k]) ∧ (∀ e ∈ x.2.1, g.length ≤ e.b) ∧ (∀ j k (_ : j < x.2.1.length) (_ : k < x.2.1.length), j < k → x.2.1[j].b < x.2.1[k].b)) (fun x => hs.length - x.1) (0, [], []) ?_ ⟨Nat.zero_le _, rfl, (fun k h => by simp at h), (fun e he => by simp at he), (fun j k hj => by simp at hj)⟩ ?_
  · exact ((Weak.nilOwn (s := 2) 1 true (by simp)).trans (Weak.nilOwn (s := 3) 1 true (by simp))).trans (Weak.keep (by simp [splTo, irow]) (by simp))
  rintro ⟨i, gs, B⟩ ⟨hi, hgl, hok, hge, hlt⟩
  dsimp only at hi hgl hok hge hlt
  by_cases h : i < hs.length
  · have hw : w64 ((i : Int) + 1) = ((i + 1 : Nat) : Int) := by rw [w64_id (by omega) (by omega)]; omega
    have hF : splTo hs (i + 1) = splF (splTo hs i) hs[i] := foldl_take_succ splF ([], []) hs i h
    by_cases c1 : hs[i] < 0
    · have c1' : ¬ 0 ≤ hs[i] := by omega
      simp [h, c1, c1']
      refine ASem.blk [31] ?_
      simp
      intro cap hcap
      have e1 : splF (splTo hs i) hs[i] = ((splTo hs i).1, (splTo hs i).2 ++ [[hs[i]]]) := by unfold splF; rw [if_pos c1]
      rw [e1] at hF
      have hgn : gs.length ≤ 1000000 := by have := (splTo_len hs i hi).1; omega
      refine ⟨by omega, (i + 1, gs ++ [⟨g.length + B.length, 1, cap⟩], B ++ [.pv (I64 hs[i]) :: List.replicate (cap - 1) (.pv .bot)]), by (try dsimp only); omega, ⟨by (try dsimp only); omega, by rw [hF]; simp [hgl], ?_, ?_, ?_⟩, Weak.keep (by simp [hw, hF, bsR]) (by simp)⟩
      rotate_left
      · intro e he
        rcases List.mem_append.1 he with he | he
        · exact hge e he
        · rw [List.mem_singleton] at he; subst he; exact Nat.le_add_right _ _
      · intro j k hj hk hjk
        simp only [List.length_append, List.length_singleton] at hj hk
        have hj' : j < gs.length := by omega
        simp only [List.getElem_append_left hj']
        by_cases hk' : k < gs.length
        · simp only [List.getElem_append_left hk']; exact hlt j k hj' hk' hjk
        · have hke : k = gs.length := by omega
          subst hke
          simp only [List.getElem_append_right (Nat.le_refl _), Nat.sub_self, List.getElem_cons_zero]
          have := (hok j hj' (by omega)).lt
          rw [List.length_append] at this
          exact this
      dsimp only
      rw [hF]
      intro k hk1 hk2
      simp only [List.length_append, List.length_singleton] at hk1 hk2
      rw [← List.append_assoc]
      by_cases hk : k < gs.length
      · have hk' : k < (splTo hs i).2.length := by omega
        rw [List.getElem_append_left hk]
        simp only [List.getElem_append_left hk']
        exact (hok k hk hk').app (hok k hk hk').lt _
      · have hke : k = gs.length := by omega
        subst hke
        rw [List.getElem_append_right (Nat.le_refl _)]
        simp only [Nat.sub_self, List.getElem_cons_zero, hgl, List.getElem_append_right (Nat.le_refl _)]
        refine ⟨rfl, hcap, List.replicate (cap - 1) (.pv .bot), ?_, by simp⟩
        dsimp only
        rw [List.getElem?_append_right (by simp)]
        simp [i64C]
    · have c1' : 0 ≤ hs[i] := by omega
      by_cases c2 : gs = []
      · subst c2
        have hw1 : w64 (0 - 1) = -1 := by decide
        have hw2 : w64 (-1) = -1 := by decide
        have e1 : splF (splTo hs i) hs[i] = ((splTo hs i).1 ++ [hs[i]], (splTo hs i).2) := by
          unfold splF
          rw [if_neg c1, if_pos (List.length_eq_zero_iff.1 (by rw [← hgl]; rfl))]
        rw [e1] at hF
        have hal : (splTo hs i).1.length ≤ 1000000 := by have := (splTo_len hs i hi).1; omega
        simp [h, c1, c1', hw1, hw2]
        refine ⟨by omega, (i + 1, [], B), by (try dsimp only); omega, ⟨by (try dsimp only); omega, by rw [hF]; exact hgl, (fun k hk => by simp at hk), (fun e he => by simp at he), (fun j k hj => by simp at hj)⟩, Weak.keep (by simp [hw, hF, irow]) (by simp)⟩
      · have hgp : 0 < gs.length := List.length_pos_iff.2 c2
        obtain ⟨m, hm⟩ : ∃ m, gs.length = m + 1 := ⟨gs.length - 1, by omega⟩
        have hml : m < gs.length := by omega
        have hml2 : m < (splTo hs i).2.length := by omega
        have hwm : w64 ((gs.length : Int) - 1) = (m : Int) := by rw [w64_id (by omega) (by have := (splTo_len hs i hi).1; omega)]; omega
        obtain ⟨b1, b2, sp, b3, b4⟩ := hok m hml hml2
        have hll := (splTo_len hs i hi).2 _ (List.getElem_mem hml2)
        have hm0 : ¬ (m : Int) < 0 := by omega
        have hm0' : (0 : Int) ≤ m := by omega
        have hbs : (gs.map bsR)[m]? = some (bsR gs[m]) := by rw [List.getElem?_map, List.getElem?_eq_getElem hml]; rfl
        simp [h, c1, c1', hwm, hm0, hm0']
        refine ASem.blk [] ?_
        simp [hml, bsR]
        have hmem := List.getElem_mem hml
        have hgb := hge _ hmem
        have hbl : gs[m].b < g.length + B.length := by have := (hok m hml hml2).lt; rwa [List.length_append] at this
        have e1 : splF (splTo hs i) hs[i] = ((splTo hs i).1, (splTo hs i).2.set m ((splTo hs i).2[m] ++ [hs[i]])) := by
          unfold splF
          rw [if_neg c1, if_neg (fun e => by rw [e] at hml2; simp at hml2), last_set (splTo hs i).2 (m := m) (by omega), List.getD_eq_getElem?_getD, List.getElem?_eq_getElem hml2]
          rfl
        rw [e1] at hF
        generalize hL : (splTo hs i).2[m] = L at *
        generalize he : gs[m] = e at *
        have hX : (g ++ B)[e.b]?.getD [] = i64C L ++ sp := by rw [b3]; rfl
        have hiL : (i64C L).length = L.length := by unfold i64C; simp
        rw [hX]
        refine ⟨hbl, by rw [List.length_append, hiL]; omega, by omega, L.map I64, ?_, by simp [b1], fun hroom => ?_, fun hfull cap' hcap' => ?_⟩
        · rw [List.take_append_of_le_length (by omega), List.take_of_length_le (by omega)]
          unfold i64C
          rw [List.map_map]
          rfl
        · have hY : (i64C L ++ sp).take e.n ++ SV.pv (I64 hs[i]) :: (i64C L ++ sp).drop (e.n + 1) = i64C (L ++ [hs[i]]) ++ sp.drop 1 := by
            rw [List.take_append_of_le_length (by omega), List.take_of_length_le (by omega), List.drop_append, List.drop_of_length_le (by omega), hiL]
            have : e.n + 1 - L.length = 1 := by omega
            rw [this]
            unfold i64C
            simp
          have hset : ∀ Y, (g ++ B).set e.b Y = g ++ B.set (e.b - g.length) Y := fun Y => List.set_append_right _ _ hgb
          have hgk : ∀ k (hk : k < (gs.set m ⟨e.b, e.n + 1, e.cap⟩).length), k ≠ m → (gs.set m ⟨e.b, e.n + 1, e.cap⟩)[k] = gs[k]'(by simpa using hk) := fun k hk hne => List.getElem_set_ne (Ne.symm hne) _
          have hgm : ∀ (hk : m < (gs.set m ⟨e.b, e.n + 1, e.cap⟩).length), (gs.set m ⟨e.b, e.n + 1, e.cap⟩)[m] = ⟨e.b, e.n + 1, e.cap⟩ := fun hk => List.getElem_set_self _
          have hbb : ∀ k (hk : k < (gs.set m ⟨e.b, e.n + 1, e.cap⟩).length), (gs.set m ⟨e.b, e.n + 1, e.cap⟩)[k].b = (gs[k]'(by simpa using hk)).b := fun k hk => by
            by_cases c : k = m
            · subst c; rw [hgm, he]
            · rw [hgk k hk c]
          refine ⟨(i + 1, gs.set m ⟨e.b, e.n + 1, e.cap⟩, B.set (e.b - g.length) (i64C (L ++ [hs[i]]) ++ sp.drop 1)), by (try dsimp only); omega, ⟨by (try dsimp only); omega, by rw [hF]; simp [hgl], ?_, ?_, ?_⟩, Weak.keep (by simp [hw, hF, bsR, List.map_set]) (by dsimp only; rw [← hset, ← hY])⟩
          · dsimp only
            rw [hF, ← hset]
            intro k hk1 hk2
            have hkg : k < gs.length := by simpa using hk1
            have hkd : k < (splTo hs i).2.length := by omega
            by_cases c : k = m
            · subst c
              rw [hgm]
              simp only [List.getElem_set_self]
              refine ⟨by simp [b1], hroom, sp.drop 1, ?_, by rw [List.length_drop]; dsimp only; omega⟩
              dsimp only
              rw [List.getElem?_set_self (by rw [List.length_append]; exact hbl)]
            · rw [hgk k hk1 c]
              simp only [List.getElem_set_ne (Ne.symm c)]
              obtain ⟨o1, o2, sp', o3, o4⟩ := hok k hkg hkd
              refine ⟨o1, o2, sp', ?_, o4⟩
              have hne : e.b ≠ gs[k].b := by
                have h1 := hlt k m hkg hml (by omega)
                rw [he] at h1; omega
              rw [List.getElem?_set_ne hne]
              exact o3
          · intro x hx
            obtain ⟨k, hk, rfl⟩ := List.getElem_of_mem hx
            rw [hbb k hk]
            exact hge _ (List.getElem_mem _)
          · intro j k hj hk hjk
            rw [hbb j hj, hbb k hk]
            exact hlt j k (by simpa using hj) (by simpa using hk) hjk
        · have hgk : ∀ k (hk : k < (gs.set m ⟨g.length + B.length, e.n + 1, cap'⟩).length), k ≠ m → (gs.set m ⟨g.length + B.length, e.n + 1, cap'⟩)[k] = gs[k]'(by simpa using hk) := fun k hk hne => List.getElem_set_ne (Ne.symm hne) _
          have hgm : ∀ (hk : m < (gs.set m ⟨g.length + B.length, e.n + 1, cap'⟩).length), (gs.set m ⟨g.length + B.length, e.n + 1, cap'⟩)[m] = ⟨g.length + B.length, e.n + 1, cap'⟩ := fun hk => List.getElem_set_self _
          refine ⟨(i + 1, gs.set m ⟨g.length + B.length, e.n + 1, cap'⟩, B ++ [i64C (L ++ [hs[i]]) ++ List.replicate (cap' - (e.n + 1)) (.pv .bot)]), by (try dsimp only); omega, ⟨by (try dsimp only); omega, by rw [hF]; simp [hgl], ?_, ?_, ?_⟩, Weak.keep (by simp [hw, hF, bsR, List.map_set]) (by simp [i64C])⟩
          · dsimp only
            rw [hF, ← List.append_assoc]
            intro k hk1 hk2
            have hkg : k < gs.length := by simpa using hk1
            have hkd : k < (splTo hs i).2.length := by omega
            by_cases c : k = m
            · subst c
              rw [hgm]
              simp only [List.getElem_set_self]
              refine ⟨by simp [b1], hcap', List.replicate (cap' - (e.n + 1)) (.pv .bot), ?_, by simp⟩
              dsimp only
              rw [List.getElem?_append_right (by simp)]
              simp
            · rw [hgk k hk1 c]
              simp only [List.getElem_set_ne (Ne.symm c)]
              exact (hok k hkg hkd).app (hok k hkg hkd).lt _
          · intro x hx
            obtain ⟨k, hk, rfl⟩ := List.getElem_of_mem hx
            by_cases c : k = m
            · subst c; rw [hgm]; exact Nat.le_add_right _ _
            · rw [hgk k hk c]; exact hge _ (List.getElem_mem _)
          · intro j k hj hk hjk
            have hjg : j < gs.length := by simpa using hj
            have hkg : k < gs.length := by simpa using hk
            rw [hgk j hj (by omega)]
            by_cases c : k = m
            · subst c
              rw [hgm]
              have := (hok j hjg (by omega)).lt
              rw [List.length_append] at this
              exact this
            · rw [hgk k hk c]
              exact hlt j k hjg hkg hjk
  · have hie : i = hs.length := by omega
    subst hie
    simp
    refine ASem.weak _ (WeakE.of ((Weak.frz (s := 2) (e := 1) (nw := true) (rows := irow (splTo hs hs.length).1) (by simp)).trans (Weak.frz (s := 3) (e := 1) (nw := true) (rows := gs.map bsR) (by simp)))) (fun _ => ASem.ops ?_)
    simp
    exact ⟨_, rfl, _, _, rfl, ⟨_, rfl, frzQR_irows _ _ _⟩, _, _, rfl, ⟨_, rfl, frz_groups hgl hok hge⟩, rfl⟩
end Go.AX

namespace Go.AX
open Go.Proofs
set_option linter.unusedSimpArgs false
structure Stp where
  kind : Int
  id : Int
  lits : List Int
  hints : List Int
instance : Inhabited Stp := ⟨⟨0, 0, [], []⟩⟩
def stpR (x : Stp) : List PV := [I64 x.kind, I64 x.id, .seq false 1 (irow x.lits), .seq false 1 (irow x.hints)]
@[simp] theorem belowR_stpR (k : Nat) (l : List Stp) : belowR k (l.map stpR) := by
  induction l with
  | nil => trivial
  | cons x xs ih => exact ⟨⟨trivial, trivial, belowR_irow k _, belowR_irow k _, trivial⟩, ih⟩
@[simp] theorem frzR_stpR (r : Nat → Nat → PV) (l : List Stp) : frzR r (l.map stpR) = l.map stpR := by
  rw [frzR_map, List.map_map]
  apply List.map_congr_left
  intro x _
  simp [stpR]
def outW (lo n : Int) : Bool := decide (n < lo) || decide (10000000 < n) || decide (n = 0)
theorem wthn1_ok (n lo : Int) : APure Tryz.prog 210 [I64 n, .iptr 1 [[I64 lo]] 0 0] (fun r => r = .pv (BL (outW lo n))) := by
  refine apure1 hmo Tryz.func210 (by kernel_rfl) rfl rfl (by kernel_rfl) (Nat.le_of_ble_eq_true rfl) ?_
  unfold outW
  by_cases c1 : n < lo
  · simp [c1]
  · by_cases c2 : 10000000 < n
    · simp [c1, c2]
    · simp [c1, c2]
def wthnS (l : List Int) (lo : Int) : Bool := decide (l.length ≤ 1000) && !(l.any (outW lo))
theorem wthn_ok (l : List Int) (lo : Int) : APure Tryz.prog 188 [.seq false 1 (irow l), I64 lo] (fun r => r = .pv (BL (wthnS l lo))) := by
  refine apure1 hmo Tryz.func188 (by kernel_rfl) rfl rfl (by kernel_rfl) (Nat.le_of_ble_eq_true rfl) ?_
  unfold wthnS
  by_cases c1 : l.length ≤ 1000
  · have hC := containsF_ok l (by omega) 210 [.iptr 1 [[I64 lo]] 0 0] (outW lo) (fun r => by simp) rfl (fun k => by simp) (fun x _ => wthn1_ok x lo)
    have c1' : (l.length : Int) ≤ 1000 := by omega
    simp [c1, c1', frzP]
    refine CallG.intro (fun _ => hC) (by simp) ?_
    simp
  · have c1' : ¬ (l.length : Int) ≤ 1000 := by omega
    simp [c1, c1', frzP]
    refine CallG.intro (fun h : False => h.elim) (r := .pv (BL false)) (by simp) ?_
    simp
def mayP (x : Stp) : Bool :=
  if x.kind = 1 then decide (1 ≤ x.id) && (decide (x.id ≤ 10000000) && (decide (chkC x.lits 100000 = 0) && wthnS x.hints (-10000000)))
  else if x.kind = 2 then decide (0 ≤ x.id) && (decide (x.id ≤ 10000000) && (decide (x.lits.length = 0) && wthnS x.hints 1)) else false
set_option maxRecDepth 16000 in
theorem pmay_ok (x : Stp) (hl : x.lits.length ≤ 1000000) : APure Tryz.prog 155 [.agg (stpR x)] (fun r => r = .pv (BL (mayP x))) := by
  refine apure1 hmo Tryz.func155 (by kernel_rfl) rfl rfl (by kernel_rfl) (Nat.le_of_ble_eq_true rfl) ?_
  have hc := clCheck_ok x.lits 100000 (by omega)
  have hw1 := wthn_ok x.hints (-10000000)
  have hw2 := wthn_ok x.hints 1
  unfold mayP
  simp [stpR]
  by_cases k1 : x.kind = 1
  · by_cases c1 : 1 ≤ x.id
    · by_cases c2 : x.id ≤ 10000000
      · simp [k1, c1, c2]
        refine CallG.intro (fun _ => hc) (by simp) ?_
        by_cases c3 : chkC x.lits 100000 = 0
        · simp [c3]
          refine CallG.intro (fun _ => hw1) (by simp) ?_
          simp
        · simp [c3]
          refine CallG.intro (fun h : False => h.elim) (r := .pv (BL false)) (by simp) ?_
          simp
      · simp [k1, c1, c2]
        refine CallG.intro (fun h : False => h.elim) (r := .pv (I64 0)) (by simp) ?_
        simp
        refine CallG.intro (fun h : False => h.elim) (r := .pv (BL false)) (by simp) ?_
        simp
    · simp [k1, c1]
      refine CallG.intro (fun h : False => h.elim) (r := .pv (I64 0)) (by simp) ?_
      simp
      refine CallG.intro (fun h : False => h.elim) (r := .pv (BL false)) (by simp) ?_
      simp
  · by_cases k2 : x.kind = 2
    · by_cases c1 : 0 ≤ x.id
      · by_cases c2 : x.id ≤ 10000000
        · by_cases c3 : x.lits = []
          · simp [k1, k2, c1, c2, c3]
            refine CallG.intro (fun _ => hw2) (by simp) ?_
            simp
          · simp [k1, k2, c1, c2, c3]
            refine CallG.intro (fun h : False => h.elim) (r := .pv (BL false)) (by simp) ?_
            simp
        · simp [k1, k2, c1, c2]
          refine CallG.intro (fun h : False => h.elim) (r := .pv (BL false)) (by simp) ?_
          simp
      · simp [k1, k2, c1]
        refine CallG.intro (fun h : False => h.elim) (r := .pv (BL false)) (by simp) ?_
        simp
    · simp [k1, k2]
theorem pchk1_ok (x : Stp) (hl : x.lits.length ≤ 1000000) : APure Tryz.prog 154 [.agg (stpR x)] (fun r => r = .pv (BL (!mayP x))) := by
  refine apure1 hmo Tryz.func154 (by kernel_rfl) rfl rfl (by kernel_rfl) (Nat.le_of_ble_eq_true rfl) ?_
  have hm := pmay_ok x hl
  simp only [stpR] at hm
  simp [stpR]
  refine CallK.intro hm (by simp) ?_
  simp
set_option maxRecDepth 16000 in
theorem pIdx_ok (l : List Stp) (hl : l.length ≤ 1000000) (hx : ∀ x ∈ l, x.lits.length ≤ 1000000) : APure Tryz.prog 112 [.seq false 4 (l.map stpR), .lit (.func (.func 154) #[] #[])] (fun r => r = .pv (I64 (idxS (fun x => !mayP x) l))) := by
  refine apure1 hmo Tryz.func112 (by kernel_rfl) rfl rfl (by kernel_rfl) (Nat.le_of_ble_eq_true rfl) ?_
  simp
  refine ALoop.intro (S := fun (i : Nat) => ⟨[(0, .pv (.seq false 4 (l.map stpR))), (1, .pv (.lit (.func (.func 154) #[] #[]))), (7, .pv (I64 l.length)), (8, .pv (I64 i))], []⟩) (fun i => i ≤ l.length ∧ ∀ j (hj : j < l.length), j < i → (!mayP l[j]) = false) (fun i => l.length - i) 0 ?_ ⟨Nat.zero_le _, fun j _ h => by omega⟩ ?_
  · exact Weak.keep (by simp) rfl
  · intro i ⟨hi, ho⟩
    by_cases c : i < l.length
    · have hw : w64 ((i : Int) + 1) = ((i + 1 : Nat) : Int) := by rw [w64_id (by omega) (by omega)]; omega
      have hx := pchk1_ok l[i] (hx _ (List.getElem_mem c))
      simp only [stpR] at hx
      simp [c, stpR]
      refine CallK.intro hx (by simp) ?_
      cases hpx : mayP l[i]
      · simp
        rw [idxS_at c ho (by simp [hpx])]
      · simp
        refine ⟨i + 1, by dsimp only; omega, ⟨by omega, fun j hj hji => ?_⟩, Weak.keep (by simp [hw, stpR]) rfl⟩
        by_cases e : j = i
        · subst e; simp [hpx]
        · simpa using ho j hj (by omega)
    · simp [c]
      rw [idxS_none (fun j hj => ho j hj (by omega))]
def pchE (l : List Stp) : Int := if 1000000 < l.length then 3 else if 0 ≤ idxS (fun x => !mayP x) l then 2 else 0
def pchA (l : List Stp) : Int := if 1000000 < l.length then 0 else if 0 ≤ idxS (fun x => !mayP x) l then idxS (fun x => !mayP x) l else l.length
set_option maxRecDepth 16000 in
theorem pCheck_ok (l : List Stp) (hx : ∀ x ∈ l, x.lits.length ≤ 1000000) : APure Tryz.prog 121 [.seq false 4 (l.map stpR)] (fun r => r = .pv (.tup [I64 (pchA l), I64 (pchE l)])) := by
  refine apureN [2, 3] hmo Tryz.func121 (by kernel_rfl) rfl (fun _ _ => results_tmp2 rfl _ _ _) (by kernel_rfl) (Nat.le_of_ble_eq_true rfl) ?_
  unfold pchA pchE
  by_cases c1 : 1000000 < l.length
  · have c1' : (1000000 : Int) < l.length := by omega
    simp [c1, c1']
  · have c1' : ¬ (1000000 : Int) < l.length := by omega
    have hI := pIdx_ok l (by omega) hx
    simp [c1, c1']
    refine CallK.intro hI (by simp) ?_
    by_cases c2 : 0 ≤ idxS (fun x => !mayP x) l
    · simp [c2]
    · simp [c2]
end Go.AX

namespace Go.AX
open Go.Proofs
set_option linter.unusedSimpArgs false
def fC (l : List Int) : PV := .seq true 1 (irow l)
@[simp] theorem look_fC (l : List (Int × List Int)) (k : Int) : amLook (mapE fC l) k = (lk l k).map fC := amLook_mapE fC l k
@[simp] theorem put_fC (l : List (Int × List Int)) (k : Int) (y : List Int) : amPut (mapE fC l) k (.seq true 1 (irow y)) = mapE fC (pt l k y) := amPut_mapE fC l k y
@[simp] theorem belowE_fC (n : Nat) : ∀ l : List (Int × List Int), belowE n (mapE fC l)
  | [] => trivial
  | x :: l => ⟨belowR_irow n _, belowE_fC n l⟩
structure Ck where
  m : List (Int × List Int)
  last : Int
  done : Bool
def ckB (c : Ck) : List SV := [.omap true (mapE fC c.m), .pv (I64 c.last), .pv (BL c.done)]
def putC (c : Ck) (id : Int) (l : List Int) : Ck := ⟨pt c.m id l, id, c.done || decide (l.length = 0)⟩
theorem belowC_ckB (k : Nat) (c : Ck) : belowC k (ckB c) := ⟨belowE_fC k _, trivial, trivial, trivial⟩
theorem cmade_ok (h : List (List SV)) (b : Nat) (c : Ck) (hb : h[b]? = some (ckB c)) : AMut Tryz.prog 120 [.ptr b 0] h (fun r h' => h' = h ∧ r = .pv (BL true)) := by
  refine amutXD [] [.tmp 2] h (Nat.le_refl _) (fun hh => hh) hmo Tryz.func120 (by kernel_rfl) rfl rfl (by kernel_rfl) (Nat.le_of_ble_eq_true rfl) ?_
  obtain ⟨hlt, hb'⟩ := List.getElem?_eq_some_iff.1 hb
  simp [hb', hlt, ckB]
theorem cdone_ok (h : List (List SV)) (b : Nat) (c : Ck) (hb : h[b]? = some (ckB c)) : AMut Tryz.prog 75 [.ptr b 0] h (fun r h' => h' = h ∧ r = .pv (BL c.done)) := by
  refine amutXD [] [.tmp 2] h (Nat.le_refl _) (fun hh => hh) hmo Tryz.func75 (by kernel_rfl) rfl rfl (by kernel_rfl) (Nat.le_of_ble_eq_true rfl) ?_
  obtain ⟨hlt, hb'⟩ := List.getElem?_eq_some_iff.1 hb
  have hm := cmade_ok h b c hb
  simp
  refine CallB.intro hm (by simp) ?_
  rintro _ _ ⟨rfl, rfl⟩
  simp [hb', hlt, ckB]
set_option maxRecDepth 16000 in
theorem cput_ok (h : List (List SV)) (b : Nat) (c : Ck) (hb : h[b]? = some (ckB c)) (id : Int) (l : List Int) (hl : l.length ≤ 1000000) :
    AMut Tryz.prog 117 [.ptr b 0, I64 id, .seq false 1 (irow l)] h (fun r h' => h' = h.set b (ckB (putC c id l)) ∧ r = .pv (.tup [])) := by
  refine amutXD [] [] (h.set b (ckB (putC c id l))) (by simp) (fun hh => by rw [List.length_set]; exact belowH_setT (belowC_ckB _ _) b hh) hmo Tryz.func117 (by kernel_rfl) rfl rfl (by kernel_rfl) (Nat.le_of_ble_eq_true rfl) ?_
  obtain ⟨hlt, hb'⟩ := List.getElem?_eq_some_iff.1 hb
  have hgs : ∀ x hh, (h.set b x)[b]'hh = x := fun x hh => by simp
  have hcl := clone_ok l hl
  simp [hb', hlt, ckB]
  refine CallQ0.intro hcl (by simp) ?_
  by_cases d : c.done = true
  · simp [hb', hlt, ckB, hgs, d, putC]
    exact List.take_of_length_le (by simp)
  · have d' : c.done = false := by simpa using d
    simp [hb', hlt, ckB, hgs, d', putC]
    exact List.take_of_length_le (by simp)
theorem cloneN2_ok : APure Tryz.prog 70 [.lit (.slice none 0 0)] (fun r => r = .pv (.lit (.slice none 0 0))) := by
  refine apure1 hmo Tryz.func70 (by kernel_rfl) rfl rfl (by kernel_rfl) (Nat.le_of_ble_eq_true rfl) ?_
  simp
set_option maxRecDepth 16000 in
theorem cclause_ok (h : List (List SV)) (b : Nat) (c : Ck) (hb : h[b]? = some (ckB c)) (id : Int) (hc : ∀ l, lk c.m id = some l → l.length ≤ 1000000) :
    AMut Tryz.prog 118 [.ptr b 0, I64 id] h (fun r h' => h' = h ∧ r = .pv (.tup [.seq true 1 (irow ((lk c.m id).getD [])), BL (lk c.m id).isSome])) := by
  refine amutXW [] [.tmp 4, .tmp 5] hmo Tryz.func118 (by kernel_rfl) rfl rfl (by kernel_rfl) (Nat.le_of_ble_eq_true rfl) ?_
  obtain ⟨hlt, hb'⟩ := List.getElem?_eq_some_iff.1 hb
  have hm := cmade_ok h b c hb
  simp
  refine CallB.intro hm (by simp) ?_
  rintro _ _ ⟨rfl, rfl⟩
  cases e : lk c.m id with
  | none =>
    simp [hb', hlt, ckB, e]
    refine CallK.intro cloneN2_ok (by simp) ?_
    simp [wkP, wkPL, irow]
  | some l =>
    have hcl := clone_ok l (hc l e)
    simp [hb', hlt, ckB, e, fC]
    refine CallK.intro hcl (by simp) ?_
    simp [wkP, wkPL]
end Go.AX

namespace Go.AX
open Go.Proofs
set_option linter.unusedSimpArgs false
def fD (l : List Int) : PV := .seq false 1 (irow l)
@[simp] theorem look_fD (l : List (Int × List Int)) (k : Int) : amLook (mapE fD l) k = (lk l k).map fD := amLook_mapE fD l k
@[simp] theorem belowE_fD (n : Nat) : ∀ l : List (Int × List Int), belowE n (mapE fD l)
  | [] => trivial
  | x :: l => ⟨belowR_irow n _, belowE_fD n l⟩
@[simp] theorem frzE_fC (r : Nat → Nat → PV) : ∀ l : List (Int × List Int), frzE r (mapE fC l) = mapE fD l
  | [] => rfl
  | x :: l => by
    have := frzE_fC r l
    show (x.1, frzW r (fC x.2)) :: frzE r (mapE fC l) = (x.1, fD x.2) :: mapE fD l
    rw [this]
    simp [fC, fD]
@[simp] theorem frzE_fD (r : Nat → Nat → PV) : ∀ l : List (Int × List Int), frzE r (mapE fD l) = mapE fD l
  | [] => rfl
  | x :: l => by
    have := frzE_fD r l
    show (x.1, frzW r (fD x.2)) :: frzE r (mapE fD l) = (x.1, fD x.2) :: mapE fD l
    rw [this]
    simp [fD]
abbrev ckP (c : Ck) : PV := .iptr 3 [[.amap false (mapE fD c.m), I64 c.last, BL c.done]] 0 0
theorem frz_ck {h : List (List SV)} {b : Nat} {c : Ck} (hb : h[b]? = some (ckB c)) (n : Nat) : frzP h (n + 1) b 0 = ckP c := by
  simp [frzP, hb, ckB, ckP]
def absM (id : Int) : Int := if id < w64 (-id) then w64 (-id) else id
theorem there1_ok (c : Ck) (id : Int) : APure Tryz.prog 190 [I64 id, .iptr 1 [[ckP c]] 0 0] (fun r => r = .pv (BL (!(lk c.m (absM id)).isSome))) := by
  refine apure1 hmo Tryz.func190 (by kernel_rfl) rfl rfl (by kernel_rfl) (Nat.le_of_ble_eq_true rfl) ?_
  simp [absM]
def thereS (c : Ck) (ids : List Int) : Bool := ids.all fun id => (lk c.m (absM id)).isSome
theorem there_ok (c : Ck) (ids : List Int) (hl : ids.length ≤ 1000000) : APure Tryz.prog 158 [ckP c, .seq false 1 (irow ids)] (fun r => r = .pv (BL (thereS c ids))) := by
  refine apure1 hmo Tryz.func158 (by kernel_rfl) rfl rfl (by kernel_rfl) (Nat.le_of_ble_eq_true rfl) ?_
  have hC := containsF_ok ids hl 190 [.iptr 1 [[ckP c]] 0 0] (fun id => !(lk c.m (absM id)).isSome) (fun r => by simp) rfl (fun k => by simp) (fun x _ => there1_ok c x)
  have hS : thereS c ids = !(ids.any fun id => !(lk c.m (absM id)).isSome) := by
    unfold thereS
    rw [List.not_any_eq_all_not]
    simp
  simp [frzP]
  refine CallK.intro hC (by simp) ?_
  rw [hS]
  simp
theorem ccl_ok (g : List (List SV)) (c : Ck) (id : Int) : AMut Tryz.prog 192 [ckP c, I64 id] g (fun r g' => g' = g ∧ r = .pv (.seq false 1 (irow ((lk c.m id).getD [])))) := by
  refine amutXW [] [.tmp 4] hmo Tryz.func192 (by kernel_rfl) rfl rfl (by kernel_rfl) (Nat.le_of_ble_eq_true rfl) ?_
  cases e : lk c.m id with
  | none => simp [e, wkP, irow]
  | some l => simp [e, wkP, fD]
def rowsS (c : Ck) (ids : List Int) : List (List Int) := ids.map fun id => (lk c.m id).getD []
set_option maxRecDepth 16000 in
theorem lrows_ok (g : List (List SV)) (c : Ck) (ids : List Int) (hl : ids.length ≤ 1000000) : AMut Tryz.prog 193 [.seq false 1 (irow ids), .fn (.func 192) [ckP c] []] g (fun r g' => g' = g ∧ r = .pv (.seq true 1 ((rowsS c ids).map crowF))) := by
  refine amutXW [] [.tmp 4] hmo Tryz.func193 (by kernel_rfl) rfl rfl (by kernel_rfl) (Nat.le_of_ble_eq_true rfl) ?_
  obtain ⟨Q, hQ⟩ : ∃ Q : Nat → List (List Int), ∀ i, Q i = (rowsS c ids).take i := ⟨_, fun _ => rfl⟩
  have hQl : ∀ i, (Q i).length ≤ i := fun i => by rw [hQ, List.length_take]; omega
  simp
  refine ALoop.intro (S := fun (i : Nat) => ⟨[(1, .pv (.fn (.func 192) [ckP c] [])), (5, .own true 1 ((Q i).map crowF)), (8, .pv (.seq false 1 (irow ids))), (9, .pv (I64 ids.length)), (10, .pv (I64 i))], g⟩) (fun i => i ≤ ids.length) (fun i => ids.length - i) 0 ?_ (Nat.zero_le _) ?_
  · exact (Weak.nilOwn (s := 5) 1 true (by simp)).trans (Weak.keep (by simp [hQ]) rfl)
  intro i hi
  by_cases h : i < ids.length
  · have hw : w64 ((i : Int) + 1) = ((i + 1 : Nat) : Int) := by rw [w64_id (by omega) (by omega)]; omega
    have hcc := fun g => ccl_ok g c ids[i]
    have hQs : Q (i + 1) = Q i ++ [(lk c.m ids[i]).getD []] := by
      rw [hQ, hQ, List.take_succ_eq_append_getElem (by unfold rowsS; rw [List.length_map]; exact h)]
      simp [rowsS]
    have hQi := hQl i
    simp [h]
    refine CallK.introM (hcc _) (by simp) ?_
    rintro _ _ ⟨rfl, rfl⟩
    simp
    refine ⟨by omega, i + 1, by (try dsimp only); omega, by (try dsimp only); omega, Weak.keep (by simp [hw, hQs, crowF]) (by simp)⟩
  · have hie : i = ids.length := by omega
    subst hie
    have hQe : Q ids.length = rowsS c ids := by rw [hQ]; exact List.take_of_length_le (by unfold rowsS; simp)
    simp [hQe, wkP, wkPL]
end Go.AX

namespace Go.AX
open Go.Proofs
set_option linter.unusedSimpArgs false
theorem aValue_ok (l : List Int) (x : Int) (hl : l.length ≤ 1000000) : APure Tryz.prog 221 [.seq false 1 (irow l), I64 x] (fun r => r = .pv (I64 (val3 l x))) := by
  refine apure1 hmo Tryz.func221 (by kernel_rfl) rfl rfl (by kernel_rfl) (Nat.le_of_ble_eq_true rfl) ?_
  have hC1 := contains_ok l x (by omega)
  have hC2 := contains_ok l (w64 (-x)) (by omega)
  simp
  refine CallK.intro (litVar_ok x) (by simp) ?_
  cases ho : okL x
  · have hz : litV x = 0 := by rw [litV_zero]; exact ho
    rw [val3_not l x ho]
    simp [hz]
  · have hz : litV x ≠ 0 := fun e => by rw [litV_zero] at e; rw [ho] at e; cases e
    rw [aval_val3 l x ho]
    unfold aval
    simp [hz]
    refine CallK.intro hC1 (by simp) ?_
    by_cases c1 : x ∈ l
    · simp [c1]
    · simp [c1]
      refine CallK.intro hC2 (by simp) ?_
      by_cases c2 : w64 (-x) ∈ l
      · simp [c2]
      · simp [c2]
def canS (cs : List (List Int)) (p : Int) : Nat → List Int
  | 0 => []
  | i + 1 => if litN p ≠ 0 ∧ hasS (cs.getD i []) (litN p) = true then canS cs p i ++ [(i : Int)] else canS cs p i
theorem canS_len (cs : List (List Int)) (p : Int) : ∀ i, (canS cs p i).length ≤ i
  | 0 => by simp [canS]
  | i + 1 => by
    have := canS_len cs p i
    rw [canS]
    split
    · simp; omega
    · omega
theorem wkRR_self : ∀ l : List (List PV), wkRR l l
  | [] => trivial
  | x :: l => ⟨wkPL_refl x, wkRR_self l⟩
def refF (p : Int) (o : Option (List Int)) (x : Int) : Option (List Int) :=
  o.bind fun out => if litV x = 0 ∨ x = litN p then some out else if val3 out x = 1 then none else if val3 out x = 0 then some (out ++ [w64 (-x)]) else some out
def refO (l c : List Int) (p : Int) (i : Nat) : Option (List Int) := (c.take i).foldl (refF p) (some l)
def refE (l c : List Int) (p : Int) (hs : List (List Int)) : Int := match refO l c p c.length with
  | none => 0
  | some out => if (chnF out hs 0).2.2 ≠ 0 then 24 else 0
theorem refF_none (p : Int) : ∀ c : List Int, c.foldl (refF p) none = none
  | [] => rfl
  | x :: c => refF_none p c
theorem refO_none {l c : List Int} {p : Int} {i : Nat} (h : refO l c p i = none) (hi : i ≤ c.length) : refO l c p c.length = none := by
  unfold refO at h ⊢
  have : c.take c.length = c.take i ++ c.drop i := by rw [List.take_length, List.take_append_drop]
  rw [this, List.foldl_append, h]
  exact refF_none p _
set_option maxRecDepth 16000 in
theorem refute_ok (g : List (List SV)) (l c : List Int) (p : Int) (hs : List (List Int)) (hl : l.length + c.length + hs.length ≤ 1000000) (hh : ∀ h ∈ hs, h.length ≤ 1000000) : AMut Tryz.prog 214 [.seq false 1 (irow l), .seq false 1 (irow c), I64 p, .seq false 1 (hs.map crowF)] g (fun r g' => g' = g ∧ r = .pv (I64 (refE l c p hs))) := by
  refine amutXW [] [.tmp 8] hmo Tryz.func214 (by kernel_rfl) rfl rfl (by kernel_rfl) (Nat.le_of_ble_eq_true rfl) ?_
  have hcl := clone_ok l (by omega)
  have hE : refE l c p hs = match refO l c p c.length with
    | none => 0
    | some out => if (chnF out hs 0).2.2 ≠ 0 then 24 else 0 := rfl
  generalize refE l c p hs = E at *
  simp
  refine CallK.intro hcl (by simp) ?_
  simp
  refine ALoop.intro (S := fun (x : Nat × List Int) => ⟨[(2, .pv (I64 p)), (3, .pv (.seq false 1 (hs.map crowF))), (9, .own true 1 (irow x.2)), (17, .pv (.seq false 1 (irow c))), (18, .pv (I64 c.length)), (19, .pv (I64 x.1))], g⟩) (fun x => x.1 ≤ c.length ∧ x.2.length ≤ l.length + x.1 ∧ refO l c p x.1 = some x.2) (fun x => c.length - x.1) (0, l) ?_ ⟨Nat.zero_le _, Nat.le_refl _, rfl⟩ ?_
  · exact Weak.keep (by simp) rfl
  rintro ⟨i, out⟩ ⟨hi, hlen, ho⟩
  dsimp only at hi hlen ho
  by_cases h : i < c.length
  · have hw : w64 ((i : Int) + 1) = ((i + 1 : Nat) : Int) := by rw [w64_id (by omega) (by omega)]; omega
    have hF : refO l c p (i + 1) = refF p (refO l c p i) c[i] := foldl_take_succ (refF p) (some l) c i h
    rw [ho] at hF
    have hS : refF p (some out) c[i] = if litV c[i] = 0 ∨ c[i] = litN p then some out else if val3 out c[i] = 1 then none else if val3 out c[i] = 0 then some (out ++ [w64 (-c[i])]) else some out := rfl
    rw [hS] at hF
    have hv := aValue_ok out c[i] (by omega)
    have hnp := litNeg_ok p
    simp [h]
    refine CallK.intro (litVar_ok c[i]) (by simp) ?_
    by_cases c1 : litV c[i] = 0
    · rw [if_pos (.inl c1)] at hF
      simp [c1]
      refine CallG.intro (fun h : False => h.elim) (r := .pv (I64 0)) (by simp) ?_
      simp
      exact ⟨(i + 1, out), by (try dsimp only); omega, ⟨by (try dsimp only); omega, by (try dsimp only); omega, hF⟩, Weak.keep (by simp [hw]) (by simp)⟩
    simp [c1]
    refine CallG.intro (fun _ => hnp) (by simp) ?_
    by_cases c2 : c[i] = litN p
    · rw [if_pos (.inr c2)] at hF
      simp [c2]
      exact ⟨(i + 1, out), by (try dsimp only); omega, ⟨by (try dsimp only); omega, by (try dsimp only); omega, hF⟩, Weak.keep (by simp [hw]) (by simp)⟩
    rw [if_neg (fun e => e.elim c1 c2)] at hF
    simp [c2]
    refine CallK.intro hv (by simp) ?_
    by_cases d1 : val3 out c[i] = 1
    · rw [if_pos d1] at hF
      have hn := refO_none hF (by omega)
      rw [hn] at hE
      simp only at hE
      subst hE
      simp [d1, wkP]
    rw [if_neg d1] at hF
    by_cases d2 : val3 out c[i] = 0
    · rw [if_pos d2] at hF
      simp [d2]
      exact ⟨by omega, (i + 1, out ++ [w64 (-c[i])]), by (try dsimp only); omega, ⟨by (try dsimp only); omega, by simp; omega, hF⟩, Weak.keep (by simp [hw, irow]) (by simp)⟩
    · rw [if_neg d2] at hF
      simp [d1, d2]
      exact ⟨(i + 1, out), by (try dsimp only); omega, ⟨by (try dsimp only); omega, by (try dsimp only); omega, hF⟩, Weak.keep (by simp [hw]) (by simp)⟩
  have hie : i = c.length := by omega
  subst hie
  rw [ho] at hE
  simp only at hE
  have hCh := fun g => rChain_ok g out hs (by omega) hh
  simp
  refine CallK.introE (hCh g) (by simp) rfl (by simp) (by simp) (by simp [wkAL, wkA, wkRR_self]) ?_
  rintro _ _ ⟨rfl, rfl⟩
  by_cases d : (chnF out hs 0).2.2 = 0
  · rw [if_neg (by simp [d])] at hE
    subst hE
    simp [d, wkP]
  · rw [if_pos d] at hE
    subst hE
    simp [d, wkP]
set_option maxRecDepth 16000 in
theorem cands_ok (cs : List (List Int)) (p : Int) (hl : cs.length ≤ 1000000) (hc : ∀ c ∈ cs, c.length ≤ 1000000) : APure Tryz.prog 215 [.seq false 1 (cs.map crowF), I64 p] (fun r => r = .own true 1 (irow (canS cs p cs.length))) := by
  refine apure1 hmo Tryz.func215 (by kernel_rfl) rfl rfl (by kernel_rfl) (Nat.le_of_ble_eq_true rfl) ?_
  have hnp := litNeg_ok p
  simp
  refine ALoop.intro (S := fun (i : Nat) => ⟨[(1, .pv (I64 p)), (5, .own true 1 (irow (canS cs p i))), (9, .pv (.seq false 1 (cs.map crowF))), (10, .pv (I64 cs.length)), (11, .pv (I64 i))], []⟩) (fun i => i ≤ cs.length) (fun i => cs.length - i) 0 ?_ (Nat.zero_le _) ?_
  · exact (Weak.nilOwn (s := 5) 1 true (by simp)).trans (Weak.keep (by simp [canS, irow]) rfl)
  intro i hi
  have hle := canS_len cs p i
  by_cases h : i < cs.length
  · have hw : w64 ((i : Int) + 1) = ((i + 1 : Nat) : Int) := by rw [w64_id (by omega) (by omega)]; omega
    have hg : cs.getD i [] = cs[i] := by rw [List.getD_eq_getElem?_getD, List.getElem?_eq_getElem h]; rfl
    have hs : canS cs p (i + 1) = if litN p ≠ 0 ∧ hasS cs[i] (litN p) = true then canS cs p i ++ [(i : Int)] else canS cs p i := by rw [canS, hg]
    have hH := has_ok cs[i] (litN p) (by have := hc _ (List.getElem_mem h); omega)
    simp [h, crowF]
    refine CallK.intro hnp (by simp) ?_
    by_cases c1 : litN p = 0
    · rw [if_neg (fun e => e.1 c1)] at hs
      simp [c1]
      refine CallG.intro (fun h : False => h.elim) (r := .pv (BL false)) (by simp) ?_
      simp
      exact ⟨i + 1, by (try dsimp only); omega, by (try dsimp only); omega, Weak.keep (by simp [hw, hs, crowF]) (by simp)⟩
    · simp [c1]
      refine CallG.intro (fun _ => hH) (by simp) ?_
      by_cases c2 : hasS cs[i] (litN p) = true
      · rw [if_pos ⟨c1, c2⟩] at hs
        simp [c2]
        exact ⟨by omega, i + 1, by (try dsimp only); omega, by (try dsimp only); omega, Weak.keep (by simp [hw, hs, irow, crowF]) (by simp)⟩
      · rw [if_neg (fun e => c2 e.2)] at hs
        simp [c2]
        exact ⟨i + 1, by (try dsimp only); omega, by (try dsimp only); omega, Weak.keep (by simp [hw, hs, crowF]) (by simp)⟩
  · have hie : i = cs.length := by omega
    subst hie
    simp
end Go.AX

namespace Go.AX
open Go.Proofs
set_option linter.unusedSimpArgs false
set_option maxRecDepth 16000 in
theorem refRefute9_ok (g : List (List SV)) (l c : List Int) (p : Int) (hs : List (List Int)) (hl : l.length + c.length + hs.length ≤ 1000000) (hh : ∀ h ∈ hs, h.length ≤ 1000000) : AMut Tryz.prog 201 [.seq false 1 (irow l), .seq false 1 (irow c), I64 p, .seq false 1 (hs.map crowF)] g (fun r g' => g' = g ∧ r = .pv (I64 (refE l c p hs))) := by
  refine amutXW [] [.tmp 8] hmo Tryz.func201 (by kernel_rfl) rfl rfl (by kernel_rfl) (Nat.le_of_ble_eq_true rfl) ?_
  have hE : refE l c p hs = match refO l c p c.length with
    | none => 0
    | some out => if (chnF out hs 0).2.2 ≠ 0 then 24 else 0 := rfl
  generalize refE l c p hs = E at *
  simp
  refine ⟨by omega, ?_⟩
  refine ALoop.intro (S := fun (x : Nat × List Int) => ⟨[(2, .pv (I64 p)), (3, .pv (.seq false 1 (hs.map crowF))), (1, .pv (.seq false 1 (irow c))), (9, .own true 1 (irow x.2)), (10, .pv (I64 x.1))], g⟩) (fun x => x.1 ≤ c.length ∧ x.2.length ≤ l.length + x.1 ∧ refO l c p x.1 = some x.2) (fun x => c.length - x.1) (0, l) ?_ ⟨Nat.zero_le _, Nat.le_refl _, rfl⟩ ?_
  · exact Weak.keep (by simp) rfl
  rintro ⟨i, out⟩ ⟨hi, hlen, ho⟩
  dsimp only at hi hlen ho
  by_cases h : i < c.length
  · have hw : w64 ((i : Int) + 1) = ((i + 1 : Nat) : Int) := by rw [w64_id (by omega) (by omega)]; omega
    have hF : refO l c p (i + 1) = refF p (refO l c p i) c[i] := foldl_take_succ (refF p) (some l) c i h
    rw [ho] at hF
    have hS : refF p (some out) c[i] = if litV c[i] = 0 ∨ c[i] = litN p then some out else if val3 out c[i] = 1 then none else if val3 out c[i] = 0 then some (out ++ [w64 (-c[i])]) else some out := rfl
    rw [hS] at hF
    have hv := rf3Value_ok out c[i] (by omega)
    have hnp := refNeg_ok p
    have hz : litV c[i] = 0 ↔ litX c[i] < 0 := by rw [litV_zero, litX_neg]
    simp [h]
    refine CallK.intro (refIndex_ok c[i]) (by simp) ?_
    by_cases c1 : litV c[i] = 0
    · rw [if_pos (.inl c1)] at hF
      have c1x := hz.1 c1
      have c1y : ¬ 0 ≤ litX c[i] := by omega
      simp [c1x, c1y]
      refine CallG.intro (fun h : False => h.elim) (r := .pv (I64 0)) (by simp) ?_
      simp
      exact ⟨(i + 1, out), by (try dsimp only); omega, ⟨by (try dsimp only); omega, by (try dsimp only); omega, hF⟩, Weak.keep (by simp [hw]) (by simp)⟩
    have c1x : ¬ litX c[i] < 0 := fun e => c1 (hz.2 e)
    have c1y : 0 ≤ litX c[i] := by omega
    simp [c1x, c1y]
    refine CallG.intro (fun _ => hnp) (by simp) ?_
    by_cases c2 : c[i] = litN p
    · rw [if_pos (.inr c2)] at hF
      simp [c2]
      exact ⟨(i + 1, out), by (try dsimp only); omega, ⟨by (try dsimp only); omega, by (try dsimp only); omega, hF⟩, Weak.keep (by simp [hw]) (by simp)⟩
    rw [if_neg (fun e => e.elim c1 c2)] at hF
    simp [c2]
    refine CallK.intro hv (by simp) ?_
    by_cases d1 : val3 out c[i] = 1
    · rw [if_pos d1] at hF
      have hn := refO_none hF (by omega)
      rw [hn] at hE
      simp only at hE
      subst hE
      simp [d1, wkP]
    rw [if_neg d1] at hF
    by_cases d2 : val3 out c[i] = 0
    · rw [if_pos d2] at hF
      simp [d2]
      exact ⟨by omega, (i + 1, out ++ [w64 (-c[i])]), by (try dsimp only); omega, ⟨by (try dsimp only); omega, by simp; omega, hF⟩, Weak.keep (by simp [hw, irow]) (by simp)⟩
    · rw [if_neg d2] at hF
      simp [d1, d2]
      exact ⟨(i + 1, out), by (try dsimp only); omega, ⟨by (try dsimp only); omega, by (try dsimp only); omega, hF⟩, Weak.keep (by simp [hw]) (by simp)⟩
  have hie : i = c.length := by omega
  subst hie
  rw [ho] at hE
  simp only at hE
  have hCh := fun g => refChain8_ok g out hs (by omega) hh
  simp
  refine CallK.introE (hCh g) (by simp) rfl (by simp) (by simp) (by simp [wkAL, wkA, wkRR_self]) ?_
  rintro _ _ ⟨rfl, rfl⟩
  by_cases d : (chnF out hs 0).2.2 = 0
  · rw [if_neg (by simp [d])] at hE
    subst hE
    simp [d, wkP]
  · rw [if_pos d] at hE
    subst hE
    simp [d, wkP]
set_option maxRecDepth 16000 in
theorem refCands9_ok (cs : List (List Int)) (p : Int) (hl : cs.length ≤ 1000000) (hc : ∀ c ∈ cs, c.length ≤ 1000000) : APure Tryz.prog 200 [.seq false 1 (cs.map crowF), I64 p] (fun r => r = .own true 1 (irow (canS cs p cs.length))) := by
  refine apure1 hmo Tryz.func200 (by kernel_rfl) rfl rfl (by kernel_rfl) (Nat.le_of_ble_eq_true rfl) ?_
  simp
  refine ALoop.intro (S := fun (i : Nat) => ⟨[(0, .pv (.seq false 1 (cs.map crowF))), (1, .pv (I64 p)), (5, .own true 1 (irow (canS cs p i))), (6, .pv (I64 i))], []⟩) (fun i => i ≤ cs.length) (fun i => cs.length - i) 0 ?_ (Nat.zero_le _) ?_
  · exact (Weak.nilOwn (s := 5) 1 true (by simp)).trans (Weak.keep (by simp [canS, irow]) rfl)
  intro i hi
  have hle := canS_len cs p i
  by_cases h : i < cs.length
  · have hw : w64 ((i : Int) + 1) = ((i + 1 : Nat) : Int) := by rw [w64_id (by omega) (by omega)]; omega
    have hg : cs.getD i [] = cs[i] := by rw [List.getD_eq_getElem?_getD, List.getElem?_eq_getElem h]; rfl
    have hs : canS cs p (i + 1) = if litN p ≠ 0 ∧ hasS cs[i] (litN p) = true then canS cs p i ++ [(i : Int)] else canS cs p i := by rw [canS, hg]
    have hq : cs[i]? = some cs[i] := List.getElem?_eq_getElem h
    simp [h, crowF]
    refine CallK.intro (refIndex_ok p) (by simp) ?_
    cases ho : okL p
    · have hn : litN p = 0 := by unfold litN; rw [if_neg (by simp [ho])]
      have hx : ¬ 0 ≤ litX p := by rw [litX_nn]; simp [ho]
      have hx' : litX p < 0 := by omega
      rw [if_neg (fun e => e.1 hn)] at hs
      simp [hx, hx', hq, crowF]
      refine CallG.intro (fun h : False => h.elim) (r := .pv (BL false)) (by simp) ?_
      simp
      exact ⟨i + 1, by (try dsimp only); omega, by (try dsimp only); omega, Weak.keep (by simp [hw, hs, crowF]) (by simp)⟩
    · have hr := (okL_iff p).1 ho
      have hn : litN p = w64 (-p) := by unfold litN; rw [if_pos ho, w64_id (by omega) (by omega)]
      have hn0 : litN p ≠ 0 := by rw [hn, w64_id (by omega) (by omega)]; omega
      have hx : 0 ≤ litX p := by rw [litX_nn]; exact ho
      have hx' : ¬ litX p < 0 := by omega
      have hH := refHas2_ok cs[i] (w64 (-p)) (by have := hc _ (List.getElem_mem h); omega)
      rw [hn] at hs hn0
      simp [hx, hx', h, hq, crowF]
      refine CallG.intro (fun _ => hH) (by simp) ?_
      by_cases c2 : hasS cs[i] (w64 (-p)) = true
      · rw [if_pos ⟨hn0, c2⟩] at hs
        simp [c2]
        exact ⟨by omega, i + 1, by (try dsimp only); omega, by (try dsimp only); omega, Weak.keep (by simp [hw, hs, irow, crowF]) (by simp)⟩
      · rw [if_neg (fun e => c2 e.2)] at hs
        simp [c2]
        exact ⟨i + 1, by (try dsimp only); omega, by (try dsimp only); omega, Weak.keep (by simp [hw, hs, crowF]) (by simp)⟩
  · have hie : i = cs.length := by omega
    subst hie
    simp
end Go.AX

namespace Go.AX
open Go.Proofs
set_option linter.unusedSimpArgs false
theorem splTo_run (hs : List Int) {k : Nat} (hk : k < hs.length) (hn : hs[k] < 0) : ∀ j, k < j → (hj : j ≤ hs.length) → (∀ m (_ : m < hs.length), k < m → m < j → ¬ hs[m] < 0) → splTo hs j = ((splTo hs k).1, (splTo hs k).2 ++ [(hs.take j).drop k])
  | 0, h, _, _ => by omega
  | j + 1, h, hj, hm => by
    by_cases e : j = k
    · subst e
      rw [splTo_succ hs hk]
      unfold splF
      rw [if_pos hn, ← List.take_append_getElem hk, List.drop_append_of_le_length (by rw [List.length_take]; omega), List.drop_eq_nil_of_le (by rw [List.length_take]; omega)]
      rfl
    · have ih := splTo_run hs hk hn j (by omega) (by omega) (fun m h1 h2 h3 => hm m h1 h2 (by omega))
      have hjl : j < hs.length := by omega
      have hnn := hm j hjl (by omega) (by omega)
      rw [splTo_succ hs hjl, ih]
      unfold splF
      rw [if_neg hnn]
      simp only
      rw [if_neg (by simp), ← List.take_append_getElem hjl, List.drop_append_of_le_length (by rw [List.length_take]; omega)]
      simp [List.getLastD_eq_getLast?]
theorem splTo_pos (hs : List Int) : ∀ j, j ≤ hs.length → (∀ m (_ : m < hs.length), m < j → ¬ hs[m] < 0) → splTo hs j = (hs.take j, [])
  | 0, _, _ => by simp [splTo]
  | j + 1, h, hm => by
    have hjl : j < hs.length := by omega
    rw [splTo_succ hs hjl, splTo_pos hs j (by omega) (fun m h1 h2 => hm m h1 (by omega))]
    unfold splF
    rw [if_neg (hm j hjl (by omega)), if_pos rfl, List.take_append_getElem hjl]
end Go.AX

namespace Go.AX
open Go.Proofs
set_option linter.unusedSimpArgs false
set_option maxRecDepth 16000 in
theorem refSplit10_ok (g : List (List SV)) (hs : List Int) (hl : hs.length ≤ 1000000) : AMut Tryz.prog 165 [.seq false 1 (irow hs)] g (fun r g' => g' = g ∧ r = .pv (.tup [.seq false 1 (irow (splS hs).1), .seq true 1 ((splS hs).2.map crowF)])) := by
  refine amutXW [] [.tmp 2, .tmp 3] hmo Tryz.func165 (by kernel_rfl) rfl rfl (by kernel_rfl) (Nat.le_of_ble_eq_true rfl) ?_
  have hw : ∀ i, i < hs.length → w64 ((i : Int) + 1) = ((i + 1 : Nat) : Int) := fun i hi => by rw [w64_id (by omega) (by omega)]; omega
  simp
  refine ALoop.intro (S := fun (i : Nat) => ⟨[(0, .pv (.seq false 1 (irow hs))), (4, .pv (I64 i))], g⟩) (fun i => i ≤ hs.length ∧ ∀ m (_ : m < hs.length), m < i → ¬ hs[m] < 0) (fun i => hs.length - i) 0 ?_ ⟨Nat.zero_le _, fun m _ h => by omega⟩ ?_
  · exact Weak.keep (by simp) rfl
  rintro i ⟨hi, hp⟩
  by_cases h : i < hs.length
  · by_cases c : hs[i] < 0
    · have c' : ¬ 0 ≤ hs[i] := by omega
      simp [h, c, c']
      obtain ⟨A, hA⟩ : ∃ A, A = hs.take i := ⟨_, rfl⟩
      have hA0 : splTo hs i = (A, []) := by rw [hA]; exact splTo_pos hs i hi hp
      refine ALoop.intro (S := fun (x : Nat × List (List Int)) => ⟨[(0, .pv (.seq false 1 (irow hs))), (4, .pv (I64 i)), (5, .own true 1 (x.2.map crowF)), (6, .pv (I64 x.1))], g⟩) (fun x => x.1 ≤ hs.length ∧ x.2.length ≤ x.1 ∧ ∃ e, x.1 ≤ e ∧ e ≤ hs.length ∧ (∀ m (_ : m < hs.length), x.1 ≤ m → m < e → 0 ≤ hs[m]) ∧ (∀ _ : e < hs.length, hs[e] < 0) ∧ splTo hs e = (A, x.2)) (fun x => hs.length - x.1) (i, []) ?_ ⟨hi, Nat.zero_le _, i, Nat.le_refl _, hi, (fun m _ h1 h2 => by omega), (fun hh => by first | exact c | omega), hA0⟩ ?_
      · exact (Weak.nilOwn (s := 5) 1 true (by simp)).trans (Weak.keep (by simp) rfl)
      rintro ⟨k, R⟩ ⟨hk, hRl, e, he1, he2, he3, he4, he5⟩
      dsimp only at hk hRl he1 he2 he3 he4 he5
      by_cases hkl : k < hs.length
      · by_cases ck : hs[k] < 0
        · have hek : e = k := Classical.byContradiction fun hh => by have := he3 k hkl (Nat.le_refl _) (by omega); omega
          subst hek
          simp [hkl, ck]
          refine ALoop.intro (S := fun (j : Nat) => ⟨[(0, .pv (.seq false 1 (irow hs))), (4, .pv (I64 i)), (5, .own true 1 (R.map crowF)), (6, .pv (I64 e)), (7, .pv (I64 j))], g⟩) (fun j => e < j ∧ j ≤ hs.length ∧ ∀ m (_ : m < hs.length), e < m → m < j → 0 ≤ hs[m]) (fun j => hs.length - j) (e + 1) ?_ ⟨by omega, by omega, fun m _ h1 h2 => by omega⟩ ?_
          · exact Weak.keep (by simp [hw e hkl]) rfl
          rintro j ⟨hj1, hj2, hj3⟩
          have hrun := splTo_run hs hkl ck j hj1 hj2 (fun m a1 a2 a3 => by have := hj3 m a1 a2 a3; omega)
          rw [he5] at hrun
          have hfin : ∀ (_ : ∀ _ : j < hs.length, hs[j] < 0), (e + 1) ≤ hs.length ∧ (R ++ [(hs.take j).drop e]).length ≤ e + 1 ∧ ∃ e', e + 1 ≤ e' ∧ e' ≤ hs.length ∧ (∀ m (_ : m < hs.length), e + 1 ≤ m → m < e' → 0 ≤ hs[m]) ∧ (∀ _ : e' < hs.length, hs[e'] < 0) ∧ splTo hs e' = (A, R ++ [(hs.take j).drop e]) := fun hh => ⟨by omega, by simp; omega, j, by omega, hj2, fun m h1 h2 h3 => hj3 m h1 (by omega) h3, hh, hrun⟩
          have hrow : ((irow hs).take j).drop e = irow ((hs.take j).drop e) := by unfold irow; rw [List.map_drop, List.map_take]
          by_cases hjl : j < hs.length
          · by_cases cj : hs[j] < 0
            · have cj' : ¬ 0 ≤ hs[j] := by omega
              simp [hjl, cj, cj', hrow]
              exact ⟨⟨by omega, by omega⟩, by omega, (e + 1, R ++ [(hs.take j).drop e]), by (try dsimp only); omega, hfin (fun hh => cj), Weak.keep (by simp [hw e hkl, crowF]) (by simp)⟩
            · have cj' : 0 ≤ hs[j] := by omega
              simp [hjl, cj, cj']
              refine ⟨j + 1, by (try dsimp only); omega, ⟨by omega, by omega, fun m h1 h2 h3 => ?_⟩, Weak.keep (by simp [hw j hjl]) (by simp)⟩
              by_cases em : m = j
              · subst em; omega
              · have := hj3 m h1 h2 (by omega); omega
          · have hje : j = hs.length := by omega
            subst hje
            simp [hrow]
            exact ⟨by omega, by omega, (e + 1, R ++ [(hs.take hs.length).drop e]), by (try dsimp only); omega, hfin (fun hh => by omega), Weak.keep (by simp [hw e hkl, crowF]) (by simp)⟩
        · simp [hkl, ck]
          have hke : k ≠ e := fun hh => by subst hh; exact ck (he4 hkl)
          exact ⟨(k + 1, R), by (try dsimp only); omega, ⟨by (try dsimp only); omega, by (try dsimp only); omega, e, by (try dsimp only); omega, he2, (fun m h1 h2 h3 => he3 m h1 (by (try dsimp only at h2); omega) h3), he4, he5⟩, Weak.keep (by simp [hw k hkl]) (by simp)⟩
      · have hke : k = hs.length := by omega
        have hee : e = hs.length := by omega
        subst hke
        rw [hee] at he5
        have hS : splS hs = (A, R) := he5
        have hti : (irow hs).take i = irow A := by rw [hA]; unfold irow; rw [List.map_take]
        rw [hS]
        simp [wkP, wkPL, hti]
        try omega
    · have c' : 0 ≤ hs[i] := by omega
      simp [h, c, c']
      refine ⟨i + 1, by (try dsimp only); omega, ⟨by (try dsimp only); omega, fun m h1 h2 => ?_⟩, Weak.keep (by simp [hw i h]) (by simp)⟩
      by_cases e : m = i
      · subst e; omega
      · have := hp m h1 (by omega); omega
  · have hie : i = hs.length := by omega
    subst hie
    simp
    obtain ⟨A, hA⟩ : ∃ A, A = hs.take hs.length := ⟨_, rfl⟩
    have hA0 : splTo hs hs.length = (A, []) := by rw [hA]; exact splTo_pos hs hs.length hi hp
    refine ALoop.intro (S := fun (x : Nat × List (List Int)) => ⟨[(0, .pv (.seq false 1 (irow hs))), (4, .pv (I64 hs.length)), (5, .own true 1 (x.2.map crowF)), (6, .pv (I64 x.1))], g⟩) (fun x => x.1 ≤ hs.length ∧ x.2.length ≤ x.1 ∧ ∃ e, x.1 ≤ e ∧ e ≤ hs.length ∧ (∀ m (_ : m < hs.length), x.1 ≤ m → m < e → 0 ≤ hs[m]) ∧ (∀ _ : e < hs.length, hs[e] < 0) ∧ splTo hs e = (A, x.2)) (fun x => hs.length - x.1) (hs.length, []) ?_ ⟨hi, Nat.zero_le _, hs.length, Nat.le_refl _, hi, (fun m _ h1 h2 => by omega), (fun hh => by first | exact c | omega), hA0⟩ ?_
    · exact (Weak.nilOwn (s := 5) 1 true (by simp)).trans (Weak.keep (by simp) rfl)
    rintro ⟨k, R⟩ ⟨hk, hRl, e, he1, he2, he3, he4, he5⟩
    dsimp only at hk hRl he1 he2 he3 he4 he5
    by_cases hkl : k < hs.length
    · by_cases ck : hs[k] < 0
      · have hek : e = k := Classical.byContradiction fun hh => by have := he3 k hkl (Nat.le_refl _) (by omega); omega
        subst hek
        simp [hkl, ck]
        refine ALoop.intro (S := fun (j : Nat) => ⟨[(0, .pv (.seq false 1 (irow hs))), (4, .pv (I64 hs.length)), (5, .own true 1 (R.map crowF)), (6, .pv (I64 e)), (7, .pv (I64 j))], g⟩) (fun j => e < j ∧ j ≤ hs.length ∧ ∀ m (_ : m < hs.length), e < m → m < j → 0 ≤ hs[m]) (fun j => hs.length - j) (e + 1) ?_ ⟨by omega, by omega, fun m _ h1 h2 => by omega⟩ ?_
        · exact Weak.keep (by simp [hw e hkl]) rfl
        rintro j ⟨hj1, hj2, hj3⟩
        have hrun := splTo_run hs hkl ck j hj1 hj2 (fun m a1 a2 a3 => by have := hj3 m a1 a2 a3; omega)
        rw [he5] at hrun
        have hfin : ∀ (_ : ∀ _ : j < hs.length, hs[j] < 0), (e + 1) ≤ hs.length ∧ (R ++ [(hs.take j).drop e]).length ≤ e + 1 ∧ ∃ e', e + 1 ≤ e' ∧ e' ≤ hs.length ∧ (∀ m (_ : m < hs.length), e + 1 ≤ m → m < e' → 0 ≤ hs[m]) ∧ (∀ _ : e' < hs.length, hs[e'] < 0) ∧ splTo hs e' = (A, R ++ [(hs.take j).drop e]) := fun hh => ⟨by omega, by simp; omega, j, by omega, hj2, fun m h1 h2 h3 => hj3 m h1 (by omega) h3, hh, hrun⟩
        have hrow : ((irow hs).take j).drop e = irow ((hs.take j).drop e) := by unfold irow; rw [List.map_drop, List.map_take]
        by_cases hjl : j < hs.length
        · by_cases cj : hs[j] < 0
          · have cj' : ¬ 0 ≤ hs[j] := by omega
            simp [hjl, cj, cj', hrow]
            exact ⟨⟨by omega, by omega⟩, by omega, (e + 1, R ++ [(hs.take j).drop e]), by (try dsimp only); omega, hfin (fun hh => cj), Weak.keep (by simp [hw e hkl, crowF]) (by simp)⟩
          · have cj' : 0 ≤ hs[j] := by omega
            simp [hjl, cj, cj']
            refine ⟨j + 1, by (try dsimp only); omega, ⟨by omega, by omega, fun m h1 h2 h3 => ?_⟩, Weak.keep (by simp [hw j hjl]) (by simp)⟩
            by_cases em : m = j
            · subst em; omega
            · have := hj3 m h1 h2 (by omega); omega
        · have hje : j = hs.length := by omega
          subst hje
          simp [hrow]
          exact ⟨by omega, by omega, (e + 1, R ++ [(hs.take hs.length).drop e]), by (try dsimp only); omega, hfin (fun hh => by omega), Weak.keep (by simp [hw e hkl, crowF]) (by simp)⟩
      · simp [hkl, ck]
        have hke : k ≠ e := fun hh => by subst hh; exact ck (he4 hkl)
        exact ⟨(k + 1, R), by (try dsimp only); omega, ⟨by (try dsimp only); omega, by (try dsimp only); omega, e, by (try dsimp only); omega, he2, (fun m h1 h2 h3 => he3 m h1 (by (try dsimp only at h2); omega) h3), he4, he5⟩, Weak.keep (by simp [hw k hkl]) (by simp)⟩
    · have hke : k = hs.length := by omega
      have hee : e = hs.length := by omega
      subst hke
      rw [hee] at he5
      have hS : splS hs = (A, R) := he5
      have hti : (irow hs).take hs.length = irow A := by rw [hA]; unfold irow; rw [List.map_take]
      rw [hS]
      simp [wkP, wkPL, hti]
      try omega
end Go.AX

namespace Go.AX
open Go.Proofs
set_option linter.unusedSimpArgs false
set_option maxRecDepth 16000 in
theorem refWthn10_ok (l : List Int) (lo : Int) (hl : l.length ≤ 140737488355328) : APure Tryz.prog 162 [.seq false 1 (irow l), I64 lo] (fun r => r = .pv (BL (wthnS l lo))) := by
  refine apure1 hmo Tryz.func162 (by kernel_rfl) rfl rfl (by kernel_rfl) (Nat.le_of_ble_eq_true rfl) ?_
  simp
  refine ALoop.intro (S := fun (i : Nat) => ⟨[(0, .pv (.seq false 1 (irow l))), (1, .pv (I64 lo)), (5, .pv (I64 i))], []⟩) (fun i => i ≤ l.length ∧ ∀ m (_ : m < l.length), m < i → outW lo l[m] = false) (fun i => l.length - i) 0 ?_ ⟨Nat.zero_le _, fun m _ h => by omega⟩ ?_
  · exact Weak.keep (by simp) rfl
  rintro i ⟨hi, ho⟩
  by_cases h : i < l.length
  · have hw : w64 ((i : Int) + 1) = ((i + 1 : Nat) : Int) := by rw [w64_id (by omega) (by omega)]; omega
    have hq : l[i]? = some l[i] := List.getElem?_eq_getElem h
    cases c : outW lo l[i]
    · have hc := c
      unfold outW at hc
      simp only [Bool.or_eq_false_iff, decide_eq_false_iff_not] at hc
      obtain ⟨⟨c1, c2⟩, c3⟩ := hc
      have c1' : lo ≤ l[i] := by omega
      have c2' : l[i] ≤ 10000000 := by omega
      simp [h, hq, c1, c2, c3, c1', c2']
      refine ⟨i + 1, by (try dsimp only); omega, ⟨by (try dsimp only); omega, fun m h1 h2 => ?_⟩, Weak.keep (by simp [hw]) (by simp)⟩
      by_cases e : m = i
      · subst e; exact c
      · exact ho m h1 (by omega)
    · have hF : wthnS l lo = false := by
        unfold wthnS
        have : (l.any (outW lo)) = true := List.any_eq_true.2 ⟨_, List.getElem_mem h, c⟩
        rw [this]
        simp
      rw [hF]
      unfold outW at c
      by_cases c1 : l[i] < lo
      · have c1' : ¬ lo ≤ l[i] := by omega
        simp [h, hq, c1, c1']
      · by_cases c2 : 10000000 < l[i]
        · have c2' : ¬ l[i] ≤ 10000000 := by omega
          simp [h, hq, c1, c2, c2']
        · have c3 : l[i] = 0 := by simpa [c1, c2] using c
          rw [c3] at c1 c2
          simp [h, hq, c1, c2, c3]
  · have hie : i = l.length := by omega
    subst hie
    have hA : (l.any (outW lo)) = false := List.any_eq_false.2 fun x hx => by
      obtain ⟨m, hm, rfl⟩ := List.getElem_of_mem hx
      simp [ho m hm hm]
    unfold wthnS
    rw [hA]
    by_cases c : l.length ≤ 1000
    · have c' : (l.length : Int) ≤ 1000 := by omega
      simp [c, c']
    · have c' : ¬ (l.length : Int) ≤ 1000 := by omega
      simp [c, c']
end Go.AX

namespace Go.AX
open Go.Proofs
set_option linter.unusedSimpArgs false
def cnfGo (v : Int) : List (List Int) → Nat → Int × Int
  | [], i => (i, 0)
  | c :: L, i => if chkC c v ≠ 0 then (i, chkC c v) else if tautS c = true then (i, 11) else cnfGo v L (i + 1)
def cnfS (v : Int) (L : List (List Int)) : Int × Int := if v < 0 ∨ 100000 < v then (0, 2) else if 1000000 < L.length then (0, 3) else cnfGo v L 0
theorem cnfGo_drop (v : Int) {L : List (List Int)} {i : Nat} (h : i < L.length) : cnfGo v (L.drop i) i = if chkC L[i] v ≠ 0 then ((i : Int), chkC L[i] v) else if tautS L[i] = true then ((i : Int), 11) else cnfGo v (L.drop (i + 1)) (i + 1) := by
  rw [List.drop_eq_getElem_cons h, cnfGo]
theorem cnfGo_end (v : Int) (L : List (List Int)) : cnfGo v (L.drop L.length) L.length = ((L.length : Int), 0) := by
  rw [List.drop_eq_nil_of_le (Nat.le_refl _), cnfGo]
set_option maxRecDepth 16000 in
theorem cnfS_ok (v : Int) (L : List (List Int)) (hr : ∀ c ∈ L, c.length ≤ 1000000) : APure Tryz.prog 116 [.agg [I64 v, .seq false 1 (L.map crowF)]] (fun r => r = .pv (.tup [I64 (cnfS v L).1, I64 (cnfS v L).2])) := by
  refine apureN [2, 3] hmo Tryz.func116 (by kernel_rfl) rfl (fun _ _ => results_tmp2 rfl _ _ _) (by kernel_rfl) (Nat.le_of_ble_eq_true rfl) ?_
  have hS : cnfS v L = if v < 0 ∨ 100000 < v then (0, 2) else if 1000000 < L.length then (0, 3) else cnfGo v (L.drop 0) 0 := rfl
  generalize cnfS v L = S at *
  by_cases h1 : v < 0
  · rw [if_pos (.inl h1)] at hS
    subst hS
    simp [h1]
  by_cases h2 : 100000 < v
  · rw [if_pos (.inr h2)] at hS
    subst hS
    simp [h1, h2]
  rw [if_neg (fun e => e.elim h1 h2)] at hS
  by_cases h3 : 1000000 < L.length
  · have h3' : (1000000 : Int) < (L.length : Int) := by omega
    rw [if_pos h3] at hS
    subst hS
    simp [h1, h2, h3, h3']
  rw [if_neg h3] at hS
  have h3' : ¬ (1000000 : Int) < (L.length : Int) := by omega
  simp [h1, h2, h3, h3']
  refine ALoop.intro (S := fun (i : Nat) => ⟨[(1, .pv (.ptr 0 0)), (22, .pv (.seq false 1 (L.map crowF))), (23, .pv (I64 L.length)), (24, .pv (I64 i))], [[.pv (I64 v), .pv (.seq false 1 (L.map crowF))]]⟩) (fun i => i ≤ L.length ∧ S = cnfGo v (L.drop i) i) (fun i => L.length - i) 0 ?_ ⟨Nat.zero_le _, hS⟩ ?_
  · exact Weak.keep (by simp) (by simp)
  rintro i ⟨hi, hSi⟩
  by_cases h : i < L.length
  rotate_left
  · have hie : i = L.length := by omega
    subst hie
    rw [cnfGo_end] at hSi
    subst hSi
    simp
  have hw : w64 ((i : Int) + 1) = ((i + 1 : Nat) : Int) := by rw [w64_id (by omega) (by omega)]; omega
  rw [cnfGo_drop v h] at hSi
  have hc := hr _ (List.getElem_mem h)
  have k1 := clCheck_ok L[i] v (by omega)
  have k2 := taut_ok L[i] (by omega)
  simp [h, crowF]
  refine CallK.intro k1 (by simp) ?_
  by_cases c1 : chkC L[i] v = 0
  · rw [if_neg (by simp [c1])] at hSi
    simp [c1]
    refine CallK.intro k2 (by simp) ?_
    by_cases c2 : tautS L[i] = true
    · rw [if_pos c2] at hSi
      subst hSi
      simp [c2]
    · rw [if_neg c2] at hSi
      simp [c2]
      exact ⟨i + 1, by (try dsimp only); omega, ⟨by (try dsimp only); omega, hSi⟩, Weak.keep (by simp [hw, crowF]) (by simp [crowF])⟩
  · rw [if_pos c1] at hSi
    subst hSi
    simp [c1]
set_option maxRecDepth 16000 in
theorem refCnf_ok (v : Int) (L : List (List Int)) (hr : ∀ c ∈ L, c.length ≤ 1000000) : APure Tryz.prog 124 [.agg [I64 v, .seq false 1 (L.map crowF)]] (fun r => r = .pv (.tup [I64 (cnfS v L).1, I64 (cnfS v L).2])) := by
  refine apureN [2, 3] hmo Tryz.func124 (by kernel_rfl) rfl (fun _ _ => results_tmp2 rfl _ _ _) (by kernel_rfl) (Nat.le_of_ble_eq_true rfl) ?_
  have hS : cnfS v L = if v < 0 ∨ 100000 < v then (0, 2) else if 1000000 < L.length then (0, 3) else cnfGo v (L.drop 0) 0 := rfl
  generalize cnfS v L = S at *
  by_cases h1 : v < 0
  · rw [if_pos (.inl h1)] at hS
    subst hS
    simp [h1]
  by_cases h2 : 100000 < v
  · rw [if_pos (.inr h2)] at hS
    subst hS
    simp [h1, h2]
  rw [if_neg (fun e => e.elim h1 h2)] at hS
  by_cases h3 : 1000000 < L.length
  · have h3' : (1000000 : Int) < (L.length : Int) := by omega
    rw [if_pos h3] at hS
    subst hS
    simp [h1, h2, h3, h3']
  rw [if_neg h3] at hS
  have h3' : ¬ (1000000 : Int) < (L.length : Int) := by omega
  simp [h1, h2, h3, h3']
  refine ALoop.intro (S := fun (i : Nat) => ⟨[(1, .pv (.ptr 0 0)), (4, .pv (I64 i))], [[.pv (I64 v), .pv (.seq false 1 (L.map crowF))]]⟩) (fun i => i ≤ L.length ∧ S = cnfGo v (L.drop i) i) (fun i => L.length - i) 0 ?_ ⟨Nat.zero_le _, hS⟩ ?_
  · exact Weak.keep (by simp) (by simp)
  rintro i ⟨hi, hSi⟩
  by_cases h : i < L.length
  rotate_left
  · have hie : i = L.length := by omega
    subst hie
    rw [cnfGo_end] at hSi
    subst hSi
    simp
  have hw : w64 ((i : Int) + 1) = ((i + 1 : Nat) : Int) := by rw [w64_id (by omega) (by omega)]; omega
  rw [cnfGo_drop v h] at hSi
  have hc := hr _ (List.getElem_mem h)
  have k1 := refClCheck_ok L[i] v (by omega)
  have k2 := refTaut_ok L[i] (by omega)
  have hq : L[i]? = some L[i] := List.getElem?_eq_getElem h
  simp [h, hq, crowF]
  refine CallQ0.intro k1 (by simp) ?_
  by_cases c1 : chkC L[i] v = 0
  · rw [if_neg (by simp [c1])] at hSi
    simp [c1, h, hq, crowF]
    refine CallK.intro k2 (by simp) ?_
    by_cases c2 : tautS L[i] = true
    · rw [if_pos c2] at hSi
      subst hSi
      simp [c2]
    · rw [if_neg c2] at hSi
      simp [c2]
      exact ⟨i + 1, by (try dsimp only); omega, ⟨by (try dsimp only); omega, hSi⟩, Weak.keep (by simp [hw, crowF]) (by simp [crowF])⟩
  · rw [if_pos c1] at hSi
    subst hSi
    simp [c1]
end Go.AX
