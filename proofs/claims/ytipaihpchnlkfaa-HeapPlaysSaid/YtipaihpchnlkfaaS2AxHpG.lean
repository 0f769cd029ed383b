/-
  Contracts: into a heap, and out of it.
  Contracts: a new heap.
-/
import Derived.Test.YtipaihpchnlkfaaS2AxHpE
import Derived.Test.YtipaihpchnlkfaaS2AxMovS
namespace Go.AX
open Go.Proofs
set_option linter.unusedSimpArgs false

theorem irow_snoc (l : List Int) (x : Int) : irow l ++ [[I64 x]] = irow (l ++ [x]) := by simp [irow]
theorem putS_no {q : HS} {v : Int} (h : isV q v = false) : putS q v = (q, 10) := by unfold putS; rw [if_pos h]
theorem putS_dup {q : HS} {v : Int} (h : isV q v = true) (h2 : 0 ≤ q.pl.getD v.toNat 0) : putS q v = (q, 21) := by unfold putS; rw [if_neg (by rw [h]; simp), if_pos h2]
theorem putS_yes {q : HS} {v : Int} (h : isV q v = true) (h2 : ¬ 0 ≤ q.pl.getD v.toNat 0) : putS q v = (⟨q.sc, (upL q.sc v q.row.length (q.row ++ [v]) q.pl).1, (upL q.sc v q.row.length (q.row ++ [v]) q.pl).2⟩, 0) := by
  unfold putS; rw [if_neg (by rw [h]; simp), if_neg h2]

set_option maxRecDepth 16000 in
theorem hput_ok (h : List (List SV)) (b : Nat) (q : HS) (hb : h[b]? = some (heapB q)) {n : Nat} {M : Int} (g : HpG n M q) (hn : n ≤ 100000) (v : Int) :
    AMut Try.prog 93 [.ptr b 0, I64 v] h (fun r h' => r = .pv (I64 (putS q v).2) ∧ h' = h.set b (heapB (putS q v).1)) := by
  refine amut1 hmo Try.func93 (by kernel_rfl) rfl rfl (by kernel_rfl) (Nat.le_of_ble_eq_true rfl) ?_
  obtain ⟨hlt, hb'⟩ := List.getElem?_eq_some_iff.1 hb
  have hq : 0 < q.sc.length := by rw [g.sl]; omega
  have hw0 := hwhy_ok q hq v
  have hha := hhas_ok q hq (by rw [g.pll, g.sl]) v
  generalize hPS : putS q v = PS
  simp
  rw [frz_heap0 hb]
  refine CallB.introP hw0 (by simp) (by simp) ?_
  unfold whyV
  have hfew := g.few
  have hhb : h.set b (heapB q) = h := set_same hb
  cases hv : isV q v with
  | false =>
    have e := hPS.symm.trans (putS_no hv)
    subst e; simp [hhb]
  | true =>
    rw [hv] at hha
    obtain ⟨p0, hp0⟩ : ∃ x, x = q.pl.getD v.toNat 0 := ⟨_, rfl⟩
    rw [← hp0] at hha
    simp
    rw [frz_heap0 hb]
    refine CallB.introP hha (by simp) (by simp) ?_
    by_cases c : 0 ≤ p0
    · have e := hPS.symm.trans (putS_dup hv (by rw [← hp0]; exact c))
      subst e
      simp [c, hhb]
    · have e := hPS.symm.trans (putS_yes hv (by rw [← hp0]; exact c))
      clear hPS
      subst e
      have hvi := g.isV_iff.1 hv
      have hin : InR (q.row ++ [v]) q.pl.length := fun x hx => by
        rw [g.pll]
        rcases List.mem_append.1 hx with hx | hx
        · exact g.inr x hx
        · simp at hx; omega
      have hup := hup_ok (h.set b (heapB ⟨q.sc, q.row ++ [v], q.pl⟩)) b ⟨q.sc, q.row ++ [v], q.pl⟩ (get_set hlt _) q.row.length (by simp) hin (by rw [g.pll, g.sl]) (by simp; omega)
      have hg1 : (q.row ++ [v]).getD q.row.length 0 = v := by simp [List.getD_eq_getElem?_getD]
      dsimp only at hup
      rw [hg1] at hup
      obtain ⟨R, hR⟩ : ∃ R, upL q.sc v q.row.length (q.row ++ [v]) q.pl = R := ⟨_, rfl⟩
      rw [hR] at hup ⊢
      have hw : w64 (q.row.length : Int) = (q.row.length : Int) := w64_id (by omega) (by omega)
      simp only [heapB] at hup
      simp [c, hlt, hb', heapB, irow_snoc, hw]
      refine ⟨by omega, CallB.intro hup (by simp) ?_⟩
      rintro _ _ ⟨rfl, rfl⟩
      simp

theorem takeS_none {q : HS} (h : peekV q = 0) : takeS' q = (q, 0) := by unfold takeS'; rw [if_pos h]
theorem takeS_yes {q : HS} (h : peekV q ≠ 0) {w : Int} {L : Nat} (hL : q.row.length = L + 1) (hw : q.row.getD L 0 = w) :
    takeS' q = (if 0 < L then ⟨q.sc, (downL q.sc (((q.row.set 0 w).take L).getD 0 0) L 0 ((q.row.set 0 w).take L) ((q.pl.set w.toNat 0).set (peekV q).toNat (-1))).1, (downL q.sc (((q.row.set 0 w).take L).getD 0 0) L 0 ((q.row.set 0 w).take L) ((q.pl.set w.toNat 0).set (peekV q).toNat (-1))).2⟩ else ⟨q.sc, (q.row.set 0 w).take L, (q.pl.set w.toNat 0).set (peekV q).toNat (-1)⟩, peekV q) := by
  unfold takeS'
  rw [if_neg h]
  have hl : ((q.row.set 0 w).take L).length = L := by simp [hL]
  simp only [hL, Nat.add_sub_cancel, hw, hl]

set_option maxRecDepth 16000 in
theorem htake_ok (h : List (List SV)) (b : Nat) (q : HS) (hb : h[b]? = some (heapB q)) {n : Nat} {M : Int} (g : HpG n M q) (hn : n ≤ 100000) :
    AMut Try.prog 60 [.ptr b 0] h (fun r h' => r = .pv (I64 (takeS' q).2) ∧ h' = h.set b (heapB (takeS' q).1)) := by
  refine amut1 hmo Try.func60 (by kernel_rfl) rfl rfl (by kernel_rfl) (Nat.le_of_ble_eq_true rfl) ?_
  obtain ⟨hlt, hb'⟩ := List.getElem?_eq_some_iff.1 hb
  have hq : 0 < q.sc.length := by rw [g.sl]; omega
  have hpe := hpeek_ok q hq
  generalize hTS : takeS' q = TS
  have hfew := g.few
  have hhb : h.set b (heapB q) = h := set_same hb
  simp
  rw [frz_heap0 hb]
  refine CallB.introP hpe (by simp) (by simp) ?_
  by_cases c : peekV q = 0
  · have e := hTS.symm.trans (takeS_none c)
    subst e
    simp [c, hhb]
  have hne : q.row ≠ [] := fun h => c (g.peek_zero.2 h)
  have hl : 0 < q.row.length := List.length_pos_iff.2 hne
  obtain ⟨L, hL⟩ : ∃ L, q.row.length = L + 1 := ⟨q.row.length - 1, by omega⟩
  have hpk := g.inr _ (g.peek_mem c)
  obtain ⟨w, hw⟩ : ∃ w, q.row.getD L 0 = w := ⟨_, rfl⟩
  have hwi := g.inr w (by rw [← hw]; exact getD_mem (by omega))
  have hLl : L < q.row.length := by omega
  have hgL : q.row[L] = w := by rw [← hw]; exact getD_int hLl
  have e := hTS.symm.trans (takeS_yes c hL hw)
  clear hTS
  subst e
  obtain ⟨pk, hpkn⟩ := Int.eq_ofNat_of_zero_le (show 0 ≤ peekV q by omega)
  have hpk' : peekV q = (pk : Int) := hpkn
  rw [hpk'] at hpk ⊢
  have hw1 : w64 (L : Int) = (L : Int) := w64_id (by omega) (by omega)
  obtain ⟨row2, hr2⟩ : ∃ r, (q.row.set 0 w).take L = r := ⟨_, rfl⟩
  obtain ⟨pl2, hp2⟩ : ∃ r, (q.pl.set w.toNat 0).set pk (-1) = r := ⟨_, rfl⟩
  rw [hr2, Int.toNat_natCast, hp2]
  obtain ⟨F, hF⟩ : ∃ F : HS, (if 0 < L then ⟨q.sc, (downL q.sc (row2.getD 0 0) L 0 row2 pl2).1, (downL q.sc (row2.getD 0 0) L 0 row2 pl2).2⟩ else ⟨q.sc, row2, pl2⟩) = F := ⟨_, rfl⟩
  rw [hF]
  have hset := hset_okI h b q hb 0 w hl (by rw [g.pll]; omega)
  have hpl1 : pk < q.pl.length := by rw [g.pll]; omega
  have c2 : ¬ pk = 0 := by omega
  simp only [heapB] at hset
  simp [hlt, hb', heapB, hL, hw1, hgL, c2]
  refine ⟨by omega, CallB.intro hset (by simp) ?_⟩
  rintro _ _ ⟨rfl, rfl⟩
  have hirow : List.take L (irow (q.row.set 0 w)) = irow row2 := by rw [irow_take, hr2]
  have hl2 : row2.length = L := by rw [← hr2]; simp [hL]
  have hp2l : pl2.length = n + 1 := by rw [← hp2]; simp [g.pll]
  have hin2 : InR row2 pl2.length := fun x hx => by
    rw [hp2l]
    rw [← hr2] at hx
    rcases List.mem_or_eq_of_mem_set (List.mem_of_mem_take hx) with hx | hx
    · exact g.inr x hx
    · omega
  simp [hlt, hL, hw1, hpl1, hirow, irow_set, hr2, hp2]
  refine ⟨by omega, fun c3 => ?_, fun c3 => ?_⟩
  · have hdn := hdown_ok (h.set b (heapB ⟨q.sc, row2, pl2⟩)) b ⟨q.sc, row2, pl2⟩ (get_set hlt _) 0 (by dsimp only; omega) hin2 (by dsimp only; rw [hp2l, g.sl]) (by dsimp only; omega)
    dsimp only at hdn
    rw [hl2] at hdn
    rw [if_pos c3] at hF
    obtain ⟨R, hR⟩ : ∃ R, downL q.sc (row2.getD 0 0) L 0 row2 pl2 = R := ⟨_, rfl⟩
    rw [hR] at hdn hF
    simp only [heapB] at hdn
    refine CallB.intro hdn (by simp) ?_
    rintro _ _ ⟨rfl, rfl⟩
    rw [← hF]
    simp
  · rw [if_neg (by omega)] at hF
    rw [← hF]

end Go.AX

namespace Go.AX
open Go.Proofs
set_option linter.unusedSimpArgs false

/-- nil in a cell, taken for a slice of one's own. -/
theorem Weak.nilCell {k0 : Nat} {st : St} {b k : Nat} {xs : List SV} (e : Nat) (nw : Bool) (hx : st.h[b]? = some xs) (hk : xs[k]? = some (.pv (.lit (.slice none 0 0)))) : Weak k0 st ⟨killL (qCells b k 1) st.t, st.h.set b (xs.set k (.own nw e []))⟩ := fun g a w _ hs => by
  obtain ⟨bl, hb⟩ := hs.own
  have hkl : k < xs.length := (List.getElem?_eq_some_iff.1 hk).1
  obtain ⟨arr, T, e1, e2, e3⟩ := hb.blocks b xs hx
  have h4 := (e3 k _ hk).2
  have hv : posVal g a w (.cell b k) = .slice none 0 0 := by
    simp only [posVal, e1]; exact h4.2
  exact ⟨g, hs.refl_to, (hs.adopt hb hx hkl (sv := .own nw e []) (o := none) (.inl ⟨rfl, rfl, hv⟩) rfl (fun c hc => by cases hc)).1⟩

def newRow' (i : Nat) : List Int := (List.range i).map fun j => ((j + 1 : Nat) : Int)
def newPl (n i : Nat) : List Int := (List.range (n + 1)).map fun j => if j ≤ i then ((j - 1 : Nat) : Int) else 0
theorem newPl_set {n i : Nat} (h : i < n) : (newPl n i).set (i + 1) i = newPl n (i + 1) := by
  apply List.ext_getElem
  · simp [newPl]
  · intro j h1 h2
    rw [List.getElem_set]
    simp only [newPl, List.getElem_map, List.getElem_range]
    by_cases e : i + 1 = j
    · subst e; simp
    · rw [if_neg e]
      by_cases e2 : j ≤ i
      · rw [if_pos e2, if_pos (by omega)]
      · rw [if_neg e2, if_neg (by omega)]
theorem newPl_all (n : Nat) : newPl n n = (newS n).pl := by
  apply List.ext_getElem?
  intro j
  simp only [newPl, newS]
  cases j with
  | zero => simp
  | succ j =>
    rw [List.getElem?_cons_succ, List.getElem?_map, List.getElem?_map]
    by_cases c : j < n
    · simp [c]; omega
    · simp [c]
theorem newPl_zero (n : Nat) : newPl n 0 = List.replicate (n + 1) 0 := by
  apply List.ext_getElem
  · simp [newPl]
  · intro j h1 h2
    simp only [newPl, List.getElem_map, List.getElem_range, List.getElem_replicate]
    split
    · rename_i c; have : j = 0 := by omega
      subst this; rfl
    · rfl
theorem irow_zeros (n : Nat) : List.replicate n [I64 0] = irow (List.replicate n 0) := by simp [irow]

set_option maxRecDepth 16000 in
theorem hnew_ok (h : List (List SV)) (vars : Int) :
    AMut Try.prog 48 [I64 vars] h (fun r h' => if 0 ≤ vars ∧ vars ≤ 100000 then r = .pv (.tup [.ptr h.length 0, I64 0]) ∧ h' = h ++ [heapB (newS vars.toNat)] else r = .pv (.tup [.lit (.pointer none), I64 2]) ∧ h' = h) := by
  refine amutNB [3] [2, 3] hmo Try.func48 (by kernel_rfl) rfl (fun _ _ => results_tmp2 rfl _ _ _) (by kernel_rfl) (Nat.le_of_ble_eq_true rfl) ?_
  by_cases c : 0 ≤ vars ∧ vars ≤ 100000
  rotate_left
  · have c2 : vars < 0 ∨ 100000 < vars := by omega
    rcases c2 with c2 | c2
    · have c3 : ¬ 0 ≤ vars := by omega
      simp [c2, c3]
    · have c3 : 0 ≤ vars := by omega
      have c4 : ¬ vars ≤ 100000 := by omega
      have c5 : ¬ vars < 0 := by omega
      simp [c2, c3, c4, c5]
  · obtain ⟨n, hn⟩ := Int.eq_ofNat_of_zero_le c.1
    have hn' : vars = (n : Int) := hn
    subst hn'
    have c2 : n ≤ 100000 := by omega
    have c3 : (n : Int) ≤ 100000 := by omega
    have hw : w64 ((n : Int) + 1) = ((n + 1 : Nat) : Int) := by rw [w64_id (by omega) (by omega)]; omega
    simp [c2, c3, hw]
    refine AAnyD.meet (.take 0 (.take 1 (.take 3 (.take 4 (.fork [(2, .fork [(5, .fork [(6, .fork [(7, .take 8 .done)])])]), (5, .fork [(2, .fork [(6, .fork [(7, .take 8 .done)])])])])))))
      ⟨[(0, .pv (I64 n)), (4, .pv (.ptr h.length 0))], h ++ [[.own true 1 (irow (List.replicate (n + 1) 0)), .pv (.lit (.slice none 0 0)), .own true 1 (irow (List.replicate (n + 1) 0))]]⟩ (by kernel_rfl) ?_ ?_
    · simp [hw]
      have hz : List.replicate (n + 1) [I64 0] = irow (List.replicate (n + 1) 0) := irow_zeros _
      refine ⟨⟨by omega, by omega, by omega, by omega, Weak.keep (by simp) (by simp [← hz])⟩, by omega, by omega, by omega, by omega, Weak.keep (by simp) (by simp [← hz])⟩
    · have hlen : h.length < (h ++ [[SV.own true 1 (irow (List.replicate (n + 1) 0)), .pv (.lit (.slice none 0 0)), .own true 1 (irow (List.replicate (n + 1) 0))]]).length := by simp
      simp
      refine ALoop.intro (S := fun (i : Nat) => ⟨[(0, .pv (I64 n)), (4, .pv (.ptr h.length 0)), (5, .pv (I64 ((i : Int) + 1)))], h ++ [heapB ⟨List.replicate (n + 1) 0, newRow' i, newPl n i⟩]⟩)
        (fun i => i ≤ n) (fun i => n - i) 0 ?_ ?_ ?_
      · refine (Weak.nilCell (b := h.length) (k := 1) (xs := [SV.own true 1 (irow (List.replicate (n + 1) 0)), .pv (.lit (.slice none 0 0)), .own true 1 (irow (List.replicate (n + 1) 0))]) 1 true (by simp) (by simp)).trans (Weak.keep (by simp) ?_)
        simp [heapB, newRow', newPl_zero, irow]
      · omega
      · intro i hi
        by_cases c4 : i < n
        · have hw2 : w64 ((i : Int) + 1) = (i : Int) + 1 := w64_id (by omega) (by omega)
          have hw3 : w64 ((i : Int) + 1 + 1) = (i : Int) + 1 + 1 := w64_id (by omega) (by omega)
          have hpl : i + 1 < (newPl n i).length := by simp [newPl]; omega
          have hpl2 : (i : Int) + 1 < (newPl n i).length := by simp [newPl]; omega
          have hle : (i : Int) + 1 ≤ n := by omega
          have hrl : (newRow' i).length = i := by simp [newRow']
          have htn : ((i : Int) + 1).toNat = i + 1 := by omega
          simp [heapB, hle, hpl, hpl2, hw2, hrl, htn]
          have hr1 : irow (newRow' i) ++ [[I64 ((i : Int) + 1)]] = irow (newRow' (i + 1)) := by
            rw [irow_snoc]; simp [newRow', List.range_succ]
          have hp1 : (irow (newPl n i)).set (i + 1) [I64 (i : Int)] = irow (newPl n (i + 1)) := by rw [irow_set, newPl_set c4]
          refine ⟨by omega, by omega, i + 1, by dsimp only; omega, by dsimp only; omega, Weak.keep ?_ ?_⟩
          · simp [hw3]
          · simp [hr1, hp1]
        · have hie : i = n := by omega
          subst hie
          have hle : ¬ (i : Int) + 1 ≤ i := by omega
          simp [hle]
          simp [newS, newPl_all, newRow', heapB]

end Go.AX
