/-
  Contracts: the product of two numbers; repeating.
  Contracts: the order that truths say.
  Contracts: the row of states that truths say.
  Contracts: orders and rows, by the document; whether an order stands against a pair.
-/
import Derived.Test.YtklaffmpfmpffaaGreatDoorS10AxDeD
import Derived.Test.YtklaffmpfmpffaaGreatDoorS10AxShelf
import Derived.Test.YtklaffmpfmpffaaGreatDoorAxQ
import Derived.Test.YtklaffmpfmpffaaGreatDoorAxBe
namespace Go.AX
open Go.Proofs
set_option linter.unusedSimpArgs false

theorem mul_ok (x y : Nat) (hx : x < 18446744073709551616) (hy : y < 18446744073709551616) : APure Tryz.prog 80 [.lit (.int .u64 x), .lit (.int .u64 y)] (fun r => r = .pv (.tup [.lit (.int .u64 ((x * y / 18446744073709551616 : Nat) : Int)), .lit (.int .u64 ((x * y % 18446744073709551616 : Nat) : Int))])) :=
  ⟨by kernel_rfl, fun w vs hv => by
    obtain ⟨v1, r1, rfl, h1, v2, r2, rfl, h2, rfl⟩ := hv
    cases h1
    cases h2
    refine (Any.bits_Mul Tryz.mulA x y hx hy w).mono ?_
    rintro e w' ⟨rfl, rfl⟩
    exact ⟨_, _, snap w', none, rfl, rfl, ⟨rfl, rfl, fun _ _ => rfl, Nat.le_refl _, fun _ _ h => h⟩, ⟨rfl, _, rfl, _, _, rfl, rfl, _, _, rfl, rfl, rfl⟩, rfl, fun c h => by cases h⟩⟩

def repSch : Sch := .take 0 (.take 1 (.take 2 (.take 3 (.take 4 (.take 5 (.take 6 (.fork [(7, .take 8 (.take 9 .done))])))))))
def repI (n : Nat) (v : Int) (k : Nat) : List Int := List.replicate k v ++ List.replicate (n - k) 0
theorem repI_len {n k : Nat} (v : Int) (h : k ≤ n) : (repI n v k).length = n := by simp [repI]; omega
theorem repI_take (n k : Nat) (v : Int) : (repI n v k).take k = List.replicate k v := by simp [repI]
theorem repI_next {n k : Nat} (v : Int) (h : k ≤ n) : List.replicate k v ++ ((List.replicate k v).take (min k (n - k)) ++ (repI n v k).drop (k + min k (n - k))) = repI n v (k + min k (n - k)) := by
  have e1 : (List.replicate k v).take (min k (n - k)) = List.replicate (min k (n - k)) v := by rw [List.take_replicate]; congr 1; omega
  have e2 : (repI n v k).drop (k + min k (n - k)) = List.replicate (n - (k + min k (n - k))) 0 := by
    unfold repI
    rw [List.drop_append, List.drop_of_length_le (by simp), List.nil_append, List.drop_replicate, List.length_replicate]
    congr 1
    omega
  rw [e1, e2, ← List.append_assoc, List.replicate_append_replicate]
  rfl
def repR (n : Nat) (v : Int) (k : Nat) : List (List PV) := irow (repI n v k)
theorem litsR_irow : ∀ l : List Int, litsR (irow l)
  | [] => trivial
  | _ :: l => ⟨⟨trivial, trivial⟩, litsR_irow l⟩
set_option maxRecDepth 8000 in
theorem repeat_ok (v : Int) (n : Nat) (hn : n ≤ 1000) : APure Tryz.prog 62 [.seq false 1 [[I64 v]], I64 n] (fun r => r = .own true 1 (irow (List.replicate n v))) := by
  refine apure1B [9] hmo Tryz.func62 (by kernel_rfl) rfl rfl (by kernel_rfl) (Nat.le_of_ble_eq_true rfl) ?_
  have hm := mul_ok 1 n (by omega) (by omega)
  have e1 : 1 * n / 18446744073709551616 = 0 := by omega
  have e2 : 1 * n % 18446744073709551616 = n := by omega
  rw [e1, e2] at hm
  have w1 : IntKind.u64.wrap 1 = 1 := by decide
  have w2 : IntKind.u64.wrap (n : Int) = n := by rw [IntKind.wrap_u64]; omega
  have w3 : w64 (n : Int) = n := w64_id (by omega) (by omega)
  have h0 : ¬ (n : Int) < 0 := by omega
  simp [w1, w2, h0]
  refine CallK.intro hm (by simp) ?_
  have h4 : ¬ 9223372036854775807 < (n : Int) := by omega
  simp [w1, w2, w3, h4]
  refine ⟨by omega, ?_⟩
  have ht : List.take (min 1 n) [[I64 v]] = irow (List.replicate (min 1 n) v) := by
    cases n with
    | zero => rfl
    | succ m => rw [show min 1 (m + 1) = 1 by omega]; rfl
  refine ALoop.intro (S := fun (k : Nat) => ⟨[(7, .own true 1 (irow (repI n v k))), (8, .pv (I64 k))], []⟩) (fun k => k ≤ n ∧ (0 < n → 0 < k)) (fun k => n - k) (min 1 n) ?_ ⟨by omega, by omega⟩ ?_
  · exact Weak.to (by simp [ht]; simp [irow, repI]) (by simp) (by simp) (by simp) (by simp)
  rintro k ⟨hk, hk0⟩
  have hlen := repI_len v hk
  by_cases h : k < n
  rotate_left
  · have hie : k = n := by omega
    subst hie
    simp [hlen]
    simp [repI]
  have hk1 := hk0 (by omega)
  have hnx := repI_next v hk
  have htk := repI_take n k v
  have hw : w64 ((k : Int) + (min k (n - k) : Nat)) = ((k + min k (n - k) : Nat) : Int) := by rw [w64_id (by omega) (by omega)]; omega
  simp [h, hlen]
  refine AAnyD.one repSch (by kernel_rfl) ?_
  simp [repSch, h, hlen, irow_take, htk]
  refine ⟨by omega, litsR_irow _, k + min k (n - k), by (try dsimp only); omega, ⟨by (try dsimp only); omega, fun _ => by (try dsimp only); omega⟩, Weak.to ?_ (by simp) (by simp) (by simp) (by simp)⟩
  simp [hw]
  rw [← hnx]
  simp [irow]
end Go.AX

namespace Go.AX
open Go.Proofs
set_option linter.unusedSimpArgs false

theorem getD_set (out : List Int) (p j : Nat) (x : Int) (hp : p < out.length) : (out.set p x).getD j 0 = if j = p then x else out.getD j 0 := by
  rw [List.getD_eq_getElem?_getD, List.getD_eq_getElem?_getD, List.getElem?_set]
  by_cases e : p = j
  · subst e; rw [if_pos rfl, if_pos hp, if_pos rfl]; rfl
  · rw [if_neg e, if_neg (fun h => e h.symm)]
/-- What is so of an order when some rows were looked at. -/
structure PJ (f : Nat → Nat → Bool) (N a : Nat) (out : List Int) : Prop where
  len : out.length = N
  lo : ∀ k, k < N → out.getD k 0 = -1 ∨ (0 ≤ out.getD k 0 ∧ out.getD k 0 < a)
  col : ∀ b, b < a → ∀ k, k < N → f b k = decide (out.getD k 0 = (b : Int))
  row : ∀ b, b < a → ∃ p, p < N ∧ ∀ j, j < N → f b j = decide (j = p)
theorem PJ.zero (f : Nat → Nat → Bool) (N : Nat) : PJ f N 0 (List.replicate N (-1)) where
  len := by simp
  lo := fun k hk => .inl (by simp [List.getD_eq_getElem?_getD, hk])
  col := fun b hb => absurd hb (Nat.not_lt_zero _)
  row := fun b hb => absurd hb (Nat.not_lt_zero _)
theorem PJ.next {f : Nat → Nat → Bool} {N a p : Nat} {out : List Int} (h : PJ f N a out) (hp : p < N) (ho : out.getD p 0 = -1) (hr : ∀ j, j < N → f a j = decide (j = p)) : PJ f N (a + 1) (out.set p a) := by
  have hpl : p < out.length := by rw [h.len]; exact hp
  refine ⟨by rw [List.length_set, h.len], fun k hk => ?_, fun b hb k hk => ?_, fun b hb => ?_⟩
  · rw [getD_set _ _ _ _ hpl]
    split
    · right; omega
    · rcases h.lo k hk with h1 | h1
      · exact .inl h1
      · right; omega
  · rw [getD_set _ _ _ _ hpl]
    by_cases e : b = a
    · subst e
      rw [hr k hk]
      split
      · rename_i e2; rw [decide_eq_true e2]; simp
      · rename_i e2
        rw [decide_eq_false e2]
        have := h.lo k hk
        exact (decide_eq_false (by omega)).symm
    · rw [h.col b (by omega) k hk]
      split
      · rename_i e2
        subst e2
        rw [ho, decide_eq_false (by omega), decide_eq_false (by omega)]
      · rfl
  · by_cases e : b = a
    · subst e; exact ⟨p, hp, hr⟩
    · exact h.row b (by omega)
theorem PJ.done {f : Nat → Nat → Bool} {N : Nat} {out : List Int} (h : PJ f N N out) : IsOrd f N out := by
  have hmem : ∀ i : Nat, i < N → (i : Int) ∈ out := fun i hi => by
    obtain ⟨p, hp, hr⟩ := h.row i hi
    have := h.col i hi p hp
    rw [hr p hp] at this
    have e : out.getD p 0 = (i : Int) := by simpa using this.symm
    rw [List.getD_eq_getElem?_getD, List.getElem?_eq_getElem (by rw [h.len]; exact hp)] at e
    exact e ▸ List.getElem_mem _
  have hin := range_all h.len hmem
  have hget : ∀ k (hk : k < out.length), out.getD k 0 = out[k] := fun k hk => by rw [List.getD_eq_getElem?_getD, List.getElem?_eq_getElem hk]; rfl
  have hr2 : ∀ k, k < N → 0 ≤ out.getD k 0 ∧ out.getD k 0 < N := fun k hk => by
    have hk' : k < out.length := by rw [h.len]; exact hk
    rw [hget k hk']
    exact hin _ (List.getElem_mem hk')
  refine ⟨h.len, fun k hk a ha => h.col a ha k hk, hr2, nodup_of_getD fun j k hj hk e => ?_⟩
  have hj' : j < N := by rw [← h.len]; exact hj
  have hk' : k < N := by rw [← h.len]; exact hk
  obtain ⟨b, hb⟩ := Int.eq_ofNat_of_zero_le (hr2 j hj').1
  have hbn : b < N := by have := (hr2 j hj').2; omega
  obtain ⟨p, hp, hr⟩ := h.row b hbn
  have e1 : f b j = true := by rw [h.col b hbn j hj']; exact decide_eq_true hb
  have e2 : f b k = true := by rw [h.col b hbn k hk']; exact decide_eq_true (by rw [← e]; exact hb)
  rw [hr j hj'] at e1
  rw [hr k hk'] at e2
  simp at e1 e2
  omega
theorem ord_row2 {f : Nat → Nat → Bool} {N a j k : Nat} (ha : a < N) (hj : j < N) (hk : k < N) (hjk : j ≠ k) (h1 : f a j = true) (h2 : f a k = true) : ∀ l, ¬ IsOrd f N l := fun l h => by
  obtain ⟨p, _, _, _, hu⟩ := h.place ha
  exact hjk ((hu j hj h1).trans (hu k hk h2).symm)
theorem ord_col2 {f : Nat → Nat → Bool} {N a b k : Nat} (ha : a < N) (hb : b < N) (hk : k < N) (hab : a ≠ b) (h1 : f a k = true) (h2 : f b k = true) : ∀ l, ¬ IsOrd f N l := fun l h => by
  have e1 := h.2.1 k hk a ha
  have e2 := h.2.1 k hk b hb
  rw [h1] at e1
  rw [h2] at e2
  have e1 := of_decide_eq_true e1.symm
  have e2 := of_decide_eq_true e2.symm
  omega
theorem ord_row0 {f : Nat → Nat → Bool} {N a : Nat} (ha : a < N) (h0 : ∀ k, k < N → f a k = false) : ∀ l, ¬ IsOrd f N l := fun l h => by
  obtain ⟨p, hp, _, hf, _⟩ := h.place ha
  rw [h0 p hp] at hf
  cases hf
/-- What is so within a row. -/
def InRow (f : Nat → Nat → Bool) (a k : Nat) (out : List Int) (q : Int) (o2 : List Int) : Prop :=
  (q = -1 ∧ o2 = out ∧ ∀ j, j < k → f a j = false) ∨ ∃ p, p < k ∧ q = (p : Int) ∧ o2 = out.set p a ∧ out.getD p 0 = -1 ∧ ∀ j, j < k → f a j = decide (j = p)
set_option maxRecDepth 16000 in
theorem placesOrd_ok (n m : Int) (T : List Bool) (hT : T.length ≤ 1000000) : APure Tryz.prog 31 [.agg [I64 n, I64 m], .seq false 1 (brow T)] (fun r => r = .pv (playPV true (ordS n m T))) := by
  refine apureN [4, 5] hmo Tryz.func31 (by kernel_rfl) rfl (fun _ _ => results_tmp2 rfl _ _ _) (by kernel_rfl) (Nat.le_of_ble_eq_true rfl) ?_
  have hv := vars_ok n m
  simp
  refine CallK.intro (check_ok _ _) (by simp) ?_
  cases hc : sizeOk n m
  · have : ordS n m T = none := by unfold ordS truOk; rw [hc]; rfl
    simp [hc]
    refine CallG.intro (fun h : False => h.elim) (r := .pv (I64 0)) (by simp) ?_
    simp [this, playPV]
  rw [if_pos hc] at hv
  simp [hc]
  refine CallG.intro (fun _ => hv) (by simp) ?_
  by_cases ht : (T.length : Int) = varsN n m
  rotate_left
  · have : ordS n m T = none := by unfold ordS truOk; rw [decide_eq_false ht, Bool.and_false]; rfl
    simp [ht, this, playPV]
  have hs := sizeOk_iff.1 hc
  obtain ⟨N, rfl⟩ := Int.eq_ofNat_of_zero_le hs.1
  have hS : ordS N m T = ordO (fP N m T) N := by
    unfold ordS
    rw [if_pos (truOk_iff.2 ⟨hc, ht⟩)]
    rfl
  have hvar : ∀ a k : Nat, a < N → k < N → ∃ x : Nat, varS N m 1 a k = (x : Int) + 1 ∧ x < T.length ∧ fP N m T a k = T.getD x false := fun a k ha hk => by
    have hvo : varOk N m 1 a k = true := varOk_iff.2 ⟨hc, by decide, by decide, by omega, by simp [blockTall]; omega, by omega, by simp [blockWide]; omega⟩
    obtain ⟨m1, m2⟩ := mark_in hvo
    exact ⟨markAt N m 1 a k, m1, by omega, rfl⟩
  rw [hS]
  generalize fP N m T = f at *
  simp [ht]
  refine CallK.intro (repeat_ok (-1) N (by omega)) (by simp) ?_
  simp
  refine ALoop.intro (S := fun (x : Nat × List Int) => ⟨[(1, .pv (.seq false 1 (brow T))), (2, .pv (.ptr 0 0)), (6, .own true 1 (irow x.2)), (25, .pv (I64 N)), (26, .pv (I64 x.1))], [[.pv (I64 N), .pv (I64 m)]]⟩) (fun x => x.1 ≤ N ∧ PJ f N x.1 x.2) (fun x => N - x.1) (0, List.replicate N (-1)) ?_ ⟨Nat.zero_le _, PJ.zero f N⟩ ?_
  · exact Weak.to (by simp) (by simp) (by simp) (by simp) (by simp)
  rintro ⟨a, out⟩ ⟨ha, hpj⟩
  dsimp only at ha hpj
  by_cases hlt : a < N
  rotate_left
  · have hie : a = N := by omega
    subst hie
    have hI := ordO_of hpj.done
    simp [hI, playPV]
  have hw : w64 ((a : Int) + 1) = ((a + 1 : Nat) : Int) := by rw [w64_id (by omega) (by omega)]; omega
  simp [hlt]
  refine ALoop.intro (S := fun (x : Nat × Int × List Int) => ⟨[(1, .pv (.seq false 1 (brow T))), (2, .pv (.ptr 0 0)), (6, .own true 1 (irow x.2.2)), (7, .pv (I64 a)), (8, .pv (I64 x.2.1)), (25, .pv (I64 N)), (26, .pv (I64 a)), (30, .pv (I64 N)), (31, .pv (I64 x.1))], [[.pv (I64 N), .pv (I64 m)]]⟩) (fun x => x.1 ≤ N ∧ InRow f a x.1 out x.2.1 x.2.2) (fun x => N - x.1) (0, -1, out) ?_ ⟨Nat.zero_le _, .inl ⟨rfl, rfl, fun j hj => absurd hj (Nat.not_lt_zero _)⟩⟩ ?_
  · exact Weak.to (by simp) (by simp) (by simp) (by simp) (by simp)
  rintro ⟨k, q, o2⟩ ⟨hk, hin⟩
  dsimp only at hk hin
  by_cases hkl : k < N
  rotate_left
  · have hie : k = N := by omega
    subst hie
    rcases hin with ⟨rfl, rfl, h0⟩ | ⟨p, hp, rfl, rfl, ho, hr⟩
    · have hno := ordO_no (ord_row0 hlt h0)
      simp [hno, playPV]
    · have hq0 : ¬ (p : Int) < 0 := by omega
      simp [hq0]
      exact ⟨(a + 1, out.set p a), by (try dsimp only); omega, ⟨by (try dsimp only); omega, hpj.next hp ho hr⟩, Weak.to (by simp [hw]) (by simp) (by simp) (by simp) (by simp)⟩
  have hw1 : w64 ((k : Int) + 1) = ((k + 1 : Nat) : Int) := by rw [w64_id (by omega) (by omega)]; omega
  obtain ⟨x, hx1, hx2, hx3⟩ := hvar a k hlt hkl
  have hva := var_ok N m 1 a k
  rw [hx1] at hva
  have hwx : w64 (x : Int) = (x : Int) := w64_id (by omega) (by omega)
  have hTx : T.getD x false = T[x] := by rw [List.getD_eq_getElem?_getD, List.getElem?_eq_getElem hx2]; rfl
  rw [hTx] at hx3
  simp [hkl]
  refine CallK.intro hva (by simp) ?_
  cases hb : T[x]
  · rw [hb] at hx3
    simp [hwx, hx2, hb]
    refine ⟨(k + 1, q, o2), by (try dsimp only); omega, ⟨by (try dsimp only); omega, ?_⟩, Weak.to (by simp [hw1]) (by simp) (by simp) (by simp) (by simp)⟩
    rcases hin with ⟨rfl, rfl, h0⟩ | ⟨p, hp, rfl, rfl, ho, hr⟩
    · refine .inl ⟨rfl, rfl, fun j hj => ?_⟩
      by_cases e : j = k
      · subst e; exact hx3
      · exact h0 j (by omega)
    · refine .inr ⟨p, by omega, rfl, rfl, ho, fun j hj => ?_⟩
      by_cases e : j = k
      · subst e; rw [hx3, decide_eq_false (by omega)]
      · exact hr j (by omega)
  rw [hb] at hx3
  rcases hin with ⟨rfl, rfl, h0⟩ | ⟨p, hp, rfl, rfl, ho, hr⟩
  · have hkl2 : k < o2.length := by rw [hpj.len]; exact hkl
    have hg : o2.getD k 0 = o2[k] := by rw [List.getD_eq_getElem?_getD, List.getElem?_eq_getElem hkl2]; rfl
    have hlo := hpj.lo k hkl
    rw [hg] at hlo
    rcases hlo with h1 | ⟨h1, h2⟩
    · simp [hwx, hx2, hb, hkl2, h1]
      refine ⟨(k + 1, (k : Int), o2.set k a), by (try dsimp only); omega, ⟨by (try dsimp only); omega, .inr ⟨k, by (try dsimp only); omega, rfl, rfl, by rw [hg]; exact h1, fun j hj => ?_⟩⟩, Weak.to (by simp [hw1]; simp [irow, List.map_set]) (by simp) (by simp) (by simp) (by simp)⟩
      by_cases e : j = k
      · subst e; rw [hx3]; simp
      · rw [h0 j (by (try dsimp only at hj); omega), decide_eq_false e]
    · obtain ⟨b, hb2⟩ := Int.eq_ofNat_of_zero_le h1
      have hcol : f b k = true := by
        rw [hpj.col b (by omega) k hkl, hg]
        exact decide_eq_true hb2
      have hno := ordO_no (ord_col2 (a := a) (b := b) hlt (by omega) hkl (by omega) hx3 hcol)
      simp [hwx, hx2, hb, hkl2, h1, hno, playPV]
  · have hfp : f a p = true := by rw [hr p hp]; simp
    have hno := ordO_no (ord_row2 hlt (by omega) hkl (by omega) hfp hx3)
    have hq0 : (0 : Int) ≤ (p : Int) := by omega
    simp [hwx, hx2, hb, hno, playPV]
end Go.AX

namespace Go.AX
open Go.Proofs
set_option linter.unusedSimpArgs false

/-- What is so within a row: which was the last, and how many there were. -/
def InB (f : Nat → Bool) (k : Nat) (s : Int) (c : Nat) : Prop :=
  (c = 0 ∧ ∀ b, b < k → f b = false) ∨ (c = 1 ∧ ∃ b0 : Nat, b0 < k ∧ s = (b0 : Int) ∧ ∀ b, b < k → f b = decide (b0 = b)) ∨ (2 ≤ c ∧ c ≤ k ∧ ∃ b1 b2, b1 < k ∧ b2 < k ∧ b1 ≠ b2 ∧ f b1 = true ∧ f b2 = true)
theorem InB.zero (f : Nat → Bool) (s : Int) : InB f 0 s 0 := .inl ⟨rfl, fun b hb => absurd hb (Nat.not_lt_zero _)⟩
theorem InB.no {f : Nat → Bool} {k : Nat} {s : Int} {c : Nat} (h : InB f k s c) (hf : f k = false) : InB f (k + 1) s c := by
  have key : ∀ (g : Nat → Bool), (∀ b, b < k → f b = g b) → g k = false → ∀ b, b < k + 1 → f b = g b := fun g hg hk b hb => by
    by_cases e : b = k
    · subst e; rw [hf, hk]
    · exact hg b (by omega)
  rcases h with ⟨h1, h3⟩ | ⟨h1, b0, h2, h3, h4⟩ | ⟨h1, h2, b1, b2, h3, h4, h5⟩
  · exact .inl ⟨h1, key (fun _ => false) h3 rfl⟩
  · exact .inr (.inl ⟨h1, b0, by omega, h3, key (fun b => decide (b0 = b)) h4 (decide_eq_false (by omega))⟩)
  · exact .inr (.inr ⟨h1, by omega, b1, b2, by omega, by omega, h5⟩)
theorem InB.yes {f : Nat → Bool} {k : Nat} {s : Int} {c : Nat} (h : InB f k s c) (hf : f k = true) : InB f (k + 1) (k : Int) (c + 1) := by
  rcases h with ⟨h1, h3⟩ | ⟨h1, b0, h2, h3, h4⟩ | ⟨h1, h2, b1, b2, h3, h4, h5⟩
  · refine .inr (.inl ⟨by omega, k, by omega, rfl, fun b hb => ?_⟩)
    by_cases e : b = k
    · subst e; rw [hf]; simp
    · rw [h3 b (by omega), decide_eq_false (by omega)]
  · refine .inr (.inr ⟨by omega, by omega, b0, k, by omega, by omega, by omega, ?_, hf⟩)
    rw [h4 b0 h2]; simp
  · exact .inr (.inr ⟨by omega, by omega, b1, b2, by omega, by omega, h5⟩)
theorem InB.le {f : Nat → Bool} {k : Nat} {s : Int} {c : Nat} (h : InB f k s c) : c ≤ k := by
  rcases h with ⟨h1, _⟩ | ⟨h1, _, h2, _⟩ | ⟨_, h2, _⟩ <;> omega
/-- What is so of a row of states. -/
def RowSo (f : Nat → Nat → Bool) (m i : Nat) (l : List Int) (fine : Bool) : Prop :=
  l.length = i ∧ (fine = true → ∀ k, k < i → (0 ≤ l.getD k 0 ∧ l.getD k 0 < m) ∧ ∀ b, b < m → f k b = decide (l.getD k 0 = (b : Int))) ∧ (fine = false → ∃ k, k < i ∧ ∀ x : Int, 0 ≤ x → x < m → ¬ ∀ b, b < m → f k b = decide (x = (b : Int)))
theorem RowSo.zero (f : Nat → Nat → Bool) (m : Nat) : RowSo f m 0 [] true := ⟨rfl, fun _ k hk => absurd hk (Nat.not_lt_zero _), fun h => by cases h⟩
theorem RowSo.next {f : Nat → Nat → Bool} {m i c : Nat} {l : List Int} {fine : Bool} {s : Int} (h : RowSo f m i l fine) (hb : InB (f i) m s c) : RowSo f m (i + 1) (l ++ [s]) (fine && decide (c = 1)) := by
  obtain ⟨h1, h2, h3⟩ := h
  have hg : ∀ k, k < i → (l ++ [s]).getD k 0 = l.getD k 0 := fun k hk => by
    rw [List.getD_eq_getElem?_getD, List.getD_eq_getElem?_getD, List.getElem?_append_left (by omega)]
  have hgi : (l ++ [s]).getD i 0 = s := by
    rw [List.getD_eq_getElem?_getD, List.getElem?_append_right (by omega), h1, Nat.sub_self]; rfl
  refine ⟨by rw [List.length_append, h1]; rfl, fun hf k hk => ?_, fun hf => ?_⟩
  · simp only [Bool.and_eq_true, decide_eq_true_eq] at hf
    by_cases e : k = i
    · subst e
      rw [hgi]
      rcases hb with ⟨q1, _⟩ | ⟨_, b0, q2, q3, q4⟩ | ⟨q1, _⟩
      · omega
      · subst q3
        refine ⟨by omega, fun b hbm => ?_⟩
        rw [q4 b hbm, Bool.eq_iff_iff]
        simp only [decide_eq_true_eq]
        omega
      · omega
    · rw [hg k (by omega)]
      exact h2 hf.1 k (by omega)
  · by_cases ef : fine = true
    · refine ⟨i, by omega, fun x hx0 hxm hall => ?_⟩
      rw [ef, Bool.true_and] at hf
      have hc := of_decide_eq_false hf
      obtain ⟨y, rfl⟩ := Int.eq_ofNat_of_zero_le hx0
      rcases hb with ⟨_, q3⟩ | ⟨q1, _⟩ | ⟨_, _, b1, b2, q2, q3, q4, q5, q6⟩
      · have := hall y (by omega)
        rw [q3 y (by omega)] at this
        simp at this
      · exact hc q1
      · have e1 := hall b1 q2
        have e2 := hall b2 q3
        rw [q5] at e1
        rw [q6] at e2
        have e1 := of_decide_eq_true e1.symm
        have e2 := of_decide_eq_true e2.symm
        omega
    · obtain ⟨k, hk, hn⟩ := h3 (by simpa using ef)
      exact ⟨k, by omega, hn⟩
theorem RowSo.is {f : Nat → Nat → Bool} {n m : Nat} {l : List Int} (h : RowSo f m n l true) : IsRow f n m l := ⟨h.1, fun k hk => (h.2.1 rfl k hk).2, fun k hk => (h.2.1 rfl k hk).1⟩
theorem RowSo.no {f : Nat → Nat → Bool} {n m : Nat} {l : List Int} (h : RowSo f m n l false) : ∀ l', ¬ IsRow f n m l' := fun l' hr => by
  obtain ⟨k, hk, hn⟩ := h.2.2 rfl
  exact hn _ (hr.2.2 k hk).1 (hr.2.2 k hk).2 (hr.2.1 k hk)

def rowH (n m : Int) (T : List Bool) (fine : Bool) : List (List SV) := [[.pv (I64 n), .pv (I64 m)], [.pv (.seq false 1 (brow T))], [.pv (BL fine)]]
theorem varT {N : Nat} {m : Int} {T : List Bool} (hc : sizeOk N m = true) (ht : (T.length : Int) = varsN N m) {a b : Nat} (ha : a ≤ N) (hb : (b : Int) < m) : ∃ x : Nat, varS N m 3 a b = (x : Int) + 1 ∧ x < T.length ∧ fS N m T a b = T.getD x false := by
  have hvo : varOk N m 3 a b = true := varOk_iff.2 ⟨hc, by decide, by decide, by omega, by simp [blockTall]; omega, by omega, by simp [blockWide]; omega⟩
  obtain ⟨m1, m2⟩ := mark_in hvo
  exact ⟨markAt N m 3 a b, m1, by omega, rfl⟩
set_option maxRecDepth 16000 in
theorem row1_ok (N M a : Nat) (T : List Bool) (fine : Bool) (hc : sizeOk N M = true) (ht : (T.length : Int) = varsN N M) (ha : a ≤ N) :
    AMut Tryz.prog 63 [I64 a, .ptr 0 0, .ptr 1 0, .ptr 2 0] (rowH N M T fine) (fun r h' => ∃ s c, InB (fS N M T a) M s c ∧ r = .pv (I64 s) ∧ h' = rowH N M T (fine && decide (c = 1))) := by
  refine amut1 hmo Tryz.func63 (by kernel_rfl) rfl rfl (by kernel_rfl) (Nat.le_of_ble_eq_true rfl) ?_
  have hs := sizeOk_iff.1 hc
  obtain ⟨v1, v2, v3, v4, v5⟩ := varsN_eq hc
  have hvt := fun (b : Nat) (hb : (b : Int) < (M : Int)) => varT hc ht ha hb
  generalize fS N M T a = f at *
  simp [rowH]
  refine ALoop.intro (S := fun (x : Nat × Int × Nat) => ⟨[(0, .pv (I64 a)), (1, .pv (.ptr 0 0)), (2, .pv (.ptr 1 0)), (3, .pv (.ptr 2 0)), (6, .pv (I64 x.2.1)), (7, .pv (I64 x.2.2)), (10, .pv (I64 M)), (11, .pv (I64 x.1))], [[.pv (I64 N), .pv (I64 M)], [.pv (.seq false 1 (brow T))], [.pv (BL fine)]]⟩) (fun x => x.1 ≤ M ∧ InB f x.1 x.2.1 x.2.2) (fun x => M - x.1) (0, 0, 0) ?_ ⟨Nat.zero_le _, InB.zero f 0⟩ ?_
  · exact Weak.to (by simp) (by simp) (by simp) (by simp) (by simp)
  rintro ⟨k, s, c⟩ ⟨hk, hin⟩
  dsimp only at hk hin
  by_cases hkl : k < M
  rotate_left
  · have hie : k = M := by omega
    subst hie
    cases fine
    · simp
      exact ⟨c, hin⟩
    · simp
      exact ⟨s, c, hin, by omega⟩
  have hw1 : w64 ((k : Int) + 1) = ((k + 1 : Nat) : Int) := by rw [w64_id (by omega) (by omega)]; omega
  have hcl := hin.le
  have hw2 : w64 ((c : Int) + 1) = ((c + 1 : Nat) : Int) := by rw [w64_id (by omega) (by omega)]; omega
  obtain ⟨x, hx1, hx2, hx3⟩ := hvt k (by omega)
  have hva := atS_ok N M a k
  rw [hx1] at hva
  have hwx : w64 (x : Int) = (x : Int) := w64_id (by omega) (by omega)
  have hTx : T.getD x false = T[x] := by rw [List.getD_eq_getElem?_getD, List.getElem?_eq_getElem hx2]; rfl
  rw [hTx] at hx3
  simp [hkl]
  refine CallQ0.intro hva (by simp) ?_
  cases hb : T[x]
  · rw [hb] at hx3
    simp [hwx, hx2, hb]
    exact ⟨(k + 1, s, c), by (try dsimp only); omega, ⟨by (try dsimp only); omega, hin.no hx3⟩, Weak.to (by simp [hw1]) (by simp) (by simp) (by simp) (by simp)⟩
  · rw [hb] at hx3
    simp [hwx, hx2, hb]
    exact ⟨(k + 1, (k : Int), c + 1), by (try dsimp only); omega, ⟨by (try dsimp only); omega, hin.yes hx3⟩, Weak.to (by simp [hw1, hw2]) (by simp) (by simp) (by simp) (by simp)⟩
set_option maxRecDepth 16000 in
theorem eachR_ok (N M : Nat) (T : List Bool) (hc : sizeOk N M = true) (ht : (T.length : Int) = varsN N M) :
    AMut Tryz.prog 58 [I64 ((N : Int) + 1), .fn (.func 63) [] [.ptr 0 0, .ptr 1 0, .ptr 2 0]] (rowH N M T true) (fun r h' => ∃ l fine, RowSo (fS N M T) M (N + 1) l fine ∧ r = .pv (.seq true 1 (irow l)) ∧ h' = rowH N M T fine) := by
  refine amutX [] [.tmp 4] hmo Tryz.func58 (by kernel_rfl) rfl rfl (by kernel_rfl) (Nat.le_of_ble_eq_true rfl) ?_
  have hs := sizeOk_iff.1 hc
  have hr1 := fun (a : Nat) (fine : Bool) (ha : a ≤ N) => row1_ok N M a T fine hc ht ha
  generalize fS N M T = f at *
  simp only [rowH] at hr1
  simp [rowH]
  refine ⟨by omega, by omega, ?_⟩
  refine ALoop.intro (S := fun (x : Nat × List Int × Bool) => ⟨[(1, .pv (.fn (.func 63) [] [.ptr 0 0, .ptr 1 0, .ptr 2 0])), (5, .own true 1 (irow (x.2.1 ++ List.replicate (N + 1 - x.1) 0))), (10, .pv (I64 ((N : Int) + 1))), (11, .pv (I64 x.1))], [[.pv (I64 N), .pv (I64 M)], [.pv (.seq false 1 (brow T))], [.pv (BL x.2.2)]]⟩) (fun x => x.1 ≤ N + 1 ∧ RowSo f M x.1 x.2.1 x.2.2) (fun x => N + 1 - x.1) (0, [], true) ?_ ⟨Nat.zero_le _, RowSo.zero f M⟩ ?_
  · exact Weak.to (by simp; try simp [irow]) (by simp) (by simp) (by simp) (by simp)
  rintro ⟨i, l, fine⟩ ⟨hi, hso⟩
  dsimp only at hi hso
  by_cases hlt : i < N + 1
  rotate_left
  · have hie : i = N + 1 := by omega
    subst hie
    simp
    refine ⟨l, ?_⟩
    cases fine
    · exact .inl ⟨hso, rfl, rfl⟩
    · exact .inr ⟨hso, rfl, rfl⟩
  have hw : w64 ((i : Int) + 1) = ((i + 1 : Nat) : Int) := by rw [w64_id (by omega) (by omega)]; omega
  have hlt2 : (i : Int) < (N : Int) + 1 := by omega
  have hll : l.length = i := hso.1
  simp [hlt, hlt2]
  refine CallB.intro (hr1 i fine (by omega)) (by trivial) ?_
  rintro _ _ ⟨s, c, hb, rfl, rfl⟩
  obtain ⟨r, hr⟩ : ∃ r, N + 1 - i = r + 1 := ⟨N - i, by omega⟩
  have hr2 : N - i = r := by omega
  have hset : (irow (l ++ List.replicate (N + 1 - i) 0)).set i [I64 s] = irow (l ++ s :: List.replicate (N - i) 0) := by
    rw [hr, hr2, List.replicate_succ]
    unfold irow
    rw [← hll]
    simp
  have hel : (l ++ List.replicate (N + 1 - i) 0)[i]? = some 0 := by
    rw [List.getElem?_append_right (by omega), hll, Nat.sub_self, hr]
    rfl
  simp [hlt, hll]
  refine ⟨by omega, by omega, (i + 1, l ++ [s], fine && decide (c = 1)), by (try dsimp only); omega, ⟨by (try dsimp only); omega, hso.next hb⟩, Weak.to ?_ (by simp) (by simp) (by simp) (by simp)⟩
  simp [hw, hel]
  exact hset.symm
set_option maxRecDepth 16000 in
theorem statesRow_ok (n m : Int) (T : List Bool) (hT : T.length ≤ 1000000) : APure Tryz.prog 32 [.agg [I64 n, I64 m], .seq false 1 (brow T)] (fun r => r = .pv (playPV true (rowQ n m T))) := by
  refine apureN [4, 5] hmo Tryz.func32 (by kernel_rfl) rfl (fun _ _ => results_tmp2 rfl _ _ _) (by kernel_rfl) (Nat.le_of_ble_eq_true rfl) ?_
  have hv := vars_ok n m
  simp
  refine CallQ0.intro (check_ok _ _) (by simp) ?_
  cases hc : sizeOk n m
  · have : rowQ n m T = none := by unfold rowQ truOk; rw [hc]; rfl
    simp [hc]
    refine CallQ.intro (fun h : False => h.elim) (r := .pv (I64 0)) (by simp) ?_
    simp [this, playPV]
  rw [if_pos hc] at hv
  simp [hc]
  refine CallQ.intro (fun _ => hv) (by simp) ?_
  by_cases ht : (T.length : Int) = varsN n m
  rotate_left
  · have : rowQ n m T = none := by unfold rowQ truOk; rw [decide_eq_false ht, Bool.and_false]; rfl
    simp [ht, this, playPV]
  have hs := sizeOk_iff.1 hc
  obtain ⟨N, rfl⟩ := Int.eq_ofNat_of_zero_le hs.1
  obtain ⟨M, rfl⟩ := Int.eq_ofNat_of_zero_le (show 0 ≤ m by omega)
  have hS : rowQ N M T = rowO (fS N M T) (N + 1) M := by
    unfold rowQ
    rw [if_pos (truOk_iff.2 ⟨hc, ht⟩)]
    rfl
  rw [hS]
  have he := eachR_ok N M T hc ht
  have hw1 : w64 ((N : Int) + 1) = (N : Int) + 1 := w64_id (by omega) (by omega)
  simp only [rowH] at he
  simp [ht, hw1]
  refine CallK.introE he (by trivial) rfl (by simp) (by simp) (by simp [wkAL, wkA]) ?_
  rintro _ _ ⟨l, fine, hso, rfl, rfl⟩
  cases fine
  · have hno := rowO_no hso.no
    simp [hno, playPV]
  · have hyes := rowO_of hso.is
    simp [hyes, playPV]
end Go.AX

namespace Go.AX
open Go.Proofs
set_option linter.unusedSimpArgs false

/-! ### Pairs -/
def agB (order : List Int) (p : Int × Int) : Bool := decide (0 ≤ posS order p.2) && decide (posS order p.2 < posS order p.1)
def agS (order : List Int) (ps : List (Int × Int)) : Int × Bool := match ps.findIdx? (agB order) with | some i => ((i : Int), false) | none => ((ps.length : Int), true)
theorem agS_at {order : List Int} {ps : List (Int × Int)} {i : Nat} (h : i < ps.length) (hn : ∀ j (hj : j < ps.length), j < i → agB order ps[j] = false) (hp : agB order ps[i] = true) : agS order ps = ((i : Int), false) := by
  have : ps.findIdx? (agB order) = some i := by
    rw [List.findIdx?_eq_some_iff_getElem]
    exact ⟨h, hp, fun j hj => by simp [hn j (by omega) hj]⟩
  unfold agS
  rw [this]
theorem agS_no {order : List Int} {ps : List (Int × Int)} (hn : ∀ j (hj : j < ps.length), agB order ps[j] = false) : agS order ps = ((ps.length : Int), true) := by
  have : ps.findIdx? (agB order) = none := by
    rw [List.findIdx?_eq_none_iff]
    intro x hx
    obtain ⟨j, hj, rfl⟩ := List.getElem_of_mem hx
    exact hn j hj
  unfold agS
  rw [this]
theorem ag1_ok (order : List Int) (x : Int) (hl : order.length ≤ 1000000) : APure Tryz.prog 66 [I64 x, .iptr 1 [[.seq false 1 (irow order)]] 0 0] (fun r => r = .pv (I64 (posS order x))) := by
  refine apure1 hmo Tryz.func66 (by kernel_rfl) rfl rfl (by kernel_rfl) (Nat.le_of_ble_eq_true rfl) ?_
  simp
  refine CallK.intro (index_ok order x (by omega)) (by simp) ?_
  simp
set_option maxRecDepth 16000 in
theorem ag_ok (order : List Int) (ps : List (Int × Int)) (hl : order.length ≤ 1000000) (hp : ps.length ≤ 1000000) : APure Tryz.prog 35 [.seq false 1 (irow order), .seq false 2 (ps.map prow)] (fun r => r = .pv (.tup [I64 (agS order ps).1, BL (agS order ps).2])) := by
  refine apureN [4, 5] hmo Tryz.func35 (by kernel_rfl) rfl (fun _ _ => results_tmp2 rfl _ _ _) (by kernel_rfl) (Nat.le_of_ble_eq_true rfl) ?_
  simp
  refine ALoop.intro (S := fun (i : Nat) => ⟨[(1, .pv (.seq false 2 (ps.map prow))), (6, .pv (.fn (.func 66) [] [.ptr 0 0])), (12, .pv (.seq false 2 (ps.map prow))), (13, .pv (I64 ps.length)), (14, .pv (I64 i))], [[.pv (.seq false 1 (irow order))]]⟩) (fun i => i ≤ ps.length ∧ ∀ j (hj : j < ps.length), j < i → agB order ps[j] = false) (fun i => ps.length - i) 0 ?_ ⟨Nat.zero_le _, fun j _ hj => absurd hj (Nat.not_lt_zero _)⟩ ?_
  · exact Weak.to (by simp) (by simp) (by simp) (by simp) (by simp)
  rintro i ⟨hi, hall⟩
  by_cases h : i < ps.length
  rotate_left
  · have hie : i = ps.length := by omega
    subst hie
    rw [agS_no fun j hj => hall j hj hj]
    simp
  have hw : w64 ((i : Int) + 1) = ((i + 1 : Nat) : Int) := by rw [w64_id (by omega) (by omega)]; omega
  have h1 := ag1_ok order ps[i].1 hl
  have h2 := ag1_ok order ps[i].2 hl
  have hB : agB order ps[i] = (decide (0 ≤ posS order ps[i].2) && decide (posS order ps[i].2 < posS order ps[i].1)) := rfl
  have hat := fun hh => agS_at h hall hh
  have hnx : agB order ps[i] = false → ∀ j (hj : j < ps.length), j < i + 1 → agB order ps[j] = false := fun hh j hj hji => by
    by_cases e : j = i
    · subst e; exact hh
    · exact hall j hj (by omega)
  generalize agB order ps[i] = B at *
  generalize posS order ps[i].1 = a at *
  generalize posS order ps[i].2 = b at *
  simp [h, prow]
  have hf : ∀ x y : Int, frzP [[.pv (.seq false 1 (irow order))], [.pv (I64 x), .pv (I64 y)]] 3 0 0 = .iptr 1 [[.seq false 1 (irow order)]] 0 0 := fun x y => by simp [frzP, frzC]
  rw [hf]
  refine CallQ0.intro h1 (by simp) ?_
  simp
  rw [hf]
  refine CallQ0.intro h2 (by simp) ?_
  by_cases c1 : 0 ≤ b
  · by_cases c2 : b < a
    · rw [hat (by rw [hB]; simp [c1, c2])]
      have c3 : 0 ≤ a := by omega
      simp [c1, c2, c3]
    · by_cases c3 : 0 ≤ a
      · simp [c1, c2, c3]
        exact ⟨i + 1, by (try dsimp only); omega, ⟨by (try dsimp only); omega, hnx (by rw [hB]; simp [c1, c2])⟩, Weak.to (by simp [hw]) (by simp) (by simp) (by simp) (by simp)⟩
      · simp [c3]
        exact ⟨i + 1, by (try dsimp only); omega, ⟨by (try dsimp only); omega, hnx (by rw [hB]; simp [c1, c2])⟩, Weak.to (by simp [hw]) (by simp) (by simp) (by simp) (by simp)⟩
  · by_cases c3 : 0 ≤ a
    · simp [c1, c3]
      exact ⟨i + 1, by (try dsimp only); omega, ⟨by (try dsimp only); omega, hnx (by rw [hB]; simp [c1])⟩, Weak.to (by simp [hw]) (by simp) (by simp) (by simp) (by simp)⟩
    · simp [c3]
      exact ⟨i + 1, by (try dsimp only); omega, ⟨by (try dsimp only); omega, hnx (by rw [hB]; simp [c1])⟩, Weak.to (by simp [hw]) (by simp) (by simp) (by simp) (by simp)⟩

/-! ### The order, by the document -/
/-- What is so of an order, place by place. -/
structure QJ (f : Nat → Nat → Bool) (N k : Nat) (out : List Int) : Prop where
  len : out.length = k
  col : ∀ j, j < k → ∃ b : Nat, b < N ∧ out.getD j 0 = (b : Int) ∧ ∀ a, a < N → f a j = decide (b = a)
  nd : out.Nodup
theorem QJ.next {f : Nat → Nat → Bool} {N k b : Nat} {out : List Int} (h : QJ f N k out) (hb : b < N) (hc : ∀ a, a < N → f a k = decide (b = a)) (hn : (b : Int) ∉ out) : QJ f N (k + 1) (out ++ [(b : Int)]) where
  len := by rw [List.length_append, h.len]; rfl
  col := fun j hj => by
    by_cases e : j = k
    · subst e
      refine ⟨b, hb, ?_, hc⟩
      rw [List.getD_eq_getElem?_getD, List.getElem?_append_right (by rw [h.len]; omega), h.len, Nat.sub_self]; rfl
    · obtain ⟨c, h1, h2, h3⟩ := h.col j (by omega)
      refine ⟨c, h1, ?_, h3⟩
      rw [List.getD_eq_getElem?_getD, List.getElem?_append_left (by rw [h.len]; omega), ← List.getD_eq_getElem?_getD]
      exact h2
  nd := by
    rw [List.nodup_append]
    exact ⟨h.nd, List.nodup_cons.2 ⟨by simp, List.nodup_nil⟩, fun a ha b' hb' => by cases List.mem_singleton.1 hb'; rintro rfl; exact hn ha⟩
theorem QJ.done {f : Nat → Nat → Bool} {N : Nat} {out : List Int} (h : QJ f N N out) : IsOrd f N out := by
  refine ⟨h.len, fun k hk a ha => ?_, fun k hk => ?_, h.nd⟩
  · obtain ⟨b, h1, h2, h3⟩ := h.col k hk
    rw [h3 a ha, h2, Bool.eq_iff_iff]
    simp only [decide_eq_true_eq]
    omega
  · obtain ⟨b, h1, h2, h3⟩ := h.col k hk
    omega
theorem ord_col1 {f : Nat → Nat → Bool} {N k c : Nat} {s : Int} (hk : k < N) (hb : InB (fun a => f a k) N s c) (hc : c ≠ 1) : ∀ l, ¬ IsOrd f N l := fun l h => by
  obtain ⟨h0, h1⟩ := h.2.2.1 k hk
  obtain ⟨x, hx⟩ := Int.eq_ofNat_of_zero_le h0
  have hxn : x < N := by omega
  have e1 := h.2.1 k hk x hxn
  rw [decide_eq_true hx] at e1
  rcases hb with ⟨_, h2⟩ | ⟨h2, _⟩ | ⟨_, _, b1, b2, q1, q2, q3, q4, q5⟩
  · have h2 : f x k = false := h2 x hxn
    rw [h2] at e1; cases e1
  · exact hc h2
  · exact ord_col2 q1 q2 hk q3 q4 q5 l h
/-! ### The row, by the document -/
def InL (f : Nat → Bool) (k : Nat) (L : List Int) : Prop := ∃ s, InB f k s L.length ∧ (L.length = 1 → L = [s])
theorem InL.no {f : Nat → Bool} {k : Nat} {L : List Int} (h : InL f k L) (hf : f k = false) : InL f (k + 1) L := by
  obtain ⟨s, h1, h2⟩ := h
  exact ⟨s, h1.no hf, h2⟩
theorem InL.yes {f : Nat → Bool} {k : Nat} {L : List Int} (h : InL f k L) (hf : f k = true) : InL f (k + 1) (L ++ [(k : Int)]) := by
  obtain ⟨s, h1, h2⟩ := h
  refine ⟨(k : Int), by rw [List.length_append]; exact h1.yes hf, fun hl => ?_⟩
  rw [List.length_append] at hl
  have : L = [] := List.eq_nil_of_length_eq_zero (by simpa using hl)
  subst this
  rfl
theorem RowSo.no2 {f : Nat → Nat → Bool} {n m i : Nat} {l : List Int} (h : RowSo f m i l false) (hi : i ≤ n) : ∀ l', ¬ IsRow f n m l' := fun l' hr => by
  obtain ⟨k, hk, hn⟩ := h.2.2 rfl
  exact hn _ (hr.2.2 k (by omega)).1 (hr.2.2 k (by omega)).2 (hr.2.1 k (by omega))
end Go.AX
