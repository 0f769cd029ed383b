/-
  Contracts: heaps.
  Contracts: heaps are put in order.
  Contracts: heaps: down.
  Contracts: heaps: order, halving, and all that is done with one.
-/
import Derived.Test.YtipaihpchnlkfaaS2AxMovS
import Derived.Test.YtipaihpchnlkfaaS2AxHpP
namespace Go.AX
open Go.Proofs
set_option linter.unusedSimpArgs false

theorem results_tmp0 {P : Program} {fn : Func} (hr : fn.results = #[]) (tmps : Array Value) (w : World) : (results fn tmps).run P w = .ok (.tuple (([] : List Nat).map fun t => tmps.getD t undef).toArray) w := by
  simp [results, hr]

theorem Weak.keep {k0 : Nat} {st : St} {t1 : List (Nat × SV)} {h1 : List (List SV)} (h : wkL st.t t1) (hh : st.h = h1) : Weak k0 st ⟨t1, h1⟩ := hh ▸ Weak.slots h

structure HS where
  sc : List Int
  row : List Int
  pl : List Int
def heapB (q : HS) : List SV := [.own true 1 (irow q.sc), .own true 1 (irow q.row), .own true 1 (irow q.pl)]
def heapR (q : HS) : List PV := [.seq false 1 (irow q.sc), .seq false 1 (irow q.row), .seq false 1 (irow q.pl)]
theorem irow_set (l : List Int) (i : Nat) (x : Int) : (irow l).set i [I64 x] = irow (l.set i x) := by simp [irow, List.map_set]

theorem made_ok (q : HS) (hq : 0 < q.sc.length) : APure Try.prog 98 [.iptr 3 [heapR q] 0 0] (fun r => r = .pv (BL true)) := by
  refine apure1 hmo Try.func98 (by kernel_rfl) rfl rfl (by kernel_rfl) (Nat.le_of_ble_eq_true rfl) ?_
  simp [heapR, hq]
theorem made_nil : APure Try.prog 98 [.lit (.pointer none)] (fun r => r = .pv (BL false)) := by
  refine apure1 hmo Try.func98 (by kernel_rfl) rfl rfl (by kernel_rfl) (Nat.le_of_ble_eq_true rfl) ?_
  simp

def isV (q : HS) (v : Int) : Bool := decide (1 ≤ v) && decide (v < q.sc.length)
theorem his_ok (q : HS) (hq : 0 < q.sc.length) (v : Int) : APure Try.prog 99 [.iptr 3 [heapR q] 0 0, I64 v] (fun r => r = .pv (BL (isV q v))) := by
  refine apure1 hmo Try.func99 (by kernel_rfl) rfl rfl (by kernel_rfl) (Nat.le_of_ble_eq_true rfl) ?_
  have h1 := made_ok q hq
  simp only [heapR] at h1
  simp [heapR]
  refine CallK.intro h1 (by simp) ?_
  simp [isV]
theorem his_nil (v : Int) : APure Try.prog 99 [.lit (.pointer none), I64 v] (fun r => r = .pv (BL false)) := by
  refine apure1 hmo Try.func99 (by kernel_rfl) rfl rfl (by kernel_rfl) (Nat.le_of_ble_eq_true rfl) ?_
  simp
  exact CallK.intro made_nil (by simp) (by simp)

def whyV (q : HS) (v : Int) : Int := if isV q v then 0 else 10
theorem hwhy_ok (q : HS) (hq : 0 < q.sc.length) (v : Int) : APure Try.prog 115 [.iptr 3 [heapR q] 0 0, I64 v] (fun r => r = .pv (I64 (whyV q v))) := by
  refine apure1 hmo Try.func115 (by kernel_rfl) rfl rfl (by kernel_rfl) (Nat.le_of_ble_eq_true rfl) ?_
  have h1 := made_ok q hq
  have h2 := his_ok q hq v
  simp only [heapR] at h1 h2
  simp [heapR]
  refine CallK.intro h1 (by simp) ?_
  simp
  refine CallK.intro h2 (by simp) ?_
  simp [whyV]
theorem hwhy_nil (v : Int) : APure Try.prog 115 [.lit (.pointer none), I64 v] (fun r => r = .pv (I64 1)) := by
  refine apure1 hmo Try.func115 (by kernel_rfl) rfl rfl (by kernel_rfl) (Nat.le_of_ble_eq_true rfl) ?_
  simp
  refine CallK.intro made_nil (by simp) ?_
  simp

def scoreV (q : HS) (v : Int) : Int := if isV q v then q.sc.getD v.toNat 0 else 0
theorem hscore_ok (q : HS) (hq : 0 < q.sc.length) (v : Int) : APure Try.prog 56 [.iptr 3 [heapR q] 0 0, I64 v] (fun r => r = .pv (I64 (scoreV q v))) := by
  refine apure1 hmo Try.func56 (by kernel_rfl) rfl rfl (by kernel_rfl) (Nat.le_of_ble_eq_true rfl) ?_
  have h2 := his_ok q hq v
  simp only [heapR] at h2
  simp [heapR]
  refine CallK.intro h2 (by simp) ?_
  simp [scoreV]
  refine ⟨fun c => by simp [c], fun c => ?_⟩
  simp only [isV, Bool.and_eq_true, decide_eq_true_eq] at c
  have h3 : v.toNat < q.sc.length := by omega
  simp [isV, c, h3]
  omega
theorem hhas_ok (q : HS) (hq : 0 < q.sc.length) (hpl : q.pl.length = q.sc.length) (v : Int) : APure Try.prog 58 [.iptr 3 [heapR q] 0 0, I64 v] (fun r => r = .pv (BL (isV q v && decide (0 ≤ q.pl.getD v.toNat 0)))) := by
  refine apure1 hmo Try.func58 (by kernel_rfl) rfl rfl (by kernel_rfl) (Nat.le_of_ble_eq_true rfl) ?_
  have h2 := his_ok q hq v
  simp only [heapR] at h2
  simp [heapR]
  refine CallK.intro h2 (by simp) ?_
  by_cases c : isV q v = true
  · have c2 := c
    simp only [isV, Bool.and_eq_true, decide_eq_true_eq] at c2
    have h3 : v.toNat < q.pl.length := by omega
    simp [c, h3]
    omega
  · simp [c]
theorem hlen_ok (q : HS) (hq : 0 < q.sc.length) : APure Try.prog 52 [.iptr 3 [heapR q] 0 0] (fun r => r = .pv (I64 q.row.length)) := by
  refine apure1 hmo Try.func52 (by kernel_rfl) rfl rfl (by kernel_rfl) (Nat.le_of_ble_eq_true rfl) ?_
  have h1 := made_ok q hq
  simp only [heapR] at h1
  simp [heapR]
  refine CallK.intro h1 (by simp) ?_
  simp
theorem hlen_nil : APure Try.prog 52 [.lit (.pointer none)] (fun r => r = .pv (I64 0)) := by
  refine apure1 hmo Try.func52 (by kernel_rfl) rfl rfl (by kernel_rfl) (Nat.le_of_ble_eq_true rfl) ?_
  simp
  refine CallK.intro made_nil (by simp) ?_
  simp
def peekV (q : HS) : Int := q.row.getD 0 0
theorem hpeek_ok (q : HS) (hq : 0 < q.sc.length) : APure Try.prog 54 [.iptr 3 [heapR q] 0 0] (fun r => r = .pv (I64 (peekV q))) := by
  refine apure1 hmo Try.func54 (by kernel_rfl) rfl rfl (by kernel_rfl) (Nat.le_of_ble_eq_true rfl) ?_
  have h1 := hlen_ok q hq
  simp only [heapR] at h1
  simp [heapR]
  refine CallK.intro h1 (by simp) ?_
  simp [peekV]
  cases hr : q.row with
  | nil => simp
  | cons x xs => simp
theorem hpeek_nil : APure Try.prog 54 [.lit (.pointer none)] (fun r => r = .pv (I64 0)) := by
  refine apure1 hmo Try.func54 (by kernel_rfl) rfl rfl (by kernel_rfl) (Nat.le_of_ble_eq_true rfl) ?_
  simp
  refine CallK.intro hlen_nil (by simp) ?_
  simp
theorem hbetter_ok (q : HS) (v w : Nat) (hv : v < q.sc.length) (hw : w < q.sc.length) : APure Try.prog 117 [.iptr 3 [heapR q] 0 0, I64 v, I64 w] (fun r => r = .pv (BL (bet q.sc v w))) := by
  refine apure1 hmo Try.func117 (by kernel_rfl) rfl rfl (by kernel_rfl) (Nat.le_of_ble_eq_true rfl) ?_
  simp [heapR, hv, hw, bet]
  constructor
  · intro c; simp [c]
  · intro c; simp [c]

theorem hset_ok (h : List (List SV)) (b : Nat) (q : HS) (hb : h[b]? = some (heapB q)) (i v : Nat) (hi : i < q.row.length) (hv : v < q.pl.length) :
    AMut Try.prog 100 [.ptr b 0, I64 i, I64 v] h (fun r h' => r = .pv (.tup []) ∧ h' = h.set b (heapB ⟨q.sc, q.row.set i v, q.pl.set v i⟩)) := by
  refine amutN [] hmo Try.func100 (by kernel_rfl) rfl (fun _ _ => results_tmp0 rfl _ _) (by kernel_rfl) (Nat.le_of_ble_eq_true rfl) ?_
  obtain ⟨hlt, hb'⟩ := List.getElem?_eq_some_iff.1 hb
  simp [hb', hlt, heapB, hi, hv, irow_set]

end Go.AX

namespace Go.AX
open Go.Proofs
set_option linter.unusedSimpArgs false

theorem set_same {h : List (List SV)} {b : Nat} {x : List SV} (hb : h[b]? = some x) : h.set b x = h := by
  apply List.ext_getElem?
  intro i
  rw [List.getElem?_set]
  split
  · rename_i e; subst e
    rw [if_pos (List.getElem?_eq_some_iff.1 hb).1, hb]
  · rfl
theorem frz_heap {h : List (List SV)} {b : Nat} (hlt : b < h.length) (q : HS) (n : Nat) : frzP (h.set b (heapB q)) (n + 1) b 0 = .iptr 3 [heapR q] 0 0 := by
  simp [frzP, hlt, heapB, heapR, frzC]
theorem frz_heap0 {h : List (List SV)} {b : Nat} {q : HS} (hb : h[b]? = some (heapB q)) (n : Nat) : frzP h (n + 1) b 0 = .iptr 3 [heapR q] 0 0 := by
  obtain ⟨hlt, hb'⟩ := List.getElem?_eq_some_iff.1 hb
  simp [frzP, hlt, hb', heapB, heapR, frzC]
theorem get_set {h : List (List SV)} {b : Nat} (hlt : b < h.length) (x : List SV) : (h.set b x)[b]? = some x := by simp [hlt]

set_option maxRecDepth 16000 in
theorem hup_ok (h : List (List SV)) (b : Nat) (q : HS) (hb : h[b]? = some (heapB q)) (i : Nat) (hi : i < q.row.length) (hin : InR q.row q.pl.length) (hl : q.pl.length = q.sc.length) (hs : q.row.length ≤ 1000000) :
    AMut Try.prog 116 [.ptr b 0, I64 i] h (fun r h' => r = .pv (.tup []) ∧ h' = h.set b (heapB ⟨q.sc, (upL q.sc (q.row.getD i 0) i q.row q.pl).1, (upL q.sc (q.row.getD i 0) i q.row q.pl).2⟩)) := by
  refine amutN [] hmo Try.func116 (by kernel_rfl) rfl (fun _ _ => results_tmp0 rfl _ _) (by kernel_rfl) (Nat.le_of_ble_eq_true rfl) ?_
  obtain ⟨hlt, hb'⟩ := List.getElem?_eq_some_iff.1 hb
  have hv := hin (q.row.getD i 0) (getD_mem hi)
  obtain ⟨v, hve⟩ := Int.eq_ofNat_of_zero_le (show 0 ≤ q.row.getD i 0 by omega)
  have hve' : q.row.getD i 0 = (v : Int) := hve
  have hvi : q.row[i] = (v : Int) := by rw [← hve']; simp [hi]
  rw [hve'] at hv ⊢
  have hvl : v < q.pl.length := by omega
  simp [hb', hlt, heapB, hi, hvi]
  refine ALoop.intro (S := fun (x : Nat × List Int × List Int) => ⟨[(0, .pv (.ptr b 0)), (1, .pv (I64 x.1)), (4, .pv (.fn (.func 117) [.ptr b 0] [])), (5, .pv (I64 v))], h.set b (heapB ⟨q.sc, x.2.1, x.2.2⟩)⟩)
    (fun x => x.1 < x.2.1.length ∧ x.2.1.length = q.row.length ∧ x.2.2.length = q.pl.length ∧ InR x.2.1 q.pl.length ∧ upL q.sc v x.1 x.2.1 x.2.2 = upL q.sc v i q.row q.pl) (fun x => x.1) (i, q.row, q.pl) ?_ ?_ ?_
  · exact Weak.keep (by simp) (set_same hb).symm
  · exact ⟨hi, rfl, rfl, hin, rfl⟩
  · rintro ⟨j, row, pl⟩ ⟨k1, k2, k3, k4, k5⟩
    dsimp only at k1 k2 k3 k4 k5
    rcases Nat.eq_zero_or_pos j with h0 | h0
    · subst h0
      have hrl : 0 < row.length := k1
      simp [hlt, heapB]
      refine CallB.intro (hset_ok _ b ⟨q.sc, row, pl⟩ (get_set hlt _) 0 v hrl (by dsimp only; omega)) (by simp) ?_
      rintro _ _ ⟨rfl, rfl⟩
      rw [← k5]
      unfold upL
      simp [heapB]
    · obtain ⟨k, rfl⟩ : ∃ k, j = k + 1 := ⟨j - 1, by omega⟩
      obtain ⟨p, hp, hpk⟩ : ∃ p : Nat, Int.tdiv (k : Int) 2 = (p : Int) ∧ p = k / 2 := ⟨k / 2, rfl, rfl⟩
      have hw : w64 ((k : Nat) : Int) = (k : Int) := w64_id (by omega) (by omega)
      have hw2 : w64 ((p : Nat) : Int) = (p : Int) := w64_id (by omega) (by omega)
      have hk2 : p < row.length := by omega
      have hin2 := k4 (row.getD p 0) (getD_mem hk2)
      obtain ⟨u, hu⟩ := Int.eq_ofNat_of_zero_le (show 0 ≤ row.getD p 0 by omega)
      have hu' : row.getD p 0 = (u : Int) := hu
      have hui : row[p] = (u : Int) := by rw [← hu']; simp [hk2]
      have hbt := hbetter_ok ⟨q.sc, row, pl⟩ v u (by dsimp only; omega) (by dsimp only; omega)
      simp [hlt, heapB, hw, hp, hw2, hk2, hui]
      rw [← heapB.eq_1 ⟨q.sc, row, pl⟩, frz_heap hlt]
      refine CallB.introP hbt (by simp) (by simp) ?_
      rw [heapB.eq_1 ⟨q.sc, row, pl⟩]
      have hst := hset_ok (h.set b (heapB ⟨q.sc, row, pl⟩)) b ⟨q.sc, row, pl⟩ (get_set hlt _) (k + 1) v k1 (by dsimp only; omega)
      have hst2 := hset_ok (h.set b (heapB ⟨q.sc, row, pl⟩)) b ⟨q.sc, row, pl⟩ (get_set hlt _) (k + 1) u k1 (by dsimp only; omega)
      push_cast at hst hst2
      have hup : upL q.sc v (k + 1) row pl = if bet q.sc v u = true then upL q.sc v p (row.set (k + 1) u) (pl.set u (k + 1 : Nat)) else (row.set (k + 1) v, pl.set v (k + 1 : Nat)) := by
        rw [upL]
        have e1 : (k + 1 - 1) / 2 = p := by omega
        simp only [e1, hu']
        by_cases c : bet q.sc v u = true
        · rw [dif_pos ⟨by omega, c⟩, if_pos c]; rfl
        · rw [dif_neg (fun h => c h.2), if_neg c]; rfl
      cases hbv : bet q.sc v u with
      | false =>
        simp [hlt, heapB]
        refine CallB.intro hst (by simp) ?_
        rintro _ _ ⟨rfl, rfl⟩
        rw [← k5, hup, hbv]
        simp [heapB]
      | true =>
        simp [hlt, heapB, hw, hp, hw2, hk2, hui]
        refine CallB.intro hst2 (by simp) ?_
        rintro _ _ ⟨rfl, rfl⟩
        simp [hw, hp, hw2]
        refine ⟨(p, row.set (k + 1) u, pl.set u (k + 1 : Nat)), by dsimp only; omega, ⟨by dsimp only; simp; omega, by simpa using k2, by simpa using k3, ?_, ?_⟩, Weak.keep ?_ ?_⟩
        · intro x hx
          rcases List.mem_or_eq_of_mem_set hx with hx | hx
          · exact k4 x hx
          · omega
        · rw [← k5, hup, hbv]; rfl
        · simp
        · simp [heapB]

end Go.AX

namespace Go.AX
open Go.Proofs
set_option linter.unusedSimpArgs false

theorem hbetter_okI (q : HS) (v w : Int) (hv : 0 ≤ v ∧ v < q.sc.length) (hw : 0 ≤ w ∧ w < q.sc.length) : APure Try.prog 117 [.iptr 3 [heapR q] 0 0, I64 v, I64 w] (fun r => r = .pv (BL (bet q.sc v w))) := by
  obtain ⟨a, ha⟩ := Int.eq_ofNat_of_zero_le hv.1
  obtain ⟨c, hc⟩ := Int.eq_ofNat_of_zero_le hw.1
  have := hbetter_ok q a c (by omega) (by omega)
  rw [ha, hc]; exact this
theorem hset_okI (h : List (List SV)) (b : Nat) (q : HS) (hb : h[b]? = some (heapB q)) (i : Nat) (v : Int) (hi : i < q.row.length) (hv : 0 ≤ v ∧ v < q.pl.length) :
    AMut Try.prog 100 [.ptr b 0, I64 i, I64 v] h (fun r h' => r = .pv (.tup []) ∧ h' = h.set b (heapB ⟨q.sc, q.row.set i v, q.pl.set v.toNat i⟩)) := by
  obtain ⟨a, ha⟩ := Int.eq_ofNat_of_zero_le hv.1
  have := hset_ok h b q hb i a hi (by omega)
  rw [ha]; exact this

def pk1 (sc row : List Int) (v : Int) (i : Nat) : Int × Nat := if 2 * i + 1 < row.length ∧ bet sc (row.getD (2 * i + 1) 0) v = true then (row.getD (2 * i + 1) 0, 2 * i + 1) else (v, i)
def pkT (sc row : List Int) (v : Int) (i : Nat) : Nat → Int × Nat
  | 0 => (v, i)
  | 1 => pk1 sc row v i
  | _ => pickD sc row v i
theorem pick_eq (sc row : List Int) (v : Int) (i : Nat) : pickD sc row v i = if 2 * i + 2 < row.length ∧ bet sc (row.getD (2 * i + 2) 0) (pk1 sc row v i).1 = true then (row.getD (2 * i + 2) 0, 2 * i + 2) else pk1 sc row v i := rfl
theorem pk1_in {sc row : List Int} {v : Int} {i n : Nat} (hin : InR row n) (hv : 1 ≤ v ∧ v < n) (hi : i < row.length) : 1 ≤ (pk1 sc row v i).1 ∧ (pk1 sc row v i).1 < n ∧ (pk1 sc row v i).2 < row.length := by
  unfold pk1
  split
  · rename_i c; have := hin _ (getD_mem c.1); exact ⟨this.1, this.2, c.1⟩
  · exact ⟨hv.1, hv.2, hi⟩
theorem pickD_in {sc row : List Int} {v : Int} {i n : Nat} (hin : InR row n) (hv : 1 ≤ v ∧ v < n) (hi : i < row.length) : 1 ≤ (pickD sc row v i).1 ∧ (pickD sc row v i).1 < n ∧ (pickD sc row v i).2 < row.length := by
  rw [pick_eq]
  split
  · rename_i c; have := hin _ (getD_mem c.1); exact ⟨this.1, this.2, c.1⟩
  · exact pk1_in hin hv hi

set_option maxRecDepth 16000 in
theorem hdown_ok (h : List (List SV)) (b : Nat) (q : HS) (hb : h[b]? = some (heapB q)) (i : Nat) (hi : i < q.row.length) (hin : InR q.row q.pl.length) (hl : q.pl.length = q.sc.length) (hs : q.row.length ≤ 1000000) :
    AMut Try.prog 101 [.ptr b 0, I64 i] h (fun r h' => r = .pv (.tup []) ∧ h' = h.set b (heapB ⟨q.sc, (downL q.sc (q.row.getD i 0) q.row.length i q.row q.pl).1, (downL q.sc (q.row.getD i 0) q.row.length i q.row q.pl).2⟩)) := by
  refine amutN [] hmo Try.func101 (by kernel_rfl) rfl (fun _ _ => results_tmp0 rfl _ _) (by kernel_rfl) (Nat.le_of_ble_eq_true rfl) ?_
  obtain ⟨hlt, hb'⟩ := List.getElem?_eq_some_iff.1 hb
  have hv := hin (q.row.getD i 0) (getD_mem hi)
  have hvi : q.row[i] = q.row.getD i 0 := by simp [hi]
  generalize hve : q.row.getD i 0 = v at *
  simp [hb', hlt, heapB, hi, hvi]
  refine ALoop.intro (S := fun (x : Nat × Nat × List Int × List Int) => ⟨[(0, .pv (.ptr b 0)), (1, .pv (I64 x.2.1)), (4, .pv (I64 v))], h.set b (heapB ⟨q.sc, x.2.2.1, x.2.2.2⟩)⟩)
    (fun x => x.2.1 < x.2.2.1.length ∧ x.2.2.1.length = q.row.length ∧ x.2.2.2.length = q.pl.length ∧ InR x.2.2.1 q.pl.length ∧ x.2.2.1.length ≤ x.2.1 + x.1 ∧ downL q.sc v x.1 x.2.1 x.2.2.1 x.2.2.2 = downL q.sc v q.row.length i q.row q.pl) (fun x => x.1) (q.row.length, i, q.row, q.pl) ?_ ?_ ?_
  · exact Weak.keep (by simp) (set_same hb).symm
  · exact ⟨hi, rfl, rfl, hin, by dsimp only; omega, rfl⟩
  · rintro ⟨n, j, row, pl⟩ ⟨k1, k2, k3, k4, k5, k6⟩
    dsimp only at k1 k2 k3 k4 k5 k6
    have hw1 : w64 (2 * (j : Int)) = 2 * (j : Int) := w64_id (by omega) (by omega)
    have hww1 : w64 1 = 1 := w64_id (by omega) (by omega)
    have hww2 : w64 2 = 2 := w64_id (by omega) (by omega)
    obtain ⟨c1, hc1⟩ : ∃ c, c = 2 * j + 1 := ⟨_, rfl⟩
    obtain ⟨c2, hc2⟩ : ∃ c, c = 2 * j + 2 := ⟨_, rfl⟩
    have hw2 : w64 (2 * (j : Int) + 1) = (c1 : Int) := by rw [w64_id (by omega) (by omega)]; omega
    have hw3 : w64 (2 * (j : Int) + 2) = (c2 : Int) := by rw [w64_id (by omega) (by omega)]; omega
    have hp1 := pk1_in (sc := q.sc) (i := j) k4 hv k1
    have hp2 := pickD_in (sc := q.sc) (i := j) k4 hv k1
    have e1 : pk1 q.sc row v j = if c1 < row.length ∧ bet q.sc (row.getD c1 0) v = true then (row.getD c1 0, c1) else (v, j) := by rw [hc1]; rfl
    have e2 : pickD q.sc row v j = if c2 < row.length ∧ bet q.sc (row.getD c2 0) (pk1 q.sc row v j).1 = true then (row.getD c2 0, c2) else pk1 q.sc row v j := by rw [hc2]; rfl
    simp [hw1, hw2, hw3]
    refine ALoop.intro (S := fun (t : Nat) => ⟨[(0, .pv (.ptr b 0)), (1, .pv (I64 j)), (4, .pv (I64 v)), (5, .pv (I64 (pkT q.sc row v j t).1)), (6, .pv (I64 (pkT q.sc row v j t).2)), (24, .pv (.agg [I64 c1, I64 c2])), (25, .pv (I64 t))], h.set b (heapB ⟨q.sc, row, pl⟩)⟩)
      (fun t => t ≤ 2) (fun t => 2 - t) 0 ?_ ?_ ?_
    · exact Weak.keep (by simp [pkT]) rfl
    · omega
    · intro t ht
      have : t = 0 ∨ t = 1 ∨ t = 2 := by omega
      rcases this with rfl | rfl | rfl
      · by_cases hcl : c1 < row.length
        · have hri := k4 _ (getD_mem hcl)
          have hrg : row[c1] = row.getD c1 0 := by simp [hcl]
          generalize hu : row.getD c1 0 = u at *
          have hbt := hbetter_okI ⟨q.sc, row, pl⟩ u v (by dsimp only; omega) (by dsimp only; omega)
          simp [hlt, heapB, pkT, hcl, hrg]
          rw [← heapB.eq_1 ⟨q.sc, row, pl⟩, frz_heap hlt]
          refine CallB.introP hbt (by simp) (by simp) ?_
          rw [heapB.eq_1 ⟨q.sc, row, pl⟩]
          cases hbv : bet q.sc u v with
          | false =>
            simp
            refine ⟨1, by dsimp only; omega, by dsimp only; omega, Weak.keep ?_ (by simp [heapB])⟩
            simp [hww1, pkT, e1, hbv]
          | true =>
            simp [hlt, hcl, hrg]
            refine ⟨1, by dsimp only; omega, by dsimp only; omega, Weak.keep ?_ (by simp [heapB])⟩
            simp [hww1, pkT, e1, hbv, hcl]
        · simp [hlt, heapB, pkT, hcl]
          refine ⟨1, by dsimp only; omega, by dsimp only; omega, Weak.keep ?_ (by simp [heapB])⟩
          simp [hww1, pkT, e1, hcl]
      · generalize hbe : pk1 q.sc row v j = be at *
        obtain ⟨best, at'⟩ := be
        dsimp only at hp1
        by_cases hcl : c2 < row.length
        · have hri := k4 _ (getD_mem hcl)
          have hrg : row[c2] = row.getD c2 0 := by simp [hcl]
          generalize hu : row.getD c2 0 = u at *
          have hbt := hbetter_okI ⟨q.sc, row, pl⟩ u best (by dsimp only; omega) (by dsimp only; omega)
          simp [hlt, heapB, pkT, hcl, hrg, hbe]
          rw [← heapB.eq_1 ⟨q.sc, row, pl⟩, frz_heap hlt]
          refine CallB.introP hbt (by simp) (by simp) ?_
          rw [heapB.eq_1 ⟨q.sc, row, pl⟩]
          cases hbv : bet q.sc u best with
          | false =>
            simp
            refine ⟨2, by dsimp only; omega, by dsimp only; omega, Weak.keep ?_ (by simp [heapB])⟩
            simp [hww2, pkT, e2, hbv]
          | true =>
            simp [hlt, hcl, hrg]
            refine ⟨2, by dsimp only; omega, by dsimp only; omega, Weak.keep ?_ (by simp [heapB])⟩
            simp [hww2, pkT, e2, hbv, hcl]
        · simp [hlt, heapB, pkT, hcl, hbe]
          refine ⟨2, by dsimp only; omega, by dsimp only; omega, Weak.keep ?_ (by simp [heapB])⟩
          simp [hww2, pkT, e2, hcl]
      · have hn : n ≠ 0 := by omega
        obtain ⟨n, rfl⟩ : ∃ k, n = k + 1 := ⟨n - 1, by omega⟩
        rw [downL] at k6
        clear e1 e2 hp1
        generalize hbe : pickD q.sc row v j = be at *
        obtain ⟨best, at'⟩ := be
        dsimp only at hp2 k6
        have hst := hset_okI (h.set b (heapB ⟨q.sc, row, pl⟩)) b ⟨q.sc, row, pl⟩ (get_set hlt _) j best k1 (by dsimp only; omega)
        simp [hlt, heapB, pkT, hbe]
        refine CallB.intro hst (by simp) ?_
        rintro _ _ ⟨rfl, rfl⟩
        by_cases c : at' = j
        · rw [if_pos c] at k6
          simp [c, ← k6, heapB]
        · rw [if_neg c] at k6
          have c' : ¬ (at' : Int) = (j : Int) := by omega
          simp [c, c', hlt, heapB, hp2, irow_set]
          have hjc : j < at' := by
            rcases pickD_ok (sc := q.sc) (row := row) (v := v) (i := j) with ⟨e, _⟩ | ⟨c0, e, _, _, hic, _⟩
            · rw [hbe] at e; simp only [Prod.mk.injEq] at e; omega
            · rw [hbe] at e; simp only [Prod.mk.injEq] at e; omega
          refine ⟨(n, at', (row.set j best).set at' v, pl.set best.toNat j), by dsimp only; omega, ⟨?_, ?_, ?_, ?_, ?_, k6⟩, Weak.keep ?_ ?_⟩
          · dsimp only; simp only [List.length_set]; omega
          · simpa using k2
          · simpa using k3
          · intro x hx
            rcases List.mem_or_eq_of_mem_set hx with hx | hx
            · rcases List.mem_or_eq_of_mem_set hx with hx | hx
              · exact k4 x hx
              · omega
            · omega
          · dsimp only; simp only [List.length_set]; omega
          · simp
          · simp [heapB]

end Go.AX

namespace Go.AX
open Go.Proofs
set_option linter.unusedSimpArgs false

theorem downL_len {sc : List Int} {v : Int} : ∀ (n i : Nat) (row pl : List Int), (downL sc v n i row pl).1.length = row.length ∧ (downL sc v n i row pl).2.length = pl.length
  | 0, i, row, pl => by simp [downL]
  | n + 1, i, row, pl => by
    rw [downL]
    split
    · simp
    · obtain ⟨h1, h2⟩ := downL_len (sc := sc) (v := v) n (pickD sc row v i).2 ((row.set i (pickD sc row v i).1).set (pickD sc row v i).2 v) (pl.set (pickD sc row v i).1.toNat i)
      rw [h1, h2]; simp
theorem inR_set {row : List Int} {n i : Nat} {x : Int} (h : InR row n) (hx : 1 ≤ x ∧ x < n) : InR (row.set i x) n := by
  intro y hy
  rcases List.mem_or_eq_of_mem_set hy with hy | hy
  · exact h y hy
  · subst hy; exact hx
theorem downL_in {sc : List Int} {v : Int} {m : Nat} (hv : 1 ≤ v ∧ v < m) : ∀ (n i : Nat) (row pl : List Int), i < row.length → InR row m → InR (downL sc v n i row pl).1 m
  | 0, i, row, pl, hi, h => inR_set h hv
  | n + 1, i, row, pl, hi, h => by
    have hp := pickD_in (sc := sc) (i := i) h hv hi
    rw [downL]
    split
    · exact inR_set h ⟨hp.1, hp.2.1⟩
    · exact downL_in hv n _ _ _ (by simp only [List.length_set]; exact hp.2.2) (inR_set (inR_set h ⟨hp.1, hp.2.1⟩) hv)

def orderL (sc : List Int) : Nat → List Int → List Int → List Int × List Int
  | 0, row, pl => (row, pl)
  | k + 1, row, pl => orderL sc k (downL sc (row.getD k 0) row.length k row pl).1 (downL sc (row.getD k 0) row.length k row pl).2

set_option maxRecDepth 16000 in
theorem horder_ok (h : List (List SV)) (b : Nat) (q : HS) (hb : h[b]? = some (heapB q)) (hin : InR q.row q.pl.length) (hl : q.pl.length = q.sc.length) (hs : q.row.length ≤ 1000000) :
    AMut Try.prog 102 [.ptr b 0] h (fun r h' => r = .pv (.tup []) ∧ h' = h.set b (heapB ⟨q.sc, (orderL q.sc (q.row.length / 2) q.row q.pl).1, (orderL q.sc (q.row.length / 2) q.row q.pl).2⟩)) := by
  refine amutN [] hmo Try.func102 (by kernel_rfl) rfl (fun _ _ => results_tmp0 rfl _ _) (by kernel_rfl) (Nat.le_of_ble_eq_true rfl) ?_
  obtain ⟨hlt, hb'⟩ := List.getElem?_eq_some_iff.1 hb
  obtain ⟨m, hm, hmk⟩ : ∃ p : Nat, Int.tdiv (q.row.length : Int) 2 = (p : Int) ∧ p = q.row.length / 2 := ⟨q.row.length / 2, rfl, rfl⟩
  have hw : w64 (m : Int) = (m : Int) := w64_id (by omega) (by omega)
  have hw1 : w64 ((m : Int) - 1) = (m : Int) - 1 := w64_id (by omega) (by omega)
  rw [← hmk]
  simp [hb', hlt, heapB, hm, hw, hw1]
  refine ALoop.intro (S := fun (x : Nat × List Int × List Int) => ⟨[(0, .pv (.ptr b 0)), (2, .pv (I64 ((x.1 : Int) - 1)))], h.set b (heapB ⟨q.sc, x.2.1, x.2.2⟩)⟩)
    (fun x => x.1 ≤ x.2.1.length ∧ x.2.1.length = q.row.length ∧ x.2.2.length = q.pl.length ∧ InR x.2.1 q.pl.length ∧ orderL q.sc x.1 x.2.1 x.2.2 = orderL q.sc m q.row q.pl) (fun x => x.1) (m, q.row, q.pl) ?_ ?_ ?_
  · exact Weak.keep (by simp) (set_same hb).symm
  · exact ⟨by dsimp only; omega, rfl, rfl, hin, rfl⟩
  · rintro ⟨k, row, pl⟩ ⟨k1, k2, k3, k4, k5⟩
    dsimp only at k1 k2 k3 k4 k5
    rcases Nat.eq_zero_or_pos k with h0 | h0
    · subst h0
      rw [← k5]
      simp [hlt, heapB, orderL]
    · obtain ⟨k, rfl⟩ : ∃ i, k = i + 1 := ⟨k - 1, by omega⟩
      have hw2 : w64 ((k : Int) - 1) = (k : Int) - 1 := w64_id (by omega) (by omega)
      have hdn := hdown_ok (h.set b (heapB ⟨q.sc, row, pl⟩)) b ⟨q.sc, row, pl⟩ (get_set hlt _) k (by dsimp only; omega) (by dsimp only; rw [k3]; exact k4) (by dsimp only; omega) (by dsimp only; omega)
      have hlen := downL_len (sc := q.sc) (v := row.getD k 0) row.length k row pl
      have hinr := downL_in (sc := q.sc) (k4 _ (getD_mem (show k < row.length by omega))) row.length k row pl (by omega) k4
      rw [orderL] at k5
      simp only [heapB] at hdn
      simp [hlt, heapB]
      refine CallB.intro hdn (by simp) ?_
      rintro _ _ ⟨rfl, rfl⟩
      simp [hw2]
      refine ⟨(k, _, _), by dsimp only; omega, ⟨?_, ?_, ?_, hinr, k5⟩, Weak.keep ?_ ?_⟩
      · dsimp only; omega
      · dsimp only; omega
      · dsimp only; omega
      · simp
      · simp [heapB]

def half (x : Int) : Int := w64 (Int.tdiv x 2)
def halfTo (l : List Int) (i : Nat) : List Int := (l.take i).map half ++ l.drop i
theorem halfTo_len (l : List Int) (i : Nat) : (halfTo l i).length = l.length := by
  simp only [halfTo, List.length_append, List.length_map, List.length_take, List.length_drop]; omega
theorem halfTo_get {l : List Int} {i : Nat} (h : i < l.length) : (halfTo l i)[i]? = some l[i] := by
  have hl : ((l.take i).map half).length = i := by simp; omega
  rw [halfTo, List.getElem?_append_right (by omega), hl, Nat.sub_self, List.getElem?_drop]
  simp [h]
theorem halfTo_succ {l : List Int} {i : Nat} (h : i < l.length) : (halfTo l i).set i (half l[i]) = halfTo l (i + 1) := by
  have hl : ((l.take i).map half).length = i := by simp; omega
  unfold halfTo
  rw [List.set_append_right _ _ (by omega), hl, Nat.sub_self, List.take_succ_eq_append_getElem h, List.drop_eq_getElem_cons h, List.map_append, List.set_cons_zero, List.append_assoc]
  rfl
def halveS (q : HS) : HS := ⟨q.sc.map half, (orderL (q.sc.map half) (q.row.length / 2) q.row q.pl).1, (orderL (q.sc.map half) (q.row.length / 2) q.row q.pl).2⟩

set_option maxRecDepth 16000 in
theorem hhalve_ok (h : List (List SV)) (b : Nat) (q : HS) (hb : h[b]? = some (heapB q)) (hq : 0 < q.sc.length) (hin : InR q.row q.pl.length) (hl : q.pl.length = q.sc.length) (hs : q.row.length ≤ 1000000) (hss : q.sc.length ≤ 1000000) :
    AMut Try.prog 61 [.ptr b 0] h (fun r h' => r = .pv (.tup []) ∧ h' = h.set b (heapB (halveS q))) := by
  refine amutN [] hmo Try.func61 (by kernel_rfl) rfl (fun _ _ => results_tmp0 rfl _ _) (by kernel_rfl) (Nat.le_of_ble_eq_true rfl) ?_
  obtain ⟨hlt, hb'⟩ := List.getElem?_eq_some_iff.1 hb
  have h1 := made_ok q hq
  simp
  rw [frz_heap0 hb]
  refine CallB.introP h1 (by simp) (by simp) ?_
  simp [hb', hlt, heapB]
  refine ALoop.intro (S := fun (i : Nat) => ⟨[(0, .pv (.ptr b 0)), (10, .pv (I64 q.sc.length)), (11, .pv (I64 i))], h.set b (heapB ⟨halfTo q.sc i, q.row, q.pl⟩)⟩)
    (fun i => i ≤ q.sc.length) (fun i => q.sc.length - i) 0 ?_ ?_ ?_
  · exact Weak.keep (by simp) (by simp [halfTo, set_same hb])
  · omega
  · intro i hi
    by_cases c : i < q.sc.length
    · have hw : w64 ((i : Int) + 1) = ((i + 1 : Nat) : Int) := by rw [w64_id (by omega) (by omega)]; omega
      have hlen := halfTo_len q.sc i
      have hget := halfTo_get c
      have hget' : (halfTo q.sc i)[i]'(by omega) = q.sc[i] := by
        have := List.getElem?_eq_some_iff.1 hget; exact this.2
      have hsu := halfTo_succ c
      unfold half at hsu
      simp [hlt, heapB, c, hlen, hget', irow_set]
      refine ⟨i + 1, by dsimp only; omega, by dsimp only; omega, Weak.keep ?_ ?_⟩
      · simp [hw]
      · simp [heapB, hsu]
    · have : i = q.sc.length := by omega
      subst this
      have hho := horder_ok (h.set b (heapB ⟨q.sc.map half, q.row, q.pl⟩)) b ⟨q.sc.map half, q.row, q.pl⟩ (get_set hlt _) hin (by simpa using hl) hs
      have hft : halfTo q.sc q.sc.length = q.sc.map half := by simp [halfTo]
      simp only [heapB] at hho
      simp [hlt, heapB, hft]
      refine CallB.intro hho (by simp) ?_
      rintro _ _ ⟨rfl, rfl⟩
      simp [halveS]

end Go.AX
