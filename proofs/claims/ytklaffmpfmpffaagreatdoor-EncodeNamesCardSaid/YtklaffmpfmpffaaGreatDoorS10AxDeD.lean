/-
  Contracts: steps and runs.
  Contracts: runs of picks.
  Contracts: whether picks are a linearization (by the program).
  Contracts: runs, and linearizations, of picks, by the document.
-/
import Derived.Test.YtklaffmpfmpffaaGreatDoorS10AxDeQ
import Derived.Test.YtklaffmpfmpffaaGreatDoorS10AxMovO
import Derived.Test.YtklaffmpfmpffaaGreatDoorS10AxCntL
import Derived.Test.YtklaffmpfmpffaaGreatDoorAxBe
namespace Go.AX
open Go.Proofs
set_option linter.unusedSimpArgs false

/-! ### What was used, by a map -/
def CntOk (u : List Int) (m : List (Int × Int)) : Prop := ∀ k, (lk m k).getD 0 = (u.count k : Nat)
theorem cntOk_nil : CntOk [] [] := fun k => rfl
theorem CntOk.inc {u : List Int} {m : List (Int × Int)} (h : CntOk u m) (hl : u.length ≤ 1000000) (k : Int) : CntOk (u ++ [k]) (pt m k (w64 ((lk m k).getD 0 + 1))) := by
  intro n
  have hk := h k
  have hn := h n
  have hc : u.count k ≤ u.length := List.count_le_length
  rw [lk_pt, List.count_append]
  by_cases e : k = n
  · subst e
    rw [if_pos rfl, Option.getD_some, hk, w64_id (by omega) (by omega)]
    simp
  · rw [if_neg e, hn]
    simp [e]
theorem CntOk.zero {u : List Int} {m : List (Int × Int)} (h : CntOk u m) (k : Int) : (lk m k).getD 0 = 0 ↔ k ∉ u := by
  rw [h k]
  constructor
  · intro e; exact List.count_eq_zero.1 (by omega)
  · intro e; rw [List.count_eq_zero.2 e]; rfl
theorem CntOk.pos {u : List Int} {m : List (Int × Int)} (h : CntOk u m) (k : Int) : 0 < (lk m k).getD 0 ↔ k ∈ u := by
  have := h.zero k
  have h2 := h k
  constructor
  · intro e; exact Classical.byContradiction fun hc => by have := this.2 hc; omega
  · intro e
    have : (lk m k).getD 0 ≠ 0 := fun hc => (this.1 hc) e
    omega
def runB (o : Obj) (ops : List Op5) (s : Int) (m : List (Int × Int)) : List (List SV) := [[.pv (I64 o.st), .pv (I64 o.kd), .pv (I64 o.ini), .pv (.seq false 4 (o.rows.map rrow))], [.pv (ovec ops)], [.pv (I64 s)], [.omap true (mapE fI m)]]
end Go.AX

namespace Go.AX
open Go.Proofs
set_option linter.unusedSimpArgs false

@[simp ↓ high] theorem AGs_true {P : Program} {st : St} {Gd : Prop} {o : Op} {d : Option Tmp} {K : St → Prop} (h : Gd) : AGs P st Gd o d K = AE P st o d K :=
  propext ⟨fun x => x.1 h, fun x => ⟨fun _ => x, fun hn => absurd h hn⟩⟩
/-- Where what runs one pick stands: behind the object, and ahead of the pick. -/
def runH (o : Obj) (ops : List Op5) (s : Int) (m : List (Int × Int)) (p : Int × Int) : List (List SV) := [[.pv (I64 o.st), .pv (I64 o.kd), .pv (I64 o.ini), .pv (.seq false 4 (o.rows.map rrow))], [.pv (I64 o.st), .pv (I64 o.kd), .pv (I64 o.ini), .pv (.seq false 4 (o.rows.map rrow))], [.pv (.seq false 5 (ops.map orow))], [.pv (I64 s)], [.omap true (mapE fI m)], [.pv (I64 p.1), .pv (I64 p.2)]]
end Go.AX

namespace Go.AX
open Go.Proofs
set_option linter.unusedSimpArgs false

def inRg (n : Nat) (l : List Int) : List Int := l.filter fun x => decide (0 ≤ x ∧ x < (n : Int))
theorem inRg_mem {n : Nat} {l : List Int} {k : Nat} (hk : k < n) : (k : Int) ∈ inRg n l ↔ (k : Int) ∈ l := by
  unfold inRg
  rw [List.mem_filter]
  exact ⟨fun h => h.1, fun h => ⟨h, decide_eq_true (by omega)⟩⟩
theorem inRg_in {n : Nat} {l : List Int} {x : Int} (hx : 0 ≤ x ∧ x < n) : inRg n (l ++ [x]) = inRg n l ++ [x] := by
  unfold inRg
  rw [List.filter_append, List.filter_cons, List.filter_nil, if_pos (decide_eq_true hx)]
theorem inRg_out {n : Nat} {l : List Int} {x : Int} (hx : ¬ (0 ≤ x ∧ x < n)) : inRg n (l ++ [x]) = inRg n l := by
  unfold inRg
  rw [List.filter_append, List.filter_cons, List.filter_nil, if_neg (by simpa using hx), List.append_nil]
theorem inRg_len (n : Nat) (l : List Int) : (inRg n l).length ≤ l.length := List.length_filter_le _ _
theorem badT_out {ops : List Op5} {u : List Int} {p : Int × Int} (h : ¬ (0 ≤ p.1 ∧ p.1 < ops.length)) : badT ops u p = false := by
  unfold badT
  rw [decide_eq_false h, Bool.false_and]
theorem badT_yes {ops : List Op5} {u : List Int} {x k : Nat} {q : Int} (hx : x < ops.length) (hk : k < ops.length) (h1 : aheadS ops[k] ops[x] = true) (h2 : (k : Int) ∉ u) : badT ops u ((x : Int), q) = true := by
  unfold badT
  rw [decide_eq_true (by dsimp only; omega), Bool.true_and, List.any_eq_true]
  exact ⟨k, List.mem_range.2 hk, by simp [hk, hx, h1, h2]⟩
theorem badT_no {ops : List Op5} {u : List Int} {x : Nat} {q : Int} (hx : x < ops.length) (h : ∀ k (hk : k < ops.length), aheadS ops[k] ops[x] = true → (k : Int) ∈ u) : badT ops u ((x : Int), q) = false := by
  unfold badT
  rw [decide_eq_true (by dsimp only; omega), Bool.true_and, List.any_eq_false]
  intro k hk hc
  have hk := List.mem_range.1 hk
  simp [hk, hx] at hc
  exact hc.2 (h k hk hc.1)

/-! ### Who is absent -/
@[simp] theorem frzE_fI (r : Nat → Nat → PV) (l : List (Int × Int)) : frzE r (mapE fI l) = mapE fI l := by
  rw [frzE_map]; unfold mapE; rw [List.map_map]; congr 1
theorem frz_map0 {h : List (List SV)} {b : Nat} {nw : Bool} {m : List (Int × Int)} (hb : h[b]? = some [.omap nw (mapE fI m)]) (n : Nat) : frzP h (n + 1) b 0 = .iptr 1 [[.amap false (mapE fI m)]] 0 0 := by
  obtain ⟨hlt, hb'⟩ := List.getElem?_eq_some_iff.1 hb
  simp [frzP, hlt, hb', frzC]
def cntTo (ps : List (Int × Int)) : Nat → List (Int × Int)
  | 0 => []
  | i + 1 => pt (cntTo ps i) (ps.getD i default).1 (w64 ((lk (cntTo ps i) (ps.getD i default).1).getD 0 + 1))
theorem cntTo_ok (ps : List (Int × Int)) (hp : ps.length ≤ 1000000) : ∀ i, i ≤ ps.length → CntOk (tops (ps.take i)) (cntTo ps i)
  | 0, _ => cntOk_nil
  | i + 1, hi => by
    have h : i < ps.length := by omega
    rw [tops_take ps h, cntTo]
    have hg : ps.getD i default = ps[i] := by rw [List.getD_eq_getElem?_getD, List.getElem?_eq_getElem h]; rfl
    rw [hg]
    exact (cntTo_ok ps hp i (by omega)).inc (by simp [tops]; omega) _
end Go.AX

namespace Go.AX
open Go.Proofs
set_option linter.unusedSimpArgs false

theorem pos_take {l : List Int} {x : Int} {i : Nat} : (posS l x < 0 ∨ (i : Int) ≤ posS l x) ↔ x ∉ l.take i := by
  unfold posS idxS
  cases h : l.findIdx? (fun y => decide (y = x)) with
  | none =>
    rw [List.findIdx?_eq_none_iff] at h
    refine ⟨fun _ hm => ?_, fun _ => .inl (by decide)⟩
    have := h x (List.mem_of_mem_take hm)
    simp at this
  | some j =>
    rw [List.findIdx?_eq_some_iff_getElem] at h
    obtain ⟨h1, h2, h3⟩ := h
    dsimp only
    constructor
    · intro hc hm
      obtain ⟨y, hy, e⟩ := List.mem_take_iff_getElem.1 hm
      have := h3 y (by omega)
      simp [e] at this
    · intro hm
      right
      apply Classical.byContradiction
      intro hc
      exact hm (List.mem_take_iff_getElem.2 ⟨j, by omega, by simpa using h2⟩)
theorem tops_takeC (ps : List (Int × Int)) (i : Nat) : tops (ps.take i) = (tops ps).take i := by simp [tops]

end Go.AX
