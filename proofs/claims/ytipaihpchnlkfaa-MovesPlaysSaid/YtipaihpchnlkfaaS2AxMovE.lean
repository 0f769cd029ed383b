/-
  Contracts: plays.
-/
import Derived.Test.YtipaihpchnlkfaaS2AxMovD
namespace Go.AX
open Go.Proofs

theorem len_of_sub {α : Type} [DecidableEq α] : ∀ (l m : List α), l.Nodup → (∀ x ∈ l, x ∈ m) → l.length ≤ m.length
  | [], _, _, _ => Nat.zero_le _
  | x :: l, m, hn, hs => by
    have hx := hs x List.mem_cons_self
    obtain ⟨h1, h2⟩ := List.nodup_cons.1 hn
    have := len_of_sub l (m.erase x) h2 (fun y hy => (List.mem_erase_of_ne (fun e => h1 (by rw [← e]; exact hy))).2 (hs y (List.mem_cons_of_mem _ hy)))
    rw [List.length_erase_of_mem hx] at this
    have hp := List.length_pos_of_mem hx
    simp only [List.length_cons]; omega
theorem range_all {n : Nat} {order : List Int} (hl : order.length = n) (h : ∀ i : Nat, i < n → (i : Int) ∈ order) : ∀ x ∈ order, 0 ≤ x ∧ x < n := by
  intro x hx
  apply Classical.byContradiction
  intro hc
  let r : List Int := (List.range n).map Int.ofNat
  have hr : ∀ y ∈ r, 0 ≤ y ∧ y < n := by
    intro y hy
    obtain ⟨i, hi, rfl⟩ := List.mem_map.1 hy
    have := List.mem_range.1 hi
    simp; omega
  have hnd : r.Nodup := by
    show List.Pairwise _ _
    rw [List.pairwise_map]
    exact (List.nodup_range (n := n)).imp fun h e => h (Int.ofNat.inj e)
  have := len_of_sub (x :: r) order (List.nodup_cons.2 ⟨fun hm => hc (hr x hm), hnd⟩) (by
    intro y hy
    rcases List.mem_cons.1 hy with rfl | hy
    · exact hx
    · obtain ⟨i, hi, rfl⟩ := List.mem_map.1 hy
      exact h i (List.mem_range.1 hi))
  simp [r] at this
  omega

theorem sizeP_all {o : Obj} {ops : List Op5} (h : sizeOk (sizeP o ops).1 (sizeP o ops).2 = true) : (objChk o).2 = 0 ∧ (chk ops).2 = 0 ∧ sizeP o ops = ((ops.length : Int), o.st) ∧ ops.length ≤ 64 ∧ 1 ≤ o.st ∧ o.st ≤ 32 := by
  unfold sizeP at h ⊢
  split at h
  · rename_i hc
    have := sizeOk_iff.1 h
    dsimp only at this
    exact ⟨hc.1, hc.2, by rw [if_pos hc], by omega, by omega, by omega⟩
  · cases h
theorem sizeP_zero {o : Obj} {ops : List Op5} (h : sizeOk (sizeP o ops).1 (sizeP o ops).2 = false) : ¬ sizeOk (sizeP o ops).1 (sizeP o ops).2 = true := by simp [h]

def playStep (o : Obj) (ops : List Op5) (inn : List Bool) (x : Nat) (out : List Int) : Option (List Int) :=
  if inn.getD x false then (mayS o (ops.getD x default) (out.getLastD 0)).map fun y => out ++ [y] else some (out ++ [out.getLastD 0])
def playTo (o : Obj) (ops : List Op5) (order : List Int) (inn : List Bool) : Nat → Option (List Int)
  | 0 => some [o.ini]
  | k + 1 => (playTo o ops order inn k).bind (playStep o ops inn (order.getD k 0).toNat)
def playS (o : Obj) (ops : List Op5) (order : List Int) (inn : List Bool) : Option (List Int) :=
  if sizeOk (sizeP o ops).1 (sizeP o ops).2 = true ∧ playOk ops order inn = true then playTo o ops order inn ops.length else none
def playPV (q : Bool) : Option (List Int) → PV
  | some l => .tup [.seq q 1 (irow l), BL true]
  | none => .tup [.lit (.slice none 0 0), BL false]
theorem playTo_none {o : Obj} {ops : List Op5} {order : List Int} {inn : List Bool} {k : Nat} (h : playTo o ops order inn k = none) : ∀ m, k ≤ m → playTo o ops order inn m = none
  | 0, hm => by rw [Nat.le_zero.1 hm] at h; exact h
  | m + 1, hm => by
    rcases Nat.lt_or_ge m k with h1 | h1
    · have : k = m + 1 := by omega
      exact this ▸ h
    · simp [playTo, playTo_none h m h1]
theorem playTo_length {o : Obj} {ops : List Op5} {order : List Int} {inn : List Bool} : ∀ {k : Nat} {out : List Int}, playTo o ops order inn k = some out → out.length = k + 1
  | 0, out, h => by cases h; rfl
  | k + 1, out, h => by
    simp only [playTo, Option.bind_eq_some_iff] at h
    obtain ⟨p, hp, h⟩ := h
    have := playTo_length hp
    unfold playStep at h
    split at h
    · simp only [Option.map_eq_some_iff] at h
      obtain ⟨y, _, rfl⟩ := h
      simp [this]
    · cases h; simp [this]
theorem playOk_iff {ops : List Op5} {order : List Int} {inn : List Bool} : playOk ops order inn = true ↔ order.length = ops.length ∧ inn.length = ops.length ∧ ∀ i, i < ops.length → properAt ops order inn i := by simp [playOk]

set_option maxRecDepth 8000 in
theorem playM_ok (o : Obj) (ops : List Op5) (order : List Int) (inn : List Bool) (hl : o.rows.length ≤ 140737488355328) (hl2 : ops.length ≤ 140737488355328) : APure Try.prog 23 [robj o, ovec ops, .seq false 1 (irow order), .seq false 1 (brow inn)] (fun r => r = .pv (playPV true (playS o ops order inn))) := by
  refine apureN [8, 9] hmo Try.func23 (by kernel_rfl) rfl (fun _ _ => results_tmp2 rfl _ _ _) (by kernel_rfl) (Nat.le_of_ble_eq_true rfl) ?_
  have hsz := size_ok o ops hl hl2
  have hpr := properM_ok ops order inn hl2
  simp only [robj, ovec] at hsz hpr
  simp [robj, ovec]
  refine CallK.intro hsz (by simp) ?_
  simp
  refine CallK.intro (check_ok _ _) (by simp) ?_
  simp
  refine CallG.intro (r := .pv (BL (playOk ops order inn))) (fun _ => hpr) (by simp) ?_
  simp
  refine ⟨fun c => ?_, fun c1 c2 => ?_⟩
  · have : playS o ops order inn = none := by
      unfold playS
      rw [if_neg]
      rintro ⟨h1, h2⟩
      simp [h1, h2] at c
    simp [this, playPV]
  obtain ⟨hl4, hl5, hpa⟩ := playOk_iff.1 c2
  have h64 := (sizeP_all c1).2.2.2.1
  have hin := range_all hl4 fun i hi => (hpa i hi).1
  have hS : playS o ops order inn = playTo o ops order inn ops.length := by rw [playS, if_pos ⟨c1, c2⟩]
  rw [hS]
  refine ALoop.intro (S := fun (i : Nat) => ⟨[(10, .own true 1 (irow ((playTo o ops order inn i).getD []))), (4, .pv (.ptr 0 0)), (1, .pv (.seq false 5 (ops.map orow))), (3, .pv (.seq false 1 (brow inn))), (31, .pv (.seq false 1 (irow order))), (32, .pv (I64 order.length)), (33, .pv (I64 i))], [[.pv (I64 o.st), .pv (I64 o.kd), .pv (I64 o.ini), .pv (.seq false 4 (o.rows.map rrow))]]⟩) (fun i => i ≤ ops.length ∧ (playTo o ops order inn i).isSome = true) (fun i => ops.length - i) 0 ?_ ?_ ?_
  · exact Weak.to (by simp [playTo, irow]) (by simp) (by simp) (by simp) (by simp)
  · exact ⟨by omega, rfl⟩
  · intro i ⟨hi, ho⟩
    obtain ⟨out, hout⟩ := Option.isSome_iff_exists.1 ho
    have hlen := playTo_length hout
    by_cases h : i < ops.length
    · have hw : w64 ((i : Int) + 1) = ((i + 1 : Nat) : Int) := by rw [w64_id (by omega) (by omega)]; omega
      have hwi : w64 (i : Int) = (i : Int) := w64_id (by omega) (by omega)
      have h3 : i < order.length := by omega
      have h4 : i < out.length := by omega
      obtain ⟨j, hj⟩ := Int.eq_ofNat_of_zero_le (hin order[i] (List.getElem_mem h3)).1
      have hj' : order[i] = (j : Int) := hj
      have hjn : j < ops.length := by have := (hin order[i] (List.getElem_mem h3)).2; omega
      have hjn2 : j < inn.length := by omega
      have hlast : out.getLast?.getD 0 = out[i] := by
        rw [List.getLast?_eq_getElem?]
        simp [hlen]
      have hstep : playTo o ops order inn (i + 1) = playStep o ops inn j out := by
        simp [playTo, hout, h3, hj']
      have hmay := mayM_ok o ops[j] out[i] hl
      simp only [robj, orow] at hmay
      simp [h3, hout, hlen, hwi, hj', hjn2]
      refine ⟨by omega, fun c => ?_, fun c => ?_⟩
      · cases hms : mayS o ops[j] out[i] with
        | none =>
          rw [hms] at hmay
          simp only [mayPV] at hmay
          simp [hjn, orow]
          refine CallQ0.intro hmay (by simp) ?_
          simp
          have : playTo o ops order inn ops.length = none := by
            refine playTo_none (k := i + 1) ?_ _ (by omega)
            rw [hstep]; simp [playStep, hjn, hjn2, c, hlast, hms]
          simp [this, playPV]
        | some y =>
          rw [hms] at hmay
          simp only [mayPV] at hmay
          simp [hjn, orow]
          refine CallQ0.intro hmay (by simp) ?_
          simp
          have : playTo o ops order inn (i + 1) = some (out ++ [y]) := by
            rw [hstep]; simp [playStep, hjn, hjn2, c, hlast, hms]
          refine ⟨by omega, i + 1, by dsimp only; omega, ⟨by omega, by rw [this]; rfl⟩, Weak.to ?_ (by simp) (by simp) (by simp) (by simp)⟩
          simp [hw, this, irow, orow]
      · have : playTo o ops order inn (i + 1) = some (out ++ [out[i]]) := by
          rw [hstep]; simp [playStep, hjn2, c, hlast]
        refine ⟨by omega, i + 1, by dsimp only; omega, ⟨by omega, by rw [this]; rfl⟩, Weak.to ?_ (by simp) (by simp) (by simp) (by simp)⟩
        simp [hw, this, irow, orow]
    · have h3 : ¬ i < order.length := by omega
      have : i = ops.length := by omega
      subst this
      simp [h3, hout, playPV]

end Go.AX
