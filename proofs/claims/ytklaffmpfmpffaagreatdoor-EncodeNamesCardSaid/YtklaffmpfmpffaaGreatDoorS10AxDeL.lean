/-
  Contracts: what may be encoded; whether truths say a linearization.
  Contracts: whether truths say a linearization, by the program and the document.
  Contracts: the order of picks, with all others behind.
  Contracts: what is decoded.
-/
import Derived.Test.YtklaffmpfmpffaaGreatDoorS10AxDeH
import Derived.Test.YtklaffmpfmpffaaGreatDoorS10AxCntL
import Derived.Test.YtklaffmpfmpffaaGreatDoorS10AxDeQ
import Derived.Test.YtklaffmpfmpffaaGreatDoorS10AxCntD
import Derived.Test.YtklaffmpfmpffaaGreatDoorAxBe
namespace Go.AX
open Go.Proofs
set_option linter.unusedSimpArgs false

def failE (o : Obj) (ops : List Op5) : Int := if (objChk o).2 ≠ 0 ∨ (chk ops).2 ≠ 0 then 2 else if ops.length > 64 then 3 else fitsN (sizeP o ops).1 (sizeP o ops).2 ops
def sizeE (o : Obj) (ops : List Op5) : Int × Int := if (objChk o).2 ≠ 0 ∨ (chk ops).2 ≠ 0 then (0, 0) else if ops.length > 64 then (0, 0) else sizeP o ops
theorem sizeP_good {o : Obj} {ops : List Op5} (h1 : (objChk o).2 = 0) (h2 : (chk ops).2 = 0) : sizeP o ops = ((ops.length : Int), o.st) := by unfold sizeP; rw [if_pos ⟨h1, h2⟩]
theorem obj_good {o : Obj} (hr : objR o) (h : (objChk o).2 = 0) : 1 ≤ o.st ∧ o.st ≤ 32 ∧ 0 ≤ o.ini ∧ o.ini < o.st := by
  unfold objChk at h
  split at h
  · rename_i c
    have := (objOk_raw hr).1 c
    omega
  · cases h
theorem failE_zero {o : Obj} {ops : List Op5} (hr : objR o) (h : failE o ops = 0) : (objChk o).2 = 0 ∧ (chk ops).2 = 0 ∧ ops.length ≤ 64 ∧ sizeP o ops = ((ops.length : Int), o.st) ∧ sizeE o ops = ((ops.length : Int), o.st) ∧ sizeOk ops.length o.st = true := by
  unfold failE at h
  split at h
  · cases h
  · rename_i c1
    split at h
    · cases h
    · rename_i c2
      have h1 : (objChk o).2 = 0 := Decidable.of_not_not fun hh => c1 (.inl hh)
      have h2 : (chk ops).2 = 0 := Decidable.of_not_not fun hh => c1 (.inr hh)
      have hP := sizeP_good h1 h2
      obtain ⟨q1, q2, _⟩ := obj_good hr h1
      refine ⟨h1, h2, by omega, hP, by unfold sizeE; rw [if_neg c1, if_neg c2, hP], sizeOk_iff.2 ⟨by omega, by omega, q1, q2⟩⟩
set_option maxRecDepth 8000 in
theorem refErr_ok (o : Obj) (ops : List Op5) (hr : objR o) (hl : o.rows.length ≤ 140737488355328) (hl2 : ops.length ≤ 140737488355328) : APure Tryz.prog 21 [robj o, ovec ops] (fun r => r = .pv (I64 (failE o ops))) := by
  refine apure1 hmo Tryz.func21 (by kernel_rfl) rfl rfl (by kernel_rfl) (Nat.le_of_ble_eq_true rfl) ?_
  have h1 := refObjChk_ok o hr hl
  have h2 := refChk_ok ops hl2
  have h4 := refFits_ok ops.length o.st ops hl2
  have hP := fun h1 h2 => sizeP_good (o := o) (ops := ops) h1 h2
  unfold failE
  generalize objChk o = q at *
  generalize chk ops = q2 at *
  generalize sizeP o ops = P at *
  obtain ⟨a1, a2⟩ := q
  obtain ⟨b1, b2⟩ := q2
  simp only [robj, ovec] at h1 h2 h4
  simp [robj, ovec]
  refine CallK.intro h1 (by simp) ?_
  simp
  refine CallK.intro h2 (by simp) ?_
  by_cases c1 : a2 = 0
  rotate_left
  · simp [c1]
  by_cases c2 : b2 = 0
  rotate_left
  · simp [c1, c2]
  by_cases c3' : 64 < ops.length
  · have c3 : (64 : Int) < (ops.length : Int) := by omega
    simp [c1, c2, c3, c3']
  have c3 : ¬ (64 : Int) < (ops.length : Int) := by omega
  rw [hP c1 c2]
  simp [c1, c2, c3, c3']
  refine CallK.intro h4 (by simp) ?_
  simp
set_option maxRecDepth 8000 in
theorem sizeE_ok (o : Obj) (ops : List Op5) (hl : o.rows.length ≤ 140737488355328) (hl2 : ops.length ≤ 140737488355328) : APure Tryz.prog 15 [robj o, ovec ops] (fun r => r = .pv (.tup [.agg [I64 (sizeE o ops).1, I64 (sizeE o ops).2], I64 (failE o ops)])) := by
  refine apureX [] [.cell 4 _, .tmp 5] hmo Tryz.func15 (by kernel_rfl) rfl rfl (by kernel_rfl) (Nat.le_of_ble_eq_true rfl) ?_
  have h1 := objChk_ok o hl
  have h2 := chk_okC ops hl2
  have h3 := size_ok o ops hl hl2
  have h4 := fits_ok (sizeP o ops).1 (sizeP o ops).2 ops hl2
  unfold failE sizeE
  generalize objChk o = q at *
  generalize chk ops = q2 at *
  generalize sizeP o ops = P at *
  obtain ⟨a1, a2⟩ := q
  obtain ⟨b1, b2⟩ := q2
  obtain ⟨P1, P2⟩ := P
  generalize fitsN P1 P2 ops = F at *
  simp only [robj, ovec] at h1 h2 h3 h4
  simp [robj, ovec]
  refine CallK.intro h1 (by simp) ?_
  simp
  refine CallK.intro h2 (by simp) ?_
  by_cases c1 : a2 = 0
  rotate_left
  · simp [c1]
  by_cases c2 : b2 = 0
  rotate_left
  · simp [c1, c2]
  by_cases c3' : 64 < ops.length
  · have c3 : (64 : Int) < (ops.length : Int) := by omega
    simp [c1, c2, c3, c3']
  have c3 : ¬ (64 : Int) < (ops.length : Int) := by omega
  simp [c1, c2, c3, c3']
  refine CallK.intro h3 (by simp) ?_
  simp
  refine CallQ0.intro h4 (by simp) ?_
  simp
end Go.AX

namespace Go.AX
open Go.Proofs
set_option linter.unusedSimpArgs false

def fillB (g : Nat → Bool) (N i : Nat) : List Bool := (List.range N).map fun j => if j < i then g j else false
@[simp] theorem fillB_length (g : Nat → Bool) (N i : Nat) : (fillB g N i).length = N := by simp [fillB]
theorem fillB_zero (g : Nat → Bool) (N : Nat) : fillB g N 0 = List.replicate N false := by
  apply List.ext_getElem
  · simp
  · intro j h1 h2
    simp [fillB]
theorem fillB_all (g : Nat → Bool) (N : Nat) : fillB g N N = (List.range N).map g := by
  unfold fillB
  apply List.map_congr_left
  intro j hj
  rw [if_pos (List.mem_range.1 hj)]
theorem fillB_get (g : Nat → Bool) {N i : Nat} (h : i < N) : (fillB g N i)[i]? = some false := by simp [fillB, h]
theorem fillB_set (g : Nat → Bool) {N i : Nat} (h : i < N) : (fillB g N i).set i (g i) = fillB g N (i + 1) := by
  apply List.ext_getElem
  · simp
  · intro j h1 h2
    rw [List.getElem_set]
    by_cases e : i = j
    · subst e; simp [fillB]
    · rw [if_neg e]
      simp only [fillB, List.getElem_map, List.getElem_range]
      by_cases e2 : j < i
      · rw [if_pos e2, if_pos (by omega)]
      · rw [if_neg e2, if_neg (by omega)]
def insS (n m : Int) (N : Nat) (T : List Bool) : List Bool := (List.range N).map fun (i : Nat) => T.getD (markAt n m 2 i 0) false
def saysQ (o : Obj) (ops : List Op5) (T : List Bool) : Option (List Int) → Option (List Int) → Bool
  | some order, some row => (agS order (pairsTo ops ops.length)).2 && decide (playS o ops order (insS ops.length o.st ops.length T) = some row)
  | _, _ => false
def saysS (o : Obj) (ops : List Op5) (T : List Bool) : Bool := decide (failE o ops = 0) && saysQ o ops T (ordS ops.length o.st T) (rowQ ops.length o.st T)
theorem varI {N : Nat} {m : Int} {T : List Bool} (hc : sizeOk N m = true) (ht : (T.length : Int) = varsN N m) {a : Nat} (ha : a < N) : ∃ x : Nat, varS N m 2 a 0 = (x : Int) + 1 ∧ x < T.length ∧ T.getD (markAt N m 2 a 0) false = T.getD x false ∧ markAt N m 2 a 0 = x := by
  have hvo : varOk N m 2 a 0 = true := varOk_iff.2 ⟨hc, by decide, by decide, by omega, by simp [blockTall]; omega, by omega, by simp [blockWide]⟩
  obtain ⟨m1, m2⟩ := mark_in hvo
  exact ⟨markAt N m 2 a 0, m1, by omega, rfl, rfl⟩
theorem ordS_ok {n m : Int} {T : List Bool} {l : List Int} (h : ordS n m T = some l) : sizeOk n m = true ∧ (T.length : Int) = varsN n m ∧ IsOrd (fP n m T) n.toNat l := by
  unfold ordS at h
  split at h
  · rename_i c
    obtain ⟨c1, c2⟩ := truOk_iff.1 c
    exact ⟨c1, c2, ordO_is h⟩
  · cases h
theorem rowQ_ok {n m : Int} {T : List Bool} {l : List Int} (h : rowQ n m T = some l) : sizeOk n m = true ∧ (T.length : Int) = varsN n m ∧ IsRow (fS n m T) (n.toNat + 1) m.toNat l := by
  unfold rowQ at h
  split at h
  · rename_i c
    obtain ⟨c1, c2⟩ := truOk_iff.1 c
    exact ⟨c1, c2, rowO_is h⟩
  · cases h
set_option maxRecDepth 16000 in
theorem says_ok (o : Obj) (ops : List Op5) (T : List Bool) (hr : objR o) (hl : o.rows.length ≤ 140737488355328) (hl2 : ops.length ≤ 1000000) (hT : T.length ≤ 1000000) : APure Tryz.prog 14 [robj o, ovec ops, .seq false 1 (brow T)] (fun r => r = .pv (BL (saysS o ops T))) := by
  refine apure1 hmo Tryz.func14 (by kernel_rfl) rfl rfl (by kernel_rfl) (Nat.le_of_ble_eq_true rfl) ?_
  have h1 := sizeE_ok o ops hl (by omega)
  simp only [robj, ovec] at h1
  by_cases c : failE o ops = 0
  rotate_left
  · have hS : saysS o ops T = false := by unfold saysS; rw [decide_eq_false c, Bool.false_and]
    simp [robj, ovec]
    refine CallK.intro h1 (by simp) ?_
    simp [c, hS]
  obtain ⟨_, _, h64, hP, hE, hc⟩ := failE_zero hr c
  have hS : saysS o ops T = saysQ o ops T (ordS ops.length o.st T) (rowQ ops.length o.st T) := by unfold saysS; rw [decide_eq_true c, Bool.true_and]
  rw [hE, c] at h1
  rw [hS]
  have h2 := placesOrd_ok ops.length o.st T hT
  have h3 := statesRow_ok ops.length o.st T hT
  have hpl := fun order inn => playM_ok o ops order inn hl (by omega)
  simp only [robj, ovec] at hpl
  simp [robj, ovec]
  refine CallK.intro h1 (by simp) ?_
  simp
  cases ho : ordS ops.length o.st T with
  | none =>
    rw [ho] at h2
    simp only [playPV] at h2
    refine CallK.intro h2 (by simp) ?_
    simp
    cases hw : rowQ ops.length o.st T with
    | none =>
      rw [hw] at h3
      simp only [playPV] at h3
      refine CallK.intro h3 (by simp) ?_
      simp [saysQ]
    | some row =>
      rw [hw] at h3
      simp only [playPV] at h3
      refine CallK.intro h3 (by simp) ?_
      simp [saysQ]
  | some order =>
  obtain ⟨_, ht, hio⟩ := ordS_ok ho
  rw [ho] at h2
  simp only [playPV] at h2
  refine CallK.intro h2 (by simp) ?_
  simp
  cases hw : rowQ ops.length o.st T with
  | none =>
    rw [hw] at h3
    simp only [playPV] at h3
    refine CallK.intro h3 (by simp) ?_
    simp [saysQ]
  | some row =>
  obtain ⟨_, _, hir⟩ := rowQ_ok hw
  rw [hw] at h3
  simp only [playPV] at h3
  refine CallK.intro h3 (by simp) ?_
  simp
  refine ⟨by omega, ?_⟩
  have hvi := fun (a : Nat) (ha : a < ops.length) => varI hc ht ha
  have hfill := fillB_all (fun (i : Nat) => T.getD (markAt ops.length o.st 2 i 0) false) ops.length
  have hrl : row.length = ops.length + 1 := hir.1
  have hol : order.length = ops.length := hio.1
  have hQ : saysQ o ops T (some order) (some row) = ((agS order (pairsTo ops ops.length)).2 && decide (playS o ops order (insS ops.length o.st ops.length T) = some row)) := rfl
  have hins : insS ops.length o.st ops.length T = (List.range ops.length).map fun (i : Nat) => T.getD (markAt ops.length o.st 2 i 0) false := rfl
  generalize hg : (fun (i : Nat) => T.getD (markAt ops.length o.st 2 i 0) false) = g at *
  rw [← hfill] at hins
  refine ALoop.intro (S := fun (i : Nat) => ⟨[(1, .pv (.seq false 5 (ops.map orow))), (2, .pv (.seq false 1 (brow T))), (3, .pv (.ptr 0 0)), (7, .pv (.ptr 1 0)), (9, .pv (.seq true 1 (irow order))), (11, .pv (.seq true 1 (irow row))), (13, .own true 1 (brow (fillB g ops.length i))), (50, .pv (I64 ops.length)), (51, .pv (I64 i))], [[.pv (I64 o.st), .pv (I64 o.kd), .pv (I64 o.ini), .pv (.seq false 4 (o.rows.map rrow))], [.pv (I64 ops.length), .pv (I64 o.st)]]⟩) (fun i => i ≤ ops.length) (fun i => ops.length - i) 0 ?_ (Nat.zero_le _) ?_
  · exact Weak.to (by simp [fillB_zero]; simp [brow]) (by simp) (by simp) (by simp) (by simp)
  intro i hi
  by_cases h : i < ops.length
  · have hw1 : w64 ((i : Int) + 1) = ((i + 1 : Nat) : Int) := by rw [w64_id (by omega) (by omega)]; omega
    obtain ⟨x, hx1, hx2, hx3, hx4⟩ := hvi i h
    have hva := var_ok ops.length o.st 2 i 0
    rw [hx1] at hva
    obtain ⟨v1, v2, v3, v4, v5⟩ := varsN_eq hc
    have hwx : w64 (x : Int) = (x : Int) := w64_id (by omega) (by omega)
    have hTx : T.getD x false = T[x] := by rw [List.getD_eq_getElem?_getD, List.getElem?_eq_getElem hx2]; rfl
    have hgi : g i = T[x] := by rw [← hg]; exact hx3.trans hTx
    have hset := fillB_set g h
    have hget := fillB_get g h
    rw [hgi] at hset
    simp [h]
    refine CallK.intro hva (by simp) ?_
    simp [h, hwx, hx2, hget]
    exact ⟨i + 1, by (try dsimp only); omega, by (try dsimp only); omega, Weak.to (by simp [hw1, hget, brow_set, hset]) (by simp) (by simp) (by simp) (by simp)⟩
  have hie : i = ops.length := by omega
  subst hie
  rw [← hins] at *
  simp
  generalize insS ops.length o.st ops.length T = inn at *
  have hp := hpl order inn
  have hpr := pairs_ok ops hl2
  have hpln := pairsTo_length ops ops.length
  have hsq : ops.length * ops.length ≤ 64 * 64 := Nat.mul_le_mul h64 h64
  have hag := ag_ok order (pairsTo ops ops.length) (by omega) (by omega)
  simp only [ovec] at hpr
  generalize pairsTo ops ops.length = ps at *
  cases hy : playS o ops order inn with
  | none =>
    rw [hy] at hp
    simp only [playPV] at hp
    refine CallK.intro hp (by simp) ?_
    simp
    refine CallK.intro hpr (by simp) ?_
    simp
    refine CallK.intro hag (by simp) ?_
    simp [hQ, hy]
  | some pl =>
  have hyl := playTo_len_ok hy
  rw [hy] at hp
  simp only [playPV] at hp
  refine CallK.intro hp (by simp) ?_
  simp
  refine CallK.intro hpr (by simp) ?_
  simp
  refine CallK.intro hag (by simp) ?_
  rw [hQ, hy]
  cases hf : (agS order ps).2
  · simp [hf]
  simp [hf]
  refine ALoop.intro (S := fun (k : Nat) => ⟨[(11, .pv (.seq true 1 (irow row))), (15, .pv (.seq true 1 (irow pl))), (87, .pv (.seq true 1 (irow row))), (88, .pv (I64 row.length)), (89, .pv (I64 k))], [[.pv (I64 o.st), .pv (I64 o.kd), .pv (I64 o.ini), .pv (.seq false 4 (o.rows.map rrow))], [.pv (I64 ops.length), .pv (I64 o.st)]]⟩) (fun k => k ≤ row.length ∧ ∀ j (hj : j < row.length), j < k → row[j] = pl[j]'(by omega)) (fun k => row.length - k) 0 ?_ ⟨Nat.zero_le _, fun j _ hj => absurd hj (Nat.not_lt_zero _)⟩ ?_
  · exact Weak.to (by simp) (by simp) (by simp) (by simp) (by simp)
  rintro k ⟨hk, hall⟩
  by_cases hkl : k < row.length
  · have hw1 : w64 ((k : Int) + 1) = ((k + 1 : Nat) : Int) := by rw [w64_id (by omega) (by omega)]; omega
    have hkp : k < pl.length := by omega
    by_cases e : row[k] = pl[k]
    · simp [hkl, hkp, e]
      refine ⟨k + 1, by (try dsimp only); omega, ⟨by (try dsimp only); omega, fun j hj hjk => ?_⟩, Weak.to (by simp [hw1]) (by simp) (by simp) (by simp) (by simp)⟩
      by_cases e1 : j = k
      · subst e1; exact e
      · exact hall j hj (by omega)
    · have hne : ¬ pl = row := fun hh => e (by subst hh; rfl)
      simp [hkl, hkp, e, hne]
  · have heq : pl = row := (eq_of_get (by omega) fun j h1 => hall j h1 (by omega)).symm
    simp [hkl, heq]
end Go.AX

namespace Go.AX
open Go.Proofs
set_option linter.unusedSimpArgs false

theorem results_tmpZ {P : Program} {fn : Func} (hr : fn.results = #[]) (tmps : Array Value) (w : World) : (results fn tmps).run P w = .ok (.tuple (([] : List Nat).map fun t => tmps.getD t undef).toArray) w := by
  simp [results, hr]
def thr (N : Nat) (out : List Int) : List Bool := (List.range N).map fun (j : Nat) => decide ((j : Int) ∈ out)
@[simp] theorem thr_length (N : Nat) (out : List Int) : (thr N out).length = N := by simp [thr]
theorem thr_at {N x : Nat} (out : List Int) (h : x < N) : (thr N out)[x]'(by simpa using h) = decide ((x : Int) ∈ out) := by simp [thr]
theorem thr_set {N x : Nat} (out : List Int) (h : x < N) : (thr N out).set x true = thr N (out ++ [(x : Int)]) := by
  apply List.ext_getElem
  · simp
  · intro j h1 h2
    rw [List.getElem_set]
    by_cases e : x = j
    · subst e; simp [thr]
    · rw [if_neg e]
      have h3 : ¬ (j : Int) = (x : Int) := by omega
      simp [thr, h3]
theorem thr_nil (N : Nat) : brow (thr N []) = List.replicate N [BL false] := by
  have : thr N [] = List.replicate N false := by
    apply List.ext_getElem
    · simp
    · intro j h1 h2
      simp [thr]
  rw [this]
  simp [brow]
theorem orderTo_snoc (N : Nat) (out l : List Int) (x : Int) : orderTo N out (l ++ [x]) = putO N (orderTo N out l) x := by unfold orderTo; rw [List.foldl_append]; rfl
def natsI (i : Nat) : List Int := (List.range i).map Int.ofNat
theorem natsI_succ (i : Nat) : natsI (i + 1) = natsI i ++ [(i : Int)] := by unfold natsI; rw [List.range_succ, List.map_append]; rfl
theorem natsI_mem {i : Nat} {x : Int} : x ∈ natsI i ↔ 0 ≤ x ∧ x < i := by
  unfold natsI
  rw [List.mem_map]
  constructor
  · rintro ⟨a, ha, rfl⟩
    have := List.mem_range.1 ha
    simp
    omega
  · rintro ⟨h1, h2⟩
    exact ⟨x.toNat, List.mem_range.2 (by omega), by simp; omega⟩
theorem natsI_len (i : Nat) : (natsI i).length = i := by simp [natsI]
theorem pos_is {l : List Int} {k : Nat} (hk : k < l.length) : posS l l[k] = (k : Int) ↔ l[k] ∉ l.take k := by
  have h1 := pos_take (l := l) (x := l[k]) (i := k)
  have h2 := pos_take (l := l) (x := l[k]) (i := k + 1)
  have hm : l[k] ∈ l.take (k + 1) := List.mem_take_iff_getElem.2 ⟨k, by omega, rfl⟩
  have h3 : ¬ (posS l l[k] < 0 ∨ ((k + 1 : Nat) : Int) ≤ posS l l[k]) := fun hh => h2.1 hh hm
  rw [← h1]
  omega
theorem putO_yes {n : Nat} {out : List Int} {i : Int} (h : 0 ≤ i ∧ i < n) (hn : i ∉ out) : putO n out i = out ++ [i] := by unfold putO; rw [if_pos ⟨h, hn⟩]
theorem putO_no {n : Nat} {out : List Int} {i : Int} (h : (0 ≤ i ∧ i < n) → i ∈ out) : putO n out i = out := by unfold putO; rw [if_neg (fun hh => hh.2 (h hh.1))]
end Go.AX

namespace Go.AX
open Go.Proofs
set_option linter.unusedSimpArgs false

def moveR (o : Obj) (s k : Int) : Int := match moveS o s k with | some q => q.2 | none => 0
def pickAt (o : Obj) (ops : List Op5) (order row : List Int) (k : Nat) : Int × Int := (order.getD k 0, moveR o (row.getD k 0) (ops.getD (order.getD k 0).toNat default).k)
def decTo (o : Obj) (ops : List Op5) (order row : List Int) (inn : List Bool) : Nat → List (Int × Int)
  | 0 => []
  | k + 1 => decTo o ops order row inn k ++ (if inn.getD (order.getD k 0).toNat false = true then [pickAt o ops order row k] else [])
theorem decTo_len (o : Obj) (ops : List Op5) (order row : List Int) (inn : List Bool) : ∀ k, (decTo o ops order row inn k).length ≤ k
  | 0 => Nat.le_refl _
  | k + 1 => by
    have := decTo_len o ops order row inn k
    rw [decTo, List.length_append]
    split <;> simp <;> omega
def decL (o : Obj) (ops : List Op5) (T : List Bool) : List (Int × Int) := match ordS ops.length o.st T, rowQ ops.length o.st T with
  | some order, some row => decTo o ops order row (insS ops.length o.st ops.length T) order.length
  | _, _ => []
def decE (o : Obj) (ops : List Op5) (T : List Bool) : Int := if failE o ops ≠ 0 then failE o ops else if saysS o ops T then 0 else 5
def decPV (o : Obj) (ops : List Op5) (T : List Bool) : PV := .tup [if decE o ops T = 0 then .seq true 2 ((decL o ops T).map prow) else .lit (.slice none 0 0), I64 (decE o ops T)]
theorem says_some {o : Obj} {ops : List Op5} {T : List Bool} (h : saysS o ops T = true) : failE o ops = 0 ∧ ∃ order row, ordS ops.length o.st T = some order ∧ rowQ ops.length o.st T = some row ∧ (agS order (pairsTo ops ops.length)).2 = true ∧ playS o ops order (insS ops.length o.st ops.length T) = some row := by
  unfold saysS at h
  simp only [Bool.and_eq_true, decide_eq_true_eq] at h
  obtain ⟨h1, h2⟩ := h
  refine ⟨h1, ?_⟩
  cases ho : ordS ops.length o.st T with
  | none => rw [ho] at h2; simp [saysQ] at h2
  | some order =>
    cases hw : rowQ ops.length o.st T with
    | none => rw [ho, hw] at h2; simp [saysQ] at h2
    | some row =>
      rw [ho, hw] at h2
      simp only [saysQ, Bool.and_eq_true, decide_eq_true_eq] at h2
      exact ⟨order, row, rfl, rfl, h2.1, h2.2⟩
def decH (o : Obj) (ops : List Op5) (row : List Int) (out : List (Int × Int)) : List (List SV) := [[.pv (I64 o.st), .pv (I64 o.kd), .pv (I64 o.ini), .pv (.seq false 4 (o.rows.map rrow))], [.pv (.seq false 5 (ops.map orow))], [.pv (I64 ops.length), .pv (I64 o.st)], [.pv (.seq true 1 (irow row))], [.own true 2 (out.map prow)]]
end Go.AX
