/-
  Contracts: how glued literals are; whether a clause is a reason.
  Contracts: the probe of the layer glue.
  The law's contract: GlueRows.
-/
import Derived.Test.YtjhchangnkmedaaS6AxDkC
import Derived.Test.YtjhchangnkmedaaS6AxGlD
namespace Go.AX
open Go.Proofs
set_option linter.unusedSimpArgs false

/-- How often each level is met. -/
def lvTo (T : Tr) (l : List Int) : Nat → List (Int × Int)
  | 0 => []
  | i + 1 => if 0 < (ofT T (litV (l.getD i 0))).1.lev then pt (lvTo T l i) (ofT T (litV (l.getD i 0))).1.lev (w64 ((lk (lvTo T l i) (ofT T (litV (l.getD i 0))).1.lev).getD 0 + 1)) else lvTo T l i
def glN (T : Tr) (l : List Int) : Int := ((lvTo T l l.length).length : Int)
set_option maxRecDepth 8000 in
theorem glueOf_ok (T : Tr) (ht : T.ok) (l : List Int) (hl : l.length ≤ 1000000) : APure Try.prog 23 [trP T, .seq false 1 (irow l)] (fun r => r = .pv (I64 (glN T l))) := by
  refine apure1 hmo Try.func23 (by kernel_rfl) rfl rfl (by kernel_rfl) (Nat.le_of_ble_eq_true rfl) ?_
  have hlv := fun v => tlevel_ok T v ht
  simp only [trP, trR] at hlv
  simp [trP, trR]
  refine ALoop.intro (S := fun (i : Nat) => ⟨[(0, .pv (trP T)), (5, .omap true (mapE fI (lvTo T l i))), (12, .pv (.seq false 1 (irow l))), (13, .pv (I64 l.length)), (14, .pv (I64 i))], []⟩) (fun i => i ≤ l.length) (fun i => l.length - i) 0 ?_ (Nat.zero_le _) ?_
  · exact Weak.to (by simp [lvTo, trP, trR, mapE]) rfl (by simp) (by simp [trP, trR]) (by simp)
  intro i hi
  by_cases ci : i < l.length
  · have hw2 : w64 ((i : Int) + 1) = ((i + 1 : Nat) : Int) := by rw [w64_id (by omega) (by omega)]; omega
    have hgi : l.getD i 0 = l[i] := by rw [List.getD_eq_getElem?_getD, List.getElem?_eq_getElem ci]; rfl
    have hN : lvTo T l (i + 1) = if 0 < (ofT T (litV l[i])).1.lev then pt (lvTo T l i) (ofT T (litV l[i])).1.lev (w64 ((lk (lvTo T l i) (ofT T (litV l[i])).1.lev).getD 0 + 1)) else lvTo T l i := by rw [lvTo, hgi]
    simp [ci, trR]
    refine CallK.intro (litVar_ok l[i]) (by simp) ?_
    simp [trR]
    refine CallK.intro (hlv (litV l[i])) (by simp) ?_
    generalize (ofT T (litV l[i])).1.lev = n at *
    by_cases cn : 0 < n
    · rw [if_pos cn] at hN
      simp [cn]
      exact ⟨i + 1, by dsimp only; omega, by dsimp only; omega, Weak.to (by simp [hw2, hN, trP, trR]) rfl (by simp) (by simp [trP, trR]) (by simp)⟩
    · rw [if_neg cn] at hN
      simp [cn]
      exact ⟨i + 1, by dsimp only; omega, by dsimp only; omega, Weak.to (by simp [hw2, hN, trP, trR]) rfl (by simp) (by simp [trP, trR]) (by simp)⟩
  · have : i = l.length := by omega
    subst this
    simp [glN, mapE]
theorem glueOfN_ok (l : List Int) : APure Try.prog 23 [.lit (.pointer none), .seq false 1 (irow l)] (fun r => r = .pv (I64 0)) := by
  refine apure1 hmo Try.func23 (by kernel_rfl) rfl rfl (by kernel_rfl) (Nat.le_of_ble_eq_true rfl) ?_
  simp
theorem tdepth_ok (T : Tr) : APure Try.prog 24 [trP T] (fun r => r = .pv (I64 T.beg.length)) := by
  refine apure1 hmo Try.func24 (by kernel_rfl) rfl rfl (by kernel_rfl) (Nat.le_of_ble_eq_true rfl) ?_
  have hi := tis_ok T
  simp only [trP, trR] at hi
  simp [trP, trR]
  refine CallK.intro hi (by simp) ?_
  simp
/-- Does a literal hold by a reason? -/
def lockP (T : Tr) (at' l : Int) : Bool := decide (0 < valT T l) && decide ((ofT T (litV l)).1.rea = at')
def lockS (T : Tr) (at' : Int) (l : List Int) : Bool := l.any (lockP T at')
set_option maxRecDepth 8000 in
theorem locked1_ok (T : Tr) (ht : T.ok) (at' l : Int) : APure Try.prog 91 [I64 l, .iptr 1 [[trP T]] 0 0, .iptr 1 [[I64 at']] 0 0] (fun r => r = .pv (BL (lockP T at' l))) := by
  refine apure1 hmo Try.func91 (by kernel_rfl) rfl rfl (by kernel_rfl) (Nat.le_of_ble_eq_true rfl) ?_
  have hv := tvalue_ok T l ht
  have hr := treason_ok T (litV l) ht
  simp only [trP, trR] at hv hr
  simp [trP, trR]
  refine CallQ0.intro hv (by simp) ?_
  unfold lockP
  by_cases c : 0 < valT T l
  · simp [c, trR]
    refine CallQ.intro (r := .pv (I64 (litV l))) (fun _ => litVar_ok l) (by simp) ?_
    simp [c, trR]
    refine CallQ.intro (r := .pv (I64 (ofT T (litV l)).1.rea)) (fun _ => hr) (by simp) ?_
    simp
  · simp [c, trR]
    refine CallQ.intro (r := .pv (I64 (litV l))) (fun _ => litVar_ok l) (by simp) ?_
    simp [c, trR]
    refine CallQ.intro (r := .pv (I64 (ofT T (litV l)).1.rea)) (fun _ => hr) (by simp) ?_
    simp
set_option maxRecDepth 8000 in
theorem locked_ok (T : Tr) (ht : T.ok) (at' : Int) (l : List Int) (hl : l.length ≤ 1000000) : APure Try.prog 56 [trP T, I64 at', .seq false 1 (irow l)] (fun r => r = .pv (BL (lockS T at' l))) := by
  refine apure1 hmo Try.func56 (by kernel_rfl) rfl rfl (by kernel_rfl) (Nat.le_of_ble_eq_true rfl) ?_
  have hc := containsF_ok l hl 91 [.iptr 1 [[trP T]] 0 0, .iptr 1 [[I64 at']] 0 0] (lockP T at') (fun r => by simp [trP, trR]) rfl (fun k => by simp [trP, trR]) (fun x _ => locked1_ok T ht at' x)
  simp only [trP, trR] at hc
  simp [trP, trR, frzP]
  refine CallG.intro (r := .pv (BL (lockS T at' l))) (fun _ => hc) (by simp) ?_
  simp
theorem lockedN_ok (at' : Int) (l : List Int) : APure Try.prog 56 [.lit (.pointer none), I64 at', .seq false 1 (irow l)] (fun r => r = .pv (BL false)) := by
  refine apure1 hmo Try.func56 (by kernel_rfl) rfl rfl (by kernel_rfl) (Nat.le_of_ble_eq_true rfl) ?_
  simp
  refine CallG.intro (r := .pv (BL false)) (fun h => h.elim) (by simp) ?_
  simp
theorem grows_ok : APure Try.prog 55 [] (fun r => r = .own true 4 ([⟨1, 5, 0, false⟩, ⟨2, 4, 0, false⟩, ⟨3, 3, 0, false⟩, ⟨4, 2, 0, false⟩].map grR)) := by
  refine apure1 hmo Try.func55 (by kernel_rfl) rfl rfl (by kernel_rfl) (Nat.le_of_ble_eq_true rfl) ?_
  simp [grR]
end Go.AX

namespace Go.AX
open Go.Proofs
set_option linter.unusedSimpArgs false

def glD : DK := setS [[-1, 2]] [1, 3]
theorem glD_of : glN glD.T [-1, -2, -3] = 2 := by kernel_rfl
theorem glD_lock : lockS glD.T 0 [-1, 2] = true := by kernel_rfl
theorem glD_lock2 : lockS glD.T 0 [-1] = false := by kernel_rfl
def glRows : List Gr := [⟨1, 5, 0, false⟩, ⟨2, 4, 0, false⟩, ⟨3, 3, 0, false⟩, ⟨4, 2, 0, false⟩]
theorem glForg : forgS glRows 3 = [1, 2] := by rw [refForg_is]; kernel_rfl
theorem glForg2 : forgS glRows 4 = [] := by rw [refForg_is]; kernel_rfl
theorem glW1 : worS ⟨1, 5, 0, false⟩ ⟨2, 4, 0, false⟩ = true := by decide
theorem glW2 : worS ⟨2, 4, 0, false⟩ ⟨1, 5, 0, false⟩ = false := by decide
set_option maxRecDepth 16000 in
theorem glAwake_ok : APure Try.prog 22 [] (fun r => r = .pv (BL true)) := by
  refine apure1 hmo Try.func22 (by kernel_rfl) rfl rfl (by kernel_rfl) (Nat.le_of_ble_eq_true rfl) ?_
  have hset := dset_ok [] [[-1, 2]] [1, 3] ⟨by decide, by decide⟩ (by decide)
  have ht : (setS [[-1, 2]] [1, 3]).T.ok := (setS_rel _ _).1.okT
  have e1 := glD_of
  have e2 := glD_lock
  have e3 := glD_lock2
  unfold glD at e1 e2 e3
  generalize setS [[-1, 2]] [1, 3] = D at *
  have f1 := forget_ok glRows (by decide) 3
  have f2 := forget_ok glRows (by decide) 4
  rw [glForg] at f1
  rw [glForg2] at f2
  have w1 := worse_ok ⟨1, 5, 0, false⟩ ⟨2, 4, 0, false⟩
  have w2 := worse_ok ⟨2, 4, 0, false⟩ ⟨1, 5, 0, false⟩
  rw [glW1] at w1
  rw [glW2] at w2
  have g1 := glueOf_ok D.T ht [-1, -2, -3] (by decide)
  have g2 := locked_ok D.T ht 0 [-1, 2] (by decide)
  have g3 := locked_ok D.T ht 0 [-1] (by decide)
  rw [e1] at g1
  rw [e2] at g2
  rw [e3] at g3
  have hS := sameInts_ok [1, 2] [1, 2] (by decide)
  have hf : ∀ a b c d, frzP [a, b, c, trB D.T, d] 3 3 0 = trP D.T := fun a b c d => frz_tr0 rfl 2
  simp
  refine CallK.introE hset (by simp) rfl (by simp) (by simp) (by simp [wkAL, wkA, wkRR, wkPL, wkP, irow, crowF]) ?_
  rintro _ _ ⟨rfl, rfl⟩
  simp [dkA, dkB]
  refine CallQ0.intro grows_ok (by simp [grR]) ?_
  simp
  refine CallQ0.intro f1 (by simp) ?_
  simp
  refine CallQ0.intro hS (by simp) ?_
  simp
  refine CallQ.intro (fun _ => grows_ok) (by simp [grR]) ?_
  simp
  refine CallQ.intro (fun _ => f2) (by simp [irow]) ?_
  simp
  refine CallQ.intro (fun _ => grows_ok) (by simp [grR]) ?_
  simp [grR]
  refine CallQ.intro (fun _ => grows_ok) (by simp [grR]) ?_
  simp [grR]
  refine CallQ.intro (fun _ => w1) (by simp) ?_
  simp [grR]
  refine CallQ.intro (fun _ => grows_ok) (by simp [grR]) ?_
  simp [grR]
  refine CallQ.intro (fun _ => grows_ok) (by simp [grR]) ?_
  simp [grR]
  refine CallQ.intro (fun _ => w2) (by simp) ?_
  simp [grR]
  rw [hf]
  refine CallQ.intro (fun _ => g1) (by simp) ?_
  simp [grR]
  rw [hf]
  refine CallQ.intro (fun _ => g2) (by simp) ?_
  simp [grR]
  rw [hf]
  refine CallQ.intro (fun _ => g3) (by simp) ?_
  simp [grR]
  refine CallQ.intro (fun _ => glueOfN_ok [1]) (by simp) ?_
  simp [grR]
  refine CallQ.intro (fun _ => lockedN_ok 0 [1]) (by simp) ?_
  simp
end Go.AX

namespace Go.AX
open Go.Proofs
set_option linter.unusedSimpArgs false

set_option maxRecDepth 16000 in
theorem glueRows_ok (l : List Gr) (keep : Int) : APure Try.prog 7 [.seq false 4 (l.map grR), I64 keep] (fun r => r = .pv (.lit (.bool true))) := by
  refine apure1 hmo Try.func7 (by kernel_rfl) rfl rfl (by kernel_rfl) (Nat.le_of_ble_eq_true rfl) ?_
  by_cases c : (60 : Int) < l.length
  · simp [c]
    refine CallK.intro glAwake_ok (by simp) ?_
    simp
  simp [c]
  refine ALoop.intro (S := fun (i : Nat) => ⟨[(0, .pv (.seq false 4 (l.map grR))), (1, .pv (I64 keep)), (5, .own true 4 ((l.take i).map grR)), (6, .pv (I64 i))], []⟩) (fun i => i ≤ l.length) (fun i => l.length - i) 0 ?_ (Nat.zero_le _) ?_
  · exact (Weak.nilOwn (s := 5) 4 true (by simp)).trans (Weak.to (by simp) rfl (by simp) (by simp) (by simp))
  intro i hi
  by_cases ci : i < l.length
  · have hw2 : w64 ((i : Int) + 1) = ((i + 1 : Nat) : Int) := by rw [w64_id (by omega) (by omega)]; omega
    have hsn : List.take i (l.map grR) ++ [grR l[i]] = List.take (i + 1) (l.map grR) := by
      rw [List.take_add_one, List.getElem?_map, List.getElem?_eq_getElem ci]; rfl
    have hbl : ∀ k, belowR 0 (List.take k (List.map grR l)) := fun k => by rw [← List.map_take]; exact belowR_grR 0 _
    by_cases c0 : i = 0
    · subst c0
      have hw0 : w64 1 = 1 := by decide
      simp only [List.take_zero, List.nil_append] at hsn
      simp only [grR] at hsn
      simp [ci, grR, hsn]
      refine ⟨by omega, CallQ.intro (r := .pv (BL false)) (fun h : False => h.elim) (by simp) ?_⟩
      simp
      refine CallQ.intro (r := .pv (BL false)) (fun h : False => h.elim) (by simp) ?_
      simp
      exact ⟨1, by dsimp only; omega, by dsimp only; omega, Weak.to (by simp [hw0, hsn, grR]) rfl (by simp) (by simp [hbl]) (by simp)⟩
    · obtain ⟨j, hji⟩ : ∃ j, i = j + 1 := ⟨i - 1, by omega⟩
      have hw1 : w64 ((i : Int) - 1) = (j : Int) := by rw [w64_id (by omega) (by omega)]; omega
      have hj : j < l.length := by omega
      have hpos : 0 < i := by omega
      simp only [grR] at hsn
      have w := worse_ok l[i] l[j]
      have w' := refWorse_ok l[i] l[j]
      simp only [grR] at w w'
      simp [ci, grR, hsn, hw1, hj, hpos]
      have hgi : (List.take (i + 1) (List.map grR l))[i]? = some [I64 l[i].at', I64 l[i].gl, I64 l[i].wi, BL l[i].lo] := by
        rw [List.getElem?_take, if_pos (by omega), List.getElem?_map, List.getElem?_eq_getElem ci]; rfl
      have hgj : (List.take (i + 1) (List.map grR l))[j]? = some [I64 l[j].at', I64 l[j].gl, I64 l[j].wi, BL l[j].lo] := by
        rw [List.getElem?_take, if_pos (by omega), List.getElem?_map, List.getElem?_eq_getElem hj]; rfl
      refine ⟨by omega, CallQ.intro (r := .pv (BL (worS l[i] l[j]))) (fun _ => w) (by simp) ?_⟩
      simp [hw1, hgi, hgj, ci, hj]
      refine ⟨by omega, by omega, ?_⟩
      refine CallQ.intro (r := .pv (BL (worS l[i] l[j]))) (fun _ => w') (by simp) ?_
      simp
      exact ⟨i + 1, by dsimp only; omega, by dsimp only; omega, Weak.to (by simp [hw2, hsn, grR]) rfl (by simp) (by simp [hbl]) (by simp)⟩
  · have : i = l.length := by omega
    subst this
    rw [List.take_length]
    have h60 : l.length ≤ 60 := by omega
    simp
    refine CallK.intro (forget_ok l (by omega) keep) (by simp) ?_
    simp
    refine CallK.intro (refForget_ok l (by omega) keep) (by simp) ?_
    have hfl : (forgS l keep).length ≤ 1000000 := by
      unfold forgS
      split
      · simp
      · unfold sortI; rw [List.length_mergeSort, List.length_map]
        have := List.length_take_le (l.length / 2) (sort3 (mayG l))
        omega
    simp
    refine CallK.intro (sameInts_ok (forgS l keep) (refForg l keep) (by omega)) (by simp) ?_
    simp [refForg_is]
    refine CallG.intro (fun _ => glAwake_ok) (by simp) ?_
    simp
end Go.AX
