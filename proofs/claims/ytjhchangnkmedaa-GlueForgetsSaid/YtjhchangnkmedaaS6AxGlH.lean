/-
  Contracts: how glued literals are; whether a clause is a reason.
  Contracts: the probe of the layer glue.
  The law's contract: GlueForgets.
-/
import Derived.Test.YtjhchangnkmedaaS6AxDkC
import Derived.Test.YtjhchangnkmedaaS6AxGlD
namespace Go.AX
open Go.Proofs
set_option linter.unusedSimpArgs false

/-- How often each level is met. -/
def lvTo (T : Tr) (l : List Int) : Nat → List (Int × Int)
  | 0 => []
  | i + 1 => if 0 < (ofT T (litV (l.getD i 0))).1.lev then pt (lvTo T l i) (ofT T (litV (l.getD i 0))).1.lev (w64 ((lk (lvTo T l i) (ofT T (litV (l.getD i 0))).1.lev).getD 0 + 1)) else lvTo T l i
def glN (T : Tr) (l : List Int) : Int := ((lvTo T l l.length).length : Int)
set_option maxRecDepth 8000 in
theorem glueOf_ok (T : Tr) (ht : T.ok) (l : List Int) (hl : l.length ≤ 1000000) : APure Try.prog 23 [trP T, .seq false 1 (irow l)] (fun r => r = .pv (I64 (glN T l))) := by
  refine apure1 hmo Try.func23 (by kernel_rfl) rfl rfl (by kernel_rfl) (Nat.le_of_ble_eq_true rfl) ?_
  have hlv := fun v => tlevel_ok T v ht
  simp only [trP, trR] at hlv
  simp [trP, trR]
  refine ALoop.intro (S := fun (i : Nat) => ⟨[(0, .pv (trP T)), (5, .omap true (mapE fI (lvTo T l i))), (12, .pv (.seq false 1 (irow l))), (13, .pv (I64 l.length)), (14, .pv (I64 i))], []⟩) (fun i => i ≤ l.length) (fun i => l.length - i) 0 ?_ (Nat.zero_le _) ?_
  · exact Weak.to (by simp [lvTo, trP, trR, mapE]) rfl (by simp) (by simp [trP, trR]) (by simp)
  intro i hi
  by_cases ci : i < l.length
  · have hw2 : w64 ((i : Int) + 1) = ((i + 1 : Nat) : Int) := by rw [w64_id (by omega) (by omega)]; omega
    have hgi : l.getD i 0 = l[i] := by rw [List.getD_eq_getElem?_getD, List.getElem?_eq_getElem ci]; rfl
    have hN : lvTo T l (i + 1) = if 0 < (ofT T (litV l[i])).1.lev then pt (lvTo T l i) (ofT T (litV l[i])).1.lev (w64 ((lk (lvTo T l i) (ofT T (litV l[i])).1.lev).getD 0 + 1)) else lvTo T l i := by rw [lvTo, hgi]
    simp [ci, trR]
    refine CallK.intro (litVar_ok l[i]) (by simp) ?_
    simp [trR]
    refine CallK.intro (hlv (litV l[i])) (by simp) ?_
    generalize (ofT T (litV l[i])).1.lev = n at *
    by_cases cn : 0 < n
    · rw [if_pos cn] at hN
      simp [cn]
      exact ⟨i + 1, by dsimp only; omega, by dsimp only; omega, Weak.to (by simp [hw2, hN, trP, trR]) rfl (by simp) (by simp [trP, trR]) (by simp)⟩
    · rw [if_neg cn] at hN
      simp [cn]
      exact ⟨i + 1, by dsimp only; omega, by dsimp only; omega, Weak.to (by simp [hw2, hN, trP, trR]) rfl (by simp) (by simp [trP, trR]) (by simp)⟩
  · have : i = l.length := by omega
    subst this
    simp [glN, mapE]
theorem glueOfN_ok (l : List Int) : APure Try.prog 23 [.lit (.pointer none), .seq false 1 (irow l)] (fun r => r = .pv (I64 0)) := by
  refine apure1 hmo Try.func23 (by kernel_rfl) rfl rfl (by kernel_rfl) (Nat.le_of_ble_eq_true rfl) ?_
  simp
theorem tdepth_ok (T : Tr) : APure Try.prog 24 [trP T] (fun r => r = .pv (I64 T.beg.length)) := by
  refine apure1 hmo Try.func24 (by kernel_rfl) rfl rfl (by kernel_rfl) (Nat.le_of_ble_eq_true rfl) ?_
  have hi := tis_ok T
  simp only [trP, trR] at hi
  simp [trP, trR]
  refine CallK.intro hi (by simp) ?_
  simp
/-- Does a literal hold by a reason? -/
def lockP (T : Tr) (at' l : Int) : Bool := decide (0 < valT T l) && decide ((ofT T (litV l)).1.rea = at')
def lockS (T : Tr) (at' : Int) (l : List Int) : Bool := l.any (lockP T at')
set_option maxRecDepth 8000 in
theorem locked1_ok (T : Tr) (ht : T.ok) (at' l : Int) : APure Try.prog 91 [I64 l, .iptr 1 [[trP T]] 0 0, .iptr 1 [[I64 at']] 0 0] (fun r => r = .pv (BL (lockP T at' l))) := by
  refine apure1 hmo Try.func91 (by kernel_rfl) rfl rfl (by kernel_rfl) (Nat.le_of_ble_eq_true rfl) ?_
  have hv := tvalue_ok T l ht
  have hr := treason_ok T (litV l) ht
  simp only [trP, trR] at hv hr
  simp [trP, trR]
  refine CallQ0.intro hv (by simp) ?_
  unfold lockP
  by_cases c : 0 < valT T l
  · simp [c, trR]
    refine CallQ.intro (r := .pv (I64 (litV l))) (fun _ => litVar_ok l) (by simp) ?_
    simp [c, trR]
    refine CallQ.intro (r := .pv (I64 (ofT T (litV l)).1.rea)) (fun _ => hr) (by simp) ?_
    simp
  · simp [c, trR]
    refine CallQ.intro (r := .pv (I64 (litV l))) (fun _ => litVar_ok l) (by simp) ?_
    simp [c, trR]
    refine CallQ.intro (r := .pv (I64 (ofT T (litV l)).1.rea)) (fun _ => hr) (by simp) ?_
    simp
set_option maxRecDepth 8000 in
theorem locked_ok (T : Tr) (ht : T.ok) (at' : Int) (l : List Int) (hl : l.length ≤ 1000000) : APure Try.prog 56 [trP T, I64 at', .seq false 1 (irow l)] (fun r => r = .pv (BL (lockS T at' l))) := by
  refine apure1 hmo Try.func56 (by kernel_rfl) rfl rfl (by kernel_rfl) (Nat.le_of_ble_eq_true rfl) ?_
  have hc := containsF_ok l hl 91 [.iptr 1 [[trP T]] 0 0, .iptr 1 [[I64 at']] 0 0] (lockP T at') (fun r => by simp [trP, trR]) rfl (fun k => by simp [trP, trR]) (fun x _ => locked1_ok T ht at' x)
  simp only [trP, trR] at hc
  simp [trP, trR, frzP]
  refine CallG.intro (r := .pv (BL (lockS T at' l))) (fun _ => hc) (by simp) ?_
  simp
theorem lockedN_ok (at' : Int) (l : List Int) : APure Try.prog 56 [.lit (.pointer none), I64 at', .seq false 1 (irow l)] (fun r => r = .pv (BL false)) := by
  refine apure1 hmo Try.func56 (by kernel_rfl) rfl rfl (by kernel_rfl) (Nat.le_of_ble_eq_true rfl) ?_
  simp
  refine CallG.intro (r := .pv (BL false)) (fun h => h.elim) (by simp) ?_
  simp
theorem grows_ok : APure Try.prog 55 [] (fun r => r = .own true 4 ([⟨1, 5, 0, false⟩, ⟨2, 4, 0, false⟩, ⟨3, 3, 0, false⟩, ⟨4, 2, 0, false⟩].map grR)) := by
  refine apure1 hmo Try.func55 (by kernel_rfl) rfl rfl (by kernel_rfl) (Nat.le_of_ble_eq_true rfl) ?_
  simp [grR]
end Go.AX

namespace Go.AX
open Go.Proofs
set_option linter.unusedSimpArgs false

def glD : DK := setS [[-1, 2]] [1, 3]
theorem glD_of : glN glD.T [-1, -2, -3] = 2 := by kernel_rfl
theorem glD_lock : lockS glD.T 0 [-1, 2] = true := by kernel_rfl
theorem glD_lock2 : lockS glD.T 0 [-1] = false := by kernel_rfl
def glRows : List Gr := [⟨1, 5, 0, false⟩, ⟨2, 4, 0, false⟩, ⟨3, 3, 0, false⟩, ⟨4, 2, 0, false⟩]
theorem glForg : forgS glRows 3 = [1, 2] := by rw [refForg_is]; kernel_rfl
theorem glForg2 : forgS glRows 4 = [] := by rw [refForg_is]; kernel_rfl
theorem glW1 : worS ⟨1, 5, 0, false⟩ ⟨2, 4, 0, false⟩ = true := by decide
theorem glW2 : worS ⟨2, 4, 0, false⟩ ⟨1, 5, 0, false⟩ = false := by decide
set_option maxRecDepth 16000 in
theorem glAwake_ok : APure Try.prog 22 [] (fun r => r = .pv (BL true)) := by
  refine apure1 hmo Try.func22 (by kernel_rfl) rfl rfl (by kernel_rfl) (Nat.le_of_ble_eq_true rfl) ?_
  have hset := dset_ok [] [[-1, 2]] [1, 3] ⟨by decide, by decide⟩ (by decide)
  have ht : (setS [[-1, 2]] [1, 3]).T.ok := (setS_rel _ _).1.okT
  have e1 := glD_of
  have e2 := glD_lock
  have e3 := glD_lock2
  unfold glD at e1 e2 e3
  generalize setS [[-1, 2]] [1, 3] = D at *
  have f1 := forget_ok glRows (by decide) 3
  have f2 := forget_ok glRows (by decide) 4
  rw [glForg] at f1
  rw [glForg2] at f2
  have w1 := worse_ok ⟨1, 5, 0, false⟩ ⟨2, 4, 0, false⟩
  have w2 := worse_ok ⟨2, 4, 0, false⟩ ⟨1, 5, 0, false⟩
  rw [glW1] at w1
  rw [glW2] at w2
  have g1 := glueOf_ok D.T ht [-1, -2, -3] (by decide)
  have g2 := locked_ok D.T ht 0 [-1, 2] (by decide)
  have g3 := locked_ok D.T ht 0 [-1] (by decide)
  rw [e1] at g1
  rw [e2] at g2
  rw [e3] at g3
  have hS := sameInts_ok [1, 2] [1, 2] (by decide)
  have hf : ∀ a b c d, frzP [a, b, c, trB D.T, d] 3 3 0 = trP D.T := fun a b c d => frz_tr0 rfl 2
  simp
  refine CallK.introE hset (by simp) rfl (by simp) (by simp) (by simp [wkAL, wkA, wkRR, wkPL, wkP, irow, crowF]) ?_
  rintro _ _ ⟨rfl, rfl⟩
  simp [dkA, dkB]
  refine CallQ0.intro grows_ok (by simp [grR]) ?_
  simp
  refine CallQ0.intro f1 (by simp) ?_
  simp
  refine CallQ0.intro hS (by simp) ?_
  simp
  refine CallQ.intro (fun _ => grows_ok) (by simp [grR]) ?_
  simp
  refine CallQ.intro (fun _ => f2) (by simp [irow]) ?_
  simp
  refine CallQ.intro (fun _ => grows_ok) (by simp [grR]) ?_
  simp [grR]
  refine CallQ.intro (fun _ => grows_ok) (by simp [grR]) ?_
  simp [grR]
  refine CallQ.intro (fun _ => w1) (by simp) ?_
  simp [grR]
  refine CallQ.intro (fun _ => grows_ok) (by simp [grR]) ?_
  simp [grR]
  refine CallQ.intro (fun _ => grows_ok) (by simp [grR]) ?_
  simp [grR]
  refine CallQ.intro (fun _ => w2) (by simp) ?_
  simp [grR]
  rw [hf]
  refine CallQ.intro (fun _ => g1) (by simp) ?_
  simp [grR]
  rw [hf]
  refine CallQ.intro (fun _ => g2) (by simp) ?_
  simp [grR]
  rw [hf]
  refine CallQ.intro (fun _ => g3) (by simp) ?_
  simp [grR]
  refine CallQ.intro (fun _ => glueOfN_ok [1]) (by simp) ?_
  simp [grR]
  refine CallQ.intro (fun _ => lockedN_ok 0 [1]) (by simp) ?_
  simp
end Go.AX

namespace Go.AX
open Go.Proofs
set_option linter.unusedSimpArgs false

theorem forgS_mem {l : List Gr} {keep x : Int} : x ∈ forgS l keep ↔ ¬ (l.length : Int) ≤ keep ∧ ∃ z ∈ (sort3 (mayG l)).take (l.length / 2), z.at' = x := by
  unfold forgS
  by_cases c : (l.length : Int) ≤ keep
  · simp [c]
  · rw [if_neg c]
    unfold sortI
    rw [(List.mergeSort_perm _ _).mem_iff, List.mem_map]
    exact ⟨fun h => ⟨c, h⟩, fun h => h.2⟩
theorem forgS_len (l : List Gr) (keep : Int) : (forgS l keep).length ≤ l.length / 2 := by
  unfold forgS
  split
  · simp
  · unfold sortI; rw [List.length_mergeSort, List.length_map]
    exact List.length_take_le _ _
theorem forgS_keep {l : List Gr} {keep : Int} (h : (l.length : Int) ≤ keep) : forgS l keep = [] := if_pos h
/-- No two rows have one place. -/
def apartG (l : List Gr) : Prop := ∀ (i k : Nat) (hi : i < l.length) (hk : k < l.length), k < i → l[i].at' ≠ l[k].at'
theorem gone_of {l : List Gr} {keep : Int} (ha : apartG l) {i : Nat} (hi : i < l.length) (h : l[i].at' ∈ forgS l keep) : stayS l[i] = false ∧ of3 l[i] ∈ (sort3 (mayG l)).take (l.length / 2) := by
  obtain ⟨_, z, hz, e⟩ := forgS_mem.1 h
  have h1 : z ∈ mayG l := (sort3_perm _).mem_iff.1 (List.mem_of_mem_take hz)
  unfold mayG at h1
  obtain ⟨y, hy, rfl⟩ := List.mem_map.1 h1
  obtain ⟨hy1, hy2⟩ := List.mem_filter.1 hy
  obtain ⟨j, hj, rfl⟩ := List.getElem_of_mem hy1
  have hji : j = i := by
    rcases Nat.lt_trichotomy j i with c | c | c
    · exact absurd e.symm (ha i j hi hj c)
    · exact c
    · exact absurd e (ha j i hj hi c)
  subst hji
  exact ⟨by simpa using hy2, hz⟩
theorem kept_of {l : List Gr} {keep : Int} (ha : apartG l) {i k : Nat} (hi : i < l.length) (hk : k < l.length) (h : l[i].at' ∈ forgS l keep) (h2 : l[k].at' ∉ forgS l keep) (h3 : stayS l[k] = false) : worS l[k] l[i] = false := by
  obtain ⟨_, h1⟩ := gone_of ha hi h
  have hm : of3 l[k] ∈ sort3 (mayG l) := by
    rw [(sort3_perm _).mem_iff]
    unfold mayG
    exact List.mem_map.2 ⟨l[k], List.mem_filter.2 ⟨List.getElem_mem hk, by rw [h3]; rfl⟩, rfl⟩
  rw [← List.take_append_drop (l.length / 2) (sort3 (mayG l))] at hm
  have hs := sort3_sorted (mayG l)
  rw [← List.take_append_drop (l.length / 2) (sort3 (mayG l))] at hs
  rcases List.mem_append.1 hm with hm | hm
  · exact absurd (forgS_mem.2 ⟨(forgS_mem.1 h).1, of3 l[k], hm, rfl⟩) h2
  · have := (List.pairwise_append.1 hs).2.2 _ h1 _ hm
    have e := worS_lt (of3 l[k]) (of3 l[i])
    have e2 : worS (g3 (of3 l[k])) (g3 (of3 l[i])) = worS l[k] l[i] := rfl
    rw [← e2, e]
    simpa using this
set_option maxRecDepth 16000 in
theorem glueForgets_ok (l : List Gr) (keep : Int) : APure Try.prog 6 [.seq false 4 (l.map grR), I64 keep] (fun r => r = .pv (.lit (.bool true))) := by
  refine apure1 hmo Try.func6 (by kernel_rfl) rfl rfl (by kernel_rfl) (Nat.le_of_ble_eq_true rfl) ?_
  by_cases c : (60 : Int) < l.length
  · simp [c]
    refine CallK.intro glAwake_ok (by simp) ?_
    simp
  simp [c]
  refine ALoop.intro (S := fun (i : Nat) => ⟨[(0, .pv (.seq false 4 (l.map grR))), (1, .pv (I64 keep)), (5, .pv (I64 i))], []⟩) (fun i => i ≤ l.length ∧ ∀ (a b : Nat) (ha : a < l.length) (hb : b < l.length), a < i → b < a → l[a].at' ≠ l[b].at') (fun i => l.length - i) 0 ?_ ⟨Nat.zero_le _, fun a b _ _ h => by omega⟩ ?_
  · exact Weak.to (by simp) rfl (by simp) (by simp) (by simp)
  rintro i ⟨hi, hd⟩
  by_cases ci : i < l.length
  · have hw2 : w64 ((i : Int) + 1) = ((i + 1 : Nat) : Int) := by rw [w64_id (by omega) (by omega)]; omega
    simp [ci]
    refine ALoop.intro (S := fun (k : Nat) => ⟨[(0, .pv (.seq false 4 (l.map grR))), (1, .pv (I64 keep)), (5, .pv (I64 i)), (6, .pv (I64 k))], []⟩) (fun k => k ≤ i ∧ ∀ (b : Nat) (hb : b < l.length), b < k → l[i].at' ≠ l[b].at') (fun k => i - k) 0 ?_ ⟨Nat.zero_le _, fun b _ h => by omega⟩ ?_
    · exact Weak.to (by simp) rfl (by simp) (by simp) (by simp)
    rintro k ⟨hk, hd2⟩
    by_cases ck : k < i
    · have hw3 : w64 ((k : Int) + 1) = ((k + 1 : Nat) : Int) := by rw [w64_id (by omega) (by omega)]; omega
      have hkl : k < l.length := by omega
      by_cases e : l[i].at' = l[k].at'
      · simp [ck, ci, hkl, grR, e]
        refine CallK.intro glAwake_ok (by simp) ?_
        simp
      · simp [ck, ci, hkl, grR, e]
        refine ⟨k + 1, by (try dsimp only); omega, ⟨by (try dsimp only); omega, fun b hb hbk => ?_⟩, Weak.to (by simp [hw3, grR]) rfl (by simp) (by simp) (by simp)⟩
        by_cases eb : b = k
        · subst eb; exact e
        · exact hd2 b hb (by omega)
    · have hki : k = i := by omega
      subst hki
      simp
      refine ⟨k + 1, by (try dsimp only); omega, ⟨by (try dsimp only); omega, fun a b ha hb h1 h2 => ?_⟩, Weak.to (by simp [hw2]) rfl (by simp) (by simp) (by simp)⟩
      by_cases ea : a = k
      · subst ea; exact hd2 b hb h2
      · exact hd a b ha hb (by omega) h2
  have hie : i = l.length := by omega
  subst hie
  have hap : apartG l := fun a b ha hb h => hd a b ha hb ha h
  have hfl := forgS_len l keep
  have hwq : w64 ((l.length : Int) / 2) = ((l.length / 2 : Nat) : Int) := by rw [w64_id (by omega) (by omega)]; omega
  have h60 : l.length ≤ 60 := by omega
  simp
  refine CallK.intro (forget_ok l (by omega) keep) (by simp) ?_
  have hkp := fun h => forgS_keep (l := l) (keep := keep) h
  have hgone := fun i hi => gone_of (l := l) (keep := keep) hap (i := i) hi
  have hkept := fun i k hi hk => kept_of (l := l) (keep := keep) hap (i := i) (k := k) hi hk
  generalize forgS l keep = out at *
  have hb1 : ¬ ((l.length / 2 : Nat) : Int) < out.length := by omega
  have hb2 : ¬ l.length / 2 < out.length := by omega
  simp [hwq, hb2]
  refine ⟨fun h => ⟨h, fun h2 => ⟨h, h2⟩⟩, ⟨by omega, hkp⟩, fun _ _ => ?_⟩
  refine ALoop.intro (S := fun (i : Nat) => ⟨[(0, .pv (.seq false 4 (l.map grR))), (7, .own true 1 (irow out)), (8, .pv (I64 i))], []⟩) (fun i => i ≤ l.length) (fun i => l.length - i) 0 ?_ (Nat.zero_le _) ?_
  · exact Weak.to (by simp) rfl (by simp) (by simp) (by simp)
  intro i hi
  by_cases ci : i < l.length
  rotate_left
  · simp [ci]
    refine CallK.intro glAwake_ok (by simp) ?_
    simp
  have hw2 : w64 ((i : Int) + 1) = ((i + 1 : Nat) : Int) := by rw [w64_id (by omega) (by omega)]; omega
  have hg := hgone i ci
  have hk0 := fun k => hkept i k ci
  simp [ci, grR]
  refine CallK.intro (refHas_ok out l[i].at' (by omega)) (by simp) ?_
  have hst : l[i].at' ∈ out → l[i].lo = false ∧ ¬ l[i].gl ≤ 2 := fun h => by
    have := (hg h).1
    unfold stayS at this
    simpa using this
  have hw := fun k (hk : k < l.length) => worse_ok l[k] l[i]
  have hh := fun k (hk : k < l.length) => refHas_ok out l[k].at' (by omega)
  simp only [grR] at hw
  by_cases cg : l[i].at' ∈ out
  · obtain ⟨s1, s2⟩ := hst cg
    simp [cg, ci, grR, s1, s2]
    refine ALoop.intro (S := fun (k : Nat) => ⟨[(0, .pv (.seq false 4 (l.map grR))), (7, .own true 1 (irow out)), (8, .pv (I64 i)), (9, .pv (BL true)), (10, .pv (I64 k))], []⟩) (fun k => k ≤ l.length) (fun k => l.length - k) 0 ?_ (Nat.zero_le _) ?_
    · exact Weak.to (by simp [grR]) rfl (by simp) (by simp) (by simp)
    intro k hk
    by_cases ck : k < l.length
    rotate_left
    · simp [ck]
      exact ⟨i + 1, by (try dsimp only); omega, by (try dsimp only); omega, Weak.to (by simp [hw2]) rfl (by simp) (by simp) (by simp)⟩
    have hw3 : w64 ((k : Int) + 1) = ((k + 1 : Nat) : Int) := by rw [w64_id (by omega) (by omega)]; omega
    have hk1 := hk0 k ck cg
    simp [ck, ci, grR]
    refine CallQ.intro (r := .pv (BL (decide (l[k].at' ∈ out)))) (fun _ => hh k ck) (by simp) ?_
    by_cases ch : l[k].at' ∈ out
    · simp [ch, ck, ci, grR]
      refine CallQ.intro (r := .pv (BL (worS l[k] l[i]))) (fun _ => hw k ck) (by simp) ?_
      simp
      exact ⟨k + 1, by (try dsimp only); omega, by (try dsimp only); omega, Weak.to (by simp [hw3, grR]) rfl (by simp) (by simp) (by simp)⟩
    · cases hlo : l[k].lo
      · by_cases hgl : 2 < l[k].gl
        · have hs : stayS l[k] = false := by unfold stayS; rw [hlo]; simp; omega
          have hww := hw k ck
          rw [hk1 ch hs, hlo] at hww
          simp [ch, ck, ci, grR, hlo, hgl]
          refine CallQ.intro (r := .pv (BL false)) (fun _ => hww) (by simp) ?_
          simp
          exact ⟨k + 1, by (try dsimp only); omega, by (try dsimp only); omega, Weak.to (by simp [hw3, grR]) rfl (by simp) (by simp) (by simp)⟩
        · have hww := hw k ck
          rw [hlo] at hww
          simp [ch, ck, ci, grR, hlo, hgl]
          refine CallQ.intro (r := .pv (BL (worS l[k] l[i]))) (fun _ => hww) (by simp) ?_
          simp
          exact ⟨k + 1, by (try dsimp only); omega, by (try dsimp only); omega, Weak.to (by simp [hw3, grR]) rfl (by simp) (by simp) (by simp)⟩
      · have hww := hw k ck
        rw [hlo] at hww
        simp [ch, ck, ci, grR, hlo]
        refine CallQ.intro (r := .pv (BL (worS l[k] l[i]))) (fun _ => hww) (by simp) ?_
        simp
        exact ⟨k + 1, by (try dsimp only); omega, by (try dsimp only); omega, Weak.to (by simp [hw3, grR]) rfl (by simp) (by simp) (by simp)⟩
  · simp [cg, ci, grR]
    refine ALoop.intro (S := fun (k : Nat) => ⟨[(0, .pv (.seq false 4 (l.map grR))), (7, .own true 1 (irow out)), (8, .pv (I64 i)), (9, .pv (BL false)), (10, .pv (I64 k))], []⟩) (fun k => k ≤ l.length) (fun k => l.length - k) 0 ?_ (Nat.zero_le _) ?_
    · exact Weak.to (by simp [grR]) rfl (by simp) (by simp) (by simp)
    intro k hk
    by_cases ck : k < l.length
    rotate_left
    · simp [ck]
      exact ⟨i + 1, by (try dsimp only); omega, by (try dsimp only); omega, Weak.to (by simp [hw2]) rfl (by simp) (by simp) (by simp)⟩
    have hw3 : w64 ((k : Int) + 1) = ((k + 1 : Nat) : Int) := by rw [w64_id (by omega) (by omega)]; omega
    simp [ck, ci, grR]
    refine CallQ.intro (r := .pv (BL (decide (l[k].at' ∈ out)))) (fun _ => hh k ck) (by simp) ?_
    simp [ck, ci, grR]
    refine CallQ.intro (r := .pv (BL (worS l[k] l[i]))) (fun _ => hw k ck) (by simp) ?_
    simp
    exact ⟨k + 1, by (try dsimp only); omega, by (try dsimp only); omega, Weak.to (by simp [hw3, grR]) rfl (by simp) (by simp) (by simp)⟩
end Go.AX
