/-
  Contracts: how glued literals are; whether a clause is a reason.
  Contracts: the probe of the layer glue.
  The law's contract: GlueCounts.
  Contracts: how glued literals are, by the document; all places of its arena.
  Plain law: how glued literals are, and whether a clause is a reason: the program's and the document's are one.
  The law's contract: GlueTells.
-/
import Derived.Test.YtjhchangnkmedaaGreatS7AxDkC
import Derived.Test.YtjhchangnkmedaaGreatS7AxGlD
import Derived.Test.YtjhchangnkmedaaGreatS7AxMovS
namespace Go.AX
open Go.Proofs
set_option linter.unusedSimpArgs false

/-- How often each level is met. -/
def lvTo (T : Tr) (l : List Int) : Nat → List (Int × Int)
  | 0 => []
  | i + 1 => if 0 < (ofT T (litV (l.getD i 0))).1.lev then pt (lvTo T l i) (ofT T (litV (l.getD i 0))).1.lev (w64 ((lk (lvTo T l i) (ofT T (litV (l.getD i 0))).1.lev).getD 0 + 1)) else lvTo T l i
def glN (T : Tr) (l : List Int) : Int := ((lvTo T l l.length).length : Int)
set_option maxRecDepth 8000 in
theorem glueOf_ok (T : Tr) (ht : T.ok) (l : List Int) (hl : l.length ≤ 1000000) : APure Tryz.prog 7 [trP T, .seq false 1 (irow l)] (fun r => r = .pv (I64 (glN T l))) := by
  refine apure1 hmo Tryz.func7 (by kernel_rfl) rfl rfl (by kernel_rfl) (Nat.le_of_ble_eq_true rfl) ?_
  have hlv := fun v => tlevel_ok T v ht
  simp only [trP, trR] at hlv
  simp [trP, trR]
  refine ALoop.intro (S := fun (i : Nat) => ⟨[(0, .pv (trP T)), (5, .omap true (mapE fI (lvTo T l i))), (12, .pv (.seq false 1 (irow l))), (13, .pv (I64 l.length)), (14, .pv (I64 i))], []⟩) (fun i => i ≤ l.length) (fun i => l.length - i) 0 ?_ (Nat.zero_le _) ?_
  · exact Weak.to (by simp [lvTo, trP, trR, mapE]) rfl (by simp) (by simp [trP, trR]) (by simp)
  intro i hi
  by_cases ci : i < l.length
  · have hw2 : w64 ((i : Int) + 1) = ((i + 1 : Nat) : Int) := by rw [w64_id (by omega) (by omega)]; omega
    have hgi : l.getD i 0 = l[i] := by rw [List.getD_eq_getElem?_getD, List.getElem?_eq_getElem ci]; rfl
    have hN : lvTo T l (i + 1) = if 0 < (ofT T (litV l[i])).1.lev then pt (lvTo T l i) (ofT T (litV l[i])).1.lev (w64 ((lk (lvTo T l i) (ofT T (litV l[i])).1.lev).getD 0 + 1)) else lvTo T l i := by rw [lvTo, hgi]
    simp [ci, trR]
    refine CallK.intro (litVar_ok l[i]) (by simp) ?_
    simp [trR]
    refine CallK.intro (hlv (litV l[i])) (by simp) ?_
    generalize (ofT T (litV l[i])).1.lev = n at *
    by_cases cn : 0 < n
    · rw [if_pos cn] at hN
      simp [cn]
      exact ⟨i + 1, by dsimp only; omega, by dsimp only; omega, Weak.to (by simp [hw2, hN, trP, trR]) rfl (by simp) (by simp [trP, trR]) (by simp)⟩
    · rw [if_neg cn] at hN
      simp [cn]
      exact ⟨i + 1, by dsimp only; omega, by dsimp only; omega, Weak.to (by simp [hw2, hN, trP, trR]) rfl (by simp) (by simp [trP, trR]) (by simp)⟩
  · have : i = l.length := by omega
    subst this
    simp [glN, mapE]
theorem glueOfN_ok (l : List Int) : APure Tryz.prog 7 [.lit (.pointer none), .seq false 1 (irow l)] (fun r => r = .pv (I64 0)) := by
  refine apure1 hmo Tryz.func7 (by kernel_rfl) rfl rfl (by kernel_rfl) (Nat.le_of_ble_eq_true rfl) ?_
  simp
/-- Does a literal hold by a reason? -/
def lockP (T : Tr) (at' l : Int) : Bool := decide (0 < valT T l) && decide ((ofT T (litV l)).1.rea = at')
def lockS (T : Tr) (at' : Int) (l : List Int) : Bool := l.any (lockP T at')
set_option maxRecDepth 8000 in
theorem locked1_ok (T : Tr) (ht : T.ok) (at' l : Int) : APure Tryz.prog 34 [I64 l, .iptr 1 [[trP T]] 0 0, .iptr 1 [[I64 at']] 0 0] (fun r => r = .pv (BL (lockP T at' l))) := by
  refine apure1 hmo Tryz.func34 (by kernel_rfl) rfl rfl (by kernel_rfl) (Nat.le_of_ble_eq_true rfl) ?_
  have hv := tvalue_ok T l ht
  have hr := treason_ok T (litV l) ht
  simp only [trP, trR] at hv hr
  simp [trP, trR]
  refine CallQ0.intro hv (by simp) ?_
  unfold lockP
  by_cases c : 0 < valT T l
  · simp [c, trR]
    refine CallQ.intro (r := .pv (I64 (litV l))) (fun _ => litVar_ok l) (by simp) ?_
    simp [c, trR]
    refine CallQ.intro (r := .pv (I64 (ofT T (litV l)).1.rea)) (fun _ => hr) (by simp) ?_
    simp
  · simp [c, trR]
    refine CallQ.intro (r := .pv (I64 (litV l))) (fun _ => litVar_ok l) (by simp) ?_
    simp [c, trR]
    refine CallQ.intro (r := .pv (I64 (ofT T (litV l)).1.rea)) (fun _ => hr) (by simp) ?_
    simp
set_option maxRecDepth 8000 in
theorem locked_ok (T : Tr) (ht : T.ok) (at' : Int) (l : List Int) (hl : l.length ≤ 1000000) : APure Tryz.prog 11 [trP T, I64 at', .seq false 1 (irow l)] (fun r => r = .pv (BL (lockS T at' l))) := by
  refine apure1 hmo Tryz.func11 (by kernel_rfl) rfl rfl (by kernel_rfl) (Nat.le_of_ble_eq_true rfl) ?_
  have hc := containsF_ok l hl 34 [.iptr 1 [[trP T]] 0 0, .iptr 1 [[I64 at']] 0 0] (lockP T at') (fun r => by simp [trP, trR]) rfl (fun k => by simp [trP, trR]) (fun x _ => locked1_ok T ht at' x)
  simp only [trP, trR] at hc
  simp [trP, trR, frzP]
  refine CallG.intro (r := .pv (BL (lockS T at' l))) (fun _ => hc) (by simp) ?_
  simp
theorem lockedN_ok (at' : Int) (l : List Int) : APure Tryz.prog 11 [.lit (.pointer none), I64 at', .seq false 1 (irow l)] (fun r => r = .pv (BL false)) := by
  refine apure1 hmo Tryz.func11 (by kernel_rfl) rfl rfl (by kernel_rfl) (Nat.le_of_ble_eq_true rfl) ?_
  simp
  refine CallG.intro (r := .pv (BL false)) (fun h => h.elim) (by simp) ?_
  simp
theorem grows_ok : APure Tryz.prog 16 [] (fun r => r = .own true 4 ([⟨1, 5, 0, false⟩, ⟨2, 4, 0, false⟩, ⟨3, 3, 0, false⟩, ⟨4, 2, 0, false⟩].map grR)) := by
  refine apure1 hmo Tryz.func16 (by kernel_rfl) rfl rfl (by kernel_rfl) (Nat.le_of_ble_eq_true rfl) ?_
  simp [grR]
end Go.AX

namespace Go.AX
open Go.Proofs
set_option linter.unusedSimpArgs false

def glD : DK := setS [[-1, 2]] [1, 3]
theorem glD_of : glN glD.T [-1, -2, -3] = 2 := by kernel_rfl
theorem glD_lock : lockS glD.T 0 [-1, 2] = true := by kernel_rfl
theorem glD_lock2 : lockS glD.T 0 [-1] = false := by kernel_rfl
def glRows : List Gr := [⟨1, 5, 0, false⟩, ⟨2, 4, 0, false⟩, ⟨3, 3, 0, false⟩, ⟨4, 2, 0, false⟩]
theorem glForg : forgS glRows 3 = [1, 2] := by rw [refForg_is]; kernel_rfl
theorem glForg2 : forgS glRows 4 = [] := by rw [refForg_is]; kernel_rfl
theorem glW1 : worS ⟨1, 5, 0, false⟩ ⟨2, 4, 0, false⟩ = true := by decide
theorem glW2 : worS ⟨2, 4, 0, false⟩ ⟨1, 5, 0, false⟩ = false := by decide
set_option maxRecDepth 16000 in
theorem glAwake_ok : APure Tryz.prog 5 [] (fun r => r = .pv (BL true)) := by
  refine apure1 hmo Tryz.func5 (by kernel_rfl) rfl rfl (by kernel_rfl) (Nat.le_of_ble_eq_true rfl) ?_
  have hset := dset_ok [] [[-1, 2]] [1, 3] ⟨by decide, by decide⟩ (by decide)
  have ht : (setS [[-1, 2]] [1, 3]).T.ok := (setS_rel _ _).1.okT
  have e1 := glD_of
  have e2 := glD_lock
  have e3 := glD_lock2
  unfold glD at e1 e2 e3
  generalize setS [[-1, 2]] [1, 3] = D at *
  have f1 := forget_ok glRows (by decide) 3
  have f2 := forget_ok glRows (by decide) 4
  rw [glForg] at f1
  rw [glForg2] at f2
  have w1 := worse_ok ⟨1, 5, 0, false⟩ ⟨2, 4, 0, false⟩
  have w2 := worse_ok ⟨2, 4, 0, false⟩ ⟨1, 5, 0, false⟩
  rw [glW1] at w1
  rw [glW2] at w2
  have g1 := glueOf_ok D.T ht [-1, -2, -3] (by decide)
  have g2 := locked_ok D.T ht 0 [-1, 2] (by decide)
  have g3 := locked_ok D.T ht 0 [-1] (by decide)
  rw [e1] at g1
  rw [e2] at g2
  rw [e3] at g3
  have hS := sameInts_ok [1, 2] [1, 2] (by decide)
  have hf : ∀ a b c d, frzP [a, b, c, trB D.T, d] 3 3 0 = trP D.T := fun a b c d => frz_tr0 rfl 2
  simp
  refine CallK.introE hset (by simp) rfl (by simp) (by simp) (by simp [wkAL, wkA, wkRR, wkPL, wkP, irow, crowF]) ?_
  rintro _ _ ⟨rfl, rfl⟩
  simp [dkA, dkB]
  refine CallQ0.intro grows_ok (by simp [grR]) ?_
  simp
  refine CallQ0.intro f1 (by simp) ?_
  simp
  refine CallQ0.intro hS (by simp) ?_
  simp
  refine CallQ.intro (fun _ => grows_ok) (by simp [grR]) ?_
  simp
  refine CallQ.intro (fun _ => f2) (by simp [irow]) ?_
  simp
  refine CallQ.intro (fun _ => grows_ok) (by simp [grR]) ?_
  simp [grR]
  refine CallQ.intro (fun _ => grows_ok) (by simp [grR]) ?_
  simp [grR]
  refine CallQ.intro (fun _ => w1) (by simp) ?_
  simp [grR]
  refine CallQ.intro (fun _ => grows_ok) (by simp [grR]) ?_
  simp [grR]
  refine CallQ.intro (fun _ => grows_ok) (by simp [grR]) ?_
  simp [grR]
  refine CallQ.intro (fun _ => w2) (by simp) ?_
  simp [grR]
  rw [hf]
  refine CallQ.intro (fun _ => g1) (by simp) ?_
  simp [grR]
  rw [hf]
  refine CallQ.intro (fun _ => g2) (by simp) ?_
  simp [grR]
  rw [hf]
  refine CallQ.intro (fun _ => g3) (by simp) ?_
  simp [grR]
  refine CallQ.intro (fun _ => glueOfN_ok [1]) (by simp) ?_
  simp [grR]
  refine CallQ.intro (fun _ => lockedN_ok 0 [1]) (by simp) ?_
  simp
end Go.AX

namespace Go.AX
open Go.Proofs
set_option linter.unusedSimpArgs false

theorem ptG_keys {α : Type} : ∀ (l : List (Int × α)) (k : Int) (y : α) (x : Int), x ∈ (pt l k y).map (·.1) ↔ x = k ∨ x ∈ l.map (·.1)
  | [], k, y, x => by simp [pt]
  | (j, z) :: l, k, y, x => by
    rw [pt]
    by_cases c : j = k
    · rw [if_pos c]; subst c; simp
    · rw [if_neg c, List.map_cons, List.mem_cons, ptG_keys l k y x, List.map_cons, List.mem_cons]
      constructor
      · rintro (h | h | h)
        · exact .inr (.inl h)
        · exact .inl h
        · exact .inr (.inr h)
      · rintro (h | h | h)
        · exact .inr (.inl h)
        · exact .inl h
        · exact .inr (.inr h)
theorem ptG_nodup {α : Type} : ∀ (l : List (Int × α)) (k : Int) (y : α), (l.map (·.1)).Nodup → ((pt l k y).map (·.1)).Nodup
  | [], k, y, _ => by simp [pt]
  | (j, z) :: l, k, y, h => by
    rw [List.map_cons, List.nodup_cons] at h
    rw [pt]
    by_cases c : j = k
    · rw [if_pos c, List.map_cons, List.nodup_cons]; subst c; exact h
    · rw [if_neg c, List.map_cons, List.nodup_cons, ptG_keys]
      exact ⟨fun hh => hh.elim c h.1, ptG_nodup l k y h.2⟩
theorem lvTo_keys {T : Tr} {t : RT} (h : RelT T t) (l : List Int) : ∀ i, ((lvTo T l i).map (·.1)).Nodup ∧ ∀ x : Int, x ∈ (lvTo T l i).map (·.1) → 1 ≤ x ∧ x ≤ (T.beg.length : Int)
  | 0 => by simp [lvTo]
  | i + 1 => by
    obtain ⟨h1, h2⟩ := lvTo_keys h l i
    rw [lvTo]
    split
    · rename_i c
      refine ⟨ptG_nodup _ _ _ h1, fun x hx => ?_⟩
      rw [ptG_keys] at hx
      rcases hx with rfl | hx
      · have e := (relT_of h (litV (l.getD i 0))).1
        have b := (relT_lev h (litV (l.getD i 0))).2
        rw [h.dep] at b
        omega
      · exact h2 x hx
    · exact ⟨h1, h2⟩
theorem lvTo_dep {T : Tr} {t : RT} (h : RelT T t) (l : List Int) (i : Nat) : (lvTo T l i).length ≤ T.beg.length := by
  obtain ⟨h1, h2⟩ := lvTo_keys h l i
  have := len_of_sub ((lvTo T l i).map (·.1)) ((List.range T.beg.length).map fun n : Nat => ((n + 1 : Nat) : Int)) h1 (fun x hx => by
    have := h2 x hx
    simp only [List.mem_map, List.mem_range]
    exact ⟨(x - 1).toNat, by omega, by omega⟩)
  simpa using this
theorem ptG_len {α : Type} : ∀ (l : List (Int × α)) (k : Int) (y : α), l.length ≤ (pt l k y).length ∧ (pt l k y).length ≤ l.length + 1
  | [], k, y => by simp [pt]
  | (j, z) :: l, k, y => by
    rw [pt]
    have := ptG_len l k y
    split <;> simp <;> omega
theorem lvTo_mono (T : Tr) (l : List Int) (i : Nat) : (lvTo T l i).length ≤ (lvTo T l (i + 1)).length ∧ (lvTo T l (i + 1)).length ≤ (lvTo T l i).length + 1 := by
  rw [lvTo]
  split
  · exact ptG_len _ _ _
  · omega
theorem lvTo_le (T : Tr) (l : List Int) (i : Nat) : ∀ k, (lvTo T l i).length ≤ (lvTo T l (i + k)).length
  | 0 => Nat.le_refl _
  | k + 1 => Nat.le_trans (lvTo_le T l i k) (lvTo_mono T l (i + k)).1
theorem lvTo_few (T : Tr) (l : List Int) : ∀ i, (lvTo T l i).length ≤ i
  | 0 => by simp [lvTo]
  | i + 1 => by have := lvTo_few T l i; have := (lvTo_mono T l i).2; omega
theorem lvTo_take (T : Tr) (l : List Int) {j : Nat} (hj : j ≤ l.length) : ∀ i, i ≤ j → lvTo T (l.take j) i = lvTo T l i
  | 0, _ => rfl
  | i + 1, h => by
    have e : (l.take j).getD i 0 = l.getD i 0 := by
      simp only [List.getD_eq_getElem?_getD]
      rw [List.getElem?_take, if_pos (by omega)]
    rw [lvTo, lvTo, lvTo_take T l hj i (by omega), e]
theorem glN_take (T : Tr) (l : List Int) {j : Nat} (hj : j ≤ l.length) : glN T (l.take j) = ((lvTo T l j).length : Int) := by
  unfold glN
  rw [List.length_take, Nat.min_eq_left hj, lvTo_take T l hj j (Nat.le_refl _)]
/-- So few clauses, and literals. -/
def few4 (cs : List (List Int)) : Bool := decide (cs.length ≤ 200) && cs.all fun c => decide (c.length ≤ 50)
theorem few4_ok (cs : List (List Int)) : APure Tryz.prog 38 [.agg [I64 0, .seq false 1 (cs.map crowF)]] (fun r => r = .pv (BL (few4 cs))) := by
  refine apure1 hmo Tryz.func38 (by kernel_rfl) rfl rfl (by kernel_rfl) (Nat.le_of_ble_eq_true rfl) ?_
  by_cases c : (200 : Int) < cs.length
  · have : few4 cs = false := by unfold few4; rw [decide_eq_false (by omega), Bool.false_and]
    rw [this]
    simp [c]
  have c' : cs.length ≤ 200 := by omega
  have hF : few4 cs = cs.all fun c => decide (c.length ≤ 50) := by unfold few4; rw [decide_eq_true c', Bool.true_and]
  rw [hF]
  simp [c]
  refine ALoop.intro (S := fun (i : Nat) => ⟨[(1, .pv (.ptr 0 0)), (3, .pv (I64 i))], [[.pv (I64 0), .pv (.seq false 1 (cs.map crowF))]]⟩) (fun i => i ≤ cs.length ∧ ∀ j (h : j < cs.length), j < i → cs[j].length ≤ 50) (fun i => cs.length - i) 0 ?_ ⟨Nat.zero_le _, fun j _ h => by omega⟩ ?_
  · exact Weak.to (by simp) rfl (by simp) (by simp) (by simp)
  rintro i ⟨hi, hle⟩
  by_cases ci : i < cs.length
  · have hw2 : w64 ((i : Int) + 1) = ((i + 1 : Nat) : Int) := by rw [w64_id (by omega) (by omega)]; omega
    by_cases c5 : (50 : Int) < cs[i].length
    · have : (cs.all fun c => decide (c.length ≤ 50)) = false := by
        rw [List.all_eq_false]
        exact ⟨cs[i], List.getElem_mem ci, by simp; omega⟩
      rw [this]
      simp [ci, crowF, c5]
    · simp [ci, crowF, c5]
      refine ⟨i + 1, by (try dsimp only); omega, ⟨by (try dsimp only); omega, fun j hj hji => ?_⟩, Weak.to (by simp [hw2]) rfl (by simp) (by simp) (by simp)⟩
      by_cases e : j = i
      · subst e; omega
      · exact hle j hj (by omega)
  · have hie : i = cs.length := by omega
    subst hie
    have : (cs.all fun c => decide (c.length ≤ 50)) = true := by
      rw [List.all_eq_true]
      intro x hx
      obtain ⟨j, hj, rfl⟩ := List.getElem_of_mem hx
      simpa using hle j hj hj
    rw [this]
    simp
def few8 (cs : List (List Int)) (l : List Int) : Bool := few4 cs && decide (cs.length ≤ 60) && decide (l.length ≤ 60)
theorem few8_ok (cs : List (List Int)) (l : List Int) : APure Tryz.prog 13 [.seq false 1 (cs.map crowF), .seq false 1 (irow l)] (fun r => r = .pv (BL (few8 cs l))) := by
  refine apure1 hmo Tryz.func13 (by kernel_rfl) rfl rfl (by kernel_rfl) (Nat.le_of_ble_eq_true rfl) ?_
  simp
  refine CallK.intro (few4_ok cs) (by simp) ?_
  unfold few8
  cases c : few4 cs
  · simp
  · by_cases c1 : cs.length ≤ 60
    · have c1' : (cs.length : Int) ≤ 60 := by omega
      by_cases c2 : l.length ≤ 60
      · have c2' : (l.length : Int) ≤ 60 := by omega
        simp [c1, c1', c2, c2']
      · have c2' : ¬ (l.length : Int) ≤ 60 := by omega
        simp [c1, c1', c2, c2']
    · have c1' : ¬ (cs.length : Int) ≤ 60 := by omega
      simp [c1, c1']
def few19 (cs : List (List Int)) (l c : List Int) : Bool := few8 cs l && decide (cs.length ≤ 40) && decide (c.length ≤ 40)
theorem few19_ok (cs : List (List Int)) (l c : List Int) : APure Tryz.prog 4 [.seq false 1 (cs.map crowF), .seq false 1 (irow l), .seq false 1 (irow c)] (fun r => r = .pv (BL (few19 cs l c))) := by
  refine apure1 hmo Tryz.func4 (by kernel_rfl) rfl rfl (by kernel_rfl) (Nat.le_of_ble_eq_true rfl) ?_
  simp
  refine CallK.intro (few8_ok cs l) (by simp) ?_
  unfold few19
  cases e : few8 cs l
  · simp
  · by_cases c1 : cs.length ≤ 40
    · have c1' : (cs.length : Int) ≤ 40 := by omega
      by_cases c2 : c.length ≤ 40
      · have c2' : (c.length : Int) ≤ 40 := by omega
        simp [c1, c1', c2, c2']
      · have c2' : ¬ (c.length : Int) ≤ 40 := by omega
        simp [c1, c1', c2, c2']
    · have c1' : ¬ (cs.length : Int) ≤ 40 := by omega
      simp [c1, c1']
theorem few19_few {cs : List (List Int)} {l c : List Int} (h : few19 cs l c = true) : fewC cs ∧ l.length ≤ 60 ∧ c.length ≤ 40 := by
  unfold few19 few8 few4 at h
  simp only [Bool.and_eq_true, decide_eq_true_eq, List.all_eq_true] at h
  exact ⟨⟨by omega, fun x hx => by have := h.1.1.1.1.2 x hx; omega⟩, by omega, by omega⟩
end Go.AX

namespace Go.AX
open Go.Proofs
set_option linter.unusedSimpArgs false

def lvR (t : RT) (x : Int) : Int := (ofR t (litV x)).1
def hasLv (t : RT) (l : List Int) (v : Int) : Bool := l.any fun x => decide (lvR t x = v)
def cntR (t : RT) (l : List Int) : Nat → Nat
  | 0 => 0
  | k + 1 => cntR t l k + if hasLv t l ((k + 1 : Nat) : Int) = true then 1 else 0
theorem cntR_le (t : RT) (l : List Int) : ∀ k, cntR t l k ≤ k
  | 0 => Nat.le_refl _
  | k + 1 => by
    have := cntR_le t l k
    rw [cntR]; split <;> omega
set_option maxRecDepth 16000 in
theorem glrOf_ok (t : RT) (l : List Int) (d : Nat) (hd : t.dep = (d : Int)) (hd2 : d ≤ 1000000) (hr : t.rows.length ≤ 1000000) (hl : l.length ≤ 1000000) : APure Tryz.prog 8 [rtV t, .seq false 1 (irow l)] (fun r => r = .pv (I64 (cntR t l d))) := by
  refine apure1 hmo Tryz.func8 (by kernel_rfl) rfl rfl (by kernel_rfl) (Nat.le_of_ble_eq_true rfl) ?_
  have hof := fun v => rfOf_ok t v hr
  simp only [rtV] at hof
  simp [rtV]
  refine ALoop.intro (S := fun (y : Nat) => ⟨[(1, .pv (.seq false 1 (irow l))), (2, .pv (.ptr 0 0)), (5, .pv (I64 (cntR t l y))), (6, .pv (I64 ((y + 1 : Nat) : Int)))], [[.pv (I64 t.vars), .pv (.seq false 3 (t.rows.map enR)), .pv (I64 t.dep)]]⟩) (fun y => y ≤ d) (fun y => d - y) 0 ?_ (Nat.zero_le _) ?_
  · exact Weak.to (by simp [cntR]) (by simp) (by simp) (by simp) (by simp)
  intro y hy
  obtain ⟨z, hz⟩ : ∃ z, z = y + 1 := ⟨_, rfl⟩
  rw [← hz]
  by_cases cy : z ≤ d
  rotate_left
  · have : y = d := by omega
    subst this
    have c1 : ¬ (z : Int) ≤ (y : Int) := by omega
    simp [hd, c1, cy]
  have cy' : (z : Int) ≤ (d : Int) := by omega
  simp [hd, cy, cy']
  refine ALoop.intro (S := fun (i : Nat) => ⟨[(1, .pv (.seq false 1 (irow l))), (2, .pv (.ptr 0 0)), (5, .pv (I64 (cntR t l y))), (6, .pv (I64 z)), (7, .pv (BL (hasLv t (l.take i) z))), (8, .pv (I64 i))], [[.pv (I64 t.vars), .pv (.seq false 3 (t.rows.map enR)), .pv (I64 t.dep)]]⟩) (fun i => i ≤ l.length) (fun i => l.length - i) 0 ?_ (Nat.zero_le _) ?_
  · exact Weak.to (by simp [hasLv]) (by simp [hd]) (by simp) (by simp) (by simp)
  intro i hi
  by_cases ci : i < l.length
  · have hw2 : w64 ((i : Int) + 1) = ((i + 1 : Nat) : Int) := by rw [w64_id (by omega) (by omega)]; omega
    have hN : hasLv t (l.take (i + 1)) z = (hasLv t (l.take i) z || decide (lvR t l[i] = z)) := by
      unfold hasLv
      rw [List.take_add_one, List.getElem?_eq_getElem ci, Option.toList_some, List.any_append]
      simp
    simp [ci]
    refine CallK.intro (refSplit_ok l[i]) (by simp) ?_
    simp
    refine CallK.intro (hof (litV l[i])) (by simp) ?_
    have hlv : (ofR t (litV l[i])).1 = lvR t l[i] := rfl
    rw [hlv]
    cases hb : hasLv t (l.take i) z
    · rw [hb, Bool.false_or] at hN
      by_cases e : lvR t l[i] = z
      · rw [decide_eq_true e] at hN
        simp [e]
        exact ⟨i + 1, by (try dsimp only); omega, by (try dsimp only); omega, Weak.to (by simp [hw2, hN]) (by simp) (by simp) (by simp) (by simp)⟩
      · rw [decide_eq_false e] at hN
        simp [e]
        exact ⟨i + 1, by (try dsimp only); omega, by (try dsimp only); omega, Weak.to (by simp [hw2, hN]) (by simp) (by simp) (by simp) (by simp)⟩
    · rw [hb, Bool.true_or] at hN
      simp
      exact ⟨i + 1, by (try dsimp only); omega, by (try dsimp only); omega, Weak.to (by simp [hw2, hN]) (by simp) (by simp) (by simp) (by simp)⟩
  · have hie : i = l.length := by omega
    subst hie
    rw [List.take_length]
    have hw3 : w64 ((z : Int) + 1) = ((z + 1 : Nat) : Int) := by rw [w64_id (by omega) (by omega)]; omega
    have hcl := cntR_le t l y
    have hw4 : w64 ((cntR t l y : Int) + 1) = ((cntR t l y + 1 : Nat) : Int) := by rw [w64_id (by omega) (by omega)]; omega
    have hC : cntR t l (y + 1) = cntR t l y + if hasLv t l ((y + 1 : Nat) : Int) = true then 1 else 0 := rfl
    rw [← hz] at hC
    cases hb : hasLv t l z
    · rw [hb] at hC
      simp only [Bool.false_eq_true, if_false, Nat.add_zero] at hC
      simp
      exact ⟨y + 1, by (try dsimp only); omega, by (try dsimp only); omega, Weak.to (by simp [hw3, ← hz, hC]) (by simp [hd]) (by simp) (by simp) (by simp)⟩
    · rw [hb] at hC
      simp only [if_true] at hC
      simp
      exact ⟨y + 1, by (try dsimp only); omega, by (try dsimp only); omega, Weak.to (by simp [hw3, hw4, ← hz, hC]) (by simp [hd]) (by simp) (by simp) (by simp)⟩
def lokR (t : RT) (at' x : Int) : Bool := decide (valR t x = 1) && decide ((ofR t (litV x)).2 = at')
def lockR (t : RT) (at' : Int) (l : List Int) : Bool := l.any (lokR t at')
set_option maxRecDepth 16000 in
theorem glrLocked_ok (t : RT) (at' : Int) (l : List Int) (hr : t.rows.length ≤ 1000000) (hl : l.length ≤ 1000000) : APure Tryz.prog 12 [rtV t, I64 at', .seq false 1 (irow l)] (fun r => r = .pv (BL (lockR t at' l))) := by
  refine apure1 hmo Tryz.func12 (by kernel_rfl) rfl rfl (by kernel_rfl) (Nat.le_of_ble_eq_true rfl) ?_
  have hof := fun v => rfOf_ok t v hr
  have hva := fun v => rfValue_ok t v hr
  simp only [rtV] at hof hva
  simp [rtV]
  refine ALoop.intro (S := fun (i : Nat) => ⟨[(1, .pv (I64 at')), (2, .pv (.seq false 1 (irow l))), (3, .pv (.ptr 0 0)), (7, .pv (I64 i))], [[.pv (I64 t.vars), .pv (.seq false 3 (t.rows.map enR)), .pv (I64 t.dep)]]⟩) (fun i => i ≤ l.length ∧ ∀ j (h : j < l.length), j < i → lokR t at' l[j] = false) (fun i => l.length - i) 0 ?_ ⟨Nat.zero_le _, fun j _ h => by omega⟩ ?_
  · exact Weak.to (by simp) (by simp) (by simp) (by simp) (by simp)
  rintro i ⟨hi, ho⟩
  by_cases ci : i < l.length
  · have hw2 : w64 ((i : Int) + 1) = ((i + 1 : Nat) : Int) := by rw [w64_id (by omega) (by omega)]; omega
    have hyes : lokR t at' l[i] = true → lockR t at' l = true := fun h => List.any_eq_true.2 ⟨l[i], List.getElem_mem ci, h⟩
    have hno : lokR t at' l[i] = false → ∀ j (h : j < l.length), j < i + 1 → lokR t at' l[j] = false := fun h j hj hji => by
      by_cases e : j = i
      · subst e; exact h
      · exact ho j hj (by omega)
    unfold lokR at hyes hno
    simp [ci]
    refine CallK.intro (refSplit_ok l[i]) (by simp) ?_
    simp
    refine CallK.intro (hof (litV l[i])) (by simp) ?_
    simp [ci]
    refine CallQ0.intro (hva l[i]) (by simp) ?_
    by_cases e1 : valR t l[i] = 1
    · by_cases e2 : (ofR t (litV l[i])).2 = at'
      · have := hyes (by simp [e1, e2])
        simp [e1, e2, this]
      · simp [e1, e2]
        refine ⟨i + 1, by (try dsimp only); omega, ⟨by (try dsimp only); omega, ?_⟩, Weak.to (by simp [hw2]) (by simp) (by simp) (by simp) (by simp)⟩
        exact hno (by simp [e2])
    · simp [e1]
      refine ⟨i + 1, by (try dsimp only); omega, ⟨by (try dsimp only); omega, ?_⟩, Weak.to (by simp [hw2]) (by simp) (by simp) (by simp) (by simp)⟩
      exact hno (by simp [e1])
  · have hie : i = l.length := by omega
    subst hie
    have : lockR t at' l = false := by
      unfold lockR
      rw [List.any_eq_false]
      intro x hx
      obtain ⟨j, hj, rfl⟩ := List.getElem_of_mem hx
      simpa using ho j hj hj
    rw [this]
    simp
set_option maxRecDepth 16000 in
theorem glrAll_ok (a : RA) (hl : a.rows.length ≤ 1000000) : APure Tryz.prog 9 [raV a] (fun r => r = .own true 1 (irow (a.rows.map (·.at')))) := by
  refine apure1 hmo Tryz.func9 (by kernel_rfl) rfl rfl (by kernel_rfl) (Nat.le_of_ble_eq_true rfl) ?_
  simp [raV]
  refine ALoop.intro (S := fun (i : Nat) => ⟨[(1, .pv (.ptr 0 0)), (3, .own true 1 (irow (List.take i (a.rows.map (·.at'))))), (4, .pv (I64 i))], [[.pv (.seq false 5 (a.rows.map roR)), .pv (I64 a.size)]]⟩) (fun i => i ≤ a.rows.length) (fun i => a.rows.length - i) 0 ?_ (Nat.zero_le _) ?_
  · exact (Weak.nilOwn (s := 3) 1 true (by simp)).trans (Weak.to (by simp [irow]) (by simp) (by simp) (by simp) (by simp))
  intro i hi
  by_cases ci : i < a.rows.length
  · have hw2 : w64 ((i : Int) + 1) = ((i + 1 : Nat) : Int) := by rw [w64_id (by omega) (by omega)]; omega
    have hsn : irow (List.take i (a.rows.map (·.at'))) ++ [[I64 a.rows[i].at']] = irow (List.take (i + 1) (a.rows.map (·.at'))) := by
      rw [irow_append, List.take_add_one, List.getElem?_map, List.getElem?_eq_getElem ci]; rfl
    simp [ci, roR]
    refine ⟨by omega, i + 1, by (try dsimp only); omega, by (try dsimp only); omega, Weak.to (by simp [hw2, hsn, roR]) (by simp [roR]) (by simp) (by simp) (by simp)⟩
  · have hie : i = a.rows.length := by omega
    subst hie
    have : List.take a.rows.length (a.rows.map (·.at')) = a.rows.map (·.at') := List.take_of_length_le (by simp)
    simp [this]
end Go.AX

namespace Go.AX
open Go.Proofs

theorem permG_of_mem : ∀ {a b : List Int}, a.Nodup → b.Nodup → (∀ x, x ∈ a ↔ x ∈ b) → a.Perm b := by
  intro a b ha hb h
  rw [List.perm_iff_count]
  intro x
  by_cases hx : x ∈ a
  · have h3 := List.count_pos_iff.2 hx
    have h4 := List.count_pos_iff.2 ((h x).1 hx)
    have h1 := List.nodup_iff_count.1 ha x
    have h2 := List.nodup_iff_count.1 hb x
    omega
  · rw [List.count_eq_zero_of_not_mem hx, List.count_eq_zero_of_not_mem (fun e => hx ((h x).2 e))]
theorem lvTo_mem (T : Tr) (l : List Int) (x : Int) : ∀ i, x ∈ (lvTo T l i).map (·.1) ↔ 0 < x ∧ ∃ j, j < i ∧ (ofT T (litV (l.getD j 0))).1.lev = x
  | 0 => by simp [lvTo]
  | i + 1 => by
    have ih := lvTo_mem T l x i
    rw [lvTo]
    split
    · rename_i c
      rw [ptG_keys, ih]
      constructor
      · rintro (rfl | ⟨h1, j, h2, h3⟩)
        · exact ⟨c, i, by omega, rfl⟩
        · exact ⟨h1, j, by omega, h3⟩
      · rintro ⟨h1, j, h2, h3⟩
        by_cases e : j = i
        · subst e; exact .inl h3.symm
        · exact .inr ⟨h1, j, by omega, h3⟩
    · rename_i c
      rw [ih]
      constructor
      · rintro ⟨h1, j, h2, h3⟩; exact ⟨h1, j, by omega, h3⟩
      · rintro ⟨h1, j, h2, h3⟩
        by_cases e : j = i
        · subst e; omega
        · exact ⟨h1, j, by omega, h3⟩
theorem cntR_is (t : RT) (l : List Int) : ∀ k, cntR t l k = (((List.range k).filter fun y => hasLv t l ((y + 1 : Nat) : Int)).map fun y : Nat => ((y + 1 : Nat) : Int)).length
  | 0 => rfl
  | k + 1 => by
    rw [cntR, cntR_is t l k, List.range_succ, List.filter_append, List.map_append, List.length_append]
    cases h : hasLv t l ((k + 1 : Nat) : Int) <;> simp only [List.filter_cons, List.filter_nil, h, if_true, Bool.false_eq_true, if_false, List.map_cons, List.map_nil, List.length_cons, List.length_nil]
theorem glN_is {T : Tr} {t : RT} (h : RelT T t) (l : List Int) : glN T l = (cntR t l T.beg.length : Int) := by
  unfold glN
  rw [cntR_is]
  have hk := lvTo_keys h l l.length
  have hp := permG_of_mem (a := (lvTo T l l.length).map (·.1)) (b := ((List.range T.beg.length).filter fun y => hasLv t l ((y + 1 : Nat) : Int)).map fun y : Nat => ((y + 1 : Nat) : Int)) hk.1 ?_ ?_
  · have := hp.length_eq
    rw [List.length_map] at this
    rw [this]
  · exact List.pairwise_map.2 ((List.nodup_range.filter _).imp fun h e => h (by omega))
  · intro x
    rw [lvTo_mem]
    simp only [List.mem_map, List.mem_filter, List.mem_range]
    have hlv : ∀ y, lvR t y = (ofT T (litV y)).1.lev := fun y => ((relT_of h (litV y)).1).symm
    constructor
    · rintro ⟨h1, j, h2, h3⟩
      have e : l.getD j 0 = l[j] := by rw [List.getD_eq_getElem?_getD, List.getElem?_eq_getElem h2]; rfl
      rw [e] at h3
      have hb := (relT_lev h (litV l[j])).2
      have e1 := hlv l[j]
      unfold lvR at e1
      rw [e1, h3, h.dep] at hb
      refine ⟨(x - 1).toNat, ⟨by omega, ?_⟩, by omega⟩
      unfold hasLv
      rw [List.any_eq_true]
      refine ⟨l[j], List.getElem_mem h2, ?_⟩
      rw [hlv, h3]
      simp; omega
    · rintro ⟨y, ⟨h1, h2⟩, rfl⟩
      unfold hasLv at h2
      rw [List.any_eq_true] at h2
      obtain ⟨z, hz, e⟩ := h2
      obtain ⟨j, hj, rfl⟩ := List.getElem_of_mem hz
      have e' : lvR t l[j] = ((y + 1 : Nat) : Int) := by simpa using e
      refine ⟨by omega, j, hj, ?_⟩
      rw [show l.getD j 0 = l[j] by rw [List.getD_eq_getElem?_getD, List.getElem?_eq_getElem hj]; rfl, ← hlv, e']
/-- A number that may be. -/
def i64R (n : Int) : Prop := -9223372036854775808 ≤ n ∧ n ≤ 9223372036854775807
theorem valR_cases (t : RT) (l : Int) : valR t l = 1 ∨ valR t l = -1 ∨ valR t l = 0 := by
  unfold valR
  split
  · split
    · exact .inl rfl
    · exact .inr (.inl rfl)
  · exact .inr (.inr rfl)
theorem lockP_is {T : Tr} {t : RT} (h : RelT T t) (at' : Int) {x : Int} (hx : i64R x) : lockP T at' x = lokR t at' x := by
  unfold lockP lokR
  rw [relT_val h hx, (relT_of h (litV x)).2.1]
  have : decide (0 < valR t x) = decide (valR t x = 1) := by
    rcases valR_cases t x with e | e | e <;> rw [e] <;> rfl
  rw [this]
theorem lockS_is {T : Tr} {t : RT} (h : RelT T t) (at' : Int) : ∀ {l : List Int}, (∀ x ∈ l, i64R x) → lockS T at' l = lockR t at' l
  | [], _ => rfl
  | x :: l, hx => by
    have ih := lockS_is h at' (l := l) (fun y hy => hx y (List.mem_cons_of_mem _ hy))
    unfold lockS lockR at *
    rw [List.any_cons, List.any_cons, ih, lockP_is h at' (hx x (List.mem_cons_self ..))]
/-- Each row of the arena is one of the clauses. -/
theorem putL_sub (cs : List (List Int)) : ∀ i, i ≤ cs.length → ∀ x ∈ (putL cs i).a.rows, x.lits ∈ cs
  | 0, _, x, hx => by simp [putL] at hx
  | i + 1, hi, x, hx => by
    have ih := putL_sub cs i (by omega)
    rw [putL] at hx
    unfold putK putRA at hx
    dsimp only at hx
    split at hx
    · rcases List.mem_append.1 hx with hx | hx
      · exact ih x hx
      · simp only [List.mem_singleton] at hx
        subst hx
        show cs.getD i [] ∈ cs
        rw [List.getD_eq_getElem?_getD, List.getElem?_eq_getElem (by omega)]
        exact List.getElem_mem _
    · exact ih x hx
theorem setS_sub (cs : List (List Int)) (lits : List Int) : ∀ x ∈ (setS cs lits).a.rows, x.lits ∈ cs := by
  have h := (setL_A (putL cs cs.length).rows (putL cs cs.length).ats lits (begD (putL cs cs.length)) lits.length).2
  unfold setS
  rw [h]
  exact putL_sub cs cs.length (Nat.le_refl _)
theorem setS_few {cs : List (List Int)} (hc : fewC cs) (lits : List Int) : (setS cs lits).a.rows.length ≤ 500 ∧ (setS cs lits).A.row.length ≤ 600000 := by
  have h := setL_A (putL cs cs.length).rows (putL cs cs.length).ats lits (begD (putL cs cs.length)) lits.length
  have hok := putL_ok hc cs.length (Nat.le_refl _)
  have h5 := hc.1
  have h6 := hok.len
  have h7 := hok.rlen
  unfold setS
  rw [h.1, h.2]
  exact ⟨by show (putL cs cs.length).a.rows.length ≤ 500; omega, by show (putL cs cs.length).A.row.length ≤ 600000; omega⟩
end Go.AX

namespace Go.AX
open Go.Proofs
set_option linter.unusedSimpArgs false

def tellSch : Sch :=
  let C : Sch := .fork [(6, .fork [(7, .done)])]
  .take 0 (.take 2 (.take 3 (.take 4 (.fork [(1, .fork [(5, C)]), (5, .fork [(1, C)])]))))
set_option maxRecDepth 16000 in
theorem glueTells_ok (cs : List (List Int)) (l c : List Int) (hcs : ∀ y ∈ cs, ∀ x ∈ y, i64R x) (hcc : ∀ x ∈ c, i64R x) : APure Tryz.prog 3 [.seq false 1 (cs.map crowF), .seq false 1 (irow l), .seq false 1 (irow c)] (fun r => r = .pv (.lit (.bool true))) := by
  refine apure1B [10] hmo Tryz.func3 (by kernel_rfl) rfl rfl (by kernel_rfl) (Nat.le_of_ble_eq_true rfl) ?_
  simp
  refine CallK.intro (few19_ok cs l c) (by simp) ?_
  cases hf : few19 cs l c
  · simp
    refine CallK.intro glAwake_ok (by simp) ?_
    simp
  obtain ⟨f1, f2, f3⟩ := few19_few hf
  have hset := dset_ok [] cs l f1 (by omega)
  have hrel := (setS_rel cs l).1
  have hrelD := (setS_rel cs l).2
  have hA := setS_relA f1 l
  have hsub := setS_sub cs l
  obtain ⟨hr5, hr6⟩ := setS_few f1 l
  generalize setS cs l = D at *
  have ht := hrel.okT
  have hrows := hrel.few
  have hdep := hrel.dep
  have hf : ∀ a b c d, frzP [a, b, c, trB D.T, d] 3 3 0 = trP D.T := fun a b c d => frz_tr0 rfl 2
  have hOf := fun (y : List Int) (hy : y.length ≤ 1000000) => glueOf_ok D.T ht y hy
  have hRf := fun (y : List Int) (hy : y.length ≤ 1000000) => glrOf_ok D.t y D.T.beg.length hdep (by omega) (by omega) hy
  have hLk := fun (at' : Int) (y : List Int) (hy : y.length ≤ 1000000) => locked_ok D.T ht at' y hy
  have hRk := fun (at' : Int) (y : List Int) (hy : y.length ≤ 1000000) => glrLocked_ok D.t at' y (by omega) hy
  have hgl := fun y => glN_is hrel y
  have hlk := fun at' (y : List Int) hy => lockS_is hrel at' (l := y) hy
  simp only [hgl] at hOf
  simp only [rtV] at hRf hRk
  simp
  refine CallK.introM hset (by simp) ?_
  rintro _ _ ⟨rfl, rfl⟩
  simp [dkA, dkB]
  rw [hf]
  refine CallQ.intro (fun _ => hOf c (by omega)) (by simp) ?_
  simp
  refine CallQ.intro (fun _ => hRf c (by omega)) (by simp) ?_
  simp
  have hall := glrAll_ok D.a (by omega)
  simp only [raV] at hall
  refine CallK.intro hall (by simp) ?_
  simp
  refine ALoop.intro (S := fun (i : Nat) => ⟨[(2, .pv (.seq false 1 (irow c))), (7, .pv (.ptr 4 0)), (9, .own true 1 (irow (D.a.rows.map (·.at')))), (10, .pv (I64 i))], [[.pv (.ptr 1 0), .pv (.ptr 3 0), .pv (.seq false 5 (D.a.rows.map roR)), .pv (I64 D.a.size), .pv (I64 D.t.vars), .pv (.seq false 3 (D.t.rows.map enR)), .pv (I64 D.t.dep), .pv (I64 D.con)], arB D.A, [.pv (.ptr 1 0), .pv (.ptr 3 0), .pv (.seq false 5 (D.a.rows.map roR)), .pv (I64 D.a.size), .pv (I64 D.t.vars), .pv (.seq false 3 (D.t.rows.map enR)), .pv (I64 D.t.dep), .pv (I64 D.con)], trB D.T, [.pv (.ptr 1 0), .pv (.ptr 3 0), .pv (.seq false 5 (D.a.rows.map roR)), .pv (I64 D.a.size), .pv (I64 D.t.vars), .pv (.seq false 3 (D.t.rows.map enR)), .pv (I64 D.t.dep), .pv (I64 D.con)]]⟩) (fun i => i ≤ D.a.rows.length) (fun i => D.a.rows.length - i) 0 ?_ (Nat.zero_le _) ?_
  · exact Weak.keep (by simp) (by simp)
  intro i hi
  by_cases ci : i < D.a.rows.length
  rotate_left
  · simp [ci]
    refine CallK.intro glAwake_ok (by simp) ?_
    simp
  have hw2 : w64 ((i : Int) + 1) = ((i + 1 : Nat) : Int) := by rw [w64_id (by omega) (by omega)]; omega
  have hmem := List.getElem_mem ci
  obtain ⟨p, e1, e2, e3, e4, _⟩ := hA.rows _ hmem
  have hsu := hsub _ hmem
  have hll := f1.2 _ hsu
  have hlr := hcs _ hsu
  have hlits := fun h b hb => alits_ok h b D.A hb p D.a.rows[i].lits.length e4 e2 (by omega)
  rw [e3] at hlits
  have o1 := hOf D.a.rows[i].lits (by omega)
  have o2 := hRf D.a.rows[i].lits (by omega)
  have k1 := hLk p D.a.rows[i].lits (by omega)
  have k2 := hRk p D.a.rows[i].lits (by omega)
  have k3 := hLk p c (by omega)
  have k4 := hRk p c (by omega)
  rw [hlk p _ hlr] at k1
  rw [hlk p _ hcc] at k3
  generalize D.a.rows[i].lits = y at *
  simp [ci]
  refine AAnyD.meet tellSch ⟨[(2, .pv (.seq false 1 (irow c))), (7, .pv (.ptr 4 0)), (9, .own true 1 (irow (D.a.rows.map (·.at')))), (10, .pv (I64 i)), (11, .pv (.seq false 1 (irow y)))], [[.pv (.ptr 1 0), .pv (.ptr 3 0), .pv (.seq false 5 (D.a.rows.map roR)), .pv (I64 D.a.size), .pv (I64 D.t.vars), .pv (.seq false 3 (D.t.rows.map enR)), .pv (I64 D.t.dep), .pv (I64 D.con)], arB D.A, [.pv (.ptr 1 0), .pv (.ptr 3 0), .pv (.seq false 5 (D.a.rows.map roR)), .pv (I64 D.a.size), .pv (I64 D.t.vars), .pv (.seq false 3 (D.t.rows.map enR)), .pv (I64 D.t.dep), .pv (I64 D.con)], trB D.T, [.pv (.ptr 1 0), .pv (.ptr 3 0), .pv (.seq false 5 (D.a.rows.map roR)), .pv (I64 D.a.size), .pv (I64 D.t.vars), .pv (.seq false 3 (D.t.rows.map enR)), .pv (I64 D.t.dep), .pv (I64 D.con)]]⟩ (by kernel_rfl) ?_ ?_
  · simp [tellSch, ci, e1]
    and_intros
    all_goals
      refine CallB.intro (hlits _ 1 ?_) ?_ ?_
      · rfl
      · trivial
      rintro _ _ ⟨rfl, rfl⟩
      simp
      exact Weak.keep (by simp) (by simp)
  · simp [ci, e1]
    rw [hf]
    refine CallQ0.intro k1 (by simp) ?_
    simp [ci, e1]
    refine CallQ0.intro k2 (by simp) ?_
    simp
    rw [hf]
    refine CallQ.intro (fun _ => o1) (by simp) ?_
    simp
    refine CallQ.intro (fun _ => o2) (by simp) ?_
    simp [ci, e1]
    rw [hf]
    refine CallQ.intro (fun _ => k3) (by simp) ?_
    simp [ci, e1]
    refine CallQ.intro (fun _ => k4) (by simp) ?_
    simp
    exact ⟨i + 1, by (try dsimp only); omega, by (try dsimp only); omega, Weak.keep (by simp [hw2]) (by simp)⟩
end Go.AX
