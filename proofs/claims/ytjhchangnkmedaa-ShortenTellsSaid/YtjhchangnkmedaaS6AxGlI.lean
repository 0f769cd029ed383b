/-
  Contracts: how glued literals are; whether a clause is a reason.
  Contracts: the probe of the layer glue.
  The law's contract: GlueCounts.
-/
import Derived.Test.YtjhchangnkmedaaS6AxDkC
import Derived.Test.YtjhchangnkmedaaS6AxGlD
import Derived.Test.YtjhchangnkmedaaS6AxMovS
namespace Go.AX
open Go.Proofs
set_option linter.unusedSimpArgs false

/-- How often each level is met. -/
def lvTo (T : Tr) (l : List Int) : Nat → List (Int × Int)
  | 0 => []
  | i + 1 => if 0 < (ofT T (litV (l.getD i 0))).1.lev then pt (lvTo T l i) (ofT T (litV (l.getD i 0))).1.lev (w64 ((lk (lvTo T l i) (ofT T (litV (l.getD i 0))).1.lev).getD 0 + 1)) else lvTo T l i
def glN (T : Tr) (l : List Int) : Int := ((lvTo T l l.length).length : Int)
set_option maxRecDepth 8000 in
theorem glueOf_ok (T : Tr) (ht : T.ok) (l : List Int) (hl : l.length ≤ 1000000) : APure Try.prog 23 [trP T, .seq false 1 (irow l)] (fun r => r = .pv (I64 (glN T l))) := by
  refine apure1 hmo Try.func23 (by kernel_rfl) rfl rfl (by kernel_rfl) (Nat.le_of_ble_eq_true rfl) ?_
  have hlv := fun v => tlevel_ok T v ht
  simp only [trP, trR] at hlv
  simp [trP, trR]
  refine ALoop.intro (S := fun (i : Nat) => ⟨[(0, .pv (trP T)), (5, .omap true (mapE fI (lvTo T l i))), (12, .pv (.seq false 1 (irow l))), (13, .pv (I64 l.length)), (14, .pv (I64 i))], []⟩) (fun i => i ≤ l.length) (fun i => l.length - i) 0 ?_ (Nat.zero_le _) ?_
  · exact Weak.to (by simp [lvTo, trP, trR, mapE]) rfl (by simp) (by simp [trP, trR]) (by simp)
  intro i hi
  by_cases ci : i < l.length
  · have hw2 : w64 ((i : Int) + 1) = ((i + 1 : Nat) : Int) := by rw [w64_id (by omega) (by omega)]; omega
    have hgi : l.getD i 0 = l[i] := by rw [List.getD_eq_getElem?_getD, List.getElem?_eq_getElem ci]; rfl
    have hN : lvTo T l (i + 1) = if 0 < (ofT T (litV l[i])).1.lev then pt (lvTo T l i) (ofT T (litV l[i])).1.lev (w64 ((lk (lvTo T l i) (ofT T (litV l[i])).1.lev).getD 0 + 1)) else lvTo T l i := by rw [lvTo, hgi]
    simp [ci, trR]
    refine CallK.intro (litVar_ok l[i]) (by simp) ?_
    simp [trR]
    refine CallK.intro (hlv (litV l[i])) (by simp) ?_
    generalize (ofT T (litV l[i])).1.lev = n at *
    by_cases cn : 0 < n
    · rw [if_pos cn] at hN
      simp [cn]
      exact ⟨i + 1, by dsimp only; omega, by dsimp only; omega, Weak.to (by simp [hw2, hN, trP, trR]) rfl (by simp) (by simp [trP, trR]) (by simp)⟩
    · rw [if_neg cn] at hN
      simp [cn]
      exact ⟨i + 1, by dsimp only; omega, by dsimp only; omega, Weak.to (by simp [hw2, hN, trP, trR]) rfl (by simp) (by simp [trP, trR]) (by simp)⟩
  · have : i = l.length := by omega
    subst this
    simp [glN, mapE]
theorem glueOfN_ok (l : List Int) : APure Try.prog 23 [.lit (.pointer none), .seq false 1 (irow l)] (fun r => r = .pv (I64 0)) := by
  refine apure1 hmo Try.func23 (by kernel_rfl) rfl rfl (by kernel_rfl) (Nat.le_of_ble_eq_true rfl) ?_
  simp
theorem tdepth_ok (T : Tr) : APure Try.prog 24 [trP T] (fun r => r = .pv (I64 T.beg.length)) := by
  refine apure1 hmo Try.func24 (by kernel_rfl) rfl rfl (by kernel_rfl) (Nat.le_of_ble_eq_true rfl) ?_
  have hi := tis_ok T
  simp only [trP, trR] at hi
  simp [trP, trR]
  refine CallK.intro hi (by simp) ?_
  simp
/-- Does a literal hold by a reason? -/
def lockP (T : Tr) (at' l : Int) : Bool := decide (0 < valT T l) && decide ((ofT T (litV l)).1.rea = at')
def lockS (T : Tr) (at' : Int) (l : List Int) : Bool := l.any (lockP T at')
set_option maxRecDepth 8000 in
theorem locked1_ok (T : Tr) (ht : T.ok) (at' l : Int) : APure Try.prog 91 [I64 l, .iptr 1 [[trP T]] 0 0, .iptr 1 [[I64 at']] 0 0] (fun r => r = .pv (BL (lockP T at' l))) := by
  refine apure1 hmo Try.func91 (by kernel_rfl) rfl rfl (by kernel_rfl) (Nat.le_of_ble_eq_true rfl) ?_
  have hv := tvalue_ok T l ht
  have hr := treason_ok T (litV l) ht
  simp only [trP, trR] at hv hr
  simp [trP, trR]
  refine CallQ0.intro hv (by simp) ?_
  unfold lockP
  by_cases c : 0 < valT T l
  · simp [c, trR]
    refine CallQ.intro (r := .pv (I64 (litV l))) (fun _ => litVar_ok l) (by simp) ?_
    simp [c, trR]
    refine CallQ.intro (r := .pv (I64 (ofT T (litV l)).1.rea)) (fun _ => hr) (by simp) ?_
    simp
  · simp [c, trR]
    refine CallQ.intro (r := .pv (I64 (litV l))) (fun _ => litVar_ok l) (by simp) ?_
    simp [c, trR]
    refine CallQ.intro (r := .pv (I64 (ofT T (litV l)).1.rea)) (fun _ => hr) (by simp) ?_
    simp
set_option maxRecDepth 8000 in
theorem locked_ok (T : Tr) (ht : T.ok) (at' : Int) (l : List Int) (hl : l.length ≤ 1000000) : APure Try.prog 56 [trP T, I64 at', .seq false 1 (irow l)] (fun r => r = .pv (BL (lockS T at' l))) := by
  refine apure1 hmo Try.func56 (by kernel_rfl) rfl rfl (by kernel_rfl) (Nat.le_of_ble_eq_true rfl) ?_
  have hc := containsF_ok l hl 91 [.iptr 1 [[trP T]] 0 0, .iptr 1 [[I64 at']] 0 0] (lockP T at') (fun r => by simp [trP, trR]) rfl (fun k => by simp [trP, trR]) (fun x _ => locked1_ok T ht at' x)
  simp only [trP, trR] at hc
  simp [trP, trR, frzP]
  refine CallG.intro (r := .pv (BL (lockS T at' l))) (fun _ => hc) (by simp) ?_
  simp
theorem lockedN_ok (at' : Int) (l : List Int) : APure Try.prog 56 [.lit (.pointer none), I64 at', .seq false 1 (irow l)] (fun r => r = .pv (BL false)) := by
  refine apure1 hmo Try.func56 (by kernel_rfl) rfl rfl (by kernel_rfl) (Nat.le_of_ble_eq_true rfl) ?_
  simp
  refine CallG.intro (r := .pv (BL false)) (fun h => h.elim) (by simp) ?_
  simp
theorem grows_ok : APure Try.prog 55 [] (fun r => r = .own true 4 ([⟨1, 5, 0, false⟩, ⟨2, 4, 0, false⟩, ⟨3, 3, 0, false⟩, ⟨4, 2, 0, false⟩].map grR)) := by
  refine apure1 hmo Try.func55 (by kernel_rfl) rfl rfl (by kernel_rfl) (Nat.le_of_ble_eq_true rfl) ?_
  simp [grR]
end Go.AX

namespace Go.AX
open Go.Proofs
set_option linter.unusedSimpArgs false

def glD : DK := setS [[-1, 2]] [1, 3]
theorem glD_of : glN glD.T [-1, -2, -3] = 2 := by kernel_rfl
theorem glD_lock : lockS glD.T 0 [-1, 2] = true := by kernel_rfl
theorem glD_lock2 : lockS glD.T 0 [-1] = false := by kernel_rfl
def glRows : List Gr := [⟨1, 5, 0, false⟩, ⟨2, 4, 0, false⟩, ⟨3, 3, 0, false⟩, ⟨4, 2, 0, false⟩]
theorem glForg : forgS glRows 3 = [1, 2] := by rw [refForg_is]; kernel_rfl
theorem glForg2 : forgS glRows 4 = [] := by rw [refForg_is]; kernel_rfl
theorem glW1 : worS ⟨1, 5, 0, false⟩ ⟨2, 4, 0, false⟩ = true := by decide
theorem glW2 : worS ⟨2, 4, 0, false⟩ ⟨1, 5, 0, false⟩ = false := by decide
set_option maxRecDepth 16000 in
theorem glAwake_ok : APure Try.prog 22 [] (fun r => r = .pv (BL true)) := by
  refine apure1 hmo Try.func22 (by kernel_rfl) rfl rfl (by kernel_rfl) (Nat.le_of_ble_eq_true rfl) ?_
  have hset := dset_ok [] [[-1, 2]] [1, 3] ⟨by decide, by decide⟩ (by decide)
  have ht : (setS [[-1, 2]] [1, 3]).T.ok := (setS_rel _ _).1.okT
  have e1 := glD_of
  have e2 := glD_lock
  have e3 := glD_lock2
  unfold glD at e1 e2 e3
  generalize setS [[-1, 2]] [1, 3] = D at *
  have f1 := forget_ok glRows (by decide) 3
  have f2 := forget_ok glRows (by decide) 4
  rw [glForg] at f1
  rw [glForg2] at f2
  have w1 := worse_ok ⟨1, 5, 0, false⟩ ⟨2, 4, 0, false⟩
  have w2 := worse_ok ⟨2, 4, 0, false⟩ ⟨1, 5, 0, false⟩
  rw [glW1] at w1
  rw [glW2] at w2
  have g1 := glueOf_ok D.T ht [-1, -2, -3] (by decide)
  have g2 := locked_ok D.T ht 0 [-1, 2] (by decide)
  have g3 := locked_ok D.T ht 0 [-1] (by decide)
  rw [e1] at g1
  rw [e2] at g2
  rw [e3] at g3
  have hS := sameInts_ok [1, 2] [1, 2] (by decide)
  have hf : ∀ a b c d, frzP [a, b, c, trB D.T, d] 3 3 0 = trP D.T := fun a b c d => frz_tr0 rfl 2
  simp
  refine CallK.introE hset (by simp) rfl (by simp) (by simp) (by simp [wkAL, wkA, wkRR, wkPL, wkP, irow, crowF]) ?_
  rintro _ _ ⟨rfl, rfl⟩
  simp [dkA, dkB]
  refine CallQ0.intro grows_ok (by simp [grR]) ?_
  simp
  refine CallQ0.intro f1 (by simp) ?_
  simp
  refine CallQ0.intro hS (by simp) ?_
  simp
  refine CallQ.intro (fun _ => grows_ok) (by simp [grR]) ?_
  simp
  refine CallQ.intro (fun _ => f2) (by simp [irow]) ?_
  simp
  refine CallQ.intro (fun _ => grows_ok) (by simp [grR]) ?_
  simp [grR]
  refine CallQ.intro (fun _ => grows_ok) (by simp [grR]) ?_
  simp [grR]
  refine CallQ.intro (fun _ => w1) (by simp) ?_
  simp [grR]
  refine CallQ.intro (fun _ => grows_ok) (by simp [grR]) ?_
  simp [grR]
  refine CallQ.intro (fun _ => grows_ok) (by simp [grR]) ?_
  simp [grR]
  refine CallQ.intro (fun _ => w2) (by simp) ?_
  simp [grR]
  rw [hf]
  refine CallQ.intro (fun _ => g1) (by simp) ?_
  simp [grR]
  rw [hf]
  refine CallQ.intro (fun _ => g2) (by simp) ?_
  simp [grR]
  rw [hf]
  refine CallQ.intro (fun _ => g3) (by simp) ?_
  simp [grR]
  refine CallQ.intro (fun _ => glueOfN_ok [1]) (by simp) ?_
  simp [grR]
  refine CallQ.intro (fun _ => lockedN_ok 0 [1]) (by simp) ?_
  simp
end Go.AX

namespace Go.AX
open Go.Proofs
set_option linter.unusedSimpArgs false

theorem ptG_keys {α : Type} : ∀ (l : List (Int × α)) (k : Int) (y : α) (x : Int), x ∈ (pt l k y).map (·.1) ↔ x = k ∨ x ∈ l.map (·.1)
  | [], k, y, x => by simp [pt]
  | (j, z) :: l, k, y, x => by
    rw [pt]
    by_cases c : j = k
    · rw [if_pos c]; subst c; simp
    · rw [if_neg c, List.map_cons, List.mem_cons, ptG_keys l k y x, List.map_cons, List.mem_cons]
      constructor
      · rintro (h | h | h)
        · exact .inr (.inl h)
        · exact .inl h
        · exact .inr (.inr h)
      · rintro (h | h | h)
        · exact .inr (.inl h)
        · exact .inl h
        · exact .inr (.inr h)
theorem ptG_nodup {α : Type} : ∀ (l : List (Int × α)) (k : Int) (y : α), (l.map (·.1)).Nodup → ((pt l k y).map (·.1)).Nodup
  | [], k, y, _ => by simp [pt]
  | (j, z) :: l, k, y, h => by
    rw [List.map_cons, List.nodup_cons] at h
    rw [pt]
    by_cases c : j = k
    · rw [if_pos c, List.map_cons, List.nodup_cons]; subst c; exact h
    · rw [if_neg c, List.map_cons, List.nodup_cons, ptG_keys]
      exact ⟨fun hh => hh.elim c h.1, ptG_nodup l k y h.2⟩
theorem lvTo_keys {T : Tr} {t : RT} (h : RelT T t) (l : List Int) : ∀ i, ((lvTo T l i).map (·.1)).Nodup ∧ ∀ x : Int, x ∈ (lvTo T l i).map (·.1) → 1 ≤ x ∧ x ≤ (T.beg.length : Int)
  | 0 => by simp [lvTo]
  | i + 1 => by
    obtain ⟨h1, h2⟩ := lvTo_keys h l i
    rw [lvTo]
    split
    · rename_i c
      refine ⟨ptG_nodup _ _ _ h1, fun x hx => ?_⟩
      rw [ptG_keys] at hx
      rcases hx with rfl | hx
      · have e := (relT_of h (litV (l.getD i 0))).1
        have b := (relT_lev h (litV (l.getD i 0))).2
        rw [h.dep] at b
        omega
      · exact h2 x hx
    · exact ⟨h1, h2⟩
theorem lvTo_dep {T : Tr} {t : RT} (h : RelT T t) (l : List Int) (i : Nat) : (lvTo T l i).length ≤ T.beg.length := by
  obtain ⟨h1, h2⟩ := lvTo_keys h l i
  have := len_of_sub ((lvTo T l i).map (·.1)) ((List.range T.beg.length).map fun n : Nat => ((n + 1 : Nat) : Int)) h1 (fun x hx => by
    have := h2 x hx
    simp only [List.mem_map, List.mem_range]
    exact ⟨(x - 1).toNat, by omega, by omega⟩)
  simpa using this
theorem ptG_len {α : Type} : ∀ (l : List (Int × α)) (k : Int) (y : α), l.length ≤ (pt l k y).length ∧ (pt l k y).length ≤ l.length + 1
  | [], k, y => by simp [pt]
  | (j, z) :: l, k, y => by
    rw [pt]
    have := ptG_len l k y
    split <;> simp <;> omega
theorem lvTo_mono (T : Tr) (l : List Int) (i : Nat) : (lvTo T l i).length ≤ (lvTo T l (i + 1)).length ∧ (lvTo T l (i + 1)).length ≤ (lvTo T l i).length + 1 := by
  rw [lvTo]
  split
  · exact ptG_len _ _ _
  · omega
theorem lvTo_le (T : Tr) (l : List Int) (i : Nat) : ∀ k, (lvTo T l i).length ≤ (lvTo T l (i + k)).length
  | 0 => Nat.le_refl _
  | k + 1 => Nat.le_trans (lvTo_le T l i k) (lvTo_mono T l (i + k)).1
theorem lvTo_few (T : Tr) (l : List Int) : ∀ i, (lvTo T l i).length ≤ i
  | 0 => by simp [lvTo]
  | i + 1 => by have := lvTo_few T l i; have := (lvTo_mono T l i).2; omega
theorem lvTo_take (T : Tr) (l : List Int) {j : Nat} (hj : j ≤ l.length) : ∀ i, i ≤ j → lvTo T (l.take j) i = lvTo T l i
  | 0, _ => rfl
  | i + 1, h => by
    have e : (l.take j).getD i 0 = l.getD i 0 := by
      simp only [List.getD_eq_getElem?_getD]
      rw [List.getElem?_take, if_pos (by omega)]
    rw [lvTo, lvTo, lvTo_take T l hj i (by omega), e]
theorem glN_take (T : Tr) (l : List Int) {j : Nat} (hj : j ≤ l.length) : glN T (l.take j) = ((lvTo T l j).length : Int) := by
  unfold glN
  rw [List.length_take, Nat.min_eq_left hj, lvTo_take T l hj j (Nat.le_refl _)]
/-- So few clauses, and literals. -/
def few4 (cs : List (List Int)) : Bool := decide (cs.length ≤ 200) && cs.all fun c => decide (c.length ≤ 50)
theorem few4_ok (cs : List (List Int)) : APure Try.prog 66 [.agg [I64 0, .seq false 1 (cs.map crowF)]] (fun r => r = .pv (BL (few4 cs))) := by
  refine apure1 hmo Try.func66 (by kernel_rfl) rfl rfl (by kernel_rfl) (Nat.le_of_ble_eq_true rfl) ?_
  by_cases c : (200 : Int) < cs.length
  · have : few4 cs = false := by unfold few4; rw [decide_eq_false (by omega), Bool.false_and]
    rw [this]
    simp [c]
  have c' : cs.length ≤ 200 := by omega
  have hF : few4 cs = cs.all fun c => decide (c.length ≤ 50) := by unfold few4; rw [decide_eq_true c', Bool.true_and]
  rw [hF]
  simp [c]
  refine ALoop.intro (S := fun (i : Nat) => ⟨[(1, .pv (.ptr 0 0)), (3, .pv (I64 i))], [[.pv (I64 0), .pv (.seq false 1 (cs.map crowF))]]⟩) (fun i => i ≤ cs.length ∧ ∀ j (h : j < cs.length), j < i → cs[j].length ≤ 50) (fun i => cs.length - i) 0 ?_ ⟨Nat.zero_le _, fun j _ h => by omega⟩ ?_
  · exact Weak.to (by simp) rfl (by simp) (by simp) (by simp)
  rintro i ⟨hi, hle⟩
  by_cases ci : i < cs.length
  · have hw2 : w64 ((i : Int) + 1) = ((i + 1 : Nat) : Int) := by rw [w64_id (by omega) (by omega)]; omega
    by_cases c5 : (50 : Int) < cs[i].length
    · have : (cs.all fun c => decide (c.length ≤ 50)) = false := by
        rw [List.all_eq_false]
        exact ⟨cs[i], List.getElem_mem ci, by simp; omega⟩
      rw [this]
      simp [ci, crowF, c5]
    · simp [ci, crowF, c5]
      refine ⟨i + 1, by (try dsimp only); omega, ⟨by (try dsimp only); omega, fun j hj hji => ?_⟩, Weak.to (by simp [hw2]) rfl (by simp) (by simp) (by simp)⟩
      by_cases e : j = i
      · subst e; omega
      · exact hle j hj (by omega)
  · have hie : i = cs.length := by omega
    subst hie
    have : (cs.all fun c => decide (c.length ≤ 50)) = true := by
      rw [List.all_eq_true]
      intro x hx
      obtain ⟨j, hj, rfl⟩ := List.getElem_of_mem hx
      simpa using hle j hj hj
    rw [this]
    simp
def few8 (cs : List (List Int)) (l : List Int) : Bool := few4 cs && decide (cs.length ≤ 60) && decide (l.length ≤ 60)
theorem few8_ok (cs : List (List Int)) (l : List Int) : APure Try.prog 30 [.seq false 1 (cs.map crowF), .seq false 1 (irow l)] (fun r => r = .pv (BL (few8 cs l))) := by
  refine apure1 hmo Try.func30 (by kernel_rfl) rfl rfl (by kernel_rfl) (Nat.le_of_ble_eq_true rfl) ?_
  simp
  refine CallK.intro (few4_ok cs) (by simp) ?_
  unfold few8
  cases c : few4 cs
  · simp
  · by_cases c1 : cs.length ≤ 60
    · have c1' : (cs.length : Int) ≤ 60 := by omega
      by_cases c2 : l.length ≤ 60
      · have c2' : (l.length : Int) ≤ 60 := by omega
        simp [c1, c1', c2, c2']
      · have c2' : ¬ (l.length : Int) ≤ 60 := by omega
        simp [c1, c1', c2, c2']
    · have c1' : ¬ (cs.length : Int) ≤ 60 := by omega
      simp [c1, c1']
def few19 (cs : List (List Int)) (l c : List Int) : Bool := few8 cs l && decide (cs.length ≤ 40) && decide (c.length ≤ 40)
theorem few19_ok (cs : List (List Int)) (l c : List Int) : APure Try.prog 21 [.seq false 1 (cs.map crowF), .seq false 1 (irow l), .seq false 1 (irow c)] (fun r => r = .pv (BL (few19 cs l c))) := by
  refine apure1 hmo Try.func21 (by kernel_rfl) rfl rfl (by kernel_rfl) (Nat.le_of_ble_eq_true rfl) ?_
  simp
  refine CallK.intro (few8_ok cs l) (by simp) ?_
  unfold few19
  cases e : few8 cs l
  · simp
  · by_cases c1 : cs.length ≤ 40
    · have c1' : (cs.length : Int) ≤ 40 := by omega
      by_cases c2 : c.length ≤ 40
      · have c2' : (c.length : Int) ≤ 40 := by omega
        simp [c1, c1', c2, c2']
      · have c2' : ¬ (c.length : Int) ≤ 40 := by omega
        simp [c1, c1', c2, c2']
    · have c1' : ¬ (cs.length : Int) ≤ 40 := by omega
      simp [c1, c1']
theorem few19_few {cs : List (List Int)} {l c : List Int} (h : few19 cs l c = true) : fewC cs ∧ l.length ≤ 60 ∧ c.length ≤ 40 := by
  unfold few19 few8 few4 at h
  simp only [Bool.and_eq_true, decide_eq_true_eq, List.all_eq_true] at h
  exact ⟨⟨by omega, fun x hx => by have := h.1.1.1.1.2 x hx; omega⟩, by omega, by omega⟩
set_option maxRecDepth 16000 in
theorem glueCounts_ok (cs : List (List Int)) (l c : List Int) : APure Try.prog 5 [.seq false 1 (cs.map crowF), .seq false 1 (irow l), .seq false 1 (irow c)] (fun r => r = .pv (.lit (.bool true))) := by
  refine apure1 hmo Try.func5 (by kernel_rfl) rfl rfl (by kernel_rfl) (Nat.le_of_ble_eq_true rfl) ?_
  simp
  refine CallK.intro (few19_ok cs l c) (by simp) ?_
  cases hf : few19 cs l c
  · simp
    refine CallK.intro glAwake_ok (by simp) ?_
    simp
  obtain ⟨f1, f2, f3⟩ := few19_few hf
  have hset := dset_ok [] cs l f1 (by omega)
  have hrel := setS_rel cs l
  generalize setS cs l = D at *
  have ht := hrel.1.okT
  have hf : ∀ a b c d, frzP [a, b, c, trB D.T, d] 3 3 0 = trP D.T := fun a b c d => frz_tr0 rfl 2
  have hg := fun (j : Nat) (hj : j ≤ c.length) => glueOf_ok D.T ht (c.take j) (by rw [List.length_take]; omega)
  have hgc := glueOf_ok D.T ht c (by omega)
  have hn0 : glN D.T c = ((lvTo D.T c c.length).length : Int) := rfl
  have hn1 := lvTo_few D.T c c.length
  have hn2 := lvTo_dep hrel.1 c c.length
  have hn3 := fun j (hj : j ≤ c.length) => glN_take D.T c hj
  have hn4 := fun j k => lvTo_le D.T c j k
  simp
  refine CallK.introM hset (by simp) ?_
  rintro _ _ ⟨rfl, rfl⟩
  simp [dkA, dkB]
  rw [hf]
  refine CallB.introP hgc (by simp) (by simp) ?_
  generalize glN D.T c = n at *
  have c1 : ¬ n < 0 := by omega
  have c2 : ¬ (c.length : Int) < n := by omega
  have c3 : ¬ (D.T.beg.length : Int) < n := by omega
  simp [c1, c2]
  rw [hf]
  refine CallB.introP (tdepth_ok D.T) (by simp) (by simp) ?_
  simp [c3]
  refine ALoop.intro (S := fun (i : Nat) => ⟨[(2, .pv (.seq false 1 (irow c))), (7, .pv (.ptr 4 0)), (9, .pv (I64 n)), (10, .pv (I64 i))], [[.pv (.ptr 1 0), .pv (.ptr 3 0), .pv (.seq false 5 (D.a.rows.map roR)), .pv (I64 D.a.size), .pv (I64 D.t.vars), .pv (.seq false 3 (D.t.rows.map enR)), .pv (I64 D.t.dep), .pv (I64 D.con)], arB D.A, [.pv (.ptr 1 0), .pv (.ptr 3 0), .pv (.seq false 5 (D.a.rows.map roR)), .pv (I64 D.a.size), .pv (I64 D.t.vars), .pv (.seq false 3 (D.t.rows.map enR)), .pv (I64 D.t.dep), .pv (I64 D.con)], trB D.T, [.pv (.ptr 1 0), .pv (.ptr 3 0), .pv (.seq false 5 (D.a.rows.map roR)), .pv (I64 D.a.size), .pv (I64 D.t.vars), .pv (.seq false 3 (D.t.rows.map enR)), .pv (I64 D.t.dep), .pv (I64 D.con)]]⟩) (fun i => i ≤ c.length) (fun i => c.length - i) 0 ?_ (Nat.zero_le _) ?_
  · exact Weak.keep (by simp) (by simp)
  intro i hi
  by_cases ci : i < c.length
  rotate_left
  · simp [ci]
    refine CallK.intro glAwake_ok (by simp) ?_
    simp
  have hw2 : w64 ((i : Int) + 1) = ((i + 1 : Nat) : Int) := by rw [w64_id (by omega) (by omega)]; omega
  have gi := hg i (by omega)
  have ni := hn3 i (by omega)
  rw [ni] at gi
  have mi := hn4 i (c.length - i)
  rw [show i + (c.length - i) = c.length by omega] at mi
  have hti : List.take i (irow c) = irow (c.take i) := by unfold irow; rw [List.map_take]
  simp [ci, hti]
  refine ⟨by omega, ?_⟩
  rw [hf]
  refine CallQ0.intro gi (by simp) ?_
  have d1 : ¬ n < ((lvTo D.T c i).length : Int) := by omega
  by_cases c0 : i = 0
  · subst c0
    simp [d1]
    refine CallQ.intro (r := .pv (I64 0)) (fun h : False => h.elim) (by simp) ?_
    simp
    exact ⟨1, by (try dsimp only); omega, by (try dsimp only); omega, Weak.keep (by simp [show w64 1 = 1 by decide]) (by simp)⟩
  · obtain ⟨j, hji⟩ : ∃ j, i = j + 1 := ⟨i - 1, by omega⟩
    have hw1 : w64 ((i : Int) - 1) = (j : Int) := by rw [w64_id (by omega) (by omega)]; omega
    have hj : j ≤ c.length := by omega
    have hpos : 0 < i := by omega
    have gj := hg j hj
    rw [hn3 j hj] at gj
    have mj := hn4 j 1
    have htj : List.take j (irow c) = irow (c.take j) := by unfold irow; rw [List.map_take]
    have d2 : ¬ ((lvTo D.T c i).length : Int) < (lvTo D.T c j).length := by rw [hji]; omega
    simp [d1, hw1, hj, hpos, htj]
    rw [hf]
    refine CallQ.intro (r := .pv (I64 (lvTo D.T c j).length)) (fun _ => gj) (by simp) ?_
    have d3 : ¬ (lvTo D.T c i).length < (lvTo D.T c j).length := by omega
    simp [d2, d3]
    exact ⟨i + 1, by (try dsimp only); omega, by (try dsimp only); omega, Weak.keep (by simp [hw2]) (by simp)⟩
end Go.AX
