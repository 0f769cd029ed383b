/-
  Contracts: the document's heaps.
  Contracts: what is done with the document's heaps.
  Contracts: what is awake (heaps), and a call.
  Contracts: HeapDecays.
  Contracts: HeapTops.
-/
import Derived.Test.YtipaihpchnlkfaaS2AxHpG
import Derived.Test.YtipaihpchnlkfaaAxXW
namespace Go.AX
open Go.Proofs
set_option linter.unusedSimpArgs false

def rhV (S : List Int) (B : List Bool) : PV := .agg [.seq false 1 (irow S), .seq false 1 (brow B)]

theorem rscore_ok (S : List Int) (B : List Bool) (v : Int) (hS : S.length ≤ 1000000) : APure Try.prog 57 [rhV S B, I64 v] (fun r => r = .pv (I64 (if 1 ≤ v ∧ v ≤ S.length then S.getD (v.toNat - 1) 0 else 0))) := by
  refine apure1 hmo Try.func57 (by kernel_rfl) rfl rfl (by kernel_rfl) (Nat.le_of_ble_eq_true rfl) ?_
  by_cases c : 1 ≤ v ∧ v ≤ S.length
  · obtain ⟨k, hk⟩ : ∃ k : Nat, v = (k : Int) + 1 := ⟨(v - 1).toNat, by omega⟩
    subst hk
    have hw : w64 (k : Int) = (k : Int) := w64_id (by omega) (by omega)
    have c2 : k < S.length := by omega
    have c3 : (k : Int) + 1 ≤ (S.length : Int) := by omega
    have c4 : ¬ (k : Int) + 1 < 1 := by omega
    have c5 : ¬ (S.length : Int) < (k : Int) + 1 := by omega
    have c6 : 1 ≤ (k : Int) + 1 := by omega
    have c7 : ((k : Int) + 1).toNat - 1 = k := by omega
    simp [rhV, hw, c2, c3, c4, c5, c6, c7]
  · by_cases c1 : v < 1
    · have c2 : ¬ 1 ≤ v := by omega
      simp [rhV, c1, c2]
    · have c2 : (S.length : Int) < v := by omega
      have c3 : 1 ≤ v := by omega
      have c4 : ¬ v ≤ (S.length : Int) := by omega
      simp [rhV, c1, c2, c3, c4]
theorem rhas_ok (S : List Int) (B : List Bool) (v : Int) (hB : B.length ≤ 1000000) : APure Try.prog 59 [rhV S B, I64 v] (fun r => r = .pv (BL (decide (1 ≤ v) && (decide (v ≤ B.length) && B.getD (v.toNat - 1) false)))) := by
  refine apure1 hmo Try.func59 (by kernel_rfl) rfl rfl (by kernel_rfl) (Nat.le_of_ble_eq_true rfl) ?_
  by_cases c : 1 ≤ v ∧ v ≤ B.length
  · obtain ⟨k, hk⟩ : ∃ k : Nat, v = (k : Int) + 1 := ⟨(v - 1).toNat, by omega⟩
    subst hk
    have hw : w64 (k : Int) = (k : Int) := w64_id (by omega) (by omega)
    have c2 : k < B.length := by omega
    have c3 : (k : Int) + 1 ≤ (B.length : Int) := by omega
    have c6 : 1 ≤ (k : Int) + 1 := by omega
    have c7 : ((k : Int) + 1).toNat - 1 = k := by omega
    simp [rhV, hw, c2, c3, c6, c7]
  · by_cases c1 : 1 ≤ v
    · have c2 : ¬ v ≤ (B.length : Int) := by omega
      simp [rhV, c1, c2]
    · simp [rhV, c1]
def cntB (B : List Bool) : Nat := (B.filter id).length
theorem cntB_snoc {B : List Bool} {i : Nat} (h : i < B.length) : cntB (B.take (i + 1)) = cntB (B.take i) + (if B[i] then 1 else 0) := by
  rw [List.take_succ_eq_append_getElem h, cntB, List.filter_append, List.length_append]
  cases B[i] <;> simp [cntB]
theorem cntB_le (B : List Bool) : cntB B ≤ B.length := List.length_filter_le _ _
set_option maxRecDepth 16000 in
theorem rlen_ok (S : List Int) (B : List Bool) (hB : B.length ≤ 1000000) : APure Try.prog 53 [rhV S B] (fun r => r = .pv (I64 (cntB B))) := by
  refine apure1 hmo Try.func53 (by kernel_rfl) rfl rfl (by kernel_rfl) (Nat.le_of_ble_eq_true rfl) ?_
  simp [rhV]
  refine ALoop.intro (S := fun (i : Nat) => ⟨[(1, .pv (.ptr 0 0)), (3, .pv (I64 (cntB (B.take i)))), (4, .pv (I64 i))], [[.pv (.seq false 1 (irow S)), .pv (.seq false 1 (brow B))]]⟩) (fun i => i ≤ B.length) (fun i => B.length - i) 0 ?_ ?_ ?_
  · exact Weak.le (by simp [cntB]) (by simp)
  · omega
  · intro i hi
    by_cases c : i < B.length
    · have hw : w64 ((i : Int) + 1) = ((i + 1 : Nat) : Int) := by rw [w64_id (by omega) (by omega)]; omega
      have hcl := cntB_le (B.take i)
      have hci : cntB (B.take i) ≤ 1000000 := by simp at hcl; omega
      have hw2 : w64 ((cntB (B.take i) : Int) + 1) = ((cntB (B.take i) + 1 : Nat) : Int) := by rw [w64_id (by omega) (by omega)]; omega
      have hsn := cntB_snoc c
      cases hbi : B[i] with
      | true =>
        rw [hbi] at hsn
        simp at hsn
        simp [c, hbi, hw, hw2]
        refine ⟨i + 1, by dsimp only; omega, by dsimp only; omega, Weak.le ?_ (by simp)⟩
        simp [hw, hw2, hsn]
      | false =>
        rw [hbi] at hsn
        simp at hsn
        simp [c, hbi, hw]
        refine ⟨i + 1, by dsimp only; omega, by dsimp only; omega, Weak.le ?_ (by simp)⟩
        simp [hw, hsn]
    · have : i = B.length := by omega
      subst this
      simp

/-- The best one of those up to k. -/
def bestR (S : List Int) (B : List Bool) : Nat → Nat
  | 0 => 0
  | k + 1 => if B.getD k false = true ∧ (bestR S B k = 0 ∨ S.getD (bestR S B k - 1) 0 < S.getD k 0) then k + 1 else bestR S B k
theorem bestR_le (S : List Int) (B : List Bool) : ∀ k, bestR S B k ≤ k
  | 0 => Nat.le_refl _
  | k + 1 => by have := bestR_le S B k; rw [bestR]; split <;> omega
set_option maxRecDepth 16000 in
theorem rpeek_ok (S : List Int) (B : List Bool) (hS : S.length ≤ 1000000) (hB : B.length = S.length) : APure Try.prog 55 [rhV S B] (fun r => r = .pv (I64 (bestR S B S.length))) := by
  refine apure1 hmo Try.func55 (by kernel_rfl) rfl rfl (by kernel_rfl) (Nat.le_of_ble_eq_true rfl) ?_
  simp [rhV]
  refine ALoop.intro (S := fun (i : Nat) => ⟨[(1, .pv (.ptr 0 0)), (3, .pv (I64 (bestR S B i))), (4, .pv (I64 ((i : Int) + 1)))], [[.pv (.seq false 1 (irow S)), .pv (.seq false 1 (brow B))]]⟩) (fun i => i ≤ S.length) (fun i => S.length - i) 0 ?_ ?_ ?_
  · exact Weak.le (by simp [bestR]) (by simp)
  · omega
  · intro i hi
    by_cases c : i < S.length
    · have hw : w64 ((i : Int) + 1 + 1) = (i : Int) + 1 + 1 := w64_id (by omega) (by omega)
      have hw0 : w64 (i : Int) = (i : Int) := w64_id (by omega) (by omega)
      have hcB : i < B.length := by omega
      have hle : (i : Int) + 1 ≤ (S.length : Int) := by omega
      have hbl := bestR_le S B i
      have hbs : bestR S B (i + 1) = if B.getD i false = true ∧ (bestR S B i = 0 ∨ S.getD (bestR S B i - 1) 0 < S.getD i 0) then i + 1 else bestR S B i := rfl
      have hBi : B.getD i false = B[i] := by simp [hcB]
      have hSi : S.getD i 0 = S[i] := by simp [c]
      rw [hBi, hSi] at hbs
      generalize hbe : bestR S B i = m at *
      generalize hSe : S[i] = si at *
      cases hbi : B[i] with
      | false =>
        rw [hbi] at hbs
        simp at hbs
        simp [c, hcB, hle, hbi, hw0, hbe]
        refine ⟨i + 1, by dsimp only; omega, by dsimp only; omega, Weak.le ?_ (by simp)⟩
        simp [hw, hbs]
      | true =>
        rw [hbi] at hbs
        simp only [true_and] at hbs
        rcases Nat.eq_zero_or_pos m with h0 | h0
        · subst h0
          simp at hbs
          simp [c, hcB, hle, hbi, hw0, hbe]
          refine ⟨i + 1, by dsimp only; omega, by dsimp only; omega, Weak.le ?_ (by simp)⟩
          simp [hw, hbs]
        · obtain ⟨m', rfl⟩ : ∃ k, m = k + 1 := ⟨m - 1, by omega⟩
          have hw1 : w64 (m' : Int) = (m' : Int) := w64_id (by omega) (by omega)
          have hml : m' < S.length := by omega
          have hne : ¬ (m' : Int) + 1 = 0 := by omega
          obtain ⟨sm, hsm⟩ : ∃ x, S[m'] = x := ⟨_, rfl⟩
          have hsm2 : S.getD (m' + 1 - 1) 0 = sm := by rw [← hsm, Nat.add_sub_cancel]; simp [hml]
          rw [hsm2] at hbs
          simp [c, hcB, hle, hbi, hw0, hbe, hw1, hml, hne, hsm, hSe]
          refine ⟨fun d => ?_, fun d => ?_⟩
          · rw [if_pos (.inr d)] at hbs
            refine ⟨i + 1, by dsimp only; omega, by dsimp only; omega, Weak.le ?_ (by simp)⟩
            simp [hw, hbs]
          · rw [if_neg (by omega)] at hbs
            refine ⟨i + 1, by dsimp only; omega, by dsimp only; omega, Weak.le ?_ (by simp)⟩
            simp [hw, hbs]
    · have : i = S.length := by omega
      subst this
      have hle : ¬ (S.length : Int) + 1 ≤ S.length := by omega
      simp [hle]

end Go.AX

namespace Go.AX
open Go.Proofs
set_option linter.unusedSimpArgs false

def rnewS (vars : Int) : List Int × List Bool × Int := if 0 ≤ vars ∧ vars ≤ 100000 then (List.replicate vars.toNat 0, List.replicate vars.toNat true, 0) else ([], [], 2)
theorem brow_snoc (l : List Bool) (x : Bool) : brow l ++ [[BL x]] = brow (l ++ [x]) := by simp [brow]

set_option maxRecDepth 16000 in
theorem rnew_ok (h : List (List SV)) (vars : Int) : AMut Try.prog 49 [I64 vars] h (fun r h' => h' = h ∧ r = .pv (.tup [rhV (rnewS vars).1 (rnewS vars).2.1, I64 (rnewS vars).2.2])) := by
  refine amutXW [] [.cell 2 _, .tmp 3] hmo Try.func49 (by kernel_rfl) rfl rfl (by kernel_rfl) (Nat.le_of_ble_eq_true rfl) ?_
  by_cases c : 0 ≤ vars ∧ vars ≤ 100000
  rotate_left
  · have hr : rnewS vars = ([], [], 2) := if_neg c
    rw [hr]
    have c2 : vars < 0 ∨ 100000 < vars := by omega
    rcases c2 with c2 | c2
    · have c3 : ¬ 0 ≤ vars := by omega
      simp [c2, c3, rhV, irow, brow]
    · have c3 : 0 ≤ vars := by omega
      have c4 : ¬ vars ≤ 100000 := by omega
      have c5 : ¬ vars < 0 := by omega
      simp [c2, c3, c4, c5, rhV, irow, brow]
  · obtain ⟨n, hn⟩ := Int.eq_ofNat_of_zero_le c.1
    have hn' : vars = (n : Int) := hn
    subst hn'
    have hr : rnewS (n : Int) = (List.replicate n 0, List.replicate n true, 0) := by unfold rnewS; rw [if_pos c]; rfl
    rw [hr]
    have c2 : n ≤ 100000 := by omega
    have c3 : (n : Int) ≤ 100000 := by omega
    simp [c2, c3]
    refine ALoop.intro (S := fun (i : Nat) => ⟨[(0, .pv (I64 n)), (2, .pv (.ptr h.length 0)), (3, .pv (I64 0)), (4, .pv (.ptr (h.length + 1) 0)), (5, .pv (I64 i))], h ++ [[.pv (.lit (.slice none 0 0)), .pv (.lit (.slice none 0 0))], [.own true 1 (irow (List.replicate i 0)), .own true 1 (brow (List.replicate i true))]]⟩)
      (fun i => i ≤ n) (fun i => n - i) 0 ?_ ?_ ?_
    · refine (Weak.nilCell (b := h.length + 1) (k := 0) (xs := [.pv (.lit (.slice none 0 0)), .pv (.lit (.slice none 0 0))]) 1 true (by simp) (by simp)).trans ((Weak.nilCell (b := h.length + 1) (k := 1) (xs := [.own true 1 [], .pv (.lit (.slice none 0 0))]) 1 true (by simp) (by simp)).trans (Weak.keep (by simp) ?_))
      simp [irow, brow]
    · omega
    · intro i hi
      by_cases c4 : i < n
      · have hw : w64 ((i : Int) + 1) = ((i + 1 : Nat) : Int) := by rw [w64_id (by omega) (by omega)]; omega
        simp [c4]
        have hr1 : irow (List.replicate i 0) ++ [[I64 0]] = irow (List.replicate (i + 1) 0) := by
          rw [irow_snoc, List.replicate_succ']
        have hb1 : brow (List.replicate i true) ++ [[BL true]] = brow (List.replicate (i + 1) true) := by
          rw [brow_snoc, List.replicate_succ']
        refine ⟨by omega, by omega, i + 1, by dsimp only; omega, by dsimp only; omega, Weak.keep ?_ ?_⟩
        · simp [hw]
        · simp [← hr1, ← hb1]
      · have hie : i = n := by omega
        subst hie
        simp
        simp [rhV, wkPL, wkP]

end Go.AX

namespace Go.AX
open Go.Proofs
set_option linter.unusedSimpArgs false

theorem hbump_nil (v by' : Int) : APure Try.prog 92 [.lit (.pointer none), I64 v, I64 by'] (fun r => r = .pv (I64 1)) := by
  refine apure1 hmo Try.func92 (by kernel_rfl) rfl rfl (by kernel_rfl) (Nat.le_of_ble_eq_true rfl) ?_
  simp
  refine CallK.intro (hwhy_nil v) (by simp) ?_
  simp
theorem htake_nil : APure Try.prog 60 [.lit (.pointer none)] (fun r => r = .pv (I64 0)) := by
  refine apure1 hmo Try.func60 (by kernel_rfl) rfl rfl (by kernel_rfl) (Nat.le_of_ble_eq_true rfl) ?_
  simp
  refine CallK.intro hpeek_nil (by simp) ?_
  simp

def aw1 : HS := ⟨[0, 0, 5, 0], [2, 1, 3], [0, 1, 0, 2]⟩
def aw2 : HS := ⟨[0, 0, 5, 0], [1, 3], [0, 0, -1, 1]⟩
def aw3 : HS := ⟨[0, 0, 5, 0], [3], [0, -1, -1, 0]⟩
def aw4 : HS := ⟨[0, 0, 5, 0], [2, 3], [0, -1, 0, 1]⟩
def aw5 : HS := ⟨[0, 0, 2, 0], [2, 3], [0, -1, 0, 1]⟩
theorem awE1 : bumpS (newS 3) 2 5 = (aw1, 0) := by kernel_rfl
theorem awE2 : takeS' aw1 = (aw2, 2) := by kernel_rfl
theorem awE3 : takeS' aw2 = (aw3, 1) := by kernel_rfl
theorem awE4 : putS aw3 2 = (aw4, 0) := by kernel_rfl
theorem awE5 : putS aw4 2 = (aw4, 21) := by kernel_rfl
theorem awE6 : bumpS aw4 4 1 = (aw4, 10) := by kernel_rfl
theorem awE7 : bumpS aw4 1 (-1) = (aw4, 2) := by kernel_rfl
theorem awE8 : halveS aw4 = aw5 := by kernel_rfl
theorem awG1 : HpG 3 1000000000000 aw1 := by have := (bump_good (new_good 3) 2 5).1; rwa [awE1] at this
theorem awG2 : HpG 3 1000000000000 aw2 := by have := (take_good awG1).1; rwa [awE2] at this
theorem awG3 : HpG 3 1000000000000 aw3 := by have := (take_good awG2).1; rwa [awE3] at this
theorem awG4 : HpG 3 1000000000000 aw4 := by have := (put_good awG3 2).1; rwa [awE4] at this

set_option maxRecDepth 16000 in
theorem hawake_ok : APure Try.prog 47 [] (fun r => r = .pv (BL true)) := by
  refine apure1 hmo Try.func47 (by kernel_rfl) rfl rfl (by kernel_rfl) (Nat.le_of_ble_eq_true rfl) ?_
  simp
  refine CallK.introM (hnew_ok [] 3) (by simp) ?_
  rintro _ _ hR
  rw [if_pos (by omega)] at hR
  obtain ⟨rfl, rfl⟩ := hR
  simp
  refine CallB.intro (hbump_ok [heapB (newS 3)] 0 (newS 3) rfl (new_good 3) (by omega) 2 5) (by simp) ?_
  rw [awE1]
  rintro _ _ ⟨rfl, rfl⟩
  simp
  refine CallB.intro (htake_ok [heapB aw1] 0 aw1 rfl awG1 (by omega)) (by simp) ?_
  rw [awE2]
  rintro _ _ ⟨rfl, rfl⟩
  simp
  refine CallB.intro (htake_ok [heapB aw2] 0 aw2 rfl awG2 (by omega)) (by simp) ?_
  rw [awE3]
  rintro _ _ ⟨rfl, rfl⟩
  simp
  rw [frz_heap0 (b := 0) (q := aw3) rfl]
  refine CallB.introP (hpeek_ok aw3 (by decide)) (by simp) (by simp) ?_
  rw [show peekV aw3 = 3 by kernel_rfl]
  simp
  refine CallB.intro (hput_ok [heapB aw3] 0 aw3 rfl awG3 (by omega) 2) (by simp) ?_
  rw [awE4]
  rintro _ _ ⟨rfl, rfl⟩
  simp
  refine CallB.intro (hput_ok [heapB aw4] 0 aw4 rfl awG4 (by omega) 2) (by simp) ?_
  rw [awE5]
  rintro _ _ ⟨rfl, rfl⟩
  simp
  refine CallB.intro (hbump_ok [heapB aw4] 0 aw4 rfl awG4 (by omega) 4 1) (by simp) ?_
  rw [awE6]
  rintro _ _ ⟨rfl, rfl⟩
  simp
  refine CallB.intro (hbump_ok [heapB aw4] 0 aw4 rfl awG4 (by omega) 1 (-1)) (by simp) ?_
  rw [awE7]
  rintro _ _ ⟨rfl, rfl⟩
  simp
  refine CallB.intro (hhalve_ok [heapB aw4] 0 aw4 rfl (by decide) awG4.inr (by decide) (by decide) (by decide)) (by simp) ?_
  rw [awE8]
  rintro _ _ ⟨rfl, rfl⟩
  simp
  refine CallK.introM (hnew_ok [heapB aw5] (-1)) (by simp) ?_
  rintro _ _ hR
  rw [if_neg (by omega)] at hR
  obtain ⟨rfl, rfl⟩ := hR
  simp
  rw [frz_heap0 (b := 0) (q := aw5) rfl]
  refine CallB.introP (hscore_ok aw5 (by decide) 2) (by simp) (by simp) ?_
  rw [show scoreV aw5 2 = 2 by kernel_rfl]
  simp
  rw [frz_heap0 (b := 0) (q := aw5) rfl]
  refine CallB.introP (hlen_ok aw5 (by decide)) (by simp) (by simp) ?_
  rw [show aw5.row.length = 2 by kernel_rfl]
  simp
  rw [frz_heap0 (b := 0) (q := aw5) rfl]
  refine CallB.introP (hhas_ok aw5 (by decide) (by decide) 3) (by simp) (by simp) ?_
  rw [show (isV aw5 3 && decide (0 ≤ aw5.pl.getD (3 : Int).toNat 0)) = true by kernel_rfl]
  simp
  rw [frz_heap0 (b := 0) (q := aw5) rfl]
  refine CallB.introP (hhas_ok aw5 (by decide) (by decide) 1) (by simp) (by simp) ?_
  rw [show (isV aw5 1 && decide (0 ≤ aw5.pl.getD (1 : Int).toNat 0)) = false by kernel_rfl]
  simp
  rw [frz_heap0 (b := 0) (q := aw5) rfl]
  refine CallB.introP (hpeek_ok aw5 (by decide)) (by simp) (by simp) ?_
  rw [show peekV aw5 = 2 by kernel_rfl]
  simp
  refine CallG.intro (fun _ => hbump_nil 1 1) (by simp) ?_
  simp
  refine CallG.intro (fun _ => htake_nil) (by simp) ?_
  simp

structure HAct where
  kind : Int
  v : Int
  by' : Int
def hactV (a : HAct) : PV := .agg [I64 a.kind, I64 a.v, I64 a.by']
def doS (q : HS) (a : HAct) : HS × Int × Int :=
  if a.kind = 0 then ((bumpS q a.v a.by').1, 0, (bumpS q a.v a.by').2) else
  if a.kind = 1 then ((putS q a.v).1, 0, (putS q a.v).2) else
  if a.kind = 2 then ((takeS' q).1, (takeS' q).2, 0) else (halveS q, 0, 0)
theorem do_good {n : Nat} {q : HS} (g : HpG n 1000000000000 q) (a : HAct) : HpG n 1000000000000 (doS q a).1 := by
  unfold doS
  split
  · exact (bump_good g _ _).1
  split
  · exact (put_good g _).1
  split
  · exact (take_good g).1
  · exact (halve_good (M := 1000000000000) (g.mono (by omega)) (by omega) (by omega)).1

theorem belowH_set {k : Nat} {x : List SV} (hx : belowC k x) : ∀ {h : List (List SV)} (b : Nat), belowH k h → belowH k (h.set b x)
  | [], _, _ => trivial
  | _ :: _, 0, hh => ⟨hx, hh.2⟩
  | _ :: _, b + 1, hh => ⟨hh.1, belowH_set hx b hh.2⟩
theorem belowC_heapB (k : Nat) (q : HS) : belowC k (heapB q) := ⟨belowR_irow k _, belowR_irow k _, belowR_irow k _, trivial⟩
/-- A call that leaves the blocks h1; its own are let go. -/
theorem amutXD {P : Program} (bad : List Nat) {f : FuncId} {fn : Func} {c : Code} {args : List PV} {h : List (List SV)} {R : SV → Prop} (rs : List ResultVar) (h1 : List (List SV)) (hl : h.length ≤ h1.length) (hbl : belowH h.length h → belowH h1.length h1) (hmo : P.follows .mixedOrders = true) (hf : P.funcs[f]? = some fn) (hcall : callable P f = true) (hb : fn.body = some c)
    (hr : fn.results = rs.toArray) (hok : okC fn.ntmps bad c = true) (hn : args.length ≤ fn.ntmps) (hA : AC P h.length bad c (endQ (retXP P rs h1 R)) ⟨argT 0 args, h⟩) : AMut P f args h (fun r h' => h' = h1 ∧ R r) := by
  refine ⟨hcall, fun g st a w vs hs hh hv => ?_⟩
  have hbel : belowH h1.length h1 := hbl (by have := hs.belH; rwa [hs.n, hh] at this)
  have key := amut_of (R := fun r h' => h' = h1 ∧ R r) hmo hf hcall hb hok hn hA fun g' st' a' w' hk hn0 s' => ?_
  · exact key.2 g st a w vs hs hh hv
  · obtain ⟨k1, k2, k3, k4⟩ := hk
    obtain ⟨g2, t2, l2, n2, s2, vs2, e2, f2⟩ := resL_ok rs s' k1
    obtain ⟨v, e3, f3⟩ := results_run hr (resL_len rs st') e2 f2
    have s3 := s2.weak (st' := ⟨[], (resL P st' rs).2.1.h⟩) rfl fun s => .inr rfl
    obtain ⟨t4, s4⟩ := Sim.dropB (st := ⟨[], (resL P st' rs).2.1.h⟩) (h1 := h1) k2 (ht := trivial) hbel (hs := s3) (h0 := by rw [t2.n0]; exact Nat.le_trans hn0 hl)
    obtain ⟨bl4, hb4⟩ := s4.own
    exact ⟨v, _, _, _, bl4, none, e3, t2.trans t4, s4, hb4, ⟨rfl, k4⟩, ⟨rfl, Fit.below _ _ k3 f3⟩, rfl, fun c hc => by cases hc⟩

set_option maxRecDepth 16000 in
theorem hdo_ok (h : List (List SV)) (b : Nat) (q : HS) (hb : h[b]? = some (heapB q)) {n : Nat} (g : HpG n 1000000000000 q) (hn : n ≤ 100000) (a : HAct) :
    AMut Try.prog 50 [.ptr b 0, hactV a] h (fun r h' => h' = h.set b (heapB (doS q a).1) ∧ r = .pv (.tup [I64 (doS q a).2.1, I64 (doS q a).2.2])) := by
  refine amutXD [] [.tmp 4, .tmp 5] (h.set b (heapB (doS q a).1)) (by simp) (fun hh => by rw [List.length_set]; exact belowH_set (belowC_heapB _ _) b hh) hmo Try.func50 (by kernel_rfl) rfl rfl (by kernel_rfl) (Nat.le_of_ble_eq_true rfl) ?_
  obtain ⟨hlt, hb'⟩ := List.getElem?_eq_some_iff.1 hb
  obtain ⟨kind, v, by'⟩ := a
  obtain ⟨F, hF⟩ : ∃ F, doS q ⟨kind, v, by'⟩ = F := ⟨_, rfl⟩
  rw [hF]
  unfold doS at hF
  dsimp only at hF
  simp only [hactV]
  have hb1 : (h ++ [[SV.pv (I64 kind), SV.pv (I64 v), SV.pv (I64 by')]])[b]? = some (heapB q) := by rw [List.getElem?_append_left hlt]; exact hb
  have hset : ∀ x, (h ++ [[SV.pv (I64 kind), SV.pv (I64 v), SV.pv (I64 by')]]).set b x = h.set b x ++ [[SV.pv (I64 kind), SV.pv (I64 v), SV.pv (I64 by')]] := fun x => List.set_append_left _ _ hlt
  have h1 := hbump_ok _ b q hb1 g hn v by'
  have h2 := hput_ok _ b q hb1 g hn v
  have h3 := htake_ok _ b q hb1 g hn
  have h4 := hhalve_ok _ b q hb1 (by rw [g.sl]; omega) (by rw [g.pll]; exact g.inr) (by rw [g.pll, g.sl]) (by have := g.few; omega) (by rw [g.sl]; omega)
  rw [hset] at h1 h2 h3 h4
  by_cases c0 : kind = 0
  · rw [if_pos c0] at hF
    subst hF c0
    simp
    refine CallB.intro h1 (by simp) ?_
    rintro _ _ ⟨rfl, rfl⟩
    simp
  rw [if_neg c0] at hF
  by_cases c1 : kind = 1
  · rw [if_pos c1] at hF
    subst hF c1
    simp
    refine CallB.intro h2 (by simp) ?_
    rintro _ _ ⟨rfl, rfl⟩
    simp
  rw [if_neg c1] at hF
  by_cases c2 : kind = 2
  · rw [if_pos c2] at hF
    subst hF c2
    simp
    refine CallB.intro h3 (by simp) ?_
    rintro _ _ ⟨rfl, rfl⟩
    simp
  · rw [if_neg c2] at hF
    subst hF
    simp [c0, c1, c2]
    refine CallB.intro h4 (by simp) ?_
    rintro _ _ ⟨rfl, rfl⟩
    simp

end Go.AX

namespace Go.AX
open Go.Proofs
set_option linter.unusedSimpArgs false

def hactR (a : HAct) : List PV := [I64 a.kind, I64 a.v, I64 a.by']
def hvec (l : List HAct) : PV := .seq false 3 (l.map hactR)
@[simp] theorem belowR_hact (k : Nat) (l : List HAct) : belowR k (l.map hactR) := by
  induction l with
  | nil => trivial
  | cons x xs ih => exact ⟨⟨trivial, trivial, trivial, trivial⟩, ih⟩
def dosL (q : HS) (l : List HAct) : HS := l.foldl (fun q a => (doS q a).1) q
theorem dosL_good {n : Nat} : ∀ {l : List HAct} {q : HS}, HpG n 1000000000000 q → HpG n 1000000000000 (dosL q l)
  | [], _, g => g
  | _ :: l, _, g => dosL_good (l := l) (do_good g _)
theorem dosL_snoc {q : HS} {l : List HAct} {i : Nat} (h : i < l.length) : dosL q (l.take (i + 1)) = (doS (dosL q (l.take i)) l[i]).1 := by
  rw [List.take_succ_eq_append_getElem h, dosL, List.foldl_append]; rfl
theorem HpG.scoreV {n : Nat} {M : Int} {q : HS} (g : HpG n M q) (h0 : 0 ≤ M) (v : Int) : 0 ≤ scoreV q v ∧ scoreV q v ≤ M := by
  unfold AX.scoreV
  split
  · have := g.score v.toNat; exact ⟨this.1, this.2 h0⟩
  · omega
theorem scoreV_half {n : Nat} {q : HS} (g : HpG n 1000000000000 q) (v : Int) : scoreV (halveS q) v = scoreV q v / 2 := by
  have hs := (halve_good (M := 1000000000000) (g.mono (by omega)) (by omega) (by omega)).2.2
  have hl : (halveS q).sc.length = q.sc.length := by rw [hs]; simp
  unfold AX.scoreV isV
  rw [hl]
  split
  · rename_i c
    simp only [Bool.and_eq_true, decide_eq_true_eq] at c
    have : v.toNat < q.sc.length := by omega
    simp [hs, List.getD_eq_getElem?_getD, this]
  · rfl

set_option maxRecDepth 16000 in
theorem heapDecays_ok (vars : Int) (l : List HAct) (p0 p1 : Int) : APure Try.prog 13 [I64 vars, hvec l, .agg [I64 p0, I64 p1]] (fun r => r = .pv (BL true)) := by
  refine apure1B [13, 15] hmo Try.func13 (by kernel_rfl) rfl rfl (by kernel_rfl) (Nat.le_of_ble_eq_true rfl) ?_
  by_cases c1 : 100 < l.length ∨ 300 < vars
  · rcases c1 with c1 | c1
    · have c1' : 100 < (l.length : Int) := by omega
      simp [hvec, c1, c1']
      exact CallK.intro hawake_ok (by simp) (by simp)
    · by_cases c2 : 100 < l.length
      · have c2' : 100 < (l.length : Int) := by omega
        simp [hvec, c1, c2, c2']
        exact CallK.intro hawake_ok (by simp) (by simp)
      · have c2' : ¬ 100 < (l.length : Int) := by omega
        simp [hvec, c1, c2, c2']
        exact CallK.intro hawake_ok (by simp) (by simp)
  have c2 : ¬ 100 < (l.length : Int) := by omega
  have c2' : ¬ 100 < l.length := by omega
  have c3 : ¬ 300 < vars := by omega
  simp [hvec, c2, c2', c3]
  refine CallK.introM (hnew_ok [[.pv (I64 p0), .pv (I64 p1)]] vars) (by simp) ?_
  rintro _ _ hR
  by_cases c4 : 0 ≤ vars ∧ vars ≤ 100000
  rotate_left
  · rw [if_neg c4] at hR
    obtain ⟨rfl, rfl⟩ := hR
    simp
    refine CallK.intro hawake_ok (by simp) (by simp)
  · rw [if_pos c4] at hR
    obtain ⟨rfl, rfl⟩ := hR
    obtain ⟨n, hn⟩ : ∃ n, vars.toNat = n := ⟨_, rfl⟩
    rw [hn]
    simp
    refine ALoop.intro (S := fun (i : Nat) => ⟨[(1, .pv (.seq false 3 (l.map hactR))), (5, .pv (.ptr 0 0)), (7, .pv (.ptr 1 0)), (9, .pv (I64 i))], [[.pv (I64 p0), .pv (I64 p1)], heapB (dosL (newS n) (l.take i))]⟩) (fun i => i ≤ l.length) (fun i => l.length - i) 0 ?_ ?_ ?_
    · exact Weak.keep (by simp) (by simp [dosL])
    · omega
    · intro i hi
      have g := dosL_good (l := l.take i) (new_good n)
      by_cases c5 : i < l.length
      · have hsn := dosL_snoc (q := newS n) c5
        obtain ⟨a, ha⟩ : ∃ a, l[i] = a := ⟨_, rfl⟩
        rw [ha] at hsn
        have g2 := do_good g a
        have hq : 0 < (doS (dosL (newS n) (l.take i)) a).1.sc.length := by rw [g2.sl]; omega
        have hsc := hscore_ok _ hq a.v
        have hsv := g2.scoreV (by omega) a.v
        have hd := hdo_ok [[.pv (I64 p0), .pv (I64 p1)], heapB (dosL (newS n) (l.take i))] 1 _ rfl g (by omega) a
        rw [← hsn] at hd hsc hsv
        generalize dosL (newS n) (l.take i) = q at *
        obtain ⟨q2, hq2⟩ : ∃ q2, dosL (newS n) (l.take (i + 1)) = q2 := ⟨_, rfl⟩
        rw [hq2] at hd hsc hsv
        simp [c5, ha, hactR]
        refine CallB.intro hd (by simp) ?_
        rintro _ _ ⟨rfl, rfl⟩
        have hn1 : ¬ scoreV q2 a.v < 0 := by omega
        have hn2 : ¬ 1000000000000 < scoreV q2 a.v := by omega
        simp [c5, ha, hactR]
        rw [frz_heap0 (b := 1) (q := q2) rfl]
        refine CallB.introP hsc (by simp) (by simp) ?_
        have hw : w64 ((i : Int) + 1) = ((i + 1 : Nat) : Int) := by rw [w64_id (by omega) (by omega)]; omega
        simp [hn1, hn2]
        refine ⟨i + 1, by dsimp only; omega, by dsimp only; omega, Weak.keep ?_ ?_⟩
        · simp [hw]
        · simp [hq2]
      · have : i = l.length := by omega
        subst this
        simp
        rw [List.take_length] at g
        generalize dosL (newS n) l = q at *
        have hq : 0 < q.sc.length := by rw [g.sl]; omega
        have hs0 := hscore_ok q hq p0
        have hs1 := hscore_ok q hq p1
        refine AAnyD.meet (.take 0 (.take 1 (.take 4 (.take 5 (.fork [(2, .fork [(3, .fork [(6, .fork [(7, .fork [(8, .fork [(9, .done)])])])]), (6, .fork [(3, .fork [(7, .fork [(8, .fork [(9, .done)])])])])]), (6, .fork [(2, .fork [(3, .fork [(7, .fork [(8, .fork [(9, .done)])])])])])])))))
          ⟨[(5, .pv (.ptr 0 0)), (7, .pv (.ptr 1 0)), (11, .pv (I64 (scoreV q p0))), (12, .pv (I64 (scoreV q p1)))], [[.pv (I64 p0), .pv (I64 p1)], heapB q]⟩ (by kernel_rfl) ?_ ?_
        · simp
          rw [frz_heap0 (b := 1) (q := q) rfl]
          refine ⟨⟨?_, ?_⟩, ?_⟩
          all_goals
            refine CallB.introP hs0 (by simp) (by simp) ?_
            simp
            rw [frz_heap0 (b := 1) (q := q) rfl]
            refine CallB.introP hs1 (by simp) (by simp) ?_
            simp
            exact Weak.keep (by simp) rfl
        · have hhv := hhalve_ok [[.pv (I64 p0), .pv (I64 p1)], heapB q] 1 q rfl hq (by rw [g.pll]; exact g.inr) (by rw [g.pll, g.sl]) (by have := g.few; omega) (by rw [g.sl]; omega)
          have gh := (halve_good (M := 1000000000000) (g.mono (by omega)) (by omega) (by omega)).1
          have hh0 := scoreV_half g p0
          have hh1 := scoreV_half g p1
          simp
          refine CallB.intro hhv (by simp) ?_
          rintro _ _ ⟨rfl, rfl⟩
          have ht0 := hscore_ok (halveS q) (by rw [gh.sl]; omega) p0
          have ht1 := hscore_ok (halveS q) (by rw [gh.sl]; omega) p1
          rw [hh0] at ht0
          rw [hh1] at ht1
          generalize halveS q = q2 at *
          simp
          refine AAnyD.meet (.take 0 (.take 1 (.take 4 (.take 5 (.fork [(2, .fork [(3, .fork [(6, .fork [(7, .fork [(8, .fork [(9, .done)])])])]), (6, .fork [(3, .fork [(7, .fork [(8, .fork [(9, .done)])])])])]), (6, .fork [(2, .fork [(3, .fork [(7, .fork [(8, .fork [(9, .done)])])])])])])))))
            ⟨[(11, .pv (I64 (scoreV q p0))), (12, .pv (I64 (scoreV q p1))), (13, .pv (I64 (scoreV q p0 / 2))), (14, .pv (I64 (scoreV q p1 / 2)))], [[.pv (I64 p0), .pv (I64 p1)], heapB q2]⟩ (by kernel_rfl) ?_ ?_
          · simp
            rw [frz_heap0 (b := 1) (q := q2) rfl]
            refine ⟨⟨?_, ?_⟩, ?_⟩
            all_goals
              refine CallB.introP ht0 (by simp) (by simp) ?_
              simp
              rw [frz_heap0 (b := 1) (q := q2) rfl]
              refine CallB.introP ht1 (by simp) (by simp) ?_
              simp
              exact Weak.keep (by simp) rfl
          · have r0 := g.scoreV (by omega) p0
            have r1 := g.scoreV (by omega) p1
            generalize AX.scoreV q p0 = a at *
            generalize AX.scoreV q p1 = b at *
            have e0 : w64 (Int.tdiv a 2) = a / 2 := half_eq r0.1 (by omega)
            have e1 : w64 (Int.tdiv b 2) = b / 2 := half_eq r1.1 (by omega)
            have hor : b < a ∨ a / 2 ≤ b / 2 := by omega
            simp [e0, e1]
            refine CallG.intro (r := .pv (BL true)) (fun _ => hawake_ok) (by simp) ?_
            simp [hor]

end Go.AX

namespace Go.AX
open Go.Proofs
set_option linter.unusedSimpArgs false

theorem hhas_in {n : Nat} {M : Int} {q : HS} (g : HpG n M q) {v : Int} (hv : v ∈ q.row) : APure Try.prog 58 [.iptr 3 [heapR q] 0 0, I64 v] (fun r => r = .pv (BL true)) := by
  have h := hhas_ok q (by rw [g.sl]; omega) (by rw [g.pll, g.sl]) v
  have hv1 := g.inr v hv
  have hv2 : 1 ≤ v ∧ v ≤ n := by omega
  rw [g.isV_iff.2 hv2, decide_eq_true ((g.has_iff hv2).2 hv)] at h
  exact h
theorem hhas_out {n : Nat} {M : Int} {q : HS} (g : HpG n M q) {v : Int} (hv2 : 1 ≤ v ∧ v ≤ n) (hv : ¬ v ∈ q.row) : APure Try.prog 58 [.iptr 3 [heapR q] 0 0, I64 v] (fun r => r = .pv (BL false)) := by
  have h := hhas_ok q (by rw [g.sl]; omega) (by rw [g.pll, g.sl]) v
  rw [g.isV_iff.2 hv2, decide_eq_false (fun h => hv ((g.has_iff hv2).1 h))] at h
  exact h
theorem hscore_at {n : Nat} {M : Int} {q : HS} (g : HpG n M q) {v : Int} (hv2 : 1 ≤ v ∧ v ≤ n) : APure Try.prog 56 [.iptr 3 [heapR q] 0 0, I64 v] (fun r => r = .pv (I64 (q.sc.getD v.toNat 0))) := by
  have h := hscore_ok q (by rw [g.sl]; omega) v
  unfold scoreV at h
  rw [g.isV_iff.2 hv2] at h
  exact h

structure TopJ (n N : Nat) (i : Nat) (q : HS) (last : Int) : Prop where
  g : HpG n 1000000000000 q
  len : q.row.length + i = N
  last : last = 0 ∨ (1 ≤ last ∧ last ≤ n ∧ ∀ x ∈ q.row, bet q.sc last x = true)

set_option maxRecDepth 16000 in
theorem heapTops_ok (vars : Int) (l : List HAct) : APure Try.prog 12 [I64 vars, hvec l] (fun r => r = .pv (BL true)) := by
  refine apure1 hmo Try.func12 (by kernel_rfl) rfl rfl (by kernel_rfl) (Nat.le_of_ble_eq_true rfl) ?_
  by_cases c1 : 100 < l.length ∨ 300 < vars
  · rcases c1 with c1 | c1
    · have c1' : 100 < (l.length : Int) := by omega
      simp [hvec, c1, c1']
      exact CallK.intro hawake_ok (by simp) (by simp)
    · by_cases c2 : 100 < l.length
      · have c2' : 100 < (l.length : Int) := by omega
        simp [hvec, c1, c2, c2']
        exact CallK.intro hawake_ok (by simp) (by simp)
      · have c2' : ¬ 100 < (l.length : Int) := by omega
        simp [hvec, c1, c2, c2']
        exact CallK.intro hawake_ok (by simp) (by simp)
  have c2 : ¬ 100 < (l.length : Int) := by omega
  have c2' : ¬ 100 < l.length := by omega
  have c3 : ¬ 300 < vars := by omega
  simp [hvec, c2, c2', c3]
  refine CallK.introM (hnew_ok [] vars) (by simp) ?_
  rintro _ _ hR
  by_cases c4 : 0 ≤ vars ∧ vars ≤ 100000
  rotate_left
  · rw [if_neg c4] at hR
    obtain ⟨rfl, rfl⟩ := hR
    have c5 : vars < 0 := by omega
    simp [c5]
    refine CallG.intro (r := .pv (BL true)) (fun _ => hawake_ok) (by simp) ?_
    simp
  · rw [if_pos c4] at hR
    obtain ⟨rfl, rfl⟩ := hR
    obtain ⟨n, hn⟩ : ∃ n, vars.toNat = n := ⟨_, rfl⟩
    rw [hn]
    simp
    refine ALoop.intro (S := fun (i : Nat) => ⟨[(1, .pv (.seq false 3 (l.map hactR))), (5, .pv (.ptr 0 0)), (7, .pv (I64 i))], [heapB (dosL (newS n) (l.take i))]⟩) (fun i => i ≤ l.length) (fun i => l.length - i) 0 ?_ ?_ ?_
    · exact Weak.keep (by simp) (by simp [dosL])
    · omega
    · intro i hi
      have g := dosL_good (l := l.take i) (new_good n)
      by_cases c5 : i < l.length
      · have hsn := dosL_snoc (q := newS n) c5
        obtain ⟨a, ha⟩ : ∃ a, l[i] = a := ⟨_, rfl⟩
        rw [ha] at hsn
        have hd := hdo_ok [heapB (dosL (newS n) (l.take i))] 0 _ rfl g (by omega) a
        rw [← hsn] at hd
        generalize dosL (newS n) (l.take i) = q at *
        obtain ⟨q2, hq2⟩ : ∃ q2, dosL (newS n) (l.take (i + 1)) = q2 := ⟨_, rfl⟩
        rw [hq2] at hd
        simp [c5, ha, hactR]
        refine CallB.intro hd (by simp) ?_
        rintro _ _ ⟨rfl, rfl⟩
        have hw : w64 ((i : Int) + 1) = ((i + 1 : Nat) : Int) := by rw [w64_id (by omega) (by omega)]; omega
        simp
        refine ⟨i + 1, by dsimp only; omega, by dsimp only; omega, Weak.keep ?_ ?_⟩
        · simp [hw]
        · simp [hq2]
      · have : i = l.length := by omega
        subst this
        simp
        rw [List.take_length] at g
        generalize dosL (newS n) l = q at *
        have hq : 0 < q.sc.length := by rw [g.sl]; omega
        have hl0 := hlen_ok q hq
        have hfew := g.few
        obtain ⟨N, hN⟩ : ∃ N, q.row.length = N := ⟨_, rfl⟩
        rw [hN] at hl0 hfew
        rw [frz_heap0 (b := 0) (q := q) rfl]
        refine CallB.introP hl0 (by simp) (by simp) ?_
        simp
        refine ALoop.intro (S := fun (x : Nat × HS × Int) => ⟨[(5, .pv (.ptr 0 0)), (8, .pv (I64 N)), (9, .pv (I64 x.2.2)), (10, .pv (I64 x.1))], [heapB x.2.1]⟩) (fun x => TopJ n N x.1 x.2.1 x.2.2) (fun x => N - x.1) (0, q, 0) ?_ ?_ ?_
        · exact Weak.keep (by simp) (by simp)
        · exact ⟨g, by simpa using hN, .inl rfl⟩
        · rintro ⟨i, p, last⟩ ⟨gp, hlp, hlast⟩
          dsimp only at gp hlp hlast
          have hp : 0 < p.sc.length := by rw [gp.sl]; omega
          by_cases c6 : i < N
          · obtain ⟨K, hK⟩ : ∃ K, p.row.length = K + 1 := ⟨p.row.length - 1, by omega⟩
            have hw1 : w64 ((N : Int) - i) = (K : Int) + 1 := by rw [w64_id (by omega) (by omega)]; omega
            have hl1 := hlen_ok p hp
            have hp1 := hpeek_ok p hp
            rw [hK] at hl1
            have hp0 : peekV p ≠ 0 := fun h => by have := gp.peek_zero.1 h; rw [this] at hK; simp at hK
            obtain ⟨v, hv⟩ : ∃ v, peekV p = v := ⟨_, rfl⟩
            have hvm := gp.peek_mem hp0
            have hvb := fun x hx hne => gp.best (x := x) hx hne
            obtain ⟨g2, t1, t2, t3, _⟩ := take_good gp
            have t3 := t3 hp0
            have htk := htake_ok [heapB p] 0 p rfl gp (by omega)
            rw [hv] at hp1 hvm hvb t2 t3
            rw [t2] at htk
            have hvi := gp.inr v hvm
            have hvi2 : 1 ≤ v ∧ v ≤ n := by omega
            have hh1 := hhas_in gp hvm
            obtain ⟨q2, hq2⟩ : ∃ q2, (takeS' p).1 = q2 := ⟨_, rfl⟩
            rw [hq2] at g2 t1 t3 htk
            have hnd := t3.nodup_iff.1 gp.nd
            rw [List.nodup_cons] at hnd
            have hh2 := hhas_out g2 hvi2 hnd.1
            have hs2 := hscore_at g2 hvi2
            rw [t1] at hs2
            have hlen2 := t3.length_eq
            have J2 : TopJ n N (i + 1) q2 v := ⟨g2, by simp only [List.length_cons] at hlen2; omega, .inr ⟨hvi2.1, hvi2.2, fun x hx => by
              rw [t1]
              exact hvb x (t3.mem_iff.2 (List.mem_cons_of_mem _ hx)) (fun e => hnd.1 (e ▸ hx))⟩⟩
            simp [c6]
            rw [frz_heap0 (b := 0) (q := p) rfl]
            refine CallB.introP hl1 (by simp) (by simp) ?_
            simp [hw1]
            rw [frz_heap0 (b := 0) (q := p) rfl]
            refine CallB.introP hp1 (by simp) (by simp) ?_
            simp
            rw [frz_heap0 (b := 0) (q := p) rfl]
            refine CallB.introP hh1 (by simp) (by simp) ?_
            simp
            refine CallB.intro htk (by simp) ?_
            rintro _ _ ⟨rfl, rfl⟩
            simp
            rw [frz_heap0 (b := 0) (q := q2) rfl]
            refine CallB.introP hh2 (by simp) (by simp) ?_
            have hw : w64 ((i : Int) + 1) = ((i + 1 : Nat) : Int) := by rw [w64_id (by omega) (by omega)]; omega
            rcases hlast with rfl | ⟨k1, k2, k3⟩
            · simp
              refine ⟨(i + 1, q2, v), by dsimp only; omega, J2, Weak.keep ?_ ?_⟩
              · simp [hw]
              · simp
            · have hb := bet_iff.1 (k3 v hvm)
              have hs3 := hscore_at g2 (v := last) ⟨k1, k2⟩
              rw [t1] at hs3
              have k0 : 0 < last := by omega
              obtain ⟨a, ha⟩ : ∃ a, p.sc.getD v.toNat 0 = a := ⟨_, rfl⟩
              obtain ⟨b, hb'⟩ : ∃ b, p.sc.getD last.toNat 0 = b := ⟨_, rfl⟩
              rw [ha] at hs2 hb
              rw [hb'] at hs3 hb
              have m1 : ¬ b < a := by omega
              simp [k0]
              rw [frz_heap0 (b := 0) (q := q2) rfl]
              refine CallB.introP hs2 (by simp) (by simp) ?_
              simp
              rw [frz_heap0 (b := 0) (q := q2) rfl]
              refine CallB.introP hs3 (by simp) (by simp) ?_
              simp [m1]
              rw [frz_heap0 (b := 0) (q := q2) rfl]
              refine CallB.introP hs2 (by simp) (by simp) ?_
              simp
              rw [frz_heap0 (b := 0) (q := q2) rfl]
              refine CallB.introP hs3 (by simp) (by simp) ?_
              have m2 : (decide (a = b) && decide (v ≤ last)) = false := by
                rw [Bool.and_eq_false_iff]; simp only [decide_eq_false_iff_not]; omega
              rcases hb with hb | ⟨hb, hb2⟩
              · have m3 : ¬ a = b := by omega
                simp [m3]
                refine ⟨(i + 1, q2, v), by dsimp only; omega, J2, Weak.keep ?_ ?_⟩
                · simp [hw]
                · simp
              · have m3 : a = b := hb.symm
                have m4 : ¬ v ≤ last := by omega
                simp [m3, m4]
                refine ⟨(i + 1, q2, v), by dsimp only; omega, J2, Weak.keep ?_ ?_⟩
                · simp [hw]
                · simp
          · have hp0 : p.row.length = 0 := by omega
            have hpn : peekV p = 0 := gp.peek_zero.2 (List.eq_nil_of_length_eq_zero hp0)
            have hl1 := hlen_ok p hp
            rw [hp0] at hl1
            have htk := htake_ok [heapB p] 0 p rfl gp (by omega)
            rw [takeS_none hpn] at htk
            simp [c6]
            rw [frz_heap0 (b := 0) (q := p) rfl]
            refine CallB.introP hl1 (by simp) (by simp) ?_
            simp
            refine CallB.intro htk (by simp) ?_
            rintro _ _ ⟨rfl, rfl⟩
            simp
            refine CallG.intro (r := .pv (BL true)) (fun _ => hawake_ok) (by simp) ?_
            simp

end Go.AX
