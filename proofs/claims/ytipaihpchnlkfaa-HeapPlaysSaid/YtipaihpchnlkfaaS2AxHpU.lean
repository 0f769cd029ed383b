/-
  Contracts: the document's heaps.
  Contracts: what is done with the document's heaps.
  Contracts: what is awake (heaps), and a call.
  Contracts: HeapDecays.
  Contracts: HeapTops.
  Contracts: what the document does with a heap.
  Contracts: what the document does with a heap: in, out, and a call.
  The plain law: the heap tells what the document says.
  Contracts: HeapPlays.
-/
import Derived.Test.YtipaihpchnlkfaaS2AxHpG
import Derived.Test.YtipaihpchnlkfaaAxXW
namespace Go.AX
open Go.Proofs
set_option linter.unusedSimpArgs false

def rhV (S : List Int) (B : List Bool) : PV := .agg [.seq false 1 (irow S), .seq false 1 (brow B)]

theorem rscore_ok (S : List Int) (B : List Bool) (v : Int) (hS : S.length ≤ 1000000) : APure Try.prog 57 [rhV S B, I64 v] (fun r => r = .pv (I64 (if 1 ≤ v ∧ v ≤ S.length then S.getD (v.toNat - 1) 0 else 0))) := by
  refine apure1 hmo Try.func57 (by kernel_rfl) rfl rfl (by kernel_rfl) (Nat.le_of_ble_eq_true rfl) ?_
  by_cases c : 1 ≤ v ∧ v ≤ S.length
  · obtain ⟨k, hk⟩ : ∃ k : Nat, v = (k : Int) + 1 := ⟨(v - 1).toNat, by omega⟩
    subst hk
    have hw : w64 (k : Int) = (k : Int) := w64_id (by omega) (by omega)
    have c2 : k < S.length := by omega
    have c3 : (k : Int) + 1 ≤ (S.length : Int) := by omega
    have c4 : ¬ (k : Int) + 1 < 1 := by omega
    have c5 : ¬ (S.length : Int) < (k : Int) + 1 := by omega
    have c6 : 1 ≤ (k : Int) + 1 := by omega
    have c7 : ((k : Int) + 1).toNat - 1 = k := by omega
    simp [rhV, hw, c2, c3, c4, c5, c6, c7]
  · by_cases c1 : v < 1
    · have c2 : ¬ 1 ≤ v := by omega
      simp [rhV, c1, c2]
    · have c2 : (S.length : Int) < v := by omega
      have c3 : 1 ≤ v := by omega
      have c4 : ¬ v ≤ (S.length : Int) := by omega
      simp [rhV, c1, c2, c3, c4]
theorem rhas_ok (S : List Int) (B : List Bool) (v : Int) (hB : B.length ≤ 1000000) : APure Try.prog 59 [rhV S B, I64 v] (fun r => r = .pv (BL (decide (1 ≤ v) && (decide (v ≤ B.length) && B.getD (v.toNat - 1) false)))) := by
  refine apure1 hmo Try.func59 (by kernel_rfl) rfl rfl (by kernel_rfl) (Nat.le_of_ble_eq_true rfl) ?_
  by_cases c : 1 ≤ v ∧ v ≤ B.length
  · obtain ⟨k, hk⟩ : ∃ k : Nat, v = (k : Int) + 1 := ⟨(v - 1).toNat, by omega⟩
    subst hk
    have hw : w64 (k : Int) = (k : Int) := w64_id (by omega) (by omega)
    have c2 : k < B.length := by omega
    have c3 : (k : Int) + 1 ≤ (B.length : Int) := by omega
    have c6 : 1 ≤ (k : Int) + 1 := by omega
    have c7 : ((k : Int) + 1).toNat - 1 = k := by omega
    simp [rhV, hw, c2, c3, c6, c7]
  · by_cases c1 : 1 ≤ v
    · have c2 : ¬ v ≤ (B.length : Int) := by omega
      simp [rhV, c1, c2]
    · simp [rhV, c1]
def cntB (B : List Bool) : Nat := (B.filter id).length
theorem cntB_snoc {B : List Bool} {i : Nat} (h : i < B.length) : cntB (B.take (i + 1)) = cntB (B.take i) + (if B[i] then 1 else 0) := by
  rw [List.take_succ_eq_append_getElem h, cntB, List.filter_append, List.length_append]
  cases B[i] <;> simp [cntB]
theorem cntB_le (B : List Bool) : cntB B ≤ B.length := List.length_filter_le _ _
set_option maxRecDepth 16000 in
theorem rlen_ok (S : List Int) (B : List Bool) (hB : B.length ≤ 1000000) : APure Try.prog 53 [rhV S B] (fun r => r = .pv (I64 (cntB B))) := by
  refine apure1 hmo Try.func53 (by kernel_rfl) rfl rfl (by kernel_rfl) (Nat.le_of_ble_eq_true rfl) ?_
  simp [rhV]
  refine ALoop.intro (S := fun (i : Nat) => ⟨[(1, .pv (.ptr 0 0)), (3, .pv (I64 (cntB (B.take i)))), (4, .pv (I64 i))], [[.pv (.seq false 1 (irow S)), .pv (.seq false 1 (brow B))]]⟩) (fun i => i ≤ B.length) (fun i => B.length - i) 0 ?_ ?_ ?_
  · exact Weak.le (by simp [cntB]) (by simp)
  · omega
  · intro i hi
    by_cases c : i < B.length
    · have hw : w64 ((i : Int) + 1) = ((i + 1 : Nat) : Int) := by rw [w64_id (by omega) (by omega)]; omega
      have hcl := cntB_le (B.take i)
      have hci : cntB (B.take i) ≤ 1000000 := by simp at hcl; omega
      have hw2 : w64 ((cntB (B.take i) : Int) + 1) = ((cntB (B.take i) + 1 : Nat) : Int) := by rw [w64_id (by omega) (by omega)]; omega
      have hsn := cntB_snoc c
      cases hbi : B[i] with
      | true =>
        rw [hbi] at hsn
        simp at hsn
        simp [c, hbi, hw, hw2]
        refine ⟨i + 1, by dsimp only; omega, by dsimp only; omega, Weak.le ?_ (by simp)⟩
        simp [hw, hw2, hsn]
      | false =>
        rw [hbi] at hsn
        simp at hsn
        simp [c, hbi, hw]
        refine ⟨i + 1, by dsimp only; omega, by dsimp only; omega, Weak.le ?_ (by simp)⟩
        simp [hw, hsn]
    · have : i = B.length := by omega
      subst this
      simp

/-- The best one of those up to k. -/
def bestR (S : List Int) (B : List Bool) : Nat → Nat
  | 0 => 0
  | k + 1 => if B.getD k false = true ∧ (bestR S B k = 0 ∨ S.getD (bestR S B k - 1) 0 < S.getD k 0) then k + 1 else bestR S B k
theorem bestR_le (S : List Int) (B : List Bool) : ∀ k, bestR S B k ≤ k
  | 0 => Nat.le_refl _
  | k + 1 => by have := bestR_le S B k; rw [bestR]; split <;> omega
set_option maxRecDepth 16000 in
theorem rpeek_ok (S : List Int) (B : List Bool) (hS : S.length ≤ 1000000) (hB : B.length = S.length) : APure Try.prog 55 [rhV S B] (fun r => r = .pv (I64 (bestR S B S.length))) := by
  refine apure1 hmo Try.func55 (by kernel_rfl) rfl rfl (by kernel_rfl) (Nat.le_of_ble_eq_true rfl) ?_
  simp [rhV]
  refine ALoop.intro (S := fun (i : Nat) => ⟨[(1, .pv (.ptr 0 0)), (3, .pv (I64 (bestR S B i))), (4, .pv (I64 ((i : Int) + 1)))], [[.pv (.seq false 1 (irow S)), .pv (.seq false 1 (brow B))]]⟩) (fun i => i ≤ S.length) (fun i => S.length - i) 0 ?_ ?_ ?_
  · exact Weak.le (by simp [bestR]) (by simp)
  · omega
  · intro i hi
    by_cases c : i < S.length
    · have hw : w64 ((i : Int) + 1 + 1) = (i : Int) + 1 + 1 := w64_id (by omega) (by omega)
      have hw0 : w64 (i : Int) = (i : Int) := w64_id (by omega) (by omega)
      have hcB : i < B.length := by omega
      have hle : (i : Int) + 1 ≤ (S.length : Int) := by omega
      have hbl := bestR_le S B i
      have hbs : bestR S B (i + 1) = if B.getD i false = true ∧ (bestR S B i = 0 ∨ S.getD (bestR S B i - 1) 0 < S.getD i 0) then i + 1 else bestR S B i := rfl
      have hBi : B.getD i false = B[i] := by simp [hcB]
      have hSi : S.getD i 0 = S[i] := by simp [c]
      rw [hBi, hSi] at hbs
      generalize hbe : bestR S B i = m at *
      generalize hSe : S[i] = si at *
      cases hbi : B[i] with
      | false =>
        rw [hbi] at hbs
        simp at hbs
        simp [c, hcB, hle, hbi, hw0, hbe]
        refine ⟨i + 1, by dsimp only; omega, by dsimp only; omega, Weak.le ?_ (by simp)⟩
        simp [hw, hbs]
      | true =>
        rw [hbi] at hbs
        simp only [true_and] at hbs
        rcases Nat.eq_zero_or_pos m with h0 | h0
        · subst h0
          simp at hbs
          simp [c, hcB, hle, hbi, hw0, hbe]
          refine ⟨i + 1, by dsimp only; omega, by dsimp only; omega, Weak.le ?_ (by simp)⟩
          simp [hw, hbs]
        · obtain ⟨m', rfl⟩ : ∃ k, m = k + 1 := ⟨m - 1, by omega⟩
          have hw1 : w64 (m' : Int) = (m' : Int) := w64_id (by omega) (by omega)
          have hml : m' < S.length := by omega
          have hne : ¬ (m' : Int) + 1 = 0 := by omega
          obtain ⟨sm, hsm⟩ : ∃ x, S[m'] = x := ⟨_, rfl⟩
          have hsm2 : S.getD (m' + 1 - 1) 0 = sm := by rw [← hsm, Nat.add_sub_cancel]; simp [hml]
          rw [hsm2] at hbs
          simp [c, hcB, hle, hbi, hw0, hbe, hw1, hml, hne, hsm, hSe]
          refine ⟨fun d => ?_, fun d => ?_⟩
          · rw [if_pos (.inr d)] at hbs
            refine ⟨i + 1, by dsimp only; omega, by dsimp only; omega, Weak.le ?_ (by simp)⟩
            simp [hw, hbs]
          · rw [if_neg (by omega)] at hbs
            refine ⟨i + 1, by dsimp only; omega, by dsimp only; omega, Weak.le ?_ (by simp)⟩
            simp [hw, hbs]
    · have : i = S.length := by omega
      subst this
      have hle : ¬ (S.length : Int) + 1 ≤ S.length := by omega
      simp [hle]

end Go.AX

namespace Go.AX
open Go.Proofs
set_option linter.unusedSimpArgs false

def rnewS (vars : Int) : List Int × List Bool × Int := if 0 ≤ vars ∧ vars ≤ 100000 then (List.replicate vars.toNat 0, List.replicate vars.toNat true, 0) else ([], [], 2)
theorem brow_snoc (l : List Bool) (x : Bool) : brow l ++ [[BL x]] = brow (l ++ [x]) := by simp [brow]

set_option maxRecDepth 16000 in
theorem rnew_ok (h : List (List SV)) (vars : Int) : AMut Try.prog 49 [I64 vars] h (fun r h' => h' = h ∧ r = .pv (.tup [rhV (rnewS vars).1 (rnewS vars).2.1, I64 (rnewS vars).2.2])) := by
  refine amutXW [] [.cell 2 _, .tmp 3] hmo Try.func49 (by kernel_rfl) rfl rfl (by kernel_rfl) (Nat.le_of_ble_eq_true rfl) ?_
  by_cases c : 0 ≤ vars ∧ vars ≤ 100000
  rotate_left
  · have hr : rnewS vars = ([], [], 2) := if_neg c
    rw [hr]
    have c2 : vars < 0 ∨ 100000 < vars := by omega
    rcases c2 with c2 | c2
    · have c3 : ¬ 0 ≤ vars := by omega
      simp [c2, c3, rhV, irow, brow]
    · have c3 : 0 ≤ vars := by omega
      have c4 : ¬ vars ≤ 100000 := by omega
      have c5 : ¬ vars < 0 := by omega
      simp [c2, c3, c4, c5, rhV, irow, brow]
  · obtain ⟨n, hn⟩ := Int.eq_ofNat_of_zero_le c.1
    have hn' : vars = (n : Int) := hn
    subst hn'
    have hr : rnewS (n : Int) = (List.replicate n 0, List.replicate n true, 0) := by unfold rnewS; rw [if_pos c]; rfl
    rw [hr]
    have c2 : n ≤ 100000 := by omega
    have c3 : (n : Int) ≤ 100000 := by omega
    simp [c2, c3]
    refine ALoop.intro (S := fun (i : Nat) => ⟨[(0, .pv (I64 n)), (2, .pv (.ptr h.length 0)), (3, .pv (I64 0)), (4, .pv (.ptr (h.length + 1) 0)), (5, .pv (I64 i))], h ++ [[.pv (.lit (.slice none 0 0)), .pv (.lit (.slice none 0 0))], [.own true 1 (irow (List.replicate i 0)), .own true 1 (brow (List.replicate i true))]]⟩)
      (fun i => i ≤ n) (fun i => n - i) 0 ?_ ?_ ?_
    · refine (Weak.nilCell (b := h.length + 1) (k := 0) (xs := [.pv (.lit (.slice none 0 0)), .pv (.lit (.slice none 0 0))]) 1 true (by simp) (by simp)).trans ((Weak.nilCell (b := h.length + 1) (k := 1) (xs := [.own true 1 [], .pv (.lit (.slice none 0 0))]) 1 true (by simp) (by simp)).trans (Weak.keep (by simp) ?_))
      simp [irow, brow]
    · omega
    · intro i hi
      by_cases c4 : i < n
      · have hw : w64 ((i : Int) + 1) = ((i + 1 : Nat) : Int) := by rw [w64_id (by omega) (by omega)]; omega
        simp [c4]
        have hr1 : irow (List.replicate i 0) ++ [[I64 0]] = irow (List.replicate (i + 1) 0) := by
          rw [irow_snoc, List.replicate_succ']
        have hb1 : brow (List.replicate i true) ++ [[BL true]] = brow (List.replicate (i + 1) true) := by
          rw [brow_snoc, List.replicate_succ']
        refine ⟨by omega, by omega, i + 1, by dsimp only; omega, by dsimp only; omega, Weak.keep ?_ ?_⟩
        · simp [hw]
        · simp [← hr1, ← hb1]
      · have hie : i = n := by omega
        subst hie
        simp
        simp [rhV, wkPL, wkP]

end Go.AX

namespace Go.AX
open Go.Proofs
set_option linter.unusedSimpArgs false

theorem hbump_nil (v by' : Int) : APure Try.prog 92 [.lit (.pointer none), I64 v, I64 by'] (fun r => r = .pv (I64 1)) := by
  refine apure1 hmo Try.func92 (by kernel_rfl) rfl rfl (by kernel_rfl) (Nat.le_of_ble_eq_true rfl) ?_
  simp
  refine CallK.intro (hwhy_nil v) (by simp) ?_
  simp
theorem htake_nil : APure Try.prog 60 [.lit (.pointer none)] (fun r => r = .pv (I64 0)) := by
  refine apure1 hmo Try.func60 (by kernel_rfl) rfl rfl (by kernel_rfl) (Nat.le_of_ble_eq_true rfl) ?_
  simp
  refine CallK.intro hpeek_nil (by simp) ?_
  simp

def aw1 : HS := ⟨[0, 0, 5, 0], [2, 1, 3], [0, 1, 0, 2]⟩
def aw2 : HS := ⟨[0, 0, 5, 0], [1, 3], [0, 0, -1, 1]⟩
def aw3 : HS := ⟨[0, 0, 5, 0], [3], [0, -1, -1, 0]⟩
def aw4 : HS := ⟨[0, 0, 5, 0], [2, 3], [0, -1, 0, 1]⟩
def aw5 : HS := ⟨[0, 0, 2, 0], [2, 3], [0, -1, 0, 1]⟩
theorem awE1 : bumpS (newS 3) 2 5 = (aw1, 0) := by kernel_rfl
theorem awE2 : takeS' aw1 = (aw2, 2) := by kernel_rfl
theorem awE3 : takeS' aw2 = (aw3, 1) := by kernel_rfl
theorem awE4 : putS aw3 2 = (aw4, 0) := by kernel_rfl
theorem awE5 : putS aw4 2 = (aw4, 21) := by kernel_rfl
theorem awE6 : bumpS aw4 4 1 = (aw4, 10) := by kernel_rfl
theorem awE7 : bumpS aw4 1 (-1) = (aw4, 2) := by kernel_rfl
theorem awE8 : halveS aw4 = aw5 := by kernel_rfl
theorem awG1 : HpG 3 1000000000000 aw1 := by have := (bump_good (new_good 3) 2 5).1; rwa [awE1] at this
theorem awG2 : HpG 3 1000000000000 aw2 := by have := (take_good awG1).1; rwa [awE2] at this
theorem awG3 : HpG 3 1000000000000 aw3 := by have := (take_good awG2).1; rwa [awE3] at this
theorem awG4 : HpG 3 1000000000000 aw4 := by have := (put_good awG3 2).1; rwa [awE4] at this

set_option maxRecDepth 16000 in
theorem hawake_ok : APure Try.prog 47 [] (fun r => r = .pv (BL true)) := by
  refine apure1 hmo Try.func47 (by kernel_rfl) rfl rfl (by kernel_rfl) (Nat.le_of_ble_eq_true rfl) ?_
  simp
  refine CallK.introM (hnew_ok [] 3) (by simp) ?_
  rintro _ _ hR
  rw [if_pos (by omega)] at hR
  obtain ⟨rfl, rfl⟩ := hR
  simp
  refine CallB.intro (hbump_ok [heapB (newS 3)] 0 (newS 3) rfl (new_good 3) (by omega) 2 5) (by simp) ?_
  rw [awE1]
  rintro _ _ ⟨rfl, rfl⟩
  simp
  refine CallB.intro (htake_ok [heapB aw1] 0 aw1 rfl awG1 (by omega)) (by simp) ?_
  rw [awE2]
  rintro _ _ ⟨rfl, rfl⟩
  simp
  refine CallB.intro (htake_ok [heapB aw2] 0 aw2 rfl awG2 (by omega)) (by simp) ?_
  rw [awE3]
  rintro _ _ ⟨rfl, rfl⟩
  simp
  rw [frz_heap0 (b := 0) (q := aw3) rfl]
  refine CallB.introP (hpeek_ok aw3 (by decide)) (by simp) (by simp) ?_
  rw [show peekV aw3 = 3 by kernel_rfl]
  simp
  refine CallB.intro (hput_ok [heapB aw3] 0 aw3 rfl awG3 (by omega) 2) (by simp) ?_
  rw [awE4]
  rintro _ _ ⟨rfl, rfl⟩
  simp
  refine CallB.intro (hput_ok [heapB aw4] 0 aw4 rfl awG4 (by omega) 2) (by simp) ?_
  rw [awE5]
  rintro _ _ ⟨rfl, rfl⟩
  simp
  refine CallB.intro (hbump_ok [heapB aw4] 0 aw4 rfl awG4 (by omega) 4 1) (by simp) ?_
  rw [awE6]
  rintro _ _ ⟨rfl, rfl⟩
  simp
  refine CallB.intro (hbump_ok [heapB aw4] 0 aw4 rfl awG4 (by omega) 1 (-1)) (by simp) ?_
  rw [awE7]
  rintro _ _ ⟨rfl, rfl⟩
  simp
  refine CallB.intro (hhalve_ok [heapB aw4] 0 aw4 rfl (by decide) awG4.inr (by decide) (by decide) (by decide)) (by simp) ?_
  rw [awE8]
  rintro _ _ ⟨rfl, rfl⟩
  simp
  refine CallK.introM (hnew_ok [heapB aw5] (-1)) (by simp) ?_
  rintro _ _ hR
  rw [if_neg (by omega)] at hR
  obtain ⟨rfl, rfl⟩ := hR
  simp
  rw [frz_heap0 (b := 0) (q := aw5) rfl]
  refine CallB.introP (hscore_ok aw5 (by decide) 2) (by simp) (by simp) ?_
  rw [show scoreV aw5 2 = 2 by kernel_rfl]
  simp
  rw [frz_heap0 (b := 0) (q := aw5) rfl]
  refine CallB.introP (hlen_ok aw5 (by decide)) (by simp) (by simp) ?_
  rw [show aw5.row.length = 2 by kernel_rfl]
  simp
  rw [frz_heap0 (b := 0) (q := aw5) rfl]
  refine CallB.introP (hhas_ok aw5 (by decide) (by decide) 3) (by simp) (by simp) ?_
  rw [show (isV aw5 3 && decide (0 ≤ aw5.pl.getD (3 : Int).toNat 0)) = true by kernel_rfl]
  simp
  rw [frz_heap0 (b := 0) (q := aw5) rfl]
  refine CallB.introP (hhas_ok aw5 (by decide) (by decide) 1) (by simp) (by simp) ?_
  rw [show (isV aw5 1 && decide (0 ≤ aw5.pl.getD (1 : Int).toNat 0)) = false by kernel_rfl]
  simp
  rw [frz_heap0 (b := 0) (q := aw5) rfl]
  refine CallB.introP (hpeek_ok aw5 (by decide)) (by simp) (by simp) ?_
  rw [show peekV aw5 = 2 by kernel_rfl]
  simp
  refine CallG.intro (fun _ => hbump_nil 1 1) (by simp) ?_
  simp
  refine CallG.intro (fun _ => htake_nil) (by simp) ?_
  simp

structure HAct where
  kind : Int
  v : Int
  by' : Int
def hactV (a : HAct) : PV := .agg [I64 a.kind, I64 a.v, I64 a.by']
def doS (q : HS) (a : HAct) : HS × Int × Int :=
  if a.kind = 0 then ((bumpS q a.v a.by').1, 0, (bumpS q a.v a.by').2) else
  if a.kind = 1 then ((putS q a.v).1, 0, (putS q a.v).2) else
  if a.kind = 2 then ((takeS' q).1, (takeS' q).2, 0) else (halveS q, 0, 0)
theorem do_good {n : Nat} {q : HS} (g : HpG n 1000000000000 q) (a : HAct) : HpG n 1000000000000 (doS q a).1 := by
  unfold doS
  split
  · exact (bump_good g _ _).1
  split
  · exact (put_good g _).1
  split
  · exact (take_good g).1
  · exact (halve_good (M := 1000000000000) (g.mono (by omega)) (by omega) (by omega)).1

theorem belowH_set {k : Nat} {x : List SV} (hx : belowC k x) : ∀ {h : List (List SV)} (b : Nat), belowH k h → belowH k (h.set b x)
  | [], _, _ => trivial
  | _ :: _, 0, hh => ⟨hx, hh.2⟩
  | _ :: _, b + 1, hh => ⟨hh.1, belowH_set hx b hh.2⟩
theorem belowC_heapB (k : Nat) (q : HS) : belowC k (heapB q) := ⟨belowR_irow k _, belowR_irow k _, belowR_irow k _, trivial⟩
/-- A call that leaves the blocks h1; its own are let go. -/
theorem amutXD {P : Program} (bad : List Nat) {f : FuncId} {fn : Func} {c : Code} {args : List PV} {h : List (List SV)} {R : SV → Prop} (rs : List ResultVar) (h1 : List (List SV)) (hl : h.length ≤ h1.length) (hbl : belowH h.length h → belowH h1.length h1) (hmo : P.follows .mixedOrders = true) (hf : P.funcs[f]? = some fn) (hcall : callable P f = true) (hb : fn.body = some c)
    (hr : fn.results = rs.toArray) (hok : okC fn.ntmps bad c = true) (hn : args.length ≤ fn.ntmps) (hA : AC P h.length bad c (endQ (retXP P rs h1 R)) ⟨argT 0 args, h⟩) : AMut P f args h (fun r h' => h' = h1 ∧ R r) := by
  refine ⟨hcall, fun g st a w vs hs hh hv => ?_⟩
  have hbel : belowH h1.length h1 := hbl (by have := hs.belH; rwa [hs.n, hh] at this)
  have key := amut_of (R := fun r h' => h' = h1 ∧ R r) hmo hf hcall hb hok hn hA fun g' st' a' w' hk hn0 s' => ?_
  · exact key.2 g st a w vs hs hh hv
  · obtain ⟨k1, k2, k3, k4⟩ := hk
    obtain ⟨g2, t2, l2, n2, s2, vs2, e2, f2⟩ := resL_ok rs s' k1
    obtain ⟨v, e3, f3⟩ := results_run hr (resL_len rs st') e2 f2
    have s3 := s2.weak (st' := ⟨[], (resL P st' rs).2.1.h⟩) rfl fun s => .inr rfl
    obtain ⟨t4, s4⟩ := Sim.dropB (st := ⟨[], (resL P st' rs).2.1.h⟩) (h1 := h1) k2 (ht := trivial) hbel (hs := s3) (h0 := by rw [t2.n0]; exact Nat.le_trans hn0 hl)
    obtain ⟨bl4, hb4⟩ := s4.own
    exact ⟨v, _, _, _, bl4, none, e3, t2.trans t4, s4, hb4, ⟨rfl, k4⟩, ⟨rfl, Fit.below _ _ k3 f3⟩, rfl, fun c hc => by cases hc⟩

set_option maxRecDepth 16000 in
theorem hdo_ok (h : List (List SV)) (b : Nat) (q : HS) (hb : h[b]? = some (heapB q)) {n : Nat} (g : HpG n 1000000000000 q) (hn : n ≤ 100000) (a : HAct) :
    AMut Try.prog 50 [.ptr b 0, hactV a] h (fun r h' => h' = h.set b (heapB (doS q a).1) ∧ r = .pv (.tup [I64 (doS q a).2.1, I64 (doS q a).2.2])) := by
  refine amutXD [] [.tmp 4, .tmp 5] (h.set b (heapB (doS q a).1)) (by simp) (fun hh => by rw [List.length_set]; exact belowH_set (belowC_heapB _ _) b hh) hmo Try.func50 (by kernel_rfl) rfl rfl (by kernel_rfl) (Nat.le_of_ble_eq_true rfl) ?_
  obtain ⟨hlt, hb'⟩ := List.getElem?_eq_some_iff.1 hb
  obtain ⟨kind, v, by'⟩ := a
  obtain ⟨F, hF⟩ : ∃ F, doS q ⟨kind, v, by'⟩ = F := ⟨_, rfl⟩
  rw [hF]
  unfold doS at hF
  dsimp only at hF
  simp only [hactV]
  have hb1 : (h ++ [[SV.pv (I64 kind), SV.pv (I64 v), SV.pv (I64 by')]])[b]? = some (heapB q) := by rw [List.getElem?_append_left hlt]; exact hb
  have hset : ∀ x, (h ++ [[SV.pv (I64 kind), SV.pv (I64 v), SV.pv (I64 by')]]).set b x = h.set b x ++ [[SV.pv (I64 kind), SV.pv (I64 v), SV.pv (I64 by')]] := fun x => List.set_append_left _ _ hlt
  have h1 := hbump_ok _ b q hb1 g hn v by'
  have h2 := hput_ok _ b q hb1 g hn v
  have h3 := htake_ok _ b q hb1 g hn
  have h4 := hhalve_ok _ b q hb1 (by rw [g.sl]; omega) (by rw [g.pll]; exact g.inr) (by rw [g.pll, g.sl]) (by have := g.few; omega) (by rw [g.sl]; omega)
  rw [hset] at h1 h2 h3 h4
  by_cases c0 : kind = 0
  · rw [if_pos c0] at hF
    subst hF c0
    simp
    refine CallB.intro h1 (by simp) ?_
    rintro _ _ ⟨rfl, rfl⟩
    simp
  rw [if_neg c0] at hF
  by_cases c1 : kind = 1
  · rw [if_pos c1] at hF
    subst hF c1
    simp
    refine CallB.intro h2 (by simp) ?_
    rintro _ _ ⟨rfl, rfl⟩
    simp
  rw [if_neg c1] at hF
  by_cases c2 : kind = 2
  · rw [if_pos c2] at hF
    subst hF c2
    simp
    refine CallB.intro h3 (by simp) ?_
    rintro _ _ ⟨rfl, rfl⟩
    simp
  · rw [if_neg c2] at hF
    subst hF
    simp [c0, c1, c2]
    refine CallB.intro h4 (by simp) ?_
    rintro _ _ ⟨rfl, rfl⟩
    simp

end Go.AX

namespace Go.AX
open Go.Proofs
set_option linter.unusedSimpArgs false

def hactR (a : HAct) : List PV := [I64 a.kind, I64 a.v, I64 a.by']
def hvec (l : List HAct) : PV := .seq false 3 (l.map hactR)
@[simp] theorem belowR_hact (k : Nat) (l : List HAct) : belowR k (l.map hactR) := by
  induction l with
  | nil => trivial
  | cons x xs ih => exact ⟨⟨trivial, trivial, trivial, trivial⟩, ih⟩
def dosL (q : HS) (l : List HAct) : HS := l.foldl (fun q a => (doS q a).1) q
theorem dosL_good {n : Nat} : ∀ {l : List HAct} {q : HS}, HpG n 1000000000000 q → HpG n 1000000000000 (dosL q l)
  | [], _, g => g
  | _ :: l, _, g => dosL_good (l := l) (do_good g _)
theorem dosL_snoc {q : HS} {l : List HAct} {i : Nat} (h : i < l.length) : dosL q (l.take (i + 1)) = (doS (dosL q (l.take i)) l[i]).1 := by
  rw [List.take_succ_eq_append_getElem h, dosL, List.foldl_append]; rfl
theorem HpG.scoreV {n : Nat} {M : Int} {q : HS} (g : HpG n M q) (h0 : 0 ≤ M) (v : Int) : 0 ≤ scoreV q v ∧ scoreV q v ≤ M := by
  unfold AX.scoreV
  split
  · have := g.score v.toNat; exact ⟨this.1, this.2 h0⟩
  · omega
theorem scoreV_half {n : Nat} {q : HS} (g : HpG n 1000000000000 q) (v : Int) : scoreV (halveS q) v = scoreV q v / 2 := by
  have hs := (halve_good (M := 1000000000000) (g.mono (by omega)) (by omega) (by omega)).2.2
  have hl : (halveS q).sc.length = q.sc.length := by rw [hs]; simp
  unfold AX.scoreV isV
  rw [hl]
  split
  · rename_i c
    simp only [Bool.and_eq_true, decide_eq_true_eq] at c
    have : v.toNat < q.sc.length := by omega
    simp [hs, List.getD_eq_getElem?_getD, this]
  · rfl

set_option maxRecDepth 16000 in
theorem heapDecays_ok (vars : Int) (l : List HAct) (p0 p1 : Int) : APure Try.prog 13 [I64 vars, hvec l, .agg [I64 p0, I64 p1]] (fun r => r = .pv (BL true)) := by
  refine apure1B [13, 15] hmo Try.func13 (by kernel_rfl) rfl rfl (by kernel_rfl) (Nat.le_of_ble_eq_true rfl) ?_
  by_cases c1 : 100 < l.length ∨ 300 < vars
  · rcases c1 with c1 | c1
    · have c1' : 100 < (l.length : Int) := by omega
      simp [hvec, c1, c1']
      exact CallK.intro hawake_ok (by simp) (by simp)
    · by_cases c2 : 100 < l.length
      · have c2' : 100 < (l.length : Int) := by omega
        simp [hvec, c1, c2, c2']
        exact CallK.intro hawake_ok (by simp) (by simp)
      · have c2' : ¬ 100 < (l.length : Int) := by omega
        simp [hvec, c1, c2, c2']
        exact CallK.intro hawake_ok (by simp) (by simp)
  have c2 : ¬ 100 < (l.length : Int) := by omega
  have c2' : ¬ 100 < l.length := by omega
  have c3 : ¬ 300 < vars := by omega
  simp [hvec, c2, c2', c3]
  refine CallK.introM (hnew_ok [[.pv (I64 p0), .pv (I64 p1)]] vars) (by simp) ?_
  rintro _ _ hR
  by_cases c4 : 0 ≤ vars ∧ vars ≤ 100000
  rotate_left
  · rw [if_neg c4] at hR
    obtain ⟨rfl, rfl⟩ := hR
    simp
    refine CallK.intro hawake_ok (by simp) (by simp)
  · rw [if_pos c4] at hR
    obtain ⟨rfl, rfl⟩ := hR
    obtain ⟨n, hn⟩ : ∃ n, vars.toNat = n := ⟨_, rfl⟩
    rw [hn]
    simp
    refine ALoop.intro (S := fun (i : Nat) => ⟨[(1, .pv (.seq false 3 (l.map hactR))), (5, .pv (.ptr 0 0)), (7, .pv (.ptr 1 0)), (9, .pv (I64 i))], [[.pv (I64 p0), .pv (I64 p1)], heapB (dosL (newS n) (l.take i))]⟩) (fun i => i ≤ l.length) (fun i => l.length - i) 0 ?_ ?_ ?_
    · exact Weak.keep (by simp) (by simp [dosL])
    · omega
    · intro i hi
      have g := dosL_good (l := l.take i) (new_good n)
      by_cases c5 : i < l.length
      · have hsn := dosL_snoc (q := newS n) c5
        obtain ⟨a, ha⟩ : ∃ a, l[i] = a := ⟨_, rfl⟩
        rw [ha] at hsn
        have g2 := do_good g a
        have hq : 0 < (doS (dosL (newS n) (l.take i)) a).1.sc.length := by rw [g2.sl]; omega
        have hsc := hscore_ok _ hq a.v
        have hsv := g2.scoreV (by omega) a.v
        have hd := hdo_ok [[.pv (I64 p0), .pv (I64 p1)], heapB (dosL (newS n) (l.take i))] 1 _ rfl g (by omega) a
        rw [← hsn] at hd hsc hsv
        generalize dosL (newS n) (l.take i) = q at *
        obtain ⟨q2, hq2⟩ : ∃ q2, dosL (newS n) (l.take (i + 1)) = q2 := ⟨_, rfl⟩
        rw [hq2] at hd hsc hsv
        simp [c5, ha, hactR]
        refine CallB.intro hd (by simp) ?_
        rintro _ _ ⟨rfl, rfl⟩
        have hn1 : ¬ scoreV q2 a.v < 0 := by omega
        have hn2 : ¬ 1000000000000 < scoreV q2 a.v := by omega
        simp [c5, ha, hactR]
        rw [frz_heap0 (b := 1) (q := q2) rfl]
        refine CallB.introP hsc (by simp) (by simp) ?_
        have hw : w64 ((i : Int) + 1) = ((i + 1 : Nat) : Int) := by rw [w64_id (by omega) (by omega)]; omega
        simp [hn1, hn2]
        refine ⟨i + 1, by dsimp only; omega, by dsimp only; omega, Weak.keep ?_ ?_⟩
        · simp [hw]
        · simp [hq2]
      · have : i = l.length := by omega
        subst this
        simp
        rw [List.take_length] at g
        generalize dosL (newS n) l = q at *
        have hq : 0 < q.sc.length := by rw [g.sl]; omega
        have hs0 := hscore_ok q hq p0
        have hs1 := hscore_ok q hq p1
        refine AAnyD.meet (.take 0 (.take 1 (.take 4 (.take 5 (.fork [(2, .fork [(3, .fork [(6, .fork [(7, .fork [(8, .fork [(9, .done)])])])]), (6, .fork [(3, .fork [(7, .fork [(8, .fork [(9, .done)])])])])]), (6, .fork [(2, .fork [(3, .fork [(7, .fork [(8, .fork [(9, .done)])])])])])])))))
          ⟨[(5, .pv (.ptr 0 0)), (7, .pv (.ptr 1 0)), (11, .pv (I64 (scoreV q p0))), (12, .pv (I64 (scoreV q p1)))], [[.pv (I64 p0), .pv (I64 p1)], heapB q]⟩ (by kernel_rfl) ?_ ?_
        · simp
          rw [frz_heap0 (b := 1) (q := q) rfl]
          refine ⟨⟨?_, ?_⟩, ?_⟩
          all_goals
            refine CallB.introP hs0 (by simp) (by simp) ?_
            simp
            rw [frz_heap0 (b := 1) (q := q) rfl]
            refine CallB.introP hs1 (by simp) (by simp) ?_
            simp
            exact Weak.keep (by simp) rfl
        · have hhv := hhalve_ok [[.pv (I64 p0), .pv (I64 p1)], heapB q] 1 q rfl hq (by rw [g.pll]; exact g.inr) (by rw [g.pll, g.sl]) (by have := g.few; omega) (by rw [g.sl]; omega)
          have gh := (halve_good (M := 1000000000000) (g.mono (by omega)) (by omega) (by omega)).1
          have hh0 := scoreV_half g p0
          have hh1 := scoreV_half g p1
          simp
          refine CallB.intro hhv (by simp) ?_
          rintro _ _ ⟨rfl, rfl⟩
          have ht0 := hscore_ok (halveS q) (by rw [gh.sl]; omega) p0
          have ht1 := hscore_ok (halveS q) (by rw [gh.sl]; omega) p1
          rw [hh0] at ht0
          rw [hh1] at ht1
          generalize halveS q = q2 at *
          simp
          refine AAnyD.meet (.take 0 (.take 1 (.take 4 (.take 5 (.fork [(2, .fork [(3, .fork [(6, .fork [(7, .fork [(8, .fork [(9, .done)])])])]), (6, .fork [(3, .fork [(7, .fork [(8, .fork [(9, .done)])])])])]), (6, .fork [(2, .fork [(3, .fork [(7, .fork [(8, .fork [(9, .done)])])])])])])))))
            ⟨[(11, .pv (I64 (scoreV q p0))), (12, .pv (I64 (scoreV q p1))), (13, .pv (I64 (scoreV q p0 / 2))), (14, .pv (I64 (scoreV q p1 / 2)))], [[.pv (I64 p0), .pv (I64 p1)], heapB q2]⟩ (by kernel_rfl) ?_ ?_
          · simp
            rw [frz_heap0 (b := 1) (q := q2) rfl]
            refine ⟨⟨?_, ?_⟩, ?_⟩
            all_goals
              refine CallB.introP ht0 (by simp) (by simp) ?_
              simp
              rw [frz_heap0 (b := 1) (q := q2) rfl]
              refine CallB.introP ht1 (by simp) (by simp) ?_
              simp
              exact Weak.keep (by simp) rfl
          · have r0 := g.scoreV (by omega) p0
            have r1 := g.scoreV (by omega) p1
            generalize AX.scoreV q p0 = a at *
            generalize AX.scoreV q p1 = b at *
            have e0 : w64 (Int.tdiv a 2) = a / 2 := half_eq r0.1 (by omega)
            have e1 : w64 (Int.tdiv b 2) = b / 2 := half_eq r1.1 (by omega)
            have hor : b < a ∨ a / 2 ≤ b / 2 := by omega
            simp [e0, e1]
            refine CallG.intro (r := .pv (BL true)) (fun _ => hawake_ok) (by simp) ?_
            simp [hor]

end Go.AX

namespace Go.AX
open Go.Proofs
set_option linter.unusedSimpArgs false

theorem hhas_in {n : Nat} {M : Int} {q : HS} (g : HpG n M q) {v : Int} (hv : v ∈ q.row) : APure Try.prog 58 [.iptr 3 [heapR q] 0 0, I64 v] (fun r => r = .pv (BL true)) := by
  have h := hhas_ok q (by rw [g.sl]; omega) (by rw [g.pll, g.sl]) v
  have hv1 := g.inr v hv
  have hv2 : 1 ≤ v ∧ v ≤ n := by omega
  rw [g.isV_iff.2 hv2, decide_eq_true ((g.has_iff hv2).2 hv)] at h
  exact h
theorem hhas_out {n : Nat} {M : Int} {q : HS} (g : HpG n M q) {v : Int} (hv2 : 1 ≤ v ∧ v ≤ n) (hv : ¬ v ∈ q.row) : APure Try.prog 58 [.iptr 3 [heapR q] 0 0, I64 v] (fun r => r = .pv (BL false)) := by
  have h := hhas_ok q (by rw [g.sl]; omega) (by rw [g.pll, g.sl]) v
  rw [g.isV_iff.2 hv2, decide_eq_false (fun h => hv ((g.has_iff hv2).1 h))] at h
  exact h
theorem hscore_at {n : Nat} {M : Int} {q : HS} (g : HpG n M q) {v : Int} (hv2 : 1 ≤ v ∧ v ≤ n) : APure Try.prog 56 [.iptr 3 [heapR q] 0 0, I64 v] (fun r => r = .pv (I64 (q.sc.getD v.toNat 0))) := by
  have h := hscore_ok q (by rw [g.sl]; omega) v
  unfold scoreV at h
  rw [g.isV_iff.2 hv2] at h
  exact h

structure TopJ (n N : Nat) (i : Nat) (q : HS) (last : Int) : Prop where
  g : HpG n 1000000000000 q
  len : q.row.length + i = N
  last : last = 0 ∨ (1 ≤ last ∧ last ≤ n ∧ ∀ x ∈ q.row, bet q.sc last x = true)

set_option maxRecDepth 16000 in
theorem heapTops_ok (vars : Int) (l : List HAct) : APure Try.prog 12 [I64 vars, hvec l] (fun r => r = .pv (BL true)) := by
  refine apure1 hmo Try.func12 (by kernel_rfl) rfl rfl (by kernel_rfl) (Nat.le_of_ble_eq_true rfl) ?_
  by_cases c1 : 100 < l.length ∨ 300 < vars
  · rcases c1 with c1 | c1
    · have c1' : 100 < (l.length : Int) := by omega
      simp [hvec, c1, c1']
      exact CallK.intro hawake_ok (by simp) (by simp)
    · by_cases c2 : 100 < l.length
      · have c2' : 100 < (l.length : Int) := by omega
        simp [hvec, c1, c2, c2']
        exact CallK.intro hawake_ok (by simp) (by simp)
      · have c2' : ¬ 100 < (l.length : Int) := by omega
        simp [hvec, c1, c2, c2']
        exact CallK.intro hawake_ok (by simp) (by simp)
  have c2 : ¬ 100 < (l.length : Int) := by omega
  have c2' : ¬ 100 < l.length := by omega
  have c3 : ¬ 300 < vars := by omega
  simp [hvec, c2, c2', c3]
  refine CallK.introM (hnew_ok [] vars) (by simp) ?_
  rintro _ _ hR
  by_cases c4 : 0 ≤ vars ∧ vars ≤ 100000
  rotate_left
  · rw [if_neg c4] at hR
    obtain ⟨rfl, rfl⟩ := hR
    have c5 : vars < 0 := by omega
    simp [c5]
    refine CallG.intro (r := .pv (BL true)) (fun _ => hawake_ok) (by simp) ?_
    simp
  · rw [if_pos c4] at hR
    obtain ⟨rfl, rfl⟩ := hR
    obtain ⟨n, hn⟩ : ∃ n, vars.toNat = n := ⟨_, rfl⟩
    rw [hn]
    simp
    refine ALoop.intro (S := fun (i : Nat) => ⟨[(1, .pv (.seq false 3 (l.map hactR))), (5, .pv (.ptr 0 0)), (7, .pv (I64 i))], [heapB (dosL (newS n) (l.take i))]⟩) (fun i => i ≤ l.length) (fun i => l.length - i) 0 ?_ ?_ ?_
    · exact Weak.keep (by simp) (by simp [dosL])
    · omega
    · intro i hi
      have g := dosL_good (l := l.take i) (new_good n)
      by_cases c5 : i < l.length
      · have hsn := dosL_snoc (q := newS n) c5
        obtain ⟨a, ha⟩ : ∃ a, l[i] = a := ⟨_, rfl⟩
        rw [ha] at hsn
        have hd := hdo_ok [heapB (dosL (newS n) (l.take i))] 0 _ rfl g (by omega) a
        rw [← hsn] at hd
        generalize dosL (newS n) (l.take i) = q at *
        obtain ⟨q2, hq2⟩ : ∃ q2, dosL (newS n) (l.take (i + 1)) = q2 := ⟨_, rfl⟩
        rw [hq2] at hd
        simp [c5, ha, hactR]
        refine CallB.intro hd (by simp) ?_
        rintro _ _ ⟨rfl, rfl⟩
        have hw : w64 ((i : Int) + 1) = ((i + 1 : Nat) : Int) := by rw [w64_id (by omega) (by omega)]; omega
        simp
        refine ⟨i + 1, by dsimp only; omega, by dsimp only; omega, Weak.keep ?_ ?_⟩
        · simp [hw]
        · simp [hq2]
      · have : i = l.length := by omega
        subst this
        simp
        rw [List.take_length] at g
        generalize dosL (newS n) l = q at *
        have hq : 0 < q.sc.length := by rw [g.sl]; omega
        have hl0 := hlen_ok q hq
        have hfew := g.few
        obtain ⟨N, hN⟩ : ∃ N, q.row.length = N := ⟨_, rfl⟩
        rw [hN] at hl0 hfew
        rw [frz_heap0 (b := 0) (q := q) rfl]
        refine CallB.introP hl0 (by simp) (by simp) ?_
        simp
        refine ALoop.intro (S := fun (x : Nat × HS × Int) => ⟨[(5, .pv (.ptr 0 0)), (8, .pv (I64 N)), (9, .pv (I64 x.2.2)), (10, .pv (I64 x.1))], [heapB x.2.1]⟩) (fun x => TopJ n N x.1 x.2.1 x.2.2) (fun x => N - x.1) (0, q, 0) ?_ ?_ ?_
        · exact Weak.keep (by simp) (by simp)
        · exact ⟨g, by simpa using hN, .inl rfl⟩
        · rintro ⟨i, p, last⟩ ⟨gp, hlp, hlast⟩
          dsimp only at gp hlp hlast
          have hp : 0 < p.sc.length := by rw [gp.sl]; omega
          by_cases c6 : i < N
          · obtain ⟨K, hK⟩ : ∃ K, p.row.length = K + 1 := ⟨p.row.length - 1, by omega⟩
            have hw1 : w64 ((N : Int) - i) = (K : Int) + 1 := by rw [w64_id (by omega) (by omega)]; omega
            have hl1 := hlen_ok p hp
            have hp1 := hpeek_ok p hp
            rw [hK] at hl1
            have hp0 : peekV p ≠ 0 := fun h => by have := gp.peek_zero.1 h; rw [this] at hK; simp at hK
            obtain ⟨v, hv⟩ : ∃ v, peekV p = v := ⟨_, rfl⟩
            have hvm := gp.peek_mem hp0
            have hvb := fun x hx hne => gp.best (x := x) hx hne
            obtain ⟨g2, t1, t2, t3, _⟩ := take_good gp
            have t3 := t3 hp0
            have htk := htake_ok [heapB p] 0 p rfl gp (by omega)
            rw [hv] at hp1 hvm hvb t2 t3
            rw [t2] at htk
            have hvi := gp.inr v hvm
            have hvi2 : 1 ≤ v ∧ v ≤ n := by omega
            have hh1 := hhas_in gp hvm
            obtain ⟨q2, hq2⟩ : ∃ q2, (takeS' p).1 = q2 := ⟨_, rfl⟩
            rw [hq2] at g2 t1 t3 htk
            have hnd := t3.nodup_iff.1 gp.nd
            rw [List.nodup_cons] at hnd
            have hh2 := hhas_out g2 hvi2 hnd.1
            have hs2 := hscore_at g2 hvi2
            rw [t1] at hs2
            have hlen2 := t3.length_eq
            have J2 : TopJ n N (i + 1) q2 v := ⟨g2, by simp only [List.length_cons] at hlen2; omega, .inr ⟨hvi2.1, hvi2.2, fun x hx => by
              rw [t1]
              exact hvb x (t3.mem_iff.2 (List.mem_cons_of_mem _ hx)) (fun e => hnd.1 (e ▸ hx))⟩⟩
            simp [c6]
            rw [frz_heap0 (b := 0) (q := p) rfl]
            refine CallB.introP hl1 (by simp) (by simp) ?_
            simp [hw1]
            rw [frz_heap0 (b := 0) (q := p) rfl]
            refine CallB.introP hp1 (by simp) (by simp) ?_
            simp
            rw [frz_heap0 (b := 0) (q := p) rfl]
            refine CallB.introP hh1 (by simp) (by simp) ?_
            simp
            refine CallB.intro htk (by simp) ?_
            rintro _ _ ⟨rfl, rfl⟩
            simp
            rw [frz_heap0 (b := 0) (q := q2) rfl]
            refine CallB.introP hh2 (by simp) (by simp) ?_
            have hw : w64 ((i : Int) + 1) = ((i + 1 : Nat) : Int) := by rw [w64_id (by omega) (by omega)]; omega
            rcases hlast with rfl | ⟨k1, k2, k3⟩
            · simp
              refine ⟨(i + 1, q2, v), by dsimp only; omega, J2, Weak.keep ?_ ?_⟩
              · simp [hw]
              · simp
            · have hb := bet_iff.1 (k3 v hvm)
              have hs3 := hscore_at g2 (v := last) ⟨k1, k2⟩
              rw [t1] at hs3
              have k0 : 0 < last := by omega
              obtain ⟨a, ha⟩ : ∃ a, p.sc.getD v.toNat 0 = a := ⟨_, rfl⟩
              obtain ⟨b, hb'⟩ : ∃ b, p.sc.getD last.toNat 0 = b := ⟨_, rfl⟩
              rw [ha] at hs2 hb
              rw [hb'] at hs3 hb
              have m1 : ¬ b < a := by omega
              simp [k0]
              rw [frz_heap0 (b := 0) (q := q2) rfl]
              refine CallB.introP hs2 (by simp) (by simp) ?_
              simp
              rw [frz_heap0 (b := 0) (q := q2) rfl]
              refine CallB.introP hs3 (by simp) (by simp) ?_
              simp [m1]
              rw [frz_heap0 (b := 0) (q := q2) rfl]
              refine CallB.introP hs2 (by simp) (by simp) ?_
              simp
              rw [frz_heap0 (b := 0) (q := q2) rfl]
              refine CallB.introP hs3 (by simp) (by simp) ?_
              have m2 : (decide (a = b) && decide (v ≤ last)) = false := by
                rw [Bool.and_eq_false_iff]; simp only [decide_eq_false_iff_not]; omega
              rcases hb with hb | ⟨hb, hb2⟩
              · have m3 : ¬ a = b := by omega
                simp [m3]
                refine ⟨(i + 1, q2, v), by dsimp only; omega, J2, Weak.keep ?_ ?_⟩
                · simp [hw]
                · simp
              · have m3 : a = b := hb.symm
                have m4 : ¬ v ≤ last := by omega
                simp [m3, m4]
                refine ⟨(i + 1, q2, v), by dsimp only; omega, J2, Weak.keep ?_ ?_⟩
                · simp [hw]
                · simp
          · have hp0 : p.row.length = 0 := by omega
            have hpn : peekV p = 0 := gp.peek_zero.2 (List.eq_nil_of_length_eq_zero hp0)
            have hl1 := hlen_ok p hp
            rw [hp0] at hl1
            have htk := htake_ok [heapB p] 0 p rfl gp (by omega)
            rw [takeS_none hpn] at htk
            simp [c6]
            rw [frz_heap0 (b := 0) (q := p) rfl]
            refine CallB.introP hl1 (by simp) (by simp) ?_
            simp
            refine CallB.intro htk (by simp) ?_
            rintro _ _ ⟨rfl, rfl⟩
            simp
            refine CallG.intro (r := .pv (BL true)) (fun _ => hawake_ok) (by simp) ?_
            simp

end Go.AX

namespace Go.AX
open Go.Proofs
set_option linter.unusedSimpArgs false

set_option maxRecDepth 16000 in
theorem rhalve_ok (h : List (List SV)) (S : List Int) (B : List Bool) (hS : S.length ≤ 1000000) : AMut Try.prog 97 [rhV S B] h (fun r h' => h' = h ∧ r = .pv (rhV (S.map half) B)) := by
  refine amutXW [] [.cell 2 _] hmo Try.func97 (by kernel_rfl) rfl rfl (by kernel_rfl) (Nat.le_of_ble_eq_true rfl) ?_
  simp [rhV]
  refine ALoop.intro (S := fun (i : Nat) => ⟨[(1, .pv (.ptr h.length 0)), (2, .pv (.ptr (h.length + 1) 0)), (3, .own true 1 (irow ((S.take i).map half))), (4, .pv (I64 i))], h ++ [[.pv (.seq false 1 (irow S)), .pv (.seq false 1 (brow B))], [.pv (.lit (.slice none 0 0)), .pv (.lit (.slice none 0 0))]]⟩)
    (fun i => i ≤ S.length) (fun i => S.length - i) 0 ?_ ?_ ?_
  · exact (Weak.nilOwn (s := 3) 1 true (by simp)).trans (Weak.keep (by simp [irow]) (by simp))
  · omega
  · intro i hi
    by_cases c : i < S.length
    · have hw : w64 ((i : Int) + 1) = ((i + 1 : Nat) : Int) := by rw [w64_id (by omega) (by omega)]; omega
      obtain ⟨x, hx⟩ : ∃ x, S[i] = x := ⟨_, rfl⟩
      have hsn : irow (List.take (i + 1) (S.map half)) = irow (List.take i (S.map half)) ++ [[I64 (w64 (x.tdiv 2))]] := by
        rw [← List.map_take, ← List.map_take, irow_snoc, List.take_succ_eq_append_getElem c, hx, List.map_append]; rfl
      simp [c, hx]
      refine ⟨by omega, i + 1, by dsimp only; omega, by dsimp only; omega, Weak.keep ?_ ?_⟩
      · simp [hw, hsn]
      · simp
    · have : i = S.length := by omega
      subst this
      simp

def rbumpS (S : List Int) (v by' : Int) : List Int × Int :=
  if ¬ (1 ≤ v ∧ v ≤ S.length) then (S, 10) else if by' < 0 ∨ 1000000000000 < by' then (S, 2) else
    (if 1000000000000 < S.getD (v.toNat - 1) 0 + by' then (S.set (v.toNat - 1) (S.getD (v.toNat - 1) 0 + by')).map half else S.set (v.toNat - 1) (S.getD (v.toNat - 1) 0 + by'), 0)

set_option maxRecDepth 16000 in
theorem rbump_ok (h : List (List SV)) (S : List Int) (B : List Bool) (v by' : Int) (hS : S.length ≤ 1000000) (hr : ∀ x ∈ S, 0 ≤ x ∧ x ≤ 1000000000000) :
    AMut Try.prog 94 [rhV S B, I64 v, I64 by'] h (fun r h' => h' = h ∧ r = .pv (.tup [rhV (rbumpS S v by').1 B, I64 (rbumpS S v by').2])) := by
  refine amutXW [] [.cell 6 _, .tmp 7] hmo Try.func94 (by kernel_rfl) rfl rfl (by kernel_rfl) (Nat.le_of_ble_eq_true rfl) ?_
  obtain ⟨F, hF⟩ : ∃ F, rbumpS S v by' = F := ⟨_, rfl⟩
  rw [hF]
  unfold rbumpS at hF
  by_cases c : 1 ≤ v ∧ v ≤ S.length
  rotate_left
  · rw [if_pos c] at hF
    subst hF
    by_cases c1 : v < 1
    · simp [rhV, c1, wkPL, wkP]
    · have c2 : (S.length : Int) < v := by omega
      simp [rhV, c1, c2, wkPL, wkP]
  rw [if_neg (by simpa using c)] at hF
  obtain ⟨k, hk⟩ : ∃ k : Nat, v = (k : Int) + 1 := ⟨(v - 1).toNat, by omega⟩
  subst hk
  have c1 : ¬ (k : Int) + 1 < 1 := by omega
  have c2 : ¬ (S.length : Int) < (k : Int) + 1 := by omega
  have c3 : k < S.length := by omega
  have hw : w64 (k : Int) = (k : Int) := w64_id (by omega) (by omega)
  rw [show ((k : Int) + 1).toNat - 1 = k by omega] at hF
  by_cases c4 : by' < 0 ∨ 1000000000000 < by'
  · rw [if_pos c4] at hF
    subst hF
    by_cases c5 : by' < 0
    · simp [rhV, c1, c2, c5, wkPL, wkP]
    · have c6 : 1000000000000 < by' := by omega
      simp [rhV, c1, c2, c5, c6, wkPL, wkP]
  rw [if_neg c4] at hF
  have c5 : ¬ by' < 0 := by omega
  have c6 : ¬ 1000000000000 < by' := by omega
  obtain ⟨x, hx⟩ : ∃ x, S.getD k 0 = x := ⟨_, rfl⟩
  have hx2 : S[k] = x := by rw [← hx]; simp [c3]
  have hxr := hr x (by rw [← hx2]; exact List.getElem_mem c3)
  have hww : w64 (x + by') = x + by' := w64_id (by omega) (by omega)
  rw [hx] at hF
  simp [rhV, c1, c2, c3, c5, c6, hw, hx2, hww, irow_set]
  obtain ⟨S1, hS1⟩ : ∃ S1, S.set k (x + by') = S1 := ⟨_, rfl⟩
  have hl1 : S1.length = S.length := by rw [← hS1]; simp
  have hk1 : k < S1.length := by omega
  have hg1 : S1[k] = x + by' := by simp [← hS1]
  have hh := rhalve_ok (h ++ [[.pv (.seq true 1 (irow S1)), .pv (.seq false 1 (brow B))], [.pv (.lit (.slice none 0 0)), .pv (.lit (.slice none 0 0))]]) S1 B (by omega)
  rw [hS1] at hF ⊢
  refine ⟨by omega, ?_⟩
  refine ALoop.intro (S := fun (y : Nat) => ⟨[(1, .pv (I64 ((k : Int) + 1))), (3, .pv (.ptr h.length 0)), (6, .pv (.ptr (h.length + 1) 0)), (9, .pv (I64 y))], h ++ [if y = 0 then [.own true 1 (irow S1), .pv (.seq false 1 (brow B))] else [.pv (.seq false 1 (irow (S1.map half))), .pv (.seq false 1 (brow B))], [.pv (.lit (.slice none 0 0)), .pv (.lit (.slice none 0 0))]]⟩)
    (fun y => y = 0 ∨ y = 1 ∧ 1000000000000 < x + by') (fun y => 1 - y) 0 ?_ (.inl rfl) ?_
  · exact Weak.keep (by simp) (by simp)
  · rintro y (rfl | ⟨rfl, hy⟩)
    · by_cases c7 : 1000000000000 < x + by'
      · simp [hk1, hw, hg1, c7]
        refine CallK.introM hh (by simp) ?_
        rintro _ _ ⟨rfl, rfl⟩
        simp [rhV]
        refine ⟨1, by dsimp only; omega, .inr rfl, Weak.keep ?_ ?_⟩
        · simp [show w64 1 = 1 from w64_id (by omega) (by omega)]
        · simp
      · rw [if_neg c7] at hF
        subst hF
        simp [hk1, hw, hg1, c7, rhV, wkPL, wkP]
    · rw [if_pos hy] at hF
      subst hF
      have hz : half (x + by') ≤ 1000000000000 := by rw [half_eq (by omega) (by omega)]; omega
      have hz2 : ¬ 1000000000000 < half (x + by') := by omega
      simp [hk1, hw, hg1, hz2, rhV, wkPL, wkP]

end Go.AX

namespace Go.AX
open Go.Proofs
set_option linter.unusedSimpArgs false

def rputS (S : List Int) (B : List Bool) (v : Int) : List Bool × Int :=
  if ¬ (1 ≤ v ∧ v ≤ S.length) then (B, 10) else if B.getD (v.toNat - 1) false = true then (B, 21) else (B.set (v.toNat - 1) true, 0)

set_option maxRecDepth 16000 in
theorem rput_ok (h : List (List SV)) (S : List Int) (B : List Bool) (v : Int) (hS : S.length ≤ 1000000) (hB : B.length = S.length) :
    AMut Try.prog 95 [rhV S B, I64 v] h (fun r h' => h' = h ∧ r = .pv (.tup [rhV S (rputS S B v).1, I64 (rputS S B v).2])) := by
  refine amutXW [] [.cell 4 _, .tmp 5] hmo Try.func95 (by kernel_rfl) rfl rfl (by kernel_rfl) (Nat.le_of_ble_eq_true rfl) ?_
  obtain ⟨F, hF⟩ : ∃ F, rputS S B v = F := ⟨_, rfl⟩
  rw [hF]
  unfold rputS at hF
  by_cases c : 1 ≤ v ∧ v ≤ S.length
  rotate_left
  · rw [if_pos c] at hF
    subst hF
    by_cases c1 : v < 1
    · simp [rhV, c1, wkPL, wkP]
    · have c2 : (S.length : Int) < v := by omega
      simp [rhV, c1, c2, wkPL, wkP]
  rw [if_neg (by simpa using c)] at hF
  obtain ⟨k, hk⟩ : ∃ k : Nat, v = (k : Int) + 1 := ⟨(v - 1).toNat, by omega⟩
  subst hk
  have c1 : ¬ (k : Int) + 1 < 1 := by omega
  have c2 : ¬ (S.length : Int) < (k : Int) + 1 := by omega
  have c3 : k < B.length := by omega
  have hw : w64 (k : Int) = (k : Int) := w64_id (by omega) (by omega)
  rw [show ((k : Int) + 1).toNat - 1 = k by omega] at hF
  have hx2 : B.getD k false = B[k] := by simp [c3]
  rw [hx2] at hF
  cases hbk : B[k] with
  | true =>
    rw [if_pos hbk] at hF
    subst hF
    simp [rhV, c1, c2, c3, hw, hbk, wkPL, wkP]
  | false =>
    rw [if_neg (by rw [hbk]; simp)] at hF
    subst hF
    simp [rhV, c1, c2, c3, hw, hbk, brow_set, wkPL, wkP]
    omega

def rtakeS (S : List Int) (B : List Bool) : List Bool × Int :=
  if bestR S B S.length = 0 then (B, 0) else (B.set (bestR S B S.length - 1) false, bestR S B S.length)

set_option maxRecDepth 16000 in
theorem rtake_ok (h : List (List SV)) (S : List Int) (B : List Bool) (hS : S.length ≤ 1000000) (hB : B.length = S.length) :
    AMut Try.prog 96 [rhV S B] h (fun r h' => h' = h ∧ r = .pv (.tup [rhV S (rtakeS S B).1, I64 (rtakeS S B).2])) := by
  refine amutXW [] [.cell 2 _, .tmp 3] hmo Try.func96 (by kernel_rfl) rfl rfl (by kernel_rfl) (Nat.le_of_ble_eq_true rfl) ?_
  obtain ⟨F, hF⟩ : ∃ F, rtakeS S B = F := ⟨_, rfl⟩
  rw [hF]
  unfold rtakeS at hF
  have hpk := rpeek_ok S B hS hB
  have hle := bestR_le S B S.length
  generalize bestR S B S.length = m at *
  simp only [rhV] at hpk
  simp [rhV]
  refine CallK.intro hpk (by simp) ?_
  rcases Nat.eq_zero_or_pos m with h0 | h0
  · subst h0
    rw [if_pos rfl] at hF
    subst hF
    simp [wkPL, wkP]
  · obtain ⟨k, rfl⟩ : ∃ k, m = k + 1 := ⟨m - 1, by omega⟩
    rw [if_neg (by omega), Nat.add_sub_cancel] at hF
    subst hF
    have c3 : k < B.length := by omega
    have c4 : ¬ (k : Int) + 1 = 0 := by omega
    have hw : w64 (k : Int) = (k : Int) := w64_id (by omega) (by omega)
    simp [c3, c4, hw, brow_set, wkPL, wkP]
    omega

structure RdoS where
  S : List Int
  B : List Bool
  v : Int
  e : Int
def rdoS (S : List Int) (B : List Bool) (a : HAct) : RdoS :=
  if a.kind = 0 then ⟨(rbumpS S a.v a.by').1, B, 0, (rbumpS S a.v a.by').2⟩ else
  if a.kind = 1 then ⟨S, (rputS S B a.v).1, 0, (rputS S B a.v).2⟩ else
  if a.kind = 2 then ⟨S, (rtakeS S B).1, (rtakeS S B).2, 0⟩ else ⟨S.map half, B, 0, 0⟩

set_option maxRecDepth 16000 in
theorem rdo_ok (h : List (List SV)) (S : List Int) (B : List Bool) (a : HAct) (hS : S.length ≤ 1000000) (hB : B.length = S.length) (hr : ∀ x ∈ S, 0 ≤ x ∧ x ≤ 1000000000000) :
    AMut Try.prog 51 [rhV S B, hactV a] h (fun r h' => h' = h ∧ r = .pv (.tup [rhV (rdoS S B a).S (rdoS S B a).B, I64 (rdoS S B a).v, I64 (rdoS S B a).e])) := by
  refine amutXW [] [.cell 4 _, .tmp 5, .tmp 6] hmo Try.func51 (by kernel_rfl) rfl rfl (by kernel_rfl) (Nat.le_of_ble_eq_true rfl) ?_
  obtain ⟨kind, v, by'⟩ := a
  obtain ⟨F, hF⟩ : ∃ F, rdoS S B ⟨kind, v, by'⟩ = F := ⟨_, rfl⟩
  rw [hF]
  unfold rdoS at hF
  dsimp only at hF
  have h1 := rbump_ok (h ++ [[.pv (.seq false 1 (irow S)), .pv (.seq false 1 (brow B))], [.pv (I64 kind), .pv (I64 v), .pv (I64 by')], [.pv (.lit (.slice none 0 0)), .pv (.lit (.slice none 0 0))]]) S B v by' hS hr
  have h2 := rput_ok (h ++ [[.pv (.seq false 1 (irow S)), .pv (.seq false 1 (brow B))], [.pv (I64 kind), .pv (I64 v), .pv (I64 by')], [.pv (.lit (.slice none 0 0)), .pv (.lit (.slice none 0 0))]]) S B v hS hB
  have h3 := rtake_ok (h ++ [[.pv (.seq false 1 (irow S)), .pv (.seq false 1 (brow B))], [.pv (I64 kind), .pv (I64 v), .pv (I64 by')], [.pv (.lit (.slice none 0 0)), .pv (.lit (.slice none 0 0))]]) S B hS hB
  have h4 := rhalve_ok (h ++ [[.pv (.seq false 1 (irow S)), .pv (.seq false 1 (brow B))], [.pv (I64 kind), .pv (I64 v), .pv (I64 by')], [.pv (.lit (.slice none 0 0)), .pv (.lit (.slice none 0 0))]]) S B hS
  simp only [hactV, rhV]
  simp only [rhV] at h1 h2 h3 h4
  by_cases c0 : kind = 0
  · rw [if_pos c0] at hF
    subst hF c0
    simp
    refine CallK.introM h1 (by simp) ?_
    rintro _ _ ⟨rfl, rfl⟩
    simp [wkPL, wkP]
  rw [if_neg c0] at hF
  by_cases c1 : kind = 1
  · rw [if_pos c1] at hF
    subst hF c1
    simp
    refine CallK.introM h2 (by simp) ?_
    rintro _ _ ⟨rfl, rfl⟩
    simp [wkPL, wkP]
  rw [if_neg c1] at hF
  by_cases c2 : kind = 2
  · rw [if_pos c2] at hF
    subst hF c2
    simp
    refine CallK.introM h3 (by simp) ?_
    rintro _ _ ⟨rfl, rfl⟩
    simp [wkPL, wkP]
  · rw [if_neg c2] at hF
    subst hF
    simp [c0, c1, c2]
    refine CallK.introM h4 (by simp) ?_
    rintro _ _ ⟨rfl, rfl⟩
    simp [wkPL, wkP]

end Go.AX

namespace Go.AX

structure HRel (n : Nat) (q : HS) (S : List Int) (B : List Bool) : Prop where
  g : HpG n 1000000000000 q
  sc : q.sc = 0 :: S
  lB : B.length = n
  mem : ∀ k, k < n → (B.getD k false = true ↔ ((k + 1 : Nat) : Int) ∈ q.row)
namespace HRel
variable {n : Nat} {q : HS} {S : List Int} {B : List Bool}
theorem lS (r : HRel n q S B) : S.length = n := by have := r.g.sl; rw [r.sc] at this; simpa using this
theorem mem' (r : HRel n q S B) {v : Int} (h : 1 ≤ v ∧ v ≤ n) : (B.getD (v.toNat - 1) false = true ↔ v ∈ q.row) := by
  have := r.mem (v.toNat - 1) (by omega)
  rwa [show ((v.toNat - 1 + 1 : Nat) : Int) = v by omega] at this
theorem at_ (r : HRel n q S B) {v : Int} (h : 1 ≤ v) : q.sc.getD v.toNat 0 = S.getD (v.toNat - 1) 0 := by
  rw [r.sc, show v.toNat = (v.toNat - 1) + 1 by omega]; simp
theorem rng (r : HRel n q S B) : ∀ x ∈ S, 0 ≤ x ∧ x ≤ 1000000000000 := fun x hx => r.g.rng x (by rw [r.sc]; exact List.mem_cons_of_mem _ hx)
theorem isV_eq (r : HRel n q S B) (v : Int) : isV q v = decide (1 ≤ v ∧ v ≤ S.length) := by
  rw [Bool.eq_iff_iff, r.g.isV_iff, r.lS, decide_eq_true_iff]
theorem score (r : HRel n q S B) (v : Int) : scoreV q v = if 1 ≤ v ∧ v ≤ S.length then S.getD (v.toNat - 1) 0 else 0 := by
  unfold scoreV
  rw [r.isV_eq]
  by_cases c : 1 ≤ v ∧ v ≤ S.length
  · rw [if_pos (by simpa using c), if_pos c, r.at_ c.1]
  · rw [if_neg (by simpa using c), if_neg c]
theorem has (r : HRel n q S B) (v : Int) : (isV q v && decide (0 ≤ q.pl.getD v.toNat 0)) = (decide (1 ≤ v) && (decide (v ≤ B.length) && B.getD (v.toNat - 1) false)) := by
  rw [r.isV_eq, r.lS, r.lB, Bool.eq_iff_iff]
  simp only [Bool.and_eq_true, decide_eq_true_iff]
  constructor
  · rintro ⟨h, h2⟩
    exact ⟨h.1, h.2, (r.mem' h).2 ((r.g.has_iff h).1 h2)⟩
  · rintro ⟨h1, h2, h3⟩
    exact ⟨⟨h1, h2⟩, (r.g.has_iff ⟨h1, h2⟩).2 ((r.mem' ⟨h1, h2⟩).1 h3)⟩
theorem len (r : HRel n q S B) : q.row.length = cntB B := by
  have e : cntB B = ((List.range n).filter fun k => B.getD k false).length := by
    have : ∀ k, k ≤ B.length → cntB (B.take k) = ((List.range k).filter fun j => B.getD j false).length := by
      intro k
      induction k with
      | zero => intro _; simp [cntB]
      | succ k ih =>
        intro hk
        have hk' : k < B.length := by omega
        rw [cntB_snoc hk', ih (by omega), List.range_succ, List.filter_append, List.length_append]
        have : B.getD k false = B[k] := by simp [hk']
        cases hb : B[k] <;> simp [List.filter, hb, hk']
    rw [← r.lB, ← this B.length (Nat.le_refl _), List.take_length]
  have hnd : (((List.range n).filter fun k => B.getD k false).map fun k : Nat => ((k + 1 : Nat) : Int)).Nodup := by
    unfold List.Nodup
    rw [List.pairwise_map]
    refine List.Pairwise.imp ?_ (List.nodup_range.sublist List.filter_sublist)
    intro a b hab e
    apply hab; omega
  rw [e]
  apply Nat.le_antisymm
  · have := len_of_sub q.row (((List.range n).filter fun k => B.getD k false).map fun k : Nat => ((k + 1 : Nat) : Int)) r.g.nd (fun x hx => by
      have hi := r.g.inr x hx
      rw [List.mem_map]
      refine ⟨x.toNat - 1, List.mem_filter.2 ⟨List.mem_range.2 (by omega), ?_⟩, by omega⟩
      exact (r.mem' (by omega)).2 hx)
    simpa using this
  · have := len_of_sub (((List.range n).filter fun k => B.getD k false).map fun k : Nat => ((k + 1 : Nat) : Int)) q.row hnd (fun x hx => by
      rw [List.mem_map] at hx
      obtain ⟨k, hk, rfl⟩ := hx
      rw [List.mem_filter, List.mem_range] at hk
      exact (r.mem k hk.1).1 hk.2)
    simpa using this
end HRel

theorem bestR_ok (S : List Int) (B : List Bool) : ∀ k, (bestR S B k = 0 ∧ ∀ j, j < k → B.getD j false = false) ∨ (∃ m, bestR S B k = m + 1 ∧ m < k ∧ B.getD m false = true ∧ ∀ j, j < k → B.getD j false = true → j ≠ m → (S.getD j 0 < S.getD m 0 ∨ (S.getD j 0 = S.getD m 0 ∧ m < j)))
  | 0 => .inl ⟨rfl, fun j h => by omega⟩
  | k + 1 => by
    rw [bestR]
    rcases bestR_ok S B k with ⟨h1, h2⟩ | ⟨m, h1, h2, h3, h4⟩
    · by_cases c : B.getD k false = true
      · rw [if_pos ⟨c, .inl h1⟩]
        refine .inr ⟨k, rfl, by omega, c, fun j hj hb hne => ?_⟩
        have := h2 j (by omega)
        rw [this] at hb; cases hb
      · rw [if_neg (fun h => c h.1)]
        refine .inl ⟨h1, fun j hj => ?_⟩
        by_cases e : j = k
        · subst e; simpa using c
        · exact h2 j (by omega)
    · rw [h1, Nat.add_sub_cancel]
      by_cases c : B.getD k false = true ∧ (m + 1 = 0 ∨ S.getD m 0 < S.getD k 0)
      · rw [if_pos c]
        have c2 : S.getD m 0 < S.getD k 0 := by rcases c.2 with h | h; omega; exact h
        refine .inr ⟨k, rfl, by omega, c.1, fun j hj hb hne => ?_⟩
        by_cases e : j = m
        · subst e; exact .inl c2
        · have := h4 j (by omega) hb e
          omega
      · rw [if_neg c]
        refine .inr ⟨m, rfl, by omega, h3, fun j hj hb hne => ?_⟩
        by_cases e : j = k
        · subst e
          have : ¬ S.getD m 0 < S.getD j 0 := fun h => c ⟨hb, .inr h⟩
          omega
        · exact h4 j (by omega) hb hne

theorem HRel.peek {n : Nat} {q : HS} {S : List Int} {B : List Bool} (r : HRel n q S B) : peekV q = (bestR S B S.length : Nat) := by
  have hl := r.lS
  rcases bestR_ok S B S.length with ⟨h1, h2⟩ | ⟨m, h1, h2, h3, h4⟩
  · rw [h1]
    refine r.g.peek_zero.2 ?_
    cases hr : q.row with
    | nil => rfl
    | cons x xs =>
      have hx : x ∈ q.row := by rw [hr]; simp
      have hi := r.g.inr x hx
      have := (r.mem' (v := x) (by omega)).2 hx
      rw [h2 _ (by omega)] at this; cases this
  · rw [h1]
    have hm := (r.mem m (by omega)).1 h3
    have hne : peekV q ≠ 0 := fun h => by have := r.g.peek_zero.1 h; rw [this] at hm; simp at hm
    apply Classical.byContradiction
    intro hn
    have hp := r.g.peek_mem hne
    have hi := r.g.inr _ hp
    have hb := bet_iff.1 (r.g.best hm (fun h => hn h.symm))
    have hb2 := h4 ((peekV q).toNat - 1) (by omega) ((r.mem' (by omega)).2 hp) (by omega)
    rw [r.at_ (v := peekV q) (by omega), r.at_ (v := ((m + 1 : Nat) : Int)) (by omega)] at hb
    rw [show (((m + 1 : Nat) : Int)).toNat - 1 = m by omega] at hb
    omega

theorem HRel.new (n : Nat) : HRel n (newS n) (List.replicate n 0) (List.replicate n true) :=
  ⟨new_good n, by simp [newS, List.replicate_succ], by simp, fun k hk => by
    simp only [newS, List.mem_map, List.mem_range]
    exact ⟨fun _ => ⟨k, hk, rfl⟩, fun _ => by simp [hk]⟩⟩

theorem HRel.bump {n : Nat} {q : HS} {S : List Int} {B : List Bool} (r : HRel n q S B) (v by' : Int) : HRel n (bumpS q v by').1 (rbumpS S v by').1 B ∧ (bumpS q v by').2 = (rbumpS S v by').2 := by
  obtain ⟨g1, p1, s1, _⟩ := bump_good r.g v by'
  have hi := r.isV_eq v
  unfold rbumpS
  by_cases c : 1 ≤ v ∧ v ≤ S.length
  rotate_left
  · rw [decide_eq_false c] at hi
    rw [bumpS_no hi, if_pos c]
    exact ⟨r, rfl⟩
  rw [decide_eq_true c] at hi
  rw [if_neg (by simpa using c)]
  by_cases c2 : by' < 0 ∨ 1000000000000 < by'
  · rw [bumpS_arg hi c2, if_pos c2]
    exact ⟨r, rfl⟩
  rw [if_neg c2]
  have e : (bumpS q v by').2 = 0 := by rw [bumpS_yes hi c2]
  have s1 := s1 e
  have hx := r.score v
  refine ⟨⟨g1, ?_, r.lB, fun k hk => (r.mem k hk).trans (p1.mem_iff).symm⟩, e⟩
  rw [s1, r.at_ c.1]
  obtain ⟨k, hk⟩ : ∃ k, v.toNat = k + 1 := ⟨v.toNat - 1, by omega⟩
  rw [hk, Nat.add_sub_cancel, r.sc, List.set_cons_succ]
  have hkl : k < S.length := by omega
  have hx0 := r.rng (S.getD k 0) (by simp [hkl])
  dsimp only
  by_cases c3 : 1000000000000 < S.getD k 0 + by'
  · rw [if_pos c3, if_pos c3, List.map_cons]
    congr 1
    refine List.map_congr_left fun y hy => ?_
    rcases List.mem_or_eq_of_mem_set hy with hy | hy
    · have := r.rng y hy
      exact (half_eq (by omega) (by omega)).symm
    · subst hy
      exact (half_eq (by omega) (by omega)).symm
  · rw [if_neg c3, if_neg c3]

theorem getD_setB (l : List Bool) (i j : Nat) (x : Bool) : (l.set i x).getD j false = if i = j ∧ i < l.length then x else l.getD j false := by
  simp only [List.getD_eq_getElem?_getD, List.getElem?_set]
  by_cases h : i = j
  · subst h
    by_cases h2 : i < l.length
    · simp [h2]
    · simp [h2]
  · simp [h]

theorem HRel.put {n : Nat} {q : HS} {S : List Int} {B : List Bool} (r : HRel n q S B) (v : Int) : HRel n (putS q v).1 S (rputS S B v).1 ∧ (putS q v).2 = (rputS S B v).2 := by
  obtain ⟨g1, s1, p1, _⟩ := put_good r.g v
  have hi := r.isV_eq v
  have hl := r.lS
  unfold rputS
  by_cases c : 1 ≤ v ∧ v ≤ S.length
  rotate_left
  · rw [decide_eq_false c] at hi
    rw [putS_no hi, if_pos c]
    exact ⟨r, rfl⟩
  rw [decide_eq_true c] at hi
  rw [if_neg (by simpa using c)]
  have hv : 1 ≤ v ∧ v ≤ n := by omega
  by_cases c2 : 0 ≤ q.pl.getD v.toNat 0
  · rw [putS_dup hi c2, if_pos ((r.mem' hv).2 ((r.g.has_iff hv).1 c2))]
    exact ⟨r, rfl⟩
  rw [if_neg (fun h => c2 ((r.g.has_iff hv).2 ((r.mem' hv).1 h)))]
  have e : (putS q v).2 = 0 := by rw [putS_yes hi c2]
  have p1 := p1 e
  refine ⟨⟨g1, by rw [s1, r.sc], by dsimp only; rw [List.length_set, r.lB], fun k hk => ?_⟩, e⟩
  rw [getD_setB, p1.mem_iff, List.mem_append, List.mem_singleton, r.lB]
  by_cases e2 : v.toNat - 1 = k
  · rw [if_pos ⟨e2, by omega⟩]
    exact ⟨fun _ => .inr (by omega), fun _ => rfl⟩
  · rw [if_neg (fun h => e2 h.1), r.mem k hk]
    exact ⟨.inl, fun h => h.elim id fun h => by omega⟩

theorem HRel.take {n : Nat} {q : HS} {S : List Int} {B : List Bool} (r : HRel n q S B) : HRel n (takeS' q).1 S (rtakeS S B).1 ∧ (takeS' q).2 = (rtakeS S B).2 := by
  obtain ⟨g1, s1, t1, p1, e1⟩ := take_good r.g
  have hp := r.peek
  have hl := r.lS
  have hle := bestR_le S B S.length
  unfold rtakeS
  generalize bestR S B S.length = m at *
  by_cases c : m = 0
  · subst c
    rw [if_pos rfl, e1 (by omega), t1]
    exact ⟨r, by omega⟩
  · rw [if_neg c]
    have p1 := p1 (by omega)
    have hnd := p1.nodup_iff.1 r.g.nd
    rw [List.nodup_cons] at hnd
    refine ⟨⟨g1, by rw [s1, r.sc], by dsimp only; rw [List.length_set, r.lB], fun k hk => ?_⟩, by rw [t1, hp]⟩
    rw [getD_setB, r.lB]
    by_cases e2 : m - 1 = k
    · rw [if_pos ⟨e2, by omega⟩]
      refine ⟨fun h => (by cases h), fun h => absurd ?_ hnd.1⟩
      rw [hp, show m = k + 1 by omega]; exact h
    · rw [if_neg (fun h => e2 h.1), r.mem k hk, p1.mem_iff, List.mem_cons]
      exact ⟨fun h => h.elim (fun h => by omega) id, .inr⟩

theorem HRel.halve {n : Nat} {q : HS} {S : List Int} {B : List Bool} (r : HRel n q S B) : HRel n (halveS q) (S.map half) B := by
  obtain ⟨g1, p1, s1⟩ := halve_good (M := 1000000000000) (r.g.mono (by omega)) (by omega) (by omega)
  refine ⟨g1, ?_, r.lB, fun k hk => (r.mem k hk).trans (p1.mem_iff).symm⟩
  rw [s1, r.sc, List.map_cons]
  congr 1
  refine List.map_congr_left fun y hy => ?_
  have := r.rng y hy
  exact (half_eq (by omega) (by omega)).symm

theorem HRel.step {n : Nat} {q : HS} {S : List Int} {B : List Bool} (r : HRel n q S B) (a : HAct) : HRel n (doS q a).1 (rdoS S B a).S (rdoS S B a).B ∧ (doS q a).2.1 = (rdoS S B a).v ∧ (doS q a).2.2 = (rdoS S B a).e := by
  unfold doS rdoS
  by_cases c0 : a.kind = 0
  · rw [if_pos c0, if_pos c0]
    exact ⟨(r.bump a.v a.by').1, rfl, (r.bump a.v a.by').2⟩
  rw [if_neg c0, if_neg c0]
  by_cases c1 : a.kind = 1
  · rw [if_pos c1, if_pos c1]
    exact ⟨(r.put a.v).1, rfl, (r.put a.v).2⟩
  rw [if_neg c1, if_neg c1]
  by_cases c2 : a.kind = 2
  · rw [if_pos c2, if_pos c2]
    exact ⟨r.take.1, r.take.2, rfl⟩
  · rw [if_neg c2, if_neg c2]
    exact ⟨r.halve, rfl, rfl⟩

end Go.AX

namespace Go.AX
open Go.Proofs
set_option linter.unusedSimpArgs false

structure PlSt where
  i : Nat
  q : HS
  S : List Int
  B : List Bool

set_option maxRecDepth 16000 in
theorem heapPlays_ok (vars : Int) (l : List HAct) (v : Int) : APure Try.prog 11 [I64 vars, hvec l, I64 v] (fun r => r = .pv (BL true)) := by
  refine apure1B [11] hmo Try.func11 (by kernel_rfl) rfl rfl (by kernel_rfl) (Nat.le_of_ble_eq_true rfl) ?_
  by_cases c1 : 100 < l.length ∨ 300 < vars
  · rcases c1 with c1 | c1
    · have c1' : 100 < (l.length : Int) := by omega
      simp [hvec, c1, c1']
      exact CallK.intro hawake_ok (by simp) (by simp)
    · by_cases c2 : 100 < l.length
      · have c2' : 100 < (l.length : Int) := by omega
        simp [hvec, c1, c2, c2']
        exact CallK.intro hawake_ok (by simp) (by simp)
      · have c2' : ¬ 100 < (l.length : Int) := by omega
        simp [hvec, c1, c2, c2']
        exact CallK.intro hawake_ok (by simp) (by simp)
  have c2 : ¬ 100 < (l.length : Int) := by omega
  have c2' : ¬ 100 < l.length := by omega
  have c3 : ¬ 300 < vars := by omega
  simp [hvec, c2, c2', c3]
  refine CallK.introM (hnew_ok [] vars) (by simp) ?_
  rintro _ _ hR
  by_cases c4 : 0 ≤ vars ∧ vars ≤ 100000
  rotate_left
  · rw [if_neg c4] at hR
    obtain ⟨rfl, rfl⟩ := hR
    have hN := rnew_ok [] vars
    rw [show rnewS vars = ([], [], 2) from if_neg c4] at hN
    simp only [rhV] at hN
    simp
    refine CallK.introM hN (by simp) ?_
    rintro _ _ ⟨rfl, rfl⟩
    simp
    refine ALoop.intro (S := fun (i : Nat) => ⟨[(1, .pv (.seq false 3 (l.map hactR))), (10, .pv (I64 2)), (11, .pv (I64 0))], []⟩) (fun i => i = 0) (fun i => i) 0 ?_ ?_ ?_
    · exact Weak.to (by simp) (by simp) (by simp) (by simp) (by simp)
    · rfl
    · rintro i rfl
      simp
      refine CallK.intro hawake_ok (by simp) (by simp)
  · rw [if_pos c4] at hR
    obtain ⟨rfl, rfl⟩ := hR
    obtain ⟨n, hn⟩ : ∃ n, vars.toNat = n := ⟨_, rfl⟩
    have hN := rnew_ok [heapB (newS n)] vars
    rw [show rnewS vars = (List.replicate n 0, List.replicate n true, 0) by unfold rnewS; rw [if_pos c4, hn]] at hN
    simp only [rhV] at hN
    rw [hn]
    simp
    refine CallK.introM hN (by simp) ?_
    rintro _ _ ⟨rfl, rfl⟩
    simp
    refine ALoop.intro (S := fun (x : PlSt) => ⟨[(1, .pv (.seq false 3 (l.map hactR))), (2, .pv (I64 v)), (7, .pv (.ptr 0 0)), (9, .pv (.ptr 1 0)), (10, .pv (I64 0)), (11, .pv (I64 x.i))], [heapB x.q, [.pv (.seq false 1 (irow x.S)), .pv (.seq false 1 (brow x.B))]]⟩) (fun x => HRel n x.q x.S x.B ∧ x.i ≤ l.length) (fun x => l.length - x.i) ⟨0, newS n, List.replicate n 0, List.replicate n true⟩ ?_ ?_ ?_
    · exact Weak.keep (by simp) (by simp)
    · exact ⟨HRel.new n, Nat.zero_le _⟩
    · rintro ⟨i, q, S, B⟩ ⟨r, hi⟩
      dsimp only at r hi
      by_cases c5 : i < l.length
      · obtain ⟨a, ha⟩ : ∃ a, l[i] = a := ⟨_, rfl⟩
        have hl := r.lS
        have hnn : n ≤ 100000 := by omega
        have hd := hdo_ok [heapB q, [.pv (.seq false 1 (irow S)), .pv (.seq false 1 (brow B))]] 0 q rfl r.g hnn a
        have st := r.step a
        obtain ⟨D, hD⟩ : ∃ D, doS q a = D := ⟨_, rfl⟩
        obtain ⟨R, hR⟩ : ∃ R, rdoS S B a = R := ⟨_, rfl⟩
        have hrd0 := fun h => rdo_ok h S B a (by omega) (by rw [r.lB, hl]) r.rng
        rw [hD] at hd st
        rw [hR] at hrd0 st
        obtain ⟨r2, e1, e2⟩ := st
        rw [e1, e2] at hd
        generalize D.1 = q2 at *
        simp [c5, ha, hactR]
        refine CallB.intro hd (by simp) ?_
        rintro _ _ ⟨rfl, rfl⟩
        simp [c5, ha, hactR]
        simp only [rhV, hactV] at hrd0
        have hrd1 := hrd0 [heapB q2, [.pv (.seq false 1 (irow S)), .pv (.seq false 1 (brow B))]]
        have hrd2 := hrd0 [heapB q2, [.pv (.seq false 1 (irow S)), .pv (.seq false 1 (brow B))], [.pv (.lit (.slice none 0 0)), .pv (.lit (.slice none 0 0))]]
        refine AAnyD.meet (.take 1 (.take 2 (.take 3 (.fork [(0, (.fork [(4, (.fork [(5, (.take 6 (.take 7 (.take 8 (.take 9 (.fork [(10, .fork [(11, .fork [(12, .fork [(13, .done)])])])])))))), (10, .fork [(5, (.take 6 (.take 7 (.take 8 (.take 9 (.fork [(11, .fork [(12, .fork [(13, .done)])])]))))))])])), (10, (.fork [(4, .fork [(5, (.take 6 (.take 7 (.take 8 (.take 9 (.fork [(11, .fork [(12, .fork [(13, .done)])])]))))))])]))])), (4, (.fork [(0, (.fork [(5, (.take 6 (.take 7 (.take 8 (.take 9 (.fork [(10, .fork [(11, .fork [(12, .fork [(13, .done)])])])])))))), (10, .fork [(5, (.take 6 (.take 7 (.take 8 (.take 9 (.fork [(11, .fork [(12, .fork [(13, .done)])])]))))))])])), (10, (.fork [(0, .fork [(5, (.take 6 (.take 7 (.take 8 (.take 9 (.fork [(11, .fork [(12, .fork [(13, .done)])])]))))))])]))])), (10, (.fork [(0, (.fork [(4, .fork [(5, (.take 6 (.take 7 (.take 8 (.take 9 (.fork [(11, .fork [(12, .fork [(13, .done)])])]))))))])])), (4, (.fork [(0, .fork [(5, (.take 6 (.take 7 (.take 8 (.take 9 (.fork [(11, .fork [(12, .fork [(13, .done)])])]))))))])]))]))]))))
          ⟨[(1, .pv (.seq false 3 (l.map hactR))), (2, .pv (I64 v)), (7, .pv (.ptr 0 0)), (9, .pv (.ptr 1 0)), (10, .pv (I64 0)), (11, .pv (I64 i)), (12, .pv (I64 R.v)), (13, .pv (I64 R.e)), (14, .pv (.ptr 2 0)), (15, .pv (I64 R.v)), (16, .pv (I64 R.e))], [heapB q2, [.pv (.seq false 1 (irow S)), .pv (.seq false 1 (brow B))], [.pv (.seq false 1 (irow R.S)), .pv (.seq false 1 (brow R.B))]]⟩ (by kernel_rfl) ?_ ?_
        · simp [c5, ha, hactR]
          repeat' apply And.intro
          all_goals
            first
              | refine CallK.introM hrd1 (by simp) ?_
              | refine CallK.introM hrd2 (by simp) ?_
            rintro _ _ ⟨rfl, rfl⟩
            simp
            exact Weak.keep (by simp) (by simp)
        · have hq2 : 0 < q2.sc.length := by rw [r2.g.sl]; omega
          have hl2 := r2.lS
          have k1 := hlen_ok q2 hq2
          have k2 := rlen_ok R.S R.B (by rw [r2.lB]; omega)
          rw [r2.len] at k1
          have k3 := hpeek_ok q2 hq2
          have k4 := rpeek_ok R.S R.B (by omega) (by rw [r2.lB, hl2])
          rw [r2.peek] at k3
          have k5 := fun v => hscore_ok q2 hq2 v
          have k6 := fun v => rscore_ok R.S R.B v (by omega)
          have k7 := fun v => hhas_ok q2 hq2 (by rw [r2.g.pll, r2.g.sl]) v
          have k8 := fun v => rhas_ok R.S R.B v (by rw [r2.lB]; omega)
          simp only [r2.score] at k5
          simp only [r2.has] at k7
          generalize cntB R.B = z1 at *
          generalize bestR R.S R.B R.S.length = z2 at *
          have k5v := k5 v
          have k6v := k6 v
          have k7v := k7 v
          have k8v := k8 v
          have k5a := k5 a.v
          have k6a := k6 a.v
          have k7a := k7 a.v
          have k8a := k8 a.v
          clear k5 k6 k7 k8
          generalize (if 1 ≤ v ∧ v ≤ R.S.length then R.S.getD (v.toNat - 1) 0 else 0) = z3 at *
          generalize (if 1 ≤ a.v ∧ a.v ≤ R.S.length then R.S.getD (a.v.toNat - 1) 0 else 0) = z4 at *
          generalize (decide (1 ≤ v) && (decide (v ≤ R.B.length) && R.B.getD (v.toNat - 1) false)) = z5 at *
          generalize (decide (1 ≤ a.v) && (decide (a.v ≤ R.B.length) && R.B.getD (a.v.toNat - 1) false)) = z6 at *
          simp only [rhV] at k2 k4 k6v k8v k6a k8a
          simp [c5, ha, hactR]
          rw [frz_heap0 (b := 0) (q := q2) rfl]
          refine CallQ.intro (fun _ => k1) (by simp) ?_
          simp
          refine CallQ.intro (fun _ => k2) (by simp) ?_
          simp
          rw [frz_heap0 (b := 0) (q := q2) rfl]
          refine CallQ.intro (fun _ => k3) (by simp) ?_
          simp
          refine CallQ.intro (fun _ => k4) (by simp) ?_
          simp
          rw [frz_heap0 (b := 0) (q := q2) rfl]
          refine CallQ.intro (fun _ => k5v) (by simp) ?_
          simp
          refine CallQ.intro (fun _ => k6v) (by simp) ?_
          simp
          rw [frz_heap0 (b := 0) (q := q2) rfl]
          refine CallQ.intro (fun _ => k7v) (by simp) ?_
          simp
          refine CallQ.intro (fun _ => k8v) (by simp) ?_
          simp [c5, ha, hactR]
          rw [frz_heap0 (b := 0) (q := q2) rfl]
          refine CallQ.intro (fun _ => k5a) (by simp) ?_
          simp [c5, ha, hactR]
          refine CallQ.intro (fun _ => k6a) (by simp) ?_
          simp [c5, ha, hactR]
          rw [frz_heap0 (b := 0) (q := q2) rfl]
          refine CallQ.intro (fun _ => k7a) (by simp) ?_
          simp [c5, ha, hactR]
          refine CallQ.intro (fun _ => k8a) (by simp) ?_
          simp [c5, ha, hactR]
          have hw : w64 ((i : Int) + 1) = ((i + 1 : Nat) : Int) := by rw [w64_id (by omega) (by omega)]; omega
          refine ⟨⟨i + 1, q2, R.S, R.B⟩, by dsimp only; omega, ⟨r2, by dsimp only; omega⟩, Weak.to ?_ (by simp) (by simp) ?_ ?_⟩
          · simp [hw]
          · simp
          · simp [heapB]
      · have : i = l.length := by omega
        subst this
        simp
        refine CallK.intro hawake_ok (by simp) (by simp)

end Go.AX
