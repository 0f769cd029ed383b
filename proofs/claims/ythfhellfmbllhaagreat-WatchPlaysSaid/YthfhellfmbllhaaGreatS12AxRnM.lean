/-
  Each reason of a desk is a clause, all others of which fail by what stands ahead (plain law).
  Contracts: the probe of the layer shorten.
  Contracts: what other literals a reason has, and what is left over, by the document.
  What is left over, deeply, of a desk: the program's answer is the document's (plain law).
  How a desk's trail came about: each level is calm ahead of the next decision (plain law).
  What a conflict teaches: of the last level one literal is left (plain law).
  Contracts: a conflict is taken apart.
  Contracts: what a conflict teaches is gone through; levels; what fails.
  Contracts: the reasons that are needed are gathered.
  Hints that were found show what a conflict teaches (plain law).
  Contracts: the document's chains of hints.
-/
import Derived.Test.YthfhellfmbllhaaGreatS12AxShE
import Derived.Test.YthfhellfmbllhaaGreatS12AxGlI
import Derived.Test.YthfhellfmbllhaaGreatS12AxEvC
import Derived.Test.YthfhellfmbllhaaGreatS12AxGlD
import Derived.Test.YthfhellfmbllhaaGreatRows
import Derived.Test.YthfhellfmbllhaaGreatAxIs
import Derived.Test.YthfhellfmbllhaaGreatAxDr
import Derived.Sort.Grow
import Derived.Shelf.SlSortCmp.Insertion
namespace Go.AX
open Go.Proofs
set_option linter.unusedSimpArgs false
theorem relA_lits {A : Ar} {a : RA} (h : RelA A a) {r : Ro} (hr : r ∈ a.rows) : isA A r.at' = true ∧ litsA A r.at' = r.lits := by
  obtain ⟨p, e1, e2, e3, e4, _⟩ := h.rows r hr
  rw [e1]
  refine ⟨e4, ?_⟩
  unfold litsA
  rw [if_pos e4, Int.toNat_natCast, e2.num, Int.toNat_natCast]
  exact e3
@[simp ↓ high] theorem AGs_true {P : Program} {st : St} {Gd : Prop} {o : Op} {d : Option Tmp} {K : St → Prop} (h : Gd) : AGs P st Gd o d K = AE P st o d K :=
  propext ⟨fun x => x.1 h, fun x => ⟨fun _ => x, fun hn => absurd h hn⟩⟩
instance : Inhabited Ro := ⟨⟨0, 0, []⟩⟩
def findA (a : RA) (q : Int) : Int := idxS (fun x : Ro => decide (x.at' = q)) a.rows
theorem refFind_ok (a : RA) (q : Int) (ha : a.rows.length ≤ 1000000) : APure Tryz.prog 48 [raV a, I64 q] (fun r => r = .pv (I64 (findA a q))) := by
  refine apure1 hmo Tryz.func48 (by kernel_rfl) rfl rfl (by kernel_rfl) (Nat.le_of_ble_eq_true rfl) ?_
  simp [raV]
  refine ALoop.intro (S := fun (i : Nat) => ⟨[(1, .pv (I64 q)), (2, .pv (.ptr 0 0)), (5, .pv (I64 i))], [[.pv (.seq false 5 (a.rows.map roR)), .pv (I64 a.size)]]⟩) (fun i => i ≤ a.rows.length ∧ ∀ j (hj : j < a.rows.length), j < i → decide (a.rows[j].at' = q) = false) (fun i => a.rows.length - i) 0 ?_ ⟨Nat.zero_le _, fun j _ h => absurd h (Nat.not_lt_zero _)⟩ ?_
  · exact Weak.to (by simp) (by simp) (by simp) (by simp) (by simp)
  rintro i ⟨hi, ho⟩
  by_cases h : i < a.rows.length
  · have hw : w64 ((i : Int) + 1) = ((i + 1 : Nat) : Int) := by rw [w64_id (by omega) (by omega)]; omega
    by_cases c : a.rows[i].at' = q
    · have hF : findA a q = i := idxS_at h ho (by simpa using c)
      simp [h, roR, c, hF]
    · simp [h, roR, c]
      refine ⟨i + 1, by (try dsimp only); omega, ⟨by (try dsimp only); omega, fun j hj hji => ?_⟩, Weak.to (by simp [hw, roR]) (by simp) (by simp) (by simp) (by simp)⟩
      by_cases e : j = i
      · subst e; simpa using c
      · simpa using ho j hj (by omega)
  · have hie : i = a.rows.length := by omega
    subst hie
    have hF : findA a q = -1 := idxS_none fun j hj => ho j hj hj
    simp [hF]
def litsD (a : RA) (q : Int) : List Int := (a.rows.getD (findA a q).toNat default).lits
theorem findA_is {A : Ar} {a : RA} (h : RelA A a) (q : Int) : (isA A q = true → 0 ≤ findA a q ∧ litsD a q = litsA A q) ∧ (isA A q = false → findA a q < 0) := by
  constructor
  · intro hq
    unfold litsD
    unfold findA idxS
    split
    · rename_i j hj
      rw [List.findIdx?_eq_some_iff_getElem] at hj
      obtain ⟨h1, h2, _⟩ := hj
      obtain ⟨_, r2⟩ := relA_lits h (List.getElem_mem h1)
      have e : a.rows[j].at' = q := by simpa using h2
      rw [e] at r2
      refine ⟨by omega, ?_⟩
      rw [Int.toNat_natCast, List.getD_eq_getElem?_getD, List.getElem?_eq_getElem h1]
      exact r2.symm
    · rename_i hj
      rw [List.findIdx?_eq_none_iff] at hj
      obtain ⟨x, hx, e⟩ := h.is q hq
      have := hj x hx
      simp [e] at this
  · intro hq
    unfold findA idxS
    split
    · rename_i j hj
      rw [List.findIdx?_eq_some_iff_getElem] at hj
      obtain ⟨h1, h2, _⟩ := hj
      obtain ⟨r1, _⟩ := relA_lits h (List.getElem_mem h1)
      have e : a.rows[j].at' = q := by simpa using h2
      rw [e, hq] at r1
      cases r1
    · omega
def bel (t : RT) (k : Int) : List Int := (t.rows.filter fun x => decide (x.lev < k)).map (·.l)
structure PS where
  seen : List (Int × Int)
  lits : List Int
  many : Nat
def seenB (s : List (Int × Int)) (v : Int) : Bool := decide (0 < (lk s v).getD 0)
def lvl (T : Tr) (l : Int) : Int := (ofT T (litV l)).1.lev
def takeF (T : Tr) (but : Int) (p : PS) (l : Int) : PS :=
  if litV l = but ∨ seenB p.seen (litV l) = true ∨ lvl T l ≤ 0 then p
  else if lvl T l = T.beg.length then ⟨pt p.seen (litV l) 1, p.lits, p.many + 1⟩ else ⟨pt p.seen (litV l) 1, p.lits ++ [l], p.many⟩
def takeL (T : Tr) (but : Int) (c : List Int) (p : PS) : PS := c.foldl (takeF T but) p
def pickB (T : Tr) (p : PS) (l : Int) : Bool := seenB p.seen (litV l) && (decide (lvl T l = T.beg.length) && decide (0 ≤ (ofT T (litV l)).1.rea))
def resS (A : Ar) (T : Tr) (p : PS) (l : Int) : PS := takeL T (litV l) (litsA A (ofT T (litV l)).1.rea) ⟨pt p.seen (litV l) 0, p.lits, p.many - 1⟩
def walkF (A : Ar) (T : Tr) (all : List Int) : Nat → PS → PS
  | 0, p => p
  | n + 1, p => if p.many ≤ 1 then p else if pickB T p (all.getD n 0) = true then walkF A T all n (resS A T p (all.getD n 0)) else walkF A T all n p
def endS (T : Tr) (all : List Int) (p : PS) : List Int := p.lits ++ (all.filter fun l => seenB p.seen (litV l) && decide (lvl T l = T.beg.length)).map fun l => w64 (-l)
/-! ### Places of what is assigned -/
/-! ### Counting -/
/-! ### What is known while a conflict is taken apart -/
@[simp] theorem frzL_trR (r : Nat → Nat → PV) (T : Tr) : frzL r (trR T) = trR T := by simp [trR]
@[simp] theorem belowL_trR (k : Nat) (T : Tr) : belowL k (trR T) := by simp [trR]
def fin (A : Ar) (T : Tr) (all : List Int) (p : PS) : PS := ⟨(walkF A T all all.length p).seen, endS T all (walkF A T all all.length p), (walkF A T all all.length p).many⟩
def idA (A : Ar) (q : Int) : Int := if isA A q = true then A.row.getD q.toNat 0 else 0
def pla (T : Tr) (l : Int) : Int := (ofT T (litV l)).1.pla
def rea (T : Tr) (l : Int) : Int := (ofT T (litV l)).1.rea
def chnF (l : List Int) : List (List Int) → Nat → List Int × Nat × Int
  | [], n => (l, n, 23)
  | h :: hs, n => if clS l h = -1 then (l, n + 1, 0) else if (unitS l h).2 = true then chnF (l ++ [(unitS l h).1]) hs (n + 1) else ([], n, 22)
def staTo (c : List Int) : Nat → List Int
  | 0 => []
  | i + 1 => if c.getD i 0 ∈ c.take i then staTo c i else staTo c i ++ [w64 (-(c.getD i 0))]
def staL (c : List Int) : List Int := staTo c c.length
def rj (D : DK) (j : Nat) : Int := rea D.T (D.T.lits.getD j 0)
def badL (c : List Int) : Bool := c.any fun x => decide (litX x < 0)
def staE (c : List Int) : Int := if badL c = true then 10 else if tautS c = true then 11 else 0
def shwS (c : List Int) (hs : List (List Int)) : Nat × Int := if staE c = 0 then ((chnF (staL c) hs 0).2.1, (chnF (staL c) hs 0).2.2) else (0, staE c)
end Go.AX
