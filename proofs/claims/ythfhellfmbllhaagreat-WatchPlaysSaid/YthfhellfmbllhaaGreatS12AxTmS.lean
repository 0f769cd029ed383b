/-
  Contracts: lrat: a group of hints is noted.
  Contracts: rat.Show.
  Contracts: lrat.Checker: may a clause be added?
-/
import Derived.Test.YthfhellfmbllhaaGreatS12AxTmO
import Derived.Test.YthfhellfmbllhaaGreatS12AxTmN
import Derived.Test.YthfhellfmbllhaaGreatAxPu
namespace Go.AX
open Go.Proofs
set_option linter.unusedSimpArgs false
def noteF (c : Ck) (each : List (Int × List (List Int))) (g : List Int) : List (Int × List (List Int)) :=
  if bsB (idsS c) (w64 (-(g.headD 0))) = true then pt each (bsI (idsS c) (w64 (-(g.headD 0)))) (rowsS c g.tail) else each
def fS (l : List (List Int)) : PV := .seq false 1 (l.map crowF)
@[simp] theorem look_fS (l : List (Int × List (List Int))) (k : Int) : amLook (mapE fS l) k = (lk l k).map fS := amLook_mapE fS l k
@[simp] theorem frzE_fS (r : Nat → Nat → PV) : ∀ l : List (Int × List (List Int)), frzE r (mapE fS l) = mapE fS l
  | [] => rfl
  | x :: l => by
    have := frzE_fS r l
    show (x.1, frzW r (fS x.2)) :: frzE r (mapE fS l) = (x.1, fS x.2) :: mapE fS l
    rw [this]
    simp [fS]
@[simp] theorem belowE_fS (n : Nat) : ∀ l : List (Int × List (List Int)), belowE n (mapE fS l)
  | [] => trivial
  | x :: l => ⟨belowR_crowF n _, belowE_fS n l⟩
def refB (cs : List (List Int)) (c l : List Int) (each : List (Int × List (List Int))) (i : Int) : Bool :=
  match lk each i with
  | none => false
  | some h => decide (refE l (cs.getD i.toNat []) (c.headD 0) h = 0)
def ratGo (f : Int → Bool) : List Int → Nat → Int × Int
  | [], n => (n, 0)
  | i :: l, n => if f i = false then (i, 24) else ratGo f l n
def ratS (cs : List (List Int)) (c : List Int) (ahead : List (List Int)) (each : List (Int × List (List Int))) : Int × Int :=
  if staE c ≠ 0 then (-1, staE c) else if c = [] then (-1, 11) else if (chnF (staL c) ahead 0).2.2 ≠ 23 then (-1, (chnF (staL c) ahead 0).2.2)
  else ratGo (refB cs c (chnF (staL c) ahead 0).1 each) (canS cs (c.headD 0) cs.length) (canS cs (c.headD 0) cs.length).length
theorem sortZ_pairwise (l : List Int) : (sortZ l).Pairwise (· ≤ ·) := by
  have := List.pairwise_mergeSort (le := fun x y : Int => decide (x ≤ y)) (fun a b c h1 h2 => by simp at *; omega) (fun a b => by simp; omega) l
  exact this.imp (fun h => by simpa using h)
def eachS (c : Ck) (gs : List (List Int)) : List (Int × List (List Int)) := gs.foldl (noteF c) []
def shoC (c : Ck) (lits hints : List Int) : Int :=
  if (shwS lits (rowsS c (splS hints).1)).2 ≠ 23 ∨ lits = [] then (shwS lits (rowsS c (splS hints).1)).2
  else if (ratS (rowsS c (idsS c)) lits (rowsS c (splS hints).1) (eachS c (splS hints).2)).2 ≠ 0 then 24 else 0
theorem lk_in {α : Type} : ∀ {l : List (Int × α)} {k : Int} {x : α}, lk l k = some x → (k, x) ∈ l
  | (j, y) :: l, k, x, h => by
    rw [lk] at h
    split at h
    · rename_i e
      subst e
      injection h with h
      subst h
      exact List.mem_cons_self
    · exact List.mem_cons_of_mem _ (lk_in h)
theorem Weak.frzC {k0 : Nat} {st : St} {b k e : Nat} {nw : Bool} {rows : List (List PV)} (h : posGet st (.cell b k) = .own nw e rows) : Weak k0 st (setPos st (.cell b k) (.pv (.seq nw e rows))) := fun g a w _ hs => by
  obtain ⟨g', t, _, _, _, s, _⟩ := hs.freeze (p := .cell b k) (by rw [h]; rfl)
  rw [h] at s
  exact ⟨g', t, s⟩
end Go.AX
