/-
  What formulas, steps and truths are handed in as.
-/
import Derived.Test.YthfhellfmbllhaaGreatS12AxTsC
import Derived.Test.YthfhellfmbllhaaGreatAxZ
namespace Go.AX
theorem rows_ofT {α : Type} (f : α → List PV) (s : List Sh) (h1 : ∀ r, IsShL s r → ∃ x, r = f x) : ∀ rows : List (List PV), (∀ r ∈ rows, IsShL s r) → ∃ l : List α, rows = l.map f
  | [], _ => ⟨[], rfl⟩
  | r :: rows, h => by
    obtain ⟨x, rfl⟩ := h1 r (h r List.mem_cons_self)
    obtain ⟨l, rfl⟩ := rows_ofT f s h1 rows (fun r hr => h r (List.mem_cons_of_mem _ hr))
    exact ⟨x :: l, rfl⟩
theorem sh_intsT {x : PV} (h : IsSh (.sl [.int .i64]) x) : ∃ l : List Int, x = .seq false 1 (irow l) := by
  simp only [IsSh] at h
  obtain ⟨rows, rfl, _, h⟩ := h
  obtain ⟨l, rfl⟩ := rows_ofT (fun i : Int => [I64 i]) _ (fun r hr => by
    simp only [IsShL, IsSh] at hr
    obtain ⟨_, _, rfl, ⟨a, rfl, _⟩, rfl⟩ := hr
    exact ⟨a, rfl⟩) rows h
  exact ⟨l, rfl⟩
theorem sh_clsT {x : PV} (h : IsSh (.sl [.sl [.int .i64]]) x) : ∃ cs : List (List Int), x = .seq false 1 (cs.map crowF) := by
  rw [IsSh] at h
  obtain ⟨rows, rfl, _, h⟩ := h
  obtain ⟨l, rfl⟩ := rows_ofT crowF _ (fun r hr => by
    rw [IsShL] at hr
    obtain ⟨_, _, rfl, h1, h2⟩ := hr
    obtain ⟨l, rfl⟩ := sh_intsT h1
    rw [IsShL] at h2
    subst h2
    exact ⟨l, rfl⟩) rows h
  exact ⟨l, rfl⟩
theorem sh_stepsT {x : PV} (h : IsSh (.sl [.int .i64, .int .i64, .sl [.int .i64], .sl [.int .i64]]) x) : ∃ l : List Stp, x = .seq false 4 (l.map stpR) := by
  rw [IsSh] at h
  obtain ⟨rows, rfl, _, h⟩ := h
  obtain ⟨l, rfl⟩ := rows_ofT stpR _ (fun r hr => by
    rw [IsShL] at hr
    obtain ⟨_, _, rfl, h1, hr⟩ := hr
    rw [IsShL] at hr
    obtain ⟨_, _, rfl, h2, hr⟩ := hr
    rw [IsShL] at hr
    obtain ⟨_, _, rfl, h3, hr⟩ := hr
    rw [IsShL] at hr
    obtain ⟨_, _, rfl, h4, hr⟩ := hr
    rw [IsShL] at hr
    subst hr
    rw [IsSh] at h1 h2
    obtain ⟨a, rfl, _⟩ := h1
    obtain ⟨b, rfl, _⟩ := h2
    obtain ⟨c, rfl⟩ := sh_intsT h3
    obtain ⟨d, rfl⟩ := sh_intsT h4
    exact ⟨⟨a, b, c, d⟩, rfl⟩) rows h
  exact ⟨l, rfl⟩
theorem sh_formT {xs : List PV} (h : IsShL [.int .i64, .sl [.sl [.int .i64]]] xs) : ∃ (v : Int) (L : List (List Int)), xs = [I64 v, .seq false 1 (L.map crowF)] := by
  rw [IsShL] at h
  obtain ⟨_, _, rfl, h1, h⟩ := h
  rw [IsShL] at h
  obtain ⟨_, _, rfl, h2, h⟩ := h
  rw [IsShL] at h
  subst h
  rw [IsSh] at h1
  obtain ⟨v, rfl, _⟩ := h1
  obtain ⟨L, rfl⟩ := sh_clsT h2
  exact ⟨v, L, rfl⟩
theorem argsT2 {xs : List PV} (h : IsArgs [(true, [.int .i64, .sl [.sl [.int .i64]]]), (false, [.sl [.int .i64, .int .i64, .sl [.int .i64], .sl [.int .i64]]])] xs) : ∃ (v : Int) (L : List (List Int)) (ss : List Stp), xs = [.agg [I64 v, .seq false 1 (L.map crowF)], .seq false 4 (ss.map stpR)] := by
  rw [IsArgs] at h
  obtain ⟨_, _, rfl, h1, h⟩ := h
  rw [IsArgs] at h
  obtain ⟨_, _, rfl, h2, h⟩ := h
  rw [IsArgs] at h
  subst h
  simp only [IsArg] at h1 h2
  obtain ⟨ys, rfl, h1⟩ := h1
  rw [IsShL] at h2
  obtain ⟨t, us, e, h2⟩ := h2
  cases e
  obtain ⟨v, L, rfl⟩ := sh_formT h1
  obtain ⟨ss, rfl⟩ := sh_stepsT h2.1
  exact ⟨v, L, ss, rfl⟩
end Go.AX
