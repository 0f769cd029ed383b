/-
  What rows and clauses are handed in as.
-/
import Derived.Test.YthfhellfmbllhaaS13AxDkQ
import Derived.Test.YthfhellfmbllhaaAxBe
import Derived.Test.YthfhellfmbllhaaS13AxGlC
import Derived.Test.YthfhellfmbllhaaS13AxCntS
import Derived.Test.YthfhellfmbllhaaAxZ
namespace Go.AX

theorem sh_intsG {x : PV} (h : IsSh (.sl [.int .i64]) x) : ∃ l : List Int, x = .seq false 1 (irow l) := by
  simp only [IsSh] at h
  obtain ⟨rows, rfl, _, h⟩ := h
  obtain ⟨l, rfl⟩ := rows_of (fun i : Int => [I64 i]) _ (fun r hr => by
    simp only [IsShL, IsSh] at hr
    obtain ⟨_, _, rfl, ⟨a, rfl, _⟩, rfl⟩ := hr
    exact ⟨a, rfl⟩) rows h
  exact ⟨l, rfl⟩
theorem sh_clsG {x : PV} (h : IsSh (.sl [.sl [.int .i64]]) x) : ∃ cs : List (List Int), x = .seq false 1 (cs.map crowF) := by
  rw [IsSh] at h
  obtain ⟨rows, rfl, _, h⟩ := h
  obtain ⟨l, rfl⟩ := rows_of crowF _ (fun r hr => by
    rw [IsShL] at hr
    obtain ⟨_, _, rfl, h1, h2⟩ := hr
    obtain ⟨l, rfl⟩ := sh_intsG h1
    rw [IsShL] at h2
    subst h2
    exact ⟨l, rfl⟩) rows h
  exact ⟨l, rfl⟩
end Go.AX
