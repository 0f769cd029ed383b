/-
  What clauses and literals are handed in as, for WatchReasons.
-/
import Derived.Test.YthfhellfmbllhaaS13AxGlS
import Derived.Test.YthfhellfmbllhaaS13AxWbB
namespace Go.AX

theorem argsWb2 {xs : List PV} (h : IsArgs [(false, [.sl [.sl [.int .i64]]]), (false, [.sl [.int .i64]])] xs) : ∃ (cs : List (List Int)) (l : List Int), xs = [.seq false 1 (cs.map crowF), .seq false 1 (irow l)] := by
  simp only [IsArgs, IsArg, IsShL] at h
  obtain ⟨_, _, rfl, ⟨_, _, h1, h2, h3⟩, _, _, rfl, ⟨_, _, h4, h5, h6⟩, rfl⟩ := h
  cases h1; cases h4
  obtain ⟨cs, rfl⟩ := sh_clsG h2
  obtain ⟨l, rfl⟩ := sh_intsG h5
  exact ⟨cs, l, rfl⟩
end Go.AX
