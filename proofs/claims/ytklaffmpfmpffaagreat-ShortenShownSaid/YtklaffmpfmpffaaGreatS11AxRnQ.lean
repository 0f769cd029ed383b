/-
  What clauses, literals and truths are handed in as.
-/
import Derived.Test.YtklaffmpfmpffaaGreatS11AxGlS
import Derived.Test.YtklaffmpfmpffaaGreatS11AxRnY
namespace Go.AX

theorem sh_boolsR {x : PV} (h : IsSh (.sl [.bool]) x) : ∃ l : List Bool, x = .seq false 1 (brow l) := by
  simp only [IsSh] at h
  obtain ⟨rows, rfl, _, h⟩ := h
  obtain ⟨l, rfl⟩ := rows_of (fun b : Bool => [BL b]) _ (fun r hr => by
    simp only [IsShL, IsSh] at hr
    obtain ⟨_, _, rfl, ⟨a, rfl⟩, rfl⟩ := hr
    exact ⟨a, rfl⟩) rows h
  exact ⟨l, rfl⟩
theorem argsR3 {xs : List PV} (h : IsArgs [(false, [.sl [.sl [.int .i64]]]), (false, [.sl [.int .i64]]), (false, [.sl [.bool]])] xs) : ∃ (cs : List (List Int)) (l : List Int) (m : List Bool), xs = [.seq false 1 (cs.map crowF), .seq false 1 (irow l), .seq false 1 (brow m)] := by
  simp only [IsArgs, IsArg, IsShL] at h
  obtain ⟨_, _, rfl, ⟨_, _, h1, h2, h3⟩, _, _, rfl, ⟨_, _, h4, h5, h6⟩, _, _, rfl, ⟨_, _, h7, h8, h9⟩, rfl⟩ := h
  cases h1; cases h4; cases h7
  obtain ⟨cs, rfl⟩ := sh_clsG h2
  obtain ⟨l, rfl⟩ := sh_intsG h5
  obtain ⟨m, rfl⟩ := sh_boolsR h8
  exact ⟨cs, l, m, rfl⟩
end Go.AX
