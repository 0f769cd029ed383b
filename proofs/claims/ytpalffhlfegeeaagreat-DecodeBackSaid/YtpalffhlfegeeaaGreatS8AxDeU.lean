/-
  What picks, and truths and picks, are handed in as.
-/
import Derived.Test.YtpalffhlfegeeaaGreatS8AxMovM
import Derived.Test.YtpalffhlfegeeaaGreatS8AxMovP
import Derived.Test.YtpalffhlfegeeaaGreatS8AxDeT
namespace Go.AX

theorem sh_picks {x : PV} (h : IsSh (.sl [.int .i64, .int .i64]) x) : ∃ ps : List (Int × Int), x = .seq false 2 (ps.map prow) := by
  simp only [IsSh] at h
  obtain ⟨rows, rfl, _, h⟩ := h
  obtain ⟨l, rfl⟩ := rows_of (fun i : Int × Int => prow i) _ (fun r hr => by
    simp only [IsShL, IsSh] at hr
    obtain ⟨_, _, rfl, ⟨a, rfl, _⟩, _, _, rfl, ⟨b, rfl, _⟩, rfl⟩ := hr
    exact ⟨(a, b), rfl⟩) rows h
  exact ⟨l, rfl⟩
theorem sh_caseD {ys : List PV} (h : IsShL [.sl [.bool], .sl [.int .i64, .int .i64]] ys) : ∃ M ps, PV.agg ys = caseD M ps := by
  simp only [IsShL] at h
  obtain ⟨_, _, rfl, h1, _, _, rfl, h2, rfl⟩ := h
  obtain ⟨a, rfl⟩ := sh_bools h1
  obtain ⟨b, rfl⟩ := sh_picks h2
  exact ⟨a, b, rfl⟩
end Go.AX
