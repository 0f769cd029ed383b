/-
  What operations and what is done are handed in as.
-/
import Derived.Test.YtphbmbhmhbchbaaS4AxOpE
import Derived.Test.YtphbmbhmhbchbaaS4AxCntS
import Derived.Test.YtphbmbhmhbchbaaAxZ
namespace Go.AX

theorem sh_boolsO {x : PV} (h : IsSh (.sl [.bool]) x) : ∃ l : List Bool, x = .seq false 1 (brow l) := by
  simp only [IsSh] at h
  obtain ⟨rows, rfl, _, h⟩ := h
  obtain ⟨l, rfl⟩ := rows_of (fun i : Bool => [BL i]) _ (fun r hr => by
    simp only [IsShL, IsSh] at hr
    obtain ⟨_, _, rfl, ⟨a, rfl⟩, rfl⟩ := hr
    exact ⟨a, rfl⟩) rows h
  exact ⟨l, rfl⟩
theorem argsO2 {xs : List PV} (h : IsArgs [(false, [.sl [.int .i64, .int .i64, .int .i64, .int .i64, .int .i64]]), (false, [.sl [.bool]])] xs) : ∃ (ops : List Op5) (done : List Bool), xs = [ovec ops, .seq false 1 (brow done)] := by
  simp only [IsArgs, IsArg, IsShL] at h
  obtain ⟨_, _, rfl, ⟨_, _, h1, h2, h3⟩, _, _, rfl, ⟨_, _, h4, h5, h6⟩, rfl⟩ := h
  cases h1; cases h4
  obtain ⟨ops, rfl⟩ := sh_ops h2
  obtain ⟨done, rfl⟩ := sh_boolsO h5
  exact ⟨ops, done, rfl⟩

end Go.AX
