/-
  What cases are handed in as.
-/
import Derived.Test.YtklaffmpfmpffaaGreatDoorS10AxEnS
import Derived.Test.YtklaffmpfmpffaaGreatDoorS10AxMovO
namespace Go.AX

theorem sh_ints {x : PV} (h : IsSh (.sl [.int .i64]) x) : ∃ l : List Int, x = .seq false 1 (irow l) := by
  simp only [IsSh] at h
  obtain ⟨rows, rfl, _, h⟩ := h
  obtain ⟨l, rfl⟩ := rows_of (fun i : Int => [I64 i]) _ (fun r hr => by
    simp only [IsShL, IsSh] at hr
    obtain ⟨_, _, rfl, ⟨a, rfl, _⟩, rfl⟩ := hr
    exact ⟨a, rfl⟩) rows h
  exact ⟨l, rfl⟩
theorem sh_bools {x : PV} (h : IsSh (.sl [.bool]) x) : ∃ l : List Bool, x = .seq false 1 (brow l) := by
  simp only [IsSh] at h
  obtain ⟨rows, rfl, _, h⟩ := h
  obtain ⟨l, rfl⟩ := rows_of (fun i : Bool => [BL i]) _ (fun r hr => by
    simp only [IsShL, IsSh] at hr
    obtain ⟨_, _, rfl, ⟨a, rfl⟩, rfl⟩ := hr
    exact ⟨a, rfl⟩) rows h
  exact ⟨l, rfl⟩
theorem sh_case {ys : List PV} (h : IsShL [.sl [.int .i64], .sl [.bool], .sl [.int .i64]] ys) : ∃ order inn row, PV.agg ys = caseV order inn row := by
  simp only [IsShL] at h
  obtain ⟨_, _, rfl, h1, _, _, rfl, h2, _, _, rfl, h3, rfl⟩ := h
  obtain ⟨a, rfl⟩ := sh_ints h1
  obtain ⟨b, rfl⟩ := sh_bools h2
  obtain ⟨c, rfl⟩ := sh_ints h3
  exact ⟨a, b, c, rfl⟩
theorem argsC {s u : List Sh} {t : Sh} {xs : List PV} (h : IsArgs [(true, s), (false, [t]), (true, u)] xs) : ∃ ys y zs, xs = [.agg ys, y, .agg zs] ∧ IsShL s ys ∧ IsSh t y ∧ IsShL u zs := by
  simp only [IsArgs, IsArg, IsShL] at h
  obtain ⟨_, _, rfl, ⟨ys, rfl, h1⟩, y, _, rfl, ⟨_, _, h2, h3, h4⟩, _, _, rfl, ⟨zs, rfl, h5⟩, rfl⟩ := h
  cases h2
  exact ⟨ys, y, zs, rfl, h1, h3, h5⟩

end Go.AX
