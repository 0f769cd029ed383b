/-
  What formulas, steps and truths are handed in as.
-/
import Derived.Test.YtklaffmpfmpffaaGreatS11AxTsS
import Derived.Test.YtklaffmpfmpffaaGreatS11AxTtE
namespace Go.AX

theorem sh_boolsT {x : PV} (h : IsSh (.sl [.bool]) x) : ∃ l : List Bool, x = .seq false 1 (brow l) := by
  simp only [IsSh] at h
  obtain ⟨rows, rfl, _, h⟩ := h
  obtain ⟨l, rfl⟩ := rows_ofT (fun b : Bool => [BL b]) _ (fun r hr => by
    simp only [IsShL, IsSh] at hr
    obtain ⟨_, _, rfl, ⟨a, rfl⟩, rfl⟩ := hr
    exact ⟨a, rfl⟩) rows h
  exact ⟨l, rfl⟩
theorem argsT3 {xs : List PV} (h : IsArgs [(true, [.int .i64, .sl [.sl [.int .i64]]]), (false, [.sl [.int .i64, .int .i64, .sl [.int .i64], .sl [.int .i64]]]), (false, [.sl [.bool]])] xs) : ∃ (v : Int) (L : List (List Int)) (ss : List Stp) (m : List Bool), xs = [.agg [I64 v, .seq false 1 (L.map crowF)], .seq false 4 (ss.map stpR), .seq false 1 (brow m)] := by
  rw [IsArgs] at h
  obtain ⟨_, _, rfl, h1, h⟩ := h
  rw [IsArgs] at h
  obtain ⟨_, _, rfl, h2, h⟩ := h
  rw [IsArgs] at h
  obtain ⟨_, _, rfl, h3, h⟩ := h
  rw [IsArgs] at h
  subst h
  simp only [IsArg] at h1 h2 h3
  obtain ⟨ys, rfl, h1⟩ := h1
  rw [IsShL] at h2 h3
  obtain ⟨t, us, e, h2⟩ := h2
  cases e
  obtain ⟨t, us, e, h3⟩ := h3
  cases e
  obtain ⟨v, L, rfl⟩ := sh_formT h1
  obtain ⟨ss, rfl⟩ := sh_stepsT h2.1
  obtain ⟨m, rfl⟩ := sh_boolsT h3.1
  exact ⟨v, L, ss, m, rfl⟩
end Go.AX
