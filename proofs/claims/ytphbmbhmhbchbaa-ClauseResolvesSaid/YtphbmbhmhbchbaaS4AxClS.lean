/-
  What clauses are handed in as.
-/
import Derived.Test.YtphbmbhmhbchbaaS4AxClO
import Derived.Test.YtphbmbhmhbchbaaS4AxCntS
import Derived.Test.YtphbmbhmhbchbaaAxZ
namespace Go.AX

theorem sh_intsC {x : PV} (h : IsSh (.sl [.int .i64]) x) : ∃ l : List Int, x = .seq false 1 (irow l) := by
  simp only [IsSh] at h
  obtain ⟨rows, rfl, _, h⟩ := h
  obtain ⟨l, rfl⟩ := rows_of (fun i : Int => [I64 i]) _ (fun r hr => by
    simp only [IsShL, IsSh] at hr
    obtain ⟨_, _, rfl, ⟨a, rfl, _⟩, rfl⟩ := hr
    exact ⟨a, rfl⟩) rows h
  exact ⟨l, rfl⟩
theorem sh_boolsC {x : PV} (h : IsSh (.sl [.bool]) x) : ∃ l : List Bool, x = .seq false 1 (brow l) := by
  simp only [IsSh] at h
  obtain ⟨rows, rfl, _, h⟩ := h
  obtain ⟨l, rfl⟩ := rows_of (fun i : Bool => [BL i]) _ (fun r hr => by
    simp only [IsShL, IsSh] at hr
    obtain ⟨_, _, rfl, ⟨a, rfl⟩, rfl⟩ := hr
    exact ⟨a, rfl⟩) rows h
  exact ⟨l, rfl⟩
theorem argsC1 {xs : List PV} (h : IsArgs [(false, [.sl [.int .i64]]), (false, [.sl [.int .i64]]), (false, [.int .i64])] xs) : ∃ (c d : List Int) (n : Int), xs = [.seq false 1 (irow c), .seq false 1 (irow d), I64 n] := by
  simp only [IsArgs, IsArg, IsShL] at h
  obtain ⟨_, _, rfl, ⟨_, _, h1, h2, h3⟩, _, _, rfl, ⟨_, _, h4, h5, h6⟩, _, _, rfl, ⟨_, _, h7, h8, h9⟩, rfl⟩ := h
  cases h1; cases h4; cases h7
  obtain ⟨c, rfl⟩ := sh_intsC h2
  obtain ⟨d, rfl⟩ := sh_intsC h5
  simp only [IsSh] at h8
  obtain ⟨n, rfl, _⟩ := h8
  exact ⟨c, d, n, rfl⟩
theorem argsC2 {xs : List PV} (h : IsArgs [(false, [.sl [.int .i64]]), (false, [.sl [.int .i64]]), (true, [.int .i64, .int .i64])] xs) : ∃ (c d : List Int) (a b : Int), xs = [.seq false 1 (irow c), .seq false 1 (irow d), .agg [I64 a, I64 b]] := by
  simp only [IsArgs, IsArg, IsShL] at h
  obtain ⟨_, _, rfl, ⟨_, _, h1, h2, h3⟩, _, _, rfl, ⟨_, _, h4, h5, h6⟩, _, _, rfl, ⟨_, rfl, _, _, rfl, h7, _, _, rfl, h8, rfl⟩, rfl⟩ := h
  cases h1; cases h4
  obtain ⟨c, rfl⟩ := sh_intsC h2
  obtain ⟨d, rfl⟩ := sh_intsC h5
  simp only [IsSh] at h7 h8
  obtain ⟨a, rfl, _⟩ := h7
  obtain ⟨b, rfl, _⟩ := h8
  exact ⟨c, d, a, b, rfl⟩
theorem argsC3 {xs : List PV} (h : IsArgs [(false, [.sl [.int .i64]]), (false, [.sl [.int .i64]]), (false, [.sl [.bool]])] xs) : ∃ (c d : List Int) (m : List Bool), xs = [.seq false 1 (irow c), .seq false 1 (irow d), .seq false 1 (brow m)] := by
  simp only [IsArgs, IsArg, IsShL] at h
  obtain ⟨_, _, rfl, ⟨_, _, h1, h2, h3⟩, _, _, rfl, ⟨_, _, h4, h5, h6⟩, _, _, rfl, ⟨_, _, h7, h8, h9⟩, rfl⟩ := h
  cases h1; cases h4; cases h7
  obtain ⟨c, rfl⟩ := sh_intsC h2
  obtain ⟨d, rfl⟩ := sh_intsC h5
  obtain ⟨m, rfl⟩ := sh_boolsC h8
  exact ⟨c, d, m, rfl⟩

end Go.AX
