/-
  What calls of heaps are handed in as.
-/
import Derived.Test.YtipaihpchnlkfaaS2AxHpU
import Derived.Test.YtipaihpchnlkfaaS2AxCntS
import Derived.Test.YtipaihpchnlkfaaAxZ
namespace Go.AX

theorem sh_hacts {x : PV} (h : IsSh (.sl [.int .i64, .int .i64, .int .i64]) x) : ∃ l : List HAct, x = hvec l := by
  simp only [IsSh] at h
  obtain ⟨rows, rfl, _, h⟩ := h
  obtain ⟨l, rfl⟩ := rows_of hactR _ (fun r hr => by
    simp only [IsShL, IsSh] at hr
    obtain ⟨_, _, rfl, ⟨a, rfl, _⟩, _, _, rfl, ⟨b, rfl, _⟩, _, _, rfl, ⟨c, rfl, _⟩, rfl⟩ := hr
    exact ⟨⟨a, b, c⟩, rfl⟩) rows h
  exact ⟨l, rfl⟩
theorem argsH3 {xs : List PV} (h : IsArgs [(false, [.int .i64]), (false, [.sl [.int .i64, .int .i64, .int .i64]]), (true, [.int .i64, .int .i64])] xs) : ∃ (v : Int) (l : List HAct) (a b : Int), xs = [I64 v, hvec l, .agg [I64 a, I64 b]] := by
  simp only [IsArgs, IsArg, IsShL] at h
  obtain ⟨_, _, rfl, ⟨_, _, h1, h2, h3⟩, _, _, rfl, ⟨_, _, h4, h5, h6⟩, _, _, rfl, ⟨_, rfl, _, _, rfl, h7, _, _, rfl, h8, rfl⟩, rfl⟩ := h
  cases h1; cases h4
  obtain ⟨l, rfl⟩ := sh_hacts h5
  simp only [IsSh] at h2 h7 h8
  obtain ⟨v, rfl, _⟩ := h2
  obtain ⟨a, rfl, _⟩ := h7
  obtain ⟨b, rfl, _⟩ := h8
  exact ⟨v, l, a, b, rfl⟩
theorem argsH2 {xs : List PV} (h : IsArgs [(false, [.int .i64]), (false, [.sl [.int .i64, .int .i64, .int .i64]])] xs) : ∃ (v : Int) (l : List HAct), xs = [I64 v, hvec l] := by
  simp only [IsArgs, IsArg, IsShL] at h
  obtain ⟨_, _, rfl, ⟨_, _, h1, h2, h3⟩, _, _, rfl, ⟨_, _, h4, h5, h6⟩, rfl⟩ := h
  cases h1; cases h4
  obtain ⟨l, rfl⟩ := sh_hacts h5
  simp only [IsSh] at h2
  obtain ⟨v, rfl, _⟩ := h2
  exact ⟨v, l, rfl⟩
theorem argsH1 {xs : List PV} (h : IsArgs [(false, [.int .i64]), (false, [.sl [.int .i64, .int .i64, .int .i64]]), (false, [.int .i64])] xs) : ∃ (v : Int) (l : List HAct) (a : Int), xs = [I64 v, hvec l, I64 a] := by
  simp only [IsArgs, IsArg, IsShL] at h
  obtain ⟨_, _, rfl, ⟨_, _, h1, h2, h3⟩, _, _, rfl, ⟨_, _, h4, h5, h6⟩, _, _, rfl, ⟨_, _, h7, h8, h9⟩, rfl⟩ := h
  cases h1; cases h4; cases h7
  obtain ⟨l, rfl⟩ := sh_hacts h5
  simp only [IsSh] at h2 h8
  obtain ⟨v, rfl, _⟩ := h2
  obtain ⟨a, rfl, _⟩ := h8
  exact ⟨v, l, a, rfl⟩

end Go.AX
