/-
  What histories are handed in as.
-/
import Derived.Test.YtphbmbhmhbchbaaS4AxEvD
import Derived.Test.YtphbmbhmhbchbaaS4AxEvG
import Derived.Test.YtphbmbhmhbchbaaS4AxCntS
import Derived.Test.YtphbmbhmhbchbaaAxZ
namespace Go.AX

theorem sh_evs {x : PV} (h : IsSh (.sl [.int .i64, .int .i64, .int .i64]) x) : ∃ l : List Ev, (∀ y ∈ l, wfI y.p) ∧ x = evV l := by
  simp only [IsSh] at h
  obtain ⟨rows, rfl, _, h⟩ := h
  obtain ⟨l, rfl⟩ := rows_of (fun y : { y : Ev // wfI y.p } => evR y.1) _ (fun r hr => by
    simp only [IsShL, IsSh] at hr
    obtain ⟨_, _, rfl, ⟨a, rfl, _⟩, _, _, rfl, ⟨b, rfl, hb⟩, _, _, rfl, ⟨c, rfl, _⟩, rfl⟩ := hr
    exact ⟨⟨⟨a, b, c⟩, hb⟩, rfl⟩) rows h
  refine ⟨l.map (·.1), fun y hy => ?_, ?_⟩
  · obtain ⟨z, _, rfl⟩ := List.mem_map.1 hy
    exact z.2
  · unfold evV; rw [List.map_map]; rfl
theorem argsE3 {xs : List PV} (h : IsArgs [(false, [.sl [.int .i64, .int .i64, .int .i64]]), (false, [.sl [.int .i64, .int .i64, .int .i64, .int .i64, .int .i64]]), (false, [.sl [.int .i64, .int .i64, .int .i64, .int .i64, .int .i64]])] xs) :
    ∃ (l : List Ev) (a b : List Op5), xs = [evV l, ovec a, ovec b] := by
  simp only [IsArgs, IsArg, IsShL] at h
  obtain ⟨_, _, rfl, ⟨_, _, h1, h2, h3⟩, _, _, rfl, ⟨_, _, h4, h5, h6⟩, _, _, rfl, ⟨_, _, h7, h8, h9⟩, rfl⟩ := h
  cases h1; cases h4; cases h7
  obtain ⟨l, _, rfl⟩ := sh_evs h2
  obtain ⟨a, rfl⟩ := sh_ops h5
  obtain ⟨b, rfl⟩ := sh_ops h8
  exact ⟨l, a, b, rfl⟩
theorem argsE2 {xs : List PV} (h : IsArgs [(false, [.sl [.int .i64, .int .i64, .int .i64]]), (false, [.sl [.int .i64, .int .i64, .int .i64]]), (false, [.int .i64])] xs) : ∃ (l m : List Ev) (p : Int), (∀ y ∈ l, wfI y.p) ∧ xs = [evV l, evV m, I64 p] := by
  simp only [IsArgs, IsArg, IsShL] at h
  obtain ⟨_, _, rfl, ⟨_, _, h1, h2, h3⟩, _, _, rfl, ⟨_, _, h4, h5, h6⟩, _, _, rfl, ⟨_, _, h7, h8, h9⟩, rfl⟩ := h
  cases h1; cases h4; cases h7
  obtain ⟨l, hw, rfl⟩ := sh_evs h2
  obtain ⟨m, _, rfl⟩ := sh_evs h5
  simp only [IsSh] at h8
  obtain ⟨p, rfl, _⟩ := h8
  exact ⟨l, m, p, hw, rfl⟩
theorem argsE1 {xs : List PV} (h : IsArgs [(false, [.sl [.int .i64, .int .i64, .int .i64]]), (false, [.int .i64])] xs) : ∃ (l : List Ev) (p : Int), (∀ y ∈ l, wfI y.p) ∧ xs = [evV l, I64 p] := by
  simp only [IsArgs, IsArg, IsShL] at h
  obtain ⟨_, _, rfl, ⟨_, _, h1, h2, h3⟩, _, _, rfl, ⟨_, _, h7, h8, h9⟩, rfl⟩ := h
  cases h1; cases h7
  obtain ⟨l, hw, rfl⟩ := sh_evs h2
  simp only [IsSh] at h8
  obtain ⟨p, rfl, _⟩ := h8
  exact ⟨l, p, hw, rfl⟩
theorem argsE0 {xs : List PV} (h : IsArgs [(false, [.sl [.int .i64, .int .i64, .int .i64]])] xs) : ∃ (l : List Ev), (∀ y ∈ l, wfI y.p) ∧ xs = [evV l] := by
  simp only [IsArgs, IsArg, IsShL] at h
  obtain ⟨_, _, rfl, ⟨_, _, h1, h2, h3⟩, rfl⟩ := h
  cases h1
  obtain ⟨l, hw, rfl⟩ := sh_evs h2
  exact ⟨l, hw, rfl⟩

end Go.AX
