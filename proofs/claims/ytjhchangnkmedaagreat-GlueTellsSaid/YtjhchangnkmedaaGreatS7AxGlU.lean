/-
  What clauses are handed in as: their numbers are in range.
-/
import Derived.Test.YtjhchangnkmedaaGreatS7AxGlS
import Derived.Test.YtjhchangnkmedaaGreatS7AxGlO
namespace Go.AX

theorem wf_i64 {n : Int} (h : (Lit.int .i64 n).wf = true) : i64R n := by
  simp only [Lit.wf, Bool.and_eq_true, decide_eq_true_eq] at h
  unfold i64R
  have h1 := h.1
  have h2 := h.2
  constructor
  · exact h1
  · exact h2
theorem sh_intsR {x : PV} (h : IsSh (.sl [.int .i64]) x) : ∃ l : List Int, x = .seq false 1 (irow l) ∧ ∀ n ∈ l, i64R n := by
  simp only [IsSh] at h
  obtain ⟨rows, rfl, _, h⟩ := h
  obtain ⟨l, rfl⟩ := rows_of (fun i : {n : Int // i64R n} => [I64 i.1]) _ (fun r hr => by
    simp only [IsShL, IsSh] at hr
    obtain ⟨_, _, rfl, ⟨a, rfl, ha⟩, rfl⟩ := hr
    exact ⟨⟨a, wf_i64 ha⟩, rfl⟩) rows h
  exact ⟨l.map (·.1), by unfold irow; rw [List.map_map]; rfl, fun n hn => by
    obtain ⟨m, _, rfl⟩ := List.mem_map.1 hn
    exact m.2⟩
theorem sh_clsR {x : PV} (h : IsSh (.sl [.sl [.int .i64]]) x) : ∃ cs : List (List Int), x = .seq false 1 (cs.map crowF) ∧ ∀ y ∈ cs, ∀ n ∈ y, i64R n := by
  rw [IsSh] at h
  obtain ⟨rows, rfl, _, h⟩ := h
  obtain ⟨l, rfl⟩ := rows_of (fun i : {y : List Int // ∀ n ∈ y, i64R n} => crowF i.1) _ (fun r hr => by
    rw [IsShL] at hr
    obtain ⟨_, _, rfl, h1, h2⟩ := hr
    obtain ⟨l, rfl, hl⟩ := sh_intsR h1
    rw [IsShL] at h2
    subst h2
    exact ⟨⟨l, hl⟩, rfl⟩) rows h
  exact ⟨l.map (·.1), by rw [List.map_map]; rfl, fun n hn => by
    obtain ⟨m, _, rfl⟩ := List.mem_map.1 hn
    exact m.2⟩
theorem argsG3 {xs : List PV} (h : IsArgs [(false, [.sl [.sl [.int .i64]]]), (false, [.sl [.int .i64]]), (false, [.sl [.int .i64]])] xs) : ∃ (cs : List (List Int)) (l c : List Int) (_ : ∀ y ∈ cs, ∀ n ∈ y, i64R n) (_ : ∀ n ∈ c, i64R n), xs = [.seq false 1 (cs.map crowF), .seq false 1 (irow l), .seq false 1 (irow c)] := by
  simp only [IsArgs, IsArg, IsShL] at h
  obtain ⟨_, _, rfl, ⟨_, _, h1, h2, h3⟩, _, _, rfl, ⟨_, _, h4, h5, h6⟩, _, _, rfl, ⟨_, _, h7, h8, h9⟩, rfl⟩ := h
  cases h1; cases h4; cases h7
  obtain ⟨cs, rfl, hcs⟩ := sh_clsR h2
  obtain ⟨l, rfl⟩ := sh_intsG h5
  obtain ⟨c, rfl, hc⟩ := sh_intsR h8
  exact ⟨cs, l, c, hcs, hc, rfl⟩
end Go.AX
