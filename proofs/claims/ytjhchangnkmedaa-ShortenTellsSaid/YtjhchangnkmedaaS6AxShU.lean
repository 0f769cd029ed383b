/-
  What clauses are handed in as: their numbers are in range.
-/
import Derived.Test.YtjhchangnkmedaaS6AxGlS
import Derived.Test.YtjhchangnkmedaaS6AxShO
namespace Go.AX

def i64Q (n : Int) : Prop := -9223372036854775808 ≤ n ∧ n ≤ 9223372036854775807
theorem wf_i64Q {n : Int} (h : (Lit.int .i64 n).wf = true) : i64Q n := by
  simp only [Lit.wf, Bool.and_eq_true, decide_eq_true_eq] at h
  exact ⟨h.1, h.2⟩
theorem sh_intsQ {x : PV} (h : IsSh (.sl [.int .i64]) x) : ∃ l : List Int, x = .seq false 1 (irow l) ∧ ∀ n ∈ l, i64Q n := by
  simp only [IsSh] at h
  obtain ⟨rows, rfl, _, h⟩ := h
  obtain ⟨l, rfl⟩ := rows_of (fun i : {n : Int // i64Q n} => [I64 i.1]) _ (fun r hr => by
    simp only [IsShL, IsSh] at hr
    obtain ⟨_, _, rfl, ⟨a, rfl, ha⟩, rfl⟩ := hr
    exact ⟨⟨a, wf_i64Q ha⟩, rfl⟩) rows h
  exact ⟨l.map (·.1), by unfold irow; rw [List.map_map]; rfl, fun n hn => by
    obtain ⟨m, _, rfl⟩ := List.mem_map.1 hn
    exact m.2⟩
theorem argsG5 {xs : List PV} (h : IsArgs [(false, [.sl [.sl [.int .i64]]]), (false, [.sl [.int .i64]]), (false, [.sl [.int .i64]])] xs) : ∃ (cs : List (List Int)) (l c : List Int) (_ : ∀ n ∈ c, i64Q n), xs = [.seq false 1 (cs.map crowF), .seq false 1 (irow l), .seq false 1 (irow c)] := by
  simp only [IsArgs, IsArg, IsShL] at h
  obtain ⟨_, _, rfl, ⟨_, _, h1, h2, h3⟩, _, _, rfl, ⟨_, _, h4, h5, h6⟩, _, _, rfl, ⟨_, _, h7, h8, h9⟩, rfl⟩ := h
  cases h1; cases h4; cases h7
  obtain ⟨cs, rfl⟩ := sh_clsG h2
  obtain ⟨l, rfl⟩ := sh_intsG h5
  obtain ⟨c, rfl, hc⟩ := sh_intsQ h8
  exact ⟨cs, l, c, hc, rfl⟩
end Go.AX
