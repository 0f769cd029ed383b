/-
  What operations are handed in as.
-/
import Derived.Test.YtklaffmpfmpffaaGreatDoorS10AxCntL
import Derived.Test.YtklaffmpfmpffaaGreatDoorAxZ
namespace Go.AX

theorem rows_of {α : Type} (f : α → List PV) (s : List Sh) (h1 : ∀ r, IsShL s r → ∃ x, r = f x) : ∀ rows : List (List PV), (∀ r ∈ rows, IsShL s r) → ∃ l : List α, rows = l.map f
  | [], _ => ⟨[], rfl⟩
  | r :: rows, h => by
    obtain ⟨x, rfl⟩ := h1 r (h r List.mem_cons_self)
    obtain ⟨l, rfl⟩ := rows_of f s h1 rows (fun r hr => h r (List.mem_cons_of_mem _ hr))
    exact ⟨x :: l, rfl⟩

theorem sh_ops {x : PV} (h : IsSh (.sl [.int .i64, .int .i64, .int .i64, .int .i64, .int .i64]) x) : ∃ ops : List Op5, x = ovec ops := by
  simp only [IsSh] at h
  obtain ⟨rows, rfl, _, h⟩ := h
  obtain ⟨l, rfl⟩ := rows_of orow _ (fun r hr => by
    simp only [IsShL, IsSh] at hr
    obtain ⟨_, _, rfl, ⟨a, rfl, _⟩, _, _, rfl, ⟨b, rfl, _⟩, _, _, rfl, ⟨c, rfl, _⟩, _, _, rfl, ⟨d, rfl, _⟩, _, _, rfl, ⟨e, rfl, _⟩, rfl⟩ := hr
    exact ⟨⟨a, b, c, d, e⟩, rfl⟩) rows h
  exact ⟨l, rfl⟩

theorem args2 {s : List Sh} {t : Sh} {xs : List PV} (h : IsArgs [(true, s), (false, [t])] xs) : ∃ ys y, xs = [.agg ys, y] ∧ IsShL s ys ∧ IsSh t y := by
  simp only [IsArgs, IsArg, IsShL] at h
  obtain ⟨_, _, rfl, ⟨ys, rfl, h1⟩, y, _, rfl, ⟨_, _, h2, h3, h4⟩, rfl⟩ := h
  cases h2
  exact ⟨ys, y, rfl, h1, h3⟩
theorem ints2 {ys : List PV} (h : IsShL [.int .i64, .int .i64] ys) : ∃ a b, ys = [I64 a, I64 b] := by
  simp only [IsShL, IsSh] at h
  obtain ⟨_, _, rfl, ⟨a, rfl, _⟩, _, _, rfl, ⟨b, rfl, _⟩, rfl⟩ := h
  exact ⟨a, b, rfl⟩

end Go.AX
