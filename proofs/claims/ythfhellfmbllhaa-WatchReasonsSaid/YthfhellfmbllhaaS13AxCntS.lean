/-
  What operations are handed in as.
-/
import Derived.Test.YthfhellfmbllhaaS13AxCntG
import Derived.Test.YthfhellfmbllhaaAxZ
namespace Go.AX

theorem rows_of {α : Type} (f : α → List PV) (s : List Sh) (h1 : ∀ r, IsShL s r → ∃ x, r = f x) : ∀ rows : List (List PV), (∀ r ∈ rows, IsShL s r) → ∃ l : List α, rows = l.map f
  | [], _ => ⟨[], rfl⟩
  | r :: rows, h => by
    obtain ⟨x, rfl⟩ := h1 r (h r List.mem_cons_self)
    obtain ⟨l, rfl⟩ := rows_of f s h1 rows (fun r hr => h r (List.mem_cons_of_mem _ hr))
    exact ⟨x :: l, rfl⟩

end Go.AX
