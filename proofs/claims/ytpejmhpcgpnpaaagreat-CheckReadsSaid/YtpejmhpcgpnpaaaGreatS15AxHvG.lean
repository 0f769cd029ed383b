/-
  What law40's functions are handed.
-/
import Derived.Test.YtpejmhpcgpnpaaaGreatS15AxHvF
import Derived.Test.YtpejmhpcgpnpaaaGreatAxZ
namespace Go.AX
theorem argSI {xs : List PV} (h : IsArgs [(false, [.str]), (false, [.int .i64])] xs) : ∃ s n, xs = [ST s, I64 n] := by
 simp only [IsArgs, IsArg, IsShL, IsSh] at h; obtain ⟨_, _, rfl, ⟨_, _, h2, ⟨s, rfl, _⟩, rfl⟩, _, _, rfl, ⟨_, _, h3, ⟨n, rfl, _⟩, rfl⟩, rfl⟩ := h; cases h2; cases h3; exact ⟨s, n, rfl⟩
end Go.AX
