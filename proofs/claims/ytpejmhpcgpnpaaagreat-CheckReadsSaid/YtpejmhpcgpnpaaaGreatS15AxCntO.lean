/-
  Plain laws: how many clauses there are.
-/
import Derived.Test.YtpejmhpcgpnpaaaGreatS15AxEvE
import Derived.Test.YtpejmhpcgpnpaaaGreatS15AxCntL
namespace Go.AX
open Go.Proofs
theorem pairs_proper {ops : List Op5} (ho : okTo ops ops.length) : ∀ p ∈ pairsTo ops ops.length, properS p (ops.length : Int) = true := by
 intro p hp; simp only [pairsTo, pairsRow, List.mem_flatMap, List.mem_map, List.mem_filter, List.mem_range] at hp; obtain ⟨a, ha, b, ⟨hb, hah⟩, rfl⟩ := hp; simp only [List.getD_eq_getElem?_getD, List.getElem?_eq_getElem ha, List.getElem?_eq_getElem hb, Option.getD_some] at hah; have := ahead_lt ho ha hb hah; have h1 : ¬ (b : Int) < (a : Int) := by omega
 have h2 : (a : Int) < (b : Int) := by omega
 simp only [properS, if_neg h1, if_pos h2]; simp; omega
end Go.AX
