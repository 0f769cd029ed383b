/-
  What objects are handed in as.
-/
import Derived.Test.YtklaffmpfmpffaaGreatDoorS10AxCntS
import Derived.Test.YtklaffmpfmpffaaGreatDoorS10AxMovB
namespace Go.AX

theorem sh_obj {xs : List PV} (h : IsShL [.int .i64, .int .i64, .int .i64, .sl [.int .i64, .int .i64, .int .i64, .int .i64]] xs) : ∃ o : Obj, PV.agg xs = robj o := by
  simp only [IsShL, IsSh] at h
  obtain ⟨_, _, rfl, ⟨a, rfl, _⟩, _, _, rfl, ⟨b, rfl, _⟩, _, _, rfl, ⟨c, rfl, _⟩, _, _, rfl, ⟨rows, rfl, _, hr⟩, rfl⟩ := h
  obtain ⟨l, rfl⟩ := rows_of rrow [.int .i64, .int .i64, .int .i64, .int .i64] (fun r hr => by
    simp only [IsShL, IsSh] at hr
    obtain ⟨_, _, rfl, ⟨a, rfl, _⟩, _, _, rfl, ⟨b, rfl, _⟩, _, _, rfl, ⟨c, rfl, _⟩, _, _, rfl, ⟨d, rfl, _⟩, rfl⟩ := hr
    exact ⟨⟨a, b, c, d⟩, rfl⟩) rows (fun r hrm => by simpa only [IsShL, IsSh] using hr r hrm)
  exact ⟨⟨a, b, c, l⟩, rfl⟩

end Go.AX
