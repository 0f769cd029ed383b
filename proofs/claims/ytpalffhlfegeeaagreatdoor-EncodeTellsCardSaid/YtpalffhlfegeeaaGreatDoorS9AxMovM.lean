/-
  What objects are handed in as: their numbers are in range.
-/
import Derived.Test.YtpalffhlfegeeaaGreatDoorS9AxCntT
import Derived.Test.YtpalffhlfegeeaaGreatDoorS9AxMovO
namespace Go.AX

theorem wf_in {n : Int} (h : (Lit.int .i64 n).wf = true) : inR n := by
  simp only [Lit.wf, Bool.and_eq_true, decide_eq_true_eq] at h
  exact ⟨h.1, h.2⟩
theorem sh_objR {xs : List PV} (h : IsShL [.int .i64, .int .i64, .int .i64, .sl [.int .i64, .int .i64, .int .i64, .int .i64]] xs) : ∃ o : Obj, PV.agg xs = robj o ∧ objR o := by
  have h0 := h
  simp only [IsShL, IsSh] at h
  obtain ⟨_, _, rfl, ⟨a, rfl, ha⟩, _, _, rfl, ⟨b, rfl, hb⟩, _, _, rfl, ⟨c, rfl, _⟩, _, _, rfl, ⟨rows, rfl, _, hr⟩, rfl⟩ := h
  obtain ⟨o, ho⟩ := sh_obj h0
  refine ⟨o, ho, ?_⟩
  simp only [robj, PV.agg.injEq, List.cons.injEq, PV.lit.injEq, Value.int.injEq] at ho
  obtain ⟨⟨_, rfl⟩, ⟨_, rfl⟩, _⟩ := ho
  exact ⟨wf_in ha, wf_in hb⟩
theorem args3 {s : List Sh} {t u : Sh} {xs : List PV} (h : IsArgs [(true, s), (false, [t]), (false, [u])] xs) : ∃ ys y z, xs = [.agg ys, y, z] ∧ IsShL s ys ∧ IsSh t y ∧ IsSh u z := by
  simp only [IsArgs, IsArg, IsShL] at h
  obtain ⟨_, _, rfl, ⟨ys, rfl, h1⟩, y, _, rfl, ⟨_, _, h2, h3, h4⟩, z, _, rfl, ⟨_, _, h5, h6, h7⟩, rfl⟩ := h
  cases h2; cases h5
  exact ⟨ys, y, z, rfl, h1, h3, h6⟩

end Go.AX
