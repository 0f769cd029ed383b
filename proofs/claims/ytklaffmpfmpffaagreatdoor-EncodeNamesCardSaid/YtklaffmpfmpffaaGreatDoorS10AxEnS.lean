/-
  What objects are handed in as: their numbers are in range.
  What two formulas are handed in as.
-/
import Derived.Test.YtklaffmpfmpffaaGreatDoorS10AxCntT
import Derived.Test.YtklaffmpfmpffaaGreatDoorS10AxMovO
import Derived.Test.YtklaffmpfmpffaaGreatDoorS10AxCntS
import Derived.Test.YtklaffmpfmpffaaGreatDoorS10AxMovB
import Derived.Test.YtklaffmpfmpffaaGreatDoorAxZ
namespace Go.AX

theorem wf_in {n : Int} (h : (Lit.int .i64 n).wf = true) : inR n := by
  simp only [Lit.wf, Bool.and_eq_true, decide_eq_true_eq] at h
  exact ⟨h.1, h.2⟩
theorem sh_objR {xs : List PV} (h : IsShL [.int .i64, .int .i64, .int .i64, .sl [.int .i64, .int .i64, .int .i64, .int .i64]] xs) : ∃ o : Obj, PV.agg xs = robj o ∧ objR o := by
  have h0 := h
  simp only [IsShL, IsSh] at h
  obtain ⟨_, _, rfl, ⟨a, rfl, ha⟩, _, _, rfl, ⟨b, rfl, hb⟩, _, _, rfl, ⟨c, rfl, _⟩, _, _, rfl, ⟨rows, rfl, _, hr⟩, rfl⟩ := h
  obtain ⟨o, ho⟩ := sh_obj h0
  refine ⟨o, ho, ?_⟩
  simp only [robj, PV.agg.injEq, List.cons.injEq, PV.lit.injEq, Value.int.injEq] at ho
  obtain ⟨⟨_, rfl⟩, ⟨_, rfl⟩, _⟩ := ho
  exact ⟨wf_in ha, wf_in hb⟩
theorem args3 {s : List Sh} {t u : Sh} {xs : List PV} (h : IsArgs [(true, s), (false, [t]), (false, [u])] xs) : ∃ ys y z, xs = [.agg ys, y, z] ∧ IsShL s ys ∧ IsSh t y ∧ IsSh u z := by
  simp only [IsArgs, IsArg, IsShL] at h
  obtain ⟨_, _, rfl, ⟨ys, rfl, h1⟩, y, _, rfl, ⟨_, _, h2, h3, h4⟩, z, _, rfl, ⟨_, _, h5, h6, h7⟩, rfl⟩ := h
  cases h2; cases h5
  exact ⟨ys, y, z, rfl, h1, h3, h6⟩

end Go.AX

namespace Go.AX

theorem sh_intsN {x : PV} (h : IsSh (.sl [.int .i64]) x) : ∃ l : List Int, x = .seq false 1 (irow l) := by
  simp only [IsSh] at h
  obtain ⟨rows, rfl, _, h⟩ := h
  obtain ⟨l, rfl⟩ := rows_of (fun i : Int => [I64 i]) _ (fun r hr => by
    simp only [IsShL, IsSh] at hr
    obtain ⟨_, _, rfl, ⟨a, rfl, _⟩, rfl⟩ := hr
    exact ⟨a, rfl⟩) rows h
  exact ⟨l, rfl⟩
theorem sh_clsN {x : PV} (h : IsSh (.sl [.sl [.int .i64]]) x) : ∃ cs : List (List Int), x = .seq false 1 (cs.map crowF) := by
  rw [IsSh] at h
  obtain ⟨rows, rfl, _, h⟩ := h
  obtain ⟨l, rfl⟩ := rows_of crowF _ (fun r hr => by
    rw [IsShL] at hr
    obtain ⟨_, _, rfl, h1, h2⟩ := hr
    obtain ⟨l, rfl⟩ := sh_intsN h1
    rw [IsShL] at h2
    subst h2
    exact ⟨l, rfl⟩) rows h
  exact ⟨l, rfl⟩
theorem sh_int1 {x : PV} (h : IsSh (.int .i64) x) : ∃ v : Int, x = I64 v := by
  rw [IsSh] at h
  obtain ⟨v, rfl, _⟩ := h
  exact ⟨v, rfl⟩
theorem sh_two {xs : List PV} (h : IsShL [.int .i64, .sl [.sl [.int .i64]], .int .i64, .sl [.sl [.int .i64]]] xs) : ∃ (v0 v1 : Int) (a b : List (List Int)), xs = [I64 v0, .seq false 1 (a.map crowF), I64 v1, .seq false 1 (b.map crowF)] := by
  rw [IsShL] at h
  obtain ⟨_, _, rfl, h1, h⟩ := h
  rw [IsShL] at h
  obtain ⟨_, _, rfl, h2, h⟩ := h
  rw [IsShL] at h
  obtain ⟨_, _, rfl, h3, h⟩ := h
  rw [IsShL] at h
  obtain ⟨_, _, rfl, h4, h⟩ := h
  rw [IsShL] at h
  subst h
  obtain ⟨v0, rfl⟩ := sh_int1 h1
  obtain ⟨v1, rfl⟩ := sh_int1 h3
  obtain ⟨a, rfl⟩ := sh_clsN h2
  obtain ⟨b, rfl⟩ := sh_clsN h4
  exact ⟨v0, v1, a, b, rfl⟩
theorem argsN3 {s u : List Sh} {t : Sh} {xs : List PV} (h : IsArgs [(true, s), (false, [t]), (true, u)] xs) : ∃ ys y zs, xs = [.agg ys, y, .agg zs] ∧ IsShL s ys ∧ IsSh t y ∧ IsShL u zs := by
  simp only [IsArgs, IsArg, IsShL] at h
  obtain ⟨_, _, rfl, ⟨ys, rfl, h1⟩, y, _, rfl, ⟨_, _, h2, h3, h4⟩, z, _, rfl, ⟨zs, rfl, h5⟩, rfl⟩ := h
  cases h2
  exact ⟨ys, y, zs, rfl, h1, h3, h5⟩
end Go.AX
