/-
  AX, part Pu: a call that leaves all as it was, and whose result is plain, changes nothing.
-/
import Derived.Test.YthfhellfmbllhaaGreatAxIs
import Derived.Test.YthfhellfmbllhaaGreatAxPt
namespace Go.AX
theorem AMut.pure {P : Program} {f : FuncId} {args : List PV} {R : SV → Prop} (hm : AMut P f args [] (fun r _ => ∃ x, r = .pv x ∧ R (.pv x))) : APure P f args R := by
  refine ⟨hm.1, fun w vs hv => ?_⟩
  have hs := sim_enter (N := args.length + 1) hv (Nat.le_succ _)
  refine (hm.2 _ _ _ _ vs hs rfl (fit_enter hv)).mono fun e w' ⟨v, r, h', g', he, ⟨x, hr, hR⟩, t', hd⟩ => ?_
  subst hr
  have hN : args.length < (gEnter w (args.length + 1)).N := Nat.lt_succ_self _
  have s' := hd (some args.length) hN
  obtain ⟨bl, hb⟩ := s'.own
  have hf := hb.slots args.length
  have hsz : args.length < (vs.toArray ++ Array.replicate (args.length + 1 - vs.toArray.size) undef).size := by
    rw [hs.size]; exact hN
  rw [getD_put hsz, if_pos rfl] at hf
  have hl : look (putR (some args.length) (.pv x) ⟨killL qCell (argT 0 args), h'⟩).t args.length = .pv x := by
    simp [putR, look, St.put]
  rw [hl] at hf
  exact ⟨v, .pv x, g', none, he, hR, pureEnd_of t' s', ⟨rfl, hf.2⟩, rfl, fun c hc => by cases hc⟩
end Go.AX
