/-
  AX, part MK: a map's keys, sorted; what is deleted of a map.
  AX, part R: from a law's call to its statement.
-/
import Derived.Test.YtpejmhpcgpnpaaaGreatAxBe
import Derived.ProofKit
namespace Go.AX
theorem call_enter {P : Program} {st : St} {g : Gh} {a : Act} {w : World} (h : Sim g st a w) (o : Oper) (x : Operand) (args : Array Operand) (tys : Array TypeId) (f : FuncId) (p q : List PV)
 (ho : o.op = .call { callee := .value x, args := args, argTypes := tys }) (hg : gc st x) (hc : calleeOf st x = some (f, p, q)) (hcall : callable P f = true) :
 ∃ u v : Array Value, FitL g p u.toList ∧ FitL g q v.toList ∧ (execOp a.eval o).run P w = .ok (.enter f (u.toList ++ (args.toList.map a.eval ++ v.toList)).toArray) w := by
 obtain ⟨u, v, hx, hu, hv⟩ := callee_ok h hg hc; refine ⟨u, v, hu, hv, ?_⟩; have harr : (u.toList ++ (args.toList.map a.eval ++ v.toList)).toArray = u ++ args.map a.eval ++ v := by
  apply Array.ext'; simp
 rw [harr]; unfold callable at hcall; split at hcall
 case h_2 => cases hcall
 rename_i fn hfn; simp only [Bool.and_eq_true, Bool.not_eq_true'] at hcall; simp only [execOp, ho, resolve, hx, Deferred.ofValue, invoke, callFunc, Sem.run_bind, Sem.run_pure, Result.andThen_ok, run_program, hfn, hcall.1, hcall.2, Bool.false_eq_true, if_false]
end Go.AX

namespace Go.AX
open Go.ChangeShapes Go.WideShapes Go.ChangeAt Go.RowKit
section
variable {H : Type} {enc : TypeId × Value → H} {P : Program}
def rowedB (P : Program) (ts : List TypeId) : Bool := ts.all fun t => P.readableRec t && decide (t < P.types.size)
theorem trodAll_below (hl : laidOutB P = true) {W W' : World} (hb : Below W.heap.size W W') : ∀ {ts : List TypeId} {vs : List Value} {ds : List (DataW H)} {ps : List MemPlace}, rowedB P ts = true →
 DataW.TrodAll enc P W 0 (fun _ => true) true ts vs ds ps → (∀ x ∈ ps, x.block < W.heap.size) → DataW.TrodAll enc P W' 0 (fun b => decide (b < W.heap.size)) true ts vs ds ps
 | [], _, _, _, _, h, _ => by
  obtain ⟨rfl, rfl, rfl⟩ := trodAll_nil h; rfl
 | t :: ts, _, _, _, hr, h, hlt => by
  obtain ⟨v, vs1, d, ds1, a, b, rfl, rfl, rfl, h1, h2⟩ := trodAll_cons h; simp only [rowedB, List.all_cons, Bool.and_eq_true, decide_eq_true_iff] at hr; exact ⟨a, b, Below.trod hl hr.1.1 hr.1.2 h1 hb (fun x hx => hlt x (List.mem_append_left _ hx)), trodAll_below hl hb (ts := ts) (by simp only [rowedB]; exact hr.2) h2 (fun x hx => hlt x (List.mem_append_right _ hx)), rfl⟩
theorem PureEnd.below {w w' : World} {g : Gh} (h : PureEnd w w' g) : Below w.heap.size w w' := by
 have he := h.env; simp only [envOf, Prod.mk.injEq] at he; exact ⟨he.1, he.2.1, he.2.2, h.size, h.keep⟩
theorem law_post {f : Func} {s : ChangeSpec} {t : TypeId} (hl : laidOutB P = true) (hts : rowedB P f.params.toList = true) (hr : f.resultTypes = #[t]) (ht : P.underlying t = some .bool) {W W' : World} {args : Array Value} {ds gs : List (DataW H)} {before : List MemPlace}
 (hv : s.vars = []) (hs : s.fn H (ds ++ gs) = { results := [.lit (.bool true)], args := ds }) (hW : DataW.Whole enc P f.params.toList s.vars false W args.toList ds gs before) (hb : Below W.heap.size W W') :
 s.post enc P f false true false false W args (.bool true) W' := by
 have hlt := hW.lt; have hW' := hW; obtain ⟨p, q, h1, h2, rfl, h3, h4⟩ := hW; refine ⟨ds, gs, p ++ q, [], p, q, hW', ?_, ?_, ?_, hb.frame _, fun h => by cases h⟩
 ·rw [hr, hs]; exact trodAll_mk1 (shut_bool ht true)
 ·rw [hs]; exact trodAll_below hl hb hts h1 (fun x hx => by simpa using hlt x (List.mem_append_left _ hx))
 ·rw [hs]; rw [hv] at h2 ⊢; obtain ⟨rfl, rfl⟩ := trodVars_none h2; rfl
end
end Go.AX
