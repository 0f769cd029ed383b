/-
  EX, part D: what an operation does is so: operators, and what only reads.
  EX, part E: what an operation does is so: what looks at memory, and makes it.
  EX, part F: what an operation does is so: slices, texts, maps.
  EX, part G: what an operation does is so: maps; what grows.
  EX, part H: what an operation does is so: append, copy; all operations.
-/
import Derived.Test.YtpejmhpcgpnpaaaGreatAxExC
import Derived.Test.YtpejmhpcgpnpaaaGreatAxBe
import Derived.WalkSpells
import Derived.Lib.SliceRun
import Derived.Lib.Bytealg
import Derived.Laws.Externs
namespace Go.EX
open Go.AX
def Rv (P : Program) (s : Sem Next) (w w' : World) (v : Value) : Prop := s.run P w = .ok (.value v) w' ∨ (s.run P w = .ok .skip w' ∧ v = undef)
def osz : Obj → Nat
 | .cells c _ _ => c.size
 | _ => 0
def PRok (P : Program) (g : Gs) (s : Sem Next) : PR → Prop
 | .v x => ∃ v, VR g x v ∧ ∀ w, Rv P s w w v
 | .rd b f => g.D b ∧ ∀ w c x, OR g b c w.heap[g.μ b]? → f c = some x → ∃ v, VR g x v ∧ Rv P s w w v
 | .al c f => ∀ w : World, ∃ ob v w', Rv P s w w' v ∧ w'.heap = w.heap.push ob ∧ envOf w' = envOf w ∧ w.drawn ≤ w'.drawn ∧
  ∀ g' b, g.le g' → g'.D b → g'.μ b = w.heap.size → g'.K b = osz ob → OR g' b c (some ob) ∧ VR g' (f b) v
 | .wr b f => g.D b ∧ ∀ w c x c', OR g b c w.heap[g.μ b]? → f c = some (x, c') → ∃ v ob w', VR g x v ∧ OR g b c' (some ob) ∧ Rv P s w w' v ∧
  w'.heap = w.heap.setIfInBounds (g.μ b) ob ∧ envOf w' = envOf w ∧ w.drawn ≤ w'.drawn
 | .gw f => ∀ (h : Tr CB) n w x h' n', Bl n g → Sm g h.get w → f h n = some (x, h', n') → ∃ g' w' v, Rv P s w w' v ∧ To g h.get w g' h'.get w' ∧ Sm g' h'.get w' ∧ Bl n' g' ∧ VR g' x v
 | .ca f args => ∃ vs, VL g args vs ∧ ∀ w, s.run P w = .ok (.enter f vs.toArray) w
def Rl (g : Gs) (ρ : Operand → Option CV) (σ : Operand → Value) : Prop := ∀ x c, ρ x = some c → VR g c (σ x)
variable {P : Program} {g : Gs} {ρ : Operand → Option CV} {σ : Operand → Value}
/-! ### Operators -/
theorem sEq_eq : ∀ {a b : List Nat}, sEq a b = decide (a = b)
 | [], [] => rfl
 | [], _ :: _ => rfl
 | _ :: _, [] => rfl
 | x :: xs, y :: ys => by
  simp only [sEq]; by_cases h : x = y
  ·subst h; rw [Nat.beq_refl]; simp only [sEq_eq (a := xs) (b := ys), List.cons.injEq, true_and]
  ·have : Nat.beq x y = false := by rw [← Bool.not_eq_true]; intro e; exact h (Nat.eq_of_beq_eq_true e)
   rw [this]; simp [h]
theorem bI_ok {op : BinOp} {k : IntKind} {a b : Int} {x : CV} (h : bI op k a b = some x) (t : TypeId) (y z : Operand) : ∃ v, VR g x v ∧ ∀ w, (eqGuard op t y z (.int k a) (.int k b)).run P w = .ok () w ∧ (binOp op t (.int k a) (.int k b)).run P w = .ok v w := by
  cases op <;> simp only [bI] at h <;> first
    | (cases h; done)
    | (split at h
       · cases h
       · rename_i hb
         cases h
         exact ⟨_, rfl, fun w => ⟨by simp [go_sem, eqGuard], by simp [go_sem, Op.intDiv, if_neg hb]⟩⟩)
    | (cases h; exact ⟨_, rfl, fun w => ⟨by simp [go_sem, eqGuard], by simp [go_sem, Op.intArith] <;> rfl⟩⟩)
theorem shI_ok {op : BinOp} {k : IntKind} {a b : Int} {x : CV} (h : shI op k a b = some x) (t : TypeId) (k' : IntKind) (y z : Operand) : ∃ v, VR g x v ∧ ∀ w, (eqGuard op t y z (.int k a) (.int k' b)).run P w = .ok () w ∧ (binOp op t (.int k a) (.int k' b)).run P w = .ok v w := by
  cases op <;> simp only [shI] at h <;> first
    | (cases h; done)
    | (split at h
       · cases h
       · rename_i hb
         cases h
         exact ⟨_, rfl, fun w => ⟨by simp [go_sem, eqGuard], by simp [go_sem, Op.shift, if_neg hb]⟩⟩)
theorem bs_inj {a b : List Nat} (ha : ∀ x ∈ a, x < 256) (hb : ∀ x ∈ b, x < 256) (h : bs a = bs b) : a = b := by
 have h1 : ∀ {l : List Nat}, (∀ x ∈ l, x < 256) → ((l.map UInt8.ofNat).toArray.toList).map UInt8.toNat = l := fun {l} hl => by
  rw [List.map_map]
  conv => rhs; rw [← List.map_id l]
  refine List.map_congr_left fun x hx => ?_; have := hl x hx; simp; omega
 have h2 : (bs a).data = (bs b).data := by rw [h]
 rw [← h1 ha, ← h1 hb]; exact congrArg (fun d : Array UInt8 => d.toList.map UInt8.toNat) h2
theorem bs_size (l : List Nat) : (bs l).size = l.length := by
 show (l.map UInt8.ofNat).toArray.size = _; simp
theorem bs_app (a b : List Nat) : bs (a ++ b) = bs a ++ bs b := by
 apply ByteArray.ext; simp [bs]
theorem bS_ok {op : BinOp} {a b : List Nat} {x : CV} (h : bS op a b = some x) (ha : ∀ x ∈ a, x < 256) (hb : ∀ x ∈ b, x < 256) (t : TypeId) (y z : Operand) : ∃ v, VR g x v ∧ ∀ w, (eqGuard op t y z (.string (bs a)) (.string (bs b))).run P w = .ok () w ∧ (binOp op t (.string (bs a)) (.string (bs b))).run P w = .ok v w := by
  have he : ((bs a).toList == (bs b).toList) = sEq a b := by
    rw [ByteArray.toList_inj, sEq_eq]
    by_cases e : a = b
    · simp [e]
    · rw [decide_eq_false e, decide_eq_false fun h => e (bs_inj ha hb h)]
  cases op <;> simp only [bS] at h <;> first
    | (cases h; done)
    | (split at h
       · rename_i hl
         cases h
         refine ⟨_, ⟨fun x hx => (List.mem_append.1 hx).elim (ha x) (hb x), rfl⟩, fun w => ⟨by simp [go_sem, eqGuard], ?_⟩⟩
         simp only [binOp, Op.stringOp]
         rw [if_neg (by simp only [IntKind.max_i64, bs_size]; omega), bs_app]
         rfl
       · cases h)
    | (cases h; exact ⟨_, rfl, fun w => ⟨by simp [go_sem, eqGuard], by simp [binOp, Op.stringOp, he]⟩⟩)
theorem eqO_ok {op : BinOp} {q : Bool} {x : CV} (h : eqO op q = some x) {t : TypeId} {a b : Value} {y z : Operand} (h0 : ∀ w, (eqGuard op t y z a b).run P w = .ok () w)
 (h1 : ∀ w, (binOp .eql t a b).run P w = .ok (.bool q) w) (h2 : ∀ w, (binOp .neq t a b).run P w = .ok (.bool (!q)) w) : ∃ v, VR g x v ∧ ∀ w, (eqGuard op t y z a b).run P w = .ok () w ∧ (binOp op t a b).run P w = .ok v w := by
 cases op <;> simp only [eqO] at h <;> first
  | (cases h; done)
  | (cases h; exact ⟨_, rfl, fun w => ⟨h0 w, h1 w⟩⟩)
  | (cases h; exact ⟨_, rfl, fun w => ⟨h0 w, h2 w⟩⟩)
theorem flI_ok : ∀ {xs : List CV} {A : List (IntKind × Int)} {vs : List Value}, flI xs = some A → VL g xs vs → vs = A.map fun p => Value.int p.1 p.2
 | [], _, _, h, hv => by cases h; simpa [VL] using hv
 | .i k n :: r, A, vs, h, ⟨v, l, e, h1, h2⟩ => by
  simp only [flI] at h; split at h
  ·rename_i B hB; cases h; have h1 : v = .int k n := h1; rw [e, h1, flI_ok hB h2]; rfl
  ·cases h
 | .b _ :: _, _, _, h, _ => by cases h
 | .s _ :: _, _, _, h, _ => by cases h
 | .k _ :: _, _, _, h, _ => by cases h
 | .p _ _ :: _, _, _, h, _ => by cases h
 | .sl _ _ _ _ :: _, _, _, h, _ => by cases h
 | .su _ _ _ _ :: _, _, _, h, _ => by cases h
 | .se :: _, _, _, h, _ => by cases h
 | .m _ :: _, _, _, h, _ => by cases h
 | .f _ _ _ :: _, _, _, h, _ => by cases h
 | .a _ :: _, _, _, h, _ => by cases h
 | .t _ :: _, _, _, h, _ => by cases h
theorem flat_eq {t : TypeId} {n : Nat} (ht : tk P t = .flat n) {A B : List (IntKind × Int)} (hA : A.length = n) (hAB : A.map (·.1) = B.map (·.1)) {xs ys : Array Value} (hx : xs.toList = A.map fun p => Value.int p.1 p.2) (hy : ys.toList = B.map fun p => Value.int p.1 p.2) (w : World) :
 (binOp .eql t (.agg xs) (.agg ys)).run P w = .ok (.bool (decide (A.map (·.2) = B.map (·.2)))) w ∧ (binOp .neq t (.agg xs) (.agg ys)).run P w = .ok (.bool (!decide (A.map (·.2) = B.map (·.2)))) w ∧
 ∀ op x y, (eqGuard op t x y (.agg xs) (.agg ys)).run P w = .ok () w := by
 have cx : ∀ (i : Nat) (p : IntKind × Int), A[i]? = some p → xs[0 + i]? = some (Value.int p.1 p.2) := fun i p hp => by rw [Nat.zero_add, ← Array.getElem?_toList, hx]; simp [hp]
 have cy : ∀ (i : Nat) (p : IntKind × Int), B[i]? = some p → ys[0 + i]? = some (Value.int p.1 p.2) := fun i p hp => by rw [Nat.zero_add, ← Array.getElem?_toList, hy]; simp [hp]
 unfold tk at ht; split at ht
 case h_8 =>
  rename_i fs hu; split at ht
  case isFalse => cases ht
  rename_i hc; cases ht; simp only [Bool.and_eq_true, Bool.not_eq_true'] at hc; obtain ⟨⟨hfl, hst⟩, heq⟩ := hc; have hfo : P.fieldsOf t = fs := by simp [Program.fieldsOf, hu]
  have hu' : P.underlying t = some (.struct (P.fieldsOf t)) := by rw [hfo]; exact hu
  refine ⟨?_, ?_, fun op x y => run_eqGuard_agg w _ t _ _ _ _ heq⟩ <;>
   simp only [Sem.run_bind, Result.andThen_ok, run_eql_struct, run_neq_struct, run_equalIn_agg w 9999 t xs ys hu' hst, hfo,
    run_eqFlat w 9998 xs ys fs.toList 0 A B hfl (by simpa using hA) hAB cx cy, Sem.run_pure]
 case h_9 =>
  rename_i m e hu; split at ht
  case isFalse => cases ht
  rename_i hc; cases ht; simp only [arrE, Bool.and_eq_true, Bool.not_eq_true', beq_iff_eq] at hc; obtain ⟨⟨⟨hk, hce⟩, hi⟩, heq⟩ := hc; split at hk
  case h_2 => cases hk
  rename_i k hk2; obtain ⟨inf, hinf⟩ := Option.isSome_iff_exists.1 hi; have hE := run_eqArr w 9998 xs ys hk2 A B 0 hAB cx cy; rw [hA, ← List.range_eq_range'] at hE; refine ⟨?_, ?_, fun op x y => run_eqGuard_agg w _ t _ _ _ _ heq⟩ <;>
   simp only [Sem.run_bind, Result.andThen_ok, run_eql_struct, run_neq_struct, run_equalIn_array w 9999 xs ys hu hinf, hce, hE, Sem.run_pure]
 all_goals cases ht
theorem nilP {a : CV} {q : Bool} {u : Value} (hn : nilC .p a = some q) (ha : VR g a u) : ∃ p, u = .pointer p ∧ q = p.isNone := by
 cases a <;> first
  | (cases hn; done)
  | (rename_i c; cases c <;> first
   | (cases hn; done)
   | (cases hn; cases ha; exact ⟨none, rfl, rfl⟩))
  | (cases hn; obtain ⟨_, rfl⟩ := ha; exact ⟨some _, rfl, rfl⟩)
theorem nilS {a : CV} {q : Bool} {u : Value} (hn : nilC .s a = some q) (ha : VR g a u) : ∃ p n k, u = .slice p n k ∧ q = p.isNone := by
 cases a <;> first
  | (cases hn; done)
  | (rename_i c; cases c <;> first
   | (cases hn; done)
   | (cases hn; cases ha; exact ⟨none, _, _, rfl, rfl⟩))
  | (cases hn; obtain ⟨_, _, rfl⟩ := ha; exact ⟨some _, _, _, rfl, rfl⟩)
  | (cases hn; obtain ⟨_, _, rfl, _⟩ := ha; exact ⟨some _, _, _, rfl, rfl⟩)
theorem nilM {a : CV} {q : Bool} {u : Value} (hn : nilC .m a = some q) (ha : VR g a u) : ∃ p, u = .map p ∧ q = p.isNone := by
 cases a <;> first
  | (cases hn; done)
  | (rename_i c; cases c <;> first
   | (cases hn; done)
   | (cases hn; cases ha; exact ⟨none, rfl, rfl⟩))
  | (cases hn; obtain ⟨_, rfl⟩ := ha; exact ⟨some _, rfl, rfl⟩)
theorem bin_ok {op : BinOp} {t : TypeId} {a b x : CV} (h : bin P op t a b = some x) {u v : Value} (ha : VR g a u) (hb : VR g b v) (y z : Operand) : ∃ r, VR g x r ∧ ∀ w, (eqGuard op t y z u v).run P w = .ok () w ∧ (binOp op t u v).run P w = .ok r w := by
 unfold bin at h; split at h
 ·cases ha; cases hb; split at h
  ·rename_i x' hx; cases h; exact shI_ok hx t _ y z
  ·split at h
   ·rename_i hk; subst hk; exact bI_ok h t y z
   ·cases h
 ·cases ha; cases hb; split at h
  ·rename_i ht; exact eqO_ok h (fun w => by rw [eqGuard_at_bool]; rfl) (fun w => run_eql_bool w t _ _ ht) (fun w => run_neq_bool w t _ _ ht)
  ·cases h
 ·obtain ⟨ha, rfl⟩ := ha; obtain ⟨hb, rfl⟩ := hb; exact bS_ok h ha hb t y z
 ·obtain ⟨us, rfl, hx⟩ := ha; obtain ⟨vs, rfl, hy⟩ := hb; split at h
  ·rename_i n ht; split at h
   ·rename_i A B hA hB; split at h
    ·rename_i hc; have key := fun w => flat_eq ht hc.1 hc.2 (flI_ok hA hx) (flI_ok hB hy) w; exact eqO_ok h (fun w => (key w).2.2 _ _ _) (fun w => (key w).1) (fun w => (key w).2.1)
    ·cases h
   ·cases h
  ·cases h
 ·cases hb; split at h
  ·rename_i hu hn; obtain ⟨p, rfl, rfl⟩ := nilP hn ha; exact eqO_ok h (fun w => by rw [eqGuard_at_pointer]; rfl) (fun w => run_eql_pointer_nil w t _ (pointee_of hu)) (fun w => run_neq_pointer_nil w t _ (pointee_of hu))
  ·rename_i hu hn; obtain ⟨p, n, k, rfl, rfl⟩ := nilS hn ha; exact eqO_ok h (fun w => by rw [eqGuard_at_slice]; rfl) (fun w => Lib.run_eql_slice_nil w t _ p n k 0 0 hu) (fun w => run_neq_slice_nil_any w t _ p n k 0 0 hu)
  ·rename_i hu hn; obtain ⟨p, rfl, rfl⟩ := nilM hn ha; exact eqO_ok h (fun w => by rw [eqGuard_at_map]; rfl) (fun w => run_eql_map_nil w t _ _ p hu) (fun w => run_neq_map_nil w t _ _ p hu)
  ·cases h
 ·cases h
theorem una_ok {op : UnOp} {a x : CV} (h : una op a = some x) {u : Value} (ha : VR g a u) : ∃ r, VR g x r ∧ ∀ w, (Op.unary op u).run P w = .ok r w := by
 unfold una at h; split at h
 ·cases ha; split at h
  ·cases h; exact ⟨_, rfl, fun w => by simp [Op.unary]⟩
  ·cases h
 ·cases ha; split at h
  ·cases h; exact ⟨_, rfl, fun w => by simp [Op.unary, Op.intArith]⟩
  ·cases h
 ·cases h
end Go.EX

namespace Go.EX
open Go.AX
variable {P : Program} {g : Gs} {ρ : Operand → Option CV} {σ : Operand → Value}
/-! ### Cells that are read -/
theorem rdc_ok {b : Ps} {c : CB} {x : CV} {w : World} {t : TypeId} {ag : Bool} {n off : Nat} (ho : OR g b c w.heap[g.μ b]?) (h : rdc ag n off c = some x) (hl : ldInfo P t = some (ag, n)) :
 ∃ v, VR g x v ∧ (loadVar t ⟨g.μ b, off, none⟩).run P w = .ok v w := by
 cases c with
 | mp _ _ => cases h
 | c T xs =>
  obtain ⟨arr, vs, e, _, hv, hp⟩ := ho; have hd := hv.drop off; cases ag with
  | true =>
   simp only [rdc] at h; split at h
   ·rename_i ys hy; cases h; rw [drp_eq] at hy; obtain ⟨rfl, hn⟩ := tak_eq hy; refine ⟨.agg ((vs.drop off).take n).toArray, ⟨_, rfl, by simpa using hd.take n⟩, run_loadVar w _ _ hl (by have := hd.length; simp at this hn ⊢; omega) fun j v hj => ?_⟩; rw [List.getElem?_take] at hj; split at hj
    ·rw [List.getElem?_drop] at hj; rw [Addr.add_lit, cell_of e, ← Array.getElem?_toList]; exact prefix_get hp hj
    ·cases hj
   ·cases h
  | false =>
   simp only [rdc, hd_eq, drp_eq] at h; obtain ⟨v, hv', hf⟩ := hd.get 0 x h; refine ⟨v, hf, run_loadVar1 w _ v hl ?_⟩; rw [List.getElem?_drop] at hv'; rw [cell_of e, ← Array.getElem?_toList]; exact prefix_get hp hv'
theorem tak_ok {b : Ps} {T : TypeId} {xs ys : List CV} {w : World} {off n : Nat} (ho : OR g b (.c T xs) w.heap[g.μ b]?) (h : tak (drp xs off) n = some ys) :
 ∃ vs, VL g ys vs ∧ vs.length = n ∧ ∀ j v, vs[j]? = some v → w.cell? ((⟨g.μ b, off, none⟩ : Addr).add j) = some v := by
 obtain ⟨arr, vs, e, _, hv, hp⟩ := ho; have hd := hv.drop off; rw [drp_eq] at h; obtain ⟨rfl, hn⟩ := tak_eq h; refine ⟨(vs.drop off).take n, hd.take n, by have := hd.length; simp at this hn ⊢; omega, fun j v hj => ?_⟩; rw [List.getElem?_take] at hj; split at hj
 ·rw [List.getElem?_drop] at hj; rw [Addr.add_lit, cell_of e, ← Array.getElem?_toList]; exact prefix_get hp hj
 ·cases hj
/-! ### Cells that are written -/
theorem VL.splice {xs ys : List CV} {vs us : List Value} (h : VL g xs vs) (h' : VL g ys us) (k : Nat) : VL g (splice xs k ys) (splice vs k us) := by
 have hl := h'.length; simp only [Go.AX.splice, hl]; exact ((h.take k).app h').app (h.drop _)
theorem splice_prefix {vs us m : List Value} {k : Nat} (h : vs <+: m) (hk : k + us.length ≤ vs.length) : splice vs k us <+: splice m k us := by
 obtain ⟨r, rfl⟩ := h; refine ⟨r, ?_⟩; simp only [Go.AX.splice]; rw [List.take_append_of_le_length (by omega), List.drop_append_of_le_length hk]; simp
theorem or_put {b : Ps} {T : TypeId} {xs ys zs : List CV} {o : Option Obj} {us : List Value} {off : Nat} (ho : OR g b (.c T xs) o) (h : put xs off ys = some zs) (hu : VL g ys us) :
 ∃ arr, o = some (.cells arr T (0, 0)) ∧ off + us.length ≤ arr.size ∧ OR g b (.c T zs) (some (.cells (splice arr.toList off us).toArray T (0, 0))) := by
 obtain ⟨arr, vs, e, hk, hv, hp⟩ := ho; obtain ⟨h1, rfl⟩ := put_eq h; have hul := hu.length; have hvl := hv.length; have hle : vs.length ≤ arr.size := by rw [← Array.length_toList]; exact hp.length_le
 refine ⟨arr, e, by omega, _, splice vs off us, rfl, ?_, hv.splice hu off, ?_⟩
 ·rw [List.size_toArray, splice_length (by simp; omega)]; simpa using hk
 ·simpa using splice_prefix hp (by omega)
theorem setRow_eq {w : World} {c : Nat} {arr : Array Value} {T : TypeId} (h : w.heap[c]? = some (.cells arr T (0, 0))) (vs : Array Value) : (w.setRow c vs).heap = w.heap.setIfInBounds c (.cells vs T (0, 0)) := by
 apply Array.ext_getElem?; intro i; by_cases e : i = c
 ·subst e; rw [setRow_heap w i arr vs T _ h, Array.getElem?_setIfInBounds_self_of_lt (Array.getElem?_eq_some_iff.1 h).1]
 ·rw [setRow_other w c i _ e, Array.getElem?_setIfInBounds_ne (fun x => e x.symm)]
/-! ### Lists of operands -/
theorem opL_ok (hr : Rl g ρ σ) : ∀ {l : List Operand} {cs : List CV}, opL ρ l = some cs → VL g cs (l.map σ)
 | [], _, h => by cases h; rfl
 | x :: r, cs, h => by
  simp only [opL] at h; split at h
  ·rename_i c hc; split at h
   ·rename_i ds hd; cases h; exact ⟨_, _, rfl, hr x c hc, opL_ok hr hd⟩
   ·cases h
  ·cases h
theorem prt_ok (hr : Rl g ρ σ) : ∀ {l : List (Nat × Operand)} {cs : List (Nat × CV)}, prt ρ l = some cs → cs.map (·.1) = (l.map fun p => (p.1, σ p.2)).map (·.1) ∧ VL g (cs.map (·.2)) ((l.map fun p => (p.1, σ p.2)).map (·.2))
 | [], _, h => by cases h; exact ⟨rfl, rfl⟩
 | (i, x) :: r, cs, h => by
  simp only [prt] at h; split at h
  ·rename_i c hc; split at h
   ·rename_i ds hd; cases h; obtain ⟨h1, h2⟩ := prt_ok hr hd; exact ⟨by simp only [List.map_cons]; rw [h1], _, _, rfl, hr x c hc, h2⟩
   ·cases h
  ·cases h
theorem fil_ok (pl : Nat → Option (Nat × Nat)) : ∀ {cs : List (Nat × CV)} {l : List (Nat × Value)} {xs ys : List CV} {cells : Array Value}, fil pl xs cs = some ys → VL g xs cells.toList → cs.map (·.1) = l.map (·.1) → VL g (cs.map (·.2)) (l.map (·.2)) →
 ∃ out, Instr.fill pl cells l = some out ∧ VL g ys out.toList
 | [], [], xs, ys, cells, h, hx, _, _ => by
  have : xs = ys := by cases xs <;> simpa [fil] using h
  subst this; exact ⟨cells, rfl, hx⟩
 | [], _ :: _, _, _, _, _, _, h, _ => by cases h
 | _ :: _, [], _, _, _, _, _, h, _ => by cases h
 | (i, y) :: r, (i', v) :: l, xs, ys, cells, h, hx, h1, h2 => by
  simp only [List.map_cons, List.cons.injEq] at h1; obtain ⟨rfl, h1⟩ := h1; obtain ⟨v', r', e1, hv, hr⟩ := h2; simp only [List.map_cons, List.cons.injEq] at e1; obtain ⟨rfl, rfl⟩ := e1; simp only [fil] at h; split at h
  ·rename_i off n hp; split at h
   ·rename_i hn; split at h
    ·rename_i zs hz; have hc := cells_ok hv; have hn := Nat.eq_of_beq_eq_true hn; rw [len_eq] at hn; obtain ⟨hle, rfl⟩ := put_eq hz; have hcl := hc.length; have hxl := hx.length; rw [fill_step pl cells i off n v l hp (by rw [← hn, ← hcl]; simp) (by rw [← Array.length_toList]; omega)]; exact fil_ok pl h (by simpa using hx.splice hc off) h1 hr
    ·cases h
   ·cases h
  ·cases h
theorem zer_ok {t : TypeId} {z : CV} (h : zer P t = some z) : ∃ i v, P.info? t = some i ∧ i.zero = some v ∧ VR g z v := by
 unfold zer at h; split at h
 ·rename_i i hi; split at h
  ·rename_i v hv; exact ⟨i, v, hi, hv, cvOf_ok h⟩
  ·cases h
 ·cases h
theorem build_ok {t : TypeId} {parts : Array (Nat × Operand)} {pl : List (Nat × Nat)} {z : CV} {cs : List (Nat × CV)} {xs : List CV} (hr : Rl g ρ σ) (hb : bInfo P t = some pl) (hz : zer P t = some z) (hp : prt ρ parts.toList = some cs) (hf : fil (pl[·]?) z.cells cs = some xs) :
 ∃ v, VR g (.a xs) v ∧ ∀ w : World, (Instr.build t (parts.map fun (i, x) => (i, σ x))).run P w = .ok v w := by
 obtain ⟨it, zv, hi, hz, hzv⟩ := zer_ok (g := g) hz; obtain ⟨e1, e2⟩ := prt_ok hr hp; obtain ⟨out, ho1, ho2⟩ := fil_ok (pl[·]?) hf (cells_ok hzv) e1 e2; have hbuilt : P.built t (parts.toList.map fun p => (p.1, σ p.2)) = some out := by
  unfold bInfo at hb; unfold Program.built; rw [hi]; split at hb
  ·rename_i fs hu; rw [hu]; simp only [hz, hb]; simpa using ho1
  ·rename_i n e hu; simp only [Option.map_eq_some_iff] at hb; obtain ⟨ie, hie, rfl⟩ := hb; rw [hu]; simp only [hz, hie]; refine fill_congr _ _ (fun i x hx => ?_) _ _ _ ho1; simp only [List.getElem?_map, Option.map_eq_some_iff] at hx; obtain ⟨k, hk, rfl⟩ := hx; obtain ⟨hlt, he⟩ := List.getElem?_eq_some_iff.1 hk; simp at he; subst he; rfl
  ·cases hb
 refine ⟨.agg out, ⟨out, rfl, ho2⟩, fun w => ?_⟩; rw [run_build w t _ out (by rw [← hbuilt]; simp)]
theorem rep_ok {zs : List CV} {vs : List Value} (h : VL g zs vs) : ∀ n, VL g (rep zs n) ((List.replicate n vs).flatten)
 | 0 => rfl
 | n + 1 => by simp only [rep, List.replicate_succ, List.flatten_cons]; exact h.app (rep_ok h n)
theorem elt_ok {t el : TypeId} (h : elt P t = some el) : P.underlying t = some (.slice el) := by
 unfold elt at h; split at h
 ·rename_i hu; cases h; exact hu
 ·cases h
theorem sl_ok {t el : TypeId} {e b : Nat} (hs : slInfo P t = some (e, b)) (he : elt P t = some el) : ∃ i z, P.underlying t = some (.slice el) ∧ P.info? el = some i ∧ i.zero = some z ∧ i.size = e ∧ i.bytes = b ∧ z.cells.size = e := by
 obtain ⟨el', i, z, hu, hi, hz, h1, h2, h3, _⟩ := slInfo_ok hs; have := elt_ok he; rw [hu] at this; cases this; exact ⟨i, z, hu, hi, hz, h1, h2, h3⟩
theorem buildSlice_ok {t el : TypeId} {n e b : Nat} {parts : Array (Nat × Operand)} {z : CV} {cs : List (Nat × CV)} {xs : List CV} (hr : Rl g ρ σ) (hs : slInfo P t = some (e, b)) (he : elt P t = some el) (hz : zer P el = some z) (hp : prt ρ parts.toList = some cs)
 (hn : n * e ≤ 16777216) (h0 : 0 < e) (hf : fil (fun i => some (i * e, e)) (rep z.cells n) cs = some xs) :
 ∃ out : Array Value, VL g xs out.toList ∧ ∀ w : World, (Instr.buildSlice t n (parts.map fun (i, x) => (i, σ x))).run P w = .ok (.slice (some ⟨w.heap.size, 0, none⟩) n n) (w.alloc (.cells out el)) := by
 obtain ⟨inf, zv, hu, hi, hz1, hsz, _, hzs⟩ := sl_ok hs he; obtain ⟨inf', zv', hi', hz', hzv⟩ := zer_ok (g := g) hz; rw [hi] at hi'; cases hi'; rw [hz1] at hz'; cases hz'; obtain ⟨e1, e2⟩ := prt_ok hr hp; have hzl : VL g (rep z.cells n) (madeCells zv.cells (n * e)).toList := by rw [made_list zv.cells e hzs]; exact rep_ok (cells_ok hzv) n
 obtain ⟨out, ho1, ho2⟩ := fil_ok (fun i => some (i * e, e)) hf hzl e1 e2; refine ⟨out, ho2, fun w => ?_⟩; have hp2 : (parts.map fun (p : Nat × Operand) => (p.1, σ p.2)).toList = parts.toList.map fun p => (p.1, σ p.2) := by simp
 simp only [Instr.buildSlice, Sem.run_bind, run_underlying hu, Result.andThen_ok, AX.run_sizeOf hi, hsz]; rw [if_neg (by omega)]; by_cases hz0 : n * e = 0
 ·have hm : madeCells zv.cells (n * e) = #[] := by rw [hz0]; simp [madeCells]
  simp only [hz0, if_true, Sem.run_bind, Sem.run_pure, Result.andThen_ok]; rw [hm] at ho1; have : ((Array.range 0).map fun (x : Nat) => (#[] : Array Value)[x % (#[] : Array Value).size]!) = #[] := by simp
  rw [this, hp2, ho1]; simp [newRow]
 ·simp only [hz0, if_false, zeroValue, typeInfo, Sem.run_bind, run_program, hi, hz1, Sem.run_pure, Result.andThen_ok]; rw [hp2]; have : ((Array.range (n * e)).map fun (x : Nat) => zv.cells[x % zv.cells.size]!) = madeCells zv.cells (n * e) := rfl; rw [this, ho1]; simp [newRow]
end Go.EX

namespace Go.EX
open Go.AX
variable {P : Program} {g : Gs} {ρ : Operand → Option CV} {σ : Operand → Value}
/-! ### Slice expressions -/
theorem bnd_ok (hr : Rl g ρ σ) {d : Nat} {x : Option Operand} {n : Nat} (h : bnd ρ d x = some n) : (x = none ∧ n = d) ∨ ∃ y k, x = some y ∧ σ y = .int k n := by
 cases x with
 | none => cases h; exact .inl ⟨rfl, rfl⟩
 | some y =>
  simp only [bnd] at h; split at h
  ·rename_i k m hy; cases h; exact .inr ⟨y, k, rfl, hr y _ hy⟩
  ·cases h
theorem bounds_ok (hr : Rl g ρ σ) (isS : Bool) {len cap : Nat} {lo hi mx : Option Operand} {l h m : Nat} (h1 : bnd ρ 0 lo = some l) (h2 : bnd ρ len hi = some h) (h3 : bnd ρ cap mx = some m)
 (hl : l ≤ h) (hh : h ≤ m) (hm : m ≤ cap) (hi' : mx.isSome = true → hi.isSome = true) (w : World) :
 (Instr.sliceBounds isS len cap (lo.map σ) (hi.map σ) (mx.map σ)).run P w = .ok (l, h, m) w := by
 have key : ∀ (k : IntKind) (n y : Nat) (c : BoundsCode), n ≤ y → (Instr.sliceBound (.int k n) y c).run P w = .ok n w := fun k n y c hn => by
  simpa using run_sliceBound w k (n : Int) y c (by omega) (by omega)
 rcases bnd_ok hr h1 with ⟨rfl, rfl⟩ | ⟨x, kx, rfl, ex⟩ <;> rcases bnd_ok hr h2 with ⟨rfl, rfl⟩ | ⟨y, ky, rfl, ey⟩ <;> rcases bnd_ok hr h3 with ⟨rfl, rfl⟩ | ⟨z, kz, rfl, ez⟩ <;>
  first
   | (simp at hi'; done)
   | simp [Instr.sliceBounds, *]
theorem slSize_ok {t : TypeId} {e : Nat} (h : slSize P t = some e) : ∃ el i, P.underlying t = some (.slice el) ∧ P.info? el = some i ∧ i.size = e := by
 unfold slSize at h; split at h
 ·rename_i el hu; simp only [Option.map_eq_some_iff] at h; obtain ⟨i, hi, rfl⟩ := h; exact ⟨el, i, hu, hi, rfl⟩
 ·cases h
theorem arSize_ok {t : TypeId} {n e : Nat} (h : arSize P t = some (n, e)) : ∃ el i, P.underlying t = some (.array n el) ∧ P.info? el = some i ∧ i.size = e := by
 unfold arSize at h; split at h
 ·rename_i m el hu; simp only [Option.map_eq_some_iff, Prod.mk.injEq] at h; obtain ⟨i, hi, rfl, rfl⟩ := h; exact ⟨el, i, hu, hi, rfl⟩
 ·cases h
theorem bs_cut (s : List Nat) (l h : Nat) (hh : h ≤ s.length) : (bs s).extract l h = bs ((s.take h).drop l) := by
 apply ByteArray.ext; rw [ByteArray.data_extract]; apply Array.ext'; simp only [bs, Array.toList_extract, List.extract, List.map_drop, List.map_take, List.drop_take]
theorem su_ok {b : Ps} {off e l h cap : Nat} {m : Nat} (hD : g.D b) (hc : off + cap * e = g.K b) (he : 0 < e) (hl : l ≤ h) (hh : h ≤ cap) (hm : m = cap) :
 VR g (if l = 0 then .su b off h e else if l = h then .se else .su b (off + l * e) (h - l) e) (.slice (if m = l then some ⟨g.μ b, off, none⟩ else (some (⟨g.μ b, off, none⟩ : Addr)).map (·.add (l * e))) (h - l) (m - l)) := by
 subst hm; by_cases h0 : l = 0
 ·subst h0; rw [if_pos rfl]; refine ⟨hD, m, ?_, hh, hc⟩; simp [Addr.add]
 ·rw [if_neg h0]; by_cases h1 : l = h
  ·rw [if_pos h1]; subst h1; by_cases h2 : m = l
   ·exact ⟨_, m - l, by rw [if_pos h2, Nat.sub_self]⟩
   ·exact ⟨_, m - l, by rw [if_neg h2, Nat.sub_self]; rfl⟩
  ·rw [if_neg h1]; refine ⟨hD, m - l, ?_, by omega, ?_⟩
   ·rw [if_neg (by omega)]; simp [Addr.add_lit]
   ·rw [← hc, Nat.add_assoc, ← Nat.add_mul]; congr 2; omega
theorem cut_ok (hr : Rl g ρ σ) {t : TypeId} {lo hi mx : Option Operand} {a : CV} {r : PR} (h : cut P t ρ lo hi mx a = some r) {u : Value} (ha : VR g a u) :
 PRok P g (do pure (.value (← Instr.sliceAt t u (lo.map σ) (hi.map σ) (mx.map σ)))) r := by
 have vr : ∀ {x : CV} {v : Value}, VR g x v → (∀ w, (Instr.sliceAt t u (lo.map σ) (hi.map σ) (mx.map σ)).run P w = .ok v w) → PRok P g (do pure (.value (← Instr.sliceAt t u (lo.map σ) (hi.map σ) (mx.map σ)))) (.v x) :=
  fun hx hw => ⟨_, hx, fun w => .inl (by simp [hw w])⟩
 cases a <;> simp only [cut] at h <;> try (cases h; done)
 case s s =>
  obtain ⟨hs, rfl⟩ := ha; split at h
  ·rename_i l h' hu h1 h2; split at h
   ·rename_i hc; cases h; refine vr (x := .s _) ⟨fun x hx => hs x (List.mem_of_mem_take (List.mem_of_mem_drop hx)), rfl⟩ fun w => ?_; simp only [Instr.sliceAt, Sem.run_bind, run_underlying hu, Result.andThen_ok, Instr.slice]; have := bounds_ok (P := P) hr false (cap := s.length) (mx := none) (m := s.length) h1 h2 rfl hc.1 hc.2 (Nat.le_refl _) (by simp) w; simp only [Option.map_none, bs_size] at this ⊢; simp only [Option.isSome_none, Bool.false_eq_true, if_false, Sem.run_bind, this, Result.andThen_ok, Sem.run_pure, bs_cut s l h' hc.2]
   ·cases h
  ·cases h
 case p b off =>
  obtain ⟨hD, rfl⟩ := ha; split at h
  ·rename_i n e hs; obtain ⟨el, i, hu, hi', rfl⟩ := arSize_ok hs; split at h
   ·rename_i l h' m h1 h2 h3; split at h
    ·rename_i hc; cases h; refine vr (x := .sl _ _ _ _) ⟨hD, by omega, rfl⟩ fun w => ?_; simp only [Instr.sliceAt, Sem.run_bind, run_underlying hu, Result.andThen_ok, Instr.sureAddr, Sem.run_pure, bounds_ok (P := P) hr false h1 h2 h3 hc.1 hc.2.1 hc.2.2.1 hc.2.2.2 w, AX.run_sizeOf hi']; by_cases hm : m = l
     ·simp [hm]
     ·simp [hm, Addr.add_lit]
    ·cases h
   ·cases h
  ·cases h
 case sl b off n cap =>
  obtain ⟨hD, hn, rfl⟩ := ha; split at h
  ·rename_i e hs; obtain ⟨el, i, hu, hi', rfl⟩ := slSize_ok hs; split at h
   ·rename_i l h' m h1 h2 h3; split at h
    ·rename_i hc; cases h; refine vr (x := .sl _ _ _ _) ⟨hD, by omega, rfl⟩ fun w => ?_; simp only [Instr.sliceAt, Sem.run_bind, run_underlying hu, Result.andThen_ok, Instr.slice, Sem.run_pure, bounds_ok (P := P) hr true h1 h2 h3 hc.1 hc.2.1 hc.2.2.1 hc.2.2.2 w, AX.run_sizeOf hi']; by_cases hm : m = l
     ·simp [hm]
     ·simp [hm, Addr.add_lit]
    ·cases h
   ·cases h
  ·cases h
 case k c =>
  cases c <;> simp only at h <;> try (cases h; done)
  cases ha; split at h
  ·rename_i e hs h1 h2 h3; split at h
   ·rename_i hb; cases h; obtain ⟨el, i, hu, hi', rfl⟩ := slSize_ok hs; refine vr (x := .k .s) rfl fun w => ?_; have := bounds_ok (P := P) hr true (cap := 0) (mx := mx) (m := 0) h1 h2 h3 (Nat.le_refl _) (Nat.le_refl _) (Nat.le_refl _) (fun e => by rw [e] at hb; simpa using hb) w; simp only [Nl.v, Instr.sliceAt, Sem.run_bind, run_underlying hu, Result.andThen_ok, Instr.slice, this, AX.run_sizeOf hi', Sem.run_pure]; simp
   ·cases h
  ·cases h
 case su b off n e' =>
  obtain ⟨hD, cap, rfl, hn, hK⟩ := ha; split at h
  ·rename_i e hs; obtain ⟨el, i, hu, hi', rfl⟩ := slSize_ok hs; split at h
   ·rename_i mo; split at h
    ·rename_i l h' m h1 h2 h3; split at h
     ·rename_i hc; cases h; refine vr (x := .sl _ _ _ _) ⟨hD, by omega, rfl⟩ fun w => ?_; simp only [Instr.sliceAt, Sem.run_bind, run_underlying hu, Result.andThen_ok, Instr.slice, Sem.run_pure, bounds_ok (P := P) hr true (cap := cap) (mx := some mo) h1 h2 h3 hc.1 hc.2.1 (by omega) (fun _ => hc.2.2.2) w, AX.run_sizeOf hi']; by_cases hm : m = l
      ·simp [hm]
      ·simp [hm, Addr.add_lit]
     ·cases h
    ·cases h
   ·split at h
    ·rename_i l h' h1 h2; split at h
     ·rename_i hc; obtain ⟨hl, rfl, he⟩ := hc; have key : h' ≤ cap → ∀ w, (Instr.sliceAt t (.slice (some ⟨g.μ b, off, none⟩) n cap) (lo.map σ) (hi.map σ) ((none : Option Operand).map σ)).run P w =
       .ok (.slice (if cap = l then some ⟨g.μ b, off, none⟩ else (some (⟨g.μ b, off, none⟩ : Addr)).map (·.add (l * i.size))) (h' - l) (cap - l)) w := fun hh w => by
       have := bounds_ok (P := P) hr true (cap := cap) (mx := none) (m := cap) h1 h2 rfl hl hh (Nat.le_refl _) (by simp) w; simp only [Option.map_none] at this ⊢; simp only [Instr.sliceAt, Sem.run_bind, run_underlying hu, Result.andThen_ok, Instr.slice, this, AX.run_sizeOf hi', Sem.run_pure]
      split at h
      ·rename_i hh; cases h; exact vr (su_ok hD hK he hl (by omega) rfl) (key (by omega))
      ·cases h; refine ⟨hD, fun w c x ho hx => ?_⟩; cases c with
       | mp _ _ => cases hx
       | c T xs =>
        simp only at hx; split at hx
        ·rename_i hf; cases hx; obtain ⟨arr, vs, e1, e2, e3, e4⟩ := ho; have hh : h' ≤ cap := by
          have l1 := e3.length; have l2 : vs.length ≤ arr.size := by simpa using e4.length_le
          have : h' * i.size ≤ cap * i.size := by omega
          exact Nat.le_of_mul_le_mul_right this he
         exact ⟨_, su_ok hD hK he hl hh rfl, .inl (by have := key hh w; simp only [Sem.run_bind, this, Result.andThen_ok, Sem.run_pure])⟩
        ·cases hx
     ·cases h
    ·cases h
  ·cases h
/-! ### Texts and bytes -/
theorem byt_ok : ∀ {ys : List CV} {l : List Nat} {vs : List Value}, byt ys = some l → VL g ys vs → (∀ x ∈ l, x < 256) ∧ vs = (l.map Int.ofNat).map (Value.int .u8)
 | [], _, _, h, hv => by cases h; exact ⟨by simp, by simpa [VL] using hv⟩
 | y :: r, l, vs, h, ⟨v, q, e, h1, h2⟩ => by
  unfold byt at h; split at h
  ·rename_i he; cases he
  ·rename_i n r' he; cases he; split at h
   ·rename_i hn; split at h
    ·rename_i l' hl; cases h; obtain ⟨a1, a2⟩ := byt_ok hl h2; have h1 : v = .int .u8 n := h1; have := Nat.le_of_ble_eq_true hn; exact ⟨fun x hx => by rcases List.mem_cons.1 hx with rfl | hx; omega; exact a1 x hx, by rw [e, h1, a2]; rfl⟩
    ·cases h
   ·cases h
  ·cases h
theorem nums_bs (l : List Nat) : strOfNums (l.map Int.ofNat) = bs l := by
 unfold strOfNums bs; rw [List.map_map]; rfl
theorem isBy_ok {s d : TypeId} (h : isBy P s d = true) : ∃ e, P.underlying s = some (.slice e) ∧ P.underlying d = some .string ∧ P.underlying e = some (.int .u8) := by
 unfold isBy at h; split at h
 ·rename_i e h1 h2; split at h
  ·rename_i h3; exact ⟨e, h1, h2, h3⟩
  ·cases h
 ·cases h
theorem strR_ok {s d : TypeId} (h : isBy P s d = true) {b : Ps} {n off cap : Nat} {c : CB} {x : CV} {w : World} (ho : OR g b c w.heap[g.μ b]?) (hx : strR n off c = some x) :
 ∃ v, VR g x v ∧ Rv P (do pure (.value (← convert s d (.slice (some ⟨g.μ b, off, none⟩) n cap)))) w w v := by
 obtain ⟨e, h1, h2, h3⟩ := isBy_ok h; cases c with
 | mp _ _ => cases hx
 | c T xs =>
  simp only [strR] at hx; split at hx
  ·rename_i ys hy; split at hx
   ·rename_i l hl; cases hx; obtain ⟨vs, a1, a2, a3⟩ := tak_ok ho hy; obtain ⟨b1, b2⟩ := byt_ok hl a1; have hlen : (l.map Int.ofNat).length = n := by rw [← a2, b2]; simp
    refine ⟨.string (bs l), ⟨b1, rfl⟩, .inl ?_⟩; have := run_convert_bytes_arg (P := P) w s e h1 h3 (g.μ b) off n cap (l.map Int.ofNat) hlen (fun i hi => ?_) d h2
    ·rw [nums_bs] at this; simp [this]
    ·have := a3 i (.int .u8 ((l.map Int.ofNat).getD i 0)) (by rw [b2, List.getElem?_map, List.getD_eq_getElem?_getD, List.getElem?_eq_getElem (by omega)]; rfl)
     rwa [Addr.add_lit] at this
   ·cases hx
  ·cases hx
theorem conv_nil {s d : TypeId} (h : isBy P s d = true) (w : World) : (convert s d (.slice none 0 0)).run P w = .ok (.string (bs [])) w := by
 obtain ⟨e, h1, h2, h3⟩ := isBy_ok h; simp only [convert, Sem.run_bind, run_underlying h1, run_underlying h2, run_underlying h3, Result.andThen_ok, Conv.bytesToString, Sem.run_pure]; rfl
theorem cvt_ok {s d : TypeId} {a : CV} {r : PR} (h : cvt P s d a = some r) {u : Value} (ha : VR g a u) : PRok P g (do pure (.value (← convert s d u))) r := by
 cases a <;> simp only [cvt] at h <;> try (cases h; done)
 case i k n =>
  cases ha; split at h
  ·rename_i k' h1 h2; cases h; unfold cvtK at h2; split at h2
   ·rename_i hu; cases h2; exact ⟨_, rfl, fun w => .inl (by simp [convert, run_underlying h1, run_underlying hu, Conv.intToInt])⟩
   ·cases h2
  ·cases h
 case s l =>
  obtain ⟨hl, rfl⟩ := ha; split at h
  ·rename_i h1 h2; cases h; exact ⟨_, ⟨hl, rfl⟩, fun w => .inl (by simp [convert, run_underlying h1, run_underlying h2])⟩
  ·cases h
 case k c =>
  cases c <;> simp only at h <;> try (cases h; done)
  cases ha; split at h
  ·rename_i hb; cases h; exact ⟨_, ⟨by simp, rfl⟩, fun w => .inl (by simp [Nl.v, conv_nil hb w])⟩
  ·cases h
 case se =>
  obtain ⟨q, cap, rfl⟩ := ha; split at h
  ·rename_i hb; cases h; obtain ⟨e, h1, h2, h3⟩ := isBy_ok hb; refine ⟨.string (bs []), ⟨by simp, rfl⟩, fun w => .inl ?_⟩; have hc : (loadCells q 0).run P w = .ok #[] w := rfl; simp only [convert, Sem.run_bind, run_underlying h1, run_underlying h2, run_underlying h3, Result.andThen_ok, Conv.bytesToString, hc, Sem.run_pure]; rfl
  ·cases h
 case sl b off n cap =>
  obtain ⟨hD, _, rfl⟩ := ha; split at h
  ·rename_i hb; cases h; exact ⟨hD, fun w c x ho hx => strR_ok hb ho hx⟩
  ·cases h
 case su b off n e =>
  obtain ⟨hD, cap, rfl, _, _⟩ := ha; split at h
  ·rename_i hb; cases h; exact ⟨hD, fun w c x ho hx => strR_ok hb ho hx⟩
  ·cases h
/-! ### Slices that are made, places, indices -/
theorem msl_ok {t : TypeId} {a b : CV} {r : PR} (h : msl P t a b = some r) {u v : Value} (ha : VR g a u) (hb : VR g b v) : PRok P g (do pure (.value (← Instr.makeSlice t u v))) r := by
 unfold msl at h; split at h
 ·rename_i k1 l k2 c; cases ha; cases hb; split at h
  ·rename_i e by_ el hs he; split at h
   ·rename_i z hz; split at h
    ·rename_i hc; cases h; obtain ⟨inf, zv, hu, hi, hz1, hsz, hbz, hzs⟩ := sl_ok hs he; obtain ⟨inf', zv', hi', hz', hzv⟩ := zer_ok (g := g) hz; rw [hi] at hi'; cases hi'; rw [hz1] at hz'; cases hz'; obtain ⟨h1, h2, h3⟩ := hc; intro w; have hcb : c * 1 ≤ c * by_ := Nat.mul_le_mul_left c h3; have h4 : ((c * by_ : Nat) : Int) ≤ 1000000000 := by omega
     rw [Int.natCast_mul] at h4; have hrun := run_make (P := P) (w := w) t el inf zv hu hi hz1 k1 k2 (l : Int) (c : Int) (by omega) (by omega) (by rw [hbz, Int.mul_comm]; exact Int.le_trans h4 (by decide)) (by omega); simp only [Int.toNat_natCast] at hrun; refine ⟨.cells (madeCells zv.cells (c * inf.size)) el, .slice (some ⟨w.heap.size, 0, none⟩) l c, w.alloc (.cells (madeCells zv.cells (c * inf.size)) el), .inl (by simp only [Int.ofNat_eq_natCast, Sem.run_bind, hrun, Result.andThen_ok, Sem.run_pure]), rfl, rfl, Nat.le_refl _, fun g' b hl hD hm hK => ⟨⟨_, _, rfl, hK.symm, ?_, List.prefix_refl _⟩, hD, h1, by rw [hm]⟩⟩; rw [hsz, made_list zv.cells e hzs]; exact rep_ok ((cells_ok hzv).mono hl) c
    ·cases h
   ·cases h
  ·cases h
 ·cases h
theorem ixa_ok {t : TypeId} {a b : CV} {r : PR} (h : ixa P t a b = some r) {u v : Value} (ha : VR g a u) (hb : VR g b v) : PRok P g (do pure (.value (← Instr.indexAt t u v))) r := by
 have hlt : ∀ {i n : Nat}, Nat.blt i n = true → ¬ n ≤ i := fun h => by have := Nat.le_of_ble_eq_true h; omega
 unfold ixa at h; split at h
 ·obtain ⟨hD, _, rfl⟩ := ha; cases hb; split at h
  ·rename_i e hs; obtain ⟨el, inf, hu, hi, rfl⟩ := slSize_ok hs; split at h
   ·rename_i hc; cases h; refine ⟨_, ⟨hD, rfl⟩, fun w => .inl ?_⟩; simp [Instr.indexAt, asIntOf, run_underlying hu, hlt hc, AX.run_sizeOf hi, Addr.add_lit]
   ·cases h
  ·cases h
 ·obtain ⟨hD, cap, rfl, _, _⟩ := ha; cases hb; split at h
  ·rename_i e hs; obtain ⟨el, inf, hu, hi, rfl⟩ := slSize_ok hs; split at h
   ·rename_i hc; cases h; refine ⟨_, ⟨hD, rfl⟩, fun w => .inl ?_⟩; simp [Instr.indexAt, asIntOf, run_underlying hu, hlt hc, AX.run_sizeOf hi, Addr.add_lit]
   ·cases h
  ·cases h
 ·obtain ⟨hD, rfl⟩ := ha; cases hb; split at h
  ·rename_i n e hs; obtain ⟨el, inf, hu, hi, rfl⟩ := arSize_ok hs; split at h
   ·rename_i hc; cases h; refine ⟨_, ⟨hD, rfl⟩, fun w => .inl ?_⟩; simp [Instr.indexAt, Instr.sureAddr, asIntOf, run_underlying hu, hlt hc, AX.run_sizeOf hi, Addr.add_lit]
   ·cases h
  ·cases h
 ·cases h
theorem ixv_ok {t : TypeId} {a b x : CV} (h : ixv P t a b = some x) {u v : Value} (ha : VR g a u) (hb : VR g b v) : ∃ r, VR g x r ∧ ∀ w, (Instr.index t u v).run P w = .ok r w := by
 have hlt : ∀ {i n : Nat}, Nat.blt i n = true → ¬ n ≤ i := fun h => by have := Nat.le_of_ble_eq_true h; omega
 unfold ixv at h; split at h
 ·rename_i xs k i; obtain ⟨vs, rfl, hv⟩ := ha; cases hb; split at h
  ·rename_i n ag e hs; unfold arInfo at hs; split at hs
   ·rename_i n' el hu; simp only [Option.map_eq_some_iff, Prod.mk.injEq] at hs; obtain ⟨q, hl, rfl, rfl⟩ := hs; split at h
    ·rename_i hc; have hsz := fun w => (run_isAgg hl w).2; cases ag with
     | false =>
      simp only [rdc, hd_eq, drp_eq] at h; obtain ⟨r, hr, hf⟩ := (hv.drop (i * e)).get 0 x h; rw [List.getElem?_drop] at hr; refine ⟨r, hf, fun w => ?_⟩; simp [Instr.index, run_underlying hu, asIntOf, hlt hc, hsz w, run_part1 w vs (i * e) r hl (by rw [← Array.getElem?_toList]; simpa using hr)]
     | true =>
      simp only [rdc, drp_eq] at h; split at h
      ·rename_i ys hy; cases h; obtain ⟨rfl, _⟩ := tak_eq hy; refine ⟨.agg (vs.extract (i * e) (i * e + e)), ⟨_, rfl, ?_⟩, fun w => ?_⟩
       ·rw [Array.toList_extract]; simpa [List.extract] using (hv.drop (i * e)).take e
       ·simp [Instr.index, run_underlying hu, asIntOf, hlt hc, hsz w, run_part w vs (i * e) hl]
      ·cases h
    ·cases h
   ·cases hs
  ·cases h
 ·rename_i l k i; obtain ⟨hl, rfl⟩ := ha; cases hb; split at h
  ·rename_i hu; split at h
   ·rename_i b hb; cases h; refine ⟨_, rfl, fun w => ?_⟩; have hi : (bs l)[i]? = some (UInt8.ofNat b) := by
     have hlt := (List.getElem?_eq_some_iff.1 hb).1; have e1 : (bs l).data[i]? = some (UInt8.ofNat b) := by simp [bs, hb]
     have hsz : i < (bs l).size := by rw [bs_size]; exact hlt
     have : (bs l)[i]? = some ((bs l)[i]) := by simp [hsz]
     rw [this]; have e2 : (bs l).data[i]? = some ((bs l).data[i]'hsz) := Array.getElem?_eq_getElem hsz; rw [← e1, e2]; rfl
    have hb2 := hl b (List.mem_of_getElem? hb); have : (UInt8.ofNat b).toNat = b := by simp; omega
    simp only [Instr.index, asIntOf, Int.ofNat_eq_natCast, Sem.run_bind, Sem.run_pure, Result.andThen_ok, run_underlying hu, if_pos (show (0 : Int) ≤ (i : Int) by omega), Int.toNat_natCast, hi, this]
   ·cases h
  ·cases h
 ·cases h
theorem field_ok {t : TypeId} {f off n : Nat} {ag : Bool} {xs : List CV} {x : CV} (hi : fldInfo P t f = some (off, ag, n)) (h : rdc ag n off (.c 0 xs) = some x) {vs : Array Value} (hv : VL g xs vs.toList) :
 ∃ r, VR g x r ∧ ∀ w, (Instr.field t (.agg vs) f).run P w = .ok r w := by
 unfold fldInfo at hi; split at hi
 case h_2 => cases hi
 rename_i fs hu; split at hi
 case h_2 => cases hi
 rename_i fd hfd; simp only [Option.map_eq_some_iff, Prod.mk.injEq] at hi; obtain ⟨q, hl, rfl, rfl⟩ := hi; cases ag with
 | false =>
  simp only [rdc, hd_eq, drp_eq] at h; obtain ⟨r, hr, hf⟩ := (hv.drop fd.offset).get 0 x h; rw [List.getElem?_drop] at hr; refine ⟨r, hf, fun w => ?_⟩; simp [Instr.field, run_underlying hu, hfd, asAgg, run_part1 w vs fd.offset r hl (by rw [← Array.getElem?_toList]; simpa using hr)]
 | true =>
  simp only [rdc, drp_eq] at h; split at h
  ·rename_i ys hy; cases h; obtain ⟨rfl, _⟩ := tak_eq hy; refine ⟨.agg (vs.extract fd.offset (fd.offset + n)), ⟨_, rfl, ?_⟩, fun w => ?_⟩
   ·rw [Array.toList_extract]; simpa [List.extract] using (hv.drop fd.offset).take n
   ·simp [Instr.field, run_underlying hu, hfd, asAgg, run_part w vs fd.offset hl]
  ·cases h
theorem fOff_ok {t : TypeId} {f d : Nat} (hs : fOff P t f = some d) (q : Addr) (w : World) : (Instr.fieldAt t (.pointer (some q)) f).run P w = .ok (.pointer (some (q.add d))) w := by
 unfold fOff at hs; split at hs
 case h_2 => cases hs
 rename_i fs hu; split at hs
 case h_2 => cases hs
 rename_i fd hfd; split at hs
 case h_2 => cases hs
 rename_i i hi; split at hs
 case isTrue => cases hs
 rename_i hne; cases hs; simp [Instr.fieldAt, run_underlying hu, hfd, Instr.sureAddr, fieldPlace, AX.run_sizeOf hi, hne]
end Go.EX

namespace Go.EX
open Go.AX
variable {P : Program} {g : Gs} {ρ : Operand → Option CV} {σ : Operand → Value}
/-! ### Maps -/
theorem fnd_ok {k : CV} {kv : Value} {d : TypeDesc} (hk : ∀ k' kv' b, VR g k' kv' → kEq k k' = some b → Instr.sameNow d kv kv' = some b ∧ (b = true → kv' = kv)) :
 ∀ {es : List (CV × CV × Nat)} {en : List MapEntry} (j : Nat) {r : Option (Nat × CV)}, fnd k es j = some r → ME g es en →
  (r = none ∧ Instr.findNow d kv en j = some none) ∨ ∃ i x m, r = some (j + i, x) ∧ Instr.findNow d kv en j = some (some (j + i, m.val)) ∧ en[i]? = some m ∧ m.key = kv ∧ VR g x m.val
 | [], en, j, r, h, hm => by
  cases h; simp only [ME] at hm; subst hm; exact .inl ⟨rfl, rfl⟩
 | (k', x, n) :: es, en, j, r, h, ⟨m, l, e, h1, h2, _, h4⟩ => by
  subst e; simp only [fnd] at h; split at h
  ·rename_i hq; cases h; obtain ⟨a1, a2⟩ := hk _ _ _ h1 hq; exact .inr ⟨0, x, m, rfl, by simp only [Instr.findNow, a1]; rfl, rfl, a2 rfl, h2⟩
  ·rename_i hq; obtain ⟨a1, _⟩ := hk _ _ _ h1 hq; rcases fnd_ok hk (j + 1) h h4 with ⟨b1, b2⟩ | ⟨i, x', m', b1, b2, b3, b4, b5⟩
   ·exact .inl ⟨b1, by simp only [Instr.findNow, a1]; exact b2⟩
   ·exact .inr ⟨i + 1, x', m', by rw [b1, Nat.add_assoc, Nat.add_comm 1 i], by simp only [Instr.findNow, a1]; rw [b2, Nat.add_assoc, Nat.add_comm 1 i], by simpa using b3, b4, b5⟩
  ·cases h
structure Ky (P : Program) (g : Gs) (t kt et : TypeId) (k : CV) (kv : Value) : Prop where
  un : P.underlying t = some (.map kt et)
  chk : ∀ b w, (Instr.checkKey b 10000 kt kv).run P w = .ok () w
  bits : Instr.sameBits 10000 kv kv = true
  find : ∀ {es : List (CV × CV × Nat)} {en : List MapEntry} {r : Option (Nat × CV)}, fnd k es 0 = some r → ME g es en →
      (r = none ∧ ∀ w, (Instr.findKey kt kv en).run P w = .ok none w) ∨ ∃ i x m, r = some (i, x) ∧ (∀ w, (Instr.findKey kt kv en).run P w = .ok (some (i, m.val)) w) ∧ en[i]? = some m ∧ m.key = kv ∧ VR g x m.val
theorem key_ok {t : TypeId} {k : CV} {kv : Value} (h : keyOk P t k = true) (hk : VR g k kv) : ∃ kt et, Ky P g t kt et k kv := by
 have fin : ∀ {kt : TypeId} {d : TypeDesc}, P.underlying kt = some d → (∀ k' kv' b, VR g k' kv' → kEq k k' = some b → Instr.sameNow d kv kv' = some b ∧ (b = true → kv' = kv)) →
  ∀ {es : List (CV × CV × Nat)} {en : List MapEntry} {r : Option (Nat × CV)}, fnd k es 0 = some r → ME g es en →
  (r = none ∧ ∀ w, (Instr.findKey kt kv en).run P w = .ok none w) ∨ ∃ i x m, r = some (i, x) ∧ (∀ w, (Instr.findKey kt kv en).run P w = .ok (some (i, m.val)) w) ∧ en[i]? = some m ∧ m.key = kv ∧ VR g x m.val := by
  intro kt d hu hd es en r hf hm; rcases fnd_ok hd 0 hf hm with ⟨b1, b2⟩ | ⟨i, x', m', b1, b2, b3, b4, b5⟩
  ·exact .inl ⟨b1, fun w => by simp only [Instr.findKey, Sem.run_bind, run_underlying hu, Result.andThen_ok, b2, Sem.run_pure]⟩
  ·rw [Nat.zero_add] at b1 b2; exact .inr ⟨i, x', m', b1, fun w => by simp only [Instr.findKey, Sem.run_bind, run_underlying hu, Result.andThen_ok, b2, Sem.run_pure], b3, b4, b5⟩
 unfold keyOk at h; split at h
 ·rename_i kd n; cases hk; split at h
  ·rename_i kt et hu; split at h
   ·rename_i kk hkk; refine ⟨kt, et, hu, fun b w => run_checkKey_int w b kt kk kd n hkk, sameBits_int kd n, fin hkk fun k' kv' b h1 h2 => ?_⟩; unfold kEq at h2; split at h2
    ·rename_i e1; cases e1; cases h1; split at h2
     ·rename_i hkd; cases h2; subst hkd; exact ⟨by simp only [Instr.sameNow, if_true]; rfl, fun hb => by rw [of_decide_eq_true hb]⟩
     ·cases h2
    ·cases h2
   ·cases h
  ·cases h
 ·cases h
theorem lok_ok {ok : Bool} {z : CV} {zv : Value} (hz : VR g z zv) {r : Option (Nat × CV)} {r' : Option (Nat × Value)} (h : (r = none ∧ r' = none) ∨ ∃ i x v, r = some (i, x) ∧ r' = some (i, v) ∧ VR g x v) :
 VR g (lok ok z r) (match r' with
  | some (_, v) => if ok then .tuple #[v, .bool true] else v
  | none => if ok then .tuple #[zv, .bool false] else zv) := by
 rcases h with ⟨rfl, rfl⟩ | ⟨i, x, v, rfl, rfl, hv⟩
 ·cases ok
  ·exact hz
  ·exact ⟨_, rfl, _, _, rfl, hz, _, _, rfl, rfl, rfl⟩
 ·cases ok
  ·exact hv
  ·exact ⟨_, rfl, _, _, rfl, hv, _, _, rfl, rfl, rfl⟩
theorem mpI_ok {t : TypeId} {z : CV} (h : mpI P t = some z) : ∃ k e i v, P.underlying t = some (.map k e) ∧ P.info? e = some i ∧ i.zero = some v ∧ VR g z v := by
 unfold mpI at h; split at h
 ·rename_i k e hu; split at h
  ·obtain ⟨i, v, h1, h2, h3⟩ := zer_ok (g := g) h; exact ⟨k, e, i, v, hu, h1, h2, h3⟩
  ·cases h
 ·cases h
theorem lkp_ok {t : TypeId} {ok : Bool} {k m : CV} {r : PR} (h : lkp P t ok k m = some r) {kv mv : Value} (hk : VR g k kv) (hm : VR g m mv) : PRok P g (do pure (.value (← Instr.lookup t mv kv ok))) r := by
 unfold lkp at h; split at h
 ·cases hm; split at h
  ·rename_i z hz hko; cases h; obtain ⟨kt, et, i, zv, hu, hi, hz1, hzv⟩ := mpI_ok (g := g) hz; obtain ⟨kt', et', hy⟩ := key_ok hko hk; have := hy.un; rw [hu] at this; cases this; refine ⟨_, lok_ok (ok := ok) hzv (r := none) (r' := none) (.inl ⟨rfl, rfl⟩), fun w => .inl ?_⟩; have hf : (Instr.findKey kt kv []).run P w = .ok none w := by
    rcases hy.find (es := []) (en := []) rfl rfl with ⟨_, h⟩ | ⟨_, _, _, h, _⟩
    ·exact h w
    ·cases h
   simp only [Nl.v, Instr.lookup, Sem.run_bind, run_underlying hu, Result.andThen_ok, Sem.run_pure, hy.chk, hf, zeroValue, typeInfo, run_program, hi, hz1]
  ·cases h
 ·rename_i b; obtain ⟨hD, rfl⟩ := hm; split at h
  ·rename_i z hz hko; cases h; obtain ⟨kt, et, i, zv, hu, hi, hz1, hzv⟩ := mpI_ok (g := g) hz; obtain ⟨kt', et', hy⟩ := key_ok hko hk; have := hy.un; rw [hu] at this; cases this; refine ⟨hD, fun w c x ho hx => ?_⟩; cases c with
   | c _ _ => cases hx
   | mp es ck =>
    obtain ⟨en, e1, e2⟩ := ho; simp only at hx; split at hx
    ·rename_i r hr; cases hx; rcases hy.find hr e2 with ⟨rfl, hf⟩ | ⟨i', x', m', rfl, hf, _, _, hv⟩
     ·refine ⟨_, lok_ok (ok := ok) hzv (r := none) (r' := none) (.inl ⟨rfl, rfl⟩), .inl ?_⟩; simp only [Instr.lookup, Sem.run_bind, run_underlying hu, Result.andThen_ok, Sem.run_pure, hy.chk, hf, zeroValue, typeInfo, run_program, hi, hz1, getObj, Sem.run, e1]
     ·refine ⟨_, lok_ok (ok := ok) hzv (r := some (i', x')) (r' := some (i', m'.val)) (.inr ⟨i', x', m'.val, rfl, rfl, hv⟩), .inl ?_⟩; simp only [Instr.lookup, Sem.run_bind, run_underlying hu, Result.andThen_ok, Sem.run_pure, hy.chk, hf, getObj, Sem.run, e1]
    ·cases hx
  ·cases h
 ·cases h
theorem ME.length : ∀ {es : List (CV × CV × Nat)} {en : List MapEntry}, ME g es en → en.length = es.length
 | [], _, h => by simp only [ME] at h; simp [h]
 | (_, _, _) :: _, _, ⟨_, _, e, _, _, _, h⟩ => by simp [e, ME.length h]
theorem ME.snoc {k x : CV} {n : Nat} {m : MapEntry} (h1 : VR g k m.key) (h2 : VR g x m.val) (h3 : m.born = n) : ∀ {es : List (CV × CV × Nat)} {en : List MapEntry}, ME g es en → ME g (es ++ [(k, x, n)]) (en ++ [m])
 | [], _, h => by simp only [ME] at h; subst h; exact ⟨m, [], rfl, h1, h2, h3, rfl⟩
 | (_, _, _) :: _, _, ⟨m', l, e, a, b, c, d⟩ => by subst e; exact ⟨m', _, rfl, a, b, c, ME.snoc h1 h2 h3 d⟩
theorem ME.set {x : CV} {v : Value} (hx : VR g x v) : ∀ {es : List (CV × CV × Nat)} {en : List MapEntry} (i : Nat), ME g es en → ME g (setE i x es) (en.modify i fun e => { e with val := v })
 | [], _, i, h => by simp only [ME] at h; subst h; cases i <;> rfl
 | (_, _, _) :: _, _, 0, ⟨m, l, e, a, b, c, d⟩ => by subst e; exact ⟨_, l, rfl, a, hx, c, d⟩
 | (_, _, _) :: _, _, i + 1, ⟨m, l, e, a, b, c, d⟩ => by subst e; exact ⟨m, _, rfl, a, b, c, ME.set hx i d⟩
theorem ME.del : ∀ {es : List (CV × CV × Nat)} {en : List MapEntry} (i : Nat), ME g es en → ME g (es.eraseIdx i) (en.eraseIdx i)
 | [], _, i, h => by simp only [ME] at h; subst h; simp [ME]
 | (_, _, _) :: _, _, 0, ⟨m, l, e, a, b, c, d⟩ => by subst e; exact d
 | (_, _, _) :: _, _, i + 1, ⟨m, l, e, a, b, c, d⟩ => by subst e; exact ⟨m, _, rfl, a, b, c, ME.del i d⟩
theorem mup_ok {t : TypeId} {k x m : CV} {r : PR} (h : mup P t k x m = some r) {kv xv mv : Value} (hk : VR g k kv) (hx : VR g x xv) (hm : VR g m mv) : PRok P g (do Instr.mapUpdate t mv kv xv; pure .skip) r := by
 unfold mup at h; split at h
 ·rename_i b; obtain ⟨hD, rfl⟩ := hm; split at h
  ·rename_i hko; cases h; obtain ⟨kt, et, hy⟩ := key_ok hko hk; refine ⟨hD, fun w c x' c' ho hc => ?_⟩; cases c with
   | c _ _ => cases hc
   | mp es ck =>
    obtain ⟨en, e1, e2⟩ := ho; have hlt := (Array.getElem?_eq_some_iff.1 e1).1; simp only at hc; split at hc
    ·rename_i i y hr; cases hc; rcases hy.find hr e2 with ⟨h0, _⟩ | ⟨i', x2, m', h0, hf, h3, h4, hv⟩
     ·cases h0
     cases h0; have h3' : en[i]? = some m' := by rw [← Array.getElem?_toList]; exact h3
     refine ⟨undef, .map (en.modify i fun e => { e with key := kv, val := xv }) ck, { w with heap := w.heap.setIfInBounds (g.μ b) _ }, ⟨#[], rfl, rfl⟩, ⟨_, rfl, ?_⟩, .inr ⟨?_, rfl⟩, rfl, rfl, Nat.le_refl _⟩
     ·have e : (en.modify i fun e => { e with key := kv, val := xv }).toList = en.toList.modify i fun e => { e with val := xv } := by
       rw [Array.toList_modify]; apply List.ext_getElem?; intro j; rw [List.getElem?_modify, List.getElem?_modify]; by_cases hj : i = j
       ·subst hj; rw [h3]; simp [h4]
       ·simp [hj]
      rw [e]; exact ME.set hx i e2
     ·simp only [Instr.mapUpdate, Sem.run_bind, run_underlying hy.un, Result.andThen_ok, getObj, Sem.run, e1, Sem.run_pure, hy.chk, hf, Instr.keyThatStays, h3', Option.map_some, Option.getD_some, h4, hy.bits, if_true, setObj]
    ·rename_i hr; cases hc; rcases hy.find hr e2 with ⟨_, hf⟩ | ⟨_, _, _, h0, _⟩
     ·refine ⟨undef, .map (en.push { key := kv, val := xv, born := ck }) (ck + 1), { w with heap := w.heap.setIfInBounds (g.μ b) _ }, ⟨#[], rfl, rfl⟩, ⟨_, rfl, ?_⟩, .inr ⟨?_, rfl⟩, rfl, rfl, Nat.le_refl _⟩
      ·rw [Array.toList_push]; exact ME.snoc (m := { key := kv, val := xv, born := ck }) hk hx rfl e2
      ·simp only [Instr.mapUpdate, Sem.run_bind, run_underlying hy.un, Result.andThen_ok, getObj, Sem.run, e1, Sem.run_pure, hy.chk, hf, setObj]
     ·cases h0
    ·cases hc
  ·cases h
 ·cases h
theorem mdl_ok {t t2 : TypeId} {ty : TypeId} {k m : CV} {r : PR} (h : mdl P t k m = some r) {kv mv : Value} (hk : VR g k kv) (hm : VR g m mv) : PRok P g (do pure (.value (← Builtin.delete_ #[t, t2] ty #[mv, kv]))) r := by
 unfold mdl at h; split at h
 ·rename_i b; obtain ⟨hD, rfl⟩ := hm; split at h
  ·rename_i hko; cases h; obtain ⟨kt, et, hy⟩ := key_ok hko hk; refine ⟨hD, fun w c x' c' ho hc => ?_⟩; cases c with
   | c _ _ => cases hc
   | mp es ck =>
    obtain ⟨en, e1, e2⟩ := ho; simp only at hc; split at hc
    ·rename_i i y hr; cases hc; rcases hy.find hr e2 with ⟨h0, _⟩ | ⟨i', x2, m', h0, hf, h3, h4, hv⟩
     ·cases h0
     cases h0; refine ⟨.tuple #[], .map (en.eraseIdxIfInBounds i) ck, { w with heap := w.heap.setIfInBounds (g.μ b) _ }, ⟨#[], rfl, rfl⟩, ⟨_, rfl, ?_⟩, .inl ?_, rfl, rfl, Nat.le_refl _⟩
     ·have hlt : i < en.size := by rw [← Array.length_toList]; exact (List.getElem?_eq_some_iff.1 h3).1
      have e : (en.eraseIdxIfInBounds i).toList = en.toList.eraseIdx i := by simp [Array.eraseIdxIfInBounds, hlt]
      rw [e]; exact ME.del i e2
     ·simp [Builtin.delete_, run_underlying hy.un, getObj, Sem.run, e1, hy.chk, hf, setObj]
    ·rename_i hr; cases hc; rcases hy.find hr e2 with ⟨_, hf⟩ | ⟨_, _, _, h0, _⟩
     ·refine ⟨.tuple #[], .map en ck, { w with heap := w.heap.setIfInBounds (g.μ b) _ }, ⟨#[], rfl, rfl⟩, ⟨_, rfl, e2⟩, .inl ?_, rfl, rfl, Nat.le_refl _⟩; simp [Builtin.delete_, run_underlying hy.un, getObj, Sem.run, e1, hy.chk, hf, setObj]
     ·cases h0
    ·cases hc
  ·cases h
 ·cases h
/-! ### clear, len -/
theorem clrS_ok {t ty el : TypeId} {z : CV} (he : elt P t = some el) (hz : zer P el = some z) {b : Ps} {off n cap : Nat} (hD : g.D b) {r : PR} (h : (match n with
 | 0 => some (PR.v (.t []))
 | n + 1 => some (PR.wr b (wrc (rep z.cells (n + 1)) off))) = some r) : PRok P g (do pure (.value (← Builtin.clear_ #[t] ty #[.slice (some ⟨g.μ b, off, none⟩) n cap]))) r := by
 obtain ⟨i, zv, hi, hz1, hzv⟩ := zer_ok (g := g) hz; cases n with
 | zero => cases h; exact ⟨_, ⟨#[], rfl, rfl⟩, fun w => .inl (by simp [Builtin.clear_, run_underlying (elt_ok he)])⟩
 | succ n =>
  cases h; refine ⟨hD, fun w c x c' ho hc => ?_⟩; cases c with
  | mp _ _ => cases hc
  | c T xs =>
   simp only [wrc] at hc; split at hc
   ·rename_i h1; split at hc
    ·rename_i zs hp; cases hc; have hu := rep_ok (cells_ok hzv) (n + 1); obtain ⟨arr, e1, e2, e3⟩ := or_put ho hp hu; have hst := run_storeCells_at P (g.μ b) off T (List.replicate (n + 1) zv.cells.toList).flatten 0 arr w e1 (by simpa using e2) (allOne_ok h1 hu); simp only [Nat.add_zero] at hst; refine ⟨_, _, w.setRow (g.μ b) (splice arr.toList off (List.replicate (n + 1) zv.cells.toList).flatten).toArray, ⟨#[], rfl, rfl⟩, e3, .inl ?_, setRow_eq e1 _, rfl, Nat.le_refl _⟩; simp [Builtin.clear_, run_underlying (elt_ok he), zeroValue, typeInfo, hi, hz1, zeroCells_list, hst, splice]
    ·cases hc
   ·cases hc
theorem clr_ok {t ty : TypeId} {a : CV} {r : PR} (h : clr P t a = some r) {u : Value} (ha : VR g a u) : PRok P g (do pure (.value (← Builtin.clear_ #[t] ty #[u]))) r := by
 cases a <;> simp only [clr] at h <;> try (cases h; done)
 case k c =>
  cases c <;> simp only at h <;> try (cases h; done)
  all_goals
   cases ha; split at h
   ·rename_i hu; cases h; exact ⟨_, ⟨#[], rfl, rfl⟩, fun w => .inl (by simp [Nl.v, Builtin.clear_, run_underlying hu])⟩
   ·cases h
 case se =>
  obtain ⟨q, cap, rfl⟩ := ha; split at h
  ·rename_i hu; cases h; exact ⟨_, ⟨#[], rfl, rfl⟩, fun w => .inl (by simp [Builtin.clear_, run_underlying hu])⟩
  ·cases h
 case m b =>
  obtain ⟨hD, rfl⟩ := ha; split at h
  ·rename_i hu; cases h; refine ⟨hD, fun w c x c' ho hc => ?_⟩; cases c with
   | c _ _ => cases hc
   | mp es ck =>
    cases hc; obtain ⟨en, e1, e2⟩ := ho; refine ⟨_, .map #[] ck, { w with heap := w.heap.setIfInBounds (g.μ b) (.map #[] ck) }, ⟨#[], rfl, rfl⟩, ⟨_, rfl, rfl⟩, .inl ?_, rfl, rfl, Nat.le_refl _⟩; simp [Builtin.clear_, run_underlying hu, getObj, Sem.run, e1, setObj]
  ·cases h
 case sl b off n cap =>
  obtain ⟨hD, _, rfl⟩ := ha; split at h
  ·rename_i el he; split at h
   ·rename_i z hz; exact clrS_ok he hz hD h
   ·cases h
  ·cases h
 case su b off n e =>
  obtain ⟨hD, cap, rfl, _, _⟩ := ha; split at h
  ·rename_i el he; split at h
   ·rename_i z hz; exact clrS_ok he hz hD h
   ·cases h
  ·cases h
theorem len'_eq : ∀ l : List Nat, lenV.len' l = l.length
 | [] => rfl
 | _ :: r => by show Nat.succ (lenV.len' r) = _; rw [len'_eq r]; rfl
theorem lenV_ok {t ty : TypeId} {a : CV} {r : PR} (h : lenV P t a = some r) {u : Value} (ha : VR g a u) : PRok P g (do pure (.value (← Builtin.len_ #[t] ty #[u]))) r := by
 cases a <;> simp only [lenV] at h <;> try (cases h; done)
 case s l =>
  obtain ⟨hl, rfl⟩ := ha; split at h
  ·rename_i hu; cases h; exact ⟨_, rfl, fun w => .inl (by simp [Builtin.len_, run_underlying hu, bs_size, len'_eq, goInt])⟩
  ·cases h
 case k c =>
  cases c <;> simp only at h <;> try (cases h; done)
  all_goals
   cases ha; split at h
   ·rename_i hu; cases h; exact ⟨_, rfl, fun w => .inl (by simp [Nl.v, Builtin.len_, run_underlying hu, goInt])⟩
   ·cases h
 case se =>
  obtain ⟨q, cap, rfl⟩ := ha; split at h
  ·rename_i hu; cases h; exact ⟨_, rfl, fun w => .inl (by simp [Builtin.len_, run_underlying hu, goInt])⟩
  ·cases h
 case sl b off n cap =>
  obtain ⟨hD, _, rfl⟩ := ha; split at h
  ·rename_i hu; cases h; exact ⟨_, rfl, fun w => .inl (by simp [Builtin.len_, run_underlying hu, goInt])⟩
  ·cases h
 case su b off n e =>
  obtain ⟨hD, cap, rfl, _, _⟩ := ha; split at h
  ·rename_i hu; cases h; exact ⟨_, rfl, fun w => .inl (by simp [Builtin.len_, run_underlying hu, goInt])⟩
  ·cases h
 case m b =>
  obtain ⟨hD, rfl⟩ := ha; split at h
  ·rename_i hu; cases h; refine ⟨hD, fun w c x ho hx => ?_⟩; cases c with
   | c _ _ => cases hx
   | mp es ck =>
    cases hx; obtain ⟨en, e1, e2⟩ := ho; refine ⟨_, rfl, .inl ?_⟩; have := e2.length; rw [Array.length_toList] at this; simp [Builtin.len_, run_underlying hu, getObj, Sem.run, e1, goInt, this]
  ·cases h
end Go.EX

namespace Go.EX
open Go.AX
variable {P : Program} {g : Gs} {ρ : Operand → Option CV} {σ : Operand → Value}
theorem Sm.sub {h h' : Ps → Option CB} {w : World} (hs : Sm g h w) (hsub : ∀ b c, h' b = some c → h b = some c) : Sm g h' w := by
 have hl : ∀ b, h' b ≠ none → h b ≠ none := fun b hb => by
  cases e : h' b with
  | none => exact absurd e hb
  | some c => rw [hsub b c e]; simp
 exact ⟨fun b c hb => hs.dom b c (hsub b c hb), fun b c hb => hs.obj b c (hsub b c hb), fun b b' hb hb' => hs.inj b b' (hl b hb) (hl b' hb')⟩
theorem To.sub {g' : Gs} {h h1 h' : Ps → Option CB} {w w' : World} (ht : To g h1 w g' h' w') (hsub : ∀ b, h1 b ≠ none → h b ≠ none) : To g h w g' h' w' :=
 ⟨ht.le, ht.size, ht.env, ht.drawn, fun c hc hn => ht.keep c hc fun b hb => hn b (hsub b hb), fun b hb => (ht.new b hb).imp (fun ⟨b0, h0, e⟩ => ⟨b0, hsub b0 h0, e⟩) id⟩
theorem src_ok {h : Tr CB} {e : Nat} {x : CV} {nx : Nat} {ys : List CV} {v : Value} {w : World} (hx : src h e x = some (nx, ys)) (hv : VR g x v) (hs : Sm g h.get w) :
 ∃ q c news, v = .slice q nx c ∧ VL g ys news ∧ news.length = nx * e ∧ (q = none → nx = 0) ∧ ∀ ad, q = some ad → ∀ (j : Nat) u, news[j]? = some u → w.cell? (ad.add j) = some u := by
 unfold src at hx; split at hx
 ·cases hx; cases hv; exact ⟨none, 0, [], rfl, rfl, by simp, fun _ => rfl, fun _ h => by cases h⟩
 ·cases hx; obtain ⟨a, c, rfl⟩ := hv; exact ⟨some a, c, [], rfl, rfl, by simp, fun h => (by cases h), fun _ _ j u h => by simp at h⟩
 ·obtain ⟨hD, _, rfl⟩ := hv; split at hx
  ·rename_i T xs hb; split at hx
   ·rename_i ys' hy; cases hx; obtain ⟨news, h1, h2, h3⟩ := tak_ok (hs.obj _ _ hb) hy; exact ⟨_, _, news, rfl, h1, h2, fun h => (by cases h), fun ad h => by cases h; exact h3⟩
   ·cases hx
  ·cases hx
 ·obtain ⟨hD, cap, rfl, _, _⟩ := hv; split at hx
  ·rename_i T xs hb; split at hx
   ·rename_i ys' hy; cases hx; obtain ⟨news, h1, h2, h3⟩ := tak_ok (hs.obj _ _ hb) hy; exact ⟨_, _, news, rfl, h1, h2, fun h => (by cases h), fun ad h => by cases h; exact h3⟩
   ·cases hx
  ·cases hx
 ·cases hx
theorem run_append_at (w : World) (t ty e : TypeId) (i : TypeInfo) (ht : P.underlying t = some (.slice e)) (hi : P.info? e = some i)
 (c off n cap : Nat) (T : TypeId) (arr : Array Value) (hc : w.heap[c]? = some (.cells arr T (0, 0))) (a : Addr) (m k : Nat) (news : List Value) (hl : news.length = m * i.size) (hnews : ∀ (j : Nat) u, news[j]? = some u → w.cell? (a.add j) = some u) (h1 : ∀ u ∈ news, u.oneCell' = true)
 (hroom : n + m ≤ cap) (hfit : off + n * i.size + news.length ≤ arr.size) :
 (Builtin.append_ #[t, t] ty #[.slice (some ⟨c, off, none⟩) n cap, .slice (some a) m k]).run P w = .ok (.slice (some ⟨c, off, none⟩) (n + m) cap) (w.setRow c (splice arr.toList (off + n * i.size) news).toArray) := by
 have hf := run_firstCells_some (P := P) w i.size m a m k news hl hnews; have hst := run_storeCells_at P c (off + n * i.size) T news 0 arr w hc (by simpa using hfit) h1; simp only [Nat.add_zero] at hst; simp [Builtin.append_, run_underlying ht, sizeOf, typeInfo, hi, Builtin.lenOf, hroom, hf, Addr.add_lit, hst, splice]
theorem grown_ok {h : Tr CB} {n : Ps} {w : World} {el : TypeId} {e : Nat} {zc : Array Value} (hs : Sm g h.get w) (hl : Bl n g) {cs : List CV} {vs : List Value} {k cap : Nat} (hv : VL g cs vs) (hn : vs.length = k * e) (hz : zc.size = e) (hk : k ≤ cap) :
 ∃ g', Sm g' (h.set (some (.c el cs)) n).get (w.drew.alloc (.cells (vs.toArray ++ Builtin.zeroCells zc (cap - k)) el)) ∧ To g h.get w g' (h.set (some (.c el cs)) n).get (w.drew.alloc (.cells (vs.toArray ++ Builtin.zeroCells zc (cap - k)) el)) ∧ Bl n.succ g' ∧
  VR g' (.su n 0 k e) (.slice (some ⟨w.heap.size, 0, none⟩) k cap) := by
 have hsz : (vs.toArray ++ Builtin.zeroCells zc (cap - k)).size = cap * e := by
  rw [Array.size_append, size_zeroCells, hz, List.size_toArray, hn, ← Nat.add_mul]; congr 1; omega
 obtain ⟨a1, a2⟩ := hs.al (w' := w.drew.alloc (.cells (vs.toArray ++ Builtin.zeroCells zc (cap - k)) el)) (c := .c el cs) (ob := .cells (vs.toArray ++ Builtin.zeroCells zc (cap - k)) el) (k := cap * e) hl
  ⟨_, vs, rfl, by rw [hsz]; simp [Gs.add], hv.mono (Gs.le_add hl.new _ _), ⟨(Builtin.zeroCells zc (cap - k)).toList, by simp⟩⟩ rfl rfl (Nat.le_succ _)
 exact ⟨_, a1, a2, hl.add _ _, .inl rfl, cap, by simp [Gs.add], hk, by simp [Gs.add]⟩
theorem app_ok {t ty : TypeId} {s x : CV} {sv xv : Value} (hs : VR g s sv) (hx : VR g x xv) : PRok P g (do pure (.value (← Builtin.append_ #[t, t] ty #[sv, xv]))) (.gw (app P t s x)) := by
  intro h n w r h' n' hl hS hr
  have vr : ∀ {g' : Gs} {h' : Tr CB} {w' : World} {n' : Ps} {y : CV} {v : Value}, (Builtin.append_ #[t, t] ty #[sv, xv]).run P w = .ok v w' → To g h.get w g' h'.get w' → Sm g' h'.get w' → Bl n' g' → VR g' y v →
      ∃ g' w' v, Rv P (do pure (.value (← Builtin.append_ #[t, t] ty #[sv, xv]))) w w' v ∧ To g h.get w g' h'.get w' ∧ Sm g' h'.get w' ∧ Bl n' g' ∧ VR g' y v :=
    fun h1 h2 h3 h4 h5 => ⟨_, _, _, .inl (by simp [h1]), h2, h3, h4, h5⟩
  unfold app at hr
  split at hr
  case h_2 => cases hr
  rename_i e by_ el hsl hel
  obtain ⟨i, z, hu, hi, hz, hsz, hbz, hzs⟩ := sl_ok hsl hel
  split at hr
  case h_2 => cases hr
  rename_i nx ys hsrc
  split at hr
  case isFalse => cases hr
  rename_i hc
  obtain ⟨he, hb, hnb, hone⟩ := hc
  obtain ⟨q, cx, news, rfl, hy, hnl, hq0, hq⟩ := src_ok hsrc hx hS
  have hnb' : nx * 1 ≤ nx * by_ := Nat.mul_le_mul_left nx hb
  have h1 := allOne_ok hone hy
  have adr : nx ≠ 0 → ∃ ad, q = some ad := fun h0 => by
    cases q with
    | none => exact absurd (hq0 rfl) h0
    | some ad => exact ⟨ad, rfl⟩
  -- nothing is put on
  have zero : nx = 0 → ∀ {b : Option Addr} {k cap : Nat}, sv = .slice b k cap → k ≤ cap → (Builtin.append_ #[t, t] ty #[sv, .slice q nx cx]).run P w = .ok sv w := fun h0 _ _ _ hb hk => by
    subst hb; subst h0; exact run_append_zero w t ty el i hu hi _ _ _ hk q cx
  split at hr
  · cases hs
    split at hr
    · rename_i h0
      cases hr
      exact vr (zero h0 rfl (Nat.le_refl _)) .refl hS hl rfl
    · rename_i h0
      cases hr
      obtain ⟨ad, rfl⟩ := adr h0
      have hr := run_append_nil (P := P) w t ty el i z hu hi hz ad nx cx news (by rw [hsz]; exact hnl) (hq ad rfl) (by omega) (by omega) (by rw [hbz]; omega)
      obtain ⟨g', a1, a2, a3, a4⟩ := grown_ok (el := el) (zc := z.cells) (cap := grownCap w nx 0 el) hS hl hy hnl hzs (grownCap_ge w nx 0 el)
      exact vr hr a2 a1 a3 a4
  · rename_i b off k cap
    obtain ⟨hD, hk, rfl⟩ := hs
    split at hr
    case h_2 => cases hr
    rename_i T xs hb'
    split at hr
    · rename_i h0
      cases hr
      exact vr (zero h0 rfl hk) .refl hS hl ⟨hD, hk, rfl⟩
    · rename_i h0
      obtain ⟨ad, rfl⟩ := adr h0
      split at hr
      · rename_i hroom
        split at hr
        · rename_i zs hz'
          cases hr
          obtain ⟨arr, e1, e2, e3⟩ := or_put (hS.obj b _ hb') hz' hy
          obtain ⟨a1, a2⟩ := hS.wr hb' e3 (setRow_eq e1 _) (w' := w.setRow (g.μ b) (splice arr.toList (off + k * e) news).toArray) rfl (Nat.le_refl _)
          have hr := run_append_at (P := P) w t ty el i hu hi (g.μ b) off k cap T arr e1 ad nx cx news (by rw [hsz]; exact hnl) (hq ad rfl) h1 hroom (by rw [hsz]; exact e2)
          rw [hsz] at hr
          exact vr hr a2 a1 hl ⟨hD, hroom, rfl⟩
        · cases hr
      · rename_i hroom
        split at hr
        · rename_i us hus
          split at hr
          · rename_i hbb
            cases hr
            obtain ⟨olds, b1, b2, b3⟩ := tak_ok (hS.obj b _ hb') hus
            have hkb : (k + nx) * 1 ≤ (k + nx) * by_ := Nat.mul_le_mul_left _ hb
            have hr := run_append_grow (P := P) w t ty el i z hu hi hz ⟨g.μ b, off, none⟩ k cap olds (by rw [hsz]; exact b2) b3 ad nx cx news (by rw [hsz]; exact hnl) (hq ad rfl) (by omega) (by omega) (growslice_fits (by omega) (by rw [hbz]; omega))
            obtain ⟨g', a1, a2, a3, a4⟩ := grown_ok (el := el) (zc := z.cells) (k := k + nx) (cap := grownCap w (k + nx) cap el) hS hl (b1.app hy) (by rw [List.length_append, b2, hnl, Nat.add_mul]) hzs (grownCap_ge w (k + nx) cap el)
            rw [show olds.toArray ++ news.toArray = (olds ++ news).toArray by simp] at hr
            exact vr hr a2 a1 a3 a4
          · cases hr
        · cases hr
  · rename_i b off k e'
    obtain ⟨hD, cap, rfl, hk, hK⟩ := hs
    split at hr
    case h_2 => cases hr
    rename_i T xs hb'
    split at hr
    · rename_i h0
      cases hr
      exact vr (zero h0 rfl hk) .refl hS hl ⟨hD, cap, rfl, hk, hK⟩
    · rename_i h0
      obtain ⟨ad, rfl⟩ := adr h0
      have ho := hS.obj b _ hb'
      split at hr
      · rename_i hroom
        obtain ⟨rfl, hroom⟩ := hroom
        split at hr
        · rename_i zs hz'
          cases hr
          obtain ⟨arr, e1, e2, e3⟩ := or_put ho hz' hy
          have hcap : k + nx ≤ cap := by
            obtain ⟨arr', vs, f1, f2, f3, f4⟩ := ho
            have l1 := f3.length
            have l2 : vs.length ≤ arr'.size := by simpa using f4.length_le
            have : (k + nx) * e' ≤ cap * e' := by omega
            exact Nat.le_of_mul_le_mul_right this he
          obtain ⟨a1, a2⟩ := hS.wr hb' e3 (setRow_eq e1 _) (w' := w.setRow (g.μ b) (splice arr.toList (off + k * e') news).toArray) rfl (Nat.le_refl _)
          have hr := run_append_at (P := P) w t ty el i hu hi (g.μ b) off k cap T arr e1 ad nx cx news (by rw [hsz]; exact hnl) (hq ad rfl) h1 hcap (by rw [hsz]; exact e2)
          rw [hsz] at hr
          exact vr hr a2 a1 hl ⟨hD, cap, rfl, hcap, hK⟩
        · cases hr
      · split at hr
        · rename_i us hus
          split at hr
          · rename_i hbb
            obtain ⟨rfl, rfl, rfl, hbb⟩ := hbb
            cases hr
            have hus' : tak (drp xs 0) (k * e') = some us := by cases xs <;> exact hus
            obtain ⟨olds, b1, b2, b3⟩ := tak_ok ho hus'
            have hkb : (k + nx) * 1 ≤ (k + nx) * by_ := Nat.mul_le_mul_left _ hb
            have hsub : ∀ p c, (h.set none b).get p = some c → h.get p = some c := fun p c hp => by
              rw [set_get] at hp; split at hp
              · cases hp
              · exact hp
            by_cases hroom : k + nx ≤ cap
            · obtain ⟨arr, vs, f1, f2, f3, f4⟩ := ho
              have hsz2 : 0 + k * e' + news.length ≤ arr.size := by
                have : (k + nx) * e' ≤ cap * e' := Nat.mul_le_mul_right _ hroom
                rw [Nat.add_mul] at this; omega
              have hr := run_append_at (P := P) w t ty T i hu hi (g.μ b) 0 k cap T arr f1 ad nx cx news (by rw [hsz]; exact hnl) (hq ad rfl) h1 hroom (by rw [hsz]; exact hsz2)
              rw [hsz] at hr
              have hle := Gs.le_add hl.new (g.μ b) (g.K b)
              obtain ⟨rfl, hkl⟩ := tak_eq hus
              have hpre : (olds ++ news) <+: splice arr.toList (0 + k * e') news := by
                have ho2 : olds = arr.toList.take (k * e') := by
                  apply List.ext_getElem?
                  intro j
                  by_cases hj : j < olds.length
                  · have := b3 j olds[j] (List.getElem?_eq_getElem hj)
                    rw [Addr.add_lit, cell_of f1, Nat.zero_add] at this
                    rw [List.getElem?_eq_getElem hj, List.getElem?_take, if_pos (by omega), Array.getElem?_toList, this]
                  · rw [List.getElem?_eq_none (by omega), List.getElem?_eq_none (by simp; omega)]
                rw [Nat.zero_add, ho2]
                exact ⟨_, rfl⟩
              obtain ⟨a1, a2⟩ := hS.mv hl hb' (c' := .c T (xs.take (k * e') ++ ys)) (ob := .cells (splice arr.toList (0 + k * e') news).toArray T) ⟨_, olds ++ news, rfl, by
                rw [List.size_toArray, splice_length (by simpa using hsz2)]; simpa [Gs.add] using f2, (b1.app hy).mono hle, by simpa using hpre⟩ (setRow_eq f1 _) (w' := w.setRow (g.μ b) (splice arr.toList (0 + k * e') news).toArray) rfl (Nat.le_refl _)
              exact vr hr a2 a1 (hl.add _ _) ⟨.inl rfl, cap, by simp [Gs.add], hroom, by simpa [Gs.add] using hK⟩
            · have hr := run_append_grow (P := P) w t ty T i z hu hi hz ⟨g.μ b, 0, none⟩ k cap olds (by rw [hsz]; exact b2) b3 ad nx cx news (by rw [hsz]; exact hnl) (hq ad rfl) (by omega) (by omega) (growslice_fits (by omega) (by rw [hbz]; omega))
              obtain ⟨g', a1, a2, a3, a4⟩ := grown_ok (el := T) (zc := z.cells) (k := k + nx) (cap := grownCap w (k + nx) cap T) (hS.sub hsub) hl (b1.app hy) (by rw [List.length_append, b2, hnl, Nat.add_mul]) hzs (grownCap_ge w (k + nx) cap T)
              rw [show olds.toArray ++ news.toArray = (olds ++ news).toArray by simp] at hr
              exact vr hr (a2.sub fun p hp => by
                cases e : (h.set none b).get p with
                | none => exact absurd e hp
                | some c => rw [hsub p c e]; simp) a1 a3 a4
          · cases hr
        · cases hr
  · cases hr
theorem cpy_ok {t t2 ty : TypeId} {s x : CV} {sv xv : Value} (hs : VR g s sv) (hx : VR g x xv) : PRok P g (do pure (.value (← Builtin.copy_ #[t, t2] ty #[sv, xv]))) (.gw (cpy P t s x)) := by
 intro h n w r h' n' hl hS hr; have vr : ∀ {h' : Tr CB} {w' : World} {y : CV} {v : Value}, (Builtin.copy_ #[t, t2] ty #[sv, xv]).run P w = .ok v w' → To g h.get w g h'.get w' → Sm g h'.get w' → VR g y v →
  ∃ g' w' v, Rv P (do pure (.value (← Builtin.copy_ #[t, t2] ty #[sv, xv]))) w w' v ∧ To g h.get w g' h'.get w' ∧ Sm g' h'.get w' ∧ Bl n g' ∧ VR g' y v :=
  fun h1 h2 h3 h5 => ⟨_, _, _, .inl (by simp [h1]), h2, h3, hl, h5⟩
 unfold cpy at hr; split at hr
 case h_2 => cases hr
 rename_i e hse; obtain ⟨el, i, hu, hi, hsz⟩ := slSize_ok hse; split at hr
 case h_2 => cases hr
 rename_i nx ys hsrc; obtain ⟨q, cx, news, rfl, hy, hnl, hq0, hq⟩ := src_ok hsrc hx hS; have core : ∀ {b : Ps} {off k kc : Nat} {T : TypeId} {xs zs : List CV}, h.get b = some (.c T xs) → put xs off (ys.take (min nx k * e)) = some zs → allOne ys = true → sv = .slice (some ⟨g.μ b, off, none⟩) k kc →
  ∃ w' : World, (Builtin.copy_ #[t, t2] ty #[sv, .slice q nx cx]).run P w = .ok (goInt (min nx k : Nat)) w' ∧ To g h.get w g (h.set (some (.c T zs)) b).get w' ∧ Sm g (h.set (some (.c T zs)) b).get w' := by
  intro b off k kc T xs zs hb hp hone hsv; subst hsv; have hy2 := hy.take (min nx k * e); obtain ⟨arr, e1, e2, e3⟩ := or_put (hS.obj b _ hb) hp hy2; have hle : min nx k * e ≤ news.length := by rw [hnl]; exact Nat.mul_le_mul_right _ (Nat.min_le_left _ _)
  have h1 := allOne_ok hone hy; obtain ⟨a1, a2⟩ := hS.wr hb e3 (setRow_eq e1 _) (w' := w.setRow (g.μ b) (splice arr.toList off (news.take (min nx k * e))).toArray) rfl (Nat.le_refl _); cases q with
  | some ad =>
   refine ⟨_, run_copy1 w t t2 ty el i hu hi (g.μ b) off T arr e1 ad k kc nx cx (news.take (min nx k * e)) (by rw [hsz]; simp; omega) (fun j u hj => hq ad rfl j u ?_) (fun u hu => h1 u (List.mem_of_mem_take hu)) e2, a2, a1⟩; rw [List.getElem?_take] at hj; split at hj
   ·exact hj
   ·cases hj
  | none =>
   have h0 := hq0 rfl; subst h0; have hn : news.take (min 0 k * e) = [] := by simp
   rw [hn] at a1 a2; have hw : (w.setRow (g.μ b) (splice arr.toList off []).toArray) = w := by rw [splice_nil, Array.toArray_toList]; exact setRow_self w _ arr T _ e1
   rw [hw] at a1 a2; exact ⟨w, by rw [run_copy0 w t t2 ty el i hu hi _ none k 0 kc cx (by simp)]; simp, a2, a1⟩
 split at hr
 ·cases hr; cases hs; exact vr (run_copy0 w t t2 ty el i hu hi none q 0 nx 0 cx (by simp)) .refl hS rfl
 ·cases hr; obtain ⟨a, cap, rfl⟩ := hs; exact vr (run_copy0 w t t2 ty el i hu hi (some a) q 0 nx cap cx (by simp)) .refl hS rfl
 ·obtain ⟨hD, hk, rfl⟩ := hs; split at hr
  case h_2 => cases hr
  rename_i T xs hb; split at hr
  ·rename_i zs hz; split at hr
   ·rename_i hone; cases hr; obtain ⟨w', r1, r2, r3⟩ := core hb hz hone rfl; exact vr r1 r2 r3 rfl
   ·cases hr
  ·cases hr
 ·obtain ⟨hD, cap, rfl, _, _⟩ := hs; split at hr
  case h_2 => cases hr
  rename_i T xs hb; split at hr
  ·rename_i zs hz; split at hr
   ·rename_i hone; cases hr; obtain ⟨w', r1, r2, r3⟩ := core hb hz hone rfl; exact vr r1 r2 r3 rfl
   ·cases hr
  ·cases hr
 ·cases hr
/-! ### All operations -/
theorem PR.o_ok {s : Sem Next} {x : Option CV} {r : PR} (h : PR.o x = some r) (hk : ∀ c, x = some c → ∃ v, VR g c v ∧ ∀ w, s.run P w = .ok (.value v) w) : PRok P g s r := by
 cases x with
 | none => cases h
 | some c => cases h; obtain ⟨v, h1, h2⟩ := hk c rfl; exact ⟨v, h1, fun w => .inl (h2 w)⟩
theorem VL.nil {vs : List Value} (h : VL g [] vs) : vs = [] := h
theorem ixb_eq {c : Nat} (hc : c < 256) : ∀ (l : List Nat) (k : Nat), (∀ x ∈ l, x < 256) → ixb c l k = if Lib.indexByte (l.map UInt8.ofNat) (UInt8.ofNat c) = -1 then -1 else Lib.indexByte (l.map UInt8.ofNat) (UInt8.ofNat c) + k
 | [], k, _ => by simp [ixb, Lib.indexByte]
 | x :: r, k, h => by
  have hx := h x (List.mem_cons_self ..); have ih := ixb_eq hc r (k + 1) fun y hy => h y (List.mem_cons_of_mem _ hy); have hbeq : (UInt8.ofNat x == UInt8.ofNat c) = Nat.beq x c := by
   rw [Bool.eq_iff_iff, beq_iff_eq, Nat.beq_eq]; constructor
   ·intro e; have := congrArg UInt8.toNat e; simpa [UInt8.toNat_ofNat', Nat.mod_eq_of_lt hx, Nat.mod_eq_of_lt hc] using this
   ·intro e; rw [e]
  simp only [ixb, List.map_cons, Lib.indexByte, hbeq]; cases hq : Nat.beq x c with
  | true => simp
  | false =>
   simp only [Bool.false_eq_true, if_false]; rw [show ixb c r (Nat.succ k) = ixb c r (k + 1) from rfl, ih]; have hge := Lib.indexByte_ge (r.map UInt8.ofNat) (UInt8.ofNat c); by_cases e : Lib.indexByte (r.map UInt8.ofNat) (UInt8.ofNat c) = -1
   ·simp [e]
   ·rw [if_neg e]; have e' : (Lib.indexByte (r.map UInt8.ofNat) (UInt8.ofNat c) == -1) = false := by simpa using e
    rw [e']; simp only [Bool.false_eq_true, if_false]; rw [if_neg (by omega)]; omega
theorem xtn_ok {id : FuncId} {args : List CV} {x : CV} (h : xtn P id args = some x) {vs : List Value} (hv : VL g args vs) : ∃ v, VR g x v ∧ ∀ w, (callFunc id vs.toArray).run P w = .ok (.value v) w := by
 unfold xtn at h; split at h
 ·rename_i fn hf; split at h
  ·rename_i l c hn; split at h
   ·rename_i hc; cases h; simp only [Bool.and_eq_true, beq_iff_eq] at hn; obtain ⟨⟨hb, ho⟩, hnm⟩ := hn; have hc : c < 256 := Nat.lt_of_succ_le (Nat.le_of_ble_eq_true hc); obtain ⟨v1, r1, rfl, ⟨hl, rfl⟩, v2, r2, rfl, h2, h3⟩ := hv; have h2 : v2 = .int .u8 (.ofNat c) := h2; have h3 : r2 = [] := h3; subst h2 h3; refine ⟨_, rfl, fun w => ?_⟩; have hfn : Extern.findNext fn = none := by
     have e : Extern.allNextRows.lookup "internal/bytealg.IndexByteString" = none := by kernel_rfl
     have e' : Extern.allNextRows.lookup "" = none := by kernel_rfl
     simp [Extern.findNext, hnm, ho, e, e']
    have hfd : Extern.find fn = some Extern.BytealgIndexByte.indexByte := by
     have e : Extern.allGenericRows.lookup "internal/bytealg.IndexByteString" = none := by kernel_rfl
     have e' : Extern.allTypedRows.lookup "internal/bytealg.IndexByteString" = none := by kernel_rfl
     have e'' : Extern.allRows.lookup "internal/bytealg.IndexByteString" = some Extern.BytealgIndexByte.indexByte := by kernel_rfl
     simp [Extern.find, hnm, e, e', e'']
    rw [run_callFunc_extern hf (by rw [hnm]; rfl) hb hfn hfd]; have := Lib.run_indexByteString (P := P) (bs l) (.ofNat c) w; rw [show #[Value.string (bs l), .int .u8 (.ofNat c)] = [Value.string (bs l), .int .u8 (.ofNat c)].toArray from rfl] at this; rw [this]; have e3 : (bs l).data.toList = l.map UInt8.ofNat := by simp [bs]
    have e4 : (Int.ofNat c).toNat.toUInt8 = UInt8.ofNat c := rfl; rw [e3, e4, ixb_eq hc l 0 hl]; simp only [Result.andThen_ok]; split
    ·rename_i e; rw [e]
    ·simp
   ·cases h
  ·cases h
 ·cases h
theorem callable_ok {f : FuncId} (h : callable P f = true) (args : Array Value) (w : World) : (callFunc f args).run P w = .ok (.enter f args) w := by
 unfold callable at h; split at h
 ·rename_i fn hf; simp only [Bool.and_eq_true, Bool.not_eq_true'] at h; simp only [callFunc, Sem.run_bind, run_program, Result.andThen_ok, hf, h.1, h.2, Bool.false_eq_true, if_false, Sem.run_pure]
 ·cases h
theorem blt_ok {b : Builtin} {ts : Array TypeId} {cs : List CV} {r : PR} (h : blt P b ts.toList cs = some r) {vs : Array Value} (hv : VL g cs vs.toList) (ty : TypeId) (cst : Array Bool) : PRok P g (builtin b ts ty cst vs) r := by
 have h1 : ∀ {x : CV}, cs = [x] → ∃ v, vs = #[v] ∧ VR g x v := fun e => by
  subst e; obtain ⟨v, l, e1, h1, h2⟩ := hv; exact ⟨v, Array.ext' (by rw [e1, VL.nil h2]), h1⟩
 have h2 : ∀ {x y : CV}, cs = [x, y] → ∃ u v, vs = #[u, v] ∧ VR g x u ∧ VR g y v := fun e => by
  subst e; obtain ⟨u, l, e1, h1, v, l2, e2, h2, h3⟩ := hv; exact ⟨u, v, Array.ext' (by rw [e1, e2, VL.nil h3]), h1, h2⟩
 have ta : ∀ {l : List TypeId}, ts.toList = l → ts = l.toArray := fun e => Array.ext' e; unfold blt at h; split at h
 ·rename_i t x e1; have := ta e1; subst this; obtain ⟨v, rfl, hx⟩ := h1 rfl; exact lenV_ok h hx
 ·rename_i t b o n c e1; have := ta e1; subst this; obtain ⟨v, rfl, _, _, rfl⟩ := h1 rfl; split at h
  ·rename_i hu; cases h; exact ⟨_, rfl, fun w => .inl (by simp [builtin, Builtin.cap_, run_underlying hu, goInt])⟩
  ·cases h
 ·rename_i t e1; have := ta e1; subst this; obtain ⟨v, rfl, hx⟩ := h1 rfl; cases hx; split at h
  ·rename_i hu; cases h; exact ⟨_, rfl, fun w => .inl (by simp [Nl.v, builtin, Builtin.cap_, run_underlying hu, goInt])⟩
  ·cases h
 ·obtain ⟨u, v, rfl, hx, hy⟩ := h2 rfl; cases hx; cases hy; cases h; exact ⟨_, rfl, fun w => .inl (by simp [builtin, Builtin.min_, Builtin.min2])⟩
 ·obtain ⟨u, v, rfl, hx, hy⟩ := h2 rfl; cases hx; cases hy; cases h; exact ⟨_, rfl, fun w => .inl (by simp [builtin, Builtin.max_, Builtin.max2])⟩
 ·rename_i t u s x e1; have := ta e1; subst this; obtain ⟨sv, xv, rfl, hx, hy⟩ := h2 rfl; split at h
  ·rename_i e; cases h; have := Nat.eq_of_beq_eq_true e; subst this; exact app_ok hx hy
  ·cases h
 ·rename_i t u s x e1; have := ta e1; subst this; obtain ⟨sv, xv, rfl, hx, hy⟩ := h2 rfl; cases h; exact cpy_ok hx hy
 ·rename_i t t2 m k e1; have := ta e1; subst this; obtain ⟨mv, kv, rfl, hm, hk⟩ := h2 rfl; exact mdl_ok h hk hm
 ·rename_i t x e1; have := ta e1; subst this; obtain ⟨v, rfl, hx⟩ := h1 rfl; exact clr_ok h hx
 ·cases h
theorem st_ok {t : TypeId} {ag : Bool} {n : Nat} (hl : ldInfo P t = some (ag, n)) {b : Ps} {off : Nat} (hD : g.D b) {c : CV} (hn : len c.cells = n) {v : Value} (hv : VR g c v) :
 PRok P g (do Instr.storeAt t (.pointer (some ⟨g.μ b, off, none⟩)) v; pure .skip) (.wr b (wrc c.cells off)) := by
 refine ⟨hD, fun w cb x c' ho hc => ?_⟩; cases cb with
 | mp _ _ => cases hc
 | c T xs =>
  simp only [wrc] at hc; split at hc
  ·rename_i h1; split at hc
   ·rename_i zs hp; cases hc; have hu := cells_ok hv; obtain ⟨arr, e1, e2, e3⟩ := or_put ho hp hu; rw [len_eq] at hn; have hul := hu.length; have hsz : v.cells.size = n := by rw [← Array.length_toList]; omega
    have hr := run_storeVar_at w hl v hsz (g.μ b) off T arr e1 (by rw [Array.length_toList, hsz] at e2; exact e2) (allOne_ok h1 hu); exact ⟨undef, _, _, ⟨#[], rfl, rfl⟩, e3, .inr ⟨by simp only [Instr.storeAt, Instr.sureAddr, Sem.run_bind, Sem.run_pure, Result.andThen_ok, hr], rfl⟩, setRow_eq e1 _, rfl, Nat.le_refl _⟩
   ·cases hc
  ·cases hc
theorem pop_ok (hr : Rl g ρ σ) (o : Oper) {r : PR} (h : pop P o.op ρ = some r) : PRok P g (execOp σ o) r := by
 obtain ⟨dst, op, ty, pos, after, guard⟩ := o; have alc : ∀ {T : TypeId} {c : CV} {v : Value} (s : Sem Next), allOne c.cells = true → VR g c v → (∀ w : World, s.run P w = .ok (.value (.pointer (some ⟨w.heap.size, 0, none⟩))) (w.alloc (.cells v.cells T))) → PRok P g s (.al (.c T c.cells) fun p => .p p 0) :=
  fun s h1 hv hrun w => ⟨_, _, _, .inl (hrun w), rfl, rfl, Nat.le_refl _, fun g' b hl hD hm hK => ⟨⟨_, _, rfl, hK.symm, (cells_ok hv).mono hl, List.prefix_refl _⟩, hD, by rw [hm]⟩⟩
 cases op <;> simp only [pop] at h <;> try (cases h; done)
 case move x => exact PR.o_ok h fun c hc => ⟨_, hr x c hc, fun w => by simp [execOp]⟩
 case assign x => exact PR.o_ok h fun c hc => ⟨_, hr x c hc, fun w => by simp [execOp]⟩
 case pick c a b =>
  split at h
  ·rename_i hc; have := hr c _ hc; exact PR.o_ok h fun x hx => ⟨_, hr a x hx, fun w => by simp only [execOp, show σ c = .bool true from this, asBool, Sem.run_bind, Sem.run_pure, Result.andThen_ok, if_true]⟩
  ·rename_i hc; have := hr c _ hc; exact PR.o_ok h fun x hx => ⟨_, hr b x hx, fun w => by simp only [execOp, show σ c = .bool false from this, asBool, Sem.run_bind, Sem.run_pure, Result.andThen_ok, Bool.false_eq_true, if_false]⟩
  ·cases h
 case alloc T =>
  split at h
  ·rename_i z hz; split at h
   ·rename_i h1; cases h; obtain ⟨i, v, hi, hz1, hzv⟩ := zer_ok (g := g) hz; exact alc _ h1 hzv fun w => by simp [execOp, Instr.alloc, zeroValue, typeInfo, hi, hz1, newVar, newRow]
   ·cases h
  ·cases h
 case box T x =>
  split at h
  ·rename_i c hc; split at h
   ·rename_i h1; cases h; exact alc _ h1 (hr x c hc) fun w => by simp [execOp, Instr.box, newVar, newRow]
   ·cases h
  ·cases h
 case build t ps =>
  split at h
  ·rename_i pl z cs hb hz hp; split at h
   ·rename_i xs hf; cases h; obtain ⟨v, h1, h2⟩ := build_ok hr hb hz hp hf; exact ⟨v, h1, fun w => .inl (by simp only [execOp, Sem.run_bind, h2 w, Result.andThen_ok, Sem.run_pure])⟩
   ·cases h
  ·cases h
 case buildSlice t n ps =>
  split at h
  ·rename_i e b el cs hs he hp; split at h
   ·rename_i z hz; split at h
    ·rename_i hc; split at h
     ·rename_i xs hf; cases h; obtain ⟨out, h1, h2⟩ := buildSlice_ok hr hs he hz hp hc.1 hc.2 hf; exact fun w => ⟨.cells out el, .slice (some ⟨w.heap.size, 0, none⟩) n n, w.alloc (.cells out el), .inl (by simp only [execOp, Sem.run_bind, h2 w, Result.andThen_ok, Sem.run_pure]), rfl, rfl, Nat.le_refl _, fun g' b hl hD hm hK => ⟨⟨_, _, rfl, hK.symm, h1.mono hl, List.prefix_refl _⟩, hD, Nat.le_refl _, by rw [hm]⟩⟩
     ·cases h
    ·cases h
   ·cases h
  ·cases h
 case load t x =>
  split at h
  ·rename_i b off ag n hx hl; cases h; obtain ⟨hD, hv⟩ := hr x _ hx; refine ⟨hD, fun w c y ho hy => ?_⟩; obtain ⟨v, h1, h2⟩ := rdc_ok ho hy hl; exact ⟨v, h1, .inl (by simp only [execOp, hv, Instr.loadAt, Instr.sureAddr, Sem.run_bind, Sem.run_pure, Result.andThen_ok, h2])⟩
  ·cases h
 case store t x y =>
  split at h
  ·rename_i b off c ag n hx hy hl; split at h
   ·rename_i hn; cases h; obtain ⟨hD, hv⟩ := hr x _ hx; have := st_ok (P := P) (off := off) hl hD (Nat.eq_of_beq_eq_true hn) (hr y c hy); rw [← hv] at this; exact this
   ·cases h
  ·cases h
 case nilCheck x =>
  split at h
  ·rename_i b off hx; cases h; obtain ⟨hD, hv⟩ := hr x _ hx; exact ⟨_, ⟨hD, rfl⟩, fun w => .inl (by simp [execOp, hv])⟩
  ·rename_i f a c hx; cases h; obtain ⟨p, q, hv, h1, h2⟩ := hr x _ hx; exact ⟨_, ⟨p, q, rfl, h1, h2⟩, fun w => .inl (by simp [execOp, hv])⟩
  ·cases h
 case binOp op t x y u =>
  split at h
  ·rename_i a b ha hb; exact PR.o_ok h fun c hc => by
    obtain ⟨v, h1, h2⟩ := bin_ok hc (hr x a ha) (hr y b hb) x y; exact ⟨v, h1, fun w => by simp only [execOp, Sem.run_bind, (h2 w).1, (h2 w).2, Result.andThen_ok, Sem.run_pure]⟩
  ·cases h
 case unOp op t x =>
  split at h
  ·rename_i a ha; exact PR.o_ok h fun c hc => by
    obtain ⟨v, h1, h2⟩ := una_ok (P := P) hc (hr x a ha); exact ⟨v, h1, fun w => by simp only [execOp, Sem.run_bind, h2 w, Result.andThen_ok, Sem.run_pure]⟩
  ·cases h
 case convert s d x =>
  split at h
  ·rename_i a ha; exact cvt_ok h (hr x a ha)
  ·cases h
 case makeFunc fn a c =>
  split at h
  ·rename_i xs ys hx hy; cases h; exact ⟨.func fn (a.map σ) (c.map σ), ⟨_, _, rfl, by simpa using opL_ok hr hx, by simpa using opL_ok hr hy⟩, fun w => .inl (by simp [execOp, Instr.makeFunc])⟩
  ·cases h
 case makeMap t x =>
  have key : ∀ s : Sem Next, (∀ w : World, s.run P w = .ok (.value (.map (some w.heap.size))) (w.alloc (.map #[] 0))) → PRok P g s (.al (.mp [] 0) .m) :=
   fun s hrun w => ⟨_, _, _, .inl (hrun w), rfl, rfl, Nat.le_refl _, fun g' b hl hD hm hK => ⟨⟨_, rfl, rfl⟩, hD, by rw [hm]⟩⟩
  cases x with
  | none => cases h; exact key _ fun w => by simp [execOp, Instr.makeMap]
  | some x =>
   simp only at h; split at h
   ·rename_i k n kt et hx hu; cases h; have := hr x _ hx; exact key _ fun w => by simp [execOp, Instr.makeMap, run_underlying hu, show σ x = .int k n from this, asInt, asIntOf]
   ·cases h
 case makeSlice t l c =>
  split at h
  ·rename_i a b ha hb; exact msl_ok h (hr l a ha) (hr c b hb)
  ·cases h
 case slice t x lo hi mx =>
  split at h
  ·rename_i a ha; exact cut_ok hr h (hr x a ha)
  ·cases h
 case fieldAddr t x f =>
  split at h
  ·rename_i b off d hx hf; cases h; obtain ⟨hD, hv⟩ := hr x _ hx; exact ⟨_, ⟨hD, rfl⟩, fun w => .inl (by simp only [execOp, hv, Sem.run_bind, fOff_ok hf, Result.andThen_ok, Sem.run_pure, Addr.add_lit])⟩
  ·cases h
 case field t x f =>
  split at h
  ·rename_i xs off ag n hx hf; obtain ⟨vs, hv, hl⟩ := hr x _ hx; exact PR.o_ok h fun c hc => by
    obtain ⟨v, h1, h2⟩ := field_ok hf hc hl; exact ⟨v, h1, fun w => by simp only [execOp, hv, Sem.run_bind, h2 w, Result.andThen_ok, Sem.run_pure]⟩
  ·cases h
 case indexAddr t x i =>
  split at h
  ·rename_i a b ha hb; exact ixa_ok h (hr x a ha) (hr i b hb)
  ·cases h
 case index t x i =>
  split at h
  ·rename_i a b ha hb; exact PR.o_ok h fun c hc => by
    obtain ⟨v, h1, h2⟩ := ixv_ok hc (hr x a ha) (hr i b hb); exact ⟨v, h1, fun w => by simp only [execOp, Sem.run_bind, h2 w, Result.andThen_ok, Sem.run_pure]⟩
  ·cases h
 case lookup t x k ok =>
  split at h
  ·rename_i m k' hm hk; exact lkp_ok h (hr k k' hk) (hr x m hm)
  ·cases h
 case mapUpdate t m k x =>
  split at h
  ·rename_i m' k' x' hm hk hx; exact mup_ok h (hr k k' hk) (hr x x' hx) (hr m m' hm)
  ·cases h
 case insert t m k x =>
  split at h
  ·rename_i m' k' x' hm hk hx; exact mup_ok h (hr k k' hk) (hr x x' hx) (hr m m' hm)
  ·cases h
 case extract x i =>
  split at h
  ·rename_i xs hx; obtain ⟨vs, hv, hl⟩ := hr x _ hx; exact PR.o_ok h fun c hc => by
    obtain ⟨v, h1, h2⟩ := hl.get i c hc; have : vs[i]? = some v := by rw [← Array.getElem?_toList]; exact h1
    exact ⟨v, h2, fun w => by simp [execOp, hv, Instr.extract, this]⟩
  ·cases h
 case call c =>
  obtain ⟨callee, args, ts⟩ := c; split at h
  ·rename_i b cs hcl hcs; simp only at hcl hcs h; subst hcl; have := opL_ok hr hcs; have hb := blt_ok (vs := args.map σ) h (by simpa using this) ty (args.map fun | .const _ => true | _ => false); exact hb
  ·rename_i f cs hcl hcs; simp only at hcl hcs; subst hcl; split at h
   ·rename_i id first cap hf
    split at h
    ·rename_i hcal; cases h; obtain ⟨a, c, hv, h1, h2⟩ := hr f _ hf; have hl := opL_ok hr hcs; refine ⟨a.toList ++ args.toList.map σ ++ c.toList, (h1.app hl).app h2, fun w => ?_⟩; have e : (a.toList ++ args.toList.map σ ++ c.toList).toArray = a ++ args.map σ ++ c := by apply Array.ext'; simp
     rw [e]; simp only [execOp, resolve, hv, Deferred.ofValue, invoke, Sem.run_bind, Sem.run_pure, Result.andThen_ok, callable_ok hcal]
    ·exact PR.o_ok h fun x hx => by
      obtain ⟨a, c, hv, h1, h2⟩ := hr f _ hf; have hl := opL_ok hr hcs; obtain ⟨v, e1, e2⟩ := xtn_ok hx ((h1.app hl).app h2); refine ⟨v, e1, fun w => ?_⟩; have e : (a.toList ++ args.toList.map σ ++ c.toList).toArray = a ++ args.map σ ++ c := by apply Array.ext'; simp
      rw [e] at e2; simp only [execOp, resolve, hv, Deferred.ofValue, invoke, Sem.run_bind, Sem.run_pure, Result.andThen_ok, e2]
   ·cases h
  ·cases h
end Go.EX
