/-
  AX, part Go: a scope within which one jumps.
-/
import Derived.Test.YtpejmhpcgpnpaaaGreatAxExN
import Derived.Test.YtpejmhpcgpnpaaaGreatAxBe
namespace Go.AX
def AGt (P : Program) (k0 : Nat) (bad : List Nat) : Code → (Exit → St → Prop) → St → Prop
 | .goto l, Q, st => Q (.goto l) st
 | .seq x y, Q, st => AGt P k0 bad x (seqQ (AGt P k0 bad y Q) Q) st
 | .cond c x y, Q, st => gc st c ∧ isB (mv st c) ∧ (asB (mv st c) = true → AGt P k0 bad x Q st) ∧ (asB (mv st c) = false → AGt P k0 bad y Q st)
 | .block id x, Q, st => AGt P k0 bad x (blockQ id Q) st
 | c, Q, st => AC P k0 bad c Q st
structure CSem (P : Program) (k0 : Nat) (bad : List Nat) (c : Code) (Q : Exit → St → Prop) (st : St) : Prop where
  run : ∀ {g : Gh} {a : Act} {w : World} (_ : okC g.N bad c = true ∧ g.n0 ≤ k0) (_ : Sim g st a w) {Q' : Exit → Act → World → Prop} (_ : ∀ e st' g' a' w', Q e st' → g.to g' → Sim g' st' a' w' → Q' e a' w'), c.wp P Q' a w
section
variable {P : Program} {k0 : Nat} {bad : List Nat} {Q : Exit → St → Prop} {st : St}
@[simp] theorem AGt_goto (l : Nat) : AGt P k0 bad (.goto l) Q st = Q (.goto l) st := rfl
@[simp] theorem AGt_seq (x y : Code) : AGt P k0 bad (.seq x y) Q st = AGt P k0 bad x (seqQ (AGt P k0 bad y Q) Q) st := rfl
@[simp] theorem AGt_cond (c : Operand) (x y : Code) : AGt P k0 bad (.cond c x y) Q st = (gc st c ∧ isB (mv st c) ∧ (asB (mv st c) = true → AGt P k0 bad x Q st) ∧ (asB (mv st c) = false → AGt P k0 bad y Q st)) := rfl
@[simp high] theorem AGt_cond_t (c : Operand) (x y : Code) (h : asB (mv st c) = true) : AGt P k0 bad (.cond c x y) Q st = (gc st c ∧ isB (mv st c) ∧ AGt P k0 bad x Q st) := by
 rw [AGt_cond, h]; exact propext ⟨fun ⟨a, b, c, _⟩ => ⟨a, b, c rfl⟩, fun ⟨a, b, c⟩ => ⟨a, b, fun _ => c, fun h => by cases h⟩⟩
@[simp high] theorem AGt_cond_f (c : Operand) (x y : Code) (h : asB (mv st c) = false) : AGt P k0 bad (.cond c x y) Q st = (gc st c ∧ isB (mv st c) ∧ AGt P k0 bad y Q st) := by
 rw [AGt_cond, h]; exact propext ⟨fun ⟨a, b, _, c⟩ => ⟨a, b, c rfl⟩, fun ⟨a, b, c⟩ => ⟨a, b, (fun h => by cases h), fun _ => c⟩⟩
@[simp] theorem AGt_block (id : Nat) (x : Code) : AGt P k0 bad (.block id x) Q st = AGt P k0 bad x (blockQ id Q) st := rfl
@[simp] theorem AGt_label (l : Nat) : AGt P k0 bad (.label l) Q st = Q .normal st := rfl
@[simp] theorem AGt_skip : AGt P k0 bad .skip Q st = Q .normal st := rfl
@[simp] theorem AGt_exit (id : Nat) : AGt P k0 bad (.exit id) Q st = Q (.exit id) st := rfl
@[simp] theorem AGt_ret : AGt P k0 bad .ret Q st = Q .ret st := rfl
@[simp] theorem AGt_region (id : Nat) (ops : Array Oper) (d : Bool) : AGt P k0 bad (.region id ops d) Q st = AC P k0 bad (.region id ops d) Q st := rfl
@[simp] theorem AGt_loop (x : Code) : AGt P k0 bad (.loop x) Q st = AC P k0 bad (.loop x) Q st := rfl
end
theorem AGt_wp {P : Program} {k0 : Nat} {bad : List Nat} (hmo : P.follows .mixedOrders = true) : ∀ {c : Code} {Q : Exit → St → Prop} {st : St} (_ : AGt P k0 bad c Q st) {g : Gh} {a : Act} {w : World} (_ : okC g.N bad c = true ∧ g.n0 ≤ k0) (_ : Sim g st a w) {Q' : Exit → Act → World → Prop} (_ : ∀ e st' g' a' w', Q e st' → g.to g' → Sim g' st' a' w' → Q' e a' w'), c.wp P Q' a w
 | .skip, Q, st, h => fun ho hs Q' hQ => AC_wp hmo .skip h ho hs hQ
 | .label l, Q, st, h => fun ho hs Q' hQ => AC_wp hmo (.label l) h ho hs hQ
 | .exit l, Q, st, h => fun ho hs Q' hQ => AC_wp hmo (.exit l) h ho hs hQ
 | .ret, Q, st, h => fun ho hs Q' hQ => AC_wp hmo .ret h ho hs hQ
 | .region id ops d, Q, st, h => fun ho hs Q' hQ => AC_wp hmo (.region id ops d) h ho hs hQ
 | .loop x, Q, st, h => fun ho hs Q' hQ => AC_wp hmo (.loop x) h ho hs hQ
 | .scope x, Q, st, h => fun ho hs Q' hQ => AC_wp hmo (.scope x) h ho hs hQ
 | .rangeFunc .., _, _, h => (by simp only [AGt, AC] at h)
 | .refuse _, _, _, h => (by simp only [AGt, AC] at h)
 | .goto l, Q, st, h => fun ho hs Q' hQ => wp_goto (hQ _ _ _ _ _ h hs.refl_to hs)
 | .seq x y, Q, st, h => fun ⟨ho, h0⟩ hs Q' hQ => by
  simp only [okC, Bool.and_eq_true] at ho; simp only [AGt_seq] at h; refine wp_seq (AGt_wp hmo h ⟨ho.1, h0⟩ hs fun e st' g' a' w' hq t' s' => ?_); cases e with
  | normal => exact AGt_wp hmo (show AGt P k0 bad y Q st' from hq) ⟨by rw [t'.N]; exact ho.2, by rw [t'.n0]; exact h0⟩ s' fun e2 st2 g2 a2 w2 q2 t2 s2 => hQ e2 st2 g2 a2 w2 q2 (t'.trans t2) s2
  | exit id => exact hQ _ st' g' a' w' hq t' s'
  | goto l => exact hQ _ st' g' a' w' hq t' s'
  | ret => exact hQ _ st' g' a' w' hq t' s'
  | panic ch => exact hQ _ st' g' a' w' hq t' s'
  | outgrown => exact hQ _ st' g' a' w' hq t' s'
 | .cond c x y, Q, st, h => fun ⟨ho, h0⟩ hs Q' hQ => by
  simp only [okC, Bool.and_eq_true] at ho; simp only [AGt_cond] at h; obtain ⟨h1, h2, h3, h4⟩ := h; exact wp_cond_split (bool_ok hs h1 h2) (fun ht => AGt_wp hmo (h3 ht) ⟨ho.1, h0⟩ hs hQ) (fun hf => AGt_wp hmo (h4 hf) ⟨ho.2, h0⟩ hs hQ)
 | .block id x, Q, st, h => fun ⟨ho, h0⟩ hs Q' hQ => by
  simp only [okC] at ho; simp only [AGt_block] at h; refine wp_block (AGt_wp hmo h ⟨ho, h0⟩ hs fun e st' g' a' w' hq t' s' => ?_); cases e with
  | exit i =>
   simp only [blockQ] at hq; simp only [Exit.inBlock]; split
   ·rename_i e1; rw [if_pos e1] at hq; exact hQ _ st' g' a' w' hq t' s'
   ·rename_i e1; rw [if_neg e1] at hq; exact hQ _ st' g' a' w' hq t' s'
  | normal => exact hQ _ st' g' a' w' hq t' s'
  | goto l => exact hQ _ st' g' a' w' hq t' s'
  | ret => exact hQ _ st' g' a' w' hq t' s'
  | panic ch => exact hQ _ st' g' a' w' hq t' s'
  | outgrown => exact hQ _ st' g' a' w' hq t' s'
theorem CSem.of {P : Program} {k0 : Nat} {bad : List Nat} (hmo : P.follows .mixedOrders = true) {c : Code} {Q : Exit → St → Prop} {st : St} (h : AGt P k0 bad c Q st) : CSem P k0 bad c Q st := ⟨fun ho hs Q' hQ => AGt_wp hmo h ho hs hQ⟩
theorem CSem.seq {P : Program} {k0 : Nat} {bad : List Nat} {x y : Code} {Q : Exit → St → Prop} {st : St} (h : CSem P k0 bad x (seqQ (CSem P k0 bad y Q) Q) st) : CSem P k0 bad (.seq x y) Q st := ⟨fun {g a w} ⟨ho, h0⟩ hs Q' hQ => by
 simp only [okC, Bool.and_eq_true] at ho; refine wp_seq (h.run ⟨ho.1, h0⟩ hs fun e st' g' a' w' hq t' s' => ?_); cases e with
 | normal => exact (show CSem P k0 bad y Q st' from hq).run ⟨by rw [t'.N]; exact ho.2, by rw [t'.n0]; exact h0⟩ s' fun e2 st2 g2 a2 w2 q2 t2 s2 => hQ e2 st2 g2 a2 w2 q2 (t'.trans t2) s2
 | exit id => exact hQ _ st' g' a' w' hq t' s'
 | goto l => exact hQ _ st' g' a' w' hq t' s'
 | ret => exact hQ _ st' g' a' w' hq t' s'
 | panic ch => exact hQ _ st' g' a' w' hq t' s'
 | outgrown => exact hQ _ st' g' a' w' hq t' s'⟩
def gotoQ (k0 : Nat) (body : Code) (J : Nat → Nat → St → Prop) (n : Nat) (Q : Exit → St → Prop) (e : Exit) (st : St) : Prop :=
 match e with
 | .goto l => (∃ r, findLabel body l = some r) ∧ ∃ m st2, m < n ∧ Weak k0 st st2 ∧ J l m st2
 | e => Q e st
theorem findLabel_okC {N : Nat} {bad : List Nat} {l : Nat} : ∀ {c r : Code}, okC N bad c = true → findLabel c l = some r → okC N bad r = true
 | .seq a b, r, ho, h => by
  simp only [okC, Bool.and_eq_true] at ho; simp only [findLabel] at h; split at h
  ·rename_i rest hr; cases h; simp only [okC, Bool.and_eq_true]; exact ⟨findLabel_okC ho.1 hr, ho.2⟩
  ·exact findLabel_okC ho.2 h
 | .label l', r, ho, h => by
  simp only [findLabel] at h; split at h
  ·cases h; rfl
  ·cases h
 | .skip, _, _, h => by cases h
 | .exit _, _, _, h => by cases h
 | .ret, _, _, h => by cases h
 | .region .., _, _, h => by cases h
 | .loop _, _, _, h => by cases h
 | .scope _, _, _, h => by cases h
 | .rangeFunc .., _, _, h => by cases h
 | .refuse _, _, _, h => by cases h
 | .goto _, _, _, h => by cases h
 | .cond .., _, _, h => by cases h
 | .block .., _, _, h => by cases h
theorem CSem.weak {P : Program} {k0 : Nat} {bad : List Nat} {c : Code} {Q : Exit → St → Prop} {st st1 : St} (hw : Weak k0 st st1) (h : CSem P k0 bad c Q st1) : CSem P k0 bad c Q st := ⟨fun {g a w} ⟨ho, h0⟩ hs Q' hQ => by
 obtain ⟨g1, t1, s1⟩ := hw g a w h0 hs; exact h.run ⟨by rw [t1.N]; exact ho, by rw [t1.n0]; exact h0⟩ s1 fun e st' g' a' w' hq t' s' => hQ e st' g' a' w' hq (t1.trans t') s'⟩
theorem CSem.lab {P : Program} {k0 : Nat} {bad : List Nat} (hmo : P.follows .mixedOrders = true) {l : Nat} {y : Code} {Q : Exit → St → Prop} {st : St} (h : CSem P k0 bad y Q st) : CSem P k0 bad (.seq (.label l) y) Q st := CSem.seq (CSem.of hmo (show seqQ (CSem P k0 bad y Q) Q .normal st from h))
theorem CSem.skp {P : Program} {k0 : Nat} {bad : List Nat} (hmo : P.follows .mixedOrders = true) {y : Code} {Q : Exit → St → Prop} {st : St} (h : CSem P k0 bad y Q st) : CSem P k0 bad (.seq .skip y) Q st := CSem.seq (CSem.of hmo (show seqQ (CSem P k0 bad y Q) Q .normal st from h))
theorem CSem.scope {P : Program} {k0 : Nat} {bad : List Nat} {x : Code} {Q : Exit → St → Prop} {st : St} (J : Nat → Nat → St → Prop) (n : Nat) (h0 : CSem P k0 bad x (gotoQ k0 x J n Q) st)
 (hr : ∀ l r m st, findLabel x l = some r → J l m st → CSem P k0 bad r (gotoQ k0 x J m Q) st) : CSem P k0 bad (.scope x) Q st := ⟨fun {g a w} ⟨ho, h00⟩ hs Q' hQ => by
 simp only [okC] at ho; refine Go.EX.wp_scope_rel (fun m c a w => okC g.N bad c = true ∧ ∃ st1 g1, CSem P k0 bad c (gotoQ k0 x J m Q) st1 ∧ g.to g1 ∧ Sim g1 st1 a w) (fun m c a w ⟨h1, st1, g1, h2, h3, h4⟩ => ?_) (n := n) ⟨ho, st, g, h0, hs.refl_to, hs⟩; refine h2.run ⟨by rw [h3.N]; exact h1, by rw [h3.n0]; exact h00⟩ h4 fun e st' g2 a' w' hq t' s' => ?_; cases e with
 | goto l =>
  obtain ⟨⟨r, hf⟩, m', st2, k1, k2, k3⟩ := hq; obtain ⟨g3, t3, s3⟩ := k2 g2 a' w' (by rw [t'.n0, h3.n0]; exact h00) s'; simp only [hf]; exact ⟨m', k1, findLabel_okC ho hf, st2, g3, hr l r m' st2 hf k3, (h3.trans t').trans t3, s3⟩
 | normal => exact hQ _ st' g2 a' w' hq (h3.trans t') s'
 | exit id => exact hQ _ st' g2 a' w' hq (h3.trans t') s'
 | ret => exact hQ _ st' g2 a' w' hq (h3.trans t') s'
 | panic ch => exact hQ _ st' g2 a' w' hq (h3.trans t') s'
 | outgrown => exact hQ _ st' g2 a' w' hq (h3.trans t') s'⟩
theorem CSem.name {P : Program} {k0 : Nat} {bad : List Nat} {x : Code} {Q : Exit → St → Prop} {st : St} (h : ∀ y, y = x → CSem P k0 bad (.scope y) Q st) : CSem P k0 bad (.scope x) Q st := h x rfl
theorem apureS_of {P : Program} {bad : List Nat} {f : FuncId} {fn : Func} {c : Code} {args : List PV} {R : SV → Prop} {K : St → Prop} (hf : P.funcs[f]? = some fn) (hcall : callable P f = true) (hb : fn.body = some c) (hok : okC fn.ntmps bad c = true)
 (hn : args.length ≤ fn.ntmps) (h : CSem P 0 bad c (endQ K) ⟨argT 0 args, []⟩)
 (hK : ∀ (w w' : World) (g' : Gh) (st' : St) (a' : Act), K st' → (gEnter w fn.ntmps).to g' → Sim g' st' a' w' → ∃ v r g2 o, (results fn a'.tmps).run P w' = .ok v w' ∧ R r ∧ PureEnd w w' g2 ∧ SFit g2 w' r v o ∧ r.inCell = true ∧ ∀ c, o = some c → w.heap.size ≤ c ∧ g2.I c = none) :
 APure P f args R := by
 refine ⟨hcall, fun w vs hv => ?_⟩; refine calls_of_wp hf hb ?_; have hs := sim_enter (N := fn.ntmps) hv hn; refine h.run (g := gEnter w fn.ntmps) ⟨hok, Nat.le_refl _⟩ hs fun e st' g' a' w' hq t' s' => ?_; have fin : K st' → a'.defers = [] ∧ ∃ v, (results fn a'.tmps).run P w' = .ok v w' ∧ ∃ v' r g' o, Ending.returned v = .returned v' ∧ R r ∧ PureEnd w w' g' ∧ SFit g' w' r v' o ∧ r.inCell = true ∧ ∀ c, o = some c → w.heap.size ≤ c ∧ g'.I c = none := fun hk => by
  obtain ⟨v, r, g2, o, h1, h2, h3, h4, h5, h6⟩ := hK w w' g' st' a' hk t' s'; exact ⟨s'.defs, v, h1, v, r, g2, o, rfl, h2, h3, h4, h5, h6⟩
 cases e with
 | normal => exact fin hq
 | ret => exact fin hq
 | _ => exact hq.elim
theorem apureS {P : Program} (bad : List Nat) {f : FuncId} {fn : Func} {c : Code} {args : List PV} {R : SV → Prop} {t : Nat} (hf : P.funcs[f]? = some fn) (h : CSem P 0 bad c (endQ (ret1 t R)) ⟨argT 0 args, []⟩) (hcall : callable P f = true := by kernel_rfl) (hb : fn.body = some c := by rfl) (hr : fn.results = #[.tmp t] := by rfl) (hok : okC fn.ntmps bad c = true := by kernel_rfl) (hn : args.length ≤ fn.ntmps := by exact Nat.le_of_ble_eq_true rfl) : APure P f args R := by
 refine apureS_of hf hcall hb hok hn h fun w w' g' st' a' hk t' s' => ?_; obtain ⟨bl, hb⟩ := s'.own; have hfit := hb.slots t; have hal := s'.al t; have hend := pureEnd_of t' s'; unfold ret1 at hk; split at hk
 ·rename_i x hx; rw [hx] at hfit; exact ⟨_, .pv x, g', none, results_tmp hr _ _ _, hk, hend, ⟨rfl, hfit.2⟩, rfl, fun c hc => by cases hc⟩
 ·rename_i nw e rows hx; rw [hx] at hfit; exact ⟨_, _, g', _, results_tmp hr _ _ _, hk, hend, hfit, rfl, own_new t' hb⟩
 ·rename_i nw es hx; rw [hx] at hfit; exact ⟨_, _, g', _, results_tmp hr _ _ _, hk, hend, hfit, rfl, own_new t' hb⟩
 ·rename_i p hx; rw [hx] at hal; have hv := hal hk.1; refine ⟨_, posGet st' p, g', bl p, results_tmp hr _ _ _, hk.2, hend, by rw [hv]; exact pos_fit hb hk.1, ?_, own_new t' hb⟩; cases hp : posGet st' p <;> first | rfl | (rw [hp] at hk; cases hk.1)
 ·rename_i cc x hx; rw [hx] at hfit; exact ⟨_, .pv x, g', none, results_tmp hr _ _ _, hk.2, hend, ⟨rfl, (hfit.2.2 hk.1).2⟩, rfl, fun c hc => by cases hc⟩
 ·rename_i p lo hi hx; rw [hx] at hal; split at hk
  ·rename_i nw e rows hp; obtain ⟨rfl, hk⟩ := hk; exact ⟨_, _, g', bl p, results_tmp hr _ _ _, hk, hend, loc_cut hb hp hal, rfl, own_new t' hb⟩
  ·exact hk.elim
 ·exact hk.elim
end Go.AX
