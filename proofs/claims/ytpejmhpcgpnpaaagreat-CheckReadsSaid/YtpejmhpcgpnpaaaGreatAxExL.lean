/-
  EX, part I: operations one behind the other.
  EX, part J: regions that draw their order.
  EX, part K: regions that draw their order, any order.
  EX, part L: regions that draw their order: all of it.
-/
import Derived.Test.YtpejmhpcgpnpaaaGreatAxExC
import Derived.Test.YtpejmhpcgpnpaaaGreatAxExH
namespace Go.EX
open Go.AX
variable {P : Program} {g : Gs} {cal : Cal}
def CalOk (P : Program) (cal : Cal) : Prop := ∀ f args h n x h' n', cal f args h n = some (x, h', n') → ∀ g w (vs : List Value), Bl n g → Sm g h.get w → VL g args vs →
 Calls P f vs.toArray w fun e w' => ∃ v g', e = .returned v ∧ To g h.get w g' h'.get w' ∧ Sm g' h'.get w' ∧ Bl n' g' ∧ VR g' x v
structure SR (g : Gs) (t : Tr CV) (a : Act) : Prop where
  val : ∀ k x, t.get (Ps.of k) = some x → VR g x (a.tmps.getD k undef)
  defs : a.defers = []
theorem SR.mono {g' : Gs} {t : Tr CV} {a : Act} (hl : g.le g') (h : SR g t a) : SR g' t a := ⟨fun k x hx => (h.val k x hx).mono hl, h.defs⟩
theorem getD_put {a : Act} {d : Nat} {v : Value} (hd : d < a.tmps.size) (k : Nat) : (a.put (some d) v).tmps.getD k undef = if k = d then v else a.tmps.getD k undef := by
 simp only [Act.put, Array.getD_eq_getD_getElem?]; by_cases e : k = d
 ·subst e; rw [if_pos rfl, Array.getElem?_setIfInBounds_self_of_lt hd]; rfl
 ·rw [if_neg e, Array.getElem?_setIfInBounds_ne (fun x => e x.symm)]
theorem SR.put {t : Tr CV} {a : Act} (h : SR g t a) {d : Option Tmp} {x : CV} {v : Value} (hd : dstOk a.tmps.size d) (hv : VR g x v) : SR g (pt t d x) (a.put d v) := by
 cases d with
 | none => exact h
 | some d =>
  refine ⟨fun k y hy => ?_, h.defs⟩; rw [getD_put hd]; by_cases e : k = d
  ·subst e; rw [if_pos rfl]; simp only [pt, Tr.get_set, Option.some.injEq] at hy; rw [← hy]; exact hv
  ·rw [if_neg e]; simp only [pt] at hy; rw [Tr.get_ne _ _ (fun h => e (Ps.of_inj h).symm)] at hy; exact h.val k y hy
theorem size_put (a : Act) (d : Option Tmp) (v : Value) : (a.put d v).tmps.size = a.tmps.size := by cases d <;> simp [Act.put]
theorem ev_ok {t : Tr CV} {a : Act} (h : SR g t a) : Rl g (ev t) a.eval := fun x c hc => by
 cases x with
 | tmp k => exact h.val k c hc
 | const v => exact cvOf_ok hc
 | func f => cases hc; exact ⟨#[], #[], rfl, rfl, rfl⟩
 | global n => cases hc
theorem wnt_ok {t : Tr CV} {a : Act} (h : SR g t a) {ops : Array Oper} {o : Oper} {b : Bool} (hw : wnt ops.toList t o.guard = some b) : Region.wanted o (yielded ops a.tmps) = b := by
 unfold Region.wanted; unfold wnt at hw; split at hw
 ·rename_i e; rw [e]; cases hw; rfl
 ·rename_i j w e; rw [e]; simp only; split at hw
  ·rename_i oj hj; split at hw
   ·rename_i d hd; unfold yielded; rw [← Array.getElem?_toList, hj]; simp only [Option.bind_some, hd]; split at hw
    ·rename_i x hx; cases hw; have := h.val d _ hx; have hv : a.tmps.getD d undef = .bool x := this; rw [Array.getD_eq_getD_getElem?] at hv; cases hq : a.tmps[d]? with
     | none => rw [hq] at hv; cases hv
     | some y => rw [hq] at hv; simp only [Option.getD_some] at hv; subst hv; cases x <;> cases w <;> rfl
    ·rename_i hx; cases hw; obtain ⟨vs, hv, hl⟩ := h.val d _ hx; rw [Array.getD_eq_getD_getElem?] at hv; cases hq : a.tmps[d]? with
     | none => rfl
     | some y => rw [hq] at hv; simp only [Option.getD_some] at hv; subst hv; rfl
    ·cases hw
   ·cases hw
  ·cases hw
theorem run_ok (hc : CalOk P cal) {o : Oper} {a : Act} {pr : PR} (hp : PRok P g (execOp a.eval o) pr) {h h' : Tr CB} {n n' : Ps} {x : CV} {w : World} (hr : pr.run cal h n = some (x, h', n')) (hl : Bl n g) (hs : Sm g h.get w)
 {K : Act → World → Prop} {Q : Exit → Act → World → Prop} (hK : ∀ v g' w', To g h.get w g' h'.get w' → Sm g' h'.get w' → Bl n' g' → VR g' x v → K (a.put o.dst v) w') : o.wp P a w K Q := by
 have fin : ∀ {v w'}, Rv P (execOp a.eval o) w w' v → K (a.put o.dst v) w' → o.wp P a w K Q := fun hv hk => by
  unfold Oper.wp; rcases hv with e | ⟨e, rfl⟩ <;> rw [e] <;> exact hk
 cases pr with
 | v y =>
  cases hr; obtain ⟨v, h1, h2⟩ := hp; exact fin (h2 w) (hK v g w .refl hs hl h1)
 | rd b f =>
  simp only [PR.run] at hr; split at hr
  ·rename_i c hb; split at hr
   ·rename_i y hy; cases hr; obtain ⟨v, h1, h2⟩ := hp.2 w c x (hs.obj b c hb) hy; exact fin h2 (hK v g w .refl hs hl h1)
   ·cases hr
  ·cases hr
 | al c f =>
  simp only [PR.run, frP_eq, Option.some.injEq, Prod.mk.injEq] at hr; obtain ⟨rfl, rfl, rfl⟩ := hr; obtain ⟨ob, v, w', h1, h2, h3, h4, h5⟩ := hp w; have h5' := h5 (g.add n w.heap.size (osz ob)) n (Gs.le_add hl.new _ _) (.inl rfl) (by simp [Gs.add]) (by simp [Gs.add]); obtain ⟨a1, a2⟩ := hs.al hl (k := osz ob) h5'.1 h2 h3 h4; exact fin h1 (hK v _ w' a2 a1 (hl.add _ _) h5'.2)
 | wr b f =>
  simp only [PR.run] at hr; split at hr
  ·rename_i c hb; split at hr
   ·rename_i y c' hy; cases hr; obtain ⟨v, ob, w', h1, h2, h3, h4, h5, h6⟩ := hp.2 w c x c' (hs.obj b c hb) hy; obtain ⟨a1, a2⟩ := hs.wr hb h2 h4 h5 h6; exact fin h3 (hK v g w' a2 a1 hl h1)
   ·cases hr
  ·cases hr
 | gw f =>
  obtain ⟨g', w', v, h1, h2, h3, h4, h5⟩ := hp h n w x h' n' hl hs hr; exact fin h1 (hK v g' w' h2 h3 h4 h5)
 | ca f args =>
  obtain ⟨vs, h1, h2⟩ := hp; unfold Oper.wp; rw [h2 w, Oper.upon_enter]; refine (hc f args h n x h' n' hr g w vs hl hs h1).mono fun e w' he => ?_; obtain ⟨v, g', rfl, b1, b2, b3, b4⟩ := he; exact hK v g' w' b1 b2 b3 b4
structure Ok (N : Nat) (g : Gs) (t : Tr CV) (h : Tr CB) (n : Ps) (a : Act) (w : World) : Prop where
  sl : SR g t a
  hp : Sm g h.get w
  bl : Bl n g
  sz : a.tmps.size = N
theorem opr_ok (hc : CalOk P cal) {ops : Array Oper} {o : Oper} {N : Nat} {t t' : Tr CV} {h h' : Tr CB} {n n' : Ps} (hr : opr P cal ops.toList o t h n = some (t', h', n')) {a : Act} {w : World} (hk : Ok N g t h n a w) (hd : dstOk N o.dst)
 {K : Act → World → Prop} {Q : Exit → Act → World → Prop} (hK : ∀ g' a' w', To g h.get w g' h'.get w' → Ok N g' t' h' n' a' w' → K a' w') :
 if Region.wanted o (yielded ops a.tmps) = true then o.wp P a w K Q ∨ (o.asks P a w ∧ LetsOut Q) else K (a.put o.dst undef) w := by
 have hd' : dstOk a.tmps.size o.dst := by rw [hk.sz]; exact hd
 unfold opr at hr; split at hr
 ·rename_i hw; rw [wnt_ok hk.sl hw, if_pos rfl]; split at hr
  ·rename_i pr hpop; split at hr
   ·rename_i x h2 n2 hrun; rw [frc_eq] at hr; cases hr; exact .inl (run_ok hc (pop_ok (ev_ok hk.sl) o hpop) hrun hk.bl hk.hp fun v g' w' b1 b2 b3 b4 =>
     hK g' _ w' b1 ⟨(hk.sl.mono b1.le).put hd' b4, b2, b3, by rw [size_put]; exact hk.sz⟩)
   ·cases hr
  ·cases hr
 ·rename_i hw; rw [wnt_ok hk.sl hw]; cases hr; exact hK g _ w .refl ⟨hk.sl.put hd' ⟨#[], rfl, rfl⟩, hk.hp, hk.bl, by rw [size_put]; exact hk.sz⟩
 ·cases hr
theorem seqR_ok (hc : CalOk P cal) {ops : Array Oper} {N : Nat} {Q : Exit → Act → World → Prop} : ∀ (l : List Oper) {g : Gs} {t t' : Tr CV} {h h' : Tr CB} {n n' : Ps} (_ : seqR P cal ops.toList l t h n = some (t', h', n')) {a : Act} {w : World} (_ : Ok N g t h n a w) (_ : dstsOk N l = true)
 (_ : ∀ g' a' w', To g h.get w g' h'.get w' → Ok N g' t' h' n' a' w' → Q .normal a' w'), wpList P ops Q l a w
 | [], _, _, _, _, _, _, _, hr, _, _, hk, _, hK => by cases hr; exact hK _ _ _ .refl hk
 | o :: l, g, t, t', h, h', n, n', hr, a, w, hk, hd, hK => by
  change (match opr P cal ops.toList o t h n with
   | some (t, h, n) => seqR P cal ops.toList l t h n
   | none => none) = _ at hr
  split at hr
  ·rename_i t1 h1 n1 hr1; obtain ⟨d1, d2⟩ := dstsOk_cons hd; have := opr_ok (Q := Q) (K := wpList P ops Q l) hc hr1 hk d1 fun g' a' w' b1 b2 => seqR_ok hc l hr b2 d2 fun g2 a2 w2 c1 c2 => hK g2 a2 w2 (b1.trans c1) c2; unfold wpList; split
   ·rename_i hw; rw [if_pos hw] at this; exact this
   ·rename_i hw; rw [if_neg hw] at this; exact this
  ·cases hr
end Go.EX

namespace Go.EX
open Go.AX
variable {P : Program} {cal : Cal}
/-! ### What an operation looks at -/
theorem opL_congr {ρ ρ' : Operand → Option CV} : ∀ {l : List Operand}, (∀ x ∈ l, ρ x = ρ' x) → opL ρ l = opL ρ' l
 | [], _ => rfl
 | x :: r, h => by simp only [opL, h x (List.mem_cons_self ..), opL_congr fun y hy => h y (List.mem_cons_of_mem _ hy)]
theorem prt_congr {ρ ρ' : Operand → Option CV} : ∀ {l : List (Nat × Operand)}, (∀ x ∈ l.map (·.2), ρ x = ρ' x) → prt ρ l = prt ρ' l
 | [], _ => rfl
 | (i, x) :: r, h => by simp only [prt, h x (List.mem_cons_self ..), prt_congr fun y hy => h y (List.mem_cons_of_mem _ hy)]
theorem bnd_congr {ρ ρ' : Operand → Option CV} {d : Nat} {x : Option Operand} (h : ∀ y ∈ x.toList, ρ y = ρ' y) : bnd ρ d x = bnd ρ' d x := by
 cases x with
 | none => rfl
 | some y => simp only [bnd, h y (by simp)]
theorem pop_congr {ρ ρ' : Operand → Option CV} (op : Op) (h : ∀ x ∈ op.operands, ρ x = ρ' x) : pop P op ρ = pop P op ρ' := by
 cases op <;> simp only [Op.operands] at h <;> simp only [pop]
 case build t ps => rw [prt_congr (ρ' := ρ') fun x hx => h x (by simpa using hx)]
 case buildSlice t n ps => rw [prt_congr (ρ' := ρ') fun x hx => h x (by simpa using hx)]
 case makeFunc fn a c => rw [opL_congr (l := a.toList) (ρ' := ρ') fun x hx => h x (by simp [Array.mem_def.2 hx]), opL_congr (l := c.toList) (ρ' := ρ') fun x hx => h x (by simp [Array.mem_def.2 hx])]
 case makeMap t r => cases r <;> simp_all
 case slice t x lo hi mx =>
  have hl : ∀ d, bnd ρ d lo = bnd ρ' d lo := fun d => bnd_congr fun y hy => h y (by simp at hy; subst hy; simp); have hh : ∀ d, bnd ρ d hi = bnd ρ' d hi := fun d => bnd_congr fun y hy => h y (by simp at hy; subst hy; simp); have hm : ∀ d, bnd ρ d mx = bnd ρ' d mx := fun d => bnd_congr fun y hy => h y (by simp at hy; subst hy; simp); rw [h x (by simp)]; split
  ·rename_i a ha; cases a <;> simp only [cut, hl, hh, hm]
  ·rfl
 case call c =>
  obtain ⟨callee, args, ts⟩ := c; have ha : opL ρ args.toList = opL ρ' args.toList := opL_congr fun x hx => h x (by simp [Call.operands, Array.mem_def.2 hx]); simp only [ha]; have hf : ∀ f, callee = .value f → ρ f = ρ' f := fun f e => h f (by subst e; simp [Call.operands]); cases callee with
  | value f => cases opL ρ' args.toList with
   | none => rfl
   | some cs => simp only [hf f rfl]
  | invoke r m => cases opL ρ' args.toList <;> rfl
  | builtin b => cases opL ρ' args.toList <;> rfl
 all_goals (first | rfl | simp_all)
/-! ### What a plan says -/
theorem mkM_bit {pre : List Row} {b : Nat} : ∀ {l : List Nat}, (mkM pre l).testBit b = true → ∃ j ∈ l, b = j ∨ (lkM pre j).testBit b = true
 | [], h => by simp [mkM] at h
 | j :: r, h => by
  simp only [mkM, Nat.testBit_or, Bool.or_eq_true] at h; rcases h with (h | h) | h
  ·rw [Nat.testBit_two_pow] at h; exact ⟨j, List.mem_cons_self .., .inl (of_decide_eq_true h).symm⟩
  ·exact ⟨j, List.mem_cons_self .., .inr h⟩
  ·obtain ⟨i, h1, h2⟩ := mkM_bit h; exact ⟨i, List.mem_cons_of_mem _ h1, h2⟩
theorem lkM_bit {b j : Nat} : ∀ {pre : List Row}, (lkM pre j).testBit b = true → ∃ x ∈ pre, x.1 = j ∧ x.2.1.testBit b = true
 | [], h => by simp [lkM] at h
 | x :: r, h => by
  simp only [lkM] at h; split at h
  ·rename_i e; exact ⟨x, List.mem_cons_self .., Nat.eq_of_beq_eq_true e, h⟩
  ·obtain ⟨y, h1, h2⟩ := lkM_bit h; exact ⟨y, List.mem_cons_of_mem _ h1, h2⟩
def Cls (l : List Row) (C : Nat → Prop) : Prop := ∀ x ∈ l, C x.1 → ∀ j ∈ edg x.2.2, C j
structure Plan (ops : Array Oper) (l : List Row) : Prop where
  row : ∀ x ∈ l, ops[x.1]? = some x.2.2
  all : ∀ i, i < ops.size → ∃ x ∈ l, x.1 = i
  anc : ∀ C, Cls l C → ∀ x ∈ l, (∀ j ∈ edg x.2.2, C j) → ∀ b, x.2.1.testBit b = true → C b
  pair : l.Pairwise fun x y => prO ops x y = true
  self : ∀ x ∈ l, selfO ops x = true
  deps : ∀ u x v, l = u ++ x :: v → ∀ j ∈ edg x.2.2, ∃ y ∈ u, y.1 = j
theorem okO_spec {ops : Array Oper} : ∀ {l pre : List Row}, okO ops pre l = true → (∀ C, Cls (pre ++ l) C → ∀ z ∈ pre, (∀ j ∈ edg z.2.2, C j) → ∀ b, z.2.1.testBit b = true → C b) →
 (∀ C, Cls (pre ++ l) C → ∀ x ∈ l, (∀ j ∈ edg x.2.2, C j) → ∀ b, x.2.1.testBit b = true → C b) ∧ (l.Pairwise fun x y => prO ops x y = true) ∧ (∀ x ∈ l, selfO ops x = true) ∧
 ∀ u x v, l = u ++ x :: v → ∀ j ∈ edg x.2.2, ∃ y, (y ∈ u ∨ y ∈ pre) ∧ y.1 = j
 | [], pre, _, _ => ⟨fun _ _ _ hx => (by cases hx), .nil, fun _ hx => (by cases hx), fun u x v h => by cases u <;> cases h⟩
 | x :: r, pre, h, ha => by
  simp only [okO, Bool.and_eq_true, List.all_eq_true, List.any_eq_true] at h; obtain ⟨⟨⟨⟨h1, h2⟩, h3⟩, h4⟩, h5⟩ := h; have hmask := Nat.eq_of_beq_eq_true h2; have hx : ∀ C, Cls (pre ++ x :: r) C → (∀ j ∈ edg x.2.2, C j) → ∀ b, x.2.1.testBit b = true → C b := fun C hC hj b hb => by
   rw [hmask] at hb; obtain ⟨j, j1, j2⟩ := mkM_bit hb; rcases j2 with rfl | j2
   ·exact hj _ j1
   ·obtain ⟨z, z1, z2, z3⟩ := lkM_bit j2; have hz : C z.1 := by rw [z2]; exact hj j j1
    exact ha C hC z z1 (hC z (List.mem_append_left _ z1) hz) b z3
  have perm : ∀ C, Cls (x :: pre ++ r) C → Cls (pre ++ x :: r) C := fun C hC y hy => hC y (by simp only [List.cons_append, List.mem_cons, List.mem_append] at hy ⊢; rcases hy with h | h | h <;> simp [h]); obtain ⟨a1, a2, a3, a4⟩ := okO_spec (pre := x :: pre) h5 fun C hC z hz hj => by
   rcases List.mem_cons.1 hz with rfl | hz
   ·exact hx C (perm C hC) hj
   ·exact ha C (perm C hC) z hz hj
  refine ⟨fun C hC y hy hj => ?_, .cons (fun y hy => h4 y hy) a2, fun y hy => ?_, fun u y v e j hj => ?_⟩
  ·rcases List.mem_cons.1 hy with rfl | hy
   ·exact hx C hC hj
   ·exact a1 C (fun z hz => hC z (by simp only [List.cons_append, List.mem_cons, List.mem_append] at hz ⊢; rcases hz with h | h | h <;> simp [h])) y hy hj
  ·rcases List.mem_cons.1 hy with rfl | hy
   ·exact h1
   ·exact a3 y hy
  ·cases u with
   | nil =>
    simp only [List.nil_append, List.cons.injEq] at e; obtain ⟨rfl, rfl⟩ := e; obtain ⟨z, z1, z2⟩ := h3 j hj; exact ⟨z, .inr z1, Nat.eq_of_beq_eq_true z2⟩
   | cons z u =>
    simp only [List.cons_append, List.cons.injEq] at e; obtain ⟨rfl, e⟩ := e; obtain ⟨q, q1, q2⟩ := a4 u y v e j hj; refine ⟨q, ?_, q2⟩; rcases q1 with q1 | q1
    ·exact .inl (List.mem_cons_of_mem _ q1)
    ·rcases List.mem_cons.1 q1 with rfl | q1
     ·exact .inl (List.mem_cons_self ..)
     ·exact .inr q1
theorem rowsO_spec {ops : List Oper} {ms : List Nat} : ∀ {l : List Nat} {rs : List Row}, rowsO ops ms l = some rs → ∀ x ∈ rs, ops[x.1]? = some x.2.2
 | [], _, h, x, hx => by cases h; cases hx
 | i :: r, rs, h, x, hx => by
  simp only [rowsO] at h; split at h
  ·rename_i o m l h1 h2 h3; cases h; rcases List.mem_cons.1 hx with rfl | hx
   ·exact h1
   ·exact rowsO_spec h3 x hx
  ·cases h
theorem plan_spec {ops : Array Oper} {l : List Row} (h : plan ops = some l) : Plan ops l := by
 unfold plan at h; split at h
 ·rename_i rs hr; split at h
  ·rename_i hc; cases h; simp only [Bool.and_eq_true, List.all_eq_true, List.any_eq_true, List.mem_range] at hc; obtain ⟨a1, a2, a3, a4⟩ := okO_spec (pre := []) hc.1 fun C _ z hz => by cases hz
   refine ⟨fun x hx => by rw [← Array.getElem?_toList]; exact rowsO_spec hr x hx, fun i hi => ?_, a1, a2, a3, fun u x v e j hj => ?_⟩
   ·obtain ⟨x, h1, h2⟩ := hc.2 i hi; exact ⟨x, h1, Nat.eq_of_beq_eq_true h2⟩
   ·obtain ⟨y, h1, h2⟩ := a4 u x v e j hj; exact ⟨y, h1.resolve_right (by simp), h2⟩
  ·cases h
 ·cases h
/-! ### Numbers go up -/
def CalUp (cal : Cal) : Prop := ∀ f args h n x h' n', cal f args h n = some (x, h', n') → n.val ≤ n'.val
theorem app_up {t : TypeId} {s x : CV} {h h' : Tr CB} {n n' : Ps} {y : CV} (hr : app P t s x h n = some (y, h', n')) : n.val ≤ n'.val := by
 have h1 : n.val ≤ n.succ.val := by rw [Ps.val_succ]; omega
 unfold app at hr
 repeat' split at hr
 all_goals first
  | (cases hr; done)
  | (cases hr; first | exact Nat.le_refl _ | exact h1)
theorem cpy_up {t : TypeId} {s x : CV} {h h' : Tr CB} {n n' : Ps} {y : CV} (hr : cpy P t s x h n = some (y, h', n')) : n.val ≤ n'.val := by
 unfold cpy at hr
 repeat' split at hr
 all_goals first
  | (cases hr; done)
  | (cases hr; exact Nat.le_refl _)
theorem PR.o_ne {x : Option CV} {f : Tr CB → Ps → Option (CV × Tr CB × Ps)} (h : PR.o x = some (.gw f)) : False := by cases x <;> cases h
theorem pop_gw {op : Op} {ρ : Operand → Option CV} {f : Tr CB → Ps → Option (CV × Tr CB × Ps)} (h : pop P op ρ = some (.gw f)) {hp h' : Tr CB} {n n' : Ps} {y : CV} (hf : f hp n = some (y, h', n')) : n.val ≤ n'.val := by
  have no : ∀ {x : Option CV}, PR.o x = some (.gw f) → n.val ≤ n'.val := fun h => (PR.o_ne h).elim
  cases op <;> simp only [pop] at h
  case call c =>
    split at h
    · rename_i b cs _ _
      unfold blt at h
      split at h
      case h_6 =>
        split at h
        · cases h; exact app_up hf
        · cases h
      case h_7 => cases h; exact cpy_up hf
      all_goals first
        | (cases h; done)
        | (unfold lenV at h; repeat' split at h
           all_goals cases h)
        | (unfold mdl at h; repeat' split at h
           all_goals cases h)
        | (unfold clr at h; repeat' split at h
           all_goals cases h)
        | (repeat' split at h
           all_goals cases h)
    · repeat' split at h
      all_goals first
        | exact no h
        | cases h
    · cases h
  all_goals first
    | (cases h; done)
    | exact no h
    | (repeat' split at h
       all_goals first
         | (cases h; done)
         | exact no h
         | (unfold cvt at h; repeat' split at h
            all_goals cases h)
         | (unfold msl at h; repeat' split at h
            all_goals cases h)
         | (unfold cut at h; repeat' split at h
            all_goals cases h)
         | (unfold ixa at h; repeat' split at h
            all_goals cases h)
         | (unfold lkp at h; repeat' split at h
            all_goals cases h)
         | (unfold mup at h; repeat' split at h
            all_goals cases h))
theorem run_up (hu : CalUp cal) {op : Op} {ρ : Operand → Option CV} {pr : PR} (hp : pop P op ρ = some pr) {h h' : Tr CB} {n n' : Ps} {y : CV} (hr : pr.run cal h n = some (y, h', n')) : n.val ≤ n'.val := by
  cases pr with
  | v x => cases hr; exact Nat.le_refl _
  | rd b f => simp only [PR.run] at hr; repeat' split at hr
              all_goals (cases hr; try exact Nat.le_refl _)
  | al c f => simp only [PR.run, frP_eq, Option.some.injEq, Prod.mk.injEq] at hr; obtain ⟨_, _, rfl⟩ := hr; rw [Ps.val_succ]; omega
  | wr b f => simp only [PR.run] at hr; repeat' split at hr
              all_goals (cases hr; try exact Nat.le_refl _)
  | gw f => exact pop_gw hp hr
  | ca f args => exact hu _ _ _ _ _ _ _ hr
/-! ### One row of a plan -/
inductive Did (P : Program) (cal : Cal) (ops : List Oper) (x : Row) (s s' : D4) : Prop where
  | no (hw : wnt ops s.2.1 x.2.2.guard = some false) (e : s' = (s.1, pt s.2.1 x.2.2.dst .un, s.2.2))
  | w (hw : wnt ops s.2.1 x.2.2.guard = some true) (hW : isW x.2.2 = true) (pr : PR) (hp : pop P x.2.2.op (ev s.2.1) = some pr) (y : CV) (h : Tr CB) (n : Ps) (hr : pr.run cal s.2.2.1 s.2.2.2 = some (y, h, n)) (pd : List Pd) (hc : chk h x.2.1 s.1 = some pd) (e : s' = (pd, pt s.2.1 x.2.2.dst y, h, n))
  | v (hw : wnt ops s.2.1 x.2.2.guard = some true) (hW : isW x.2.2 = false) (y : CV) (hp : pop P x.2.2.op (ev s.2.1) = some (.v y)) (e : s' = (s.1, pt s.2.1 x.2.2.dst y, s.2.2))
  | r (hw : wnt ops s.2.1 x.2.2.guard = some true) (hR : isR x.2.2 = true) (b : Ps) (f : CB → Option CV) (hp : pop P x.2.2.op (ev s.2.1) = some (.rd b f)) (c : CB) (y : CV) (hb : s.2.2.1.get b = some c) (hf : f c = some y) (e : s' = ((x.1, b, f, y) :: s.1, pt s.2.1 x.2.2.dst y, s.2.2))
  | a (hw : wnt ops s.2.1 x.2.2.guard = some true) (hA : isA x.2.2 = true) (c : CB) (f : Ps → CV) (hp : pop P x.2.2.op (ev s.2.1) = some (.al c f)) (e : s' = (s.1, pt s.2.1 x.2.2.dst (f s.2.2.2), s.2.2.1.set (some c) s.2.2.2, s.2.2.2.succ))
abbrev Stp (P : Program) (cal : Cal) (ops : List Oper) (x : Row) (s s' : D4) : Prop := opd P cal ops x s.1 s.2.1 s.2.2.1 s.2.2.2 = some s'
theorem did {ops : List Oper} {x : Row} {s s' : D4} (h : Stp P cal ops x s s') : Did P cal ops x s s' := by
 obtain ⟨pd, t, hh, n⟩ := s; unfold Stp opd at h; simp only at h; split at h
 ·rename_i hw; split at h
  ·rename_i pr hp; split at h
   ·rename_i y h1 n1 hr; rw [frc_eq] at h; split at h
    ·rename_i hcl; split at h
     ·rename_i pd' hc; cases h; exact .w hw (by simp [isW, hcl]) _ hp y h1 n1 hr pd' hc rfl
     ·cases h
    ·rename_i y' hcl; cases h; cases hr; exact .v hw (by unfold isW; split <;> simp_all) y hp rfl
    ·rename_i b f hcl; cases h; simp only [PR.run] at hr; split at hr
     ·rename_i c hb; split at hr
      ·rename_i y' hy; cases hr; exact .r hw (by simp [isR, hcl]) b f hp c y hb hy rfl
      ·cases hr
     ·cases hr
    ·rename_i c f hcl; cases h; simp only [PR.run, frP_eq, Option.some.injEq, Prod.mk.injEq] at hr; obtain ⟨rfl, rfl, rfl⟩ := hr; exact .a hw (by simp [isA, hcl]) c f hp rfl
    ·cases h
   ·cases h
  ·cases h
 ·rename_i hw; cases h; exact .no hw rfl
 ·cases h
theorem runD_cons {ops : List Oper} {x : Row} {l : List Row} {s : D4} : runD P cal ops (x :: l) s = match opd P cal ops x s.1 s.2.1 s.2.2.1 s.2.2.2 with
 | some s => runD P cal ops l s
 | none => none := rfl
theorem runD_app {ops : List Oper} : ∀ {u v : List Row} {s z : D4}, runD P cal ops (u ++ v) s = some z → ∃ s', runD P cal ops u s = some s' ∧ runD P cal ops v s' = some z
 | [], _, s, _, h => ⟨s, rfl, h⟩
 | x :: u, v, s, z, h => by
  rw [List.cons_append, runD_cons] at h; rw [runD_cons]; split at h
  ·rename_i s1 hs; exact runD_app h
  ·cases h
theorem runD_snoc {ops : List Oper} {x : Row} : ∀ {u : List Row} {s s1 s2 : D4}, runD P cal ops u s = some s1 → Stp P cal ops x s1 s2 → runD P cal ops (u ++ [x]) s = some s2
 | [], s, s1, s2, h, h2 => by cases h; rw [List.nil_append, runD_cons, h2]; rfl
 | y :: u, s, s1, s2, h, h2 => by
  rw [List.cons_append, runD_cons]; rw [runD_cons] at h; split at h
  ·rename_i s3 hs; exact runD_snoc h h2
  ·cases h
theorem runD_at {ops : List Oper} {u v : List Row} {x : Row} {s z : D4} (h : runD P cal ops (u ++ x :: v) s = some z) : ∃ s1 s2, runD P cal ops u s = some s1 ∧ Stp P cal ops x s1 s2 ∧ runD P cal ops v s2 = some z := by
 obtain ⟨s1, h1, h2⟩ := runD_app h; rw [runD_cons] at h2; split at h2
 ·rename_i s2 hs; exact ⟨s1, s2, h1, hs, h2⟩
 ·cases h2
theorem did_slot {ops : List Oper} {x : Row} {s s' : D4} (h : Did P cal ops x s s') {k : Nat} (hk : x.2.2.dst ≠ some k) : s'.2.1.get (Ps.of k) = s.2.1.get (Ps.of k) := by
 have : ∀ (t : Tr CV) (y : CV), (pt t x.2.2.dst y).get (Ps.of k) = t.get (Ps.of k) := fun t y => by
  cases hd : x.2.2.dst with
  | none => rfl
  | some d => exact Tr.get_ne _ _ fun e => hk (by rw [hd, Ps.of_inj e])
 cases h <;> subst_vars <;> exact this _ _
theorem runD_slot {ops : List Oper} {k : Nat} : ∀ {l : List Row} {s s' : D4}, runD P cal ops l s = some s' → (∀ x ∈ l, x.2.2.dst ≠ some k) → s'.2.1.get (Ps.of k) = s.2.1.get (Ps.of k)
 | [], _, _, h, _ => by cases h; rfl
 | x :: l, s, s', h, hk => by
  rw [runD_cons] at h; split at h
  ·rename_i s1 hs; rw [runD_slot h fun y hy => hk y (List.mem_cons_of_mem _ hy), did_slot (did hs) (hk x (List.mem_cons_self ..))]
  ·cases h
theorem did_up (hu : CalUp cal) {ops : List Oper} {x : Row} {s s' : D4} (h : Did P cal ops x s s') : s.2.2.2.val ≤ s'.2.2.2.val := by
 cases h with
 | no _ e => rw [e]; exact Nat.le_refl _
 | w _ _ pr hp y h n hr pd _ e => rw [e]; exact run_up hu hp hr
 | v _ _ _ _ e => rw [e]; exact Nat.le_refl _
 | r _ _ _ _ _ _ _ _ _ e => rw [e]; exact Nat.le_refl _
 | a _ _ _ _ _ e => rw [e]; show _ ≤ s.2.2.2.succ.val; rw [Ps.val_succ]; omega
theorem runD_up (hu : CalUp cal) {ops : List Oper} : ∀ {l : List Row} {s s' : D4}, runD P cal ops l s = some s' → s.2.2.2.val ≤ s'.2.2.2.val
 | [], _, _, h => by cases h; exact Nat.le_refl _
 | x :: l, s, s', h => by
  rw [runD_cons] at h; split at h
  ·rename_i s1 hs; exact Nat.le_trans (did_up hu (did hs)) (runD_up hu h)
  ·cases h
/-! ### A whole run -/
structure Rn (P : Program) (cal : Cal) (ops : Array Oper) (l : List Row) (s0 sF : D4) : Prop where
  pl : Plan ops l
  run : runD P cal ops.toList l s0 = some sF
  up : CalUp cal
variable {ops : Array Oper} {l : List Row} {s0 sF : D4}
theorem Rn.rel (R : Rn P cal ops l s0 sF) {u v : List Row} {x z : Row} (h : l = u ++ x :: v) : (z ∈ u → prO ops z x = true) ∧ (z ∈ v → prO ops x z = true) := by
 have hp := R.pl.pair; rw [h, List.pairwise_append] at hp; exact ⟨fun hz => hp.2.2 z hz x (List.mem_cons_self ..), fun hz => (List.pairwise_cons.1 hp.2.1).1 z hz⟩
theorem prO_dst {x y : Row} (h : prO ops x y = true) : x.1 ≠ y.1 ∧ (∀ d, y.2.2.dst = some d → d ∉ x.2.2.looksAt ops ∧ x.2.2.dst ≠ some d) ∧ (∀ d, x.2.2.dst = some d → d ∈ y.2.2.looksAt ops → y.2.1.testBit x.1 = true) := by
 unfold prO at h; simp only [Bool.and_eq_true] at h; obtain ⟨⟨⟨h1, _⟩, h2⟩, h3⟩ := h; refine ⟨fun e => by rw [e] at h1; simp at h1, fun d hd => ?_, fun d hd hm => ?_⟩
 ·rw [hd] at h2; simpa using h2
 ·rw [hd] at h3; simp only [Bool.or_eq_true, Bool.not_eq_true', List.contains_iff_mem] at h3; rcases h3 with h3 | h3
  ·rw [← Bool.not_eq_true, List.contains_iff_mem] at h3; exact absurd hm h3
  ·exact h3
theorem prO_bit {x y : Row} (h : prO ops x y = true) (hc : (isW y.2.2 = true ∧ (isW x.2.2 = true ∨ isA x.2.2 = true)) ∨ (isR y.2.2 = true ∧ isW x.2.2 = true)) : y.2.1.testBit x.1 = true := by
 unfold prO at h; simp only [Bool.and_eq_true, Bool.or_eq_true, Bool.not_eq_true'] at h; rcases h.1.1.2 with h1 | h1
 ·exact h1
 ·rcases hc with ⟨a, b | b⟩ | ⟨a, b⟩ <;> simp [a, b] at h1
theorem Rn.see (R : Rn P cal ops l s0 sF) {u v : List Row} {x : Row} {s1 : D4} (h : l = u ++ x :: v) (h1 : runD P cal ops.toList u s0 = some s1) :
 (∀ k ∈ x.2.2.looksAt ops, sF.2.1.get (Ps.of k) = s1.2.1.get (Ps.of k)) ∧ wnt ops.toList sF.2.1 x.2.2.guard = wnt ops.toList s1.2.1 x.2.2.guard ∧ pop P x.2.2.op (ev sF.2.1) = pop P x.2.2.op (ev s1.2.1) := by
 have hr := R.run; rw [h] at hr; obtain ⟨s1', e1, e2⟩ := runD_app hr; rw [h1] at e1; cases e1; have hk : ∀ k ∈ x.2.2.looksAt ops, sF.2.1.get (Ps.of k) = s1.2.1.get (Ps.of k) := fun k hk => runD_slot e2 fun y hy hd => by
  rcases List.mem_cons.1 hy with rfl | hy
  ·have := R.pl.self y (by rw [h]; simp); unfold selfO at this; rw [hd] at this; simp only [Bool.not_eq_true'] at this; rw [← Bool.not_eq_true, List.contains_iff_mem] at this; exact this hk
  ·exact ((prO_dst ((R.rel h).2 hy)).2.1 k hd).1 hk
 refine ⟨hk, ?_, pop_congr _ fun y hy => ?_⟩
 ·cases hg : x.2.2.guard with
  | none => rfl
  | some q =>
   obtain ⟨j, wn⟩ := q; simp only [wnt]; cases hj : ops.toList[j]? with
   | none => rfl
   | some o =>
    simp only; cases hd : o.dst with
    | none => rfl
    | some d =>
     simp only; rw [hk d (by
      unfold Oper.looksAt; rw [hg]; rw [Array.getElem?_toList] at hj; simp [hj, hd])]
 ·cases y with
  | tmp k => exact hk k (by unfold Oper.looksAt; exact List.mem_append_left _ (List.mem_filterMap.2 ⟨.tmp k, by simpa using hy, rfl⟩))
  | const v => rfl
  | func f => rfl
  | global n => rfl
theorem Rn.out (R : Rn P cal ops l s0 sF) {u v : List Row} {x : Row} {s2 : D4} (h : l = u ++ x :: v) (h2 : runD P cal ops.toList v s2 = some sF) {d : Nat} (hd : x.2.2.dst = some d) : sF.2.1.get (Ps.of d) = s2.2.1.get (Ps.of d) :=
 runD_slot h2 fun y hy hdy => ((prO_dst ((R.rel h).2 hy)).2.1 d hdy).2 hd
def Ar (P : Program) (cal : Cal) (ops : Array Oper) (l : List Row) (s0 sF : D4) (z : Row) (b : Ps) (c : CB) : Prop :=
 ∃ u v s1 f, l = u ++ z :: v ∧ runD P cal ops.toList u s0 = some s1 ∧ wnt ops.toList sF.2.1 z.2.2.guard = some true ∧ isA z.2.2 = true ∧ pop P z.2.2.op (ev sF.2.1) = some (.al c f) ∧ b = s1.2.2.2
theorem isA_W {o : Oper} (h : isA o = true) : isW o = false := by unfold isA at h; unfold isW; split <;> simp_all
theorem isA_R {o : Oper} (h : isA o = true) : isR o = false := by unfold isA at h; unfold isR; split <;> simp_all
theorem isR_W {o : Oper} (h : isR o = true) : isW o = false := by unfold isR at h; unfold isW; split <;> simp_all
theorem Rn.made (R : Rn P cal ops l s0 sF) {u v : List Row} {z : Row} {s1 s2 : D4} (h : l = u ++ z :: v) (h1 : runD P cal ops.toList u s0 = some s1) (h2 : Stp P cal ops.toList z s1 s2) (hw : wnt ops.toList sF.2.1 z.2.2.guard = some true) {c : CB} {f : Ps → CV} (hp : pop P z.2.2.op (ev sF.2.1) = some (.al c f)) (hA : isA z.2.2 = true) :
 s2 = (s1.1, pt s1.2.1 z.2.2.dst (f s1.2.2.2), s1.2.2.1.set (some c) s1.2.2.2, s1.2.2.2.succ) := by
 obtain ⟨_, e1, e2⟩ := R.see h h1; rw [e1] at hw; rw [e2] at hp; cases did h2 with
 | no hw' e => rw [hw] at hw'; cases hw'
 | w _ hW => rw [isA_W hA] at hW; cases hW
 | v _ _ y hp' e => rw [hp] at hp'; cases hp'
 | r _ hR => rw [isA_R hA] at hR; cases hR
 | a _ _ c' f' hp' e => rw [hp] at hp'; cases hp'; exact e
theorem Ar.uniq (R : Rn P cal ops l s0 sF) {z z' : Row} {b : Ps} {c c' : CB} (h : Ar P cal ops l s0 sF z b c) (h' : Ar P cal ops l s0 sF z' b c') : z = z' ∧ c = c' := by
 obtain ⟨u, v, s1, f, e1, e2, e3, e4, e5, e6⟩ := h; obtain ⟨u', v', s1', f', e1', e2', e3', e4', e5', e6'⟩ := h'; have key : ∀ {u v u' v' : List Row} {z z' : Row} {s1 s1' : D4} {c : CB} {f : Ps → CV}, l = u ++ z :: v → l = u' ++ z' :: v' → runD P cal ops.toList u s0 = some s1 → runD P cal ops.toList u' s0 = some s1' → wnt ops.toList sF.2.1 z.2.2.guard = some true → pop P z.2.2.op (ev sF.2.1) = some (.al c f) → isA z.2.2 = true →
  u.length < u'.length → s1.2.2.2.val < s1'.2.2.2.val := by
  intro u v u' v' z z' s1 s1' c f a1 a2 a3 a4 a5 a6 a7 hl; obtain ⟨w, hw⟩ : ∃ w, u' = u ++ z :: w := by
   rcases List.append_eq_append_iff.1 (a1.symm.trans a2) with ⟨as, h1, h2⟩ | ⟨bs, h1, h2⟩
   ·cases as with
    | nil => rw [h1] at hl; simp at hl
    | cons y as =>
     simp only [List.cons_append, List.cons.injEq] at h2; exact ⟨as, by rw [h1, h2.1]⟩
   ·rw [h1] at hl; simp at hl; omega
  rw [hw] at a4; obtain ⟨s3, s4, b1, b2, b3⟩ := runD_at a4; rw [a3] at b1; cases b1; have e := R.made a1 a3 b2 a5 a6 a7; have := runD_up R.up b3; rw [e] at this; have : s1.2.2.2.succ.val ≤ s1'.2.2.2.val := this; rw [Ps.val_succ] at this; omega
 rcases Nat.lt_trichotomy u.length u'.length with hl | hl | hl
 ·have := key e1 e1' e2 e2' e3 e5 e4 hl; rw [← e6, ← e6'] at this; omega
 ·have := List.append_inj (e1.symm.trans e1') hl; obtain ⟨rfl, h2⟩ := this; cases h2; rw [e5] at e5'; cases e5'; exact ⟨rfl, rfl⟩
 ·have := key e1' e1 e2' e2 e3' e5' e4' hl; rw [← e6, ← e6'] at this; omega
theorem Rn.spl (R : Rn P cal ops l s0 sF) {u v u' v' : List Row} {z : Row} (h : l = u ++ z :: v) (h' : l = u' ++ z :: v') : u = u' := by
 have no : ∀ {u v u' v' : List Row}, l = u ++ z :: v → l = u' ++ z :: v' → ∀ as, u' = u ++ as → as = [] := fun {u v u' v'} e e' as ha => by
  cases as with
  | nil => rfl
  | cons y as =>
   have h2 := e.symm.trans e'; rw [ha, List.append_assoc, List.append_cancel_left_eq] at h2; simp only [List.cons_append, List.cons.injEq] at h2; exact absurd rfl (prO_dst ((R.rel e').1 (by rw [ha, ← h2.1]; simp))).1
 rcases List.append_eq_append_iff.1 (h.symm.trans h') with ⟨as, h1, _⟩ | ⟨bs, h1, _⟩
 ·rw [no h h' as h1, List.append_nil] at h1; exact h1.symm
 ·rw [no h' h bs h1, List.append_nil] at h1; exact h1
theorem Ar.id (R : Rn P cal ops l s0 sF) {z : Row} {b b' : Ps} {c c' : CB} (h : Ar P cal ops l s0 sF z b c) (h' : Ar P cal ops l s0 sF z b' c') : b = b' := by
 obtain ⟨u, v, s1, f, e1, e2, _, _, _, e6⟩ := h; obtain ⟨u', v', s1', f', e1', e2', _, _, _, e6'⟩ := h'; have := R.spl e1 e1'; subst this; rw [e2] at e2'; cases e2'; rw [e6, e6']
end Go.EX

namespace Go.EX
open Go.AX
variable {P : Program} {cal : Cal} {ops : Array Oper} {l : List Row} {s0 sF : D4}
def Gs.cut (g : Gs) (m : Ps) : Gs := ⟨g.μ, g.K, fun b => g.D b ∧ b.val < m.val⟩
theorem Gs.cut_le {g : Gs} {m m' : Ps} (h : m.val ≤ m'.val) : (g.cut m).le (g.cut m') := fun _ hb => ⟨⟨hb.1, Nat.lt_of_lt_of_le hb.2 h⟩, rfl, rfl⟩
theorem Gs.cut_mono {g g' : Gs} (h : g.le g') (m : Ps) : (g.cut m).le (g'.cut m) := fun b hb => ⟨⟨(h b hb.1).1, hb.2⟩, (h b hb.1).2⟩
theorem Sm.mono {g g' : Gs} {h : Ps → Option CB} {w : World} (hs : Sm g h w) (hl : g.le g') : Sm g' h w := by
 have hD : ∀ b, h b ≠ none → g.D b := fun b hb => by
  cases e : h b with
  | none => exact absurd e hb
  | some c => exact hs.dom b c e
 refine ⟨fun b c hb => (hl b (hs.dom b c hb)).1, fun b c hb => ?_, fun b b' hb hb' e => hs.inj b b' hb hb' ?_⟩
 ·rw [(hl b (hs.dom b c hb)).2.1]; exact (hs.obj b c hb).mono hl (hs.dom b c hb)
 ·rwa [(hl b (hD b hb)).2.1, (hl b' (hD b' hb')).2.1] at e
def In (S : Array Bool) (i : Nat) : Prop := S.getD i false = true
def Aft (P : Program) (cal : Cal) (ops : Array Oper) (l : List Row) (s0 : D4) (k : Nat) (m : Ps) : Prop :=
 ∀ u z v s2, l = u ++ z :: v → z.2.2.dst = some k → runD P cal ops.toList (u ++ [z]) s0 = some s2 → s2.2.2.2.val ≤ m.val
structure Iv (P : Program) (cal : Cal) (ops : Array Oper) (l : List Row) (s0 sF : D4) (g0 : Gs) (w0 : World) (N : Nat) (l1 l2 : List Row) (s : D4) (S : Array Bool) (g : Gs) (a : Act) (w : World) : Prop where
  eq : l = l1 ++ l2
  st : runD P cal ops.toList l1 s0 = some s
  cl : Cls l (In S)
  w1 : ∀ x ∈ l1, isW x.2.2 = true ∨ isA x.2.2 = true → In S x.1
  w2 : ∀ x ∈ l2, isW x.2.2 = true → ¬ In S x.1
  pdo : ∀ e ∈ s.1, ∃ c, s.2.2.1.get e.2.1 = some c ∧ e.2.2.1 c = some e.2.2.2
  pdi : ∀ x ∈ l1, ¬ In S x.1 → wnt ops.toList sF.2.1 x.2.2.guard = some true → ∀ b f, pop P x.2.2.op (ev sF.2.1) = some (.rd b f) → ∃ y, (x.1, b, f, y) ∈ s.1 ∧ ∀ d, x.2.2.dst = some d → sF.2.1.get (Ps.of d) = some y
  dlo : ∀ b, b.val < s.2.2.2.val → g.D b
  dhi : ∀ b, g.D b → b.val < s.2.2.2.val ∨ ∃ z c, z ∈ l2 ∧ In S z.1 ∧ Ar P cal ops l s0 sF z b c
  sm : Sm (g.cut s.2.2.2) s.2.2.1.get w
  er : ∀ z b c, z ∈ l2 → In S z.1 → Ar P cal ops l s0 sF z b c → g.D b ∧ OR (g.cut b.succ) b c w.heap[g.μ b]? ∧ ∀ p, s.2.2.1.get p ≠ none → g.μ p ≠ g.μ b
  ei : ∀ z b c z' b' c', z ∈ l2 → In S z.1 → Ar P cal ops l s0 sF z b c → z' ∈ l2 → In S z'.1 → Ar P cal ops l s0 sF z' b' c' → g.μ b = g.μ b' → b = b'
  sl : ∀ k y m, (∀ z ∈ l, z.2.2.dst = some k → In S z.1) → sF.2.1.get (Ps.of k) = some y → Aft P cal ops l s0 k m → s.2.2.2.val ≤ m.val → VR (g.cut m) y (a.tmps.getD k undef)
  defs : a.defers = []
  sz : a.tmps.size = N
  le : g0.le g
  size : w0.heap.size ≤ w.heap.size
  env : envOf w = envOf w0
  drawn : w0.drawn ≤ w.drawn
  keep : ∀ c, c < w0.heap.size → (∀ b, s0.2.2.1.get b ≠ none → g0.μ b ≠ c) → w.heap[c]? = w0.heap[c]?
  new : ∀ b, (s.2.2.1.get b ≠ none ∨ ∃ z c, z ∈ l2 ∧ In S z.1 ∧ Ar P cal ops l s0 sF z b c) → (∃ b0, s0.2.2.1.get b0 ≠ none ∧ g0.μ b0 = g.μ b) ∨ w0.heap.size ≤ g.μ b
variable {g0 : Gs} {w0 : World} {N : Nat} {l1 l2 : List Row} {s : D4} {S : Array Bool} {g : Gs} {a : Act} {w : World}
theorem Rn.idx (R : Rn P cal ops l s0 sF) {x z : Row} (hx : x ∈ l) (hz : z ∈ l) (h : x.1 = z.1) : x = z := by
 obtain ⟨u, v, e⟩ := List.append_of_mem hx; rw [e] at hz; rcases List.mem_append.1 hz with hz | hz
 ·exact absurd h.symm (prO_dst ((R.rel e).1 hz)).1
 ·rcases List.mem_cons.1 hz with rfl | hz
  ·rfl
  ·exact absurd h (prO_dst ((R.rel e).2 hz)).1
theorem Iv.adv (R : Rn P cal ops l s0 sF) {z : Row} (I : Iv P cal ops l s0 sF g0 w0 N l1 (z :: l2) s S g a w) {s' : D4} (hst : Stp P cal ops.toList z s s') (hW : isW z.2.2 = false) (hA : isA z.2.2 = true → In S z.1) :
    Iv P cal ops l s0 sF g0 w0 N (l1 ++ [z]) l2 s' S g a w := by
  obtain ⟨see1, see2, see3⟩ := R.see (u := l1) (v := l2) I.eq I.st
  have hend : runD P cal ops.toList l2 s' = some sF := by
    have := R.run
    rw [I.eq] at this
    obtain ⟨s1, s2, e1, e2, e3⟩ := runD_at this
    rw [I.st] at e1; cases e1
    cases hst.symm.trans e2
    exact e3
  have hsn := runD_snoc I.st hst
  have up := did_up R.up (did hst)
  have w1 : ∀ x ∈ l1 ++ [z], isW x.2.2 = true ∨ isA x.2.2 = true → In S x.1 := fun x hx h => by
    rcases List.mem_append.1 hx with hx | hx
    · exact I.w1 x hx h
    · simp only [List.mem_singleton] at hx
      subst hx
      rcases h with h | h
      · rw [hW] at h; cases h
      · exact hA h
  -- where nothing is made
  have same : s'.2.2 = s.2.2 → (∀ b c, ¬ Ar P cal ops l s0 sF z b c) → (∀ e ∈ s'.1, ∃ c, s.2.2.1.get e.2.1 = some c ∧ e.2.2.1 c = some e.2.2.2) →
      (∀ x ∈ l1 ++ [z], ¬ In S x.1 → wnt ops.toList sF.2.1 x.2.2.guard = some true → ∀ b f, pop P x.2.2.op (ev sF.2.1) = some (.rd b f) → ∃ y, (x.1, b, f, y) ∈ s'.1 ∧ ∀ d, x.2.2.dst = some d → sF.2.1.get (Ps.of d) = some y) →
      Iv P cal ops l s0 sF g0 w0 N (l1 ++ [z]) l2 s' S g a w := fun e hAr h1 h2 => by
    have tl : ∀ {z' b c}, z' ∈ z :: l2 → Ar P cal ops l s0 sF z' b c → z' ∈ l2 := fun hm ha => by
      rcases List.mem_cons.1 hm with rfl | hm
      · exact absurd ha (hAr _ _)
      · exact hm
    exact { eq := by rw [I.eq]; simp, st := hsn, cl := I.cl, w1 := w1, w2 := fun x hx => I.w2 x (List.mem_cons_of_mem _ hx), pdo := by rw [e]; exact h1, pdi := h2, dlo := by rw [e]; exact I.dlo,
            dhi := fun b hb => by rw [e]; exact (I.dhi b hb).imp id fun ⟨z', c, m1, m2, m3⟩ => ⟨z', c, tl m1 m3, m2, m3⟩,
            sm := by rw [e]; exact I.sm, er := fun z' b c m1 m2 m3 => by rw [e]; exact I.er z' b c (List.mem_cons_of_mem _ m1) m2 m3,
            ei := fun z' b c z2 b' c' m1 m2 m3 m4 m5 m6 => I.ei z' b c z2 b' c' (List.mem_cons_of_mem _ m1) m2 m3 (List.mem_cons_of_mem _ m4) m5 m6,
            sl := fun k y m h3 h4 h5 h6 => I.sl k y m h3 h4 h5 (by rw [e] at h6; exact h6), defs := I.defs, sz := I.sz, le := I.le, size := I.size, env := I.env, drawn := I.drawn, keep := I.keep,
            new := fun b hb => I.new b (by rw [e] at hb; exact hb.imp id fun ⟨z', c, m1, m2, m3⟩ => ⟨z', c, List.mem_cons_of_mem _ m1, m2, m3⟩) }
  have old : (∀ b f, pop P z.2.2.op (ev sF.2.1) ≠ some (.rd b f)) ∨ wnt ops.toList sF.2.1 z.2.2.guard ≠ some true → ∀ x ∈ l1 ++ [z], ¬ In S x.1 → wnt ops.toList sF.2.1 x.2.2.guard = some true → ∀ b f, pop P x.2.2.op (ev sF.2.1) = some (.rd b f) → ∃ y, (x.1, b, f, y) ∈ s.1 ∧ ∀ d, x.2.2.dst = some d → sF.2.1.get (Ps.of d) = some y := by
    intro hn x hx h1 h2 b f h3
    rcases List.mem_append.1 hx with hx | hx
    · exact I.pdi x hx h1 h2 b f h3
    · simp only [List.mem_singleton] at hx
      subst hx
      rcases hn with hn | hn
      · exact absurd h3 (hn b f)
      · exact absurd h2 hn
  cases did hst with
  | no hw e =>
    rw [← see2] at hw
    exact same (by rw [e]) (fun b c ⟨_, _, _, _, _, _, h3, _⟩ => by rw [hw] at h3; cases h3) (by rw [e]; exact I.pdo) (by rw [e]; exact old (.inr (by rw [hw]; simp)))
  | w _ h => rw [hW] at h; cases h
  | v hw _ y hp e =>
    rw [← see3] at hp
    exact same (by rw [e]) (fun b c ⟨_, _, _, _, _, _, _, _, h5, _⟩ => by rw [hp] at h5; cases h5) (by rw [e]; exact I.pdo) (by rw [e]; exact old (.inl fun b f h => by rw [hp] at h; cases h))
  | r hw hR b f hp c y hb hf e =>
    rw [← see3] at hp
    refine same (by rw [e]) (fun b c ⟨_, _, _, _, _, _, _, _, h5, _⟩ => by rw [hp] at h5; cases h5) (fun q hq => ?_) fun x hx h1 h2 b' f' h3 => ?_
    · rw [e] at hq
      rcases List.mem_cons.1 hq with rfl | hq
      · exact ⟨c, hb, hf⟩
      · exact I.pdo q hq
    · rw [e]
      rcases List.mem_append.1 hx with hx | hx
      · obtain ⟨y', m1, m2⟩ := I.pdi x hx h1 h2 b' f' h3
        exact ⟨y', List.mem_cons_of_mem _ m1, m2⟩
      · simp only [List.mem_singleton] at hx
        subst hx
        rw [hp] at h3; cases h3
        refine ⟨y, List.mem_cons_self .., fun d hd => ?_⟩
        rw [R.out (u := l1) I.eq hend hd, e]
        simp only [hd, pt, Tr.get_set]
  | a hw hA' c f hp e =>
    rw [← see2] at hw
    rw [← see3] at hp
    have hAr : Ar P cal ops l s0 sF z s.2.2.2 c := ⟨l1, l2, s, f, I.eq, I.st, hw, hA', hp, rfl⟩
    obtain ⟨d1, d2, d3⟩ := I.er z _ c (List.mem_cons_self ..) (hA hA') hAr
    have hv := Ps.val_succ s.2.2.2
    have tl : ∀ {z' b c}, z' ∈ l2 → Ar P cal ops l s0 sF z' b c → s.2.2.2 ≠ b := fun hm ha e => by
      subst e
      obtain ⟨rfl, _⟩ := Ar.uniq R hAr ha
      exact (prO_dst ((R.rel (u := l1) I.eq).2 hm)).1 rfl
    have live : ∀ p, s'.2.2.1.get p ≠ none → p ≠ s.2.2.2 → s.2.2.1.get p ≠ none := fun p hp' hne => by
      rw [e] at hp'
      change (s.2.2.1.set (some c) s.2.2.2).get p ≠ none at hp'
      rwa [set_get, if_neg hne] at hp'
    refine { eq := by rw [I.eq]; simp, st := hsn, cl := I.cl, w1 := w1, w2 := fun x hx => I.w2 x (List.mem_cons_of_mem _ hx), pdo := fun q hq => ?_, pdi := ?_, dlo := fun b hb => ?_, dhi := fun b hb => ?_, sm := ?_, er := fun z' b c' m1 m2 m3 => ?_,
             ei := fun z' b c z2 b' c' m1 m2 m3 m4 m5 m6 => I.ei z' b c z2 b' c' (List.mem_cons_of_mem _ m1) m2 m3 (List.mem_cons_of_mem _ m4) m5 m6,
             sl := fun k y m h3 h4 h5 h6 => I.sl k y m h3 h4 h5 (Nat.le_trans up h6), defs := I.defs, sz := I.sz, le := I.le, size := I.size, env := I.env, drawn := I.drawn, keep := I.keep, new := fun b hb => ?_ }
    · rw [e] at hq ⊢
      obtain ⟨c', q1, q2⟩ := I.pdo q hq
      refine ⟨c', ?_, q2⟩
      have hlt := (I.sm.dom _ _ q1).2
      show (s.2.2.1.set (some c) s.2.2.2).get q.2.1 = some c'
      rw [set_get, if_neg (fun e => by rw [e] at hlt; omega)]; exact q1
    · rw [e]; exact old (.inl fun b f' h => by rw [hp] at h; cases h)
    · rw [e] at hb
      change b.val < s.2.2.2.succ.val at hb
      by_cases hbe : b.val = s.2.2.2.val
      · rw [Ps.inj hbe]; exact d1
      · exact I.dlo b (by omega)
    · rw [e]
      change b.val < s.2.2.2.succ.val ∨ _
      rcases I.dhi b hb with h | ⟨z', c', m1, m2, m3⟩
      · left; omega
      · rcases List.mem_cons.1 m1 with rfl | m1
        · left; rw [Ar.id R m3 hAr]; omega
        · exact .inr ⟨z', c', m1, m2, m3⟩
    · rw [e]
      show Sm (g.cut s.2.2.2.succ) (s.2.2.1.set (some c) s.2.2.2).get w
      have hl : (g.cut s.2.2.2).le (g.cut s.2.2.2.succ) := Gs.cut_le (by omega)
      refine ⟨fun p c' hp' => ?_, fun p c' hp' => ?_, fun p q hp' hq' hpq => ?_⟩
      · rw [set_get] at hp'
        by_cases hne : p = s.2.2.2
        · rw [hne]; exact ⟨d1, by omega⟩
        · rw [if_neg hne] at hp'
          exact (hl p (I.sm.dom p c' hp')).1
      · rw [set_get] at hp'
        by_cases hne : p = s.2.2.2
        · rw [if_pos hne] at hp'; cases hp'
          rw [hne]; exact d2
        · rw [if_neg hne] at hp'
          exact (I.sm.obj p c' hp').mono hl (I.sm.dom p c' hp')
      · by_cases h1 : p = s.2.2.2
        · by_cases h2 : q = s.2.2.2
          · rw [h1, h2]
          · rw [set_get, if_neg h2] at hq'
            rw [h1] at hpq
            exact absurd hpq.symm (d3 q hq')
        · rw [set_get, if_neg h1] at hp'
          by_cases h2 : q = s.2.2.2
          · rw [h2] at hpq
            exact absurd hpq (d3 p hp')
          · rw [set_get, if_neg h2] at hq'
            exact I.sm.inj p q hp' hq' hpq
    · obtain ⟨f1, f2, f3⟩ := I.er z' b c' (List.mem_cons_of_mem _ m1) m2 m3
      refine ⟨f1, f2, fun p hp' hpq => ?_⟩
      by_cases h1 : p = s.2.2.2
      · rw [h1] at hpq
        exact tl m1 m3 (I.ei z _ c z' b c' (List.mem_cons_self ..) (hA hA') hAr (List.mem_cons_of_mem _ m1) m2 m3 hpq)
      · exact f3 p (live p hp' h1) hpq
    · rcases hb with hb | ⟨z', c', m1, m2, m3⟩
      · by_cases h1 : b = s.2.2.2
        · subst h1; exact I.new _ (.inr ⟨z, c, List.mem_cons_self .., hA hA', hAr⟩)
        · exact I.new b (.inl (live b hb h1))
      · exact I.new b (.inr ⟨z', c', List.mem_cons_of_mem _ m1, m2, m3⟩)
theorem in_set {S : Array Bool} {i j : Nat} (hi : i < S.size) : In (S.setIfInBounds i true) j ↔ In S j ∨ j = i := by
 unfold In; simp only [Array.getD_eq_getD_getElem?]; by_cases h : j = i
 ·subst h; rw [Array.getElem?_setIfInBounds_self_of_lt hi]; simp
 ·rw [Array.getElem?_setIfInBounds_ne (fun e => h e.symm)]; simp [h]
theorem Cls.set (R : Rn P cal ops l s0 sF) {S : Array Bool} (h : Cls l (In S)) {x : Row} (hx : x ∈ l) (hi : x.1 < S.size) (hr : ∀ j ∈ edg x.2.2, In S j) : Cls l (In (S.setIfInBounds x.1 true)) := fun y hy hin j hj => by
 rw [in_set hi] at hin ⊢; rcases hin with hin | hin
 ·exact .inl (h y hy hin j hj)
 ·have := R.idx hy hx hin; subst this; exact .inl (hr j hj)
theorem Iv.quiet (R : Rn P cal ops l s0 sF) (I : Iv P cal ops l s0 sF g0 w0 N l1 l2 s S g a w) {x : Row} (hx : x ∈ l) (hi : x.1 < S.size) (hr : ∀ j ∈ edg x.2.2, In S j) (hW : isW x.2.2 = false) (hA : ∀ b c, ¬ Ar P cal ops l s0 sF x b c) (hd : dstOk N x.2.2.dst) {v : Value}
    (hv : ∀ d y m, x.2.2.dst = some d → sF.2.1.get (Ps.of d) = some y → Aft P cal ops l s0 d m → s.2.2.2.val ≤ m.val → VR (g.cut m) y v) : Iv P cal ops l s0 sF g0 w0 N l1 l2 s (S.setIfInBounds x.1 true) g (a.put x.2.2.dst v) w := by
  have up : ∀ {j}, In S j → In (S.setIfInBounds x.1 true) j := fun h => (in_set hi).2 (.inl h)
  have er : ∀ {z b c}, z ∈ l2 → In (S.setIfInBounds x.1 true) z.1 → Ar P cal ops l s0 sF z b c → In S z.1 := fun {z b c} m1 m2 m3 => by
    rcases (in_set hi).1 m2 with h | h
    · exact h
    · have := R.idx (by rw [I.eq]; exact List.mem_append_right _ m1) hx h; subst this
      exact absurd m3 (hA b c)
  have hsz : (a.put x.2.2.dst v).tmps.size = N := by rw [size_put]; exact I.sz
  exact { eq := I.eq, st := I.st, cl := I.cl.set R hx hi hr, w1 := fun y hy h => up (I.w1 y hy h),
          w2 := fun y hy h hin => by
            rcases (in_set hi).1 hin with h' | h'
            · exact I.w2 y hy h h'
            · have := R.idx (by rw [I.eq]; exact List.mem_append_right _ hy) hx h'; subst this
              rw [hW] at h; cases h
          pdo := I.pdo, pdi := fun y hy h => I.pdi y hy fun h' => h (up h'), dlo := I.dlo,
          dhi := fun b hb => (I.dhi b hb).imp id fun ⟨z, c, m1, m2, m3⟩ => ⟨z, c, m1, up m2, m3⟩,
          sm := I.sm, er := fun z b c m1 m2 m3 => I.er z b c m1 (er m1 m2 m3) m3,
          ei := fun z b c z' b' c' m1 m2 m3 m4 m5 m6 => I.ei z b c z' b' c' m1 (er m1 m2 m3) m3 m4 (er m4 m5 m6) m6,
          sl := fun k y m h1 h2 h3 h4 => by
            by_cases hk : x.2.2.dst = some k
            · rw [hk, getD_put (by rw [I.sz]; rw [hk] at hd; exact hd), if_pos rfl]
              exact hv k y m hk h2 h3 h4
            · have e : (a.put x.2.2.dst v).tmps.getD k undef = a.tmps.getD k undef := by
                cases hdd : x.2.2.dst with
                | none => rfl
                | some d => rw [getD_put (by rw [I.sz]; rw [hdd] at hd; exact hd), if_neg (fun e => hk (by rw [hdd, e]))]
              rw [e]
              exact I.sl k y m (fun z hz hzk => by
                rcases (in_set hi).1 (h1 z hz hzk) with h | h
                · exact h
                · have := R.idx hz hx h; subst this; exact absurd hzk hk) h2 h3 h4
          defs := by cases hdd : x.2.2.dst <;> exact I.defs
          sz := hsz, le := I.le, size := I.size, env := I.env, drawn := I.drawn, keep := I.keep,
          new := fun b hb => I.new b (hb.imp id fun ⟨z, c, m1, m2, m3⟩ => ⟨z, c, m1, er m1 m2 m3, m3⟩) }
noncomputable def rs (T : Tr CV) (B : Nat → Prop) : Operand → Option CV := open Classical in fun
 | .tmp k => if B k then none else T.get (Ps.of k)
 | y => ev T y
theorem Iv.free (R : Rn P cal ops l s0 sF) (I : Iv P cal ops l s0 sF g0 w0 N l1 l2 s S g a w) {x : Row} (hx : x ∈ l) (hr : ∀ j ∈ edg x.2.2, In S j) : ∀ k ∈ x.2.2.looksAt ops, ∀ z ∈ l, z.2.2.dst = some k → In S z.1 := fun k hk z hz hd => by
 obtain ⟨u, v, e⟩ := List.append_of_mem hx; have hz' := hz; rw [e] at hz'; rcases List.mem_append.1 hz' with hz' | hz'
 ·exact R.pl.anc _ I.cl x hx hr _ ((prO_dst ((R.rel e).1 hz')).2.2 k hd hk)
 ·rcases List.mem_cons.1 hz' with rfl | hz'
  ·have := R.pl.self z hx; unfold selfO at this; rw [hd] at this; simp only [Bool.not_eq_true'] at this; rw [← Bool.not_eq_true, List.contains_iff_mem] at this; exact absurd hk this
  ·exact absurd hk ((prO_dst ((R.rel e).2 hz')).2.1 k hd).1
theorem Iv.opd (R : Rn P cal ops l s0 sF) (I : Iv P cal ops l s0 sF g0 w0 N l1 l2 s S g a w) {x : Row} {u v : List Row} {s1 : D4} (hx : l = u ++ x :: v) (h1 : runD P cal ops.toList u s0 = some s1) (hr : ∀ j ∈ edg x.2.2, In S j) {m : Ps} (hm1 : s1.2.2.2.val ≤ m.val) (hm2 : s.2.2.2.val ≤ m.val) :
    (∀ pr, pop P x.2.2.op (ev sF.2.1) = some pr → PRok P (g.cut m) (execOp a.eval x.2.2) pr) ∧ ∀ b, wnt ops.toList sF.2.1 x.2.2.guard = some b → Region.wanted x.2.2 (yielded ops a.tmps) = b := by
  have hmem : x ∈ l := by rw [hx]; simp
  have fr := I.free R hmem hr
  have aft : ∀ k ∈ x.2.2.looksAt ops, Aft P cal ops l s0 k m := fun k hk u' z v' s2 e hd hs2 => by
    refine Nat.le_trans ?_ hm1
    -- z stands ahead of x
    have hzm : z ∈ l := by rw [e]; simp
    have hz := hzm
    rw [hx] at hz
    rcases List.mem_append.1 hz with hz | hz
    · obtain ⟨p, q, hpq⟩ := List.append_of_mem hz
      have e' : l = p ++ z :: (q ++ x :: v) := by rw [hx, hpq]; simp
      have := R.spl e e'
      subst this
      rw [hpq] at h1
      have h1' : runD P cal ops.toList ((u' ++ [z]) ++ q) s0 = some s1 := by simpa using h1
      obtain ⟨s2', b1, b2⟩ := runD_app h1'
      rw [hs2] at b1; cases b1
      exact runD_up R.up b2
    · rcases List.mem_cons.1 hz with rfl | hz
      · have := R.pl.self z hzm
        unfold selfO at this
        rw [hd] at this
        simp only [Bool.not_eq_true'] at this
        rw [← Bool.not_eq_true, List.contains_iff_mem] at this
        exact absurd hk this
      · exact absurd hk ((prO_dst ((R.rel hx).2 hz)).2.1 k hd).1
  let B : Nat → Prop := fun k => k ∉ x.2.2.looksAt ops
  have hrl : Rl (g.cut m) (rs sF.2.1 B) a.eval := fun y c hc => by
    cases y with
    | tmp k =>
      simp only [rs] at hc
      split at hc
      · cases hc
      · rename_i hk
        have hk' : k ∈ x.2.2.looksAt ops := Classical.not_not.1 hk
        exact I.sl k c m (fr k hk') hc (aft k hk') hm2
    | const v => exact cvOf_ok hc
    | func f => cases hc; exact ⟨#[], #[], rfl, rfl, rfl⟩
    | global n => cases hc
  have hsee : ∀ k ∈ x.2.2.looksAt ops, rs sF.2.1 B (.tmp k) = sF.2.1.get (Ps.of k) := fun k hk => by
    simp only [rs]; rw [if_neg (fun h : B k => h hk)]
  refine ⟨fun pr hp => pop_ok hrl x.2.2 ?_, fun b hb => ?_⟩
  · rw [← hp]
    refine pop_congr _ fun y hy => ?_
    cases y with
    | tmp k => exact hsee k (by unfold Oper.looksAt; exact List.mem_append_left _ (List.mem_filterMap.2 ⟨.tmp k, by simpa using hy, rfl⟩))
    | const v => rfl
    | func f => rfl
    | global n => rfl
  · -- the guard's slot alone
    have hSR : SR (g.cut m) (match x.2.2.guard with
        | some (j, _) => match (ops[j]?).bind (·.dst) with
          | some d => (Tr.lf).set (sF.2.1.get (Ps.of d)) (Ps.of d)
          | none => .lf
        | none => .lf) a := by
      refine ⟨fun k y hy => ?_, I.defs⟩
      split at hy
      · rename_i j w hg
        split at hy
        · rename_i d hdd
          by_cases e : k = d
          · subst e
            rw [Tr.get_set] at hy
            have hk : k ∈ x.2.2.looksAt ops := by unfold Oper.looksAt; rw [hg]; simp [hdd]
            exact I.sl k y m (fr k hk) hy (aft k hk) hm2
          · rw [Tr.get_ne _ _ (fun h => e (Ps.of_inj h).symm), Tr.get_lf] at hy; cases hy
        · rw [Tr.get_lf] at hy; cases hy
      · rw [Tr.get_lf] at hy; cases hy
    refine wnt_ok hSR ?_
    rw [← hb]
    cases hg : x.2.2.guard with
    | none => rfl
    | some q =>
      obtain ⟨j, wn⟩ := q
      simp only [wnt]
      cases hj : ops.toList[j]? with
      | none => rfl
      | some o =>
        rw [Array.getElem?_toList] at hj
        simp only [hj, Option.bind_some]
        cases hdd : o.dst with
        | none => rfl
        | some d => simp only [Tr.get_set]
theorem Sm.world {g : Gs} {h : Ps → Option CB} {w w' : World} (hs : Sm g h w) (hw : ∀ b, h b ≠ none → w'.heap[g.μ b]? = w.heap[g.μ b]?) : Sm g h w' :=
 ⟨hs.dom, fun b c hb => by rw [hw b (by rw [hb]; simp)]; exact hs.obj b c hb, hs.inj⟩
theorem OR.lt {g : Gs} {b : Ps} {c : CB} {w : World} {k : Nat} (h : OR g b c w.heap[k]?) : k < w.heap.size := by
 apply Nat.lt_of_not_le; intro hle; rw [Array.getElem?_eq_none hle] at h; cases c <;> (obtain ⟨_, h⟩ := h; first | (obtain ⟨_, h, _⟩ := h; cases h) | (obtain ⟨h, _⟩ := h; cases h))
theorem Iv.ahead (R : Rn P cal ops l s0 sF) (I : Iv P cal ops l s0 sF g0 w0 N l1 l2 s S g a w) {x : Row} (hx : x ∈ l2) : ∃ u2 v s1, l2 = u2 ++ x :: v ∧ l = (l1 ++ u2) ++ x :: v ∧ runD P cal ops.toList (l1 ++ u2) s0 = some s1 ∧ runD P cal ops.toList u2 s = some s1 ∧ s.2.2.2.val ≤ s1.2.2.2.val := by
 obtain ⟨u2, v, e⟩ := List.append_of_mem hx; have hl : l = (l1 ++ u2) ++ x :: v := by rw [I.eq, e]; simp
 have hr := R.run; rw [hl] at hr; obtain ⟨s1, h1, _⟩ := runD_app hr; obtain ⟨s', h2, h3⟩ := runD_app h1; rw [I.st] at h2; cases h2; exact ⟨u2, v, s1, e, hl, h1, h3, runD_up R.up h3⟩
theorem Iv.alloc (R : Rn P cal ops l s0 sF) (I : Iv P cal ops l s0 sF g0 w0 N l1 l2 s S g a w) {x : Row} (hx : x ∈ l2) (hi : x.1 < S.size) (hun : ¬ In S x.1) (hr : ∀ j ∈ edg x.2.2, In S j) (hA : isA x.2.2 = true) (hd : dstOk N x.2.2.dst)
    (hw : wnt ops.toList sF.2.1 x.2.2.guard = some true) {c : CB} {f : Ps → CV} (hp : pop P x.2.2.op (ev sF.2.1) = some (.al c f)) :
    ∃ v w' g', Rv P (execOp a.eval x.2.2) w w' v ∧ Iv P cal ops l s0 sF g0 w0 N l1 l2 s (S.setIfInBounds x.1 true) g' (a.put x.2.2.dst v) w' := by
  obtain ⟨u2, vv, s1, hl2, hl, h1, h1', hle⟩ := I.ahead R hx
  have hAr : Ar P cal ops l s0 sF x s1.2.2.2 c := ⟨_, _, s1, f, hl, h1, hw, hA, hp, rfl⟩
  have hmem : x ∈ l := by rw [hl]; simp
  obtain ⟨ob, v, w', r1, r2, r3, r4, r5⟩ := (I.opd R hl h1 hr (m := s1.2.2.2) (Nat.le_refl _) hle).1 _ hp w
  generalize hb : s1.2.2.2 = b at *
  have hnD : ¬ g.D b := fun hD => by
    rcases I.dhi b hD with h | ⟨z, c', m1, m2, m3⟩
    · omega
    · obtain ⟨rfl, _⟩ := Ar.uniq R m3 hAr
      exact hun m2
  have hsucc := Ps.val_succ b
  have hga := Gs.le_add hnD w.heap.size (osz ob)
  have hlt : ∀ {p q c'}, OR (g.cut q) p c' w.heap[g.μ p]? → g.μ p < w.heap.size := fun h => h.lt
  obtain ⟨q1, q2⟩ := r5 ((g.add b w.heap.size (osz ob)).cut b.succ) b (fun p hp' => ⟨⟨(hga p hp'.1).1, by have := hp'.2; omega⟩, (hga p hp'.1).2⟩) ⟨.inl rfl, by omega⟩ (by simp [Gs.cut, Gs.add]) (by simp [Gs.cut, Gs.add])
  have up : ∀ {j}, In S j → In (S.setIfInBounds x.1 true) j := fun h => (in_set hi).2 (.inl h)
  have old : ∀ {k}, k < w.heap.size → w'.heap[k]? = w.heap[k]? := fun hk => by rw [r2, Array.getElem?_push_lt hk, Array.getElem?_eq_getElem hk]
  have hμ : ∀ {p}, p ≠ b → (g.add b w.heap.size (osz ob)).μ p = g.μ p := fun hp' => by simp [Gs.add, hp']
  have hμb : (g.add b w.heap.size (osz ob)).μ b = w.heap.size := by simp [Gs.add]
  have live : ∀ p, s.2.2.1.get p ≠ none → p ≠ b ∧ g.μ p < w.heap.size := fun p hp' => by
    cases e : s.2.2.1.get p with
    | none => exact absurd e hp'
    | some c' => exact ⟨fun e' => hnD (by rw [← e']; exact (I.sm.dom p c' e).1), (I.sm.obj p c' e).lt⟩
  have er : ∀ {z p c'}, z ∈ l2 → In (S.setIfInBounds x.1 true) z.1 → Ar P cal ops l s0 sF z p c' → (p = b ∧ c' = c) ∨ (p ≠ b ∧ In S z.1) := fun {z p c'} m1 m2 m3 => by
    by_cases e : p = b
    · subst e; exact .inl ⟨rfl, (Ar.uniq R m3 hAr).2⟩
    · rcases (in_set hi).1 m2 with h | h
      · exact .inr ⟨e, h⟩
      · have := R.idx (by rw [I.eq]; exact List.mem_append_right _ m1) hmem h; subst this
        exact absurd (Ar.id R m3 hAr) e
  refine ⟨v, w', g.add b w.heap.size (osz ob), r1, ?_⟩
  exact { eq := I.eq, st := I.st, cl := I.cl.set R hmem hi hr, w1 := fun y hy h => up (I.w1 y hy h),
          w2 := fun y hy h hin => by
            rcases (in_set hi).1 hin with h' | h'
            · exact I.w2 y hy h h'
            · have := R.idx (by rw [I.eq]; exact List.mem_append_right _ hy) hmem h'; subst this
              rw [isA_W hA] at h; cases h
          pdo := I.pdo, pdi := fun y hy h => I.pdi y hy fun h' => h (up h'), dlo := fun p hp' => .inr (I.dlo p hp'),
          dhi := fun p hp' => by
            rcases hp' with rfl | hp'
            · exact .inr ⟨x, c, hx, (in_set hi).2 (.inr rfl), hAr⟩
            · exact (I.dhi p hp').imp id fun ⟨z, c', m1, m2, m3⟩ => ⟨z, c', m1, up m2, m3⟩
          sm := (I.sm.mono (Gs.cut_mono hga _)).world fun p hp' => by
            obtain ⟨l1', l2'⟩ := live p hp'
            show w'.heap[(g.add b w.heap.size (osz ob)).μ p]? = w.heap[(g.add b w.heap.size (osz ob)).μ p]?
            rw [hμ l1']; exact old l2'
          er := fun z p c' m1 m2 m3 => by
            rcases er m1 m2 m3 with ⟨rfl, rfl⟩ | ⟨hne, hin⟩
            · refine ⟨.inl rfl, ?_, fun p' hp' => ?_⟩
              · rw [hμb, r2, Array.getElem?_push_size]; exact q1
              · obtain ⟨l1', l2'⟩ := live p' hp'
                rw [hμ l1', hμb]; omega
            · obtain ⟨e1, e2, e3⟩ := I.er z p c' m1 hin m3
              refine ⟨.inr e1, ?_, fun p' hp' => ?_⟩
              · rw [hμ hne, old e2.lt]; exact e2.mono (Gs.cut_mono hga _) ⟨e1, by have := Ps.val_succ p; omega⟩
              · obtain ⟨l1', l2'⟩ := live p' hp'
                rw [hμ l1', hμ hne]; exact e3 p' hp'
          ei := fun z p c' z' p' c2 m1 m2 m3 m4 m5 m6 e => by
            rcases er m1 m2 m3 with ⟨rfl, rfl⟩ | ⟨hne, hin⟩
            · rcases er m4 m5 m6 with ⟨rfl, rfl⟩ | ⟨hne', hin'⟩
              · rfl
              · rw [hμb, hμ hne'] at e
                have := (I.er z' p' c2 m4 hin' m6).2.1.lt; omega
            · rcases er m4 m5 m6 with ⟨rfl, rfl⟩ | ⟨hne', hin'⟩
              · rw [hμb, hμ hne] at e
                have := (I.er z p c' m1 hin m3).2.1.lt; omega
              · rw [hμ hne, hμ hne'] at e
                exact I.ei z p c' z' p' c2 m1 hin m3 m4 hin' m6 e
          sl := fun k y m t1 t2 t3 t4 => by
            by_cases hk : x.2.2.dst = some k
            · rw [hk, getD_put (by rw [I.sz]; rw [hk] at hd; exact hd), if_pos rfl]
              have hrun := R.run
              rw [hl] at hrun
              obtain ⟨s1', s2, e1, e2, e3⟩ := runD_at hrun
              rw [h1] at e1; cases e1
              have hs2 := R.made hl h1 e2 hw hp hA
              have hT := R.out hl e3 hk
              rw [hs2] at hT
              simp only [hk, pt, Tr.get_set, t2, Option.some.injEq] at hT
              subst hT
              have h3 := t3 _ _ _ _ hl hk (runD_snoc h1 e2)
              rw [hs2] at h3
              have h3 : s1.2.2.2.succ.val ≤ m.val := h3
              rw [hb] at h3 ⊢
              exact q2.mono (Gs.cut_le h3)
            · have e : (a.put x.2.2.dst v).tmps.getD k undef = a.tmps.getD k undef := by
                cases hdd : x.2.2.dst with
                | none => rfl
                | some d => rw [getD_put (by rw [I.sz]; rw [hdd] at hd; exact hd), if_neg (fun e => hk (by rw [hdd, e]))]
              rw [e]
              exact (I.sl k y m (fun z hz hzk => by
                rcases (in_set hi).1 (t1 z hz hzk) with h | h
                · exact h
                · have := R.idx hz hmem h; subst this; exact absurd hzk hk) t2 t3 t4).mono (Gs.cut_mono hga _)
          defs := by cases hdd : x.2.2.dst <;> exact I.defs
          sz := by rw [size_put]; exact I.sz
          le := I.le.trans hga, size := by rw [r2]; have := I.size; simp; omega
          env := r3.trans I.env, drawn := Nat.le_trans I.drawn r4
          keep := fun k hk hn => by rw [old (Nat.lt_of_lt_of_le hk I.size)]; exact I.keep k hk hn
          new := fun p hp' => by
            rcases hp' with hp' | ⟨z, c', m1, m2, m3⟩
            · rw [hμ (live p hp').1]; exact I.new p (.inl hp')
            · rcases er m1 m2 m3 with ⟨rfl, rfl⟩ | ⟨hne, hin⟩
              · right; rw [hμb]; exact I.size
              · rw [hμ hne]; exact I.new p (.inr ⟨z, c', m1, hin, m3⟩) }
theorem cE1_eq {a b : CV} (h : cE1 a b = true) : a = b := by
  unfold cE1 at h
  split at h <;> first
    | rfl
    | (cases h; done)
    | (simp only [sEq_eq, decide_eq_true_eq] at h; rw [h]; done)
    | (simp only [Bool.and_eq_true, beq_iff_eq] at h
       first
         | (rw [h]; done)
         | (rw [h.1, h.2]; done)
         | (rw [h.1.1.1, h.1.1.2, h.1.2, h.2]; done))
theorem cEL_eq : ∀ {a b : List CV}, cEL a b = true → a = b
 | [], [], _ => rfl
 | _ :: _, _ :: _, h => by simp only [cEL, Bool.and_eq_true] at h; rw [cE1_eq h.1, cEL_eq h.2]
theorem cEq_eq {a b : CV} (h : cEq a b = true) : a = b := by
 unfold cEq at h; split at h
 ·rw [cEL_eq h]
 ·rw [cEL_eq h]
 ·exact cE1_eq h
theorem chk_spec {h : Tr CB} {m : Nat} : ∀ {pd pd' : List Pd}, chk h m pd = some pd' → (∀ e ∈ pd', ∃ c, h.get e.2.1 = some c ∧ e.2.2.1 c = some e.2.2.2) ∧ ∀ e ∈ pd, m.testBit e.1 = false → e ∈ pd'
 | [], _, h => by cases h; exact ⟨by simp, by simp⟩
 | (i, b, f, x) :: r, pd', hc => by
  simp only [chk] at hc; split at hc
  ·rename_i hb; obtain ⟨h1, h2⟩ := chk_spec hc; refine ⟨h1, fun e he hm => ?_⟩; rcases List.mem_cons.1 he with rfl | he
   ·rw [hb] at hm; cases hm
   ·exact h2 e he hm
  ·split at hc
   ·rename_i c hg; split at hc
    ·rename_i y hy; split at hc
     ·rename_i heq; split at hc
      ·rename_i l hl; cases hc; obtain ⟨h1, h2⟩ := chk_spec hl; refine ⟨fun e he => ?_, fun e he hm => ?_⟩
       ·rcases List.mem_cons.1 he with rfl | he
        ·exact ⟨c, hg, by rw [cEq_eq heq]; exact hy⟩
        ·exact h1 e he
       ·rcases List.mem_cons.1 he with rfl | he
        ·exact List.mem_cons_self ..
        ·exact List.mem_cons_of_mem _ (h2 e he hm)
      ·cases hc
     ·cases hc
    ·cases hc
   ·cases hc
theorem Iv.whole (R : Rn P cal ops l s0 sF) (hc : CalOk P cal) {x : Row} (I : Iv P cal ops l s0 sF g0 w0 N l1 (x :: l2) s S g a w) (hi : x.1 < S.size) (hr : ∀ j ∈ edg x.2.2, In S j) (hW : isW x.2.2 = true) (hd : dstOk N x.2.2.dst)
    {s' : D4} (hst : Stp P cal ops.toList x s s') {K : Act → World → Prop} {Q : Exit → Act → World → Prop}
    (hK : ∀ g' a' w', Iv P cal ops l s0 sF g0 w0 N (l1 ++ [x]) l2 s' (S.setIfInBounds x.1 true) g' a' w' → K a' w') :
    if Region.wanted x.2.2 (yielded ops a.tmps) = true then x.2.2.wp P a w K Q ∨ (x.2.2.asks P a w ∧ LetsOut Q) else K (a.put x.2.2.dst undef) w := by
  have hmem : x ∈ l := by rw [I.eq]; simp
  have hl : l = l1 ++ x :: l2 := I.eq
  obtain ⟨see1, see2, see3⟩ := R.see hl I.st
  obtain ⟨op1, op2⟩ := I.opd R hl I.st hr (m := s.2.2.2) (Nat.le_refl _) (Nat.le_refl _)
  have hsn := runD_snoc I.st hst
  have up := did_up R.up (did hst)
  have hend : runD P cal ops.toList l2 s' = some sF := by
    have := R.run
    rw [hl] at this
    obtain ⟨s1, s2, e1, e2, e3⟩ := runD_at this
    rw [I.st] at e1; cases e1
    cases hst.symm.trans e2
    exact e3
  have inup : ∀ {j}, In S j → In (S.setIfInBounds x.1 true) j := fun h => (in_set hi).2 (.inl h)
  have ndup : ∀ {z}, z ∈ l2 → z.1 ≠ x.1 := fun hz e => (prO_dst ((R.rel hl).2 hz)).1 e.symm
  have indn : ∀ {z}, z ∈ l2 → In (S.setIfInBounds x.1 true) z.1 → In S z.1 := fun hz h => ((in_set hi).1 h).resolve_right (ndup hz)
  have nAr : ∀ {b c}, ¬ Ar P cal ops l s0 sF x b c := fun ⟨_, _, _, _, _, _, _, h4, _⟩ => by rw [isA_W h4] at hW; cases hW
  have tl : ∀ {z b c}, z ∈ x :: l2 → Ar P cal ops l s0 sF z b c → z ∈ l2 := fun hm ha => by
    rcases List.mem_cons.1 hm with rfl | hm
    · exact absurd ha nAr
    · exact hm
  -- numbers of what is made behind it
  have far : ∀ {z b c}, z ∈ l2 → Ar P cal ops l s0 sF z b c → s'.2.2.2.val ≤ b.val := fun {z b c} hz ha => by
    obtain ⟨u, v, e⟩ := List.append_of_mem hz
    obtain ⟨u', v', s1, f, e1, e2, _, _, _, e6⟩ := ha
    have e' : l = (l1 ++ [x] ++ u) ++ z :: v := by rw [hl, e]; simp
    have := R.spl e1 e'
    subst this
    obtain ⟨s3, h1, h2⟩ := runD_app e2
    rw [hsn] at h1; cases h1
    rw [e6]; exact runD_up R.up h2
  have tmp : ∀ {v : Value} {k : Nat}, x.2.2.dst ≠ some k → (a.put x.2.2.dst v).tmps.getD k undef = a.tmps.getD k undef := fun {v k} hk => by
    cases hdd : x.2.2.dst with
    | none => rfl
    | some d => rw [getD_put (by rw [I.sz]; rw [hdd] at hd; exact hd), if_neg (fun e => hk (by rw [hdd, e]))]
  have tmp1 : ∀ {v : Value} {k : Nat}, x.2.2.dst = some k → (a.put x.2.2.dst v).tmps.getD k undef = v := fun {v k} hk => by
    rw [hk, getD_put (by rw [I.sz]; rw [hk] at hd; exact hd), if_pos rfl]
  have prod : ∀ {k}, x.2.2.dst ≠ some k → (∀ z ∈ l, z.2.2.dst = some k → In (S.setIfInBounds x.1 true) z.1) → ∀ z ∈ l, z.2.2.dst = some k → In S z.1 := fun hk h z hz hzk => by
    rcases (in_set hi).1 (h z hz hzk) with h | h
    · exact h
    · have := R.idx hz hmem h; subst this; exact absurd hzk hk
  have w1 : ∀ y ∈ l1 ++ [x], isW y.2.2 = true ∨ isA y.2.2 = true → In (S.setIfInBounds x.1 true) y.1 := fun y hy h => by
    rcases List.mem_append.1 hy with hy | hy
    · exact inup (I.w1 y hy h)
    · simp only [List.mem_singleton] at hy; subst hy; exact (in_set hi).2 (.inr rfl)
  have pdi : ∀ pd' : List Pd, (∀ e ∈ s.1, x.2.1.testBit e.1 = false → e ∈ pd') → ∀ y ∈ l1 ++ [x], ¬ In (S.setIfInBounds x.1 true) y.1 → wnt ops.toList sF.2.1 y.2.2.guard = some true → ∀ b f, pop P y.2.2.op (ev sF.2.1) = some (.rd b f) → ∃ z, (y.1, b, f, z) ∈ pd' ∧ ∀ d, y.2.2.dst = some d → sF.2.1.get (Ps.of d) = some z := by
    intro pd' hpd y hy hn h2 b f h3
    rcases List.mem_append.1 hy with hy | hy
    · have hnS : ¬ In S y.1 := fun h => hn (inup h)
      obtain ⟨z, m1, m2⟩ := I.pdi y hy hnS h2 b f h3
      refine ⟨z, hpd _ m1 ?_, m2⟩
      rw [← Bool.not_eq_true]
      exact fun hb => hnS (R.pl.anc _ I.cl x hmem hr _ hb)
    · simp only [List.mem_singleton] at hy; subst hy; exact absurd ((in_set hi).2 (.inr rfl)) hn
  cases did hst with
  | no hw e =>
    rw [← see2] at hw
    rw [op2 _ hw]
    refine hK g _ w { eq := by rw [hl]; simp, st := hsn, cl := I.cl.set R hmem hi hr, w1 := w1, w2 := fun y hy h hin => I.w2 y (List.mem_cons_of_mem _ hy) h (indn hy hin),
                      pdo := by rw [e]; exact I.pdo, pdi := by rw [e]; exact pdi _ fun _ h _ => h, dlo := by rw [e]; exact I.dlo,
                      dhi := fun b hb => by rw [e]; exact (I.dhi b hb).imp id fun ⟨z, c, m1, m2, m3⟩ => ⟨z, c, tl m1 m3, inup m2, m3⟩,
                      sm := by rw [e]; exact I.sm, er := fun z b c m1 m2 m3 => by rw [e]; exact I.er z b c (List.mem_cons_of_mem _ m1) (indn m1 m2) m3,
                      ei := fun z b c z2 b' c' m1 m2 m3 m4 m5 m6 => I.ei z b c z2 b' c' (List.mem_cons_of_mem _ m1) (indn m1 m2) m3 (List.mem_cons_of_mem _ m4) (indn m4 m5) m6,
                      sl := fun k y m h1 h2 h3 h4 => ?_, defs := by cases hdd : x.2.2.dst <;> exact I.defs, sz := by rw [size_put]; exact I.sz, le := I.le, size := I.size, env := I.env, drawn := I.drawn, keep := I.keep,
                      new := fun b hb => I.new b (by rw [e] at hb; exact hb.imp id fun ⟨z, c, m1, m2, m3⟩ => ⟨z, c, List.mem_cons_of_mem _ m1, indn m1 m2, m3⟩) }
    by_cases hk : x.2.2.dst = some k
    · rw [tmp1 hk]
      have := R.out hl hend hk
      rw [e, h2] at this
      simp only [hk, pt, Tr.get_set, Option.some.injEq] at this
      subst this
      exact ⟨#[], rfl, rfl⟩
    · rw [tmp hk]; exact I.sl k y m (prod hk h1) h2 h3 (by rw [e] at h4; exact h4)
  | v hw h => rw [hW] at h; cases h
  | r hw hR => rw [isR_W hR] at hW; cases hW
  | a hw hA => rw [isA_W hA] at hW; cases hW
  | w hw _ pr hp y h' n' hrun pd' hchk e =>
    rw [← see2] at hw
    rw [← see3] at hp
    rw [op2 _ hw, if_pos rfl]
    have hbl : Bl s.2.2.2 (g.cut s.2.2.2) := fun b => ⟨fun h => h.2, fun h => ⟨I.dlo b h, h⟩⟩
    refine .inl (run_ok hc (op1 pr hp) hrun hbl I.sm fun v g' w' t1 t2 t3 t4 => ?_)
    have hn' : s.2.2.2.val ≤ n'.val := by rw [e] at up; exact up
    have far' : ∀ {z b c}, z ∈ l2 → Ar P cal ops l s0 sF z b c → n'.val ≤ b.val := fun hz ha => by have := far hz ha; rw [e] at this; exact this
    let G : Gs := ⟨fun p => if p.val < n'.val then g'.μ p else g.μ p, fun p => if p.val < n'.val then g'.K p else g.K p, fun p => p.val < n'.val ∨ g.D p⟩
    have F1 : g'.le (G.cut n') := fun p hp' => by
      have := (t3 p).1 hp'
      exact ⟨⟨.inl this, this⟩, if_pos this, if_pos this⟩
    have F2 : g.le G := fun p hp' => by
      refine ⟨.inr hp', ?_⟩
      by_cases hlt : p.val < n'.val
      · have hps : p.val < s.2.2.2.val := by
          rcases I.dhi p hp' with h | ⟨z, c, m1, m2, m3⟩
          · exact h
          · have := far' (tl m1 m3) m3; omega
        have := t1.le p ⟨hp', hps⟩
        exact ⟨(if_pos hlt).trans this.2.1, (if_pos hlt).trans this.2.2⟩
      · exact ⟨if_neg hlt, if_neg hlt⟩
    have sm' := t2.mono F1
    have Gfar : ∀ {b : Ps}, n'.val ≤ b.val → G.μ b = g.μ b := fun hb => if_neg (by omega)
    have liveμ : ∀ p, h'.get p ≠ none → G.μ p = g'.μ p := fun p hp' => by
      cases e2 : h'.get p with
      | none => exact absurd e2 hp'
      | some c => exact if_pos ((t3 p).1 (t2.dom p c e2))
    have stay : ∀ {z b c}, z ∈ l2 → In S z.1 → Ar P cal ops l s0 sF z b c → w'.heap[g.μ b]? = w.heap[g.μ b]? := fun m1 m2 m3 => by
      obtain ⟨e1, e2, e3⟩ := I.er _ _ _ (List.mem_cons_of_mem _ m1) m2 m3
      exact t1.keep _ e2.lt fun p hp' => e3 p hp'
    refine hK G _ w' { eq := by rw [hl]; simp, st := hsn, cl := I.cl.set R hmem hi hr, w1 := w1, w2 := fun y hy h hin => I.w2 y (List.mem_cons_of_mem _ hy) h (indn hy hin),
                       pdo := by rw [e]; exact (chk_spec hchk).1, pdi := by rw [e]; exact pdi _ (chk_spec hchk).2, dlo := fun b hb => by rw [e] at hb; exact .inl hb,
                       dhi := fun b hb => by
                         rw [e]
                         rcases hb with hb | hb
                         · exact .inl hb
                         · rcases I.dhi b hb with h | ⟨z, c, m1, m2, m3⟩
                           · left; show b.val < n'.val; omega
                           · exact .inr ⟨z, c, tl m1 m3, inup m2, m3⟩
                       sm := by rw [e]; exact sm'
                       er := fun z b c m1 m2 m3 => by
                         obtain ⟨e1, e2, e3⟩ := I.er z b c (List.mem_cons_of_mem _ m1) (indn m1 m2) m3
                         have hf := far' m1 m3
                         refine ⟨.inr e1, ?_, fun p hp' hpq => ?_⟩
                         · rw [Gfar hf, stay m1 (indn m1 m2) m3]
                           exact e2.mono (Gs.cut_mono F2 _) ⟨e1, by have := Ps.val_succ b; omega⟩
                         · rw [e] at hp'
                           rw [liveμ p hp', Gfar hf] at hpq
                           rcases t1.new p hp' with ⟨b0, h0, h1⟩ | h1
                           · exact e3 b0 h0 (h1.trans hpq)
                           · have := e2.lt; omega
                       ei := fun z b c z2 b' c' m1 m2 m3 m4 m5 m6 he => by
                         rw [Gfar (far' m1 m3), Gfar (far' m4 m6)] at he
                         exact I.ei z b c z2 b' c' (List.mem_cons_of_mem _ m1) (indn m1 m2) m3 (List.mem_cons_of_mem _ m4) (indn m4 m5) m6 he
                       sl := fun k q m h1 h2 h3 h4 => ?_, defs := by cases hdd : x.2.2.dst <;> exact I.defs, sz := by rw [size_put]; exact I.sz
                       le := I.le.trans F2, size := Nat.le_trans I.size t1.size, env := t1.env.trans I.env, drawn := Nat.le_trans I.drawn t1.drawn
                       keep := fun k hk hn => by
                         rw [t1.keep k (Nat.lt_of_lt_of_le hk I.size) fun p hp' hpk => ?_]
                         · exact I.keep k hk hn
                         · rcases I.new p (.inl hp') with ⟨b0, h0, h1⟩ | h1
                           · exact hn b0 h0 (h1.trans hpk)
                           · have hpk : g.μ p = k := hpk
                             omega
                       new := fun p hp' => by
                         rcases hp' with hp' | ⟨z, c, m1, m2, m3⟩
                         · rw [e] at hp'
                           rw [liveμ p hp']
                           rcases t1.new p hp' with ⟨b0, h0, h1⟩ | h1
                           · rw [← h1]; exact I.new b0 (.inl h0)
                           · exact .inr (Nat.le_trans I.size h1)
                         · rw [Gfar (far' m1 m3)]
                           exact I.new p (.inr ⟨z, c, List.mem_cons_of_mem _ m1, indn m1 m2, m3⟩) }
    by_cases hk : x.2.2.dst = some k
    · rw [tmp1 hk]
      have := R.out hl hend hk
      rw [e, h2] at this
      simp only [hk, pt, Tr.get_set, Option.some.injEq] at this
      subst this
      rw [e] at h4
      exact (t4.mono F1).mono (Gs.cut_le h4)
    · rw [tmp hk]
      exact (I.sl k q m (prod hk h1) h2 h3 (Nat.le_trans up h4)).mono (Gs.cut_mono F2 _)
end Go.EX

namespace Go.EX
open Go.AX
variable {P : Program} {cal : Cal} {ops : Array Oper} {l : List Row} {s0 sF : D4} {g0 : Gs} {w0 : World} {N : Nat} {l1 l2 : List Row} {s : D4} {S : Array Bool} {g : Gs} {a : Act} {w : World}
theorem Iv.advs (R : Rn P cal ops l s0 sF) : ∀ {m r l1 : List Row} {s : D4}, Iv P cal ops l s0 sF g0 w0 N l1 (m ++ r) s S g a w → (∀ z ∈ m, isW z.2.2 = false ∧ (isA z.2.2 = true → In S z.1)) →
 ∃ s', Iv P cal ops l s0 sF g0 w0 N (l1 ++ m) r s' S g a w
 | [], r, l1, s, I, _ => ⟨s, by simpa using I⟩
 | z :: m, r, l1, s, I, h => by
  have hr := R.run; rw [I.eq] at hr; obtain ⟨s1, s2, e1, e2, e3⟩ := runD_at hr; rw [I.st] at e1; cases e1; obtain ⟨h1, h2⟩ := h z (List.mem_cons_self ..); obtain ⟨s', I'⟩ := Iv.advs R (I.adv R e2 h1 h2) fun y hy => h y (List.mem_cons_of_mem _ hy); exact ⟨s', by simpa using I'⟩
theorem Rn.calm (R : Rn P cal ops l s0 sF) : ∀ {m l1 r : List Row} {s s1 : D4}, runD P cal ops.toList l1 s0 = some s → l = l1 ++ m ++ r → runD P cal ops.toList m s = some s1 → (∀ z ∈ m, isW z.2.2 = false) →
 ∀ b c, s1.2.2.1.get b = some c → s.2.2.1.get b = some c ∨ ∃ z ∈ m, Ar P cal ops l s0 sF z b c
 | [], _, _, _, _, _, _, h, _, b, c, hb => by cases h; exact .inl hb
 | z :: m, l1, r, s, s1, h1, hl, h2, hm, b, c, hb => by
  rw [runD_cons] at h2; split at h2
  ·rename_i s2 hst; have hl' : l = l1 ++ z :: (m ++ r) := by rw [hl]; simp
   rcases Rn.calm R (l1 := l1 ++ [z]) (r := r) (runD_snoc h1 hst) (by rw [hl]; simp) h2 (fun y hy => hm y (List.mem_cons_of_mem _ hy)) b c hb with h | ⟨y, m1, m2⟩
   ·obtain ⟨_, see2, see3⟩ := R.see hl' h1; cases did hst with
    | no _ e => rw [e] at h; exact .inl h
    | w _ hW => rw [hm z (List.mem_cons_self ..)] at hW; cases hW
    | v _ _ _ _ e => rw [e] at h; exact .inl h
    | r _ _ _ _ _ _ _ _ _ e => rw [e] at h; exact .inl h
    | a hw hA c' f hp e =>
     rw [e] at h
     change (s.2.2.1.set (some c') s.2.2.2).get b = some c at h
     rw [set_get] at h; split at h
     ·rename_i hbn; cases h; exact .inr ⟨z, List.mem_cons_self .., l1, _, s, f, hl', h1, by rw [see2]; exact hw, hA, by rw [see3]; exact hp, hbn⟩
     ·exact .inl h
   ·exact .inr ⟨y, List.mem_cons_of_mem _ m1, m2⟩
  ·cases h2
theorem Iv.next (R : Rn P cal ops l s0 sF) (hc : CalOk P cal) (I : Iv P cal ops l s0 sF g0 w0 N l1 l2 s S g a w) {x : Row} (hx : x ∈ l) (hi : x.1 < S.size) (hun : ¬ In S x.1) (hr : ∀ j ∈ edg x.2.2, In S j) (hd : dstOk N x.2.2.dst)
    {K : Act → World → Prop} {Q : Exit → Act → World → Prop} (hK : ∀ l1' l2' s' g' a' w', Iv P cal ops l s0 sF g0 w0 N l1' l2' s' (S.setIfInBounds x.1 true) g' a' w' → K a' w') :
    if Region.wanted x.2.2 (yielded ops a.tmps) = true then x.2.2.wp P a w K Q ∨ (x.2.2.asks P a w ∧ LetsOut Q) else K (a.put x.2.2.dst undef) w := by
  by_cases hW : isW x.2.2 = true
  · -- all that is ahead of it is past
    have hx2 : x ∈ l2 := by
      rw [I.eq] at hx
      rcases List.mem_append.1 hx with h | h
      · exact absurd (I.w1 x h (.inl hW)) hun
      · exact h
    obtain ⟨m1, m2, e⟩ := List.append_of_mem hx2
    have hl : l = (l1 ++ m1) ++ x :: m2 := by rw [I.eq, e]; simp
    have I' := I
    rw [e] at I'
    have hmem : x ∈ l := by rw [hl]; simp
    obtain ⟨s1, I1⟩ := Iv.advs R I' fun z hz => by
      have hp := (R.rel hl).1 (List.mem_append_right l1 hz)
      have hin : (isW z.2.2 = true ∨ isA z.2.2 = true) → In S z.1 := fun h => R.pl.anc _ I.cl x hmem hr _ (prO_bit hp (.inl ⟨hW, h⟩))
      refine ⟨?_, fun h => hin (.inr h)⟩
      rw [← Bool.not_eq_true]
      exact fun h => I.w2 z (by rw [e]; exact List.mem_append_left _ hz) h (hin (.inl h))
    have hrun := R.run
    rw [hl] at hrun
    obtain ⟨s1', s2, e1, e2, _⟩ := runD_at hrun
    rw [I1.st] at e1; cases e1
    exact I1.whole R hc hi hr hW hd e2 fun g' a' w' I2 => hK _ _ _ g' a' w' I2
  · have hW : isW x.2.2 = false := by simpa using hW
    obtain ⟨u, v, hl⟩ := List.append_of_mem hx
    have hrun := R.run
    rw [hl] at hrun
    obtain ⟨s1, s2, e1, e2, e3⟩ := runD_at hrun
    obtain ⟨_, see2, see3⟩ := R.see hl e1
    have up := did_up R.up (did e2)
    obtain ⟨m0, k1, k2, k3⟩ : ∃ m0 : Ps, s1.2.2.2.val ≤ m0.val ∧ s.2.2.2.val ≤ m0.val ∧ ∀ m : Ps, s1.2.2.2.val ≤ m.val → s.2.2.2.val ≤ m.val → m0.val ≤ m.val := by
      by_cases h : s1.2.2.2.val ≤ s.2.2.2.val
      · exact ⟨s.2.2.2, h, Nat.le_refl _, fun m _ h => h⟩
      · exact ⟨s1.2.2.2, Nat.le_refl _, by omega, fun m h _ => h⟩
    obtain ⟨op1, op2⟩ := I.opd R hl e1 hr k1 k2
    have aft : ∀ {d m}, x.2.2.dst = some d → Aft P cal ops l s0 d m → s1.2.2.2.val ≤ m.val := fun hdd ha => Nat.le_trans up (ha u x v s2 hl hdd (runD_snoc e1 e2))
    -- a value is put
    have put : (∀ b c, ¬ Ar P cal ops l s0 sF x b c) → ∀ {y : CV} {vv : Value}, (∀ d, x.2.2.dst = some d → s2.2.1.get (Ps.of d) = some y) → VR (g.cut m0) y vv → K (a.put x.2.2.dst vv) w := fun hA {y vv} hy hv =>
      hK _ _ _ g _ w (I.quiet R hx hi hr hW hA hd fun d z m hdd hz ha hm => by
        have := R.out hl e3 hdd
        rw [hz, hy d hdd] at this
        cases this
        exact hv.mono (Gs.cut_le (k3 m (aft hdd ha) hm)))
    have yield : ∀ {vv}, wnt ops.toList sF.2.1 x.2.2.guard = some true → Rv P (execOp a.eval x.2.2) w w vv → K (a.put x.2.2.dst vv) w → if Region.wanted x.2.2 (yielded ops a.tmps) = true then x.2.2.wp P a w K Q ∨ (x.2.2.asks P a w ∧ LetsOut Q) else K (a.put x.2.2.dst undef) w := fun hw hv hk => by
      rw [op2 _ hw, if_pos rfl]
      left
      unfold Oper.wp
      rcases hv with e | ⟨e, rfl⟩ <;> rw [e] <;> exact hk
    cases did e2 with
    | no hw e =>
      rw [← see2] at hw
      rw [op2 _ hw]
      exact put (fun b c ⟨_, _, _, _, _, _, h3, _⟩ => by rw [hw] at h3; cases h3) (y := .un) (fun d hdd => by rw [e]; simp only [hdd, pt, Tr.get_set]) ⟨#[], rfl, rfl⟩
    | w _ h => rw [hW] at h; cases h
    | v hw _ y hp e =>
      rw [← see2] at hw
      rw [← see3] at hp
      obtain ⟨vv, h1, h2⟩ := op1 _ hp
      exact yield hw (h2 w) (put (fun b c ⟨_, _, _, _, _, _, _, _, h5, _⟩ => by rw [hp] at h5; cases h5) (fun d hdd => by rw [e]; simp only [hdd, pt, Tr.get_set]) h1)
    | r hw hR b f hp c y hb hf e =>
      rw [← see2] at hw
      rw [← see3] at hp
      have nA : ∀ b c, ¬ Ar P cal ops l s0 sF x b c := fun b c ⟨_, _, _, _, _, _, _, _, h5, _⟩ => by rw [hp] at h5; cases h5
      obtain ⟨⟨hD, _⟩, hread⟩ := op1 _ hp
      have hy : ∀ d, x.2.2.dst = some d → s2.2.1.get (Ps.of d) = some y := fun d hdd => by rw [e]; simp only [hdd, pt, Tr.get_set]
      rw [hl] at hx
      have hx' := hx
      rw [← hl, I.eq] at hx'
      rcases List.mem_append.1 hx' with hx1 | hx2
      · obtain ⟨y', m1, m2⟩ := I.pdi x hx1 hun hw b f hp
        obtain ⟨c', q1, q2⟩ := I.pdo _ m1
        obtain ⟨vv, h1, h2⟩ := hread w c' y' ((I.sm.obj b c' q1).mono (Gs.cut_le k2) (I.sm.dom b c' q1)) q2
        exact yield hw h2 (put nA (y := y') (fun d hdd => by rw [← R.out hl e3 hdd]; exact m2 d hdd) h1)
      · obtain ⟨u2, v2, s1', f1, f2, f3, f4, f5⟩ := I.ahead R hx2
        have := R.spl hl f2
        subst this
        rw [e1] at f3; cases f3
        have hcalm := R.calm (r := x :: v2) I.st (by rw [f2]) f4 fun z hz => by
          rw [← Bool.not_eq_true]
          intro h
          have hmem : x ∈ l := by rw [f2]; simp
          have hp' := (R.rel f2).1 (List.mem_append_right l1 hz)
          exact I.w2 z (by rw [f1]; exact List.mem_append_left _ hz) h (R.pl.anc _ I.cl x hmem hr _ (prO_bit hp' (.inr ⟨hR, h⟩)))
        have hor : OR (g.cut m0) b c w.heap[g.μ b]? := by
          rcases hcalm b c hb with h | ⟨z, m1, m2⟩
          · exact (I.sm.obj b c h).mono (Gs.cut_le k2) (I.sm.dom b c h)
          · rcases I.dhi b hD with h | ⟨z', c', n1, n2, n3⟩
            · obtain ⟨p, q, hpq⟩ := List.append_of_mem m1
              have hz2 : z ∈ l2 := by rw [f1]; exact List.mem_append_left _ m1
              obtain ⟨_, _, s3, _, a2, a3, _, a5⟩ := I.ahead R hz2
              obtain ⟨_, _, s4, _, b1, b2, _, _, _, b6⟩ := m2
              have := R.spl a2 b1
              subst this
              rw [a3] at b2; cases b2
              rw [b6] at h; omega
            · obtain ⟨rfl, rfl⟩ := Ar.uniq R n3 m2
              obtain ⟨q1, q2, _⟩ := I.er _ b _ n1 n2 n3
              refine q2.mono (Gs.cut_le (Nat.le_trans ?_ k1)) ⟨q1, by have := Ps.val_succ b; omega⟩
              obtain ⟨p, q, hpq⟩ := List.append_of_mem m1
              obtain ⟨uu, vv', s4, ff, b1, b2, b3, b4, b5, b6⟩ := m2
              have hl3 : l = (l1 ++ p) ++ z' :: (q ++ x :: v2) := by rw [f2, hpq]; simp
              have := R.spl b1 hl3
              subst this
              have e1' : runD P cal ops.toList ((l1 ++ p) ++ z' :: q) s0 = some s1 := by rw [← e1, hpq]; simp
              obtain ⟨s5, s6, c1, c2, c3⟩ := runD_at e1'
              rw [b2] at c1; cases c1
              have := R.made hl3 b2 c2 b3 b5 b4
              have h6 := runD_up R.up c3
              rw [this] at h6
              rw [b6]; exact h6
        obtain ⟨vv, h1, h2⟩ := hread w c y hor hf
        exact yield hw h2 (put nA hy h1)
    | a hw hA c f hp e =>
      rw [← see2] at hw
      rw [← see3] at hp
      have hx2 : x ∈ l2 := by
        rw [I.eq] at hx
        rcases List.mem_append.1 hx with h | h
        · exact absurd (I.w1 x h (.inr hA)) hun
        · exact h
      obtain ⟨vv, w', g', h1, I'⟩ := I.alloc R hx2 hi hun hr hA hd hw hp
      rw [op2 _ hw, if_pos rfl]
      left
      unfold Oper.wp
      rcases h1 with e | ⟨e, rfl⟩ <;> rw [e] <;> exact hK _ _ _ g' _ w' I'
theorem edg_mem {o : Oper} {j : Nat} : j ∈ edg o ↔ ∃ e ∈ o.after, Region.binds .any e = true ∧ e.on = j := by
 unfold edg; rw [List.mem_filterMap]; constructor
 ·rintro ⟨e, h1, h2⟩; split at h2
  ·rename_i hb; cases h2; exact ⟨e, by simpa using h1, hb, rfl⟩
  ·cases h2
 ·rintro ⟨e, h1, h2, h3⟩; exact ⟨e, by simpa using h1, by rw [h2]; simp [h3]⟩
theorem Plan.ready (hp : Plan ops l) {C : Nat → Prop} : ∀ {v u : List Row}, l = u ++ v → (∀ x ∈ u, C x.1) → (∃ x ∈ v, ¬ C x.1) → ∃ x ∈ l, ¬ C x.1 ∧ ∀ j ∈ edg x.2.2, C j
 | [], _, _, _, h => by obtain ⟨x, hx, _⟩ := h; cases hx
 | x :: v, u, e, hu, h => by
  by_cases hx : C x.1
  ·refine hp.ready (u := u ++ [x]) (v := v) (by rw [e]; simp) (fun y hy => ?_) ?_
   ·rcases List.mem_append.1 hy with hy | hy
    ·exact hu y hy
    ·simp only [List.mem_singleton] at hy; subst hy; exact hx
   ·obtain ⟨y, hy, hn⟩ := h; rcases List.mem_cons.1 hy with rfl | hy
    ·exact absurd hx hn
    ·exact ⟨y, hy, hn⟩
  ·refine ⟨x, by rw [e]; simp, hx, fun j hj => ?_⟩; obtain ⟨y, hy, rfl⟩ := hp.deps u x v e j hj; exact hu y hy
theorem Iv.all (R : Rn P cal ops l s0 sF) (hc : CalOk P cal) (hd : dstsOk N ops.toList = true) (hb : Bl s0.2.2.2 g0) {Q : Exit → Act → World → Prop}
    (hK : ∀ g' a' w', To g0 s0.2.2.1.get w0 g' sF.2.2.1.get w' → Ok N g' sF.2.1 sF.2.2.1 sF.2.2.2 a' w' → Q .normal a' w') :
    ∀ (fuel : Nat) {l1 l2 : List Row} {s : D4} {S : Array Bool} {g : Gs} {a : Act} {w : World}, Iv P cal ops l s0 sF g0 w0 N l1 l2 s S g a w → S.size = ops.size → S.toList.count false = fuel → wpAny P .any ops Q fuel S a w := by
  have inS : ∀ {S : Array Bool} {j : Nat}, S.size = ops.size → j < ops.size → (S.getD j true = false ↔ ¬ In S j) := fun {S j} hs hj => by
    unfold In
    simp only [Array.getD_eq_getD_getElem?, Array.getElem?_eq_getElem (show j < S.size by omega), Option.getD_some, Bool.not_eq_true]
  -- when none is ready
  have done : ∀ {l1 l2 : List Row} {s : D4} {S : Array Bool} {g : Gs} {a : Act} {w : World}, Iv P cal ops l s0 sF g0 w0 N l1 l2 s S g a w → S.size = ops.size → Region.ready .any ops S = [] → Q .normal a w := by
    intro l1 l2 s S g a w I hs h0
    have hall : ∀ x ∈ l, In S x.1 := fun x hx => Classical.byContradiction fun hn => by
      obtain ⟨y, h1, h2, h3⟩ := R.pl.ready (u := []) (v := l) (C := In S) rfl (by simp) ⟨x, hx, hn⟩
      have hy := R.pl.row y h1
      have : y.1 ∈ Region.ready .any ops S := mem_ready.2 ⟨(inS hs (Array.getElem?_eq_some_iff.1 hy).1).2 h2, y.2.2, hy, fun e he hbi => h3 _ (edg_mem.2 ⟨e, he, hbi, rfl⟩)⟩
      rw [h0] at this; cases this
    obtain ⟨s', I'⟩ := Iv.advs R (m := l2) (r := []) (by simpa using I) fun z hz => by
      have hin := hall z (by rw [I.eq]; exact List.mem_append_right _ hz)
      refine ⟨?_, fun _ => hin⟩
      rw [← Bool.not_eq_true]
      exact fun h => I.w2 z hz h hin
    have hl := I'.eq
    rw [List.append_nil] at hl
    have hst := I'.st
    rw [← hl, R.run] at hst
    cases hst
    have hup := runD_up R.up R.run
    refine hK (g.cut sF.2.2.2) a w ⟨fun b hbD => ?_, I'.size, I'.env, I'.drawn, I'.keep, fun b hbl => I'.new b (.inl hbl)⟩ ⟨⟨fun k y hy => ?_, I'.defs⟩, I'.sm, fun b => ⟨fun h => h.2, fun h => ⟨I'.dlo b h, h⟩⟩, I'.sz⟩
    · have h1 := I'.le b hbD
      have h2 := (hb b).1 hbD
      exact ⟨⟨h1.1, by omega⟩, h1.2⟩
    · refine I'.sl k y _ (fun z hz _ => hall z hz) hy (fun u z v s2 e hdz hs2 => ?_) (Nat.le_refl _)
      have hr := R.run
      rw [e] at hr
      obtain ⟨s3, s4, c1, c2, c3⟩ := runD_at hr
      rw [runD_snoc c1 c2] at hs2; cases hs2
      exact runD_up R.up c3
  intro fuel
  induction fuel with
  | zero =>
    intro l1 l2 s S g a w I hs hcnt
    have h0 : Region.ready .any ops S = [] := by
      cases e : Region.ready .any ops S with
      | nil => rfl
      | cons j js =>
        have hj := mem_ready.1 (show j ∈ Region.ready .any ops S by rw [e]; simp)
        obtain ⟨h1, o, ho, _⟩ := hj
        have hlt : j < S.size := by rw [hs]; exact (Array.getElem?_eq_some_iff.1 ho).1
        have : false ∈ S.toList := by
          simp only [Array.getD_eq_getD_getElem?, Array.getElem?_eq_getElem hlt, Option.getD_some] at h1
          rw [← h1]; simp
        rw [List.count_eq_zero] at hcnt
        exact absurd this hcnt
    exact ⟨h0, done I hs h0⟩
  | succ fuel ih =>
    intro l1 l2 s S g a w I hs hcnt
    refine ⟨fun h0 => done I hs h0, fun j hj => ?_⟩
    obtain ⟨h1, o, ho, hdep⟩ := mem_ready.1 hj
    have hlt := (Array.getElem?_eq_some_iff.1 ho).1
    obtain ⟨x, hx, rfl⟩ := R.pl.all j hlt
    have hxo := R.pl.row x hx
    rw [ho] at hxo; cases hxo
    have hun := (inS hs hlt).1 h1
    have hd1 : dstOk N x.2.2.dst := by
      unfold dstsOk at hd
      rw [List.all_eq_true] at hd
      have := hd x.2.2 (by simpa using Array.mem_of_getElem? ho)
      unfold dstOk
      split at this
      · rename_i d hdd; simpa [hdd] using this
      · rename_i hdd; simp [hdd]
    have := Iv.next (Q := Q) (K := wpAny P .any ops Q fuel (S.setIfInBounds x.1 true)) R hc I hx (by rw [hs]; exact hlt) hun (fun j hj => by
      obtain ⟨e, he, hbi, rfl⟩ := edg_mem.1 hj
      exact hdep e he hbi) hd1 fun l1' l2' s' g' a' w' I' => ih I' (by simpa using hs) (by
        have hlt' : x.1 < S.toList.length := by simpa [hs] using hlt
        have hf : S.toList[x.1] = false := by
          simp only [Array.getD_eq_getD_getElem?, Array.getElem?_eq_getElem (show x.1 < S.size by rw [hs]; exact hlt), Option.getD_some] at h1
          simpa using h1
        rw [Array.toList_setIfInBounds, List.count_set hlt', hcnt, hf]
        simp)
    unfold wpOp
    rw [ho]
    exact this
theorem drawn_ok (hc : CalOk P cal) (hu : CalUp cal) (hp : plan ops = some l) {t t' : Tr CV} {h h' : Tr CB} {n n' : Ps} {pd' : List Pd} (hr : runD P cal ops.toList l ([], t, h, n) = some (pd', t', h', n')) (hk : Ok N g t h n a w) (hd : dstsOk N ops.toList = true) {Q : Exit → Act → World → Prop}
    (hK : ∀ g' a' w', To g h.get w g' h'.get w' → Ok N g' t' h' n' a' w' → Q .normal a' w') : wpAny P .any ops Q ops.size (Array.replicate ops.size false) a w := by
  have hpl := plan_spec hp
  have R : Rn P cal ops l ([], t, h, n) (pd', t', h', n') := ⟨hpl, hr, hu⟩
  have nin : ∀ j, ¬ In (Array.replicate ops.size false) j := fun j => by
    unfold In
    simp only [Array.getD_eq_getD_getElem?, Array.getElem?_replicate]
    split <;> simp
  refine Iv.all (g0 := g) (w0 := w) R hc hd hk.bl hK ops.size (l1 := []) (l2 := l) (s := ([], t, h, n)) (g := g)
    { eq := rfl, st := rfl, cl := fun x _ h => absurd h (nin _), w1 := fun x hx => (by cases hx), w2 := fun x _ _ => nin _, pdo := fun e he => (by cases he), pdi := fun x hx => (by cases hx), dlo := fun b h => (hk.bl b).2 h,
      dhi := fun b h => .inl ((hk.bl b).1 h), sm := hk.hp.mono fun b hb => ⟨⟨hb, (hk.bl b).1 hb⟩, rfl, rfl⟩, er := fun z b c _ h => absurd h (nin _), ei := fun z b c z' b' c' _ h => absurd h (nin _),
      sl := fun k y m h1 h2 h3 h4 => ?_, defs := hk.sl.defs, sz := hk.sz, le := .refl g, size := Nat.le_refl _, env := rfl, drawn := Nat.le_refl _, keep := fun _ _ _ => rfl,
      new := fun b hb => by
        rcases hb with hb | ⟨z, c, _, h, _⟩
        · exact .inl ⟨b, hb, rfl⟩
        · exact absurd h (nin _) } (by simp) (by simp)
  have : t'.get (Ps.of k) = t.get (Ps.of k) := runD_slot hr fun x hx hd => nin _ (h1 x hx hd)
  have h2 : t'.get (Ps.of k) = some y := h2
  rw [this] at h2
  have h4 : n.val ≤ m.val := h4
  have hle : g.le (g.cut m) := fun b hb => ⟨⟨hb, by have := (hk.bl b).1 hb; omega⟩, rfl, rfl⟩
  exact (hk.sl.val k y h2).mono hle
/-! ### What comes behind all -/
theorem Oper.wp_Q {o : Oper} {a : Act} {w : World} {K : Act → World → Prop} {Q Q' : Exit → Act → World → Prop} (hq : ∀ e a w, e ≠ .normal → Q e a w → Q' e a w) (hh : o.wp P a w K Q) : o.wp P a w K Q' := by
 have hl : LetsOut Q → LetsOut Q' := fun ⟨a, w, h⟩ => ⟨a, w, hq _ a w (by simp) h⟩; unfold Oper.wp at *; generalize (execOp a.eval o).run P w = r at *; cases r with
 | ok n w' =>
  cases n <;> simp only [Oper.upon] at hh ⊢ <;>
   first
    | exact hh
    | exact Calls.mono hh (fun e w'' he => by cases e <;> first | exact he | exact hq _ _ _ (by simp) he | exact hl he)
 | halt x w' => cases x <;> simp only [Oper.upon] at hh ⊢ <;> first | exact hh | exact hq _ _ _ (by simp) hh
theorem grdOk_ok {n : Nat} : ∀ {l : List Oper}, grdOk n l = true → ∀ o ∈ l, ∀ j b, o.guard = some (j, b) → j < n
 | [], _, _, h, _, _, _ => by cases h
 | x :: r, h, o, ho, j, b, hg => by
  simp only [grdOk, Bool.and_eq_true] at h; rcases List.mem_cons.1 ho with rfl | ho
  ·rw [hg] at h; exact Nat.lt_of_succ_le (Nat.le_of_ble_eq_true h.1)
  ·exact grdOk_ok h.2 o ho j b hg
structure Tail (ops' : Array Oper) (z : Oper) : Prop where
  cov : ∀ j, j < ops'.size → j ∈ edg z
  dep : ∀ (i : Nat) (o : Oper), ops'[i]? = some o → ∀ j ∈ edg o, j < ops'.size
  last : ∀ j ∈ edg z, j < ops'.size
  grd : ∀ o ∈ ops'.toList, ∀ j b, o.guard = some (j, b) → j < ops'.size
  alive : ∀ S : Array Bool, S.size = ops'.size → Region.ready .any ops' S = [] → ∀ j, j < ops'.size → S.getD j true = true
def TQ (P : Program) (ops : Array Oper) (z : Oper) (Q : Exit → Act → World → Prop) (e : Exit) (a : Act) (w : World) : Prop :=
 match e with
 | .normal => if Region.wanted z (yielded ops a.tmps) = true then z.wp P a w (fun a w => Q .normal a w) Q ∨ (z.asks P a w ∧ LetsOut Q) else Q .normal (a.put z.dst undef) w
 | _ => False
theorem wpAny_tail {ops' : Array Oper} {z : Oper} (T : Tail ops' z) {Q : Exit → Act → World → Prop} : ∀ (f : Nat) (S : Array Bool) (a : Act) (w : World), S.size = ops'.size → wpAny P .any ops' (TQ P (ops'.push z) z Q) f S a w → wpAny P .any (ops'.push z) Q (f + 1) (S.push false) a w := by
 have old : ∀ {j : Nat}, j < ops'.size → (ops'.push z)[j]? = ops'[j]? := fun {j} hj => by rw [Array.getElem?_push_lt hj, Array.getElem?_eq_getElem hj]
 have lst : (ops'.push z)[ops'.size]? = some z := Array.getElem?_push_size; have sd : ∀ {S : Array Bool} {j : Nat} {b : Bool}, S.size = ops'.size → j < ops'.size → (S.push false).getD j b = S.getD j b := fun {S j b} hs hj => by
  simp only [Array.getD_eq_getD_getElem?]; rw [Array.getElem?_push_lt (by omega), Array.getElem?_eq_getElem (by omega)]
 have rdy : ∀ {S : Array Bool}, S.size = ops'.size → ∀ j, j ∈ Region.ready .any (ops'.push z) (S.push false) → (j ∈ Region.ready .any ops' S) ∨ (j = ops'.size ∧ ∀ i, i < ops'.size → S.getD i false = true) := fun {S} hs j hj => by
  obtain ⟨h1, o, h2, h3⟩ := mem_ready.1 hj; by_cases hlt : j < ops'.size
  ·left; rw [old hlt] at h2; rw [sd hs hlt] at h1; refine mem_ready.2 ⟨h1, o, h2, fun e he hb => ?_⟩; have := h3 e he hb
   rwa [sd hs (T.dep j o h2 _ (edg_mem.2 ⟨e, he, hb, rfl⟩))] at this
  ·right; have hj' := (Array.getElem?_eq_some_iff.1 h2).1; rw [Array.size_push] at hj'; have : j = ops'.size := by omega
   subst this; rw [lst] at h2; cases h2; refine ⟨rfl, fun i hi => ?_⟩; obtain ⟨e, he, hb, rfl⟩ := edg_mem.1 (T.cov i hi); have := h3 e he hb
   rwa [sd hs hi] at this
 have has : ∀ {S : Array Bool}, S.size = ops'.size → Region.ready .any ops' S = [] → ops'.size ∈ Region.ready .any (ops'.push z) (S.push false) := fun {S} hs h0 => by
  have hall := T.alive S hs h0; refine mem_ready.2 ⟨by simp only [Array.getD_eq_getD_getElem?, ← hs, Array.getElem?_push_size, Option.getD_some], z, lst, fun e he hb => ?_⟩; have hlt : e.on < ops'.size := T.last e.on (edg_mem.2 ⟨e, he, hb, rfl⟩); rw [sd hs hlt]; have := hall _ hlt; simp only [Array.getD_eq_getD_getElem?, Array.getElem?_eq_getElem (show e.on < S.size by omega), Option.getD_some] at this ⊢; exact this
 have sub : ∀ {S : Array Bool}, S.size = ops'.size → ∀ j, j ∈ Region.ready .any ops' S → j ∈ Region.ready .any (ops'.push z) (S.push false) := fun {S} hs j hj => by
  obtain ⟨h1, o, h2, h3⟩ := mem_ready.1 hj; have hlt := (Array.getElem?_eq_some_iff.1 h2).1; refine mem_ready.2 ⟨by rw [sd hs hlt]; exact h1, o, by rw [old hlt]; exact h2, fun e he hb => ?_⟩; rw [sd hs (T.dep j o h2 _ (edg_mem.2 ⟨e, he, hb, rfl⟩))]; exact h3 e he hb
 have fin : ∀ {S : Array Bool} {a : Act} {w : World} (f : Nat), S.size = ops'.size → (∀ i, i < ops'.size → S.getD i false = true) → TQ P (ops'.push z) z Q .normal a w → wpOp P (ops'.push z) Q ops'.size (wpAny P .any (ops'.push z) Q f ((S.push false).setIfInBounds ops'.size true)) a w := fun {S a w} f hs hall hT => by
  have hdone : Region.ready .any (ops'.push z) ((S.push false).setIfInBounds ops'.size true) = [] := by
   cases e : Region.ready .any (ops'.push z) ((S.push false).setIfInBounds ops'.size true) with
   | nil => rfl
   | cons j js =>
    have hj := mem_ready.1 (show j ∈ Region.ready .any (ops'.push z) ((S.push false).setIfInBounds ops'.size true) by rw [e]; simp); obtain ⟨h1, o, h2, _⟩ := hj; have hj' := (Array.getElem?_eq_some_iff.1 h2).1; rw [Array.size_push] at hj'; simp only [Array.getD_eq_getD_getElem?] at h1; by_cases hlt : j < ops'.size
    ·rw [Array.getElem?_setIfInBounds_ne (by omega), Array.getElem?_push_lt (by omega)] at h1; have := hall j hlt; simp only [Array.getD_eq_getD_getElem?, Array.getElem?_eq_getElem (show j < S.size by omega), Option.getD_some] at this h1; rw [this] at h1; cases h1
    ·have : j = ops'.size := by omega
     subst this; rw [Array.getElem?_setIfInBounds_self_of_lt (by simp; omega)] at h1; simp at h1
  unfold wpOp; rw [lst]; simp only [TQ] at hT; simp only; split
  ·rename_i hw; rw [if_pos hw] at hT; exact hT.imp (Oper.wp_mono fun a w h => wpAny_done hdone h f) id
  ·rename_i hw; rw [if_neg hw] at hT; exact wpAny_done hdone hT f
 intro f
 induction f with
 | zero =>
  intro S a w hs ⟨h0, hT⟩; have hall : ∀ i, i < ops'.size → S.getD i false = true := fun i hi => by
   have := T.alive S hs h0 i hi; simp only [Array.getD_eq_getD_getElem?, Array.getElem?_eq_getElem (show i < S.size by omega), Option.getD_some] at this ⊢; exact this
  refine ⟨fun h => ?_, fun i hi => ?_⟩
  ·have := has hs h0; rw [h] at this; cases this
  ·rcases rdy hs i hi with h | ⟨rfl, _⟩
   ·rw [h0] at h; cases h
   ·exact fin 0 hs hall hT
 | succ f ih =>
  intro S a w hs ⟨h1, h2⟩; refine ⟨fun h => ?_, fun i hi => ?_⟩
  ·cases e : Region.ready .any ops' S with
   | nil => have := has hs e; rw [h] at this; cases this
   | cons j js => have := sub hs j (by rw [e]; simp); rw [h] at this; cases this
  ·rcases rdy hs i hi with h | ⟨rfl, hall⟩
   ·have hlt : i < ops'.size := by
     obtain ⟨_, o, h3, _⟩ := mem_ready.1 h; exact (Array.getElem?_eq_some_iff.1 h3).1
    have h3 := h2 i h; unfold wpOp at h3 ⊢; rw [old hlt]; cases ho : ops'[i]? with
    | none => rw [Array.getElem?_eq_getElem hlt] at ho; cases ho
    | some o =>
     rw [ho] at h3; simp only at h3 ⊢; have hset : (S.push false).setIfInBounds i true = (S.setIfInBounds i true).push false := by
      apply Array.ext'; rw [Array.toList_setIfInBounds, Array.toList_push, Array.toList_push, Array.toList_setIfInBounds, List.set_append_left _ _ (by simp; omega)]
     rw [hset]; have hyl : Region.wanted o (yielded (ops'.push z) a.tmps) = Region.wanted o (yielded ops' a.tmps) := by
      unfold Region.wanted; cases hg : o.guard with
      | none => rfl
      | some p =>
       obtain ⟨j, b⟩ := p; have hj := T.grd o (by simpa using Array.mem_of_getElem? ho) j b hg; simp only [yielded, old hj]
     rw [hyl]; split
     ·rename_i hw; rw [if_pos hw] at h3; left; rcases h3 with h3 | ⟨_, _, _, h4⟩
      ·exact Oper.wp_Q (fun e a w hne h => by cases e <;> first | exact absurd rfl hne | exact h.elim) (Oper.wp_mono (fun a w h => ih _ a w (by simpa using hs) h) h3)
      ·exact h4.elim
     ·rename_i hw; rw [if_neg hw] at h3; exact ih _ _ w (by simpa using hs) h3
   ·have h0 : Region.ready .any ops' S = [] := by
     cases e : Region.ready .any ops' S with
     | nil => rfl
     | cons j js =>
      obtain ⟨h4, o, h5, _⟩ := mem_ready.1 (show j ∈ Region.ready .any ops' S by rw [e]; simp); have hlt := (Array.getElem?_eq_some_iff.1 h5).1; have := hall j hlt; simp only [Array.getD_eq_getD_getElem?, Array.getElem?_eq_getElem (show j < S.size by omega), Option.getD_some] at this h4; rw [this] at h4; cases h4
    exact fin (f + 1) hs hall (h1 h0)
def TlOk (P : Program) (cal : Cal) (ops : Array Oper) (s s' : Tr CV × Tr CB × Ps) : Option Oper → Prop
 | none => s' = s
 | some z => opr P cal ops.toList z s.1 s.2.1 s.2.2 = some s'
theorem drawnT_ok (hc : CalOk P cal) (hu : CalUp cal) {lo : List Oper} {zo : Option Oper} (hp : planT ops = some (lo, l, zo)) {t t1 t' : Tr CV} {h h1 h' : Tr CB} {n n1 n' : Ps} {pd' : List Pd} (hr : runD P cal lo l ([], t, h, n) = some (pd', t1, h1, n1))
 (hz : TlOk P cal ops (t1, h1, n1) (t', h', n') zo) (hk : Ok N g t h n a w) (hd : dstsOk N ops.toList = true) {Q : Exit → Act → World → Prop}
 (hK : ∀ g' a' w', To g h.get w g' h'.get w' → Ok N g' t' h' n' a' w' → Q .normal a' w') : wpAny P .any ops Q ops.size (Array.replicate ops.size false) a w := by
 unfold planT at hp; split at hp
 ·rename_i l0 hpl; cases hp; cases hz; exact drawn_ok hc hu hpl hr hk hd hK
 ·split at hp
  ·rename_i z hzl; split at hp
   ·rename_i l0 hpl; split at hp
    ·rename_i hT; cases hp; simp only [TlOk] at hz; have hops : ops = ops.toList.dropLast.toArray.push z := by
      apply Array.ext'; rw [Array.toList_push]; have hne : ops.toList ≠ [] := fun e => by rw [e] at hzl; cases hzl
      have := List.dropLast_concat_getLast hne; rw [List.getLast?_eq_some_getLast hne] at hzl; cases hzl; exact this.symm
     generalize hdl : ops.toList.dropLast = dl at *; have P1 := plan_spec hpl; simp only [Bool.and_eq_true, List.all_eq_true, List.any_eq_true] at hT; obtain ⟨⟨hT1, hT3⟩, hT2⟩ := hT; have T : Tail dl.toArray z := by
      refine ⟨fun j hj => ?_, fun i o ho j hj => ?_, fun j hj => ?_, fun o ho j b hg => ?_, fun S hs h0 j hj => ?_⟩
      ·obtain ⟨i, h1, h2⟩ := hT1 j (by simpa using hj); rw [← Nat.eq_of_beq_eq_true h2]; exact h1
      ·obtain ⟨x, hx, rfl⟩ := P1.all i (Array.getElem?_eq_some_iff.1 ho).1; have := P1.row x hx; rw [ho] at this; cases this; obtain ⟨u, v, e⟩ := List.append_of_mem hx; obtain ⟨y, hy, rfl⟩ := P1.deps u x v e j hj; exact (Array.getElem?_eq_some_iff.1 (P1.row y (by rw [e]; exact List.mem_append_left _ hy))).1
      ·have := hT3 j hj; simpa using Nat.lt_of_succ_le (Nat.le_of_ble_eq_true this)
      ·simpa using grdOk_ok hT2 o (by simpa using ho) j b hg
      ·apply Classical.byContradiction; intro hn; obtain ⟨x0, hx0, rfl⟩ := P1.all j hj; have inS : ∀ {j : Nat}, j < dl.toArray.size → (S.getD j true = false ↔ ¬ In S j) := fun {j} hj => by
        unfold In; simp only [Array.getD_eq_getD_getElem?, Array.getElem?_eq_getElem (show j < S.size by omega), Option.getD_some, Bool.not_eq_true]
       obtain ⟨y, h1, h2, h3⟩ := P1.ready (u := []) (v := l) (C := In S) rfl (by simp) ⟨x0, hx0, (inS hj).1 (by simpa using hn)⟩; have hy := P1.row y h1; have : y.1 ∈ Region.ready .any dl.toArray S := mem_ready.2 ⟨(inS (Array.getElem?_eq_some_iff.1 hy).1).2 h2, y.2.2, hy, fun e he hbi => h3 _ (edg_mem.2 ⟨e, he, hbi, rfl⟩)⟩; rw [h0] at this; cases this
     have hlist : ops.toList = dl ++ [z] := by rw [hops]; simp
     have hdz : dstsOk N dl = true ∧ dstOk N z.dst := by
      rw [hlist] at hd; unfold dstsOk at hd; simp only [List.all_append, Bool.and_eq_true] at hd; exact ⟨hd.1, (dstsOk_cons (l := []) hd.2).1⟩
     have key := drawn_ok (Q := TQ P (dl.toArray.push z) z Q) hc hu hpl hr hk hdz.1 fun g' a' w' b1 b2 => by
      simp only [TQ]; rw [← hops]; exact opr_ok hc hz b2 hdz.2 fun g2 a2 w2 c1 c2 => hK g2 a2 w2 (b1.trans c1) c2
     have := wpAny_tail T _ _ a w (by simp) key; rw [hops]; rw [Array.size_push]; rw [show (Array.replicate (dl.toArray.size + 1) false) = (Array.replicate dl.toArray.size false).push false from Array.replicate_succ]; exact this
    ·cases hp
   ·cases hp
  ·cases hp
end Go.EX
