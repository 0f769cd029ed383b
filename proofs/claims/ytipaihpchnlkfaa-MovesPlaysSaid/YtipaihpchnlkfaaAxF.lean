/-
  AX, part F: what any operation that only reads yields; slots and blocks in a run of operations.
-/
import Derived.Test.YtipaihpchnlkfaaAxV
namespace Go.AX

def callV (P : Program) (st : St) (c : Call) : SV × Prop :=
  match c.callee, c.args.toList, c.argTypes.toList with
  | .builtin .len, [x], [t] => match tk P t with
    | .slice => ((lenSl P st t (mv st x)).1, gc st x ∧ (lenSl P st t (mv st x)).2)
    | .string => ((lenStr (mv st x)).1, gc st x ∧ (lenStr (mv st x)).2)
    | _ => (.pv .bot, False)
  | .builtin .min, [x, y], _ => (.int (asK (mv st x)) (if asI (mv st y) < asI (mv st x) then asI (mv st y) else asI (mv st x)), gc st x ∧ gc st y ∧ isI (mv st x) ∧ isI (mv st y))
  | .builtin .max, [x, y], _ => (.int (asK (mv st x)) (if asI (mv st x) < asI (mv st y) then asI (mv st y) else asI (mv st x)), gc st x ∧ gc st y ∧ isI (mv st x) ∧ isI (mv st y))
  | _, _, _ => (.pv .bot, False)

def binV (P : Program) (op : BinOp) (t : TypeId) (x y : SV) : SV × Prop :=
  match tk P t with
  | .int => binI op x y
  | .bool => binB op x y
  | .string => binS op x y
  | .ptr => ((binP op x y).1, isPtr x ∧ (binP op x y).2)
  | .flat n => binF n op x y
  | _ => (.pv .bot, False)

def pop (P : Program) (st : St) (o : Op) : SV × Prop :=
  match o with
  | .move x => (mv st x, gc st x)
  | .assign x => (mv st x, gc st x)
  | .pick c x y => ((pickV (mv st c) (mv st x) (mv st y)).1, gc st c ∧ (asB (mv st c) = true → gc st x) ∧ (asB (mv st c) = false → gc st y) ∧ (pickV (mv st c) (mv st x) (mv st y)).2)
  | .unOp op _ x => ((unV op (mv st x)).1, gc st x ∧ (unV op (mv st x)).2)
  | .binOp op t x y _ => ((binV P op t (mv st x) (mv st y)).1, gc st x ∧ gc st y ∧ (binV P op t (mv st x) (mv st y)).2)
  | .fieldAddr t x f => ((fieldV P st t f (mv st x)).1, gc st x ∧ (fieldV P st t f (mv st x)).2)
  | .indexAddr t x i => ((idxV P st t (mv st x) (mv st i)).1, gc st x ∧ gc st i ∧ (idxV P st t (mv st x) (mv st i)).2)
  | .load t x => ((ldV P st t (mv st x)).1, gc st x ∧ (ldV P st t (mv st x)).2)
  | .extract x i => ((extV i (mv st x)).1, gc st x ∧ (extV i (mv st x)).2)
  | .field t x f => ((partV P t f (mv st x)).1, gc st x ∧ (partV P t f (mv st x)).2)
  | .convert s d x => ((cvtV P s d (mv st x)).1, gc st x ∧ (cvtV P s d (mv st x)).2)
  | .nilCheck x => ((ckV (mv st x)).1, gc st x ∧ (ckV (mv st x)).2)
  | .slice t x lo hi none => ((cutV P st t (mv st x) lo hi).1, gc st x ∧ (cutV P st t (mv st x) lo hi).2)
  | .call c => callV P st c
  | .build t ps => buildV P st t ps
  | .index t x i => ((indexV P t (mv st x) (mv st i)).1, gc st x ∧ gc st i ∧ (indexV P t (mv st x) (mv st i)).2)
  | .makeFunc f first cap => makeFV st f first cap
  | .lookup t x k ok => ((lookV P st t (mv st x) (mv st k) ok).1, gc st x ∧ gc st k ∧ (lookV P st t (mv st x) (mv st k) ok).2)
  | _ => (.pv .bot, False)

theorem tk_bool {P : Program} {t : TypeId} (h : tk P t = .bool) : P.underlying t = some .bool := by
  unfold tk at h
  split at h <;> first | assumption | (cases h; done) | (split at h <;> cases h)
theorem tk_string {P : Program} {t : TypeId} (h : tk P t = .string) : P.underlying t = some .string := by
  unfold tk at h
  split at h <;> first | assumption | (cases h; done) | (split at h <;> cases h)
theorem tk_ptr {P : Program} {t : TypeId} (h : tk P t = .ptr) : ∃ e, P.underlying t = some (.pointer e) := by
  unfold tk at h
  split at h <;> first | exact ⟨_, by assumption⟩ | (cases h; done) | (split at h <;> cases h)

theorem pop_ok {P : Program} {st : St} (o : Oper) : Pop P st o (pop P st o.op) := by
  cases hop : o.op
  case move x => exact mvV_ok o x (.inl hop)
  case assign x => exact mvV_ok o x (.inr hop)
  case pick c x y => exact pickV_ok o c x y hop
  case unOp op t x => exact unV_ok o op t x hop
  case fieldAddr t x f => exact fieldV_ok o t f x hop
  case indexAddr t x i => exact idxV_ok o t x i hop
  case load t x => exact ldV_ok o t x hop
  case extract x i => exact extV_ok o x i hop
  case field t x f => exact partV_ok o t x f hop
  case convert s d x => exact cvtV_ok o s d x hop
  case nilCheck x => exact ckV_ok o x hop
  case slice t x lo hi mx =>
    cases mx with
    | none => exact cutV_ok o t x lo hi hop
    | some m => exact fun _ _ _ _ h => h.elim
  case binOp op t x y u =>
    simp only [pop, binV]
    cases ht : tk P t with
    | int => exact binI_ok o op t u x y hop
    | bool => exact binB_ok o op t u x y hop (tk_bool ht)
    | string => exact binS_ok o op t u x y hop
    | ptr => obtain ⟨e, he⟩ := tk_ptr ht; exact binP_ok o op t u e x y hop he
    | flat n => exact binF_ok o op t u x y n hop ht
    | _ => exact fun _ _ _ _ h => h.2.2.elim
  case build t ps => exact buildV_ok o t ps hop
  case index t x i => exact indexV_ok o t x i hop
  case makeFunc f first cap => exact makeFV_ok o f first cap hop
  case lookup t x k ok => exact lookV_ok o t x k ok hop
  case call c =>
    simp only [pop, callV]
    split
    · rename_i x t h1 h2 h3
      have hc : c = { callee := .builtin .len, args := #[x], argTypes := #[t] } := by
        cases c with
        | mk a b d =>
          simp only at h1 h2 h3
          rw [h1, show b = #[x] from by rw [← Array.toArray_toList (xs := b), h2], show d = #[t] from by rw [← Array.toArray_toList (xs := d), h3]]
      rw [hc] at hop
      cases ht : tk P t with
      | slice => exact lenSl_ok o t x hop
      | string => exact lenStr_ok o t x hop (tk_string ht)
      | _ => exact fun _ _ _ _ h => h.elim
    · rename_i x y h1 h2
      intro g a w h ⟨g1, g2, i1, i2⟩
      have e2 : c.args = #[x, y] := by rw [← Array.toArray_toList (xs := c.args), h2]
      refine ⟨_, ?_, ⟨rfl, rfl⟩, trivial⟩
      have ex := int_ok h g1 i1
      have ey := int_ok h g2 i2
      simp [execOp, hop, resolve, h1, e2, ex, ey, invoke, builtin, Builtin.min_, Builtin.min2]
    · rename_i x y h1 h2
      intro g a w h ⟨g1, g2, i1, i2⟩
      have e2 : c.args = #[x, y] := by rw [← Array.toArray_toList (xs := c.args), h2]
      refine ⟨_, ?_, ⟨rfl, rfl⟩, trivial⟩
      have ex := int_ok h g1 i1
      have ey := int_ok h g2 i2
      simp [execOp, hop, resolve, h1, e2, ex, ey, invoke, builtin, Builtin.max_, Builtin.max2]
    · exact fun _ _ _ _ h => h.elim
  all_goals exact fun _ _ _ _ h => h.elim

/-! ### What is laid into memory is frozen -/
def embPos (st : St) (p : Pos) : PV × St × Prop :=
  match posGet st p with
  | .own nw e rows => (.seq nw e rows, setPos st p (.pv (.seq nw e rows)), True)
  | .omap nw es => (.amap nw es, setPos st p (.pv (.amap nw es)), True)
  | _ => (.bot, st, False)

def emb (st : St) (x : Operand) : PV × St × Prop :=
  match mv st x with
  | .pv y => (y, st, gc st x)
  | .al p => ((embPos st p).1, (embPos st p).2.1, gc st x ∧ (embPos st p).2.2)
  | .loc p lo hi => match posGet st p with
    | .own nw e rows => (.seq nw e ((rows.take hi).drop lo), setPos st p (.pv (.seq nw e rows)), gc st x)
    | _ => (.bot, st, False)
  | _ => (.bot, st, False)

theorem emb_ok {g : Gh} {st : St} {a : Act} {w : World} (h : Sim g st a w) (x : Operand) (hd : (emb st x).2.2) :
    ∃ g', g.to g' ∧ g.le g' ∧ g'.n = g.n ∧ Sim g' (emb st x).2.1 a w ∧ Fit g' (emb st x).1 (a.eval x) := by
  have hrefl : g.to g := ⟨fun _ _ h => h, rfl, rfl, rfl, rfl, rfl, h.n0, fun _ _ => rfl, fun _ _ h => h⟩
  unfold emb at hd ⊢
  split at hd
  · rename_i y hm
    obtain ⟨hf, _⟩ := mv_ok h x hd
    rw [hm] at hf
    exact ⟨g, hrefl, Gh.le.refl g, rfl, h, hf.2⟩
  · rename_i p hm
    obtain ⟨hf, ha⟩ := mv_ok h x hd.1
    rw [hm] at ha
    have hd2 := hd.2
    unfold embPos at hd2 ⊢
    split at hd2
    · rename_i nw e rows hp
      obtain ⟨g', t1, t2, t3, t4, t5, _⟩ := h.freeze (p := p) (by rw [hp]; rfl)
      rw [hp] at t4 t5
      exact ⟨g', t1, t2, t3, t5, by rw [ha (by rw [hp]; rfl)]; exact t4⟩
    · rename_i nw es hp
      obtain ⟨g', t1, t2, t3, t4, t5, _⟩ := h.freeze (p := p) (by rw [hp]; rfl)
      rw [hp] at t4 t5
      exact ⟨g', t1, t2, t3, t5, by rw [ha (by rw [hp]; rfl)]; exact t4⟩
    · exact hd2.elim
  · rename_i p lo hi hm
    split at hd
    · rename_i nw e rows hp
      obtain ⟨hf, ha⟩ := mv_ok h x hd
      rw [hm] at ha
      obtain ⟨g', t1, t2, t3, t4, t5, _⟩ := h.freeze (p := p) (by rw [hp]; rfl)
      rw [hp] at t4 t5
      refine ⟨g', t1, t2, t3, t5, ?_⟩
      obtain ⟨j1, j2, q, cap, hv, jc, hq⟩ := ha _ _ _ hp
      refine ⟨q, cap, by rw [hv, List.length_drop, List.length_take]; congr 1; omega, by simp; omega, ?_⟩
      by_cases hlh : lo = hi
      · left; subst hlh; simp
      · right
        rcases hq with hq | ⟨c, n, cp, hpv, rfl⟩
        · exact absurd hq hlh
        · obtain ⟨q', cap', e1, _, hr⟩ := t4
          rw [hpv] at e1; cases e1
          rcases hr with rfl | ⟨c', off, arr, T, fz, vs, e1, e2, e3, e4, e5⟩
          · simp at j2; omega
          · cases e1
            refine ⟨c, lo * e, arr, T, fz, (vs.take (hi * e)).drop (lo * e), rfl, e2, e3, e4.cut lo hi j1 j2, ?_⟩
            have := cut_prefix e5 (lo * e) (hi * e)
            rwa [List.drop_drop, Nat.zero_add] at this
    · cases hd
  · exact hd.elim

def embL (st : St) : List Operand → List PV × St × Prop
  | [] => ([], st, True)
  | x :: xs => ((emb st x).1 :: (embL (emb st x).2.1 xs).1, (embL (emb st x).2.1 xs).2.1, (emb st x).2.2 ∧ (embL (emb st x).2.1 xs).2.2)

theorem embL_ok : ∀ (xs : List Operand) {g : Gh} {st : St} {a : Act} {w : World}, Sim g st a w → (embL st xs).2.2 →
    ∃ g', g.to g' ∧ g.le g' ∧ g'.n = g.n ∧ Sim g' (embL st xs).2.1 a w ∧ FitL g' (embL st xs).1 (xs.map a.eval)
  | [], g, st, a, w, h, _ => ⟨g, ⟨fun _ _ h => h, rfl, rfl, rfl, rfl, rfl, h.n0, fun _ _ => rfl, fun _ _ h => h⟩, Gh.le.refl g, rfl, h, rfl⟩
  | x :: xs, g, st, a, w, h, hd => by
    obtain ⟨g1, t1, l1, n1, s1, f1⟩ := emb_ok h x hd.1
    obtain ⟨g2, t2, l2, n2, s2, f2⟩ := embL_ok xs s1 hd.2
    refine ⟨g2, t1.trans t2, ⟨fun c o hc => l2.I _ _ (l1.I _ _ hc), Nat.le_trans l2.B l1.B, by rw [n2, n1]; exact Nat.le_refl _, fun b hb => by rw [l2.μ b (by rw [n1]; exact hb), l1.μ b hb]⟩, n2.trans n1, s2, _, _, rfl, Fit.mono l2 _ _ f1, f2⟩

end Go.AX
