/-
  AX, part J: a function's body, run of plain data; that it is right.
-/
import Derived.Test.YtipaihpchnlkfaaAxI
import Derived.Test.YtipaihpchnlkfaaAxW
import Derived.Deep.Quiet
namespace Go.AX

/-! ### What a call of a function that changes nothing gives -/
structure PureEnd (w w' : World) (g' : Gh) : Prop where
  B : g'.B = w.heap.size
  env : envOf w' = envOf w
  keep : ∀ c, c < w.heap.size → w'.heap[c]? = w.heap[c]?
  size : w.heap.size ≤ w'.heap.size
  I : ∀ c o, g'.I c = some o → w'.heap[c]? = some o

def callable (P : Program) (f : FuncId) : Bool :=
  match P.funcs[f]? with
  | some fn => !(fn.name == "runtime.NumGoroutine") && !fn.body.isNone
  | none => false

def APure (P : Program) (f : FuncId) (args : List PV) (R : SV → Prop) : Prop :=
  callable P f = true ∧ ∀ (w : World) (vs : List Value), FitL (snap w) args vs → Calls P f vs.toArray w (fun e w' => ∃ v r g' o, e = .returned v ∧ R r ∧ PureEnd w w' g' ∧ SFit g' w' r v o ∧ r.inCell = true ∧ ∀ c, o = some c → w.heap.size ≤ c ∧ g'.I c = none)

theorem APure.mono {P : Program} {f : FuncId} {args : List PV} {R R' : SV → Prop} (h : APure P f args R) (hr : ∀ r, R r → R' r) : APure P f args R' :=
  ⟨h.1, fun w vs hv => (h.2 w vs hv).mono fun _ _ ⟨v, r, g', o, h1, h2, h3⟩ => ⟨v, r, g', o, h1, hr r h2, h3⟩⟩

def SV.nwS : SV → Prop
  | .pv x => x.nw
  | .own nw _ rows => nw = true ∧ nwR rows
  | .omap nw es => nw = true ∧ nwE es
  | _ => False

theorem SFit.new {g g2 : Gh} {w : World} (hI : ∀ c o, g.I c = some o → g.B ≤ c → g2.I c = some o) (hB : g2.B ≤ g.B) {r : SV} {v : Value} {o : Option Nat} (hn : r.nwS) (h : SFit g w r v o) : SFit g2 w r v o := by
  cases r with
  | pv x => exact ⟨h.1, Fit.new hI hB x v hn h.2⟩
  | own nw e rows => exact h.imp id fun ⟨c, h1, cap, arr, T, vs, a1, a2, a3, a4, a5, a6, a7⟩ => ⟨c, h1, cap, arr, T, vs, a1, a2, a3, a4, FitR.new hI hB e rows vs hn.2 a5, a6, fun hh => Nat.le_trans hB (a7 hh)⟩
  | omap nw es => obtain ⟨c, h1, en, ck, a1, a2, a3, a4⟩ := h; exact ⟨c, h1, en, ck, a1, a2, FitE.new hI hB es _ hn.2 a3, fun hh => Nat.le_trans hB (a4 hh)⟩
  | _ => cases hn

/-- Memory has grown; some of what is new is frozen. -/
theorem Sim.grown {g : Gh} {st : St} {a : Act} {w w' : World} (h : Sim g st a w) (hen : envOf w' = envOf w) (hsz : w.heap.size ≤ w'.heap.size) (hw : ∀ c, c < w.heap.size → w'.heap[c]? = w.heap[c]?)
    (J : Nat → Option Obj) (hJ : ∀ c o, J c = some o → w'.heap[c]? = some o) :
    Sim { g with I := fun c => if w.heap.size ≤ c then J c else g.I c } st a w' ∧ g.to { g with I := fun c => if w.heap.size ≤ c then J c else g.I c } ∧
      ∀ bl, Owns g st a w bl → Owns { g with I := fun c => if w.heap.size ≤ c then J c else g.I c } st a w' bl := by
  have hlt : ∀ {c o}, w.heap[c]? = some o → c < w.heap.size := fun hh => (Array.getElem?_eq_some_iff.1 hh).1
  have hIl : ∀ c o, g.I c = some o → (if w.heap.size ≤ c then J c else g.I c) = some o := fun c o hc => by
    rw [if_neg (by have := hlt (h.I c o hc); omega)]; exact hc
  have hle : g.le { g with I := fun c => if w.heap.size ≤ c then J c else g.I c } := ⟨hIl, Nat.le_refl _, Nat.le_refl _, fun _ _ => rfl⟩
  obtain ⟨bl0, hb0⟩ := h.own
  have hμ : ∀ b, b < g.n → g.μ b < w.heap.size := fun b hbn => by
    obtain ⟨_, _, h3, _⟩ := hb0.blocks b _ (List.getElem?_eq_getElem (h.n ▸ hbn))
    exact hlt h3
  have hbn : ∀ {b : Nat} {xs : List SV}, st.h[b]? = some xs → b < g.n := fun hx => by rw [h.n]; exact (List.getElem?_eq_some_iff.1 hx).1
  have hown : ∀ bl, Owns g st a w bl → Owns { g with I := fun c => if w.heap.size ≤ c then J c else g.I c } st a w' bl := by
    intro bl hb
    have hfr : ∀ p c, bl p = some c → w'.heap[c]? = w.heap[c]? := fun p c hc => hw c (hb.free p c hc).2.2.1
    refine { slots := fun s => SFit.frame hle (hfr _) (hb.slots s), blocks := fun b xs hx => ?_, inj := hb.inj, free := fun p c hc => ?_ }
    · obtain ⟨arr, T, h1, h2, h3⟩ := hb.blocks b xs hx
      exact ⟨arr, T, by show w'.heap[g.μ b]? = _; rw [hw _ (hμ b (hbn hx))]; exact h1, h2, fun k x hk => ⟨(h3 k x hk).1, SFit.frame hle (hfr _) (h3 k x hk).2⟩⟩
    · obtain ⟨f1, f2, f3, f4⟩ := hb.free p c hc
      exact ⟨by show (if w.heap.size ≤ c then J c else g.I c) = none; rw [if_neg (by omega)]; exact f1, f2, by omega, f4⟩
  refine ⟨{ size := h.size, defs := h.defs, env := hen.trans h.env, n := h.n, n0 := h.n0, B := Nat.le_trans h.B hsz, I := fun c o hc => ?_, F := fun c o hc => ?_, μI := fun b hb => ?_, μinj := h.μinj, own := ⟨bl0, hown bl0 hb0⟩, al := fun s => ?_ },
    ⟨hIl, rfl, rfl, rfl, rfl, rfl, h.n0, fun _ _ => rfl, fun c hF hI => by
      obtain ⟨o, ho⟩ := Option.ne_none_iff_exists'.1 hF
      show (if w.heap.size ≤ c then J c else g.I c) = none
      rw [if_neg (by have := hlt (h.F c o ho); omega)]; exact hI⟩, hown⟩
  · change (if w.heap.size ≤ c then J c else g.I c) = some o at hc
    split at hc
    · exact hJ c o hc
    · have := h.I c o hc; rw [hw c (hlt this)]; exact this
  · have := h.F c o hc; rw [hw c (hlt this)]; exact this
  · refine ⟨?_, (h.μI b hb).2⟩
    show (if w.heap.size ≤ g.μ b then J (g.μ b) else g.I (g.μ b)) = none
    rw [if_neg (by have := hμ b hb; omega)]; exact (h.μI b hb).1
  · refine AlOk.congr (fun p hp => ⟨rfl, ?_⟩) (h.al s)
    cases p with
    | slot s => rfl
    | cell b k =>
      simp only [posGet] at hp
      cases hx : st.h[b]? with
      | none => simp [List.getD, hx, SV.isOwn] at hp
      | some xs => simp only [posVal]; rw [hw _ (hμ b (hbn hx))]

def putR (d : Option Tmp) (r : SV) (st : St) : St :=
  match d with
  | none => st
  | some d => match r with
    | .own nw e rows => ⟨(d, .own nw e rows) :: killL (qSlot d) st.t, st.h⟩
    | .omap nw es => ⟨(d, .omap nw es) :: killL (qSlot d) st.t, st.h⟩
    | r => st.put d r

theorem Sim.result {g : Gh} {st : St} {a : Act} {w w' : World} {g' : Gh} (h : Sim g st a w) {d : Option Tmp} (hd : dstOk g.N d) {r : SV} {v : Value} {o : Option Nat} (he : PureEnd w w' g') (hf : SFit g' w' r v o) (hc : r.inCell = true)
    (ho : ∀ c, o = some c → w.heap.size ≤ c ∧ g'.I c = none) (hn : r.nwS) : ∃ g2, g.to g2 ∧ Sim g2 (putR d r st) (a.put d v) w' := by
  obtain ⟨h1, h2, h3⟩ := h.grown he.env he.size he.keep g'.I he.I
  refine ⟨_, h2, ?_⟩
  have hf2 : SFit { g with I := fun c => if w.heap.size ≤ c then g'.I c else g.I c } w' r v o := SFit.new (g := g')
    (fun c o' hc hB => by show (if w.heap.size ≤ c then g'.I c else g.I c) = some o'; rw [if_pos (by rw [← he.B]; exact hB)]; exact hc) (by show g.B ≤ g'.B; rw [he.B]; exact h.B) hn hf
  cases d with
  | none => exact h1
  | some d =>
    obtain ⟨bl, hb⟩ := h.own
    have hb2 := h3 bl hb
    have hlt : ∀ c, o = some c → c < w'.heap.size := fun c hoc => by
      cases r with
      | pv x => rw [hf.1] at hoc; cases hoc
      | own nw e rows =>
        rcases hf with ⟨h5, _⟩ | ⟨c', h5, _, _, _, _, _, h6, _⟩
        · rw [h5] at hoc; cases hoc
        · rw [h5] at hoc; cases hoc; exact (Array.getElem?_eq_some_iff.1 h6).1
      | omap nw es => obtain ⟨c', h5, _, _, _, h6, _⟩ := hf; rw [h5] at hoc; cases hoc; exact (Array.getElem?_eq_some_iff.1 h6).1
      | _ => cases hn
    have hfree : ∀ c, o = some c → FreeAt { g with I := fun c => if w.heap.size ≤ c then g'.I c else g.I c } bl c := fun c hc => by
      obtain ⟨h5, h6⟩ := ho c hc
      have hfr := h.fresh hb h5
      exact ⟨by show (if w.heap.size ≤ c then g'.I c else g.I c) = none; rw [if_pos h5]; exact h6, hfr.F, hfr.μ, hfr.own⟩
    cases r with
    | pv x => exact h1.put hd (by rw [hf.1] at hf2; exact hf2) trivial rfl
    | own nw e rows => exact h1.putOwn hb2 hd rfl (Nat.le_refl _) (fun _ _ _ => rfl) hf2 rfl (fun c hc => ⟨hlt c hc, hfree c hc⟩)
    | omap nw es => exact h1.putOwn hb2 hd rfl (Nat.le_refl _) (fun _ _ _ => rfl) hf2 rfl (fun c hc => ⟨hlt c hc, hfree c hc⟩)
    | _ => cases hn

/-! ### Calls -/
def calleeOf (st : St) (x : Operand) : Option (FuncId × List PV × List PV) :=
  match x with
  | .func f => some (f, [], [])
  | x => match mv st x with
    | .pv (.fn (.func f) a b) => some (f, a, b)
    | .pv (.lit (.func (.func f) a b)) => some (f, a.toList.map .lit, b.toList.map .lit)
    | _ => none

def vwOkL (st : St) : List Operand → Prop
  | [] => True
  | x :: xs => vwOk st x ∧ vwOkL st xs

mutual
def PV.bel (k : Nat) : PV → Prop
  | .bot => True
  | .lit _ => True
  | .agg xs => belowL k xs
  | .tup xs => belowL k xs
  | .seq _ _ rows => belowR k rows
  | .iptr _ rows _ _ => belowR k rows
  | .ptr b _ => b < k
  | .fn _ first cap => belowL k first ∧ belowL k cap
  | .amap _ es => belowE k es
  | .ifc _ x => x.bel k
def belowL (k : Nat) : List PV → Prop
  | [] => True
  | x :: xs => x.bel k ∧ belowL k xs
def belowR (k : Nat) : List (List PV) → Prop
  | [] => True
  | x :: xs => belowL k x ∧ belowR k xs
def belowE (k : Nat) : List (Int × PV) → Prop
  | [] => True
  | (_, x) :: xs => x.bel k ∧ belowE k xs
end

theorem belowL_iff (k : Nat) : ∀ xs : List PV, belowL k xs ↔ ∀ x ∈ xs, x.bel k
  | [] => by simp [belowL]
  | x :: xs => by simp [belowL, belowL_iff k xs]
theorem belowR_iff (k : Nat) : ∀ xs : List (List PV), belowR k xs ↔ ∀ r ∈ xs, ∀ x ∈ r, x.bel k
  | [] => by simp [belowR]
  | x :: xs => by simp [belowR, belowR_iff k xs, belowL_iff]
theorem belowE_iff (k : Nat) : ∀ xs : List (Int × PV), belowE k xs ↔ ∀ r ∈ xs, r.2.bel k
  | [] => by simp [belowE]
  | (n, x) :: xs => by simp [belowE, belowE_iff k xs]


/-! ### What names no block reads everywhere the same -/
section
variable {g : Gh} {r : Nat → Nat → PV}
mutual
theorem Fit.frz0 : ∀ (x : PV) (v : Value), x.bel 0 → Fit g x v → Fit g (frzW r x) v
  | .bot, _, _, _ => trivial
  | .lit _, _, _, h => h
  | .agg xs, v, hn, ⟨vs, h1, h2⟩ => ⟨vs, h1, FitL.frz0 xs _ hn h2⟩
  | .tup xs, v, hn, ⟨vs, h1, h2⟩ => ⟨vs, h1, FitL.frz0 xs _ hn h2⟩
  | .seq nw e rows, v, hn, ⟨p, cap, h1, hc, h2⟩ => ⟨p, cap, by rw [h1, frzR_map, List.length_map], by rw [frzR_map, List.length_map]; exact hc, h2.imp (fun h => by rw [h]; rfl)
      fun ⟨c, off, arr, T, fz, vs, a, b, _, q1, q2⟩ => ⟨c, off, arr, T, fz, vs, a, b, fun hn => (by cases hn), FitR.frz0 e rows vs hn q1, q2⟩⟩
  | .iptr e rows i k, v, hn, ⟨c, off, arr, T, fz, vs, a, b, q1, q2⟩ => ⟨c, off, arr, T, fz, vs, a, b, FitR.frz0 e rows vs hn q1, q2⟩
  | .ptr b off, v, hn, _ => absurd hn (Nat.not_lt_zero _)
  | .fn f first cap, v, ⟨n1, n2⟩, ⟨a, b, h1, h2, h3⟩ => ⟨a, b, h1, FitL.frz0 first _ n1 h2, FitL.frz0 cap _ n2 h3⟩
  | .amap nw es, v, hn, h => h.imp (fun ⟨h1, h2⟩ => ⟨by rw [h1]; rfl, h2⟩) fun ⟨c, en, ck, a, b, _, q⟩ => ⟨c, en, ck, a, b, fun hn => (by cases hn), FitE.frz0 es _ hn q⟩
  | .ifc t x, v, hn, ⟨y, h1, h2⟩ => ⟨y, h1, Fit.frz0 x y hn h2⟩
theorem FitL.frz0 : ∀ (xs : List PV) (vs : List Value), belowL 0 xs → FitL g xs vs → FitL g (frzL r xs) vs
  | [], _, _, h => h
  | x :: xs, vs, ⟨n1, n2⟩, ⟨v, r', h1, h2, h3⟩ => ⟨v, r', h1, Fit.frz0 x v n1 h2, FitL.frz0 xs r' n2 h3⟩
theorem FitR.frz0 (e : Nat) : ∀ (rows : List (List PV)) (vs : List Value), belowR 0 rows → FitR g e rows vs → FitR g e (frzR r rows) vs
  | [], _, _, h => h
  | row :: rows, vs, ⟨n1, n2⟩, ⟨v1, v2, h1, h2, h3, h4⟩ => ⟨v1, v2, h1, ⟨by rw [frzL_map, List.length_map]; exact h2.1, h2.2⟩, FitL.frz0 row v1 n1 h3, FitR.frz0 e rows v2 n2 h4⟩
theorem FitE.frz0 : ∀ (es : List (Int × PV)) (en : List MapEntry), belowE 0 es → FitE g es en → FitE g (frzE r es) en
  | [], _, _, h => h
  | (k, x) :: es, en, ⟨n1, n2⟩, ⟨m, r', h1, h2, h3, h4⟩ => ⟨m, r', h1, h2, Fit.frz0 x m.val n1 h3, FitE.frz0 es r' n2 h4⟩
end
end

/-- The arguments' views. -/
def vwA (n : Nat) (st : St) : List Operand → List PV
  | [] => []
  | x :: xs => vw n st x :: vwA n st xs
theorem vwA_eq (n : Nat) (st : St) : ∀ xs : List Operand, vwA n st xs = xs.map (vw n st)
  | [] => rfl
  | x :: xs => by simp [vwA, vwA_eq n st xs]
theorem vwL_ok {g : Gh} {st : St} {a : Act} {w : World} (h : Sim g st a w) (n : Nat) : ∀ (xs : List Operand), vwOkL st xs → FitL (snap w) (xs.map (vw n st)) (xs.map a.eval)
  | [], _ => rfl
  | x :: xs, hd => ⟨_, _, rfl, vw_ok h n x hd.1, vwL_ok h n xs hd.2⟩

theorem callee_ok {g : Gh} {st : St} {a : Act} {w : World} (h : Sim g st a w) {x : Operand} {f : FuncId} {p q : List PV} (hg : gc st x) (hc : calleeOf st x = some (f, p, q)) :
    ∃ u v : Array Value, a.eval x = .func (.func f) u v ∧ FitL g p u.toList ∧ FitL g q v.toList := by
  have key : (match mv st x with | .pv (.fn (.func f) a b) => some (f, a, b) | .pv (.lit (.func (.func f) a b)) => some (f, a.toList.map .lit, b.toList.map .lit) | _ => (none : Option (FuncId × List PV × List PV))) = some (f, p, q) →
      ∃ u v : Array Value, a.eval x = .func (.func f) u v ∧ FitL g p u.toList ∧ FitL g q v.toList := by
    intro hc
    obtain ⟨hf, _⟩ := mv_ok h x hg
    split at hc
    · rename_i f' p' q' hm
      rw [hm] at hf
      cases hc
      obtain ⟨_, u, v, h1, h2, h3⟩ := hf
      exact ⟨u, v, h1, h2, h3⟩
    · rename_i f' p' q' hm
      rw [hm] at hf
      cases hc
      exact ⟨p', q', hf.2, fitL_lits g _, fitL_lits g _⟩
    · cases hc
  cases x with
  | func f' => simp only [calleeOf] at hc; cases hc; exact ⟨#[], #[], rfl, rfl, rfl⟩
  | tmp k => exact key hc
  | const v => exact key hc
  | global n => exact key hc

theorem frzL_app (r : Nat → Nat → PV) (xs : List PV) : frzL r xs = xs.map (frzW r) := frzL_map r xs

theorem call_wp {P : Program} {g : Gh} {st : St} {a : Act} {w : World} (h : Sim g st a w) (o : Oper) (x : Operand) (args : Array Operand) (tys : Array TypeId) (f : FuncId) (p q : List PV) (n : Nat)
    (ho : o.op = .call { callee := .value x, args := args, argTypes := tys }) (hg : gc st x) (hc : calleeOf st x = some (f, p, q)) (hv : vwOkL st args.toList) (hd : dstOk g.N o.dst)
    {R : SV → Prop} (hA : APure P f (p.map (frzW (frzP st.h n)) ++ (args.toList.map (vw n st) ++ q.map (frzW (frzP st.h n)))) R) (K : Act → World → Prop) (Q : Exit → Act → World → Prop)
    (hn : ∀ r, R r → r.nwS)
    (hfin : ∀ r g2 v w', R r → g.to g2 → Sim g2 (putR o.dst r st) (a.put o.dst v) w' → K (a.put o.dst v) w') : o.wp P a w K Q := by
  obtain ⟨u, v, hx, hu, hv'⟩ := callee_ok h hg hc
  have hr := frzP_ok h n
  have hfit : FitL (snap w) (p.map (frzW (frzP st.h n)) ++ (args.toList.map (vw n st) ++ q.map (frzW (frzP st.h n)))) (u.toList ++ (args.toList.map a.eval ++ v.toList)) := by
    refine FitL.append ?_ (FitL.append (vwL_ok h n _ hv) ?_)
    · rw [← frzL_map]; exact FitL.frz h.I hr _ _ hu
    · rw [← frzL_map]; exact FitL.frz h.I hr _ _ hv'
  obtain ⟨hcall, hA⟩ := hA
  have hcalls := hA w _ hfit
  have harr : (u.toList ++ (args.toList.map a.eval ++ v.toList)).toArray = u ++ args.map a.eval ++ v := by
    apply Array.ext'
    simp
  rw [harr] at hcalls
  unfold Oper.wp
  have hrun : (execOp a.eval o).run P w = .ok (.enter f (u ++ args.map a.eval ++ v)) w := by
    unfold callable at hcall
    split at hcall
    case h_2 => cases hcall
    rename_i fn hfn
    simp only [Bool.and_eq_true, Bool.not_eq_true'] at hcall
    simp only [execOp, ho, resolve, hx, Deferred.ofValue, invoke, callFunc, Sem.run_bind, Sem.run_pure, Result.andThen_ok, run_program, hfn, hcall.1, hcall.2, Bool.false_eq_true, if_false, Sem.run_ite]
  rw [hrun, Oper.upon_enter]
  refine hcalls.mono fun e w' ⟨val, r, g', ob, he, hR, hE, hF, hin, hob⟩ => ?_
  subst he
  have hnw := hn r hR
  obtain ⟨g2, t2, s2⟩ := h.result hd hE hF hin hob hnw
  exact hfin r g2 val w' hR t2 s2

/-! ### One operation -/
def storeK (P : Program) (st : St) (t : TypeId) (x y : Operand) (K : St → Prop) : Prop :=
  match ldInfo P t with
  | some (_, n) => (emb st y).2.2 ∧ allOne (pcells (emb st y).1) = true ∧ ((emb st y).1.one = true ∨ isAggV (.pv (emb st y).1)) ∧ (pcells (emb st y).1).length = n ∧ gc (emb st y).2.1 x ∧
    match mv (emb st y).2.1 x with
    | .pv (.ptr b off) => off + n ≤ ((emb st y).2.1.h.getD b []).length ∧
      K ⟨killL (qCells b off n) (emb st y).2.1.t, (emb st y).2.1.h.set b (splice ((emb st y).2.1.h.getD b []) off ((pcells (emb st y).1).map .pv))⟩
    | .sptr p i k => match posGet (emb st y).2.1 p with
      | .own nw e rows => i < rows.length ∧ k + n ≤ e ∧ K (setPos (emb st y).2.1 p (.own nw e (rows.set i (splice (rows.getD i []) k (pcells (emb st y).1)))))
      | _ => False
    | _ => False
  | none => False

def buildSl (P : Program) (st : St) (t : TypeId) (len : Nat) (parts : Array (Nat × Operand)) (d : Tmp) (K : St → Prop) : Prop :=
  match slSize P t, slZero P t with
  | some e, some _ => len * e ≤ 16777216 ∧ 0 < e ∧ parts.toList.map (·.1) = List.range len ∧ (embL st (parts.toList.map (·.2))).2.2 ∧
    (∀ y ∈ (embL st (parts.toList.map (·.2))).1, (pcells y).length = e ∧ allOne (pcells y) = true ∧ (y.one = true ∨ isAggV (.pv y))) ∧
    K ⟨(d, .own true e ((embL st (parts.toList.map (·.2))).1.map pcells)) :: killL (qSlot d) (embL st (parts.toList.map (·.2))).2.1.t, (embL st (parts.toList.map (·.2))).2.1.h⟩
  | _, _ => False

def appendK (P : Program) (st : St) (t : TypeId) (s x : Operand) (d : Tmp) (K : St → Prop) : Prop :=
  match slInfo P t with
  | some (e, b) => 0 < b ∧ gc st s ∧ gc st x ∧ slOk st e (mv st x) ∧
    match mv st s with
    | .al p => match posGet st p with
      | .own nw e' rows => e' = e ∧ (rows.length + (rowsOf st (mv st x)).length) * b ≤ 140737488355328 ∧
        K ⟨(d, .own nw e (rows ++ rowsOf st (mv st x))) :: killL (qSlot d) (setPos st p (.pv .bot)).t, (setPos st p (.pv .bot)).h⟩
      | _ => False
    | .pv (.lit u) => isNilSl u = true ∧ (rowsOf st (mv st x)).length * b ≤ 140737488355328 ∧ K ⟨(d, .own true e (rowsOf st (mv st x))) :: killL (qSlot d) st.t, st.h⟩
    | _ => False
  | none => False

def qCell : Pos → Bool
  | .slot _ => false
  | .cell _ _ => true

/-- A call in which the caller's blocks may turn: they are h ahead of it, and behind it what R tells. -/
def AMut (P : Program) (f : FuncId) (args : List PV) (h : List (List SV)) (R : SV → List (List SV) → Prop) : Prop :=
  callable P f = true ∧ ∀ (g : Gh) (st : St) (a : Act) (w : World) (vs : List Value), Sim g st a w → st.h = h → FitL g args vs →
    Calls P f vs.toArray w (fun e w' => ∃ v r h' g', e = .returned v ∧ R r h' ∧ g.to g' ∧ ∀ d, dstOk g.N d → Sim g' (putR d r ⟨killL qCell st.t, h'⟩) (a.put d v) w')

theorem AMut.mono {P : Program} {f : FuncId} {args : List PV} {h : List (List SV)} {R R' : SV → List (List SV) → Prop} (hm : AMut P f args h R) (hr : ∀ r h', R r h' → R' r h') : AMut P f args h R' :=
  ⟨hm.1, fun g st a w vs hs hh hv => (hm.2 g st a w vs hs hh hv).mono fun _ _ ⟨v, r, h', g', h1, h2, h3⟩ => ⟨v, r, h', g', h1, hr r h' h2, h3⟩⟩

def CallM (P : Program) (st : St) (f : FuncId) (pa : List PV) (d : Option Tmp) (K : St → Prop) : Prop :=
  ∃ R, AMut P f pa st.h R ∧ ∀ r h', R r h' → K (putR d r ⟨killL qCell st.t, h'⟩)

/-- A call whose arguments name no block of the caller's: of a function that changes nothing there is, or (ok) of one that makes blocks. -/
def CallK (P : Program) (st : St) (ok : Prop) (k : FuncId) (pa : List PV) (d : Option Tmp) (K : St → Prop) : Prop :=
  (∃ R, APure P k pa R ∧ ∀ r, R r → r.nwS ∧ K (putR d r st)) ∨ (ok ∧ CallM P st k pa d K)
/-- A call that is handed blocks of the caller's: they may turn, or all is as it was. -/
def CallB (P : Program) (st stM : St) (okM : Prop) (f : FuncId) (paM : List PV) (okV : Prop) (paV : List PV) (d : Option Tmp) (K : St → Prop) : Prop :=
  (okM ∧ CallM P stM f paM d K) ∨ (okV ∧ ∃ R, APure P f paV R ∧ ∀ r, R r → r.nwS ∧ K (putR d r st))
theorem CallB.intro {P : Program} {st stM : St} {okM : Prop} {f : FuncId} {paM : List PV} {okV : Prop} {paV : List PV} {d : Option Tmp} {K : St → Prop} {R : SV → List (List SV) → Prop} (h : AMut P f paM stM.h R) (ok : okM) (hK : ∀ r h', R r h' → K (putR d r ⟨killL qCell stM.t, h'⟩)) : CallB P st stM okM f paM okV paV d K := .inl ⟨ok, R, h, hK⟩
theorem CallB.introP {P : Program} {st stM : St} {okM : Prop} {f : FuncId} {paM : List PV} {okV : Prop} {paV : List PV} {d : Option Tmp} {K : St → Prop} {r : SV} (h : APure P f paV (fun r' => r' = r)) (ok : okV) (hn : r.nwS) (hK : K (putR d r st)) : CallB P st stM okM f paM okV paV d K :=
  .inr ⟨ok, _, h, fun r' hr' => by subst hr'; exact ⟨hn, hK⟩⟩
def plainArgs (st : St) (args : Array Operand) (p q : List PV) : Prop := allPv st args.toList ∧ belowL 0 (pvsOf st args.toList) ∧ belowL 0 p ∧ belowL 0 q

theorem embL_pvs {st : St} : ∀ (xs : List Operand), allPv st xs → (embL st xs).1 = pvsOf st xs ∧ (embL st xs).2.1 = st ∧ (embL st xs).2.2
  | [], _ => ⟨rfl, rfl, trivial⟩
  | x :: xs, ⟨h1, h2, h3⟩ => by
    have hx : emb st x = (toPv (mv st x), st, gc st x) := by unfold emb; rw [isPv_eq h2]; rfl
    obtain ⟨i1, i2, i3⟩ := embL_pvs xs h3
    simp only [embL, hx, pvsOf]
    exact ⟨by rw [i1], i2, h1, i3⟩
theorem vwA_pvs {st : St} (n : Nat) : ∀ (xs : List Operand), allPv st xs → vwA n st xs = frzL (frzP st.h n) (pvsOf st xs)
  | [], _ => rfl
  | x :: xs, ⟨_, h2, h3⟩ => by
    have hx : vw n st x = frzW (frzP st.h n) (toPv (mv st x)) := by unfold vw; rw [isPv_eq h2]; rfl
    simp only [vwA, pvsOf, frzL, hx, vwA_pvs n xs h3]

theorem CallM.plain {P : Program} {st : St} {f : FuncId} {args : Array Operand} {p q : List PV} {d : Option Tmp} {K : St → Prop} (h : plainArgs st args p q) (hc : CallM P st f (frzL (frzP st.h 3) p ++ (vwA 3 st args.toList ++ frzL (frzP st.h 3) q)) d K) :
    (embL st args.toList).2.2 ∧ CallM P (embL st args.toList).2.1 f (p ++ ((embL st args.toList).1 ++ q)) d K := by
  obtain ⟨h1, h2, h3, h4⟩ := h
  obtain ⟨e1, e2, e3⟩ := embL_pvs _ h1
  refine ⟨e3, ?_⟩
  rw [e1, e2]
  rw [vwA_pvs 3 _ h1] at hc
  obtain ⟨R, ⟨hcal, hA⟩, hR⟩ := hc
  refine ⟨R, ⟨hcal, fun g st' a w vs hs hh hv => hA g st' a w vs hs hh ?_⟩, hR⟩
  obtain ⟨v1, v2, rfl, f1, f2⟩ := FitL.split hv
  obtain ⟨v3, v4, rfl, f3, f4⟩ := FitL.split f2
  exact FitL.append (FitL.frz0 _ _ h3 f1) (FitL.append (FitL.frz0 _ _ h2 f3) (FitL.frz0 _ _ h4 f4))

def isPtrP : PV → Bool
  | .ptr _ _ => true
  | _ => false
def isPtrS : SV → Bool
  | .pv x => isPtrP x
  | _ => false
/-- Is a block handed on? -/
def ptrAny : List PV → Bool
  | [] => false
  | x :: xs => isPtrP x || ptrAny xs
def ptrAnyS (st : St) : List Operand → Bool
  | [] => false
  | x :: xs => isPtrS (mv st x) || ptrAnyS st xs
def ptrCall (st : St) (args : Array Operand) (p q : List PV) : Bool := ptrAny p || (ptrAnyS st args.toList || ptrAny q)

def callE (P : Program) (st : St) (x : Operand) (args : Array Operand) (d : Option Tmp) (K : St → Prop) : Prop :=
  match calleeOf st x with
  | some (f, p, q) => if ptrCall st args p q = true then gc st x ∧ CallB P st (embL st args.toList).2.1 (embL st args.toList).2.2 f (p ++ ((embL st args.toList).1 ++ q)) (vwOkL st args.toList) (frzL (frzP st.h 3) p ++ (vwA 3 st args.toList ++ frzL (frzP st.h 3) q)) d K
    else gc st x ∧ vwOkL st args.toList ∧ CallK P st (plainArgs st args p q) f (frzL (frzP st.h 3) p ++ (vwA 3 st args.toList ++ frzL (frzP st.h 3) q)) d K
  | none => False

theorem mut_wp {P : Program} {g : Gh} {st : St} {a : Act} {w : World} (h : Sim g st a w) (o : Oper) (x : Operand) (args : Array Operand) (tys : Array TypeId) (f : FuncId) (p q : List PV)
    (ho : o.op = .call { callee := .value x, args := args, argTypes := tys }) (hg : gc st x) (hc : calleeOf st x = some (f, p, q)) (hv : (embL st args.toList).2.2) (hd : dstOk g.N o.dst) {K : St → Prop}
    (hA : CallM P (embL st args.toList).2.1 f (p ++ ((embL st args.toList).1 ++ q)) o.dst K) {K' : Act → World → Prop} {Q : Exit → Act → World → Prop} (hK : ∀ st' g' a' w', K st' → g.to g' → Sim g' st' a' w' → K' a' w') : o.wp P a w K' Q := by
  obtain ⟨u, v, hx, hu, hv'⟩ := callee_ok h hg hc
  obtain ⟨g1, t1, l1, _, s1, f1⟩ := embL_ok _ h hv
  obtain ⟨R, hA, hR⟩ := hA
  have hfit : FitL g1 (p ++ ((embL st args.toList).1 ++ q)) (u.toList ++ (args.toList.map a.eval ++ v.toList)) :=
    FitL.append (FitL.mono l1 _ _ hu) (FitL.append f1 (FitL.mono l1 _ _ hv'))
  obtain ⟨hcall, hA⟩ := hA
  have hcalls := hA g1 _ a w _ s1 rfl hfit
  have harr : (u.toList ++ (args.toList.map a.eval ++ v.toList)).toArray = u ++ args.map a.eval ++ v := by
    apply Array.ext'
    simp
  rw [harr] at hcalls
  unfold Oper.wp
  have hrun : (execOp a.eval o).run P w = .ok (.enter f (u ++ args.map a.eval ++ v)) w := by
    unfold callable at hcall
    split at hcall
    case h_2 => cases hcall
    rename_i fn hfn
    simp only [Bool.and_eq_true, Bool.not_eq_true'] at hcall
    simp only [execOp, ho, resolve, hx, Deferred.ofValue, invoke, callFunc, Sem.run_bind, Sem.run_pure, Result.andThen_ok, run_program, hfn, hcall.1, hcall.2, Bool.false_eq_true, if_false]
  rw [hrun, Oper.upon_enter]
  refine hcalls.mono fun e w' ⟨val, r, h', g', he, hRr, hto, hsim⟩ => ?_
  subst he
  exact hK _ g' _ w' (hR r h' hRr) (t1.trans hto) (hsim o.dst (by rw [t1.N]; exact hd))

def makeSl (P : Program) (st : St) (t : TypeId) (x y : Operand) (d : Tmp) (K : St → Prop) : Prop :=
  match slInfo P t, slZero P t with
  | some (e, b), some zs => allOne zs = true ∧ 0 < b ∧ gc st x ∧ gc st y ∧ isI (mv st x) ∧ isI (mv st y) ∧ 0 ≤ asI (mv st x) ∧ asI (mv st x) ≤ asI (mv st y) ∧ asI (mv st y) * b ≤ 140737488355328 ∧
    K ⟨(d, .own true e (List.replicate (asI (mv st x)).toNat zs)) :: killL (qSlot d) st.t, st.h⟩
  | _, _ => False

def mapUp (P : Program) (st : St) (t : TypeId) (m k x : Operand) (K : St → Prop) : Prop :=
  mpKey P t = true ∧ (emb st x).2.2 ∧ gc (emb st x).2.1 m ∧ gc (emb st x).2.1 k ∧ isI (mv (emb st x).2.1 k) ∧ asK (mv (emb st x).2.1 k) = .i64 ∧
  match mv (emb st x).2.1 m with
  | .al p => match posGet (emb st x).2.1 p with
    | .omap nw es => K (setPos (emb st x).2.1 p (.omap nw (amPut es (asI (mv (emb st x).2.1 k)) (emb st x).1)))
    | _ => False
  | _ => False

def popK (P : Program) (st : St) (o : Op) (d : Option Tmp) (K : St → Prop) : Prop :=
  (pop P st o).2 ∧ (pop P st o).1.isOwn = false ∧ K (putD d (pop P st o).1 st)

/-- An operation without a guard. -/
def AE (P : Program) (st : St) (o : Op) (d : Option Tmp) (K : St → Prop) : Prop :=
  match o with
  | .assign (.tmp s) => match d with
    | some d' => if (look st.t s).isOwn = true then K (takeS st s d') else popK P st (.assign (.tmp s)) d K
    | none => popK P st (.assign (.tmp s)) d K
  | .alloc t => match d, zeroL P t with
    | some d, some zs => allOne zs = true ∧ K ((st.grow (zs.map .pv)).put d (.pv (.ptr st.h.length 0)))
    | _, _ => False
  | .box _ x => match d with
    | some d => (emb st x).2.2 ∧ ((emb st x).1.one = true ∨ isAggV (.pv (emb st x).1)) ∧ allOne (pcells (emb st x).1) = true ∧
      K (((emb st x).2.1.grow ((pcells (emb st x).1).map .pv)).put d (.pv (.ptr (emb st x).2.1.h.length 0)))
    | none => False
  | .store t x y => match d with
    | none => storeK P st t x y K
    | some _ => False
  | .buildSlice t len parts => match d with
    | some d => buildSl P st t len parts d K
    | none => False
  | .makeSlice t x y => match d with
    | some d => makeSl P st t x y d K
    | none => False
  | .makeMap t r => match d, r with
    | some d, none => mpKey P t = true ∧ K ⟨(d, .omap true []) :: killL (qSlot d) st.t, st.h⟩
    | _, _ => False
  | .mapUpdate t m k x => match d with
    | none => mapUp P st t m k x K
    | some _ => False
  | .build t parts => (embL st (parts.toList.map (·.2))).2.2 ∧ popK P (embL st (parts.toList.map (·.2))).2.1 (.build t parts) d K
  | .call c => match c.callee with
    | .value x => callE P st x c.args d K
    | .builtin .append => match c.args.toList, c.argTypes.toList, d with
      | [s, x], [t, t'], some d => t' = t ∧ appendK P st t s x d K
      | _, _, _ => False
    | _ => popK P st (.call c) d K
  | o => popK P st o d K

theorem popK_wp {P : Program} {st : St} (o : Oper) {K : St → Prop} (h : popK P st o.op o.dst K) {g : Gh} {a : Act} {w : World} (hs : Sim g st a w) (hd : dstOk g.N o.dst) {K' : Act → World → Prop} {Q : Exit → Act → World → Prop}
    (hK : ∀ st' g' a' w', K st' → g.to g' → Sim g' st' a' w' → K' a' w') : o.wp P a w K' Q := by
  obtain ⟨h1, h2, h3⟩ := h
  obtain ⟨v, hr, hf, ha⟩ := pop_ok o g a w hs h1
  unfold Oper.wp
  rw [hr]
  exact hK _ g _ w h3 hs.refl_to (hs.putD hd hf ha h2)

theorem wp_of_run {P : Program} {o : Oper} {g : Gh} {st' : St} {a : Act} {w : World} {K' : Act → World → Prop} {Q : Exit → Act → World → Prop}
    (h : ∃ v w' g', (execOp a.eval o).run P w = .ok (.value v) w' ∧ g.to g' ∧ Sim g' st' (a.put o.dst v) w') (hK : ∀ g' a' w', g.to g' → Sim g' st' a' w' → K' a' w') : o.wp P a w K' Q := by
  obtain ⟨v, w', g', h1, h2, h3⟩ := h
  unfold Oper.wp
  rw [h1]
  exact hK g' _ w' h2 h3

theorem wp_of_skip {P : Program} {o : Oper} {g : Gh} {st' : St} {a : Act} {w : World} {K' : Act → World → Prop} {Q : Exit → Act → World → Prop} (hd : o.dst = none)
    (h : ∃ w' g', (execOp a.eval o).run P w = .ok .skip w' ∧ g.to g' ∧ Sim g' st' a w') (hK : ∀ g' a' w', g.to g' → Sim g' st' a' w' → K' a' w') : o.wp P a w K' Q := by
  obtain ⟨w', g', h1, h2, h3⟩ := h
  unfold Oper.wp
  rw [h1]
  show K' (a.put o.dst undef) w'
  rw [hd]
  exact hK g' _ w' h2 h3

theorem eq_call {c : Call} {f : Callee} {xs : List Operand} {ts : List TypeId} (h1 : c.callee = f) (h2 : c.args.toList = xs) (h3 : c.argTypes.toList = ts) : c = { callee := f, args := xs.toArray, argTypes := ts.toArray } := by
  cases c with
  | mk a b d => simp only at h1 h2 h3; subst h1 h2 h3; simp

theorem AE_wp {P : Program} {st : St} (o : Oper) {K : St → Prop} (h : AE P st o.op o.dst K) {g : Gh} {a : Act} {w : World} (hs : Sim g st a w) (hd : dstOk g.N o.dst) {K' : Act → World → Prop} {Q : Exit → Act → World → Prop}
    (hK : ∀ st' g' a' w', K st' → g.to g' → Sim g' st' a' w' → K' a' w') : o.wp P a w K' Q := by
  have hpop : popK P st o.op o.dst K → o.wp P a w K' Q := fun h => popK_wp o h hs hd hK
  cases hop : o.op
  case assign x =>
    rw [hop] at h hpop
    cases x with
    | tmp s =>
      cases hdd : o.dst with
      | none => rw [hdd] at h hpop; exact hpop h
      | some d =>
        rw [hdd] at h hpop
        simp only [AE] at h
        split at h
        · rename_i hown
          exact wp_of_run (assign_own o s d hop hdd hown (by rw [hdd] at hd; exact hd) g a w rfl hs) (fun g' a' w' => hK _ g' a' w' h)
        · exact hpop h
    | const v => exact hpop h
    | func f => exact hpop h
    | global n => exact hpop h
  case alloc t =>
    rw [hop] at h
    simp only [AE] at h
    split at h
    · rename_i d zs hdd hz
      exact wp_of_run (alloc_ok o t d zs hop hdd hz h.1 (by rw [hdd] at hd; exact hd) g a w rfl hs) (fun g' a' w' => hK _ g' a' w' h.2)
    · exact h.elim
  case box t x =>
    rw [hop] at h
    simp only [AE] at h
    split at h
    · rename_i d hdd
      exact wp_of_run (box_ok o t x d hop hdd h.1 h.2.1 h.2.2.1 (by rw [hdd] at hd; exact hd) g a w rfl hs) (fun g' a' w' => hK _ g' a' w' h.2.2.2)
    · exact h.elim
  case store t x y =>
    rw [hop] at h
    simp only [AE] at h
    split at h
    · rename_i hdd
      unfold storeK at h
      split at h
      · rename_i ag n hl
        obtain ⟨h1, h2, h3, h4, h5, h6⟩ := h
        split at h6
        · rename_i b off hm
          exact wp_of_skip hdd (store_ptr o t x y b off n ag hop hdd hl h1 h2 h3 h4 hm h5 h6.1 g a w hs) (fun g' a' w' => hK _ g' a' w' h6.2)
        · rename_i p i k hm
          split at h6
          · rename_i nw e rows hp
            exact wp_of_skip hdd (store_sptr o t x y p i k n e nw rows ag hop hl h1 h2 h3 h4 hm h5 hp h6.1 h6.2.1 g a w hs) (fun g' a' w' => hK _ g' a' w' h6.2.2)
          · exact h6.elim
        · exact h6.elim
      · exact h.elim
    · exact h.elim
  case buildSlice t len parts =>
    rw [hop] at h
    simp only [AE] at h
    split at h
    · rename_i d hdd
      unfold buildSl at h
      split at h
      · rename_i e zs hs1 hs2
        obtain ⟨h1, h2, h3, h4, h5, h6⟩ := h
        exact wp_of_run (buildSlice_own o t len e parts zs d hop hdd hs1 hs2 h1 h2 h3 h4 h5 (by rw [hdd] at hd; exact hd) g a w rfl hs) (fun g' a' w' => hK _ g' a' w' h6)
      · exact h.elim
    · exact h.elim
  case makeSlice t x y =>
    rw [hop] at h
    simp only [AE] at h
    split at h
    · rename_i d hdd
      unfold makeSl at h
      split at h
      · rename_i e b zs hi hz
        obtain ⟨h1, h2, h3, h4, h5, h6, h7, h8, h9, h10⟩ := h
        exact wp_of_run (makeSlice_own o t x y d e b zs hop hdd hi hz h1 h2 h3 h4 h5 h6 h7 h8 h9 (by rw [hdd] at hd; exact hd) g a w rfl hs) (fun g' a' w' => hK _ g' a' w' h10)
      · exact h.elim
    · exact h.elim
  case makeMap t r =>
    rw [hop] at h
    simp only [AE] at h
    split at h
    · rename_i d hdd
      exact wp_of_run (makeMap_own o t d hop hdd (by rw [hdd] at hd; exact hd) g a w rfl hs) (fun g' a' w' => hK _ g' a' w' h.2)
    · exact h.elim
  case mapUpdate t m k x =>
    rw [hop] at h
    simp only [AE] at h
    split at h
    · rename_i hdd
      unfold mapUp at h
      obtain ⟨h1, h2, h3, h4, h5, h6, h7⟩ := h
      split at h7
      · rename_i p hm
        split at h7
        · rename_i nw es hp
          exact wp_of_skip hdd (mapUpdate_own o t m k x p nw es hop h1 h2 h3 hm hp h4 h5 h6 g a w hs) (fun g' a' w' => hK _ g' a' w' h7)
        · exact h7.elim
      · exact h7.elim
    · exact h.elim
  case call c =>
    rw [hop] at h hpop
    simp only [AE] at h
    split at h
    · rename_i x hcal
      unfold callE at h
      split at h
      · rename_i f p q hce
        have hc : c = { callee := .value x, args := c.args, argTypes := c.argTypes } := by cases c; simp only at hcal; rw [hcal]
        rw [hc] at hop
        split at h
        · obtain ⟨h1, ⟨h2, h3⟩ | ⟨h2, R, hA, hR⟩⟩ := h
          · exact mut_wp hs o x c.args c.argTypes f p q hop h1 hce h2 hd h3 hK
          · rw [vwA_eq, frzL_map, frzL_map] at hA
            exact call_wp hs o x c.args c.argTypes f p q 3 hop h1 hce h2 hd hA K' Q (fun r hr => (hR r hr).1) (fun r g2 v w' hr t2 s2 => hK _ g2 _ w' (hR r hr).2 t2 s2)
        obtain ⟨h1, h2, ⟨R, hA, hR⟩ | ⟨hpl, hcm⟩⟩ := h
        rotate_left
        · obtain ⟨c1, c2⟩ := hcm.plain hpl
          exact mut_wp hs o x c.args c.argTypes f p q hop h1 hce c1 hd c2 hK
        rw [vwA_eq, frzL_map, frzL_map] at hA
        exact call_wp hs o x c.args c.argTypes f p q 3 hop h1 hce h2 hd hA K' Q (fun r hr => (hR r hr).1) (fun r g2 v w' hr t2 s2 => hK _ g2 _ w' (hR r hr).2 t2 s2)
      · exact h.elim
    · rename_i hcal
      split at h
      · rename_i s x t t' d e1 e2 hdd
        obtain ⟨rfl, h⟩ := h
        have hc := eq_call hcal e1 e2
        rw [hc] at hop
        unfold appendK at h
        split at h
        · rename_i e b hi
          obtain ⟨h1, h2, h3, h4, h5⟩ := h
          split at h5
          · rename_i p hm
            split at h5
            · rename_i nw e' rows hp
              obtain ⟨rfl, h6, h7⟩ := h5
              exact wp_of_run (append_own o _ s x d e' b p nw rows hop hdd hi h1 h2 hm hp h3 h4 h6 (by rw [hdd] at hd; exact hd) g a w rfl hs) (fun g' a' w' => hK _ g' a' w' h7)
            · exact h5.elim
          · rename_i u hm
            exact wp_of_run (append_nil o _ s x d e b u hop hdd hi h1 h2 hm h5.1 h3 h4 h5.2.1 (by rw [hdd] at hd; exact hd) g a w rfl hs) (fun g' a' w' => hK _ g' a' w' h5.2.2)
          · exact h5.elim
        · exact h.elim
      · exact h.elim
    · exact hpop h
  case build t parts =>
    rw [hop] at h
    simp only [AE] at h
    obtain ⟨h1, h2⟩ := h
    obtain ⟨g1, t1, _, _, s1, _⟩ := embL_ok _ hs h1
    exact popK_wp (st := (embL st (parts.toList.map (·.2))).2.1) o (by rw [hop]; exact h2) s1 (by rw [show g1.N = g.N from t1.N.symm ▸ rfl]; exact hd) (fun st' g' a' w' hK' t2 s2 => hK st' g' a' w' hK' (t1.trans t2) s2)
  all_goals (rw [hop] at h hpop; exact hpop h)

end Go.AX
