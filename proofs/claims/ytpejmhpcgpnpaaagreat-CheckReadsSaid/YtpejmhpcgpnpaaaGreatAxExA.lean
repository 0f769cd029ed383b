/-
  AX, part W: maps that are made and written; slices that are made of zeros.
  AX, part U: what is owned moves: into cells of blocks; it is cut short; structs are made of it.
  Numerals: what they are worth, and how numbers are written.
  EX, part A: an executor's data: numbers of blocks, tries, values; what they say of the machine's state.
-/
import Derived.Test.YtpejmhpcgpnpaaaGreatAxI
import Derived.MapKept
import Derived.Carry
import Derived.Laws.MakeOwn
namespace Go.AX
def amPut : List (Int × PV) → Int → PV → List (Int × PV)
 | [], n, y => [(n, y)]
 | (k, x) :: r, n, y => if k = n then (k, y) :: r else (k, x) :: amPut r n y
theorem findPut {g : Gh} {kk : IntKind} {n : Int} : ∀ {es : List (Int × PV)} {en : List MapEntry} (_ : FitE g es en) (j : Nat),
 ∃ r, Instr.findNow (.int kk) (.int .i64 n) en j = some r ∧ (r = none ∧ (∀ m ∈ en, m.key ≠ .int .i64 n) ∧ (∀ y u born, Fit g y u → FitE g (amPut es n y) (en ++ [{ key := .int .i64 n, val := u, born := born }])) ∨
  ∃ i m, r = some (j + i, m.val) ∧ en[i]? = some m ∧ m.key = .int .i64 n ∧ ∀ y u, Fit g y u → FitE g (amPut es n y) (en.set i { m with key := .int .i64 n, val := u }))
 | [], en, h, j => by
  simp only [FitE] at h; subst h; exact ⟨none, rfl, .inl ⟨rfl, by simp, fun y u born hy => ⟨_, _, rfl, rfl, hy, rfl⟩⟩⟩
 | (k, x) :: es, en, ⟨m, r, h1, h2, h3, h4⟩, j => by
  subst h1; simp only [Instr.findNow, h2, Instr.sameNow, if_true]; by_cases hk : k = n
  ·subst hk; simp only [beq_self_eq_true]; refine ⟨_, rfl, .inr ⟨0, m, rfl, rfl, h2, fun y u hy => ?_⟩⟩; simp only [amPut, if_true, List.set_cons_zero]; exact ⟨_, _, rfl, rfl, hy, h4⟩
  ·have hb : (n == k) = false := by simp; exact fun e => hk e.symm
   simp only [hb]; obtain ⟨r', e1, e2⟩ := findPut (n := n) h4 (j + 1); refine ⟨r', e1, ?_⟩; rcases e2 with ⟨rfl, e0, e2⟩ | ⟨i, m', rfl, e3, e4, e5⟩
   ·refine .inl ⟨rfl, fun m2 hm2 => ?_, fun y u born hy => ?_⟩
    ·rcases List.mem_cons.1 hm2 with rfl | hm2
     ·rw [h2]; intro e; cases e; exact hk rfl
     ·exact e0 m2 hm2
    simp only [amPut, if_neg hk]; exact ⟨m, _, rfl, h2, h3, e2 y u born hy⟩
   ·refine .inr ⟨i + 1, m', by rw [Nat.add_assoc, Nat.add_comm 1 i], by simpa using e3, e4, fun y u hy => ?_⟩; simp only [amPut, if_neg hk, List.set_cons_succ]; exact ⟨m, _, rfl, h2, h3, e5 y u hy⟩
theorem sameBits_int (k : IntKind) (n : Int) : Instr.sameBits 10000 (.int k n) (.int k n) = true := by
 show Instr.sameBits (9999 + 1) _ _ = true; simp [Instr.sameBits]
def mpKey (P : Program) (t : TypeId) : Bool :=
 match P.underlying t with
 | some (.map k _) => match P.underlying k with
  | some (.int _) => true
  | _ => false
 | _ => false
theorem mapUpdate_own {P : Program} {st : St} (o : Oper) (t : TypeId) (m k x : Operand) (p : Pos) (nw : Bool) (es : List (Int × PV)) (ho : o.op = .mapUpdate t m k x ∨ o.op = .insert t m k x) (ht : mpKey P t = true)
 (he : (emb st x).2.2) (hgm : gc (emb st x).2.1 m) (hm : mv (emb st x).2.1 m = .al p) (hp : posGet (emb st x).2.1 p = .omap nw es) (hgk : gc (emb st x).2.1 k) (hk : isI (mv (emb st x).2.1 k)) (hkk : asK (mv (emb st x).2.1 k) = .i64) :
 ∀ g a w, Sim g st a w → ∃ w' g', (execOp a.eval o).run P w = .ok .skip w' ∧ g.to g' ∧ Sim g' (setPos (emb st x).2.1 p (.omap nw (amPut es (asI (mv (emb st x).2.1 k)) (emb st x).1))) a w' := by
 intro g a w h; have hex : execOp a.eval o = execOp a.eval { o with op := .mapUpdate t m k x } := by
  rcases ho with ho | ho <;> simp only [execOp, ho]
 obtain ⟨g1, t1, l1, n1, s1, f1⟩ := emb_ok h x he; obtain ⟨bl, hb⟩ := s1.own; obtain ⟨_, ha⟩ := mv_ok s1 m hgm; rw [hm] at ha; have hv := ha (by rw [hp]; rfl); have hfp := pos_fit hb (p := p) (by rw [hp]; rfl); rw [hp] at hfp; obtain ⟨c, hc, en, ck, e1, e2, e3, e4⟩ := hfp; have hkv := int_ok s1 hgk hk; rw [hkk] at hkv; unfold mpKey at ht; split at ht
 case h_2 => cases ht
 rename_i kt et hu; split at ht
 case h_2 => cases ht
 rename_i kk hku; have hobj : (getObj c).run P w = .ok (.map en ck) w := MapKept.run_getObj_map e2; obtain ⟨r, k1, k2⟩ := findPut (kk := kk) (n := asI (mv (emb st x).2.1 k)) e3 0; have hfind : (Instr.findKey kt (.int .i64 (asI (mv (emb st x).2.1 k))) en.toList).run P w = .ok r w := by
  simp only [Instr.findKey, Sem.run_bind, run_underlying hku, Result.andThen_ok, k1, Sem.run_pure]
 have hlt := (Array.getElem?_eq_some_iff.1 e2).1; have fin : ∀ (en' : Array MapEntry) (ck' : Nat), MapKept.Stamped en' ck' → FitE g1 (amPut es (asI (mv (emb st x).2.1 k)) (emb st x).1) en'.toList →
  Sim g1 (setPos (emb st x).2.1 p (.omap nw (amPut es (asI (mv (emb st x).2.1 k)) (emb st x).1))) a { w with heap := w.heap.setIfInBounds c (.map en' ck') } := by
  intro en' ck' hst hf; refine s1.ownWrite hb (by rw [hp]; rfl) hc rfl (by simp) (fun j hj => ?_) ⟨c, rfl, en', ck', e1, ?_, hf, e4.1, hst⟩ rfl (fun _ _ _ hh => by cases hh)
  ·show (w.heap.setIfInBounds c _)[j]? = _; rw [Array.getElem?_setIfInBounds_ne (Ne.symm hj)]
  ·show (w.heap.setIfInBounds c _)[c]? = _; simp [hlt]
 have hev : a.eval m = .map (some c) := hv.trans e1; rcases k2 with ⟨rfl, k0, k2⟩ | ⟨i, me, rfl, k3, k4, k5⟩
 ·refine ⟨_, g1, ?_, t1, fin (en.push { key := .int .i64 (asI (mv (emb st x).2.1 k)), val := a.eval x, born := ck }) (ck + 1) (MapKept.stamped_push e4.2 k0) (by rw [Array.toList_push]; exact k2 _ _ _ f1)⟩; rw [hex]; simp only [execOp, hev, hkv, Instr.mapUpdate, Sem.run_bind, run_underlying hu, Result.andThen_ok, hobj, run_checkKey_int w _ kt kk .i64 _ hku, hfind, MapKept.run_setObj_map _ e2, Sem.run_pure]
 ·rw [Nat.zero_add] at hfind; refine ⟨_, g1, ?_, t1, fin (en.modify i fun e => { e with key := .int .i64 (asI (mv (emb st x).2.1 k)), val := a.eval x }) ck (MapKept.stamped_modify e4.2 i _ (fun _ _ => rfl) (fun e _ he => by rw [← Array.getElem?_toList, k3] at he; cases he; exact k4.symm)) ?_⟩
  ·have hkk' : ((en[i]?).map (·.key)).getD (.int .i64 (asI (mv (emb st x).2.1 k))) = .int .i64 (asI (mv (emb st x).2.1 k)) := by
    rw [← Array.getElem?_toList, k3]; exact k4
   rw [hex]; simp only [execOp, hev, hkv, Instr.mapUpdate, Sem.run_bind, run_underlying hu, Result.andThen_ok, hobj, run_checkKey_int w _ kt kk .i64 _ hku, hfind, hkk', Instr.keyThatStays, sameBits_int, if_true, Sem.run_pure, MapKept.run_setObj_map _ e2]
  ·have : (en.modify i fun e => { e with key := .int .i64 (asI (mv (emb st x).2.1 k)), val := a.eval x }).toList = en.toList.set i { me with key := .int .i64 (asI (mv (emb st x).2.1 k)), val := a.eval x } := by
    apply List.ext_getElem?; intro j; rw [Array.getElem?_toList, Array.getElem?_modify, List.getElem?_set]; split
    ·rename_i hij; subst hij; rw [← Array.getElem?_toList, k3, Option.map_some]; simp only [if_pos (List.getElem?_eq_some_iff.1 k3).1]
    ·rw [Array.getElem?_toList]
   rw [this]; exact k5 _ _ f1
/-! ### What is deleted of a map -/
def amDel (n : Int) : List (Int × PV) → List (Int × PV)
 | [] => []
 | (k, x) :: r => if k = n then r else (k, x) :: amDel n r
theorem findDel {g : Gh} {kk : IntKind} {n : Int} : ∀ {es : List (Int × PV)} {en : List MapEntry} (_ : FitE g es en) (j : Nat),
 ∃ r, Instr.findNow (.int kk) (.int .i64 n) en j = some r ∧ (r = none ∧ FitE g (amDel n es) en ∨ ∃ i u, r = some (j + i, u) ∧ i < en.length ∧ FitE g (amDel n es) (en.eraseIdx i))
 | [], en, h, j => by
  simp only [FitE] at h; subst h; exact ⟨none, rfl, .inl ⟨rfl, rfl⟩⟩
 | (k, x) :: es, en, ⟨m, r, h1, h2, h3, h4⟩, j => by
  subst h1; simp only [Instr.findNow, h2, Instr.sameNow, if_true]; by_cases hk : k = n
  ·subst hk; simp only [beq_self_eq_true]; refine ⟨_, rfl, .inr ⟨0, m.val, rfl, by simp, ?_⟩⟩; simp only [amDel, if_true, List.eraseIdx_cons_zero]; exact h4
  ·have hb : (n == k) = false := by simp; exact fun e => hk e.symm
   simp only [hb]; obtain ⟨r', e1, e2⟩ := findDel (n := n) h4 (j + 1); refine ⟨r', e1, ?_⟩; simp only [amDel, if_neg hk]; rcases e2 with ⟨rfl, e2⟩ | ⟨i, u, rfl, e3, e4⟩
   ·exact .inl ⟨rfl, m, r, rfl, h2, h3, e2⟩
   ·refine .inr ⟨i + 1, u, by rw [Nat.add_assoc, Nat.add_comm 1 i], by simp; omega, ?_⟩; rw [List.eraseIdx_cons_succ]; exact ⟨m, _, rfl, h2, h3, e4⟩
theorem mapDel_own {P : Program} {st : St} (o : Oper) (t t2 : TypeId) (m k : Operand) (p : Pos) (nw : Bool) (es : List (Int × PV)) (ho : o.op = .call { callee := .builtin .delete, args := #[m, k], argTypes := #[t, t2] }) (hd : o.dst = none) (ht : mpKey P t = true)
 (hgm : gc st m) (hm : mv st m = .al p) (hp : posGet st p = .omap nw es) (hgk : gc st k) (hk : isI (mv st k)) (hkk : asK (mv st k) = .i64) :
 ∀ g a w, Sim g st a w → ∃ v w' g', (execOp a.eval o).run P w = .ok (.value v) w' ∧ g.to g' ∧ Sim g' (setPos st p (.omap nw (amDel (asI (mv st k)) es))) (a.put o.dst v) w' := by
 intro g a w h; obtain ⟨bl, hb⟩ := h.own; obtain ⟨_, ha⟩ := mv_ok h m hgm; rw [hm] at ha; have hv := ha (by rw [hp]; rfl); have hfp := pos_fit hb (p := p) (by rw [hp]; rfl); rw [hp] at hfp; obtain ⟨c, hc, en, ck, e1, e2, e3, e4⟩ := hfp; have hkv := int_ok h hgk hk; rw [hkk] at hkv; unfold mpKey at ht; split at ht
 case h_2 => cases ht
 rename_i kt et hu; split at ht
 case h_2 => cases ht
 rename_i kk hku; have hobj : (getObj c).run P w = .ok (.map en ck) w := MapKept.run_getObj_map e2; obtain ⟨r, k1, k2⟩ := findDel (kk := kk) (n := asI (mv st k)) e3 0; have hfind : (Instr.findKey kt (.int .i64 (asI (mv st k))) en.toList).run P w = .ok r w := by
  simp only [Instr.findKey, Sem.run_bind, run_underlying hku, Result.andThen_ok, k1, Sem.run_pure]
 have hlt := (Array.getElem?_eq_some_iff.1 e2).1; have fin : ∀ en' : Array MapEntry, MapKept.Stamped en' ck → FitE g (amDel (asI (mv st k)) es) en'.toList →
  Sim g (setPos st p (.omap nw (amDel (asI (mv st k)) es))) a { w with heap := w.heap.setIfInBounds c (.map en' ck) } := by
  intro en' hst hf; refine h.ownWrite hb (by rw [hp]; rfl) hc rfl (by simp) (fun j hj => ?_) ⟨c, rfl, en', ck, e1, ?_, hf, e4.1, hst⟩ rfl (fun _ _ _ hh => by cases hh)
  ·show (w.heap.setIfInBounds c _)[j]? = _; rw [Array.getElem?_setIfInBounds_ne (Ne.symm hj)]
  ·show (w.heap.setIfInBounds c _)[c]? = _; simp [hlt]
 have hev : a.eval m = .map (some c) := hv.trans e1; rw [hd]; rcases k2 with ⟨rfl, k2⟩ | ⟨i, u, rfl, k3, k4⟩
 ·refine ⟨.tuple #[], _, g, ?_, h.refl_to, fin en e4.2 k2⟩; simp [execOp, ho, resolve, invoke, builtin, hev, hkv, Builtin.delete_, run_underlying hu, hobj, run_checkKey_int w _ kt kk .i64 _ hku, hfind, MapKept.run_setObj_map _ e2]
 ·refine ⟨.tuple #[], _, g, ?_, h.refl_to, fin (en.eraseIdxIfInBounds i) (MapKept.stamped_erase e4.2 i) ?_⟩
  ·rw [Nat.zero_add] at hfind; simp [execOp, ho, resolve, invoke, builtin, hev, hkv, Builtin.delete_, run_underlying hu, hobj, run_checkKey_int w _ kt kk .i64 _ hku, hfind, MapKept.run_setObj_map _ e2]
  ·have hi : i < en.size := by simpa using k3
   rw [Array.eraseIdxIfInBounds, dif_pos hi, Array.toList_eraseIdx]; exact k4
theorem makeMap_own {P : Program} {st : St} (o : Oper) (t : TypeId) (d : Nat) (ho : o.op = .makeMap t none) (hd : o.dst = some d) {N : Nat} (hN : d < N) :
 ∀ g a w, g.N = N → Sim g st a w → ∃ v w' g', (execOp a.eval o).run P w = .ok (.value v) w' ∧ g.to g' ∧ Sim g' ⟨(d, .omap true []) :: killL (qSlot d) st.t, st.h⟩ (a.put o.dst v) w' := by
 intro g a w hg h; obtain ⟨bl, hb⟩ := h.own; refine ⟨.map (some w.heap.size), w.alloc (.map #[] 0), g, ?_, h.refl_to, ?_⟩
 ·simp only [execOp, ho, Option.map_none, Sem.run_bind, Go.RowKit.run_makeMap, Result.andThen_ok, Sem.run_pure]
 ·rw [hd]; refine h.putOwn hb (hg ▸ hN) rfl (by simp) (fun c hc _ => heap_alloc_old w _ hc) (o := some w.heap.size) ⟨w.heap.size, rfl, #[], 0, rfl, heap_alloc_new w _, rfl, fun _ => h.B, MapKept.stamped_empty 0⟩ rfl (fun c hc => ?_); cases hc; exact ⟨by simp, h.fresh hb (Nat.le_refl _)⟩
def hintOk (st : St) : Option Operand → Prop
 | none => True
 | some x => gc st x ∧ isI (mv st x)
theorem makeMap_hint {P : Program} {st : St} (o : Oper) (t : TypeId) (r : Option Operand) (d : Nat) (ho : o.op = .makeMap t r) (hd : o.dst = some d) (hm : mpKey P t = true) (hr : hintOk st r) {N : Nat} (hN : d < N) :
 ∀ g a w, g.N = N → Sim g st a w → ∃ v w' g', (execOp a.eval o).run P w = .ok (.value v) w' ∧ g.to g' ∧ Sim g' ⟨(d, .omap true []) :: killL (qSlot d) st.t, st.h⟩ (a.put o.dst v) w' := by
 intro g a w hg h; cases r with
 | none => exact makeMap_own o t d ho hd hN g a w hg h
 | some x =>
  obtain ⟨bl, hb⟩ := h.own; unfold mpKey at hm; split at hm
  case h_2 => cases hm
  rename_i k e hu; refine ⟨.map (some w.heap.size), w.alloc (.map #[] 0), g, ?_, h.refl_to, ?_⟩
  ·simp only [execOp, ho, Option.map_some, Sem.run_bind, int_ok h hr.1 hr.2, Instr.makeMap, run_underlying hu, Result.andThen_ok, asInt, asIntOf, Sem.run_pure]; rfl
  ·rw [hd]; refine h.putOwn hb (hg ▸ hN) rfl (by simp) (fun c hc _ => heap_alloc_old w _ hc) (o := some w.heap.size) ⟨w.heap.size, rfl, #[], 0, rfl, heap_alloc_new w _, rfl, fun _ => h.B, MapKept.stamped_empty 0⟩ rfl (fun c hc => ?_); cases hc; exact ⟨by simp, h.fresh hb (Nat.le_refl _)⟩
/-! ### A part of a block is cleared -/
def allLit : List PV → Bool
 | [] => true
 | .lit v :: r => v.oneCell' && allLit r
 | _ => false
def clearK (P : Program) (st : St) (t : TypeId) (x : Operand) (K : St → Prop) : Prop :=
 match mv st x, slZero P t with
 | .pv (.bsl b 1 off n _), some [.lit z] => gc st x ∧ z.cells = #[z] ∧ z.oneCell' = true ∧ 0 < n ∧ off + n ≤ (st.h.getD b []).length ∧
   K ⟨killL (qCells b off n) st.t, st.h.set b (splice (st.h.getD b []) off (List.replicate n (.pv (.lit z))))⟩
 | .pv (.bsl b e off n _), some zs => gc st x ∧ allLit zs = true ∧ zs.length = e ∧ 0 < e ∧ 0 < n ∧ off + n * e ≤ (st.h.getD b []).length ∧
   K ⟨killL (qCells b off (n * e)) st.t, st.h.set b (splice (st.h.getD b []) off (List.replicate n (zs.map .pv)).flatten)⟩
 | _, _ => False
theorem allLit_is : ∀ {zs : List PV}, allLit zs = true → ∃ vs : List Value, zs = vs.map .lit ∧ ∀ v ∈ vs, v.oneCell' = true
 | [], _ => ⟨[], rfl, by simp⟩
 | x :: r, h => by
  cases x with
  | lit v =>
   simp only [allLit, Bool.and_eq_true] at h; obtain ⟨vs, e, h1⟩ := allLit_is h.2; exact ⟨v :: vs, by rw [e]; rfl, fun u hu => by
    rcases List.mem_cons.1 hu with rfl | hu
    ·exact h.1
    ·exact h1 u hu⟩
  | _ => simp [allLit] at h
theorem map_lit_inj : ∀ {a b : List Value}, a.map PV.lit = b.map PV.lit → a = b
 | [], [], _ => rfl
 | [], _ :: _, h => by simp at h
 | _ :: _, [], h => by simp at h
 | x :: a, y :: b, h => by
  simp only [List.map_cons, List.cons.injEq, PV.lit.injEq] at h; rw [h.1, map_lit_inj h.2]
theorem zeroCells_list (z : Array Value) : ∀ n, (Builtin.zeroCells z n).toList = (List.replicate n z.toList).flatten
 | 0 => by simp [Builtin.zeroCells]
 | n + 1 => by
  have ih := zeroCells_list z n; simp only [Builtin.zeroCells, Array.toList_map, Array.toList_range] at ih ⊢; rw [Nat.succ_mul, List.range_add, List.map_append, ih, List.replicate_succ', List.flatten_append]; congr 1; simp only [List.flatten_cons, List.flatten_nil, List.append_nil]; apply List.ext_getElem
  ·simp
  ·intro i h1 h2; have hi : i < z.size := by simpa using h2
   simp only [List.getElem_map, List.getElem_range]; have hm : (n * z.size + i) % z.size = i := by rw [Nat.mul_comm, Nat.mul_add_mod, Nat.mod_eq_of_lt hi]
   rw [hm, getElem!_pos z i hi]; simp
theorem clear_bslE {P : Program} {st : St} (o : Oper) (t : TypeId) (x : Operand) (b e off n cap : Nat) (zs : List PV) (ho : o.op = .call { callee := .builtin .clear, args := #[x], argTypes := #[t] }) (hd : o.dst = none)
 (hm : mv st x = .pv (.bsl b e off n cap)) (hz : slZero P t = some zs) (hg : gc st x) (hc : allLit zs = true) (he : zs.length = e) (h0 : 0 < e) (hn : 0 < n) (hfit : off + n * e ≤ (st.h.getD b []).length) :
 ∀ g a w, Sim g st a w → ∃ v w' g', (execOp a.eval o).run P w = .ok (.value v) w' ∧ g.to g' ∧ Sim g' ⟨killL (qCells b off (n * e)) st.t, st.h.set b (splice (st.h.getD b []) off (List.replicate n (zs.map .pv)).flatten)⟩ (a.put o.dst v) w' := by
 intro g a w h; obtain ⟨vs, rfl, h1⟩ := allLit_is hc; have hvl : vs.length = e := by simpa using he
 obtain ⟨hf, _⟩ := mv_ok h x hg; rw [hm] at hf; obtain ⟨_, hb1, _, hvx⟩ := hf; have hbl : b < st.h.length := h.n ▸ hb1; have hbe : st.h[b]? = some (st.h.getD b []) := by simp [List.getD, List.getElem?_eq_getElem hbl]
 obtain ⟨bl, hbo⟩ := h.own; obtain ⟨arr, T, a1, ⟨a2, _⟩, _⟩ := hbo.blocks b _ hbe; unfold slZero at hz; split at hz
 case h_2 => cases hz
 rename_i el hu; unfold zeroL at hz; split at hz
 case h_2 => cases hz
 rename_i inf hinf; simp only [Option.map_eq_some_iff] at hz; obtain ⟨z', hz', hzz⟩ := hz; have hzc : z'.cells.toList = vs := map_lit_inj hzz; have hflen : ((List.replicate n vs).flatten).length = n * e := by
  rw [List.length_flatten, List.map_replicate, List.sum_replicate_nat, hvl]
 have hone : ∀ v ∈ (List.replicate n vs).flatten, v.oneCell' = true := fun v hv => by
  obtain ⟨l, hl, hvl⟩ := List.mem_flatten.1 hv; rw [List.eq_of_mem_replicate hl] at hvl; exact h1 v hvl
 have hrun : (Builtin.clear_ #[t] o.type #[.slice (some ⟨g.μ b, off, none⟩) n cap]).run P w = .ok (.tuple #[]) (w.setRow (g.μ b) (splice arr.toList off (List.replicate n vs).flatten).toArray) := by
  have hzl : (Builtin.zeroCells z'.cells n).toList = (List.replicate n vs).flatten := by rw [zeroCells_list, hzc]
  have hst := run_storeCells_at P (g.μ b) off T ((List.replicate n vs).flatten) 0 arr w a1 (by rw [a2, hflen]; simpa using hfit) hone; simp only [Nat.add_zero] at hst; obtain ⟨m, rfl⟩ : ∃ m, n = m + 1 := ⟨n - 1, by omega⟩; have hzv : (zeroValue el).run P w = .ok z' w := by simp [zeroValue, typeInfo, hinf, hz']
  simp only [Builtin.clear_]; simp [run_underlying hu, hzv, hzl, hst, splice]
 refine ⟨.tuple #[], w.setRow (g.μ b) (splice arr.toList off (List.replicate n vs).flatten).toArray, g, ?_, h.refl_to, ?_⟩
 ·simp [execOp, ho, resolve, invoke, builtin, hvx, hrun]
 ·rw [hd]; have hf2 : FitL g ((List.replicate n (vs.map PV.lit)).flatten) ((List.replicate n vs).flatten) := by
   have := fitL_lits g ((List.replicate n vs).flatten)
   rwa [List.map_flatten, List.map_replicate] at this
  have hl2 : ((List.replicate n (vs.map PV.lit)).flatten).length = n * e := by
   rw [List.length_flatten, List.map_replicate, List.sum_replicate_nat, List.length_map, hvl]
  have := h.blockWrite (ys := (List.replicate n (vs.map PV.lit)).flatten) (w' := w.setRow (g.μ b) (splice arr.toList off (List.replicate n vs).flatten).toArray) hbe (by rw [hl2]; exact hfit) a1 hf2 hone rfl (size_setRow _ _ _) (fun c hc => setRow_other w _ c _ hc) ⟨T, setRow_heap w _ arr _ T _ a1⟩ (by simp); rw [hl2, List.map_flatten, List.map_replicate] at this; exact this
theorem clear_bsl {P : Program} {st : St} (o : Oper) (t : TypeId) (x : Operand) (b off n cap : Nat) (z : Value) (ho : o.op = .call { callee := .builtin .clear, args := #[x], argTypes := #[t] }) (hd : o.dst = none)
 (hm : mv st x = .pv (.bsl b 1 off n cap)) (hz : slZero P t = some [.lit z]) (hg : gc st x) (hc : z.cells = #[z]) (h1 : z.oneCell' = true) (hn : 0 < n) (hfit : off + n ≤ (st.h.getD b []).length) :
 ∀ g a w, Sim g st a w → ∃ v w' g', (execOp a.eval o).run P w = .ok (.value v) w' ∧ g.to g' ∧ Sim g' ⟨killL (qCells b off n) st.t, st.h.set b (splice (st.h.getD b []) off (List.replicate n (.pv (.lit z))))⟩ (a.put o.dst v) w' := by
 intro g a w h; obtain ⟨hf, _⟩ := mv_ok h x hg; rw [hm] at hf; obtain ⟨_, hb1, _, hvx⟩ := hf; have hbl : b < st.h.length := h.n ▸ hb1; have hbe : st.h[b]? = some (st.h.getD b []) := by simp [List.getD, List.getElem?_eq_getElem hbl]
 obtain ⟨bl, hbo⟩ := h.own; obtain ⟨arr, T, a1, ⟨a2, _⟩, _⟩ := hbo.blocks b _ hbe; unfold slZero at hz; split at hz
 case h_2 => cases hz
 rename_i el hu; unfold zeroL at hz; split at hz
 case h_2 => cases hz
 rename_i inf hinf; simp only [Option.map_eq_some_iff] at hz; obtain ⟨z', hz', hzz⟩ := hz; have hzv : z' = z ∨ z'.cells = #[z] := by
  have : z'.cells.toList = [z] := by
   cases hl : z'.cells.toList with
   | nil => rw [hl] at hzz; simp at hzz
   | cons y ys =>
    rw [hl] at hzz; simp only [List.map_cons, List.cons.injEq, PV.lit.injEq, List.map_eq_nil_iff] at hzz; rw [hzz.1, hzz.2]
  exact .inr (by apply Array.ext'; rw [this])
 have hzc : z'.cells = #[z] := hzv.elim (fun e => e ▸ hc) id; have hone : z'.cells.size = 1 := by rw [hzc]; rfl
 have hrun : (Builtin.clear_ #[t] o.type #[.slice (some ⟨g.μ b, off, none⟩) n cap]).run P w = .ok (.tuple #[]) (w.setRow (g.μ b) (splice arr.toList off (List.replicate n z)).toArray) := by
  have hzl : (Builtin.zeroCells z'.cells n).toList = List.replicate n z := by
   rw [hzc]; simp [Builtin.zeroCells]; apply List.ext_getElem
   ·simp
   ·intro i h1 h2; simp [Nat.mod_one]
  have hst := run_storeCells_at P (g.μ b) off T (List.replicate n z) 0 arr w a1 (by rw [a2]; simpa using hfit) (by intro v hv'; rw [List.eq_of_mem_replicate hv']; exact h1); simp only [Nat.add_zero] at hst; obtain ⟨m, rfl⟩ : ∃ m, n = m + 1 := ⟨n - 1, by omega⟩; have hzv : (zeroValue el).run P w = .ok z' w := by simp [zeroValue, typeInfo, hinf, hz']
  simp [Builtin.clear_, run_underlying hu, hzv, hzl, hst, splice]
 refine ⟨.tuple #[], w.setRow (g.μ b) (splice arr.toList off (List.replicate n z)).toArray, g, ?_, h.refl_to, ?_⟩
 ·simp [execOp, ho, resolve, invoke, builtin, hvx, hrun]
 ·rw [hd]; have hf2 : FitL g (List.replicate n (.lit z)) (List.replicate n z) := by
   have := fitL_lits g (List.replicate n z)
   rwa [List.map_replicate] at this
  have := h.blockWrite (ys := List.replicate n (.lit z)) (w' := w.setRow (g.μ b) (splice arr.toList off (List.replicate n z)).toArray) hbe (by simpa using hfit) a1 hf2 (fun v hv => by rw [List.eq_of_mem_replicate hv]; exact h1) rfl (size_setRow _ _ _) (fun c hc => setRow_other w _ c _ hc) ⟨T, setRow_heap w _ arr _ T _ a1⟩ (by simp); rw [List.length_replicate, List.map_replicate] at this; exact this
/-! ### A slice of zeros -/
theorem made_list (z : Array Value) (e : Nat) (he : z.size = e) : ∀ k, (madeCells z (k * e)).toList = (List.replicate k z.toList).flatten
 | 0 => by simp [madeCells]
 | k + 1 => by
  have ih := made_list z e he k; simp only [madeCells, Array.toList_map, Array.toList_range] at ih ⊢; rw [Nat.succ_mul, List.range_add, List.map_append, ih, List.replicate_succ', List.flatten_append]; congr 1; simp only [List.flatten_cons, List.flatten_nil, List.append_nil, List.map_map]; apply List.ext_getElem?; intro i; simp only [List.getElem?_map]; by_cases hi : i < e
  ·rw [List.getElem?_range hi]; simp only [Option.map_some, Function.comp_apply]; rw [he, Nat.add_comm (k * e) i, Nat.add_mul_mod_self_right, Nat.mod_eq_of_lt hi]; have : i < z.size := by omega
   simp [this]
  ·rw [List.getElem?_eq_none (by simpa using hi), List.getElem?_eq_none (by simp [he]; omega)]; rfl
theorem fitR_replicate {g : Gh} {e : Nat} {zs : List PV} {zl : List Value} (h : FitL g zs zl) (hl : zs.length = e) (ho : ∀ v ∈ zl, v.oneCell' = true) : ∀ n, FitR g e (List.replicate n zs) ((List.replicate n zl).flatten)
 | 0 => rfl
 | n + 1 => by
  simp only [List.replicate_succ, List.flatten_cons]; exact ⟨zl, _, rfl, ⟨hl, ho⟩, h, fitR_replicate h hl ho n⟩
theorem makeSlice_own {P : Program} {st : St} (o : Oper) (t : TypeId) (x y : Operand) (d e b : Nat) (zs : List PV) (ho : o.op = .makeSlice t x y) (hd : o.dst = some d) (hi : slInfo P t = some (e, b)) (hz : slZero P t = some zs) (h1 : allOne zs = true) (hb1 : 0 < b)
 (hgx : gc st x) (hgy : gc st y) (hx : isI (mv st x)) (hy : isI (mv st y)) (h0 : 0 ≤ asI (mv st x)) (hle : asI (mv st x) ≤ asI (mv st y)) (hbytes : asI (mv st y) * b ≤ 140737488355328) {N : Nat} (hN : d < N) :
 ∀ g a w, g.N = N → Sim g st a w → ∃ v w' g', (execOp a.eval o).run P w = .ok (.value v) w' ∧ g.to g' ∧
  Sim g' ⟨(d, .own true e (List.replicate (asI (mv st x)).toNat zs)) :: killL (qSlot d) st.t, st.h⟩ (a.put o.dst v) w' := by
 intro g a w hg h; obtain ⟨bl, hb⟩ := h.own; unfold slInfo at hi; split at hi
 case h_2 => cases hi
 rename_i el hu; unfold slZero at hz; rw [hu] at hz; simp only at hz; cases hinf : P.info? el with
 | none => rw [hinf] at hi; cases hi
 | some inf =>
  rw [hinf] at hi; simp only [zeroL, hinf, Option.map_eq_some_iff] at hz; obtain ⟨z, hz, rfl⟩ := hz; simp only at hi; rw [hz] at hi; simp only at hi; split at hi
  case isFalse => cases hi
  rename_i hsz; cases hi; have ex := int_ok h hgx hx; have ey := int_ok h hgy hy; generalize asI (mv st x) = l at *; generalize asI (mv st y) = c at *; have hc0 : 0 ≤ c := by omega
  have hcb : c * 1 ≤ c * (inf.bytes : Int) := Int.mul_le_mul_of_nonneg_left (by omega) hc0; have hrun := run_make (P := P) (w := w) t el inf z hu hinf hz (asK (mv st x)) (asK (mv st y)) l c h0 hle (by rw [Int.mul_comm]; omega) (by omega); have hlits : FitL g (z.cells.toList.map PV.lit) z.cells.toList := fitL_lits g _; have hone := allOne_ok h1 hlits; refine ⟨.slice (some ⟨w.heap.size, 0, none⟩) l.toNat c.toNat, w.alloc (.cells (madeCells z.cells (c.toNat * inf.size)) el), g, ?_, h.refl_to, ?_⟩
  ·simp only [execOp, ho, ex, ey, Sem.run_bind, hrun, Result.andThen_ok, Sem.run_pure]
  ·rw [hd]; refine h.putOwn hb (hg ▸ hN) rfl (by simp) (fun k hk _ => heap_alloc_old w _ hk) (o := some w.heap.size) ?_ rfl (fun k hk => ?_)
   ·refine .inr ⟨w.heap.size, rfl, c.toNat, _, el, (List.replicate l.toNat z.cells.toList).flatten, by rw [List.length_replicate], heap_alloc_new w _, ?_, ⟨?_, ?_, ?_⟩, ?_, ?_, fun _ => h.B⟩
    ·exact size_madeCells _ _
    ·rw [List.length_replicate]; omega
    ·show c.toNat ≤ 2 ^ 63 - 1; omega
    ·rw [made_list z.cells inf.size hsz.1]; intro v hv; obtain ⟨l', hl', hv⟩ := List.mem_flatten.1 hv; rw [List.eq_of_mem_replicate hl'] at hv; exact hone v hv
    ·exact fitR_replicate hlits (by simpa using hsz.1) hone _
    ·rw [made_list z.cells inf.size hsz.1]; refine ⟨(List.replicate (c.toNat - l.toNat) z.cells.toList).flatten, ?_⟩; rw [← List.flatten_append, List.replicate_append_replicate]; congr 2; omega
   ·cases hk; exact ⟨by simp, h.fresh hb (Nat.le_refl _)⟩
end Go.AX

namespace Go.AX
theorem put_self {a : Act} {s : Nat} (h : s < a.tmps.size) : a.put (some s) (a.tmps.getD s undef) = a := by
 cases a with
 | mk t d =>
  simp only at h; simp only [Act.put, Act.mk.injEq, and_true]; apply Array.ext_getElem?; intro i; rw [Array.getElem?_setIfInBounds]; split
  ·rename_i e; subst e; simp [h]
  ·rfl
theorem Sim.looks {g : Gh} {st st' : St} {a : Act} {w : World} (h : Sim g st a w) (hh : st'.h = st.h) (ht : ∀ s, look st'.t s = look st.t s) : Sim g st' a w := by
  obtain ⟨bl, hb⟩ := h.own
  have hp : ∀ p, posGet st' p = posGet st p := fun p => by
    cases p with
    | slot s => exact ht s
    | cell b k => simp only [posGet, hh]
  exact { size := h.size, defs := h.defs, env := h.env, n := by rw [hh]; exact h.n, n0 := h.n0, B := h.B, I := h.I, F := h.F, μI := h.μI, μinj := h.μinj,
          own := ⟨bl, { slots := fun s => by rw [ht s]; exact hb.slots s, blocks := fun b xs hx => hb.blocks b xs (by rw [← hh]; exact hx), inj := hb.inj, free := hb.free }⟩,
          al := fun s => by rw [ht s]; exact AlOk.congr (fun p _ => ⟨hp p, rfl⟩) (h.al s) }
theorem own_cut {g : Gh} {w : World} {nw : Bool} {e : Nat} {rows : List (List PV)} {v : Value} {o : Option Nat} (h : SFit g w (.own nw e rows) v o) {hi : Nat} (hh : hi ≤ rows.length) {q : Option Addr} {n cap : Nat} (hv : v = .slice q n cap) :
 SFit g w (.own nw e (rows.take hi)) (.slice q hi cap) o := by
 rcases h with ⟨rfl, rfl, e1⟩ | ⟨c, hc, cap', arr, T, vs, e1, e2, e3, e4, e5, e6, e7⟩
 ·left; simp only [List.length_nil, Nat.le_zero] at hh; subst hh; rw [hv] at e1; simp only [Value.slice.injEq] at e1; obtain ⟨rfl, _, rfl⟩ := e1; exact ⟨rfl, by simp, rfl⟩
 ·right; rw [hv] at e1; simp only [Value.slice.injEq] at e1; obtain ⟨rfl, rfl, rfl⟩ := e1; refine ⟨c, hc, cap, arr, T, vs.take (hi * e), by rw [List.length_take, Nat.min_eq_left hh], e2, e3, ⟨by rw [List.length_take]; omega, e4.2⟩, ?_, (List.take_prefix _ _).trans e6, e7⟩; have := FitR.cut e5 0 hi (Nat.zero_le _) hh; simpa using this
theorem loc_cut {g : Gh} {st : St} {a : Act} {w : World} {bl : Pos → Option Nat} (hb : Owns g st a w bl) {p : Pos} {hi : Nat} {nw : Bool} {e : Nat} {rows : List (List PV)} {v : Value} (hp : posGet st p = .own nw e rows) (ha : AlOk g st a w (.loc p 0 hi) v) :
 SFit g w (.own nw e (rows.take hi)) v (bl p) := by
 have hf := pos_fit hb (p := p) (by rw [hp]; rfl); rw [hp] at hf; obtain ⟨_, h2, q, cap, hv, _, _, hz⟩ := ha _ _ _ hp; obtain ⟨n0, hz⟩ := hz rfl; have := own_cut hf h2 hz; rw [hv]; simpa using this
theorem own_cells {g : Gh} {w : World} {x : SV} {v : Value} {o : Option Nat} (hx : x.isOwn = true) (h : SFit g w x v o) : v.cells = #[v] ∧ v.oneCell' = true := by
 cases x with
 | own nw e rows =>
  rcases h with ⟨_, _, rfl⟩ | ⟨c, _, cap, arr, T, vs, rfl, _⟩ <;> exact ⟨rfl, rfl⟩
 | omap nw es => obtain ⟨c, _, en, ck, rfl, _⟩ := h; exact ⟨rfl, rfl⟩
 | _ => cases hx
theorem killS_idem (q : Pos → Bool) (x : SV) : killS q (killS q x) = killS q x := by
 rcases killS_cases q x with e | ⟨e, _⟩
 ·rw [e]; rfl
 ·rw [e, e]
theorem Sim.adopt {g : Gh} {st : St} {a : Act} {w : World} (h : Sim g st a w) {bl : Pos → Option Nat} (hb : Owns g st a w bl) {b k : Nat} {xs : List SV} (hx : st.h[b]? = some xs) (hk : k < xs.length) {sv : SV} {o : Option Nat}
 (hs : SFit g w sv (posVal g a w (.cell b k)) o) (ho : sv.isOwn = true) (hc : ∀ c, o = some c → c < w.heap.size ∧ FreeAt g bl c) :
 Sim g ⟨killL (qCells b k 1) st.t, st.h.set b (xs.set k sv)⟩ a w ∧ Owns g ⟨killL (qCells b k 1) st.t, st.h.set b (xs.set k sv)⟩ a w (fun p => if p = .cell b k then o else bl p) := by
 have hbl : b < st.h.length := (List.getElem?_eq_some_iff.1 hx).1; have hpos : ∀ p, qCells b k 1 p = false → (posGet ⟨killL (qCells b k 1) st.t, st.h.set b (xs.set k sv)⟩ p).isOwn = true →
  posGet ⟨killL (qCells b k 1) st.t, st.h.set b (xs.set k sv)⟩ p = posGet st p ∧ posVal g a w p = posVal g a w p := by
  intro p hq hp; refine ⟨?_, rfl⟩; cases p with
  | slot s => simp only [posGet, look_kill] at hp ⊢; exact killS_own hp
  | cell b' k' =>
   simp only [posGet, List.getD_eq_getElem?_getD, List.getElem?_set]; by_cases hbb : b = b'
   ·subst hbb; have hkk : k ≠ k' := fun e => by subst e; simp [qCells] at hq
    rw [if_pos rfl, if_pos hbl, hx]; simp only [Option.getD_some, List.getElem?_set_ne hkk]
   ·rw [if_neg hbb]
 have hown : Owns g ⟨killL (qCells b k 1) st.t, st.h.set b (xs.set k sv)⟩ a w (fun p => if p = .cell b k then o else bl p) := by
  refine { slots := fun s => ?_, blocks := fun b' xs' hx' => ?_, inj := fun p q c hp hq => ?_, free := fun p c hp => ?_ }
  ·rw [if_neg (by intro e; cases e), look_kill]; exact SFit.kill _ (hb.slots s)
  ·rw [List.getElem?_set] at hx'; split at hx'
   ·rename_i hbb; subst hbb
    try rw [if_pos hbl] at hx'
    cases hx'; obtain ⟨arr, T, e1, e2, e3⟩ := hb.blocks b xs hx; refine ⟨arr, T, e1, ⟨by rw [List.length_set]; exact e2.1, e2.2⟩, fun k' x hk' => ?_⟩; rw [List.getElem?_set] at hk'; split at hk'
    ·rename_i hkk; subst hkk
     try rw [if_pos hk] at hk'
     cases hk'; rw [if_pos rfl]; refine ⟨(by cases sv <;> first | rfl | cases ho), ?_⟩; simpa [posVal, e1] using hs
    ·rename_i hkk; rw [if_neg (by intro e; cases e; exact hkk rfl)]; exact e3 k' x hk'
   ·rename_i hbb; obtain ⟨arr, T, e1, e2, e3⟩ := hb.blocks b' xs' hx'; refine ⟨arr, T, e1, e2, fun k' x hk' => ?_⟩; rw [if_neg (by intro e; cases e; exact hbb rfl)]; exact e3 k' x hk'
  ·split at hp
   ·rename_i e1; split at hq
    ·rename_i e2; rw [e1, e2]
    ·exact absurd hq ((hc c hp).2.own q)
   ·split at hq
    ·exact absurd hp ((hc c hq).2.own p)
    ·exact hb.inj p q c hp hq
  ·split at hp
   ·obtain ⟨h1, h2⟩ := hc c hp; exact ⟨h2.I, h2.F, h1, h2.μ⟩
   ·exact hb.free p c hp
 refine ⟨{ size := h.size, defs := h.defs, env := h.env, n := by simp only [List.length_set]; exact h.n, n0 := h.n0, B := h.B, I := h.I, F := h.F, μI := h.μI, μinj := h.μinj, own := ⟨_, hown⟩, al := fun s => ?_ }, hown⟩; rw [look_kill]; rcases killS_cases (qCells b k 1) (look st.t s) with e | ⟨e, hav⟩
 ·rw [e]; trivial
 ·rw [e]; exact AlOk.congrA hpos hav (h.al s)
def moved (st : St) (s b k : Nat) : St := ⟨(s, .al (.cell b k)) :: killL (qCells b k 1) st.t, st.h.set b ((st.h.getD b []).set k (look st.t s))⟩
theorem tmps_lt {g : Gh} {st : St} {a : Act} {w : World} (h : Sim g st a w) {s : Nat} (ho : (look st.t s).isOwn = true) : s < a.tmps.size := by
 obtain ⟨bl, hb⟩ := h.own; have hs := hb.slots s; apply Nat.lt_of_not_le; intro hle; have hu : a.tmps.getD s undef = undef := by rw [Array.getD_eq_getD_getElem?, Array.getElem?_eq_none hle]; rfl
 rw [hu] at hs; cases hl : look st.t s with
 | own nw e rows => rw [hl] at hs; rcases hs with ⟨_, _, e1⟩ | ⟨c, _, cap, arr, T, vs, e1, _⟩ <;> cases e1
 | omap nw es => rw [hl] at hs; obtain ⟨c, _, en, ck, e1, _⟩ := hs; cases e1
 | _ => rw [hl] at ho; cases ho
theorem Sim.moveTo {g : Gh} {st : St} {a : Act} {w : World} (h : Sim g st a w) {s b k : Nat} {xs : List SV} (ho : (look st.t s).isOwn = true) (hx : st.h[b]? = some xs) (hk : k < xs.length) (hv : posVal g a w (.cell b k) = a.tmps.getD s undef) :
 Sim g (moved st s b k) a w := by
 obtain ⟨bl, hb⟩ := h.own; have hlt := tmps_lt h ho; obtain ⟨h1, bl1, hb1, _, _, hfree⟩ := h.drop hb (.slot s); have hs := hb.slots s; have hx1 : (setPos st (.slot s) (.pv .bot)).h[b]? = some xs := hx; obtain ⟨h2, _⟩ := h1.adopt hb1 hx1 hk (sv := look st.t s) (o := bl (.slot s)) (by rw [hv]; exact hs) ho (fun c hc => ⟨(hb.free _ c hc).2.2.1, hfree c hc⟩); have h3 := h2.put (d := s) (sv := .al (.cell b k)) (v := a.tmps.getD s undef) (by rw [← h.size]; exact hlt) rfl (fun _ => hv.symm) rfl; rw [put_self hlt] at h3; refine h3.looks ?_ ?_
 ·simp [moved, St.put, setPos, List.getD_eq_getElem?_getD, hx]
 ·intro s'; simp only [moved, St.put, look, setPos, look_kill]; split <;> rfl
theorem store_move {P : Program} {st : St} (o : Oper) (t : TypeId) (x y : Operand) (b off s : Nat) (ag : Bool) (ho : o.op = .store t x y) (hl : ldInfo P t = some (ag, 1)) (hy : mv st y = .al (.slot s)) (hgy : gc st y) (hown : (look st.t s).isOwn = true)
 (hx : mv st x = .pv (.ptr b off)) (hgx : gc st x) (hfit : off < (st.h.getD b []).length) :
 ∀ g a w, Sim g st a w → ∃ w' g', (execOp a.eval o).run P w = .ok .skip w' ∧ g.to g' ∧ Sim g' (moved st s b off) a w' := by
 intro g a w h; obtain ⟨hfx, _⟩ := mv_ok h x hgx; rw [hx] at hfx; obtain ⟨_, hb1, hvx⟩ := hfx; obtain ⟨_, hay⟩ := mv_ok h y hgy; rw [hy] at hay; have hvy : a.eval y = a.tmps.getD s undef := hay hown; have hbl : b < st.h.length := h.n ▸ hb1; have hbe : st.h[b]? = some (st.h.getD b []) := by simp [List.getD, List.getElem?_eq_getElem hbl]
 obtain ⟨bl, hb⟩ := h.own; have hlt := tmps_lt h hown; have hs := hb.slots s; obtain ⟨hcl, hone⟩ := own_cells hown hs; rw [← hvy] at hs hcl hone; obtain ⟨arr, T, a1, ⟨a2, _⟩, _⟩ := hb.blocks b _ hbe; have hr := run_storeVar_at w hl (a.eval y) (by rw [hcl]; rfl) (g.μ b) off T arr a1 (by rw [a2]; exact hfit) (by rw [hcl]; simpa using hone); obtain ⟨h1, bl1, hb1', _, _, hfree⟩ := h.drop hb (.slot s); rw [hcl] at hr; have hbe1 : (setPos st (.slot s) (.pv .bot)).h[b]? = some (st.h.getD b []) := hbe; obtain ⟨h2, hb2⟩ := h1.blockWriteO hb1' (w' := w.setRow (g.μ b) (splice arr.toList off [a.eval y]).toArray) (k0 := off) (ys := [.bot]) (vs := [a.eval y]) (arr' := (splice arr.toList off [a.eval y]).toArray) hbe1 hfit a1 ⟨_, _, rfl, trivial, rfl⟩ (by simpa using hone) rfl (size_setRow _ _ _) (fun c hc => setRow_other w _ c _ hc) ⟨T, setRow_heap w _ arr _ T _ a1⟩ (by simp); have hfr2 : ∀ c, bl (.slot s) = some c → FreeAt g (fun p => if qCells b off 1 p = true then none else bl1 p) c := fun c hc => by
  obtain ⟨f1, f2, f3, f4⟩ := hfree c hc; refine ⟨f1, f2, f3, fun p hp => ?_⟩; split at hp
  ·cases hp
  ·exact f4 p hp
 have hval : posVal g a (w.setRow (g.μ b) (splice arr.toList off [a.eval y]).toArray) (.cell b off) = a.eval y := by
  simp only [posVal, setRow_heap w _ arr _ T _ a1]; rw [Array.getD_eq_getD_getElem?, ← Array.getElem?_toList, splice_get (by simp [a2]; exact hfit)]; simp
 have hs2 : SFit g (w.setRow (g.μ b) (splice arr.toList off [a.eval y]).toArray) (look st.t s) (a.eval y) (bl (.slot s)) :=
  SFit.frame (Gh.le.refl g) (fun c hc => setRow_other w _ c _ (fun e => (hfree c hc).μ b hb1 e.symm)) hs
 have hget2 : (st.h.set b (splice (st.h.getD b []) off ([PV.bot].map .pv)))[b]? = some (splice (st.h.getD b []) off ([PV.bot].map .pv)) := by
  rw [List.getElem?_set, if_pos rfl, if_pos hbl]
 obtain ⟨h3, _⟩ := h2.adopt hb2 (k := off) (xs := splice (st.h.getD b []) off ([PV.bot].map .pv)) hget2 (by rw [splice_length hfit]; exact hfit) (sv := look st.t s) (o := bl (.slot s)) (by rw [hval]; exact hs2) hown
  (fun c hc => ⟨by rw [size_setRow]; exact (hb.free _ c hc).2.2.1, hfr2 c hc⟩)
 have h4 := h3.put (d := s) (sv := .al (.cell b off)) (v := a.tmps.getD s undef) (by rw [← h.size]; exact hlt) rfl (fun _ => by rw [hval, hvy]) rfl; rw [put_self hlt] at h4; refine ⟨_, g, ?_, h.refl_to, h4.looks ?_ ?_⟩
 ·simp only [execOp, ho, hvx, Instr.storeAt, Instr.sureAddr, Sem.run_bind, Sem.run_pure, Result.andThen_ok, hr]
 ·have e1 : (splice (st.h.getD b []) off ([PV.bot].map .pv)).set off (look st.t s) = (st.h.getD b []).set off (look st.t s) := by
   apply List.ext_getElem?; intro i; rw [List.getElem?_set, List.getElem?_set, splice_length hfit, splice_get hfit]; by_cases hi : off = i
   ·rw [if_pos hi, if_pos hi]
   ·rw [if_neg hi, if_neg hi, if_neg (by simp; omega)]
  simp only [moved, St.put, setPos, List.set_set, e1]
 ·intro s'; simp only [moved, St.put, look, setPos, look_kill]; split
  ·rfl
  ·exact (killS_idem (qCells b off 1) (look st.t s')).symm
theorem store_cut {P : Program} {st : St} (o : Oper) (t : TypeId) (x y : Operand) (b off hi : Nat) (nw : Bool) (e : Nat) (rows : List (List PV)) (ag : Bool) (ho : o.op = .store t x y) (hl : ldInfo P t = some (ag, 1)) (hy : mv st y = .loc (.cell b off) 0 hi) (hgy : gc st y) (hp : posGet st (.cell b off) = .own nw e rows)
 (hx : mv st x = .pv (.ptr b off)) (hgx : gc st x) :
 ∀ g a w, Sim g st a w → ∃ w' g', (execOp a.eval o).run P w = .ok .skip w' ∧ g.to g' ∧ Sim g' ⟨killL (qCells b off 1) st.t, st.h.set b ((st.h.getD b []).set off (.own nw e (rows.take hi)))⟩ a w' := by
 intro g a w h; obtain ⟨hfx, _⟩ := mv_ok h x hgx; rw [hx] at hfx; obtain ⟨_, hb1, hvx⟩ := hfx; obtain ⟨_, hay⟩ := mv_ok h y hgy; rw [hy] at hay; have hbl : b < st.h.length := h.n ▸ hb1; have hbe : st.h[b]? = some (st.h.getD b []) := by simp [List.getD, List.getElem?_eq_getElem hbl]
 have hfit : off < (st.h.getD b []).length := by
  apply Nat.lt_of_not_le; intro hle; simp only [posGet] at hp; rw [List.getD_eq_getElem?_getD, List.getElem?_eq_none hle] at hp; cases hp
 obtain ⟨bl, hb⟩ := h.own; have hs := loc_cut hb hp hay; obtain ⟨hcl, hone⟩ := own_cells (x := .own nw e (rows.take hi)) rfl hs; obtain ⟨arr, T, a1, ⟨a2, _⟩, _⟩ := hb.blocks b _ hbe; have hr := run_storeVar_at w hl (a.eval y) (by rw [hcl]; rfl) (g.μ b) off T arr a1 (by rw [a2]; exact hfit) (by rw [hcl]; simpa using hone); rw [hcl] at hr; obtain ⟨h2, hb2⟩ := h.blockWriteO hb (w' := w.setRow (g.μ b) (splice arr.toList off [a.eval y]).toArray) (k0 := off) (ys := [.bot]) (vs := [a.eval y]) (arr' := (splice arr.toList off [a.eval y]).toArray) hbe hfit a1 ⟨_, _, rfl, trivial, rfl⟩ (by simpa using hone) rfl (size_setRow _ _ _) (fun c hc => setRow_other w _ c _ hc) ⟨T, setRow_heap w _ arr _ T _ a1⟩ (by simp); have hfr2 : ∀ c, bl (.cell b off) = some c → FreeAt g (fun p => if qCells b off 1 p = true then none else bl p) c := fun c hc => by
  obtain ⟨f1, f2, f3, f4⟩ := hb.free _ c hc; refine ⟨f1, f2, f4, fun p hp => ?_⟩; split at hp
  ·cases hp
  ·rename_i hq; have := hb.inj p (.cell b off) c hp hc; subst this; exact hq (by simp [qCells])
 have hval : posVal g a (w.setRow (g.μ b) (splice arr.toList off [a.eval y]).toArray) (.cell b off) = a.eval y := by
  simp only [posVal, setRow_heap w _ arr _ T _ a1]; rw [Array.getD_eq_getD_getElem?, ← Array.getElem?_toList, splice_get (by simp [a2]; exact hfit)]; simp
 have hs2 : SFit g (w.setRow (g.μ b) (splice arr.toList off [a.eval y]).toArray) (.own nw e (rows.take hi)) (a.eval y) (bl (.cell b off)) :=
  SFit.frame (Gh.le.refl g) (fun c hc => setRow_other w _ c _ (fun e => (hb.free _ c hc).2.2.2 b hb1 e.symm)) hs
 have hget2 : (st.h.set b (splice (st.h.getD b []) off ([PV.bot].map .pv)))[b]? = some (splice (st.h.getD b []) off ([PV.bot].map .pv)) := by
  rw [List.getElem?_set, if_pos rfl, if_pos hbl]
 obtain ⟨h3, _⟩ := h2.adopt hb2 (k := off) (xs := splice (st.h.getD b []) off ([PV.bot].map .pv)) hget2 (by rw [splice_length hfit]; exact hfit) (sv := .own nw e (rows.take hi)) (o := bl (.cell b off)) (by rw [hval]; exact hs2) rfl
  (fun c hc => ⟨by rw [size_setRow]; exact (hb.free _ c hc).2.2.1, hfr2 c hc⟩)
 refine ⟨_, g, ?_, h.refl_to, h3.looks ?_ ?_⟩
 ·simp only [execOp, ho, hvx, Instr.storeAt, Instr.sureAddr, Sem.run_bind, Sem.run_pure, Result.andThen_ok, hr]
 ·have e1 : (splice (st.h.getD b []) off ([PV.bot].map .pv)).set off (.own nw e (rows.take hi)) = (st.h.getD b []).set off (.own nw e (rows.take hi)) := by
   apply List.ext_getElem?; intro i; rw [List.getElem?_set, List.getElem?_set, splice_length hfit, splice_get hfit]; by_cases hi : off = i
   ·rw [if_pos hi, if_pos hi]
   ·rw [if_neg hi, if_neg hi, if_neg (by simp; omega)]
  simp only [List.set_set, e1]
 ·intro s'; simp only [look_kill]; exact (killS_idem (qCells b off 1) (look st.t s')).symm
theorem assign_cut {P : Program} {st : St} (o : Oper) (s d hi : Nat) (nw : Bool) (e : Nat) (rows : List (List PV)) (ho : o.op = .assign (.tmp s)) (hd : o.dst = some d) (hs : look st.t s = .loc (.slot d) 0 hi) (hp : look st.t d = .own nw e rows) {N : Nat} (hN : d < N) :
 ∀ g a w, g.N = N → Sim g st a w → ∃ v w' g', (execOp a.eval o).run P w = .ok (.value v) w' ∧ g.to g' ∧ Sim g' ⟨(d, .own nw e (rows.take hi)) :: killL (qSlot d) st.t, st.h⟩ (a.put o.dst v) w' := by
 intro g a w hg h; obtain ⟨bl, hb⟩ := h.own; have ha := h.al s; rw [hs] at ha; have hf := loc_cut hb (p := .slot d) hp ha; obtain ⟨h1, bl1, hb1, _, _, hfree⟩ := h.drop hb (.slot d); refine ⟨a.tmps.getD s undef, w, g, by simp [execOp, ho, Act.eval], h.refl_to, ?_⟩; rw [hd]; have h2 := h1.putOwn hb1 (d := d) (hg ▸ hN) rfl (Nat.le_refl _) (fun _ _ _ => rfl) hf rfl (fun c hc => ⟨(hb.free _ c hc).2.2.1, hfree c hc⟩); refine h2.looks rfl fun k => ?_; simp only [look, look_kill, setPos]; split <;> rfl
theorem append_loc {P : Program} {st : St} (o : Oper) (t : TypeId) (s x : Operand) (d e b : Nat) (p : Pos) (hi0 : Nat) (nw : Bool) (rows : List (List PV)) (ho : o.op = .call { callee := .builtin .append, args := #[s, x], argTypes := #[t, t] }) (hd : o.dst = some d)
 (hi : slInfo P t = some (e, b)) (hb1 : 0 < b) (hgs : gc st s) (hs : mv st s = .loc p 0 hi0) (hp : posGet st p = .own nw e rows) (hgx : gc st x) (hx : slOk st e (mv st x))
 (hbytes : ((rows.take hi0).length + (rowsOf st (mv st x)).length) * b ≤ 140737488355328) {N : Nat} (hN : d < N) :
 ∀ g a w, g.N = N → Sim g st a w → ∃ v w' g', (execOp a.eval o).run P w = .ok (.value v) w' ∧ g.to g' ∧
  Sim g' ⟨(d, .own nw e (rows.take hi0 ++ rowsOf st (mv st x))) :: killL (qSlot d) (setPos st p (.pv .bot)).t, (setPos st p (.pv .bot)).h⟩ (a.put o.dst v) w' := by
 intro g a w hg h; obtain ⟨bl, hb⟩ := h.own; obtain ⟨_, has⟩ := mv_ok h s hgs; rw [hs] at has; have hfp := loc_cut hb hp has; obtain ⟨q, cap, news, hvx, hfx, hcx⟩ := slice_cells h hgx hx; obtain ⟨v', w', o', hr, hen, hsz, hf', hw', hc'⟩ := append_run (ty := o.type) (k := cap) hi hb1 h.B hfp hfx hcx hbytes; refine ⟨v', w', g, ?_, h.refl_to, ?_⟩
 ·simp only [execOp, ho, resolve, invoke, builtin, List.map_toArray, List.map_cons, List.map_nil, Sem.run_bind, Sem.run_pure, Result.andThen_ok, hvx, hr]
 ·obtain ⟨h1, bl', hb', _, _, h4⟩ := h.drop hb p; rw [hd]; exact h1.putOwn hb' (hg ▸ hN) hen hsz hw' hf' rfl (fun c hc => ⟨(hc' c hc).1, (hc' c hc).2.elim (fun e => h4 c e) (fun hge => h1.fresh hb' hge)⟩)
/-! ### Structs that are made of what is owned -/
def aPart (st : St) (x : Operand) : List (PV × Option Pos) × Prop :=
 match mv st x with
 | .al p => ([(.bot, some p)], gc st x ∧ (posGet st p).isOwn = true)
 | .pv y => ((pcells y).map (fun z => (z, none)), gc st x ∧ (y.one = true ∨ isAggV (.pv y)))
 | _ => ([], False)
def aFill (pl : List (Nat × Nat)) (cells : List (PV × Option Pos)) : List (Nat × List (PV × Option Pos)) → List (PV × Option Pos) × Prop
 | [] => (cells, True)
 | (i, ys) :: rest => match pl[i]? with
  | some (off, n) => ((aFill pl (splice cells off ys) rest).1, ys.length = n ∧ off + n ≤ cells.length ∧ (aFill pl (splice cells off ys) rest).2)
  | none => (cells, False)
def aParts (st : St) : List (Nat × Operand) → List (Nat × List (PV × Option Pos))
 | [] => []
 | (i, x) :: r => (i, (aPart st x).1) :: aParts st r
def aPartsOk (st : St) : List (Nat × Operand) → Prop
 | [] => True
 | (_, x) :: r => (aPart st x).2 ∧ aPartsOk st r
def aglV (P : Program) (st : St) (t : TypeId) (parts : Array (Nat × Operand)) : SV × Prop :=
 match bInfo P t, zeroV P t with
 | some pl, some zs => (.agl (aFill pl (zs.map fun z => (z, none)) (aParts st parts.toList)).1, aPartsOk st parts.toList ∧ (aFill pl (zs.map fun z => (z, none)) (aParts st parts.toList)).2)
 | _, _ => (.pv .bot, False)
def conc (g : Gh) (a : Act) (w : World) : PV × Option Pos → PV
 | (x, none) => x
 | (_, some p) => .lit (posVal g a w p)
theorem map_splice {α β : Type} (f : α → β) (xs ys : List α) (k : Nat) : (splice xs k ys).map f = splice (xs.map f) k (ys.map f) := by
 simp [splice, List.map_take, List.map_drop]
theorem aPart_ok {g : Gh} {st : St} {a : Act} {w : World} (h : Sim g st a w) (x : Operand) (hd : (aPart st x).2) : FitL g ((aPart st x).1.map (conc g a w)) (a.eval x).cells.toList := by
 unfold aPart at hd ⊢; split at hd
 ·rename_i p hm; simp only [hm]; obtain ⟨h1, h2⟩ := hd; obtain ⟨_, ha⟩ := mv_ok h x h1; rw [hm] at ha; obtain ⟨bl, hb⟩ := h.own; obtain ⟨hc, _⟩ := own_cells h2 (pos_fit hb h2); rw [ha h2, hc]; exact ⟨_, _, rfl, rfl, rfl⟩
 ·rename_i y hm; simp only [hm]; obtain ⟨h1, h2⟩ := hd; obtain ⟨hf, _⟩ := mv_ok h x h1; rw [hm] at hf; have := pcells_ok hf.2 h2; simpa [Function.comp_def, conc] using this
 ·exact hd.elim
theorem aFill_ok {g : Gh} {st : St} {a : Act} {w : World} (h : Sim g st a w) (pl : List (Nat × Nat)) : ∀ (l : List (Nat × Operand)) (cs : List (PV × Option Pos)) (cells : Array Value), FitL g (cs.map (conc g a w)) cells.toList → aPartsOk st l → (aFill pl cs (aParts st l)).2 →
 ∃ out, Instr.fill (pl[·]?) cells (l.map fun p => (p.1, a.eval p.2)) = some out ∧ FitL g ((aFill pl cs (aParts st l)).1.map (conc g a w)) out.toList
 | [], cs, cells, hc, _, _ => ⟨cells, rfl, hc⟩
 | (i, x) :: rest, cs, cells, hc, hp, hd => by
  obtain ⟨hp1, hp2⟩ := hp; have hpc := aPart_ok h x hp1; simp only [aParts, aFill] at hd ⊢; cases hpl : pl[i]? with
  | none => rw [hpl] at hd; exact hd.elim
  | some y =>
   obtain ⟨off, n⟩ := y; rw [hpl] at hd; obtain ⟨h1, h2, h4⟩ := hd; have hsz : (a.eval x).cells.size = n := by have := hpc.length; rw [List.length_map, h1] at this; simpa using this
   have hcl := hc.length; rw [List.length_map] at hcl; simp only [List.map_cons]; rw [fill_step (pl[·]?) cells i off n (a.eval x) _ hpl hsz (by rw [← Array.length_toList, hcl]; exact h2)]; refine aFill_ok h pl rest _ _ ?_ hp2 h4; rw [map_splice]; simpa using hc.splice hpc off
theorem conc_get {g : Gh} {a : Act} {w : World} {xs : List (PV × Option Pos)} {vs : List Value} (h : FitL g (xs.map (conc g a w)) vs) {k : Nat} {x : PV} {p : Pos} (hk : xs[k]? = some (x, some p)) : vs[k]? = some (posVal g a w p) := by
 obtain ⟨v, h1, h2⟩ := h.get k (.lit (posVal g a w p)) (by rw [List.getElem?_map, hk]; rfl); have : v = posVal g a w p := h2; rw [h1, this]
def aBots : List (PV × Option Pos) → Prop
 | [] => True
 | (x, some _) :: r => x = .bot ∧ aBots r
 | (_, none) :: r => aBots r
theorem conc_fst {g : Gh} {a : Act} {w : World} : ∀ {xs : List (PV × Option Pos)} {vs : List Value}, aBots xs → FitL g (xs.map (conc g a w)) vs → FitL g (xs.map (·.1)) vs
 | [], _, _, h => h
 | (x, some p) :: r, _, ⟨hb, hr⟩, ⟨v, u, h1, h2, h3⟩ => by subst hb; exact ⟨v, u, h1, trivial, conc_fst hr h3⟩
 | (x, none) :: r, _, hr, ⟨v, u, h1, h2, h3⟩ => ⟨v, u, h1, h2, conc_fst (xs := r) hr h3⟩
theorem aBots_iff : ∀ {xs : List (PV × Option Pos)}, aBots xs ↔ ∀ x p, (x, some p) ∈ xs → x = .bot
 | [] => by simp [aBots]
 | (x, some p) :: r => by
  simp only [aBots, aBots_iff (xs := r), List.mem_cons, Prod.mk.injEq, Option.some.injEq]; constructor
  ·rintro ⟨h1, h2⟩ y q (⟨rfl, _⟩ | h)
   ·exact h1
   ·exact h2 y q h
  ·intro h; exact ⟨h x p (.inl ⟨rfl, rfl⟩), fun y q hq => h y q (.inr hq)⟩
 | (x, none) :: r => by
  simp only [aBots, aBots_iff (xs := r), List.mem_cons, Prod.mk.injEq]; constructor
  ·rintro h y q (⟨_, h2⟩ | h2)
   ·cases h2
   ·exact h y q h2
  ·intro h y q hq; exact h y q (.inr hq)
theorem aPart_bots (st : St) (x : Operand) : ∀ y p, (y, some p) ∈ (aPart st x).1 → y = .bot := by
 intro y p hy; unfold aPart at hy; split at hy
 ·simp at hy; exact hy.1
 ·simp at hy
 ·simp at hy
theorem aFill_bots (st : St) (pl : List (Nat × Nat)) : ∀ (l : List (Nat × Operand)) (cs : List (PV × Option Pos)), aBots cs → aBots (aFill pl cs (aParts st l)).1
 | [], cs, h => h
 | (i, x) :: r, cs, h => by
  simp only [aParts, aFill]; split
  ·refine aFill_bots st pl r _ (aBots_iff.2 fun y p hy => ?_); simp only [splice, List.mem_append] at hy; rcases hy with (hy | hy) | hy
   ·exact aBots_iff.1 h y p (List.mem_of_mem_take hy)
   ·exact aPart_bots st x y p hy
   ·exact aBots_iff.1 h y p (List.mem_of_mem_drop hy)
  ·exact h
theorem aglV_ok {P : Program} {st : St} (o : Oper) (t : TypeId) (parts : Array (Nat × Operand)) (ho : o.op = .build t parts) : Pop P st o (aglV P st t parts) := by
 intro g a w h hd; unfold aglV at hd ⊢; split at hd
 ·rename_i pl zs hb hz; obtain ⟨hp, hd⟩ := hd; unfold zeroV at hz; cases hi : P.info? t with
  | none => rw [hi] at hz; cases hz
  | some it =>
   rw [hi] at hz; simp only [Option.map_eq_some_iff] at hz; obtain ⟨z, hz, rfl⟩ := hz; have hz0 : FitL g (((z.cells.toList.map PV.lit).map fun z => (z, (none : Option Pos))).map (conc g a w)) z.cells.toList := by
    rw [List.map_map]; have : (conc g a w ∘ fun z => (z, none)) = id := by funext x; rfl
    rw [this, List.map_id]; exact fitL_lits g _
   obtain ⟨out, ho1, ho2⟩ := aFill_ok h pl parts.toList _ z.cells hz0 hp hd; have hbots := aFill_bots st pl parts.toList ((z.cells.toList.map PV.lit).map fun z => (z, (none : Option Pos))) (aBots_iff.2 fun y p hy => by simp at hy); have hbuilt : P.built t (parts.toList.map fun p => (p.1, a.eval p.2)) = some out := by
    unfold bInfo at hb; unfold Program.built; rw [hi]; split at hb
    ·rename_i fs hu; rw [hu]; simp only [hz, hb]; simpa using ho1
    ·rename_i n e hu; simp only [Option.map_eq_some_iff] at hb; obtain ⟨ie, hie, rfl⟩ := hb; rw [hu]; simp only [hz, hie]; refine fill_congr _ _ (fun i x hx => ?_) _ _ _ ho1; simp only [List.getElem?_map, Option.map_eq_some_iff] at hx; obtain ⟨k, hk, rfl⟩ := hx; have := List.getElem?_eq_some_iff.1 hk; obtain ⟨hlt, he⟩ := this; simp at he; subst he; rfl
    ·cases hb
   refine ⟨.agg out, ?_, ⟨rfl, out, rfl, conc_fst hbots ho2⟩, fun k x p hk _ => ⟨out, rfl, ?_⟩⟩
   ·simp only [execOp, ho, Sem.run_bind]; rw [run_build w t _ out (by rw [← hbuilt]; simp)]; simp
   ·have := conc_get ho2 hk; simpa using this
 ·exact hd.elim
def mvIn (n : Nat) : List (PV × Option Pos) → Nat → St → St × Prop
 | [], _, st => (st, True)
 | (_, none) :: r, k, st => mvIn n r (k + 1) st
 | (_, some (.slot s)) :: r, k, st => ((mvIn n r (k + 1) (moved st s n k)).1, (look st.t s).isOwn = true ∧ (mvIn n r (k + 1) (moved st s n k)).2)
 | (_, some (.cell _ _)) :: _, _, st => (st, False)
theorem mvIn_ok {g : Gh} {a : Act} {w : World} {n : Nat} : ∀ (xs : List (PV × Option Pos)) (k : Nat) {st : St} (_ : Sim g st a w) (_ : (mvIn n xs k st).2) (_ : n < st.h.length) (_ : (st.h.getD n []).length = k + xs.length)
 (_ : ∀ (j : Nat) (x : PV) (s : Nat), xs[j]? = some (x, some (.slot s)) → posVal g a w (.cell n (k + j)) = a.tmps.getD s undef), Sim g (mvIn n xs k st).1 a w
 | [], _, _, h, _, _, _, _ => h
 | (x, none) :: r, k, st, h, hd, hn, hl, hv => by
  simp only [mvIn] at hd ⊢; exact mvIn_ok r (k + 1) h hd hn (by rw [hl, List.length_cons]; omega) fun j y s hj => by have := hv (j + 1) y s (by simpa using hj); rwa [show k + (j + 1) = k + 1 + j by omega] at this
 | (x, some (.slot s)) :: r, k, st, h, hd, hn, hl, hv => by
  simp only [mvIn] at hd ⊢; have hx : st.h[n]? = some (st.h.getD n []) := by simp [List.getD, List.getElem?_eq_getElem hn]
  have h2 := h.moveTo hd.1 hx (k := k) (by rw [hl]; simp) (hv 0 x s rfl); have hl2 : ((st.h.getD n []).set k (look st.t s)).length = k + 1 + r.length := by rw [List.length_set, hl, List.length_cons]; omega
  refine mvIn_ok r (k + 1) h2 hd.2 (by simpa [moved] using hn) ?_ fun j y s' hj => by have := hv (j + 1) y s' (by simpa using hj); rwa [show k + (j + 1) = k + 1 + j by omega] at this
  have : (moved st s n k).h.getD n [] = (st.h.getD n []).set k (look st.t s) := by
   simp only [moved]; rw [List.getD_eq_getElem?_getD, List.getElem?_set, if_pos rfl, if_pos hn]; rfl
  rw [this]; exact hl2
 | (x, some (.cell _ _)) :: r, k, st, h, hd, hn, hl, hv => by simp only [mvIn] at hd
theorem box_agl {P : Program} {st : St} (o : Oper) (t : TypeId) (x : Operand) (d : Nat) (xs : List (PV × Option Pos)) (ho : o.op = .box t x) (hd : o.dst = some d) (hg : gc st x) (hm : mv st x = .agl xs) (hslots : ∀ (j : Nat) (y : PV) (s : Nat), xs[j]? = some (y, some (.slot s)) → (look st.t s).isOwn = true) (hone : allOne ((xs.filter fun y => y.2.isNone).map (·.1)) = true) (hin : (mvIn st.h.length xs 0 (st.grow ((xs.map (·.1)).map .pv))).2) (hnc : ∀ (y : PV) (p : Pos), (y, some p) ∈ xs → ∃ s, p = .slot s) {N : Nat} (hN : d < N) :
 ∀ g a w, g.N = N → Sim g st a w → ∃ v w' g', (execOp a.eval o).run P w = .ok (.value v) w' ∧ g.to g' ∧ Sim g' ((mvIn st.h.length xs 0 (st.grow ((xs.map (·.1)).map .pv))).1.put d (.pv (.ptr st.h.length 0))) (a.put o.dst v) w' := by
 intro g a w hgN h; obtain ⟨hf, hal⟩ := mv_ok h x hg; rw [hm] at hf hal; obtain ⟨_, vs, hv, hfl⟩ := hf; obtain ⟨bl, hb⟩ := h.own; have hval : ∀ (j : Nat) (y : PV) (s : Nat), xs[j]? = some (y, some (.slot s)) → vs[j]? = some (a.tmps.getD s undef) := fun j y s hj => by
  obtain ⟨vs', e1, e2⟩ := hal j y (.slot s) hj (hslots j y s hj); rw [hv] at e1; cases e1; exact e2
 have h1c : ∀ u ∈ vs.toList, u.oneCell' = true := by
  intro u hu; obtain ⟨j, hj⟩ := List.mem_iff_getElem?.1 hu; have hlen := hfl.length; have hjl : j < xs.length := by
   have := (List.getElem?_eq_some_iff.1 hj).1; rw [hlen, List.length_map] at this; exact this
  obtain ⟨yq, hxj⟩ : ∃ yq, xs[j]? = some yq := ⟨xs[j], List.getElem?_eq_getElem hjl⟩; obtain ⟨y, q⟩ := yq; have hxj' : xs[j]? = some (y, q) := hxj; cases q with
  | none =>
   obtain ⟨v', e1, e2⟩ := hfl.get j y (by rw [List.getElem?_map, hxj']; rfl); rw [hj] at e1; cases e1; have hy1 : y.one = true := by
    have hmem : y ∈ (xs.filter fun y => y.2.isNone).map (·.1) := List.mem_map.2 ⟨(y, none), List.mem_filter.2 ⟨List.mem_of_getElem? hxj', rfl⟩, rfl⟩; have : ∀ (l : List PV), allOne l = true → ∀ z ∈ l, z.one = true := fun l => by
     induction l with
     | nil => intro _ z hz; cases hz
     | cons z0 l ih =>
      intro hl z hz; simp only [allOne, Bool.and_eq_true] at hl; rcases List.mem_cons.1 hz with rfl | hz
      ·exact hl.1
      ·exact ih hl.2 z hz
    exact this _ hone y hmem
   exact one_ok hy1 e2
  | some p =>
   obtain ⟨s, rfl⟩ := hnc y p (List.mem_of_getElem? hxj'); have e1 := hval j y s hxj'; rw [Array.getElem?_toList] at hj; rw [hj] at e1; cases e1; exact (own_cells (hslots j y s hxj') (hb.slots s)).2
 have hcells : (a.eval x).cells = vs := by rw [hv]; rfl
 obtain ⟨g2, t2, l2, n2, m2, s2⟩ := h.blockNew (xs.map (·.1)) vs t hfl h1c; have hpv : ∀ j v, vs[j]? = some v → posVal g2 a (w.alloc (.cells vs t)) (.cell st.h.length j) = v := fun j v hj => by
  simp only [posVal, ← h.n, m2, heap_alloc_new]; simp [Array.getD_eq_getD_getElem?, hj]
 have s3 := mvIn_ok xs 0 s2 hin (by simp [St.grow]) (by simp [St.grow]) (fun j y s hj => by
  rw [Nat.zero_add]; exact hpv j _ (hval j y s hj))
 refine ⟨.pointer (some ⟨w.heap.size, 0, none⟩), w.alloc (.cells vs t), g2, ?_, t2, ?_⟩
 ·simp [execOp, ho, Instr.box, newVar, newRow, hcells]
 ·rw [hd]; refine s3.put (by rw [t2.N, hgN]; exact hN) ⟨rfl, ?_, ?_⟩ trivial rfl
  ·rw [n2, ← h.n]; omega
  ·rw [← h.n, m2]
/-! ### What a walk asks -/
def moveSt (st : St) (x y : Operand) : Option (St × Prop) :=
 match mv st y, mv st x with
 | .al (.slot s), .pv (.ptr b off) => if (look st.t s).isOwn = true then some (moved st s b off, gc st y ∧ gc st x ∧ off < (st.h.getD b []).length) else none
 | .loc (.cell b' k') lo hi, .pv (.ptr b off) => if lo = 0 ∧ b' = b ∧ k' = off then
  match posGet st (.cell b off) with
  | .own nw e rows => some (⟨killL (qCells b off 1) st.t, st.h.set b ((st.h.getD b []).set off (.own nw e (rows.take hi)))⟩, gc st y ∧ gc st x)
  | _ => none
  else none
 | _, _ => none
theorem moveSt_ok {P : Program} {st st' : St} {x y : Operand} {ok : Prop} (hm : moveSt st x y = some (st', ok)) (hok : ok) (o : Oper) (t : TypeId) {ag : Bool} (ho : o.op = .store t x y) (hl : ldInfo P t = some (ag, 1)) :
 ∀ g a w, Sim g st a w → ∃ w' g', (execOp a.eval o).run P w = .ok .skip w' ∧ g.to g' ∧ Sim g' st' a w' := by
 unfold moveSt at hm; split at hm
 ·rename_i s b off hy hx; split at hm
  ·rename_i hown; simp only [Option.some.injEq, Prod.mk.injEq] at hm; obtain ⟨rfl, rfl⟩ := hm; exact store_move o t x y b off s ag ho hl hy hok.1 hown hx hok.2.1 hok.2.2
  ·cases hm
 ·rename_i b' k' lo hi b off hy hx; split at hm
  ·rename_i hc; obtain ⟨rfl, rfl, rfl⟩ := hc; split at hm
   ·rename_i nw e rows hp; simp only [Option.some.injEq, Prod.mk.injEq] at hm; obtain ⟨rfl, rfl⟩ := hm; exact store_cut o t x y _ _ hi nw e rows ag ho hl hy hok.1 hp hx hok.2
   ·cases hm
  ·cases hm
 ·cases hm
/-! ### A struct with a part of its own, stored into a new block -/
def noPart : List (PV × Option Pos) → Bool
 | [] => true
 | (_, none) :: r => noPart r
 | (_, some _) :: _ => false
def agPart : List (PV × Option Pos) → Option (Nat × Nat × Nat)
 | [] => none
 | (_, none) :: r => match agPart r with
  | some (k, b, c) => some (k + 1, b, c)
  | none => none
 | (_, some (.cell b c)) :: r => if noPart r = true then some (0, b, c) else none
 | (_, some (.slot _)) :: _ => none
theorem noPart_ok : ∀ {xs : List (PV × Option Pos)}, noPart xs = true → ∀ (j : Nat) (y : PV) (p : Pos), xs[j]? ≠ some (y, some p)
 | [], _, j, y, p, h => by simp at h
 | (x, none) :: r, hn, 0, y, p, h => by simp at h
 | (x, none) :: r, hn, j + 1, y, p, h => noPart_ok (xs := r) hn j y p (by simpa using h)
 | (x, some _) :: r, hn, _, _, _, _ => by cases hn
theorem agPart_ok : ∀ {xs : List (PV × Option Pos)} {k b c : Nat}, agPart xs = some (k, b, c) → (∃ x, xs[k]? = some (x, some (.cell b c))) ∧ ∀ (j : Nat) (y : PV) (p : Pos), xs[j]? = some (y, some p) → j = k ∧ p = .cell b c
 | [], k, b, c, h => by cases h
 | (x, none) :: r, k, b, c, h => by
  simp only [agPart] at h; cases hr : agPart r with
  | none => rw [hr] at h; cases h
  | some q =>
   obtain ⟨k2, b2, c2⟩ := q; rw [hr] at h; simp only [Option.some.injEq, Prod.mk.injEq] at h; obtain ⟨rfl, rfl, rfl⟩ := h; obtain ⟨⟨y, hy⟩, hu⟩ := agPart_ok hr; refine ⟨⟨y, by simpa using hy⟩, fun j z p hj => ?_⟩; cases j with
   | zero => simp at hj
   | succ j => obtain ⟨e1, e2⟩ := hu j z p (by simpa using hj); exact ⟨by omega, e2⟩
 | (x, some (.cell b2 c2)) :: r, k, b, c, h => by
  simp only [agPart] at h; split at h
  ·rename_i hn; simp only [Option.some.injEq, Prod.mk.injEq] at h; obtain ⟨rfl, rfl, rfl⟩ := h; refine ⟨⟨x, rfl⟩, fun j z p hj => ?_⟩; cases j with
   | zero => simp at hj; exact ⟨rfl, hj.2.symm⟩
   | succ j => exact absurd (by simpa using hj) (noPart_ok hn j z p)
  ·cases h
 | (x, some (.slot _)) :: r, k, b, c, h => by cases h
def carry (st : St) (b' k' b k : Nat) : St := ⟨killL (qCells b k 1) st.t, (st.h.set b' ((st.h.getD b' []).set k' (.pv .bot))).set b (((st.h.set b' ((st.h.getD b' []).set k' (.pv .bot))).getD b []).set k (posGet st (.cell b' k')))⟩
theorem Sim.carry {g : Gh} {st : St} {a : Act} {w : World} (h : Sim g st a w) {b' k' b k : Nat} (ho : (posGet st (.cell b' k')).isOwn = true) (hne : b' ≠ b) (hbl : b < st.h.length) (hk : k < (st.h.getD b []).length) (hv : posVal g a w (.cell b k) = posVal g a w (.cell b' k')) :
 Sim g (AX.carry st b' k' b k) a w := by
 obtain ⟨bl, hb⟩ := h.own; obtain ⟨h1, bl1, hb1, _, _, hfree⟩ := h.drop hb (.cell b' k'); have hbe : (st.h.set b' ((st.h.getD b' []).set k' (.pv .bot))).getD b [] = st.h.getD b [] := by
  rw [List.getD_eq_getElem?_getD, List.getElem?_set, if_neg hne, List.getD_eq_getElem?_getD]
 have hb' : st.h[b']? = some (st.h.getD b' []) := by
  cases hq : st.h[b']? with
  | some xs => simp [List.getD, hq]
  | none => simp only [posGet, List.getD, hq] at ho; cases ho
 have hk' : (st.h.getD b' [])[k']? = some (posGet st (.cell b' k')) := by
  cases hq : (st.h.getD b' [])[k']? with
  | some z => simp only [posGet]; rw [List.getD_eq_getElem?_getD (l := st.h.getD b' []), hq]; rfl
  | none =>
   simp only [posGet] at ho; rw [List.getD_eq_getElem?_getD (l := st.h.getD b' []), hq] at ho; cases ho
 obtain ⟨arr, T, c1, c2, c3⟩ := hb.blocks b' _ hb'; have hs := (c3 k' _ hk').2; have hpv : posVal g a w (.cell b' k') = arr.getD k' undef := by simp only [posVal, c1]
 have hx1 : (setPos st (.cell b' k') (.pv .bot)).h[b]? = some (st.h.getD b []) := by
  simp only [setPos]; rw [List.getElem?_set, if_neg hne, List.getD_eq_getElem?_getD, List.getElem?_eq_getElem hbl]; rfl
 obtain ⟨h2, _⟩ := h1.adopt hb1 hx1 hk (sv := posGet st (.cell b' k')) (o := bl (.cell b' k')) (by rw [hv, hpv]; exact hs) ho (fun c hc => ⟨(hb.free _ c hc).2.2.1, hfree c hc⟩); unfold AX.carry; rw [hbe]; exact h2
theorem own_one {g : Gh} {st : St} {a : Act} {w : World} {bl : Pos → Option Nat} (hb : Owns g st a w bl) : ∀ {p : Pos}, (posGet st p).isOwn = true → (posVal g a w p).oneCell' = true
 | .slot s, ho => (own_cells ho (hb.slots s)).2
 | .cell b' k', ho => by
  have hb' : st.h[b']? = some (st.h.getD b' []) := by
   cases hq : st.h[b']? with
   | some xs => simp [List.getD, hq]
   | none => simp only [posGet, List.getD, hq] at ho; cases ho
  have hk' : (st.h.getD b' [])[k']? = some (posGet st (.cell b' k')) := by
   cases hq : (st.h.getD b' [])[k']? with
   | some z => simp only [posGet]; rw [List.getD_eq_getElem?_getD (l := st.h.getD b' []), hq]; rfl
   | none =>
    simp only [posGet] at ho; rw [List.getD_eq_getElem?_getD (l := st.h.getD b' []), hq] at ho; cases ho
  obtain ⟨arr', T', c1, c2, c3⟩ := hb.blocks b' _ hb'; have hpv : posVal g a w (.cell b' k') = arr'.getD k' undef := by simp only [posVal, c1]
  rw [hpv]; exact (own_cells ho (c3 k' _ hk').2).2
theorem store_agl0 {P : Program} {st : St} (o : Oper) (t : TypeId) (x y : Operand) (b : Nat) (xs : List (PV × Option Pos)) (ag : Bool) (ho : o.op = .store t x y) (hl : ldInfo P t = some (ag, xs.length)) (hy : mv st y = .agl xs) (hgy : gc st y)
 (hx : mv st x = .pv (.ptr b 0)) (hgx : gc st x) (hlen : (st.h.getD b []).length = xs.length) (hpart : ∀ (j : Nat) (y : PV) (p : Pos), xs[j]? = some (y, some p) → (posGet st p).isOwn = true) (hone : allOne ((xs.filter fun y => y.2.isNone).map (·.1)) = true) {g : Gh} {a : Act} {w : World} (h : Sim g st a w) :
 ∃ vs : Array Value, b < st.h.length ∧ (execOp a.eval o).run P w = .ok .skip (w.setRow (g.μ b) vs) ∧ Sim g ⟨killL (qCells b 0 xs.length) st.t, st.h.set b ((xs.map (·.1)).map .pv)⟩ a (w.setRow (g.μ b) vs) ∧
  (∀ j v, vs[j]? = some v → posVal g a (w.setRow (g.μ b) vs) (.cell b j) = v) ∧ (∀ (j : Nat) (y : PV) (p : Pos), xs[j]? = some (y, some p) → vs[j]? = some (posVal g a w p)) ∧
  ∀ b' k', b' ≠ b → b' < st.h.length → posVal g a (w.setRow (g.μ b) vs) (.cell b' k') = posVal g a w (.cell b' k') := by
 obtain ⟨hfx, _⟩ := mv_ok h x hgx; rw [hx] at hfx; obtain ⟨_, hb1, hvx⟩ := hfx; obtain ⟨hfy, hay⟩ := mv_ok h y hgy; rw [hy] at hfy hay; obtain ⟨_, vs, hvy, hfl⟩ := hfy; have e2 : ∀ (j : Nat) (y : PV) (p : Pos), xs[j]? = some (y, some p) → vs[j]? = some (posVal g a w p) := fun j x0 p hj => by
  obtain ⟨vs', e1, e2⟩ := hay j x0 p hj (hpart j x0 p hj); rw [hvy] at e1; cases e1; exact e2
 have hbl : b < st.h.length := h.n ▸ hb1; have hbe : st.h[b]? = some (st.h.getD b []) := by simp [List.getD, List.getElem?_eq_getElem hbl]
 obtain ⟨bl, hb⟩ := h.own; obtain ⟨arr, T, a1, ⟨a2, _⟩, _⟩ := hb.blocks b _ hbe; have hvl : vs.toList.length = xs.length := by rw [hfl.length, List.length_map]
 have h1c : ∀ u ∈ vs.toList, u.oneCell' = true := by
  intro u hu; obtain ⟨j, hj⟩ := List.mem_iff_getElem?.1 hu; have hjl : j < xs.length := by
   have := (List.getElem?_eq_some_iff.1 hj).1; rw [hvl] at this; exact this
  obtain ⟨yq, hxj⟩ : ∃ yq, xs[j]? = some yq := ⟨xs[j], List.getElem?_eq_getElem hjl⟩; obtain ⟨y, q⟩ := yq; cases q with
  | none =>
   obtain ⟨v', e1, e3⟩ := hfl.get j y (by rw [List.getElem?_map, hxj]; rfl); rw [hj] at e1; cases e1; have hmem : y ∈ (xs.filter fun y => y.2.isNone).map (·.1) := List.mem_map.2 ⟨(y, none), List.mem_filter.2 ⟨List.mem_of_getElem? hxj, rfl⟩, rfl⟩; have : ∀ (l : List PV), allOne l = true → ∀ z ∈ l, z.one = true := fun l => by
    induction l with
    | nil => intro _ z hz; cases hz
    | cons z0 l ih =>
     intro hl z hz; simp only [allOne, Bool.and_eq_true] at hl; rcases List.mem_cons.1 hz with rfl | hz
     ·exact hl.1
     ·exact ih hl.2 z hz
   exact one_ok (this _ hone y hmem) e3
  | some p =>
   rw [Array.getElem?_toList, e2 j y p hxj] at hj; cases hj; exact own_one hb (hpart j y p hxj)
 have hcells : (a.eval y).cells = vs := by rw [hvy]; rfl
 have hr := run_storeVar_at w hl (a.eval y) (by rw [hcells, ← Array.length_toList, hvl]) (g.μ b) 0 T arr a1 (by rw [a2, hlen]; omega) (by rw [hcells]; exact h1c); rw [hcells] at hr; obtain ⟨h2, hb2⟩ := h.blockWriteO hb (w' := w.setRow (g.μ b) (splice arr.toList 0 vs.toList).toArray) (k0 := 0) (ys := xs.map (·.1)) (vs := vs.toList) (arr' := (splice arr.toList 0 vs.toList).toArray) hbe (by rw [List.length_map, hlen]; omega) a1 hfl h1c rfl (size_setRow _ _ _) (fun c hc => setRow_other w _ c _ hc) ⟨T, setRow_heap w _ arr _ T _ a1⟩ (by simp); have hsp : splice (st.h.getD b []) 0 ((xs.map (·.1)).map SV.pv) = (xs.map (·.1)).map SV.pv := by
  unfold splice; rw [List.take_zero, List.nil_append, List.drop_eq_nil_of_le (by rw [List.length_map, List.length_map, hlen]; omega), List.append_nil]
 rw [hsp, List.length_map] at h2; have hsp2 : (splice arr.toList 0 vs.toList).toArray = vs := by
  apply Array.ext'; show splice arr.toList 0 vs.toList = vs.toList; unfold splice; rw [List.take_zero, List.nil_append, List.drop_eq_nil_of_le (by rw [Array.length_toList, a2, hlen, hvl]; omega), List.append_nil]
 rw [hsp2] at h2 hr; refine ⟨vs, hbl, ?_, h2, fun j v hj => ?_, e2, fun b' k' hne hb' => ?_⟩
 ·simp only [execOp, ho, hvx, Instr.storeAt, Instr.sureAddr, Sem.run_bind, Sem.run_pure, Result.andThen_ok, hr]
 ·simp only [posVal, setRow_heap w _ arr _ T _ a1]; rw [Array.getD_eq_getD_getElem?, hj]; rfl
 ·have hμ : g.μ b' ≠ g.μ b := fun e => hne (h.μinj b' b (by rw [h.n]; exact hb') hb1 e); simp only [posVal]; rw [setRow_other w _ _ _ hμ]
theorem store_agl {P : Program} {st : St} (o : Oper) (t : TypeId) (x y : Operand) (b b' k k' : Nat) (xs : List (PV × Option Pos)) (ag : Bool) (ho : o.op = .store t x y) (hl : ldInfo P t = some (ag, xs.length)) (hy : mv st y = .agl xs) (hgy : gc st y)
 (hx : mv st x = .pv (.ptr b 0)) (hgx : gc st x) (hlen : (st.h.getD b []).length = xs.length) (hp : agPart xs = some (k, b', k')) (hne : b' ≠ b) (hown : (posGet st (.cell b' k')).isOwn = true) (hone : allOne ((xs.filter fun y => y.2.isNone).map (·.1)) = true) :
 ∀ g a w, Sim g st a w → ∃ w' g', (execOp a.eval o).run P w = .ok .skip w' ∧ g.to g' ∧ Sim g' (AX.carry ⟨killL (qCells b 0 xs.length) st.t, st.h.set b ((xs.map (·.1)).map .pv)⟩ b' k' b k) a w' := by
 intro g a w h; obtain ⟨⟨x0, hk0⟩, huniq⟩ := agPart_ok hp; obtain ⟨vs, hbl, hr, h2, hv, he, hk⟩ := store_agl0 (P := P) o t x y b xs ag ho hl hy hgy hx hgx hlen (fun j y p hj => by obtain ⟨_, rfl⟩ := huniq j y p hj; exact hown) hone h; have hb' : b' < st.h.length := by
  apply Nat.lt_of_not_le; intro hle; simp only [posGet, List.getD_eq_getElem?_getD (l := st.h), List.getElem?_eq_none hle] at hown; cases hown
 have hp2 : posGet ⟨killL (qCells b 0 xs.length) st.t, st.h.set b ((xs.map (·.1)).map .pv)⟩ (.cell b' k') = posGet st (.cell b' k') := by
  simp only [posGet]; rw [List.getD_eq_getElem?_getD (l := st.h.set b _), List.getElem?_set, if_neg (Ne.symm hne), List.getD_eq_getElem?_getD (l := st.h)]
 refine ⟨_, g, hr, h.refl_to, h2.carry (by rw [hp2]; exact hown) hne (by simpa using hbl) ?_ ?_⟩
 ·have : k < xs.length := (List.getElem?_eq_some_iff.1 hk0).1; rw [List.getD_eq_getElem?_getD, List.getElem?_set, if_pos rfl, if_pos hbl]; simpa using this
 ·rw [hv k _ (he k x0 _ hk0), hk b' k' hne hb']
theorem store_aglS {P : Program} {st : St} (o : Oper) (t : TypeId) (x y : Operand) (b : Nat) (xs : List (PV × Option Pos)) (ag : Bool) (ho : o.op = .store t x y) (hl : ldInfo P t = some (ag, xs.length)) (hy : mv st y = .agl xs) (hgy : gc st y)
 (hx : mv st x = .pv (.ptr b 0)) (hgx : gc st x) (hlen : (st.h.getD b []).length = xs.length) (hown : ∀ (j : Nat) (y : PV) (s : Nat), xs[j]? = some (y, some (.slot s)) → (look st.t s).isOwn = true) (hnc : ∀ (y : PV) (p : Pos), (y, some p) ∈ xs → ∃ s, p = .slot s) (hone : allOne ((xs.filter fun y => y.2.isNone).map (·.1)) = true)
 (hin : (mvIn b xs 0 ⟨killL (qCells b 0 xs.length) st.t, st.h.set b ((xs.map (·.1)).map .pv)⟩).2) :
 ∀ g a w, Sim g st a w → ∃ w' g', (execOp a.eval o).run P w = .ok .skip w' ∧ g.to g' ∧ Sim g' (mvIn b xs 0 ⟨killL (qCells b 0 xs.length) st.t, st.h.set b ((xs.map (·.1)).map .pv)⟩).1 a w' := by
 intro g a w h; obtain ⟨vs, hbl, hr, h2, hv, he, hk⟩ := store_agl0 (P := P) o t x y b xs ag ho hl hy hgy hx hgx hlen (fun j y p hj => by obtain ⟨s, rfl⟩ := hnc y p (List.mem_of_getElem? hj); exact hown j y s hj) hone h; refine ⟨_, g, hr, h.refl_to, mvIn_ok xs 0 h2 hin (by simpa using hbl) ?_ fun j y s hj => ?_⟩
 ·simp only; rw [List.getD_eq_getElem?_getD, List.getElem?_set, if_pos rfl, if_pos hbl]; simp
 ·rw [Nat.zero_add, hv j _ (he j y _ hj)]; rfl
def anyPart (xs : List (PV × Option Pos)) : Bool := xs.any fun z => z.2.isSome
def aOwn (st : St) : List (PV × Option Pos) → Prop
 | [] => True
 | (_, some (.slot s)) :: r => (look st.t s).isOwn = true ∧ aOwn st r
 | (_, some (.cell _ _)) :: _ => False
 | (x, none) :: r => x.one = true ∧ aOwn st r
theorem aOwn_slots {st : St} : ∀ {xs : List (PV × Option Pos)}, aOwn st xs → ∀ (j : Nat) (y : PV) (s : Nat), xs[j]? = some (y, some (.slot s)) → (look st.t s).isOwn = true
 | [], _, j, y, s, h => by simp at h
 | (x, some (.slot s')) :: r, ho, 0, y, s, h => by simp at h; rw [← h.2]; exact ho.1
 | (x, some (.slot s')) :: r, ho, j + 1, y, s, h => aOwn_slots ho.2 j y s (by simpa using h)
 | (x, some (.cell _ _)) :: r, ho, _, y, s, h => ho.elim
 | (x, none) :: r, ho, 0, y, s, h => by simp at h
 | (x, none) :: r, ho, j + 1, y, s, h => aOwn_slots ho.2 j y s (by simpa using h)
theorem aOwn_nc {st : St} : ∀ {xs : List (PV × Option Pos)}, aOwn st xs → ∀ (y : PV) (p : Pos), (y, some p) ∈ xs → ∃ s, p = .slot s
 | [], _, y, p, h => by cases h
 | (x, some (.slot s')) :: r, ho, y, p, h => by
  rcases List.mem_cons.1 h with e | h
  ·cases e; exact ⟨_, rfl⟩
  ·exact aOwn_nc ho.2 y p h
 | (x, some (.cell _ _)) :: r, ho, _, _, h => ho.elim
 | (x, none) :: r, ho, y, p, h => by
  rcases List.mem_cons.1 h with e | h
  ·cases e
  ·exact aOwn_nc ho.2 y p h
theorem aOwn_one {st : St} : ∀ {xs : List (PV × Option Pos)}, aOwn st xs → allOne ((xs.filter fun y => y.2.isNone).map (·.1)) = true
 | [], _ => rfl
 | (x, some (.slot s')) :: r, ho => by simpa using aOwn_one ho.2
 | (x, some (.cell _ _)) :: r, ho => ho.elim
 | (x, none) :: r, ho => by
  have := aOwn_one ho.2; simp only [List.filter_cons, Option.isNone_none, if_true, List.map_cons, allOne, Bool.and_eq_true]; exact ⟨ho.1, this⟩
def moveAg (st : St) (x y : Operand) : Option (St × Nat × Prop) :=
 match mv st y, mv st x with
 | .agl xs, .pv (.ptr b 0) => match agPart xs with
  | some (k, b', k') => if b = b' + 1 ∧ b + 1 = st.h.length then
   some (carry ⟨killL (qCells b 0 xs.length) st.t, st.h.set b ((xs.map (·.1)).map .pv)⟩ b' k' b k, xs.length,
    gc st y ∧ gc st x ∧ (st.h.getD b []).length = xs.length ∧ (posGet st (.cell b' k')).isOwn = true ∧ allOne ((xs.filter fun y => y.2.isNone).map (·.1)) = true)
   else none
  | none => if anyPart xs = true ∧ b + 1 = st.h.length then
   some ((mvIn b xs 0 ⟨killL (qCells b 0 xs.length) st.t, st.h.set b ((xs.map (·.1)).map .pv)⟩).1, xs.length,
    gc st y ∧ gc st x ∧ (st.h.getD b []).length = xs.length ∧ aOwn st xs ∧ (mvIn b xs 0 ⟨killL (qCells b 0 xs.length) st.t, st.h.set b ((xs.map (·.1)).map .pv)⟩).2)
   else none
 | _, _ => none
theorem moveAg_ok {P : Program} {st st' : St} {x y : Operand} {n : Nat} {ok : Prop} (hm : moveAg st x y = some (st', n, ok)) (hok : ok) (o : Oper) (t : TypeId) {ag : Bool} (ho : o.op = .store t x y) (hl : ldInfo P t = some (ag, n)) :
 ∀ g a w, Sim g st a w → ∃ w' g', (execOp a.eval o).run P w = .ok .skip w' ∧ g.to g' ∧ Sim g' st' a w' := by
 unfold moveAg at hm; split at hm
 ·rename_i xs b hy hx; split at hm
  ·rename_i k b' k' hp; split at hm
   ·rename_i hc; simp only [Option.some.injEq, Prod.mk.injEq] at hm; obtain ⟨rfl, rfl, rfl⟩ := hm; exact store_agl o t x y b b' k k' xs ag ho hl hy hok.1 hx hok.2.1 hok.2.2.1 hp (by omega) hok.2.2.2.1 hok.2.2.2.2
   ·cases hm
  ·split at hm
   ·rename_i hc; simp only [Option.some.injEq, Prod.mk.injEq] at hm; obtain ⟨rfl, rfl, rfl⟩ := hm; exact store_aglS o t x y b xs ag ho hl hy hok.1 hx hok.2.1 hok.2.2.1 (aOwn_slots hok.2.2.2.1) (aOwn_nc hok.2.2.2.1) (aOwn_one hok.2.2.2.1) hok.2.2.2.2
   ·cases hm
 ·cases hm
def cutOf (st : St) (s d : Nat) : Option St :=
 match look st.t s with
 | .loc (.slot d') lo hi => if d' = d ∧ lo = 0 then
  match look st.t d with
  | .own nw e rows => some ⟨(d, .own nw e (rows.take hi)) :: killL (qSlot d) st.t, st.h⟩
  | _ => none
  else none
 | _ => none
theorem cutOf_ok {P : Program} {st st' : St} {s d : Nat} (hc : cutOf st s d = some st') (o : Oper) (ho : o.op = .assign (.tmp s)) (hd : o.dst = some d) {N : Nat} (hN : d < N) :
 ∀ g a w, g.N = N → Sim g st a w → ∃ v w' g', (execOp a.eval o).run P w = .ok (.value v) w' ∧ g.to g' ∧ Sim g' st' (a.put o.dst v) w' := by
 unfold cutOf at hc; split at hc
 ·rename_i d' lo hi hs; split at hc
  ·rename_i he; obtain ⟨rfl, rfl⟩ := he; split at hc
   ·rename_i nw e rows hp; cases hc; exact assign_cut o s _ hi nw e rows ho hd hs hp hN
   ·cases hc
  ·cases hc
 ·cases hc
def boxedIn : List Oper → Option Nat → Bool
 | [], _ => false
 | o :: r, d => (match o.op, d with
  | .box _ (.tmp s), some d => s == d
  | _, _ => false) || boxedIn r d
def ownAny (st : St) : List (Nat × Operand) → Bool
 | [] => false
 | (_, x) :: r => (match mv st x with
  | .al p => (posGet st p).isOwn
  | _ => false) || ownAny st r
end Go.AX

namespace Go.AX
def isDg (b : UInt8) : Bool := 48 ≤ b && b ≤ 57
def valD (l : List UInt8) : Nat := l.foldl (fun n b => 10 * n + (b.toNat - 48)) 0
def dgs (n : Nat) : List UInt8 := if h : n < 10 then [UInt8.ofNat (48 + n)] else dgs (n / 10) ++ [UInt8.ofNat (48 + n % 10)]
termination_by n
def canD (l : List UInt8) : Prop := l ≠ [] ∧ (∀ b ∈ l, isDg b = true) ∧ (l.head? = some 48 → l.length = 1)
theorem valD_snoc (l : List UInt8) (b : UInt8) : valD (l ++ [b]) = 10 * valD l + (b.toNat - 48) := by simp [valD]
theorem isDg_iff {b : UInt8} : isDg b = true ↔ 48 ≤ b.toNat ∧ b.toNat ≤ 57 := by
 unfold isDg; rw [Bool.and_eq_true, decide_eq_true_eq, decide_eq_true_eq, UInt8.le_iff_toNat_le, UInt8.le_iff_toNat_le]; rfl
theorem dg_toNat {k : Nat} (h : k < 10) : (UInt8.ofNat (48 + k)).toNat = 48 + k := by
 rw [UInt8.toNat_ofNat', Nat.mod_eq_of_lt (by omega)]
theorem valD_dgs (n : Nat) : valD (dgs n) = n := by
 induction n using Nat.strongRecOn with
 | _ n ih =>
  unfold dgs; split
  ·rename_i h; simp only [valD, List.foldl_cons, List.foldl_nil, dg_toNat h]; omega
  ·rename_i h; rw [valD_snoc, ih (n / 10) (by omega), dg_toNat (by omega)]; omega
theorem dgs_ne (n : Nat) : dgs n ≠ [] := by unfold dgs; split <;> simp
theorem dgs_dg (n : Nat) : ∀ b ∈ dgs n, isDg b = true := by
 induction n using Nat.strongRecOn with
 | _ n ih =>
  unfold dgs; split
  ·rename_i h; intro b hb; rw [List.mem_singleton] at hb; subst hb; rw [isDg_iff, dg_toNat h]; omega
  ·rename_i h; intro b hb; rcases List.mem_append.1 hb with hb | hb
   ·exact ih _ (by omega) b hb
   ·rw [List.mem_singleton] at hb; subst hb; rw [isDg_iff, dg_toNat (Nat.mod_lt _ (by omega))]; omega
theorem head_app {l m : List UInt8} (h : l ≠ []) : (l ++ m).head? = l.head? := by cases l with | nil => exact absurd rfl h | cons _ _ => rfl
theorem dgs_head (n : Nat) : (dgs n).head? = some 48 → n = 0 := by
 induction n using Nat.strongRecOn with
 | _ n ih =>
  unfold dgs; split
  ·rename_i h; intro e; simp only [List.head?_cons, Option.some.injEq] at e; have := congrArg UInt8.toNat e; rw [dg_toNat h] at this; have h48 : (48 : UInt8).toNat = 48 := rfl; omega
  ·rename_i h; intro e; rw [head_app (dgs_ne _)] at e; have := ih _ (by omega) e; omega
theorem dgs_can (n : Nat) : canD (dgs n) := ⟨dgs_ne n, dgs_dg n, fun h => by rw [dgs_head n h]; unfold dgs; simp⟩
theorem valD_pos {l : List UInt8} : ∀ (_ : ∀ b ∈ l, isDg b = true) (_ : l ≠ []), l.head? ≠ some 48 → 0 < valD l := by
 suffices h : ∀ (l : List UInt8) (a : Nat), 0 < a → 0 < l.foldl (fun n b => 10 * n + (b.toNat - 48)) a by
  intro hd hn hh; cases l with
  | nil => exact absurd rfl hn
  | cons b r =>
   have hb := isDg_iff.1 (hd b (List.mem_cons_self ..)); have hne : b.toNat ≠ 48 := fun e => hh (by
    simp only [List.head?_cons, Option.some.injEq]; exact UInt8.toNat_inj.1 e)
   have h48 : (48 : UInt8).toNat = 48 := rfl; exact h r _ (show 0 < 10 * 0 + (b.toNat - 48) by omega)
 intro l
 induction l with
 | nil => exact fun a h => h
 | cons b r ih => exact fun a h => ih _ (show 0 < 10 * a + (b.toNat - 48) by omega)
theorem dgs_valD {l : List UInt8} (h : canD l) : dgs (valD l) = l := by
 obtain ⟨h1, h2, h3⟩ := h
 suffices key : ∀ (m : Nat) (l : List UInt8), l.length = m → l ≠ [] → (∀ b ∈ l, isDg b = true) → (l.head? = some 48 → l.length = 1) → dgs (valD l) = l from key _ l rfl h1 h2 h3
 intro m
 induction m with
 | zero => intro l hl hn; exact absurd (List.eq_nil_of_length_eq_zero hl) hn
 | succ m ih =>
  intro l hl hn hd hh; obtain ⟨r, b, rfl⟩ : ∃ r b, l = r ++ [b] := ⟨_, _, (List.dropLast_concat_getLast hn).symm⟩; have hb := isDg_iff.1 (hd b (by simp)); rw [valD_snoc]; have hofb : UInt8.ofNat (48 + (b.toNat - 48)) = b := by
   apply UInt8.toNat_inj.1; rw [dg_toNat (by omega)]; omega
  by_cases hr : r = []
  ·subst hr; rw [dgs, dif_pos (by simp [valD]; omega)]; simp [valD, hofb]
  ·have hh' : r.head? ≠ some 48 := fun e => by
    have := hh (by rw [head_app hr]; exact e); simp at this; exact hr this
   have hpos := valD_pos (l := r) (fun b hb => hd b (List.mem_append_left _ hb)) hr hh'; rw [dgs, dif_neg (by omega)]; rw [show (10 * valD r + (b.toNat - 48)) / 10 = valD r by omega, show (10 * valD r + (b.toNat - 48)) % 10 = b.toNat - 48 by omega, hofb]; rw [ih r (by simp at hl; exact hl) hr (fun b hb => hd b (List.mem_append_left _ hb)) fun e => absurd e hh']
theorem valD_ge {l : List UInt8} (h : canD l) (h1 : 1 < l.length) : 10 ^ (l.length - 1) ≤ valD l := by
 suffices key : ∀ (m : Nat) (l : List UInt8), l.length = m + 1 → (∀ b ∈ l, isDg b = true) → l.head? ≠ some 48 → 10 ^ m ≤ valD l by
  have := key (l.length - 1) l (by omega) h.2.1 fun e => by have := h.2.2 e; omega
  exact this
 intro m
 induction m with
 | zero =>
  intro l hl hd hh; have := valD_pos hd (fun e => by subst e; cases hl) hh; exact this
 | succ m ih =>
  intro l hl hd hh; have hn : l ≠ [] := fun e => by subst e; cases hl
  obtain ⟨r, b, rfl⟩ : ∃ r b, l = r ++ [b] := ⟨_, _, (List.dropLast_concat_getLast hn).symm⟩; have hr : r ≠ [] := fun e => by subst e; simp at hl
  have := ih r (by simp at hl; exact hl) (fun b hb => hd b (List.mem_append_left _ hb)) fun e => hh (by rw [head_app hr]; exact e); rw [valD_snoc, Nat.pow_succ]; omega
end Go.AX

namespace Go.EX
open Go.AX
/-! ### Numbers of blocks, in binary -/
inductive Ps where
  | e
  | z (p : Ps)
  | o (p : Ps)
  deriving DecidableEq
namespace Ps
def val : Ps → Nat
 | .e => 1
 | .z p => 2 * p.val
 | .o p => 2 * p.val + 1
noncomputable def succ (p : Ps) : Ps := Ps.rec (motive := fun _ => Ps) (.z .e) (fun p _ => .o p) (fun _ ih => .z ih) p
noncomputable def of (k : Nat) : Ps := Nat.rec (motive := fun _ => Ps) .e (fun _ p => p.succ) k
theorem pos : ∀ p : Ps, 1 ≤ p.val
 | .e => Nat.le_refl _
 | .z p => by have := pos p; simp only [val]; omega
 | .o p => by simp only [val]; omega
theorem val_succ : ∀ p : Ps, p.succ.val = p.val + 1
 | .e => rfl
 | .z _ => rfl
 | .o p => by show 2 * p.succ.val = _; rw [val_succ p]; simp only [val]; omega
theorem val_of : ∀ k, (of k).val = k + 1
 | 0 => rfl
 | k + 1 => by show (of k).succ.val = _; rw [val_succ, val_of k]
theorem inj : ∀ {p q : Ps}, p.val = q.val → p = q
 | .e, .e, _ => rfl
 | .e, .z q, h => by have := pos q; simp only [val] at h; omega
 | .e, .o q, h => by have := pos q; simp only [val] at h; omega
 | .z p, .e, h => by have := pos p; simp only [val] at h; omega
 | .z p, .z q, h => by rw [inj (p := p) (q := q) (by simp only [val] at h; omega)]
 | .z p, .o q, h => by simp only [val] at h; omega
 | .o p, .e, h => by have := pos p; simp only [val] at h; omega
 | .o p, .z q, h => by simp only [val] at h; omega
 | .o p, .o q, h => by rw [inj (p := p) (q := q) (by simp only [val] at h; omega)]
theorem of_inj {j k : Nat} (h : of j = of k) : j = k := by
 have := val_of j; rw [h, val_of] at this; omega
end Ps
/-! ### Tries -/
inductive Tr (α : Type) where
  | lf
  | nd (l : Tr α) (o : Option α) (r : Tr α)
namespace Tr
variable {α : Type}
noncomputable def get (t : Tr α) (p : Ps) : Option α :=
 Ps.rec (motive := fun _ => Tr α → Option α)
  (fun t => Tr.casesOn (motive := fun _ => Option α) t none (fun _ o _ => o))
  (fun _ ih t => Tr.casesOn (motive := fun _ => Option α) t none (fun l _ _ => ih l))
  (fun _ ih t => Tr.casesOn (motive := fun _ => Option α) t none (fun _ _ r => ih r)) p t
noncomputable def set (t : Tr α) (v : Option α) (p : Ps) : Tr α :=
 Ps.rec (motive := fun _ => Tr α → Tr α)
  (fun t => Tr.casesOn (motive := fun _ => Tr α) t (.nd .lf v .lf) (fun l _ r => .nd l v r))
  (fun _ ih t => Tr.casesOn (motive := fun _ => Tr α) t (.nd (ih .lf) none .lf) (fun l o r => .nd (ih l) o r))
  (fun _ ih t => Tr.casesOn (motive := fun _ => Tr α) t (.nd .lf none (ih .lf)) (fun l o r => .nd l o (ih r))) p t
theorem get_lf : ∀ p : Ps, (lf : Tr α).get p = none
 | .e => rfl
 | .z _ => rfl
 | .o _ => rfl
theorem get_set (v : Option α) : ∀ (p : Ps) (t : Tr α), (t.set v p).get p = v
 | .e, .lf => rfl
 | .e, .nd _ _ _ => rfl
 | .z p, .lf => get_set v p .lf
 | .z p, .nd l _ _ => get_set v p l
 | .o p, .lf => get_set v p .lf
 | .o p, .nd _ _ r => get_set v p r
theorem get_ne (v : Option α) : ∀ {p q : Ps} (t : Tr α), p ≠ q → (t.set v p).get q = t.get q
 | .e, .e, _, h => absurd rfl h
 | .e, .z q, .lf, _ => get_lf q
 | .e, .z _, .nd _ _ _, _ => rfl
 | .e, .o q, .lf, _ => get_lf q
 | .e, .o _, .nd _ _ _, _ => rfl
 | .z _, .e, .lf, _ => rfl
 | .z _, .e, .nd _ _ _, _ => rfl
 | .z p, .z q, .lf, h => (get_ne v (p := p) (q := q) .lf (fun e => h (by rw [e]))).trans (get_lf q)
 | .z p, .z q, .nd l _ _, h => get_ne v (p := p) (q := q) l (fun e => h (by rw [e]))
 | .z _, .o q, .lf, _ => get_lf q
 | .z _, .o _, .nd _ _ _, _ => rfl
 | .o _, .e, .lf, _ => rfl
 | .o _, .e, .nd _ _ _, _ => rfl
 | .o _, .z q, .lf, _ => get_lf q
 | .o _, .z _, .nd _ _ _, _ => rfl
 | .o p, .o q, .lf, h => (get_ne v (p := p) (q := q) .lf (fun e => h (by rw [e]))).trans (get_lf q)
 | .o p, .o q, .nd _ _ r, h => get_ne v (p := p) (q := q) r (fun e => h (by rw [e]))
end Tr
/-! ### Values -/
inductive Nl where
  | p
  | s
  | m
  | f
  | i
def Nl.v : Nl → Value
 | .p => .pointer none
 | .s => .slice none 0 0
 | .m => .map none
 | .f => .nilFunc
 | .i => .nilIface
inductive CV where
  | b (x : Bool)
  | i (k : IntKind) (n : Int)
  | s (l : List Nat)
  | k (c : Nl)
  | p (b : Ps) (off : Nat)
  | sl (b : Ps) (off n cap : Nat)
  | su (b : Ps) (off n e : Nat)
  | se
  | m (b : Ps)
  | f (fn : Fn) (first cap : List CV)
  | a (xs : List CV)
  | t (xs : List CV)
inductive CB where
  | c (T : TypeId) (xs : List CV)
  | mp (es : List (CV × CV × Nat)) (ck : Nat)
structure Gs where
  μ : Ps → Nat
  K : Ps → Nat
  D : Ps → Prop
def bs (l : List Nat) : ByteArray := ⟨(l.map UInt8.ofNat).toArray⟩
mutual
def VR (g : Gs) : CV → Value → Prop
  | .b x, v => v = .bool x
  | .i k n, v => v = .int k n
  | .s l, v => (∀ x ∈ l, x < 256) ∧ v = .string (bs l)
  | .k c, v => v = c.v
  | .p b off, v => g.D b ∧ v = .pointer (some ⟨g.μ b, off, none⟩)
  | .sl b off n cap, v => g.D b ∧ n ≤ cap ∧ v = .slice (some ⟨g.μ b, off, none⟩) n cap
  | .su b off n e, v => g.D b ∧ ∃ cap, v = .slice (some ⟨g.μ b, off, none⟩) n cap ∧ n ≤ cap ∧ off + cap * e = g.K b
  | .se, v => ∃ a cap, v = .slice (some a) 0 cap
  | .m b, v => g.D b ∧ v = .map (some (g.μ b))
  | .f fn xs ys, v => ∃ a c : Array Value, v = .func fn a c ∧ VL g xs a.toList ∧ VL g ys c.toList
  | .a xs, v => ∃ vs : Array Value, v = .agg vs ∧ VL g xs vs.toList
  | .t xs, v => ∃ vs : Array Value, v = .tuple vs ∧ VL g xs vs.toList
def VL (g : Gs) : List CV → List Value → Prop
  | [], vs => vs = []
  | x :: xs, vs => ∃ v r, vs = v :: r ∧ VR g x v ∧ VL g xs r
end
def ME (g : Gs) : List (CV × CV × Nat) → List MapEntry → Prop
 | [], es => es = []
 | (k, x, n) :: r, es => ∃ m l, es = m :: l ∧ VR g k m.key ∧ VR g x m.val ∧ m.born = n ∧ ME g r l
def OR (g : Gs) (b : Ps) : CB → Option Obj → Prop
 | .c T xs, o => ∃ arr vs, o = some (.cells arr T (0, 0)) ∧ arr.size = g.K b ∧ VL g xs vs ∧ vs <+: arr.toList
 | .mp es ck, o => ∃ en, o = some (.map en ck) ∧ ME g es en.toList
def Gs.le (g g' : Gs) : Prop := ∀ b, g.D b → g'.D b ∧ g'.μ b = g.μ b ∧ g'.K b = g.K b
theorem Gs.le.refl (g : Gs) : g.le g := fun _ h => ⟨h, rfl, rfl⟩
theorem Gs.le.trans {a b c : Gs} (h : a.le b) (h' : b.le c) : a.le c := fun x hx =>
 let ⟨h1, h2, h3⟩ := h x hx; let ⟨h4, h5, h6⟩ := h' x h1; ⟨h4, h5.trans h2, h6.trans h3⟩
mutual
theorem VR.mono {g g' : Gs} (hl : g.le g') : ∀ {x : CV} {v : Value}, VR g x v → VR g' x v
  | .b _, _, h => h
  | .i _ _, _, h => h
  | .s _, _, h => h
  | .k _, _, h => h
  | .p b _, _, ⟨h, e⟩ => ⟨(hl b h).1, by rw [(hl b h).2.1]; exact e⟩
  | .sl b _ _ _, _, ⟨h, l, e⟩ => ⟨(hl b h).1, l, by rw [(hl b h).2.1]; exact e⟩
  | .su b _ _ _, _, ⟨h, c, e, l, q⟩ => ⟨(hl b h).1, c, by rw [(hl b h).2.1]; exact e, l, by rw [(hl b h).2.2]; exact q⟩
  | .se, _, h => h
  | .m b, _, ⟨h, e⟩ => ⟨(hl b h).1, by rw [(hl b h).2.1]; exact e⟩
  | .f _ _ _, _, ⟨a, c, e, h1, h2⟩ => ⟨a, c, e, VL.mono hl h1, VL.mono hl h2⟩
  | .a _, _, ⟨vs, e, h⟩ => ⟨vs, e, VL.mono hl h⟩
  | .t _, _, ⟨vs, e, h⟩ => ⟨vs, e, VL.mono hl h⟩
theorem VL.mono {g g' : Gs} (hl : g.le g') : ∀ {xs : List CV} {vs : List Value}, VL g xs vs → VL g' xs vs
  | [], _, h => h
  | _ :: _, _, ⟨v, r, e, h1, h2⟩ => ⟨v, r, e, VR.mono hl h1, VL.mono hl h2⟩
end
theorem ME.mono {g g' : Gs} (hl : g.le g') : ∀ {es : List (CV × CV × Nat)} {en : List MapEntry}, ME g es en → ME g' es en
 | [], _, h => h
 | (_, _, _) :: _, _, ⟨m, l, e, h1, h2, h3, h4⟩ => ⟨m, l, e, h1.mono hl, h2.mono hl, h3, ME.mono hl h4⟩
theorem OR.mono {g g' : Gs} (hl : g.le g') {b : Ps} (hb : g.D b) : ∀ {c : CB} {o : Option Obj}, OR g b c o → OR g' b c o
 | .c _ _, _, ⟨arr, vs, e, k, h1, h2⟩ => ⟨arr, vs, e, by rw [(hl b hb).2.2]; exact k, h1.mono hl, h2⟩
 | .mp _ _, _, ⟨en, e, h⟩ => ⟨en, e, h.mono hl⟩
theorem VL.length {g : Gs} : ∀ {xs : List CV} {vs : List Value}, VL g xs vs → vs.length = xs.length
 | [], _, h => by simp only [VL] at h; simp [h]
 | _ :: _, _, ⟨_, _, e, _, h⟩ => by simp [e, VL.length h]
theorem VL.get {g : Gs} : ∀ {xs : List CV} {vs : List Value} (_ : VL g xs vs) (i : Nat) (x : CV), xs[i]? = some x → ∃ v, vs[i]? = some v ∧ VR g x v
 | [], _, _, i, x, h => by simp at h
 | _ :: _, _, ⟨v, _, e, h1, _⟩, 0, x, h => by simp at h; subst h; exact ⟨v, by simp [e], h1⟩
 | _ :: _, _, ⟨_, _, e, _, h2⟩, i + 1, x, h => by
  simp at h; obtain ⟨v', e1, e2⟩ := VL.get h2 i x h; exact ⟨v', by simp [e, e1], e2⟩
theorem VL.app {g : Gs} : ∀ {xs ys : List CV} {vs us : List Value}, VL g xs vs → VL g ys us → VL g (xs ++ ys) (vs ++ us)
 | [], _, _, _, h, h' => by simp only [VL] at h; subst h; exact h'
 | _ :: _, _, _, _, ⟨v, _, e, h1, h2⟩, h' => ⟨v, _, by simp [e], h1, VL.app h2 h'⟩
theorem VL.drop {g : Gs} : ∀ {xs : List CV} {vs : List Value} (_ : VL g xs vs) (k : Nat), VL g (xs.drop k) (vs.drop k)
 | [], _, h, k => by simp only [VL] at h; subst h; simp [VL]
 | _ :: _, _, h, 0 => h
 | _ :: _, _, ⟨_, _, e, _, h⟩, k + 1 => by subst e; exact VL.drop h k
theorem VL.take {g : Gs} : ∀ {xs : List CV} {vs : List Value} (_ : VL g xs vs) (k : Nat), VL g (xs.take k) (vs.take k)
 | [], _, h, k => by simp only [VL] at h; subst h; simp [VL]
 | _ :: _, _, _, 0 => rfl
 | _ :: _, _, ⟨v, _, e, h1, h2⟩, k + 1 => by subst e; exact ⟨v, _, rfl, h1, VL.take h2 k⟩
def CV.one : CV → Bool
 | .a _ => false
 | .t _ => false
 | _ => true
theorem one_ok {g : Gs} : ∀ {x : CV} {v : Value}, x.one = true → VR g x v → v.oneCell' = true
 | .b _, _, _, h => by cases h; rfl
 | .i _ _, _, _, h => by cases h; rfl
 | .s _, _, _, ⟨_, e⟩ => by subst e; rfl
 | .k c, _, _, h => by cases h; cases c <;> rfl
 | .p _ _, _, _, ⟨_, e⟩ => by subst e; rfl
 | .sl _ _ _ _, _, _, ⟨_, _, e⟩ => by subst e; rfl
 | .su _ _ _ _, _, _, ⟨_, _, e, _⟩ => by subst e; rfl
 | .se, _, _, ⟨_, _, e⟩ => by subst e; rfl
 | .m _, _, _, ⟨_, e⟩ => by subst e; rfl
 | .f _ _ _, _, _, ⟨_, _, e, _⟩ => by subst e; rfl
 | .a _, _, h1, _ => by simp [CV.one] at h1
 | .t _, _, h1, _ => by simp [CV.one] at h1
def allOne : List CV → Bool
 | [] => true
 | x :: r => x.one && allOne r
theorem allOne_ok {g : Gs} : ∀ {xs : List CV} {vs : List Value}, allOne xs = true → VL g xs vs → ∀ v ∈ vs, v.oneCell' = true
 | [], _, _, h => by simp only [VL] at h; subst h; simp
 | _ :: _, _, ho, ⟨_, _, e, h1, h2⟩ => by
  subst e; simp only [allOne, Bool.and_eq_true] at ho; intro v hv; rcases List.mem_cons.1 hv with rfl | hv
  ·exact one_ok ho.1 h1
  ·exact allOne_ok ho.2 h2 v hv
def CV.cells : CV → List CV
 | .a xs => xs
 | x => [x]
theorem cells_ok {g : Gs} : ∀ {x : CV} {v : Value}, VR g x v → VL g x.cells v.cells.toList
 | .a _, _, ⟨_, e, h⟩ => by subst e; exact h
 | .b _, _, h => by cases h; exact ⟨_, _, rfl, rfl, rfl⟩
 | .i _ _, _, h => by cases h; exact ⟨_, _, rfl, rfl, rfl⟩
 | .s _, _, h => by have e := h.2; subst e; exact ⟨_, _, rfl, h, rfl⟩
 | .k c, _, h => by cases h; cases c <;> exact ⟨_, _, rfl, rfl, rfl⟩
 | .p _ _, _, h => by have e := h.2; subst e; exact ⟨_, _, rfl, h, rfl⟩
 | .sl _ _ _ _, _, h => by have e := h.2.2; subst e; exact ⟨_, _, rfl, h, rfl⟩
 | .su _ _ _ _, _, h => by obtain ⟨h1, c, e, h2⟩ := h; subst e; exact ⟨_, _, rfl, ⟨h1, c, rfl, h2⟩, rfl⟩
 | .se, _, h => by obtain ⟨a, c, e⟩ := h; subst e; exact ⟨_, _, rfl, ⟨a, c, rfl⟩, rfl⟩
 | .m _, _, h => by have e := h.2; subst e; exact ⟨_, _, rfl, h, rfl⟩
 | .f _ _ _, _, h => by obtain ⟨a, c, e, h2⟩ := h; subst e; exact ⟨_, _, rfl, ⟨a, c, rfl, h2⟩, rfl⟩
 | .t _, _, h => by obtain ⟨a, e, h2⟩ := h; subst e; exact ⟨_, _, rfl, ⟨a, rfl, h2⟩, rfl⟩
/-! ### The machine's values, taken over -/
def cv1 : Value → Option CV
 | .bool b => some (.b b)
 | .int k n => some (.i k n)
 | .string s => some (.s (s.data.toList.map UInt8.toNat))
 | .pointer none => some (.k .p)
 | .slice none 0 0 => some (.k .s)
 | .map none => some (.k .m)
 | .nilFunc => some (.k .f)
 | .nilIface => some (.k .i)
 | _ => none
def cvL : List Value → Option (List CV)
 | [] => some []
 | v :: r => match cv1 v with
  | some x => match cvL r with
   | some xs => some (x :: xs)
   | none => none
  | none => none
def cvOf : Value → Option CV
 | .agg vs => match cvL vs.toList with
  | some xs => some (.a xs)
  | none => none
 | v => cv1 v
theorem bs_toNat (s : ByteArray) : bs (s.data.toList.map UInt8.toNat) = s := by
 unfold bs; cases s with
 | mk d =>
  have : (d.toList.map UInt8.toNat).map UInt8.ofNat = d.toList := by
   rw [List.map_map]; have : (UInt8.ofNat ∘ UInt8.toNat) = id := by funext x; simp
   rw [this, List.map_id]
  rw [this]
theorem cv1_ok {g : Gs} {v : Value} {x : CV} (h : cv1 v = some x) : VR g x v := by
 unfold cv1 at h; split at h <;> cases h <;> first | rfl | exact ⟨fun x hx => by obtain ⟨u, _, rfl⟩ := List.mem_map.1 hx; exact u.toNat_lt, (congrArg Value.string (bs_toNat _)).symm⟩
theorem cvL_ok {g : Gs} : ∀ {vs : List Value} {xs : List CV}, cvL vs = some xs → VL g xs vs
 | [], _, h => by cases h; rfl
 | v :: r, xs, h => by
  unfold cvL at h; split at h
  ·rename_i x hx; split at h
   ·rename_i ys hy; cases h; exact ⟨v, r, rfl, cv1_ok hx, cvL_ok hy⟩
   ·cases h
  ·cases h
theorem cvOf_ok {g : Gs} {v : Value} {x : CV} (h : cvOf v = some x) : VR g x v := by
 unfold cvOf at h; split at h
 ·rename_i vs; split at h
  ·rename_i xs hx; cases h; exact ⟨vs, rfl, cvL_ok hx⟩
  ·cases h
 ·exact cv1_ok h
/-! ### The heap -/
structure Sm (g : Gs) (h : Ps → Option CB) (w : World) : Prop where
  dom : ∀ b c, h b = some c → g.D b
  obj : ∀ b c, h b = some c → OR g b c w.heap[g.μ b]?
  inj : ∀ b b', h b ≠ none → h b' ≠ none → g.μ b = g.μ b' → b = b'
structure To (g : Gs) (h : Ps → Option CB) (w : World) (g' : Gs) (h' : Ps → Option CB) (w' : World) : Prop where
  le : g.le g'
  size : w.heap.size ≤ w'.heap.size
  env : envOf w' = envOf w
  drawn : w.drawn ≤ w'.drawn
  keep : ∀ c, c < w.heap.size → (∀ b, h b ≠ none → g.μ b ≠ c) → w'.heap[c]? = w.heap[c]?
  new : ∀ b, h' b ≠ none → (∃ b0, h b0 ≠ none ∧ g.μ b0 = g'.μ b) ∨ w.heap.size ≤ g'.μ b
theorem To.refl {g : Gs} {h : Ps → Option CB} {w : World} : To g h w g h w :=
 ⟨.refl g, Nat.le_refl _, rfl, Nat.le_refl _, fun _ _ _ => rfl, fun b hb => .inl ⟨b, hb, rfl⟩⟩
theorem To.trans {g g' g2 : Gs} {h h' h2 : Ps → Option CB} {w w' w2 : World} (a : To g h w g' h' w') (b : To g' h' w' g2 h2 w2) : To g h w g2 h2 w2 where
 le := a.le.trans b.le
 size := Nat.le_trans a.size b.size
 env := b.env.trans a.env
 drawn := Nat.le_trans a.drawn b.drawn
 keep := fun c hc hn => by
  rw [b.keep c (Nat.lt_of_lt_of_le hc a.size) fun x hx e => ?_, a.keep c hc hn]; rcases a.new x hx with ⟨y, hy, he⟩ | he
  ·exact hn y hy (he.trans e)
  ·rw [e] at he; omega
 new := fun x hx => by
  rcases b.new x hx with ⟨y, hy, he⟩ | he
  ·rcases a.new y hy with ⟨u, hu, hue⟩ | hue
   ·exact .inl ⟨u, hu, hue.trans he⟩
   ·right; rw [← he]; exact hue
  ·exact .inr (Nat.le_trans a.size he)
def Bl (n : Ps) (g : Gs) : Prop := ∀ b, g.D b ↔ b.val < n.val
def Gs.add (g : Gs) (b : Ps) (m k : Nat) : Gs := ⟨fun p => if p = b then m else g.μ p, fun p => if p = b then k else g.K p, fun p => p = b ∨ g.D p⟩
theorem Gs.le_add {g : Gs} {b : Ps} (h : ¬ g.D b) (m k : Nat) : g.le (g.add b m k) := fun p hp => by
 have : p ≠ b := fun e => h (e ▸ hp); exact ⟨.inr hp, by simp [Gs.add, this], by simp [Gs.add, this]⟩
theorem Bl.add {n : Ps} {g : Gs} (h : Bl n g) (m k : Nat) : Bl n.succ (g.add n m k) := fun b => by
 show b = n ∨ g.D b ↔ _; rw [h b, Ps.val_succ]; constructor
 ·rintro (rfl | h) <;> omega
 ·intro hb; by_cases e : b.val = n.val
  ·exact .inl (Ps.inj e)
  ·right; omega
theorem Bl.new {n : Ps} {g : Gs} (h : Bl n g) : ¬ g.D n := fun hd => by have := (h n).1 hd; omega
theorem set_get {h : Tr CB} {b p : Ps} {v : Option CB} : (h.set v b).get p = if p = b then v else h.get p := by
 by_cases e : p = b
 ·rw [if_pos e, e, Tr.get_set]
 ·rw [if_neg e, Tr.get_ne v h (fun x => e x.symm)]
theorem Sm.wr {g : Gs} {h : Tr CB} {w w' : World} (hs : Sm g h.get w) {b : Ps} {c c' : CB} (hb : h.get b = some c) {ob : Obj} (ho : OR g b c' (some ob)) (hw : w'.heap = w.heap.setIfInBounds (g.μ b) ob) (he : envOf w' = envOf w) (hd : w.drawn ≤ w'.drawn) :
 Sm g (h.set (some c') b).get w' ∧ To g h.get w g (h.set (some c') b).get w' := by
 have hbn : h.get b ≠ none := by rw [hb]; simp
 have hlt : g.μ b < w.heap.size := by
  have := hs.obj b c hb; apply Nat.lt_of_not_le; intro hle; rw [Array.getElem?_eq_none hle] at this; cases c <;> (obtain ⟨_, h⟩ := this; first | (obtain ⟨_, h, _⟩ := h; cases h) | (obtain ⟨h, _⟩ := h; cases h))
 have hlive : ∀ p, (h.set (some c') b).get p ≠ none → h.get p ≠ none := fun p hp => by
  rw [set_get] at hp; by_cases e : p = b
  ·rw [e]; exact hbn
  ·rwa [if_neg e] at hp
 refine ⟨⟨fun p c1 hp => ?_, fun p c1 hp => ?_, fun p q hp hq => hs.inj p q (hlive p hp) (hlive q hq)⟩, ⟨.refl g, by rw [hw]; simp, he, hd, fun k hk hn => ?_, fun p hp => .inl ⟨p, hlive p hp, rfl⟩⟩⟩
 ·rw [set_get] at hp; by_cases e : p = b
  ·rw [e]; exact hs.dom b c hb
  ·rw [if_neg e] at hp; exact hs.dom p c1 hp
 ·rw [set_get] at hp; by_cases e : p = b
  ·rw [if_pos e] at hp; cases hp; rw [e, hw, Array.getElem?_setIfInBounds_self_of_lt hlt]; exact ho
  ·rw [if_neg e] at hp; rw [hw, Array.getElem?_setIfInBounds_ne (fun x => e (hs.inj b p hbn (by rw [hp]; simp) x).symm)]; exact hs.obj p c1 hp
 ·rw [hw, Array.getElem?_setIfInBounds_ne (hn b hbn)]
theorem Sm.al {g : Gs} {h : Tr CB} {w w' : World} {n : Ps} (hs : Sm g h.get w) (hl : Bl n g) {c : CB} {ob : Obj} {k : Nat} (ho : OR (g.add n w.heap.size k) n c (some ob)) (hw : w'.heap = w.heap.push ob) (he : envOf w' = envOf w) (hd : w.drawn ≤ w'.drawn) :
 Sm (g.add n w.heap.size k) (h.set (some c) n).get w' ∧ To g h.get w (g.add n w.heap.size k) (h.set (some c) n).get w' := by
 have hle := Gs.le_add hl.new w.heap.size k; have hlt : ∀ p, h.get p ≠ none → g.μ p < w.heap.size := fun p hp => by
  cases hc : h.get p with
  | none => exact absurd hc hp
  | some c =>
   have := hs.obj p c hc; apply Nat.lt_of_not_le; intro hle; rw [Array.getElem?_eq_none hle] at this; cases c <;> (obtain ⟨_, h⟩ := this; first | (obtain ⟨_, h, _⟩ := h; cases h) | (obtain ⟨h, _⟩ := h; cases h))
 have hold : ∀ p, p ≠ n → (g.add n w.heap.size k).μ p = g.μ p := fun p hp => by simp [Gs.add, hp]
 have hnew : (g.add n w.heap.size k).μ n = w.heap.size := by simp [Gs.add]
 have hlive : ∀ p, p ≠ n → (h.set (some c) n).get p ≠ none → h.get p ≠ none := fun p hn hp => by rwa [set_get, if_neg hn] at hp
 refine ⟨⟨fun p c1 hp => ?_, fun p c1 hp => ?_, fun p q hp hq hpq => ?_⟩, ⟨hle, by rw [hw]; simp, he, hd, fun j hj hn => by rw [hw, Array.getElem?_push_lt hj, Array.getElem?_eq_getElem hj], fun p hp => ?_⟩⟩
 ·rw [set_get] at hp; by_cases e : p = n
  ·exact .inl e
  ·rw [if_neg e] at hp; exact .inr (hs.dom p c1 hp)
 ·rw [set_get] at hp; by_cases e : p = n
  ·rw [if_pos e] at hp; cases hp; rw [e, hnew, hw, Array.getElem?_push_size]; exact ho
  ·rw [if_neg e] at hp; rw [hold p e, hw, Array.getElem?_push_lt (hlt p (by rw [hp]; simp)), ← Array.getElem?_eq_getElem]; exact (hs.obj p c1 hp).mono hle (hs.dom p c1 hp)
 ·by_cases e1 : p = n
  ·by_cases e2 : q = n
   ·rw [e1, e2]
   ·rw [e1, hnew, hold q e2] at hpq; have := hlt q (hlive q e2 hq); omega
  ·by_cases e2 : q = n
   ·rw [e2, hnew, hold p e1] at hpq; have := hlt p (hlive p e1 hp); omega
   ·rw [hold p e1, hold q e2] at hpq; exact hs.inj p q (hlive p e1 hp) (hlive q e2 hq) hpq
 ·by_cases e : p = n
  ·right; rw [e, hnew]; exact Nat.le_refl _
  ·left; exact ⟨p, hlive p e hp, (hold p e).symm⟩
theorem Sm.mv {g : Gs} {h : Tr CB} {w w' : World} {n b : Ps} (hs : Sm g h.get w) (hl : Bl n g) {c c' : CB} (hb : h.get b = some c) {ob : Obj} (ho : OR (g.add n (g.μ b) (g.K b)) n c' (some ob)) (hw : w'.heap = w.heap.setIfInBounds (g.μ b) ob) (he : envOf w' = envOf w) (hd : w.drawn ≤ w'.drawn) :
 Sm (g.add n (g.μ b) (g.K b)) ((h.set none b).set (some c') n).get w' ∧ To g h.get w (g.add n (g.μ b) (g.K b)) ((h.set none b).set (some c') n).get w' := by
 have hbn : h.get b ≠ none := by rw [hb]; simp
 have hle := Gs.le_add hl.new (g.μ b) (g.K b); have hlt : g.μ b < w.heap.size := by
  have := hs.obj b c hb; apply Nat.lt_of_not_le; intro hle; rw [Array.getElem?_eq_none hle] at this; cases c <;> (obtain ⟨_, h⟩ := this; first | (obtain ⟨_, h, _⟩ := h; cases h) | (obtain ⟨h, _⟩ := h; cases h))
 have hold : ∀ p, p ≠ n → (g.add n (g.μ b) (g.K b)).μ p = g.μ p := fun p hp => by simp [Gs.add, hp]
 have hnew : (g.add n (g.μ b) (g.K b)).μ n = g.μ b := by simp [Gs.add]
 have hlive : ∀ p, p ≠ n → ((h.set none b).set (some c') n).get p ≠ none → h.get p ≠ none ∧ p ≠ b := fun p hn hp => by
  rw [set_get, if_neg hn, set_get] at hp; by_cases e : p = b
  ·rw [if_pos e] at hp; exact absurd rfl hp
  ·rw [if_neg e] at hp; exact ⟨hp, e⟩
 refine ⟨⟨fun p c1 hp => ?_, fun p c1 hp => ?_, fun p q hp hq hpq => ?_⟩, ⟨hle, by rw [hw]; simp, he, hd, fun j hj hn => by rw [hw, Array.getElem?_setIfInBounds_ne (hn b hbn)], fun p hp => ?_⟩⟩
 ·by_cases e : p = n
  ·exact .inl e
  ·cases hc : h.get p with
   | none => exact absurd hc (hlive p e (by rw [hp]; simp)).1
   | some c2 => exact .inr (hs.dom p c2 hc)
 ·by_cases e : p = n
  ·rw [set_get, if_pos e] at hp; cases hp; rw [e, hnew, hw, Array.getElem?_setIfInBounds_self_of_lt hlt]; exact ho
  ·obtain ⟨l1, l2⟩ := hlive p e (by rw [hp]; simp); rw [set_get, if_neg e, set_get, if_neg l2] at hp; rw [hold p e, hw, Array.getElem?_setIfInBounds_ne (fun x => l2 (hs.inj b p hbn l1 x).symm)]; exact (hs.obj p c1 hp).mono hle (hs.dom p c1 hp)
 ·by_cases e1 : p = n
  ·by_cases e2 : q = n
   ·rw [e1, e2]
   ·rw [e1, hnew, hold q e2] at hpq; obtain ⟨l1, l2⟩ := hlive q e2 hq; exact absurd (hs.inj b q hbn l1 hpq).symm l2
  ·by_cases e2 : q = n
   ·rw [e2, hnew, hold p e1] at hpq; obtain ⟨l1, l2⟩ := hlive p e1 hp; exact absurd (hs.inj p b l1 hbn hpq) l2
   ·rw [hold p e1, hold q e2] at hpq; exact hs.inj p q (hlive p e1 hp).1 (hlive q e2 hq).1 hpq
 ·by_cases e : p = n
  ·left; exact ⟨b, hbn, by rw [e, hnew]⟩
  ·left; exact ⟨p, (hlive p e hp).1, (hold p e).symm⟩
end Go.EX
