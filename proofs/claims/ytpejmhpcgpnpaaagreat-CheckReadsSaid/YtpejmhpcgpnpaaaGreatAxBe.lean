/-
  AX, part IN: calls that are handed a slice of the caller's own, and write into it.
  AX, part Cp: copy, into a slice of one's own.
  AX, part J: a function's body, run of plain data; that it is right.
  AX, part K: what a state forgets; operations under a guard; runs of operations.
  AX, part L: runs of operations.
  AX, part Y: new blocks that are made in any order among operations that change nothing.
  AX, part M: regions that draw their order: operations that change nothing there is, in any order; then a chain.
  AX, part N: regions that draw their order: that the walk is right in any order.
  AX, part T: regions that draw their order, whatever order comes; what looks at no memory is taken first.
  AX, part O: a body, walked of plain data; a call of a function.
  AX, part P: from a body's walk to what a call of the function gives.
  AX, part Q: calls of functions that are handed blocks of the caller's, and may write them.
  AX, part S: what is run by simp.
  AX, part X: whole numbers that wrap.
  AX: what is told may be told as less: new memory as any, nil as a row of nothing.
  AX, part La: the last block but one is forgotten.
  AX, part XD: a call that leaves certain blocks; its own are let go.
  AX, part Be: what names blocks below a number only.
-/
import Derived.Test.YtpejmhpcgpnpaaaGreatAxI
import Derived.Test.YtpejmhpcgpnpaaaGreatAxExA
import Derived.Lib.SliceRun
import Derived.Deep.Quiet
import Derived.Orders
import Derived.Scope
import Derived.OwnWalk
import Derived.KernelRfl
namespace Go.AX
mutual
def PV.bel (k : Nat) : PV → Prop
  | .bot => True
  | .lit _ => True
  | .agg xs => belowL k xs
  | .tup xs => belowL k xs
  | .seq _ _ rows => belowR k rows
  | .iptr _ rows _ _ => belowR k rows
  | .ptr b _ => b < k
  | .bsl b _ _ _ _ => b < k
  | .fn _ first cap => belowL k first ∧ belowL k cap
  | .amap _ es => belowE k es
  | .ifc _ x => x.bel k
def belowL (k : Nat) : List PV → Prop
  | [] => True
  | x :: xs => x.bel k ∧ belowL k xs
def belowR (k : Nat) : List (List PV) → Prop
  | [] => True
  | x :: xs => belowL k x ∧ belowR k xs
def belowE (k : Nat) : List (Int × PV) → Prop
  | [] => True
  | (_, x) :: xs => x.bel k ∧ belowE k xs
end
mutual
def PV.old : PV → Prop
  | .bot => True
  | .lit _ => True
  | .agg xs => oldL xs
  | .tup xs => oldL xs
  | .seq nw _ rows => nw = false ∧ oldR rows
  | .iptr _ rows _ _ => oldR rows
  | .ptr _ _ => True
  | .bsl _ _ _ _ _ => True
  | .fn _ first cap => oldL first ∧ oldL cap
  | .amap nw es => nw = false ∧ oldE es
  | .ifc _ x => x.old
def oldL : List PV → Prop
  | [] => True
  | x :: xs => x.old ∧ oldL xs
def oldR : List (List PV) → Prop
  | [] => True
  | x :: xs => oldL x ∧ oldR xs
def oldE : List (Int × PV) → Prop
  | [] => True
  | (_, x) :: xs => x.old ∧ oldE xs
end
section
variable {g g' : Gh}
end
def hide (w : World) (c : Nat) : World := { w with heap := w.heap.setIfInBounds c (.mapIter none 0 #[] 0) }
def hid (w : World) (c : Nat) : Gh := { snap (hide w c) with B := 0 }
def callable (P : Program) (f : FuncId) : Bool :=
 match P.funcs[f]? with
 | some fn => !(fn.name == "runtime.NumGoroutine") && !fn.body.isNone
 | none => false
def AIn (P : Program) (f : FuncId) (e : Nat) (rows : List (List PV)) (args : List PV) (R : Option Nat → List (List PV) → Prop) : Prop :=
 callable P f = true ∧
 (rows ≠ [] → ∀ (w : World) (c cap : Nat) (arr : Array Value) (T : TypeId) (pre vs suf us : List Value), w.heap[c]? = some (.cells arr T (0, 0)) → arr.toList = pre ++ vs ++ suf → rows.length ≤ cap → rows.length ≤ maxLen →
  FitR (hid w c) e rows vs → FitL (hid w c) args us → (∀ v ∈ arr.toList, v.oneCell' = true) →
  Calls P f ((.slice (some ⟨c, pre.length, none⟩) rows.length cap) :: us).toArray w fun e' w' => ∃ k rows' vs', R k rows' ∧ rows'.length = rows.length ∧ (∀ m, k = some m → m ≤ rows.length) ∧
   e' = .returned (match k with | none => .tuple #[] | some m => .slice (some ⟨c, pre.length, none⟩) m cap) ∧ envOf w' = envOf w ∧ w.heap.size ≤ w'.heap.size ∧ (∀ k, k < w.heap.size → k ≠ c → w'.heap[k]? = w.heap[k]?) ∧
   (∃ T', w'.heap[c]? = some (.cells (pre ++ vs' ++ suf).toArray T' (0, 0))) ∧ ∀ G, FitR G e rows vs → FitR G e rows' vs') ∧
 (rows = [] → ∀ (w : World) (p : Option Addr) (cap : Nat) (us : List Value), FitL (snap w) args us →
  Calls P f ((.slice p 0 cap) :: us).toArray w fun e' w' => ∃ k, R k [] ∧ (k = none ∨ k = some 0) ∧ e' = .returned (match k with | none => .tuple #[] | some m => .slice p m cap) ∧ envOf w' = envOf w ∧ w.heap.size ≤ w'.heap.size ∧ ∀ k, k < w.heap.size → w'.heap[k]? = w.heap[k]?)
def partOf (st : St) (x : Operand) : Option (Pos × Nat × Nat) :=
 match mv st x with
 | .al p => match posGet st p with
  | .own _ _ rows => some (p, 0, rows.length)
  | _ => none
 | .loc p lo hi => match posGet st p with
  | .own _ _ _ => some (p, lo, hi)
  | _ => none
 | _ => none
def ownE (st : St) (p : Pos) : Nat := match posGet st p with
 | .own _ e _ => e
 | _ => 0
def ownRows (st : St) (p : Pos) : List (List PV) := match posGet st p with
 | .own _ _ rows => rows
 | _ => []
def ownNw (st : St) (p : Pos) : Bool := match posGet st p with
 | .own nw _ _ => nw
 | _ => false
def putS (d : Option Tmp) (k : Option Nat) (p : Pos) (lo : Nat) (st : St) : St :=
 match d with
 | none => st
 | some d => match k with
  | none => st.put d (.pv (.tup []))
  | some m => st.put d (.loc p lo (lo + m))
theorem part_ok {g : Gh} {st : St} {a : Act} {w : World} (h : Sim g st a w) {x : Operand} (hg : gc st x) {p : Pos} {lo hi : Nat} (hp : partOf st x = some (p, lo, hi)) :
 ∃ nw e rows, posGet st p = .own nw e rows ∧ lo ≤ hi ∧ hi ≤ rows.length ∧ ∃ q cap, a.eval x = .slice q (hi - lo) cap ∧ hi - lo ≤ cap ∧ (lo = hi ∨ ∃ c n cp, posVal g a w p = .slice (some ⟨c, 0, none⟩) n cp ∧ q = some ⟨c, lo * e, none⟩) ∧ (lo = 0 → ∃ n0, posVal g a w p = .slice q n0 cap) := by
 obtain ⟨_, ha⟩ := mv_ok h x hg; obtain ⟨bl, hb⟩ := h.own; unfold partOf at hp; split at hp
 ·rename_i p' hm; rw [hm] at ha; split at hp
  ·rename_i nw e rows hpo; cases hp; refine ⟨nw, e, rows, hpo, Nat.zero_le _, Nat.le_refl _, ?_⟩; have hv := ha (by rw [hpo]; rfl); have hf := pos_fit hb (p := p) (by rw [hpo]; rfl); rw [hpo] at hf; rcases hf with ⟨_, rfl, e1⟩ | ⟨c, _, cap, arr, T, vs, e1, e2, e3, e4, e5, e6, e7⟩
   ·exact ⟨none, 0, by rw [hv, e1]; rfl, Nat.le_refl _, .inl rfl, fun _ => ⟨0, e1⟩⟩
   ·exact ⟨some ⟨c, 0, none⟩, cap, by rw [hv, e1]; rfl, e4.1, .inr ⟨c, _, cap, e1, by simp⟩, fun _ => ⟨_, e1⟩⟩
  ·cases hp
 ·rename_i p' lo' hi' hm; rw [hm] at ha; split at hp
  ·rename_i nw e rows hpo; cases hp; obtain ⟨j1, j2, q, cap, j3, j4, j5, j6⟩ := ha _ _ _ hpo; exact ⟨nw, e, rows, hpo, j1, j2, q, cap, j3, j4, j5, j6⟩
  ·cases hp
 ·cases hp
end Go.AX

namespace Go.AX
def cpN (rows : List (List PV)) (lo hi : Nat) : Nat := min rows.length (hi - lo)
def copyE (P : Program) (st : St) (t : TypeId) (x y : Operand) (d : Option Tmp) (K : St → Prop) : Prop :=
 (emb st y).2.2 ∧ gc (emb st y).2.1 x ∧
 match (emb st y).1, partOf (emb st y).2.1 x, slInfo P t with
 | .seq _ e' rows', some (p, lo, hi), some (e, _) => e' = e ∧ ownE (emb st y).2.1 p = e ∧
   K (putD d (.pv (.lit (.int .i64 (cpN rows' lo hi)))) (setPos (emb st y).2.1 p (.own (ownNw (emb st y).2.1 p) e ((ownRows (emb st y).2.1 p).take lo ++ rows'.take (cpN rows' lo hi) ++ (ownRows (emb st y).2.1 p).drop (lo + cpN rows' lo hi)))))
 | _, _, _ => False
def isLit : PV → Prop
 | .lit _ => True
 | _ => False
def litsL : List PV → Prop
 | [] => True
 | x :: xs => isLit x ∧ litsL xs
def litsR : List (List PV) → Prop
 | [] => True
 | x :: xs => litsL x ∧ litsR xs
theorem FitL.lits {g g' : Gh} : ∀ {xs : List PV} {vs : List Value}, litsL xs → FitL g xs vs → FitL g' xs vs
 | [], _, _, h => h
 | x :: xs, _, hl, ⟨v, r, h1, h2, h3⟩ => by
  refine ⟨v, r, h1, ?_, FitL.lits hl.2 h3⟩; have := hl.1; cases x <;> first | exact h2 | exact this.elim
theorem FitR.lits {g g' : Gh} {e : Nat} : ∀ {xs : List (List PV)} {vs : List Value}, litsR xs → FitR g e xs vs → FitR g' e xs vs
 | [], _, _, h => h
 | _ :: _, _, hl, ⟨v1, v2, h1, h2, h3, h4⟩ => ⟨v1, v2, h1, h2, FitL.lits hl.1 h3, FitR.lits hl.2 h4⟩
def copyV (P : Program) (st : St) (t : TypeId) (x y : Operand) (d : Option Tmp) (K : St → Prop) : Prop :=
 vwOk st y ∧ gc st x ∧
 match vw 0 st y, partOf st x, slInfo P t with
 | .seq _ e' rows', some (p, lo, hi), some (e, _) => e' = e ∧ ownE st p = e ∧ litsR rows' ∧
   K (putD d (.pv (.lit (.int .i64 (cpN rows' lo hi)))) (setPos st p (.own (ownNw st p) e ((ownRows st p).take lo ++ rows'.take (cpN rows' lo hi) ++ (ownRows st p).drop (lo + cpN rows' lo hi)))))
 | _, _, _ => False
def isLoc : SV → Bool
 | .loc _ _ _ => true
 | _ => false
def copyK (P : Program) (st : St) (t : TypeId) (x y : Operand) (d : Option Tmp) (K : St → Prop) : Prop :=
 if isLoc (mv st y) = true then copyV P st t x y d K else copyE P st t x y d K
theorem Sim.setSame {g : Gh} {st : St} {a : Act} {w : World} (h : Sim g st a w) {p : Pos} {nw : Bool} {e : Nat} {rows : List (List PV)} (hp : posGet st p = .own nw e rows) : Sim g (setPos st p (.own nw e rows)) a w := by
 cases p with
 | slot s =>
  refine h.looks rfl fun k => ?_; simp only [setPos, look]; split
  ·rename_i e; rw [← e]; exact hp.symm
  ·rfl
 | cell b k =>
  have : setPos st (.cell b k) (.own nw e rows) = st := by
   simp only [posGet] at hp; cases hx : st.h[b]? with
   | none => simp [List.getD, hx] at hp
   | some xs =>
    have h1 : st.h.getD b [] = xs := by simp [List.getD, hx]
    rw [h1] at hp; have h2 : xs.set k (.own nw e rows) = xs := by
     cases hk : xs[k]? with
     | none => simp [List.getD, hk] at hp
     | some y =>
      simp only [List.getD, hk, Option.getD_some] at hp; subst hp; obtain ⟨hlt, hy⟩ := List.getElem?_eq_some_iff.1 hk; rw [← hy]; exact List.set_getElem_self hlt
    simp only [setPos, h1, h2]; obtain ⟨hlt, hy⟩ := List.getElem?_eq_some_iff.1 hx; rw [← hy, List.set_getElem_self]
  rw [this]; exact h
theorem run_copy0 {P : Program} (w : World) (t t2 ty el : TypeId) (i : TypeInfo) (ht : P.underlying t = some (.slice el)) (hi : P.info? el = some i) (b q : Option Addr) (n m k c : Nat) (h0 : min m n = 0) :
 (Builtin.copy_ #[t, t2] ty #[.slice b n k, .slice q m c]).run P w = .ok (goInt 0) w := by
 have h0' : Nat.min m n = 0 := h0; cases q with
 | none => cases b <;> simp [Builtin.copy_, run_underlying ht, sizeOf, typeInfo, hi, Builtin.lenOf, h0', Builtin.firstCells, storeCells]
 | some q => cases b <;> simp [Builtin.copy_, run_underlying ht, sizeOf, typeInfo, hi, Builtin.lenOf, h0', Builtin.firstCells, storeCells, loadCells, loadCellsFrom]
theorem run_copy1 {P : Program} (w : World) (t t2 ty el : TypeId) (i : TypeInfo) (ht : P.underlying t = some (.slice el)) (hi : P.info? el = some i)
 (c off : Nat) (T : TypeId) (arr : Array Value) (hc : w.heap[c]? = some (.cells arr T (0, 0))) (a : Addr) (n k m cc : Nat) (news : List Value) (hl : news.length = min m n * i.size) (hnews : ∀ (j : Nat) u, news[j]? = some u → w.cell? (a.add j) = some u) (h1 : ∀ u ∈ news, u.oneCell' = true)
 (hfit : off + news.length ≤ arr.size) :
 (Builtin.copy_ #[t, t2] ty #[.slice (some ⟨c, off, none⟩) n k, .slice (some a) m cc]).run P w = .ok (goInt (min m n : Nat)) (w.setRow c (splice arr.toList off news).toArray) := by
 have hf := run_firstCells_some (P := P) w i.size (min m n) a m cc news hl hnews; have hst := run_storeCells_at P c off T news 0 arr w hc (by simpa using hfit) h1; simp only [Nat.add_zero] at hst; have hm : Nat.min m n = min m n := rfl; simp [Builtin.copy_, run_underlying ht, sizeOf, typeInfo, hi, Builtin.lenOf, hm, hf, hst, splice]
theorem copy_core {P : Program} {st2 : St} (o : Oper) (t t2 : TypeId) (x y : Operand) (d : Option Tmp) {K : St → Prop} (ho : o.op = .call { callee := .builtin .copy, args := #[x, y], argTypes := #[t, t2] }) (hd : o.dst = d) {g2 : Gh} {a : Act} {w : World} (s2 : Sim g2 st2 a w) (hd2 : dstOk g2.N o.dst)
 {rows' : List (List PV)} {p : Pos} {lo hi e zz : Nat} (h2 : gc st2 x) (hp : partOf st2 x = some (p, lo, hi)) (hsl : slInfo P t = some (e, zz)) (hE : ownE st2 p = e) {p2 : Option Addr} {cap2 : Nat} (hv2 : a.eval y = .slice p2 rows'.length cap2)
 (hor : rows' = [] ∨ ∃ c2 off2 arr2 T2 fz2 vs2, p2 = some ⟨c2, off2, none⟩ ∧ w.heap[c2]? = some (.cells arr2 T2 fz2) ∧ FitR g2 e rows' vs2 ∧ vs2 <+: arr2.toList.drop off2)
 (hK : K (putD d (.pv (.lit (.int .i64 (cpN rows' lo hi)))) (setPos st2 p (.own (ownNw st2 p) e ((ownRows st2 p).take lo ++ rows'.take (cpN rows' lo hi) ++ (ownRows st2 p).drop (lo + cpN rows' lo hi)))))) :
 ∃ v w' g' st', (execOp a.eval o).run P w = .ok (.value v) w' ∧ g2.to g' ∧ K st' ∧ Sim g' st' (a.put o.dst v) w' := by
 obtain ⟨nw, e0, rows, hpo, j1, j2, q0, cap, jv, jc, jq, _⟩ := part_ok s2 h2 hp; have eE : ownE st2 p = e0 := by simp only [ownE, hpo]
 have eR : ownRows st2 p = rows := by simp only [ownRows, hpo]
 have eN : ownNw st2 p = nw := by simp only [ownNw, hpo]
 rw [eE] at hE; subst hE; rw [eR, eN] at hK; obtain ⟨el, i, z, hu, hinf, _, hsz, _, _, _⟩ := slInfo_ok hsl; have hcall : ∀ v w', (Builtin.copy_ #[t, t2] o.type #[a.eval x, a.eval y]).run P w = .ok v w' → (execOp a.eval o).run P w = .ok (.value v) w' := fun v w' hr => by
  simp [execOp, ho, resolve, invoke, builtin, hr]
 have hN : cpN rows' lo hi = min rows'.length (hi - lo) := rfl; by_cases h0 : min rows'.length (hi - lo) = 0
 ·have hr := run_copy0 (P := P) w t t2 o.type el i hu hinf q0 p2 (hi - lo) rows'.length cap cap2 h0; rw [← jv, ← hv2] at hr; refine ⟨_, _, g2, _, hcall _ _ hr, s2.refl_to, hK, ?_⟩; rw [hN, h0]; have hsame : rows.take lo ++ rows'.take 0 ++ rows.drop (lo + 0) = rows := by simp
  rw [hsame, ← hd]; exact (s2.setSame hpo).putD hd2 ⟨rfl, rfl⟩ trivial rfl
 ·have hlh : lo ≠ hi := fun h => h0 (by subst h; simp); have hr0 : rows' ≠ [] := fun h => h0 (by subst h; simp); rcases jq with jq | ⟨c, nn, cp, h5, h6⟩
  ·exact absurd jq hlh
  rcases hor with hor | ⟨c2, off2, arr2, T2, fz2, vs2, hp2, hh2, hR2, hpre2⟩
  ·exact absurd hor hr0
  subst h6 hp2; obtain ⟨bl, hb⟩ := s2.own; have hown : (posGet st2 p).isOwn = true := by rw [hpo]; rfl
  have hfp := pos_fit hb hown; rw [hpo] at hfp; rcases hfp with ⟨_, rfl, _⟩ | ⟨c', hbc, cap', arr, T, vs, e1, e2, e3, e4, e5, e6, e7⟩
  ·simp at j2; omega
  rw [h5] at e1; cases e1; obtain ⟨n, hn⟩ : ∃ n, min rows'.length (hi - lo) = n := ⟨_, rfl⟩; have hn1 : n ≤ rows'.length := by omega
  have hn2 : lo + n ≤ hi := by omega
  have hcut := FitR.cut hR2 0 n (Nat.zero_le _) hn1; simp only [List.drop_zero, Nat.zero_mul] at hcut; have hvl2 := hR2.length; have hvl := e5.length; have hnl : (vs2.take (n * e0)).length = n * e0 := by
   rw [List.length_take, hvl2]; exact Nat.min_eq_left (Nat.mul_le_mul_right _ hn1)
  have hle1 : lo * e0 + n * e0 ≤ vs.length := by rw [hvl, ← Nat.add_mul]; exact Nat.mul_le_mul_right _ (by omega)
  obtain ⟨rest, hrest⟩ := e6; have hsa : arr.size = vs.length + rest.length := by rw [← Array.length_toList, ← hrest, List.length_append]
  have hr := run_copy1 (P := P) w t t2 o.type el i hu hinf c (lo * e0) T arr e2 ⟨c2, off2, none⟩ (hi - lo) cap rows'.length cap2 (vs2.take (n * e0)) (by rw [hn, hsz]; exact hnl) (fun j u hj => by
   rw [Addr.add_lit, cell_of hh2, ← Array.getElem?_toList]; have hj2 : vs2[j]? = some u := by
    rw [List.getElem?_take] at hj; split at hj
    ·exact hj
    ·cases hj
   have := prefix_get hpre2 hj2
   rwa [List.getElem?_drop] at this) (fun u hu' => hcut.one u hu') (by rw [hnl, hsa]; omega)
  rw [← jv, ← hv2] at hr; have hsim : Sim g2 (setPos st2 p (.own nw e0 (rows.take lo ++ rows'.take n ++ rows.drop (lo + n)))) a (w.setRow c (splice arr.toList (lo * e0) (vs2.take (n * e0))).toArray) := by
   have hspl : splice arr.toList (lo * e0) (vs2.take (n * e0)) = (vs.take (lo * e0) ++ vs2.take (n * e0) ++ vs.drop (lo * e0 + n * e0)) ++ rest := by
    unfold splice; rw [hnl, ← hrest, List.take_append_of_le_length (by omega), List.drop_append_of_le_length (by omega)]; simp only [List.append_assoc]
   have hc0 := FitR.cut e5 0 lo (Nat.zero_le _) (by omega); have hc2' := FitR.cut e5 (lo + n) rows.length (by omega) (Nat.le_refl _); simp only [List.drop_zero, Nat.zero_mul, List.take_length] at hc0 hc2'; have hvt : vs.take (rows.length * e0) = vs := by rw [← hvl, List.take_length]
   rw [hvt, Nat.add_mul] at hc2'; refine s2.ownWrite hb hown hbc rfl (size_setRow _ _ _) (fun k hk => setRow_other w _ k _ hk) (.inr ⟨c, rfl, cp, _, T, vs.take (lo * e0) ++ vs2.take (n * e0) ++ vs.drop (lo * e0 + n * e0), ?_, setRow_heap w _ arr _ T _ e2, ?_, ?_, FitR.append (FitR.append hc0 hcut) hc2', ?_, e7⟩) rfl ?_
   ·rw [h5]; congr 1; simp only [List.length_append, List.length_take, List.length_drop]; omega
   ·rw [← e3, hsa, hspl]; simp only [List.size_toArray, List.length_append, List.length_take, List.length_drop, hvl2]; have := Nat.min_eq_left (Nat.mul_le_mul_right e0 hn1); omega
   ·refine ⟨by simp only [List.length_append, List.length_take, List.length_drop]; omega, e4.2.1, ?_⟩; intro v hv; rw [hspl] at hv; simp only [List.mem_append] at hv; rcases hv with ((hv | hv) | hv) | hv
    ·exact e5.one v (List.mem_of_mem_take hv)
    ·exact hcut.one v hv
    ·exact e5.one v (List.mem_of_mem_drop hv)
    ·exact e4.2.2 v (by rw [← hrest]; exact List.mem_append_right _ hv)
   ·exact ⟨rest, by rw [hspl]⟩
   ·intro nw' e' rows1 hh; cases hh; exact ⟨nw, rows, hpo, by simp only [List.length_append, List.length_take, List.length_drop]; omega⟩
  refine ⟨_, _, g2, _, hcall _ _ hr, s2.refl_to, hK, ?_⟩; rw [hN, hn, ← hd]; exact hsim.putD hd2 ⟨rfl, rfl⟩ trivial rfl
theorem copy_own {P : Program} {st : St} (o : Oper) (t t2 : TypeId) (x y : Operand) (d : Option Tmp) {K : St → Prop} (ho : o.op = .call { callee := .builtin .copy, args := #[x, y], argTypes := #[t, t2] }) (hd : o.dst = d) (h : copyK P st t x y d K) :
 ∀ g a w, Sim g st a w → dstOk g.N d → ∃ v w' g' st', (execOp a.eval o).run P w = .ok (.value v) w' ∧ g.to g' ∧ K st' ∧ Sim g' st' (a.put o.dst v) w' := by
 intro g a w hs hdd; unfold copyK at h; split at h
 ·obtain ⟨h1, h2, h3⟩ := h; have f2 := vw_ok hs 0 y h1; split at h3
  case h_2 => exact h3.elim
  rename_i nwr e' rows' p lo hi e by_ hvw hp hsl; obtain ⟨rfl, hE, hlr, hK⟩ := h3; rw [hvw] at f2; obtain ⟨p2, cap2, hv2, hc2, hor⟩ := f2; exact copy_core o t t2 x y d ho hd hs (by rw [hd]; exact hdd) h2 hp hsl hE hv2 (hor.imp id fun ⟨c2, off2, arr2, T2, fz2, vs2, q1, q2, _, q4, q5⟩ => ⟨c2, off2, arr2, T2, fz2, vs2, q1, q2, FitR.lits hlr q4, q5⟩) hK
 ·obtain ⟨h1, h2, h3⟩ := h; obtain ⟨g2, t2', l2, n2, s2, f2⟩ := emb_ok hs y h1; generalize (emb st y).2.1 = st2 at *; generalize (emb st y).1 = pv at *; split at h3
  case h_2 => exact h3.elim
  rename_i nwr e' rows' p lo hi e by_ hp hsl; obtain ⟨rfl, hE, hK⟩ := h3; obtain ⟨p2, cap2, hv2, hc2, hor⟩ := f2; obtain ⟨v, w', g', st', q1, q2, q3, q4⟩ := copy_core o t t2 x y d ho hd s2 (by rw [hd, t2'.N]; exact hdd) h2 hp hsl hE hv2 (hor.imp id fun ⟨c2, off2, arr2, T2, fz2, vs2, q1, q2, _, q4, q5⟩ => ⟨c2, off2, arr2, T2, fz2, vs2, q1, s2.I _ _ q2, q4, q5⟩) hK; exact ⟨v, w', g', st', q1, t2'.trans q2, q3, q4⟩
end Go.AX

namespace Go.AX
/-! ### What a call of a function that changes nothing gives -/
structure PureEnd (w w' : World) (g' : Gh) : Prop where
  B : g'.B = w.heap.size
  env : envOf w' = envOf w
  keep : ∀ c, c < w.heap.size → w'.heap[c]? = w.heap[c]?
  size : w.heap.size ≤ w'.heap.size
  I : ∀ c o, g'.I c = some o → w'.heap[c]? = some o
def APure (P : Program) (f : FuncId) (args : List PV) (R : SV → Prop) : Prop :=
 callable P f = true ∧ ∀ (w : World) (vs : List Value), FitL (snap w) args vs → Calls P f vs.toArray w (fun e w' => ∃ v r g' o, e = .returned v ∧ R r ∧ PureEnd w w' g' ∧ SFit g' w' r v o ∧ r.inCell = true ∧ ∀ c, o = some c → w.heap.size ≤ c ∧ g'.I c = none)
def SV.nwS : SV → Prop
 | .pv x => x.nw
 | .own nw _ rows => nw = true ∧ nwR rows
 | .omap nw es => nw = true ∧ nwE es
 | _ => False
theorem SFit.new {g g2 : Gh} {w : World} (hI : ∀ c o, g.I c = some o → g.B ≤ c → g2.I c = some o) (hB : g2.B ≤ g.B) {r : SV} {v : Value} {o : Option Nat} (hn : r.nwS) (h : SFit g w r v o) : SFit g2 w r v o := by
 cases r with
 | pv x => exact ⟨h.1, Fit.new hI hB x v hn h.2⟩
 | own nw e rows => exact h.imp id fun ⟨c, h1, cap, arr, T, vs, a1, a2, a3, a4, a5, a6, a7⟩ => ⟨c, h1, cap, arr, T, vs, a1, a2, a3, a4, FitR.new hI hB e rows vs hn.2 a5, a6, fun hh => Nat.le_trans hB (a7 hh)⟩
 | omap nw es => obtain ⟨c, h1, en, ck, a1, a2, a3, a4⟩ := h; exact ⟨c, h1, en, ck, a1, a2, FitE.new hI hB es _ hn.2 a3, fun hh => Nat.le_trans hB (a4.1 hh), a4.2⟩
 | _ => cases hn
theorem Sim.grown {g : Gh} {st : St} {a : Act} {w w' : World} (h : Sim g st a w) (hen : envOf w' = envOf w) (hsz : w.heap.size ≤ w'.heap.size) (hw : ∀ c, c < w.heap.size → w'.heap[c]? = w.heap[c]?)
 (J : Nat → Option Obj) (hJ : ∀ c o, J c = some o → w'.heap[c]? = some o) :
 Sim { g with I := fun c => if w.heap.size ≤ c then J c else g.I c } st a w' ∧ g.to { g with I := fun c => if w.heap.size ≤ c then J c else g.I c } ∧
  ∀ bl, Owns g st a w bl → Owns { g with I := fun c => if w.heap.size ≤ c then J c else g.I c } st a w' bl := by
 have hlt : ∀ {c o}, w.heap[c]? = some o → c < w.heap.size := fun hh => (Array.getElem?_eq_some_iff.1 hh).1; have hIl : ∀ c o, g.I c = some o → (if w.heap.size ≤ c then J c else g.I c) = some o := fun c o hc => by
  rw [if_neg (by have := hlt (h.I c o hc); omega)]; exact hc
 have hle : g.le { g with I := fun c => if w.heap.size ≤ c then J c else g.I c } := ⟨hIl, Nat.le_refl _, Nat.le_refl _, fun _ _ => rfl⟩; obtain ⟨bl0, hb0⟩ := h.own; have hμ : ∀ b, b < g.n → g.μ b < w.heap.size := fun b hbn => by
  obtain ⟨_, _, h3, _⟩ := hb0.blocks b _ (List.getElem?_eq_getElem (h.n ▸ hbn)); exact hlt h3
 have hbn : ∀ {b : Nat} {xs : List SV}, st.h[b]? = some xs → b < g.n := fun hx => by rw [h.n]; exact (List.getElem?_eq_some_iff.1 hx).1
 have hown : ∀ bl, Owns g st a w bl → Owns { g with I := fun c => if w.heap.size ≤ c then J c else g.I c } st a w' bl := by
  intro bl hb; have hfr : ∀ p c, bl p = some c → w'.heap[c]? = w.heap[c]? := fun p c hc => hw c (hb.free p c hc).2.2.1; refine { slots := fun s => SFit.frame hle (hfr _) (hb.slots s), blocks := fun b xs hx => ?_, inj := hb.inj, free := fun p c hc => ?_ }
  ·obtain ⟨arr, T, h1, h2, h3⟩ := hb.blocks b xs hx; exact ⟨arr, T, by show w'.heap[g.μ b]? = _; rw [hw _ (hμ b (hbn hx))]; exact h1, h2, fun k x hk => ⟨(h3 k x hk).1, SFit.frame hle (hfr _) (h3 k x hk).2⟩⟩
  ·obtain ⟨f1, f2, f3, f4⟩ := hb.free p c hc; exact ⟨by show (if w.heap.size ≤ c then J c else g.I c) = none; rw [if_neg (by omega)]; exact f1, f2, by omega, f4⟩
 refine ⟨{ size := h.size, defs := h.defs, env := hen.trans h.env, n := h.n, n0 := h.n0, B := Nat.le_trans h.B hsz, I := fun c o hc => ?_, F := fun c o hc => ?_, μI := fun b hb => ?_, μinj := h.μinj, own := ⟨bl0, hown bl0 hb0⟩, al := fun s => ?_ },
  ⟨hIl, rfl, rfl, rfl, rfl, rfl, h.n0, fun _ _ => rfl, fun c hF hI => by
   obtain ⟨o, ho⟩ := Option.ne_none_iff_exists'.1 hF; show (if w.heap.size ≤ c then J c else g.I c) = none; rw [if_neg (by have := hlt (h.F c o ho); omega)]; exact hI⟩, hown⟩
 ·change (if w.heap.size ≤ c then J c else g.I c) = some o at hc
  split at hc
  ·exact hJ c o hc
  ·have := h.I c o hc; rw [hw c (hlt this)]; exact this
 ·have := h.F c o hc; rw [hw c (hlt this)]; exact this
 ·refine ⟨?_, (h.μI b hb).2⟩; show (if w.heap.size ≤ g.μ b then J (g.μ b) else g.I (g.μ b)) = none; rw [if_neg (by have := hμ b hb; omega)]; exact (h.μI b hb).1
 ·refine AlOk.congr (fun p hp => ⟨rfl, ?_⟩) (h.al s); cases p with
  | slot s => rfl
  | cell b k =>
   simp only [posGet] at hp; cases hx : st.h[b]? with
   | none => simp [List.getD, hx, SV.isOwn] at hp
   | some xs => simp only [posVal]; rw [hw _ (hμ b (hbn hx))]
def putR (d : Option Tmp) (r : SV) (st : St) : St :=
 match d with
 | none => st
 | some d => match r with
  | .own nw e rows => ⟨(d, .own nw e rows) :: killL (qSlot d) st.t, st.h⟩
  | .omap nw es => ⟨(d, .omap nw es) :: killL (qSlot d) st.t, st.h⟩
  | r => st.put d r
theorem Sim.result {g : Gh} {st : St} {a : Act} {w w' : World} {g' : Gh} (h : Sim g st a w) {d : Option Tmp} (hd : dstOk g.N d) {r : SV} {v : Value} {o : Option Nat} (he : PureEnd w w' g') (hf : SFit g' w' r v o) (hc : r.inCell = true)
 (ho : ∀ c, o = some c → w.heap.size ≤ c ∧ g'.I c = none) (hn : r.nwS) : ∃ g2, g.to g2 ∧ Sim g2 (putR d r st) (a.put d v) w' := by
 obtain ⟨h1, h2, h3⟩ := h.grown he.env he.size he.keep g'.I he.I; refine ⟨_, h2, ?_⟩; have hf2 : SFit { g with I := fun c => if w.heap.size ≤ c then g'.I c else g.I c } w' r v o := SFit.new (g := g')
  (fun c o' hc hB => by show (if w.heap.size ≤ c then g'.I c else g.I c) = some o'; rw [if_pos (by rw [← he.B]; exact hB)]; exact hc) (by show g.B ≤ g'.B; rw [he.B]; exact h.B) hn hf
 cases d with
 | none => exact h1
 | some d =>
  obtain ⟨bl, hb⟩ := h.own; have hb2 := h3 bl hb; have hlt : ∀ c, o = some c → c < w'.heap.size := fun c hoc => by
   cases r with
   | pv x => rw [hf.1] at hoc; cases hoc
   | own nw e rows =>
    rcases hf with ⟨h5, _⟩ | ⟨c', h5, _, _, _, _, _, h6, _⟩
    ·rw [h5] at hoc; cases hoc
    ·rw [h5] at hoc; cases hoc; exact (Array.getElem?_eq_some_iff.1 h6).1
   | omap nw es => obtain ⟨c', h5, _, _, _, h6, _⟩ := hf; rw [h5] at hoc; cases hoc; exact (Array.getElem?_eq_some_iff.1 h6).1
   | _ => cases hn
  have hfree : ∀ c, o = some c → FreeAt { g with I := fun c => if w.heap.size ≤ c then g'.I c else g.I c } bl c := fun c hc => by
   obtain ⟨h5, h6⟩ := ho c hc; have hfr := h.fresh hb h5; exact ⟨by show (if w.heap.size ≤ c then g'.I c else g.I c) = none; rw [if_pos h5]; exact h6, hfr.F, hfr.μ, hfr.own⟩
  cases r with
  | pv x => exact h1.put hd (by rw [hf.1] at hf2; exact hf2) trivial rfl
  | own nw e rows => exact h1.putOwn hb2 hd rfl (Nat.le_refl _) (fun _ _ _ => rfl) hf2 rfl (fun c hc => ⟨hlt c hc, hfree c hc⟩)
  | omap nw es => exact h1.putOwn hb2 hd rfl (Nat.le_refl _) (fun _ _ _ => rfl) hf2 rfl (fun c hc => ⟨hlt c hc, hfree c hc⟩)
  | _ => cases hn
/-! ### Calls -/
def calleeOf (st : St) (x : Operand) : Option (FuncId × List PV × List PV) :=
 match x with
 | .func f => some (f, [], [])
 | x => match mv st x with
  | .pv (.fn (.func f) a b) => some (f, a, b)
  | .pv (.lit (.func (.func f) a b)) => some (f, a.toList.map .lit, b.toList.map .lit)
  | _ => none
def vwOkL (st : St) : List Operand → Prop
 | [] => True
 | x :: xs => vwOk st x ∧ vwOkL st xs
theorem belowL_iff (k : Nat) : ∀ xs : List PV, belowL k xs ↔ ∀ x ∈ xs, x.bel k
 | [] => by simp [belowL]
 | x :: xs => by simp [belowL, belowL_iff k xs]
theorem belowR_iff (k : Nat) : ∀ xs : List (List PV), belowR k xs ↔ ∀ r ∈ xs, ∀ x ∈ r, x.bel k
 | [] => by simp [belowR]
 | x :: xs => by simp [belowR, belowR_iff k xs, belowL_iff]
theorem belowE_iff (k : Nat) : ∀ xs : List (Int × PV), belowE k xs ↔ ∀ r ∈ xs, r.2.bel k
 | [] => by simp [belowE]
 | (n, x) :: xs => by simp [belowE, belowE_iff k xs]
/-! ### What names no block reads everywhere the same -/
section
variable {g : Gh} {r : Nat → Nat → PV}
mutual
theorem Fit.frz0 : ∀ (x : PV) (v : Value), x.bel 0 → Fit g x v → Fit g (frzW r x) v
  | .bot, _, _, _ => trivial
  | .lit _, _, _, h => h
  | .agg xs, v, hn, ⟨vs, h1, h2⟩ => ⟨vs, h1, FitL.frz0 xs _ hn h2⟩
  | .tup xs, v, hn, ⟨vs, h1, h2⟩ => ⟨vs, h1, FitL.frz0 xs _ hn h2⟩
  | .seq nw e rows, v, hn, ⟨p, cap, h1, hc, h2⟩ => ⟨p, cap, by rw [h1, frzR_map, List.length_map], by rw [frzR_map, List.length_map]; exact hc, h2.imp (fun h => by rw [h]; rfl)
      fun ⟨c, off, arr, T, fz, vs, a, b, _, q1, q2⟩ => ⟨c, off, arr, T, fz, vs, a, b, fun hn => (by cases hn), FitR.frz0 e rows vs hn q1, q2⟩⟩
  | .iptr e rows i k, v, hn, ⟨c, off, arr, T, fz, vs, a, b, q1, q2⟩ => ⟨c, off, arr, T, fz, vs, a, b, FitR.frz0 e rows vs hn q1, q2⟩
  | .ptr b off, v, hn, _ => absurd hn (Nat.not_lt_zero _)
  | .bsl b _ _ _ _, v, hn, _ => absurd hn (Nat.not_lt_zero _)
  | .fn f first cap, v, ⟨n1, n2⟩, ⟨a, b, h1, h2, h3⟩ => ⟨a, b, h1, FitL.frz0 first _ n1 h2, FitL.frz0 cap _ n2 h3⟩
  | .amap nw es, v, hn, ⟨c, en, ck, a, b, _, q⟩ => ⟨c, en, ck, a, b, fun hn => (by cases hn), FitE.frz0 es _ hn q.1, q.2⟩
  | .ifc t x, v, hn, ⟨y, h1, h2⟩ => ⟨y, h1, Fit.frz0 x y hn h2⟩
theorem FitL.frz0 : ∀ (xs : List PV) (vs : List Value), belowL 0 xs → FitL g xs vs → FitL g (frzL r xs) vs
  | [], _, _, h => h
  | x :: xs, vs, ⟨n1, n2⟩, ⟨v, r', h1, h2, h3⟩ => ⟨v, r', h1, Fit.frz0 x v n1 h2, FitL.frz0 xs r' n2 h3⟩
theorem FitR.frz0 (e : Nat) : ∀ (rows : List (List PV)) (vs : List Value), belowR 0 rows → FitR g e rows vs → FitR g e (frzR r rows) vs
  | [], _, _, h => h
  | row :: rows, vs, ⟨n1, n2⟩, ⟨v1, v2, h1, h2, h3, h4⟩ => ⟨v1, v2, h1, ⟨by rw [frzL_map, List.length_map]; exact h2.1, h2.2⟩, FitL.frz0 row v1 n1 h3, FitR.frz0 e rows v2 n2 h4⟩
theorem FitE.frz0 : ∀ (es : List (Int × PV)) (en : List MapEntry), belowE 0 es → FitE g es en → FitE g (frzE r es) en
  | [], _, _, h => h
  | (k, x) :: es, en, ⟨n1, n2⟩, ⟨m, r', h1, h2, h3, h4⟩ => ⟨m, r', h1, h2, Fit.frz0 x m.val n1 h3, FitE.frz0 es r' n2 h4⟩
end
end
def vwA (n : Nat) (st : St) : List Operand → List PV
 | [] => []
 | x :: xs => vw n st x :: vwA n st xs
theorem vwA_eq (n : Nat) (st : St) : ∀ xs : List Operand, vwA n st xs = xs.map (vw n st)
 | [] => rfl
 | x :: xs => by simp [vwA, vwA_eq n st xs]
theorem vwL_ok {g : Gh} {st : St} {a : Act} {w : World} (h : Sim g st a w) (n : Nat) : ∀ (xs : List Operand), vwOkL st xs → FitL (snap w) (xs.map (vw n st)) (xs.map a.eval)
 | [], _ => rfl
 | x :: xs, hd => ⟨_, _, rfl, vw_ok h n x hd.1, vwL_ok h n xs hd.2⟩
theorem callee_ok {g : Gh} {st : St} {a : Act} {w : World} (h : Sim g st a w) {x : Operand} {f : FuncId} {p q : List PV} (hg : gc st x) (hc : calleeOf st x = some (f, p, q)) :
 ∃ u v : Array Value, a.eval x = .func (.func f) u v ∧ FitL g p u.toList ∧ FitL g q v.toList := by
 have key : (match mv st x with | .pv (.fn (.func f) a b) => some (f, a, b) | .pv (.lit (.func (.func f) a b)) => some (f, a.toList.map .lit, b.toList.map .lit) | _ => (none : Option (FuncId × List PV × List PV))) = some (f, p, q) →
  ∃ u v : Array Value, a.eval x = .func (.func f) u v ∧ FitL g p u.toList ∧ FitL g q v.toList := by
  intro hc; obtain ⟨hf, _⟩ := mv_ok h x hg; split at hc
  ·rename_i f' p' q' hm; rw [hm] at hf; cases hc; obtain ⟨_, u, v, h1, h2, h3⟩ := hf; exact ⟨u, v, h1, h2, h3⟩
  ·rename_i f' p' q' hm; rw [hm] at hf; cases hc; exact ⟨p', q', hf.2, fitL_lits g _, fitL_lits g _⟩
  ·cases hc
 cases x with
 | func f' => simp only [calleeOf] at hc; cases hc; exact ⟨#[], #[], rfl, rfl, rfl⟩
 | tmp k => exact key hc
 | const v => exact key hc
 | global n => exact key hc
theorem call_wp {P : Program} {g : Gh} {st : St} {a : Act} {w : World} (h : Sim g st a w) (o : Oper) (x : Operand) (args : Array Operand) (tys : Array TypeId) (f : FuncId) (p q : List PV) (n : Nat)
 (ho : o.op = .call { callee := .value x, args := args, argTypes := tys }) (hg : gc st x) (hc : calleeOf st x = some (f, p, q)) (hv : vwOkL st args.toList) (hd : dstOk g.N o.dst)
 {R : SV → Prop} (hA : APure P f (p.map (frzW (frzP st.h n)) ++ (args.toList.map (vw n st) ++ q.map (frzW (frzP st.h n)))) R) (K : Act → World → Prop) (Q : Exit → Act → World → Prop)
 (hn : ∀ r, R r → r.nwS)
 (hfin : ∀ r g2 v w', R r → g.to g2 → Sim g2 (putR o.dst r st) (a.put o.dst v) w' → K (a.put o.dst v) w') : o.wp P a w K Q := by
 obtain ⟨u, v, hx, hu, hv'⟩ := callee_ok h hg hc; have hr := frzP_ok h n; have hfit : FitL (snap w) (p.map (frzW (frzP st.h n)) ++ (args.toList.map (vw n st) ++ q.map (frzW (frzP st.h n)))) (u.toList ++ (args.toList.map a.eval ++ v.toList)) := by
  refine FitL.append ?_ (FitL.append (vwL_ok h n _ hv) ?_)
  ·rw [← frzL_map]; exact FitL.frz h.I hr _ _ hu
  ·rw [← frzL_map]; exact FitL.frz h.I hr _ _ hv'
 obtain ⟨hcall, hA⟩ := hA; have hcalls := hA w _ hfit; have harr : (u.toList ++ (args.toList.map a.eval ++ v.toList)).toArray = u ++ args.map a.eval ++ v := by
  apply Array.ext'; simp
 rw [harr] at hcalls; unfold Oper.wp; have hrun : (execOp a.eval o).run P w = .ok (.enter f (u ++ args.map a.eval ++ v)) w := by
  unfold callable at hcall; split at hcall
  case h_2 => cases hcall
  rename_i fn hfn; simp only [Bool.and_eq_true, Bool.not_eq_true'] at hcall; simp only [execOp, ho, resolve, hx, Deferred.ofValue, invoke, callFunc, Sem.run_bind, Sem.run_pure, Result.andThen_ok, run_program, hfn, hcall.1, hcall.2, Bool.false_eq_true, if_false, Sem.run_ite]
 rw [hrun, Oper.upon_enter]; refine hcalls.mono fun e w' ⟨val, r, g', ob, he, hR, hE, hF, hin, hob⟩ => ?_; subst he; have hnw := hn r hR; obtain ⟨g2, t2, s2⟩ := h.result hd hE hF hin hob hnw; exact hfin r g2 val w' hR t2 s2
/-! ### One operation -/
def storeO (P : Program) (st : St) (t : TypeId) (x y : Operand) (K : St → Prop) : Prop :=
 match ldInfo P t with
 | some (_, n) => (emb st y).2.2 ∧ allOne (pcells (emb st y).1) = true ∧ ((emb st y).1.one = true ∨ isAggV (.pv (emb st y).1)) ∧ (pcells (emb st y).1).length = n ∧ gc (emb st y).2.1 x ∧
   match mv (emb st y).2.1 x with
   | .pv (.ptr b off) => off + n ≤ ((emb st y).2.1.h.getD b []).length ∧
     K ⟨killL (qCells b off n) (emb st y).2.1.t, (emb st y).2.1.h.set b (splice ((emb st y).2.1.h.getD b []) off ((pcells (emb st y).1).map .pv))⟩
   | .sptr p i k => match posGet (emb st y).2.1 p with
    | .own nw e rows => i < rows.length ∧ k + n ≤ e ∧ K (setPos (emb st y).2.1 p (.own nw e (rows.set i (splice (rows.getD i []) k (pcells (emb st y).1)))))
    | _ => False
   | _ => False
 | none => False
def storeK (P : Program) (st : St) (t : TypeId) (x y : Operand) (K : St → Prop) : Prop :=
 match moveSt st x y with
 | some (st', ok) => (match ldInfo P t with
  | some (_, n) => n = 1
  | none => False) ∧ ok ∧ K st'
 | none => match moveAg st x y with
  | some (st', m, ok) => (match ldInfo P t with
   | some (_, n) => n = m
   | none => False) ∧ ok ∧ K st'
  | none => storeO P st t x y K
def buildSl (P : Program) (st : St) (t : TypeId) (len : Nat) (parts : Array (Nat × Operand)) (d : Tmp) (K : St → Prop) : Prop :=
 match slSize P t, slZero P t with
 | some e, some _ => len * e ≤ 16777216 ∧ 0 < e ∧ parts.toList.map (·.1) = List.range len ∧ (embL st (parts.toList.map (·.2))).2.2 ∧
   (∀ y ∈ (embL st (parts.toList.map (·.2))).1, (pcells y).length = e ∧ allOne (pcells y) = true ∧ (y.one = true ∨ isAggV (.pv y))) ∧
   K ⟨(d, .own true e ((embL st (parts.toList.map (·.2))).1.map pcells)) :: killL (qSlot d) (embL st (parts.toList.map (·.2))).2.1.t, (embL st (parts.toList.map (·.2))).2.1.h⟩
 | _, _ => False
def appendK (P : Program) (st : St) (t : TypeId) (s x : Operand) (d : Tmp) (K : St → Prop) : Prop :=
 match slInfo P t with
 | some (e, b) => 0 < b ∧ gc st s ∧ gc st x ∧ slOk st e (mv st x) ∧
   match mv st s with
   | .al p => match posGet st p with
    | .own nw e' rows => e' = e ∧ (rows.length + (rowsOf st (mv st x)).length) * b ≤ 140737488355328 ∧
      K ⟨(d, .own nw e (rows ++ rowsOf st (mv st x))) :: killL (qSlot d) (setPos st p (.pv .bot)).t, (setPos st p (.pv .bot)).h⟩
    | _ => False
   | .loc p lo hi => match posGet st p with
    | .own nw e' rows => lo = 0 ∧ e' = e ∧ ((rows.take hi).length + (rowsOf st (mv st x)).length) * b ≤ 140737488355328 ∧
      K ⟨(d, .own nw e (rows.take hi ++ rowsOf st (mv st x))) :: killL (qSlot d) (setPos st p (.pv .bot)).t, (setPos st p (.pv .bot)).h⟩
    | _ => False
   | .pv (.lit u) => isNilSl u = true ∧ (rowsOf st (mv st x)).length * b ≤ 140737488355328 ∧ K ⟨(d, .own true e (rowsOf st (mv st x))) :: killL (qSlot d) st.t, st.h⟩
   | _ => False
 | none => False
def qCell : Pos → Bool
 | .slot _ => false
 | .cell _ _ => true
def AMut (P : Program) (f : FuncId) (args : List PV) (h : List (List SV)) (R : SV → List (List SV) → Prop) : Prop :=
 callable P f = true ∧ ∀ (g : Gh) (st : St) (a : Act) (w : World) (vs : List Value), Sim g st a w → st.h = h → FitL g args vs →
  Calls P f vs.toArray w (fun e w' => ∃ v r h' g', e = .returned v ∧ R r h' ∧ g.to g' ∧ ∀ d, dstOk g.N d → Sim g' (putR d r ⟨killL qCell st.t, h'⟩) (a.put d v) w')
theorem AMut.mono {P : Program} {f : FuncId} {args : List PV} {h : List (List SV)} {R R' : SV → List (List SV) → Prop} (hm : AMut P f args h R) (hr : ∀ r h', R r h' → R' r h') : AMut P f args h R' :=
 ⟨hm.1, fun g st a w vs hs hh hv => (hm.2 g st a w vs hs hh hv).mono fun _ _ ⟨v, r, h', g', h1, h2, h3⟩ => ⟨v, r, h', g', h1, hr r h' h2, h3⟩⟩
def CallM (P : Program) (st : St) (f : FuncId) (pa : List PV) (d : Option Tmp) (K : St → Prop) : Prop :=
 ∃ R, AMut P f pa st.h R ∧ ∀ r h', R r h' → K (putR d r ⟨killL qCell st.t, h'⟩)
def CallS (P : Program) (st : St) (f : FuncId) (p : List PV) (args : Array Operand) (q : List PV) (d : Option Tmp) (K : St → Prop) : Prop :=
 match p, args.toList with
 | [], x :: xs => match partOf st x with
  | some (o, lo, hi) => gc st x ∧ belowR 0 (((ownRows st o).take hi).drop lo) ∧ vwOkL (setPos st o (.pv .bot)) xs ∧ ∃ R, AIn P f (ownE st o) (((ownRows st o).take hi).drop lo) (vwA 3 (setPos st o (.pv .bot)) xs ++ frzL (frzP (setPos st o (.pv .bot)).h 3) q) R ∧
   ∀ k rows', R k rows' → rows'.length = hi - lo → (∀ m, k = some m → m ≤ hi - lo) → K (putS d k o lo (setPos st o (.own (ownNw st o) (ownE st o) ((ownRows st o).take lo ++ rows' ++ (ownRows st o).drop hi))))
  | none => False
 | _, _ => False
def CallX (P : Program) (st : St) (x : Operand) (args : Array Operand) (d : Option Tmp) (K : St → Prop) : Prop :=
 ∀ (o : Oper) (tys : Array TypeId), o.op = .call { callee := .value x, args := args, argTypes := tys } → o.dst = d → ∀ (g : Gh) (a : Act) (w : World), Sim g st a w → dstOk g.N d →
  ∀ (K' : Act → World → Prop) (Q : Exit → Act → World → Prop), (∀ st' g' a' w', K st' → g.to g' → Sim g' st' a' w' → K' a' w') → o.wp P a w K' Q
def CallK (P : Program) (st : St) (ok : Prop) (k : FuncId) (pa : List PV) (d : Option Tmp) (K : St → Prop) (x : Operand) (args : Array Operand) : Prop :=
 (∃ R, APure P k pa R ∧ ∀ r, R r → r.nwS ∧ K (putR d r st)) ∨ (ok ∧ CallM P st k pa d K) ∨ CallX P st x args d K
def CallB (P : Program) (st stM : St) (okM : Prop) (f : FuncId) (paM : List PV) (okV : Prop) (paV : List PV) (d : Option Tmp) (K : St → Prop) (x : Operand) (args : Array Operand) : Prop :=
 (okM ∧ CallM P stM f paM d K) ∨ (okV ∧ ∃ R, APure P f paV R ∧ ∀ r, R r → r.nwS ∧ K (putR d r st)) ∨ CallX P st x args d K
theorem CallB.intro {P : Program} {st stM : St} {okM : Prop} {f : FuncId} {paM : List PV} {okV : Prop} {paV : List PV} {d : Option Tmp} {K : St → Prop} {x : Operand} {args : Array Operand} {R : SV → List (List SV) → Prop} (h : AMut P f paM stM.h R) (hK : ∀ r h', R r h' → K (putR d r ⟨killL qCell stM.t, h'⟩)) (ok : okM := by simp) : CallB P st stM okM f paM okV paV d K x args := .inl ⟨ok, R, h, hK⟩
theorem CallB.introP {P : Program} {st stM : St} {okM : Prop} {f : FuncId} {paM : List PV} {okV : Prop} {paV : List PV} {d : Option Tmp} {K : St → Prop} {x : Operand} {args : Array Operand} {r : SV} (h : APure P f paV (fun r' => r' = r)) (hK : K (putR d r st)) (ok : okV := by simp) (hn : r.nwS := by simp) : CallB P st stM okM f paM okV paV d K x args :=
 .inr (.inl ⟨ok, _, h, fun r' hr' => by subst hr'; exact ⟨hn, hK⟩⟩)
def plainArgs (st : St) (args : Array Operand) (p q : List PV) : Prop := allPv st args.toList ∧ belowL 0 (pvsOf st args.toList) ∧ belowL 0 p ∧ belowL 0 q
theorem embL_pvs {st : St} : ∀ (xs : List Operand), allPv st xs → (embL st xs).1 = pvsOf st xs ∧ (embL st xs).2.1 = st ∧ (embL st xs).2.2
 | [], _ => ⟨rfl, rfl, trivial⟩
 | x :: xs, ⟨h1, h2, h3⟩ => by
  have hx : emb st x = (toPv (mv st x), st, gc st x) := by unfold emb; rw [isPv_eq h2]; rfl
  obtain ⟨i1, i2, i3⟩ := embL_pvs xs h3; simp only [embL, hx, pvsOf]; exact ⟨by rw [i1], i2, h1, i3⟩
theorem vwA_pvs {st : St} (n : Nat) : ∀ (xs : List Operand), allPv st xs → vwA n st xs = frzL (frzP st.h n) (pvsOf st xs)
 | [], _ => rfl
 | x :: xs, ⟨_, h2, h3⟩ => by
  have hx : vw n st x = frzW (frzP st.h n) (toPv (mv st x)) := by unfold vw; rw [isPv_eq h2]; rfl
  simp only [vwA, pvsOf, frzL, hx, vwA_pvs n xs h3]
theorem CallM.plain {P : Program} {st : St} {f : FuncId} {args : Array Operand} {p q : List PV} {d : Option Tmp} {K : St → Prop} (h : plainArgs st args p q) (hc : CallM P st f (frzL (frzP st.h 3) p ++ (vwA 3 st args.toList ++ frzL (frzP st.h 3) q)) d K) :
 (embL st args.toList).2.2 ∧ CallM P (embL st args.toList).2.1 f (p ++ ((embL st args.toList).1 ++ q)) d K := by
 obtain ⟨h1, h2, h3, h4⟩ := h; obtain ⟨e1, e2, e3⟩ := embL_pvs _ h1; refine ⟨e3, ?_⟩; rw [e1, e2]; rw [vwA_pvs 3 _ h1] at hc; obtain ⟨R, ⟨hcal, hA⟩, hR⟩ := hc; refine ⟨R, ⟨hcal, fun g st' a w vs hs hh hv => hA g st' a w vs hs hh ?_⟩, hR⟩; obtain ⟨v1, v2, rfl, f1, f2⟩ := FitL.split hv; obtain ⟨v3, v4, rfl, f3, f4⟩ := FitL.split f2; exact FitL.append (FitL.frz0 _ _ h3 f1) (FitL.append (FitL.frz0 _ _ h2 f3) (FitL.frz0 _ _ h4 f4))
def isPtrP : PV → Bool
 | .ptr _ _ => true
 | .bsl _ _ _ _ _ => true
 | _ => false
def isPtrS : SV → Bool
 | .pv x => isPtrP x
 | _ => false
def ptrAny : List PV → Bool
 | [] => false
 | x :: xs => isPtrP x || ptrAny xs
def ptrAnyS (st : St) : List Operand → Bool
 | [] => false
 | x :: xs => isPtrS (mv st x) || ptrAnyS st xs
def ptrCall (st : St) (args : Array Operand) (p q : List PV) : Bool := ptrAny p || (ptrAnyS st args.toList || ptrAny q)
def callE (P : Program) (st : St) (x : Operand) (args : Array Operand) (d : Option Tmp) (K : St → Prop) : Prop :=
 match calleeOf st x with
 | some (f, p, q) => if ptrCall st args p q = true then gc st x ∧ CallB P st (embL st args.toList).2.1 (embL st args.toList).2.2 f (p ++ ((embL st args.toList).1 ++ q)) (vwOkL st args.toList) (frzL (frzP st.h 3) p ++ (vwA 3 st args.toList ++ frzL (frzP st.h 3) q)) d K x args
   else gc st x ∧ vwOkL st args.toList ∧ CallK P st (plainArgs st args p q) f (frzL (frzP st.h 3) p ++ (vwA 3 st args.toList ++ frzL (frzP st.h 3) q)) d K x args
 | none => False
theorem mut_wp {P : Program} {g : Gh} {st : St} {a : Act} {w : World} (h : Sim g st a w) (o : Oper) (x : Operand) (args : Array Operand) (tys : Array TypeId) (f : FuncId) (p q : List PV)
 (ho : o.op = .call { callee := .value x, args := args, argTypes := tys }) (hg : gc st x) (hc : calleeOf st x = some (f, p, q)) (hv : (embL st args.toList).2.2) (hd : dstOk g.N o.dst) {K : St → Prop}
 (hA : CallM P (embL st args.toList).2.1 f (p ++ ((embL st args.toList).1 ++ q)) o.dst K) {K' : Act → World → Prop} {Q : Exit → Act → World → Prop} (hK : ∀ st' g' a' w', K st' → g.to g' → Sim g' st' a' w' → K' a' w') : o.wp P a w K' Q := by
 obtain ⟨u, v, hx, hu, hv'⟩ := callee_ok h hg hc; obtain ⟨g1, t1, l1, _, s1, f1⟩ := embL_ok _ h hv; obtain ⟨R, hA, hR⟩ := hA; have hfit : FitL g1 (p ++ ((embL st args.toList).1 ++ q)) (u.toList ++ (args.toList.map a.eval ++ v.toList)) :=
  FitL.append (FitL.mono l1 _ _ hu) (FitL.append f1 (FitL.mono l1 _ _ hv'))
 obtain ⟨hcall, hA⟩ := hA; have hcalls := hA g1 _ a w _ s1 rfl hfit; have harr : (u.toList ++ (args.toList.map a.eval ++ v.toList)).toArray = u ++ args.map a.eval ++ v := by
  apply Array.ext'; simp
 rw [harr] at hcalls; unfold Oper.wp; have hrun : (execOp a.eval o).run P w = .ok (.enter f (u ++ args.map a.eval ++ v)) w := by
  unfold callable at hcall; split at hcall
  case h_2 => cases hcall
  rename_i fn hfn; simp only [Bool.and_eq_true, Bool.not_eq_true'] at hcall; simp only [execOp, ho, resolve, hx, Deferred.ofValue, invoke, callFunc, Sem.run_bind, Sem.run_pure, Result.andThen_ok, run_program, hfn, hcall.1, hcall.2, Bool.false_eq_true, if_false]
 rw [hrun, Oper.upon_enter]; refine hcalls.mono fun e w' ⟨val, r, h', g', he, hRr, hto, hsim⟩ => ?_; subst he; exact hK _ g' _ w' (hR r h' hRr) (t1.trans hto) (hsim o.dst (by rw [t1.N]; exact hd))
def makeSl (P : Program) (st : St) (t : TypeId) (x y : Operand) (d : Tmp) (K : St → Prop) : Prop :=
 match slInfo P t, slZero P t with
 | some (e, b), some zs => allOne zs = true ∧ 0 < b ∧ gc st x ∧ gc st y ∧ isI (mv st x) ∧ isI (mv st y) ∧ 0 ≤ asI (mv st x) ∧ asI (mv st x) ≤ asI (mv st y) ∧ asI (mv st y) * b ≤ 140737488355328 ∧
   K ⟨(d, .own true e (List.replicate (asI (mv st x)).toNat zs)) :: killL (qSlot d) st.t, st.h⟩
 | _, _ => False
def mapUp (P : Program) (st : St) (t : TypeId) (m k x : Operand) (K : St → Prop) : Prop :=
 mpKey P t = true ∧ (emb st x).2.2 ∧ gc (emb st x).2.1 m ∧ gc (emb st x).2.1 k ∧ isI (mv (emb st x).2.1 k) ∧ asK (mv (emb st x).2.1 k) = .i64 ∧
 match mv (emb st x).2.1 m with
 | .al p => match posGet (emb st x).2.1 p with
  | .omap nw es => K (setPos (emb st x).2.1 p (.omap nw (amPut es (asI (mv (emb st x).2.1 k)) (emb st x).1)))
  | _ => False
 | _ => False
def mapDl (P : Program) (st : St) (t : TypeId) (m k : Operand) (K : St → Prop) : Prop :=
 mpKey P t = true ∧ gc st m ∧ gc st k ∧ isI (mv st k) ∧ asK (mv st k) = .i64 ∧
 match mv st m with
 | .al p => match posGet st p with
  | .omap nw es => K (setPos st p (.omap nw (amDel (asI (mv st k)) es)))
  | _ => False
 | _ => False
def boxK (st : St) (x : Operand) (d : Tmp) (K : St → Prop) : Prop :=
 match mv st x with
 | .agl xs => gc st x ∧ aOwn st xs ∧ (mvIn st.h.length xs 0 (st.grow ((xs.map (·.1)).map .pv))).2 ∧ K ((mvIn st.h.length xs 0 (st.grow ((xs.map (·.1)).map .pv))).1.put d (.pv (.ptr st.h.length 0)))
 | _ => (emb st x).2.2 ∧ ((emb st x).1.one = true ∨ isAggV (.pv (emb st x).1)) ∧ allOne (pcells (emb st x).1) = true ∧
  K (((emb st x).2.1.grow ((pcells (emb st x).1).map .pv)).put d (.pv (.ptr (emb st x).2.1.h.length 0)))
def popK (P : Program) (st : St) (o : Op) (d : Option Tmp) (K : St → Prop) : Prop :=
 (pop P st o).2 ∧ (pop P st o).1.isOwn = false ∧ K (putD d (pop P st o).1 st)
def frzCells (b : Nat) : Nat → Nat → St → St
 | _, 0, st => st
 | k, n + 1, st => frzCells b (k + 1) n (match posGet st (.cell b k) with
  | .own nw e rows => setPos st (.cell b k) (.pv (.seq nw e rows))
  | .omap nw es => setPos st (.cell b k) (.pv (.amap nw es))
  | _ => st)
theorem frzCells_ok {a : Act} {w : World} {b : Nat} : ∀ (n k : Nat) {g : Gh} {st : St}, Sim g st a w → ∃ g', g.to g' ∧ g.le g' ∧ g'.n = g.n ∧ Sim g' (frzCells b k n st) a w
 | 0, _, g, st, h => ⟨g, h.refl_to, Gh.le.refl g, rfl, h⟩
 | n + 1, k, g, st, h => by
  simp only [frzCells]; split
  ·rename_i nw e rows hp; obtain ⟨g1, t1, l1, n1, _, s1, _⟩ := h.freeze (p := .cell b k) (by rw [hp]; rfl); rw [hp] at s1; obtain ⟨g2, t2, l2, n2, s2⟩ := frzCells_ok n (k + 1) s1; exact ⟨g2, t1.trans t2, ⟨fun c o hc => l2.I _ _ (l1.I _ _ hc), Nat.le_trans l2.B l1.B, by rw [n2, n1]; exact Nat.le_refl _, fun c hc => by rw [l2.μ c (by rw [n1]; exact hc), l1.μ c hc]⟩, n2.trans n1, s2⟩
  ·rename_i nw es hp; obtain ⟨g1, t1, l1, n1, _, s1, _⟩ := h.freeze (p := .cell b k) (by rw [hp]; rfl); rw [hp] at s1; obtain ⟨g2, t2, l2, n2, s2⟩ := frzCells_ok n (k + 1) s1; exact ⟨g2, t1.trans t2, ⟨fun c o hc => l2.I _ _ (l1.I _ _ hc), Nat.le_trans l2.B l1.B, by rw [n2, n1]; exact Nat.le_refl _, fun c hc => by rw [l2.μ c (by rw [n1]; exact hc), l1.μ c hc]⟩, n2.trans n1, s2⟩
  ·exact frzCells_ok n (k + 1) h
def loadSt (P : Program) (st : St) (t : TypeId) (x : Operand) : St :=
 match mv st x, ldInfo P t with
 | .pv (.ptr b off), some (true, n) => frzCells b off n st
 | _, _ => st
theorem loadSt_ok {P : Program} {a : Act} {w : World} (t : TypeId) (x : Operand) {g : Gh} {st : St} (h : Sim g st a w) : ∃ g', g.to g' ∧ g.le g' ∧ g'.n = g.n ∧ Sim g' (loadSt P st t x) a w := by
 unfold loadSt; split
 ·exact frzCells_ok _ _ h
 ·exact ⟨g, h.refl_to, Gh.le.refl g, rfl, h⟩
def nilK (P : Program) (st : St) (t : TypeId) (x : Operand) (yes : Bool) (d : Option Tmp) (K : St → Prop) : Prop :=
 match slSize P t with
 | some e => match mv st x with
  | .pv (.lit (.slice none _ _)) => gc st x ∧ K (putD d (.bool yes) st)
  | .pv (.bsl ..) => gc st x ∧ K (putD d (.bool (!yes)) st)
  | y => gc st x ∧ slOk st e y ∧ (rowsOf st y = [] → ∀ b, K (putD d (.bool b) st)) ∧ (rowsOf st y ≠ [] → K (putD d (.bool (!yes)) st))
 | none => False
theorem nil_wp {P : Program} {st : St} (o : Oper) (t u : TypeId) (x : Operand) (yes : Bool) {K : St → Prop} (ho : o.op = .binOp (if yes = true then .eql else .neq) t x (.const (.slice none 0 0)) u) (h : nilK P st t x yes o.dst K) {g : Gh} {a : Act} {w : World} (hs : Sim g st a w) (hd : dstOk g.N o.dst) {K' : Act → World → Prop} {Q : Exit → Act → World → Prop}
 (hK : ∀ st' g' a' w', K st' → g.to g' → Sim g' st' a' w' → K' a' w') : o.wp P a w K' Q := by
 unfold nilK at h; split at h
 case h_2 => exact h.elim
 rename_i e hsl; unfold slSize at hsl; split at hsl
 case h_2 => cases hsl
 rename_i el hu; have run : ∀ (p : Option Addr) (n c : Nat), a.eval x = .slice p n c → (execOp a.eval o).run P w = .ok (.value (.bool (p.isNone == yes))) w := by
  intro p n c hv; have h1 := Go.Lib.run_eql_slice_nil (P := P) w t el p n c 0 0 hu; have h2 := Go.Lib.run_equalIn_slice_nil (P := P) w 9999 t el p n c 0 0 hu; have hn : a.eval (.const (.slice none 0 0)) = .slice none 0 0 := rfl; cases yes with
  | true =>
   simp only [execOp, ho, if_true, hv, hn, eqGuard_at_slice, Sem.run_bind, h1, Result.andThen_ok, Sem.run_pure]; cases p <;> rfl
  | false =>
   simp only [execOp, ho, Bool.false_eq_true, if_false, hv, hn, eqGuard_at_slice, binOp, Op.equal, Op.maxDepth, Sem.run_bind, h2, Result.andThen_ok, Sem.run_pure]; cases p <;> rfl
 have fin : ∀ b, K (putD o.dst (.bool b) st) → (execOp a.eval o).run P w = .ok (.value (.bool b)) w → o.wp P a w K' Q := by
  intro b hk hr; unfold Oper.wp; rw [hr]; exact hK _ g _ w hk hs.refl_to (hs.putD hd ⟨rfl, rfl⟩ trivial rfl)
 split at h
 ·rename_i n c hm; obtain ⟨hf, _⟩ := mv_ok hs x h.1; rw [hm] at hf; have hv : a.eval x = _ := hf.2; exact fin yes h.2 (by rw [run none n c hv]; cases yes <;> rfl)
 ·rename_i b e' off n cap hm; obtain ⟨hf, _⟩ := mv_ok hs x h.1; rw [hm] at hf; obtain ⟨_, _, _, hv⟩ := hf; exact fin _ h.2 (by rw [run _ n cap hv]; cases yes <;> rfl)
 ·obtain ⟨h1, h2, h3, h4⟩ := h; obtain ⟨q, cap, vs, hv, _, hq⟩ := slice_cells hs h1 h2; by_cases hr : rowsOf st (mv st x) = []
  ·exact fin _ (h3 hr _) (run q _ cap hv)
  ·rcases hq with hq | ⟨ad, rfl, _⟩
   ·exact absurd hq hr
   ·exact fin _ (h4 hr) (by rw [run _ _ cap hv]; cases yes <;> rfl)
/-! ### A slice of bytes becomes a string -/
def byteSl (P : Program) (t : TypeId) : Bool := match P.underlying t with
 | some (.slice e) => match P.underlying e with
  | some (.int .u8) => true
  | _ => false
 | _ => false
def u8s : List (List PV) → Option (List Int)
 | [] => some []
 | [.lit (.int .u8 n)] :: r => match u8s r with
  | some xs => some (n :: xs)
  | none => none
 | _ => none
theorem u8s_fit {g : Gh} : ∀ {rows : List (List PV)} {xs : List Int} {vs : List Value}, u8s rows = some xs → FitR g 1 rows vs → vs = xs.map (Value.int .u8)
 | [], xs, vs, h, hf => by
  cases h; exact hf
 | row :: r, xs, vs, h, ⟨v1, v2, h1, _, h3, h4⟩ => by
  unfold u8s at h; split at h
  ·rename_i e; cases e
  ·rename_i n r' e; cases e; split at h
   ·rename_i ys hy; cases h; obtain ⟨a, b, h5, h6, h7⟩ := h3; have h6' : a = Value.int .u8 n := h6; have h7' : b = [] := h7; subst h6' h7' h5; rw [h1, u8s_fit hy h4]; rfl
   ·cases h
  ·cases h
def cvB (P : Program) (st : St) (dst : TypeId) (x : Operand) (d : Option Tmp) (K : St → Prop) : Prop :=
 match P.underlying dst, mv st x with
 | some .string, .al (.slot s) => gc st x ∧ match look st.t s with
  | .own _ 1 rows => rows ≠ [] ∧ match u8s rows with
   | some xs => K (putD d (.pv (.lit (.string (strOfNums xs)))) st)
   | none => False
  | _ => False
 | _, _ => False
theorem cvB_wp {P : Program} {st : St} (o : Oper) {src dst : TypeId} {x : Operand} (ho : o.op = .convert src dst x) (hb8 : byteSl P src = true) {K : St → Prop} (h : cvB P st dst x o.dst K) {g : Gh} {a : Act} {w : World} (hs : Sim g st a w) (hd : dstOk g.N o.dst) {K' : Act → World → Prop} {Q : Exit → Act → World → Prop}
 (hK : ∀ st' g' a' w', K st' → g.to g' → Sim g' st' a' w' → K' a' w') : o.wp P a w K' Q := by
 unfold byteSl at hb8; split at hb8
 case h_2 => cases hb8
 rename_i e hsrc; split at hb8
 case h_2 => cases hb8
 rename_i he; unfold cvB at h; split at h
 case h_2 => exact h.elim
 rename_i s hdst hm; obtain ⟨hx, h⟩ := h; split at h
 case h_2 => exact h.elim
 rename_i nw rows hl; obtain ⟨hne, h⟩ := h; split at h
 case h_2 => exact h.elim
 rename_i xs hu; obtain ⟨_, ha⟩ := mv_ok hs x hx; rw [hm] at ha; obtain ⟨bl, hb⟩ := hs.own; have hsl := hb.slots s; rw [hl] at hsl; have hev : a.eval x = a.tmps.getD s undef := ha (by simp only [posGet]; rw [hl]; rfl); rcases hsl with ⟨_, h0, _⟩ | ⟨c, _, cap, arr, T, vs, hv, hc, _, _, hR, hpre, _⟩
 ·exact absurd h0 hne
 have hvs := u8s_fit hu hR; have hlen : xs.length = rows.length := by
  have := hR.length; rw [hvs, List.length_map] at this; omega
 have hrun : (convert src dst (a.eval x)).run P w = .ok (.string (strOfNums xs)) w := by
  rw [hev, hv]; refine run_convert_bytes_arg w src e hsrc he c 0 rows.length cap xs hlen (fun i hi => ?_) dst hdst; obtain ⟨t, ht⟩ := hpre; rw [Nat.zero_add, cell_of hc, ← Array.getElem?_toList, ← ht, hvs, List.getElem?_append_left (by rw [List.length_map]; omega), List.getElem?_map, List.getElem?_eq_getElem (by omega)]; simp only [Option.map_some, List.getD_eq_getElem?_getD]; rw [List.getElem?_eq_getElem (by omega)]; rfl
 have hr : (execOp a.eval o).run P w = .ok (.value (.string (strOfNums xs))) w := by
  simp only [execOp, ho, Sem.run_bind, hrun, Result.andThen_ok, Sem.run_pure]
 unfold Oper.wp; rw [hr]; exact hK _ g _ w h hs.refl_to (hs.putD hd (sv := .pv (.lit (.string (strOfNums xs)))) ⟨rfl, rfl⟩ trivial rfl)
def AE (P : Program) (st : St) (o : Op) (d : Option Tmp) (K : St → Prop) : Prop :=
 match o with
 | .assign (.tmp s) => match d with
  | some d' => if (look st.t s).isOwn = true then K (takeS st s d') else match cutOf st s d' with
   | some st' => K st'
   | none => popK P st (.assign (.tmp s)) d K
  | none => popK P st (.assign (.tmp s)) d K
 | .alloc t => match d, zeroL P t with
  | some d, some zs => allOne zs = true ∧ K ((st.grow (zs.map .pv)).put d (.pv (.ptr st.h.length 0)))
  | _, _ => False
 | .box _ x => match d with
  | some d => boxK st x d K
  | none => False
 | .store t x y => match d with
  | none => storeK P st t x y K
  | some _ => False
 | .buildSlice t len parts => match d with
  | some d => buildSl P st t len parts d K
  | none => False
 | .makeSlice t x y => match d with
  | some d => makeSl P st t x y d K
  | none => False
 | .makeMap t r => match d, r with
  | some d, r => mpKey P t = true ∧ hintOk st r ∧ K ⟨(d, .omap true []) :: killL (qSlot d) st.t, st.h⟩
  | _, _ => False
 | .mapUpdate t m k x => match d with
  | none => mapUp P st t m k x K
  | some _ => False
 | .insert t m k x => match d with
  | none => mapUp P st t m k x K
  | some _ => False
 | .load t x => popK P (loadSt P st t x) (.load t x) d K
 | .binOp .eql t x (.const (.slice none 0 0)) _ => nilK P st t x true d K
 | .binOp .neq t x (.const (.slice none 0 0)) _ => nilK P st t x false d K
 | .build t parts => (embL st (parts.toList.map (·.2))).2.2 ∧ popK P (embL st (parts.toList.map (·.2))).2.1 (.build t parts) d K
 | .convert src dst x => if byteSl P src = true then cvB P st dst x d K else popK P st (.convert src dst x) d K
 | .call c => match c.callee with
  | .value x => callE P st x c.args d K
  | .builtin .append => match c.args.toList, c.argTypes.toList, d with
   | [s, x], [t, t'], some d => t' = t ∧ appendK P st t s x d K
   | _, _, _ => False
  | .builtin .clear => match c.args.toList, c.argTypes.toList, d with
   | [x], [t], none => clearK P st t x K
   | _, _, _ => False
  | .builtin .copy => match c.args.toList, c.argTypes.toList with
   | [x, y], [t, _] => copyK P st t x y d K
   | _, _ => False
  | .builtin .delete => match c.args.toList, c.argTypes.toList, d with
   | [m, k], [t, _], none => mapDl P st t m k K
   | _, _, _ => False
  | _ => popK P st (.call c) d K
 | o => popK P st o d K
theorem popK_wp {P : Program} {st : St} (o : Oper) {K : St → Prop} (h : popK P st o.op o.dst K) {g : Gh} {a : Act} {w : World} (hs : Sim g st a w) (hd : dstOk g.N o.dst) {K' : Act → World → Prop} {Q : Exit → Act → World → Prop}
 (hK : ∀ st' g' a' w', K st' → g.to g' → Sim g' st' a' w' → K' a' w') : o.wp P a w K' Q := by
 obtain ⟨h1, h2, h3⟩ := h; obtain ⟨v, hr, hf, ha⟩ := pop_ok o g a w hs h1; unfold Oper.wp; rw [hr]; exact hK _ g _ w h3 hs.refl_to (hs.putD hd hf ha h2)
theorem wp_of_run {P : Program} {o : Oper} {g : Gh} {st' : St} {a : Act} {w : World} {K' : Act → World → Prop} {Q : Exit → Act → World → Prop}
 (h : ∃ v w' g', (execOp a.eval o).run P w = .ok (.value v) w' ∧ g.to g' ∧ Sim g' st' (a.put o.dst v) w') (hK : ∀ g' a' w', g.to g' → Sim g' st' a' w' → K' a' w') : o.wp P a w K' Q := by
 obtain ⟨v, w', g', h1, h2, h3⟩ := h; unfold Oper.wp; rw [h1]; exact hK g' _ w' h2 h3
theorem wp_of_skip {P : Program} {o : Oper} {g : Gh} {st' : St} {a : Act} {w : World} {K' : Act → World → Prop} {Q : Exit → Act → World → Prop} (hd : o.dst = none)
 (h : ∃ w' g', (execOp a.eval o).run P w = .ok .skip w' ∧ g.to g' ∧ Sim g' st' a w') (hK : ∀ g' a' w', g.to g' → Sim g' st' a' w' → K' a' w') : o.wp P a w K' Q := by
 obtain ⟨w', g', h1, h2, h3⟩ := h; unfold Oper.wp; rw [h1]; show K' (a.put o.dst undef) w'; rw [hd]; exact hK g' _ w' h2 h3
theorem eq_call {c : Call} {f : Callee} {xs : List Operand} {ts : List TypeId} (h1 : c.callee = f) (h2 : c.args.toList = xs) (h3 : c.argTypes.toList = ts) : c = { callee := f, args := xs.toArray, argTypes := ts.toArray } := by
 cases c with
 | mk a b d => simp only at h1 h2 h3; subst h1 h2 h3; simp
theorem AE_wp {P : Program} {st : St} (o : Oper) {K : St → Prop} (h : AE P st o.op o.dst K) {g : Gh} {a : Act} {w : World} (hs : Sim g st a w) (hd : dstOk g.N o.dst) {K' : Act → World → Prop} {Q : Exit → Act → World → Prop}
 (hK : ∀ st' g' a' w', K st' → g.to g' → Sim g' st' a' w' → K' a' w') : o.wp P a w K' Q := by
 have hpop : popK P st o.op o.dst K → o.wp P a w K' Q := fun h => popK_wp o h hs hd hK; cases hop : o.op
 case assign x =>
  rw [hop] at h hpop; cases x with
  | tmp s =>
   cases hdd : o.dst with
   | none => rw [hdd] at h hpop; exact hpop h
   | some d =>
    rw [hdd] at h hpop; simp only [AE] at h; split at h
    ·rename_i hown; exact wp_of_run (assign_own o s d hop hdd hown (by rw [hdd] at hd; exact hd) g a w rfl hs) (fun g' a' w' => hK _ g' a' w' h)
    ·split at h
     ·rename_i st' hc; exact wp_of_run (cutOf_ok hc o hop hdd (by rw [hdd] at hd; exact hd) g a w rfl hs) (fun g' a' w' => hK _ g' a' w' h)
     ·exact hpop h
  | const v => exact hpop h
  | func f => exact hpop h
  | global n => exact hpop h
 case alloc t =>
  rw [hop] at h; simp only [AE] at h; split at h
  ·rename_i d zs hdd hz; exact wp_of_run (alloc_ok o t d zs hop hdd hz h.1 (by rw [hdd] at hd; exact hd) g a w rfl hs) (fun g' a' w' => hK _ g' a' w' h.2)
  ·exact h.elim
 case box t x =>
  rw [hop] at h; simp only [AE] at h; split at h
  ·rename_i d hdd; unfold boxK at h; split at h
   ·rename_i xs hm; exact wp_of_run (box_agl o t x d xs hop hdd h.1 hm (aOwn_slots h.2.1) (aOwn_one h.2.1) h.2.2.1 (aOwn_nc h.2.1) (by rw [hdd] at hd; exact hd) g a w rfl hs) (fun g' a' w' => hK _ g' a' w' h.2.2.2)
   exact wp_of_run (box_ok o t x d hop hdd h.1 h.2.1 h.2.2.1 (by rw [hdd] at hd; exact hd) g a w rfl hs) (fun g' a' w' => hK _ g' a' w' h.2.2.2)
  ·exact h.elim
 case store t x y =>
  rw [hop] at h; simp only [AE] at h; split at h
  ·rename_i hdd; unfold storeK at h; split at h
   ·rename_i st' ok hm; obtain ⟨h1, h2, h3⟩ := h; split at h1
    ·rename_i ag n hl; subst h1; exact wp_of_skip hdd (moveSt_ok hm h2 o t hop hl g a w hs) (fun g' a' w' => hK _ g' a' w' h3)
    ·exact h1.elim
   split at h
   ·rename_i st' m ok hm; obtain ⟨h1, h2, h3⟩ := h; split at h1
    ·rename_i ag n hl; subst h1; exact wp_of_skip hdd (moveAg_ok hm h2 o t hop hl g a w hs) (fun g' a' w' => hK _ g' a' w' h3)
    ·exact h1.elim
   unfold storeO at h; split at h
   ·rename_i ag n hl; obtain ⟨h1, h2, h3, h4, h5, h6⟩ := h; split at h6
    ·rename_i b off hm; exact wp_of_skip hdd (store_ptr o t x y b off n ag hop hdd hl h1 h2 h3 h4 hm h5 h6.1 g a w hs) (fun g' a' w' => hK _ g' a' w' h6.2)
    ·rename_i p i k hm; split at h6
     ·rename_i nw e rows hp; exact wp_of_skip hdd (store_sptr o t x y p i k n e nw rows ag hop hl h1 h2 h3 h4 hm h5 hp h6.1 h6.2.1 g a w hs) (fun g' a' w' => hK _ g' a' w' h6.2.2)
     ·exact h6.elim
    ·exact h6.elim
   ·exact h.elim
  ·exact h.elim
 case buildSlice t len parts =>
  rw [hop] at h; simp only [AE] at h; split at h
  ·rename_i d hdd; unfold buildSl at h; split at h
   ·rename_i e zs hs1 hs2; obtain ⟨h1, h2, h3, h4, h5, h6⟩ := h; exact wp_of_run (buildSlice_own o t len e parts zs d hop hdd hs1 hs2 h1 h2 h3 h4 h5 (by rw [hdd] at hd; exact hd) g a w rfl hs) (fun g' a' w' => hK _ g' a' w' h6)
   ·exact h.elim
  ·exact h.elim
 case makeSlice t x y =>
  rw [hop] at h; simp only [AE] at h; split at h
  ·rename_i d hdd; unfold makeSl at h; split at h
   ·rename_i e b zs hi hz; obtain ⟨h1, h2, h3, h4, h5, h6, h7, h8, h9, h10⟩ := h; exact wp_of_run (makeSlice_own o t x y d e b zs hop hdd hi hz h1 h2 h3 h4 h5 h6 h7 h8 h9 (by rw [hdd] at hd; exact hd) g a w rfl hs) (fun g' a' w' => hK _ g' a' w' h10)
   ·exact h.elim
  ·exact h.elim
 case makeMap t r =>
  rw [hop] at h; simp only [AE] at h; split at h
  ·rename_i d hdd; exact wp_of_run (makeMap_hint o t _ d hop hdd h.1 h.2.1 (by rw [hdd] at hd; exact hd) g a w rfl hs) (fun g' a' w' => hK _ g' a' w' h.2.2)
  ·exact h.elim
 case mapUpdate t m k x =>
  rw [hop] at h; simp only [AE] at h; split at h
  ·rename_i hdd; unfold mapUp at h; obtain ⟨h1, h2, h3, h4, h5, h6, h7⟩ := h; split at h7
   ·rename_i p hm; split at h7
    ·rename_i nw es hp; exact wp_of_skip hdd (mapUpdate_own o t m k x p nw es (.inl hop) h1 h2 h3 hm hp h4 h5 h6 g a w hs) (fun g' a' w' => hK _ g' a' w' h7)
    ·exact h7.elim
   ·exact h7.elim
  ·exact h.elim
 case insert t m k x =>
  rw [hop] at h; simp only [AE] at h; split at h
  ·rename_i hdd; unfold mapUp at h; obtain ⟨h1, h2, h3, h4, h5, h6, h7⟩ := h; split at h7
   ·rename_i p hm; split at h7
    ·rename_i nw es hp; exact wp_of_skip hdd (mapUpdate_own o t m k x p nw es (.inr hop) h1 h2 h3 hm hp h4 h5 h6 g a w hs) (fun g' a' w' => hK _ g' a' w' h7)
    ·exact h7.elim
   ·exact h7.elim
  ·exact h.elim
 case call c =>
  rw [hop] at h hpop; simp only [AE] at h; split at h
  ·rename_i x hcal; unfold callE at h; split at h
   ·rename_i f p q hce; have hc : c = { callee := .value x, args := c.args, argTypes := c.argTypes } := by cases c; simp only at hcal; rw [hcal]
    rw [hc] at hop; split at h
    ·obtain ⟨h1, ⟨h2, h3⟩ | ⟨h2, R, hA, hR⟩ | hS⟩ := h; rotate_left 2
     ·exact hS o c.argTypes hop rfl g a w hs hd K' Q hK
     ·exact mut_wp hs o x c.args c.argTypes f p q hop h1 hce h2 hd h3 hK
     ·rw [vwA_eq, frzL_map, frzL_map] at hA; exact call_wp hs o x c.args c.argTypes f p q 3 hop h1 hce h2 hd hA K' Q (fun r hr => (hR r hr).1) (fun r g2 v w' hr t2 s2 => hK _ g2 _ w' (hR r hr).2 t2 s2)
    obtain ⟨h1, h2, ⟨R, hA, hR⟩ | ⟨hpl, hcm⟩ | hS⟩ := h; rotate_left 2
    ·exact hS o c.argTypes hop rfl g a w hs hd K' Q hK
    rotate_left
    ·obtain ⟨c1, c2⟩ := hcm.plain hpl; exact mut_wp hs o x c.args c.argTypes f p q hop h1 hce c1 hd c2 hK
    rw [vwA_eq, frzL_map, frzL_map] at hA; exact call_wp hs o x c.args c.argTypes f p q 3 hop h1 hce h2 hd hA K' Q (fun r hr => (hR r hr).1) (fun r g2 v w' hr t2 s2 => hK _ g2 _ w' (hR r hr).2 t2 s2)
   ·exact h.elim
  ·rename_i hcal; split at h
   ·rename_i s x t t' d e1 e2 hdd; obtain ⟨rfl, h⟩ := h; have hc := eq_call hcal e1 e2; rw [hc] at hop; unfold appendK at h; split at h
    ·rename_i e b hi; obtain ⟨h1, h2, h3, h4, h5⟩ := h; split at h5
     ·rename_i p hm; split at h5
      ·rename_i nw e' rows hp; obtain ⟨rfl, h6, h7⟩ := h5; exact wp_of_run (append_own o _ s x d e' b p nw rows hop hdd hi h1 h2 hm hp h3 h4 h6 (by rw [hdd] at hd; exact hd) g a w rfl hs) (fun g' a' w' => hK _ g' a' w' h7)
      ·exact h5.elim
     ·rename_i p lo hi0 hm; split at h5
      ·rename_i nw e' rows hp; obtain ⟨rfl, rfl, h6, h7⟩ := h5; exact wp_of_run (append_loc o _ s x d e' b p hi0 nw rows hop hdd hi h1 h2 hm hp h3 h4 h6 (by rw [hdd] at hd; exact hd) g a w rfl hs) (fun g' a' w' => hK _ g' a' w' h7)
      ·exact h5.elim
     ·rename_i u hm; exact wp_of_run (append_nil o _ s x d e b u hop hdd hi h1 h2 hm h5.1 h3 h4 h5.2.1 (by rw [hdd] at hd; exact hd) g a w rfl hs) (fun g' a' w' => hK _ g' a' w' h5.2.2)
     ·exact h5.elim
    ·exact h.elim
   ·exact h.elim
  ·rename_i hcal; split at h
   ·rename_i x t e1 e2 hdd; have hc := eq_call hcal e1 e2; rw [hc] at hop; unfold clearK at h; split at h
    ·rename_i b off n cap z hm hz; obtain ⟨h1, h2, h3, h4, h5, h6⟩ := h; exact wp_of_run (clear_bsl o t x b off n cap z hop hdd hm hz h1 h2 h3 h4 h5 g a w hs) (fun g' a' w' => hK _ g' a' w' h6)
    ·rename_i b e off n cap zs _ hm hz; obtain ⟨h1, h2, h3, h4, h5, h6, h7⟩ := h; exact wp_of_run (clear_bslE o t x b e off n cap zs hop hdd hm hz h1 h2 h3 h4 h5 h6 g a w hs) (fun g' a' w' => hK _ g' a' w' h7)
    ·exact h.elim
   ·exact h.elim
  ·rename_i hcal; split at h
   ·rename_i x y t t2 e1 e2; have hc := eq_call hcal e1 e2; rw [hc] at hop; obtain ⟨v, w', g', st', r1, r2, r3, r4⟩ := copy_own o t t2 x y o.dst hop rfl h g a w hs hd; exact wp_of_run ⟨v, w', g', r1, r2, r4⟩ (fun g' a' w' => hK _ g' a' w' r3)
   ·exact h.elim
  ·rename_i hcal; split at h
   ·rename_i m k t t2 e1 e2 hdd; have hc := eq_call hcal e1 e2; rw [hc] at hop; unfold mapDl at h; obtain ⟨h1, h2, h3, h4, h5, h6⟩ := h; split at h6
    ·rename_i p hm; split at h6
     ·rename_i nw es hp; exact wp_of_run (mapDel_own o t t2 m k p nw es hop hdd h1 h2 hm hp h3 h4 h5 g a w hs) (fun g' a' w' => hK _ g' a' w' h6)
     ·exact h6.elim
    ·exact h6.elim
   ·exact h.elim
  ·exact hpop h
 case load t x =>
  rw [hop] at h; simp only [AE] at h; obtain ⟨g1, t1, _, _, s1⟩ := loadSt_ok (P := P) t x hs; exact popK_wp (st := loadSt P st t x) o (by rw [hop]; exact h) s1 (by rw [show g1.N = g.N from t1.N.symm ▸ rfl]; exact hd) (fun st' g' a' w' hK' t2 s2 => hK st' g' a' w' hK' (t1.trans t2) s2)
 case convert src dst x =>
  rw [hop] at h hpop; simp only [AE] at h; split at h
  ·rename_i hb8; exact cvB_wp o hop hb8 h hs hd hK
  ·exact hpop h
 case build t parts =>
  rw [hop] at h; simp only [AE] at h; obtain ⟨h1, h2⟩ := h; obtain ⟨g1, t1, _, _, s1, _⟩ := embL_ok _ hs h1; exact popK_wp (st := (embL st (parts.toList.map (·.2))).2.1) o (by rw [hop]; exact h2) s1 (by rw [show g1.N = g.N from t1.N.symm ▸ rfl]; exact hd) (fun st' g' a' w' hK' t2 s2 => hK st' g' a' w' hK' (t1.trans t2) s2)
 case binOp op t x y u =>
  rw [hop] at h hpop; unfold AE at h; split at h <;> first | exact hpop h | skip
  all_goals
   first
    | (rename_i he; cases he; done)
    | (rename_i he; injection he with e1 e2 e3 e4 e5; subst e1 e2 e3 e4 e5; exact nil_wp o _ _ _ true (by rw [hop]; rfl) h hs hd hK)
    | (rename_i he; injection he with e1 e2 e3 e4 e5; subst e1 e2 e3 e4 e5; exact nil_wp o _ _ _ false (by rw [hop]; rfl) h hs hd hK)
    | (rename_i he; rw [he] at hpop; exact hpop h)
 all_goals (rw [hop] at h hpop; exact hpop h)
end Go.AX

namespace Go.AX
theorem Sim.weak {g : Gh} {st st' : St} {a : Act} {w : World} (h : Sim g st a w) (hh : st'.h = st.h) (ht : ∀ s, look st'.t s = look st.t s ∨ look st'.t s = .pv .bot) : Sim g st' a w := by
  obtain ⟨bl, hb⟩ := h.own
  have hpos : ∀ p, (posGet st' p).isOwn = true → posGet st' p = posGet st p ∧ posVal g a w p = posVal g a w p := by
    intro p hp
    refine ⟨?_, rfl⟩
    cases p with
    | cell b k => simp only [posGet, hh]
    | slot s =>
      simp only [posGet] at hp ⊢
      rcases ht s with e | e
      · exact e
      · rw [e] at hp; cases hp
  have hone : ∀ s, look st'.t s ≠ look st.t s → look st'.t s = .pv .bot := fun s hne => (ht s).resolve_left hne
  refine { size := h.size, defs := h.defs, env := h.env, n := by rw [hh]; exact h.n, n0 := h.n0, B := h.B, I := h.I, F := h.F, μI := h.μI, μinj := h.μinj,
           own := ⟨fun p => match p with | .slot s => (match look st'.t s with | .pv .bot => none | _ => bl (.slot s)) | .cell b k => bl (.cell b k), ?_⟩, al := fun s => ?_ }
  · have hsub : ∀ p c, (match p with | .slot s => (match look st'.t s with | .pv .bot => none | _ => bl (.slot s)) | .cell b k => bl (.cell b k)) = some c → bl p = some c := by
      intro p c hp
      cases p with
      | cell b k => exact hp
      | slot s =>
        simp only at hp
        split at hp
        · cases hp
        · exact hp
    refine { slots := fun s => ?_, blocks := fun b xs hx => ?_, inj := fun p q c hp hq => hb.inj p q c (hsub p c hp) (hsub q c hq), free := fun p c hp => hb.free p c (hsub p c hp) }
    · simp only
      rcases ht s with e | e
      · split
        · rename_i e2; rw [e2]; exact ⟨rfl, trivial⟩
        · rw [e]; exact hb.slots s
      · rw [e]; exact ⟨rfl, trivial⟩
    · rw [hh] at hx; exact hb.blocks b xs hx
  · rcases ht s with e | e
    · rw [e]; exact AlOk.congr hpos (h.al s)
    · rw [e]; trivial
theorem Sim.same {g : Gh} {st st' : St} {a : Act} {w : World} (h : Sim g st a w) (hh : st'.h = st.h) (ht : ∀ s, look st'.t s = look st.t s) : Sim g st' a w := h.weak hh fun s => .inl (ht s)
/-! ### Guards -/
def gslot (ops : List Oper) (j : Nat) : Option Nat := (ops[j]?).bind (·.dst)
def gcond (st : St) (d : Nat) (want : Bool) : Option Prop :=
 match look st.t d with
 | .pv (.lit (.bool b)) => some (b = want)
 | .opt c (.pv (.lit (.bool b))) => some (c ∧ b = want)
 | _ => none
theorem wanted_iff {g : Gh} {st : St} {a : Act} {w : World} (h : Sim g st a w) {ops : Array Oper} {o : Oper} {j d : Nat} {want : Bool} (hg : o.guard = some (j, want)) (hs : gslot ops.toList j = some d) {Gd : Prop} (hc : gcond st d want = some Gd) :
 Region.wanted o (yielded ops a.tmps) = true ↔ Gd := by
 have hs' : (ops[j]?).bind (·.dst) = some d := by simpa [gslot] using hs
 obtain ⟨bo, hfit⟩ := h.slot d; have hval : ∀ b, a.tmps.getD d undef = .bool b → yielded ops a.tmps j = some b := by
  intro b hb; simp only [yielded, hs', Option.bind_some]; rw [Array.getD_eq_getD_getElem?] at hb; cases he : a.tmps[d]? with
  | none => rw [he] at hb; cases hb
  | some v => rw [he] at hb; simp only [Option.getD_some] at hb; subst hb; rfl
 have hund : a.tmps.getD d undef = undef → yielded ops a.tmps j = none := by
  intro hb; simp only [yielded, hs', Option.bind_some]; rw [Array.getD_eq_getD_getElem?] at hb; cases he : a.tmps[d]? with
  | none => rfl
  | some v => rw [he] at hb; simp only [Option.getD_some] at hb; subst hb; rfl
 simp only [Region.wanted, hg]; unfold gcond at hc; split at hc
 ·rename_i b hl; cases hc; rw [hl] at hfit; rw [hval b hfit.2]; simp
 ·rename_i c b hl; cases hc; rw [hl] at hfit; by_cases hcc : c
  ·rw [hval b (hfit.2.2 hcc).2]; simp [hcc]
  ·rw [hund (hfit.2.1 hcc)]; simp [hcc]
 ·cases hc
/-! ### Results that are kept frozen -/
def frzS : SV → PV
 | .own nw e rows => .seq nw e rows
 | .omap nw es => .amap nw es
 | .pv x => x
 | _ => .bot
theorem Sim.resultF {g : Gh} {st : St} {a : Act} {w w' : World} {g' : Gh} (h : Sim g st a w) {r : SV} {v : Value} {o : Option Nat} (he : PureEnd w w' g') (hf : SFit g' w' r v o)
 (ho : ∀ c, o = some c → w.heap.size ≤ c ∧ g'.I c = none) (hn : r.nwS) : ∃ J, (∀ c o, g.I c = some o → J c = some o) ∧ (∀ g3 st3, g3.I = g.I → Sim g3 st3 a w → Sim { g3 with I := J } st3 a w' ∧ g3.to { g3 with I := J }) ∧ Fit { g with I := J } (frzS r) v := by
 let J : Nat → Option Obj := fun c => if o = some c then w'.heap[c]? else g'.I c
 have hJ : ∀ c ob, J c = some ob → w'.heap[c]? = some ob := fun c ob hc => by
  change (if o = some c then w'.heap[c]? else g'.I c) = some ob at hc
  split at hc
  ·exact hc
  ·exact he.I c ob hc
 let g2 : Gh := { g with I := fun c => if w.heap.size ≤ c then J c else g.I c }
 refine ⟨g2.I, (h.grown he.env he.size he.keep J hJ).2.1.I, fun g3 st3 h3 hs3 => ?_, ?_⟩
 ·have := hs3.grown he.env he.size he.keep J hJ; rw [h3] at this; exact ⟨this.1, this.2.1⟩
 have hI : ∀ c ob, g'.I c = some ob → g'.B ≤ c → g2.I c = some ob := fun c ob hc hB => by
  show (if w.heap.size ≤ c then J c else g.I c) = some ob; rw [if_pos (by rw [← he.B]; exact hB)]; show (if o = some c then w'.heap[c]? else g'.I c) = some ob; split
  ·exact he.I c ob hc
  ·exact hc
 have hBB : g2.B ≤ g'.B := by rw [he.B]; exact h.B
 have hJo : ∀ c, o = some c → g2.I c = w'.heap[c]? := fun c h5 => by
  show (if w.heap.size ≤ c then J c else g.I c) = _; rw [if_pos (ho c h5).1]; show (if o = some c then w'.heap[c]? else g'.I c) = _; rw [if_pos h5]
 cases r with
 | pv x => exact Fit.new (g := g') hI hBB x v hn hf.2
 | own nw e rows =>
  rcases hf with ⟨_, e1, e2⟩ | ⟨c, h5, cap, arr, T, vs, a1, a2, a3, a4, a5, a6, a7⟩
  ·exact ⟨none, 0, by rw [e2, e1]; rfl, by rw [e1]; exact Nat.le_refl _, .inl e1⟩
  ·exact ⟨_, cap, a1, a4.1, .inr ⟨c, 0, arr, T, (0, 0), vs, rfl, (hJo c h5).trans a2, fun hh => Nat.le_trans hBB (a7 hh), FitR.new (g := g') hI hBB e rows vs hn.2 a5, by simpa using a6⟩⟩
 | omap nw es =>
  obtain ⟨c, h5, en, ck, a1, a2, a3, a4⟩ := hf; exact ⟨c, en, ck, a1, (hJo c h5).trans a2, fun hh => Nat.le_trans hBB (a4.1 hh), FitE.new (g := g') hI hBB es _ hn.2 a3, a4.2⟩
 | _ => cases hn
/-! ### An operation under a guard -/
def SV.isFree : SV → Bool
 | .own .. => false
 | .omap .. => false
 | _ => true
def bslV (P : Program) (st : St) (t : TypeId) (len : Nat) (parts : Array (Nat × Operand)) : SV × Prop :=
 match slSize P t, slZero P t with
 | some e, some _ => (.pv (.seq true e ((pvsOf st (parts.toList.map (·.2))).map pcells)), len * e ≤ 16777216 ∧ 0 < e ∧ parts.toList.map (·.1) = List.range len ∧ allPv st (parts.toList.map (·.2)) ∧
  ∀ y ∈ pvsOf st (parts.toList.map (·.2)), (pcells y).length = e ∧ allOne (pcells y) = true ∧ (y.one = true ∨ isAggV (.pv y)))
 | _, _ => (.pv .bot, False)
def popQ (P : Program) (st : St) (o : Op) : SV × Prop :=
 match o with
 | .buildSlice t len parts => bslV P st t len parts
 | o => pop P st o
def QE (P : Program) (st : St) (o : Op) (r : SV) : Prop :=
 match o with
 | .call c => match c.callee with
  | .value x => match calleeOf st x with
   | some (f, p, q) => gc st x ∧ vwOkL st c.args.toList ∧ ∃ R, APure P f (frzL (frzP st.h 3) p ++ (vwA 3 st c.args.toList ++ frzL (frzP st.h 3) q)) R ∧ ∀ r', R r' → r'.nwS ∧ r = .pv (frzS r')
   | none => False
  | _ => (pop P st (.call c)).2 ∧ r = (pop P st (.call c)).1
 | o => (popQ P st o).2 ∧ r = (popQ P st o).1
theorem QE_bsl {P : Program} {st : St} (o : Oper) {t : TypeId} {len : Nat} {parts : Array (Nat × Operand)} (ho : o.op = .buildSlice t len parts) {r : SV} (h : (bslV P st t len parts).2 ∧ r = (bslV P st t len parts).1) {g : Gh} {a : Act} {w : World} (hs : Sim g st a w) {K' : Act → World → Prop} {Q : Exit → Act → World → Prop}
 (hK : ∀ v J w2, (∀ c o, g.I c = some o → J c = some o) → (∀ g3 st3, g3.I = g.I → Sim g3 st3 a w → Sim { g3 with I := J } st3 a w2 ∧ g3.to { g3 with I := J }) → SFit { g with I := J } w2 r v none → AlOk { g with I := J } st a w2 r v → K' (a.put o.dst v) w2) : o.wp P a w K' Q := by
 obtain ⟨h, hr⟩ := h; subst hr; unfold bslV at h hK; split at h
 ·rename_i e zs hsz hzz; obtain ⟨h1, h2, h3, h4, h5⟩ := h; simp only [hsz, hzz] at hK; obtain ⟨arr, T, r1, r2, r3⟩ := buildSlice_core (w := w) o t len e parts zs _ ho hsz hzz h1 h3 (pvsOf_ok hs _ h4) h5; unfold Oper.wp; rw [r2]
  let J0 : Nat → Option Obj := fun c => if c = w.heap.size then some (.cells arr.toArray T (0, 0)) else none
  have hnew : (w.alloc (.cells arr.toArray T)).heap[w.heap.size]? = some (.cells arr.toArray T (0, 0)) := heap_alloc_new w _; have hJ0 : ∀ c o, J0 c = some o → (w.alloc (.cells arr.toArray T)).heap[c]? = some o := fun c o hc => by
   change (if c = w.heap.size then _ else _) = _ at hc
   split at hc
   ·rename_i ec; subst ec; rw [hnew]; exact hc
   ·cases hc
  have hg := fun (g3 : Gh) st3 (hs3 : Sim g3 st3 a w) => hs3.grown (w' := w.alloc (.cells arr.toArray T)) rfl (by simp) (fun c hc => heap_alloc_old w _ hc) J0 hJ0; refine hK _ (fun c => if w.heap.size ≤ c then J0 c else g.I c) _ ?_ ?_ ?_ trivial
  ·exact (hg g st hs).2.1.I
  ·intro g3 st3 h3 hs3; have := hg g3 st3 hs3; rw [h3] at this; exact ⟨this.1, this.2.1⟩
  ·refine ⟨rfl, _, len, by rw [r3], by rw [r3]; exact Nat.le_refl _, .inr ⟨w.heap.size, 0, arr.toArray, T, (0, 0), arr, rfl, ?_, fun _ => hs.B, FitR.mono ?_ e _ _ r1, by simp⟩⟩
   ·show (if w.heap.size ≤ w.heap.size then J0 w.heap.size else _) = _; rw [if_pos (Nat.le_refl _)]; exact if_pos rfl
   ·exact ⟨fun c o hc => (hg g st hs).2.1.I c o hc, Nat.le_refl _, Nat.le_refl _, fun _ _ => rfl⟩
 ·exact h.elim
theorem QE_pop {P : Program} {st : St} (o : Oper) {r : SV} (h : (pop P st o.op).2 ∧ r = (pop P st o.op).1) {g : Gh} {a : Act} {w : World} (hs : Sim g st a w) {K' : Act → World → Prop} {Q : Exit → Act → World → Prop}
 (hK : ∀ v J w2, (∀ c o, g.I c = some o → J c = some o) → (∀ g3 st3, g3.I = g.I → Sim g3 st3 a w → Sim { g3 with I := J } st3 a w2 ∧ g3.to { g3 with I := J }) → SFit { g with I := J } w2 r v none → AlOk { g with I := J } st a w2 r v → K' (a.put o.dst v) w2) : o.wp P a w K' Q := by
 obtain ⟨v, hr, hf, ha⟩ := pop_ok o g a w hs h.1; rw [← h.2] at hf ha; unfold Oper.wp; rw [hr]; exact hK v g.I w (fun _ _ h => h) (fun g3 st3 h3 hs3 => by rw [← h3]; exact ⟨hs3, hs3.refl_to⟩) hf ha
theorem QE_wp {P : Program} {st : St} (o : Oper) {r : SV} (h : QE P st o.op r) {g : Gh} {a : Act} {w : World} (hs : Sim g st a w) {K' : Act → World → Prop} {Q : Exit → Act → World → Prop}
 (hK : ∀ v J w2, (∀ c o, g.I c = some o → J c = some o) → (∀ g3 st3, g3.I = g.I → Sim g3 st3 a w → Sim { g3 with I := J } st3 a w2 ∧ g3.to { g3 with I := J }) → SFit { g with I := J } w2 r v none → AlOk { g with I := J } st a w2 r v → K' (a.put o.dst v) w2) : o.wp P a w K' Q := by
 cases hop : o.op
 case call c =>
  rw [hop] at h; simp only [QE] at h; split at h
  ·rename_i x hcal; split at h
   ·rename_i f p q hce; rw [vwA_eq, frzL_map, frzL_map] at h; obtain ⟨h1, h2, R, ⟨hcall, hA⟩, hR⟩ := h; have hc : c = { callee := .value x, args := c.args, argTypes := c.argTypes } := by cases c; simp only at hcal; rw [hcal]
    obtain ⟨u, v, hx, hu, hv'⟩ := callee_ok hs h1 hce; have hr := frzP_ok hs 3; have hfit : FitL (snap w) (p.map (frzW (frzP st.h 3)) ++ (c.args.toList.map (vw 3 st) ++ q.map (frzW (frzP st.h 3)))) (u.toList ++ (c.args.toList.map a.eval ++ v.toList)) := by
     refine FitL.append ?_ (FitL.append (vwL_ok hs 3 _ h2) ?_)
     ·rw [← frzL_map]; exact FitL.frz hs.I hr _ _ hu
     ·rw [← frzL_map]; exact FitL.frz hs.I hr _ _ hv'
    have hcalls := hA w _ hfit; have harr : (u.toList ++ (c.args.toList.map a.eval ++ v.toList)).toArray = u ++ c.args.map a.eval ++ v := by
     apply Array.ext'; simp
    rw [harr] at hcalls; unfold Oper.wp; have hrun : (execOp a.eval o).run P w = .ok (.enter f (u ++ c.args.map a.eval ++ v)) w := by
     unfold callable at hcall; split at hcall
     case h_2 => cases hcall
     rename_i fn hfn; simp only [Bool.and_eq_true, Bool.not_eq_true'] at hcall; simp only [execOp, hop, resolve, hcal, hx, Deferred.ofValue, invoke, callFunc, Sem.run_bind, Sem.run_pure, Result.andThen_ok, run_program, hfn, hcall.1, hcall.2, Bool.false_eq_true, if_false]
    rw [hrun, Oper.upon_enter]; refine hcalls.mono fun e w' ⟨val, r', g', ob, he, hRr, hE, hF, hin, hob⟩ => ?_; subst he; obtain ⟨hnw, hreq⟩ := hR r' hRr; obtain ⟨J, h5, h6, h7⟩ := hs.resultF hE hF hob hnw; rw [hreq] at hK; exact hK val J w' h5 h6 ⟨rfl, h7⟩ trivial
   ·exact h.elim
  ·rename_i hcal; exact QE_pop o (by rw [hop]; exact h) hs hK
 case buildSlice t len parts => rw [hop] at h; exact QE_bsl o hop h hs hK
 all_goals exact QE_pop o (by rw [hop] at h ⊢; exact h) hs hK
end Go.AX

namespace Go.AX
theorem SFit.undef {g : Gh} {w : World} {c : Prop} (h : ¬ c) (r : SV) : SFit g w (.opt c r) Go.undef none := ⟨rfl, fun _ => rfl, fun hc => absurd hc h⟩
theorem SFit.opt {g : Gh} {w : World} {c : Prop} (h : c) {r : SV} {v : Value} (hf : SFit g w r v none) : SFit g w (.opt c r) v none := ⟨rfl, fun hn => absurd h hn, fun _ => hf⟩
def AGq (P : Program) (st : St) (Gd : Prop) (o : Op) (d : Option Tmp) (K : St → Prop) : Prop :=
 ∃ r, (Gd → QE P st o r) ∧ K (putD d (.opt Gd r) st)
def AGp (P : Program) (st : St) (Gd : Prop) (o : Op) (d : Option Tmp) (K : St → Prop) : Prop :=
 (Gd → (pop P st o).2) ∧ K (putD d (.opt Gd (pop P st o).1) st)
def AGs (P : Program) (st : St) (Gd : Prop) (o : Op) (d : Option Tmp) (K : St → Prop) : Prop :=
 (Gd → AE P st o d K) ∧ (¬ Gd → K (putD d (.opt False (.pv (.lit (.bool false)))) st))
def viewsOf (st : St) (args : Array Operand) (p q : List PV) : List PV := frzL (frzP st.h 3) p ++ (vwA 3 st args.toList ++ frzL (frzP st.h 3) q)
def CallG (P : Program) (st : St) (Gd : Prop) (f : FuncId) (pa : List PV) (d : Option Tmp) (K : St → Prop) (ok : Prop) (x : Operand) (args : Array Operand) : Prop :=
 (∃ r, (Gd → APure P f pa (fun r' => r' = r)) ∧ r.nwS ∧ K (putD d (.opt Gd (.pv (frzS r))) st)) ∨ ((Gd → CallK P st ok f pa d K x args) ∧ (¬ Gd → K (putD d (.opt False (.pv (.lit (.bool false)))) st)))
def callG_p (st : St) (x : Operand) (args : Array Operand) : Bool :=
 match calleeOf st x with
 | some (_, p, q) => ptrCall st args p q
 | none => false
def callG (P : Program) (st : St) (Gd : Prop) (x : Operand) (args : Array Operand) (d : Option Tmp) (K : St → Prop) : Prop :=
 match calleeOf st x with
 | some (f, p, q) => (Gd → gc st x ∧ vwOkL st args.toList) ∧ CallG P st Gd f (viewsOf st args p q) d K (plainArgs st args p q) x args
 | none => False
theorem callG_q {P : Program} {st : St} {Gd : Prop} {c : Call} {x : Operand} {d : Option Tmp} {K : St → Prop} (hc : c.callee = .value x) (hp : callG_p st x c.args = false) (h : callG P st Gd x c.args d K) : AGq P st Gd (.call c) d K ∨ AGs P st Gd (.call c) d K := by
 unfold callG at h; unfold callG_p at hp; split at h
 ·rename_i f p q hce; rw [hce] at hp; obtain ⟨h1, ⟨r, h2, h3, h4⟩ | ⟨h2, h3⟩⟩ := h
  ·refine .inl ⟨_, fun hg => ?_, h4⟩; simp only [QE, hc, hce]; exact ⟨(h1 hg).1, (h1 hg).2, _, h2 hg, fun r' hr' => by subst hr'; exact ⟨h3, rfl⟩⟩
  ·refine .inr ⟨fun hg => ?_, h3⟩; simp only [AE, hc, callE, hce]; have hp : ptrCall st c.args p q = false := hp; rw [if_neg (by rw [hp]; simp)]; exact ⟨(h1 hg).1, (h1 hg).2, h2 hg⟩
 ·exact h.elim
theorem CallG.intro {P : Program} {st : St} {Gd : Prop} {f : FuncId} {pa : List PV} {d : Option Tmp} {K : St → Prop} {ok : Prop} {x : Operand} {args : Array Operand} {r : SV} (h : Gd → APure P f pa (fun r' => r' = r)) (hK : K (putD d (.opt Gd (.pv (frzS r))) st)) (hn : r.nwS := by simp) : CallG P st Gd f pa d K ok x args := .inl ⟨r, h, hn, hK⟩
theorem CallK.intro {P : Program} {st : St} {ok : Prop} {f : FuncId} {pa : List PV} {d : Option Tmp} {K : St → Prop} {x : Operand} {args : Array Operand} {r : SV} (h : APure P f pa (fun r' => r' = r)) (hK : K (putR d r st)) (hn : r.nwS := by simp) : CallK P st ok f pa d K x args :=
 .inl ⟨_, h, fun r' hr' => by subst hr'; exact ⟨hn, hK⟩⟩
theorem CallK.introX {P : Program} {st : St} {ok : Prop} {f : FuncId} {pa : List PV} {d : Option Tmp} {K : St → Prop} {x : Operand} {args : Array Operand} (h : CallX P st x args d K) : CallK P st ok f pa d K x args := .inr (.inr h)
theorem CallK.introM {P : Program} {st : St} {ok : Prop} {f : FuncId} {pa : List PV} {d : Option Tmp} {K : St → Prop} {x : Operand} {args : Array Operand} {R : SV → List (List SV) → Prop} (h : AMut P f pa st.h R) (hK : ∀ r h', R r h' → K (putR d r ⟨killL qCell st.t, h'⟩)) (hok : ok := by simp) : CallK P st ok f pa d K x args := .inr (.inl ⟨hok, R, h, hK⟩)
def ptrCallX (st : St) (x : Operand) (args : Array Operand) : Bool :=
 match calleeOf st x with
 | some (_, p, q) => ptrCall st args p q
 | none => false
theorem ptrCallX_p (st : St) (x : Operand) (args : Array Operand) : ptrCallX st x args = callG_p st x args := rfl
def AG (P : Program) (st : St) (Gd : Prop) (o : Op) (d : Option Tmp) (K : St → Prop) : Prop :=
 match o with
 | .alloc t => AGs P st Gd (.alloc t) d K
 | .box t x => AGs P st Gd (.box t x) d K
 | .store t x y => AGs P st Gd (.store t x y) d K
 | .buildSlice t n ps => AGs P st Gd (.buildSlice t n ps) d K
 | .makeSlice t x y => AGs P st Gd (.makeSlice t x y) d K
 | .makeMap t r => AGs P st Gd (.makeMap t r) d K
 | .mapUpdate t m k x => AGs P st Gd (.mapUpdate t m k x) d K
 | .build t ps => if ownAny st ps.toList = true then AGs P st Gd (.build t ps) d K else AGp P st Gd (.build t ps) d K
 | .call c => match c.callee with
  | .value x => if ptrCallX st x c.args = true then AGs P st Gd (.call c) d K else callG P st Gd x c.args d K
  | .builtin .append => AGs P st Gd (.call c) d K
  | _ => AGp P st Gd (.call c) d K
 | o => AGp P st Gd o d K
def aglK (P : Program) (st : St) (t : TypeId) (parts : Array (Nat × Operand)) (d : Option Tmp) (K : St → Prop) : Prop := (aglV P st t parts).2 ∧ K (putD d (aglV P st t parts).1 st)
def AEx (P : Program) (ops : List Oper) (st : St) (o : Op) (d : Option Tmp) (K : St → Prop) : Prop :=
 match o with
 | .build t parts => if (boxedIn ops d && ownAny st parts.toList) = true then aglK P st t parts d K else AE P st (.build t parts) d K
 | o => AE P st o d K
theorem aglV_noOwn (P : Program) (st : St) (t : TypeId) (parts : Array (Nat × Operand)) : (aglV P st t parts).1.isOwn = false := by
 unfold aglV; split <;> rfl
theorem AEx_wp {P : Program} {ops : List Oper} {st : St} (o : Oper) {K : St → Prop} (h : AEx P ops st o.op o.dst K) {g : Gh} {a : Act} {w : World} (hs : Sim g st a w) (hd : dstOk g.N o.dst) {K' : Act → World → Prop} {Q : Exit → Act → World → Prop}
 (hK : ∀ st' g' a' w', K st' → g.to g' → Sim g' st' a' w' → K' a' w') : o.wp P a w K' Q := by
 unfold AEx at h; split at h
 ·rename_i t parts hop; split at h
  ·obtain ⟨h1, h2⟩ := h; obtain ⟨v, hr, hf, ha⟩ := aglV_ok o t parts hop g a w hs h1; unfold Oper.wp; rw [hr]; exact hK _ g _ w h2 hs.refl_to (hs.putD hd hf ha (aglV_noOwn P st t parts))
  ·exact AE_wp o (by rw [hop]; exact h) hs hd hK
 ·exact AE_wp o h hs hd hK
def AStep (P : Program) (ops : List Oper) (o : Oper) (K : St → Prop) (st : St) : Prop :=
 match o.guard with
 | none => AEx P ops st o.op o.dst K
 | some (j, want) => match gslot ops j with
  | some d => match gcond st d want with
   | some Gd => AG P st Gd o.op o.dst K
   | none => False
  | none => False
def AOps (P : Program) (ops : List Oper) (K : St → Prop) : List Oper → St → Prop
 | [], st => K st
 | o :: rest, st => AStep P ops o (AOps P ops K rest) st
theorem QE_of_pop {P : Program} {st : St} {o : Op} (hc : ∀ c x, o = .call c → c.callee ≠ .value x) (h : (popQ P st o).2) : QE P st o (popQ P st o).1 := by
 cases o with
 | call c =>
  simp only [QE]; split
  ·rename_i x hx; exact absurd hx (hc c x rfl)
  ·exact ⟨h, rfl⟩
 | _ => exact ⟨h, rfl⟩
theorem QE_of_pop0 {P : Program} {st : St} {o : Op} (hc : ∀ c x, o = .call c → c.callee ≠ .value x) (h : (pop P st o).2) : QE P st o (pop P st o).1 := by
 cases o with
 | call c =>
  simp only [QE]; split
  ·rename_i x hx; exact absurd hx (hc c x rfl)
  ·exact ⟨h, trivial⟩
 | buildSlice t len parts => exact h.elim
 | _ => exact ⟨h, rfl⟩
theorem AGq_ok {P : Program} {st : St} (o : Oper) {Gd : Prop} {K : St → Prop} (h : AGq P st Gd o.op o.dst K) {g : Gh} {a : Act} {w : World} (hs : Sim g st a w) (hd : dstOk g.N o.dst) {K' : Act → World → Prop} {Q : Exit → Act → World → Prop}
 (hK : ∀ st' g' a' w', K st' → g.to g' → Sim g' st' a' w' → K' a' w') : (Gd → o.wp P a w K' Q) ∧ (¬ Gd → K' (a.put o.dst undef) w) := by
 obtain ⟨r, h1, h2⟩ := h; refine ⟨fun hg => ?_, fun hg => hK _ g _ w h2 hs.refl_to (hs.putD hd (SFit.undef hg r) (fun hc => absurd hc hg) rfl)⟩; refine QE_wp o (h1 hg) hs fun v J w2 t2 s2 f2 a2 => hK _ _ _ w2 h2 (s2 g _ rfl hs).2 ((s2 g _ rfl hs).1.putD hd (SFit.opt hg f2) (fun _ => a2) rfl)
theorem AGs_ok {P : Program} {st : St} (o : Oper) {Gd : Prop} {K : St → Prop} (h : AGs P st Gd o.op o.dst K) {g : Gh} {a : Act} {w : World} (hs : Sim g st a w) (hd : dstOk g.N o.dst) {K' : Act → World → Prop} {Q : Exit → Act → World → Prop}
 (hK : ∀ st' g' a' w', K st' → g.to g' → Sim g' st' a' w' → K' a' w') : (Gd → o.wp P a w K' Q) ∧ (¬ Gd → K' (a.put o.dst undef) w) :=
 ⟨fun hg => AE_wp o (h.1 hg) hs hd hK, fun hg => hK _ g _ w (h.2 hg) hs.refl_to (hs.putD hd (SFit.undef (fun h => h) _) (fun hc => hc.elim) rfl)⟩
theorem AG_ok {P : Program} {st : St} (o : Oper) {Gd : Prop} {K : St → Prop} (h : AG P st Gd o.op o.dst K) {g : Gh} {a : Act} {w : World} (hs : Sim g st a w) (hd : dstOk g.N o.dst) {K' : Act → World → Prop} {Q : Exit → Act → World → Prop}
 (hK : ∀ st' g' a' w', K st' → g.to g' → Sim g' st' a' w' → K' a' w') : (Gd → o.wp P a w K' Q) ∧ (¬ Gd → K' (a.put o.dst undef) w) := by
 have hp : (∀ c x, o.op = .call c → c.callee ≠ .value x) → AGp P st Gd o.op o.dst K → (Gd → o.wp P a w K' Q) ∧ (¬ Gd → K' (a.put o.dst undef) w) :=
  fun hc h => AGq_ok o ⟨(pop P st o.op).1, fun hg => QE_of_pop0 hc (h.1 hg), h.2⟩ hs hd hK
 cases hop : o.op
 case alloc t => rw [hop] at h; exact AGs_ok o (by rw [hop]; exact h) hs hd hK
 case box t x => rw [hop] at h; exact AGs_ok o (by rw [hop]; exact h) hs hd hK
 case store t x y => rw [hop] at h; exact AGs_ok o (by rw [hop]; exact h) hs hd hK
 case buildSlice t n ps => rw [hop] at h; exact AGs_ok o (by rw [hop]; exact h) hs hd hK
 case makeSlice t x y => rw [hop] at h; exact AGs_ok o (by rw [hop]; exact h) hs hd hK
 case makeMap t r => rw [hop] at h; exact AGs_ok o (by rw [hop]; exact h) hs hd hK
 case mapUpdate t m k x => rw [hop] at h; exact AGs_ok o (by rw [hop]; exact h) hs hd hK
 case build t ps =>
  rw [hop] at h; simp only [AG] at h; split at h
  ·exact AGs_ok o (by rw [hop]; exact h) hs hd hK
  ·exact hp (fun c' x hc => by rw [hop] at hc; cases hc) (by rw [hop]; exact h)
 case call c =>
  rw [hop] at h; simp only [AG] at h; split at h
  ·rename_i x hx; split at h
   ·exact AGs_ok o (by rw [hop]; exact h) hs hd hK
   ·rename_i hn; rcases callG_q hx (by rw [← ptrCallX_p]; simpa using hn) h with h | h
    ·exact AGq_ok o (by rw [hop]; exact h) hs hd hK
    ·exact AGs_ok o (by rw [hop]; exact h) hs hd hK
  ·exact AGs_ok o (by rw [hop]; exact h) hs hd hK
  ·rename_i hn _; exact hp (fun c' x hc hx => by rw [hop] at hc; cases hc; exact hn x hx) (by rw [hop]; exact h)
 all_goals (rw [hop] at h; exact hp (fun c' x hc => by rw [hop] at hc; cases hc) (by rw [hop]; exact h))
theorem AStep_okL {P : Program} {ops : Array Oper} {L : List Oper} (hL : ∀ j d, gslot L j = some d → gslot ops.toList j = some d) {st : St} (o : Oper) {K : St → Prop} (h : AStep P L o K st) {g : Gh} {a : Act} {w : World} (hs : Sim g st a w) (hd : dstOk g.N o.dst) {K' : Act → World → Prop} {Q : Exit → Act → World → Prop}
 (hK : ∀ st' g' a' w', K st' → g.to g' → Sim g' st' a' w' → K' a' w') : if Region.wanted o (yielded ops a.tmps) = true then o.wp P a w K' Q else K' (a.put o.dst undef) w := by
 unfold AStep at h; split at h
 ·rename_i hg; rw [if_pos (by simp [Region.wanted, hg])]; exact AEx_wp o h hs hd hK
 ·rename_i j want hg; split at h
  ·rename_i d hgs; split at h
   ·rename_i Gd hc; have hw := wanted_iff hs hg (hL _ _ hgs) hc; have := AG_ok o h hs hd (Q := Q) hK; split
    ·rename_i hh; exact this.1 (hw.1 hh)
    ·rename_i hh; exact this.2 (fun hG => hh (hw.2 hG))
   ·exact h.elim
  ·exact h.elim
theorem AStep_ok {P : Program} {ops : Array Oper} {st : St} (o : Oper) {K : St → Prop} (h : AStep P ops.toList o K st) {g : Gh} {a : Act} {w : World} (hs : Sim g st a w) (hd : dstOk g.N o.dst) {K' : Act → World → Prop} {Q : Exit → Act → World → Prop}
 (hK : ∀ st' g' a' w', K st' → g.to g' → Sim g' st' a' w' → K' a' w') : if Region.wanted o (yielded ops a.tmps) = true then o.wp P a w K' Q else K' (a.put o.dst undef) w := AStep_okL (fun _ _ h => h) o h hs hd hK
def dstsOk (N : Nat) (l : List Oper) : Bool := l.all fun o => match o.dst with | some d => decide (d < N) | none => true
theorem dstsOk_cons {N : Nat} {o : Oper} {l : List Oper} (h : dstsOk N (o :: l) = true) : dstOk N o.dst ∧ dstsOk N l = true := by
 simp only [dstsOk, List.all_cons, Bool.and_eq_true] at h; refine ⟨?_, h.2⟩; unfold dstOk; split
 ·rename_i d hd; rw [hd] at h; simpa using h.1
 ·trivial
theorem AOps_wpL {P : Program} {ops : Array Oper} {L : List Oper} (hL : ∀ j d, gslot L j = some d → gslot ops.toList j = some d) : ∀ (l : List Oper) {st : St} {K : St → Prop} (_ : AOps P L K l st) {g : Gh} {a : Act} {w : World} (_ : Sim g st a w) (_ : dstsOk g.N l = true) {Q : Exit → Act → World → Prop}
 (_ : ∀ st' g' a' w', K st' → g.to g' → Sim g' st' a' w' → Q .normal a' w'), wpList P ops Q l a w
 | [], st, K, h, g, a, w, hs, _, Q, hQ => hQ st g a w h hs.refl_to hs
 | o :: rest, st, K, h, g, a, w, hs, hd, Q, hQ => by
  obtain ⟨h1, h2⟩ := dstsOk_cons hd; have := AStep_okL (ops := ops) hL o h hs h1 (Q := Q) (K' := wpList P ops Q rest)
   (fun st' g' a' w' hk t' s' => AOps_wpL hL rest hk s' (by rw [t'.N]; exact h2) (fun st2 g2 a2 w2 k2 t2 s2 => hQ st2 g2 a2 w2 k2 (t'.trans t2) s2))
  unfold wpList; split
  ·rename_i hw; rw [if_pos hw] at this; exact .inl this
  ·rename_i hw; rw [if_neg hw] at this; exact this
theorem AOps_wp {P : Program} {ops : Array Oper} (l : List Oper) {st : St} {K : St → Prop} (h : AOps P ops.toList K l st) {g : Gh} {a : Act} {w : World} (hs : Sim g st a w) (hd : dstsOk g.N l = true) {Q : Exit → Act → World → Prop}
 (hQ : ∀ st' g' a' w', K st' → g.to g' → Sim g' st' a' w' → Q .normal a' w') : wpList P ops Q l a w := AOps_wpL (fun _ _ h => h) l h hs hd hQ
end Go.AX

namespace Go.AX
theorem Sim.allocF {g : Gh} {st : St} {a : Act} {w : World} (h : Sim g st a w) (arr : Array Value) (T : TypeId) :
 g.F w.heap.size = none ∧ g.I w.heap.size = none ∧ Sim { g with F := fun c => if c = w.heap.size then some (.cells arr T (0, 0)) else g.F c } st a (w.alloc (.cells arr T)) := by
 obtain ⟨bl, hb⟩ := h.own; have hlt : ∀ {c o}, w.heap[c]? = some o → c < w.heap.size := fun hh => (Array.getElem?_eq_some_iff.1 hh).1; have hnew : (w.alloc (.cells arr T)).heap[w.heap.size]? = some (.cells arr T (0, 0)) := heap_alloc_new w _; have hold : ∀ k, k < w.heap.size → (w.alloc (.cells arr T)).heap[k]? = w.heap[k]? := fun k hk => heap_alloc_old w _ hk; have hμ : ∀ b, b < g.n → g.μ b < w.heap.size := fun b hbn => by
  obtain ⟨_, _, h3, _⟩ := hb.blocks b _ (List.getElem?_eq_getElem (h.n ▸ hbn)); exact hlt h3
 have hIn : g.I w.heap.size = none := (h.fresh hb (Nat.le_refl _)).I; have hFn : g.F w.heap.size = none := (h.fresh hb (Nat.le_refl _)).F; refine ⟨hFn, hIn, ?_⟩
 let g' : Gh := { g with F := fun c => if c = w.heap.size then some (.cells arr T (0, 0)) else g.F c }
 have hle : g.le g' := ⟨fun _ _ h => h, Nat.le_refl _, Nat.le_refl _, fun _ _ => rfl⟩; have hfr : ∀ p c, bl p = some c → (w.alloc (.cells arr T)).heap[c]? = w.heap[c]? := fun p c hc => hold c (hb.free p c hc).2.2.1; have hblk : ∀ b k, (posGet st (.cell b k)).isOwn = true → b < g.n := by
  intro b k hp; rw [h.n]; apply Nat.lt_of_not_le; intro hle2; simp only [posGet, List.getD_eq_getElem?_getD, List.getElem?_eq_none hle2] at hp; simp [SV.isOwn] at hp
 have hpg : ∀ p, (posGet st p).isOwn = true → posGet st p = posGet st p ∧ posVal g' a (w.alloc (.cells arr T)) p = posVal g a w p := by
  intro p hp; refine ⟨rfl, ?_⟩; cases p with
  | slot s => rfl
  | cell b k => simp only [posVal]; rw [hold _ (hμ b (hblk b k hp))]
 refine { size := h.size, defs := h.defs, env := h.env, n := h.n, n0 := h.n0, B := ?_, I := fun c o hc => ?_, F := fun c o hc => ?_, μI := fun b hbn => ⟨(h.μI b hbn).1, ?_⟩, μinj := h.μinj, own := ⟨bl, ?_⟩, al := fun s => AlOk.congr hpg (h.al s) }
 ·have := h.B; simp only [World.size_alloc]; exact Nat.le_succ_of_le this
 ·have := h.I c o hc; rw [hold c (hlt this)]; exact this
 ·change (if c = w.heap.size then some (.cells arr T (0, 0)) else g.F c) = some o at hc
  split at hc
  ·rename_i e; subst e; rw [hnew]; exact hc
  ·have := h.F c o hc; rw [hold c (hlt this)]; exact this
 ·show (if g.μ b = w.heap.size then _ else _) = none; have := hμ b hbn; rw [if_neg (by omega)]; exact (h.μI b hbn).2
 ·refine { slots := fun s => SFit.frame hle (hfr (.slot s)) (hb.slots s), blocks := fun b ys hy => ?_, inj := hb.inj, free := fun p c hp => ?_ }
  ·obtain ⟨arr', T', h1, h2, h3⟩ := hb.blocks b ys hy; have hbn : b < g.n := by rw [h.n]; exact (List.getElem?_eq_some_iff.1 hy).1
   exact ⟨arr', T', by show (w.alloc _).heap[g.μ b]? = _; rw [hold _ (hμ b hbn)]; exact h1, h2, fun k x hk => ⟨(h3 k x hk).1, SFit.frame hle (hfr (.cell b k)) (h3 k x hk).2⟩⟩
  ·obtain ⟨a1, a2, a3, a4⟩ := hb.free p c hp; refine ⟨a1, ?_, by simp only [World.size_alloc]; omega, a4⟩; show (if c = w.heap.size then _ else _) = none; rw [if_neg (by omega)]; exact a2
theorem Sim.takeF {g : Gh} {st : St} {a : Act} {w : World} (h : Sim g st a w) (xs : List PV) (arr : Array Value) (T : TypeId) (c : Nat) (hc : g.F c = some (.cells arr T (0, 0))) (hcI : g.I c = none) (hf : FitL g xs arr.toList) (h1c : ∀ v ∈ arr.toList, v.oneCell' = true) {d : Nat} (hd : d < g.N) (hv : a.tmps.getD d undef = .pointer (some ⟨c, 0, none⟩)) :
 Sim { g with F := fun c' => if c' = c then none else g.F c', n := g.n + 1, μ := fun b => if b = g.n then c else g.μ b } ((st.grow (xs.map .pv)).put d (.pv (.ptr st.h.length 0))) a w := by
 obtain ⟨bl, hb⟩ := h.own; have hwc : w.heap[c]? = some (.cells arr T (0, 0)) := h.F _ _ hc
 let g' : Gh := { g with F := fun c' => if c' = c then none else g.F c', n := g.n + 1, μ := fun b => if b = g.n then c else g.μ b }
 have hle : g.le g' := ⟨fun _ _ h => h, Nat.le_refl _, Nat.le_succ _, fun b hbn => by show (if b = g.n then _ else _) = _; rw [if_neg (by omega)]⟩; have hμc : ∀ b, b < g.n → g.μ b ≠ c := fun b hbn e => by have := (h.μI b hbn).2; rw [e, hc] at this; cases this
 have hpg : ∀ p, (posGet (st.grow (xs.map .pv)) p).isOwn = true → posGet (st.grow (xs.map .pv)) p = posGet st p ∧ posVal g' a w p = posVal g a w p := by
  intro p hp; cases p with
  | slot s => exact ⟨rfl, rfl⟩
  | cell b k =>
   simp only [posGet, St.grow, List.getD_eq_getElem?_getD] at hp ⊢; rcases Nat.lt_trichotomy b st.h.length with hl | hl | hl
   ·rw [List.getElem?_append_left hl] at hp ⊢; refine ⟨rfl, ?_⟩; have hbn : b < g.n := by rw [h.n]; exact hl
    simp only [posVal]; rw [hle.μ b hbn]
   ·exfalso; rw [hl, List.getElem?_append_right (Nat.le_refl _)] at hp; simp only [Nat.sub_self, List.getElem?_cons_zero, Option.getD_some, List.getElem?_map] at hp; cases hx : xs[k]? with
    | none => simp [hx, SV.isOwn] at hp
    | some y => simp [hx, SV.isOwn] at hp
   ·exfalso; have hz : (st.h ++ [xs.map SV.pv])[b]? = none := List.getElem?_eq_none (by simp only [List.length_append, List.length_cons, List.length_nil]; omega); rw [hz] at hp; simp [SV.isOwn] at hp
 have hbl' : ∀ p c, (match p with | .cell b _ => if b = g.n then none else bl p | .slot _ => bl p) = some c → bl p = some c := by
  intro p c hp; cases p with
  | slot s => exact hp
  | cell b k =>
   have hp2 : (if b = g.n then none else bl (.cell b k)) = some c := hp; split at hp2
   ·cases hp2
   ·exact hp2
 have hs : Sim g' (st.grow (xs.map .pv)) a w := by
  refine { size := h.size, defs := h.defs, env := h.env, n := ?_, n0 := Nat.le_trans h.n0 (Nat.le_succ _), B := h.B, I := h.I, F := fun c' o hc' => ?_, μI := fun b hbn => ?_, μinj := fun b b' hbn hbn' he => ?_, own := ⟨fun p => match p with | .cell b _ => if b = g.n then none else bl p | .slot _ => bl p, ?_⟩, al := fun s => AlOk.congr hpg (h.al s) }
  ·show g.n + 1 = _; rw [h.n]; simp [St.grow]
  ·change (if c' = c then none else g.F c') = some o at hc'
   split at hc'
   ·cases hc'
   ·exact h.F c' o hc'
  ·show g.I (if b = g.n then _ else _) = none ∧ (if (if b = g.n then _ else _) = c then none else g.F (if b = g.n then _ else _)) = none; by_cases hbe : b = g.n
   ·rw [if_pos hbe, if_pos rfl]; exact ⟨hcI, rfl⟩
   ·have hbn' : b < g.n := by have : b < g.n + 1 := hbn; omega
    rw [if_neg hbe, if_neg (hμc b hbn')]; exact h.μI b hbn'
  ·change (if b = g.n then c else g.μ b) = (if b' = g.n then c else g.μ b') at he
   have h1 : b < g.n + 1 := hbn; have h2 : b' < g.n + 1 := hbn'; by_cases e1 : b = g.n
   ·by_cases e2 : b' = g.n
    ·omega
    ·rw [if_pos e1, if_neg e2] at he; exact absurd he.symm (hμc b' (by omega))
   ·by_cases e2 : b' = g.n
    ·rw [if_neg e1, if_pos e2] at he; exact absurd he (hμc b (by omega))
    ·rw [if_neg e1, if_neg e2] at he; exact h.μinj b b' (by omega) (by omega) he
  ·refine { slots := fun s => SFit.frame hle (fun _ _ => rfl) (hb.slots s), blocks := fun b ys hy => ?_, inj := fun p q c hp hq => hb.inj p q c (hbl' p c hp) (hbl' q c hq), free := fun p c' hp => ?_ }
   ·simp only [St.grow] at hy; by_cases hl : b < st.h.length
    ·rw [List.getElem?_append_left hl] at hy; have hbn : b < g.n := by rw [h.n]; exact hl
     obtain ⟨arr', T', h1, h2, h3⟩ := hb.blocks b ys hy; refine ⟨arr', T', by rw [hle.μ b hbn]; exact h1, h2, fun k x hk => ?_⟩; simp only [if_neg (Nat.ne_of_lt hbn)]; exact ⟨(h3 k x hk).1, SFit.frame hle (fun _ _ => rfl) (h3 k x hk).2⟩
    ·have hbe : b = st.h.length := by
      have := (List.getElem?_eq_some_iff.1 hy).1; simp at this; omega
     rw [hbe, List.getElem?_append_right (Nat.le_refl _)] at hy; simp only [Nat.sub_self, List.getElem?_cons_zero, Option.some.injEq] at hy; subst hy; have hbn : b = g.n := by rw [hbe, h.n]
     refine ⟨arr, T, by show w.heap[if b = g.n then _ else _]? = _; rw [if_pos hbn]; exact hwc, ⟨by have := hf.length; simpa using this, h1c⟩, fun k x hk => ?_⟩; rw [List.getElem?_map, Option.map_eq_some_iff] at hk; obtain ⟨y, hy, rfl⟩ := hk; obtain ⟨v, hv, hfv⟩ := hf.get k y hy; simp only [if_pos hbn]; refine ⟨rfl, rfl, ?_⟩; have : arr.getD k undef = v := by
      rw [Array.getElem?_toList] at hv; simp [Array.getD_eq_getD_getElem?, hv]
     rw [this]; exact Fit.mono hle _ _ hfv
   ·have hp' := hbl' p c' hp; obtain ⟨a1, a2, a3, a4⟩ := hb.free p c' hp'; have hne : c' ≠ c := fun e => by rw [e, hc] at a2; cases a2
    refine ⟨a1, ?_, a3, fun b hbn => ?_⟩
    ·show (if c' = c then none else g.F c') = none; rw [if_neg hne]; exact a2
    ·show (if b = g.n then c else g.μ b) ≠ c'; by_cases hbe : b = g.n
     ·rw [if_pos hbe]; exact fun e => hne e.symm
     ·rw [if_neg hbe]; exact a4 b (by have : b < g.n + 1 := hbn; omega)
 have hds : d < a.tmps.size := by rw [h.size]; exact hd
 have := hs.put (d := d) (sv := .pv (.ptr st.h.length 0)) (v := a.tmps.getD d undef) hd ⟨rfl, by show st.h.length < g.n + 1; rw [h.n]; omega, by rw [hv]; show _ = Value.pointer (some ⟨if st.h.length = g.n then c else g.μ _, 0, none⟩); rw [if_pos h.n.symm]⟩ trivial rfl; rw [put_self hds] at this; exact this
/-! ### The blocks that are out -/
def alOf (o : Oper) : Option (Nat × TypeId) :=
 match o.op, o.dst with
 | .alloc t, some d => some (d, t)
 | _, _ => none
theorem alOf_dst {o : Oper} {d : Nat} {t : TypeId} (h : alOf o = some (d, t)) : o.dst = some d := by
 unfold alOf at h; split at h
 ·rename_i h1 h2; cases h; exact h2
 ·cases h
def alK (P : Program) (K : St → Prop) : List Oper → St → Prop
 | [], st => K st
 | o :: r, st => match alOf o with
  | some (d, t) => match zeroL P t with
   | some zs => allOne zs = true ∧ alK P K r ((st.grow (zs.map .pv)).put d (.pv (.ptr st.h.length 0)))
   | none => False
  | none => alK P K r st
def zeroOf (P : Program) (t : TypeId) (z : Array Value) : Prop := ∃ i v, P.info? t = some i ∧ i.zero = some v ∧ z = v.cells
theorem zeroOf_list {P : Program} {t : TypeId} {z : Array Value} (h : zeroOf P t z) {zs : List PV} (hz : zeroL P t = some zs) : zs = z.toList.map PV.lit := by
 obtain ⟨i, v, h1, h2, rfl⟩ := h; unfold zeroL at hz; rw [h1] at hz; simp only [h2, Option.map_some, Option.some.injEq] at hz; exact hz.symm
structure Out (g0 g : Gh) (a : Act) (cf : Nat → Option (Nat × Array Value × TypeId)) : Prop where
  on : ∀ d c z T, cf d = some (c, z, T) → g.F c = some (.cells z T (0, 0)) ∧ g.I c = none ∧ g0.F c = none ∧ a.tmps.getD d undef = .pointer (some ⟨c, 0, none⟩)
  off : ∀ c, (∀ d z T, cf d ≠ some (c, z, T)) → g.F c = g0.F c
  inj : ∀ d d' c z T z' T', cf d = some (c, z, T) → cf d' = some (c, z', T') → d = d'
  to : g0.to { g with F := g0.F }
theorem Out.start {g : Gh} {st : St} {a : Act} {w : World} (hs : Sim g st a w) : Out g g a (fun _ => none) :=
 ⟨fun _ _ _ _ h => (by cases h), fun _ _ => rfl, fun _ _ _ _ _ _ _ h => (by cases h), ⟨fun _ _ h => h, rfl, rfl, rfl, rfl, rfl, hs.n0, fun _ _ => rfl, fun _ _ h => h⟩⟩
theorem Out.sub {g0 g : Gh} {a : Act} {cf : Nat → Option (Nat × Array Value × TypeId)} (h : Out g0 g a cf) {c : Nat} (hc : g0.F c ≠ none) : g.F c = g0.F c :=
 h.off c fun d z T e => hc (h.on d c z T e).2.2.1
theorem Out.step {g0 g : Gh} {a a' : Act} {cf : Nat → Option (Nat × Array Value × TypeId)} (h : Out g0 g a cf) {J : Nat → Option Obj} (ht : g.to { g with I := J }) (ha : ∀ d, cf d ≠ none → a'.tmps.getD d undef = a.tmps.getD d undef) : Out g0 { g with I := J } a' cf := by
 refine ⟨fun d c z T e => ?_, h.off, h.inj, ?_⟩
 ·obtain ⟨h1, h2, h3, h4⟩ := h.on d c z T e; exact ⟨h1, ht.FI c (by rw [h1]; exact fun hh => by cases hh) h2, h3, by rw [ha d (by rw [e]; exact fun hh => by cases hh)]; exact h4⟩
 ·exact ⟨fun c o hc => ht.I c o (h.to.I c o hc), rfl, h.to.B, h.to.n0, h.to.N, h.to.env, h.to.n, h.to.μ, fun c hF hI => ht.FI c (by rw [h.sub hF]; exact hF) (h.to.FI c hF hI)⟩
theorem Out.alloc {g0 g : Gh} {st : St} {a a' : Act} {w : World} {cf : Nat → Option (Nat × Array Value × TypeId)} (h : Out g0 g a cf) (hs : Sim g st a w) (z : Array Value) (T : TypeId) {d : Nat} (hd : cf d = none)
 (hv : a'.tmps.getD d undef = .pointer (some ⟨w.heap.size, 0, none⟩)) (ha : ∀ d', d' ≠ d → a'.tmps.getD d' undef = a.tmps.getD d' undef) :
 Out g0 { g with F := fun c => if c = w.heap.size then some (.cells z T (0, 0)) else g.F c } a' (fun x => if x = d then some (w.heap.size, z, T) else cf x) := by
 obtain ⟨hF, hI, _⟩ := hs.allocF z T; have h0 : g0.F w.heap.size = none := by
  cases hc : g0.F w.heap.size with
  | none => rfl
  | some o => have := h.sub (c := w.heap.size) (by rw [hc]; exact fun hh => by cases hh); rw [hF, hc] at this; cases this
 have hcf : ∀ x c z T, cf x = some (c, z, T) → c ≠ w.heap.size := fun x c z T e hc => by
  have := (h.on x c z T e).1; rw [hc, hF] at this; cases this
 refine ⟨fun x c z' T' e => ?_, fun c hc => ?_, fun x x' c z1 T1 z2 T2 e e' => ?_, ?_⟩
 ·skip
  split at e
  ·rename_i hx; subst hx; cases e; exact ⟨if_pos rfl, hI, h0, hv⟩
  ·rename_i hx; obtain ⟨h1, h2, h3, h4⟩ := h.on x c z' T' e; exact ⟨(if_neg (hcf x c z' T' e)).trans h1, h2, h3, by rw [ha x hx]; exact h4⟩
 ·have hne : c ≠ w.heap.size := fun e => hc d z T (by rw [if_pos rfl, e]); show (if c = w.heap.size then _ else _) = _; rw [if_neg hne]; refine h.off c fun x z' T' e => ?_; by_cases hx : x = d
  ·rw [hx, hd] at e; cases e
  ·exact hc x z' T' (by rw [if_neg hx]; exact e)
 ·skip
  split at e
  ·rename_i hx; cases e; split at e'
   ·rename_i hx'; rw [hx, hx']
   ·exact absurd rfl (hcf x' _ _ _ e')
  ·split at e'
   ·cases e'; exact absurd rfl (hcf x _ _ _ e)
   ·exact h.inj x x' c _ _ _ _ e e'
 ·exact ⟨h.to.I, rfl, h.to.B, h.to.n0, h.to.N, h.to.env, h.to.n, h.to.μ, h.to.FI⟩
theorem alK_ok {P : Program} {K : St → Prop} {g0 : Gh} {a : Act} {w : World} : ∀ (l : List Oper) (st : St) (g : Gh) (cf : Nat → Option (Nat × Array Value × TypeId)), Out g0 g a cf → Sim g st a w →
 (∀ o ∈ l, ∀ d t, alOf o = some (d, t) → d < g.N ∧ ∃ c z, cf d = some (c, z, t) ∧ zeroOf P t z) → (∀ d, cf d ≠ none → ∃ o ∈ l, ∃ t, alOf o = some (d, t)) → ((l.filterMap alOf).map (·.1)).Nodup → alK P K l st →
 ∃ g' st', K st' ∧ g0.to g' ∧ Sim g' st' a w
 | [], st, g, cf, ho, hs, _, hc, _, hk => by
  have hn : ∀ d, cf d = none := fun d => by
   cases h : cf d with
   | none => rfl
   | some x => obtain ⟨o, h1, _⟩ := hc d (by rw [h]; exact fun hh => by cases hh); cases h1
  have hF : g.F = g0.F := funext fun c => ho.off c fun d z T e => by rw [hn d] at e; cases e
  have ht := ho.to; rw [← hF] at ht; exact ⟨g, st, hk, ht, hs⟩
 | o :: r, st, g, cf, ho, hs, hon, hc, hnd, hk => by
  unfold alK at hk; split at hk
  ·rename_i d t hal; split at hk
   ·rename_i zs hz; obtain ⟨hone, hk⟩ := hk; obtain ⟨hdN, c, z, hcf, hzo⟩ := hon o (List.mem_cons_self) d t hal; obtain ⟨h1, h2, h3, h4⟩ := ho.on d c z t hcf; have hzs := zeroOf_list hzo hz; subst hzs; have hfit := fitL_lits g z.toList; have hs2 := hs.takeF (z.toList.map PV.lit) z t c h1 h2 hfit (allOne_ok hone hfit) hdN h4; simp only [List.filterMap_cons, hal, List.map_cons, List.nodup_cons] at hnd; have hcne : ∀ x c' z' T', x ≠ d → cf x = some (c', z', T') → c' ≠ c := fun x c' z' T' hx e hcc => hx (ho.inj x d c z' T' z t (by rw [← hcc]; exact e) hcf); refine alK_ok r _ _ (fun x => if x = d then none else cf x) ⟨fun x c' z' T' e => ?_, fun c' hc' => ?_, fun x x' c' z1 T1 z2 T2 e e' => ?_, ?_⟩ hs2 (fun o' ho' d' t' hal' => ?_) (fun x hx => ?_) hnd.2 hk
    ·skip
     split at e
     ·cases e
     ·rename_i hx; obtain ⟨k1, k2, k3, k4⟩ := ho.on x c' z' T' e; exact ⟨(if_neg (hcne x c' z' T' hx e)).trans k1, k2, k3, k4⟩
    ·show (if c' = c then none else g.F c') = g0.F c'; split
     ·rename_i e; rw [e, h3]
     ·rename_i hne; refine ho.off c' fun x z' T' e => ?_; by_cases hx : x = d
      ·rw [hx, hcf] at e; cases e; exact hne rfl
      ·exact hc' x z' T' (by rw [if_neg hx]; exact e)
    ·skip
     split at e
     ·cases e
     ·split at e'
      ·cases e'
      ·exact ho.inj x x' c' _ _ _ _ e e'
    ·have hn0 : g0.n0 ≤ g.n := ho.to.n; refine ⟨ho.to.I, rfl, ho.to.B, ho.to.n0, ho.to.N, ho.to.env, Nat.le_trans hn0 (Nat.le_succ _), fun b hb => ?_, ho.to.FI⟩; show (if b = g.n then c else g.μ b) = g0.μ b; rw [if_neg (by omega)]; exact ho.to.μ b hb
    ·obtain ⟨k1, c', z', k2, k3⟩ := hon o' (List.mem_cons_of_mem _ ho') d' t' hal'; refine ⟨k1, c', z', ?_, k3⟩; have : d' ≠ d := fun e => hnd.1 (by rw [← e]; exact List.mem_map.2 ⟨(d', t'), List.mem_filterMap.2 ⟨o', ho', hal'⟩, rfl⟩); simp only [if_neg this]; exact k2
    ·skip
     split at hx
     ·exact absurd rfl hx
     ·rename_i hxd; obtain ⟨o', h5, t', h6⟩ := hc x hx; rcases List.mem_cons.1 h5 with e | e
      ·subst e; rw [hal] at h6; cases h6; exact absurd rfl hxd
      ·exact ⟨o', e, t', h6⟩
   ·exact hk.elim
  ·rename_i hal; refine alK_ok r st g cf ho hs (fun o' ho' => hon o' (List.mem_cons_of_mem _ ho')) (fun d hd => ?_) (by simpa [List.filterMap_cons, hal] using hnd) hk; obtain ⟨o', h5, t', h6⟩ := hc d hd; rcases List.mem_cons.1 h5 with e | e
   ·subst e; rw [hal] at h6; cases h6
   ·exact ⟨o', e, t', h6⟩
theorem alK_zero {P : Program} {K : St → Prop} : ∀ (l : List Oper) (st : St), alK P K l st → ∀ o ∈ l, ∀ d t, alOf o = some (d, t) → ∃ zs, zeroL P t = some zs
 | [], _, _, o, ho, _, _, _ => by cases ho
 | o1 :: r, st, hk, o, ho, d, t, hal => by
  unfold alK at hk; split at hk
  ·rename_i d1 t1 hal1; split at hk
   ·rename_i zs hz; rcases List.mem_cons.1 ho with e | e
    ·subst e; rw [hal] at hal1; cases hal1; exact ⟨_, hz⟩
    ·exact alK_zero r _ hk.2 o e d t hal
   ·exact hk.elim
  ·rename_i hal1; rcases List.mem_cons.1 ho with e | e
   ·subst e; rw [hal] at hal1; cases hal1
   ·exact alK_zero r _ hk o e d t hal
theorem alloc_run {P : Program} {o : Oper} {d : Nat} {t : TypeId} {zs : List PV} (ho : alOf o = some (d, t)) (hz : zeroL P t = some zs) : o.dst = some d ∧ ∃ z, zeroOf P t z ∧ ∀ (a : Act) (w : World), (execOp a.eval o).run P w = .ok (.value (.pointer (some ⟨w.heap.size, 0, none⟩))) (w.alloc (.cells z t)) := by
 unfold alOf at ho; split at ho
 ·rename_i t' d' hop hd; cases ho; refine ⟨hd, ?_⟩; unfold zeroL at hz; split at hz
  ·rename_i i hi; simp only [Option.map_eq_some_iff] at hz; obtain ⟨v, hv, _⟩ := hz; refine ⟨v.cells, ⟨i, v, hi, hv, rfl⟩, fun a w => ?_⟩; simp only [execOp, hop, Instr.alloc, zeroValue, typeInfo, Sem.run_bind, run_program, Result.andThen_ok, hi, Sem.run_pure, hv]; simp [newVar, newRow]
  ·cases hz
 ·cases ho
end Go.AX

namespace Go.AX
def memN : List Nat → Nat → Bool
 | [], _ => false
 | d :: ds, s => if d = s then true else memN ds s
theorem memN_iff : ∀ (ds : List Nat) (s : Nat), memN ds s = true ↔ s ∈ ds
 | [], s => by simp [memN]
 | d :: ds, s => by
  simp only [memN, List.mem_cons]; by_cases h : d = s
  ·subst h; simp
  ·rw [if_neg h, memN_iff ds s]; exact ⟨.inr, fun h' => h'.resolve_left (fun e => h e.symm)⟩
/-! ### What an operation looks at -/
def tmpOf : Operand → List Nat
 | .tmp t => [t]
 | _ => []
def tmpsOf : List Operand → List Nat
 | [] => []
 | x :: xs => tmpOf x ++ tmpsOf xs
def optmpOf : Option Operand → List Nat
 | some x => tmpOf x
 | none => []
def opTmps : Op → List Nat
 | .move x | .assign x | .load _ x | .nilCheck x | .unOp _ _ x | .convert _ _ x | .fieldAddr _ x _ | .field _ x _ | .extract x _ => tmpOf x
 | .pick c a b => tmpOf c ++ (tmpOf a ++ tmpOf b)
 | .build _ ps => tmpsOf (ps.toList.map (·.2))
 | .buildSlice _ _ ps => tmpsOf (ps.toList.map (·.2))
 | .binOp _ _ a v _ | .indexAddr _ a v | .index _ a v | .lookup _ a v _ => tmpOf a ++ tmpOf v
 | .slice _ x l h _ => tmpOf x ++ (optmpOf l ++ optmpOf h)
 | .call c => match c.callee with
  | .value x => tmpOf x ++ tmpsOf c.args.toList
  | _ => tmpsOf c.args.toList
 | _ => []
def looks (ops : List Oper) (o : Oper) : List Nat :=
 match o.guard with
 | none => opTmps o.op
 | some (j, _) => match gslot ops j with
  | some d => d :: opTmps o.op
  | none => opTmps o.op
def unread (all : List Oper) (d : Nat) : Bool := all.all fun o => !(opTmps o.op).contains d
def frzOk1 (d : Nat) (o : Oper) : Bool :=
 match o.op with
 | .buildSlice _ _ _ => true
 | .build _ _ => true
 | .call c => match c.callee with
  | .value _ => true
  | .builtin .append => match c.args.toList with
   | x :: _ => !memN (tmpOf x) d
   | [] => true
  | _ => true
 | .assign x => !memN (tmpOf x) d
 | .store _ _ y => !memN (tmpOf y) d
 | .box _ x => !memN (tmpOf x) d
 | .mapUpdate _ _ _ x => !memN (tmpOf x) d
 | .insert _ _ _ x => !memN (tmpOf x) d
 | _ => true
def frzOk (d : Nat) : List Oper → Bool
 | [] => true
 | o :: r => frzOk1 d o && frzOk d r
def preLenW (all : List Oper) : List Oper → Nat
 | [] => 0
 | o :: r => match o.op with
  | .assign _ => match o.dst with
   | some d => if unread all d = true then preLenW all r + 1 else 0
   | none => 0
  | .alloc _ => match o.dst, o.guard with
   | some d, none => if unread all d = true then preLenW all r + 1 else 0
   | _, _ => 0
  | .buildSlice _ _ _ => match o.dst with
   | some d => if frzOk d all = true then preLenW all r + 1 else 0
   | none => 0
  | .move _ | .load _ _ | .nilCheck _ | .unOp _ _ _ | .convert _ _ _ | .fieldAddr _ _ _ | .field _ _ _ | .extract _ _ | .pick _ _ _ | .build _ _ | .binOp _ _ _ _ _ | .indexAddr _ _ _ | .index _ _ _ | .lookup _ _ _ _ | .slice _ _ _ _ _ => preLenW all r + 1
  | .call c => match c.callee with
   | .value _ => preLenW all r + 1
   | .builtin .len => preLenW all r + 1
   | .builtin .min => preLenW all r + 1
   | .builtin .max => preLenW all r + 1
   | _ => 0
  | _ => 0
def preLen (ops : List Oper) : Nat := preLenW ops ops
def isAfter (o : Oper) (j : Nat) : Bool := o.after.toList.any fun e => Region.binds .any e && e.on == j
def drawB (ops : List Oper) (m : Nat) : Bool :=
 decide (m ≤ ops.length) &&
 (List.range ops.length).all (fun i => match ops[i]? with | some o => o.after.toList.all fun e => !Region.binds .any e || decide (e.on < i) | none => false) &&
 (List.range m).all (fun i => match ops[i]? with
  | some o => match o.dst with
   | some d => (List.range i).all fun j => match (ops[j]?).bind (·.dst) with
    | some dj => dj != d && (!(looks ops o).contains dj || isAfter o j)
    | none => false
   | none => false
  | none => false) &&
 (m == ops.length || (List.range m).all fun i => (List.range (m + 1)).any fun j => decide (i < j) && match ops[j]? with | some o => isAfter o i | none => false) &&
 (List.range ops.length).all fun k => !decide (m ≤ k) || match ops[k + 1]? with | some o => isAfter o k | none => true
/-! ### The walk of the first operations -/
def fnd : List (Nat × SV) → Nat → Option SV
 | [], _ => none
 | (j, v) :: r, s => if j = s then some v else fnd r s
def restr : List Nat → List (Nat × SV) → List (Nat × SV) → List (Nat × SV)
 | [], _, base => base
 | s :: L, acc, base => match fnd acc s with
  | some v => (s, v) :: restr L acc base
  | none => restr L acc base
def qDst (ds : List Nat) : Pos → Bool
 | .slot s => ds.contains s
 | .cell _ _ => false
def kq (q : Pos → Bool) : SV → SV
 | .own _ _ _ => .pv .bot
 | .omap _ _ => .pv .bot
 | .pv x => .pv x
 | .opt c x => killS q (.opt c x)
 | .al p => killS q (.al p)
 | .loc p lo hi => killS q (.loc p lo hi)
 | .sptr p i k => killS q (.sptr p i k)
 | .agl xs => killS q (.agl xs)
theorem kq_cases (q : Pos → Bool) (x : SV) : (kq q x).isOwn = false ∧ (kq q x = .pv .bot ∨ (kq q x = x ∧ x.avoids q)) := by
 cases x with
 | own _ _ _ => exact ⟨rfl, .inl rfl⟩
 | omap _ _ => exact ⟨rfl, .inl rfl⟩
 | pv x => exact ⟨rfl, .inr ⟨rfl, trivial⟩⟩
 | opt c y =>
  refine ⟨?_, killS_cases q (.opt c y)⟩; cases h : (kq q (.opt c y)).isOwn with
  | false => rfl
  | true => simp only [kq] at h; have := killS_own h; rw [this] at h; cases h
 | al p =>
  refine ⟨?_, killS_cases q (.al p)⟩; cases h : (kq q (.al p)).isOwn with
  | false => rfl
  | true => simp only [kq] at h; have := killS_own h; rw [this] at h; cases h
 | loc p lo hi =>
  refine ⟨?_, killS_cases q (.loc p lo hi)⟩; cases h : (kq q (.loc p lo hi)).isOwn with
  | false => rfl
  | true => simp only [kq] at h; have := killS_own h; rw [this] at h; cases h
 | sptr p lo hi =>
  refine ⟨?_, killS_cases q (.sptr p lo hi)⟩; cases h : (kq q (.sptr p lo hi)).isOwn with
  | false => rfl
  | true => simp only [kq] at h; have := killS_own h; rw [this] at h; cases h
 | agl xs =>
  refine ⟨?_, killS_cases q (.agl xs)⟩; cases h : (kq q (.agl xs)).isOwn with
  | false => rfl
  | true => simp only [kq] at h; have := killS_own h; rw [this] at h; cases h
def bots (ds : List Nat) : List (Nat × SV) → List (Nat × SV)
 | [] => []
 | (s, v) :: t => if memN ds s = true then bots ds t else (s, v) :: bots ds t
def QG (P : Program) (ops : List Oper) (st : St) (o : Oper) (r : SV) : Prop :=
 match o.guard with
 | none => QE P st o.op r
 | some (j, want) => match gslot ops j with
  | some d => match gcond st d want with
   | some Gd => ∃ r0, r = .opt Gd r0 ∧ (Gd → QE P st o.op r0)
   | none => False
  | none => False
def HG (P : Program) (ops : List Oper) (st : St) (o : Oper) (r : SV) : Prop :=
 match alOf o with
 | some _ => o.guard = none ∧ r = .pv .bot
 | none => QG P ops st o r
def CallQ0 (P : Program) (f : FuncId) (pa : List PV) (d : Nat) (acc : List (Nat × SV)) (k : List (Nat × SV) → Prop) : Prop :=
 ∃ r, APure P f pa (fun r' => r' = r) ∧ r.nwS ∧ k ((d, .pv (frzS r)) :: acc)
def CallQ (P : Program) (Gd : Prop) (f : FuncId) (pa : List PV) (q : Pos → Bool) (d : Nat) (acc : List (Nat × SV)) (k : List (Nat × SV) → Prop) : Prop :=
 ∃ r, (Gd → APure P f pa (fun r' => r' = r)) ∧ r.nwS ∧ k ((d, kq q (.opt Gd (.pv (frzS r)))) :: acc)
theorem CallQ0.intro {P : Program} {f : FuncId} {pa : List PV} {d : Nat} {acc : List (Nat × SV)} {k : List (Nat × SV) → Prop} {r : SV} (h : APure P f pa (fun r' => r' = r)) (hK : k ((d, .pv (frzS r)) :: acc)) (hn : r.nwS := by simp) : CallQ0 P f pa d acc k := ⟨r, h, hn, hK⟩
theorem CallQ.intro {P : Program} {Gd : Prop} {f : FuncId} {pa : List PV} {q : Pos → Bool} {d : Nat} {acc : List (Nat × SV)} {k : List (Nat × SV) → Prop} {r : SV} (h : Gd → APure P f pa (fun r' => r' = r)) (hK : k ((d, kq q (.opt Gd (.pv (frzS r)))) :: acc)) (hn : r.nwS := by simp) : CallQ P Gd f pa q d acc k := ⟨r, h, hn, hK⟩
def callQ0 (P : Program) (st : St) (x : Operand) (args : Array Operand) (d : Nat) (acc : List (Nat × SV)) (k : List (Nat × SV) → Prop) : Prop :=
 match calleeOf st x with
 | some (f, p, q) => gc st x ∧ vwOkL st args.toList ∧ CallQ0 P f (viewsOf st args p q) d acc k
 | none => False
def callQ (P : Program) (st : St) (Gd : Prop) (x : Operand) (args : Array Operand) (qq : Pos → Bool) (d : Nat) (acc : List (Nat × SV)) (k : List (Nat × SV) → Prop) : Prop :=
 match calleeOf st x with
 | some (f, p, q) => (Gd → gc st x ∧ vwOkL st args.toList) ∧ CallQ P Gd f (viewsOf st args p q) qq d acc k
 | none => False
theorem callQ0_ok {P : Program} {st : St} {c : Call} {x : Operand} {d : Nat} {acc : List (Nat × SV)} {k : List (Nat × SV) → Prop} (q : Pos → Bool) (hc : c.callee = .value x) (h : callQ0 P st x c.args d acc k) : ∃ r, QE P st (.call c) r ∧ k ((d, kq q r) :: acc) := by
 unfold callQ0 at h; split at h
 ·rename_i f p q' hce; obtain ⟨h0, h1, r, h2, h3, h4⟩ := h; refine ⟨.pv (frzS r), ?_, h4⟩; simp only [QE, hc, hce]; exact ⟨h0, h1, _, h2, fun r' hr' => by subst hr'; exact ⟨h3, rfl⟩⟩
 ·exact h.elim
theorem callQ_ok {P : Program} {st : St} {Gd : Prop} {c : Call} {x : Operand} {q : Pos → Bool} {d : Nat} {acc : List (Nat × SV)} {k : List (Nat × SV) → Prop} (hc : c.callee = .value x) (h : callQ P st Gd x c.args q d acc k) : ∃ r, (Gd → QE P st (.call c) r) ∧ k ((d, kq q (.opt Gd r)) :: acc) := by
 unfold callQ at h; split at h
 ·rename_i f p q' hce; obtain ⟨h1, r, h2, h3, h4⟩ := h; refine ⟨.pv (frzS r), fun hg => ?_, h4⟩; simp only [QE, hc, hce]; exact ⟨(h1 hg).1, (h1 hg).2, _, h2 hg, fun r' hr' => by subst hr'; exact ⟨h3, rfl⟩⟩
 ·exact h.elim
def AQs (P : Program) (ops : List Oper) (q : Pos → Bool) (base : St) (o : Oper) (k : List (Nat × SV) → Prop) (acc : List (Nat × SV)) : Prop :=
  match o.dst with
    | none => False
    | some d => match alOf o with
     | some _ => o.guard = none ∧ k ((d, .pv .bot) :: acc)
     | none => match o.guard with
      | none => match o.op with
        | .call c => match c.callee with
          | .value x => callQ0 P ⟨restr (looks ops o) acc base.t, base.h⟩ x c.args d acc k
          | _ => (popQ P ⟨restr (looks ops o) acc base.t, base.h⟩ (.call c)).2 ∧ k ((d, kq q (popQ P ⟨restr (looks ops o) acc base.t, base.h⟩ (.call c)).1) :: acc)
        | op => (popQ P ⟨restr (looks ops o) acc base.t, base.h⟩ op).2 ∧ k ((d, kq q (popQ P ⟨restr (looks ops o) acc base.t, base.h⟩ op).1) :: acc)
      | some (j, want) => match gslot ops j with
        | some dj => match gcond ⟨restr (looks ops o) acc base.t, base.h⟩ dj want with
          | some Gd => match o.op with
            | .call c => match c.callee with
              | .value x => callQ P ⟨restr (looks ops o) acc base.t, base.h⟩ Gd x c.args q d acc k
              | _ => (Gd → (popQ P ⟨restr (looks ops o) acc base.t, base.h⟩ (.call c)).2) ∧ k ((d, kq q (.opt Gd (popQ P ⟨restr (looks ops o) acc base.t, base.h⟩ (.call c)).1)) :: acc)
            | op => (Gd → (popQ P ⟨restr (looks ops o) acc base.t, base.h⟩ op).2) ∧ k ((d, kq q (.opt Gd (popQ P ⟨restr (looks ops o) acc base.t, base.h⟩ op).1)) :: acc)
          | none => False
        | none => False
def AQ (P : Program) (ops : List Oper) (q : Pos → Bool) (base : St) (K : List (Nat × SV) → Prop) : List Oper → List (Nat × SV) → Prop
 | [], acc => K acc
 | o :: rest, acc => AQs P ops q base o (AQ P ops q base K rest) acc
def dstsOf (l : List Oper) : List Nat := l.filterMap (·.dst)
def ADrawK (P : Program) (ops : List Oper) (K : St → Prop) (base : St) (acc : List (Nat × SV)) : Prop :=
 alK P (AOps P ops K (ops.drop (preLen ops))) (ops.take (preLen ops)) ⟨acc ++ base.t, base.h⟩
def ADraw (P : Program) (ops : List Oper) (K : St → Prop) (st : St) : Prop :=
 AQ P ops (qDst (dstsOf (ops.take (preLen ops)))) ⟨bots (dstsOf (ops.take (preLen ops))) (killL (qDst (dstsOf (ops.take (preLen ops)))) st.t), st.h⟩
  (ADrawK P ops K ⟨bots (dstsOf (ops.take (preLen ops))) (killL (qDst (dstsOf (ops.take (preLen ops)))) st.t), st.h⟩) (ops.take (preLen ops)) []
theorem AQ_cons {P : Program} {ops : List Oper} {q : Pos → Bool} {base : St} {K : List (Nat × SV) → Prop} {o : Oper} {rest : List Oper} {acc : List (Nat × SV)} (h : AQ P ops q base K (o :: rest) acc) :
 ∃ d r, o.dst = some d ∧ HG P ops ⟨restr (looks ops o) acc base.t, base.h⟩ o r ∧ AQ P ops q base K rest ((d, kq q r) :: acc) := by
 unfold AQ AQs at h; split at h
 ·exact h.elim
 ·rename_i d hd; generalize hst : (⟨restr (looks ops o) acc base.t, base.h⟩ : St) = rst at h ⊢; split at h
  ·rename_i hal; exact ⟨d, .pv .bot, hd, by simp only [HG, hal]; exact ⟨h.1, trivial⟩, h.2⟩
  rename_i hal; simp only [HG, hal]; split at h
  ·rename_i hg; simp only [QG, hg]; split at h
   ·rename_i c hop; split at h
    ·rename_i x hx; obtain ⟨r, h1, h2⟩ := callQ0_ok q hx h; exact ⟨d, r, hd, by rw [hop]; exact h1, h2⟩
    ·rename_i hn; exact ⟨d, _, hd, by rw [hop]; exact QE_of_pop (fun c' x hc hx => by cases hc; exact hn x hx) h.1, h.2⟩
   ·rename_i hn; exact ⟨d, _, hd, QE_of_pop (fun c' x hc _ => hn c' hc) h.1, h.2⟩
  ·rename_i j want hg; split at h
   ·rename_i dj hgs; split at h
    ·rename_i Gd hc; simp only [QG, hg, hgs, hc]; split at h
     ·rename_i c hop; split at h
      ·rename_i x hx; obtain ⟨r, h1, h2⟩ := callQ_ok hx h; exact ⟨d, _, hd, ⟨r, rfl, by rw [hop]; exact h1⟩, h2⟩
      ·rename_i hn; exact ⟨d, _, hd, ⟨_, rfl, fun hG => by rw [hop]; exact QE_of_pop (fun c' x hc hx => by cases hc; exact hn x hx) (h.1 hG)⟩, h.2⟩
     ·rename_i hn; exact ⟨d, _, hd, ⟨_, rfl, fun hG => QE_of_pop (fun c' x hc _ => hn c' hc) (h.1 hG)⟩, h.2⟩
    ·exact h.elim
   ·exact h.elim
theorem AQ_all {P : Program} {ops : List Oper} {q : Pos → Bool} {base : St} {K : List (Nat × SV) → Prop} : ∀ (l : List Oper) (acc : List (Nat × SV)), AQ P ops q base K l acc →
 ∃ E : List (Nat × SV), E.length = l.length ∧ K (E.reverse ++ acc) ∧ ∀ i o, l[i]? = some o → ∃ d r, o.dst = some d ∧ E[i]? = some (d, kq q r) ∧ HG P ops ⟨restr (looks ops o) ((E.take i).reverse ++ acc) base.t, base.h⟩ o r
 | [], acc, h => ⟨[], rfl, h, fun i o ho => by simp at ho⟩
 | o :: rest, acc, h => by
  obtain ⟨d, r, hd, hq, hr⟩ := AQ_cons h; obtain ⟨E, h1, h2, h3⟩ := AQ_all rest _ hr; refine ⟨(d, kq q r) :: E, by simp [h1], by simpa using h2, fun i o' ho => ?_⟩; cases i with
  | zero => simp at ho; subst ho; exact ⟨d, r, hd, rfl, by simpa using hq⟩
  | succ i =>
   obtain ⟨d', r', e1, e2, e3⟩ := h3 i o' (by simpa using ho); exact ⟨d', r', e1, by simpa using e2, by simpa using e3⟩
theorem QG_ok {P : Program} {ops : Array Oper} {st : St} (o : Oper) {r : SV} (h : QG P ops.toList st o r) {g : Gh} {a : Act} {w : World} (hs : Sim g st a w) {K' : Act → World → Prop} {Q : Exit → Act → World → Prop}
 (hK : ∀ v J w2, (∀ c o, g.I c = some o → J c = some o) → (∀ g3 st3, g3.I = g.I → Sim g3 st3 a w → Sim { g3 with I := J } st3 a w2 ∧ g3.to { g3 with I := J }) → SFit { g with I := J } w2 r v none → AlOk { g with I := J } st a w2 r v → K' (a.put o.dst v) w2) :
 if Region.wanted o (yielded ops a.tmps) = true then o.wp P a w K' Q else K' (a.put o.dst undef) w := by
 unfold QG at h; split at h
 ·rename_i hg; rw [if_pos (by simp [Region.wanted, hg])]; exact QE_wp o h hs hK
 ·rename_i j want hg; split at h
  ·rename_i d hgs; split at h
   ·rename_i Gd hc; obtain ⟨r0, rfl, h⟩ := h; have hw := wanted_iff hs hg hgs hc; split
    ·rename_i hh; have hG := hw.1 hh; exact QE_wp o (h hG) hs fun v J w2 t2 s2 f2 a2 => hK v J w2 t2 s2 (SFit.opt hG f2) (fun _ => a2)
    ·rename_i hh; have hG : ¬ Gd := fun hG => hh (hw.2 hG); exact hK undef g.I w (fun _ _ h => h) (fun g3 st3 h3 hs3 => by rw [← h3]; exact ⟨hs3, hs3.refl_to⟩) (SFit.undef hG r0) (fun hc => absurd hc hG)
   ·exact h.elim
  ·exact h.elim
theorem fnd_some {s : Nat} {v : SV} : ∀ (acc base : List (Nat × SV)), fnd acc s = some v → look (acc ++ base) s = v
 | [], _, h => by cases h
 | (j, x) :: r, base, h => by
  simp only [fnd] at h; simp only [List.cons_append, look]; split at h
  ·rename_i e; rw [if_pos e]; cases h; rfl
  ·rename_i e; rw [if_neg e]; exact fnd_some r base h
theorem fnd_none {s : Nat} : ∀ (acc base : List (Nat × SV)), fnd acc s = none → look (acc ++ base) s = look base s
 | [], _, _ => rfl
 | (j, x) :: r, base, h => by
  simp only [fnd] at h; simp only [List.cons_append, look]; split at h
  ·cases h
  ·rename_i e; rw [if_neg e]; exact fnd_none r base h
theorem look_restr : ∀ (L : List Nat) (acc base : List (Nat × SV)) (s : Nat), look (restr L acc base) s = if L.contains s = true then look (acc ++ base) s else look base s
 | [], acc, base, s => by simp [restr]
 | j :: L, acc, base, s => by
  have ih := look_restr L acc base s; have hc : (j :: L).contains s = true ↔ s = j ∨ L.contains s = true := by simp
  simp only [restr]; cases hf : fnd acc j with
  | some v =>
   simp only [look]; by_cases h : j = s
   ·subst h; rw [if_pos rfl, if_pos (hc.2 (.inl rfl)), fnd_some acc base hf]
   ·rw [if_neg h, ih]; by_cases h2 : L.contains s = true
    ·rw [if_pos h2, if_pos (hc.2 (.inr h2))]
    ·rw [if_neg h2, if_neg (fun hh => (hc.1 hh).elim (fun e => h e.symm) h2)]
  | none =>
   simp only []; rw [ih]; by_cases h : j = s
   ·subst h; rw [if_pos (hc.2 (.inl rfl)), fnd_none acc base hf, ite_self]
   ·by_cases h2 : L.contains s = true
    ·rw [if_pos h2, if_pos (hc.2 (.inr h2))]
    ·rw [if_neg h2, if_neg (fun hh => (hc.1 hh).elim (fun e => h e.symm) h2)]
theorem look_bots (ds : List Nat) : ∀ (t : List (Nat × SV)) (s : Nat), look (bots ds t) s = if s ∈ ds then .pv .bot else look t s
 | [], s => by simp [bots, look]
 | (j, v) :: t, s => by
  have ih := look_bots ds t s; simp only [bots]; split
  ·rename_i h; rw [ih]; simp only [look]; by_cases e : j = s
   ·subst e; rw [if_pos ((memN_iff ds j).1 h), if_pos ((memN_iff ds j).1 h)]
   ·rw [if_neg e]
  ·rename_i h; simp only [look]; by_cases e : j = s
   ·subst e; rw [if_pos rfl, if_neg (fun hh => h ((memN_iff ds j).2 hh)), if_pos rfl]
   ·rw [if_neg e, if_neg e, ih]
/-! ### What the check says -/
structure DrawOk (l : List Oper) (m : Nat) : Prop where
  le : m ≤ l.length
  back : ∀ (i : Nat) (o : Oper), l[i]? = some o → ∀ e ∈ o.after, Region.binds .any e = true → e.on < i
  dst : ∀ (i : Nat) (o : Oper), i < m → l[i]? = some o → ∃ d, o.dst = some d ∧ ∀ (j : Nat) (oj : Oper), j < i → l[j]? = some oj → ∃ dj, oj.dst = some dj ∧ dj ≠ d ∧ (dj ∈ looks l o → isAfter o j = true)
  up : m < l.length → ∀ i, i < m → ∃ j o, i < j ∧ j ≤ m ∧ l[j]? = some o ∧ isAfter o i = true
  chain : ∀ (k : Nat) (o : Oper), m ≤ k → l[k + 1]? = some o → isAfter o k = true
theorem drawB_ok {l : List Oper} {m : Nat} (h : drawB l m = true) : DrawOk l m := by
 simp only [drawB, Bool.and_eq_true, List.all_eq_true, List.mem_range, Bool.or_eq_true, decide_eq_true_iff, Bool.not_eq_true', List.any_eq_true, beq_iff_eq] at h; obtain ⟨⟨⟨⟨h1, h2⟩, h3⟩, h4⟩, h5⟩ := h; have hlt : ∀ {i : Nat} {o : Oper}, l[i]? = some o → i < l.length := fun hh => (List.getElem?_eq_some_iff.1 hh).1; refine ⟨h1, fun i o ho e he hb => ?_, fun i o hi ho => ?_, fun hm i hi => ?_, fun k o hk ho => ?_⟩
 ·have := h2 i (hlt ho); rw [ho] at this; simp only [List.all_eq_true, Bool.or_eq_true, Bool.not_eq_true', decide_eq_true_iff] at this; rcases this e (by simpa using he) with h6 | h6
  ·rw [h6] at hb; cases hb
  ·exact h6
 ·have := h3 i hi; rw [ho] at this; simp only at this; split at this
  ·rename_i d hd; refine ⟨d, hd, fun j oj hj hoj => ?_⟩; simp only [List.all_eq_true, List.mem_range] at this; have h6 := this j hj; rw [hoj] at h6; simp only [Option.bind_some] at h6; split at h6
   ·rename_i dj hdj; simp only [Bool.and_eq_true, bne_iff_ne, Bool.or_eq_true, Bool.not_eq_true', List.contains_eq_mem, decide_eq_false_iff_not] at h6; exact ⟨dj, hdj, h6.1, fun hm => h6.2.resolve_left (fun hn => hn hm)⟩
   ·cases h6
  ·cases this
 ·rcases h4 with h4 | h4
  ·omega
  ·obtain ⟨j, hj1, hj2, hj3⟩ := h4 i hi; split at hj3
   ·rename_i o ho; exact ⟨j, o, hj2, by omega, ho, hj3⟩
   ·cases hj3
 ·rcases h5 k (by have := hlt ho; omega) with h6 | h6
  ·have h7 := of_decide_eq_false h6; omega
  ·rw [ho] at h6; exact h6
theorem isAfter_iff {o : Oper} {j : Nat} : isAfter o j = true ↔ ∃ e ∈ o.after, Region.binds .any e = true ∧ e.on = j := by
 simp only [isAfter, List.any_eq_true, Bool.and_eq_true, beq_iff_eq]; constructor
 ·rintro ⟨e, h1, h2⟩; exact ⟨e, by simpa using h1, h2⟩
 ·rintro ⟨e, h1, h2⟩; exact ⟨e, by simpa using h1, h2⟩
/-! ### How many are to come -/
def cntF : List Bool → Nat
 | [] => 0
 | true :: r => cntF r
 | false :: r => cntF r + 1
theorem cntF_set : ∀ (l : List Bool) (i : Nat), l[i]? = some false → cntF (l.set i true) + 1 = cntF l
 | [], i, h => by simp at h
 | b :: r, 0, h => by simp at h; subst h; rfl
 | b :: r, i + 1, h => by
  have := cntF_set r i (by simpa using h); cases b <;> simp [cntF, this]
theorem cntF_pos : ∀ (l : List Bool), 0 < cntF l → ∃ i : Nat, l[i]? = some false ∧ ∀ j < i, l[j]? = some true
 | [], h => by simp [cntF] at h
 | false :: r, _ => ⟨0, rfl, fun j hj => by omega⟩
 | true :: r, h => by
  obtain ⟨i, h1, h2⟩ := cntF_pos r (by simpa [cntF] using h); refine ⟨i + 1, by simpa using h1, fun j hj => ?_⟩; cases j with
  | zero => rfl
  | succ j => simpa using h2 j (by omega)
theorem cntF_zero : ∀ (l : List Bool), cntF l = 0 → ∀ i : Nat, i < l.length → l[i]? = some true
 | [], _, i, hi => by simp at hi
 | false :: r, h, _, _ => by simp [cntF] at h
 | true :: r, h, 0, _ => rfl
 | true :: r, h, i + 1, hi => by simpa using cntF_zero r (by simpa [cntF] using h) i (by simpa using hi)
theorem cntF_replicate : ∀ n, cntF (List.replicate n false) = n
 | 0 => rfl
 | n + 1 => by simp [List.replicate_succ, cntF, cntF_replicate n]
end Go.AX

namespace Go.AX
theorem look_append_of_mem {s : Nat} {v : SV} : ∀ (l t : List (Nat × SV)), (l.map (·.1)).Nodup → (s, v) ∈ l → look (l ++ t) s = v
 | [], _, _, h => by simp at h
 | (j, u) :: r, t, hn, h => by
  simp only [List.map_cons, List.nodup_cons] at hn; simp only [List.cons_append, look]; rcases List.mem_cons.1 h with e | e
  ·cases e; simp
  ·have : j ≠ s := fun e2 => hn.1 (by subst e2; exact List.mem_map.2 ⟨_, e, rfl⟩); rw [if_neg this, look_append_of_mem r t hn.2 e]
theorem look_append_of_not_mem {s : Nat} : ∀ (l t : List (Nat × SV)), s ∉ l.map (·.1) → look (l ++ t) s = look t s
 | [], _, _ => rfl
 | (j, u) :: r, t, h => by
  simp only [List.map_cons, List.mem_cons, not_or] at h; simp only [List.cons_append, look]; rw [if_neg (fun e => h.1 e.symm), look_append_of_not_mem r t h.2]
theorem cntF_split : ∀ (l : List Bool) (k : Nat), k ≤ l.length → (∀ j : Nat, j < k → l[j]? = some true) → (∀ j : Nat, k ≤ j → j < l.length → l[j]? = some false) → k + cntF l = l.length
 | [], k, hk, _, _ => by simp at hk; subst hk; rfl
 | b :: r, 0, _, _, h2 => by
  have := h2 0 (Nat.le_refl _) (by simp); simp at this; subst this; have := cntF_split r 0 (Nat.zero_le _) (fun j hj => by omega) (fun j _ hj => by simpa using h2 (j + 1) (by omega) (by simpa using hj)); simp [cntF]; omega
 | b :: r, k + 1, hk, h1, h2 => by
  have := h1 0 (by omega); simp at this; subst this; have := cntF_split r k (by simpa using hk) (fun j hj => by simpa using h1 (j + 1) (by omega)) (fun j h3 hj => by simpa using h2 (j + 1) (by omega) (by simpa using hj)); simp [cntF]; omega
structure Inv (E : List (Nat × SV)) (base : List (Nat × SV)) (S : Nat → Bool) (t : List (Nat × SV)) : Prop where
  on : ∀ (i : Nat) (d : Nat) (v : SV), E[i]? = some (d, v) → look t d = if S i = true then v else .pv .bot
  off : ∀ s, s ∉ E.map (·.1) → look t s = look base s
theorem draw_suf {P : Program} {ops : Array Oper} {m : Nat} (hB : DrawOk ops.toList m) {Q : Exit → Act → World → Prop} {K : St → Prop} : ∀ (rest : List Oper) (k fuel : Nat) (listed : Array Bool) (st : St) (g : Gh) (a : Act) (w : World),
 rest = ops.toList.drop k → m ≤ k → k + fuel = ops.size → listed.size = ops.size → (∀ j, j < k → listed[j]? = some true) → (∀ j, k ≤ j → j < ops.size → listed[j]? = some false) →
 AOps P ops.toList K rest st → Sim g st a w → dstsOk g.N ops.toList = true → (∀ st' g' a' w', K st' → g.to g' → Sim g' st' a' w' → Q .normal a' w') → wpAny P .any ops Q fuel listed a w
 | rest, k, 0, listed, st, g, a, w, hr, hm, hf, hsz, h1, h2, hA, hs, hd, hQ => by
  have hnil : rest = [] := by rw [hr]; apply List.drop_eq_nil_of_le; simp; omega
  subst hnil; refine ⟨?_, hQ st g a w hA hs.refl_to hs⟩; rw [List.eq_nil_iff_forall_not_mem]; intro i hi; obtain ⟨h3, o, ho, _⟩ := mem_ready.1 hi; have hlt := (Array.getElem?_eq_some_iff.1 ho).1; have := h1 i (by omega); simp [this] at h3
 | [], k, fuel + 1, listed, st, g, a, w, hr, hm, hf, hsz, h1, h2, hA, hs, hd, hQ => by
  have := List.drop_eq_nil_iff.1 hr.symm; simp at this; omega
 | o :: rest, k, fuel + 1, listed, st, g, a, w, hr, hm, hf, hsz, h1, h2, hA, hs, hd, hQ => by
  have hk : k < ops.size := by omega
  have hdrop := List.drop_eq_getElem_cons (l := ops.toList) (i := k) (by simpa using hk); rw [← hr] at hdrop; simp only [List.cons.injEq] at hdrop; have hok : ops[k]? = some o := by rw [hdrop.1]; simp [hk]
  have hmem : o ∈ ops.toList := by rw [hdrop.1]; exact List.getElem_mem _
  have hdo : dstOk g.N o.dst := by
   have := List.all_eq_true.1 hd o hmem; unfold dstOk; split
   ·rename_i d hdd; rw [hdd] at this; simpa using this
   ·trivial
  have hready : k ∈ Region.ready .any ops listed := by
   rw [mem_ready]; refine ⟨by simp [h2 k (Nat.le_refl _) hk], o, hok, fun e he hb => ?_⟩; have := hB.back k o (by simpa using hok) e he hb; simp [h1 _ this]
  refine ⟨fun hn => (by rw [hn] at hready; cases hready), fun i hi => ?_⟩; have hik : i = k := by
   obtain ⟨h3, o', ho', hall⟩ := mem_ready.1 hi; have hlt := (Array.getElem?_eq_some_iff.1 ho').1; have hge : k ≤ i := by
    apply Nat.le_of_not_lt; intro hl; simp [h1 i hl] at h3
   apply Nat.le_antisymm _ hge; apply Nat.le_of_not_lt; intro hl; obtain ⟨e, he, hb, hon⟩ := isAfter_iff.1 (hB.chain (i - 1) o' (by omega) (by rw [Nat.sub_add_cancel (by omega)]; simpa using ho')); have := hall e he hb; rw [hon, Array.getD_eq_getD_getElem?, h2 (i - 1) (by omega) (by omega)] at this; cases this
  subst hik; unfold wpOp; rw [hok]; simp only [AOps] at hA; have := AStep_ok (ops := ops) o hA hs hdo (Q := Q) (K' := wpAny P .any ops Q fuel (listed.setIfInBounds i true))
   (fun st' g' a' w' hk' t' s' => draw_suf hB rest (i + 1) fuel _ st' g' a' w' hdrop.2 (by omega) (by omega) (by simp [hsz])
    (fun j hj => by
     rw [Array.getElem?_setIfInBounds]; split
     ·rename_i e; rw [if_pos (by rw [hsz]; omega)]
     ·exact h1 j (by omega))
    (fun j hj hj2 => by
     rw [Array.getElem?_setIfInBounds, if_neg (by omega)]; exact h2 j (by omega) hj2)
    hk' s' (by rw [t'.N]; exact hd) (fun st2 g2 a2 w2 k2 t2 s2 => hQ st2 g2 a2 w2 k2 (t'.trans t2) s2))
  simp only; split
  ·rename_i hw; rw [if_pos hw] at this; exact .inl this
  ·rename_i hw; rw [if_neg hw] at this; exact this
theorem nodup_reverse {α : Type} {l : List α} (h : l.Nodup) : l.reverse.Nodup := by
 unfold List.Nodup at *; rw [List.pairwise_reverse]; exact h.imp (fun hab e => hab e.symm)
theorem nodup_index {α : Type} {l : List α} (h : l.Nodup) {i j : Nat} {x : α} (hi : l[i]? = some x) (hj : l[j]? = some x) : i = j := by
 obtain ⟨h1, h2⟩ := List.getElem?_eq_some_iff.1 hi; obtain ⟨h3, h4⟩ := List.getElem?_eq_some_iff.1 hj; unfold List.Nodup at h; rw [List.pairwise_iff_getElem] at h; rcases Nat.lt_trichotomy i j with hlt | heq | hgt
 ·exact absurd (h2.trans h4.symm) (h i j h1 h3 hlt)
 ·exact heq
 ·exact absurd (h4.trans h2.symm) (h j i h3 h1 hgt)
theorem draw_pre {P : Program} {ops : Array Oper} {m : Nat} (hB : DrawOk ops.toList m) {Q : Exit → Act → World → Prop} {K : St → Prop} {base : St} {E : List (Nat × SV)} {q : Pos → Bool}
 (hEl : E.length = m) (hEn : (E.map (·.1)).Nodup) (hq : ∀ s, q (.slot s) = true ↔ s ∈ E.map (·.1)) (hbase : ∀ s, s ∈ E.map (·.1) → look base.t s = .pv .bot)
 (hE : ∀ i o, i < m → ops[i]? = some o → ∃ d r, o.dst = some d ∧ E[i]? = some (d, kq q r) ∧ HG P ops.toList ⟨restr (looks ops.toList o) (E.take i).reverse base.t, base.h⟩ o r)
 (hA : alK P (AOps P ops.toList K (ops.toList.drop m)) (ops.toList.take m) ⟨E.reverse ++ base.t, base.h⟩) {g0 : Gh} (hQ : ∀ st' g' a' w', K st' → g0.to g' → Sim g' st' a' w' → Q .normal a' w') :
 ∀ (fuel : Nat) (listed : Array Bool) (t : List (Nat × SV)) (cf : Nat → Option (Nat × Array Value × TypeId)) (g : Gh) (a : Act) (w : World), Out g0 g a cf → (∀ (i : Nat) (o : Oper) d t, listed[i]? = some true → ops[i]? = some o → alOf o = some (d, t) → ∃ c z, cf d = some (c, z, t) ∧ zeroOf P t z) → (∀ d, cf d ≠ none → ∃ (i : Nat) (o : Oper), ∃ t, listed[i]? = some true ∧ ops[i]? = some o ∧ alOf o = some (d, t)) → listed.size = ops.size → cntF listed.toList = fuel → (∀ i : Nat, listed[i]? = some true → i < m) →
  (∀ (i : Nat) (o : Oper), listed[i]? = some true → ops[i]? = some o → ∀ e ∈ o.after, Region.binds .any e = true → listed[e.on]? = some true) → Inv E base.t (fun i => listed.getD i false) t → Sim g ⟨t, base.h⟩ a w →
  dstsOk g.N ops.toList = true → wpAny P .any ops Q fuel listed a w := by
 have hml : m ≤ ops.size := by simpa using hB.le
 have hall : ∀ {listed : Array Bool} {t : List (Nat × SV)}, (∀ i, i < m → listed[i]? = some true) → Inv E base.t (fun i => listed.getD i false) t → ∀ s, look (E.reverse ++ base.t) s = look t s := by
  intro listed t hl hI s; have hn : ((E.reverse).map (·.1)).Nodup := by rw [List.map_reverse]; exact nodup_reverse hEn
  by_cases hm : s ∈ E.map (·.1)
  ·obtain ⟨p, hp, he⟩ := List.mem_map.1 hm; obtain ⟨d, v⟩ := p; simp only at he; subst he; rw [look_append_of_mem _ _ hn (List.mem_reverse.2 hp)]; obtain ⟨i, hi⟩ := List.mem_iff_getElem?.1 hp; have := hI.on i d v hi; rw [this]; have hlt : i < m := by rw [← hEl]; exact (List.getElem?_eq_some_iff.1 hi).1
   simp [hl i hlt]
  ·rw [look_append_of_not_mem _ _ (by rw [List.map_reverse, List.mem_reverse]; exact hm)]; exact (hI.off s hm).symm
 have halm : ∀ {o : Oper} {d : Nat} {t : TypeId}, alOf o = some (d, t) → o.dst = some d := fun h => alOf_dst h; have hnd : (((ops.toList.take m).filterMap alOf).map (·.1)).Nodup := by
  unfold List.Nodup; rw [List.pairwise_map, List.pairwise_filterMap, List.pairwise_iff_getElem]; intro i j hi hj hij p hp p' hp'; have hi' : i < m := by simp at hi; omega
  have hj' : j < m := by simp at hj; omega
  obtain ⟨d, h1, h2⟩ := hB.dst j _ hj' (by rw [← List.getElem?_take_of_lt hj']; exact List.getElem?_eq_getElem hj); obtain ⟨d', h3, h4, _⟩ := h2 i _ hij (by rw [← List.getElem?_take_of_lt hi']; exact List.getElem?_eq_getElem hi); rw [halm hp'] at h1; cases h1; rw [halm hp] at h3; cases h3; exact h4
 have hfin : ∀ {listed : Array Bool} {t : List (Nat × SV)} {cf : Nat → Option (Nat × Array Value × TypeId)} {g : Gh} {a : Act} {w : World}, Out g0 g a cf → (∀ (i : Nat) (o : Oper) d t, listed[i]? = some true → ops[i]? = some o → alOf o = some (d, t) → ∃ c z, cf d = some (c, z, t) ∧ zeroOf P t z) → (∀ d, cf d ≠ none → ∃ (i : Nat) (o : Oper), ∃ t, listed[i]? = some true ∧ ops[i]? = some o ∧ alOf o = some (d, t)) →
  (∀ i, i < m → listed[i]? = some true) → (∀ i : Nat, listed[i]? = some true → i < m) → Inv E base.t (fun i => listed.getD i false) t → Sim g ⟨t, base.h⟩ a w → dstsOk g.N ops.toList = true → ∃ g' st', AOps P ops.toList K (ops.toList.drop m) st' ∧ g0.to g' ∧ Sim g' st' a w := by
  intro listed t cf g a w hout hon hcov hl hlm hI hs hd; refine alK_ok (ops.toList.take m) ⟨E.reverse ++ base.t, base.h⟩ g cf hout (hs.same rfl (hall hl hI)) (fun o ho d t hal => ?_) (fun d hd' => ?_) hnd hA
  ·obtain ⟨i, hi⟩ := List.mem_iff_getElem?.1 ho; have him : i < m := by have := (List.getElem?_eq_some_iff.1 hi).1; simp at this; omega
   rw [List.getElem?_take_of_lt him] at hi; refine ⟨?_, hon i o d t (hl i him) (by simpa using hi) hal⟩; have := List.all_eq_true.1 hd o (List.mem_of_getElem? hi); rw [halm hal] at this; simpa using this
  ·obtain ⟨i, o, t, h1, h2, h3⟩ := hcov d hd'; refine ⟨o, ?_, t, h3⟩; have := hlm i h1; exact List.mem_of_getElem? (i := i) (by rw [List.getElem?_take_of_lt this]; simpa using h2)
 intro fuel
 induction fuel with
 | zero =>
  intro listed t cf g a w hout hon hcov hsz hcnt hlm hdc hI hs hd; have hl : ∀ i, i < ops.size → listed[i]? = some true := fun i hi => by
   have := cntF_zero _ hcnt i (by simpa [hsz] using hi); simpa using this
  have hmn : m = ops.size := by
   apply Nat.le_antisymm hml; apply Nat.le_of_not_lt; intro hlt; have := hlm m (hl m hlt); omega
  obtain ⟨g', st', hk, ht, hs2⟩ := hfin hout hon hcov (fun i hi => hl i (by omega)) hlm hI hs hd; rw [hmn, show ops.toList.drop ops.size = [] from by apply List.drop_eq_nil_of_le; simp] at hk; refine ⟨?_, hQ _ g' a w hk ht hs2⟩; rw [List.eq_nil_iff_forall_not_mem]; intro i hi; obtain ⟨h3, o, ho, _⟩ := mem_ready.1 hi; have hlt := (Array.getElem?_eq_some_iff.1 ho).1; simp [hl i hlt] at h3
 | succ fuel ih =>
  intro listed t cf g a w hout hon hcov hsz hcnt hlm hdc hI hs hd; refine ⟨fun hn => ?_, fun i hi => ?_⟩
  ·exfalso; obtain ⟨i, hi1, hi2⟩ := cntF_pos listed.toList (by omega); have hil : i < ops.size := by rw [← hsz]; simpa using (List.getElem?_eq_some_iff.1 hi1).1
   have : i ∈ Region.ready .any ops listed := by
    rw [mem_ready]; refine ⟨by rw [Array.getElem?_toList] at hi1; simp [hi1], ops[i], by simp [hil], fun e he hb => ?_⟩; have h5 := hB.back i ops[i] (by simp [hil]) e he hb; have h6 := hi2 _ h5; rw [Array.getElem?_toList] at h6; simp [h6]
   rw [hn] at this; cases this
  ·obtain ⟨h3, o, ho, hdeps⟩ := mem_ready.1 hi; have hil := (Array.getElem?_eq_some_iff.1 ho).1; have hif : listed[i]? = some false := by
    have : i < listed.size := by rw [hsz]; exact hil
    simp only [Array.getD_eq_getD_getElem?, Array.getElem?_eq_getElem this, Option.getD_some] at h3; rw [Array.getElem?_eq_getElem this, h3]
   have hdeps' : ∀ e ∈ o.after, Region.binds .any e = true → listed[e.on]? = some true := fun e he hb => by
    have := hdeps e he hb; rw [Array.getD_eq_getD_getElem?] at this; cases h5 : listed[e.on]? with
    | none => rw [h5] at this; cases this
    | some b => rw [h5] at this; simp at this; rw [this]
   have hcnt' : cntF (listed.setIfInBounds i true).toList = fuel := by
    have := cntF_set listed.toList i (by simpa using hif); rw [Array.toList_setIfInBounds]; omega
   have hset : ∀ j, (listed.setIfInBounds i true)[j]? = if i = j then some true else listed[j]? := fun j => by
    rw [Array.getElem?_setIfInBounds]; split
    ·rename_i e; rw [if_pos (by rw [hsz]; exact hil)]
    ·rfl
   by_cases him : i < m
   ·obtain ⟨d, r, hdst, hEi, hQG⟩ := hE i o him ho; have hdm : d ∈ E.map (·.1) := List.mem_map.2 ⟨_, List.mem_of_getElem? hEi, rfl⟩; obtain ⟨d', hd', hprev⟩ := hB.dst i o him (by simpa using ho); rw [hdst] at hd'; cases hd'; have hR : ∀ s, look (restr (looks ops.toList o) (E.take i).reverse base.t) s = look t s ∨ look (restr (looks ops.toList o) (E.take i).reverse base.t) s = .pv .bot := by
     intro s; rw [look_restr]; by_cases hm : s ∈ E.map (·.1)
     ·split
      ·rename_i hL; have hn : (((E.take i).reverse).map (·.1)).Nodup := by
        rw [List.map_reverse]; exact nodup_reverse (hEn.sublist ((List.take_sublist i E).map _))
       by_cases hm2 : s ∈ (E.take i).reverse.map (·.1)
       ·obtain ⟨p, hp, he⟩ := List.mem_map.1 hm2; obtain ⟨s', v⟩ := p; simp only at he; subst he; rw [look_append_of_mem _ _ hn hp]; rw [List.mem_reverse] at hp; obtain ⟨j, hj⟩ := List.mem_iff_getElem?.1 hp; rw [List.getElem?_take] at hj; split at hj
        ·rename_i hji; obtain ⟨oj, hoj⟩ : ∃ oj, ops[j]? = some oj := ⟨ops[j]'(by omega), by simp [show j < ops.size by omega]⟩; obtain ⟨dj, hdj, _, hlk⟩ := hprev j oj hji (by simpa using hoj); obtain ⟨dj', rj, e1, e2, _⟩ := hE j oj (by omega) hoj; rw [hdj] at e1; cases e1; rw [hj] at e2; cases e2; have hlk' := hlk (by simpa using hL); obtain ⟨e, he, hb, hon⟩ := isAfter_iff.1 hlk'; have hlj := hdeps' e he hb; rw [hon] at hlj; left; rw [hI.on j _ _ hj]; simp [hlj]
        ·cases hj
       ·right; rw [look_append_of_not_mem _ _ hm2]; exact hbase s hm
      ·right; exact hbase s hm
     ·left; rw [hI.off s hm]; split
      ·apply look_append_of_not_mem; intro hc; apply hm; rw [List.map_reverse, List.mem_reverse] at hc; obtain ⟨p, hp, he⟩ := List.mem_map.1 hc; exact List.mem_map.2 ⟨p, List.mem_of_mem_take hp, he⟩
      ·rfl
    have hsR := hs.weak (st' := ⟨restr (looks ops.toList o) (E.take i).reverse base.t, base.h⟩) rfl hR; have hdo : d < g.N := by
     have := List.all_eq_true.1 hd o (by rw [← Array.mem_def]; exact Array.mem_of_getElem? ho); rw [hdst] at this; simpa using this
    have hnext : ∀ (g' : Gh) (a' : Act) (w' : World) (cf' : Nat → Option (Nat × Array Value × TypeId)), Sim g' ⟨(d, kq q r) :: t, base.h⟩ a' w' → Out g0 g' a' cf' → g'.N = g.N →
     (∀ (i2 : Nat) (o : Oper) d t, (listed.setIfInBounds i true)[i2]? = some true → ops[i2]? = some o → alOf o = some (d, t) → ∃ c z, cf' d = some (c, z, t) ∧ zeroOf P t z) →
     (∀ d, cf' d ≠ none → ∃ (i2 : Nat) (o : Oper), ∃ t, (listed.setIfInBounds i true)[i2]? = some true ∧ ops[i2]? = some o ∧ alOf o = some (d, t)) → wpAny P .any ops Q fuel (listed.setIfInBounds i true) a' w' := by
     intro g' a' w' cf' hput hout' hN' hon' hcov'; refine ih (listed.setIfInBounds i true) ((d, kq q r) :: t) cf' g' a' w' hout' hon' hcov' (by simp [hsz]) hcnt' (fun j hj => ?_) (fun j oj hj hoj e he hb => ?_) ?_ hput (by rw [hN']; exact hd)
     ·rw [hset] at hj; split at hj
      ·rename_i e; omega
      ·exact hlm j hj
     ·rw [hset] at hj ⊢; split at hj
      ·rename_i e1; subst e1; rw [ho] at hoj; cases hoj; split
       ·rfl
       ·exact hdeps' e he hb
      ·split
       ·rfl
       ·exact hdc j oj hj hoj e he hb
     ·refine ⟨fun j dj vj hj => ?_, fun s hs' => ?_⟩
      ·simp only [look]; by_cases hji : i = j
       ·subst hji; rw [hEi] at hj; cases hj; simp [hset]
       ·have hne : d ≠ dj := by
         intro e1; subst e1; exact hji (nodup_index hEn (x := d) (by rw [List.getElem?_map, hEi]; rfl) (by rw [List.getElem?_map, hj]; rfl))
        rw [if_neg hne, hI.on j dj vj hj]; simp only [Array.getD_eq_getD_getElem?, hset, if_neg hji]
      ·simp only [look]; rw [if_neg (fun e => hs' (by rw [← e]; exact hdm))]; exact hI.off s hs'
    have hdfresh : cf d = none := by
     cases hcd : cf d with
     | none => rfl
     | some x =>
      obtain ⟨j, oj, tj, h1, h2, h3⟩ := hcov d (by rw [hcd]; exact fun hh => by cases hh); have hjm := hlm j h1; obtain ⟨dj, rj, e1, e2, _⟩ := hE j oj hjm h2; rw [halm h3] at e1; cases e1; have : i = j := nodup_index hEn (x := d) (by rw [List.getElem?_map, hEi]; rfl) (by rw [List.getElem?_map, e2]; rfl); subst this; rw [hif] at h1; cases h1
    have hputs : ∀ (v : Value) (d' : Nat), d' ≠ d → (a.put (some d) v).tmps.getD d' undef = a.tmps.getD d' undef := fun v d' hne => by
     simp only [Act.put, Array.getD_eq_getD_getElem?, Array.getElem?_setIfInBounds]; rw [if_neg (fun e => hne e.symm)]
    unfold wpOp; rw [ho]; unfold HG at hQG; split at hQG
    ·rename_i p hal; obtain ⟨d2, T⟩ := p; obtain ⟨hgd, hr⟩ := hQG; subst hr; have hd2 := halm hal; rw [hdst] at hd2; cases hd2; have hmem : o ∈ ops.toList.take m := List.mem_of_getElem? (i := i) (by rw [List.getElem?_take_of_lt him]; simpa using ho); obtain ⟨zs, hz⟩ := alK_zero _ _ hA o hmem d T hal; obtain ⟨_, z, hzo, hrun⟩ := alloc_run hal hz; obtain ⟨_, _, hs2⟩ := hs.allocF z T; simp only; rw [if_pos (by simp [Region.wanted, hgd])]; refine .inl ?_; unfold Oper.wp; rw [hrun a w]; show wpAny P .any ops Q fuel (listed.setIfInBounds i true) (a.put o.dst _) _; rw [hdst]; have hsp : d < a.tmps.size := by rw [hs.size]; exact hdo
     have hvp : (a.put (some d) (.pointer (some ⟨w.heap.size, 0, none⟩))).tmps.getD d undef = .pointer (some ⟨w.heap.size, 0, none⟩) := by
      simp [Act.put, Array.getD_eq_getD_getElem?, Array.getElem?_setIfInBounds, hsp]
     refine hnext _ _ _ _ (Sim.put hs2 hdo (sv := .pv .bot) ⟨rfl, trivial⟩ trivial rfl) (hout.alloc hs z T hdfresh hvp (hputs _)) rfl (fun i2 o2 d2 t2 h1 h2 h3 => ?_) (fun d2 h1 => ?_)
     ·rw [hset] at h1; split at h1
      ·rename_i e; subst e; rw [ho] at h2; cases h2; rw [hal] at h3; cases h3; exact ⟨w.heap.size, z, if_pos rfl, hzo⟩
      ·obtain ⟨c, z', h5, h6⟩ := hon i2 o2 d2 t2 h1 h2 h3; have : d2 ≠ d := fun e => by rw [e, hdfresh] at h5; cases h5
       exact ⟨c, z', (if_neg this).trans h5, h6⟩
     ·by_cases e : d2 = d
      ·subst e; exact ⟨i, o, T, by rw [hset, if_pos rfl], ho, hal⟩
      ·simp only [if_neg e] at h1; obtain ⟨j, oj, tj, h5, h6, h7⟩ := hcov d2 h1; exact ⟨j, oj, tj, by rw [hset]; split; rfl; exact h5, h6, h7⟩
    rename_i hal; have key := QG_ok (ops := ops) o hQG hsR (Q := Q) (K' := wpAny P .any ops Q fuel (listed.setIfInBounds i true)) (fun v J w2 _ s2 f2 a2 => by
     have hs2 := (s2 g _ rfl hs).1; have t2 := (s2 g _ rfl hs).2; have hput : Sim { g with I := J } ⟨(d, kq q r) :: t, base.h⟩ (a.put (some d) v) w2 := by
      refine Sim.put hs2 (by rw [t2.N]; exact hdo) ?_ ?_ (kq_cases q r).1
      ·rcases (kq_cases q r).2 with h5 | ⟨h5, h6⟩
       ·rw [h5]; exact ⟨rfl, trivial⟩
       ·rw [h5]; exact f2
      ·rcases (kq_cases q r).2 with h5 | ⟨h5, h6⟩
       ·rw [h5]; trivial
       ·rw [h5]; refine AlOk.congrA (q := q) (fun p hp hown => ?_) h6 a2; refine ⟨?_, rfl⟩; cases p with
        | cell b k => rfl
        | slot s =>
         have hns : s ∉ E.map (·.1) := fun hc => by rw [(hq s).2 hc] at hp; cases hp
         simp only [posGet]; rw [hI.off s hns, look_restr]; split
         ·symm; apply look_append_of_not_mem; intro hc; apply hns; rw [List.map_reverse, List.mem_reverse] at hc; obtain ⟨p, hp, he⟩ := List.mem_map.1 hc; exact List.mem_map.2 ⟨p, List.mem_of_mem_take hp, he⟩
         ·rfl
     rw [hdst]; refine hnext _ _ w2 cf hput (hout.step t2 fun d' hd' => hputs v d' (fun e => hd' (by rw [e]; exact hdfresh))) rfl (fun i2 o2 d2 t3 h1 h2 h3 => ?_) (fun d2 h1 => ?_)
     ·rw [hset] at h1; split at h1
      ·rename_i e; subst e; rw [ho] at h2; cases h2; rw [hal] at h3; cases h3
      ·exact hon i2 o2 d2 t3 h1 h2 h3
     ·obtain ⟨j, oj, tj, h5, h6, h7⟩ := hcov d2 h1; exact ⟨j, oj, tj, by rw [hset]; split; rfl; exact h5, h6, h7⟩)
    simp only; split
    ·rename_i hw; rw [if_pos hw] at key; exact .inl key
    ·rename_i hw; rw [if_neg hw] at key; exact key
   ·have him' : i = m := by
     apply Nat.le_antisymm _ (Nat.le_of_not_lt him); apply Nat.le_of_not_lt; intro hl; obtain ⟨e, he, hb, hon⟩ := isAfter_iff.1 (hB.chain (i - 1) o (by omega) (by rw [Nat.sub_add_cancel (by omega)]; simpa using ho)); have := hlm _ (hdeps' e he hb); omega
    subst him'; have hpre : ∀ k j : Nat, i ≤ j + k → j < i → listed[j]? = some true := by
     intro k
     induction k with
     | zero => intro j h1 h2; omega
     | succ k ihk =>
      intro j h1 h2; obtain ⟨j', o', hj1, hj2, hj3, hj4⟩ := hB.up (by simpa using hil) j h2; obtain ⟨e, he, hb, hon⟩ := isAfter_iff.1 hj4; rcases Nat.lt_or_ge j' i with hlt | hge
      ·have := hdc j' o' (ihk j' (by omega) hlt) (by simpa using hj3) e he hb; rw [hon] at this; exact this
      ·have : j' = i := by omega
       subst this; have hj3' : ops[j']? = some o' := by simpa using hj3
       rw [ho] at hj3'; cases hj3'; have := hdeps' e he hb; rw [hon] at this; exact this
    obtain ⟨g', st', hk, ht, hs2⟩ := hfin hout hon hcov (fun j hj => hpre i j (by omega) hj) hlm hI hs hd; have hpost : ∀ j : Nat, i ≤ j → j < ops.size → listed[j]? = some false := fun j hj hj2 => by
     have hjl : j < listed.size := by omega
     cases hb : listed[j] with
     | false => rw [Array.getElem?_eq_getElem hjl, hb]
     | true => have := hlm j (by rw [Array.getElem?_eq_getElem hjl, hb]); omega
    have hfu : i + (fuel + 1) = ops.size := by
     have := cntF_split listed.toList i (by simp [hsz]; omega) (fun j hj => by simpa using hpre i j (by omega) hj) (fun j h1 h2 => by simpa using hpost j h1 (by simpa [hsz] using h2)); rw [hcnt] at this; simpa [hsz] using this
    have := draw_suf hB (Q := Q) (K := K) (ops.toList.drop i) i (fuel + 1) listed _ g' a w rfl (Nat.le_refl _) hfu hsz (fun j hj => hpre i j (by omega) hj) hpost hk hs2 (by rw [ht.N, ← hout.to.N]; exact hd) (fun st2 g2 a2 w2 k2 t2 s2 => hQ st2 g2 a2 w2 k2 (ht.trans t2) s2); exact this.2 i hi
theorem mem_dstsOf {l : List Oper} {s : Nat} : s ∈ dstsOf l ↔ ∃ (i : Nat) (o : Oper), l[i]? = some o ∧ o.dst = some s := by
 simp only [dstsOf, List.mem_filterMap]; constructor
 ·rintro ⟨o, h1, h2⟩; obtain ⟨i, hi⟩ := List.mem_iff_getElem?.1 h1; exact ⟨i, o, hi, h2⟩
 ·rintro ⟨i, o, h1, h2⟩; exact ⟨o, List.mem_of_getElem? h1, h2⟩
theorem Sim.cast_I {g : Gh} {J : Nat → Option Obj} {st : St} {a : Act} {w : World} (h : Sim { g with I := J } st a w) (hJ : ∀ c, g.I c = J c) : Sim g st a w := by
 have : J = g.I := funext fun c => (hJ c).symm; subst this; exact h
theorem ADraw_wp {P : Program} {ops : Array Oper} {id : Nat} {st : St} {K : St → Prop} (hmo : P.follows .mixedOrders = true) (hB : drawB ops.toList (preLen ops.toList) = true) (h : ADraw P ops.toList K st) {g : Gh} {a : Act} {w : World} (hs : Sim g st a w)
 (hd : dstsOk g.N ops.toList = true) {Q : Exit → Act → World → Prop} (hQ : ∀ st' g' a' w', K st' → g.to g' → Sim g' st' a' w' → Q .normal a' w') : (Code.region id ops true).wp P Q a w := by
 refine wp_region_any hmo ?_; have hB' := drawB_ok hB; unfold ADraw at h; obtain ⟨E, hEl, hK, hE⟩ := AQ_all _ _ h; have hm : (ops.toList.take (preLen ops.toList)).length = preLen ops.toList := by rw [List.length_take]; exact Nat.min_eq_left hB'.le
 rw [hm] at hEl; have hpre : ∀ (i : Nat) (o : Oper), i < preLen ops.toList → ops[i]? = some o → (ops.toList.take (preLen ops.toList))[i]? = some o := fun i o hi ho => by
  rw [List.getElem?_take, if_pos hi]; simpa using ho
 have hds : ∀ s, s ∈ E.map (·.1) ↔ s ∈ dstsOf (ops.toList.take (preLen ops.toList)) := by
  intro s; rw [mem_dstsOf]; constructor
  ·intro hs'; obtain ⟨p, hp, he⟩ := List.mem_map.1 hs'; obtain ⟨i, hi⟩ := List.mem_iff_getElem?.1 hp; have hlt : i < preLen ops.toList := by rw [← hEl]; exact (List.getElem?_eq_some_iff.1 hi).1
   have hlt2 : i < (ops.toList.take (preLen ops.toList)).length := by rw [hm]; exact hlt
   obtain ⟨d, r, e1, e2, _⟩ := hE i _ (List.getElem?_eq_getElem hlt2); rw [hi] at e2; cases e2; exact ⟨i, _, List.getElem?_eq_getElem hlt2, by rw [e1]; simp at he; rw [he]⟩
  ·rintro ⟨i, o, h1, h2⟩; obtain ⟨d, r, e1, e2, _⟩ := hE i o h1; rw [h2] at e1; cases e1; exact List.mem_map.2 ⟨_, List.mem_of_getElem? e2, rfl⟩
 have hnd : (E.map (·.1)).Nodup := by
  unfold List.Nodup; rw [List.pairwise_iff_getElem]; intro i j hi hj hij e; have hi' : i < preLen ops.toList := by rw [← hEl]; simpa using hi
  have hj' : j < preLen ops.toList := by rw [← hEl]; simpa using hj
  have hnl : j < ops.size := Nat.lt_of_lt_of_le hj' (by simpa using hB'.le); have hoi : ops[i]? = some (ops[i]'(by omega)) := by simp [show i < ops.size by omega]
  have hoj : ops[j]? = some ops[j] := by simp [hnl]
  obtain ⟨d, h1, h2⟩ := hB'.dst j ops[j] hj' (by rw [Array.getElem?_toList]; exact hoj); obtain ⟨d', h3, h4, _⟩ := h2 i _ hij (by rw [Array.getElem?_toList]; exact hoi); obtain ⟨dj, rj, e1, e2, _⟩ := hE j _ (hpre j _ hj' hoj); obtain ⟨di, ri, e3, e4, _⟩ := hE i _ (hpre i _ hi' hoi); rw [h1] at e1; cases e1; rw [h3] at e3; cases e3; apply h4; have g1 : (E.map (·.1))[i]? = some d' := by rw [List.getElem?_map, e4]; rfl
  have g2 : (E.map (·.1))[j]? = some d := by rw [List.getElem?_map, e2]; rfl
  rw [List.getElem?_eq_getElem hi] at g1; rw [List.getElem?_eq_getElem hj] at g2; cases g1; cases g2; exact e
 let base : St := ⟨bots (dstsOf (ops.toList.take (preLen ops.toList))) (killL (qDst (dstsOf (ops.toList.take (preLen ops.toList)))) st.t), st.h⟩
 have hlb : ∀ s, look base.t s = look st.t s ∨ look base.t s = .pv .bot := by
  intro s; show look (bots _ _) s = _ ∨ look (bots _ _) s = _; rw [look_bots]; split
  ·exact .inr rfl
  ·rw [look_kill]; rcases killS_cases (qDst (dstsOf (ops.toList.take (preLen ops.toList)))) (look st.t s) with e | ⟨e, _⟩
   ·exact .inr e
   ·exact .inl e
 have hs0 : Sim g base a { w with drawn := w.drawn + 1 } := by
  have h1 : Sim g st a { w with drawn := w.drawn + 1 } := (hs.grown (w' := { w with drawn := w.drawn + 1 }) rfl (Nat.le_refl _) (fun _ _ => rfl) g.I hs.I).1.cast_I (fun c => by
   show g.I c = if w.heap.size ≤ c then g.I c else g.I c; split <;> rfl)
  exact h1.weak rfl hlb
 refine draw_pre (Q := Q) (K := K) (m := preLen ops.toList) (base := base) (E := E) (q := qDst (dstsOf (ops.toList.take (preLen ops.toList)))) hB' hEl hnd ?_ ?_ ?_ (by simpa [ADrawK] using hK) hQ ops.size (Array.replicate ops.size false) base.t (fun _ => none) g a _ (Out.start hs0) ?_ (fun _ h => absurd rfl h) (by simp) (by simpa using cntF_replicate _)
  ?_ ?_ ?_ hs0 hd
 ·intro s; rw [hds]; simp [qDst]
 ·intro s hs'; show look (bots _ _) s = _; rw [look_bots, if_pos ((hds s).1 hs')]
 ·intro i o hi ho; obtain ⟨d, r, e1, e2, e3⟩ := hE i o (hpre i o hi ho); exact ⟨d, r, e1, e2, by simpa using e3⟩
 ·intro i o d t hi; rw [Array.getElem?_replicate] at hi; split at hi <;> cases hi
 ·intro i hi; rw [Array.getElem?_replicate] at hi; split at hi <;> cases hi
 ·intro i o hi; rw [Array.getElem?_replicate] at hi; split at hi <;> cases hi
 ·refine ⟨fun i d v hi => ?_, fun s _ => rfl⟩; show look (bots _ _) d = _; rw [look_bots, if_pos ((hds d).1 (List.mem_map.2 ⟨_, List.mem_of_getElem? hi, rfl⟩))]; split
  ·rename_i hc; rw [Array.getD_eq_getD_getElem?, Array.getElem?_replicate] at hc; split at hc <;> cases hc
  ·rfl
end Go.AX

namespace Go.AX
/-! ### What looks at no memory -/
def stillB (P : Program) : Op → Bool
 | .move _ | .assign _ | .extract _ _ | .unOp _ _ _ | .field _ _ _ | .fieldAddr _ _ _ | .indexAddr _ _ _ | .slice _ _ _ _ none | .pick _ _ _ | .nilCheck _ => true
 | .convert s _ _ => !byteSl P s
 | .binOp _ t _ _ _ => match tk P t with
  | .int | .bool | .string | .ptr => true
  | _ => false
 | .call c => match c.callee, c.args.toList, c.argTypes.toList with
  | .builtin .len, [_], [t] => match tk P t with
   | .slice | .string => true
   | _ => false
  | _, _, _ => false
 | _ => false
def OneVal (P : Program) (o : Oper) (a : Act) : Prop := ∃ v, ∀ w' : World, (execOp a.eval o).run P w' = .ok (.value v) w'
theorem PopS.one {P : Program} {st : St} {o : Oper} {r : SV × Prop} (h : PopS P st o r) {g : Gh} {a : Act} {w : World} (hs : Sim g st a w) (hr : r.2) : OneVal P o a := by
 obtain ⟨v, h1, _⟩ := h g a w hs hr; exact ⟨v, h1⟩
theorem one_of_pop {P : Program} {st : St} (o : Oper) (hb : stillB P o.op = true) (h : (pop P st o.op).2) {g : Gh} {a : Act} {w : World} (hs : Sim g st a w) : OneVal P o a := by
 cases hop : o.op
 case move x => rw [hop] at h; exact (mvV_ok o x (.inl hop)).one hs h
 case assign x => rw [hop] at h; exact (mvV_ok o x (.inr hop)).one hs h
 case pick c x y => rw [hop] at h; exact (pickV_ok o c x y hop).one hs h
 case unOp op t x => rw [hop] at h; exact (unV_ok o op t x hop).one hs h
 case fieldAddr t x f => rw [hop] at h; exact (fieldV_ok o t f x hop).one hs h
 case indexAddr t x i => rw [hop] at h; exact (idxV_ok o t x i hop).one hs h
 case extract x i => rw [hop] at h; exact (extV_ok o x i hop).one hs h
 case field t x f => rw [hop] at h; exact (partV_ok o t x f hop).one hs h
 case convert s d x => rw [hop] at h; exact (cvtV_ok o s d x hop).one hs h
 case nilCheck x => rw [hop] at h; exact (ckV_ok o x hop).one hs h
 case slice t x lo hi mx =>
  rw [hop] at h hb; cases mx with
  | none => exact (cutV_ok o t x lo hi hop).one hs h
  | some m => cases hb
 case binOp op t x y u =>
  rw [hop] at h hb; simp only [stillB] at hb; simp only [pop, binV] at h; cases hm2 : mapNil st op x y with
  | some b => rw [hm2] at h; rw [h.2] at hb; cases hb
  | none =>
   rw [hm2] at h; cases ht : tk P t with
   | int => simp only [ht] at h; exact (binI_ok o op t u x y hop).one hs h
   | bool => simp only [ht] at h; exact (binB_ok o op t u x y hop (tk_bool ht)).one hs h
   | string => simp only [ht] at h; exact (binS_ok o op t u x y hop).one hs h
   | ptr => simp only [ht] at h; obtain ⟨e, he⟩ := tk_ptr ht; exact (binP_ok o op t u e x y hop he).one hs h
   | _ => rw [ht] at hb; cases hb
 case call c =>
  rw [hop] at h hb; simp only [stillB] at hb; split at hb
  ·rename_i x t h1 h2 h3; have hc : c = { callee := .builtin .len, args := #[x], argTypes := #[t] } := by
    cases c with
    | mk a b d =>
     simp only at h1 h2 h3; rw [h1, show b = #[x] from by rw [← Array.toArray_toList (xs := b), h2], show d = #[t] from by rw [← Array.toArray_toList (xs := d), h3]]
   simp only [pop, callV, h1, h2, h3] at h; rw [hc] at hop; cases ht : tk P t with
   | slice => simp only [ht] at h; exact (lenSl_ok o t x hop).one hs h
   | string => simp only [ht] at h; exact (lenStr_ok o t x hop (tk_string ht)).one hs h
   | _ => rw [ht] at hb; cases hb
  ·cases hb
 all_goals (rw [hop] at hb; cases hb)
theorem one_of_AE {P : Program} {st : St} (o : Oper) (hb : stillB P o.op = true) {K : St → Prop} (h : AE P st o.op o.dst K) {g : Gh} {a : Act} {w : World} (hs : Sim g st a w) : OneVal P o a := by
 have hp : popK P st o.op o.dst K → OneVal P o a := fun h => one_of_pop o hb h.1 hs; cases hop : o.op
 case assign x => exact ⟨a.eval x, fun w' => by simp [execOp, hop]⟩
 case convert s t x =>
  rw [hop] at hb h hp; simp only [stillB, Bool.not_eq_true'] at hb; simp only [AE, hb] at h; exact hp h
 case binOp op t x y u =>
  have nil : ∀ yes, nilK P st t x yes o.dst K → False := fun yes h => by
   unfold nilK slSize at h; split at h
   ·rename_i e hs1; split at hs1
    ·rename_i el hu; rw [hop] at hb; simp [stillB, tk, hu] at hb
    ·cases hs1
   ·exact h
  rw [hop] at h hp; unfold AE at h; split at h <;> first | exact hp h | skip
  all_goals
   first
    | (rename_i he; cases he; done)
    | (rename_i he; injection he with e1 e2 e3 e4 e5; subst e1 e2 e3 e4 e5; exact (nil _ h).elim)
    | (rename_i he; rw [he] at hp; exact hp h)
 case call c =>
  rw [hop] at hb h hp; simp only [stillB] at hb; split at hb
  ·rename_i x t h1 h2 h3; unfold AE at h; simp only [h1] at h; exact hp h
  ·cases hb
 all_goals first
  | (rw [hop] at hb; cases hb; done)
  | (rw [hop] at h hp; exact hp h)
theorem wp_value {P : Program} {o : Oper} {a : Act} {w : World} {v : Value} (hv : ∀ w' : World, (execOp a.eval o).run P w' = .ok (.value v) w') {K : Act → World → Prop} {Q : Exit → Act → World → Prop} (h : o.wp P a w K Q) : K (a.put o.dst v) w := by
 unfold Oper.wp at h; rw [hv w] at h; exact h
theorem take_ok {P : Program} {ops : Array Oper} {st : St} (o : Oper) (hb : stillB P o.op = true) {K : St → Prop} (h : AStep P ops.toList o K st) {g : Gh} {a : Act} {w : World} (hs : Sim g st a w) (hd : dstOk g.N o.dst) :
 ∃ v, Yields P ops o v a ∧ ∃ st' g', K st' ∧ g.to g' ∧ Sim g' st' (a.put o.dst v) w := by
 have key := AStep_ok (ops := ops) o h hs hd (K' := fun a' w' => ∃ st' g', K st' ∧ g.to g' ∧ Sim g' st' a' w') (Q := fun _ _ _ => False) fun st' g' a' w' h1 h2 h3 => ⟨st', g', h1, h2, h3⟩; by_cases hw : Region.wanted o (yielded ops a.tmps) = true
 ·rw [if_pos hw] at key; have hone : OneVal P o a := by
   unfold AStep at h; split at h
   ·unfold AEx at h; split at h
    ·rename_i hop; rw [hop] at hb; cases hb
    ·exact one_of_AE o hb h hs
   ·rename_i j want hg; split at h
    ·rename_i d hgs; split at h
     ·rename_i Gd hc; have hG : Gd := (wanted_iff hs hg hgs hc).1 hw; have hag : AGp P st Gd o.op o.dst K → OneVal P o a := fun h => one_of_pop o hb (h.1 hG) hs; cases hop : o.op
      case call c =>
       rw [hop] at hb h hag; simp only [stillB] at hb; split at hb
       ·rename_i x t h1 h2 h3; unfold AG at h; simp only [h1] at h; exact hag h
       ·cases hb
      all_goals first
       | (rw [hop] at hb; cases hb; done)
       | (rw [hop] at h hag; exact hag h)
     ·exact h.elim
    ·exact h.elim
  obtain ⟨v, hv⟩ := hone; obtain ⟨st', g', h1, h2, h3⟩ := wp_value hv key; exact ⟨v, .inl ⟨hw, hv⟩, st', g', h1, h2, h3⟩
 ·rw [if_neg hw] at key; exact ⟨undef, .inr ⟨by simpa using hw, rfl⟩, key⟩
/-! ### Orders -/
inductive Sch where
  | done
  | take (i : Nat) (r : Sch)
  | fork (l : List (Nat × Sch))
mutual
def schB (P : Program) (ops : Array Oper) : Nat → Array Bool → Sch → Bool
  | _, listed, .done => (Region.ready .any ops listed).isEmpty
  | n + 1, listed, .take i r => (match ops[i]? with
    | some o => stillB P o.op && Region.free .any ops listed i
    | none => false) && (Region.ready .any ops listed).contains i && schB P ops n (listed.setIfInBounds i true) r
  | n + 1, listed, .fork l => (Region.ready .any ops listed == l.map (·.1)) && !l.isEmpty && schL P ops n listed l
  | _, _, _ => false
def schL (P : Program) (ops : Array Oper) : Nat → Array Bool → List (Nat × Sch) → Bool
  | _, _, [] => true
  | n, listed, (i, r) :: l => schB P ops n (listed.setIfInBounds i true) r && schL P ops n listed l
end
def AStepI (P : Program) (ops : List Oper) (i : Nat) (K : St → Prop) (st : St) : Prop :=
 match ops[i]? with
 | some o => AStep P ops o K st
 | none => False
mutual
def ASch (P : Program) (ops : List Oper) (K : St → Prop) : Sch → St → Prop
  | .done, st => K st
  | .take i r, st => AStepI P ops i (ASch P ops K r) st
  | .fork l, st => ASchL P ops K l st
def ASchL (P : Program) (ops : List Oper) (K : St → Prop) : List (Nat × Sch) → St → Prop
  | [], _ => True
  | (i, r) :: l, st => AStepI P ops i (ASch P ops K r) st ∧ ASchL P ops K l st
end
theorem dstsOk_get {N : Nat} {l : List Oper} (h : dstsOk N l = true) {i : Nat} {o : Oper} (hi : l[i]? = some o) : dstOk N o.dst := by
 have := List.all_eq_true.1 h o (List.mem_of_getElem? hi); unfold dstOk; split
 ·rename_i d hd; rw [hd] at this; simpa using this
 ·trivial
mutual
theorem ASch_ok {P : Program} {ops : Array Oper} {K : St → Prop} {Q : Exit → Act → World → Prop} (hsel : Region.noSelect ops = true) (hQp : ∀ c a w, ¬ Q (.panic c) a w) : ∀ (S : Sch) (n : Nat) (listed : Array Bool) (_ : schB P ops n listed S = true) {st : St} (_ : ASch P ops.toList K S st) {g : Gh} {a : Act} {w : World} (_ : Sim g st a w) (_ : dstsOk g.N ops.toList = true)
    (_ : ∀ st' g' a' w', K st' → g.to g' → Sim g' st' a' w' → Q .normal a' w'), wpAny P .any ops Q n listed a w
  | .done, n, listed, hb, st, h, g, a, w, hs, _, hQ => by
    have hb' : (Region.ready .any ops listed).isEmpty = true := by cases n <;> simpa [schB] using hb
    exact wpAny_done (List.isEmpty_iff.1 hb') (hQ st g a w h hs.refl_to hs) n
  | .take i r, 0, listed, hb, st, h, g, a, w, hs, hd, hQ => by simp [schB] at hb
  | .take i r, n + 1, listed, hb, st, h, g, a, w, hs, hd, hQ => by
    simp only [schB, Bool.and_eq_true] at hb
    obtain ⟨⟨hb1, hb2⟩, hb3⟩ := hb
    simp only [ASch, AStepI] at h
    cases ho : ops[i]? with
    | none => rw [ho] at hb1; cases hb1
    | some o =>
      rw [ho] at hb1
      rw [Array.getElem?_toList, ho] at h
      simp only [Bool.and_eq_true] at hb1
      obtain ⟨v, hy, st', g', h1, h2, h3⟩ := take_ok o hb1.1 h hs (dstsOk_get hd (by rw [Array.getElem?_toList]; exact ho))
      exact wpAny_take ho hsel hb1.2 hb2 (fun c a w hq => absurd hq (hQp c _ w)) hy (ASch_ok hsel hQp r n _ hb3 h1 h3 (by rw [h2.N]; exact hd) fun st2 g2 a2 w2 k2 t2 s2 => hQ st2 g2 a2 w2 k2 (h2.trans t2) s2)
  | .fork l, 0, listed, hb, st, h, g, a, w, hs, hd, hQ => by simp [schB] at hb
  | .fork l, n + 1, listed, hb, st, h, g, a, w, hs, hd, hQ => by
    simp only [schB, Bool.and_eq_true] at hb
    obtain ⟨⟨hb1, hb2⟩, hb3⟩ := hb
    simp only [ASch] at h
    have hr : Region.ready .any ops listed = l.map (·.1) := by simpa using hb1
    refine wpAny_all hr (fun e => ?_) fun i hi => ASchL_ok hsel hQp l n listed hb3 h hs hd hQ i hi
    cases l with
    | nil => simp at hb2
    | cons _ _ => cases e
theorem ASchL_ok {P : Program} {ops : Array Oper} {K : St → Prop} {Q : Exit → Act → World → Prop} (hsel : Region.noSelect ops = true) (hQp : ∀ c a w, ¬ Q (.panic c) a w) : ∀ (l : List (Nat × Sch)) (n : Nat) (listed : Array Bool) (_ : schL P ops n listed l = true) {st : St} (_ : ASchL P ops.toList K l st) {g : Gh} {a : Act} {w : World} (_ : Sim g st a w) (_ : dstsOk g.N ops.toList = true)
    (_ : ∀ st' g' a' w', K st' → g.to g' → Sim g' st' a' w' → Q .normal a' w'), ∀ i ∈ l.map (·.1), wpOp P ops Q i (wpAny P .any ops Q n (listed.setIfInBounds i true)) a w
  | [], n, listed, _, st, _, g, a, w, _, _, _, i, hi => by cases hi
  | (i0, r) :: l, n, listed, hb, st, h, g, a, w, hs, hd, hQ, i, hi => by
    simp only [schL, Bool.and_eq_true] at hb
    simp only [ASchL] at h
    simp only [List.map_cons, List.mem_cons] at hi
    rcases hi with e | hi
    · subst e
      have h1 := h.1
      simp only [AStepI] at h1
      unfold wpOp
      cases ho : ops[i]? with
      | none => rw [Array.getElem?_toList, ho] at h1; exact h1.elim
      | some o =>
        rw [Array.getElem?_toList, ho] at h1
        have key := AStep_ok (ops := ops) o h1 hs (dstsOk_get hd (by rw [Array.getElem?_toList]; exact ho)) (K' := wpAny P .any ops Q n (listed.setIfInBounds i true)) (Q := Q) fun st' g' a' w' k' t' s' =>
          ASch_ok hsel hQp r n _ hb.1 k' s' (by rw [t'.N]; exact hd) fun st2 g2 a2 w2 k2 t2 s2 => hQ st2 g2 a2 w2 k2 (t'.trans t2) s2
        simp only
        split
        · rename_i hw; rw [if_pos hw] at key; exact .inl key
        · rename_i hw; rw [if_neg hw] at key; exact key
    · exact ASchL_ok hsel hQp l n listed hb.2 h.2 hs hd hQ i hi
end
def schOk (P : Program) (ops : Array Oper) (S : Sch) : Bool := Region.noSelect ops && schB P ops ops.size (Array.replicate ops.size false) S
theorem ASch_wp {P : Program} {ops : Array Oper} {id : Nat} {st : St} {K : St → Prop} (hmo : P.follows .mixedOrders = true) {S : Sch} (hS : schOk P ops S = true) (h : ASch P ops.toList K S st) {g : Gh} {a : Act} {w : World} (hs : Sim g st a w)
 (hd : dstsOk g.N ops.toList = true) {Q : Exit → Act → World → Prop} (hQ : ∀ st' g' a' w', K st' → g.to g' → Sim g' st' a' w' → Q .normal a' w') : (Code.region id ops true).wp P Q a w := by
 simp only [schOk, Bool.and_eq_true] at hS; have hs0 : Sim g st a { w with drawn := w.drawn + 1 } := (hs.grown (w' := { w with drawn := w.drawn + 1 }) rfl (Nat.le_refl _) (fun _ _ => rfl) g.I hs.I).1.cast_I (fun c => by
  show g.I c = if w.heap.size ≤ c then g.I c else g.I c; split <;> rfl)
 refine wp_mono (wp_region_any (Q := fun e a w => e = .normal ∧ Q .normal a w) hmo ?_) fun e a w h => h.1 ▸ h.2; exact ASch_ok hS.1 (fun c a w h => by cases h.1) S _ _ hS.2 h hs0 hd fun st' g' a' w' k' t' s' => ⟨rfl, hQ st' g' a' w' k' t' s'⟩
end Go.AX

namespace Go.AX
def Weak (k0 : Nat) (st st1 : St) : Prop := ∀ g a w, g.n0 ≤ k0 → Sim g st a w → ∃ g', g.to g' ∧ Sim g' st1 a w
theorem Weak.trans {k0 : Nat} {a b c : St} (h : Weak k0 a b) (h' : Weak k0 b c) : Weak k0 a c := fun g ac w h0 hs => by
 obtain ⟨g1, t1, s1⟩ := h g ac w h0 hs; obtain ⟨g2, t2, s2⟩ := h' g1 ac w (by rw [t1.n0]; exact h0) s1; exact ⟨g2, t1.trans t2, s2⟩
def wkv (v v1 : SV) : Prop := v1 = v ∨ v1 = .pv .bot
def wkL (t : List (Nat × SV)) : List (Nat × SV) → Prop
 | [] => True
 | (s, v) :: r => wkv (look t s) v ∧ wkL t r
theorem wkL_ok {t : List (Nat × SV)} : ∀ {t1 : List (Nat × SV)}, wkL t t1 → ∀ s, look t1 s = look t s ∨ look t1 s = .pv .bot
 | [], _, s => .inr rfl
 | (j, v) :: r, h, s => by
  simp only [look]; by_cases e : j = s
  ·subst e; rw [if_pos rfl]; exact h.1
  ·rw [if_neg e]; exact wkL_ok h.2 s
/-! ### Blocks are let go -/
section
variable {g : Gh} {k : Nat}
mutual
theorem Fit.below : ∀ (x : PV) (v : Value), x.bel k → Fit g x v → Fit { g with n := k } x v
  | .bot, _, _, _ => trivial
  | .lit _, _, _, h => h
  | .agg xs, _, hn, ⟨vs, h1, h2⟩ => ⟨vs, h1, FitL.below xs _ hn h2⟩
  | .tup xs, _, hn, ⟨vs, h1, h2⟩ => ⟨vs, h1, FitL.below xs _ hn h2⟩
  | .seq _ e rows, _, hn, ⟨p, cap, h1, hc, h2⟩ => ⟨p, cap, h1, hc, h2.imp id fun ⟨c, off, arr, T, fz, vs, a, b, n, q1, q2⟩ => ⟨c, off, arr, T, fz, vs, a, b, n, FitR.below e rows vs hn q1, q2⟩⟩
  | .iptr e rows _ _, _, hn, ⟨c, off, arr, T, fz, vs, a, b, q1, q2⟩ => ⟨c, off, arr, T, fz, vs, a, b, FitR.below e rows vs hn q1, q2⟩
  | .ptr _ _, _, hn, ⟨_, h2⟩ => ⟨hn, h2⟩
  | .bsl _ _ _ _ _, _, hn, ⟨_, h2⟩ => ⟨hn, h2⟩
  | .fn _ first cap, _, ⟨n1, n2⟩, ⟨a, b, h1, h2, h3⟩ => ⟨a, b, h1, FitL.below first _ n1 h2, FitL.below cap _ n2 h3⟩
  | .amap _ es, _, hn, ⟨c, en, ck, a, b, n, q⟩ => ⟨c, en, ck, a, b, n, FitE.below es _ hn q.1, q.2⟩
  | .ifc _ x, _, hn, ⟨y, h1, h2⟩ => ⟨y, h1, Fit.below x y hn h2⟩
theorem FitL.below : ∀ (xs : List PV) (vs : List Value), belowL k xs → FitL g xs vs → FitL { g with n := k } xs vs
  | [], _, _, h => h
  | x :: xs, _, ⟨n1, n2⟩, ⟨v, r', h1, h2, h3⟩ => ⟨v, r', h1, Fit.below x v n1 h2, FitL.below xs r' n2 h3⟩
theorem FitR.below (e : Nat) : ∀ (rows : List (List PV)) (vs : List Value), belowR k rows → FitR g e rows vs → FitR { g with n := k } e rows vs
  | [], _, _, h => h
  | row :: rows, _, ⟨n1, n2⟩, ⟨v1, v2, h1, h2, h3, h4⟩ => ⟨v1, v2, h1, h2, FitL.below row v1 n1 h3, FitR.below e rows v2 n2 h4⟩
theorem FitE.below : ∀ (es : List (Int × PV)) (en : List MapEntry), belowE k es → FitE g es en → FitE { g with n := k } es en
  | [], _, _, h => h
  | (_, x) :: es, _, ⟨n1, n2⟩, ⟨m, r', h1, h2, h3, h4⟩ => ⟨m, r', h1, h2, Fit.below x m.val n1 h3, FitE.below es r' n2 h4⟩
end
end
def SV.bel (k : Nat) : SV → Prop
 | .pv x => x.bel k
 | .own _ _ rows => belowR k rows
 | .omap _ es => belowE k es
 | .opt _ x => x.bel k
 | .agl xs => belowL k (xs.map (·.1))
 | _ => True
theorem SFit.below {g : Gh} {w : World} {k : Nat} : ∀ {x : SV} {v : Value} {b : Option Nat}, x.bel k → SFit g w x v b → SFit { g with n := k } w x v b
 | .pv x, _, _, hn, h => ⟨h.1, Fit.below x _ hn h.2⟩
 | .own _ e rows, _, _, hn, h => h.imp id fun ⟨c, h1, cap, arr, T, vs, a1, a2, a3, a4, a5, a6, a7⟩ => ⟨c, h1, cap, arr, T, vs, a1, a2, a3, a4, FitR.below e rows vs hn a5, a6, a7⟩
 | .omap _ es, _, _, hn, ⟨c, h1, en, ck, a1, a2, a3, a4⟩ => ⟨c, h1, en, ck, a1, a2, FitE.below es _ hn a3, a4⟩
 | .opt _ _, _, _, hn, h => ⟨h.1, h.2.1, fun hc => SFit.below hn (h.2.2 hc)⟩
 | .al _, _, _, _, h => h
 | .loc _ _ _, _, _, _, h => h
 | .sptr _ _ _, _, _, _, h => h
 | .agl xs, _, _, hn, ⟨h, vs, h1, h2⟩ => ⟨h, vs, h1, FitL.below _ _ hn h2⟩
def belowT (k : Nat) : List (Nat × SV) → Prop
 | [] => True
 | (_, v) :: r => v.bel k ∧ belowT k r
def belowC (k : Nat) : List SV → Prop
 | [] => True
 | v :: r => v.bel k ∧ belowC k r
def belowH (k : Nat) : List (List SV) → Prop
 | [] => True
 | v :: r => belowC k v ∧ belowH k r
theorem belowT_look {k : Nat} : ∀ {t : List (Nat × SV)}, belowT k t → ∀ s, (look t s).bel k
 | [], _, s => trivial
 | (j, v) :: r, h, s => by
  simp only [look]; split
  ·exact h.1
  ·exact belowT_look h.2 s
theorem belowC_get {k : Nat} : ∀ {l : List SV}, belowC k l → ∀ (i : Nat) (x : SV), l[i]? = some x → x.bel k
 | [], _, i, x, h => by simp at h
 | v :: r, hl, 0, x, h => by simp at h; subst h; exact hl.1
 | v :: r, hl, i + 1, x, h => belowC_get hl.2 i x (by simpa using h)
theorem belowH_get {k : Nat} : ∀ {l : List (List SV)}, belowH k l → ∀ (i : Nat) (x : List SV), l[i]? = some x → belowC k x
 | [], _, i, x, h => by simp at h
 | v :: r, hl, 0, x, h => by simp at h; subst h; exact hl.1
 | v :: r, hl, i + 1, x, h => belowH_get hl.2 i x (by simpa using h)
theorem Sim.dropB {st : St} {h1 : List (List SV)} (hh : st.h.take h1.length = h1) (ht : belowT h1.length st.t) (hb : belowH h1.length h1) {g : Gh} {a : Act} {w : World} (h0 : g.n0 ≤ h1.length) (hs : Sim g st a w) : g.to { g with n := h1.length } ∧ Sim { g with n := h1.length } ⟨st.t, h1⟩ a w := by
  obtain ⟨bl, hbl⟩ := hs.own
  have hle : h1.length ≤ g.n := by rw [hs.n, ← hh, List.length_take]; exact Nat.min_le_right _ _
  have hget : ∀ b xs, h1[b]? = some xs → st.h[b]? = some xs := fun b xs hx => by
    have hlt := (List.getElem?_eq_some_iff.1 hx).1
    rw [← hh, List.getElem?_take, if_pos (by exact hlt)] at hx
    exact hx
  have hpos : ∀ p, (posGet ⟨st.t, h1⟩ p).isOwn = true → posGet ⟨st.t, h1⟩ p = posGet st p ∧ posVal { g with n := h1.length } a w p = posVal g a w p := by
    intro p hp
    refine ⟨?_, rfl⟩
    cases p with
    | slot s => rfl
    | cell b k =>
      simp only [posGet] at hp ⊢
      cases hx : h1[b]? with
      | none => simp [List.getD, hx, SV.isOwn] at hp
      | some xs => simp only [List.getD_eq_getElem?_getD, hx, hget b xs hx]
  refine ⟨⟨fun _ _ h => h, rfl, rfl, rfl, rfl, rfl, h0, fun _ _ => rfl, fun _ _ h => h⟩, ?_⟩
  refine { size := hs.size, defs := hs.defs, env := hs.env, n := rfl, n0 := h0, B := hs.B, I := hs.I, F := hs.F, μI := fun b hb' => hs.μI b (Nat.lt_of_lt_of_le hb' hle), μinj := fun b b' h2 h3 => hs.μinj b b' (Nat.lt_of_lt_of_le h2 hle) (Nat.lt_of_lt_of_le h3 hle),
           own := ⟨fun p => match p with | .slot s => bl (.slot s) | .cell b k => if b < h1.length then bl (.cell b k) else none, ?_⟩, al := fun s => AlOk.congr hpos (hs.al s) }
  have hsub : ∀ p c, (match p with | .slot s => bl (.slot s) | .cell b k => if b < h1.length then bl (.cell b k) else none) = some c → bl p = some c := by
    intro p c hp
    cases p with
    | slot s => exact hp
    | cell b k =>
      simp only at hp
      split at hp
      · exact hp
      · cases hp
  refine { slots := fun s => SFit.below (belowT_look ht s) (hbl.slots s), blocks := fun b xs hx => ?_, inj := fun p q c hp hq => hbl.inj p q c (hsub p c hp) (hsub q c hq), free := fun p c hp => ?_ }
  · obtain ⟨arr, T, e1, e2, e3⟩ := hbl.blocks b xs (hget b xs hx)
    refine ⟨arr, T, e1, e2, fun k x hk' => ?_⟩
    simp only [if_pos (List.getElem?_eq_some_iff.1 hx).1]
    exact ⟨(e3 k x hk').1, SFit.below (belowC_get (belowH_get hb b xs hx) k x hk') (e3 k x hk').2⟩
  · obtain ⟨f1, f2, f3, f4⟩ := hbl.free p c (hsub p c hp)
    exact ⟨f1, f2, f3, fun b hb' => f4 b (Nat.lt_of_lt_of_le hb' hle)⟩
theorem Weak.slots {k0 : Nat} {st : St} {t1 : List (Nat × SV)} (h : wkL st.t t1) : Weak k0 st ⟨t1, st.h⟩ := fun g _ _ _ hs => ⟨g, hs.refl_to, hs.weak rfl (wkL_ok h)⟩
theorem Weak.drop {k0 : Nat} {st : St} {h1 : List (List SV)} (hh : st.h.take h1.length = h1) (hk : k0 ≤ h1.length) (ht : belowT h1.length st.t) (hb : belowH h1.length h1) : Weak k0 st ⟨st.t, h1⟩ := fun g _ _ h0 hs =>
 ⟨_, hs.dropB hh ht hb (Nat.le_trans h0 hk)⟩
theorem Weak.to {k0 : Nat} {st : St} {t1 : List (Nat × SV)} {h1 : List (List SV)} (h : wkL st.t t1) (hh : st.h.take h1.length = h1) (hk : k0 ≤ h1.length) (ht : belowT h1.length t1) (hb : belowH h1.length h1) : Weak k0 st ⟨t1, h1⟩ :=
 (Weak.slots h).trans (Weak.drop (st := ⟨t1, st.h⟩) hh hk ht hb)
theorem Weak.nilOwn {k0 : Nat} {st : St} {s : Nat} (e : Nat) (nw : Bool) (h : look st.t s = .pv (.lit (.slice none 0 0))) : Weak k0 st ⟨(s, .own nw e []) :: killL (qSlot s) st.t, st.h⟩ := fun g a w _ hs => by
 obtain ⟨bl, hb⟩ := hs.own; have hval : a.tmps.getD s undef = .slice none 0 0 := by have := hb.slots s; rw [h] at this; exact this.2
 have hlt : s < a.tmps.size := by
  apply Nat.lt_of_not_le; intro hle; rw [Array.getD_eq_getD_getElem?, Array.getElem?_eq_none hle] at hval; cases hval
 have := hs.putOwn hb (d := s) (sv := .own nw e []) (v := a.tmps.getD s undef) (o := none) (w' := w) (by rw [← hs.size]; exact hlt) rfl (Nat.le_refl _) (fun _ _ _ => rfl) (.inl ⟨rfl, rfl, hval⟩) rfl (fun c hc => by cases hc); rw [put_self hlt] at this; exact ⟨g, hs.refl_to, this⟩
/-! ### Ways on -/
def seqQ (K : St → Prop) (Q : Exit → St → Prop) (e : Exit) (st : St) : Prop :=
 match e with
 | .normal => K st
 | e => Q e st
def blockQ (id : Nat) (Q : Exit → St → Prop) (e : Exit) (st : St) : Prop :=
 match e with
 | .exit i => if i = id then Q .normal st else Q (.exit i) st
 | e => Q e st
def scopeQ (Q : Exit → St → Prop) (e : Exit) (st : St) : Prop :=
 match e with
 | .goto _ => False
 | e => Q e st
def ALoop (k0 : Nat) (body : (Exit → St → Prop) → St → Prop) (Q : Exit → St → Prop) (st : St) : Prop :=
 ∃ I : Nat → St → Prop, (∃ n st1, Weak k0 st st1 ∧ I n st1) ∧ ∀ n st, I n st → body (seqQ (fun st' => ∃ m st2, m < n ∧ Weak k0 st' st2 ∧ I m st2) Q) st
def Again {α : Type} (S : α → St) (J : α → Prop) (μ : α → Nat) (k0 n : Nat) (st : St) : Prop := ∃ y, μ y < n ∧ J y ∧ Weak k0 st (S y)
def WeakTo (k0 : Nat) (S st : St) : Prop := Weak k0 st S
def AAt (P : Program) (k0 : Nat) (ops : Array Oper) (K : St → Prop) (n : Nat) (l : Array Bool) (st : St) : Prop :=
 ∀ (g : Gh) (a : Act) (w : World), g.n0 ≤ k0 → Sim g st a w → dstsOk g.N ops.toList = true → ∀ (Q : Exit → Act → World → Prop), (∀ c a w, ¬ Q (.panic c) a w) → (∀ st' g' a' w', K st' → g.to g' → Sim g' st' a' w' → Q .normal a' w') → wpAny P .any ops Q n l a w
def AForks (P : Program) (ops : Array Oper) (C : Nat → Array Bool → St → Prop) (n : Nat) (st : St) : List (Nat × Array Bool) → Prop
 | [] => True
 | (i, l') :: r => AStepI P ops.toList i (C n l') st ∧ AForks P ops C n st r
def AAnyD (P : Program) (k0 : Nat) (ops : Array Oper) (K : St → Prop) (st : St) : Prop :=
 (∃ S, schOk P ops S = true ∧ (ASch P ops.toList K S st ∨ ∃ st1, ASch P ops.toList (WeakTo k0 st1) S st ∧ K st1)) ∨ AAt P k0 ops K ops.size (Array.replicate ops.size false) st
theorem AAnyD.one {P : Program} {k0 : Nat} {ops : Array Oper} {K : St → Prop} {st : St} (S : Sch) (h : schOk P ops S = true) (h2 : ASch P ops.toList K S st) : AAnyD P k0 ops K st := .inl ⟨S, h, .inl h2⟩
theorem AAnyD.meet {P : Program} {k0 : Nat} {ops : Array Oper} {K : St → Prop} {st : St} (S : Sch) (st1 : St) (h : schOk P ops S = true) (h2 : ASch P ops.toList (WeakTo k0 st1) S st) (h3 : K st1) : AAnyD P k0 ops K st := .inl ⟨S, h, .inr ⟨st1, h2, h3⟩⟩
def AForksO (stp : Nat → (St → Prop) → St → Prop) (C : Nat → Array Bool → St → Prop) (n : Nat) (st : St) : List (Nat × Array Bool) → Prop
 | [] => True
 | (i, l') :: r => stp i (C n l') st ∧ AForksO stp C n st r
theorem AAnyD_wp {P : Program} {k0 : Nat} {ops : Array Oper} {id : Nat} {st : St} {K : St → Prop} (hmo : P.follows .mixedOrders = true) (h : AAnyD P k0 ops K st) {g : Gh} {a : Act} {w : World} (h0 : g.n0 ≤ k0) (hs : Sim g st a w)
 (hd : dstsOk g.N ops.toList = true) {Q : Exit → Act → World → Prop} (hQ : ∀ st' g' a' w', K st' → g.to g' → Sim g' st' a' w' → Q .normal a' w') : (Code.region id ops true).wp P Q a w := by
 rcases h with ⟨S, hS, h | ⟨st1, h, hk⟩⟩ | h
 ·exact ASch_wp hmo hS h hs hd hQ
 ·refine ASch_wp hmo hS h hs hd fun st' g' a' w' hw t' s' => ?_; obtain ⟨g2, t2, s2⟩ := hw g' a' w' (by rw [t'.n0]; exact h0) s'; exact hQ st1 g2 a' w' hk (t'.trans t2) s2
 ·have hs0 : Sim g st a { w with drawn := w.drawn + 1 } := (hs.grown (w' := { w with drawn := w.drawn + 1 }) rfl (Nat.le_refl _) (fun _ _ => rfl) g.I hs.I).1.cast_I (fun c => by
   show g.I c = if w.heap.size ≤ c then g.I c else g.I c; split <;> rfl)
  refine wp_mono (wp_region_any (Q := fun e a w => e = .normal ∧ Q .normal a w) hmo ?_) fun e a w h => h.1 ▸ h.2; exact h _ _ _ h0 hs0 hd _ (fun c a w h => by cases h.1) fun st' g' a' w' k' t' s' => ⟨rfl, hQ st' g' a' w' k' t' s'⟩
def ASem (P : Program) (k0 : Nat) (ops : Array Oper) (K : St → Prop) (st : St) : Prop :=
 ∀ (g : Gh) (a : Act) (w : World), g.n0 ≤ k0 → Sim g st a w → dstsOk g.N ops.toList = true → ∀ (Q : Exit → Act → World → Prop), (∀ st' g' a' w', K st' → g.to g' → Sim g' st' a' w' → Q .normal a' w') → wpList P ops Q ops.toList a w
def AC (P : Program) (k0 : Nat) (bad : List Nat) : Code → (Exit → St → Prop) → St → Prop
 | .skip, Q, st => Q .normal st
 | .region id ops draw, Q, st => if draw = true then (if memN bad id = true then AAnyD P k0 ops (Q .normal) st else ADraw P ops.toList (Q .normal) st) else if memN bad id = true then ASem P k0 ops (Q .normal) st else AOps P ops.toList (Q .normal) ops.toList st
 | .seq x y, Q, st => AC P k0 bad x (seqQ (AC P k0 bad y Q) Q) st
 | .cond c x y, Q, st => gc st c ∧ isB (mv st c) ∧ (asB (mv st c) = true → AC P k0 bad x Q st) ∧ (asB (mv st c) = false → AC P k0 bad y Q st)
 | .block id x, Q, st => AC P k0 bad x (blockQ id Q) st
 | .exit id, Q, st => Q (.exit id) st
 | .ret, Q, st => Q .ret st
 | .loop x, Q, st => ALoop k0 (AC P k0 bad x) Q st
 | .label _, Q, st => Q .normal st
 | .scope x, Q, st => AC P k0 bad x (scopeQ Q) st
 | _, _, _ => False
theorem ALoop.intro {α : Type} {P : Program} {k0 : Nat} {bad : List Nat} {x : Code} {Q : Exit → St → Prop} {st : St} (S : α → St) (J : α → Prop) (μ : α → Nat) (x0 : α) (hw : Weak k0 st (S x0)) (hJ : J x0)
 (hr : ∀ y, J y → AC P k0 bad x (seqQ (Again S J μ k0 (μ y)) Q) (S y)) : ALoop k0 (AC P k0 bad x) Q st := by
 refine ⟨fun n st => ∃ y, n = μ y ∧ J y ∧ st = S y, ⟨μ x0, S x0, hw, x0, rfl, hJ, rfl⟩, fun n st ⟨y, hn, hy, hs⟩ => ?_⟩; subst hn; subst hs; have : (fun st' => ∃ m st2, m < μ y ∧ Weak k0 st' st2 ∧ ∃ z, m = μ z ∧ J z ∧ st2 = S z) = Again S J μ k0 (μ y) := by
  funext st'; apply propext; constructor
  ·rintro ⟨m, st2, h1, h2, z, rfl, h3, rfl⟩; exact ⟨z, h1, h3, h2⟩
  ·rintro ⟨z, h1, h2, h3⟩; exact ⟨_, _, h1, h3, z, rfl, h2, rfl⟩
 rw [this]; exact hr y hy
def okC (N : Nat) (bad : List Nat) : Code → Bool
 | .region id ops draw => dstsOk N ops.toList && (!draw || (memN bad id || drawB ops.toList (preLen ops.toList)))
 | .seq x y => okC N bad x && okC N bad y
 | .cond _ x y => okC N bad x && okC N bad y
 | .block _ x => okC N bad x
 | .loop x => okC N bad x
 | .scope x => okC N bad x
 | _ => true
theorem wp_loop_rel {P : Program} {c : Code} {Q : Exit → Act → World → Prop} (I : Nat → Act → World → Prop) (round : ∀ n a w, I n a w → c.wp P (Exit.then (fun a' w' => ∃ m, m < n ∧ I m a' w') Q) a w) {n : Nat} {a : Act} {w : World} (h₀ : I n a w) : (Code.loop c).wp P Q a w := by
 intro b k cs; have key : ∀ n a w, I n a w → ∃ e a' w', Q e a' w' ∧ Arrives P (lone (b.at a (.code c :: .inLoop c :: k)) cs w) b k cs e a' w' := by
  intro n
  induction n using Nat.strongRecOn with
  | _ n ih =>
   intro a w hI; obtain ⟨e, a₁, w₁, hq, harr⟩ := round n a w hI b (.inLoop c :: k) cs; cases e with
   | normal =>
    obtain ⟨m, hlt, hI₁⟩ := hq; obtain ⟨e₂, a₂, w₂, hq₂, harr₂⟩ := ih m hlt a₁ w₁ hI₁; exact ⟨e₂, a₂, w₂, hq₂, .of_steps (Steps.trans harr (.one step_inLoop)) harr₂⟩
   | exit id => exact ⟨_, a₁, w₁, hq, .pass (x := .inLoop c) rfl (fun _ _ => .inl (by simp)) harr⟩
   | goto l => exact ⟨_, a₁, w₁, hq, .pass (x := .inLoop c) rfl (fun _ _ => .inl (by simp)) harr⟩
   | ret => exact ⟨_, a₁, w₁, hq, .pass (x := .inLoop c) rfl (fun _ _ => .inl (by simp)) harr⟩
   | panic ch => exact ⟨_, a₁, w₁, hq, .pass (x := .inLoop c) rfl (fun _ _ => .inl (by simp)) harr⟩
   | outgrown => exact ⟨_, a₁, w₁, hq, .pass (x := .inLoop c) rfl (fun _ _ => .inl (by simp)) harr⟩
 obtain ⟨e, a', w', hq, harr⟩ := key _ a w h₀; exact ⟨e, a', w', hq, .of_steps (.one step_loop) harr⟩
theorem AC_wp {P : Program} {k0 : Nat} {bad : List Nat} (hmo : P.follows .mixedOrders = true) : ∀ (c : Code) {Q : Exit → St → Prop} {st : St} (_ : AC P k0 bad c Q st) {g : Gh} {a : Act} {w : World} (_ : okC g.N bad c = true ∧ g.n0 ≤ k0) (_ : Sim g st a w) {Q' : Exit → Act → World → Prop}
 (_ : ∀ e st' g' a' w', Q e st' → g.to g' → Sim g' st' a' w' → Q' e a' w'), c.wp P Q' a w
 | .skip, Q, st, h, g, a, w, ⟨ho, h0⟩, hs, Q', hQ => wp_skip (hQ _ _ g _ _ h hs.refl_to hs)
 | .exit id, Q, st, h, g, a, w, ⟨ho, h0⟩, hs, Q', hQ => wp_exit (hQ _ _ g _ _ h hs.refl_to hs)
 | .ret, Q, st, h, g, a, w, ⟨ho, h0⟩, hs, Q', hQ => wp_ret (hQ _ _ g _ _ h hs.refl_to hs)
 | .region id ops draw, Q, st, h, g, a, w, ⟨ho, h0⟩, hs, Q', hQ => by
  simp only [okC, Bool.and_eq_true, Bool.or_eq_true, Bool.not_eq_true'] at ho; simp only [AC] at h; cases draw with
  | false =>
   rw [if_neg (by simp)] at h; split at h
   ·exact wp_region_list (h g a w h0 hs ho.1 _ fun st' g' a' w' => hQ _ st' g' a' w')
   ·exact wp_region_list (AOps_wp ops.toList h hs ho.1 fun st' g' a' w' => hQ _ st' g' a' w')
  | true =>
   rw [if_pos rfl] at h; split at h
   ·exact AAnyD_wp hmo h h0 hs ho.1 fun st' g' a' w' => hQ _ st' g' a' w'
   ·rename_i hm; refine ADraw_wp hmo ((ho.2.resolve_left (by simp)).resolve_left (by simpa using hm)) h hs ho.1 fun st' g' a' w' => hQ _ st' g' a' w'
 | .seq x y, Q, st, h, g, a, w, ⟨ho, h0⟩, hs, Q', hQ => by
  simp only [okC, Bool.and_eq_true] at ho; simp only [AC] at h; refine wp_seq (AC_wp hmo x h ⟨ho.1, h0⟩ hs fun e st' g' a' w' hq t' s' => ?_); cases e with
  | normal => exact AC_wp hmo y hq ⟨by rw [t'.N]; exact ho.2, by rw [t'.n0]; exact h0⟩ s' fun e2 st2 g2 a2 w2 q2 t2 s2 => hQ e2 st2 g2 a2 w2 q2 (t'.trans t2) s2
  | exit id => exact hQ _ st' g' a' w' hq t' s'
  | goto l => exact hQ _ st' g' a' w' hq t' s'
  | ret => exact hQ _ st' g' a' w' hq t' s'
  | panic ch => exact hQ _ st' g' a' w' hq t' s'
  | outgrown => exact hQ _ st' g' a' w' hq t' s'
 | .cond c x y, Q, st, h, g, a, w, ⟨ho, h0⟩, hs, Q', hQ => by
  simp only [okC, Bool.and_eq_true] at ho; simp only [AC] at h; obtain ⟨h1, h2, h3, h4⟩ := h; exact wp_cond_split (bool_ok hs h1 h2) (fun ht => AC_wp hmo x (h3 ht) ⟨ho.1, h0⟩ hs hQ) (fun hf => AC_wp hmo y (h4 hf) ⟨ho.2, h0⟩ hs hQ)
 | .block id x, Q, st, h, g, a, w, ⟨ho, h0⟩, hs, Q', hQ => by
  simp only [okC] at ho; simp only [AC] at h; refine wp_block (AC_wp hmo x h ⟨ho, h0⟩ hs fun e st' g' a' w' hq t' s' => ?_); cases e with
  | exit i =>
   simp only [blockQ] at hq; simp only [Exit.inBlock]; split
   ·rename_i e1; rw [if_pos e1] at hq; exact hQ _ st' g' a' w' hq t' s'
   ·rename_i e1; rw [if_neg e1] at hq; exact hQ _ st' g' a' w' hq t' s'
  | normal => exact hQ _ st' g' a' w' hq t' s'
  | goto l => exact hQ _ st' g' a' w' hq t' s'
  | ret => exact hQ _ st' g' a' w' hq t' s'
  | panic ch => exact hQ _ st' g' a' w' hq t' s'
  | outgrown => exact hQ _ st' g' a' w' hq t' s'
 | .loop x, Q, st, h, g, a, w, ⟨ho, h0⟩, hs, Q', hQ => by
  simp only [okC] at ho; simp only [AC] at h; unfold ALoop at h; obtain ⟨I, ⟨n, st1, hw, hI⟩, hr⟩ := h; obtain ⟨g1, t1, s1⟩ := hw g a w h0 hs; refine wp_loop_rel (fun n a w => ∃ st g', I n st ∧ g.to g' ∧ Sim g' st a w) (fun n a w ⟨st, g', h1, h2, h3⟩ => ?_) (n := n) ⟨st1, g1, hI, t1, s1⟩; refine AC_wp hmo x (hr n st h1) ⟨by rw [h2.N]; exact ho, by rw [h2.n0]; exact h0⟩ h3 fun e st' g2 a' w' hq t' s' => ?_; cases e with
  | normal =>
   obtain ⟨m, st2, hlt, hwk, hI2⟩ := hq; obtain ⟨g3, t3, s3⟩ := hwk g2 a' w' (by rw [t'.n0, h2.n0]; exact h0) s'; exact ⟨m, hlt, st2, g3, hI2, (h2.trans t').trans t3, s3⟩
  | exit id => exact hQ _ st' g2 a' w' hq (h2.trans t') s'
  | goto l => exact hQ _ st' g2 a' w' hq (h2.trans t') s'
  | ret => exact hQ _ st' g2 a' w' hq (h2.trans t') s'
  | panic ch => exact hQ _ st' g2 a' w' hq (h2.trans t') s'
  | outgrown => exact hQ _ st' g2 a' w' hq (h2.trans t') s'
 | .rangeFunc .., _, _, h, _, _, _, _, _, _, _ => by simp only [AC] at h
 | .scope x, Q, st, h, g, a, w, ⟨ho, h0⟩, hs, Q', hQ => by
  simp only [okC] at ho; simp only [AC] at h; refine wp_scope_straight (AC_wp hmo x h ⟨ho, h0⟩ hs fun e st' g' a' w' hq t' s' => ?_); cases e with
  | goto l => exact hq.elim
  | normal => exact hQ _ st' g' a' w' hq t' s'
  | exit i => exact hQ _ st' g' a' w' hq t' s'
  | ret => exact hQ _ st' g' a' w' hq t' s'
  | panic ch => exact hQ _ st' g' a' w' hq t' s'
  | outgrown => exact hQ _ st' g' a' w' hq t' s'
 | .label _, Q, st, h, g, a, w, ⟨ho, h0⟩, hs, Q', hQ => wp_label (hQ _ _ g _ _ h hs.refl_to hs)
 | .goto _, _, _, h, _, _, _, _, _, _, _ => by simp only [AC] at h
 | .refuse _, _, _, h, _, _, _, _, _, _, _ => by simp only [AC] at h
end Go.AX

namespace Go.AX
def argT : Nat → List PV → List (Nat × SV)
 | _, [] => []
 | k, x :: xs => (k, .pv x) :: argT (k + 1) xs
def endQ (K : St → Prop) (e : Exit) (st : St) : Prop :=
 match e with
 | .normal => K st
 | .ret => K st
 | _ => False
def ret1 (t : Nat) (R : SV → Prop) (st : St) : Prop :=
 match look st.t t with
 | .pv x => R (.pv x)
 | .own nw e rows => R (.own nw e rows)
 | .omap nw es => R (.omap nw es)
 | .al p => (posGet st p).isOwn = true ∧ R (posGet st p)
 | .opt c (.pv x) => c ∧ R (.pv x)
 | .loc p lo hi => match posGet st p with
  | .own nw e rows => lo = 0 ∧ R (.own nw e (rows.take hi))
  | _ => False
 | _ => False
def retN (ts : List Nat) (R : SV → Prop) (st : St) : Prop := (embL st (ts.map .tmp)).2.2 ∧ R (.pv (.tup (embL st (ts.map .tmp)).1))
theorem look_argT (g : Gh) : ∀ (args : List PV) (vs : List Value) (k s : Nat), FitL g args vs → ∀ (w : World), SFit g w (look (argT k args) s) (if s < k then undef else vs.getD (s - k) undef) none
 | [], vs, k, s, h, w => ⟨rfl, trivial⟩
 | x :: xs, _, k, s, ⟨v, r, h1, h2, h3⟩, w => by
  subst h1; simp only [argT, look]; by_cases e : k = s
  ·subst e; rw [if_pos rfl, if_neg (by omega), Nat.sub_self]; exact ⟨rfl, h2⟩
  ·rw [if_neg e]; by_cases hl : s < k
   ·rw [if_pos hl]; have := look_argT g xs r (k + 1) s h3 w; rw [if_pos (by omega)] at this; exact this
   ·rw [if_neg hl]; have := look_argT g xs r (k + 1) s h3 w; rw [if_neg (by omega)] at this; rw [show s - k = (s - (k + 1)) + 1 by omega]; exact this
theorem noOwn_argT : ∀ (args : List PV) (k s : Nat), (∃ x, look (argT k args) s = .pv x)
 | [], _, _ => ⟨_, rfl⟩
 | x :: xs, k, s => by
  simp only [argT, look]; split
  ·exact ⟨_, rfl⟩
  ·exact noOwn_argT xs (k + 1) s
def gEnter (w : World) (N : Nat) : Gh := { snap w with N := N }
theorem fit_enter {w : World} {N : Nat} {args : List PV} {vs : List Value} (h : FitL (snap w) args vs) : FitL (gEnter w N) args vs := FitL.mono (g := snap w) (g' := gEnter w N) ⟨fun _ _ h => h, Nat.le_refl _, Nat.le_refl _, fun _ _ => rfl⟩ _ _ h
theorem sim_enter {w : World} {N : Nat} {args : List PV} {vs : List Value} (h : FitL (snap w) args vs) (hn : args.length ≤ N) :
    Sim (gEnter w N) ⟨argT 0 args, []⟩ { tmps := vs.toArray ++ Array.replicate (N - vs.toArray.size) undef, defers := [] } w := by
  have hl := h.length
  have hv : ∀ s, (vs.toArray ++ Array.replicate (N - vs.toArray.size) undef).getD s undef = vs.getD s undef := by
    intro s
    simp only [Array.getD_eq_getD_getElem?, List.getD_eq_getElem?_getD, Array.getElem?_append, List.size_toArray, List.getElem?_toArray, Array.getElem?_replicate]
    split
    · rfl
    · rename_i hs
      rw [List.getElem?_eq_none (by omega)]
      split <;> rfl
  refine { size := ?_, defs := rfl, env := rfl, n := rfl, n0 := Nat.le_refl _, B := Nat.le_refl _, I := fun c o hc => hc, F := fun c o hc => (by cases hc), μI := fun b hb => absurd hb (Nat.not_lt_zero _), μinj := fun b b' hb => absurd hb (Nat.not_lt_zero _),
           own := ⟨fun _ => none, ?_⟩, al := fun s => ?_ }
  · show (vs.toArray ++ Array.replicate (N - vs.toArray.size) undef).size = N
    simp; omega
  · refine { slots := fun s => ?_, blocks := fun b xs hx => (by simp at hx), inj := fun p q c hp => (by cases hp), free := fun p c hp => by cases hp }
    show SFit _ w _ ((vs.toArray ++ Array.replicate (N - vs.toArray.size) undef).getD s undef) none
    rw [hv]
    have := look_argT (gEnter w N) args vs 0 s (fit_enter h) w
    simpa using this
  · obtain ⟨x, hx⟩ := noOwn_argT args 0 s
    simp only [hx]; trivial
theorem pureEnd_of {w w' : World} {N : Nat} {g' : Gh} {st' : St} {a' : Act} (ht : (gEnter w N).to g') (hs : Sim g' st' a' w') : PureEnd w w' g' := by
 have hkeep : ∀ c, c < w.heap.size → w'.heap[c]? = w.heap[c]? := fun c hc => by
  have : w.heap[c]? = some w.heap[c] := Array.getElem?_eq_getElem hc; rw [hs.I c _ (ht.I c _ this), this]
 refine ⟨ht.B, hs.env.trans ht.env, hkeep, ?_, hs.I⟩; cases hsz : w.heap.size with
 | zero => exact Nat.zero_le _
 | succ n =>
  have h1 := hkeep n (by omega); rw [Array.getElem?_eq_getElem (show n < w.heap.size by omega)] at h1; have := (Array.getElem?_eq_some_iff.1 h1).1; omega
theorem own_new {w w' : World} {N : Nat} {g' : Gh} {st' : St} {a' : Act} (ht : (gEnter w N).to g') {bl : Pos → Option Nat} (hb : Owns g' st' a' w' bl) {p : Pos} : ∀ c, bl p = some c → w.heap.size ≤ c ∧ g'.I c = none := fun c hc => by
 have h1 := (hb.free p c hc).1; refine ⟨Nat.le_of_not_lt fun hlt => ?_, h1⟩; have := ht.I c _ (show w.heap[c]? = some w.heap[c] from Array.getElem?_eq_getElem hlt); rw [h1] at this; cases this
theorem apure_of {P : Program} {bad : List Nat} {f : FuncId} {fn : Func} {c : Code} {args : List PV} {R : SV → Prop} {K : St → Prop} (hmo : P.follows .mixedOrders = true) (hf : P.funcs[f]? = some fn) (hcall : callable P f = true) (hb : fn.body = some c) (hok : okC fn.ntmps bad c = true)
 (hn : args.length ≤ fn.ntmps) (h : AC P 0 bad c (endQ K) ⟨argT 0 args, []⟩)
 (hK : ∀ (w w' : World) (g' : Gh) (st' : St) (a' : Act), K st' → (gEnter w fn.ntmps).to g' → Sim g' st' a' w' → ∃ v r g2 o, (results fn a'.tmps).run P w' = .ok v w' ∧ R r ∧ PureEnd w w' g2 ∧ SFit g2 w' r v o ∧ r.inCell = true ∧ ∀ c, o = some c → w.heap.size ≤ c ∧ g2.I c = none) :
 APure P f args R := by
 refine ⟨hcall, fun w vs hv => ?_⟩; refine calls_of_wp hf hb ?_; have hs := sim_enter (N := fn.ntmps) hv hn; refine AC_wp hmo c h (g := gEnter w fn.ntmps) ⟨hok, Nat.le_refl _⟩ hs fun e st' g' a' w' hq t' s' => ?_; have fin : K st' → a'.defers = [] ∧ ∃ v, (results fn a'.tmps).run P w' = .ok v w' ∧ ∃ v' r g' o, Ending.returned v = .returned v' ∧ R r ∧ PureEnd w w' g' ∧ SFit g' w' r v' o ∧ r.inCell = true ∧ ∀ c, o = some c → w.heap.size ≤ c ∧ g'.I c = none := fun hk => by
  obtain ⟨v, r, g2, o, h1, h2, h3, h4, h5, h6⟩ := hK w w' g' st' a' hk t' s'; exact ⟨s'.defs, v, h1, v, r, g2, o, rfl, h2, h3, h4, h5, h6⟩
 cases e with
 | normal => exact fin hq
 | ret => exact fin hq
 | _ => exact hq.elim
theorem apure1B {P : Program} (bad : List Nat) {f : FuncId} {fn : Func} {c : Code} {args : List PV} {R : SV → Prop} {t : Nat} (hmo : P.follows .mixedOrders = true) (hf : P.funcs[f]? = some fn) (h : AC P 0 bad c (endQ (ret1 t R)) ⟨argT 0 args, []⟩) (hcall : callable P f = true := by kernel_rfl) (hb : fn.body = some c := by rfl) (hr : fn.results = #[.tmp t] := by rfl) (hok : okC fn.ntmps bad c = true := by kernel_rfl) (hn : args.length ≤ fn.ntmps := by exact Nat.le_of_ble_eq_true rfl) : APure P f args R := by
 refine apure_of hmo hf hcall hb hok hn h fun w w' g' st' a' hk t' s' => ?_; obtain ⟨bl, hb⟩ := s'.own; have hfit := hb.slots t; have hal := s'.al t; have hend := pureEnd_of t' s'; unfold ret1 at hk; split at hk
 ·rename_i x hx; rw [hx] at hfit; exact ⟨_, .pv x, g', none, results_tmp hr _ _ _, hk, hend, ⟨rfl, hfit.2⟩, rfl, fun c hc => by cases hc⟩
 ·rename_i nw e rows hx; rw [hx] at hfit; exact ⟨_, _, g', _, results_tmp hr _ _ _, hk, hend, hfit, rfl, own_new t' hb⟩
 ·rename_i nw es hx; rw [hx] at hfit; exact ⟨_, _, g', _, results_tmp hr _ _ _, hk, hend, hfit, rfl, own_new t' hb⟩
 ·rename_i p hx; rw [hx] at hal; have hv := hal hk.1; refine ⟨_, posGet st' p, g', bl p, results_tmp hr _ _ _, hk.2, hend, by rw [hv]; exact pos_fit hb hk.1, ?_, own_new t' hb⟩; cases hp : posGet st' p <;> first | rfl | (rw [hp] at hk; cases hk.1)
 ·rename_i cc x hx; rw [hx] at hfit; exact ⟨_, .pv x, g', none, results_tmp hr _ _ _, hk.2, hend, ⟨rfl, (hfit.2.2 hk.1).2⟩, rfl, fun c hc => by cases hc⟩
 ·rename_i p lo hi hx; rw [hx] at hal; split at hk
  ·rename_i nw e rows hp; obtain ⟨rfl, hk⟩ := hk; exact ⟨_, _, g', bl p, results_tmp hr _ _ _, hk, hend, loc_cut hb hp hal, rfl, own_new t' hb⟩
  ·exact hk.elim
 ·exact hk.elim
theorem apure1 {P : Program} {f : FuncId} {fn : Func} {c : Code} {args : List PV} {R : SV → Prop} {t : Nat} (hmo : P.follows .mixedOrders = true) (hf : P.funcs[f]? = some fn) (h : AC P 0 [] c (endQ (ret1 t R)) ⟨argT 0 args, []⟩) (hcall : callable P f = true := by kernel_rfl) (hb : fn.body = some c := by rfl) (hr : fn.results = #[.tmp t] := by rfl) (hok : okC fn.ntmps [] c = true := by kernel_rfl) (hn : args.length ≤ fn.ntmps := by exact Nat.le_of_ble_eq_true rfl) : APure P f args R := apure1B [] hmo hf h hcall hb hr hok hn
def retC (P : Program) (t : Nat) (T : TypeId) (R : SV → Prop) (st : St) : Prop :=
 gc st (.tmp t) ∧ (ldV P st T (mv st (.tmp t))).2 ∧ isPv (ldV P st T (mv st (.tmp t))).1 ∧ R (ldV P st T (mv st (.tmp t))).1
theorem results_cell {P : Program} {fn : Func} {t : Nat} {T : TypeId} (hr : fn.results = #[.cell t T]) {g : Gh} {st : St} {a : Act} {w : World} (hs : Sim g st a w) (hg : gc st (.tmp t)) (hd : (ldV P st T (mv st (.tmp t))).2) :
 ∃ v, (results fn a.tmps).run P w = .ok v w ∧ SFit g w (ldV P st T (mv st (.tmp t))).1 v none := by
 obtain ⟨v, h1, h2, _⟩ := ldV_ok (P := P) (st := st) { dst := none, op := .load T (.tmp t), type := 0, pos := "", after := #[], guard := none } T (.tmp t) rfl g a w hs ⟨hg, hd⟩; refine ⟨v, ?_, h2⟩; simp only [execOp, Act.eval] at h1; have key : (asAddr (a.tmps.getD t undef) >>= loadVar T).run P w = .ok v w := by
  generalize a.tmps.getD t undef = u at h1; cases u with
  | pointer q =>
   cases q with
   | some q =>
    simp only [Instr.loadAt, Instr.sureAddr, Sem.run_bind, Sem.run_pure, Result.andThen_ok] at h1; simp only [asAddr, Sem.run_bind, Sem.run_pure, Result.andThen_ok]; cases hr2 : (loadVar T q).run P w with
    | ok x w2 => rw [hr2] at h1; simp at h1; obtain ⟨rfl, rfl⟩ := h1; rfl
    | halt x w2 => rw [hr2] at h1; cases h1
   | none => simp [Instr.loadAt, Instr.sureAddr, stuck] at h1
  | _ => simp [Instr.loadAt, Instr.sureAddr, stuck] at h1
 simp only [results, hr]; simpa using key
theorem apureCB {P : Program} (bad : List Nat) {f : FuncId} {fn : Func} {c : Code} {args : List PV} {R : SV → Prop} {t : Nat} {T : TypeId} (hmo : P.follows .mixedOrders = true) (hf : P.funcs[f]? = some fn) (h : AC P 0 bad c (endQ (retC P t T R)) ⟨argT 0 args, []⟩) (hcall : callable P f = true := by kernel_rfl) (hb : fn.body = some c := by rfl) (hr : fn.results = #[.cell t T] := by rfl) (hok : okC fn.ntmps bad c = true := by kernel_rfl) (hn : args.length ≤ fn.ntmps := by exact Nat.le_of_ble_eq_true rfl) : APure P f args R := by
 refine apure_of hmo hf hcall hb hok hn h fun w w' g' st' a' hk t' s' => ?_; obtain ⟨h1, h2, h3, h4⟩ := hk; obtain ⟨v, hv, hf'⟩ := results_cell (P := P) hr s' h1 h2; rw [isPv_eq h3] at hf' h4; exact ⟨_, _, g', none, hv, h4, pureEnd_of t' s', hf', rfl, fun c hc => by cases hc⟩
theorem apureC {P : Program} {f : FuncId} {fn : Func} {c : Code} {args : List PV} {R : SV → Prop} {t : Nat} {T : TypeId} (hmo : P.follows .mixedOrders = true) (hf : P.funcs[f]? = some fn) (h : AC P 0 [] c (endQ (retC P t T R)) ⟨argT 0 args, []⟩) (hcall : callable P f = true := by kernel_rfl) (hb : fn.body = some c := by rfl) (hr : fn.results = #[.cell t T] := by rfl) (hok : okC fn.ntmps [] c = true := by kernel_rfl) (hn : args.length ≤ fn.ntmps := by exact Nat.le_of_ble_eq_true rfl) : APure P f args R := apureCB [] hmo hf h hcall hb hr hok hn
theorem apureNB {P : Program} (bad : List Nat) {f : FuncId} {fn : Func} {c : Code} {args : List PV} {R : SV → Prop} (ts : List Nat) (hmo : P.follows .mixedOrders = true) (hf : P.funcs[f]? = some fn) (hr : ∀ tmps w, (results fn tmps).run P w = .ok (.tuple (ts.map fun t => tmps.getD t undef).toArray) w) (h : AC P 0 bad c (endQ (retN ts R)) ⟨argT 0 args, []⟩) (hcall : callable P f = true := by kernel_rfl) (hb : fn.body = some c := by rfl) (hok : okC fn.ntmps bad c = true := by kernel_rfl) (hn : args.length ≤ fn.ntmps := by exact Nat.le_of_ble_eq_true rfl) : APure P f args R := by
 refine apure_of hmo hf hcall hb hok hn h fun w w' g' st' a' hk t' s' => ?_; obtain ⟨g2, t2, _, _, s2, f2⟩ := embL_ok _ s' hk.1; refine ⟨_, _, g2, none, hr _ _, hk.2, pureEnd_of (t'.trans t2) s2, ⟨rfl, _, rfl, ?_⟩, rfl, fun c hc => by cases hc⟩; simpa [List.map_map, Function.comp_def, Act.eval] using f2
theorem apureN {P : Program} {f : FuncId} {fn : Func} {c : Code} {args : List PV} {R : SV → Prop} (ts : List Nat) (hmo : P.follows .mixedOrders = true) (hf : P.funcs[f]? = some fn) (hr : ∀ tmps w, (results fn tmps).run P w = .ok (.tuple (ts.map fun t => tmps.getD t undef).toArray) w) (h : AC P 0 [] c (endQ (retN ts R)) ⟨argT 0 args, []⟩) (hcall : callable P f = true := by kernel_rfl) (hb : fn.body = some c := by rfl) (hok : okC fn.ntmps [] c = true := by kernel_rfl) (hn : args.length ≤ fn.ntmps := by exact Nat.le_of_ble_eq_true rfl) : APure P f args R := apureNB [] ts hmo hf hr h hcall hb hok hn
/-! ### Results of any kind -/
def resV (P : Program) (st : St) : ResultVar → PV × St × Prop
 | .tmp t => emb st (.tmp t)
 | .cell t T => (toPv (ldV P (loadSt P st T (.tmp t)) T (mv (loadSt P st T (.tmp t)) (.tmp t))).1, loadSt P st T (.tmp t),
  gc (loadSt P st T (.tmp t)) (.tmp t) ∧ (ldV P (loadSt P st T (.tmp t)) T (mv (loadSt P st T (.tmp t)) (.tmp t))).2 ∧ isPv (ldV P (loadSt P st T (.tmp t)) T (mv (loadSt P st T (.tmp t)) (.tmp t))).1)
def resL (P : Program) (st : St) : List ResultVar → List PV × St × Prop
 | [] => ([], st, True)
 | r :: rs => ((resV P st r).1 :: (resL P (resV P st r).2.1 rs).1, (resL P (resV P st r).2.1 rs).2.1, (resV P st r).2.2 ∧ (resL P (resV P st r).2.1 rs).2.2)
def resOut : List PV → PV
 | [x] => x
 | xs => .tup xs
def oneRes (tmps : Array Value) : ResultVar → Sem Value
 | .tmp t => pure (tmps.getD t undef)
 | .cell a t => do loadVar t (← asAddr (tmps.getD a undef))
theorem oneRes_cell {P : Program} {t : Nat} {T : TypeId} {g : Gh} {st : St} {a : Act} {w : World} (hs : Sim g st a w) (hg : gc st (.tmp t)) (hd : (ldV P st T (mv st (.tmp t))).2) :
 ∃ v, (oneRes a.tmps (.cell t T)).run P w = .ok v w ∧ SFit g w (ldV P st T (mv st (.tmp t))).1 v none := by
 obtain ⟨v, h1, h2, _⟩ := ldV_ok (P := P) (st := st) { dst := none, op := .load T (.tmp t), type := 0, pos := "", after := #[], guard := none } T (.tmp t) rfl g a w hs ⟨hg, hd⟩; refine ⟨v, ?_, h2⟩; simp only [execOp, Act.eval] at h1; have key : (asAddr (a.tmps.getD t undef) >>= loadVar T).run P w = .ok v w := by
  generalize a.tmps.getD t undef = u at h1; cases u with
  | pointer q =>
   cases q with
   | some q =>
    simp only [Instr.loadAt, Instr.sureAddr, Sem.run_bind, Sem.run_pure, Result.andThen_ok] at h1; simp only [asAddr, Sem.run_bind, Sem.run_pure, Result.andThen_ok]; cases hr2 : (loadVar T q).run P w with
    | ok x w2 => rw [hr2] at h1; simp at h1; obtain ⟨rfl, rfl⟩ := h1; rfl
    | halt x w2 => rw [hr2] at h1; cases h1
   | none => simp [Instr.loadAt, Instr.sureAddr, stuck] at h1
  | _ => simp [Instr.loadAt, Instr.sureAddr, stuck] at h1
 exact key
theorem resV_ok {P : Program} (r : ResultVar) {g : Gh} {st : St} {a : Act} {w : World} (h : Sim g st a w) (hd : (resV P st r).2.2) :
 ∃ g', g.to g' ∧ g.le g' ∧ g'.n = g.n ∧ Sim g' (resV P st r).2.1 a w ∧ ∃ v, (oneRes a.tmps r).run P w = .ok v w ∧ Fit g' (resV P st r).1 v := by
 cases r with
 | tmp t =>
  obtain ⟨g1, t1, l1, n1, s1, f1⟩ := emb_ok h (.tmp t) hd; exact ⟨g1, t1, l1, n1, s1, a.tmps.getD t undef, rfl, f1⟩
 | cell t T =>
  obtain ⟨h1, h2, h3⟩ := hd; obtain ⟨g1, t1, l1, n1, s1⟩ := loadSt_ok (P := P) T (.tmp t) h; obtain ⟨v, hv, hf⟩ := oneRes_cell s1 h1 h2; rw [isPv_eq h3] at hf; exact ⟨g1, t1, l1, n1, s1, v, hv, hf.2⟩
theorem resL_ok {P : Program} : ∀ (rs : List ResultVar) {g : Gh} {st : St} {a : Act} {w : World}, Sim g st a w → (resL P st rs).2.2 →
 ∃ g', g.to g' ∧ g.le g' ∧ g'.n = g.n ∧ Sim g' (resL P st rs).2.1 a w ∧ ∃ vs, (rs.mapM (oneRes a.tmps)).run P w = .ok vs w ∧ FitL g' (resL P st rs).1 vs
 | [], g, st, a, w, h, _ => ⟨g, h.refl_to, Gh.le.refl g, rfl, h, [], rfl, rfl⟩
 | r :: rs, g, st, a, w, h, hd => by
  obtain ⟨g1, t1, l1, n1, s1, v, e1, f1⟩ := resV_ok r h hd.1; obtain ⟨g2, t2, l2, n2, s2, vs, e2, f2⟩ := resL_ok rs s1 hd.2; refine ⟨g2, t1.trans t2, ⟨fun c o hc => l2.I _ _ (l1.I _ _ hc), Nat.le_trans l2.B l1.B, by rw [n2, n1]; exact Nat.le_refl _, fun b hb => by rw [l2.μ b (by rw [n1]; exact hb), l1.μ b hb]⟩, n2.trans n1, s2, v :: vs, ?_, v, vs, rfl, Fit.mono l2 _ _ f1, f2⟩; simp only [List.mapM_cons, Sem.run_bind, e1, Result.andThen_ok, e2, Sem.run_pure]
theorem results_run {P : Program} {fn : Func} {rs : List ResultVar} (hr : fn.results = rs.toArray) {g : Gh} {a : Act} {w : World} {xs : List PV} {vs : List Value} (hl : xs.length = rs.length) (h : (rs.mapM (oneRes a.tmps)).run P w = .ok vs w) (hf : FitL g xs vs) :
 ∃ v, (results fn a.tmps).run P w = .ok v w ∧ Fit g (resOut xs) v := by
 have hm : results fn a.tmps = (do let vs ← fn.results.mapM (oneRes a.tmps); pure (if h : vs.size = 1 then vs[0] else .tuple vs)) := by
  unfold results; congr 1
 have hlen := hf.length; rw [hm, hr, List.mapM_toArray]; simp only [Sem.run_bind, Sem.run_map, h, Result.andThen_ok, Sem.run_pure]; by_cases h1 : vs.length = 1
 ·obtain ⟨v, rfl⟩ := List.length_eq_one_iff.1 h1; obtain ⟨x, rfl⟩ : ∃ x, xs = [x] := List.length_eq_one_iff.1 (by rw [← hlen]; rfl); refine ⟨v, by simp, ?_⟩; obtain ⟨v', r, e1, f, _⟩ := hf; cases e1; exact f
 ·refine ⟨.tuple vs.toArray, by rw [dif_neg (by simpa using h1)], ?_⟩; have : resOut xs = .tup xs := by
   match xs, hlen with
   | [], _ => rfl
   | [x], hl => exact absurd hl h1
   | x :: y :: r, _ => rfl
  rw [this]; exact ⟨vs.toArray, rfl, by simpa using hf⟩
theorem resL_len {P : Program} : ∀ (rs : List ResultVar) (st : St), (resL P st rs).1.length = rs.length
 | [], _ => rfl
 | r :: rs, st => by simp only [resL, List.length_cons, resL_len rs]
def retX (P : Program) (rs : List ResultVar) (R : SV → Prop) (st : St) : Prop := (resL P st rs).2.2 ∧ R (.pv (resOut (resL P st rs).1))
theorem apureX {P : Program} (bad : List Nat) {f : FuncId} {fn : Func} {c : Code} {args : List PV} {R : SV → Prop} (rs : List ResultVar) (hmo : P.follows .mixedOrders = true) (hf : P.funcs[f]? = some fn) (h : AC P 0 bad c (endQ (retX P rs R)) ⟨argT 0 args, []⟩) (hcall : callable P f = true := by kernel_rfl) (hb : fn.body = some c := by rfl) (hr : fn.results = rs.toArray := by rfl) (hok : okC fn.ntmps bad c = true := by kernel_rfl) (hn : args.length ≤ fn.ntmps := by exact Nat.le_of_ble_eq_true rfl) : APure P f args R := by
 refine apure_of hmo hf hcall hb hok hn h fun w w' g' st' a' hk t' s' => ?_; obtain ⟨g2, t2, l2, n2, s2, vs, e2, f2⟩ := resL_ok rs s' hk.1; obtain ⟨v, e3, f3⟩ := results_run hr (resL_len rs st') e2 f2; exact ⟨v, _, g2, none, e3, hk.2, pureEnd_of (t'.trans t2) s2, ⟨rfl, f3⟩, rfl, fun c hc => by cases hc⟩
end Go.AX

namespace Go.AX
open Classical
noncomputable def gIn (g : Gh) (w : World) (bl : Pos → Option Nat) (N : Nat) : Gh :=
 { I := g.I, F := fun c => if ∃ s, bl (.slot s) = some c then w.heap[c]? else g.F c, B := g.B, μ := g.μ, n := g.n, n0 := g.n, N := N, env := g.env }
theorem gIn_slot {g : Gh} {st : St} {a : Act} {w : World} {bl : Pos → Option Nat} (hb : Owns g st a w bl) (N : Nat) {s c : Nat} (h : bl (.slot s) = some c) : ∃ o, (gIn g w bl N).F c = some o ∧ w.heap[c]? = some o := by
 have hlt := (hb.free _ c h).2.2.1; refine ⟨w.heap[c], ?_, Array.getElem?_eq_getElem hlt⟩; show (if ∃ s, bl (.slot s) = some c then w.heap[c]? else g.F c) = _; rw [if_pos ⟨s, h⟩, Array.getElem?_eq_getElem hlt]
theorem gIn_none {g : Gh} {st : St} {a : Act} {w : World} {bl : Pos → Option Nat} (hb : Owns g st a w bl) {N c : Nat} (h : (gIn g w bl N).F c = none) : g.F c = none ∧ ∀ s, bl (.slot s) ≠ some c := by
 have h2 : ∀ s, bl (.slot s) ≠ some c := fun s hs => by
  obtain ⟨o, h1, _⟩ := gIn_slot hb N hs; rw [h] at h1; cases h1
 refine ⟨?_, h2⟩; have : (if ∃ s, bl (.slot s) = some c then w.heap[c]? else g.F c) = none := h
 rwa [if_neg (fun ⟨s, hs⟩ => h2 s hs)] at this
theorem sim_in {g : Gh} {st : St} {a : Act} {w : World} (h : Sim g st a w) {bl : Pos → Option Nat} (hb : Owns g st a w bl) {N : Nat} {args : List PV} {vs : List Value} (hv : FitL g args vs) (hn : args.length ≤ N) :
    Sim (gIn g w bl N) ⟨argT 0 args, st.h⟩ { tmps := vs.toArray ++ Array.replicate (N - vs.toArray.size) undef, defers := [] } w := by
  have hl := hv.length
  have hle : g.le (gIn g w bl N) := ⟨fun _ _ h => h, Nat.le_refl _, Nat.le_refl _, fun _ _ => rfl⟩
  have hgd : ∀ s, (vs.toArray ++ Array.replicate (N - vs.toArray.size) undef).getD s undef = vs.getD s undef := by
    intro s
    simp only [Array.getD_eq_getD_getElem?, List.getD_eq_getElem?_getD, Array.getElem?_append, List.size_toArray, List.getElem?_toArray, Array.getElem?_replicate]
    split
    · rfl
    · rename_i hs
      rw [List.getElem?_eq_none (by omega)]
      split <;> rfl
  refine { size := ?_, defs := rfl, env := h.env, n := h.n, n0 := Nat.le_refl _, B := h.B, I := h.I, F := fun c o hc => ?_, μI := fun b hbn => ⟨(h.μI b hbn).1, ?_⟩, μinj := h.μinj,
           own := ⟨fun p => match p with | .slot _ => none | .cell b k => bl (.cell b k), ?_⟩, al := fun s => ?_ }
  · show (vs.toArray ++ Array.replicate (N - vs.toArray.size) undef).size = N
    simp; omega
  · change (if ∃ s, bl (.slot s) = some c then w.heap[c]? else g.F c) = some o at hc
    split at hc
    · exact hc
    · exact h.F c o hc
  · show (if ∃ s, bl (.slot s) = some (g.μ b) then w.heap[g.μ b]? else g.F (g.μ b)) = none
    rw [if_neg (fun ⟨s, hs⟩ => (hb.free _ _ hs).2.2.2 b hbn rfl)]
    exact (h.μI b hbn).2
  · refine { slots := fun s => ?_, blocks := fun b xs hx => ?_, inj := fun p q c hp hq => ?_, free := fun p c hp => ?_ }
    · show SFit _ w _ ((vs.toArray ++ Array.replicate (N - vs.toArray.size) undef).getD s undef) none
      rw [hgd]
      have := look_argT (gIn g w bl N) args vs 0 s (FitL.mono hle _ _ hv) w
      simpa using this
    · obtain ⟨arr, T, h1, h2, h3⟩ := hb.blocks b xs hx
      exact ⟨arr, T, h1, h2, fun k x hk => ⟨(h3 k x hk).1, SFit.frame hle (fun _ _ => rfl) (h3 k x hk).2⟩⟩
    · cases p with
      | slot s => cases hp
      | cell b k =>
        cases q with
        | slot s => cases hq
        | cell b' k' => exact hb.inj _ _ c hp hq
    · cases p with
      | slot s => cases hp
      | cell b k =>
        obtain ⟨f1, f2, f3, f4⟩ := hb.free _ c hp
        refine ⟨f1, ?_, f3, f4⟩
        show (if ∃ s, bl (.slot s) = some c then w.heap[c]? else g.F c) = none
        rw [if_neg (fun ⟨s, hs⟩ => by have := hb.inj _ _ c hs hp; cases this)]
        exact f2
  · obtain ⟨x, hx⟩ := noOwn_argT args 0 s
    simp only [hx]; trivial
def gOut (g g2 : Gh) : Gh := { g2 with F := g.F, n0 := g.n0, N := g.N }
theorem to_out {g : Gh} {st : St} {a : Act} {w : World} (h : Sim g st a w) {bl : Pos → Option Nat} (hb : Owns g st a w bl) {N : Nat} {g2 : Gh} (t : (gIn g w bl N).to g2) : g.to (gOut g g2) :=
 ⟨t.I, rfl, t.B, rfl, rfl, t.env, Nat.le_trans h.n0 t.n, fun b hbn => t.μ b (Nat.lt_of_lt_of_le hbn h.n0), fun c hF hI => t.FI c (fun hn => hF (gIn_none hb hn).1) hI⟩
theorem sim_out {g : Gh} {st : St} {a : Act} {w : World} (h : Sim g st a w) {bl : Pos → Option Nat} (hb : Owns g st a w bl) {N : Nat} {g2 : Gh} (t : (gIn g w bl N).to g2) {st2 : St} {a2 : Act} {w2 : World} (s2 : Sim g2 st2 a2 w2)
 {bl2 : Pos → Option Nat} (hb2 : Owns g2 st2 a2 w2 bl2) : Sim (gOut g g2) ⟨killL qCell st.t, st2.h⟩ a w2 ∧
  Owns (gOut g g2) ⟨killL qCell st.t, st2.h⟩ a w2 (fun p => match p with | .slot s => bl (.slot s) | .cell b k => bl2 (.cell b k)) := by
 have hF2 : g2.F = (gIn g w bl N).F := t.F; have hle : g.le (gOut g g2) := ⟨t.I, by show g2.B ≤ g.B; rw [t.B]; exact Nat.le_refl _, t.n, fun b hbn => t.μ b hbn⟩; have hle2 : g2.le (gOut g g2) := ⟨fun _ _ h => h, Nat.le_refl _, Nat.le_refl _, fun _ _ => rfl⟩; have hslot : ∀ s c, bl (.slot s) = some c → ∃ o, g2.F c = some o ∧ w.heap[c]? = some o ∧ w2.heap[c]? = some o := fun s c hs => by
  obtain ⟨o, h1, h2⟩ := gIn_slot hb N hs; rw [← hF2] at h1; exact ⟨o, h1, h2, s2.F c o h1⟩
 have hFn : ∀ c, g2.F c = none → g.F c = none ∧ ∀ s, bl (.slot s) ≠ some c := fun c hc => gIn_none (N := N) hb (by rw [← hF2]; exact hc); have hown : Owns (gOut g g2) ⟨killL qCell st.t, st2.h⟩ a w2 (fun p => match p with | .slot s => bl (.slot s) | .cell b k => bl2 (.cell b k)) := by
  refine { slots := fun s => ?_, blocks := fun b xs hx => ?_, inj := fun p q c hp hq => ?_, free := fun p c hp => ?_ }
  ·simp only [look_kill]; exact SFit.frame hle (fun c hc => by obtain ⟨o, _, h2, h3⟩ := hslot s c hc; rw [h2, h3]) (SFit.kill qCell (hb.slots s))
  ·obtain ⟨arr, T, h1, h2, h3⟩ := hb2.blocks b xs hx; exact ⟨arr, T, h1, h2, fun k x hk => ⟨(h3 k x hk).1, SFit.frame hle2 (fun _ _ => rfl) (h3 k x hk).2⟩⟩
  ·cases p with
   | slot s =>
    cases q with
    | slot s' => exact hb.inj _ _ c hp hq
    | cell b k => exact absurd hp ((hFn c (hb2.free _ c hq).2.1).2 s)
   | cell b k =>
    cases q with
    | slot s' => exact absurd hq ((hFn c (hb2.free _ c hp).2.1).2 s')
    | cell b' k' => exact hb2.inj _ _ c hp hq
  ·cases p with
   | slot s =>
    obtain ⟨f1, f2, f3, f4⟩ := hb.free _ c hp; obtain ⟨o, h1, _, h3⟩ := hslot s c hp; refine ⟨t.FI c (fun hn => by rw [hF2, hn] at h1; cases h1) f1, f2, (Array.getElem?_eq_some_iff.1 h3).1, fun b hbn e => ?_⟩; have := (s2.μI b hbn).2
    change g2.μ b = c at e
    rw [e, h1] at this; cases this
   | cell b k =>
    obtain ⟨f1, f2, f3, f4⟩ := hb2.free _ c hp; exact ⟨f1, (hFn c f2).1, f3, f4⟩
 refine ⟨{ size := h.size, defs := h.defs, env := s2.env, n := s2.n, n0 := Nat.le_trans h.n0 t.n, B := s2.B, I := s2.I, F := fun c o hc => ?_, μI := fun b hbn => ⟨(s2.μI b hbn).1, (hFn _ (s2.μI b hbn).2).1⟩, μinj := s2.μinj, own := ⟨_, hown⟩, al := fun s => ?_ }, hown⟩
 ·refine s2.F c o ?_; rw [hF2]; show (if ∃ s, bl (.slot s) = some c then w.heap[c]? else g.F c) = some o; rw [if_neg (fun ⟨s, hs⟩ => by have := (hb.free _ c hs).2.1; change g.F c = some o at hc; rw [this] at hc; cases hc)]; exact hc
 ·simp only [look_kill]; rcases killS_cases qCell (look st.t s) with e | ⟨e, hav⟩
  ·rw [e]; trivial
  ·rw [e]; refine AlOk.congrA (q := qCell) (fun p hqp hp => ?_) hav (h.al s); cases p with
   | cell b k => cases hqp
   | slot s' =>
    simp only [posGet, look_kill] at hp ⊢; exact ⟨killS_own hp, rfl⟩
theorem amut_of {P : Program} {bad : List Nat} {f : FuncId} {fn : Func} {c : Code} {args : List PV} {h : List (List SV)} {R : SV → List (List SV) → Prop} {K : St → Prop} (hmo : P.follows .mixedOrders = true) (hf : P.funcs[f]? = some fn) (hcall : callable P f = true) (hb : fn.body = some c)
 (hok : okC fn.ntmps bad c = true) (hn : args.length ≤ fn.ntmps) (hA : AC P h.length bad c (endQ K) ⟨argT 0 args, h⟩)
 (hK : ∀ (g' : Gh) (st' : St) (a' : Act) (w' : World), K st' → g'.n0 ≤ h.length → Sim g' st' a' w' → ∃ v r g2 st2 bl2 o, (results fn a'.tmps).run P w' = .ok v w' ∧ g'.to g2 ∧ Sim g2 st2 a' w' ∧ Owns g2 st2 a' w' bl2 ∧ R r st2.h ∧ SFit g2 w' r v o ∧ r.inCell = true ∧ ∀ c, o = some c → ∃ t, bl2 (.slot t) = some c) :
 AMut P f args h R := by
 refine ⟨hcall, fun g st a w vs hs hh hv => ?_⟩; refine calls_of_wp hf hb ?_; obtain ⟨bl, hbl⟩ := hs.own; have hsi := sim_in hs hbl (N := fn.ntmps) hv hn; rw [hh] at hsi; refine AC_wp hmo c hA (g := gIn g w bl fn.ntmps) ⟨hok, by show g.n ≤ h.length; rw [hs.n, hh]; exact Nat.le_refl _⟩ hsi fun e st' g' a' w' hq t' s' => ?_; have fin : K st' → a'.defers = [] ∧ ∃ v, (results fn a'.tmps).run P w' = .ok v w' ∧ ∃ v' r h' g', Ending.returned v = .returned v' ∧ R r h' ∧ g.to g' ∧ ∀ d, dstOk g.N d → Sim g' (putR d r ⟨killL qCell st.t, h'⟩) (a.put d v') w' := fun hk => by
  obtain ⟨v, r, g2, st2, bl2, o, h1, h2, h3, h4, h5, h6, h7, h8⟩ := hK g' st' a' w' hk (by rw [t'.n0]; show g.n ≤ _; rw [hs.n, hh]; exact Nat.le_refl _) s'; have t2 := t'.trans h2; obtain ⟨so, oo⟩ := sim_out hs hbl t2 h3 h4; refine ⟨s'.defs, v, h1, v, r, st2.h, gOut g g2, rfl, h5, to_out hs hbl t2, fun d hd => ?_⟩; have hle2 : g2.le (gOut g g2) := ⟨fun _ _ h => h, Nat.le_refl _, Nat.le_refl _, fun _ _ => rfl⟩; have hfit : SFit (gOut g g2) w' r v o := SFit.frame hle2 (fun _ _ => rfl) h6; cases d with
  | none => exact so
  | some d =>
   have hfree : ∀ c, o = some c → c < w'.heap.size ∧ FreeAt (gOut g g2) (fun p => match p with | .slot s => bl (.slot s) | .cell b k => bl2 (.cell b k)) c := fun c hc => by
    obtain ⟨t, ht⟩ := h8 c hc; obtain ⟨f1, f2, f3, f4⟩ := h4.free _ c ht; have hFn := gIn_none (N := fn.ntmps) hbl (c := c) (by rw [← t2.F]; exact f2); refine ⟨f3, f1, hFn.1, f4, fun p hp => ?_⟩; cases p with
    | slot s => exact hFn.2 s hp
    | cell b k => have := h4.inj _ _ c ht hp; cases this
   cases r with
   | pv x => exact so.put hd (by rw [hfit.1] at hfit; exact hfit) trivial rfl
   | own nw e rows => exact so.putOwn oo hd rfl (Nat.le_refl _) (fun _ _ _ => rfl) hfit rfl hfree
   | omap nw es => exact so.putOwn oo hd rfl (Nat.le_refl _) (fun _ _ _ => rfl) hfit rfl hfree
   | _ => cases h7
 cases e with
 | normal => exact fin hq
 | ret => exact fin hq
 | _ => exact hq.elim
def retM (t : Nat) (R : SV → List (List SV) → Prop) (st : St) : Prop :=
 match look st.t t with
 | .pv x => R (.pv x) st.h
 | .own nw e rows => R (.own nw e rows) st.h
 | .omap nw es => R (.omap nw es) st.h
 | .opt c (.pv x) => c ∧ R (.pv x) st.h
 | _ => False
def retMN (ts : List Nat) (R : SV → List (List SV) → Prop) (st : St) : Prop := (embL st (ts.map .tmp)).2.2 ∧ R (.pv (.tup (embL st (ts.map .tmp)).1)) (embL st (ts.map .tmp)).2.1.h
theorem amut1B {P : Program} (bad : List Nat) {f : FuncId} {fn : Func} {c : Code} {args : List PV} {h : List (List SV)} {R : SV → List (List SV) → Prop} {t : Nat} (hmo : P.follows .mixedOrders = true) (hf : P.funcs[f]? = some fn) (hA : AC P h.length bad c (endQ (retM t R)) ⟨argT 0 args, h⟩) (hcall : callable P f = true := by kernel_rfl) (hb : fn.body = some c := by rfl) (hr : fn.results = #[.tmp t] := by rfl) (hok : okC fn.ntmps bad c = true := by kernel_rfl) (hn : args.length ≤ fn.ntmps := by exact Nat.le_of_ble_eq_true rfl) : AMut P f args h R := by
 refine amut_of hmo hf hcall hb hok hn hA fun g' st' a' w' hk _ s' => ?_; obtain ⟨bl, hb⟩ := s'.own; have hfit := hb.slots t; unfold retM at hk; split at hk
 ·rename_i x hx; rw [hx] at hfit; exact ⟨_, .pv x, g', st', bl, none, results_tmp hr _ _ _, s'.refl_to, s', hb, hk, ⟨rfl, hfit.2⟩, rfl, fun c hc => by cases hc⟩
 ·rename_i nw e rows hx; rw [hx] at hfit; exact ⟨_, _, g', st', bl, _, results_tmp hr _ _ _, s'.refl_to, s', hb, hk, hfit, rfl, fun c hc => ⟨t, hc⟩⟩
 ·rename_i nw es hx; rw [hx] at hfit; exact ⟨_, _, g', st', bl, _, results_tmp hr _ _ _, s'.refl_to, s', hb, hk, hfit, rfl, fun c hc => ⟨t, hc⟩⟩
 ·rename_i cc x hx; rw [hx] at hfit; exact ⟨_, .pv x, g', st', bl, none, results_tmp hr _ _ _, s'.refl_to, s', hb, hk.2, ⟨rfl, (hfit.2.2 hk.1).2⟩, rfl, fun c hc => by cases hc⟩
 ·exact hk.elim
theorem amut1 {P : Program} {f : FuncId} {fn : Func} {c : Code} {args : List PV} {h : List (List SV)} {R : SV → List (List SV) → Prop} {t : Nat} (hmo : P.follows .mixedOrders = true) (hf : P.funcs[f]? = some fn) (hA : AC P h.length [] c (endQ (retM t R)) ⟨argT 0 args, h⟩) (hcall : callable P f = true := by kernel_rfl) (hb : fn.body = some c := by rfl) (hr : fn.results = #[.tmp t] := by rfl) (hok : okC fn.ntmps [] c = true := by kernel_rfl) (hn : args.length ≤ fn.ntmps := by exact Nat.le_of_ble_eq_true rfl) : AMut P f args h R := amut1B [] hmo hf hA hcall hb hr hok hn
theorem amutNB {P : Program} (bad : List Nat) {f : FuncId} {fn : Func} {c : Code} {args : List PV} {h : List (List SV)} {R : SV → List (List SV) → Prop} (ts : List Nat) (hmo : P.follows .mixedOrders = true) (hf : P.funcs[f]? = some fn) (hr : ∀ tmps w, (results fn tmps).run P w = .ok (.tuple (ts.map fun t => tmps.getD t undef).toArray) w) (hA : AC P h.length bad c (endQ (retMN ts R)) ⟨argT 0 args, h⟩) (hcall : callable P f = true := by kernel_rfl) (hb : fn.body = some c := by rfl) (hok : okC fn.ntmps bad c = true := by kernel_rfl) (hn : args.length ≤ fn.ntmps := by exact Nat.le_of_ble_eq_true rfl) : AMut P f args h R := by
 refine amut_of hmo hf hcall hb hok hn hA fun g' st' a' w' hk _ s' => ?_; obtain ⟨g2, t2, _, _, s2, f2⟩ := embL_ok _ s' hk.1; obtain ⟨bl2, hb2⟩ := s2.own; refine ⟨_, _, g2, _, bl2, none, hr _ _, t2, s2, hb2, hk.2, ⟨rfl, _, rfl, ?_⟩, rfl, fun c hc => by cases hc⟩; simpa [List.map_map, Function.comp_def, Act.eval] using f2
theorem amutN {P : Program} {f : FuncId} {fn : Func} {c : Code} {args : List PV} {h : List (List SV)} {R : SV → List (List SV) → Prop} (ts : List Nat) (hmo : P.follows .mixedOrders = true) (hf : P.funcs[f]? = some fn) (hr : ∀ tmps w, (results fn tmps).run P w = .ok (.tuple (ts.map fun t => tmps.getD t undef).toArray) w) (hA : AC P h.length [] c (endQ (retMN ts R)) ⟨argT 0 args, h⟩) (hcall : callable P f = true := by kernel_rfl) (hb : fn.body = some c := by rfl) (hok : okC fn.ntmps [] c = true := by kernel_rfl) (hn : args.length ≤ fn.ntmps := by exact Nat.le_of_ble_eq_true rfl) : AMut P f args h R := amutNB [] ts hmo hf hr hA hcall hb hok hn
def retMX (P : Program) (rs : List ResultVar) (R : SV → List (List SV) → Prop) (st : St) : Prop := (resL P st rs).2.2 ∧ R (.pv (resOut (resL P st rs).1)) (resL P st rs).2.1.h
theorem amutX {P : Program} (bad : List Nat) {f : FuncId} {fn : Func} {c : Code} {args : List PV} {h : List (List SV)} {R : SV → List (List SV) → Prop} (rs : List ResultVar) (hmo : P.follows .mixedOrders = true) (hf : P.funcs[f]? = some fn) (hA : AC P h.length bad c (endQ (retMX P rs R)) ⟨argT 0 args, h⟩) (hcall : callable P f = true := by kernel_rfl) (hb : fn.body = some c := by rfl) (hr : fn.results = rs.toArray := by rfl) (hok : okC fn.ntmps bad c = true := by kernel_rfl) (hn : args.length ≤ fn.ntmps := by exact Nat.le_of_ble_eq_true rfl) : AMut P f args h R := by
 refine amut_of hmo hf hcall hb hok hn hA fun g' st' a' w' hk _ s' => ?_; obtain ⟨g2, t2, l2, n2, s2, vs, e2, f2⟩ := resL_ok rs s' hk.1; obtain ⟨v, e3, f3⟩ := results_run hr (resL_len rs st') e2 f2; obtain ⟨bl2, hb2⟩ := s2.own; exact ⟨v, _, g2, _, bl2, none, e3, t2, s2, hb2, hk.2, ⟨rfl, f3⟩, rfl, fun c hc => by cases hc⟩
end Go.AX

namespace Go.AX
attribute [simp] look posGet SV.isOwn SV.inCell ev mvS mv gcS gc asK asI isI asB isB asS isS binI binB binS nilness isNilConst binP asFlat flatKinds isFlat binF isPtr isNilSl rowsOf slOk lenSl lenStr fldA live fieldV idxSl idxV cellSV ld1 isPv toPv ldn ldV unV pickV extV pcells isAggV partV cvtV ckV cutSl bnd bndOk cutV St.put killS killL SV.avoids qSlot setPos St.grow splice qCells frozenOf callV binV pop PV.one allOne embPos emb embL putD takeS frzW frzL frzR frzE frzC vw vwOk PV.nw nwL nwR nwE SV.nwS putR calleeOf vwOkL storeK buildSl appendK callE popK AE gslot gcond frzS SV.isFree AGp AGs AG tmpOf tmpsOf optmpOf opTmps looks preLen restr qDst kq bots dstsOf wkv wkL seqQ blockQ scopeQ argT endQ ret1 retN viewsOf callG callQ0 callQ ptrCallX ptrCall isPtrP isPtrS qCell retM retMN buildV bFill partsOk partsV indexV allPv pvsOf makeFV amLook entriesOf isMap lookV makeSl mapUp amPut mapDl amDel PV.bel belowL belowR belowE SV.bel belowT belowC belowH unread preLenW AStep AQs ADraw SV.int SV.bool plainArgs retC popQ bslV frzOk1 frzOk alOf memN fnd vwA ptrAny ptrAnyS storeO moveSt moveAg anyPart agPart noPart carry cutOf aPart aFill aParts aPartsOk aglV aglK AEx mvIn moved aOwn boxedIn ownAny boxK AStepI anyPos WeakTo loadSt frzCells resV resL resOut retX retMX partOf ownE ownRows ownNw putS oldL oldR oldE PV.old hintOk clearK allLit copyK copyE copyV isLoc isLit litsL cpN nilK mapNil cut3V u8s byteSl cvB AForks AForksO
@[simp] theorem cells_int (k : IntKind) (n : Int) : (Value.int k n).cells = #[.int k n] := rfl
@[simp] theorem oc_int (k : IntKind) (n : Int) : (Value.int k n).oneCell' = true := rfl
@[simp] theorem oc_bool (b : Bool) : (Value.bool b).oneCell' = true := rfl
@[simp] theorem oc_string (s : ByteArray) : (Value.string s).oneCell' = true := rfl
@[simp] theorem oc_ptr (p : Option Addr) : (Value.pointer p).oneCell' = true := rfl
@[simp] theorem oc_slice (p : Option Addr) (n c : Nat) : (Value.slice p n c).oneCell' = true := rfl
@[simp] theorem oc_map (r : Option Nat) : (Value.map r).oneCell' = true := rfl
@[simp] theorem oc_func (f : Fn) (a b : Array Value) : (Value.func f a b).oneCell' = true := rfl
@[simp] theorem range_0 : List.range 0 = [] := rfl
@[simp] theorem range_1 : List.range 1 = [0] := rfl
@[simp] theorem range_2 : List.range 2 = [0, 1] := rfl
@[simp] theorem range_3 : List.range 3 = [0, 1, 2] := rfl
@[simp] theorem range_4 : List.range 4 = [0, 1, 2, 3] := rfl
@[simp] theorem range_5 : List.range 5 = [0, 1, 2, 3, 4] := rfl
@[simp] theorem range_6 : List.range 6 = [0, 1, 2, 3, 4, 5] := rfl
@[simp] theorem range_7 : List.range 7 = [0, 1, 2, 3, 4, 5, 6] := rfl
@[simp] theorem range_8 : List.range 8 = [0, 1, 2, 3, 4, 5, 6, 7] := rfl
@[simp] theorem range_9 : List.range 9 = [0, 1, 2, 3, 4, 5, 6, 7, 8] := rfl
@[simp] theorem range_10 : List.range 10 = [0, 1, 2, 3, 4, 5, 6, 7, 8, 9] := rfl
@[simp] theorem range_11 : List.range 11 = [0, 1, 2, 3, 4, 5, 6, 7, 8, 9, 10] := rfl
@[simp] theorem range_12 : List.range 12 = [0, 1, 2, 3, 4, 5, 6, 7, 8, 9, 10, 11] := rfl
@[simp] theorem range_13 : List.range 13 = [0, 1, 2, 3, 4, 5, 6, 7, 8, 9, 10, 11, 12] := rfl
@[simp] theorem range_14 : List.range 14 = [0, 1, 2, 3, 4, 5, 6, 7, 8, 9, 10, 11, 12, 13] := rfl
@[simp] theorem range_15 : List.range 15 = [0, 1, 2, 3, 4, 5, 6, 7, 8, 9, 10, 11, 12, 13, 14] := rfl
@[simp] theorem range_16 : List.range 16 = [0, 1, 2, 3, 4, 5, 6, 7, 8, 9, 10, 11, 12, 13, 14, 15] := rfl
/-! ### Steps: what is still to come stays folded -/
section
variable {P : Program} {k0 : Nat} {bad : List Nat} {Q : Exit → St → Prop} {st : St} {K : St → Prop} {ops : List Oper}
@[simp] theorem AC_skip : AC P k0 bad .skip Q st = Q .normal st := rfl
@[simp] theorem AC_region0 (id : Nat) (ops : Array Oper) : AC P k0 bad (.region id ops false) Q st = if memN bad id = true then ASem P k0 ops (Q .normal) st else AOps P ops.toList (Q .normal) ops.toList st := rfl
@[simp] theorem AC_region1 (id : Nat) (ops : Array Oper) : AC P k0 bad (.region id ops true) Q st = if memN bad id = true then AAnyD P k0 ops (Q .normal) st else ADraw P ops.toList (Q .normal) st := rfl
@[simp] theorem AC_seq (x y : Code) : AC P k0 bad (.seq x y) Q st = AC P k0 bad x (seqQ (AC P k0 bad y Q) Q) st := rfl
@[simp] theorem AC_cond (c : Operand) (x y : Code) : AC P k0 bad (.cond c x y) Q st = (gc st c ∧ isB (mv st c) ∧ (asB (mv st c) = true → AC P k0 bad x Q st) ∧ (asB (mv st c) = false → AC P k0 bad y Q st)) := rfl
@[simp high] theorem AC_cond_t (c : Operand) (x y : Code) (h : asB (mv st c) = true) : AC P k0 bad (.cond c x y) Q st = (gc st c ∧ isB (mv st c) ∧ AC P k0 bad x Q st) := by
 rw [AC_cond, h]; exact propext ⟨fun ⟨a, b, c, _⟩ => ⟨a, b, c rfl⟩, fun ⟨a, b, c⟩ => ⟨a, b, fun _ => c, fun h => by cases h⟩⟩
@[simp high] theorem AC_cond_f (c : Operand) (x y : Code) (h : asB (mv st c) = false) : AC P k0 bad (.cond c x y) Q st = (gc st c ∧ isB (mv st c) ∧ AC P k0 bad y Q st) := by
 rw [AC_cond, h]; exact propext ⟨fun ⟨a, b, _, c⟩ => ⟨a, b, c rfl⟩, fun ⟨a, b, c⟩ => ⟨a, b, (fun h => by cases h), fun _ => c⟩⟩
@[simp] theorem AC_block (id : Nat) (x : Code) : AC P k0 bad (.block id x) Q st = AC P k0 bad x (blockQ id Q) st := rfl
@[simp] theorem AC_label (l : Nat) : AC P k0 bad (.label l) Q st = Q .normal st := rfl
@[simp] theorem AC_scope (x : Code) : AC P k0 bad (.scope x) Q st = AC P k0 bad x (scopeQ Q) st := rfl
@[simp] theorem AC_exit (id : Nat) : AC P k0 bad (.exit id) Q st = Q (.exit id) st := rfl
@[simp] theorem AC_ret : AC P k0 bad .ret Q st = Q .ret st := rfl
@[simp] theorem AC_loop (x : Code) : AC P k0 bad (.loop x) Q st = ALoop k0 (AC P k0 bad x) Q st := rfl
@[simp] theorem AOps_nil : AOps P ops K [] st = K st := rfl
@[simp] theorem AOps_cons (o : Oper) (rest : List Oper) : AOps P ops K (o :: rest) st = AStep P ops o (AOps P ops K rest) st := rfl
end
section
variable {P : Program} {ops : List Oper} {q : Pos → Bool} {base : St} {K : List (Nat × SV) → Prop} {acc : List (Nat × SV)} {K0 : St → Prop}
@[simp] theorem alK_nil : alK P K0 [] base = K0 base := rfl
@[simp] theorem alK_cons (o : Oper) (rest : List Oper) : alK P K0 (o :: rest) base = (match alOf o with
 | some (d, t) => match zeroL P t with
  | some zs => allOne zs = true ∧ alK P K0 rest ((base.grow (zs.map .pv)).put d (.pv (.ptr base.h.length 0)))
  | none => False
 | none => alK P K0 rest base) := rfl
@[simp] theorem ADrawK_eq : ADrawK P ops K0 base acc = alK P (AOps P ops K0 (ops.drop (preLen ops))) (ops.take (preLen ops)) ⟨acc ++ base.t, base.h⟩ := rfl
@[simp] theorem AQ_nil : AQ P ops q base K [] acc = K acc := rfl
@[simp] theorem AQ_cons_eq (o : Oper) (rest : List Oper) : AQ P ops q base K (o :: rest) acc = AQs P ops q base o (AQ P ops q base K rest) acc := rfl
end
section
variable {P : Program} {ops : List Oper} {K : St → Prop} {st : St}
@[simp] theorem ASch_done : ASch P ops K .done st = K st := rfl
@[simp] theorem ASch_take (i : Nat) (r : Sch) : ASch P ops K (.take i r) st = AStepI P ops i (ASch P ops K r) st := rfl
@[simp] theorem ASch_fork (l : List (Nat × Sch)) : ASch P ops K (.fork l) st = ASchL P ops K l st := rfl
@[simp] theorem ASchL_nil : ASchL P ops K [] st = True := rfl
@[simp] theorem ASchL_cons (i : Nat) (r : Sch) (l : List (Nat × Sch)) : ASchL P ops K ((i, r) :: l) st = (AStepI P ops i (ASch P ops K r) st ∧ ASchL P ops K l st) := rfl
end
end Go.AX

namespace Go.AX
abbrev I64 (n : Int) : PV := .lit (.int .i64 n)
abbrev BL (b : Bool) : PV := .lit (.bool b)
def w64 (n : Int) : Int := IntKind.i64.wrap n
@[simp] theorem w64_def (n : Int) : IntKind.i64.wrap n = w64 n := rfl
theorem w64_eq (n : Int) : w64 n = (n + 9223372036854775808) % 18446744073709551616 - 9223372036854775808 := by
 unfold w64; rw [IntKind.wrap_i64]
theorem w64_id {n : Int} (h1 : -9223372036854775808 ≤ n) (h2 : n ≤ 9223372036854775807) : w64 n = n := by rw [w64_eq]; omega
theorem wnx (i : Nat) (h : i < 9223372036854775807 := by omega) : w64 ((i : Int) + 1) = ((i + 1 : Nat) : Int) := by rw [w64_id (by omega) (by omega)]; omega
theorem w64_ex (n : Int) : ∃ k, w64 n = n + 18446744073709551616 * k := by
 refine ⟨-((n + 9223372036854775808) / 18446744073709551616), ?_⟩; rw [w64_eq]; have := Int.emod_add_mul_ediv (n + 9223372036854775808) 18446744073709551616; omega
theorem w64_shift (n k : Int) : w64 (n + 18446744073709551616 * k) = w64 n := by rw [w64_eq, w64_eq]; omega
@[simp] theorem w64_add_l (a b : Int) : w64 (w64 a + b) = w64 (a + b) := by simp only [w64_eq]; omega
@[simp] theorem w64_add_r (a b : Int) : w64 (a + w64 b) = w64 (a + b) := by simp only [w64_eq]; omega
@[simp] theorem w64_sub_l (a b : Int) : w64 (w64 a - b) = w64 (a - b) := by simp only [w64_eq]; omega
@[simp] theorem w64_neg (a : Int) : w64 (- w64 a) = w64 (-a) := by simp only [w64_eq]; omega
@[simp] theorem w64_mul_l (a b : Int) : w64 (w64 a * b) = w64 (a * b) := by
 obtain ⟨k, hk⟩ := w64_ex a; rw [hk, Int.add_mul, Int.mul_assoc, w64_shift]
@[simp] theorem w64_mul_r (a b : Int) : w64 (a * w64 b) = w64 (a * b) := by rw [Int.mul_comm, w64_mul_l, Int.mul_comm]
theorem w64_lo (a : Int) : -9223372036854775808 ≤ w64 a := by rw [w64_eq]; omega
theorem w64_hi (a : Int) : w64 a ≤ 9223372036854775807 := by rw [w64_eq]; omega
@[simp] theorem belowR_append (k : Nat) (a b : List (List PV)) : belowR k (a ++ b) ↔ belowR k a ∧ belowR k b := by
 simp only [belowR_iff, List.mem_append]; constructor
 ·intro h; exact ⟨fun r hr => h r (.inl hr), fun r hr => h r (.inr hr)⟩
 ·rintro ⟨h1, h2⟩ r (hr | hr)
  ·exact h1 r hr
  ·exact h2 r hr
/-! ### Arguments in other words -/
def PV.as (x y : PV) : Prop := ∀ (w : World) (v : Value), Fit (snap w) x v → Fit (snap w) y v
end Go.AX

namespace Go.AX
mutual
def wkP : PV → PV → Prop
  | .agg xs, .agg ys => wkPL xs ys
  | .tup xs, .tup ys => wkPL xs ys
  | .seq nw e rows, .seq nw' e' rows' => (nw' = true → nw = true) ∧ e = e' ∧ rows = rows'
  | .lit v, .seq _ _ rows => isNilSl v = true ∧ rows = []
  | x, y => x = y
def wkPL : List PV → List PV → Prop
  | [], [] => True
  | x :: xs, y :: ys => wkP x y ∧ wkPL xs ys
  | _, _ => False
end
mutual
theorem wkP_ok {g : Gh} : ∀ (x y : PV) (v : Value), wkP x y → Fit g x v → Fit g y v
  | .agg xs, .agg ys, _, h, ⟨vs, h1, h2⟩ => ⟨vs, h1, wkPL_ok xs ys _ (by simpa only [wkP] using h) h2⟩
  | .tup xs, .tup ys, _, h, ⟨vs, h1, h2⟩ => ⟨vs, h1, wkPL_ok xs ys _ (by simpa only [wkP] using h) h2⟩
  | .seq nw e rows, .seq nw' e' rows', v, h, ⟨p, cap, h1, hc, h2⟩ => by
    simp only [wkP] at h
    obtain ⟨hn, rfl, rfl⟩ := h
    exact ⟨p, cap, h1, hc, h2.imp id fun ⟨c, off, arr, T, fz, vs, a, b, n, r, q⟩ => ⟨c, off, arr, T, fz, vs, a, b, fun hh => n (hn hh), r, q⟩⟩
  | .lit u, .seq nw e rows, v, h, hf => by
    simp only [wkP] at h
    obtain ⟨hn, rfl⟩ := h
    have hv : v = u := hf
    rw [hv, isNilSl_eq hn]
    exact ⟨none, 0, rfl, Nat.le_refl _, .inl rfl⟩
  | .bot, y, v, h, hf => by cases y <;> first | exact hf | (simp only [wkP] at h; cases h)
  | .iptr _ _ _ _, y, v, h, hf => by cases y <;> simp only [wkP] at h <;> first | (cases h; exact hf) | cases h
  | .ptr _ _, y, v, h, hf => by cases y <;> simp only [wkP] at h <;> first | (cases h; exact hf) | cases h
  | .bsl _ _ _ _ _, y, v, h, hf => by cases y <;> simp only [wkP] at h <;> first | (cases h; exact hf) | cases h
  | .fn _ _ _, y, v, h, hf => by cases y <;> simp only [wkP] at h <;> first | (cases h; exact hf) | cases h
  | .amap _ _, y, v, h, hf => by cases y <;> simp only [wkP] at h <;> first | (cases h; exact hf) | cases h
  | .ifc _ _, y, v, h, hf => by cases y <;> simp only [wkP] at h <;> first | (cases h; exact hf) | cases h
  | .lit u, .bot, v, h, hf => trivial
  | .lit u, .lit u', v, h, hf => by simp only [wkP] at h; cases h; exact hf
  | .lit u, .agg _, v, h, hf => by simp only [wkP] at h; cases h
  | .lit u, .tup _, v, h, hf => by simp only [wkP] at h; cases h
  | .lit u, .iptr _ _ _ _, v, h, hf => by simp only [wkP] at h; cases h
  | .lit u, .ptr _ _, v, h, hf => by simp only [wkP] at h; cases h
  | .lit u, .bsl _ _ _ _ _, v, h, hf => by simp only [wkP] at h; cases h
  | .lit u, .fn _ _ _, v, h, hf => by simp only [wkP] at h; cases h
  | .lit u, .amap _ _, v, h, hf => by simp only [wkP] at h; cases h
  | .lit u, .ifc _ _, v, h, hf => by simp only [wkP] at h; cases h
  | .agg xs, .bot, v, h, hf => trivial
  | .agg xs, .lit _, v, h, hf => by simp only [wkP] at h; cases h
  | .agg xs, .tup _, v, h, hf => by simp only [wkP] at h; cases h
  | .agg xs, .seq _ _ _, v, h, hf => by simp only [wkP] at h; cases h
  | .agg xs, .iptr _ _ _ _, v, h, hf => by simp only [wkP] at h; cases h
  | .agg xs, .ptr _ _, v, h, hf => by simp only [wkP] at h; cases h
  | .agg xs, .bsl _ _ _ _ _, v, h, hf => by simp only [wkP] at h; cases h
  | .agg xs, .fn _ _ _, v, h, hf => by simp only [wkP] at h; cases h
  | .agg xs, .amap _ _, v, h, hf => by simp only [wkP] at h; cases h
  | .agg xs, .ifc _ _, v, h, hf => by simp only [wkP] at h; cases h
  | .tup xs, .bot, v, h, hf => trivial
  | .tup xs, .lit _, v, h, hf => by simp only [wkP] at h; cases h
  | .tup xs, .agg _, v, h, hf => by simp only [wkP] at h; cases h
  | .tup xs, .seq _ _ _, v, h, hf => by simp only [wkP] at h; cases h
  | .tup xs, .iptr _ _ _ _, v, h, hf => by simp only [wkP] at h; cases h
  | .tup xs, .ptr _ _, v, h, hf => by simp only [wkP] at h; cases h
  | .tup xs, .bsl _ _ _ _ _, v, h, hf => by simp only [wkP] at h; cases h
  | .tup xs, .fn _ _ _, v, h, hf => by simp only [wkP] at h; cases h
  | .tup xs, .amap _ _, v, h, hf => by simp only [wkP] at h; cases h
  | .tup xs, .ifc _ _, v, h, hf => by simp only [wkP] at h; cases h
  | .seq _ _ _, .bot, v, h, hf => trivial
  | .seq _ _ _, .lit _, v, h, hf => by simp only [wkP] at h; cases h
  | .seq _ _ _, .agg _, v, h, hf => by simp only [wkP] at h; cases h
  | .seq _ _ _, .tup _, v, h, hf => by simp only [wkP] at h; cases h
  | .seq _ _ _, .iptr _ _ _ _, v, h, hf => by simp only [wkP] at h; cases h
  | .seq _ _ _, .ptr _ _, v, h, hf => by simp only [wkP] at h; cases h
  | .seq _ _ _, .bsl _ _ _ _ _, v, h, hf => by simp only [wkP] at h; cases h
  | .seq _ _ _, .fn _ _ _, v, h, hf => by simp only [wkP] at h; cases h
  | .seq _ _ _, .amap _ _, v, h, hf => by simp only [wkP] at h; cases h
  | .seq _ _ _, .ifc _ _, v, h, hf => by simp only [wkP] at h; cases h
theorem wkPL_ok {g : Gh} : ∀ (xs ys : List PV) (vs : List Value), wkPL xs ys → FitL g xs vs → FitL g ys vs
  | [], [], _, _, h => h
  | [], _ :: _, _, h, _ => by simp only [wkPL] at h
  | _ :: _, [], _, h, _ => by simp only [wkPL] at h
  | x :: xs, y :: ys, _, h, ⟨v, r, h1, h2, h3⟩ => by
    simp only [wkPL] at h
    exact ⟨v, r, h1, wkP_ok x y v h.1 h2, wkPL_ok xs ys r h.2 h3⟩
end
def wkS : SV → SV → Prop
 | .pv x, .pv y => y = .bot ∨ wkP x y
 | .own nw e rows, .own nw' e' rows' => (nw' = true → nw = true) ∧ e = e' ∧ rows = rows'
 | x, y => y = x ∨ y = .pv .bot
theorem wkS_cases {x y : SV} (h : wkS x y) : y = x ∨ y = .pv .bot ∨ (∃ a b, x = .pv a ∧ y = .pv b ∧ wkP a b) ∨ (∃ nw nw' e rows, x = .own nw e rows ∧ y = .own nw' e rows ∧ (nw' = true → nw = true)) := by
 unfold wkS at h; split at h
 ·rename_i a b; rcases h with rfl | h
  ·exact .inr (.inl rfl)
  ·exact .inr (.inr (.inl ⟨a, b, rfl, rfl, h⟩))
 ·obtain ⟨h1, rfl, rfl⟩ := h; exact .inr (.inr (.inr ⟨_, _, _, _, rfl, rfl, h1⟩))
 ·exact h.imp id .inl
theorem wkS_own {x y : SV} (h : wkS x y) (ho : y.isOwn = true) : x.isOwn = true ∧ (y = x ∨ ∃ nw nw' e rows, x = .own nw e rows ∧ y = .own nw' e rows ∧ (nw' = true → nw = true)) := by
 rcases wkS_cases h with rfl | rfl | ⟨a, b, rfl, rfl, _⟩ | ⟨nw, nw', e, rows, rfl, rfl, h1⟩
 ·exact ⟨ho, .inl rfl⟩
 ·cases ho
 ·cases ho
 ·exact ⟨rfl, .inr ⟨_, _, _, _, rfl, rfl, h1⟩⟩
theorem wkS_fit {g : Gh} {w : World} {x y : SV} {v : Value} {o : Option Nat} (h : wkS x y) (hf : SFit g w x v o) : SFit g w y v (if y.isOwn = true then o else none) := by
 rcases wkS_cases h with rfl | rfl | ⟨a, b, rfl, rfl, h1⟩ | ⟨nw, nw', e, rows, rfl, rfl, h1⟩
 ·cases y with
  | own _ _ _ => exact hf
  | omap _ _ => exact hf
  | pv _ => exact ⟨rfl, hf.2⟩
  | opt _ _ => exact ⟨rfl, hf.2⟩
  | agl _ => exact ⟨rfl, hf.2⟩
  | _ => rfl
 ·exact ⟨rfl, trivial⟩
 ·exact ⟨rfl, wkP_ok a b v h1 hf.2⟩
 ·exact hf.imp id fun ⟨c, e1, cap, arr, T, vs, a1, a2, a3, a4, a5, a6, a7⟩ => ⟨c, e1, cap, arr, T, vs, a1, a2, a3, a4, a5, a6, fun hh => a7 (h1 hh)⟩
theorem Sim.le {g : Gh} {st st' : St} {a : Act} {w : World} (h : Sim g st a w) (hp : ∀ p, wkS (posGet st p) (posGet st' p)) (hl : st'.h.length = st.h.length) (hb : ∀ b, (st'.h.getD b []).length = (st.h.getD b []).length) : Sim g st' a w := by
  obtain ⟨bl, ho⟩ := h.own
  have hget : ∀ (b : Nat) (xs' : List SV), st'.h[b]? = some xs' → ∃ xs : List SV, st.h[b]? = some xs ∧ xs'.length = xs.length := fun b xs' hx => by
    have hlt : b < st.h.length := by rw [← hl]; exact (List.getElem?_eq_some_iff.1 hx).1
    refine ⟨st.h[b], List.getElem?_eq_getElem hlt, ?_⟩
    have := hb b
    rw [List.getD_eq_getElem?_getD, List.getD_eq_getElem?_getD, hx, List.getElem?_eq_getElem hlt] at this
    simpa using this
  have hal : ∀ {sv : SV} {v : Value}, AlOk g st a w sv v → AlOk g st' a w sv v := by
    intro sv
    induction sv with
    | al p => intro v hv ho'; exact hv (wkS_own (hp p) ho').1
    | loc p lo hi =>
      intro v hv nw e rows he
      rcases (wkS_own (hp p) (by rw [he]; rfl)).2 with e1 | ⟨nw1, nw2, e1, rows1, e2, e3, _⟩
      · exact hv nw e rows (by rw [← e1]; exact he)
      · rw [he] at e3; cases e3; exact hv _ _ _ e2
    | sptr p i k =>
      intro v hv nw e rows he
      rcases (wkS_own (hp p) (by rw [he]; rfl)).2 with e1 | ⟨nw1, nw2, e1, rows1, e2, e3, _⟩
      · exact hv nw e rows (by rw [← e1]; exact he)
      · rw [he] at e3; cases e3; exact hv _ _ _ e2
    | agl xs => intro v hv k x p hk ho'; exact hv k x p hk (wkS_own (hp p) ho').1
    | opt c x ih => intro v hv hc; exact ih (hv hc)
    | _ => intro v _; trivial
  refine { size := h.size, defs := h.defs, env := h.env, n := by rw [hl]; exact h.n, n0 := h.n0, B := h.B, I := h.I, F := h.F, μI := h.μI, μinj := h.μinj,
           own := ⟨fun p => if (posGet st' p).isOwn = true then bl p else none, ?_⟩, al := fun s => ?_ }
  · have hsub : ∀ p c, (if (posGet st' p).isOwn = true then bl p else none) = some c → bl p = some c := fun p c hc => by
      split at hc
      · exact hc
      · cases hc
    refine { slots := fun s => wkS_fit (hp (.slot s)) (ho.slots s), blocks := fun b xs' hx => ?_, inj := fun p q c h1 h2 => ho.inj p q c (hsub p c h1) (hsub q c h2), free := fun p c h1 => ho.free p c (hsub p c h1) }
    obtain ⟨xs, hx2, hlen⟩ := hget b xs' hx
    obtain ⟨arr, T, e1, e2, e3⟩ := ho.blocks b xs hx2
    refine ⟨arr, T, e1, ⟨by rw [hlen]; exact e2.1, e2.2⟩, fun k x hk => ?_⟩
    have hkl : k < xs.length := by rw [← hlen]; exact (List.getElem?_eq_some_iff.1 hk).1
    have g1 : posGet st' (.cell b k) = x := by simp only [posGet, List.getD_eq_getElem?_getD, hx, Option.getD_some, hk]
    have g2 : posGet st (.cell b k) = xs[k] := by simp only [posGet, List.getD_eq_getElem?_getD, hx2, Option.getD_some, List.getElem?_eq_getElem hkl]
    have h4 := hp (.cell b k)
    rw [g1, g2] at h4
    obtain ⟨c1, c2⟩ := e3 k xs[k] (List.getElem?_eq_getElem hkl)
    rw [g1]
    refine ⟨?_, wkS_fit h4 c2⟩
    rcases wkS_cases h4 with e | e | ⟨a1, b1, _, e, _⟩ | ⟨_, _, _, _, _, e, _⟩
    · rw [e]; exact c1
    · rw [e]; rfl
    · rw [e]; rfl
    · rw [e]; rfl
  · have h4 := hp (.slot s)
    simp only [posGet] at h4
    have h5 := h.al s
    rcases wkS_cases h4 with e | e | ⟨a1, b1, _, e, _⟩ | ⟨_, _, _, _, _, e, _⟩
    · rw [e]; exact hal h5
    · rw [e]; trivial
    · rw [e]; trivial
    · rw [e]; trivial
def wkLs (t : List (Nat × SV)) : List (Nat × SV) → Prop
 | [] => True
 | (s, v) :: r => wkS (look t s) v ∧ wkLs t r
def wkCs : List SV → List SV → Prop
 | [], [] => True
 | x :: xs, y :: ys => wkS x y ∧ wkCs xs ys
 | _, _ => False
def wkHs : List (List SV) → List (List SV) → Prop
 | [], [] => True
 | x :: xs, y :: ys => wkCs x y ∧ wkHs xs ys
 | _, _ => False
theorem wkS_bot (x : SV) : wkS x (.pv .bot) := by cases x <;> simp [wkS]
mutual
theorem wkP_refl : ∀ x : PV, wkP x x
  | .agg xs => by simp only [wkP]; exact wkPL_refl xs
  | .tup xs => by simp only [wkP]; exact wkPL_refl xs
  | .seq _ _ _ => by simp [wkP]
  | .bot => by simp [wkP]
  | .lit _ => by simp [wkP]
  | .iptr _ _ _ _ => by simp [wkP]
  | .ptr _ _ => by simp [wkP]
  | .bsl _ _ _ _ _ => by simp [wkP]
  | .fn _ _ _ => by simp [wkP]
  | .amap _ _ => by simp [wkP]
  | .ifc _ _ => by simp [wkP]
theorem wkPL_refl : ∀ xs : List PV, wkPL xs xs
  | [] => by simp [wkPL]
  | x :: xs => by simp only [wkPL]; exact ⟨wkP_refl x, wkPL_refl xs⟩
end
theorem wkS_refl (x : SV) : wkS x x := by
 cases x with
 | pv x => exact .inr (wkP_refl x)
 | own _ _ _ => exact ⟨id, rfl, rfl⟩
 | _ => exact .inl rfl
theorem wkLs_ok {t : List (Nat × SV)} : ∀ {t1 : List (Nat × SV)}, wkLs t t1 → ∀ s, wkS (look t s) (look t1 s)
 | [], _, s => wkS_bot _
 | (j, v) :: r, h, s => by
  simp only [look]; by_cases e : j = s
  ·subst e; rw [if_pos rfl]; exact h.1
  ·rw [if_neg e]; exact wkLs_ok h.2 s
theorem wkCs_ok : ∀ {xs ys : List SV}, wkCs xs ys → ys.length = xs.length ∧ ∀ k, wkS (xs.getD k (.pv .bot)) (ys.getD k (.pv .bot))
 | [], [], _ => ⟨rfl, fun k => by simp; exact wkS_bot _⟩
 | [], _ :: _, h => by simp only [wkCs] at h
 | _ :: _, [], h => by simp only [wkCs] at h
 | x :: xs, y :: ys, h => by
  simp only [wkCs] at h; obtain ⟨h1, h2⟩ := wkCs_ok h.2; refine ⟨by simp [h1], fun k => ?_⟩; cases k with
  | zero => exact h.1
  | succ k => simpa using h2 k
theorem wkHs_ok : ∀ {xs ys : List (List SV)}, wkHs xs ys → ys.length = xs.length ∧ ∀ b, (ys.getD b []).length = (xs.getD b []).length ∧ ∀ k, wkS ((xs.getD b []).getD k (.pv .bot)) ((ys.getD b []).getD k (.pv .bot))
 | [], [], _ => ⟨rfl, fun b => ⟨rfl, fun k => by simp; exact wkS_bot _⟩⟩
 | [], _ :: _, h => by simp only [wkHs] at h
 | _ :: _, [], h => by simp only [wkHs] at h
 | x :: xs, y :: ys, h => by
  simp only [wkHs] at h; obtain ⟨h1, h2⟩ := wkHs_ok h.2; refine ⟨by simp [h1], fun b => ?_⟩; cases b with
  | zero => exact wkCs_ok h.1
  | succ b => simpa using h2 b
theorem Weak.le {k0 : Nat} {st : St} {t1 : List (Nat × SV)} {h1 : List (List SV)} (ht : wkLs st.t t1) (hh : wkHs st.h h1) : Weak k0 st ⟨t1, h1⟩ := fun g _ _ _ hs => by
 obtain ⟨hl, hk⟩ := wkHs_ok hh; refine ⟨g, hs.refl_to, hs.le (fun p => ?_) hl fun b => (hk b).1⟩; cases p with
 | slot s => exact wkLs_ok ht s
 | cell b k => exact (hk b).2 k
/-! ### Calls -/
theorem AMut.res {P : Program} {f : FuncId} {args : List PV} {h : List (List SV)} {R R' : SV → List (List SV) → Prop} (hm : AMut P f args h R) (hr : ∀ r h', R r h' → ∃ x y, r = .pv x ∧ wkP x y ∧ R' (.pv y) h') : AMut P f args h R' :=
 ⟨hm.1, fun g st a w vs hs hh hv => (hm.2 g st a w vs hs hh hv).mono fun e w' ⟨v, r, h', g', e1, e2, e3, e4⟩ => by
  obtain ⟨x, y, rfl, hw, hR⟩ := hr r h' e2; refine ⟨v, .pv y, h', g', e1, hR, e3, fun d hd => (e4 d hd).le (fun p => ?_) ?_ ?_⟩
  ·cases d with
   | none => exact wkS_refl _
   | some d =>
    cases p with
    | cell b k => exact wkS_refl _
    | slot s =>
     simp only [posGet, putR, putD, St.put, look]; split
     ·exact .inr hw
     ·exact wkS_refl _
  ·cases d <;> rfl
  ·intro b; cases d <;> rfl⟩
/-! ### What fits names only blocks that there are -/
section
variable {g : Gh}
mutual
theorem Fit.bel : ∀ (x : PV) (v : Value), Fit g x v → x.bel g.n
  | .bot, _, _ => trivial
  | .lit _, _, _ => trivial
  | .agg xs, _, ⟨vs, _, h2⟩ => FitL.bel xs _ h2
  | .tup xs, _, ⟨vs, _, h2⟩ => FitL.bel xs _ h2
  | .seq _ e [], _, _ => trivial
  | .seq _ e (r :: rows), _, ⟨p, cap, _, _, h2⟩ => by
    rcases h2 with h2 | ⟨c, off, arr, T, fz, vs, a, b, n, q, _⟩
    · cases h2
    · exact FitR.bel e (r :: rows) vs q
  | .iptr e rows _ _, _, ⟨c, off, arr, T, fz, vs, _, _, q, _⟩ => FitR.bel e rows vs q
  | .ptr b _, _, ⟨h1, _⟩ => h1
  | .bsl b _ _ _ _, _, ⟨h1, _⟩ => h1
  | .fn _ first cap, _, ⟨a, b, _, h2, h3⟩ => ⟨FitL.bel first _ h2, FitL.bel cap _ h3⟩
  | .amap _ es, _, ⟨r, en, ck, _, _, _, q⟩ => FitE.bel es _ q.1
  | .ifc _ x, _, ⟨y, _, h2⟩ => Fit.bel x y h2
theorem FitL.bel : ∀ (xs : List PV) (vs : List Value), FitL g xs vs → belowL g.n xs
  | [], _, _ => trivial
  | x :: xs, _, ⟨v, r, _, h2, h3⟩ => ⟨Fit.bel x v h2, FitL.bel xs r h3⟩
theorem FitR.bel (e : Nat) : ∀ (rows : List (List PV)) (vs : List Value), FitR g e rows vs → belowR g.n rows
  | [], _, _ => trivial
  | row :: rows, _, ⟨v1, v2, _, _, h3, h4⟩ => ⟨FitL.bel row v1 h3, FitR.bel e rows v2 h4⟩
theorem FitE.bel : ∀ (es : List (Int × PV)) (en : List MapEntry), FitE g es en → belowE g.n es
  | [], _, _ => trivial
  | (_, x) :: es, _, ⟨m, r, _, _, h3, h4⟩ => ⟨Fit.bel x m.val h3, FitE.bel es r h4⟩
end
end
theorem SFit.bel {g : Gh} {w : World} {x : SV} {v : Value} {o : Option Nat} (hc : x.inCell = true) (h : SFit g w x v o) : x.bel g.n := by
 cases x with
 | pv x => exact Fit.bel x v h.2
 | own nw e rows =>
  rcases h with ⟨_, rfl, _⟩ | ⟨c, _, cap, arr, T, vs, _, _, _, _, q, _⟩
  ·trivial
  ·exact FitR.bel e rows vs q
 | omap nw es => obtain ⟨c, _, en, ck, _, _, q, _⟩ := h; exact FitE.bel es _ q
 | _ => cases hc
theorem belowC_of {k : Nat} : ∀ {l : List SV}, (∀ x ∈ l, x.bel k) → belowC k l
 | [], _ => trivial
 | x :: l, h => ⟨h x (List.mem_cons_self), belowC_of fun y hy => h y (List.mem_cons_of_mem _ hy)⟩
theorem belowH_of {k : Nat} : ∀ {l : List (List SV)}, (∀ xs ∈ l, ∀ x ∈ xs, x.bel k) → belowH k l
 | [], _ => trivial
 | x :: l, h => ⟨belowC_of (h x (List.mem_cons_self)), belowH_of fun y hy => h y (List.mem_cons_of_mem _ hy)⟩
theorem Sim.belH {g : Gh} {st : St} {a : Act} {w : World} (h : Sim g st a w) : belowH g.n st.h := by
 obtain ⟨bl, hb⟩ := h.own; refine belowH_of fun xs hxs x hx => ?_; obtain ⟨b, hb1⟩ := List.mem_iff_getElem?.1 hxs; obtain ⟨k, hk⟩ := List.mem_iff_getElem?.1 hx; obtain ⟨arr, T, _, _, e3⟩ := hb.blocks b xs hb1; obtain ⟨c1, c2⟩ := e3 k x hk; exact c2.bel c1
def retXP (P : Program) (rs : List ResultVar) (h : List (List SV)) (R : SV → Prop) (st : St) : Prop :=
 (resL P st rs).2.2 ∧ (resL P st rs).2.1.h.take h.length = h ∧ (resOut (resL P st rs).1).bel h.length ∧ R (.pv (resOut (resL P st rs).1))
theorem amutXP {P : Program} (bad : List Nat) {f : FuncId} {fn : Func} {c : Code} {args : List PV} {h : List (List SV)} {R : SV → Prop} (rs : List ResultVar) (hmo : P.follows .mixedOrders = true) (hf : P.funcs[f]? = some fn) (hA : AC P h.length bad c (endQ (retXP P rs h R)) ⟨argT 0 args, h⟩) (hcall : callable P f = true := by kernel_rfl) (hb : fn.body = some c := by rfl) (hr : fn.results = rs.toArray := by rfl) (hok : okC fn.ntmps bad c = true := by kernel_rfl) (hn : args.length ≤ fn.ntmps := by exact Nat.le_of_ble_eq_true rfl) : AMut P f args h (fun r h' => h' = h ∧ R r) := by
 refine ⟨hcall, fun g st a w vs hs hh hv => ?_⟩; have hbel : belowH h.length h := by have := hs.belH; rwa [hs.n, hh] at this
 have key := amut_of (R := fun r h' => h' = h ∧ R r) hmo hf hcall hb hok hn hA fun g' st' a' w' hk hn0 s' => ?_
 ·exact key.2 g st a w vs hs hh hv
 ·obtain ⟨k1, k2, k3, k4⟩ := hk; obtain ⟨g2, t2, l2, n2, s2, vs2, e2, f2⟩ := resL_ok rs s' k1; obtain ⟨v, e3, f3⟩ := results_run hr (resL_len rs st') e2 f2; have s3 := s2.weak (st' := ⟨[], (resL P st' rs).2.1.h⟩) rfl fun s => .inr rfl; obtain ⟨t4, s4⟩ := Sim.dropB (st := ⟨[], (resL P st' rs).2.1.h⟩) (h1 := h) k2 (ht := trivial) hbel (hs := s3) (h0 := by rw [t2.n0]; exact hn0); obtain ⟨bl4, hb4⟩ := s4.own; exact ⟨v, _, _, _, bl4, none, e3, t2.trans t4, s4, hb4, ⟨rfl, k4⟩, ⟨rfl, Fit.below _ _ k3 f3⟩, rfl, fun c hc => by cases hc⟩
theorem amutXW {P : Program} (bad : List Nat) {f : FuncId} {fn : Func} {c : Code} {args : List PV} {h : List (List SV)} {y : PV} (rs : List ResultVar) (hmo : P.follows .mixedOrders = true) (hf : P.funcs[f]? = some fn) (hA : AC P h.length bad c (endQ (retXP P rs h (fun r => ∃ x, r = .pv x ∧ wkP x y))) ⟨argT 0 args, h⟩) (hcall : callable P f = true := by kernel_rfl) (hb : fn.body = some c := by rfl) (hr : fn.results = rs.toArray := by rfl) (hok : okC fn.ntmps bad c = true := by kernel_rfl) (hn : args.length ≤ fn.ntmps := by exact Nat.le_of_ble_eq_true rfl) : AMut P f args h (fun r h' => h' = h ∧ r = .pv y) :=
 (amutXP bad rs hmo hf hA hcall hb hr hok hn).res fun r h' ⟨h1, x, h2, h3⟩ => ⟨x, y, h2, h3, h1, rfl⟩
attribute [simp] wkP wkPL wkS wkLs wkCs wkHs retXP
end Go.AX

namespace Go.AX
theorem APure.own0 {P : Program} {f : FuncId} {args : List PV} {R R' : SV → Prop} (h : APure P f args R) (hr : ∀ r, R r → R' r ∨ (r = .pv (.lit (.slice none 0 0)) ∧ ∃ nw e, R' (.own nw e []))) : APure P f args R' := by
 refine ⟨h.1, fun w vs hv => (h.2 w vs hv).mono fun e w' ⟨v, r, g', o, h1, h2, h3, h4, h5, h6⟩ => ?_⟩; rcases hr r h2 with h7 | ⟨rfl, nw, e', h7⟩
 ·exact ⟨v, r, g', o, h1, h7, h3, h4, h5, h6⟩
 ·exact ⟨v, _, g', o, h1, h7, h3, .inl ⟨h4.1, rfl, h4.2⟩, rfl, h6⟩
end Go.AX

namespace Go.AX
theorem amutXD {P : Program} (bad : List Nat) {f : FuncId} {fn : Func} {c : Code} {args : List PV} {h : List (List SV)} {R : SV → Prop} (rs : List ResultVar) (h1 : List (List SV)) (hl : h.length ≤ h1.length) (hbl : belowH h.length h → belowH h1.length h1) (hmo : P.follows .mixedOrders = true) (hf : P.funcs[f]? = some fn) (hA : AC P h.length bad c (endQ (retXP P rs h1 R)) ⟨argT 0 args, h⟩) (hcall : callable P f = true := by kernel_rfl) (hb : fn.body = some c := by rfl) (hr : fn.results = rs.toArray := by rfl) (hok : okC fn.ntmps bad c = true := by kernel_rfl) (hn : args.length ≤ fn.ntmps := by exact Nat.le_of_ble_eq_true rfl) : AMut P f args h (fun r h' => h' = h1 ∧ R r) := by
 refine ⟨hcall, fun g st a w vs hs hh hv => ?_⟩; have hbel : belowH h1.length h1 := hbl (by have := hs.belH; rwa [hs.n, hh] at this); have key := amut_of (R := fun r h' => h' = h1 ∧ R r) hmo hf hcall hb hok hn hA fun g' st' a' w' hk hn0 s' => ?_
 ·exact key.2 g st a w vs hs hh hv
 ·obtain ⟨k1, k2, k3, k4⟩ := hk; obtain ⟨g2, t2, l2, n2, s2, vs2, e2, f2⟩ := resL_ok rs s' k1; obtain ⟨v, e3, f3⟩ := results_run hr (resL_len rs st') e2 f2; have s3 := s2.weak (st' := ⟨[], (resL P st' rs).2.1.h⟩) rfl fun s => .inr rfl; obtain ⟨t4, s4⟩ := Sim.dropB (st := ⟨[], (resL P st' rs).2.1.h⟩) (h1 := h1) k2 (ht := trivial) hbel (hs := s3) (h0 := by rw [t2.n0]; exact Nat.le_trans hn0 hl); obtain ⟨bl4, hb4⟩ := s4.own; exact ⟨v, _, _, _, bl4, none, e3, t2.trans t4, s4, hb4, ⟨rfl, k4⟩, ⟨rfl, Fit.below _ _ k3 f3⟩, rfl, fun c hc => by cases hc⟩
theorem Weak.keep {k0 : Nat} {st : St} {t1 : List (Nat × SV)} {h1 : List (List SV)} (h : wkL st.t t1) (hh : st.h = h1) : Weak k0 st ⟨t1, h1⟩ := hh ▸ Weak.slots h
theorem Weak.nilCell {k0 : Nat} {st : St} {b k : Nat} {xs : List SV} (e : Nat) (nw : Bool) (hx : st.h[b]? = some xs) (hk : xs[k]? = some (.pv (.lit (.slice none 0 0)))) : Weak k0 st ⟨killL (qCells b k 1) st.t, st.h.set b (xs.set k (.own nw e []))⟩ := fun g a w _ hs => by
 obtain ⟨bl, hb⟩ := hs.own; have hkl : k < xs.length := (List.getElem?_eq_some_iff.1 hk).1; obtain ⟨arr, T, e1, e2, e3⟩ := hb.blocks b xs hx; have h4 := (e3 k _ hk).2; have hv : posVal g a w (.cell b k) = .slice none 0 0 := by
  simp only [posVal, e1]; exact h4.2
 exact ⟨g, hs.refl_to, (hs.adopt hb hx hkl (sv := .own nw e []) (o := none) (.inl ⟨rfl, rfl, hv⟩) rfl (fun c hc => by cases hc)).1⟩
end Go.AX

namespace Go.AX
def wkRR : List (List PV) → List (List PV) → Prop
 | [], [] => True
 | x :: xs, y :: ys => wkPL x y ∧ wkRR xs ys
 | _, _ => False
theorem wkPL_len : ∀ {a b : List PV}, wkPL a b → a.length = b.length
 | [], [], _ => rfl
 | [], _ :: _, h => by simp [wkPL] at h
 | _ :: _, [], h => by simp [wkPL] at h
 | x :: a, y :: b, h => by
  simp only [wkPL] at h; rw [List.length_cons, List.length_cons, wkPL_len h.2]
theorem wkRR_len : ∀ {a b : List (List PV)}, wkRR a b → a.length = b.length
 | [], [], _ => rfl
 | [], _ :: _, h => h.elim
 | _ :: _, [], h => h.elim
 | x :: a, y :: b, h => by rw [List.length_cons, List.length_cons, wkRR_len h.2]
theorem FitR.wk {g : Gh} {e : Nat} : ∀ {a b : List (List PV)} {vs : List Value}, wkRR a b → FitR g e a vs → FitR g e b vs
 | [], [], _, _, h => h
 | [], _ :: _, _, h, _ => h.elim
 | _ :: _, [], _, h, _ => h.elim
 | x :: a, y :: b, _, h, ⟨v1, v2, h1, ⟨h2, h2'⟩, h3, h4⟩ => ⟨v1, v2, h1, ⟨by rw [← wkPL_len h.1]; exact h2, h2'⟩, wkPL_ok _ _ _ h.1 h3, FitR.wk h.2 h4⟩
def wkA : PV → PV → Prop
 | .seq nw e rows, .seq nw' e' rows' => (nw' = true → nw = true) ∧ e = e' ∧ wkRR rows rows'
 | x, y => wkP x y
theorem wkA_ok {g : Gh} {x y : PV} {v : Value} (h : wkA x y) (hf : Fit g x v) : Fit g y v := by
 unfold wkA at h; split at h
 ·rename_i nw e rows nw' e' rows'; obtain ⟨hn, rfl, hr⟩ := h; obtain ⟨p, cap, h1, hc, h2⟩ := hf; refine ⟨p, cap, by rw [← wkRR_len hr]; exact h1, by rw [← wkRR_len hr]; exact hc, ?_⟩; rcases h2 with h2 | ⟨c, off, arr, T, fz, vs, a, b, n, r, q⟩
  ·subst h2; cases rows' with
   | nil => exact .inl rfl
   | cons _ _ => exact hr.elim
  ·exact .inr ⟨c, off, arr, T, fz, vs, a, b, fun hh => n (hn hh), FitR.wk hr r, q⟩
 ·exact wkP_ok _ _ _ h hf
def wkAL : List PV → List PV → Prop
 | [], [] => True
 | x :: xs, y :: ys => wkA x y ∧ wkAL xs ys
 | _, _ => False
theorem wkAL_ok {g : Gh} : ∀ {xs ys : List PV} {vs : List Value}, wkAL xs ys → FitL g xs vs → FitL g ys vs
 | [], [], _, _, h => h
 | [], _ :: _, _, h, _ => h.elim
 | _ :: _, [], _, h, _ => h.elim
 | _ :: _, _ :: _, _, h, ⟨v, r, h1, h2, h3⟩ => ⟨v, r, h1, wkA_ok h.1 h2, wkAL_ok h.2 h3⟩
theorem AMut.argsA {P : Program} {f : FuncId} {xs ys : List PV} {h : List (List SV)} {R : SV → List (List SV) → Prop} (hm : AMut P f ys h R) (hw : wkAL xs ys) : AMut P f xs h R :=
 ⟨hm.1, fun g st a w vs hs hh hv => hm.2 g st a w vs hs hh (wkAL_ok hw hv)⟩
end Go.AX
