/-
  AX, part Vs: what a sequence gives that reads memory between two rounds, gathered and sorted.
-/
import Derived.Test.YtpejmhpcgpnpaaaGreatAxR
import Derived.Shelf.SlIterI.Sorted
namespace Go.AX
open Go.Proofs Go.RowKit Go.Maps Go.Sort Go.Shelf
variable {P : Program} {ρ : Ren}
def SeqBelow (F : Fence) (n : Nat) (P : Program) (g : Nat) (lb : Array Value) (S : List Int → Prop) (N : Nat) (w : World) : Prop :=
 ∀ (l : Nat) (J : List Int → World → Prop) (W : World), Below w.heap.size w W → AbidesFrom W.heap.size J →
  (∀ pre x W1, J pre W1 → pre.length < N → YieldAt F (n - 1) P l #[encZ x] W1 fun e W' => e = .returned (.bool true) ∧ J (pre ++ [x]) W' ∧ KeepsWalks W1 W' ∧ Below w.heap.size W1 W') →
  J [] W → CallsIn F n P g (#[.func (.yield l) #[] #[]] ++ lb) W fun e W' => (∃ v, e = .returned v) ∧ ∃ xs, S xs ∧ J xs W'
theorem SeqBelow.of {F : Fence} {n : Nat} {g : Nat} {lb : Array Value} {S : List Int → Prop} {N : Nat} {w : World} (h : SeqGives F n P g lb encZ S N w) : SeqBelow F n P g lb S N w := fun l J W hW hJ hY h0 =>
 h l J W hW hJ (fun pre x W1 h1 h2 => (hY pre x W1 h1 h2).mono fun e W' ⟨a, b, c, _⟩ => ⟨a, b, c⟩) h0
theorem below_mid {B : Nat} {a b c : World} (h : Below B a b) (k : Below B a c) (hk : KeepsWalks b c) : Below B b c :=
 ⟨k.os.trans h.os.symm, k.tape.trans h.tape.symm, k.output.trans h.output.symm, hk.1, fun j hj => (k.block j hj).trans (h.block j hj).symm⟩
def OneAt (w : World) (v : Value) : Prop := ∀ c, v.ownBlock = some c → ∀ arr T fz, w.heap[c]? = some (.cells arr T fz) → ∀ u ∈ arr.toList, u.oneCell' = true
theorem OneAt.kept {w w' : World} {v : Value} (h : OneAt w v) (hk : ∀ c, v.ownBlock = some c → w'.heap[c]? = w.heap[c]?) : OneAt w' v := fun c hc arr T fz ha => h c hc arr T fz ((hk c hc).symm.trans ha)
theorem fitR_encZ (G : Gh) : ∀ zs : List Int, FitR G 1 (zs.map fun x => [.lit (.int .i64 x)]) (zs.map encZ)
 | [] => rfl
 | z :: zs => ⟨[encZ z], zs.map encZ, rfl, ⟨rfl, fun v hv => by simp at hv; subst hv; rfl⟩, ⟨_, _, rfl, rfl, rfl⟩, fitR_encZ G zs⟩
def gOf (B : Nat) (w : World) : Gh := { snap w with I := fun _ => none, B := B }
theorem sfit_row {G : Gh} {w : World} {base : Nat} {e : TypeId} {v : Value} {ss : List Int} (h : w.ownsRow base e 1 v ss.length (ss.map encZ)) (h1 : OneAt w v) (hB : G.B ≤ base) : SFit G w (.own true 1 (ss.map fun x => [.lit (.int .i64 x)])) v v.ownBlock := by
 obtain ⟨_, ⟨rfl, hz⟩ | ⟨gb, cap, cur, rfl, hbase, hgb, r1, r2, r3, r4⟩⟩ := h
 ·have : ss = [] := List.eq_nil_of_length_eq_zero hz; subst this; exact .inl ⟨rfl, rfl, rfl⟩
 ·exact .inr ⟨gb, rfl, cap, cur, e, ss.map encZ, by simp, hgb, r3, ⟨by simpa using r1, r2, h1 gb rfl cur e (0, 0) hgb⟩, fitR_encZ G ss, by rw [← r4]; exact List.take_prefix _ _, fun _ => Nat.le_trans hB hbase⟩
theorem wpListIn_append_one {F : Fence} {n : Nat} (w : World) {ops : Array Oper} {rest : List Oper} {o : Oper} {a : Act} {Q : Exit → Act → World → Prop}
 (hg : o.guard = none) (s x : Operand) (t : TypeId) (hop : o.op = Op.call { callee := Callee.builtin Builtin.append, args := #[s, x], argTypes := #[t, t] })
 (base : Nat) (e : TypeId) (i : TypeInfo) (z : Value) (bytes : Nat) (h1 : P.underlying t = some (.slice e)) (h2 : P.info? e = some i) (h3 : i.zero = some z) (h4 : i.size = 1) (h5 : i.bytes = bytes) (h6 : z.cells.size = 1) (hsl : slInfo P t = some (1, 8))
 (v : Value) (ss : List Int) (y : Int) (hs : a.eval s = v) (hown : w.ownsRow base e 1 v ss.length (ss.map encZ)) (hone : OneAt w v) (ad : Addr) (c : Nat) (hx : a.eval x = .slice (some ad) 1 c)
 (hc : ∀ j u, [encZ y][j]? = some u → w.cell? (ad.add j) = some u) (b1 : ss.length + 1 ≤ maxLen) (b2 : (ss.length + 1) * bytes ≤ 140737488355328) (b2' : (ss.length + 1) * 8 ≤ 140737488355328) (b3 : base ≤ w.heap.size)
 (hK : ∀ v' w', w'.ownsRow base e 1 v' (ss.length + 1) (ss.map encZ ++ [encZ y]) → OneAt w' v' → w.grownBy w' v.ownBlock → wpListIn F n P ops Q rest (a.put o.dst v') w') :
 wpListIn F n P ops Q (o :: rest) a w := by
 refine wpListIn_plain hg fun K hK' => ?_; obtain ⟨v', w', hrun, r1, r2, r3⟩ := run_append_own (P := P) w base t o.type e i z 1 bytes h1 h2 h3 h4 h5 h6 (by decide) v ss.length (ss.map encZ) hown ad 1 c [encZ y] rfl hc (by simp [Value.oneCell', encZ]) b1 b2 b3; have hf := sfit_row (G := gOf base w) hown hone (Nat.le_refl _); obtain ⟨v2, w2, o2, hrun2, _, _, hf2, _, _⟩ := append_run (P := P) (g := gOf base w) (w := w) (t := t) (ty := o.type) hsl (by decide) (xr := [[.lit (.int .i64 y)]]) b3 hf (q := some ad) (k := c) (news := [encZ y]) (fitR_encZ _ [y]) (.inr ⟨ad, rfl, hc⟩) (by simpa using b2'); have he : v2 = v' ∧ w2 = w' := by
  have : Result.ok v2 w2 = Result.ok v' w' := hrun2.symm.trans hrun; injection this with e1 e2; exact ⟨e1, e2⟩
 obtain ⟨rfl, rfl⟩ := he; have hone' : OneAt w2 v2 := by
  intro c0 hc0 arr T fz ha; rcases hf2 with ⟨_, _, e2⟩ | ⟨c1, _, cap, arr1, T1, vs, e1, e2, _, e4, _⟩
  ·rw [e2] at hc0; cases hc0
  ·rw [e1] at hc0; have : c1 = c0 := by injection hc0
   subst this; rw [e2] at ha; injection ha with ha; injection ha with ha _ _; subst ha; exact e4.2.2
 unfold Oper.wpIn; refine ⟨?_, ?_⟩
 ·simp [Oper.about, hop, resolve, Target.leads, Sem.run_pure]
 ·rw [Oper.semAt_plain F _ _ (by rw [hop]; intro c hc'; cases hc')]; simp [execOp, hop, resolve, invoke, builtin, hs, hx, hrun, Result.andThen]; exact hK' _ _ (hK v2 w2 r1 hone' r2)
def ApOne (ρ : Ren) (w0 : World) (fn : FuncId) (sv : Value) (Bs l D : Nat) (ss : List Int) (W : World) : Prop :=
 AnyZI.ApAt ρ w0 fn sv Bs l D ss W ∧ ∀ v, W.heap[Bs]? = some (.cells #[v] (ρ.t 24) (0, 0)) → OneAt W v
theorem apOne_abides (ρ : Ren) (w0 : World) (fn : FuncId) (sv : Value) (Bs l D B : Nat) (hB : w0.heap.size ≤ B) : AbidesFrom B (ApOne ρ w0 fn sv Bs l D) := fun s W W' row h hg hrow => by
 refine ⟨AnyZI.ap_abides ρ w0 fn sv Bs l D B hB s W W' row h.1 hg hrow, fun v hv => ?_⟩; have hrow' : ∀ r, row = some r → ∃ o : Obj, W.heap[r]? = some o ∧ o.isWalk = true := fun r e => (hrow r e).2; obtain ⟨u, hu, hr, _⟩ := h.1.box; have e := (grownBy_keeps hg hrow' hu rfl).trans hu; have e := e.symm.trans hv; injection e with e; have e2 := congrArg (fun a : Array Value => a.toList) (Obj.cells.inj e).1; have : u = v := by simpa using e2
 subst this; refine (h.2 u hu).kept fun c hc => ?_; obtain ⟨_, ⟨rfl, _⟩ | ⟨gb, cap, cur, rfl, _, hgb, _⟩⟩ := hr
 ·cases hc
 ·have : gb = c := by injection hc
  subst this; exact grownBy_keeps hg hrow' hgb rfl
set_option maxRecDepth 100000 in
set_option maxHeartbeats 2000000 in
theorem apYieldOne (L : SlLaysZI.n11 P ρ) (hsl : slInfo P (ρ.t 24) = some (1, 8)) (F : Fence) (m : Nat) (w0 : World) (fn : FuncId) (hfn : F.fn fn) (sv : Value) (Bs l D : Nat) (hBl : Bs ≠ l) (hDl : D ≠ l) (hDB : D ≠ Bs) (h0B : w0.heap.size ≤ Bs) (h0l : w0.heap.size ≤ l)
    (N : Nat) (hN : N ≤ maxLen) (hNb : N * 8 ≤ 140737488355328) (ss : List Int) (x : Int) (W : World) (h : ApOne ρ w0 fn sv Bs l D ss W) (hlen : ss.length < N) :
    YieldAt F m P l #[encZ x] W fun e W' => e = .returned (.bool true) ∧ ApOne ρ w0 fn sv Bs l D (ss ++ [x]) W' ∧ KeepsWalks W W' := by
  have mixed := L.mixed; have t0 := L.t0; have a0 := L.a0; have z0 := L.z0; have v0 := L.v0; have t24 := L.t24; have a24 := L.a24; have z24 := L.z24; have v24 := L.v24; have t26 := L.t26; have a26 := L.a26; have z26 := L.z26; have v26 := L.v26; have t28 := L.t28; have a28 := L.a28; have z28 := L.z28; have v28 := L.v28
  have hne : ρ.t 24 ≠ ρ.t 26 := fun e => by have h := L.t24; rw [e, L.t26] at h; cases h
  have u0 := run_underlying L.t0; have u24 := run_underlying L.t24; have u26 := run_underlying L.t26; have u28 := run_underlying L.t28
  obtain ⟨i0, hi, hz0, hz1, hz2⟩ := info_parts L.i26
  obtain ⟨h, hone⟩ := h
  obtain ⟨v, hv, hrow, _⟩ := h.box
  have hone := hone v hv
  refine ⟨fn, #[.slice none 0 0, sv, .pointer (some ⟨Bs, 0, none⟩), undef, .slice none 0 0, undef, sv, encZ x, undef, undef, undef, undef, undef], AnyZI.apAssign ρ, AnyZI.apBody ρ, by simpa [AnyZI.apRec] using run_yield (P := P) (args := #[encZ x]) h.L rfl, roundIn_of_wpIn hfn ?_⟩
  have hl : l < W.heap.size := (Array.getElem?_eq_some_iff.1 h.L).1
  have hbr := run_beginRound (P := P) h.L rfl
  obtain ⟨W2, hW2⟩ : ∃ W2, W.putObj l (.loop { AnyZI.apRec ρ fn sv Bs D .ready none with state := .busy }) = W2 := ⟨_, rfl⟩
  rw [hW2] at hbr
  have hg2 : W.grownBy W2 (some l) := by rw [← hW2]; exact grownBy_putObj_a _ _ _
  have hk2 : KeepsWalks W W2 := by rw [← hW2]; exact KeepsWalks.putObj _ h.L rfl
  have hv2 : W2.heap[Bs]? = some (.cells #[v] (ρ.t 24) (0, 0)) := by rw [← hW2]; exact (World.putObj_heap_other hBl).trans hv
  have hK2 : W2.heap[D]? = some (.deferred (some [])) := by rw [← hW2]; exact (World.putObj_heap_other hDl).trans h.K
  have hL2 : W2.heap[l]? = some (.loop { AnyZI.apRec ρ fn sv Bs D .ready none with state := .busy }) := by rw [← hW2]; exact World.putObj_heap_same hl
  have hrow2 : W2.ownsRow w0.heap.size (ρ.t 26) 1 v ss.length (ss.map encZ) := hrow.kept hg2 (ownsRow_ne_a hrow h.L (fun cur e => by first | cases e | exact hne (Obj.cells.inj e).2.1))
  have hb2 : Below w0.heap.size w0 W2 := h.below.grown hg2 h.below.size (fun k e => by cases e; exact h0l)
  have hone2 : OneAt (W2.alloc (.cells #[encZ x] (ρ.t 26))) v := hone.kept fun c hc => by
    obtain ⟨_, ⟨rfl, _⟩ | ⟨gb, cap, cur, rfl, _, hgb, _⟩⟩ := hrow
    · cases hc
    · have : gb = c := by injection hc
      subst this
      have hgl := (Array.getElem?_eq_some_iff.1 hgb).1
      have hne : gb ≠ l := fun e => by rw [e, h.L] at hgb; cases hgb
      have e1 : W2.heap[gb]? = W.heap[gb]? := by rw [← hW2]; exact World.putObj_heap_other hne
      rw [← e1]
      exact Below.heap_alloc _ _ gb (by have := hk2.1; omega)
  obtain ⟨hc2, hf2⟩ := cell_of_box_a hv2
  have hBlt : Bs < W2.heap.size := (Array.getElem?_eq_some_iff.1 hv2).1
  have hl2 : l < W2.heap.size := (Array.getElem?_eq_some_iff.1 hL2).1
  have hDlt : D < W2.heap.size := (Array.getElem?_eq_some_iff.1 hK2).1
  have ne_of : ∀ {j : Nat} {o : Obj}, W2.heap[j]? = some o → (∀ cur, o ≠ .cells cur (ρ.t 26) (0, 0)) → some j ≠ v.ownBlock := fun hj hno => by
    rcases ownsRow_ne_a hrow2 hj hno with e | e
    · rw [e]; simp
    · exact fun e' => e e'.symm
  clear hW2
  clear hone
  unfold AnyZI.apAssign
  gi_wp2_with gi_round_op_a
  unfold AnyZI.apBody
  gi_wp2_with (first
    | (gi_at_builtin; refine wpListIn_append_one _ rfl _ _ (ρ.t 24) rfl w0.heap.size (ρ.t 26) i0 (.int .i64 0) 8 L.t24 hi hz0 hz1 hz2 rfl hsl _ ss x rfl (hrow2.alloc _) hone2 ⟨W2.heap.size, 0, none⟩ 1 rfl (cell_one_new _ _ _) (by omega) (by omega) (by omega) (by have := hb2.size; simp; omega) ?_; intro v' w3 hown' hone3 hg3
       have hv3 : w3.heap[Bs]? = some (.cells #[v] (ρ.t 24) (0, 0)) := (hg3.block Bs (by simp; omega) (ne_of hv2 (fun cur e => by first | cases e | exact hne (Obj.cells.inj e).2.1))).trans ((Below.heap_alloc _ _ Bs hBlt).trans hv2)
       obtain ⟨hc3, hf3⟩ := cell_of_box_a hv3
       obtain ⟨g', cap', cur', rfl, hbase', hgb', hr1, hr2, hr3, hr4⟩ : ∃ g' cap' cur', v' = .slice (some ⟨g', 0, none⟩) (ss.length + 1) cap' ∧ w0.heap.size ≤ g' ∧ w3.heap[g']? = some (.cells cur' (ρ.t 26) (0, 0)) ∧ ss.length + 1 ≤ cap' ∧ cap' ≤ maxLen ∧ cur'.size = cap' * 1 ∧ cur'.toList.take ((ss.length + 1) * 1) = ss.map encZ ++ [encZ x] := by
         rcases hown'.2 with ⟨_, h0⟩ | h'
         · exact absurd h0 (by omega)
         · exact h'
       go_frame)
    | gi_round_op_a)
  have hg3' : (W2.alloc (.cells #[encZ x] (ρ.t 26))).grownBy w3 v.ownBlock := hg3
  have hL3 : w3.heap[l]? = some (.loop { AnyZI.apRec ρ fn sv Bs D .ready none with state := .busy }) := (hg3'.block l (by simp; omega) (ne_of hL2 (fun cur e => by first | cases e | exact hne (Obj.cells.inj e).2.1))).trans ((Below.heap_alloc _ _ l hl2).trans hL2)
  have hK3 : w3.heap[D]? = some (.deferred (some [])) := (hg3'.block D (by simp; omega) (ne_of hK2 (fun cur e => by first | cases e | exact hne (Obj.cells.inj e).2.1))).trans ((Below.heap_alloc _ _ D hDlt).trans hK2)
  have hgB : g' ≠ Bs := fun e => by rw [e, hv3] at hgb'; injection hgb' with e1; exact hne (Obj.cells.inj e1).2.1
  have hgl : g' ≠ l := fun e => by rw [e, hL3] at hgb'; cases hgb'
  obtain ⟨w4, hw4⟩ : ∃ w4, w3.setCell ⟨Bs, 0, none⟩ (.slice (some ⟨g', 0, none⟩) (ss.length + 1) cap') = w4 := ⟨_, rfl⟩
  rw [hw4]
  have hg4 : w3.grownBy w4 (some Bs) := by rw [← hw4]; exact grownBy_setCell0_a _ _ _
  have hv4 : w4.heap[Bs]? = some (.cells #[.slice (some ⟨g', 0, none⟩) (ss.length + 1) cap'] (ρ.t 24) (0, 0)) := by rw [← hw4]; exact heap_setCell_box_a _ hv3
  have hL4 : w4.heap[l]? = some (.loop { AnyZI.apRec ρ fn sv Bs D .ready none with state := .busy }) := (hg4.block l (Array.getElem?_eq_some_iff.1 hL3).1 (fun e => hBl (by cases e; rfl))).trans hL3
  have hK4 : w4.heap[D]? = some (.deferred (some [])) := (hg4.block D (Array.getElem?_eq_some_iff.1 hK3).1 (fun e => hDB (by cases e; rfl))).trans hK3
  have hG4 : w4.heap[g']? = w3.heap[g']? := hg4.block g' (Array.getElem?_eq_some_iff.1 hgb').1 (fun e => hgB (by cases e; rfl))
  have hrow4 := hown'.kept hg4 (ownsRow_ne_a hown' hv3 (fun cur e => by first | cases e | exact hne (Obj.cells.inj e).2.1))
  have hl4 : l < w4.heap.size := (Array.getElem?_eq_some_iff.1 hL4).1
  have hb3 : Below w0.heap.size w0 w3 := (hb2.alloc hb2.size _).grown hg3' (by have := hb2.size; simp; omega) (fun k e => (hrow2.lt k e).1)
  have hb4 : Below w0.heap.size w0 w4 := hb3.grown hg4 hb3.size (fun k e => by cases e; exact h0B)
  have hk4 : KeepsWalks W w4 := ((hk2.trans (KeepsWalks.alloc _ _)).trans (KeepsWalks.of_grownBy hg3' (ownsRow_not_walk_a (hrow2.alloc _)))).trans (by rw [← hw4]; exact KeepsWalks.setCell _ _ _)
  clear hw4
  have hv5 : ∀ o', (w4.putObj l o').heap[Bs]? = some (.cells #[.slice (some ⟨g', 0, none⟩) (ss.length + 1) cap'] (ρ.t 24) (0, 0)) := fun o' => (World.putObj_heap_other hBl).trans hv4
  have hone5 : ∀ o', OneAt (w4.putObj l o') (.slice (some ⟨g', 0, none⟩) (ss.length + 1) cap') := fun o' => hone3.kept fun c hc => by
    have : g' = c := by injection hc
    subst this
    exact (World.putObj_heap_other hgl).trans hG4
  refine ⟨_, _, run_endRound none hL4, rfl, ⟨⟨⟨_, hv5 _, ?_, by simp⟩, World.putObj_heap_same hl4, (World.putObj_heap_other hDl).trans hK4, hb4.grown (grownBy_putObj_a _ _ _) hb4.size (fun k e => by cases e; exact h0l)⟩, fun u hu => ?_⟩, hk4.trans (KeepsWalks.putObj _ hL4 rfl)⟩
  · have := hrow4.kept (grownBy_putObj_a w4 l (.loop { { AnyZI.apRec ρ fn sv Bs D .ready none with state := .busy } with state := if (none : Option Code).isNone then .ready else .done, pending := none })) (ownsRow_ne_a hrow4 hL4 (fun cur e => by first | cases e | exact hne (Obj.cells.inj e).2.1))
    simpa using this
  · have e := (hv5 _).symm.trans hu
    injection e with e
    have e2 := (Obj.cells.inj e).1
    have : u = .slice (some ⟨g', 0, none⟩) (ss.length + 1) cap' := by
      have := congrArg (fun a : Array Value => a.toList) e2
      simpa using this.symm
    subst this
    exact hone5 _
set_option maxRecDepth 100000 in
set_option maxHeartbeats 2000000 in
theorem appendSeqV (L : SlLaysZI.n11 P ρ) (hsl : slInfo P (ρ.t 24) = some (1, 8)) (F : Fence) (n : Nat) (h11 : F.fn (ρ.f 11)) (hro : F.round = none) (hn : 2 ≤ n) (g : Nat) (lb : Array Value) (hFg : F.fn g) (eg : ∀ args w, (callFunc g args).run P w = .ok (.enter g args) w)
    (S : List Int → Prop) (N : Nat) (hN : N ≤ maxLen) (hNb : N * 8 ≤ 140737488355328) (w : World) (hseq : SeqBelow F (n - 1) P g lb S N w) :
    CallsIn F n P (ρ.f 11) #[.slice none 0 0, .func (.func g) #[] lb] w fun e w' => ∃ (v : Value) (ss : List Int), e = .returned v ∧ S ss ∧ w'.ownsRow w.heap.size (ρ.t 26) 1 v ss.length (ss.map encZ) ∧ OneAt w' v ∧ (v = .slice none 0 0 ↔ ss = []) ∧ Below w.heap.size w w' := by
  have h1 : 1 ≤ n := by omega
  have mixed := L.mixed; have t0 := L.t0; have a0 := L.a0; have z0 := L.z0; have v0 := L.v0; have t24 := L.t24; have a24 := L.a24; have z24 := L.z24; have v24 := L.v24; have t26 := L.t26; have a26 := L.a26; have z26 := L.z26; have v26 := L.v26; have t28 := L.t28; have a28 := L.a28; have z28 := L.z28; have v28 := L.v28
  have hne : ρ.t 24 ≠ ρ.t 26 := fun e => by have h := L.t24; rw [e, L.t26] at h; cases h
  have u0 := run_underlying L.t0; have u24 := run_underlying L.t24; have u26 := run_underlying L.t26; have u28 := run_underlying L.t28
  obtain ⟨_, _, FG⟩ := L.f11
  refine callsIn_of_wp_marks FG rfl h11 ?_ hro
  simp only [SlBodyZ.n11_ntmps ρ, List.size_toArray, List.length_cons, List.length_nil, Nat.reduceAdd, Nat.reduceSub, Array.replicate_succ, Array.replicate_zero, List.push_toArray, List.append_toArray, List.nil_append, List.cons_append]
  gi_wp2
  refine wpIn_rangeFunc ?_
  intro fn hfn
  rw [hro]
  obtain ⟨W0, hW0⟩ : ∃ W0, w.alloc (.cells #[.slice none 0 0] (ρ.t 24)) = W0 := ⟨_, rfl⟩
  have hs0 : W0.heap.size = w.heap.size + 1 := by rw [← hW0]; simp
  have hv0 : W0.heap[w.heap.size]? = some (.cells #[.slice none 0 0] (ρ.t 24) (0, 0)) := by rw [← hW0]; exact World.alloc_heap_new w _
  have hb0 : Below w.heap.size w W0 := by rw [← hW0]; exact (Below.refl _ w).alloc (Nat.le_refl _) _
  rw [hW0]
  obtain ⟨W1, hW1⟩ : ∃ W1, (W0.alloc (.deferred (some []))).alloc (.loop (AnyZI.apRec ρ fn (.func (.func g) #[] lb) w.heap.size W0.heap.size .ready none)) = W1 := ⟨_, rfl⟩
  have hold : ∀ k, k < W0.heap.size → W1.heap[k]? = W0.heap[k]? := fun k hk => by
    rw [← hW1]; exact (Below.heap_alloc _ _ k (by simp; omega)).trans (Below.heap_alloc _ _ k hk)
  have hb1 : Below w.heap.size w W1 := by rw [← hW1]; exact (hb0.alloc hb0.size _).alloc (by have := hb0.size; simp; omega) _
  have hv1 := (hold w.heap.size (by omega)).trans hv0
  have hM : ApOne ρ w fn (.func (.func g) #[] lb) w.heap.size (W0.heap.size + 1) W0.heap.size [] W1 :=
    ⟨⟨⟨_, (hold w.heap.size (by omega)).trans hv0, ⟨rfl, .inl ⟨rfl, rfl⟩⟩, by simp⟩,
     by rw [← hW1]; have := World.alloc_heap_new (W0.alloc (.deferred (some []))) (.loop (AnyZI.apRec ρ fn (.func (.func g) #[] lb) w.heap.size W0.heap.size .ready none)); rwa [World.size_alloc] at this,
     by rw [← hW1]; exact (Below.heap_alloc _ _ _ (by simp)).trans (World.alloc_heap_new W0 _), hb1⟩, fun u hu c hc => by
      have e := hv1.symm.trans hu
      injection e with e
      have e2 := congrArg (fun a : Array Value => a.toList) (Obj.cells.inj e).1
      have : u = .slice none 0 0 := by simpa using e2.symm
      rw [this] at hc
      cases hc⟩
  refine ⟨W0.heap.size + 1, [{ target := .collected W0.heap.size, args := #[] }], W1, { target := .fn (.func g) lb, args := #[.func (.yield (W0.heap.size + 1)) #[] #[]] }, W1, g,
    #[.func (.yield (W0.heap.size + 1)) #[] #[]] ++ lb, W1, ?_, ?_, ?_, ?_, fun _ => h1, ?_⟩
  · rw [← hW1]; exact run_enterLoop_outer _ _ _ _ _
  · simp [resolve, go_sem]
  · intro f' hf'; simp [Target.leads] at hf'; subst hf'; exact hFg
  · simp [invoke, go_sem, eg]
  · refine (hseq (W0.heap.size + 1) (ApOne ρ w fn (.func (.func g) #[] lb) w.heap.size (W0.heap.size + 1) W0.heap.size) W1 hb1 (apOne_abides ρ _ _ _ _ _ _ _ hb1.size)
      (fun pre x W hJ hl => (apYieldOne { L with } hsl F (n - 1 - 1) w fn hfn _ w.heap.size (W0.heap.size + 1) W0.heap.size (by omega) (by omega) (by omega) (Nat.le_refl _) (by omega) N hN hNb pre x W hJ hl).mono
        fun e W' ⟨he, h2, h3⟩ => ⟨he, h2, h3, below_mid hJ.1.below h2.1.below h3⟩) hM).mono ?_
    rintro e W2 ⟨⟨v0, rfl⟩, ss, hS, h2, hone⟩
    obtain ⟨v, hv, hrow, hnil⟩ := h2.box
    have hone := hone v hv
    have hend := run_endLoop (P := P) h2.L (by simp [AnyZI.apRec])
    obtain ⟨W3, hW3⟩ : ∃ W3, W2.putObj (W0.heap.size + 1) (.loop { AnyZI.apRec ρ fn (.func (.func g) #[] lb) w.heap.size W0.heap.size .ready none with state := .exhausted }) = W3 := ⟨_, rfl⟩
    rw [hW3] at hend
    have hg3 : W2.grownBy W3 (some (W0.heap.size + 1)) := by rw [← hW3]; exact grownBy_putObj_a _ _ _
    have hv3 : W3.heap[w.heap.size]? = some (.cells #[v] (ρ.t 24) (0, 0)) := by rw [← hW3]; exact (World.putObj_heap_other (by omega)).trans hv
    have hK3 : W3.heap[W0.heap.size]? = some (.deferred (some [])) := by rw [← hW3]; exact (World.putObj_heap_other (by omega)).trans h2.K
    have hrow3 := hrow.kept hg3 (ownsRow_ne_a hrow h2.L (fun cur e => by first | cases e | exact hne (Obj.cells.inj e).2.1))
    have hb3 : Below w.heap.size w W3 := h2.below.grown hg3 h2.below.size (fun k e => by cases e; omega)
    obtain ⟨hc3, hf3⟩ := cell_of_box_a hv3
    have hone3 : ∀ o', OneAt (W3.putObj W0.heap.size o') v := fun o' => hone.kept fun c hc => by
      have hvc : v.ownBlock = some c := hc
      obtain ⟨_, ⟨rfl, _⟩ | ⟨gb, cap, cur, rfl, _, hgb, _⟩⟩ := hrow
      · cases hc
      · have : gb = c := by injection hc
        subst this
        have n1 : gb ≠ W0.heap.size + 1 := fun e => by rw [e, h2.L] at hgb; cases hgb
        have n2 : gb ≠ W0.heap.size := fun e => by rw [e, h2.K] at hgb; cases hgb
        rw [World.putObj_heap_other n2, ← hW3, World.putObj_heap_other n1]
    clear hW3
    clear hone
    refine ⟨none, W3, hend, ?_⟩
    gi_wp2
    rw [← hs0]
    refine ⟨by simp, .inl ⟨_, _, rfl, run_takeDeferred hK3, ?_⟩⟩
    exact ⟨_, results_tmp rfl _ _ _, v, ss, rfl, hS, hrow3.kept (grownBy_putObj_a _ _ _) (ownsRow_ne_a hrow3 hK3 (fun cur e => by first | cases e | exact hne (Obj.cells.inj e).2.1)), hone3 _, hnil, hb3.grown (grownBy_putObj_a _ _ _) hb3.size (fun k e => by cases e; omega)⟩
set_option maxHeartbeats 1000000 in
theorem collectV (L : SlLaysZI.n8 P ρ) (hsl : slInfo P (ρ.t 24) = some (1, 8)) (F : Fence) (n : Nat) (h8 : F.fn (ρ.f 8)) (h11 : F.fn (ρ.f 11)) (hro : F.round = none) (hn : 3 ≤ n) (g : Nat) (lb : Array Value) (hFg : F.fn g) (eg : ∀ args w, (callFunc g args).run P w = .ok (.enter g args) w)
 (S : List Int → Prop) (N : Nat) (hN : N ≤ maxLen) (hNb : N * 8 ≤ 140737488355328) (w : World) (hseq : SeqBelow F (n - 1 - 1) P g lb S N w) :
 CallsIn F n P (ρ.f 8) #[.func (.func g) #[] lb] w fun e w' => ∃ (v : Value) (ss : List Int), e = .returned v ∧ S ss ∧ w'.ownsRow w.heap.size (ρ.t 26) 1 v ss.length (ss.map encZ) ∧ OneAt w' v ∧ (v = .slice none 0 0 ↔ ss = []) ∧ Below w.heap.size w w' := by
 have h1 : 1 ≤ n := by omega
 have e11 : ∀ args w, (callFunc (ρ.f 11) args).run P w = .ok (.enter (ρ.f 11) args) w := L.f11.enters rfl; have mixed := L.mixed; have t0 := L.t0; have a0 := L.a0; have z0 := L.z0; have v0 := L.v0; have t24 := L.t24; have a24 := L.a24; have z24 := L.z24; have v24 := L.v24; have t26 := L.t26; have a26 := L.a26; have z26 := L.z26; have v26 := L.v26; have t28 := L.t28; have a28 := L.a28; have z28 := L.z28; have v28 := L.v28; have u0 := run_underlying L.t0; have u24 := run_underlying L.t24; have u26 := run_underlying L.t26; have u28 := run_underlying L.t28; obtain ⟨_, _, FG⟩ := L.f8; refine callsIn_of_wp FG rfl h8 ?_ hro; simp only [SlBodyZ.n8_ntmps ρ, List.size_toArray, List.length_cons, List.length_nil, Nat.reduceAdd, Nat.reduceSub, Array.replicate_succ, Array.replicate_zero, List.push_toArray, List.append_toArray, List.nil_append, List.cons_append]
 gi_wp2_with (gi_at_fn (ρ.f 11); refine (appendSeqV { L with } hsl F (n - 1) h11 hro (by omega) g lb hFg eg S N hN hNb _ hseq).mono ?_; rintro e w' ⟨v, ss, rfl, hS, hrow, hone, hnil, hb⟩)
 go_ret
 exact ⟨v, ss, rfl, hS, hrow, hone, hnil, hb⟩
theorem oneAt_sorted {w : World} {g n k cap : Nat} {e : TypeId} {os : Array Obj} {cur : Array Value} {ts : List Int} (hb : w.heap[g]? = some (.cells cur e (0, 0))) (h1 : ∀ u ∈ cur.toList, u.oneCell' = true) :
 OneAt (grow (putRow encZ (Sort.ahead w n) g 0 ts.toArray) os) (.slice (some ⟨g, 0, none⟩) k cap) := by
 intro c hc arr T fz ha; have : g = c := by injection hc
 subst this; rw [heap_sorted_i _ hb] at ha; injection ha with ha; have ha := (Obj.cells.inj ha).1; subst ha; intro u hu; obtain ⟨k, hk, rfl⟩ := List.getElem_of_mem hu; simp only [putCells, Array.getElem_toList, Array.getElem_mapIdx]; split
 ·rfl
 ·exact h1 _ (Array.getElem_mem_toList _)
set_option maxRecDepth 100000 in
set_option maxHeartbeats 2000000 in
theorem sortedV (L : SlLaysZI.n6 P ρ) (hsl : slInfo P (ρ.t 24) = some (1, 8)) (F : Fence) (n : Nat) (h6 : F.fn (ρ.f 6)) (h8 : F.fn (ρ.f 8)) (h9 : F.fn (ρ.f 9)) (h11 : F.fn (ρ.f 11)) (hro : F.round = none) (hn : 4 ≤ n) (hsort : AnyZI.SortsIn P ρ F (n - 1)) (e9 : ∀ args w, (callFunc (ρ.f 9) args).run P w = .ok (.enter (ρ.f 9) args) w) (g : Nat) (lb : Array Value) (hFg : F.fn g) (eg : ∀ args w, (callFunc g args).run P w = .ok (.enter g args) w)
 (S : List Int → Prop) (N : Nat) (hN : N ≤ maxLen) (hNb : N * 8 ≤ 140737488355328) (w : World) (hseq : SeqBelow F (n - 1 - 1 - 1) P g lb S N w) (hS : ∀ ss, S ss → ss.length ≤ N) :
 CallsIn F n P (ρ.f 6) #[.func (.func g) #[] lb] w fun e w' => ∃ (v : Value) (ss : List Int), e = .returned v ∧ S ss ∧
  w'.ownsRow w.heap.size (ρ.t 26) 1 v ss.length ((ss.mergeSort (fun x y => decide (x ≤ y))).map encZ) ∧ OneAt w' v ∧ (v = .slice none 0 0 ↔ ss = []) ∧ Below w.heap.size w w' := by
 have h1 : 1 ≤ n := by omega
 have e8 : ∀ args w, (callFunc (ρ.f 8) args).run P w = .ok (.enter (ρ.f 8) args) w := L.f8.enters rfl; have mixed := L.mixed; have t0 := L.t0; have a0 := L.a0; have z0 := L.z0; have v0 := L.v0; have t24 := L.t24; have a24 := L.a24; have z24 := L.z24; have v24 := L.v24; have t26 := L.t26; have a26 := L.a26; have z26 := L.z26; have v26 := L.v26; have t28 := L.t28; have a28 := L.a28; have z28 := L.z28; have v28 := L.v28; have u0 := run_underlying L.t0; have u24 := run_underlying L.t24; have u26 := run_underlying L.t26; have u28 := run_underlying L.t28; obtain ⟨_, _, FG⟩ := L.f6; refine callsIn_of_wp FG rfl h6 ?_ hro; simp only [SlBodyZ.n6_ntmps ρ, List.size_toArray, List.length_cons, List.length_nil, Nat.reduceAdd, Nat.reduceSub, Array.replicate_succ, Array.replicate_zero, List.push_toArray, List.append_toArray, List.nil_append, List.cons_append]
 gi_wp2_with (gi_at_fn (ρ.f 8); refine (collectV { L with } hsl F (n - 1) h8 h11 hro (by omega) g lb hFg eg S N hN hNb _ hseq).mono ?_; rintro e W ⟨v, ss, rfl, hSs, hrow, hone, hnil, hb⟩)
 rcases hrow.2 with ⟨rfl, hz⟩ | ⟨gb, cap, cur, rfl, hbase, hgb, r1, r2, r3, r4⟩
 ·have hss : ss = [] := List.eq_nil_of_length_eq_zero hz; subst hss
  gi_wp2_with (gi_at_fn (ρ.f 9); refine (hsort.2 none 0 W).mono ?_; rintro e w' ⟨rfl, rfl⟩)
  go_ret
  exact ⟨.slice none 0 0, [], rfl, hSs, by simpa using hrow, (fun c hc => by cases hc), by simp, hb⟩
 ·have hH : Holds encZ W gb 0 ss.toArray := holds_of_block_i hgb (by simpa using r4); have hgl : gb < W.heap.size := (Array.getElem?_eq_some_iff.1 hgb).1; have hsz : ss.length < 4611686018427387904 := by have := hS ss hSs; omega
  have cS := hsort.1 gb 0 cap ss W hH hgl hsz
  gi_wp2_with (gi_at_fn (ρ.f 9); refine cS.mono ?_; rintro e w' ⟨rfl, nn, os, rfl⟩)
  go_ret
  exact ⟨_, ss, rfl, hSs, ownsRow_sorted_i (by simp) hbase hgb r1 r2 r3, oneAt_sorted hgb (hone gb rfl cur _ _ hgb), hnil, hb.grown (grownBy_sorted_i _) hb.size (fun j hj => by cases hj; exact hbase)⟩
end Go.AX
