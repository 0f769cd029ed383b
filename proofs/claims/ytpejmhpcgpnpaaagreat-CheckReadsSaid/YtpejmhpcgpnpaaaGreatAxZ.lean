/-
  AX, part Z: what a law is handed, as plain values.
-/
import Derived.Test.YtpejmhpcgpnpaaaGreatAxR
import Derived.Test.YtpejmhpcgpnpaaaGreatAxBe
import Derived.Deep.Slices
import Derived.OpenShut
namespace Go.AX
open Go.ChangeShapes Go.WideShapes Go.ChangeAt Go.RowKit
inductive Sh where
  | int (k : IntKind)
  | bool
  | str
  | sl (row : List Sh)
def shFs (P : Program) (f : TypeId → Option (List Sh)) : List Field → Nat → Option (List Sh)
 | [], _ => some []
 | d :: r, off => match f d.type with
  | some s => if d.offset = off ∧ P.cellsOf d.type = s.length then (shFs P f r (off + s.length)).map (s ++ ·) else none
  | none => none
def repL (s : List Sh) : Nat → List Sh
 | 0 => []
 | n + 1 => s ++ repL s n
def shOf (P : Program) : Nat → TypeId → Option (List Sh)
 | 0, _ => none
 | n + 1, t => match P.underlying t with
  | some .bool => some [.bool]
  | some (.int k) => some [.int k]
  | some .string => some [.str]
  | some (.slice e) => match shOf P n e with
   | some r => if P.cellsOf e = r.length ∧ 0 < P.cellsOf e then some [.sl r] else none
   | none => none
  | some (.struct fs) => match shFs P (shOf P n) fs.toList 0 with
   | some sf => if P.cellsOf t = sf.length then some sf else none
   | none => none
  | some (.array m e) => match shOf P n e with
   | some s => if P.cellsOf e = s.length ∧ P.cellsOf t = (repL s m).length then some (repL s m) else none
   | none => none
  | _ => none
mutual
def IsSh : Sh → PV → Prop
  | .int k, x => ∃ n, x = .lit (.int k n) ∧ (Lit.int k n).wf = true
  | .bool, x => ∃ b, x = .lit (.bool b)
  | .str, x => ∃ s : ByteArray, x = .lit (.string s) ∧ s.size ≤ maxLen
  | .sl row, x => ∃ rows : List (List PV), x = .seq false row.length rows ∧ rows.length ≤ maxLen ∧ ∀ r ∈ rows, IsShL row r
def IsShL : List Sh → List PV → Prop
  | [], xs => xs = []
  | s :: ss, xs => ∃ x r, xs = x :: r ∧ IsSh s x ∧ IsShL ss r
end
theorem IsShL.append : ∀ {a b : List Sh} {xs ys : List PV}, IsShL a xs → IsShL b ys → IsShL (a ++ b) (xs ++ ys)
 | [], _, _, _, h, h' => by simp only [IsShL] at h; subst h; exact h'
 | _ :: _, _, _, _, h, h' => by
  simp only [IsShL] at h; obtain ⟨x, r, rfl, h1, h2⟩ := h; simp only [List.cons_append, IsShL]; exact ⟨x, _, rfl, h1, IsShL.append h2 h'⟩
theorem IsShL.length : ∀ {a : List Sh} {xs : List PV}, IsShL a xs → xs.length = a.length
 | [], _, h => by simp only [IsShL] at h; subst h; rfl
 | _ :: _, _, h => by
  simp only [IsShL] at h; obtain ⟨x, r, rfl, h1, h2⟩ := h; simp [IsShL.length h2]
section
variable {H : Type} {enc : TypeId × Value → H} {P : Program} {w : World} {base : Nat} {spare : Nat → Bool} {held : Bool}
def Shown (w : World) (shs : List Sh) (cs : List Value) : Prop := ∃ xs, IsShL shs xs ∧ FitL (snap w) xs cs ∧ ∀ v ∈ cs, v.oneCell' = true
theorem Shown.nil (w : World) : Shown w [] [] := ⟨[], rfl, rfl, fun v h => by cases h⟩
theorem Shown.append {a b : List Sh} {c d : List Value} (h : Shown w a c) (h' : Shown w b d) : Shown w (a ++ b) (c ++ d) := by
 obtain ⟨xs, h1, h2, h3⟩ := h; obtain ⟨ys, k1, k2, k3⟩ := h'; exact ⟨xs ++ ys, h1.append k1, FitL.append h2 k2, fun v hv => (List.mem_append.1 hv).elim (h3 v) (k3 v)⟩
theorem shown_fields (f : TypeId → Option (List Sh)) (cs : List Value) : ∀ (l : List Field) (off : Nat) (s : List Sh), shFs P f l off = some s → off + s.length ≤ cs.length →
 (∀ d ∈ l, ∀ sd, f d.type = some sd → ∀ c, c = (cs.drop d.offset).take (P.cellsOf d.type) → Shown w sd c) → Shown w s ((cs.drop off).take s.length)
 | [], off, s, hs, _, _ => by simp only [shFs, Option.some.injEq] at hs; subst hs; simpa using Shown.nil w
 | d :: r, off, s, hs, hl, hx => by
  simp only [shFs] at hs; split at hs
  ·rename_i sd hd; split at hs
   ·rename_i hc; simp only [Option.map_eq_some_iff] at hs; obtain ⟨s2, hs2, rfl⟩ := hs; rw [List.length_append] at hl; have h1 := hx d List.mem_cons_self sd hd _ rfl; have h2 := shown_fields f cs r (off + sd.length) s2 hs2 (by omega) (fun d' hd' => hx d' (List.mem_cons_of_mem _ hd')); rw [hc.1, hc.2] at h1; have := h1.append h2; rw [List.length_append]; have he : (cs.drop off).take (sd.length + s2.length) = (cs.drop off).take sd.length ++ (cs.drop (off + sd.length)).take s2.length := by
     rw [List.take_add, List.drop_drop]
    rw [he]; exact this
   ·cases hs
  ·cases hs
theorem shown_rep (s : List Sh) (cs : List Value) (e : Nat) (he : e = s.length) : ∀ (m i : Nat), (∀ j, i ≤ j → j < i + m → Shown w s ((cs.drop (j * e)).take e)) → Shown w (repL s m) ((cs.drop (i * e)).take (m * e))
 | 0, i, _ => by simpa [repL] using Shown.nil w
 | m + 1, i, h => by
  have h1 := h i (Nat.le_refl _) (by omega); have h2 := shown_rep s cs e he m (i + 1) (fun j hj hj2 => h j (by omega) (by omega)); have := h1.append h2; have he : (cs.drop (i * e)).take ((m + 1) * e) = (cs.drop (i * e)).take e ++ (cs.drop ((i + 1) * e)).take (m * e) := by
   rw [show (m + 1) * e = e + m * e by rw [Nat.succ_mul]; omega, List.take_add, List.drop_drop, show i * e + e = (i + 1) * e by rw [Nat.succ_mul]]
  rw [he]; exact this
theorem repL_length (s : List Sh) : ∀ m, (repL s m).length = m * s.length
 | 0 => by simp [repL]
 | m + 1 => by simp [repL, repL_length s m, Nat.succ_mul]; omega
theorem shown_rows (s : List Sh) (C : Nat → List Value) : ∀ (n : Nat), (∀ i, i < n → Shown w s (C i)) → ∃ rows : List (List PV), rows.length = n ∧ (∀ r ∈ rows, IsShL s r) ∧ FitR (snap w) s.length rows ((List.range n).flatMap C)
 | 0, _ => ⟨[], rfl, fun r h => (by cases h), rfl⟩
 | n + 1, h => by
  obtain ⟨rows, h1, h2, h3⟩ := shown_rows s C n (fun i hi => h i (by omega)); obtain ⟨xs, k1, k2, k3⟩ := h n (by omega); refine ⟨rows ++ [xs], by simp [h1], fun r hr => ?_, ?_⟩
  ·rcases List.mem_append.1 hr with hr | hr
   ·exact h2 r hr
   ·simp at hr; subst hr; exact k1
  ·rw [List.range_succ, List.flatMap_append]; refine FitR.append h3 ?_; exact ⟨C n, [], by simp, ⟨k1.length, k3⟩, k2, rfl⟩
theorem prefix_of_get {arr : List Value} {off e : Nat} (C : Nat → List Value) (hC : ∀ (i j : Nat), j < e → (C i).length = e → True) : ∀ (n : Nat), (∀ i, i < n → (C i).length = e ∧ ∀ j, j < e → arr[off + (i * e + j)]? = (C i)[j]?) → (List.range n).flatMap C <+: arr.drop off := by
 intro n h; have hlen : ∀ m, m ≤ n → ((List.range m).flatMap C).length = m * e := by
  intro m
  induction m with
  | zero => intro _; simp
  | succ m ih => intro hm; rw [List.range_succ, List.flatMap_append, List.length_append, ih (by omega)]; simp [(h m (by omega)).1, Nat.succ_mul]
 rw [List.prefix_iff_getElem?]; have key : ∀ m, m ≤ n → ∀ k, k < m * e → (arr.drop off)[k]? = ((List.range m).flatMap C)[k]? := by
  intro m
  induction m with
  | zero => intro _ k hk; simp at hk
  | succ m ih =>
   intro hm k hk; rw [List.range_succ, List.flatMap_append]; by_cases hkm : k < m * e
   ·rw [List.getElem?_append_left (by rw [hlen m (by omega)]; exact hkm)]; exact ih (by omega) k hkm
   ·rw [List.getElem?_append_right (by rw [hlen m (by omega)]; omega), hlen m (by omega)]; simp only [List.flatMap_cons, List.flatMap_nil, List.append_nil]; have hj : k - m * e < e := by rw [Nat.succ_mul] at hk; omega
    have := (h m (by omega)).2 (k - m * e) hj; rw [List.getElem?_drop, ← this]; congr 1; omega
 intro k hk; rw [hlen n (Nat.le_refl _)] at hk; rw [key n (Nat.le_refl _) k hk, List.getElem?_eq_getElem]
theorem trod_shown : ∀ (n : Nat) (t : TypeId) (shs : List Sh), shOf P n t = some shs → ∀ (fuel : Nat) (cs : List Value) (x : DataW H × List MemPlace), DataW.trod enc P w base spare held fuel t cs = some x → Shown w shs cs
 | 0, _, _, h, _, _, _, _ => by cases h
 | n + 1, t, shs, h, fuel, cs, x, hx => by
  unfold shOf at h; split at h
  ·rename_i ht; cases h; obtain ⟨b, rfl, _⟩ := DataW.trod_bool ht hx; exact ⟨[.lit (.bool b)], ⟨_, _, rfl, ⟨b, rfl⟩, rfl⟩, ⟨_, _, rfl, rfl, rfl⟩, by intro v hv; simp at hv; subst hv; rfl⟩
  ·rename_i k ht; cases h; obtain ⟨m, rfl, _, hw⟩ := DataW.trod_int ht hx; exact ⟨[.lit (.int k m)], ⟨_, _, rfl, ⟨m, rfl, hw⟩, rfl⟩, ⟨_, _, rfl, rfl, rfl⟩, by intro v hv; simp at hv; subst hv; rfl⟩
  ·rename_i ht; cases h; obtain ⟨s, rfl, _, hl⟩ := DataW.trod_string ht hx; exact ⟨[.lit (.string s)], ⟨_, _, rfl, ⟨s, rfl, hl⟩, rfl⟩, ⟨_, _, rfl, rfl, rfl⟩, by intro v hv; simp at hv; subst hv; rfl⟩
  ·rename_i e ht; split at h
   ·rename_i r hr; split at h
    ·rename_i hc; cases h; rcases Deep.open_slice ht hx with ⟨rfl, _⟩ | ⟨a, len, cap, m, nn, D, Pl, rfl, hb, hl, hm, hmm, _, hel⟩
     ·refine ⟨[.seq false r.length []], ⟨_, _, rfl, ⟨[], rfl, Nat.zero_le _, fun r h => by cases h⟩, rfl⟩, ⟨_, _, rfl, ⟨none, 0, rfl, Nat.le_refl _, .inl rfl⟩, rfl⟩, by intro v hv; simp at hv; subst hv; rfl⟩
     ·have hlm : len ≤ m := by rw [hmm]; split <;> omega
      have hex : ∀ i, ∃ cs', i < len → w.cells? base (a.add (i * P.cellsOf e)) (P.cellsOf e) = some cs' ∧ Shown w r cs' := fun i => by
       by_cases hi : i < len
       ·obtain ⟨cs', h1, h2⟩ := hel i (by omega); exact ⟨cs', fun _ => ⟨h1, trod_shown n e r hr _ _ _ h2⟩⟩
       ·exact ⟨[], fun h => absurd h hi⟩
      obtain ⟨C, hC⟩ : ∃ C : Nat → List Value, ∀ i, i < len → w.cells? base (a.add (i * P.cellsOf e)) (P.cellsOf e) = some (C i) ∧ Shown w r (C i) :=
       ⟨fun i => Classical.choose (hex i), fun i => Classical.choose_spec (hex i)⟩
      obtain ⟨rows, k1, k2, k3⟩ := shown_rows r C len (fun i hi => (hC i hi).2); refine ⟨[.seq false r.length rows], ⟨_, _, rfl, ⟨rows, rfl, by omega, k2⟩, rfl⟩, ⟨_, _, rfl, ⟨some a, cap, by rw [k1], by omega, ?_⟩, rfl⟩, by intro v hv; simp at hv; subst hv; rfl⟩; by_cases h0 : len = 0
      ·left; exact List.eq_nil_of_length_eq_zero (by omega)
      right; have hcell := fun i (hi : i < len) => World.cells?_some (hC i hi).1; have h00 := (hcell 0 (by omega)).2.2 0 (by omega); rw [Nat.zero_mul, show (a.add 0).add 0 = a by simp [Addr.add]] at h00; have hsome : ∃ v, w.cell? a = some v := by
       rw [h00, List.getElem?_eq_getElem (by rw [(hcell 0 (by omega)).2.1]; omega)]; exact ⟨_, rfl⟩
      obtain ⟨v0, hv0⟩ := hsome; have hspot : a.spot = none := World.cell?_spot hv0; unfold World.cell? at hv0; split at hv0
      ·rename_i arr T fz hheap; have ha : a = ⟨a.block, a.off, none⟩ := by cases a; simp only at hspot; subst hspot; rfl
       refine ⟨a.block, a.off, arr, T, fz, _, by rw [← ha], hheap, fun h => (by cases h), k3, ?_⟩; refine prefix_of_get (e := P.cellsOf e) C (fun _ _ _ _ => trivial) len (fun i hi => ?_); obtain ⟨_, h2, h3⟩ := hcell i hi; refine ⟨h2, fun j hj => ?_⟩; rw [← h3 j hj]; have hadd : (a.add (i * P.cellsOf e)).add j = ⟨a.block, a.off + (i * P.cellsOf e + j), none⟩ := by
        rw [ha, Addr.add_lit, Addr.add_lit, Nat.add_assoc]
       rw [hadd]; simp [World.cell?, hheap]
      ·cases hv0
    ·cases h
   ·cases h
  ·rename_i fs ht; split at h
   ·rename_i s hs; split at h
    ·rename_i hc; cases h; obtain ⟨xs, nn, _, _, hl, _, hf⟩ := DataW.trod_struct ht hx; have := shown_fields (w := w) (shOf P n) cs fs.toList 0 _ hs (by rw [hl, hc]; omega) (fun d hd sd hsd c hcc => by
      obtain ⟨i, hi⟩ := List.mem_iff_getElem?.1 hd; have hi' : fs[i]? = some d := by simpa using hi
      have hlt : i < xs.length := by
       have := (Array.getElem?_eq_some_iff.1 hi').1; omega
      have := hf i d hi'; rw [List.getElem?_eq_getElem hlt] at this; subst hcc; exact trod_shown n d.type sd hsd _ _ _ this)
     rw [List.drop_zero, ← hc, ← hl, List.take_length] at this; exact this
    ·cases h
   ·cases h
  ·rename_i m e ht; split at h
   ·rename_i s hs; split at h
    ·rename_i hc; cases h; obtain ⟨xs, nn, _, _, hl, hm, hf⟩ := DataW.trod_array ht hx; have := shown_rep (w := w) s cs (P.cellsOf e) hc.1 m 0 (fun j _ hj => by
      have h1 := hf j (by omega); rw [List.getElem?_eq_getElem (by omega)] at h1; exact trod_shown n e s hs _ _ _ h1)
     rw [Nat.zero_mul, List.drop_zero] at this; have hle : cs.length = m * P.cellsOf e := by rw [hl, hc.2, repL_length, hc.1]
     rw [← hle, List.take_length] at this; exact this
    ·cases h
   ·cases h
  ·cases h
/-! ### Arguments -/
def argSh (P : Program) (n : Nat) (t : TypeId) : Option (Bool × List Sh) :=
 match shOf P n t with
 | some s => match P.underlying t with
  | some (.struct _) => some (true, s)
  | some (.array _ _) => some (true, s)
  | _ => some (false, s)
 | none => none
def IsArg (a : Bool × List Sh) (x : PV) : Prop :=
 match a with
 | (true, s) => ∃ xs, x = .agg xs ∧ IsShL s xs
 | (false, s) => IsShL s [x]
def argShs (P : Program) (n : Nat) : List TypeId → Option (List (Bool × List Sh))
 | [] => some []
 | t :: ts => match argSh P n t, argShs P n ts with
  | some a, some r => some (a :: r)
  | _, _ => none
def IsArgs : List (Bool × List Sh) → List PV → Prop
 | [], xs => xs = []
 | a :: r, xs => ∃ x ys, xs = x :: ys ∧ IsArg a x ∧ IsArgs r ys
theorem arg_shown {n : Nat} {t : TypeId} {a : Bool × List Sh} (ha : argSh P n t = some a) {r : Reach} {b0 : Nat} {v : Value} (hv : Value.okWide P w r b0 t v) {d : DataW H} {ps : List MemPlace} (hd : DataW.Trod enc P w base spare held t v d ps) :
 ∃ x, IsArg a x ∧ Fit (snap w) x v := by
 obtain ⟨fuel, hf⟩ := hd; unfold argSh at ha; split at ha
 ·rename_i s hs; obtain ⟨xs, h1, h2, _⟩ := trod_shown n t s hs _ _ _ hf; have hagg : ∀ cs, v = .agg cs → ∃ x, IsArg (true, s) x ∧ Fit (snap w) x v := fun cs hc => by
   subst hc; exact ⟨.agg xs, ⟨xs, rfl, h1⟩, cs, rfl, h2⟩
  have hone : v.cells = #[v] → ∃ x, IsArg (false, s) x ∧ Fit (snap w) x v := fun hc => by
   rw [hc] at h2; have hl := h2.length; simp at hl; obtain ⟨x, rfl⟩ : ∃ x, xs = [x] := by
    match xs, hl with
    | [x], _ => exact ⟨x, rfl⟩
   obtain ⟨u, q, e1, e2, _⟩ := h2; simp at e1; exact ⟨x, h1, by rw [e1.1]; exact e2⟩
  split at ha
  ·rename_i fs ht; cases ha; simp only [Value.okWide, ht] at hv; obtain ⟨cs, hc, _⟩ := hv; exact hagg cs hc
  ·rename_i m e ht; cases ha; simp only [Value.okWide, ht] at hv; obtain ⟨cs, hc, _⟩ := hv; exact hagg cs hc
  ·rename_i hn1 hn2; cases ha; apply hone; cases v with
   | agg cs =>
    exfalso; unfold Value.okWide at hv; split at hv
    ·rename_i fs ht; exact hn1 _ ht
    ·rename_i m e ht; exact hn2 _ _ ht
    ·unfold Cell.okWide at hv; split at hv <;> first | (rename_i hh; cases hh) | skip
     unfold Cell.ok at hv; split at hv <;> first | (rename_i hh; cases hh) | exact hv
   | _ => rfl
 ·cases ha
theorem args_shown {n : Nat} {r : Reach} {b0 : Nat} : ∀ {ts : List TypeId} {vs : List Value} {ds : List (DataW H)} {ps : List MemPlace} {ss : List (Bool × List Sh)}, argShs P n ts = some ss → DataW.TrodAll enc P w base spare held ts vs ds ps →
 (∀ (j : Nat) t v, ts[j]? = some t → vs[j]? = some v → Value.okWide P w r b0 t v) → ∃ xs, IsArgs ss xs ∧ FitL (snap w) xs vs ∧ ds.length = ts.length
 | [], vs, ds, ps, ss, hs, h, _ => by
  cases hs; obtain ⟨rfl, rfl, rfl⟩ := trodAll_nil h; exact ⟨[], rfl, rfl, rfl⟩
 | t :: ts, vs, ds, ps, ss, hs, h, hv => by
  obtain ⟨v, vs1, d, ds1, a, b, rfl, rfl, rfl, h1, h2⟩ := trodAll_cons h; unfold argShs at hs; split at hs
  ·rename_i a r ha hr; cases hs; obtain ⟨x, k1, k2⟩ := arg_shown ha (hv 0 t v rfl rfl) h1; obtain ⟨xs, k3, k4, k5⟩ := args_shown hr h2 (fun j t' v' e1 e2 => hv (j + 1) t' v' e1 e2); exact ⟨x :: xs, ⟨x, xs, rfl, k1, k3⟩, ⟨v, vs1, rfl, k2, k4⟩, by simp [k5]⟩
  ·cases hs
theorem law_calls {f : Func} {k : FuncId} {s : ChangeSpec} {t : TypeId} (hl : laidOutB P = true) (hts : rowedB P f.params.toList = true) (hr : f.resultTypes = #[t]) (ht : P.underlying t = some .bool) {W : World} {args : Array Value} {ds gs : List (DataW H)} {before : List MemPlace}
 (hv : s.vars = []) (hs : s.fn H (ds ++ gs) = { results := [.lit (.bool true)], args := ds }) (hW : DataW.Whole enc P f.params.toList s.vars false W args.toList ds gs before) {xs : List PV} (hfit : FitL (snap W) xs args.toList) (hA : APure P k xs (fun r => r = .pv (.lit (.bool true)))) :
 Calls P k args W (fun e W' => ∃ v, e = .returned v ∧ s.post enc P f false true false false W args v W') := by
 have := hA.2 W args.toList hfit; rw [Array.toArray_toList] at this; refine this.mono fun e W' ⟨v, r, g', o, he, hr', hE, hF, _, _⟩ => ?_; subst hr'; obtain ⟨_, hvv⟩ := hF; have hvt : v = .bool true := hvv; subst hvt; exact ⟨_, he, law_post hl hts hr ht hv hs hW hE.below⟩
end
end Go.AX
