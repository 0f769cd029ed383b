/-
  AX, part V: operations that only read, more of them: structs that are built, indexes, functions that are made, the least and the greatest, maps that are looked into.
-/
import Derived.Test.YtipaihpchnlkfaaAxE
namespace Go.AX

/-! ### One-cell values -/
def PV.one : PV → Bool
  | .bot => false
  | .lit v => v.oneCell'
  | .agg _ => false
  | .tup _ => false
  | .ifc _ _ => true
  | .seq _ _ _ => true
  | .iptr _ _ _ _ => true
  | .ptr _ _ => true
  | .fn _ _ _ => true
  | .amap _ _ => true

theorem one_ok {g : Gh} : ∀ {x : PV} {v : Value}, x.one = true → Fit g x v → v.oneCell' = true
  | .bot, _, h, _ => by cases h
  | .lit _, _, h, hf => by cases hf; exact h
  | .agg _, _, h, _ => by cases h
  | .tup _, _, h, _ => by cases h
  | .ifc _ _, _, _, ⟨_, h, _⟩ => by rw [h]; rfl
  | .seq _ _ _, _, _, ⟨_, _, h, _⟩ => by rw [h]; rfl
  | .iptr _ _ _ _, _, _, ⟨_, _, _, _, _, _, h, _⟩ => by rw [h]; rfl
  | .ptr _ _, _, _, ⟨_, h⟩ => by rw [h]; rfl
  | .fn _ _ _, _, _, ⟨_, _, h, _⟩ => by rw [h]; rfl
  | .amap _ _, _, _, h => by
    rcases h with ⟨_, h⟩ | ⟨_, _, _, h, _⟩ <;> (rw [h]; rfl)

def allOne : List PV → Bool
  | [] => true
  | x :: xs => x.one && allOne xs

theorem allOne_ok {g : Gh} : ∀ {xs : List PV} {vs : List Value}, allOne xs = true → FitL g xs vs → ∀ v ∈ vs, v.oneCell' = true
  | [], _, _, h => by simp only [FitL] at h; subst h; simp
  | _ :: _, _, ha, ⟨_, _, h1, h2, h3⟩ => by
    simp only [allOne, Bool.and_eq_true] at ha
    subst h1
    intro u hu
    rcases List.mem_cons.1 hu with rfl | hu
    · exact one_ok ha.1 h2
    · exact allOne_ok ha.2 h3 u hu

/-- The cells of a value. -/
theorem pcells_ok {g : Gh} {x : PV} {v : Value} (h : Fit g x v) (hx : x.one = true ∨ isAggV (.pv x)) : FitL g (pcells x) v.cells.toList := by
  rcases hx with hx | hx
  · have h1 := one_ok hx h
    have hc : v.cells = #[v] := by cases v <;> first | rfl | (simp [Value.oneCell'] at h1)
    rw [hc]
    have : pcells x = [x] := by
      cases x with
      | lit u => cases u <;> first | rfl | (simp [PV.one, Value.oneCell'] at hx)
      | agg _ => cases hx
      | _ => rfl
    rw [this]
    exact ⟨v, [], rfl, h, rfl⟩
  · obtain ⟨vs, rfl, hl⟩ := agg_ok (w := default) (x := .pv x) (v := v) ⟨rfl, h⟩ hx
    exact hl

theorem splice_cons {α : Type} (xs : List α) (o : Nat) (x : α) (l : List α) (h : o + (x :: l).length ≤ xs.length) : splice xs o (x :: l) = splice (xs.set o x) (o + 1) l := by
  apply List.ext_getElem?
  intro i
  rw [splice_get h, splice_get (by simp at h ⊢; omega)]
  simp only [List.length_cons] at h ⊢
  by_cases h1 : o ≤ i ∧ i < o + (l.length + 1)
  · rw [if_pos h1]
    by_cases h2 : i = o
    · subst h2; rw [if_neg (by omega)]; simp only [Nat.sub_self, List.getElem?_cons_zero]; rw [List.getElem?_set]; simp; omega
    · rw [if_pos (by omega)]
      have : i - o = (i - (o + 1)) + 1 := by omega
      rw [this, List.getElem?_cons_succ]
  · rw [if_neg h1, if_neg (by omega), List.getElem?_set, if_neg (by omega)]

theorem splice_nil {α : Type} (xs : List α) (o : Nat) : splice xs o [] = xs := by simp [splice]

theorem foldl_set (off : Nat) : ∀ (l : List Value) (k : Nat) (cells : Array Value), off + k + l.length ≤ cells.size →
    ((l.zipIdx k).foldl (fun cs (p : Value × Nat) => cs.setIfInBounds (off + p.2) p.1) cells).toList = splice cells.toList (off + k) l
  | [], k, cells, _ => by simp [splice_nil]
  | x :: l, k, cells, h => by
    simp only [List.zipIdx_cons, List.foldl_cons]
    simp only [List.length_cons] at h
    rw [foldl_set off l (k + 1) _ (by simp; omega), splice_cons _ _ _ _ (by simp; omega)]
    simp [Nat.add_assoc]

theorem fill_step (place : Nat → Option (Nat × Nat)) (cells : Array Value) (i off size : Nat) (v : Value) (rest : List (Nat × Value)) (hp : place i = some (off, size)) (hv : v.cells.size = size) (hfit : off + size ≤ cells.size) :
    Instr.fill place cells ((i, v) :: rest) = Instr.fill place (splice cells.toList off v.cells.toList).toArray rest := by
  simp only [Instr.fill, hp, hv, ne_eq, not_true, decide_false, Bool.false_or, decide_eq_true_eq]
  rw [if_neg (by omega)]
  congr 1
  have := foldl_set off v.cells.toList 0 cells (by simp [hv]; omega)
  simp only [Nat.add_zero] at this
  rw [← this]
  simp only [Array.toArray_toList]
  rw [← Array.foldl_toList, Array.toList_zipIdx]


theorem FitL.splice {g : Gh} {xs ys : List PV} {vs us : List Value} (h : FitL g xs vs) (h' : FitL g ys us) (k : Nat) : FitL g (splice xs k ys) (splice vs k us) := by
  have hl := h'.length
  simp only [Go.AX.splice, hl]
  exact ((h.take k).append h').append (h.drop _)

/-! ### A struct or an array is built -/
def bInfo (P : Program) (t : TypeId) : Option (List (Nat × Nat)) :=
  match P.underlying t with
  | some (.struct fs) => fs.toList.mapM fun f => (P.info? f.type).map fun i => (f.offset, i.size)
  | some (.array n e) => (P.info? e).map fun i => (List.range n).map fun k => (k * i.size, i.size)
  | _ => none

def zeroV (P : Program) (t : TypeId) : Option (List PV) :=
  match P.info? t with
  | some i => i.zero.map fun z => z.cells.toList.map PV.lit
  | none => none

def bFill (pl : List (Nat × Nat)) (cells : List PV) : List (Nat × PV) → List PV × Prop
  | [] => (cells, True)
  | (i, y) :: rest => match pl[i]? with
    | some (off, n) => ((bFill pl (splice cells off (pcells y)) rest).1, (pcells y).length = n ∧ off + n ≤ cells.length ∧ (y.one = true ∨ isAggV (.pv y)) ∧ (bFill pl (splice cells off (pcells y)) rest).2)
    | none => (cells, False)

def partsOk (st : St) : List (Nat × Operand) → Prop
  | [] => True
  | (_, x) :: r => gc st x ∧ isPv (mv st x) ∧ partsOk st r
def partsV (st : St) : List (Nat × Operand) → List (Nat × PV)
  | [] => []
  | (i, x) :: r => (i, toPv (mv st x)) :: partsV st r

def buildV (P : Program) (st : St) (t : TypeId) (parts : Array (Nat × Operand)) : SV × Prop :=
  match bInfo P t, zeroV P t with
  | some pl, some zs => (.pv (.agg (bFill pl zs (partsV st parts.toList)).1), partsOk st parts.toList ∧ (bFill pl zs (partsV st parts.toList)).2)
  | _, _ => (.pv .bot, False)

theorem fill_congr (p q : Nat → Option (Nat × Nat)) (h : ∀ i x, q i = some x → p i = some x) : ∀ (l : List (Nat × Value)) (cells out : Array Value), Instr.fill q cells l = some out → Instr.fill p cells l = some out
  | [], cells, out, ho => by simpa [Instr.fill] using ho
  | (i, v) :: rest, cells, out, ho => by
    simp only [Instr.fill] at ho ⊢
    cases hq : q i with
    | none => rw [hq] at ho; cases ho
    | some x =>
      rw [hq] at ho
      rw [h i x hq]
      obtain ⟨off, size⟩ := x
      simp only at ho ⊢
      split
      · rename_i hc; rw [if_pos hc] at ho; cases ho
      · rename_i hc; rw [if_neg hc] at ho; exact fill_congr p q h rest _ _ ho

theorem bFill_ok {g : Gh} (pl : List (Nat × Nat)) : ∀ (l : List (Nat × PV)) (l' : List (Nat × Value)) (cs : List PV) (cells : Array Value), FitL g cs cells.toList → l.map (·.1) = l'.map (·.1) → FitL g (l.map (·.2)) (l'.map (·.2)) → (bFill pl cs l).2 →
    ∃ out, Instr.fill (pl[·]?) cells l' = some out ∧ FitL g (bFill pl cs l).1 out.toList
  | [], l', cs, cells, hc, hl, hf, hd => by
    cases l' with
    | nil => exact ⟨cells, rfl, hc⟩
    | cons _ _ => cases hl
  | (i, y) :: rest, l', cs, cells, hc, hl, hf, hd => by
    cases l' with
    | nil => cases hl
    | cons p l' =>
      obtain ⟨i', v⟩ := p
      simp only [List.map_cons, List.cons.injEq] at hl
      obtain ⟨rfl, hl⟩ := hl
      obtain ⟨v', r, e1, hv, hr⟩ := hf
      simp only [List.map_cons, List.cons.injEq] at e1
      obtain ⟨rfl, rfl⟩ := e1
      simp only [bFill] at hd ⊢
      cases hp : pl[i]? with
      | none => rw [hp] at hd; exact hd.elim
      | some x =>
        obtain ⟨off, n⟩ := x
        rw [hp] at hd
        obtain ⟨h1, h2, h3, h4⟩ := hd
        have hpc := pcells_ok hv h3
        have hsz : v.cells.size = n := by have := hpc.length; rw [h1] at this; simpa using this
        have hcl := hc.length
        rw [fill_step (pl[·]?) cells i off n v l' hp hsz (by rw [← Array.length_toList, hcl]; exact h2)]
        exact bFill_ok pl rest l' _ _ (by simpa using hc.splice hpc off) hl hr h4

theorem partsV_ok {g : Gh} {st : St} {a : Act} {w : World} (h : Sim g st a w) : ∀ (l : List (Nat × Operand)), partsOk st l → (partsV st l).map (·.1) = (l.map fun p => (p.1, a.eval p.2)).map (·.1) ∧ FitL g ((partsV st l).map (·.2)) ((l.map fun p => (p.1, a.eval p.2)).map (·.2))
  | [], _ => ⟨rfl, rfl⟩
  | (i, x) :: r, hd => by
    obtain ⟨h1, h2, h3⟩ := hd
    obtain ⟨a1, a2⟩ := partsV_ok h r h3
    obtain ⟨hf, _⟩ := mv_ok h x h1
    rw [isPv_eq h2] at hf
    exact ⟨by simp only [partsV, List.map_cons]; rw [a1], _, _, rfl, hf.2, a2⟩

theorem buildV_ok {P : Program} {st : St} (o : Oper) (t : TypeId) (parts : Array (Nat × Operand)) (ho : o.op = .build t parts) : Pop P st o (buildV P st t parts) := by
  intro g a w h hd
  unfold buildV at hd ⊢
  split at hd
  · rename_i pl zs hb hz
    obtain ⟨hp, hd⟩ := hd
    obtain ⟨e1, e2⟩ := partsV_ok h parts.toList hp
    unfold zeroV at hz
    cases hi : P.info? t with
    | none => rw [hi] at hz; cases hz
    | some it =>
      rw [hi] at hz
      simp only [Option.map_eq_some_iff] at hz
      obtain ⟨z, hz, rfl⟩ := hz
      have hlits : ∀ vs : List Value, FitL g (vs.map PV.lit) vs := fun vs => by
        induction vs with
        | nil => rfl
        | cons u us ih => exact ⟨u, us, rfl, rfl, ih⟩
      obtain ⟨out, ho1, ho2⟩ := bFill_ok pl _ _ _ z.cells (hlits _) e1 e2 hd
      have hbuilt : P.built t (parts.toList.map fun p => (p.1, a.eval p.2)) = some out := by
        unfold bInfo at hb
        unfold Program.built
        rw [hi]
        split at hb
        · rename_i fs hu
          rw [hu]
          simp only [hz, hb]
          simpa using ho1
        · rename_i n e hu
          simp only [Option.map_eq_some_iff] at hb
          obtain ⟨ie, hie, rfl⟩ := hb
          rw [hu]
          simp only [hz, hie]
          refine fill_congr _ _ (fun i x hx => ?_) _ _ _ ho1
          simp only [List.getElem?_map, Option.map_eq_some_iff] at hx
          obtain ⟨k, hk, rfl⟩ := hx
          have := List.getElem?_eq_some_iff.1 hk
          obtain ⟨hlt, he⟩ := this
          simp at he
          subst he; rfl
        · cases hb
      refine ⟨.agg out, ?_, ⟨rfl, out, rfl, ho2⟩, trivial⟩
      simp only [execOp, ho, Sem.run_bind]
      rw [run_build w t _ out (by rw [← hbuilt]; simp)]
      simp
  · exact hd.elim

/-! ### An index into an array's value, or a text -/
def arInfo (P : Program) (t : TypeId) : Option (Nat × Bool × Nat) :=
  match P.underlying t with
  | some (.array n e) => (ldInfo P e).map fun p => (n, p)
  | _ => none

def indexV (P : Program) (t : TypeId) (x i : SV) : SV × Prop :=
  match arInfo P t with
  | some (n, false, e) => (.pv ((pcells (toPv x)).getD ((asI i).toNat * e) .bot), isAggV x ∧ isI i ∧ 0 ≤ asI i ∧ asI i < n ∧ (asI i).toNat * e < (pcells (toPv x)).length)
  | some (n, true, e) => (.pv (.agg (((pcells (toPv x)).drop ((asI i).toNat * e)).take e)), isAggV x ∧ isI i ∧ 0 ≤ asI i ∧ asI i < n)
  | none => match P.underlying t with
    | some .string => (.pv (.lit (.int .u8 ((asS x)[(asI i).toNat]?.getD 0).toNat)), isS x ∧ isI i ∧ 0 ≤ asI i ∧ asI i < (asS x).size)
    | _ => (.pv .bot, False)

theorem indexV_ok {P : Program} {st : St} (o : Oper) (t : TypeId) (x i : Operand) (ho : o.op = .index t x i) : Pop P st o ((indexV P t (mv st x) (mv st i)).1, gc st x ∧ gc st i ∧ (indexV P t (mv st x) (mv st i)).2) := by
  intro g a w h ⟨hx, hi, hd⟩
  obtain ⟨hf, _⟩ := mv_ok h x hx
  unfold indexV at hd ⊢
  cases ha : arInfo P t with
  | some q =>
    obtain ⟨n, b, e⟩ := q
    rw [ha] at hd
    unfold arInfo at ha
    split at ha
    case h_2 => cases ha
    rename_i n' el hu
    simp only [Option.map_eq_some_iff, Prod.mk.injEq] at ha
    obtain ⟨q, hl, rfl, hq⟩ := ha
    rw [hq] at hl
    clear hq
    have hsz := (run_isAgg hl w).2
    cases b with
    | false =>
      simp only at hd ⊢
      obtain ⟨h1, h2, h3, h4, h5⟩ := hd
      obtain ⟨vs, hv, hfl⟩ := agg_ok hf h1
      obtain ⟨v, hv', hf'⟩ := hfl.get _ _ (List.getElem?_eq_getElem h5)
      refine ⟨v, ?_, ⟨rfl, by simpa [List.getD, List.getElem?_eq_getElem h5] using hf'⟩, trivial⟩
      simp [execOp, ho, hv, int_ok h hi h2, Instr.index, run_underlying hu, asIntOf, h3, h4, hsz, run_part1 w vs _ v hl (by rw [← Array.getElem?_toList]; exact hv')]
    | true =>
      simp only at hd ⊢
      obtain ⟨h1, h2, h3, h4⟩ := hd
      obtain ⟨vs, hv, hfl⟩ := agg_ok hf h1
      refine ⟨.agg (vs.extract ((asI (mv st i)).toNat * e) ((asI (mv st i)).toNat * e + e)), ?_, ⟨rfl, _, rfl, ?_⟩, trivial⟩
      · simp [execOp, ho, hv, int_ok h hi h2, Instr.index, run_underlying hu, asIntOf, h3, h4, hsz, run_part w vs _ hl]
      · have := (hfl.drop ((asI (mv st i)).toNat * e)).take e
        rw [Array.toList_extract]
        simpa [List.extract] using this
  | none =>
    rw [ha] at hd
    simp only at hd ⊢
    split at hd
    · rename_i hu
      obtain ⟨h1, h2, h3, h4⟩ := hd
      have hlt : (asI (mv st i)).toNat < (asS (mv st x)).size := by omega
      refine ⟨_, ?_, ⟨rfl, rfl⟩, trivial⟩
      simp only [execOp, ho, str_ok h hx h1, int_ok h hi h2, Instr.index, asIntOf, Sem.run_bind, Sem.run_pure, Result.andThen_ok, run_underlying hu, if_pos h3]
      have : (asS (mv st x))[(asI (mv st i)).toNat]? = some ((asS (mv st x))[(asI (mv st i)).toNat]) := by simp [hlt]
      rw [this]
      simp
    · exact hd.elim

/-! ### A function is made -/
def allPv (st : St) : List Operand → Prop
  | [] => True
  | x :: r => gc st x ∧ isPv (mv st x) ∧ allPv st r
def pvsOf (st : St) : List Operand → List PV
  | [] => []
  | x :: r => toPv (mv st x) :: pvsOf st r

theorem pvsOf_ok {g : Gh} {st : St} {a : Act} {w : World} (h : Sim g st a w) : ∀ (l : List Operand), allPv st l → FitL g (pvsOf st l) (l.map a.eval)
  | [], _ => rfl
  | x :: r, ⟨h1, h2, h3⟩ => by
    obtain ⟨hf, _⟩ := mv_ok h x h1
    rw [isPv_eq h2] at hf
    exact ⟨_, _, rfl, hf.2, pvsOf_ok h r h3⟩

def makeFV (st : St) (f : Fn) (first cap : Array Operand) : SV × Prop := (.pv (.fn f (pvsOf st first.toList) (pvsOf st cap.toList)), allPv st first.toList ∧ allPv st cap.toList)

theorem makeFV_ok {P : Program} {st : St} (o : Oper) (f : Fn) (first cap : Array Operand) (ho : o.op = .makeFunc f first cap) : Pop P st o (makeFV st f first cap) := by
  intro g a w h ⟨h1, h2⟩
  refine ⟨.func f (first.map a.eval) (cap.map a.eval), by simp [execOp, ho, Instr.makeFunc], ⟨rfl, _, _, rfl, ?_, ?_⟩, trivial⟩
  · simpa using pvsOf_ok h _ h1
  · simpa using pvsOf_ok h _ h2

/-! ### Maps -/
def amLook : List (Int × PV) → Int → Option PV
  | [], _ => none
  | (k, x) :: r, n => if k = n then some x else amLook r n

def entriesOf (st : St) : SV → List (Int × PV)
  | .pv (.amap _ es) => es
  | .al p => match posGet st p with
    | .omap _ es => es
    | _ => []
  | _ => []

def isMap (st : St) : SV → Prop
  | .pv (.amap _ _) => True
  | .pv (.lit (.map none)) => True
  | .al p => match posGet st p with
    | .omap _ _ => True
    | _ => False
  | _ => False

/-- A map's type with whole numbers for keys: its elements' zero. -/
def mpInfo (P : Program) (t : TypeId) : Option PV :=
  match P.underlying t with
  | some (.map k e) => match P.underlying k with
    | some (.int _) => match P.info? e with
      | some i => match i.zero with
        | some (.agg vs) => some (.agg (vs.toList.map .lit))
        | some z => some (.lit z)
        | none => none
      | none => none
    | _ => none
  | _ => none

def lookV (P : Program) (st : St) (t : TypeId) (x k : SV) (ok : Bool) : SV × Prop :=
  match mpInfo P t with
  | some z => (.pv (if ok = true then .tup [(amLook (entriesOf st x) (asI k)).getD z, .lit (.bool (amLook (entriesOf st x) (asI k)).isSome)] else (amLook (entriesOf st x) (asI k)).getD z), isMap st x ∧ isI k ∧ asK k = .i64)
  | none => (.pv .bot, False)

theorem findNow_ok {g : Gh} {kk : IntKind} {n : Int} : ∀ {es : List (Int × PV)} {en : List MapEntry} (_ : FitE g es en) (j : Nat),
    ∃ r, Instr.findNow (.int kk) (.int .i64 n) en j = some r ∧ (r = none ∧ amLook es n = none ∨ ∃ i m x, r = some (j + i, m.val) ∧ en[i]? = some m ∧ m.key = .int .i64 n ∧ amLook es n = some x ∧ Fit g x m.val)
  | [], en, h, j => by simp only [FitE] at h; subst h; exact ⟨none, rfl, .inl ⟨rfl, rfl⟩⟩
  | (k, x) :: es, en, ⟨m, r, h1, h2, h3, h4⟩, j => by
    subst h1
    simp only [Instr.findNow, h2, Instr.sameNow, if_true, amLook]
    by_cases hk : k = n
    · subst hk
      simp only [beq_self_eq_true, if_true]
      exact ⟨_, rfl, .inr ⟨0, m, x, rfl, rfl, h2, rfl, h3⟩⟩
    · have hb : (n == k) = false := by simp; exact fun e => hk e.symm
      simp only [hb, if_neg hk]
      obtain ⟨r', e1, e2⟩ := findNow_ok (n := n) h4 (j + 1)
      refine ⟨r', e1, ?_⟩
      rcases e2 with ⟨rfl, e2⟩ | ⟨i, m', x', rfl, e3, e4, e5, e6⟩
      · exact .inl ⟨rfl, e2⟩
      · exact .inr ⟨i + 1, m', x', by rw [Nat.add_assoc, Nat.add_comm 1 i], by simpa using e3, e4, e5, e6⟩

theorem run_checkKey_int {P : Program} (w : World) (b : Bool) (t : TypeId) (kk k : IntKind) (n : Int) (h : P.underlying t = some (.int kk)) : (Instr.checkKey b 10000 t (.int k n)).run P w = .ok () w := by
  show (Instr.checkKey b (9999 + 1) t (.int k n)).run P w = _
  rw [Instr.checkKey]
  simp only [Sem.run_bind, run_underlying h, Result.andThen_ok, Sem.run_pure]

theorem map_ok {g : Gh} {st : St} {a : Act} {w : World} (h : Sim g st a w) {x : Operand} (hg : gc st x) (hm : isMap st (mv st x)) :
    (a.eval x = .map none ∧ entriesOf st (mv st x) = []) ∨ ∃ r en ck, a.eval x = .map (some r) ∧ w.heap[r]? = some (.map en ck) ∧ FitE g (entriesOf st (mv st x)) en.toList := by
  obtain ⟨hf, ha⟩ := mv_ok h x hg
  unfold isMap at hm
  split at hm
  · rename_i nw es hx
    rw [hx] at hf ⊢
    rcases hf.2 with ⟨rfl, e⟩ | ⟨r, en, ck, e1, e2, _, e3⟩
    · exact .inl ⟨e, rfl⟩
    · exact .inr ⟨r, en, ck, e1, h.I _ _ e2, e3⟩
  · rename_i hx
    rw [hx] at hf ⊢
    exact .inl ⟨hf.2, rfl⟩
  · rename_i p hx
    rw [hx] at ha ⊢
    split at hm
    · rename_i nw es hp
      obtain ⟨bl, hb⟩ := h.own
      have hv := ha (by rw [hp]; rfl)
      have hfp := pos_fit hb (p := p) (by rw [hp]; rfl)
      rw [hp] at hfp
      obtain ⟨c, _, en, ck, e1, e2, e3, _⟩ := hfp
      exact .inr ⟨c, en, ck, hv.trans e1, e2, by simp only [entriesOf, hp]; exact e3⟩
    · exact hm.elim
  · exact hm.elim

theorem run_findKey {P : Program} {g : Gh} (w : World) (kt : TypeId) (kk : IntKind) (n : Int) (hu : P.underlying kt = some (.int kk)) {es : List (Int × PV)} {en : List MapEntry} (h : FitE g es en) :
    ∃ r, (Instr.findKey kt (.int .i64 n) en).run P w = .ok r w ∧ (r = none ∧ amLook es n = none ∨ ∃ i m x, r = some (i, m.val) ∧ en[i]? = some m ∧ m.key = .int .i64 n ∧ amLook es n = some x ∧ Fit g x m.val) := by
  obtain ⟨r, e1, e2⟩ := findNow_ok (kk := kk) (n := n) h 0
  refine ⟨r, ?_, ?_⟩
  · simp only [Instr.findKey, Sem.run_bind, run_underlying hu, Result.andThen_ok, e1, Sem.run_pure]
  · simpa using e2

theorem lookV_ok {P : Program} {st : St} (o : Oper) (t : TypeId) (x k : Operand) (ok : Bool) (ho : o.op = .lookup t x k ok) : Pop P st o ((lookV P st t (mv st x) (mv st k) ok).1, gc st x ∧ gc st k ∧ (lookV P st t (mv st x) (mv st k) ok).2) := by
  intro g a w h ⟨hx, hk, hd⟩
  unfold lookV at hd ⊢
  cases hi : mpInfo P t with
  | none => rw [hi] at hd; exact hd.elim
  | some z =>
    rw [hi] at hd
    simp only at hd ⊢
    obtain ⟨h1, h2, h3⟩ := hd
    unfold mpInfo at hi
    split at hi
    case h_2 => cases hi
    rename_i kt et hu
    split at hi
    case h_2 => cases hi
    rename_i kk hku
    cases hinf : P.info? et with
    | none => rw [hinf] at hi; cases hi
    | some inf =>
      rw [hinf] at hi
      simp only at hi
      cases hz : inf.zero with
      | none => rw [hz] at hi; cases hi
      | some zv =>
        rw [hz] at hi
        have hzf : Fit g z zv := by
          have hlits : ∀ vs : List Value, FitL g (vs.map PV.lit) vs := fun vs => by
            induction vs with
            | nil => rfl
            | cons u us ih => exact ⟨u, us, rfl, rfl, ih⟩
          split at hi
          · rename_i vs he; cases hi; cases he; exact ⟨vs, rfl, hlits _⟩
          · rename_i z' _ he; cases hi; cases he; rfl
          · cases hi
        have hzr : (zeroValue et).run P w = .ok zv w := by simp [zeroValue, typeInfo, hinf, hz]
        have hkv := int_ok h hk h2
        rw [h3] at hkv
        have fin : ∀ (v : Value) (b : Bool), Fit g ((amLook (entriesOf st (mv st x)) (asI (mv st k))).getD z) v → b = (amLook (entriesOf st (mv st x)) (asI (mv st k))).isSome →
            Fit g (if ok = true then .tup [(amLook (entriesOf st (mv st x)) (asI (mv st k))).getD z, .lit (.bool (amLook (entriesOf st (mv st x)) (asI (mv st k))).isSome)] else (amLook (entriesOf st (mv st x)) (asI (mv st k))).getD z) (if ok = true then .tuple #[v, .bool b] else v) := by
          intro v b f1 f2
          subst f2
          cases ok with
          | true => exact ⟨_, rfl, v, _, rfl, f1, _, _, rfl, rfl, rfl⟩
          | false => exact f1
        rcases map_ok h hx h1 with ⟨e1, e2⟩ | ⟨r, en, ck, e1, e2, e3⟩
        · refine ⟨if ok = true then .tuple #[zv, .bool false] else zv, ?_, ⟨rfl, fin zv false (by rw [e2]; exact hzf) (by rw [e2]; rfl)⟩, trivial⟩
          have hfk : (Instr.findKey kt (.int .i64 (asI (mv st k))) (#[] : Array MapEntry).toList).run P w = .ok none w := by
            simp [Instr.findKey, run_underlying hku, Instr.findNow]
          simp only [execOp, ho, e1, hkv, Instr.lookup, Sem.run_bind, run_underlying hu, Result.andThen_ok, Sem.run_pure, run_checkKey_int w _ kt kk .i64 _ hku, hfk, hzr]
        · obtain ⟨q, k1, k2⟩ := run_findKey (P := P) w kt kk (asI (mv st k)) hku e3
          have hobj : (getObj r).run P w = .ok (.map en ck) w := by simp [getObj, Sem.run, e2]
          rcases k2 with ⟨rfl, k2⟩ | ⟨i, m, x', rfl, _, _, k3, k4⟩
          · refine ⟨if ok = true then .tuple #[zv, .bool false] else zv, ?_, ⟨rfl, fin zv false (by rw [k2]; exact hzf) (by rw [k2]; rfl)⟩, trivial⟩
            simp only [execOp, ho, e1, hkv, Instr.lookup, Sem.run_bind, run_underlying hu, Result.andThen_ok, Sem.run_pure, hobj, run_checkKey_int w _ kt kk .i64 _ hku, k1, hzr]
          · refine ⟨if ok = true then .tuple #[m.val, .bool true] else m.val, ?_, ⟨rfl, fin m.val true (by rw [k3]; exact k4) (by rw [k3]; rfl)⟩, trivial⟩
            simp only [execOp, ho, e1, hkv, Instr.lookup, Sem.run_bind, run_underlying hu, Result.andThen_ok, Sem.run_pure, hobj, run_checkKey_int w _ kt kk .i64 _ hku, k1]

end Go.AX
