/-
  AX, part H: slices that are made, and grow.
-/
import Derived.Test.YtipaihpchnlkfaaAxG
namespace Go.AX

theorem fill_all (size : Nat) : ∀ (vs : List Value) (j : Nat) (cells : Array Value), (∀ v ∈ vs, v.cells.size = size) → cells.size = (j + vs.length) * size →
    ∃ out, Instr.fill (fun i => some (i * size, size)) cells ((vs.zipIdx j).map fun p => (p.2, p.1)) = some out ∧ out.toList = cells.toList.take (j * size) ++ (vs.map fun v => v.cells.toList).flatten
  | [], j, cells, _, hc => ⟨cells, by simp [Instr.fill], by simp at hc; rw [← hc, ← Array.length_toList, List.take_length]; simp⟩
  | v :: vs, j, cells, hv, hc => by
    have h1 := hv v (List.mem_cons_self ..)
    simp only [List.length_cons] at hc
    have hle : j * size + size ≤ cells.size := by rw [hc, ← Nat.succ_mul]; exact Nat.mul_le_mul_right _ (by omega)
    simp only [List.zipIdx_cons, List.map_cons]
    rw [fill_step _ cells j (j * size) size v _ rfl h1 hle]
    have hsl : (splice cells.toList (j * size) v.cells.toList).length = cells.size := by rw [splice_length (by simp [h1]; exact hle)]; simp
    obtain ⟨out, ho, hl⟩ := fill_all size vs (j + 1) (splice cells.toList (j * size) v.cells.toList).toArray (fun u hu => hv u (List.mem_cons_of_mem _ hu)) (by simp only [List.size_toArray, hsl, hc]; congr 1; omega)
    refine ⟨out, ho, ?_⟩
    rw [hl]
    simp only [List.map_cons, List.flatten_cons]
    rw [← List.append_assoc]
    congr 1
    simp only [splice]
    rw [List.append_assoc, ← List.append_assoc]
    have e1 : ((cells.toList.take (j * size)) ++ v.cells.toList).length = (j + 1) * size := by simp [h1, Nat.succ_mul]; omega
    rw [← e1, List.take_left']
    rfl

theorem fitR_rows {g : Gh} {e : Nat} : ∀ {ys : List PV} {vs : List Value}, FitL g ys vs → (∀ y ∈ ys, (pcells y).length = e ∧ allOne (pcells y) = true ∧ (y.one = true ∨ isAggV (.pv y))) →
    FitR g e (ys.map pcells) ((vs.map fun v => v.cells.toList).flatten) ∧ ∀ v ∈ vs, v.cells.size = e
  | [], _, h, _ => by simp only [FitL] at h; subst h; simp [FitR]
  | y :: ys, _, ⟨v, r, h1, h2, h3⟩, hy => by
    subst h1
    obtain ⟨a1, a2, a3⟩ := hy y (List.mem_cons_self ..)
    have hc := pcells_ok h2 a3
    obtain ⟨b1, b2⟩ := fitR_rows h3 (fun z hz => hy z (List.mem_cons_of_mem _ hz))
    refine ⟨⟨v.cells.toList, _, by simp, ⟨a1, allOne_ok a2 hc⟩, hc, b1⟩, fun u hu => ?_⟩
    rcases List.mem_cons.1 hu with rfl | hu
    · have := hc.length; rw [a1] at this; simpa using this
    · exact b2 u hu

def slZero (P : Program) (t : TypeId) : Option (List PV) :=
  match P.underlying t with
  | some (.slice e) => zeroL P e
  | _ => none

theorem buildSlice_core {P : Program} {g : Gh} {a : Act} {w : World} (o : Oper) (t : TypeId) (len e : Nat) (parts : Array (Nat × Operand)) (zs ys : List PV) (ho : o.op = .buildSlice t len parts)
    (hs : slSize P t = some e) (hz : slZero P t = some zs) (hsm : len * e ≤ 16777216) (hp : parts.toList.map (·.1) = List.range len)
    (f1 : FitL g ys ((parts.toList.map (·.2)).map a.eval)) (hy : ∀ y ∈ ys, (pcells y).length = e ∧ allOne (pcells y) = true ∧ (y.one = true ∨ isAggV (.pv y))) :
    ∃ arr T, FitR g e (ys.map pcells) arr ∧
      (execOp a.eval o).run P w = .ok (.value (.slice (some ⟨w.heap.size, 0, none⟩) len len)) (w.alloc (.cells arr.toArray T)) ∧ (ys.map pcells).length = len := by
  obtain ⟨r1, r2⟩ := fitR_rows f1 hy
  unfold slSize at hs
  split at hs
  case h_2 => cases hs
  rename_i el hu
  simp only [Option.map_eq_some_iff] at hs
  obtain ⟨inf, hinf, rfl⟩ := hs
  unfold slZero at hz
  rw [hu] at hz
  simp only [zeroL, hinf, Option.map_eq_some_iff] at hz
  obtain ⟨z, hz, rfl⟩ := hz
  have hlen : parts.toList.length = len := by have := congrArg List.length hp; simpa using this
  refine ⟨_, el, r1, ?_, ?_⟩
  · have hargs : (parts.map fun (p : Nat × Operand) => (p.1, a.eval p.2)).toList = (((parts.toList.map (·.2)).map a.eval).zipIdx 0).map fun p => (p.2, p.1) := by
      apply List.ext_getElem?
      intro i
      simp only [Array.toList_map, List.getElem?_map, List.getElem?_zipIdx, Option.map_map]
      cases hi : parts.toList[i]? with
      | none => simp
      | some q =>
        have := congrArg (fun l => l[i]?) hp
        simp only [List.getElem?_map, hi, Option.map_some] at this
        rw [List.getElem?_range (by have := (List.getElem?_eq_some_iff.1 hi).1; omega)] at this
        simp only [Option.some.injEq] at this
        simp [this]
    have hnew : ((Array.range (len * inf.size)).map ((if len * inf.size = 0 then (#[] : Array Value) else z.cells)[· % (if len * inf.size = 0 then (#[] : Array Value) else z.cells).size]!)).size = (0 + ((parts.toList.map (·.2)).map a.eval).length) * inf.size := by
      simp [hlen]
    obtain ⟨out, ho1, ho2⟩ := fill_all inf.size ((parts.toList.map (·.2)).map a.eval) 0 _ r2 hnew
    rw [← hargs] at ho1
    simp only [Nat.zero_mul, List.take_zero, List.nil_append] at ho2
    rw [← ho2]
    simp only [execOp, ho, Instr.buildSlice, Sem.run_bind, run_underlying hu, Result.andThen_ok, run_sizeOf hinf]
    rw [if_neg (by omega)]
    by_cases hz0 : len * inf.size = 0
    · simp only [hz0, if_true] at ho1 ⊢
      simp only [Sem.run_bind, Sem.run_pure, Result.andThen_ok, ho1]
      simp [newRow]
    · simp only [hz0, if_false] at ho1 ⊢
      simp only [zeroValue, typeInfo, Sem.run_bind, run_program, hinf, hz, Sem.run_pure, Result.andThen_ok, ho1]
      simp [newRow]
  · have := f1.length
    simp only [List.length_map] at this ⊢
    rw [← this]; exact hlen

theorem buildSlice_run {P : Program} {g : Gh} {st : St} {a : Act} {w : World} (h : Sim g st a w) (o : Oper) (t : TypeId) (len e : Nat) (parts : Array (Nat × Operand)) (zs : List PV) (ho : o.op = .buildSlice t len parts)
    (hs : slSize P t = some e) (hz : slZero P t = some zs) (hsm : len * e ≤ 16777216) (hp : parts.toList.map (·.1) = List.range len)
    (he : (embL st (parts.toList.map (·.2))).2.2) (hy : ∀ y ∈ (embL st (parts.toList.map (·.2))).1, (pcells y).length = e ∧ allOne (pcells y) = true ∧ (y.one = true ∨ isAggV (.pv y))) :
    ∃ g' arr T, g.to g' ∧ g.le g' ∧ g'.n = g.n ∧ Sim g' (embL st (parts.toList.map (·.2))).2.1 a w ∧ FitR g' e ((embL st (parts.toList.map (·.2))).1.map pcells) arr ∧
      (execOp a.eval o).run P w = .ok (.value (.slice (some ⟨w.heap.size, 0, none⟩) len len)) (w.alloc (.cells arr.toArray T)) ∧ ((embL st (parts.toList.map (·.2))).1.map pcells).length = len := by
  obtain ⟨g1, t1, l1, n1, s1, f1⟩ := embL_ok _ h he
  obtain ⟨arr, T, r1, r2, r3⟩ := buildSlice_core (w := w) o t len e parts zs _ ho hs hz hsm hp f1 hy
  exact ⟨g1, arr, T, t1, l1, n1, s1, r1, r2, r3⟩

theorem buildSlice_own {P : Program} {st : St} (o : Oper) (t : TypeId) (len e : Nat) (parts : Array (Nat × Operand)) (zs : List PV) (d : Nat) (ho : o.op = .buildSlice t len parts) (hd : o.dst = some d)
    (hs : slSize P t = some e) (hz : slZero P t = some zs) (hsm : len * e ≤ 16777216) (h0 : 0 < e) (hp : parts.toList.map (·.1) = List.range len)
    (he : (embL st (parts.toList.map (·.2))).2.2) (hy : ∀ y ∈ (embL st (parts.toList.map (·.2))).1, (pcells y).length = e ∧ allOne (pcells y) = true ∧ (y.one = true ∨ isAggV (.pv y))) {N : Nat} (hN : d < N) :
    ∀ g a w, g.N = N → Sim g st a w → ∃ v w' g', (execOp a.eval o).run P w = .ok (.value v) w' ∧ g.to g' ∧
      Sim g' ⟨(d, .own true e ((embL st (parts.toList.map (·.2))).1.map pcells)) :: killL (qSlot d) (embL st (parts.toList.map (·.2))).2.1.t, (embL st (parts.toList.map (·.2))).2.1.h⟩ (a.put o.dst v) w' := by
  intro g a w hg h
  obtain ⟨g1, arr, T, t1, l1, n1, s1, r1, hr, hlen⟩ := buildSlice_run h o t len e parts zs ho hs hz hsm hp he hy
  refine ⟨_, _, g1, hr, t1, ?_⟩
  rw [hd]
  obtain ⟨bl, hb⟩ := s1.own
  refine s1.putOwn hb (o := some w.heap.size) (by rw [t1.N, hg]; exact hN) rfl (by simp) (fun c hc _ => heap_alloc_old w _ hc) (.inr ⟨w.heap.size, rfl, len, arr.toArray, T, arr, by rw [hlen], heap_alloc_new w _, ?_, ⟨by rw [hlen]; exact Nat.le_refl _, ?_⟩, r1, by simp, fun _ => s1.B⟩) rfl (fun c hc => ?_)
  · have := r1.length; rw [hlen] at this; simpa using this
  · have : len ≤ len * e := Nat.le_mul_of_pos_right _ h0
    unfold maxLen; omega
  · cases hc
    exact ⟨by simp, s1.fresh hb (Nat.le_refl _)⟩

/-! ### append -/
theorem slice_cells {g : Gh} {st : St} {a : Act} {w : World} (h : Sim g st a w) {x : Operand} {e : Nat} (hg : gc st x) (hs : slOk st e (mv st x)) :
    ∃ q cap vs, a.eval x = .slice q (rowsOf st (mv st x)).length cap ∧ FitR g e (rowsOf st (mv st x)) vs ∧ (rowsOf st (mv st x) = [] ∨ ∃ ad : Addr, q = some ad ∧ ∀ (j : Nat) u, vs[j]? = some u → w.cell? (ad.add j) = some u) := by
  obtain ⟨hf, ha⟩ := mv_ok h x hg
  have nocase : ∀ {rows : List (List PV)}, rows = [] → FitR g e rows [] := fun h => by subst h; rfl
  unfold slOk at hs
  split at hs
  · rename_i nw e' rows hm
    subst hs
    rw [hm] at hf ⊢
    obtain ⟨_, q, cap, hv, _, hr⟩ := hf
    rcases hr with rfl | ⟨c, off, arr, T, fz, vs, rfl, h2, _, h3, h4⟩
    · exact ⟨q, cap, [], hv, rfl, .inl rfl⟩
    · refine ⟨_, cap, vs, hv, h3, .inr ⟨_, rfl, fun j u hj => ?_⟩⟩
      rw [Addr.add_lit, cell_of (h.I _ _ h2)]
      have := prefix_get h4 hj
      rwa [List.getElem?_drop, Array.getElem?_toList] at this
  · rename_i v hm
    rw [hm] at hf ⊢
    have hv : a.eval x = v := hf.2
    exact ⟨none, 0, [], by rw [hv, isNilSl_eq hs]; rfl, rfl, .inl rfl⟩
  · rename_i p hm
    rw [hm] at ha ⊢
    split at hs
    · rename_i nw e' rows hp
      subst hs
      obtain ⟨bl, hb⟩ := h.own
      have hv := ha (by rw [hp]; rfl)
      have := pos_fit hb (p := p) (by rw [hp]; rfl)
      rw [hp] at this
      simp only [rowsOf, hp]
      rcases this with ⟨_, rfl, e1⟩ | ⟨c, _, cap, arr, T, vs, e1, e2, _, _, e5, e6, _⟩
      · exact ⟨none, 0, [], by rw [hv, e1]; rfl, rfl, .inl rfl⟩
      · refine ⟨_, cap, vs, by rw [hv, e1], e5, .inr ⟨_, rfl, fun j u hj => ?_⟩⟩
        rw [Addr.add_lit, cell_of e2, Nat.zero_add, ← Array.getElem?_toList]
        exact prefix_get e6 hj
    · exact hs.elim
  · rename_i p lo hi hm
    rw [hm] at ha ⊢
    split at hs
    · rename_i nw e' rows hp
      subst hs
      obtain ⟨h1, h2, q, cap, hv, hc, hq⟩ := ha _ _ _ hp
      obtain ⟨bl, hb⟩ := h.own
      have := pos_fit hb (p := p) (by rw [hp]; rfl)
      rw [hp] at this
      have hln : (rowsOf st (.loc p lo hi)).length = hi - lo := by simp only [rowsOf, hp, List.length_drop, List.length_take]; omega
      by_cases hlh : lo = hi
      · have : rowsOf st (.loc p lo hi) = [] := List.eq_nil_of_length_eq_zero (by omega)
        exact ⟨q, cap, [], by rw [hv, hln], nocase this, .inl this⟩
      · rcases hq with hq | ⟨c, n, cp, hpv, rfl⟩
        · exact absurd hq hlh
        · rcases this with ⟨_, rfl, e1⟩ | ⟨c', _, cap', arr, T, vs, e1, e2, _, _, e5, e6, _⟩
          · simp at h2; omega
          · rw [e1] at hpv; cases hpv
            refine ⟨_, cap, (vs.take (hi * e')).drop (lo * e'), by rw [hv, hln], by simp only [rowsOf, hp]; exact e5.cut lo hi h1 h2, .inr ⟨_, rfl, fun j u hj => ?_⟩⟩
            rw [Addr.add_lit, cell_of e2]
            have := prefix_get (cut_prefix e6 (lo * e') (hi * e')) hj
            rwa [List.getElem?_drop, Array.getElem?_toList] at this
    · exact hs.elim
  · exact hs.elim

theorem run_append_zero {P : Program} (w : World) (t ty e : TypeId) (i : TypeInfo) (ht : P.underlying t = some (.slice e)) (hi : P.info? e = some i) (b : Option Addr) (n cap : Nat) (hn : n ≤ cap) (q : Option Addr) (c : Nat) :
    (Builtin.append_ #[t, t] ty #[.slice b n cap, .slice q 0 c]).run P w = .ok (.slice b n cap) w := by
  cases q with
  | none => cases b <;> simp [Builtin.append_, run_underlying ht, sizeOf, typeInfo, hi, Builtin.lenOf, hn, Builtin.firstCells, storeCells]
  | some q => cases b <;> simp [Builtin.append_, run_underlying ht, sizeOf, typeInfo, hi, Builtin.lenOf, hn, Builtin.firstCells, storeCells, loadCells, loadCellsFrom]

theorem run_append_in {P : Program} (w : World) (t ty e : TypeId) (i : TypeInfo) (ht : P.underlying t = some (.slice e)) (hi : P.info? e = some i)
    (c n cap : Nat) (T : TypeId) (arr : Array Value) (hc : w.heap[c]? = some (.cells arr T (0, 0))) (a : Addr) (m k : Nat) (news : List Value) (hl : news.length = m * i.size) (hnews : ∀ (j : Nat) u, news[j]? = some u → w.cell? (a.add j) = some u) (h1 : ∀ u ∈ news, u.oneCell' = true)
    (hroom : n + m ≤ cap) (hfit : n * i.size + news.length ≤ arr.size) :
    (Builtin.append_ #[t, t] ty #[.slice (some ⟨c, 0, none⟩) n cap, .slice (some a) m k]).run P w = .ok (.slice (some ⟨c, 0, none⟩) (n + m) cap) (w.setRow c (splice arr.toList (n * i.size) news).toArray) := by
  have hf := run_firstCells_some (P := P) w i.size m a m k news hl hnews
  have hst := run_storeCells_at P c (n * i.size) T news 0 arr w hc (by simpa using hfit) h1
  simp only [Nat.add_zero] at hst
  simp [Builtin.append_, run_underlying ht, sizeOf, typeInfo, hi, Builtin.lenOf, hroom, hf, Addr.add_lit, hst, splice]

structure SlI (P : Program) (t : TypeId) (e by_ : Nat) : Prop where
  ok : ∃ el i z, P.underlying t = some (.slice el) ∧ P.info? el = some i ∧ i.zero = some z ∧ i.size = e ∧ i.bytes = by_ ∧ z.cells.size = e

/-- The size of a slice's elements, in cells and in bytes. -/
def slInfo (P : Program) (t : TypeId) : Option (Nat × Nat) :=
  match P.underlying t with
  | some (.slice el) => match P.info? el with
    | some i => match i.zero with
      | some z => if z.cells.size = i.size then some (i.size, i.bytes) else none
      | none => none
    | none => none
  | _ => none

theorem slInfo_ok {P : Program} {t : TypeId} {e b : Nat} (h : slInfo P t = some (e, b)) : ∃ el i z, P.underlying t = some (.slice el) ∧ P.info? el = some i ∧ i.zero = some z ∧ i.size = e ∧ i.bytes = b ∧ z.cells.size = e := by
  unfold slInfo at h
  split at h
  case h_2 => cases h
  rename_i el hu
  split at h
  case h_2 => cases h
  rename_i i hi
  split at h
  case h_2 => cases h
  rename_i z hz
  split at h
  case isFalse => cases h
  rename_i hs
  cases h
  exact ⟨el, i, z, hu, hi, hz, rfl, rfl, hs⟩

/-- What append leaves, of whatever owned slice. -/
theorem append_run {P : Program} {g : Gh} {w : World} {t ty : TypeId} {e b : Nat} (hi : slInfo P t = some (e, b)) (hb1 : 0 < b) {nw : Bool} {rows xr : List (List PV)} {v : Value} {o : Option Nat} (hB : g.B ≤ w.heap.size)
    (hv : SFit g w (.own nw e rows) v o) {q : Option Addr} {k : Nat} {news : List Value} (hx : FitR g e xr news) (hc : xr = [] ∨ ∃ ad : Addr, q = some ad ∧ ∀ (j : Nat) u, news[j]? = some u → w.cell? (ad.add j) = some u)
    (hbytes : (rows.length + xr.length) * b ≤ 140737488355328) :
    ∃ v' w' o', (Builtin.append_ #[t, t] ty #[v, .slice q xr.length k]).run P w = .ok v' w' ∧ envOf w' = envOf w ∧ w.heap.size ≤ w'.heap.size ∧ SFit g w' (.own nw e (rows ++ xr)) v' o' ∧
      (∀ c, c < w.heap.size → o' ≠ some c → w'.heap[c]? = w.heap[c]?) ∧ ∀ c, o' = some c → c < w'.heap.size ∧ (o = some c ∨ w.heap.size ≤ c) := by
  obtain ⟨el, i, z, hu, hinf, hz, rfl, rfl, hzs⟩ := slInfo_ok hi
  have hnl : news.length = xr.length * i.size := hx.length
  have hsum : rows.length + xr.length ≤ 140737488355328 := by
    have : (rows.length + xr.length) * 1 ≤ (rows.length + xr.length) * i.bytes := Nat.mul_le_mul_left _ hb1
    omega
  have h63 : ((rows.length + xr.length : Nat) : Int) ≤ 9223372036854775807 := by omega
  by_cases hm : xr = []
  · subst hm
    simp only [FitR] at hx
    rcases hv with ⟨rfl, rfl, rfl⟩ | ⟨c, rfl, cap, arr, T, vs, rfl, e2, e3, e4, e5, e6, e7⟩
    · exact ⟨_, w, none, run_append_zero w t ty el i hu hinf none 0 0 (Nat.le_refl _) q k, rfl, Nat.le_refl _, .inl ⟨rfl, rfl, rfl⟩, fun _ _ _ => rfl, fun c hc => by cases hc⟩
    · refine ⟨_, w, some c, run_append_zero w t ty el i hu hinf _ _ cap e4.1 q k, rfl, Nat.le_refl _, .inr ⟨c, rfl, cap, arr, T, vs, by simp, e2, e3, by simpa using e4, by simpa using e5, e6, e7⟩, fun _ _ _ => rfl, fun c' hc' => ?_⟩
      cases hc'
      exact ⟨(Array.getElem?_eq_some_iff.1 e2).1, .inl rfl⟩
  · have hm0 : 0 < xr.length := List.length_pos_iff.2 hm
    rcases hc with hc | ⟨ad, rfl, hcell⟩
    · exact absurd hc hm
    have fresh : ∀ (olds : List Value) (vs : List Value), FitR g i.size rows vs → olds = vs → ∀ cp, rows.length + xr.length ≤ cp → cp ≤ maxLen →
        SFit g (w.drew.alloc (.cells (olds.toArray ++ news.toArray ++ Builtin.zeroCells z.cells (cp - (rows.length + xr.length))) el)) (.own nw i.size (rows ++ xr)) (.slice (some ⟨w.heap.size, 0, none⟩) (rows.length + xr.length) cp) (some w.heap.size) := by
      intro olds vs hr ho cp hcp hmx
      subst ho
      have hol := hr.length
      refine .inr ⟨w.heap.size, rfl, cp, _, el, olds ++ news, by rw [List.length_append], heap_alloc_new w.drew _, ?_, ⟨by rw [List.length_append]; exact hcp, hmx⟩, FitR.append hr hx, ?_, fun _ => hB⟩
      · simp only [Array.size_append, List.size_toArray, size_zeroCells, hzs, hol, hnl, ← Nat.add_mul]
        congr 1; omega
      · refine ⟨(Builtin.zeroCells z.cells (cp - (rows.length + xr.length))).toList, by simp⟩
    have hge := grownCap_ge w (rows.length + xr.length)
    have hmx := fun old => grownCap_le_maxLen w (rows.length + xr.length) old el (by unfold maxLen; omega)
    have keep : ∀ (ob : Obj) (c : Nat), c < w.heap.size → (w.drew.alloc ob).heap[c]? = w.heap[c]? := fun ob c hc => heap_alloc_old w.drew ob hc
    rcases hv with ⟨rfl, rfl, rfl⟩ | ⟨c, rfl, cap, arr, T, vs, rfl, e2, e3, e4, e5, e6, e7⟩
    · have hr := run_append_nil (P := P) w t ty el i z hu hinf hz ad xr.length k news hnl hcell hm0 (by simpa using h63) (by simp only [List.length_nil, Nat.zero_add] at hbytes; omega)
      have hf := fresh [] [] rfl rfl (grownCap w xr.length 0 el) (by simpa using hge 0 el) (by simpa using hmx 0)
      simp only [List.nil_append, Array.empty_append, List.length_nil, Nat.zero_add] at hf
      refine ⟨_, _, _, hr, rfl, by simp, by simpa using hf, fun c hc _ => keep _ c hc, fun c hc => ?_⟩
      cases hc
      exact ⟨by simp, .inr (Nat.le_refl _)⟩
    · have hvl := e5.length
      by_cases hroom : rows.length + xr.length ≤ cap
      · have hfit : rows.length * i.size + news.length ≤ arr.size := by rw [hnl, e3, ← Nat.add_mul]; exact Nat.mul_le_mul_right _ hroom
        have hr := run_append_in (P := P) w t ty el i hu hinf c rows.length cap T arr e2 ad xr.length k news hnl hcell hx.one hroom hfit
        refine ⟨_, w.setRow c (splice arr.toList (rows.length * i.size) news).toArray, some c, hr, rfl, by simp, .inr ⟨c, rfl, cap, _, T, vs ++ news, by simp, setRow_heap w c arr _ T _ e2, ?_, ⟨by simpa using hroom, e4.2⟩, FitR.append e5 hx, ?_, e7⟩, fun c' _ hc' => setRow_other w c c' _ (fun ee => hc' (by rw [ee])), fun c' hc' => ?_⟩
        · simp only [List.size_toArray]; rw [splice_length (by simpa using hfit)]; simpa using e3
        · obtain ⟨r, hr'⟩ := e6
          refine ⟨arr.toList.drop (rows.length * i.size + news.length), ?_⟩
          simp only [splice]
          rw [← hr', ← hvl, List.take_left']
          rfl
        · cases hc'
          exact ⟨by simp; exact (Array.getElem?_eq_some_iff.1 e2).1, .inl rfl⟩
      · have holds : ∀ (j : Nat) u, vs[j]? = some u → w.cell? ((⟨c, 0, none⟩ : Addr).add j) = some u := fun j u hj => by
          rw [Addr.add_lit, cell_of e2, Nat.zero_add, ← Array.getElem?_toList]
          exact prefix_get e6 hj
        have hr := run_append_grow (P := P) w t ty el i z hu hinf hz ⟨c, 0, none⟩ rows.length cap vs hvl holds ad xr.length k news hnl hcell (by omega) h63 (growslice_fits (by omega) hbytes)
        refine ⟨_, _, _, hr, rfl, by simp, fresh vs vs e5 rfl (grownCap w (rows.length + xr.length) cap el) (hge cap el) (hmx cap), fun c' hc' _ => keep _ c' hc', fun c' hc' => ?_⟩
        cases hc'
        exact ⟨by simp, .inr (Nat.le_refl _)⟩

/-- append onto what a place owns. -/
theorem append_own {P : Program} {st : St} (o : Oper) (t : TypeId) (s x : Operand) (d e b : Nat) (p : Pos) (nw : Bool) (rows : List (List PV)) (ho : o.op = .call { callee := .builtin .append, args := #[s, x], argTypes := #[t, t] }) (hd : o.dst = some d)
    (hi : slInfo P t = some (e, b)) (hb1 : 0 < b) (hgs : gc st s) (hs : mv st s = .al p) (hp : posGet st p = .own nw e rows) (hgx : gc st x) (hx : slOk st e (mv st x))
    (hbytes : (rows.length + (rowsOf st (mv st x)).length) * b ≤ 140737488355328) {N : Nat} (hN : d < N) :
    ∀ g a w, g.N = N → Sim g st a w → ∃ v w' g', (execOp a.eval o).run P w = .ok (.value v) w' ∧ g.to g' ∧
      Sim g' ⟨(d, .own nw e (rows ++ rowsOf st (mv st x))) :: killL (qSlot d) (setPos st p (.pv .bot)).t, (setPos st p (.pv .bot)).h⟩ (a.put o.dst v) w' := by
  intro g a w hg h
  obtain ⟨bl, hb⟩ := h.own
  have hown : (posGet st p).isOwn = true := by rw [hp]; rfl
  obtain ⟨_, has⟩ := mv_ok h s hgs
  rw [hs] at has
  have hfp := pos_fit hb hown
  rw [hp] at hfp
  obtain ⟨q, cap, news, hvx, hfx, hcx⟩ := slice_cells h hgx hx
  obtain ⟨v', w', o', hr, hen, hsz, hf', hw', hc'⟩ := append_run (ty := o.type) (k := cap) hi hb1 h.B hfp hfx hcx hbytes
  refine ⟨v', w', g, ?_, h.refl_to, ?_⟩
  · simp only [execOp, ho, resolve, invoke, builtin, List.map_toArray, List.map_cons, List.map_nil, Sem.run_bind, Sem.run_pure, Result.andThen_ok, has hown, hvx, hr]
  · obtain ⟨h1, bl', hb', _, _, h4⟩ := h.drop hb p
    rw [hd]
    exact h1.putOwn hb' (hg ▸ hN) hen hsz hw' hf' rfl (fun c hc => ⟨(hc' c hc).1, (hc' c hc).2.elim (fun e => h4 c e) (fun hge => h1.fresh hb' hge)⟩)

/-- append onto nil. -/
theorem append_nil {P : Program} {st : St} (o : Oper) (t : TypeId) (s x : Operand) (d e b : Nat) (u : Value) (ho : o.op = .call { callee := .builtin .append, args := #[s, x], argTypes := #[t, t] }) (hd : o.dst = some d)
    (hi : slInfo P t = some (e, b)) (hb1 : 0 < b) (hgs : gc st s) (hs : mv st s = .pv (.lit u)) (hu : isNilSl u = true) (hgx : gc st x) (hx : slOk st e (mv st x))
    (hbytes : (rowsOf st (mv st x)).length * b ≤ 140737488355328) {N : Nat} (hN : d < N) :
    ∀ g a w, g.N = N → Sim g st a w → ∃ v w' g', (execOp a.eval o).run P w = .ok (.value v) w' ∧ g.to g' ∧
      Sim g' ⟨(d, .own true e (rowsOf st (mv st x))) :: killL (qSlot d) st.t, st.h⟩ (a.put o.dst v) w' := by
  intro g a w hg h
  obtain ⟨bl, hb⟩ := h.own
  obtain ⟨hfs, _⟩ := mv_ok h s hgs
  rw [hs] at hfs
  have hvs : a.eval s = .slice none 0 0 := by have := hfs.2; rw [isNilSl_eq hu] at this; exact this
  obtain ⟨q, cap, news, hvx, hfx, hcx⟩ := slice_cells h hgx hx
  obtain ⟨v', w', o', hr, hen, hsz, hf', hw', hc'⟩ := append_run (ty := o.type) (k := cap) (nw := true) (rows := []) (v := .slice none 0 0) (o := none) hi hb1 h.B (.inl ⟨rfl, rfl, rfl⟩) hfx hcx (by simpa using hbytes)
  refine ⟨v', w', g, ?_, h.refl_to, ?_⟩
  · simp only [execOp, ho, resolve, invoke, builtin, List.map_toArray, List.map_cons, List.map_nil, Sem.run_bind, Sem.run_pure, Result.andThen_ok, hvs, hvx, hr]
  · rw [hd]
    exact h.putOwn hb (hg ▸ hN) hen hsz hw' (by simpa using hf') rfl (fun c hc => ⟨(hc' c hc).1, (hc' c hc).2.elim (fun e => by cases e) (fun hge => h.fresh hb hge)⟩)

end Go.AX
