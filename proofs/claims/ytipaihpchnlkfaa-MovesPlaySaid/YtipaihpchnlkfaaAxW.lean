/-
  AX, part W: maps that are made and written; slices that are made of zeros.
-/
import Derived.Test.YtipaihpchnlkfaaAxI
import Derived.MapKept
import Derived.Carry
import Derived.Laws.MakeOwn
namespace Go.AX

def amPut : List (Int × PV) → Int → PV → List (Int × PV)
  | [], n, y => [(n, y)]
  | (k, x) :: r, n, y => if k = n then (k, y) :: r else (k, x) :: amPut r n y

theorem findPut {g : Gh} {kk : IntKind} {n : Int} : ∀ {es : List (Int × PV)} {en : List MapEntry} (_ : FitE g es en) (j : Nat),
    ∃ r, Instr.findNow (.int kk) (.int .i64 n) en j = some r ∧ (r = none ∧ (∀ y u born, Fit g y u → FitE g (amPut es n y) (en ++ [{ key := .int .i64 n, val := u, born := born }])) ∨
      ∃ i m, r = some (j + i, m.val) ∧ en[i]? = some m ∧ m.key = .int .i64 n ∧ ∀ y u, Fit g y u → FitE g (amPut es n y) (en.set i { m with key := .int .i64 n, val := u }))
  | [], en, h, j => by
    simp only [FitE] at h
    subst h
    exact ⟨none, rfl, .inl ⟨rfl, fun y u born hy => ⟨_, _, rfl, rfl, hy, rfl⟩⟩⟩
  | (k, x) :: es, en, ⟨m, r, h1, h2, h3, h4⟩, j => by
    subst h1
    simp only [Instr.findNow, h2, Instr.sameNow, if_true]
    by_cases hk : k = n
    · subst hk
      simp only [beq_self_eq_true]
      refine ⟨_, rfl, .inr ⟨0, m, rfl, rfl, h2, fun y u hy => ?_⟩⟩
      simp only [amPut, if_true, List.set_cons_zero]
      exact ⟨_, _, rfl, rfl, hy, h4⟩
    · have hb : (n == k) = false := by simp; exact fun e => hk e.symm
      simp only [hb]
      obtain ⟨r', e1, e2⟩ := findPut (n := n) h4 (j + 1)
      refine ⟨r', e1, ?_⟩
      rcases e2 with ⟨rfl, e2⟩ | ⟨i, m', rfl, e3, e4, e5⟩
      · refine .inl ⟨rfl, fun y u born hy => ?_⟩
        simp only [amPut, if_neg hk]
        exact ⟨m, _, rfl, h2, h3, e2 y u born hy⟩
      · refine .inr ⟨i + 1, m', by rw [Nat.add_assoc, Nat.add_comm 1 i], by simpa using e3, e4, fun y u hy => ?_⟩
        simp only [amPut, if_neg hk, List.set_cons_succ]
        exact ⟨m, _, rfl, h2, h3, e5 y u hy⟩

theorem sameBits_int (k : IntKind) (n : Int) : Instr.sameBits 10000 (.int k n) (.int k n) = true := by
  show Instr.sameBits (9999 + 1) _ _ = true
  simp [Instr.sameBits]

/-- A map's type with whole numbers for keys. -/
def mpKey (P : Program) (t : TypeId) : Bool :=
  match P.underlying t with
  | some (.map k _) => match P.underlying k with
    | some (.int _) => true
    | _ => false
  | _ => false

theorem mapUpdate_own {P : Program} {st : St} (o : Oper) (t : TypeId) (m k x : Operand) (p : Pos) (nw : Bool) (es : List (Int × PV)) (ho : o.op = .mapUpdate t m k x) (ht : mpKey P t = true)
    (he : (emb st x).2.2) (hgm : gc (emb st x).2.1 m) (hm : mv (emb st x).2.1 m = .al p) (hp : posGet (emb st x).2.1 p = .omap nw es) (hgk : gc (emb st x).2.1 k) (hk : isI (mv (emb st x).2.1 k)) (hkk : asK (mv (emb st x).2.1 k) = .i64) :
    ∀ g a w, Sim g st a w → ∃ w' g', (execOp a.eval o).run P w = .ok .skip w' ∧ g.to g' ∧ Sim g' (setPos (emb st x).2.1 p (.omap nw (amPut es (asI (mv (emb st x).2.1 k)) (emb st x).1))) a w' := by
  intro g a w h
  obtain ⟨g1, t1, l1, n1, s1, f1⟩ := emb_ok h x he
  obtain ⟨bl, hb⟩ := s1.own
  obtain ⟨_, ha⟩ := mv_ok s1 m hgm
  rw [hm] at ha
  have hv := ha (by rw [hp]; rfl)
  have hfp := pos_fit hb (p := p) (by rw [hp]; rfl)
  rw [hp] at hfp
  obtain ⟨c, hc, en, ck, e1, e2, e3, e4⟩ := hfp
  have hkv := int_ok s1 hgk hk
  rw [hkk] at hkv
  unfold mpKey at ht
  split at ht
  case h_2 => cases ht
  rename_i kt et hu
  split at ht
  case h_2 => cases ht
  rename_i kk hku
  have hobj : (getObj c).run P w = .ok (.map en ck) w := MapKept.run_getObj_map e2
  obtain ⟨r, k1, k2⟩ := findPut (kk := kk) (n := asI (mv (emb st x).2.1 k)) e3 0
  have hfind : (Instr.findKey kt (.int .i64 (asI (mv (emb st x).2.1 k))) en.toList).run P w = .ok r w := by
    simp only [Instr.findKey, Sem.run_bind, run_underlying hku, Result.andThen_ok, k1, Sem.run_pure]
  have hlt := (Array.getElem?_eq_some_iff.1 e2).1
  have fin : ∀ (en' : Array MapEntry) (ck' : Nat), FitE g1 (amPut es (asI (mv (emb st x).2.1 k)) (emb st x).1) en'.toList →
      Sim g1 (setPos (emb st x).2.1 p (.omap nw (amPut es (asI (mv (emb st x).2.1 k)) (emb st x).1))) a { w with heap := w.heap.setIfInBounds c (.map en' ck') } := by
    intro en' ck' hf
    refine s1.ownWrite hb (by rw [hp]; rfl) hc rfl (by simp) (fun j hj => ?_) ⟨c, rfl, en', ck', e1, ?_, hf, e4⟩ rfl (fun _ _ _ hh => by cases hh)
    · show (w.heap.setIfInBounds c _)[j]? = _
      rw [Array.getElem?_setIfInBounds_ne (Ne.symm hj)]
    · show (w.heap.setIfInBounds c _)[c]? = _
      simp [hlt]
  have hev : a.eval m = .map (some c) := hv.trans e1
  rcases k2 with ⟨rfl, k2⟩ | ⟨i, me, rfl, k3, k4, k5⟩
  · refine ⟨_, g1, ?_, t1, fin (en.push { key := .int .i64 (asI (mv (emb st x).2.1 k)), val := a.eval x, born := ck }) (ck + 1) (by rw [Array.toList_push]; exact k2 _ _ _ f1)⟩
    simp only [execOp, ho, hev, hkv, Instr.mapUpdate, Sem.run_bind, run_underlying hu, Result.andThen_ok, hobj, run_checkKey_int w _ kt kk .i64 _ hku, hfind, MapKept.run_setObj_map _ e2, Sem.run_pure]
  · rw [Nat.zero_add] at hfind
    refine ⟨_, g1, ?_, t1, fin (en.modify i fun e => { e with key := .int .i64 (asI (mv (emb st x).2.1 k)), val := a.eval x }) ck ?_⟩
    · have hkk' : ((en[i]?).map (·.key)).getD (.int .i64 (asI (mv (emb st x).2.1 k))) = .int .i64 (asI (mv (emb st x).2.1 k)) := by
        rw [← Array.getElem?_toList, k3]; exact k4
      simp only [execOp, ho, hev, hkv, Instr.mapUpdate, Sem.run_bind, run_underlying hu, Result.andThen_ok, hobj, run_checkKey_int w _ kt kk .i64 _ hku, hfind, hkk', Instr.keyThatStays, sameBits_int, if_true, Sem.run_pure, MapKept.run_setObj_map _ e2]
    · have : (en.modify i fun e => { e with key := .int .i64 (asI (mv (emb st x).2.1 k)), val := a.eval x }).toList = en.toList.set i { me with key := .int .i64 (asI (mv (emb st x).2.1 k)), val := a.eval x } := by
        apply List.ext_getElem?
        intro j
        rw [Array.getElem?_toList, Array.getElem?_modify, List.getElem?_set]
        split
        · rename_i hij
          subst hij
          rw [← Array.getElem?_toList, k3, Option.map_some]
          simp only [if_pos (List.getElem?_eq_some_iff.1 k3).1]
        · rw [Array.getElem?_toList]
      rw [this]
      exact k5 _ _ f1

theorem makeMap_own {P : Program} {st : St} (o : Oper) (t : TypeId) (d : Nat) (ho : o.op = .makeMap t none) (hd : o.dst = some d) {N : Nat} (hN : d < N) :
    ∀ g a w, g.N = N → Sim g st a w → ∃ v w' g', (execOp a.eval o).run P w = .ok (.value v) w' ∧ g.to g' ∧ Sim g' ⟨(d, .omap true []) :: killL (qSlot d) st.t, st.h⟩ (a.put o.dst v) w' := by
  intro g a w hg h
  obtain ⟨bl, hb⟩ := h.own
  refine ⟨.map (some w.heap.size), w.alloc (.map #[] 0), g, ?_, h.refl_to, ?_⟩
  · simp only [execOp, ho, Option.map_none, Sem.run_bind, Go.RowKit.run_makeMap, Result.andThen_ok, Sem.run_pure]
  · rw [hd]
    refine h.putOwn hb (hg ▸ hN) rfl (by simp) (fun c hc _ => heap_alloc_old w _ hc) (o := some w.heap.size) ⟨w.heap.size, rfl, #[], 0, rfl, heap_alloc_new w _, rfl, fun _ => h.B⟩ rfl (fun c hc => ?_)
    cases hc
    exact ⟨by simp, h.fresh hb (Nat.le_refl _)⟩

/-! ### A slice of zeros -/
theorem made_list (z : Array Value) (e : Nat) (he : z.size = e) : ∀ k, (madeCells z (k * e)).toList = (List.replicate k z.toList).flatten
  | 0 => by simp [madeCells]
  | k + 1 => by
    have ih := made_list z e he k
    simp only [madeCells, Array.toList_map, Array.toList_range] at ih ⊢
    rw [Nat.succ_mul, List.range_add, List.map_append, ih, List.replicate_succ', List.flatten_append]
    congr 1
    simp only [List.flatten_cons, List.flatten_nil, List.append_nil, List.map_map]
    apply List.ext_getElem?
    intro i
    simp only [List.getElem?_map]
    by_cases hi : i < e
    · rw [List.getElem?_range hi]
      simp only [Option.map_some, Function.comp_apply]
      rw [he, Nat.add_comm (k * e) i, Nat.add_mul_mod_self_right, Nat.mod_eq_of_lt hi]
      have : i < z.size := by omega
      simp [this]
    · rw [List.getElem?_eq_none (by simpa using hi), List.getElem?_eq_none (by simp [he]; omega)]; rfl

theorem fitR_replicate {g : Gh} {e : Nat} {zs : List PV} {zl : List Value} (h : FitL g zs zl) (hl : zs.length = e) (ho : ∀ v ∈ zl, v.oneCell' = true) : ∀ n, FitR g e (List.replicate n zs) ((List.replicate n zl).flatten)
  | 0 => rfl
  | n + 1 => by
    simp only [List.replicate_succ, List.flatten_cons]
    exact ⟨zl, _, rfl, ⟨hl, ho⟩, h, fitR_replicate h hl ho n⟩

theorem makeSlice_own {P : Program} {st : St} (o : Oper) (t : TypeId) (x y : Operand) (d e b : Nat) (zs : List PV) (ho : o.op = .makeSlice t x y) (hd : o.dst = some d) (hi : slInfo P t = some (e, b)) (hz : slZero P t = some zs) (h1 : allOne zs = true) (hb1 : 0 < b)
    (hgx : gc st x) (hgy : gc st y) (hx : isI (mv st x)) (hy : isI (mv st y)) (h0 : 0 ≤ asI (mv st x)) (hle : asI (mv st x) ≤ asI (mv st y)) (hbytes : asI (mv st y) * b ≤ 140737488355328) {N : Nat} (hN : d < N) :
    ∀ g a w, g.N = N → Sim g st a w → ∃ v w' g', (execOp a.eval o).run P w = .ok (.value v) w' ∧ g.to g' ∧
      Sim g' ⟨(d, .own true e (List.replicate (asI (mv st x)).toNat zs)) :: killL (qSlot d) st.t, st.h⟩ (a.put o.dst v) w' := by
  intro g a w hg h
  obtain ⟨bl, hb⟩ := h.own
  unfold slInfo at hi
  split at hi
  case h_2 => cases hi
  rename_i el hu
  unfold slZero at hz
  rw [hu] at hz
  simp only at hz
  cases hinf : P.info? el with
  | none => rw [hinf] at hi; cases hi
  | some inf =>
    rw [hinf] at hi
    simp only [zeroL, hinf, Option.map_eq_some_iff] at hz
    obtain ⟨z, hz, rfl⟩ := hz
    simp only at hi
    rw [hz] at hi
    simp only at hi
    split at hi
    case isFalse => cases hi
    rename_i hsz
    cases hi
    have ex := int_ok h hgx hx
    have ey := int_ok h hgy hy
    generalize asI (mv st x) = l at *
    generalize asI (mv st y) = c at *
    have hc0 : 0 ≤ c := by omega
    have hcb : c * 1 ≤ c * (inf.bytes : Int) := Int.mul_le_mul_of_nonneg_left (by omega) hc0
    have hrun := run_make (P := P) (w := w) t el inf z hu hinf hz (asK (mv st x)) (asK (mv st y)) l c h0 hle (by rw [Int.mul_comm]; omega) (by omega)
    have hlits : FitL g (z.cells.toList.map PV.lit) z.cells.toList := fitL_lits g _
    have hone := allOne_ok h1 hlits
    refine ⟨.slice (some ⟨w.heap.size, 0, none⟩) l.toNat c.toNat, w.alloc (.cells (madeCells z.cells (c.toNat * inf.size)) el), g, ?_, h.refl_to, ?_⟩
    · simp only [execOp, ho, ex, ey, Sem.run_bind, hrun, Result.andThen_ok, Sem.run_pure]
    · rw [hd]
      refine h.putOwn hb (hg ▸ hN) rfl (by simp) (fun k hk _ => heap_alloc_old w _ hk) (o := some w.heap.size) ?_ rfl (fun k hk => ?_)
      · refine .inr ⟨w.heap.size, rfl, c.toNat, _, el, (List.replicate l.toNat z.cells.toList).flatten, by rw [List.length_replicate], heap_alloc_new w _, ?_, ⟨?_, ?_⟩, ?_, ?_, fun _ => h.B⟩
        · exact size_madeCells _ _
        · rw [List.length_replicate]; omega
        · show c.toNat ≤ 2 ^ 63 - 1; omega
        · exact fitR_replicate hlits (by simpa using hsz) hone _
        · rw [made_list z.cells inf.size hsz]
          refine ⟨(List.replicate (c.toNat - l.toNat) z.cells.toList).flatten, ?_⟩
          rw [← List.flatten_append, List.replicate_append_replicate]
          congr 2; omega
      · cases hk
        exact ⟨by simp, h.fresh hb (Nat.le_refl _)⟩

end Go.AX
