/-
  AX, part MK: a map's keys, sorted; what is deleted of a map.
-/
import Derived.Test.YtphbmbhmhbchbaaAxX
namespace Go.AX

/-- maps.Keys: the map is boxed; the function value names the box. -/
def AKeys (P : Program) (f kf : FuncId) : Prop :=
  callable P f = true ∧ ∃ T, ∀ mb w, Calls P f #[.map mb] w (fun e w' => e = .returned (.func (.func kf) #[] #[.pointer (some ⟨w.heap.size, 0, none⟩)]) ∧ w' = w.alloc (.cells #[.map mb] T))

theorem call_enter {P : Program} {st : St} {g : Gh} {a : Act} {w : World} (h : Sim g st a w) (o : Oper) (x : Operand) (args : Array Operand) (tys : Array TypeId) (f : FuncId) (p q : List PV)
    (ho : o.op = .call { callee := .value x, args := args, argTypes := tys }) (hg : gc st x) (hc : calleeOf st x = some (f, p, q)) (hcall : callable P f = true) :
    ∃ u v : Array Value, FitL g p u.toList ∧ FitL g q v.toList ∧ (execOp a.eval o).run P w = .ok (.enter f (u.toList ++ (args.toList.map a.eval ++ v.toList)).toArray) w := by
  obtain ⟨u, v, hx, hu, hv⟩ := callee_ok h hg hc
  refine ⟨u, v, hu, hv, ?_⟩
  have harr : (u.toList ++ (args.toList.map a.eval ++ v.toList)).toArray = u ++ args.map a.eval ++ v := by
    apply Array.ext'
    simp
  rw [harr]
  unfold callable at hcall
  split at hcall
  case h_2 => cases hcall
  rename_i fn hfn
  simp only [Bool.and_eq_true, Bool.not_eq_true'] at hcall
  simp only [execOp, ho, resolve, hx, Deferred.ofValue, invoke, callFunc, Sem.run_bind, Sem.run_pure, Result.andThen_ok, run_program, hfn, hcall.1, hcall.2, Bool.false_eq_true, if_false]

theorem CallX.keys {P : Program} {st : St} {x : Operand} {args : Array Operand} {d : Tmp} {K : St → Prop} {f kf : FuncId} {a0 : Operand} {s : Nat} {nw : Bool} {es : List (Int × PV)} (hA : AKeys P f kf)
    (hg : gc st x) (hc : calleeOf st x = some (f, [], [])) (ha : args.toList = [a0]) (hm : mv st a0 = .al (.slot s)) (hga : gc st a0) (hs : look st.t s = .omap nw es)
    (hK : K ((moved (st.grow [.pv .bot]) s st.h.length 0).put d (.pv (.fn (.func kf) [] [.ptr st.h.length 0])))) : CallX P st x args (some d) K := by
  intro o tys ho hdd g a w h hd K' Q hfin
  obtain ⟨hcall, T, hA⟩ := hA
  obtain ⟨u, v, hu, hv, hrun⟩ := call_enter h o x args tys f [] [] ho hg hc hcall
  have hu0 : u.toList = [] := hu
  have hv0 : v.toList = [] := hv
  rw [hu0, hv0, ha] at hrun
  obtain ⟨_, hal⟩ := mv_ok h a0 hga
  rw [hm] at hal
  have hown : (posGet st (.slot s)).isOwn = true := by simp only [posGet, hs]; rfl
  have hva := hal hown
  obtain ⟨bl, hb⟩ := h.own
  have hfs := hb.slots s
  rw [hs] at hfs
  obtain ⟨c, hbc, en, ck, e1, e2, e3, e4⟩ := hfs
  have hval : a.eval a0 = .map (some c) := hva.trans e1
  unfold Oper.wp
  rw [hrun, Oper.upon_enter]
  simp only [List.map_cons, List.map_nil, List.append_nil, List.nil_append, hval]
  refine (hA (some c) w).mono fun e w' ⟨he, hw'⟩ => ?_
  subst he; subst hw'
  obtain ⟨g1, t1, l1, n1, m1, s1⟩ := h.blockNew [.bot] #[.map (some c)] T ⟨_, _, rfl, trivial, rfl⟩ (fun v hv => by simp at hv; subst hv; rfl)
  have hx1 : (st.grow [.pv .bot]).h[st.h.length]? = some [.pv .bot] := by simp [St.grow]
  have hpv : posVal g1 a (w.alloc (.cells #[.map (some c)] T)) (.cell st.h.length 0) = a.tmps.getD s undef := by
    simp only [posVal]
    rw [← h.n, m1, heap_alloc_new]
    rw [e1]; rfl
  have s2 := s1.moveTo (s := s) (b := st.h.length) (k := 0) (by show (look st.t s).isOwn = true; rw [hs]; rfl) hx1 (by simp) hpv
  refine hfin _ g1 _ _ hK t1 ?_
  rw [hdd]
  refine s2.put (by rw [t1.N]; exact hd) ⟨rfl, #[], _, rfl, rfl, ⟨_, _, rfl, ⟨?_, ?_⟩, rfl⟩⟩ trivial rfl
  · rw [n1, h.n]; omega
  · rw [← h.n, m1]

/-- slices.Sorted over a map's keys. -/
def ASorted (P : Program) (f kf : FuncId) (es : List (Int × PV)) (out : List (List PV)) : Prop :=
  callable P f = true ∧ ∀ (w : World) (Bm c : Nat) (arr : Array Value) (T : TypeId) (en : Array MapEntry) (ck : Nat) (G : Gh), w.heap[Bm]? = some (.cells arr T (0, 0)) → arr.toList = [.map (some c)] → w.heap[c]? = some (.map en ck) → FitE G es en.toList →
    MapKept.Stamped en ck → Calls P f #[.func (.func kf) #[] #[.pointer (some ⟨Bm, 0, none⟩)]] w fun e w' => ∃ v, e = .returned v ∧ envOf w' = envOf w ∧ w.heap.size ≤ w'.heap.size ∧ (∀ k, k < w.heap.size → w'.heap[k]? = w.heap[k]?) ∧
      ((out = [] ∧ v = .slice none 0 0) ∨ ∃ c' cap cur T', v = .slice (some ⟨c', 0, none⟩) out.length cap ∧ w'.heap[c']? = some (.cells cur T' (0, 0)) ∧ w.heap.size ≤ c' ∧ cur.size = cap ∧ out.length ≤ cap ∧ cap ≤ maxLen ∧ ∃ vs, vs <+: cur.toList ∧ ∀ G, FitR G 1 out vs)

theorem CallX.sorted {P : Program} {st : St} {x : Operand} {args : Array Operand} {d : Option Tmp} {K : St → Prop} {f kf : FuncId} {a0 : Operand} {b : Nat} {nw : Bool} {es : List (Int × PV)} {out : List (List PV)} (hA : ASorted P f kf es out)
    (hg : gc st x) (hc : calleeOf st x = some (f, [], [])) (ha : args.toList = [a0]) (hm : mv st a0 = .pv (.fn (.func kf) [] [.ptr b 0])) (hga : gc st a0) (hb0 : st.h[b]? = some [.omap nw es]) (hn : nwR out)
    (hK : K (putR d (.own true 1 out) st)) : CallX P st x args d K := by
  intro o tys ho hdd g a w h hd K' Q hfin
  obtain ⟨hcall, hA⟩ := hA
  obtain ⟨u, v, hu, hv, hrun⟩ := call_enter h o x args tys f [] [] ho hg hc hcall
  have hu0 : u.toList = [] := hu
  have hv0 : v.toList = [] := hv
  rw [hu0, hv0, ha] at hrun
  obtain ⟨hf0, _⟩ := mv_ok h a0 hga
  rw [hm] at hf0
  obtain ⟨_, p1, q1, hev, hp1, hq1⟩ := hf0
  obtain ⟨y, r, hqe, ⟨hbn, hy⟩, hr⟩ := hq1
  have hp1' : p1 = #[] := by apply Array.ext'; exact hp1
  have hq1' : q1 = #[.pointer (some ⟨g.μ b, 0, none⟩)] := by
    apply Array.ext'
    rw [hqe, hy]
    have : r = [] := hr
    rw [this]
  obtain ⟨bl, hb⟩ := h.own
  obtain ⟨arr, T, h1, ⟨h2, _⟩, h3⟩ := hb.blocks b _ hb0
  obtain ⟨_, c, hbc, en, ck, e1, e2, e3, e4⟩ := h3 0 _ rfl
  have harr : arr.toList = [.map (some c)] := by
    have h5 : arr.size = 1 := by simpa using h2
    rw [← e1]
    apply List.ext_getElem?
    intro i
    cases i with
    | zero => simp [h5, Array.getD]
    | succ i => rw [List.getElem?_eq_none (by simp; omega)]; rfl
  unfold Oper.wp
  rw [hrun, Oper.upon_enter]
  simp only [List.map_cons, List.map_nil, List.append_nil, List.nil_append]
  rw [hev, hp1', hq1']
  refine (hA w (g.μ b) c arr T en ck g h1 harr e2 e3 e4.2).mono fun e w' ⟨v, he, hen, hsz, hkeep, hval⟩ => ?_
  subst he
  have hE : PureEnd w w' { snap w with I := fun c => if c < w.heap.size then w.heap[c]? else none } := by
    refine ⟨rfl, hen, hkeep, hsz, fun k o hk => ?_⟩
    change (if k < w.heap.size then w.heap[k]? else none) = some o at hk
    split at hk
    · rw [hkeep k (by assumption)]; exact hk
    · cases hk
  rcases hval with ⟨rfl, rfl⟩ | ⟨c', cap, cur, T', rfl, k1, k2, k3, k4, k5, vs, k6, k7⟩
  · obtain ⟨g2, t2, s2⟩ := h.result (d := d) (r := .own true 1 []) (o := none) hd hE (.inl ⟨rfl, rfl, rfl⟩) rfl (fun c hc => by cases hc) ⟨rfl, trivial⟩
    rw [hdd]
    exact hfin _ g2 _ _ hK t2 s2
  · obtain ⟨g2, t2, s2⟩ := h.result (d := d) (r := .own true 1 out) (o := some c') hd hE (.inr ⟨c', rfl, cap, cur, T', vs, rfl, k1, by rw [k3, Nat.mul_one], ⟨k4, k5⟩, k7 _, k6, fun _ => k2⟩) rfl (fun c hc => by
      cases hc
      refine ⟨k2, ?_⟩
      show (if c' < w.heap.size then w.heap[c']? else none) = none
      rw [if_neg (by omega)]) ⟨rfl, hn⟩
    rw [hdd]
    exact hfin _ g2 _ _ hK t2 s2

def putU (d : Option Tmp) (st : St) : St :=
  match d with
  | none => st
  | some d => st.put d (.pv (.tup []))
/-- maps.DeleteFunc. -/
def ADelM (P : Program) (f : FuncId) (es : List (Int × PV)) (args : List PV) (R : List (Int × PV) → Prop) : Prop :=
  callable P f = true ∧ ∀ (w : World) (c : Nat) (en : Array MapEntry) (ck : Nat) (us : List Value) (G : Gh), w.heap[c]? = some (.map en ck) → FitE G es en.toList → MapKept.Stamped en ck → FitL (hid w c) args us →
    Calls P f ((.map (some c)) :: us).toArray w fun e w' => e = .returned (.tuple #[]) ∧ envOf w' = envOf w ∧ w.heap.size ≤ w'.heap.size ∧ (∀ k, k < w.heap.size → k ≠ c → w'.heap[k]? = w.heap[k]?) ∧
      ∃ en' ck' es', R es' ∧ w'.heap[c]? = some (.map en' ck') ∧ MapKept.Stamped en' ck' ∧ ∀ G, FitE G es' en'.toList

theorem CallX.delM {P : Program} {st : St} {x : Operand} {args : Array Operand} {d : Option Tmp} {K : St → Prop} {f : FuncId} {a0 : Operand} {xs : List Operand} {p : Pos} {nw : Bool} {es : List (Int × PV)} {R : List (Int × PV) → Prop} {va : List PV} (hA : ADelM P f es va R)
    (hg : gc st x) (hc : calleeOf st x = some (f, [], [])) (ha : args.toList = a0 :: xs) (hm : mv st a0 = .al p) (hga : gc st a0) (hs : posGet st p = .omap nw es) (hv : vwOkL (setPos st p (.pv .bot)) xs)
    (hva : vwA 3 (setPos st p (.pv .bot)) xs = va) (hK : ∀ es', R es' → K (putU d (setPos st p (.omap nw es')))) : CallX P st x args d K := by
  intro o tys ho hdd g a w h hd K' Q hfin
  obtain ⟨hcall, hA⟩ := hA
  obtain ⟨u, v, hu, hv', hrun⟩ := call_enter h o x args tys f [] [] ho hg hc hcall
  have hu0 : u.toList = [] := hu
  have hv0 : v.toList = [] := hv'
  rw [hu0, hv0, ha] at hrun
  obtain ⟨_, hal⟩ := mv_ok h a0 hga
  rw [hm] at hal
  have hown : (posGet st p).isOwn = true := by rw [hs]; rfl
  have hev := hal hown
  obtain ⟨bl, hb⟩ := h.own
  have hfp := pos_fit hb hown
  rw [hs] at hfp
  obtain ⟨c, hbc, en, ck, e1, e2, e3, e4⟩ := hfp
  obtain ⟨s0, bl0, hb0, _, _, hfree⟩ := h.drop hb p
  obtain ⟨hcI, hcF, hcs, hcμ⟩ := hb.free p c hbc
  have s0h : Sim g (setPos st p (.pv .bot)) a (hide w c) := s0.turn hb0 (hfree c hbc) rfl (by simp [hide]) (fun k hk => hide_ne w hk)
  have hfit : FitL (hid w c) va (xs.map a.eval) := by
    refine FitL.monoC (hid_snap w c) _ _ (.inl (Nat.zero_le _)) (.inl rfl) ?_
    rw [← hva, vwA_eq]; exact vwL_ok s0h 3 xs hv
  unfold Oper.wp
  rw [hrun, Oper.upon_enter]
  simp only [List.map_cons, List.append_nil, List.nil_append]
  rw [hev, e1]
  refine (hA w c en ck _ g e2 e3 e4.2 hfit).mono fun e w' ⟨he, hen, hsz, hkeep, en', ck', es', hR, k1, k2, k3⟩ => ?_
  subst he
  let w1 : World := { w with heap := w.heap.setIfInBounds c (.map en' ck') }
  have hw1 : ∀ k, k ≠ c → w1.heap[k]? = w.heap[k]? := fun k hk => by
    show (w.heap.setIfInBounds c _)[k]? = _
    rw [Array.getElem?_setIfInBounds, if_neg (Ne.symm hk)]
  have hw1c : w1.heap[c]? = some (.map en' ck') := by
    show (w.heap.setIfInBounds c _)[c]? = _
    rw [Array.getElem?_setIfInBounds, if_pos rfl, if_pos hcs]
  have hs1 : Sim g (setPos st p (.omap nw es')) a w1 :=
    h.ownWrite hb hown hbc rfl (by simp [w1]) hw1 ⟨c, rfl, en', ck', e1, hw1c, k3 _, e4.1, k2⟩ rfl (fun _ _ _ hh => by cases hh)
  have hsz1 : w1.heap.size = w.heap.size := by simp [w1]
  obtain ⟨s1, t1, _⟩ := hs1.grown (w' := w') (hen.trans rfl) (by rw [hsz1]; exact hsz) (fun k hk => by
    by_cases ek : k = c
    · subst ek; rw [k1, hw1c]
    · rw [hkeep k (by rw [← hsz1]; exact hk) ek, hw1 k ek]) (fun _ => none) (fun _ _ hh => by cases hh)
  rw [hdd]
  refine hfin _ _ _ _ (hK es' hR) t1 ?_
  cases d with
  | none => exact s1
  | some d => exact s1.put (by rw [t1.N]; exact hd) ⟨rfl, #[], rfl, rfl⟩ trivial rfl

end Go.AX
