/-
  AX, part BM: a call is handed a slice of numbers of the caller's own, which it writes, and blocks of the caller's turn, too.
-/
import Derived.Test.YtklaffmpfmpffaaGreatAxIs
import Derived.Test.YtklaffmpfmpffaaGreatAxBe
namespace Go.AX

def resM (b : Nat) (k : Option Nat) (off cap : Nat) : SV := match k with
  | none => .pv (.tup [])
  | some m => .pv (.bsl b 1 off m cap)

theorem Sim.toBlk {g : Gh} {st : St} {a : Act} {w : World} (h : Sim g st a w) {bl : Pos → Option Nat} (hb : Owns g st a w bl) {s c : Nat} (hbc : bl (.slot s) = some c) {arr : Array Value} {T : TypeId} (hcell : w.heap[c]? = some (.cells arr T (0, 0))) (hone : ∀ v ∈ arr.toList, v.oneCell' = true)
    {xs : List SV} (hx : xs = arr.toList.map fun v => .pv (.lit v)) :
    Sim { g with n := g.n + 1, n0 := g.n + 1, μ := fun b => if b = g.n then c else g.μ b } ⟨(s, .pv .bot) :: st.t, st.h ++ [xs]⟩ a w := by
  obtain ⟨s0, bl0, hb0, _, _, hfree⟩ := h.drop hb (.slot s)
  obtain ⟨f1, f2, f3, f4⟩ := hfree c hbc
  have hle : g.le { g with n := g.n + 1, n0 := g.n + 1, μ := fun b => if b = g.n then c else g.μ b } := ⟨fun _ _ h => h, Nat.le_refl _, Nat.le_succ _, fun b hb => if_neg (by omega)⟩
  have hn := h.n
  refine { size := h.size, defs := h.defs, env := h.env, n := by simp [hn], n0 := Nat.le_refl _, B := h.B, I := h.I, F := h.F, μI := fun b hb => ?_, μinj := fun b b' hb hb' he => ?_, own := ⟨fun p => match p with | .slot u => bl0 (.slot u) | .cell b k => if b = g.n then none else bl0 (.cell b k), ?_⟩, al := fun u => ?_ }
  · by_cases e : b = g.n
    · simp only [e, if_true]; exact ⟨f1, f2⟩
    · simp only [e, if_false]; exact h.μI b (by have : b < g.n + 1 := hb; omega)
  · have hb1 : b < g.n + 1 := hb
    have hb1' : b' < g.n + 1 := hb'
    by_cases e : b = g.n
    · by_cases e' : b' = g.n
      · omega
      · simp only [e, e', if_true, if_false] at he
        exact absurd he.symm (f3 b' (by omega))
    · by_cases e' : b' = g.n
      · simp only [e, e', if_true, if_false] at he
        exact absurd he (f3 b (by omega))
      · simp only [e, e', if_false] at he
        exact h.μinj b b' (by omega) (by omega) he
  · refine { slots := fun u => SFit.frame hle (fun _ _ => rfl) (hb0.slots u), blocks := fun b ys hy => ?_, inj := fun p q k hp hq => ?_, free := fun p k hp => ?_ }
    · by_cases e : b = g.n
      · subst e
        rw [hn, List.getElem?_append_right (Nat.le_refl _), Nat.sub_self] at hy
        simp only [List.getElem?_cons_zero, Option.some.injEq] at hy
        subst hy
        refine ⟨arr, T, by simp only [if_true]; exact hcell, ⟨by rw [hx]; simp, hone⟩, fun k x hk => ?_⟩
        rw [hx, List.getElem?_map] at hk
        cases hk2 : arr.toList[k]? with
        | none => rw [hk2] at hk; cases hk
        | some v =>
          rw [hk2] at hk
          simp only [Option.map_some, Option.some.injEq] at hk
          subst hk
          refine ⟨rfl, by simp, ?_⟩
          show arr.getD k undef = v
          have : arr[k]? = some v := by rw [← Array.getElem?_toList]; exact hk2
          rw [Array.getD_eq_getD_getElem?, this]; rfl
      · have hlt : b < st.h.length := by
          have := (List.getElem?_eq_some_iff.1 hy).1
          simp only [List.length_append, List.length_singleton] at this
          omega
        rw [List.getElem?_append_left hlt] at hy
        obtain ⟨arr', T', h1, h2, h3⟩ := hb0.blocks b ys hy
        refine ⟨arr', T', by simp only [e, if_false]; exact h1, h2, fun k x hk => ?_⟩
        simp only [e, if_false]
        exact ⟨(h3 k x hk).1, SFit.frame hle (fun _ _ => rfl) (h3 k x hk).2⟩
    · cases p with
      | slot u => cases q with
        | slot v => exact hb0.inj _ _ k hp hq
        | cell b j => dsimp only at hq; split at hq
                      · cases hq
                      · exact hb0.inj _ _ k hp hq
      | cell b j => 
        dsimp only at hp; split at hp
        · cases hp
        · cases q with
          | slot v => exact hb0.inj _ _ k hp hq
          | cell b2 j2 => dsimp only at hq; split at hq
                          · cases hq
                          · exact hb0.inj _ _ k hp hq
    · have hp0 : bl0 p = some k := by
        cases p with
        | slot u => exact hp
        | cell b j => dsimp only at hp; split at hp
                      · cases hp
                      · exact hp
      obtain ⟨q1, q2, q3, q4⟩ := hb0.free p k hp0
      refine ⟨q1, q2, q3, fun b hb => ?_⟩
      by_cases e : b = g.n
      · simp only [e, if_true]; intro e2; exact f4 p (e2 ▸ hp0)
      · simp only [e, if_false]; exact q4 b (by have : b < g.n + 1 := hb; omega)
  · refine AlOk.congr (fun p hp => ?_) (s0.al u)
    cases p with
    | slot v => exact ⟨rfl, rfl⟩
    | cell b k =>
      have hlt : b < st.h.length := by
        apply Nat.lt_of_not_le
        intro hge
        simp only [posGet] at hp
        by_cases e : b = st.h.length
        · subst e
          have h8 : (st.h ++ [xs]).getD st.h.length [] = xs := by simp [List.getD_eq_getElem?_getD]
          rw [h8, hx, List.getD_eq_getElem?_getD, List.getElem?_map] at hp
          cases h9 : arr.toList[k]? <;> rw [h9] at hp <;> cases hp
        · have h8 : (st.h ++ [xs]).getD b [] = [] := by rw [List.getD_eq_getElem?_getD, List.getElem?_eq_none (by simp; omega)]; rfl
          rw [h8] at hp
          cases hp
      refine ⟨?_, ?_⟩
      · simp only [posGet, setPos, List.getD_eq_getElem?_getD]
        rw [List.getElem?_append_left hlt]
      · have e : b ≠ g.n := by omega
        simp only [posVal, e, if_false]

theorem Sim.fromBlk {g g1 g' : Gh} {st : St} {a : Act} {w w' : World} (h : Sim g st a w) {s c n cap : Nat} {nw : Bool} {all all' : List Int} {H' : List (List SV)} {rest : List Value}
    (hlk : look st.t s = .own nw 1 (intsB all)) (hv : a.tmps.getD s undef = .slice (some ⟨c, 0, none⟩) all.length cap) (hcap : all.length ≤ cap ∧ cap ≤ maxLen ∧ all.length + rest.length = cap) (hnw : nw = true → g.B ≤ c) (hal : all'.length = all.length)
    (hg1 : g1 = { g with n := g.n + 1, n0 := g.n + 1, μ := fun b => if b = g.n then c else g.μ b }) (ht : g1.to g') (S0 : Sim g' ⟨killL qCell ((s, .pv .bot) :: st.t), H' ++ [blk [] all' rest]⟩ a w') (hH : H'.length = st.h.length) (hbT : belowT st.h.length st.t) (hbH : belowH st.h.length H') (hn : n = st.h.length) :
    g.to { g' with n := g.n, n0 := g.n0 } ∧ Sim { g' with n := g.n, n0 := g.n0 } ⟨(s, .own nw 1 (intsB all')) :: killL qCell st.t, H'⟩ a w' ∧ g'.μ g.n = c := by
  subst hn
  have hgn := h.n
  have hμc : g'.μ g.n = c := by rw [ht.μ g.n (by rw [hg1]; exact Nat.lt_succ_self _), hg1]; simp
  have hμ : ∀ b, b < g.n → g'.μ b = g.μ b := fun b hb => by
    rw [ht.μ b (by rw [hg1]; exact Nat.lt_succ_of_lt hb), hg1]
    exact if_neg (by omega)
  have hg'n : g'.n = g.n + 1 := by rw [S0.n]; simp [hH, hgn]
  have hB : g'.B = g.B := by rw [ht.B, hg1]
  have hN : g'.N = g.N := by rw [ht.N, hg1]
  obtain ⟨bl', hb'⟩ := S0.own
  have hfc := S0.μI g.n (by omega)
  rw [hμc] at hfc
  have hnc : ∀ q, bl' q ≠ some c := fun q hq => (hb'.free q c hq).2.2.2 g.n (by omega) hμc
  obtain ⟨arr', T', b1, ⟨b2, b2'⟩, b3⟩ := hb'.blocks g.n (blk [] all' rest) (by show (H' ++ _)[g.n]? = _; rw [hgn, ← hH, List.getElem?_append_right (Nat.le_refl _), Nat.sub_self]; rfl)
  rw [hμc] at b1
  have hblk : blk [] all' rest = (all'.map (Value.int .i64) ++ rest).map fun v => .pv (.lit v) := by
    unfold blk; simp only [List.map_append, List.map_map, List.map_nil, List.nil_append]; rfl
  have harr : arr' = (all'.map (Value.int .i64) ++ rest).toArray := by
    rw [hblk, List.length_map] at b2
    exact cells_lits (bl := fun k => bl' (.cell g.n k)) b2 fun k x hk => (b3 k x (by rw [hblk]; exact hk)).2
  have hle : ({ g' with n := g.n } : Gh).le { g' with n := g.n, n0 := g.n0 } := ⟨fun _ _ h => h, Nat.le_refl _, Nat.le_refl _, fun _ _ => rfl⟩
  refine ⟨⟨fun k o hk => ht.I k o (by rw [hg1]; exact hk), by rw [ht.F, hg1], hB, rfl, hN, by rw [ht.env, hg1], h.n0, fun b hb => hμ b (Nat.lt_of_lt_of_le hb h.n0), fun k hF hI => ht.FI k (by rw [hg1]; exact hF) (by rw [hg1]; exact hI)⟩, ?_, hμc⟩
  refine { size := S0.size, defs := S0.defs, env := S0.env, n := by rw [hgn, ← hH], n0 := h.n0, B := S0.B, I := S0.I, F := S0.F, μI := fun b hb => S0.μI b (by rw [hg'n]; exact Nat.lt_succ_of_lt hb), μinj := fun b b' hb hb' he => S0.μinj b b' (by rw [hg'n]; exact Nat.lt_succ_of_lt hb) (by rw [hg'n]; exact Nat.lt_succ_of_lt hb') he, own := ⟨fun p => if p = .slot s then some c else bl' p, ?_⟩, al := fun u => ?_ }
  · refine { slots := fun u => ?_, blocks := fun b ys hy => ?_, inj := fun p q k hp hq => ?_, free := fun p k hp => ?_ }
    · by_cases e : s = u
      · subst e
        simp only [look, if_true]
        refine .inr ⟨c, rfl, cap, arr', T', all'.map (Value.int .i64), ?_, b1, ?_, ⟨?_, hcap.2.1, b2'⟩, fitR_intsB _ _, ?_, fun hn => by show g'.B ≤ c; rw [hB]; exact hnw hn⟩
        · rw [hv]; unfold intsB; simp [hal]
        · rw [harr]; simp [hal]; exact hcap.2.2
        · unfold intsB; simp [hal]; exact hcap.1
        · rw [harr]; exact ⟨rest, rfl⟩
      · have e2 : ¬ (Pos.slot u = Pos.slot s) := fun e3 => e (by cases e3; rfl)
        simp only [look, if_neg e, if_neg e2, look_kill]
        have h1 := hb'.slots u
        simp only [look_kill, look, if_neg e] at h1
        refine SFit.frame hle (fun _ _ => rfl) (SFit.below ?_ h1)
        rcases killS_cases qCell (look st.t u) with h2 | ⟨h2, _⟩
        · rw [h2]; trivial
        · rw [h2, hgn]; exact belowT_look hbT u
    · have hlt := (List.getElem?_eq_some_iff.1 hy).1
      obtain ⟨arr2, T2, d1, d2, d3⟩ := hb'.blocks b ys (by show (H' ++ _)[b]? = _; rw [List.getElem?_append_left hlt]; exact hy)
      refine ⟨arr2, T2, d1, d2, fun k x hk => ⟨(d3 k x hk).1, ?_⟩⟩
      rw [if_neg (by intro e; cases e)]
      refine SFit.frame hle (fun _ _ => rfl) (SFit.below ?_ (d3 k x hk).2)
      rw [hgn]; exact belowC_get (belowH_get hbH b ys hy) k x hk
    · split at hp
      · rename_i e
        split at hq
        · rename_i e'; rw [e, e']
        · cases hp; exact absurd hq (hnc q)
      · split at hq
        · cases hq; exact absurd hp (hnc p)
        · exact hb'.inj p q k hp hq
    · split at hp
      · cases hp
        refine ⟨hfc.1, hfc.2, (Array.getElem?_eq_some_iff.1 b1).1, fun b hb e => ?_⟩
        have hb0 : b < g.n := hb
        have := S0.μinj b g.n (by omega) (by omega) (by rw [hμc]; exact e)
        omega
      · obtain ⟨q1, q2, q3, q4⟩ := hb'.free p k hp
        exact ⟨q1, q2, q3, fun b hb => q4 b (by rw [hg'n]; exact Nat.lt_succ_of_lt hb)⟩
  · by_cases e : s = u
    · subst e; simp only [look, if_true]; trivial
    · simp only [look, if_neg e, look_kill]
      rcases killS_cases qCell (look st.t u) with h2 | ⟨h2, hav⟩
      · rw [h2]; trivial
      · rw [h2]
        have hown : (posGet st (.slot s)).isOwn = true := by show (look st.t s).isOwn = true; rw [hlk]; rfl
        have h3 : AlOk g (setPos st (.slot s) (.own nw 1 (intsB all'))) a w (look st.t u) (a.tmps.getD u undef) := by
          refine AlOk.write (p := .slot s) (sv' := .own nw 1 (intsB all')) (fun r hr => posGet_setPos_ne st _ r _ (Ne.symm hr)) (posGet_setPos_same hown) hown (fun _ _ => rfl) (fun nw' e' rows' he => ?_) (h.al u)
          cases he
          exact ⟨nw, intsB all, hlk, by unfold intsB; simp [hal]⟩
        refine AlOk.congrA (q := qCell) (fun p hp hpo => ?_) hav h3
        cases p with
        | cell b k => cases hp
        | slot v =>
          refine ⟨?_, rfl⟩
          simp only [posGet, setPos, look] at hpo ⊢
          split
          · rfl
          · rename_i hne
            rw [if_neg hne, look_kill] at hpo
            rw [look_kill]; exact killS_own hpo

theorem CallX.introB {P : Program} {st : St} {f : FuncId} {d : Option Tmp} {K : St → Prop} {c : Operand} {args : Array Operand} {q : List PV} {x : Operand} {xs : List Operand} {s lo hi : Nat} {nw : Bool} {all zs : List Int} {va : List PV} {R : Option Nat → List Int → List (List SV) → Prop}
    (hlk : look st.t s = .own nw 1 (intsB all)) (hgc : gc st c) (hcal : calleeOf st c = some (f, [], q)) (ha : args.toList = x :: xs) (hp : partOf st x = some (.slot s, lo, hi)) (hg : gc st x) (hlo : lo < hi) (hz : (all.take hi).drop lo = zs)
    (hT : belowT st.h.length st.t) (hpv : allPv st xs) (hva : pvsOf st xs ++ q = va)
    (h : ∀ (pre suf : List Value) (cap : Nat), zs.length ≤ cap → pre.length = lo → AMut P f (.bsl st.h.length 1 pre.length zs.length cap :: va) (st.h ++ [blk pre zs suf])
      (fun r h' => ∃ k zs' H', R k zs' H' ∧ zs'.length = zs.length ∧ (∀ m, k = some m → m ≤ zs.length) ∧ H'.length = st.h.length ∧ belowH st.h.length H' ∧ r = resM st.h.length k pre.length cap ∧ h' = H' ++ [blk pre zs' suf]))
    (hK : ∀ k zs' H', R k zs' H' → zs'.length = zs.length → (∀ m, k = some m → m ≤ zs.length) → K (putS d k (.slot s) lo ⟨(s, .own nw 1 (intsB (all.take lo ++ zs' ++ all.drop hi))) :: killL qCell st.t, H'⟩)) : CallX P st c args d K := by
  subst hva
  intro o tys ho hdd g a w hs hd K' Q hK'
  obtain ⟨u, v, hx, hu, hv'⟩ := callee_ok hs hgc hcal
  have hu0 : u.toList = [] := hu
  obtain ⟨nw1, e1, rows1, hpo, j1, j2, q0, cap, jv, jc, jq, jz⟩ := part_ok hs hg hp
  have hpo' : look st.t s = .own nw1 e1 rows1 := hpo
  rw [hlk] at hpo'
  cases hpo'
  have hlen : (intsB all).length = all.length := by unfold intsB; simp
  rw [hlen] at j2
  obtain ⟨bl, hb⟩ := hs.own
  have hfs := hb.slots s
  rw [hlk] at hfs
  rcases hfs with ⟨_, e1, _⟩ | ⟨cc, hbc, cap0, arr, T, vs, e1, e2, e3, e4, e5, e6, e7⟩
  · rw [e1] at hlen; simp at hlen; omega
  have hvs := fitR_intsB_eq e5
  subst hvs
  obtain ⟨rest, hrest⟩ := e6
  rw [hlen] at e1 e4
  have hq0 : q0 = some ⟨cc, lo, none⟩ := by
    rcases jq with jq | ⟨c1, n1, cp, h5, h6⟩
    · omega
    · have h5' : a.tmps.getD s undef = .slice (some ⟨c1, 0, none⟩) n1 cp := h5
      rw [e1] at h5'; cases h5'; rw [h6, Nat.mul_one]
  subst hq0
  have hzl : zs.length = hi - lo := by rw [← hz, List.length_drop, List.length_take]; omega
  have hsplit : all = all.take lo ++ zs ++ all.drop hi := by
    rw [← hz]
    have h8 : all.take lo = (all.take hi).take lo := by rw [List.take_take, Nat.min_eq_left (by omega)]
    rw [h8, List.take_append_drop, List.take_append_drop]
  have hblk : ∀ zs' : List Int, blk ((all.take lo).map (Value.int .i64)) zs' ((all.drop hi).map (Value.int .i64) ++ rest) = blk [] (all.take lo ++ zs' ++ all.drop hi) rest := fun zs' => by
    unfold blk; simp only [List.map_append, List.map_map, List.map_nil, List.nil_append, List.append_assoc]; rfl
  have harr : arr.toList.map (fun v => SV.pv (.lit v)) = blk [] all rest := by
    rw [← hrest]; unfold blk; simp only [List.map_append, List.map_map, List.map_nil, List.nil_append]; rfl
  have S1 := hs.toBlk hb hbc e2 e4.2.2 (xs := blk [] all rest) harr.symm
  obtain ⟨g1, hg1⟩ : ∃ g1 : Gh, g1 = { g with n := g.n + 1, n0 := g.n + 1, μ := fun b => if b = g.n then cc else g.μ b } := ⟨_, rfl⟩
  rw [← hg1] at S1
  have hle : g.le g1 := by subst hg1; exact ⟨fun _ _ h => h, Nat.le_refl _, Nat.le_succ _, fun b hb => if_neg (by omega)⟩
  have hpl : ((all.take lo).map (Value.int .i64)).length = lo := by rw [List.length_map, List.length_take]; omega
  obtain ⟨hcall, hA⟩ := h ((all.take lo).map (Value.int .i64)) ((all.drop hi).map (Value.int .i64) ++ rest) cap (by omega) hpl
  rw [hblk, ← hsplit, hpl, hzl] at hA
  have hfit : FitL g1 (.bsl st.h.length 1 lo (hi - lo) cap :: (pvsOf st xs ++ q)) (a.eval x :: (xs.map a.eval ++ v.toList)) := by
    refine ⟨_, _, rfl, ⟨?_, jc, ?_⟩, FitL.append (FitL.mono hle _ _ (pvsOf_ok hs xs hpv)) (FitL.mono hle _ _ hv')⟩
    · rw [hg1, hs.n]; exact Nat.lt_succ_self _
    · rw [jv, hg1, hs.n]; simp
  have hra : (a.eval x :: (xs.map a.eval ++ v.toList)).toArray = u ++ args.map a.eval ++ v := by
    apply Array.ext'
    simp [hu0, ha]
  have hrun : (execOp a.eval o).run P w = .ok (.enter f (u ++ args.map a.eval ++ v)) w := by
    unfold callable at hcall
    split at hcall
    case h_2 => cases hcall
    rename_i fn hfn
    simp only [Bool.and_eq_true, Bool.not_eq_true'] at hcall
    simp only [execOp, ho, resolve, hx, Deferred.ofValue, invoke, callFunc, Sem.run_bind, Sem.run_pure, Result.andThen_ok, run_program, hfn, hcall.1, hcall.2, Bool.false_eq_true, if_false]
  unfold Oper.wp
  rw [hrun, Oper.upon_enter, ← hra]
  refine (hA g1 _ a w _ S1 rfl hfit).mono fun e9 w' ⟨v9, r, h', g', he, ⟨k, zs', H', r1, r2, r3, r4, r5, r6, r7⟩, t', hs'⟩ => ?_
  subst he r6 r7
  have hk1 := hK k zs' H' r1 (by rw [hzl]; exact r2) (by rw [hzl]; exact r3)
  have S0 := hs' none trivial
  have S0' : Sim g' ⟨killL qCell ((s, .pv .bot) :: st.t), H' ++ [blk [] (all.take lo ++ zs' ++ all.drop hi) rest]⟩ a w' := by
    rw [← hblk]; exact S0
  have hal : (all.take lo ++ zs' ++ all.drop hi).length = all.length := by simp only [List.length_append, List.length_take, List.length_drop, r2]; omega
  have hrl : all.length + rest.length = cap0 := by
    have : arr.size = arr.toList.length := (Array.length_toList ..).symm
    rw [← hrest] at this
    simp only [List.length_append, List.length_map] at this
    omega
  obtain ⟨f1, f2, f3⟩ := hs.fromBlk (all' := all.take lo ++ zs' ++ all.drop hi) hlk e1 ⟨e4.1, e4.2.1, hrl⟩ e7 hal hg1 t' S0' r4 hT r5 rfl
  cases d with
  | none => rw [hdd]; exact hK' _ _ _ _ hk1 f1 f2
  | some d =>
    have hd1 : d < g'.N := by rw [t'.N, hg1]; exact hd
    have hd' : dstOk g1.N (some d) := by rw [hg1]; exact hd
    have Sd := hs' (some d) hd'
    obtain ⟨bl2, hb2⟩ := Sd.own
    have hsd := hb2.slots d
    have hda : d < a.tmps.size := by rw [hs.size]; exact hd
    rw [getD_put hda, if_pos rfl] at hsd
    rw [hdd]
    cases k with
    | none =>
      have h7 : SFit g' w' (.pv (.tup [])) v9 (bl2 (.slot d)) := by simpa [resM, putR, St.put, look] using hsd
      refine hK' _ _ _ _ hk1 f1 (f2.put hd1 ⟨rfl, h7.2⟩ trivial rfl)
    | some m =>
      have h7 : SFit g' w' (.pv (.bsl st.h.length 1 lo m cap)) v9 (bl2 (.slot d)) := by simpa [resM, putR, St.put, look] using hsd
      obtain ⟨_, _, hmc, hv9⟩ := h7
      have hm := r3 m rfl
      refine hK' _ _ _ _ hk1 f1 (f2.put hd1 rfl ?_ rfl)
      intro nw2 e2' rows2 hp2
      simp only [posGet, look, if_true] at hp2
      cases hp2
      have hm2 : lo + m - lo = m := by omega
      rw [← hs.n, f3] at hv9
      refine ⟨by omega, by rw [show (intsB (all.take lo ++ zs' ++ all.drop hi)).length = all.length by unfold intsB; rw [List.length_map, hal]]; omega, _, _, by rw [hm2]; exact hv9, by rw [hm2]; exact hmc, .inr ⟨cc, _, _, e1, by rw [Nat.mul_one]⟩, fun h0 => ?_⟩
      exact jz h0

end Go.AX
