/-
  EX, part M: code, and calls.
  EX, part N: calls.
-/
import Derived.Test.YtpejmhpcgpnpaaaGreatAxExL
import Derived.Test.YtpejmhpcgpnpaaaGreatAxBe
namespace Go.EX
open Go.AX
variable {P : Program} {cal : Cal}
theorem wp_scope_rel {body : Code} {Q : Exit → Act → World → Prop} (I : Nat → Code → Act → World → Prop) (round : ∀ n c a w, I n c a w → c.wp P (fun e a' w' => match e with
      | .goto l => match findLabel body l with
        | some r => ∃ m, m < n ∧ I m r a' w'
        | none => Q (.goto l) a' w'
      | e => Q e a' w') a w) {n : Nat} {a : Act} {w : World} (h0 : I n body a w) : (Code.scope body).wp P Q a w := by
  intro b k cs
  have key : ∀ n c a w, I n c a w → ∃ e a' w', Q e a' w' ∧ Arrives P (lone (b.at a (.code c :: .inScope body :: k)) cs w) b k cs e a' w' := by
    intro n
    induction n using Nat.strongRecOn with
    | _ n ih =>
      intro c a w hI
      obtain ⟨e, a1, w1, hq, harr⟩ := round n c a w hI b (.inScope body :: k) cs
      cases e with
      | normal => exact ⟨.normal, a1, w1, hq, Steps.trans harr (.one step_inScope)⟩
      | exit id => exact ⟨.exit id, a1, w1, hq, fun k' hk => harr k' (by simp [exitTo, hk])⟩
      | goto l =>
        simp only at hq
        cases hf : findLabel body l with
        | none =>
          rw [hf] at hq
          exact ⟨.goto l, a1, w1, hq, fun k' hk => harr k' (by simp [gotoIn, hf, hk])⟩
        | some r =>
          rw [hf] at hq
          obtain ⟨m, hm, hI'⟩ := hq
          obtain ⟨e, a2, w2, hq2, h2⟩ := ih m hm r a1 w1 hI'
          exact ⟨e, a2, w2, hq2, .of_steps (harr _ (by simp [gotoIn, hf])) h2⟩
      | ret => exact ⟨_, a1, w1, hq, harr⟩
      | panic ch => exact ⟨_, a1, w1, hq, harr⟩
      | outgrown => exact ⟨_, a1, w1, hq, harr⟩
  obtain ⟨e, a', w', hq, harr⟩ := key n body a w h0
  exact ⟨e, a', w', hq, .of_steps (.one step_scope) harr⟩
def Ex.to : Ex → Exit
 | .nx => .normal
 | .ex id => .exit id
 | .gt l => .goto l
 | .rt => .ret
def CdOk (P : Program) (N : Nat) (ih : Cd) : Prop := ∀ c t h n e t' h' n', ih c t h n = some (e, t', h', n') → ∀ g a w, Ok N g t h n a w → ∀ Q : Exit → Act → World → Prop,
 (∀ g' a' w', To g h.get w g' h'.get w' → Ok N g' t' h' n' a' w' → Q e.to a' w') → c.wp P Q a w
theorem Ok.drew {N : Nat} {g : Gs} {t : Tr CV} {h : Tr CB} {n : Ps} {a : Act} {w : World} (hk : Ok N g t h n a w) : Ok N g t h n a { w with drawn := w.drawn + 1 } := ⟨hk.sl, ⟨hk.hp.dom, hk.hp.obj, hk.hp.inj⟩, hk.bl, hk.sz⟩
theorem To.drew {g g' : Gs} {h h' : Ps → Option CB} {w w' : World} (ht : To g h { w with drawn := w.drawn + 1 } g' h' w') : To g h w g' h' w' :=
 ⟨ht.le, ht.size, ht.env, Nat.le_trans (Nat.le_succ _) ht.drawn, ht.keep, ht.new⟩
theorem exC_succ (N k : Nat) (c : Code) (t : Tr CV) (h : Tr CB) (n : Ps) : exC P cal N (k + 1) c t h n = stp P cal N k (exC P cal N k) c t h n := rfl
theorem exC_ok (hc : CalOk P cal) (hu : CalUp cal) (hm : P.follows .mixedOrders = true) (N : Nat) : ∀ k, CdOk P N (exC P cal N k) := by
 intro k
 induction k using Nat.strongRecOn with
 | _ k ih =>
  intro c t h n e t' h' n' hr g a w hk Q hQ; cases k with
  | zero => cases hr
  | succ k =>
   rw [exC_succ] at hr; have ihk := ih k (Nat.lt_succ_self k); cases c <;> simp only [stp] at hr <;> try (cases hr; done)
   case skip => cases hr; exact wp_skip (hQ g a w .refl hk)
   case label l => cases hr; exact wp_label (hQ g a w .refl hk)
   case exit id => cases hr; exact wp_exit (hQ g a w .refl hk)
   case goto l => cases hr; exact wp_goto (hQ g a w .refl hk)
   case ret => cases hr; exact wp_ret (hQ g a w .refl hk)
   case seq x y =>
    split at hr
    ·rename_i t1 h1 n1 hx; refine wp_seq (ihk x t h n _ t1 h1 n1 hx g a w hk _ fun g1 a1 w1 b1 b2 => ?_); exact ihk y t1 h1 n1 e t' h' n' hr g1 a1 w1 b2 Q fun g2 a2 w2 c1 c2 => hQ g2 a2 w2 (b1.trans c1) c2
    ·rename_i hne; refine wp_seq (ihk x t h n e t' h' n' hr g a w hk _ fun g1 a1 w1 b1 b2 => ?_); have := hQ g1 a1 w1 b1 b2; cases e with
     | nx => exact absurd hr (hne t' h' n')
     | ex id => exact this
     | gt l => exact this
     | rt => exact this
   case cond x y z =>
    split at hr
    ·rename_i hx; exact wp_cond_true (ev_ok hk.sl x _ hx) (ihk y t h n e t' h' n' hr g a w hk Q hQ)
    ·rename_i hx; exact wp_cond_false (ev_ok hk.sl x _ hx) (ihk z t h n e t' h' n' hr g a w hk Q hQ)
    ·cases hr
   case block id x =>
    split at hr
    ·rename_i j t1 h1 n1 hx; split at hr
     ·rename_i hj; cases hr; have := Nat.eq_of_beq_eq_true hj; subst this; exact wp_block (ihk x t h n _ _ _ _ hx g a w hk _ fun g1 a1 w1 b1 b2 => by
       simp only [Ex.to, Exit.inBlock, if_true]; exact hQ g1 a1 w1 b1 b2)
     ·rename_i hj; cases hr; refine wp_block (ihk x t h n _ _ _ _ hx g a w hk _ fun g1 a1 w1 b1 b2 => ?_); have hne : ¬ j = id := fun e => by rw [e, Nat.beq_refl] at hj; cases hj
      simp only [Ex.to, Exit.inBlock, if_neg hne]; exact hQ g1 a1 w1 b1 b2
    ·rename_i hne; refine wp_block (ihk x t h n e t' h' n' hr g a w hk _ fun g1 a1 w1 b1 b2 => ?_); have := hQ g1 a1 w1 b1 b2; cases e with
     | nx => exact this
     | ex j => exact absurd hr (hne j t' h' n')
     | gt l => exact this
     | rt => exact this
   case loop x =>
    refine wp_loop_rel (fun m a' w' => m ≤ k + 1 ∧ ∃ t1 h1 n1 g1, exC P cal N m (.loop x) t1 h1 n1 = some (e, t', h', n') ∧ Ok N g1 t1 h1 n1 a' w' ∧ To g h.get w g1 h1.get w') ?_ (n := k + 1) ⟨Nat.le_refl _, t, h, n, g, hr, hk, .refl⟩; rintro m a1 w1 ⟨hm1, t1, h1, n1, g1, hr1, hk1, ht1⟩; cases m with
    | zero => cases hr1
    | succ m =>
     rw [exC_succ] at hr1; simp only [stp] at hr1; have ihm := ih m (by omega); split at hr1
     ·rename_i t2 h2 n2 hx; exact ihm x t1 h1 n1 _ t2 h2 n2 hx g1 a1 w1 hk1 _ fun g2 a2 w2 b1 b2 => ⟨m, Nat.lt_succ_self m, by omega, t2, h2, n2, g2, hr1, b2, ht1.trans b1⟩
     ·rename_i hne; refine ihm x t1 h1 n1 e t' h' n' hr1 g1 a1 w1 hk1 _ fun g2 a2 w2 b1 b2 => ?_; have := hQ g2 a2 w2 (ht1.trans b1) b2; cases e with
      | nx => exact absurd hr1 (hne t' h' n')
      | ex id => exact this
      | gt l => exact this
      | rt => exact this
   case scope x =>
    refine wp_scope_rel (fun m c a' w' => ∃ t1 h1 n1 g1, scp (exC P cal N k) x m c t1 h1 n1 = some (e, t', h', n') ∧ Ok N g1 t1 h1 n1 a' w' ∧ To g h.get w g1 h1.get w') ?_ (n := k) ⟨t, h, n, g, hr, hk, .refl⟩; rintro m c a1 w1 ⟨t1, h1, n1, g1, hr1, hk1, ht1⟩; cases m with
    | zero => cases hr1
    | succ m =>
     change (match exC P cal N k c t1 h1 n1 with
      | some (.gt l, t, h, n) => match findLabel x l with
       | some c => scp (exC P cal N k) x m c t h n
       | none => some (.gt l, t, h, n)
      | r => r) = _ at hr1
     split at hr1
     ·rename_i l t2 h2 n2 hx; refine ihk c t1 h1 n1 _ t2 h2 n2 hx g1 a1 w1 hk1 _ fun g2 a2 w2 b1 b2 => ?_; simp only [Ex.to]; cases hf : findLabel x l with
      | some r =>
       rw [hf] at hr1; exact ⟨m, Nat.lt_succ_self m, t2, h2, n2, g2, hr1, b2, ht1.trans b1⟩
      | none =>
       rw [hf] at hr1; cases hr1; exact hQ g2 a2 w2 (ht1.trans b1) b2
     ·rename_i hne; refine ihk c t1 h1 n1 e t' h' n' hr1 g1 a1 w1 hk1 _ fun g2 a2 w2 b1 b2 => ?_; have := hQ g2 a2 w2 (ht1.trans b1) b2; cases e with
      | nx => exact this
      | ex id => exact this
      | gt l => exact absurd hr1 (hne l t' h' n')
      | rt => exact this
   case region id ops d =>
    split at hr
    ·rename_i hd; cases d with
     | false =>
      simp only at hr; split at hr
      ·rename_i t1 h1 n1 hs; cases hr; exact wp_region_list (seqR_ok hc ops.toList hs hk hd fun g1 a1 w1 b1 b2 => hQ g1 a1 w1 b1 b2)
      ·cases hr
     | true =>
      simp only at hr; split at hr
      ·rename_i lo l z hp; split at hr
       ·rename_i pd t1 h1 n1 hs; have fin : ∀ {t2 : Tr CV} {h2 : Tr CB} {n2 : Ps}, TlOk P cal ops (t1, h1, n1) (t2, h2, n2) z → some (Ex.nx, t2, h2, n2) = some (e, t', h', n') → (Code.region id ops true).wp P Q a w := fun {t2 h2 n2} hz he => by
         cases he; exact wp_region_any hm (drawnT_ok hc hu hp hs hz hk.drew hd fun g1 a1 w1 b1 b2 => hQ g1 a1 w1 b1.drew b2)
        cases z with
        | none => exact fin rfl hr
        | some z =>
         simp only at hr; split at hr
         ·rename_i t2 h2 n2 hz; exact fin (show opr P cal ops.toList z t1 h1 n1 = _ from hz) hr
         ·cases hr
       ·cases hr
      ·cases hr
    ·cases hr
end Go.EX

namespace Go.EX
open Go.AX
variable {P : Program} {cal : Cal} {g : Gs}
/-! ### Arguments -/
theorem iniP_cons (x : CV) (xs : List CV) (p : Ps) (t : Tr CV) : iniP (x :: xs) p t = iniP xs p.succ (t.set (some x) p) := rfl
theorem iniP_get : ∀ (args : List CV) (k : Nat) (t : Tr CV) (j : Nat) (x : CV), (iniP args (Ps.of k) t).get (Ps.of j) = some x → (t.get (Ps.of j) = some x ∨ (k ≤ j ∧ args[j - k]? = some x))
 | [], _, _, _, _, h => .inl h
 | y :: ys, k, t, j, x, h => by
  rw [iniP_cons] at h; rcases iniP_get ys (k + 1) _ j x h with h1 | ⟨h1, h2⟩
  ·by_cases e : k = j
   ·subst e; rw [Tr.get_set] at h1; exact .inr ⟨Nat.le_refl _, by simpa using h1⟩
   ·rw [Tr.get_ne _ _ fun e' => e (Ps.of_inj e')] at h1; exact .inl h1
  ·refine .inr ⟨by omega, ?_⟩; rw [show j - k = (j - (k + 1)) + 1 by omega]; simpa using h2
theorem ini_ok {args : List CV} {vs : List Value} (h : VL g args vs) (N : Nat) : SR g (ini args) { tmps := vs.toArray ++ Array.replicate (N - vs.toArray.size) undef, defers := [] } := by
 refine ⟨fun k x hx => ?_, rfl⟩; rcases iniP_get args 0 .lf k x hx with h1 | ⟨_, h1⟩
 ·rw [Tr.get_lf] at h1; cases h1
 ·obtain ⟨v, h2, h3⟩ := h.get k x h1; have : (vs.toArray ++ Array.replicate (N - vs.toArray.size) undef).getD k undef = v := by
   rw [Array.getD_eq_getD_getElem?, Array.getElem?_append_left (by
    have := (List.getElem?_eq_some_iff.1 h2).1; simpa using this)]
   simp [h2]
  rw [this]; exact h3
/-! ### Results -/
theorem res1_ok {t : Tr CV} {h : Tr CB} {a : Act} {w : World} {r : ResultVar} {x : CV} (hs : SR g t a) (hh : Sm g h.get w) (hr : res1 P t h r = some x) : ∃ v, (oneRes a.tmps r).run P w = .ok v w ∧ VR g x v := by
 cases r with
 | tmp k => exact ⟨_, rfl, hs.val k x hr⟩
 | cell k T =>
  simp only [res1] at hr; split at hr
  ·rename_i b off ag n h1 h2; split at hr
   ·rename_i c hb; obtain ⟨v, e1, e2⟩ := rdc_ok (P := P) (hh.obj b c hb) hr h2; refine ⟨v, ?_, e1⟩; obtain ⟨_, hp⟩ := hs.val k _ h1; simp only [oneRes, hp, asAddr, Sem.run_bind, Sem.run_pure, Result.andThen_ok]; exact e2
   ·cases hr
  ·cases hr
theorem resL_ok {t : Tr CV} {h : Tr CB} {a : Act} {w : World} (hs : SR g t a) (hh : Sm g h.get w) : ∀ {rs : List ResultVar} {xs : List CV}, resL P t h rs = some xs → ∃ vs, (rs.mapM (oneRes a.tmps)).run P w = .ok vs w ∧ VL g xs vs ∧ vs.length = rs.length
 | [], xs, hr => by cases hr; exact ⟨[], rfl, rfl, rfl⟩
 | r :: rs, xs, hr => by
  simp only [resL] at hr; split at hr
  ·rename_i x hx; split at hr
   ·rename_i ys hy; cases hr; obtain ⟨v, e1, e2⟩ := res1_ok hs hh hx; obtain ⟨vs, e3, e4, e5⟩ := resL_ok hs hh hy; exact ⟨v :: vs, by simp only [List.mapM_cons, Sem.run_bind, e1, Result.andThen_ok, e3, Sem.run_pure], ⟨v, vs, rfl, e2, e4⟩, by simp [e5]⟩
   ·cases hr
  ·cases hr
theorem results_ok {fn : Func} {a : Act} {w : World} {xs : List CV} {vs : List Value} (h : (fn.results.toList.mapM (oneRes a.tmps)).run P w = .ok vs w) (hf : VL g xs vs) : ∃ v, (results fn a.tmps).run P w = .ok v w ∧ VR g (pak xs) v := by
 have hm : results fn a.tmps = (do let vs ← fn.results.mapM (oneRes a.tmps); pure (if h : vs.size = 1 then vs[0] else .tuple vs)) := by
  unfold results; congr 1
 have hlen := hf.length; rw [hm, show fn.results = fn.results.toList.toArray from by simp, List.mapM_toArray]; simp only [Sem.run_bind, Sem.run_map, h, Result.andThen_ok, Sem.run_pure]; by_cases h1 : vs.length = 1
 ·obtain ⟨v, rfl⟩ := List.length_eq_one_iff.1 h1; obtain ⟨x, rfl⟩ : ∃ x, xs = [x] := List.length_eq_one_iff.1 (by rw [← hlen]; rfl); refine ⟨v, by simp, ?_⟩; obtain ⟨v', r, e1, f, _⟩ := hf; cases e1; exact f
 ·refine ⟨.tuple vs.toArray, by rw [dif_neg (by simpa using h1)], ?_⟩; have : pak xs = .t xs := by
   match xs, hlen with
   | [], _ => rfl
   | [x], hl => exact absurd hl h1
   | x :: y :: r, _ => rfl
  rw [this]; exact ⟨vs.toArray, rfl, by simpa using hf⟩
/-! ### Numbers go up -/
theorem opr_up (hu : CalUp cal) {ops : List Oper} {o : Oper} {t t' : Tr CV} {h h' : Tr CB} {n n' : Ps} (hr : opr P cal ops o t h n = some (t', h', n')) : n.val ≤ n'.val := by
 unfold opr at hr; split at hr
 ·split at hr
  ·rename_i pr hp; split at hr
   ·rename_i x h1 n1 hq; rw [frc_eq] at hr; cases hr; exact run_up hu hp hq
   ·cases hr
  ·cases hr
 ·cases hr; exact Nat.le_refl _
 ·cases hr
theorem seqR_up (hu : CalUp cal) {ops : List Oper} : ∀ {l : List Oper} {t t' : Tr CV} {h h' : Tr CB} {n n' : Ps}, seqR P cal ops l t h n = some (t', h', n') → n.val ≤ n'.val
 | [], _, _, _, _, _, _, hr => by cases hr; exact Nat.le_refl _
 | o :: l, t, t', h, h', n, n', hr => by
  change (match opr P cal ops o t h n with
   | some (t, h, n) => seqR P cal ops l t h n
   | none => none) = _ at hr
  split at hr
  ·rename_i t1 h1 n1 hr1; exact Nat.le_trans (opr_up hu hr1) (seqR_up hu hr)
  ·cases hr
def CdUp (ih : Cd) : Prop := ∀ c t h n e t' h' n', ih c t h n = some (e, t', h', n') → n.val ≤ n'.val
theorem scp_up {ih : Cd} (hi : CdUp ih) (body : Code) : ∀ k, CdUp (scp ih body k)
 | 0 => fun _ _ _ _ _ _ _ _ hr => by cases hr
 | k + 1 => fun c t h n e t' h' n' hr => by
  change (match ih c t h n with
   | some (.gt l, t, h, n) => match findLabel body l with
    | some c => scp ih body k c t h n
    | none => some (.gt l, t, h, n)
   | r => r) = _ at hr
  split at hr
  ·rename_i l t2 h2 n2 hx; have h1 := hi _ _ _ _ _ _ _ _ hx; split at hr
   ·exact Nat.le_trans h1 (scp_up hi body k _ _ _ _ _ _ _ _ hr)
   ·cases hr; exact h1
  ·exact hi _ _ _ _ _ _ _ _ hr
theorem exC_up (hu : CalUp cal) (N : Nat) : ∀ k, CdUp (exC P cal N k)
 | 0 => fun _ _ _ _ _ _ _ _ hr => by cases hr
 | k + 1 => fun c t h n e t' h' n' hr => by
  have ih := exC_up hu N k; rw [exC_succ] at hr; cases c <;> simp only [stp] at hr <;> try (cases hr; done)
  case skip => cases hr; exact Nat.le_refl _
  case label l => cases hr; exact Nat.le_refl _
  case exit l => cases hr; exact Nat.le_refl _
  case goto l => cases hr; exact Nat.le_refl _
  case ret => cases hr; exact Nat.le_refl _
  case seq x y =>
   split at hr
   ·rename_i hx; exact Nat.le_trans (ih _ _ _ _ _ _ _ _ hx) (ih _ _ _ _ _ _ _ _ hr)
   ·exact ih _ _ _ _ _ _ _ _ hr
  case cond x y z =>
   split at hr
   ·exact ih _ _ _ _ _ _ _ _ hr
   ·exact ih _ _ _ _ _ _ _ _ hr
   ·cases hr
  case block id x =>
   split at hr
   ·rename_i hx; split at hr <;> (cases hr; exact ih _ _ _ _ _ _ _ _ hx)
   ·exact ih _ _ _ _ _ _ _ _ hr
  case loop x =>
   split at hr
   ·rename_i hx; exact Nat.le_trans (ih _ _ _ _ _ _ _ _ hx) (ih _ _ _ _ _ _ _ _ hr)
   ·exact ih _ _ _ _ _ _ _ _ hr
  case scope x => exact scp_up ih x k _ _ _ _ _ _ _ _ hr
  case region id ops d =>
   split at hr
   ·split at hr
    ·split at hr
     ·rename_i hs; cases hr; exact seqR_up hu hs
     ·cases hr
    ·split at hr
     ·split at hr
      ·rename_i hs; split at hr
       ·cases hr; exact runD_up hu hs
       ·split at hr
        ·rename_i hz; cases hr; exact Nat.le_trans (runD_up hu hs) (opr_up hu hz)
        ·cases hr
      ·cases hr
     ·cases hr
   ·cases hr
/-! ### Calls -/
theorem bdy_up (hu : CalUp cal) (k : Nat) : CalUp (bdy P k cal) := fun f args h n x h' n' hr => by
 unfold bdy at hr; split at hr
 ·split at hr
  ·split at hr
   ·split at hr
    ·rename_i hx; split at hr
     ·cases hr; exact exC_up hu _ k _ _ _ _ _ _ _ _ hx
     ·cases hr
    ·rename_i hx; split at hr
     ·cases hr; exact exC_up hu _ k _ _ _ _ _ _ _ _ hx
     ·cases hr
    ·cases hr
   ·cases hr
  ·cases hr
 ·cases hr
theorem bdy_ok (hc : CalOk P cal) (hu : CalUp cal) (hm : P.follows .mixedOrders = true) (k : Nat) : CalOk P (bdy P k cal) := fun f args h n x h' n' hr g w vs hl hs hv => by
  unfold bdy at hr
  split at hr
  · rename_i fn hf
    split at hr
    · rename_i c hb
      split at hr
      · rename_i hn
        have hn := Nat.le_of_ble_eq_true hn
        have hlen := hv.length
        refine calls_of_wp hf hb ?_
        have hk : Ok fn.ntmps g (ini args) h n { tmps := vs.toArray ++ Array.replicate (fn.ntmps - vs.toArray.size) undef, defers := [] } w := ⟨ini_ok hv _, hs, hl, by simp; omega⟩
        have fin : ∀ {t' : Tr CV} {g' : Gs} {a' : Act} {w' : World} {h2 : Tr CB} {n2 : Ps}, (match resL P t' h2 fn.results.toList with
              | some xs => some (pak xs, h2, n2)
              | none => none) = some (x, h', n') → To g h.get w g' h2.get w' → Ok fn.ntmps g' t' h2 n2 a' w' →
            a'.defers = [] ∧ ∃ v, (results fn a'.tmps).run P w' = .ok v w' ∧ ∃ v' g', Ending.returned v = .returned v' ∧ To g h.get w g' h'.get w' ∧ Sm g' h'.get w' ∧ Bl n' g' ∧ VR g' x v' := fun {t' g' a' w' h2 n2} hq ht ho => by
          split at hq
          · rename_i xs hx
            cases hq
            obtain ⟨us, e1, e2, _⟩ := resL_ok ho.sl ho.hp hx
            obtain ⟨v, e3, e4⟩ := results_ok e1 e2
            exact ⟨ho.sl.defs, v, e3, v, g', rfl, ht, ho.hp, ho.bl, e4⟩
          · cases hq
        split at hr
        · rename_i t' h2 n2 hx
          exact exC_ok hc hu hm _ k c _ _ _ _ _ _ _ hx g _ w hk _ fun g' a' w' b1 b2 => fin hr b1 b2
        · rename_i t' h2 n2 hx
          exact exC_ok hc hu hm _ k c _ _ _ _ _ _ _ hx g _ w hk _ fun g' a' w' b1 b2 => fin hr b1 b2
        · cases hr
      · cases hr
    · cases hr
  · cases hr
structure KnOk (P : Program) (kn : Kn) : Prop where
  ok : ∀ f args r h n x h' n', kn f args = some r → r h n = some (x, h', n') → ∀ g w (vs : List Value), Bl n g → Sm g h.get w → VL g args vs →
    Calls P f vs.toArray w fun e w' => ∃ v g', e = .returned v ∧ To g h.get w g' h'.get w' ∧ Sm g' h'.get w' ∧ Bl n' g' ∧ VR g' x v
  up : ∀ f args r h n x h' n', kn f args = some r → r h n = some (x, h', n') → n.val ≤ n'.val
theorem exF_ok {kn : Kn} (hk : KnOk P kn) (hm : P.follows .mixedOrders = true) (k : Nat) : ∀ d, CalOk P (exF P kn k d) ∧ CalUp (exF P kn k d)
 | 0 => ⟨fun _ _ _ _ _ _ _ hr => (by cases hr), fun _ _ _ _ _ _ _ hr => (by cases hr)⟩
 | d + 1 => by
  obtain ⟨h1, h2⟩ := exF_ok hk hm k d; refine ⟨fun f args h n x h' n' hr => ?_, fun f args h n x h' n' hr => ?_⟩
  all_goals
   change (match kn f args with
    | some r => r h n
    | none => bdy P k (exF P kn k d) f args h n) = _ at hr
   split at hr
  ·rename_i r hq; exact hk.ok f args r h n x h' n' hq hr
  ·exact bdy_ok h1 h2 hm k f args h n x h' n' hr
  ·rename_i r hq; exact hk.up f args r h n x h' n' hq hr
  ·exact bdy_up h2 k f args h n x h' n' hr
/-! ### What a call says that came to a plain end -/
def g0 : Gs := ⟨fun _ => 0, fun _ => 0, fun _ => False⟩
theorem sm0 (w : World) : Sm g0 (Tr.get .lf) w := ⟨fun b c h => (by rw [Tr.get_lf] at h; cases h), fun b c h => (by rw [Tr.get_lf] at h; cases h), fun b b' h => (by rw [Tr.get_lf] at h; exact absurd rfl h)⟩
theorem bl0 : Bl .e g0 := fun b => ⟨fun h => h.elim, fun h => by have := Ps.pos b; have h' : b.val < 1 := h; omega⟩
theorem calls_of_exF {kn : Kn} (hk : KnOk P kn) (hm : P.follows .mixedOrders = true) {k d : Nat} {f : FuncId} {x : CV} (hr : (match exF P kn k d f [] .lf .e with
 | some (x, _, _) => some x
 | none => none) = some x) (w : World) : Calls P f #[] w fun e w' => ∃ v g', e = .returned v ∧ envOf w' = envOf w ∧ w.heap.size ≤ w'.heap.size ∧ (∀ c, c < w.heap.size → w'.heap[c]? = w.heap[c]?) ∧ VR g' x v := by
 split at hr
 ·rename_i y h' n' hq; cases hr; refine ((exF_ok hk hm k d).1 f [] .lf .e x h' n' hq g0 w [] bl0 (sm0 w) rfl).mono fun e w' ⟨v, g', e1, e2, e3, e4, e5⟩ => ?_; exact ⟨v, g', e1, e2.env, e2.size, fun c hc => e2.keep c hc fun b hb => absurd (Tr.get_lf b) hb, e5⟩
 ·cases hr
theorem apure_bool {kn : Kn} (hk : KnOk P kn) (hm : P.follows .mixedOrders = true) {k d : Nat} {f : FuncId} {b : Bool} (hcall : callable P f = true) (hr : (match exF P kn k d f [] .lf .e with
 | some (.b y, _, _) => y == b
 | _ => false) = true) : APure P f [] (fun r => r = .pv (.lit (.bool b))) := by
 refine ⟨hcall, fun w vs hv => ?_⟩; have hv0 : vs = [] := hv; subst hv0; have hr' : (match exF P kn k d f [] .lf .e with
  | some (x, _, _) => some x
  | none => none) = some (.b b) := by
  split at hr
  ·rename_i y h n hq; rw [hq]; simp only [beq_iff_eq] at hr; rw [hr]
  ·cases hr
 refine (calls_of_exF hk hm hr' w).mono fun e w' ⟨v, g', e1, e2, e3, e4, e5⟩ => ?_; exact ⟨v, _, { snap w with I := fun c => w'.heap[c]? }, none, e1, rfl, ⟨rfl, e2, e4, e3, fun c o hc => hc⟩, ⟨rfl, e5⟩, rfl, fun c hc => by cases hc⟩
end Go.EX
