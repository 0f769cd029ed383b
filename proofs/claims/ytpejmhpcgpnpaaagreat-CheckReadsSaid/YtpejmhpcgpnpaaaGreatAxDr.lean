/-
  AX, part Dr: whatever runs, the count of draws never goes back.
-/
import Derived.WalkKit
namespace Go.AX
def rw {α : Type} : Result α → World
 | .ok _ w => w
 | .halt _ w => w
theorem ask_drawn {α : Type} : ∀ (x : Ask α) (w : World), w.drawn ≤ (w.ask x).2.drawn
 | .done a, w => Nat.le_refl _
 | .ask what range k, w => by
  simp only [World.ask]; split
  ·exact ask_drawn (k 0) w
  ·exact Nat.le_trans (Nat.le_succ _) (ask_drawn _ { w with drawn := w.drawn + 1 })
theorem sys_drawn (w : World) (c : Sys) : w.drawn ≤ (w.sys c).2.drawn := by
 unfold World.sys; have h := ask_drawn (Kernel.perform c w.os) w; split
 ·exact Nat.le_refl _
 ·rename_i r os w1 heq; rw [heq] at h; exact h
theorem viewStore_drawn {p : Program} {w w' : World} {at_ : Addr} {u : TypeId} {k : Addr} {v : Value} {b : Bool} {l : List Addr} (h : w.viewStore p at_ u k v b = .ok (w', l)) : w'.drawn = w.drawn := by
 unfold World.viewStore at h; simp only [bind, Except.bind, pure, Except.pure] at h
 repeat' split at h
 all_goals first
  | (cases h; rfl)
  | (cases h)
  | skip
theorem farStore_drawn {p : Program} {w w' : World} {a : Addr} {v : Value} {b : Bool} {l : List Addr} (h : w.farStore p a v b = .ok (w', l)) : w'.drawn = w.drawn := by
 unfold World.farStore at h; split at h
 ·split at h
  ·rename_i r hr; cases h; exact viewStore_drawn hr
  ·cases h
 ·cases h
theorem freeze_drawn (w : World) (a : Addr) (n : Nat) : (w.freeze a n).drawn = w.drawn := by
 unfold World.freeze; split <;> rfl
theorem run_drawn {α : Type} (p : Program) (s : Sem α) : ∀ (w : World), w.drawn ≤ (rw (s.run p w)).drawn := by
 induction s with
 | pure a => intro w; exact Nat.le_refl _
 | load m a k ih =>
  intro w; simp only [Sem.run]; split
  ·exact ih _ w
  ·split
   ·exact ih _ w
   ·exact Nat.le_refl _
 | store m a v k ih =>
  intro w; have key : w.drawn ≤ (rw (match w.cell? a with
   | some _ => if w.frozen? a then .halt (.unsupported (.unsafePointer "a write to bytes that a string shares")) w else k.run p (w.setCell a v)
   | none => match w.farStore p a v (m == .atomic) with
    | .ok (w, _) => k.run p w
    | .error h => .halt h w)).drawn := by
   split
   ·split
    ·exact Nat.le_refl _
    ·exact ih (w.setCell a v)
   ·split
    ·rename_i w1 l hf; have := ih w1; rw [farStore_drawn hf] at this; exact this
    ·exact Nat.le_refl _
  cases v <;> first | exact key | exact Nat.le_refl _
 | new o k ih => intro w; exact ih _ { w with heap := w.heap.push o }
 | shape r k ih => intro w; exact ih _ w
 | freeze a n k ih =>
  intro w; have := ih (w.freeze a n); rw [freeze_drawn] at this; exact this
 | frozen a k ih => intro w; exact ih _ w
 | getObj r k ih =>
  intro w; simp only [Sem.run]; split
  ·exact Nat.le_refl _
  ·exact ih _ w
  ·exact Nat.le_refl _
 | setObj r o k ih =>
  intro w; simp only [Sem.run]; split
  ·exact Nat.le_refl _
  ·exact ih { w with heap := w.heap.setIfInBounds r o }
  ·exact Nat.le_refl _
 | choose q k ih =>
  intro w; simp only [Sem.run]; split
  ·exact ih _ w
  ·exact Nat.le_trans (Nat.le_succ _) (ih _ { w with drawn := w.drawn + 1 })
 | sys c k ih => intro w; exact Nat.le_trans (sys_drawn w c) (ih _ _)
 | program k ih => intro w; exact ih _ w
 | mark _ k ih => intro w; exact ih w
 | halt h => intro w; exact Nat.le_refl _
theorem run_ok {α : Type} {p : Program} {s : Sem α} {w w' : World} {x : α} (h : s.run p w = .ok x w') : w.drawn ≤ w'.drawn := by
 have := run_drawn p s w; rw [h] at this; exact this
theorem run_halt {α : Type} {p : Program} {s : Sem α} {w w' : World} {x : Halt} (h : s.run p w = .halt x w') : w.drawn ≤ w'.drawn := by
 have := run_drawn p s w; rw [h] at this; exact this
theorem runT_drawn {α : Type} (p : Program) (s : Sem α) (w : World) (es : Array Event) : w.drawn ≤ (rw (s.runT p w es).1).drawn := by
 rw [Sem.runT_fst]; exact run_drawn p s w
theorem runT_ok {α : Type} {p : Program} {s : Sem α} {w w' : World} {x : α} {es es' : Array Event} (h : s.runT p w es = (.ok x w', es')) : w.drawn ≤ w'.drawn := by
 have := runT_drawn p s w es; rw [h] at this; exact this
theorem runT_halt {α : Type} {p : Program} {s : Sem α} {w w' : World} {x : Halt} {es es' : Array Event} (h : s.runT p w es = (.halt x w', es')) : w.drawn ≤ w'.drawn := by
 have := runT_drawn p s w es; rw [h] at this; exact this
theorem runT1_ok {α : Type} {p : Program} {s : Sem α} {w w' : World} {x : α} {es : Array Event} (h : (s.runT p w es).1 = .ok x w') : w.drawn ≤ w'.drawn := by
 have := runT_drawn p s w es; rw [h] at this; exact this
theorem runT1_halt {α : Type} {p : Program} {s : Sem α} {w w' : World} {x : Halt} {es : Array Event} (h : (s.runT p w es).1 = .halt x w') : w.drawn ≤ w'.drawn := by
 have := runT_drawn p s w es; rw [h] at this; exact this
def gw : GStep → World
 | .go _ w _ => w
 | .comm _ _ _ _ w _ => w
 | .spawn _ _ w _ => w
 | .count _ w _ => w
 | .timer _ _ w _ => w
 | .alone _ _ w _ => w
 | .newcoro _ _ _ w _ => w
 | .coroswitch _ _ _ w _ => w
 | .collect _ w _ => w
 | .watch _ w _ => w
 | .ended _ w _ => w
theorem gw_after (es : Array Event) (s : GStep) : gw (s.after es) = gw s := by cases s <;> rfl
theorem endWith_drawn (w : World) (fd : Nat) (text : ByteArray) (o : Outcome) : w.drawn ≤ (gw (endWith w fd text o)).drawn := by
 unfold endWith; have h := sys_drawn w (.write fd text); generalize hs : w.sys (.write fd text) = r at h; obtain ⟨r, w1⟩ := r; cases r <;> first | exact h | (simp only []; split <;> exact h)
theorem endPrinting_gw (p : Program) (fr : Frame) (v : Value) (w : World) : gw (endPrinting p fr v w) = w := by
 unfold endPrinting; simp only; split <;> rfl
theorem endFatal_drawn (p : Program) (fr : Frame) (callers : List Frame) (dying : Option Dying) (m : String) (w : World) : w.drawn ≤ (gw (endFatal p fr callers dying m w)).drawn := by
 unfold endFatal; simp only; split
 ·rename_i h; exact run_ok h
 ·rename_i h; exact run_halt h
 ·rename_i h; exact run_halt h
theorem writeOn_drawn (p : Program) (fr : Frame) (d : Dying) (f : Fatal) (w : World) : w.drawn ≤ (gw (writeOn p fr d f w)).drawn := by
 unfold writeOn; simp only; split
 ·exact Nat.le_refl _
 ·split <;> rename_i heq <;> first | exact runT_ok heq | exact runT_halt heq
theorem die_drawn (p : Program) (fr : Frame) (d : Dying) (w : World) : w.drawn ≤ (gw (die p fr d w)).drawn := by
 unfold die; split
 ·exact writeOn_drawn ..
 ·split
  ·split
   ·exact Nat.le_refl _
   ·exact endWith_drawn ..
  ·simp only; split
   ·exact Nat.le_refl _
   ·split
    ·rename_i h; exact run_ok h
    ·rename_i h; exact run_halt h
   ·rw [gw_after]; split <;> first
     | exact Nat.le_refl _
     | (rename_i heq; first | exact runT1_ok heq | exact runT1_halt heq | (rw [endPrinting_gw]; exact runT1_halt heq))
   ·exact Nat.le_refl _
theorem doReturn_gw (p : Program) (main : Bool) (fr : Frame) (callers : List Frame) (dying : Option Dying) (v : Value) (w : World) : gw (doReturn p main fr callers dying v w) = w := by
 unfold doReturn
 repeat' split
 all_goals rfl
theorem gw_ite {n : Nat} {c : Prop} [Decidable c] {a b : GStep} (ha : n ≤ (gw a).drawn) (hb : n ≤ (gw b).drawn) : n ≤ (gw (if c then a else b)).drawn := by
 split
 ·exact ha
 ·exact hb
theorem callDeferred_drawn (p : Program) (fr : Frame) (callers : List Frame) (dying : Option Dying) (d : Deferred) (w : World) : w.drawn ≤ (gw (callDeferred p fr callers dying d w)).drawn := by
 unfold callDeferred; refine gw_ite (Nat.le_refl _) ?_; simp only; rw [gw_after]; have h := runT_drawn p (invoke d.target d.args) w #[]; generalize ((invoke d.target d.args).runT p w #[]).1 = r at h ⊢; cases r with
 | ok v w1 =>
  change w.drawn ≤ w1.drawn at h
  cases v <;> first | exact h | (rename_i a b; first | (cases a <;> exact h) | (cases b <;> exact h)) | (dsimp only; split <;> exact h)
 | halt hh w1 =>
  change w.drawn ≤ w1.drawn at h
  cases hh <;> first | exact h | exact Nat.le_trans h (endFatal_drawn ..)
theorem unwind_drawn (p : Program) (main : Bool) (fr : Frame) (callers : List Frame) (dying : Option Dying) (w : World) : w.drawn ≤ (gw (unwind p main fr callers dying w)).drawn := by
 unfold unwind; split
 ·simp only; rw [gw_after]; split <;> rename_i heq <;> first | exact runT1_ok heq | exact runT1_halt heq
 ·exact callDeferred_drawn ..
 ·split
  ·exact Nat.le_refl _
  ·split
   ·exact Nat.le_refl _
   ·split
    ·exact Nat.le_refl _
    ·split
     ·split
      ·exact Nat.le_refl _
      ·split <;> rename_i heq <;> first | exact run_ok heq | exact run_halt heq
     ·split
      ·rw [endPrinting_gw]; exact Nat.le_refl _
      ·exact Nat.le_refl _
  ·split
   ·rw [doReturn_gw]; exact Nat.le_refl _
   ·simp only; rw [gw_after]; split <;> rename_i heq <;> first | (rw [doReturn_gw]; exact runT1_ok heq) | exact runT1_halt heq
theorem early_drawn (p : Program) (fr : Frame) (callers : List Frame) (dying : Option Dying) (g : Nat) (w : World) : w.drawn ≤ (gw (early p fr callers dying g w)).drawn := by
 unfold early; simp only
 repeat' split
 all_goals simp only [gw]
 all_goals first
  | exact Nat.le_refl _
  | exact run_ok (by assumption)
  | exact run_halt (by assumption)
theorem apply_drawn (p : Program) (listen : Bool) (fr : Frame) (callers : List Frame) (dying : Option Dying) (s : Sem Next) (w : World) : w.drawn ≤ (gw (stepG.apply p listen fr callers dying s w)).drawn := by
 unfold stepG.apply; simp only; rw [gw_after]; have h : w.drawn ≤ (rw (if listen = true then s.runT p w #[] else (s.run p w, #[])).1).drawn := by
  split
  ·exact runT_drawn p s w #[]
  ·exact run_drawn p s w
 generalize (if listen = true then s.runT p w #[] else (s.run p w, #[])) = r at h ⊢; obtain ⟨r, es⟩ := r; cases r with
 | ok v w1 =>
  change w.drawn ≤ w1.drawn at h
  cases v <;> first | exact h | (dsimp only; (repeat' split) <;> exact h)
 | halt hh w1 =>
  change w.drawn ≤ w1.drawn at h
  cases hh <;> first | exact h | exact Nat.le_trans h (endFatal_drawn ..) | (rename_i u; cases u <;> first | exact h | exact Nat.le_trans h (early_drawn ..))
theorem gw_elim {α : Type} {n : Nat} {x : Option α} {a : GStep} {f : α → GStep} (ha : n ≤ (gw a).drawn) (hf : ∀ y, n ≤ (gw (f y)).drawn) : n ≤ (gw (x.elim a f)).drawn := by
 cases x with
 | none => exact ha
 | some y => exact hf y
theorem oper_drawn (p : Program) (listen : Bool) (fr : Frame) (callers : List Frame) (dying : Option Dying) (w : World) : w.drawn ≤ (gw (stepG.oper p listen fr callers dying w)).drawn := by
 unfold stepG.oper; split
 ·exact Nat.le_refl _
 ·split <;> exact apply_drawn ..
theorem exec_drawn (p : Program) (main listen : Bool) (fr : Frame) (callers : List Frame) (dying : Option Dying) (w : World) : w.drawn ≤ (gw (stepG.exec p main listen fr callers dying w)).drawn := by
 unfold stepG.exec; simp only; split
 all_goals try (first | exact Nat.le_refl _ | exact apply_drawn ..)
 all_goals try (split <;> first | exact Nat.le_refl _ | exact apply_drawn .. | (rw [gw_after]; split <;> first | (rw [doReturn_gw]; exact runT1_ok (by assumption)) | exact runT1_ok (by assumption) | exact runT1_halt (by assumption)))
 all_goals try (refine gw_elim ?_ ?_)
 all_goals try (intro y; first | exact Nat.le_refl _ | exact apply_drawn ..)
 all_goals try (split <;> first | exact Nat.le_refl _ | exact apply_drawn .. | (rw [gw_after]; split <;> first | (rw [doReturn_gw]; exact runT1_ok (by assumption)) | exact runT1_ok (by assumption) | exact runT1_halt (by assumption)))
 all_goals try (rw [gw_after]; split <;> first | exact runT1_ok (by assumption) | exact Nat.le_trans (runT1_ok (by assumption)) (apply_drawn ..) | exact runT1_halt (by assumption))
 all_goals try (refine gw_ite (Nat.le_refl _) ?_; split <;> first | exact run_ok (by assumption) | exact run_halt (by assumption))
 all_goals try (refine gw_ite ?_ ?_ <;> first | exact Nat.le_refl _ | exact oper_drawn ..)
 all_goals exact Nat.le_refl _
theorem stepG_drawn (p : Program) (main : Bool) (g : Goroutine) (w : World) (listen : Bool) : w.drawn ≤ (gw (stepG p main g w listen)).drawn := by
 unfold stepG; simp only; split
 ·exact die_drawn ..
 ·exact exec_drawn ..
 ·exact unwind_drawn ..
def sw : Stepped → Nat → Prop
 | .next m, n => n ≤ m.world.drawn
 | _, _ => True
theorem communicate_drawn (p : Program) (rest : Rest) (gs : Array Goroutine) (i : Nat) (g : Goroutine) (cases : Array CommCase) (blocking : Bool) (shape : CommShape) (w : World) : sw (communicate p rest gs i g cases blocking shape w).1 w.drawn := by
 unfold communicate; simp only; split
 ·trivial
 split
 ·split
  ·split
   ·rename_i h; unfold waitingAt at h; split at h
    ·split at h
     ·cases h; exact Nat.le_refl _
     ·cases h
    ·cases h; exact Nat.le_refl _
   ·trivial
  ·exact Nat.le_refl _
 ·split
  ·trivial
  ·rename_i h; have h1 := run_ok h
   repeat' split
   all_goals first
    | trivial
    | exact h1
    | (simp only [sw]; exact Nat.le_trans h1 (run_halt (by assumption)))
    | (simp only [sw]; exact Nat.le_trans h1 (run_ok (by assumption)))
theorem look_drawn (p : Program) (gs : Array Goroutine) (rest : Rest) (w : World) : sw (look p gs rest w) w.drawn := by
 unfold look; split
 ·simp only; split
  ·trivial
  ·split
   ·trivial
   ·split
    ·rename_i h; have h1 := run_ok h; exact h1
    ·trivial
    ·trivial
 ·trivial
theorem drain_drawn (w : World) (c : Nat) : (drain w c).2.drawn = w.drawn := by
 unfold drain; split <;> rfl
theorem retime_drawn (m : Machine) (k : Nat) (t : Timer) (when period : Nat) : (retime m k t when period).2.world.drawn = m.world.drawn := by
 unfold retime; simp only; split
 ·exact drain_drawn ..
 ·rfl
theorem timerOp_drawn {m m' : Machine} {op : TimerOp} {v : Value} (h : timerOp m op = .ok (v, m')) : m'.world.drawn = m.world.drawn := by
 have named : ∀ (m0 : Machine) (var : Addr) (wh pe : Timer → Nat), m0.world.drawn = m.world.drawn → timerOp.named m var (fun k t => retime m0 k t (wh t) (pe t)) = .ok (v, m') → m'.world.drawn = m.world.drawn := by
  intro m0 var wh pe h0 h1; unfold timerOp.named at h1; split at h1
  ·cases h1; exact (retime_drawn ..).trans h0
  ·cases h1
 unfold timerOp at h; split at h
 ·split at h
  ·cases h; rfl
  ·split at h
   ·split at h
    ·cases h
    ·cases h; rfl
   ·cases h
 ·exact named m _ (fun _ => 0) (fun t => t.period) rfl h
 ·split at h
  ·rename_i m0 hm; refine named m0 _ (fun _ => _) (fun _ => _) ?_ h; unfold timerOp.opened at hm; split at hm
   ·split at hm
    ·cases hm; rfl
    ·cases hm
   ·cases hm; rfl
  ·cases h
 ·cases h; rfl
theorem sw_le {r : Stepped} {n k : Nat} (hr : sw r n) (h : k ≤ n) : sw r k := by
 cases r with
 | next m1 => exact Nat.le_trans h hr
 | _ => trivial
theorem runT_step_drawn (p : Program) (m : Machine) (i : Nat) (listen : Bool) : sw (runT p m i listen).1 m.world.drawn := by
 unfold runT; simp only; have h := stepG_drawn p (i == 0) (m.gs.swapAt! i { (default : Goroutine) with status := .finished }).1 m.world listen; generalize stepG p (i == 0) (m.gs.swapAt! i { (default : Goroutine) with status := .finished }).1 m.world listen = s at h ⊢; cases s with
 | ended o w es => trivial
 | comm g cases blocking shape w es =>
  exact sw_le (communicate_drawn ..) h
 | go g w es => exact h
 | spawn g child w es => exact h
 | count g w es =>
  dsimp only; split
  ·trivial
  ·exact h
 | alone g on w es => exact h
 | collect g w es =>
  exact sw_le (look_drawn ..) h
 | watch g w es => exact h
 | newcoro g c d w es => exact h
 | coroswitch g c exit w es =>
  dsimp only; split
  ·exact h
  ·exact h
  ·trivial
 | timer g op w es =>
  dsimp only; split
  ·rename_i v m1 ht; show m.world.drawn ≤ m1.world.drawn; rw [timerOp_drawn ht]; exact h
  ·exact h
  ·trivial
  ·trivial
def mvw : Move → Nat → Prop
 | .goroutine m _, n => n ≤ m.world.drawn
 | .machine s _, n => sw s n
theorem serve_drawn (p : Program) (m : Machine) (k : Nat) : sw (serve p m k) m.world.drawn := by
 unfold serve; split
 ·trivial
 ·exact Nat.le_refl _
 ·dsimp only; split
  ·trivial
  ·exact Nat.le_refl _
theorem mvw_le {r : Move} {n k : Nat} (hr : mvw r n) (h : k ≤ n) : mvw r k := by
 cases r with
 | goroutine m1 i => exact Nat.le_trans h hr
 | machine s ops => exact sw_le hr h
theorem askOn_drawn (p : Program) (m : Machine) : mvw (askOn p m) m.world.drawn := by
 unfold askOn; simp only; split
 ·trivial
 ·rename_i k world hk; have h1 := run_ok hk; split
  ·exact sw_le (serve_drawn p _ _) h1
  ·split
   ·split
    ·exact h1
    ·split
     ·exact h1
     ·split <;> trivial
   ·split
    ·split
     ·trivial
     ·rename_i h2; have h2 := run_ok h2; split
      ·exact Nat.le_trans h1 h2
      ·split
       ·trivial
       ·rename_i h3; exact Nat.le_trans (Nat.le_trans h1 h2) (run_ok h3)
    ·split
     ·trivial
     ·rename_i h4; have h4 := run_ok h4; split
      ·trivial
      ·rename_i h2; have h2 := run_ok h2; split
       ·exact Nat.le_trans (Nat.le_trans h1 h4) h2
       ·split
        ·trivial
        ·rename_i h3; exact Nat.le_trans (Nat.le_trans (Nat.le_trans h1 h4) h2) (run_ok h3)
     ·rename_i h4; have h4 := run_ok h4; exact Nat.le_trans h1 h4
     ·rename_i h4; have h4 := run_ok h4; split
      ·trivial
      ·rename_i h2; have h2 := run_ok h2; split
       ·exact Nat.le_trans (Nat.le_trans h1 h4) h2
       ·split
        ·trivial
        ·rename_i h3; exact Nat.le_trans (Nat.le_trans (Nat.le_trans h1 h4) h2) (run_ok h3)
theorem ask_step_drawn (p : Program) (m : Machine) : mvw (ask p m) m.world.drawn := by
 unfold ask; split
 ·split
  ·trivial
  ·rename_i world h; have h1 := run_ok h; have h2 := look_drawn p m.gs m.rest world; split
   ·rename_i hl; rw [hl] at h2; exact mvw_le (askOn_drawn p _) (Nat.le_trans h1 h2)
   ·exact sw_le h2 h1
  ·rename_i h; exact mvw_le (askOn_drawn p _) (run_ok h)
 ·exact askOn_drawn p m
theorem move_drawn (p : Program) (m : Machine) : mvw (move p m) m.world.drawn := by
 unfold move; split
 ·split
  ·exact Nat.le_refl _
  ·trivial
 ·split
  ·split
   ·exact Nat.le_refl _
   ·exact ask_step_drawn p _
  ·exact ask_step_drawn p _
theorem step_drawn {p : Program} {m m' : Machine} (h : step p m = .next m') : m.world.drawn ≤ m'.world.drawn := by
 have h1 := move_drawn p m; have h2 : sw (step p m) m.world.drawn := by
  unfold step stepT; generalize move p m = r at h1 ⊢; cases r with
  | goroutine m1 i => exact sw_le (runT_step_drawn ..) h1
  | machine s ops => exact h1
 rw [h] at h2; exact h2
theorem runN_drawn {p : Program} : ∀ (n : Nat) (m m' : Machine), runN p n m = .next m' → m.world.drawn ≤ m'.world.drawn
 | 0, m, m', h => by cases h; exact Nat.le_refl _
 | n + 1, m, m', h => by
  simp only [runN] at h; split at h
  ·rename_i m1 h1; exact Nat.le_trans (step_drawn h1) (runN_drawn n _ _ h)
  ·rename_i hne; exact absurd h (hne _)
theorem steps_drawn {p : Program} {m m' : Machine} (h : Steps p m m') : m.world.drawn ≤ m'.world.drawn := by
 obtain ⟨n, h⟩ := h; exact runN_drawn n _ _ h
theorem calls_drawn {P : Program} {f : FuncId} {args : Array Value} {w : World} {R : Ending → World → Prop} (h : Calls P f args w R) (hr : ∀ e w', R e w' → ∃ v, e = .returned v) : Calls P f args w (fun e w' => R e w' ∧ w.drawn ≤ w'.drawn) := by
 intro cs; obtain ⟨e, w', fr, h1, h2, h3, h4⟩ := h cs; obtain ⟨v, rfl⟩ := hr e w' h1; exact ⟨_, w', fr, ⟨h1, steps_drawn h2⟩, h2, h3, h4⟩
end Go.AX
