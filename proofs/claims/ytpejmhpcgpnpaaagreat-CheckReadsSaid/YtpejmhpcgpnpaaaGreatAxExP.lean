/-
  EX, part O: a map's keys, sorted, as the library tells them.
  EX, part P: what a call gave once, it gives again.
-/
import Derived.Test.YtpejmhpcgpnpaaaGreatAxExN
import Derived.Test.YtpejmhpcgpnpaaaGreatAxDr
import Derived.MapKept
namespace Go.EX
open Go.AX
variable {P : Program} {g : Gs}
theorem Sm.lt {h : Tr CB} {w : World} (hs : Sm g h.get w) {p : Ps} (hp : h.get p ≠ none) : g.μ p < w.heap.size := by
 cases hc : h.get p with
 | none => exact absurd hc hp
 | some c =>
  have := hs.obj p c hc; apply Nat.lt_of_not_le; intro hle; rw [Array.getElem?_eq_none hle] at this; cases c <;> (obtain ⟨_, h⟩ := this; first | (obtain ⟨_, h, _⟩ := h; cases h) | (obtain ⟨h, _⟩ := h; cases h))
theorem Sm.st {h : Tr CB} {w w' : World} (hs : Sm g h.get w) (he : envOf w' = envOf w) (hd : w.drawn ≤ w'.drawn) (hz : w.heap.size ≤ w'.heap.size) (hk : ∀ k, k < w.heap.size → w'.heap[k]? = w.heap[k]?) :
 Sm g h.get w' ∧ To g h.get w g h.get w' :=
 ⟨⟨hs.dom, fun b c hb => by rw [hk _ (hs.lt (by rw [hb]; simp))]; exact hs.obj b c hb, hs.inj⟩, ⟨.refl g, hz, he, hd, fun c hc _ => hk c hc, fun b hb => .inl ⟨b, hb, rfl⟩⟩⟩
theorem Sm.nw {h : Tr CB} {w w' : World} {n : Ps} (hs : Sm g h.get w) (hl : Bl n g) {c : CB} {m k : Nat} (hm : w.heap.size ≤ m) (ho : OR (g.add n m k) n c w'.heap[m]?) (he : envOf w' = envOf w) (hd : w.drawn ≤ w'.drawn) (hz : w.heap.size ≤ w'.heap.size) (hk : ∀ k, k < w.heap.size → w'.heap[k]? = w.heap[k]?) :
 Sm (g.add n m k) (h.set (some c) n).get w' ∧ To g h.get w (g.add n m k) (h.set (some c) n).get w' := by
 have hle := Gs.le_add hl.new m k; have hlt : ∀ p, h.get p ≠ none → g.μ p < w.heap.size := fun p hp => hs.lt hp; have hold : ∀ p, p ≠ n → (g.add n m k).μ p = g.μ p := fun p hp => by simp [Gs.add, hp]
 have hnew : (g.add n m k).μ n = m := by simp [Gs.add]
 have hlive : ∀ p, p ≠ n → (h.set (some c) n).get p ≠ none → h.get p ≠ none := fun p hn hp => by rwa [set_get, if_neg hn] at hp
 refine ⟨⟨fun p c1 hp => ?_, fun p c1 hp => ?_, fun p q hp hq hpq => ?_⟩, ⟨hle, hz, he, hd, fun j hj _ => hk j hj, fun p hp => ?_⟩⟩
 ·rw [set_get] at hp; by_cases e : p = n
  ·exact .inl e
  ·rw [if_neg e] at hp; exact .inr (hs.dom p c1 hp)
 ·rw [set_get] at hp; by_cases e : p = n
  ·rw [if_pos e] at hp; cases hp; rw [e, hnew]; exact ho
  ·rw [if_neg e] at hp; rw [hold p e, hk _ (hlt p (by rw [hp]; simp))]; exact (hs.obj p c1 hp).mono hle (hs.dom p c1 hp)
 ·by_cases e1 : p = n
  ·by_cases e2 : q = n
   ·rw [e1, e2]
   ·rw [e1, hnew, hold q e2] at hpq; have := hlt q (hlive q e2 hq); omega
  ·by_cases e2 : q = n
   ·rw [e2, hnew, hold p e1] at hpq; have := hlt p (hlive p e1 hp); omega
   ·rw [hold p e1, hold q e2] at hpq; exact hs.inj p q (hlive p e1 hp) (hlive q e2 hq) hpq
 ·by_cases e : p = n
  ·right; rw [e, hnew]; exact hm
  ·left; exact ⟨p, hlive p e hp, (hold p e).symm⟩
/-! ### Keys -/
def keysI : List (CV × CV × Nat) → Option (List Int)
 | [] => some []
 | (.i .i64 k, _, _) :: r => match keysI r with
  | some l => some (k :: l)
  | none => none
 | _ => none
def has (f : Nat → Bool) : List Nat → Bool
 | [] => false
 | x :: r => match f x with
  | true => true
  | false => has f r
def ndN : List Nat → Bool
 | [] => true
 | x :: r => match has (fun y => Nat.beq x y) r with
  | true => false
  | false => ndN r
def allB (f : Int → Bool) : List Int → Bool
 | [] => true
 | x :: r => match f x with
  | true => allB f r
  | false => false
def ndI : List Int → Bool
 | [] => true
 | x :: r => match allB (fun y => match decEq x y with
  | isTrue _ => false
  | isFalse _ => true) r with
  | true => ndI r
  | false => false
def leZ (x y : Int) : Bool := match Int.decLe x y with
 | isTrue _ => true
 | isFalse _ => false
def insI (x : Int) : List Int → List Int
 | [] => [x]
 | y :: r => match leZ x y with
  | true => x :: y :: r
  | false => y :: insI x r
def srtI : List Int → List Int
 | [] => []
 | x :: r => insI x (srtI r)
def bornOk (ck : Nat) (es : List (CV × CV × Nat)) : Bool := (es.map (·.2.2)).all (fun n => Nat.blt n ck) && ndN (es.map (·.2.2))
def int64B (x : Int) : Bool := leZ (-9223372036854775808) x && leZ x 9223372036854775807
theorem leZ_iff {x y : Int} : leZ x y = true ↔ x ≤ y := by
 unfold leZ; split <;> simp_all
theorem has_iff {f : Nat → Bool} : ∀ {l : List Nat}, has f l = true ↔ ∃ x ∈ l, f x = true
 | [] => by simp [has]
 | x :: r => by
  simp only [has]; split
  ·rename_i h; simp [h]
  ·rename_i h; rw [has_iff (l := r)]; simp [h]
theorem ndN_ok : ∀ {l : List Nat}, ndN l = true → l.Nodup
 | [], _ => .nil
 | x :: r, h => by
  simp only [ndN] at h; split at h
  ·cases h
  ·rename_i hx; refine List.nodup_cons.2 ⟨fun hm => ?_, ndN_ok h⟩; rw [← Bool.not_eq_true, has_iff] at hx; exact hx ⟨x, hm, Nat.beq_refl x⟩
theorem allB_ok {f : Int → Bool} : ∀ {l : List Int}, allB f l = true → ∀ x ∈ l, f x = true
 | [], _, _, hx => by cases hx
 | y :: r, h, x, hx => by
  simp only [allB] at h; split at h
  ·rename_i hy; rcases List.mem_cons.1 hx with rfl | hx
   ·exact hy
   ·exact allB_ok h x hx
  ·cases h
theorem ndI_ok : ∀ {l : List Int}, ndI l = true → l.Nodup
 | [], _ => .nil
 | x :: r, h => by
  simp only [ndI] at h; split at h
  ·rename_i ha; refine List.nodup_cons.2 ⟨fun hm => ?_, ndI_ok h⟩; have := allB_ok ha x hm; split at this
   ·cases this
   ·rename_i hn _; exact hn rfl
  ·cases h
theorem insI_perm (x : Int) : ∀ l : List Int, (insI x l).Perm (x :: l)
 | [] => .refl _
 | y :: r => by
  simp only [insI]; split
  ·exact .refl _
  ·exact ((insI_perm x r).cons y).trans (.swap x y r)
theorem srtI_perm : ∀ l : List Int, (srtI l).Perm l
 | [] => .refl _
 | x :: r => (insI_perm x _).trans ((srtI_perm r).cons x)
theorem insI_sorted {x : Int} : ∀ {l : List Int}, l.Pairwise (· ≤ ·) → (insI x l).Pairwise (· ≤ ·)
 | [], _ => by simp [insI]
 | y :: r, h => by
  obtain ⟨h1, h2⟩ := List.pairwise_cons.1 h; simp only [insI]; split
  ·rename_i hx; have hx := leZ_iff.1 hx; refine List.pairwise_cons.2 ⟨fun z hz => ?_, h⟩; rcases List.mem_cons.1 hz with rfl | hz
   ·exact hx
   ·exact Int.le_trans hx (h1 z hz)
  ·rename_i hx; have hx : ¬ x ≤ y := fun e => by rw [leZ_iff.2 e] at hx; cases hx
   refine List.pairwise_cons.2 ⟨fun z hz => ?_, insI_sorted h2⟩; rcases List.mem_cons.1 ((insI_perm x r).mem_iff.1 hz) with rfl | hz
   ·omega
   ·exact h1 z hz
theorem srtI_sorted : ∀ l : List Int, (srtI l).Pairwise (· ≤ ·)
 | [] => .nil
 | x :: r => insI_sorted (srtI_sorted r)
theorem srtI_eq (l : List Int) : l.mergeSort (fun x y => decide (x ≤ y)) = srtI l := by
 have tr : ∀ a b c : Int, decide (a ≤ b) = true → decide (b ≤ c) = true → decide (a ≤ c) = true := fun a b c h1 h2 => by simp only [decide_eq_true_eq] at *; exact Int.le_trans h1 h2
 have to : ∀ a b : Int, (decide (a ≤ b) || decide (b ≤ a)) = true := fun a b => by simp only [Bool.or_eq_true, decide_eq_true_eq]; exact Int.le_total a b
 refine List.Perm.eq_of_pairwise (le := (· ≤ ·)) (fun a b _ _ h1 h2 => Int.le_antisymm h1 h2) ((List.pairwise_mergeSort tr to l).imp fun h => of_decide_eq_true h) (srtI_sorted l) ((List.mergeSort_perm l _).trans (srtI_perm l).symm)
theorem keysI_ok : ∀ {es : List (CV × CV × Nat)} {ks : List Int} {en : List MapEntry}, keysI es = some ks → ME g es en → en.map (·.key) = ks.map (fun x => Value.int .i64 x) ∧ en.map (·.born) = es.map (·.2.2)
 | [], ks, en, h, hm => by
  cases h; have : en = [] := hm; rw [this]; exact ⟨rfl, rfl⟩
 | (k, x, n) :: r, ks, en, h, hm => by
  obtain ⟨m, l, e, h1, h2, h3, h4⟩ := hm; unfold keysI at h; split at h
  ·rename_i hq; cases hq
  ·rename_i k' x' n' r' hq; cases hq; split at h
   ·rename_i l' hl; cases h; obtain ⟨i1, i2⟩ := keysI_ok hl h4; have h1' : m.key = .int .i64 k' := h1; subst e; simp [i1, i2, h1', h3]
   ·cases h
  ·cases h
def KeysOk (P : Program) (fS kf : FuncId) (T : TypeId) : Prop :=
 ∀ (w : World) (Bm c : Nat) (en : Array MapEntry) (ck : Nat) (ks : List Int), w.cell? ⟨Bm, 0, none⟩ = some (.map (some c)) → Bm < w.heap.size → w.heap[c]? = some (.map en ck) → en.toList.map (·.key) = ks.map (fun x => .int .i64 x) → MapKept.Stamped en ck →
  (∀ x ∈ ks, -9223372036854775808 ≤ x ∧ x ≤ 9223372036854775807) → ks.length ≤ 1000000 → Calls P fS #[.func (.func kf) #[] #[.pointer (some ⟨Bm, 0, none⟩)]] w fun e w' => ∃ v, e = .returned v ∧ envOf w' = envOf w ∧ w.heap.size ≤ w'.heap.size ∧ (∀ k, k < w.heap.size → w'.heap[k]? = w.heap[k]?) ∧
   ((ks = [] ∧ v = .slice none 0 0) ∨ (ks ≠ [] ∧ ∃ gb cur, v = .slice (some ⟨gb, 0, none⟩) ks.length cur.size ∧ ks.length ≤ cur.size ∧ w.heap.size ≤ gb ∧ w'.heap[gb]? = some (.cells cur T (0, 0)) ∧ (ks.mergeSort (fun x y => decide (x ≤ y))).map (fun x => Value.int .i64 x) <+: cur.toList))
noncomputable def ruS (T : TypeId) (b : Ps) (h : Tr CB) (n : Ps) : Hs :=
 match h.get b with
 | some (.c _ (.m b2 :: _)) => match h.get b2 with
  | some (.mp es ck) => match bornOk ck es with
   | true => match keysI es with
    | some ks => match ndI ks && allB int64B ks && Nat.ble ks.length 1000000 with
     | true => match srtI ks with
      | [] => some (.k .s, h, n)
      | l => some (.su n 0 l.length 1, h.set (some (.c T (l.map fun x => .i .i64 x))) n, n.succ)
     | false => none
    | none => none
   | false => none
  | _ => none
 | _ => none
noncomputable def knS (fS : FuncId) (kfs : List FuncId) (T : TypeId) : Kn := fun f args =>
 match Nat.beq f fS with
 | true => match args with
  | [.f (.func kf) [] [.p b 0]] => match has (fun k => Nat.beq kf k) kfs with
   | true => some (ruS T b)
   | false => none
  | _ => none
 | false => none
theorem VL_ints : ∀ l : List Int, VL g (l.map fun x => .i .i64 x) (l.map fun x => Value.int .i64 x)
 | [] => rfl
 | x :: l => ⟨_, _, rfl, rfl, VL_ints l⟩
theorem ruS_ok {fS kf : FuncId} {T : TypeId} (hK : KeysOk P fS kf T) {b : Ps} {h h' : Tr CB} {n n' : Ps} {x : CV} (hr : ruS T b h n = some (x, h', n')) {w : World} {vs : List Value} (hl : Bl n g) (hs : Sm g h.get w) (hv : VL g [.f (.func kf) [] [.p b 0]] vs) :
 (Calls P fS vs.toArray w fun e w' => ∃ v g', e = .returned v ∧ To g h.get w g' h'.get w' ∧ Sm g' h'.get w' ∧ Bl n' g' ∧ VR g' x v) ∧ n.val ≤ n'.val := by
 unfold ruS at hr; split at hr
 ·rename_i T0 b2 rest hb; split at hr
  ·rename_i es ck hb2; split at hr
   ·rename_i hbo; split at hr
    ·rename_i ks hks; split at hr
     ·rename_i hc; simp only [Bool.and_eq_true] at hc; obtain ⟨⟨c1, c2⟩, c3⟩ := hc; obtain ⟨arr, us, e1, e2, e3, e4⟩ := hs.obj b _ hb; obtain ⟨v0, r0, rfl, ⟨_, hv0⟩, _⟩ := e3; obtain ⟨en, f1, f2⟩ := hs.obj b2 _ hb2; obtain ⟨k1, k2⟩ := keysI_ok (en := en.toList) hks f2; have hcell : w.cell? ⟨g.μ b, 0, none⟩ = some (.map (some (g.μ b2))) := by
       have h0 : arr[0]? = some (.map (some (g.μ b2))) := by
        rw [← Array.getElem?_toList]; obtain ⟨t, ht⟩ := e4; rw [← ht, hv0]; rfl
       simp [World.cell?, e1, h0]
      have hst : MapKept.Stamped en ck := by
       unfold bornOk at hbo; simp only [Bool.and_eq_true, List.all_eq_true] at hbo; rw [← k2] at hbo; refine ⟨fun m hm => ?_, ndN_ok hbo.2, ?_⟩
       ·have := hbo.1 _ (List.mem_map.2 ⟨m, hm, rfl⟩); exact Nat.lt_of_lt_of_le (Nat.lt_succ_self _) (Nat.le_of_ble_eq_true this)
       ·rw [k1]; exact (ndI_ok c1).map _ fun a b hab e => hab (by injection e)
      have hlen := Nat.le_of_ble_eq_true c3; obtain ⟨vf, r1, rfl, ⟨a, c, rfl, va, vc⟩, hr1⟩ := hv; have hr1 : r1 = [] := hr1; subst hr1; have va : a.toList = [] := va; obtain ⟨vp, r2, vc1, ⟨_, hvp⟩, hr2⟩ := vc; have hr2 : r2 = [] := hr2; subst hr2; have ha : a = #[] := Array.ext' va; have hcc : c = #[.pointer (some ⟨g.μ b, 0, none⟩)] := Array.ext' (by rw [vc1, hvp]); subst ha hcc; have hcall := hK w (g.μ b) (g.μ b2) en ck ks hcell (hs.lt (by rw [hb]; simp)) f1 k1 hst (fun x hx => by
       have := allB_ok c2 x hx; simp only [int64B, Bool.and_eq_true, leZ_iff] at this; exact this) hlen
      have hcall := calls_drawn hcall fun e w' ⟨v, h, _⟩ => ⟨v, h⟩; rw [srtI_eq] at hcall; have hsl : (srtI ks).length = ks.length := (srtI_perm ks).length_eq; split at hr
      ·rename_i h0; cases hr; refine ⟨hcall.mono fun e w' ⟨⟨v, g1, g2, g3, g4, g5⟩, g6⟩ => ?_, Nat.le_refl _⟩; have hks0 : ks = [] := List.eq_nil_of_length_eq_zero (by rw [← hsl, h0]; rfl); obtain ⟨a1, a2⟩ := hs.st g2 g6 g3 g4; rcases g5 with ⟨_, rfl⟩ | ⟨g5, _⟩
       ·exact ⟨_, g, g1, a2, a1, hl, rfl⟩
       ·exact absurd hks0 g5
      ·rename_i h0; cases hr; refine ⟨hcall.mono fun e w' ⟨⟨v, g1, g2, g3, g4, g5⟩, g6⟩ => ?_, by rw [Ps.val_succ]; omega⟩; rcases g5 with ⟨hk0, _⟩ | ⟨_, gb, cur, rfl, g7, g8, g9, g10⟩
       ·subst hk0; exact absurd rfl h0
       ·obtain ⟨a1, a2⟩ := hs.nw hl (c := .c T ((srtI ks).map fun x => .i .i64 x)) (k := cur.size) g8 (by
         rw [g9]; exact ⟨cur, _, rfl, by simp [Gs.add], VL_ints _, g10⟩) g2 g6 g3 g4
        refine ⟨_, _, g1, a2, a1, hl.add _ _, .inl rfl, cur.size, ?_, by rw [hsl]; exact g7, by simp [Gs.add]⟩; rw [hsl]; simp [Gs.add]
     ·cases hr
    ·cases hr
   ·cases hr
  ·cases hr
 ·cases hr
theorem knS_ok {fS : FuncId} {kfs : List FuncId} {T : TypeId} (hK : ∀ kf ∈ kfs, KeysOk P fS kf T) : KnOk P (knS fS kfs T) := by
 have key : ∀ f args r, knS fS kfs T f args = some r → f = fS ∧ ∃ kf b, args = [.f (.func kf) [] [.p b 0]] ∧ kf ∈ kfs ∧ r = ruS T b := fun f args r h => by
  unfold knS at h; split at h
  ·rename_i hf; split at h
   ·rename_i kf b; split at h
    ·rename_i hh; cases h; obtain ⟨k, k1, k2⟩ := has_iff.1 hh; have := Nat.eq_of_beq_eq_true k2; subst this; exact ⟨Nat.eq_of_beq_eq_true hf, _, b, rfl, k1, rfl⟩
    ·cases h
   ·cases h
  ·cases h
 refine ⟨fun f args r h n x h' n' hk hr g w vs hl hs hv => ?_, fun f args r h n x h' n' hk hr => ?_⟩
 ·obtain ⟨rfl, kf, b, rfl, k1, rfl⟩ := key f args r hk; exact (ruS_ok (hK kf k1) hr hl hs hv).1
 ·obtain ⟨rfl, kf, b, rfl, k1, rfl⟩ := key f args r hk; unfold ruS at hr
  repeat' split at hr
  all_goals (cases hr; try first | exact Nat.le_refl _ | (rw [Ps.val_succ]; omega))
noncomputable def knO (a b : Kn) : Kn := fun f args => match a f args with
 | some r => some r
 | none => b f args
theorem knO_ok {a b : Kn} (ha : KnOk P a) (hb : KnOk P b) : KnOk P (knO a b) := by
 refine ⟨fun f args r h n x h' n' hk => ?_, fun f args r h n x h' n' hk => ?_⟩
 all_goals
  unfold knO at hk; split at hk
 ·rename_i hq; cases hk; exact ha.ok f args _ h n x h' n' hq
 ·exact hb.ok f args r h n x h' n' hk
 ·rename_i hq; cases hk; exact ha.up f args _ h n x h' n' hq
 ·exact hb.up f args r h n x h' n' hk
end Go.EX

namespace Go.EX
open Go.AX
variable {P : Program} {g : Gs}
/-! ### Numbers of blocks, turned -/
noncomputable def Ps.eqb (p : Ps) : Ps → Bool :=
 Ps.rec (motive := fun _ => Ps → Bool) (fun q => Ps.casesOn (motive := fun _ => Bool) q true (fun _ => false) (fun _ => false)) (fun _ ih q => Ps.casesOn (motive := fun _ => Bool) q false (fun q => ih q) (fun _ => false)) (fun _ ih q => Ps.casesOn (motive := fun _ => Bool) q false (fun _ => false) (fun q => ih q)) p
theorem Ps.eqb_eq : ∀ {p q : Ps}, p.eqb q = true → p = q
 | .e, .e, _ => rfl
 | .e, .z _, h => by cases h
 | .e, .o _, h => by cases h
 | .z _, .e, h => by cases h
 | .z p, .z q, h => by rw [Ps.eqb_eq (p := p) (q := q) h]
 | .z _, .o _, h => by cases h
 | .o _, .e, h => by cases h
 | .o _, .z _, h => by cases h
 | .o p, .o q, h => by rw [Ps.eqb_eq (p := p) (q := q) h]
noncomputable def lkP (b : Ps) : List (Ps × Ps) → Option Ps
 | [] => none
 | (x, y) :: r => match x.eqb b with
  | true => some y
  | false => lkP b r
theorem lkP_mem {b p : Ps} : ∀ {m : List (Ps × Ps)}, lkP b m = some p → (b, p) ∈ m
 | [], h => by cases h
 | (x, y) :: r, h => by
  simp only [lkP] at h; split at h
  ·rename_i e; cases h; rw [Ps.eqb_eq e]; exact List.mem_cons_self ..
  ·exact List.mem_cons_of_mem _ (lkP_mem h)
mutual
noncomputable def ren (m : List (Ps × Ps)) : CV → Option CV
  | .p b off => match lkP b m with
    | some p => some (.p p off)
    | none => none
  | .sl b off n cap => match lkP b m with
    | some p => some (.sl p off n cap)
    | none => none
  | .su b off n e => match lkP b m with
    | some p => some (.su p off n e)
    | none => none
  | .m b => match lkP b m with
    | some p => some (.m p)
    | none => none
  | .f fn xs ys => match renL m xs, renL m ys with
    | some xs, some ys => some (.f fn xs ys)
    | _, _ => none
  | .a xs => match renL m xs with
    | some xs => some (.a xs)
    | none => none
  | .t xs => match renL m xs with
    | some xs => some (.t xs)
    | none => none
  | .b x => some (.b x)
  | .i k n => some (.i k n)
  | .s l => some (.s l)
  | .k c => some (.k c)
  | .se => some .se
noncomputable def renL (m : List (Ps × Ps)) : List CV → Option (List CV)
  | [] => some []
  | x :: xs => match ren m x, renL m xs with
    | some x, some xs => some (x :: xs)
    | _, _ => none
end
noncomputable def renB (m : List (Ps × Ps)) : CB → Option CB
 | .c T xs => match renL m xs with
  | some xs => some (.c T xs)
  | none => none
 | .mp [] ck => some (.mp [] ck)
 | _ => none
def Rk (g g' : Gs) (m : List (Ps × Ps)) : Prop := ∀ b p, (b, p) ∈ m → g'.D p ∧ g'.μ p = g.μ b ∧ g'.K p = g.K b
mutual
theorem ren_ok {g g' : Gs} {m : List (Ps × Ps)} (hm : Rk g g' m) : ∀ {x y : CV} {v : Value}, ren m x = some y → VR g x v → VR g' y v
  | .p b off, y, v, h, hv => by
    simp only [ren] at h
    split at h
    · rename_i p hp; cases h; obtain ⟨a, b, c⟩ := hm _ _ (lkP_mem hp); exact ⟨a, by rw [b]; exact hv.2⟩
    · cases h
  | .sl b off n cap, y, v, h, hv => by
    simp only [ren] at h
    split at h
    · rename_i p hp; cases h; obtain ⟨a, b, c⟩ := hm _ _ (lkP_mem hp); exact ⟨a, hv.2.1, by rw [b]; exact hv.2.2⟩
    · cases h
  | .su b off n e, y, v, h, hv => by
    simp only [ren] at h
    split at h
    · rename_i p hp; cases h; obtain ⟨a, b, c⟩ := hm _ _ (lkP_mem hp); obtain ⟨_, k, e1, e2, e3⟩ := hv; exact ⟨a, k, by rw [b]; exact e1, e2, by rw [c]; exact e3⟩
    · cases h
  | .m b, y, v, h, hv => by
    simp only [ren] at h
    split at h
    · rename_i p hp; cases h; obtain ⟨a, b, c⟩ := hm _ _ (lkP_mem hp); exact ⟨a, by rw [b]; exact hv.2⟩
    · cases h
  | .f fn xs ys, y, v, h, hv => by
    simp only [ren] at h
    split at h
    · rename_i xs' ys' h1 h2; cases h; obtain ⟨a, c, e, f1, f2⟩ := hv; exact ⟨a, c, e, renL_ok hm h1 f1, renL_ok hm h2 f2⟩
    · cases h
  | .a xs, y, v, h, hv => by
    simp only [ren] at h
    split at h
    · rename_i xs' h1; cases h; obtain ⟨a, e, f1⟩ := hv; exact ⟨a, e, renL_ok hm h1 f1⟩
    · cases h
  | .t xs, y, v, h, hv => by
    simp only [ren] at h
    split at h
    · rename_i xs' h1; cases h; obtain ⟨a, e, f1⟩ := hv; exact ⟨a, e, renL_ok hm h1 f1⟩
    · cases h
  | .b x, y, v, h, hv => by simp only [ren] at h; cases h; exact hv
  | .i k n, y, v, h, hv => by simp only [ren] at h; cases h; exact hv
  | .s l, y, v, h, hv => by simp only [ren] at h; cases h; exact hv
  | .k c, y, v, h, hv => by simp only [ren] at h; cases h; exact hv
  | .se, y, v, h, hv => by simp only [ren] at h; cases h; exact hv
theorem renL_ok {g g' : Gs} {m : List (Ps × Ps)} (hm : Rk g g' m) : ∀ {xs ys : List CV} {vs : List Value}, renL m xs = some ys → VL g xs vs → VL g' ys vs
  | [], ys, vs, h, hv => by simp only [renL] at h; cases h; exact hv
  | x :: xs, ys, vs, h, hv => by
    simp only [renL] at h
    split at h
    · rename_i x' xs' h1 h2; cases h; obtain ⟨v, r, e, f1, f2⟩ := hv; exact ⟨v, r, e, ren_ok hm h1 f1, renL_ok hm h2 f2⟩
    · cases h
end
theorem renB_ok {g g' : Gs} {m : List (Ps × Ps)} (hm : Rk g g' m) {b p : Ps} (hK : g'.K p = g.K b) {c d : CB} {o : Option Obj} (h : renB m c = some d) (ho : OR g b c o) : OR g' p d o := by
 cases c with
 | c T xs =>
  simp only [renB] at h; split at h
  ·rename_i ys h1; cases h; obtain ⟨arr, vs, e1, e2, e3, e4⟩ := ho; exact ⟨arr, vs, e1, by rw [hK]; exact e2, renL_ok hm h1 e3, e4⟩
  ·cases h
 | mp es ck =>
  cases es with
  | nil => simp only [renB] at h; cases h; exact ho
  | cons _ _ => simp only [renB] at h; cases h
/-! ### What has no blocks -/
mutual
def pla : CV → Bool
  | .b _ => true
  | .i _ _ => true
  | .s _ => true
  | .k _ => true
  | .a xs => plaL xs
  | _ => false
def plaL : List CV → Bool
  | [] => true
  | x :: xs => pla x && plaL xs
end
mutual
theorem pla_ok {g g' : Gs} : ∀ {x : CV} {v : Value}, pla x = true → VR g x v → VR g' x v
  | .b _, _, _, hv => hv
  | .i _ _, _, _, hv => hv
  | .s _, _, _, hv => hv
  | .k _, _, _, hv => hv
  | .a xs, _, h, ⟨vs, e, hv⟩ => ⟨vs, e, plaL_ok (by simpa only [pla] using h) hv⟩
  | .p .., _, h, _ => by simp [pla] at h
  | .sl .., _, h, _ => by simp [pla] at h
  | .su .., _, h, _ => by simp [pla] at h
  | .se, _, h, _ => by simp [pla] at h
  | .m .., _, h, _ => by simp [pla] at h
  | .f .., _, h, _ => by simp [pla] at h
  | .t .., _, h, _ => by simp [pla] at h
theorem plaL_ok {g g' : Gs} : ∀ {xs : List CV} {vs : List Value}, plaL xs = true → VL g xs vs → VL g' xs vs
  | [], _, _, hv => hv
  | _ :: _, _, h, ⟨v, r, e, h1, h2⟩ => by
    simp only [plaL, Bool.and_eq_true] at h
    exact ⟨v, r, e, pla_ok h.1 h1, plaL_ok h.2 h2⟩
end
/-! ### What a call gave -/
def FactOk (P : Program) (f : FuncId) (args : List CV) (V : CV) (L : List (Ps × CB)) : Prop :=
 ∀ (w : World) (vs : List Value), VL g0 args vs → Calls P f vs.toArray w fun e w' => ∃ v g' H, e = .returned v ∧ To g0 (Tr.get .lf) w g' (Tr.get H) w' ∧ Sm g' (Tr.get H) w' ∧ VR g' V v ∧ ∀ bc ∈ L, H.get bc.1 = some bc.2
noncomputable def getA (h : Tr CB) : List Ps → Option (List (Ps × CB))
 | [] => some []
 | b :: r => match h.get b with
  | some c => match getA h r with
   | some l => some ((b, c) :: l)
   | none => none
  | none => none
theorem getA_ok {h : Tr CB} : ∀ {bs : List Ps} {l : List (Ps × CB)}, getA h bs = some l → ∀ bc ∈ l, h.get bc.1 = some bc.2
 | [], l, hl, bc, hb => by simp only [getA] at hl; cases hl; cases hb
 | b :: r, l, hl, bc, hb => by
  simp only [getA] at hl; split at hl
  ·rename_i c hc; split at hl
   ·rename_i l' hl'; cases hl; rcases List.mem_cons.1 hb with rfl | hb
    ·exact hc
    ·exact getA_ok hl' bc hb
   ·cases hl
  ·cases hl
noncomputable def fact (P : Program) (kn : Kn) (k d : Nat) (f : FuncId) (args : List CV) (bs : List Ps) : Option (CV × List (Ps × CB)) :=
 match exF P kn k d f args .lf .e with
 | some (v, h, _) => match getA h bs with
  | some l => some (v, l)
  | none => none
 | none => none
theorem fact_ok {kn : Kn} (hk : KnOk P kn) (hm : P.follows .mixedOrders = true) {k d : Nat} {f : FuncId} {args : List CV} {bs : List Ps} {V : CV} {L : List (Ps × CB)} (h : fact P kn k d f args bs = some (V, L)) : FactOk P f args V L := fun w vs hv => by
 unfold fact at h; split at h
 ·rename_i v h' n' hq; split at h
  ·rename_i l hl; cases h; refine ((exF_ok hk hm k d).1 f args .lf .e V h' n' hq g0 w vs bl0 (sm0 w) hv).mono fun e w' ⟨v, g', e1, e2, e3, _, e5⟩ => ?_; exact ⟨v, g', h', e1, e2, e3, e5, getA_ok hl⟩
  ·cases h
 ·cases h
noncomputable def inst : List (Ps × CB) → List (Ps × Ps) → Tr CB → Ps → Option (List (Ps × Ps) × Tr CB × Ps)
 | [], m, h, n => some (m, h, n)
 | (b, c) :: r, m, h, n => match lkP b m with
  | none => match renB m c with
   | some c => frP n.succ fun n' => inst r ((b, n) :: m) (h.set (some c) n) n'
   | none => none
  | some _ => none
noncomputable def ruF (V : CV) (L : List (Ps × CB)) (h : Tr CB) (n : Ps) : Hs :=
 match inst L [] h n with
 | some (m, h, n) => match ren m V with
  | some x => some (x, h, n)
  | none => none
 | none => none
noncomputable def knF (f : FuncId) (args : List CV) (V : CV) (L : List (Ps × CB)) : Kn := fun f' args' =>
 match Nat.beq f' f with
 | true => match cEL args' args with
  | true => some (ruF V L)
  | false => none
 | false => none
theorem lkP_none {b : Ps} : ∀ {m : List (Ps × Ps)}, lkP b m = none → ∀ p, (b, p) ∉ m
 | [], _, _, h => by cases h
 | (x, y) :: r, h, p, hm => by
  simp only [lkP] at h; split at h
  ·cases h
  ·rename_i e; rcases List.mem_cons.1 hm with h1 | h1
   ·cases h1; have : ∀ q : Ps, q.eqb q = true := fun q => by
     induction q with
     | e => rfl
     | z q ih => exact ih
     | o q ih => exact ih
    rw [this] at e; cases e
   ·exact lkP_none h p h1
theorem inst_ok {w w' : World} {g' : Gs} {H : Tr CB} (hT : To g0 (Tr.get .lf) w g' H.get w') (hS : Sm g' H.get w') {gb : Gs} {hb : Tr CB} (h00 : ∀ p, hb.get p ≠ none → gb.μ p < w.heap.size) :
 ∀ {L : List (Ps × CB)} {m m' : List (Ps × Ps)} {h h' : Tr CB} {n n' : Ps} {g : Gs}, inst L m h n = some (m', h', n') → (∀ bc ∈ L, H.get bc.1 = some bc.2) → Bl n g → Sm g h.get w' → To gb hb.get w g h.get w' → Rk g' g m →
  (∀ b p, (b, p) ∈ m → H.get b ≠ none) → (∀ p, h.get p ≠ none → g.μ p < w.heap.size ∨ ∃ b, (b, p) ∈ m) →
  ∃ g2, Bl n' g2 ∧ Sm g2 h'.get w' ∧ To gb hb.get w g2 h'.get w' ∧ Rk g' g2 m'
 | [], m, m', h, h', n, n', g, hi, _, hl, hs, ht, hr, _, _ => by simp only [inst] at hi; cases hi; exact ⟨g, hl, hs, ht, hr⟩
 | (b, c) :: r, m, m', h, h', n, n', g, hi, hL, hl, hs, ht, hr, hlive, hold => by
  simp only [inst] at hi; split at hi
  ·rename_i hlk; split at hi
   ·rename_i c' hc; rw [frP_eq] at hi; have hHb := hL _ (List.mem_cons_self ..); have hbn : H.get b ≠ none := by rw [hHb]; simp
    have hge : w.heap.size ≤ g'.μ b := by
     rcases hT.new b hbn with ⟨b0, hb0, _⟩ | h
     ·rw [Tr.get_lf] at hb0; exact absurd rfl hb0
     ·exact h
    have hne : ∀ p, h.get p ≠ none → g.μ p ≠ g'.μ b := fun p hp e => by
     rcases hold p hp with h1 | ⟨b1, h1⟩
     ·omega
     ·have h2 := hr b1 p h1; have := hS.inj b1 b (hlive b1 p h1) hbn (by rw [← h2.2.1, e]); subst this; exact lkP_none hlk p h1
    have hle := Gs.le_add hl.new (g'.μ b) (g'.K b); have hr' : Rk g' (g.add n (g'.μ b) (g'.K b)) m := fun b1 p1 h1 => by
     obtain ⟨a1, a2, a3⟩ := hr b1 p1 h1; obtain ⟨e1, e2, e3⟩ := hle p1 a1; exact ⟨e1, e2.trans a2, e3.trans a3⟩
    have hμn : (g.add n (g'.μ b) (g'.K b)).μ n = g'.μ b := by simp [Gs.add]
    have hKn : (g.add n (g'.μ b) (g'.K b)).K n = g'.K b := by simp [Gs.add]
    have hol : ∀ p, p ≠ n → (g.add n (g'.μ b) (g'.K b)).μ p = g.μ p := fun p hp => by simp [Gs.add, hp]
    have hlv : ∀ p, p ≠ n → (h.set (some c') n).get p ≠ none → h.get p ≠ none := fun p hn hp => by rwa [set_get, if_neg hn] at hp
    refine inst_ok hT hS h00 (g := g.add n (g'.μ b) (g'.K b)) hi (fun bc hbc => hL bc (List.mem_cons_of_mem _ hbc)) (hl.add _ _) ?_ ?_ ?_ ?_ ?_
    ·refine ⟨fun p c1 hp => ?_, fun p c1 hp => ?_, fun p q hp hq hpq => ?_⟩
     ·rw [set_get] at hp; by_cases e : p = n
      ·exact .inl e
      ·rw [if_neg e] at hp; exact .inr (hs.dom p c1 hp)
     ·rw [set_get] at hp; by_cases e : p = n
      ·rw [if_pos e] at hp; cases hp; rw [e, hμn]; exact renB_ok hr' hKn hc (hS.obj b c hHb)
      ·rw [if_neg e] at hp; rw [hol p e]; exact (hs.obj p c1 hp).mono hle (hs.dom p c1 hp)
     ·by_cases e1 : p = n
      ·by_cases e2 : q = n
       ·rw [e1, e2]
       ·rw [e1, hμn, hol q e2] at hpq; exact absurd hpq.symm (hne q (hlv q e2 hq))
      ·by_cases e2 : q = n
       ·rw [e2, hμn, hol p e1] at hpq; exact absurd hpq (hne p (hlv p e1 hp))
       ·rw [hol p e1, hol q e2] at hpq; exact hs.inj p q (hlv p e1 hp) (hlv q e2 hq) hpq
    ·refine ⟨ht.le.trans hle, ht.size, ht.env, ht.drawn, ht.keep, fun p hp => ?_⟩; by_cases e : p = n
     ·right; rw [e, hμn]; exact hge
     ·rw [hol p e]; exact ht.new p (hlv p e hp)
    ·intro b1 p1 h1; rcases List.mem_cons.1 h1 with h1 | h1
     ·cases h1; exact ⟨.inl rfl, hμn, hKn⟩
     ·exact hr' b1 p1 h1
    ·intro b1 p1 h1; rcases List.mem_cons.1 h1 with h1 | h1
     ·cases h1; exact hbn
     ·exact hlive b1 p1 h1
    ·intro p hp; by_cases e : p = n
     ·right; exact ⟨b, by rw [e]; exact List.mem_cons_self ..⟩
     ·rcases hold p (hlv p e hp) with h1 | ⟨b1, h1⟩
      ·left; rw [hol p e]; exact h1
      ·right; exact ⟨b1, List.mem_cons_of_mem _ h1⟩
   ·cases hi
  ·cases hi
theorem inst_up : ∀ {L : List (Ps × CB)} {m m' : List (Ps × Ps)} {h h' : Tr CB} {n n' : Ps}, inst L m h n = some (m', h', n') → n.val ≤ n'.val
 | [], _, _, _, _, _, _, hi => by simp only [inst] at hi; cases hi; exact Nat.le_refl _
 | (b, c) :: r, m, m', h, h', n, n', hi => by
  simp only [inst] at hi; split at hi
  ·split at hi
   ·rw [frP_eq] at hi; have := inst_up hi; rw [Ps.val_succ] at this; omega
   ·cases hi
  ·cases hi
theorem knF_ok {f : FuncId} {args : List CV} {V : CV} {L : List (Ps × CB)} (hp : plaL args = true) (hF : FactOk P f args V L) : KnOk P (knF f args V L) := by
 have key : ∀ f' args' r, knF f args V L f' args' = some r → f' = f ∧ args' = args ∧ r = ruF V L := fun f' args' r h => by
  unfold knF at h; split at h
  ·rename_i hf; split at h
   ·rename_i ha; cases h; exact ⟨Nat.eq_of_beq_eq_true hf, cEL_eq ha, rfl⟩
   ·cases h
  ·cases h
 refine ⟨fun f' args' r h n x h' n' hk hr g w vs hl hs hv => ?_, fun f' args' r h n x h' n' hk hr => ?_⟩
 ·obtain ⟨rfl, rfl, rfl⟩ := key f' args' r hk; unfold ruF at hr; split at hr
  ·rename_i m h2 n2 hi; split at hr
   ·rename_i y hy; cases hr; refine (hF w vs (plaL_ok hp hv)).mono fun e w' ⟨v, g', H, e1, e2, e3, e4, e5⟩ => ?_; obtain ⟨b1, b2⟩ := hs.st e2.env e2.drawn e2.size fun c hc => e2.keep c hc fun b hb => absurd (Tr.get_lf b) hb; obtain ⟨g2, c1, c2, c3, c4⟩ := inst_ok e2 e3 (gb := g) (hb := h) (fun p hp => hs.lt hp) hi e5 hl b1 b2 (fun _ _ h => by cases h) (fun _ _ h => by cases h) fun p hp => .inl (hs.lt hp); exact ⟨v, g2, e1, c3, c2, c1, ren_ok c4 hy e4⟩
   ·cases hr
  ·cases hr
 ·obtain ⟨rfl, rfl, rfl⟩ := key f' args' r hk; unfold ruF at hr; split at hr
  ·rename_i m h2 n2 hi; split at hr
   ·cases hr; exact inst_up hi
   ·cases hr
  ·cases hr
end Go.EX
