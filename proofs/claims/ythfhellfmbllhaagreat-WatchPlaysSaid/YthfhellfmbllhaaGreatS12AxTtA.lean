/-
  Contracts: lrat.Checker: a step.
  Contracts: lrat.New, lrat.Check.
  Contracts: trim: shown, Plain, empty.
  Contracts: trim: what is needed.
  Contracts: trim.copied, trim.Trim.
  Contracts: slices.DeleteFunc of a block's numbers.
  Contracts: replevinlaw10.Few, replevinlaw43.few, three; replevinref10.Same.
  Contracts: replevinlaw43.three, awake.
  Plain facts: checkers, and what is left of a plain proof.
  Plain facts: what is left of a proof is accepted, and is left as it is.
  Plain facts: what is needed, and the core.
-/
import Derived.Test.YthfhellfmbllhaaGreatS12AxTmS
import Derived.Test.YthfhellfmbllhaaGreatS12AxTmQ
import Derived.Test.YthfhellfmbllhaaGreatAxIs
import Derived.Test.YthfhellfmbllhaaGreatAxDr
import Derived.Sort.Grow
import Derived.Shelf.SlSortCmp.Insertion
import Derived.Test.YthfhellfmbllhaaGreatAxBe
namespace Go.AX
open Go.Proofs
set_option linter.unusedSimpArgs false
def addC (c : Ck) (s : Stp) : Ck × Int :=
  if s.id ≤ c.last then (c, 21) else if tautS s.lits = true then (c, 11) else if thereS c s.hints = false then (c, 20)
  else if shoC c s.lits s.hints ≠ 0 then (c, shoC c s.lits s.hints) else (putC c s.id s.lits, 0)
def stepC (c : Ck) (s : Stp) : Ck × Int :=
  if pchE [s] ≠ 0 then (c, pchE [s]) else if s.kind = 2 then (dropC c s.hints, dropE c s.hints) else addC c s
def newF (c : Ck) (l : List Int) : Ck := putC c (w64 (c.last + 1)) l
def newTo (L : List (List Int)) (i : Nat) : Ck := (L.take i).foldl newF ⟨[], 0, false⟩
def newC (L : List (List Int)) : Ck := newTo L L.length
def chkGo : Ck → List Stp → Nat → Int × Int
  | c, [], i => if c.done = true then ((i : Int), 0) else ((i : Int), 25)
  | c, s :: ss, i => if (stepC c s).2 ≠ 0 then ((i : Int), (stepC c s).2) else chkGo (stepC c s).1 ss (i + 1)
def chkS (v : Int) (L : List (List Int)) (ss : List Stp) : Int × Int := if (cnfS v L).2 ≠ 0 then (-1, (cnfS v L).2) else chkGo (newC L) ss 0
theorem wfI_of {x : Int} (h1 : 0 ≤ x) (h2 : x ≤ 20000000) : wfI x := by
  unfold wfI
  have e1 : IntKind.i64.min = -9223372036854775808 := by decide
  have e2 : IntKind.i64.max = 9223372036854775807 := by decide
  simp only [Lit.wf, e1, e2, Bool.and_eq_true, decide_eq_true_eq]
  omega
theorem pchE_one (s : Stp) : pchE [s] = if mayP s = true then 0 else 2 := by
  unfold pchE idxS
  cases hm : mayP s
  · simp [List.findIdx?_cons, hm]
  · simp [List.findIdx?_cons, hm]
theorem mayP_id {s : Stp} (h : mayP s = true) : (s.kind = 1 ∨ s.kind = 2) ∧ 0 ≤ s.id ∧ s.id ≤ 10000000 := by
  unfold mayP at h
  split at h
  · simp only [Bool.and_eq_true, decide_eq_true_eq] at h
    exact ⟨.inl (by assumption), by omega, by omega⟩
  · split at h
    · simp only [Bool.and_eq_true, decide_eq_true_eq] at h
      exact ⟨.inr (by assumption), by omega, by omega⟩
    · cases h
def shnB (c : Ck) (s : Stp) : Bool := (s.hints.all fun h => (lk c.m h).isSome) && decide ((shwS s.lits (rowsS c s.hints)).2 = 0)
def plnGo : Ck → List Stp → Bool
  | c, [] => c.done
  | c, s :: ss => if (s.kind = 1 ∧ shnB c s = false) ∨ (stepC c s).2 ≠ 0 then false else plnGo (stepC c s).1 ss
def plnS (v : Int) (L : List (List Int)) (ss : List Stp) : Bool := if (cnfS v L).2 ≠ 0 then false else plnGo (newC L) ss
def emGo1 : List (List Int) → Nat → Option Int
  | [], _ => none
  | c :: L, i => if c = [] then some ((i + 1 : Nat) : Int) else emGo1 L (i + 1)
def emGo2 : List Stp → Int
  | [] => 0
  | s :: ss => if s.kind = 1 ∧ s.lits = [] then s.id else emGo2 ss
def emptyS (L : List (List Int)) (ss : List Stp) : Int := (emGo1 L 0).getD (emGo2 ss)
def incS (m : List (Int × Int)) (k : Int) : List (Int × Int) := pt m k (w64 ((lk m k).getD 0 + 1))
def allTo1 : Nat → List (Int × Int)
  | 0 => []
  | i + 1 => incS (allTo1 i) ((i + 1 : Nat) : Int)
def allF (m : List (Int × Int)) (s : Stp) : List (Int × Int) := if s.kind = 1 then incS m s.id else m
def allS (L : List (List Int)) (ss : List Stp) : List (Int × Int) := ss.foldl allF (allTo1 L.length)
def mrkS (m : List (Int × Int)) (s : Stp) : List (Int × Int) := if s.kind = 1 ∧ 0 < (lk m s.id).getD 0 then s.hints.foldl incS m else m
def marR (m : List (Int × Int)) : List Stp → List (Int × Int)
  | [] => m
  | s :: ss => mrkS (marR m ss) s
def marksS (L : List (List Int)) (ss : List Stp) : List (Int × Int) := marR [(emptyS L ss, 1)] ss
def neeM (v : Int) (L : List (List Int)) (ss : List Stp) : List (Int × Int) := if plnS v L ss = true then marksS L ss else allS L ss
def keepS (p : Int → Int → Bool) (ss : List Stp) : List Stp := ss.filter fun s => !p s.kind s.id
def gonB (pl : Bool) (m : List (Int × Int)) (k id : Int) : Bool := pl && (decide (k ≠ 1) || decide ((lk m id).getD 0 = 0))
def trmS (v : Int) (L : List (List Int)) (ss : List Stp) : List Stp := keepS (gonB (plnS v L ss) (neeM v L ss)) ss
theorem icells_len (l : List Int) : (icells l).length = l.length := by unfold icells; simp
theorem frzB_ic (H : List (List SV)) (b : Nat) (zs : List Int) (sp : List SV) (hb : H[b]? = some (icells zs ++ sp)) (n : Nat) : frzB (frzP H (n + 1) b 0) 1 zs.length = .seq false 1 (irow zs) := by
  have e : H.getD b [] = icells zs ++ sp := by rw [List.getD_eq_getElem?_getD, hb]; rfl
  simp only [frzP, frzB, e, List.length_map]
  rw [if_pos ⟨trivial, by rw [List.length_append, icells_len]; omega⟩]
  congr 1
  unfold icells
  simp only [List.map_append, List.map_map]
  rw [List.drop_zero, List.take_left' (by simp), List.map_map]
  rfl
theorem belowC_ic (k : Nat) {sp : List SV} (h : belowC k sp) : ∀ l : List Int, belowC k (icells l ++ sp)
  | [] => h
  | _ :: l => ⟨trivial, belowC_ic k h l⟩
theorem stp_ext (a b : Stp) (h1 : a.kind = b.kind) (h2 : a.id = b.id) (h3 : a.lits = b.lits) (h4 : a.hints = b.hints) : a = b := by
  cases a; cases b; simp at *; exact ⟨h1, h2, h3, h4⟩
instance : DecidableEq Stp := fun a b => decidable_of_iff (a.kind = b.kind ∧ a.id = b.id ∧ a.lits = b.lits ∧ a.hints = b.hints) ⟨fun ⟨h1, h2, h3, h4⟩ => stp_ext a b h1 h2 h3 h4, fun h => by subst h; exact ⟨rfl, rfl, rfl, rfl⟩⟩
def L3 : List (List Int) := [[1], [-1], [2]]
def S3 : List Stp := [⟨1, 4, [2], [3]⟩, ⟨1, 5, [], [1, 2]⟩]
theorem pt_fresh {α : Type} : ∀ {l : List (Int × α)} {k : Int} {y : α}, (∀ q ∈ l, q.1 ≠ k) → pt l k y = l ++ [(k, y)]
  | [], _, _, _ => rfl
  | (j, x) :: l, k, y, h => by
    rw [pt, if_neg (h _ List.mem_cons_self), pt_fresh fun q hq => h q (List.mem_cons_of_mem _ hq)]
    rfl
abbrev Rise {α : Type} (l : List (Int × α)) : Prop := l.Pairwise fun p q => p.1 < q.1
theorem Rise.lk {α : Type} : ∀ {l : List (Int × α)}, Rise l → ∀ {k : Int} {x : α}, (k, x) ∈ l → lk l k = some x
  | (j, z) :: l, h, k, x, hm => by
    replace h := List.pairwise_cons.1 h
    rw [AX.lk]
    rcases List.mem_cons.1 hm with hm | hm
    · cases hm; rw [if_pos rfl]
    · have := h.1 _ hm
      simp only at this
      rw [if_neg (by omega)]
      exact Rise.lk h.2 hm
theorem dl_subl {α : Type} : ∀ (l : List (Int × α)) (k : Int), (dl l k).Sublist l
  | [], _ => List.Sublist.refl _
  | (j, x) :: l, k => by
    rw [dl]
    split
    · exact List.sublist_cons_self _ _
    · exact (dl_subl l k).cons_cons _
theorem foldl_dl_subl {α : Type} : ∀ (ids : List Int) (m : List (Int × α)), (ids.foldl dl m).Sublist m
  | [], _ => List.Sublist.refl _
  | id :: ids, m => (foldl_dl_subl ids (dl m id)).trans (dl_subl m id)
structure CkG (c : Ck) : Prop where
  rs : Rise c.m
  lo : ∀ q ∈ c.m, 1 ≤ q.1
  hi : ∀ q ∈ c.m, q.1 ≤ c.last
  t : 0 ≤ c.last ∧ c.last ≤ 20000000
theorem CkG.put {c : Ck} (h : CkG c) {id : Int} {l : List Int} (h1 : c.last < id) (h2 : id ≤ 20000000) : (putC c id l).m = c.m ++ [(id, l)] ∧ CkG (putC c id l) := by
  have hf : pt c.m id l = c.m ++ [(id, l)] := pt_fresh fun q hq => by have := h.hi q hq; omega
  have ht := h.t
  have hm : (putC c id l).m = c.m ++ [(id, l)] := hf
  refine ⟨hm, ⟨?_, ?_, ?_, ?_⟩⟩
  · rw [hm, Rise, List.pairwise_append]
    refine ⟨h.rs, List.pairwise_singleton _ _, fun q hq p hp => ?_⟩
    rw [List.mem_singleton] at hp
    subst hp
    have := h.hi q hq
    simp only; omega
  · rw [hm]
    intro q hq
    rcases List.mem_append.1 hq with hq | hq
    · exact h.lo q hq
    · rw [List.mem_singleton] at hq; subst hq; simp only; omega
  · rw [hm]
    intro q hq
    show q.1 ≤ id
    rcases List.mem_append.1 hq with hq | hq
    · have := h.hi q hq; omega
    · rw [List.mem_singleton] at hq; subst hq; exact Int.le_refl _
  · exact ⟨by show 0 ≤ id; omega, h2⟩
theorem CkG.drop {c : Ck} (h : CkG c) (ids : List Int) : CkG ⟨ids.foldl dl c.m, c.last, c.done⟩ := by
  have hs := foldl_dl_subl ids c.m
  exact ⟨h.rs.sublist hs, fun q hq => h.lo q (hs.subset hq), fun q hq => h.hi q (hs.subset hq), h.t⟩
theorem CkG.new (L : List (List Int)) (hL : L.length ≤ 100000) : ∀ i, i ≤ L.length → CkG (newTo L i) ∧ (newTo L i).last = i
  | 0, _ => ⟨⟨List.Pairwise.nil, fun q hq => absurd hq List.not_mem_nil, fun q hq => absurd hq List.not_mem_nil, ⟨Int.le_refl _, by show (0 : Int) ≤ 20000000; omega⟩⟩, rfl⟩
  | i + 1, hi => by
    obtain ⟨h1, h2⟩ := CkG.new L hL i (by omega)
    have hs : newTo L (i + 1) = newF (newTo L i) L[i] := foldl_take_succ newF _ L i (by omega)
    have hw : w64 ((newTo L i).last + 1) = ((i + 1 : Nat) : Int) := by rw [h2, w64_id (by omega) (by omega)]; omega
    rw [hs]
    unfold newF
    rw [hw]
    exact ⟨(h1.put (by omega) (by omega)).2, rfl⟩
theorem pchE_zero {s : Stp} (h : pchE [s] = 0) : mayP s = true := by
  rw [pchE_one] at h
  split at h
  · assumption
  · cases h
theorem stepC_zero {c : Ck} {s : Stp} (h : (stepC c s).2 = 0) : mayP s = true ∧ ((s.kind = 2 ∧ dropB c s.hints = false ∧ stepC c s = (⟨s.hints.foldl dl c.m, c.last, c.done⟩, 0)) ∨
    (s.kind = 1 ∧ c.last < s.id ∧ tautS s.lits = false ∧ thereS c s.hints = true ∧ shoC c s.lits s.hints = 0 ∧ stepC c s = (putC c s.id s.lits, 0))) := by
  by_cases hp : pchE [s] = 0
  rotate_left
  · unfold stepC at h
    rw [if_pos hp] at h
    exact absurd h hp
  have hm := pchE_zero hp
  refine ⟨hm, ?_⟩
  by_cases h2 : s.kind = 2
  · have e : stepC c s = (dropC c s.hints, dropE c s.hints) := by unfold stepC; rw [if_neg (by simp [hp]), if_pos h2]
    rw [e] at h
    have hb : dropB c s.hints = false := by
      cases hb : dropB c s.hints
      · rfl
      · unfold dropE at h; rw [if_pos hb] at h; cases h
    refine .inl ⟨h2, hb, ?_⟩
    rw [e]
    unfold dropC dropE dropTo
    rw [if_neg (by rw [hb]; simp), if_neg (by rw [hb]; simp), List.take_length]
  · have e : stepC c s = addC c s := by unfold stepC; rw [if_neg (by simp [hp]), if_neg h2]
    rw [e] at h ⊢
    have h1 := (mayP_id hm).1.resolve_right h2
    right
    unfold addC at h ⊢
    by_cases a1 : s.id ≤ c.last
    · rw [if_pos a1] at h; cases h
    rw [if_neg a1] at h ⊢
    by_cases a2 : tautS s.lits = true
    · rw [if_pos a2] at h; cases h
    rw [if_neg a2] at h ⊢
    by_cases a3 : thereS c s.hints = false
    · rw [if_pos a3] at h; cases h
    rw [if_neg a3] at h ⊢
    by_cases a4 : shoC c s.lits s.hints ≠ 0
    · rw [if_pos a4] at h; exact absurd h a4
    rw [if_neg a4]
    exact ⟨h1, by omega, by simpa using a2, by simpa using a3, by simpa using a4, rfl⟩
theorem stepC_add {c : Ck} {s : Stp} (h0 : mayP s = true) (h1 : s.kind = 1) (h2 : c.last < s.id) (h3 : tautS s.lits = false) (h4 : thereS c s.hints = true) (h5 : shoC c s.lits s.hints = 0) : stepC c s = (putC c s.id s.lits, 0) := by
  unfold stepC
  rw [if_neg (by rw [pchE_one, if_pos h0]; simp), if_neg (by omega)]
  unfold addC
  rw [if_neg (by omega), if_neg (by rw [h3]; simp), if_neg (by rw [h4]; simp), if_neg (by rw [h5]; simp)]
theorem stepC_good {c : Ck} (hc : CkG c) {s : Stp} (h : (stepC c s).2 = 0) : CkG (stepC c s).1 ∧ c.last ≤ (stepC c s).1.last := by
  obtain ⟨hm, h | h⟩ := stepC_zero h
  · rw [h.2.2]
    exact ⟨hc.drop _, Int.le_refl _⟩
  · obtain ⟨_, h2, _, _, _, h3⟩ := h
    rw [h3]
    have := (mayP_id hm).2.2
    exact ⟨(hc.put h2 (by omega)).2, Int.le_of_lt h2⟩
theorem spl_nonneg {hs : List Int} (h : ∀ x ∈ hs, 0 ≤ x) : splS hs = (hs, []) := by
  have : ∀ i, i ≤ hs.length → splTo hs i = (hs.take i, []) := by
    intro i
    induction i with
    | zero => intro _; rfl
    | succ i ih =>
      intro hi
      rw [splTo_succ hs (by omega), ih (by omega)]
      have := h hs[i] (List.getElem_mem _)
      unfold splF
      rw [if_neg (by omega), if_pos rfl, List.take_add_one, List.getElem?_eq_getElem (by omega)]
      rfl
  unfold splS
  rw [this _ (Nat.le_refl _), List.take_length]
theorem absM_pos {h : Int} (h1 : 1 ≤ h) (h2 : h ≤ 20000000) : absM h = h := by
  unfold absM
  rw [w64_id (by omega) (by omega), if_neg (by omega)]
theorem shown_hints {c : Ck} (hc : CkG c) {s : Stp} (h : shnB c s = true) : ∀ x ∈ s.hints, ∃ y, (x, y) ∈ c.m ∧ 1 ≤ x ∧ x ≤ c.last := by
  unfold shnB at h
  rw [Bool.and_eq_true, List.all_eq_true] at h
  intro x hx
  obtain ⟨y, hy⟩ := Option.isSome_iff_exists.1 (h.1 x hx)
  have := lk_in hy
  exact ⟨y, this, hc.lo _ this, hc.hi _ this⟩
theorem plnGo_cons {c : Ck} {s : Stp} {ss : List Stp} (h : plnGo c (s :: ss) = true) : (s.kind = 1 → shnB c s = true) ∧ (stepC c s).2 = 0 ∧ plnGo (stepC c s).1 ss = true := by
  rw [plnGo] at h
  split at h
  · cases h
  · rename_i hn
    rw [not_or] at hn
    refine ⟨fun k => ?_, by simpa using hn.2, h⟩
    cases e : shnB c s
    · exact absurd ⟨k, e⟩ hn.1
    · rfl
theorem plnGo_last : ∀ {ss : List Stp} {c : Ck}, CkG c → plnGo c ss = true → ∀ t ∈ ss, t.kind = 1 → c.last < t.id
  | s :: ss, c, hc, h, t, ht, hk => by
    obtain ⟨h1, h2, h3⟩ := plnGo_cons h
    obtain ⟨g1, g2⟩ := stepC_good hc h2
    rcases List.mem_cons.1 ht with rfl | ht
    · rcases (stepC_zero h2).2 with h4 | h4
      · omega
      · exact h4.2.1
    · have := plnGo_last g1 h3 t ht hk
      omega
/-! ### What is marked -/
def mkq (m : List (Int × Int)) (k : Int) : Prop := 0 < (lk m k).getD 0
instance (m : List (Int × Int)) (k : Int) : Decidable (mkq m k) := by unfold mkq; infer_instance
def cntB (n : Nat) (m : List (Int × Int)) : Prop := ∀ k, 0 ≤ (lk m k).getD 0 ∧ (lk m k).getD 0 ≤ n
theorem incS_get {m : List (Int × Int)} {n : Nat} (h : cntB n m) (hn : n ≤ 1000000000) (k x : Int) : (lk (incS m k) x).getD 0 = if k = x then (lk m k).getD 0 + 1 else (lk m x).getD 0 := by
  unfold incS
  rw [lk_pt]
  have := h k
  rw [w64_id (by omega) (by omega)]
  split <;> rfl
theorem incS_cnt {m : List (Int × Int)} {n : Nat} (h : cntB n m) (hn : n ≤ 1000000000) (k : Int) : cntB (n + 1) (incS m k) := fun x => by
  rw [incS_get h hn]
  have := h k
  have := h x
  split <;> omega
theorem incF_cnt : ∀ (hs : List Int) {m : List (Int × Int)} {n : Nat}, cntB n m → n + hs.length ≤ 1000000000 → cntB (n + hs.length) (hs.foldl incS m) ∧ ∀ x, mkq (hs.foldl incS m) x ↔ (x ∈ hs ∨ mkq m x)
  | [], m, n, h, _ => ⟨h, fun x => by simp⟩
  | k :: hs, m, n, h, hn => by
    rw [List.length_cons] at hn
    obtain ⟨h1, h2⟩ := incF_cnt hs (incS_cnt h (by omega) k) (by omega)
    rw [List.foldl_cons]
    refine ⟨by rw [List.length_cons]; rwa [show n + 1 + hs.length = n + (hs.length + 1) from (by omega)] at h1, fun x => ?_⟩
    rw [h2, List.mem_cons]
    have hx : mkq (incS m k) x ↔ (x = k ∨ mkq m x) := by
      unfold mkq
      rw [incS_get h (by omega)]
      have := h k
      constructor
      · intro h0
        split at h0
        · rename_i e; exact .inl e.symm
        · exact .inr h0
      · rintro (e | e)
        · rw [if_pos e.symm]; omega
        · split
          · omega
          · exact e
    rw [hx]
    constructor
    · rintro (a | a | a)
      · exact .inl (.inr a)
      · exact .inl (.inl a)
      · exact .inr a
    · rintro ((a | a) | a)
      · exact .inr (.inl a)
      · exact .inl a
      · exact .inr (.inr a)
theorem mrkS_mkq {m : List (Int × Int)} {n : Nat} (h : cntB n m) (s : Stp) (hn : n + s.hints.length ≤ 1000000000) : cntB (n + s.hints.length) (mrkS m s) ∧ ∀ x, mkq (mrkS m s) x ↔ ((s.kind = 1 ∧ mkq m s.id ∧ x ∈ s.hints) ∨ mkq m x) := by
  unfold mrkS
  by_cases c : s.kind = 1 ∧ 0 < (lk m s.id).getD 0
  · rw [if_pos c]
    obtain ⟨h1, h2⟩ := incF_cnt s.hints h hn
    refine ⟨h1, fun x => ?_⟩
    rw [h2]
    constructor
    · rintro (a | a)
      · exact .inl ⟨c.1, c.2, a⟩
      · exact .inr a
    · rintro (a | a)
      · exact .inl a.2.2
      · exact .inr a
  · rw [if_neg c]
    refine ⟨fun k => ⟨(h k).1, by have := (h k).2; omega⟩, fun x => ?_⟩
    constructor
    · exact .inr
    · rintro (a | a)
      · exact absurd ⟨a.1, a.2.1⟩ c
      · exact a
def hintN : List Stp → Nat
  | [] => 0
  | s :: ss => hintN ss + s.hints.length
theorem marR_cnt {m : List (Int × Int)} {n : Nat} (h : cntB n m) : ∀ (ss : List Stp), n + hintN ss ≤ 1000000000 → cntB (n + hintN ss) (marR m ss)
  | [], _ => h
  | s :: ss, hn => by
    rw [hintN] at hn ⊢
    have := (mrkS_mkq (marR_cnt h ss (by omega)) s (by omega)).1
    rwa [Nat.add_assoc] at this
theorem marR_cons {m : List (Int × Int)} {n : Nat} (h : cntB n m) (s : Stp) (ss : List Stp) (hn : n + hintN (s :: ss) ≤ 1000000000) (x : Int) : mkq (marR m (s :: ss)) x ↔ ((s.kind = 1 ∧ mkq (marR m ss) s.id ∧ x ∈ s.hints) ∨ mkq (marR m ss) x) := by
  rw [hintN] at hn
  exact (mrkS_mkq (marR_cnt h ss (by omega)) s (by omega)).2 x
def Ord : List Stp → Prop
  | [] => True
  | s :: ss => (∀ t ∈ ss, t.kind = 1 → s.kind = 1 → t.id ∉ s.hints) ∧ (s.kind = 1 → s.id ∉ s.hints) ∧ Ord ss
theorem marR_closed {m : List (Int × Int)} {n : Nat} (h : cntB n m) : ∀ (ss : List Stp), n + hintN ss ≤ 1000000000 → Ord ss → ∀ s ∈ ss, s.kind = 1 → mkq (marR m ss) s.id → ∀ x ∈ s.hints, mkq (marR m ss) x
  | s :: ss, hn, ho, t, ht, hk, hm, x, hx => by
    have hn' : n + hintN ss ≤ 1000000000 := by rw [hintN] at hn; omega
    rw [marR_cons h s ss hn] at hm ⊢
    rcases List.mem_cons.1 ht with rfl | ht
    · rcases hm with hm | hm
      · exact absurd hm.2.2 (ho.2.1 hk)
      · exact .inl ⟨hk, hm, hx⟩
    · rcases hm with hm | hm
      · exact absurd hm.2.2 (ho.1 t ht hk hm.1)
      · exact .inr (marR_closed h ss hn' ho.2.2 t ht hk hm x hx)
theorem marR_filter {m : List (Int × Int)} {n : Nat} (h : cntB n m) {F : Int → Prop} [DecidablePred F] : ∀ (ss : List Stp), n + hintN ss ≤ 1000000000 → (∀ x, mkq (marR m ss) x → F x) → marR m (ss.filter fun s => decide (s.kind = 1) && decide (F s.id)) = marR m ss
  | [], _, _ => rfl
  | s :: ss, hn, hF => by
    have hn' : n + hintN ss ≤ 1000000000 := by rw [hintN] at hn; omega
    have ih := marR_filter h ss hn' fun x hx => hF x ((marR_cons h s ss hn x).2 (.inr hx))
    rw [List.filter_cons]
    by_cases c : s.kind = 1 ∧ F s.id
    · rw [if_pos (by simp [c.1, c.2]), marR, marR, ih]
    · rw [if_neg (by simpa using c), ih, marR]
      unfold mrkS
      rw [if_neg]
      rintro ⟨h1, h2⟩
      exact c ⟨h1, hF _ ((marR_cons h s ss hn s.id).2 (.inr h2))⟩
theorem plnGo_ord : ∀ {ss : List Stp} {c : Ck}, CkG c → plnGo c ss = true → Ord ss
  | [], _, _, _ => trivial
  | s :: ss, c, hc, h => by
    obtain ⟨h1, h2, h3⟩ := plnGo_cons h
    obtain ⟨g1, g2⟩ := stepC_good hc h2
    refine ⟨fun t ht hk hs hin => ?_, fun hs hin => ?_, plnGo_ord g1 h3⟩
    · obtain ⟨y, _, _, h4⟩ := shown_hints hc (h1 hs) _ hin
      have := plnGo_last g1 h3 t ht hk
      omega
    · obtain ⟨y, _, _, h4⟩ := shown_hints hc (h1 hs) _ hin
      have := plnGo_last hc h s List.mem_cons_self hs
      omega
/-! ### The replay -/
structure RelK (M : Int → Prop) (c d : Ck) : Prop where
  last : d.last ≤ c.last
  m : ∀ q ∈ c.m, M q.1 → q ∈ d.m
theorem rows_same {M : Int → Prop} {c d : Ck} (hc : CkG c) (hd : CkG d) (hr : RelK M c d) {s : Stp} (h : shnB c s = true) (hM : ∀ x ∈ s.hints, M x) : shnB d s = true ∧ thereS d s.hints = true ∧ shoC d s.lits s.hints = 0 := by
  have hh := shown_hints hc h
  have hlk : ∀ x ∈ s.hints, lk d.m x = lk c.m x ∧ (lk d.m x).isSome = true := fun x hx => by
    obtain ⟨y, h1, _, _⟩ := hh x hx
    rw [hc.rs.lk h1, hd.rs.lk (hr.m _ h1 (hM x hx))]
    exact ⟨rfl, rfl⟩
  have hrows : rowsS d s.hints = rowsS c s.hints := by
    unfold rowsS
    exact List.map_congr_left fun x hx => by rw [(hlk x hx).1]
  unfold shnB at h ⊢
  rw [Bool.and_eq_true, List.all_eq_true] at h ⊢
  rw [hrows]
  refine ⟨⟨fun x hx => (hlk x hx).2, h.2⟩, ?_, ?_⟩
  · unfold thereS
    rw [List.all_eq_true]
    intro x hx
    obtain ⟨y, _, h2, h3⟩ := hh x hx
    have := hc.t
    rw [absM_pos h2 (by omega)]
    exact (hlk x hx).2
  · unfold shoC
    rw [spl_nonneg fun x hx => by obtain ⟨y, _, h2, _⟩ := hh x hx; omega]
    dsimp only
    rw [hrows]
    have h3 := of_decide_eq_true h.2
    rw [if_pos (.inl (by rw [h3]; decide)), h3]
def keep1 (F : Int → Prop) [DecidablePred F] (ss : List Stp) : List Stp := ss.filter fun s => decide (s.kind = 1) && decide (F s.id)
theorem replay {F : Int → Prop} [DecidablePred F] : ∀ (ss : List Stp) (c d : Ck) (i : Nat), CkG c → CkG d → RelK F c d → plnGo c ss = true → (∀ s ∈ ss, s.kind = 1 → F s.id → ∀ x ∈ s.hints, F x) →
    (d.done = true ∨ ∃ s ∈ ss, s.kind = 1 ∧ s.lits = [] ∧ F s.id) → plnGo d (keep1 F ss) = true ∧ chkGo d (keep1 F ss) i = (((i + (keep1 F ss).length : Nat) : Int), 0)
  | [], c, d, i, _, _, _, _, _, hdn => by
    have : d.done = true := hdn.resolve_right fun ⟨_, h, _⟩ => absurd h List.not_mem_nil
    refine ⟨this, ?_⟩
    show chkGo d [] i = _
    rw [chkGo, if_pos this]
    rfl
  | s :: ss, c, d, i, hc, hd, hr, hp, hF, hdn => by
    obtain ⟨h1, h2, h3⟩ := plnGo_cons hp
    obtain ⟨g1, g2⟩ := stepC_good hc h2
    have hF' : ∀ s ∈ ss, s.kind = 1 → F s.id → ∀ x ∈ s.hints, F x := fun t ht => hF t (List.mem_cons_of_mem _ ht)
    obtain ⟨hm, h4⟩ := stepC_zero h2
    by_cases k : s.kind = 1 ∧ F s.id
    · have h5 := h4.resolve_left fun h => by have := h.1; have := k.1; omega
      obtain ⟨_, a1, a2, a3, a4, a5⟩ := h5
      obtain ⟨b1, b2, b3⟩ := rows_same hc hd hr (h1 k.1) (hF s List.mem_cons_self k.1 k.2)
      have hdl : d.last < s.id := by have := hr.last; omega
      have e := stepC_add hm k.1 hdl a2 b2 b3
      have hid := (mayP_id hm).2.2
      obtain ⟨pm, pg⟩ := hd.put (l := s.lits) hdl (by omega)
      obtain ⟨qm, qg⟩ := hc.put (l := s.lits) a1 (by omega)
      have hk1 : keep1 F (s :: ss) = s :: keep1 F ss := by
        unfold keep1
        rw [List.filter_cons, if_pos (by simp [k.1, k.2])]
      have hr' : RelK F (putC c s.id s.lits) (putC d s.id s.lits) := ⟨Int.le_refl _, fun q hq hfq => by
        rw [qm] at hq
        rw [pm]
        rcases List.mem_append.1 hq with hq | hq
        · exact List.mem_append_left _ (hr.m q hq hfq)
        · exact List.mem_append_right _ hq⟩
      rw [a5] at h3
      obtain ⟨r1, r2⟩ := replay ss (putC c s.id s.lits) (putC d s.id s.lits) (i + 1) qg pg hr' h3 hF' (by
        rcases hdn with h | ⟨t, ht, t1, t2, t3⟩
        · exact .inl (by show (d.done || _) = true; rw [h]; rfl)
        · rcases List.mem_cons.1 ht with rfl | ht
          · exact .inl (by show (d.done || decide (t.lits.length = 0)) = true; rw [t2]; simp)
          · exact .inr ⟨t, ht, t1, t2, t3⟩)
      rw [hk1]
      constructor
      · rw [plnGo, e, if_neg (fun h => h.elim (fun h => by rw [b1] at h; exact absurd h.2 (by simp)) (fun h => h rfl))]
        exact r1
      · rw [chkGo, e, if_neg (by simp), r2, List.length_cons]
        congr 2
        omega
    · have hk1 : keep1 F (s :: ss) = keep1 F ss := by
        unfold keep1
        rw [List.filter_cons, if_neg (by simpa using k)]
      rw [hk1]
      refine replay ss (stepC c s).1 d i g1 hd ⟨Int.le_trans hr.last g2, fun q hq hfq => ?_⟩ h3 hF' (by
        rcases hdn with h | ⟨t, ht, t1, t2, t3⟩
        · exact .inl h
        · rcases List.mem_cons.1 ht with rfl | ht
          · exact absurd ⟨t1, t3⟩ k
          · exact .inr ⟨t, ht, t1, t2, t3⟩)
      rcases h4 with h4 | h4
      · rw [h4.2.2] at hq
        exact hr.m q ((foldl_dl_subl _ _).subset hq) hfq
      · rw [h4.2.2.2.2.2] at hq
        have hid := (mayP_id hm).2.2
        rw [(hc.put h4.2.1 (by omega)).1] at hq
        rcases List.mem_append.1 hq with hq | hq
        · exact hr.m q hq hfq
        · rw [List.mem_singleton] at hq
          subst hq
          exact absurd ⟨h4.1, hfq⟩ k
theorem chkGo_at : ∀ (ss : List Stp) (c : Ck) (i : Nat), (chkGo c ss i).2 = 0 → (chkGo c ss i).1 = ((i + ss.length : Nat) : Int)
  | [], c, i, h => by
    rw [chkGo] at h ⊢
    split at h
    · rw [if_pos (by assumption)]; rfl
    · cases h
  | s :: ss, c, i, h => by
    rw [chkGo] at h ⊢
    split at h
    · rename_i hn; exact absurd h hn
    · rw [if_neg (by assumption), chkGo_at ss _ _ h, List.length_cons]
      congr 1
      omega
theorem newTo_done (L : List (List Int)) : ∀ i, i ≤ L.length → ((newTo L i).done = true ↔ ∃ c ∈ L.take i, c = [])
  | 0, _ => by
    constructor
    · intro h; cases h
    · rintro ⟨c, hc, _⟩; rw [List.take_zero] at hc; exact absurd hc List.not_mem_nil
  | i + 1, hi => by
    have hs : newTo L (i + 1) = newF (newTo L i) L[i] := foldl_take_succ newF _ L i (by omega)
    have ih := newTo_done L i (by omega)
    rw [hs]
    show ((newTo L i).done || decide (L[i].length = 0)) = true ↔ _
    rw [List.take_add_one, List.getElem?_eq_getElem (by omega), Bool.or_eq_true, ih, decide_eq_true_iff, List.length_eq_zero_iff]
    constructor
    · rintro (⟨c, h1, h2⟩ | h)
      · exact ⟨c, List.mem_append_left _ h1, h2⟩
      · exact ⟨_, List.mem_append_right _ (by simp), h⟩
    · rintro ⟨c, h1, h2⟩
      rcases List.mem_append.1 h1 with h1 | h1
      · exact .inl ⟨c, h1, h2⟩
      · simp at h1; subst h1; exact .inr h2
theorem emGo1_none : ∀ (L : List (List Int)) (i : Nat), emGo1 L i = none ↔ ∀ c ∈ L, c ≠ []
  | [], i => by simp [emGo1]
  | c :: L, i => by
    rw [emGo1]
    by_cases h : c = []
    · rw [if_pos h]; simp [h]
    · rw [if_neg h, emGo1_none L]; simp [h]
theorem plnGo_done : ∀ {ss : List Stp} {c : Ck}, plnGo c ss = true → c.done = true ∨ ∃ s ∈ ss, s.kind = 1 ∧ s.lits = []
  | [], c, h => .inl h
  | s :: ss, c, h => by
    obtain ⟨h1, h2, h3⟩ := plnGo_cons h
    rcases plnGo_done h3 with h4 | ⟨t, ht, h5⟩
    · rcases (stepC_zero h2).2 with h6 | h6
      · rw [h6.2.2] at h4; exact .inl h4
      · rw [h6.2.2.2.2.2] at h4
        have h4' : (c.done || decide (s.lits.length = 0)) = true := h4
        rw [Bool.or_eq_true, decide_eq_true_iff, List.length_eq_zero_iff] at h4'
        rcases h4' with h7 | h7
        · exact .inl h7
        · exact .inr ⟨s, List.mem_cons_self, h6.1, h7⟩
    · exact .inr ⟨t, List.mem_cons_of_mem _ ht, h5⟩
theorem emGo2_first : ∀ {ss : List Stp}, (∃ s ∈ ss, s.kind = 1 ∧ s.lits = []) → ∃ s ∈ ss, s.kind = 1 ∧ s.lits = [] ∧ s.id = emGo2 ss
  | s :: ss, ⟨t, ht, h1, h2⟩ => by
    by_cases c : s.kind = 1 ∧ s.lits = []
    · exact ⟨s, List.mem_cons_self, c.1, c.2, by rw [emGo2, if_pos c]⟩
    · have ht' : t ∈ ss := by
        rcases List.mem_cons.1 ht with rfl | ht
        · exact absurd ⟨h1, h2⟩ c
        · exact ht
      obtain ⟨u, k1, k2, k3, k4⟩ := emGo2_first ⟨t, ht', h1, h2⟩
      exact ⟨u, List.mem_cons_of_mem _ k1, k2, k3, by rw [emGo2, if_neg c]; exact k4⟩
theorem emGo2_keep {F : Int → Prop} [DecidablePred F] : ∀ {ss : List Stp}, F (emGo2 ss) → emGo2 (keep1 F ss) = emGo2 ss
  | [], _ => rfl
  | s :: ss, hf => by
    unfold keep1
    rw [List.filter_cons]
    by_cases c : s.kind = 1 ∧ s.lits = []
    · have e : emGo2 (s :: ss) = s.id := by rw [emGo2, if_pos c]
      rw [e] at hf ⊢
      rw [if_pos (by simp [c.1, hf]), emGo2, if_pos c]
    · have e : emGo2 (s :: ss) = emGo2 ss := by rw [emGo2, if_neg c]
      rw [e] at hf ⊢
      have ih := emGo2_keep (F := F) hf
      split
      · rw [emGo2, if_neg c]; exact ih
      · exact ih
theorem cntB_one (k : Int) : cntB 1 [(k, 1)] := fun x => by
  rw [lk, lk]
  split
  · exact ⟨by decide, by decide⟩
  · exact ⟨Int.le_refl _, by show (0 : Int) ≤ 1; decide⟩
theorem mkq_one (k : Int) : mkq [(k, 1)] k := by unfold mkq lk; rw [if_pos rfl]; decide
def Nee (L : List (List Int)) (ss : List Stp) (x : Int) : Prop := mkq (marksS L ss) x
instance (L : List (List Int)) (ss : List Stp) (x : Int) : Decidable (Nee L ss x) := by unfold Nee; infer_instance
theorem chkS_zero {v : Int} {L : List (List Int)} {ss : List Stp} (h : (chkS v L ss).2 = 0) : (cnfS v L).2 = 0 ∧ chkS v L ss = chkGo (newC L) ss 0 := by
  unfold chkS at h ⊢
  split at h
  · rename_i hn; exact absurd h hn
  · rename_i hn; exact ⟨by simpa using hn, if_neg hn⟩
theorem trmS_not {v : Int} {L : List (List Int)} {ss : List Stp} (h : plnS v L ss = false) : trmS v L ss = ss := by
  unfold trmS keepS
  rw [h]
  exact List.filter_eq_self.2 fun s _ => by simp [gonB]
section
variable {v : Int} {L : List (List Int)} {ss : List Stp} (hn : 1 + hintN ss ≤ 1000000000)
include hn
theorem trmS_plain (h : plnS v L ss = true) : trmS v L ss = keep1 (Nee L ss) ss := by
  unfold trmS keepS keep1
  rw [h]
  have hm : neeM v L ss = marksS L ss := by unfold neeM; rw [if_pos h]
  rw [hm]
  apply List.filter_congr
  intro s _
  have := marR_cnt (cntB_one (emptyS L ss)) ss hn s.id
  unfold gonB Nee mkq
  show (!(true && (decide (s.kind ≠ 1) || decide ((lk (marksS L ss) s.id).getD 0 = 0)))) = _
  have e : (lk (marR [(emptyS L ss, 1)] ss) s.id).getD 0 = (lk (marksS L ss) s.id).getD 0 := rfl
  rw [e] at this
  rw [Bool.true_and, Bool.not_or, ← decide_not, ← decide_not]
  congr 1
  · exact decide_eq_decide.2 (by simp)
  · exact decide_eq_decide.2 (by omega)
theorem nee_empty : Nee L ss (emptyS L ss) := by
  have : ∀ l : List Stp, 1 + hintN l ≤ 1000000000 → mkq (marR [(emptyS L ss, 1)] l) (emptyS L ss) := by
    intro l
    induction l with
    | nil => intro _; exact mkq_one _
    | cons s l ih => intro h; exact (marR_cons (cntB_one _) s l h _).2 (.inr (ih (by rw [hintN] at h; omega)))
  exact this ss hn
theorem nee_done (hp : plnGo (newC L) ss = true) : (newC L).done = true ∨ ∃ s ∈ ss, s.kind = 1 ∧ s.lits = [] ∧ Nee L ss s.id := by
  by_cases hd : (newC L).done = true
  · exact .inl hd
  right
  obtain ⟨s, h1, h2, h3, h4⟩ := emGo2_first ((plnGo_done hp).resolve_left hd)
  refine ⟨s, h1, h2, h3, ?_⟩
  have he : emptyS L ss = s.id := by
    unfold emptyS
    rw [(emGo1_none L 0).2, h4]
    · rfl
    · intro c hc e
      exact hd ((newTo_done L L.length (Nat.le_refl _)).2 ⟨c, by rw [List.take_length]; exact hc, e⟩)
  rw [← he]
  exact nee_empty hn
theorem emptyS_keep : emptyS L (keep1 (Nee L ss) ss) = emptyS L ss := by
  have hE := nee_empty (L := L) hn
  unfold emptyS at hE ⊢
  cases h : emGo1 L 0 with
  | some x => rfl
  | none => rw [h] at hE; exact emGo2_keep hE
theorem marks_keep : marksS L (keep1 (Nee L ss) ss) = marksS L ss := by
  unfold marksS
  rw [emptyS_keep hn]
  exact marR_filter (cntB_one _) ss hn fun x hx => hx
end
theorem hintN_keep {F : Int → Prop} [DecidablePred F] : ∀ ss : List Stp, hintN (keep1 F ss) ≤ hintN ss
  | [] => Nat.le_refl _
  | s :: ss => by
    have := hintN_keep (F := F) ss
    unfold keep1 at *
    rw [List.filter_cons]
    split
    · rw [hintN, hintN]; omega
    · rw [hintN]; omega
theorem keep_keep {F G : Int → Prop} [DecidablePred F] [DecidablePred G] (h : ∀ x, G x ↔ F x) (ss : List Stp) : keep1 G (keep1 F ss) = keep1 F ss := by
  unfold keep1
  rw [List.filter_filter]
  apply List.filter_congr
  intro s _
  rw [decide_eq_decide.2 (h s.id), Bool.and_self]
theorem stays {v : Int} {L : List (List Int)} {ss : List Stp} (hL : L.length ≤ 100000) (hn : 1 + hintN ss ≤ 1000000000) (h : (chkS v L ss).2 = 0) :
    (chkS v L (trmS v L ss)) = (((trmS v L ss).length : Int), 0) ∧ trmS v L (trmS v L ss) = trmS v L ss ∧ (trmS v L ss).Sublist ss := by
  obtain ⟨h1, h2⟩ := chkS_zero h
  cases hp : plnS v L ss
  · rw [trmS_not hp]
    refine ⟨?_, trmS_not hp, List.Sublist.refl _⟩
    rw [h2] at h ⊢
    have := chkGo_at ss (newC L) 0 h
    rw [Nat.zero_add] at this
    exact Prod.ext this h
  · have hpl : plnGo (newC L) ss = true := by unfold plnS at hp; rw [if_neg (by simp [h1])] at hp; exact hp
    have hg := (CkG.new L hL L.length (Nat.le_refl _)).1
    have ho := plnGo_ord hg hpl
    have hcl := marR_closed (cntB_one (emptyS L ss)) ss hn ho
    obtain ⟨r1, r2⟩ := replay (F := Nee L ss) ss (newC L) (newC L) 0 hg hg ⟨Int.le_refl _, fun q hq _ => hq⟩ hpl hcl (nee_done hn hpl)
    have hp2 : plnS v L (keep1 (Nee L ss) ss) = true := by unfold plnS; rw [if_neg (by simp [h1])]; exact r1
    rw [trmS_plain hn hp]
    refine ⟨?_, ?_, List.filter_sublist⟩
    · unfold chkS
      rw [if_neg (by simp [h1]), r2, Nat.zero_add]
    · have hn2 : 1 + hintN (keep1 (Nee L ss) ss) ≤ 1000000000 := by have := hintN_keep (F := Nee L ss) ss; omega
      rw [trmS_plain hn2 hp2]
      have hN : ∀ x, Nee L (keep1 (Nee L ss) ss) x ↔ Nee L ss x := fun x => by
        show mkq (marksS L (keep1 (Nee L ss) ss)) x ↔ mkq (marksS L ss) x
        rw [marks_keep hn]
      exact keep_keep hN ss
theorem pt_keysT {α : Type} : ∀ (l : List (Int × α)) (k : Int) (y : α) (x : Int), x ∈ (pt l k y).map (·.1) ↔ x = k ∨ x ∈ l.map (·.1)
  | [], k, y, x => by simp [pt]
  | (j, z) :: l, k, y, x => by
    rw [pt]
    by_cases c : j = k
    · rw [if_pos c]; subst c; simp
    · rw [if_neg c, List.map_cons, List.mem_cons, pt_keysT l k y x, List.map_cons, List.mem_cons]
      constructor
      · rintro (h | h | h)
        · exact .inr (.inl h)
        · exact .inl h
        · exact .inr (.inr h)
      · rintro (h | h | h)
        · exact .inr (.inl h)
        · exact .inl h
        · exact .inr (.inr h)
theorem pt_nodupT {α : Type} : ∀ (l : List (Int × α)) (k : Int) (y : α), (l.map (·.1)).Nodup → ((pt l k y).map (·.1)).Nodup
  | [], k, y, _ => by simp [pt]
  | (j, z) :: l, k, y, h => by
    rw [List.map_cons, List.nodup_cons] at h
    rw [pt]
    by_cases c : j = k
    · rw [if_pos c, List.map_cons, List.nodup_cons]; subst c; exact h
    · rw [if_neg c, List.map_cons, List.nodup_cons, pt_keysT]
      exact ⟨fun hh => hh.elim c h.1, pt_nodupT l k y h.2⟩
theorem mem_sortZ {l : List Int} {x : Int} : x ∈ sortZ l ↔ x ∈ l := by
  unfold sortZ
  exact (List.mergeSort_perm l _).mem_iff
end Go.AX
