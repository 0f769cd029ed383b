/-
  AX, part SR: rows of plain values in a slice.
  AX, part BR: a function that is walked with a part of a block writes a slice of the caller's own in place; its elements are structs of plain values.
-/
import Derived.Test.YthfhellfmbllhaaGreatAxBL
import Derived.Test.YthfhellfmbllhaaGreatAxDr
import Derived.Sort.Grow
import Derived.Shelf.SlSortCmp.Insertion
namespace Go.AX
open Go.Sort
def rowsB {α : Type} (enc : α → List Value) (xs : List α) : List (List PV) := xs.map fun x => (enc x).map PV.lit
theorem fitL_litsV (G : Gh) : ∀ vs : List Value, FitL G (vs.map PV.lit) vs
  | [] => rfl
  | _ :: r => ⟨_, r, rfl, rfl, fitL_litsV G r⟩
theorem fitL_litsE {G : Gh} : ∀ {vs us : List Value}, FitL G (vs.map PV.lit) us → us = vs
  | [], _, h => h
  | v :: r, _, ⟨a, b, h1, h2, h3⟩ => by
    have h2' : a = v := h2
    rw [h1, h2', fitL_litsE h3]
theorem fitR_rowsB {α : Type} {enc : α → List Value} {k : Nat} (hk : ∀ x, (enc x).length = k) (h1 : ∀ x, ∀ v ∈ enc x, v.oneCell' = true) (G : Gh) : ∀ xs : List α, FitR G k (rowsB enc xs) (xs.flatMap enc)
  | [] => rfl
  | x :: xs => ⟨enc x, xs.flatMap enc, rfl, ⟨by rw [List.length_map, hk], h1 x⟩, fitL_litsV G _, fitR_rowsB hk h1 G xs⟩
theorem fitR_rowsB_eq {α : Type} {enc : α → List Value} {k : Nat} {G : Gh} : ∀ {xs : List α} {vs : List Value}, FitR G k (rowsB enc xs) vs → vs = xs.flatMap enc
  | [], _, h => h
  | x :: xs, _, ⟨v1, v2, h1, _, h3, h4⟩ => by
    rw [h1, fitL_litsE h3, fitR_rowsB_eq h4]; rfl
theorem flatMap_get {α : Type} {f : α → List Value} {k : Nat} (hk : ∀ x, (f x).length = k) (hp : 0 < k) : ∀ (l : List α) (t : Nat), (l.flatMap f)[t]? = l[t / k]?.bind fun x => (f x)[t % k]?
  | [], t => by simp
  | a :: l, t => by
    rw [List.flatMap_cons]
    rcases Nat.lt_or_ge t k with h | h
    · rw [List.getElem?_append_left (by rw [hk]; exact h), Nat.div_eq_of_lt h, Nat.mod_eq_of_lt h]
      simp
    · rw [List.getElem?_append_right (by rw [hk]; exact h), hk, flatMap_get hk hp l]
      obtain ⟨u, rfl⟩ : ∃ u, t = u + k := ⟨t - k, by omega⟩
      rw [Nat.add_sub_cancel, Nat.add_div_right _ hp, Nat.add_mod_right]
      simp
theorem flatMap_len {α : Type} {f : α → List Value} {k : Nat} (hk : ∀ x, (f x).length = k) : ∀ l : List α, (l.flatMap f).length = l.length * k
  | [] => by simp
  | a :: l => by rw [List.flatMap_cons, List.length_append, hk, flatMap_len hk l, List.length_cons, Nat.add_mul, Nat.one_mul, Nat.add_comm]
end Go.AX

namespace Go.AX
def blkV (pre vs suf : List Value) : List SV := pre.map (fun v => .pv (.lit v)) ++ (vs.map (fun v => .pv (.lit v)) ++ suf.map fun v => .pv (.lit v))
theorem blkV_length (pre vs suf : List Value) : (blkV pre vs suf).length = pre.length + vs.length + suf.length := by
  unfold blkV; simp only [List.length_append, List.length_map]; omega
theorem blkV_splice (pre vs suf : List Value) {i : Nat} {ys : List Value} (h : i + ys.length ≤ vs.length) :
    List.take (pre.length + i) (blkV pre vs suf) ++ (ys.map (fun v => SV.pv (.lit v)) ++ List.drop (pre.length + i + ys.length) (blkV pre vs suf)) = blkV pre (vs.take i ++ ys ++ vs.drop (i + ys.length)) suf := by
  unfold blkV
  have e1 : pre.length = (pre.map (fun v => SV.pv (PV.lit v))).length := by simp
  rw [show List.take (pre.length + i) (pre.map (fun v => SV.pv (PV.lit v)) ++ (vs.map (fun v => SV.pv (.lit v)) ++ suf.map fun v => .pv (.lit v))) = pre.map (fun v => SV.pv (PV.lit v)) ++ (vs.map (fun v => SV.pv (.lit v))).take i by
      rw [e1, List.take_length_add_append]; congr 1; rw [List.take_append_of_le_length (by simp; omega)],
    show List.drop (pre.length + i + ys.length) (pre.map (fun v => SV.pv (PV.lit v)) ++ (vs.map (fun v => SV.pv (.lit v)) ++ suf.map fun v => .pv (.lit v))) = (vs.map (fun v => SV.pv (.lit v))).drop (i + ys.length) ++ suf.map fun v => .pv (.lit v) by
      rw [Nat.add_assoc, e1, List.drop_length_add_append, List.drop_append_of_le_length (by simp; omega)]]
  simp only [List.map_append, List.map_take, List.map_drop, List.append_assoc]
theorem blkV_below (k : Nat) (pre vs suf : List Value) : belowC k (blkV pre vs suf) := by
  refine belowC_of fun x hx => ?_
  unfold blkV at hx
  simp only [List.mem_append, List.mem_map] at hx
  rcases hx with ⟨_, _, rfl⟩ | ⟨_, _, rfl⟩ | ⟨_, _, rfl⟩ <;> trivial
def resBk (ke : Nat) (k : Option Nat) (off cap : Nat) : SV := match k with
  | none => .pv (.tup [])
  | some m => .pv (.bsl 0 ke off m cap)
theorem AIn.ofRows {P : Program} {f : FuncId} {α : Type} {enc : α → List Value} {ke : Nat} (hke : ∀ x, (enc x).length = ke) (hone : ∀ x, ∀ v ∈ enc x, v.oneCell' = true) {zs : List α} {args : List PV} {R : Option Nat → List (List PV) → Prop} (hc : callable P f = true) (ho : oldL args) (hb : belowL 0 args)
    (h : zs ≠ [] → ∀ (pre suf : List Value) (cap : Nat), zs.length ≤ cap → zs.length ≤ maxLen → AMut P f (.bsl 0 ke pre.length zs.length cap :: args) [blkV pre (zs.flatMap enc) suf]
      (fun r h' => ∃ k zs', R k (rowsB enc zs') ∧ zs'.length = zs.length ∧ (∀ m, k = some m → m ≤ zs.length) ∧ r = resBk ke k pre.length cap ∧ h' = [blkV pre (zs'.flatMap enc) suf]))
    (h0 : zs = [] → ∀ (p : Option Addr) (cap : Nat), APure P f (.lit (.slice p 0 cap) :: args) (fun r => ∃ k, R k [] ∧ (k = none ∨ k = some 0) ∧ r = resN k p cap)) :
    AIn P f ke (rowsB enc zs) args R := by
  refine ⟨hc, fun hne w c cap arr T pre vs suf us h1 h2 h3 h4 h5 h6 hvals => ?_, fun he w p cap us h1 => ?_⟩
  · have hz : zs ≠ [] := fun e => hne (by rw [e]; rfl)
    have hlen : (rowsB enc zs).length = zs.length := by unfold rowsB; simp
    have hvs := fitR_rowsB_eq h5
    subst hvs
    rw [hlen] at h3 h4 ⊢
    have hcs : c < w.heap.size := (Array.getElem?_eq_some_iff.1 h1).1
    obtain ⟨G, hG⟩ : ∃ G : Gh, G = { I := fun k => if k = c then none else w.heap[k]?, F := fun _ => none, B := 0, μ := fun _ => c, n := 1, n0 := 1, N := 1, env := envOf w } := ⟨_, rfl⟩
    have hsim : Sim G ⟨[], [blkV pre (zs.flatMap enc) suf]⟩ ⟨#[undef], []⟩ w := by
      subst hG
      refine { size := rfl, defs := rfl, env := rfl, n := rfl, n0 := Nat.le_refl _, B := Nat.zero_le _, I := fun k o hk => ?_, F := fun k o hk => (by cases hk), μI := fun b hb => ⟨by simp, rfl⟩, μinj := fun b b' hb hb' _ => ?_, own := ⟨fun _ => none, ?_⟩, al := fun s => trivial }
      · by_cases e : k = c
        · subst e; simp at hk
        · simpa [e] using hk
      · dsimp only at hb hb'; omega
      · refine { slots := fun s => ⟨rfl, trivial⟩, blocks := fun b xs hx => ?_, inj := fun p q k hk => (by cases hk), free := fun p k hk => (by cases hk) }
        cases b with
        | succ b => simp at hx
        | zero =>
          simp only [List.getElem?_cons_zero, Option.some.injEq] at hx
          subst hx
          have hsz : arr.size = (blkV pre (zs.flatMap enc) suf).length := by rw [blkV_length, ← Array.length_toList, h2]; simp only [List.length_append, List.length_map]
          refine ⟨arr, T, h1, ⟨hsz, hvals⟩, fun k x hk => ?_⟩
          have hb2 : blkV pre (zs.flatMap enc) suf = arr.toList.map (fun v => .pv (.lit v)) := by
            rw [h2]; unfold blkV; simp only [List.map_append, List.append_assoc]
          rw [hb2, List.getElem?_map] at hk
          cases hk2 : arr.toList[k]? with
          | none => rw [hk2] at hk; cases hk
          | some u =>
            rw [hk2] at hk
            simp only [Option.map_some, Option.some.injEq] at hk
            subst hk
            refine ⟨rfl, rfl, ?_⟩
            show arr.getD k undef = u
            have : arr[k]? = some u := by rw [← Array.getElem?_toList]; exact hk2
            rw [Array.getD_eq_getD_getElem?, this]; rfl
    have hfit : FitL G (.bsl 0 ke pre.length zs.length cap :: args) (.slice (some ⟨c, pre.length, none⟩) zs.length cap :: us) := by
      refine ⟨_, _, rfl, ?_, ?_⟩
      · subst hG; exact ⟨Nat.zero_lt_one, h3, rfl⟩
      · refine FitL.monoC ⟨fun k arr' T' fz hk => ?_, fun k en ck hk => ?_⟩ _ _ (.inr ho) (.inl rfl) h6
        · obtain ⟨a1, a2⟩ := hide_C hk
          subst hG; simpa [a1] using a2
        · obtain ⟨a1, a2⟩ := hide_M hk
          subst hG; simpa [a1] using a2
    refine ((h hz pre suf cap h3 h4).2 G _ _ w _ hsim rfl hfit).mono fun e w' ⟨v, r, h', g', he, ⟨k, zs', r1, r2, r3, r4, r5⟩, t', hs'⟩ => ?_
    subst r4 r5
    have hs1 := hs' (some 0) (by subst hG; exact Nat.zero_lt_one)
    have hμ : g'.μ 0 = c := by rw [t'.μ 0 (by subst hG; exact Nat.zero_lt_one)]; subst hG; rfl
    obtain ⟨bl, hb'⟩ := hs1.own
    have hkeep : ∀ k, k < w.heap.size → k ≠ c → w'.heap[k]? = w.heap[k]? := fun k hk hkc => by
      have hI : G.I k = some w.heap[k] := by subst hG; simp [hkc]
      rw [hs1.I _ _ (t'.I _ _ hI), Array.getElem?_eq_getElem hk]
    refine ⟨k, rowsB enc zs', zs'.flatMap enc, r1, by unfold rowsB; simpa using r2, r3, ?_, ?_, ?_, hkeep, ?_, fun G _ => fitR_rowsB hke hone G zs'⟩
    · rw [he]
      have h0 := hb'.slots 0
      cases k with
      | none =>
        have h7 : SFit g' w' (.pv (.tup [])) v (bl (.slot 0)) := h0
        obtain ⟨_, vs, rfl, h8⟩ := h7
        have h8' : vs.toList = [] := h8
        have : vs = #[] := Array.ext' h8'
        rw [this]
      | some m =>
        have h7 : SFit g' w' (.pv (.bsl 0 ke pre.length m cap)) v (bl (.slot 0)) := h0
        obtain ⟨_, _, _, rfl⟩ := h7
        rw [hμ]
    · rw [hs1.env, t'.env]; subst hG; rfl
    · apply Nat.le_of_not_lt
      intro hlt
      have hc' : w'.heap[c]? ≠ none := by
        obtain ⟨arr', T', b1, _⟩ := hb'.blocks 0 (blkV pre (zs'.flatMap enc) suf) (by cases k <;> rfl)
        rw [hμ] at b1; rw [b1]; simp
      have h9 : w'.heap[w'.heap.size]? = none := by simp
      by_cases e : w'.heap.size = c
      · rw [e] at h9; exact hc' h9
      · rw [hkeep _ hlt e, Array.getElem?_eq_getElem hlt] at h9; cases h9
    · obtain ⟨arr', T', b1, ⟨b2, _⟩, b3⟩ := hb'.blocks 0 (blkV pre (zs'.flatMap enc) suf) (by cases k <;> rfl)
      rw [hμ] at b1
      refine ⟨T', ?_⟩
      rw [b1]
      have hb2 : blkV pre (zs'.flatMap enc) suf = (pre ++ zs'.flatMap enc ++ suf).map (fun v => .pv (.lit v)) := by
        unfold blkV; simp only [List.map_append, List.append_assoc]
      rw [hb2, List.length_map] at b2
      rw [cells_lits (bl := fun k => bl (.cell 0 k)) b2 fun k x hk => (b3 k x (by rw [hb2]; exact hk)).2]
  · have hz : zs = [] := by
      cases zs with
      | nil => rfl
      | cons _ _ => unfold rowsB at he; cases he
    subst hz
    have hfit : FitL (snap w) (.lit (.slice p 0 cap) :: args) (.slice p 0 cap :: us) := ⟨_, _, rfl, rfl, h1⟩
    refine ((h0 rfl p cap).2 w _ hfit).mono fun e w' ⟨v, r, g', o, he, ⟨k, r1, r2, r3⟩, hE, hF, _, _⟩ => ?_
    subst r3
    refine ⟨k, r1, r2, ?_, hE.env, hE.size, fun k hk => hE.keep k hk⟩
    rw [he]
    cases k with
    | none =>
      have h7 : SFit g' w' (.pv (.tup [])) v o := hF
      obtain ⟨_, vs, rfl, h8⟩ := h7
      have h8' : vs.toList = [] := h8
      have : vs = #[] := Array.ext' h8'
      rw [this]
    | some m =>
      have h7 : v = .slice p m cap := hF.2
      rw [h7]
end Go.AX
