/-
  AX, part BL: a function that is walked with a part of a block writes a slice of the caller's own in place.
-/
import Derived.Test.YtklaffmpfmpffaaGreatDoorAxBe
namespace Go.AX

/-- A block that holds numbers between others. -/
def blk (pre : List Value) (zs : List Int) (suf : List Value) : List SV := pre.map (fun v => .pv (.lit v)) ++ (zs.map (fun z => .pv (.lit (.int .i64 z))) ++ suf.map fun v => .pv (.lit v))
theorem blk_length (pre : List Value) (zs : List Int) (suf : List Value) : (blk pre zs suf).length = pre.length + zs.length + suf.length := by
  unfold blk; simp only [List.length_append, List.length_map]; omega
theorem blk_get (pre : List Value) (zs : List Int) (suf : List Value) {i : Nat} (h : i < zs.length) : (blk pre zs suf)[pre.length + i]? = some (.pv (.lit (.int .i64 zs[i]))) := by
  unfold blk
  rw [List.getElem?_append_right (by simp), List.length_map, Nat.add_sub_cancel_left, List.getElem?_append_left (by simpa using h), List.getElem?_map, List.getElem?_eq_getElem h]
  rfl
theorem blk_splice (pre : List Value) (zs : List Int) (suf : List Value) {i : Nat} {ys : List Int} (h : i + ys.length ≤ zs.length) :
    List.take (pre.length + i) (blk pre zs suf) ++ (ys.map (fun z => SV.pv (.lit (.int .i64 z))) ++ List.drop (pre.length + i + ys.length) (blk pre zs suf)) = blk pre (zs.take i ++ ys ++ zs.drop (i + ys.length)) suf := by
  unfold blk
  have e1 : pre.length = (pre.map (fun v => SV.pv (PV.lit v))).length := by simp
  rw [show List.take (pre.length + i) (pre.map (fun v => SV.pv (PV.lit v)) ++ (zs.map (fun z => SV.pv (.lit (.int .i64 z))) ++ suf.map fun v => .pv (.lit v))) = pre.map (fun v => SV.pv (PV.lit v)) ++ (zs.map (fun z => SV.pv (.lit (.int .i64 z)))).take i by
      rw [e1, List.take_length_add_append]; congr 1; rw [List.take_append_of_le_length (by simp; omega)],
    show List.drop (pre.length + i + ys.length) (pre.map (fun v => SV.pv (PV.lit v)) ++ (zs.map (fun z => SV.pv (.lit (.int .i64 z))) ++ suf.map fun v => .pv (.lit v))) = (zs.map (fun z => SV.pv (.lit (.int .i64 z)))).drop (i + ys.length) ++ suf.map fun v => .pv (.lit v) by
      rw [Nat.add_assoc, e1, List.drop_length_add_append, List.drop_append_of_le_length (by simp; omega)]]
  simp only [List.map_append, List.map_take, List.map_drop, List.append_assoc]
theorem blk_set (pre : List Value) (zs : List Int) (suf : List Value) {i : Nat} (y : Int) (h : i < zs.length) :
    List.take (pre.length + i) (blk pre zs suf) ++ SV.pv (.lit (.int .i64 y)) :: List.drop (pre.length + i + 1) (blk pre zs suf) = blk pre (zs.set i y) suf := by
  have := blk_splice pre zs suf (i := i) (ys := [y]) (by simp; omega)
  simp only [List.map_cons, List.map_nil, List.length_singleton, List.cons_append, List.nil_append] at this
  rw [this]
  congr 1
  rw [List.set_eq_take_append_cons_drop, if_pos h]
  simp

theorem frzB_blk (pre : List Value) (zs : List Int) (suf : List Value) (t : List (List SV)) (n : Nat) : frzB (frzP (blk pre zs suf :: t) (n + 1) 0 pre.length) 1 zs.length = .seq false 1 (zs.map fun z => [.lit (.int .i64 z)]) := by
  have hl := blk_length pre zs suf
  have e : (blk pre zs suf :: t).getD 0 [] = blk pre zs suf := rfl
  simp only [frzP, frzB, e, List.length_map]
  rw [if_pos ⟨trivial, by omega⟩]
  congr 1
  unfold blk
  simp only [List.map_append, List.map_map]
  rw [List.drop_left' (by simp), List.take_left' (by simp), List.map_map]
  rfl

theorem blk_below (k : Nat) (pre : List Value) (zs : List Int) (suf : List Value) : belowC k (blk pre zs suf) := by
  refine belowC_of fun x hx => ?_
  unfold blk at hx
  simp only [List.mem_append, List.mem_map] at hx
  rcases hx with ⟨_, _, rfl⟩ | ⟨_, _, rfl⟩ | ⟨_, _, rfl⟩ <;> trivial
theorem blk_fill (pre : List Value) (zs : List Int) (suf : List Value) {i n : Nat} (y : Int) (h : i + n ≤ zs.length) :
    List.take (pre.length + i) (blk pre zs suf) ++ (List.replicate n (SV.pv (.lit (.int .i64 y))) ++ List.drop (pre.length + i + n) (blk pre zs suf)) = blk pre (zs.take i ++ List.replicate n y ++ zs.drop (i + n)) suf := by
  have := blk_splice pre zs suf (i := i) (ys := List.replicate n y) (by simpa using h)
  simpa only [List.map_replicate, List.length_replicate] using this

/-- The cells of a block of plain values. -/
theorem cells_lits {g : Gh} {w : World} {arr : Array Value} {bl : Nat → Option Nat} {vs : List Value} (hs : arr.size = vs.length) (h : ∀ k x, (vs.map (fun v => SV.pv (.lit v)))[k]? = some x → SFit g w x (arr.getD k undef) (bl k)) : arr = vs.toArray := by
  apply Array.ext
  · simpa using hs
  · intro i h1 h2
    have := h i (.pv (.lit (vs[i]'(by omega)))) (by rw [List.getElem?_map, List.getElem?_eq_getElem (by omega)]; rfl)
    have h3 : arr.getD i undef = vs[i]'(by omega) := this.2
    simpa [Array.getD, h1] using h3

def intsB (zs : List Int) : List (List PV) := zs.map fun z => [.lit (.int .i64 z)]
theorem fitR_intsB (G : Gh) : ∀ zs : List Int, FitR G 1 (intsB zs) (zs.map (Value.int .i64))
  | [] => rfl
  | z :: zs => ⟨[.int .i64 z], zs.map (Value.int .i64), rfl, ⟨rfl, fun v hv => by simp at hv; subst hv; rfl⟩, ⟨_, _, rfl, rfl, rfl⟩, fitR_intsB G zs⟩
theorem fitR_intsB_eq {G : Gh} : ∀ {zs : List Int} {vs : List Value}, FitR G 1 (intsB zs) vs → vs = zs.map (Value.int .i64)
  | [], _, h => h
  | z :: zs, _, ⟨v1, v2, h1, _, h3, h4⟩ => by
    obtain ⟨v, r, rfl, h5, h6⟩ := h3
    have h5' : v = .int .i64 z := h5
    have h6' : r = [] := h6
    subst h5' h6'
    rw [h1, fitR_intsB_eq h4]; rfl

def resB (k : Option Nat) (off cap : Nat) : SV := match k with
  | none => .pv (.tup [])
  | some m => .pv (.bsl 0 1 off m cap)
def resN (k : Option Nat) (p : Option Addr) (cap : Nat) : SV := match k with
  | none => .pv (.tup [])
  | some m => .pv (.lit (.slice p m cap))

theorem AIn.ofInts {P : Program} {f : FuncId} {zs : List Int} {args : List PV} {R : Option Nat → List (List PV) → Prop} (hc : callable P f = true) (ho : oldL args) (hb : belowL 0 args)
    (h : zs ≠ [] → ∀ (pre suf : List Value) (cap : Nat), zs.length ≤ cap → zs.length ≤ maxLen → AMut P f (.bsl 0 1 pre.length zs.length cap :: args) [blk pre zs suf]
      (fun r h' => ∃ k zs', R k (intsB zs') ∧ zs'.length = zs.length ∧ (∀ m, k = some m → m ≤ zs.length) ∧ r = resB k pre.length cap ∧ h' = [blk pre zs' suf]))
    (h0 : zs = [] → ∀ (p : Option Addr) (cap : Nat), APure P f (.lit (.slice p 0 cap) :: args) (fun r => ∃ k, R k [] ∧ (k = none ∨ k = some 0) ∧ r = resN k p cap)) :
    AIn P f 1 (intsB zs) args R := by
  refine ⟨hc, fun hne w c cap arr T pre vs suf us h1 h2 h3 h4 h5 h6 hvals => ?_, fun he w p cap us h1 => ?_⟩
  · have hz : zs ≠ [] := fun e => hne (by rw [e]; rfl)
    have hlen : (intsB zs).length = zs.length := by unfold intsB; simp
    have hvs := fitR_intsB_eq h5
    subst hvs
    rw [hlen] at h3 h4 ⊢
    have hcs : c < w.heap.size := (Array.getElem?_eq_some_iff.1 h1).1
    obtain ⟨G, hG⟩ : ∃ G : Gh, G = { I := fun k => if k = c then none else w.heap[k]?, F := fun _ => none, B := 0, μ := fun _ => c, n := 1, n0 := 1, N := 1, env := envOf w } := ⟨_, rfl⟩
    have hsim : Sim G ⟨[], [blk pre zs suf]⟩ ⟨#[undef], []⟩ w := by
      subst hG
      refine { size := rfl, defs := rfl, env := rfl, n := rfl, n0 := Nat.le_refl _, B := Nat.zero_le _, I := fun k o hk => ?_, F := fun k o hk => (by cases hk), μI := fun b hb => ⟨by simp, rfl⟩, μinj := fun b b' hb hb' _ => ?_, own := ⟨fun _ => none, ?_⟩, al := fun s => trivial }
      · by_cases e : k = c
        · subst e; simp at hk
        · simpa [e] using hk
      · dsimp only at hb hb'; omega
      · refine { slots := fun s => ⟨rfl, trivial⟩, blocks := fun b xs hx => ?_, inj := fun p q k hk => (by cases hk), free := fun p k hk => (by cases hk) }
        cases b with
        | succ b => simp at hx
        | zero =>
          simp only [List.getElem?_cons_zero, Option.some.injEq] at hx
          subst hx
          have hsz : arr.size = (blk pre zs suf).length := by rw [blk_length, ← Array.length_toList, h2]; simp only [List.length_append, List.length_map]
          refine ⟨arr, T, h1, ⟨hsz, hvals⟩, fun k x hk => ?_⟩
          have hb2 : blk pre zs suf = arr.toList.map (fun v => .pv (.lit v)) := by
            rw [h2]; unfold blk; simp only [List.map_append, List.map_map, List.append_assoc]; rfl
          rw [hb2, List.getElem?_map] at hk
          cases hk2 : arr.toList[k]? with
          | none => rw [hk2] at hk; cases hk
          | some u =>
            rw [hk2] at hk
            simp only [Option.map_some, Option.some.injEq] at hk
            subst hk
            refine ⟨rfl, rfl, ?_⟩
            show arr.getD k undef = u
            have : arr[k]? = some u := by rw [← Array.getElem?_toList]; exact hk2
            rw [Array.getD_eq_getD_getElem?, this]; rfl
    have hfit : FitL G (.bsl 0 1 pre.length zs.length cap :: args) (.slice (some ⟨c, pre.length, none⟩) zs.length cap :: us) := by
      refine ⟨_, _, rfl, ?_, ?_⟩
      · subst hG; exact ⟨Nat.zero_lt_one, h3, rfl⟩
      · refine FitL.monoC ⟨fun k arr' T' fz hk => ?_, fun k en ck hk => ?_⟩ _ _ (.inr ho) (.inl rfl) h6
        · obtain ⟨a1, a2⟩ := hide_C hk
          subst hG; simpa [a1] using a2
        · obtain ⟨a1, a2⟩ := hide_M hk
          subst hG; simpa [a1] using a2
    refine ((h hz pre suf cap h3 h4).2 G _ _ w _ hsim rfl hfit).mono fun e w' ⟨v, r, h', g', he, ⟨k, zs', r1, r2, r3, r4, r5⟩, t', hs'⟩ => ?_
    subst r4 r5
    have hs1 := hs' (some 0) (by subst hG; exact Nat.zero_lt_one)
    have hμ : g'.μ 0 = c := by rw [t'.μ 0 (by subst hG; exact Nat.zero_lt_one)]; subst hG; rfl
    obtain ⟨bl, hb'⟩ := hs1.own
    have hkeep : ∀ k, k < w.heap.size → k ≠ c → w'.heap[k]? = w.heap[k]? := fun k hk hkc => by
      have hI : G.I k = some w.heap[k] := by subst hG; simp [hkc]
      rw [hs1.I _ _ (t'.I _ _ hI), Array.getElem?_eq_getElem hk]
    refine ⟨k, intsB zs', zs'.map (Value.int .i64), r1, by unfold intsB; simpa using r2, r3, ?_, ?_, ?_, hkeep, ?_, fun G _ => fitR_intsB G zs'⟩
    · rw [he]
      have h0 := hb'.slots 0
      cases k with
      | none =>
        have h7 : SFit g' w' (.pv (.tup [])) v (bl (.slot 0)) := h0
        obtain ⟨_, vs, rfl, h8⟩ := h7
        have h8' : vs.toList = [] := h8
        have : vs = #[] := Array.ext' h8'
        rw [this]
      | some m =>
        have h7 : SFit g' w' (.pv (.bsl 0 1 pre.length m cap)) v (bl (.slot 0)) := h0
        obtain ⟨_, _, _, rfl⟩ := h7
        rw [hμ]
    · rw [hs1.env, t'.env]; subst hG; rfl
    · apply Nat.le_of_not_lt
      intro hlt
      have hc' : w'.heap[c]? ≠ none := by
        obtain ⟨arr', T', b1, _⟩ := hb'.blocks 0 (blk pre zs' suf) (by cases k <;> rfl)
        rw [hμ] at b1; rw [b1]; simp
      have h9 : w'.heap[w'.heap.size]? = none := by simp
      by_cases e : w'.heap.size = c
      · rw [e] at h9; exact hc' h9
      · rw [hkeep _ hlt e, Array.getElem?_eq_getElem hlt] at h9; cases h9
    · obtain ⟨arr', T', b1, ⟨b2, _⟩, b3⟩ := hb'.blocks 0 (blk pre zs' suf) (by cases k <;> rfl)
      rw [hμ] at b1
      refine ⟨T', ?_⟩
      rw [b1]
      have hb2 : blk pre zs' suf = (pre ++ zs'.map (Value.int .i64) ++ suf).map (fun v => .pv (.lit v)) := by
        unfold blk; simp only [List.map_append, List.map_map, List.append_assoc]; rfl
      rw [hb2, List.length_map] at b2
      rw [cells_lits (bl := fun k => bl (.cell 0 k)) b2 fun k x hk => (b3 k x (by rw [hb2]; exact hk)).2]
  · have hz : zs = [] := by
      cases zs with
      | nil => rfl
      | cons _ _ => unfold intsB at he; cases he
    subst hz
    have hfit : FitL (snap w) (.lit (.slice p 0 cap) :: args) (.slice p 0 cap :: us) := ⟨_, _, rfl, rfl, h1⟩
    refine ((h0 rfl p cap).2 w _ hfit).mono fun e w' ⟨v, r, g', o, he, ⟨k, r1, r2, r3⟩, hE, hF, _, _⟩ => ?_
    subst r3
    refine ⟨k, r1, r2, ?_, hE.env, hE.size, fun k hk => hE.keep k hk⟩
    rw [he]
    cases k with
    | none =>
      have h7 : SFit g' w' (.pv (.tup [])) v o := hF
      obtain ⟨_, vs, rfl, h8⟩ := h7
      have h8' : vs.toList = [] := h8
      have : vs = #[] := Array.ext' h8'
      rw [this]
    | some m =>
      have h7 : v = .slice p m cap := hF.2
      rw [h7]

end Go.AX
