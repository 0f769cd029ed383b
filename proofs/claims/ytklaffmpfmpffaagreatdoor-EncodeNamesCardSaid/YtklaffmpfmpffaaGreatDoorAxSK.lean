/-
  AX, part SF: slices.SortFunc, from the library's contract: a slice of numbers is put in order in place.
  AX, part SK: slices.SortFunc at structs of plain values, from the library's contract: a slice of structs is put in order in place.
-/
import Derived.Test.YtklaffmpfmpffaaGreatDoorAxBL
import Derived.Test.YtklaffmpfmpffaaGreatDoorAxDr
import Derived.Shelf.SlSortCmp.NoneTotal
namespace Go.AX
open Go.Proofs Go.Shelf Go.Sort

theorem world_ext {w w' : World} (h1 : w.heap = w'.heap) (h2 : w.tape = w'.tape) (h3 : w.drawn = w'.drawn) (h4 : w.os = w'.os) (h5 : w.output = w'.output) : w = w' := by
  cases w; cases w'; simp only at h1 h2 h3 h4 h5; subst h1 h2 h3 h4 h5; rfl

/-- What keeps all that lay, has grown. -/
theorem grown_of {w w' : World} (he : envOf w' = envOf w) (hk : ∀ c, c < w.heap.size → w'.heap[c]? = w.heap[c]?) (hs : w.heap.size ≤ w'.heap.size) (hd : w.drawn ≤ w'.drawn) : ∃ q os, w' = grow (w.drewN q) os := by
  refine ⟨w'.drawn - w.drawn, w'.heap.extract w.heap.size w'.heap.size, ?_⟩
  unfold envOf at he
  simp only [Prod.mk.injEq] at he
  refine world_ext ?_ he.2.1 ?_ he.1 he.2.2
  · show w'.heap = w.heap ++ w'.heap.extract w.heap.size w'.heap.size
    apply Array.ext_getElem?
    intro k
    rw [Array.getElem?_append]
    split
    · exact hk k (by assumption)
    · rename_i h
      rw [Array.getElem?_extract]
      split
      · congr 1; omega
      · rw [Array.getElem?_eq_none]; omega
  · show w'.drawn = w.drawn + (w'.drawn - w.drawn); omega

theorem sortFunc_in {P : Program} {ρ : Ren} (L : SlLaysF.n6 P ρ) {α : Type} [Inhabited α] (z : α → Int) (cf : α → α → Int) (g : FuncId) (xs : List α) (hl : xs.length ≤ 1000000) (hO : SWO (ltOf cf)) (hT : ∀ x y, (ltOf cf) x y = false → (ltOf cf) y x = false → x = y)
    (eg : ∀ args w, (callFunc g args).run P w = .ok (.enter g args) w) (hc : callable P (ρ.f 6) = true) (hcf : ∀ x y, APure P g [.lit (.int .i64 (z x)), .lit (.int .i64 (z y))] (fun r => r = .pv (.lit (.int .i64 (cf x y))))) :
    AIn P (ρ.f 6) 1 (intsB (xs.map z)) [.fn (.func g) [] []] (fun k rows => k = none ∧ rows = intsB ((xs.mergeSort fun x y => !(ltOf cf) y x).map z)) := by
  have hus : ∀ {G : Gh} {us : List Value}, FitL G [.fn (.func g) [] []] us → us = [.func (.func g) #[] #[]] := by
    intro G us h
    obtain ⟨v, r, rfl, ⟨a, b, rfl, h1, h2⟩, h3⟩ := h
    have h1' : a = #[] := Array.ext' h1
    have h2' : b = #[] := Array.ext' h2
    have h3' : r = [] := h3
    subst h1' h2' h3'; rfl
  refine ⟨hc, fun hne w c cap arr T pre vs suf us h1 h2 h3 h4 h5 h6 hvals => ?_, fun he w p cap us h1 => ?_⟩
  · have hvs := fitR_intsB_eq h5
    subst hvs
    have hu := hus h6
    subst hu
    have hlen : (intsB (xs.map z)).length = xs.length := by unfold intsB; simp
    rw [hlen] at h3 h4 ⊢
    have hcs : c < w.heap.size := (Array.getElem?_eq_some_iff.1 h1).1
    have hasz : arr.size = pre.length + xs.length + suf.length := by
      rw [← Array.length_toList, h2]; simp only [List.length_append, List.length_map]
    let enc : α → Value := fun x => .int .i64 (z x)
    have hH : Holds enc w c pre.length xs.toArray := by
      intro j hj
      have hj' : j < xs.length := by simpa using hj
      constructor
      · rw [cell_of h1, ← Array.getElem?_toList, h2, List.append_assoc, List.getElem?_append_right (by omega), Nat.add_sub_cancel_left, List.getElem?_append_left (by simpa using hj'), List.getElem?_map, List.getElem?_map, List.getElem?_eq_getElem hj']
        simp only [Option.map_some]
        rw [getElem!_pos xs.toArray j hj]; simp [enc]
      · simp [World.frozen?, h1]
    have hcmp : CmpLays1 P g #[] enc cf c pre.length xs.toArray.size w := by
      intro m os dk hs x y
      have hfit : FitL (snap (sortWorld enc w c pre.length m dk os)) [.lit (.int .i64 (z x)), .lit (.int .i64 (z y))] [enc x, enc y] := ⟨_, _, rfl, rfl, _, _, rfl, rfl, rfl⟩
      have h := calls_drawn ((hcf x y).2 _ _ hfit) (fun e w' ⟨v, _, _, _, he, _⟩ => ⟨v, he⟩)
      refine Calls.mono (show Calls P g (#[enc x, enc y] ++ #[]) _ _ from h) fun e w' ⟨⟨v, r, g', o, he, hr, hE, hF, _, _⟩, hd⟩ => ?_
      subst hr
      have hv : v = .int .i64 (cf x y) := hF.2
      exact ⟨by rw [he, hv], grown_of hE.env hE.keep hE.size hd⟩
    have hS := Any.slices_SortFunc_total L enc (fun _ => rfl) cf hO g #[] c pre.length cap xs.toArray w eg hcmp hH hcs (by simpa using (by omega : xs.length < 4611686018427387904)) hT
    have hargs : ((Value.slice (some ⟨c, pre.length, none⟩) xs.length cap) :: [Value.func (.func g) #[] #[]]).toArray = #[.slice (some ⟨c, pre.length, none⟩) xs.toArray.size cap, .func (.func g) #[] #[]] := by simp
    rw [hargs]
    refine hS.mono fun e w' ⟨he, n, os, hw⟩ => ?_
    subst hw
    have hds : (xs.toArray.toList.mergeSort fun x y => !(ltOf cf) y x).length = xs.length := by rw [List.length_mergeSort]
    refine ⟨none, intsB ((xs.mergeSort fun x y => !(ltOf cf) y x).map z), ((xs.mergeSort fun x y => !(ltOf cf) y x).map z).map (Value.int .i64), ⟨rfl, rfl⟩, by unfold intsB; simp, fun m hm => (by cases hm), he, rfl, ?_, fun k hk hkc => ?_, ⟨T, ?_⟩, fun G _ => fitR_intsB G _⟩
    · show w.heap.size ≤ (w.heap.modify c _ ++ os).size
      rw [Array.size_append, Array.size_modify]; omega
    · show (w.heap.modify c _ ++ os)[k]? = _
      rw [Array.getElem?_append_left (by rw [Array.size_modify]; exact hk), Array.getElem?_modify, if_neg (Ne.symm hkc)]
    · show (w.heap.modify c _ ++ os)[c]? = _
      rw [Array.getElem?_append_left (by rw [Array.size_modify]; exact hcs), Array.getElem?_modify, if_pos rfl, h1]
      simp only [Option.map_some, onCells, Option.some.injEq, Obj.cells.injEq, and_true]
      apply Array.ext'
      apply List.ext_getElem?
      intro k
      rw [Array.getElem?_toList]
      simp only [putCells, Array.getElem?_mapIdx]
      by_cases hk : k < arr.size
      · rw [Array.getElem?_eq_getElem hk]
        simp only [Option.map_some]
        have hk2 : arr.toList[k]? = some arr[k] := by rw [Array.getElem?_toList, Array.getElem?_eq_getElem hk]
        rw [h2, List.append_assoc] at hk2
        rw [List.append_assoc]
        split
        · rename_i hr
          simp only [List.size_toArray, List.length_mergeSort] at hr
          rw [List.getElem?_append_right hr.1, List.getElem?_append_left (by simp; omega)]
          simp only [List.getElem?_map]
          have hb : k - pre.length < (xs.mergeSort fun x y => !(ltOf cf) y x).length := by rw [List.length_mergeSort]; omega
          rw [List.getElem?_eq_getElem hb, getElem!_pos (xs.toArray.toList.mergeSort fun x y => !(ltOf cf) y x).toArray (k - pre.length) (by simpa using hb)]
          simp [enc]
        · rename_i hr
          simp only [List.size_toArray, List.length_mergeSort] at hr
          by_cases hp : k < pre.length
          · rw [List.getElem?_append_left hp] at hk2 ⊢; exact hk2.symm
          · rw [List.getElem?_append_right (by omega), List.getElem?_append_right (by simp; omega)] at hk2 ⊢
            rw [← hk2]
            simp
      · rw [Array.getElem?_eq_none (by omega), List.getElem?_eq_none]
        · rfl
        · simp; omega
  · have hz : xs = [] := by
      cases xs with
      | nil => rfl
      | cons _ _ => unfold intsB at he; simp at he
    subst hz
    have hu := hus h1
    subst hu
    refine (AnyF.slices_SortFunc_none (P := P) (ρ := ρ) { L with } p cap (.func (.func g) #[] #[]) w).mono fun e w' ⟨h2, h3⟩ => ?_
    subst h3
    exact ⟨none, ⟨rfl, by simp [intsB]⟩, .inl rfl, h2, rfl, Nat.le_refl _, fun _ _ => rfl⟩

end Go.AX

namespace Go.AX
open Go.Proofs Go.Shelf Go.Sort

/-- Rows of plain values. -/
def rowsB {α : Type} (enc : α → List Value) (xs : List α) : List (List PV) := xs.map fun x => (enc x).map PV.lit
theorem fitL_litsV (G : Gh) : ∀ vs : List Value, FitL G (vs.map PV.lit) vs
  | [] => rfl
  | _ :: r => ⟨_, r, rfl, rfl, fitL_litsV G r⟩
theorem fitL_litsE {G : Gh} : ∀ {vs us : List Value}, FitL G (vs.map PV.lit) us → us = vs
  | [], _, h => h
  | v :: r, _, ⟨a, b, h1, h2, h3⟩ => by
    have h2' : a = v := h2
    rw [h1, h2', fitL_litsE h3]
theorem fitR_rowsB {α : Type} {enc : α → List Value} {k : Nat} (hk : ∀ x, (enc x).length = k) (h1 : ∀ x, ∀ v ∈ enc x, v.oneCell' = true) (G : Gh) : ∀ xs : List α, FitR G k (rowsB enc xs) (xs.flatMap enc)
  | [] => rfl
  | x :: xs => ⟨enc x, xs.flatMap enc, rfl, ⟨by rw [List.length_map, hk], h1 x⟩, fitL_litsV G _, fitR_rowsB hk h1 G xs⟩
theorem fitR_rowsB_eq {α : Type} {enc : α → List Value} {k : Nat} {G : Gh} : ∀ {xs : List α} {vs : List Value}, FitR G k (rowsB enc xs) vs → vs = xs.flatMap enc
  | [], _, h => h
  | x :: xs, _, ⟨v1, v2, h1, _, h3, h4⟩ => by
    rw [h1, fitL_litsE h3, fitR_rowsB_eq h4]; rfl

theorem flatMap_get {α : Type} {f : α → List Value} {k : Nat} (hk : ∀ x, (f x).length = k) (hp : 0 < k) : ∀ (l : List α) (t : Nat), (l.flatMap f)[t]? = l[t / k]?.bind fun x => (f x)[t % k]?
  | [], t => by simp
  | a :: l, t => by
    rw [List.flatMap_cons]
    rcases Nat.lt_or_ge t k with h | h
    · rw [List.getElem?_append_left (by rw [hk]; exact h), Nat.div_eq_of_lt h, Nat.mod_eq_of_lt h]
      simp
    · rw [List.getElem?_append_right (by rw [hk]; exact h), hk, flatMap_get hk hp l]
      obtain ⟨u, rfl⟩ : ∃ u, t = u + k := ⟨t - k, by omega⟩
      rw [Nat.add_sub_cancel, Nat.add_div_right _ hp, Nat.add_mod_right]
      simp
theorem flatMap_len {α : Type} {f : α → List Value} {k : Nat} (hk : ∀ x, (f x).length = k) : ∀ l : List α, (l.flatMap f).length = l.length * k
  | [] => by simp
  | a :: l => by rw [List.flatMap_cons, List.length_append, hk, flatMap_len hk l, List.length_cons, Nat.add_mul, Nat.one_mul, Nat.add_comm]
theorem flatK_list {α : Type} [Inhabited α] {f : α → List Value} {k : Nat} (hk : ∀ x, (f x).length = k) (hp : 0 < k) (d : Array α) : (flatK f k d).toList = d.toList.flatMap f := by
  apply List.ext_getElem?
  intro t
  rw [flatMap_get hk hp, Array.getElem?_toList, Array.getElem?_toList]
  rcases Nat.lt_or_ge t (d.size * k) with h | h
  · have hd : t / k < d.size := by rw [Nat.div_lt_iff_lt_mul hp]; exact h
    have hm : t % k < k := Nat.mod_lt _ hp
    rw [Array.getElem?_eq_getElem (by simpa using h), Array.getElem?_eq_getElem hd]
    simp only [flatK, Array.getElem_map, Array.getElem_range, Option.bind_some]
    rw [getElem!_pos d _ hd, List.getElem?_eq_getElem (by rw [hk]; exact hm), getElem!_pos _ _ (by rw [hk]; exact hm)]
  · have hd : d.size ≤ t / k := by rw [Nat.le_div_iff_mul_le hp]; exact h
    rw [Array.getElem?_eq_none (by simpa using h), Array.getElem?_eq_none hd]
    rfl

theorem sortFuncK_in {P : Program} {ρ : Ren} (L : SlLaysF0.n6 P ρ) {α : Type} [Inhabited α] (k : Nat) (hp : 0 < k) (aE : ∀ w, (isAgg (ρ.t 24)).run P w = .ok true w) (zE : ∀ w, (Go.sizeOf (ρ.t 24)).run P w = .ok k w) (enc : α → List Value) (hk : ∀ x, (enc x).length = k) (h1 : ∀ x, ∀ v ∈ enc x, v.oneCell' = true) (cf : α → α → Int) (g : FuncId) (xs : List α) (hl : xs.length ≤ 1000000) (hO : SWO (ltOf cf)) (hT : ∀ x y, (ltOf cf) x y = false → (ltOf cf) y x = false → x = y)
    (eg : ∀ args w, (callFunc g args).run P w = .ok (.enter g args) w) (hc : callable P (ρ.f 6) = true) (hcf : ∀ x y, APure P g [.agg ((enc x).map PV.lit), .agg ((enc y).map PV.lit)] (fun r => r = .pv (.lit (.int .i64 (cf x y))))) :
    AIn P (ρ.f 6) k (rowsB enc xs) [.fn (.func g) [] []] (fun kk rows => kk = none ∧ rows = rowsB enc (xs.mergeSort fun x y => !(ltOf cf) y x)) := by
  have hus : ∀ {G : Gh} {us : List Value}, FitL G [.fn (.func g) [] []] us → us = [.func (.func g) #[] #[]] := by
    intro G us h
    obtain ⟨v, r, rfl, ⟨a, b, rfl, h1, h2⟩, h3⟩ := h
    have h1' : a = #[] := Array.ext' h1
    have h2' : b = #[] := Array.ext' h2
    have h3' : r = [] := h3
    subst h1' h2' h3'; rfl
  refine ⟨hc, fun hne w c cap arr T pre vs suf us h1' h2 h3 h4 h5 h6 hvals => ?_, fun he w p cap us h1' => ?_⟩
  · have hvs := fitR_rowsB_eq h5
    subst hvs
    have hu := hus h6
    subst hu
    have hlen : (rowsB enc xs).length = xs.length := by unfold rowsB; simp
    rw [hlen] at h3 h4 ⊢
    have hcs : c < w.heap.size := (Array.getElem?_eq_some_iff.1 h1').1
    have hfl := flatMap_len hk xs
    have hasz : arr.size = pre.length + xs.length * k + suf.length := by
      rw [← Array.length_toList, h2]; simp only [List.length_append, hfl]
    have hH : HoldsK enc k w c pre.length xs.toArray := by
      intro j hj
      have hj' : j < xs.length * k := by simpa using hj
      have hjj : (flatK enc k xs.toArray)[j]? = (xs.flatMap enc)[j]? := by rw [← Array.getElem?_toList, flatK_list hk hp]
      constructor
      · rw [cell_of h1', ← Array.getElem?_toList, h2, List.append_assoc, List.getElem?_append_right (by omega), Nat.add_sub_cancel_left, List.getElem?_append_left (by rw [hfl]; exact hj'), ← hjj, Array.getElem?_eq_getElem hj, getElem!_pos _ j hj]
        rfl
      · simp [World.frozen?, h1']
    have hcmp : CmpLays P g #[] enc k cf c pre.length xs.toArray.size w := by
      intro m os dk hs x y
      have hfit : FitL (snap (sortWorldK enc k w c pre.length m dk os)) [.agg ((enc x).map PV.lit), .agg ((enc y).map PV.lit)] [.agg (enc x).toArray, .agg (enc y).toArray] :=
        ⟨_, _, rfl, ⟨_, rfl, fitL_litsV _ _⟩, _, _, rfl, ⟨_, rfl, fitL_litsV _ _⟩, rfl⟩
      have h := calls_drawn ((hcf x y).2 _ _ hfit) (fun e w' ⟨v, _, _, _, he, _⟩ => ⟨v, he⟩)
      rw [Array.append_empty]
      refine Calls.mono h fun e w' ⟨⟨v, r, g', o, he, hr, hE, hF, _, _⟩, hd⟩ => ?_
      subst hr
      have hv : v = .int .i64 (cf x y) := hF.2
      exact ⟨by rw [he, hv], grown_of hE.env hE.keep hE.size hd⟩
    have hsz0 : xs.toArray.size < 4611686018427387904 := by rw [List.size_toArray]; omega
    have hS := AnyQ.slices_SortFunc_total (P := P) (ρ := ρ) L k aE zE enc hk h1 cf hO g #[] c pre.length cap xs.toArray w eg hcmp hH hcs hsz0 hT
    have hargs : ((Value.slice (some ⟨c, pre.length, none⟩) xs.length cap) :: [Value.func (.func g) #[] #[]]).toArray = #[.slice (some ⟨c, pre.length, none⟩) xs.toArray.size cap, .func (.func g) #[] #[]] := by simp
    rw [hargs]
    refine hS.mono fun e w' ⟨he, n, os, hw⟩ => ?_
    subst hw
    let ys := xs.mergeSort fun x y => !(ltOf cf) y x
    have hys : ys.length = xs.length := List.length_mergeSort _
    have hyf := flatMap_len hk ys
    have hsz : (flatK enc k (xs.toArray.toList.mergeSort fun x y => !(ltOf cf) y x).toArray).size = xs.length * k := by rw [size_flatK]; simp [List.length_mergeSort]
    refine ⟨none, rowsB enc ys, ys.flatMap enc, ⟨rfl, rfl⟩, by unfold rowsB; simp [hys], fun m hm => (by cases hm), he, rfl, ?_, fun k' hk' hkc => ?_, ⟨T, ?_⟩, fun G _ => fitR_rowsB hk h1 G _⟩
    · show w.heap.size ≤ (w.heap.modify c _ ++ os).size
      rw [Array.size_append, Array.size_modify]; omega
    · show (w.heap.modify c _ ++ os)[k']? = _
      rw [Array.getElem?_append_left (by rw [Array.size_modify]; exact hk'), Array.getElem?_modify, if_neg (Ne.symm hkc)]
    · show (w.heap.modify c _ ++ os)[c]? = _
      rw [Array.getElem?_append_left (by rw [Array.size_modify]; exact hcs), Array.getElem?_modify, if_pos rfl, h1']
      simp only [Option.map_some, onCells, Option.some.injEq, Obj.cells.injEq, and_true]
      apply Array.ext'
      apply List.ext_getElem?
      intro k'
      rw [Array.getElem?_toList]
      simp only [putCells, Array.getElem?_mapIdx, hsz]
      by_cases hk' : k' < arr.size
      · rw [Array.getElem?_eq_getElem hk']
        simp only [Option.map_some]
        have hk2 : arr.toList[k']? = some arr[k'] := by rw [Array.getElem?_toList, Array.getElem?_eq_getElem hk']
        rw [h2, List.append_assoc] at hk2
        rw [List.append_assoc]
        split
        · rename_i hr
          rw [List.getElem?_append_right hr.1, List.getElem?_append_left (by rw [hyf, hys]; omega)]
          have hb : k' - pre.length < (flatK enc k (xs.toArray.toList.mergeSort fun x y => !(ltOf cf) y x).toArray).size := by rw [hsz]; omega
          rw [getElem!_pos (flatK enc k (xs.toArray.toList.mergeSort fun x y => !(ltOf cf) y x).toArray) _ hb]
          have : (flatK enc k (xs.toArray.toList.mergeSort fun x y => !(ltOf cf) y x).toArray)[k' - pre.length]? = (ys.flatMap enc)[k' - pre.length]? := by
            rw [← Array.getElem?_toList, flatK_list hk hp]
          rw [← this, Array.getElem?_eq_getElem hb]
          rfl
        · rename_i hr
          by_cases hp : k' < pre.length
          · rw [List.getElem?_append_left hp] at hk2 ⊢; exact hk2.symm
          · rw [List.getElem?_append_right (by omega), List.getElem?_append_right (by rw [hfl]; omega)] at hk2
            rw [List.getElem?_append_right (by omega), List.getElem?_append_right (by rw [hyf, hys]; omega), ← hk2]
            rw [hfl, hyf, hys]
      · rw [Array.getElem?_eq_none (by omega), List.getElem?_eq_none]
        · rfl
        · simp only [List.toList_toArray, List.length_append, hyf, hys]; omega
  · have hz : xs = [] := by
      cases xs with
      | nil => rfl
      | cons _ _ => unfold rowsB at he; simp at he
    subst hz
    have hu := hus h1'
    subst hu
    refine (AnyF.slices_SortFunc_none (P := P) (ρ := ρ) { L with } p cap (.func (.func g) #[] #[]) w).mono fun e w' ⟨h2, h3⟩ => ?_
    subst h3
    exact ⟨none, ⟨rfl, by simp [rowsB]⟩, .inl rfl, h2, rfl, Nat.le_refl _, fun _ _ => rfl⟩

/-- A function that holds nothing, told as a value. -/
theorem AIn.asFnO {P : Program} {f g : FuncId} {e : Nat} {rows : List (List PV)} {R : Option Nat → List (List PV) → Prop} (h : AIn P f e rows [.fn (.func g) [] []] R) : AIn P f e rows [.lit (.func (.func g) #[] #[])] R := by
  have hf : ∀ {G : Gh} {us : List Value}, FitL G [.lit (.func (.func g) #[] #[])] us → FitL G [.fn (.func g) [] []] us := fun ⟨v, r, h1, h2, h3⟩ => ⟨v, r, h1, ⟨#[], #[], h2, rfl, rfl⟩, h3⟩
  exact ⟨h.1, fun hn w c cap arr T pre vs suf us h1 h2 h3 h4 h5 h6 h7 => h.2.1 hn w c cap arr T pre vs suf us h1 h2 h3 h4 h5 (hf h6) h7, fun hn w p cap us h1 => h.2.2 hn w p cap us (hf h1)⟩

end Go.AX
