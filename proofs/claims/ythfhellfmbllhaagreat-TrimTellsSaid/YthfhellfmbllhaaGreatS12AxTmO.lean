/-
  The library: a map's keys, sorted, whatever its values; a slice's values, sorted.
  The library: slices.BinarySearch of numbers.
-/
import Derived.Test.YthfhellfmbllhaaGreatS12AxEvG
import Derived.Test.YthfhellfmbllhaaGreatS12AxTmL
import Derived.Test.YthfhellfmbllhaaGreatS12AxTmQ
import Derived.Test.YthfhellfmbllhaaGreatAxPt
namespace Go.AX
open Go.Proofs Go.Maps Go.Shelf
set_option linter.unusedSimpArgs false
def rAny (_ : Value) : Option (DataW Unit × List MemPlace) := some (.lit (.int .i64 0), [])
def k0 (ks : List Int) : List (Int × Int) := ks.map fun x => (x, 0)
def sortZ (l : List Int) : List Int := l.mergeSort fun x y => decide (x ≤ y)
theorem fitE_keys {β : Type} {f : β → PV} {G : Gh} : ∀ {kv : List (Int × β)} {en : List MapEntry}, FitE G (mapE f kv) en → en.map (·.key) = (kv.map (·.1)).map fun x => .int .i64 x
  | [], en, h => by
    have : en = [] := h
    rw [this]; rfl
  | q :: kv, en, ⟨m, r, h1, h2, h3, h4⟩ => by
    subst h1
    rw [List.map_cons, List.map_cons, List.map_cons, fitE_keys h4, h2]
section
variable {P : Program} {k : TypeId}
theorem rg_any (hk : P.underlying k = some (.int .i64)) : ∀ {en : List MapEntry} {ks : List Int}, en.map (·.key) = ks.map (fun x => .int .i64 x) → (∀ x ∈ ks, wfI x) →
    en.map (WideElems.rg P k rAny) = kvL (k0 ks) ∧ ∀ m ∈ en, ∃ y, WideElems.rd P k rAny m = some y
  | [], ks, h, _ => by
    cases ks with
    | nil => exact ⟨rfl, fun m hm => by cases hm⟩
    | cons _ _ => cases h
  | m :: en, ks, h, hw => by
    cases ks with
    | nil => cases h
    | cons q ks =>
      rw [List.map_cons, List.map_cons] at h
      injection h with h1 h2
      obtain ⟨i1, i2⟩ := rg_any hk h2 (fun q hq => hw q (List.mem_cons_of_mem _ hq))
      have hr : WideElems.rd P k rAny m = some (.int .i64 q, .lit (.int .i64 0)) := by
        unfold WideElems.rd
        rw [h1, keyOf_int_mk hk (hw q List.mem_cons_self)]
        simp [rAny]
      refine ⟨?_, fun m' hm' => ?_⟩
      · rw [List.map_cons, i1, WideElems.rg_of hr]; rfl
      · rcases List.mem_cons.1 hm' with rfl | hm'
        · exact ⟨_, hr⟩
        · exact i2 m' hm'
theorem owns_any {β : Type} {f : β → PV} (hk : P.underlying k = some (.int .i64)) {w : World} {c : Nat} {en : Array MapEntry} {ck : Nat} {G : Gh} {kv : List (Int × β)} (hc : w.heap[c]? = some (.map en ck)) (hf : FitE G (mapE f kv) en.toList) (hst : MapKept.Stamped en ck)
    (hw : ∀ q ∈ kv, wfI q.1) (hl : kv.length ≤ maxLen) : w.ownsMap P k rAny c kv.length (kvD (k0 (kv.map (·.1)))) := by
  have he := fitE_keys hf
  have hn : en.size = kv.length := by
    have := congrArg List.length he
    simpa using this
  obtain ⟨i1, i2⟩ := rg_any hk he (fun x hx => by
    rw [List.mem_map] at hx
    obtain ⟨q, hq, rfl⟩ := hx
    exact hw q hq)
  exact ⟨en, ck, hc, ⟨by omega, hst, i2⟩, by omega, by unfold kvD; rw [i1]⟩
end
theorem k0_keys (ks : List Int) : (k0 ks).map (·.1) = ks := by
  unfold k0
  rw [List.map_map]
  exact List.map_id ks
theorem sl24 : slInfo Tryz.prog (Tryz.sortedA_ren.t 24) = some (1, 8) := by kernel_rfl
theorem sortedMap_ok {β : Type} (f : β → PV) (kf : Nat) (kv : List (Int × β)) (hw : ∀ q ∈ kv, wfI q.1) (hl : kv.length ≤ 1000000) (ekf : ∀ args w, (callFunc kf args).run Tryz.prog w = .ok (.enter kf args) w)
    (hgiv : ∀ {H : Type} (Bm b nn : Nat) (D0 : DataW H) {R : Value → Option (DataW H × List MemPlace)} (w : World), Bm < w.heap.size → w.cell? ⟨Bm, 0, none⟩ = some (.map (some b)) → w.ownsMap Tryz.prog (Tryz.sortedA_ren.t 26) R b nn D0 → SeqGives Fence.wide 2 Tryz.prog kf #[.pointer (some ⟨Bm, 0, none⟩)] encZ (fun ss => ss.Perm (intKeys D0)) (Maps.size D0) w) :
    APtr Tryz.prog 45 kf (.amap false (mapE f kv)) (.own true 1 ((sortZ (kv.map (·.1))).map fun x => [I64 x])) := by
  refine ⟨by kernel_rfl, fun w Bm arr T v0 h1 h2 h3 => ?_⟩
  have hcell : w.cell? ⟨Bm, 0, none⟩ = some v0 := by
    have : arr[0]? = some v0 := by rw [← Array.getElem?_toList, h2]; rfl
    simp [World.cell?, h1, this]
  have hBm := (Array.getElem?_eq_some_iff.1 h1).1
  have main : ∀ (S : List Int → Prop) (N : Nat), N ≤ 1000000 → (∀ ss, S ss → ss.length ≤ N) → (∀ ss, S ss → sortZ ss = sortZ (kv.map (·.1))) → SeqGives Fence.wide 2 Tryz.prog kf #[.pointer (some ⟨Bm, 0, none⟩)] encZ S N w →
      Calls Tryz.prog 45 #[.func (.func kf) #[] #[.pointer (some ⟨Bm, 0, none⟩)]] w fun e w' => ∃ v g' o, e = .returned v ∧ PureEnd w w' g' ∧ SFit g' w' (.own true 1 ((sortZ (kv.map (·.1))).map fun x => [I64 x])) v o ∧ (SV.own true 1 ((sortZ (kv.map (·.1))).map fun x => [I64 x])).inCell = true ∧ ∀ c, o = some c → w.heap.size ≤ c ∧ g'.I c = none := by
    intro S N hN hS1 hS2 hseq
    have cS := sortedV Tryz.sortedA sl24 Fence.wide 5 trivial trivial trivial trivial rfl (by omega) (Tryz.sortsA _) (enters_of Tryz.func100 (by kernel_rfl) rfl) kf #[.pointer (some ⟨Bm, 0, none⟩)] trivial ekf S N (by unfold maxLen; omega) (by omega) w (SeqBelow.of hseq) hS1
    refine ((callsIn_wide (n := 5)).1 cS).mono fun e w' ⟨v, ss, he, hS, hrow, hone, hnl, hb⟩ => ?_
    have hm := hS2 ss hS
    have hl : ss.length = (sortZ (kv.map (·.1))).length := by rw [← hm]; unfold sortZ; rw [List.length_mergeSort]
    unfold sortZ at hm
    rw [hm] at hrow
    obtain ⟨g', o, h5, h6, h7, h8⟩ := aptr_end hl hrow hone hb
    exact ⟨v, g', o, he, h5, h6, h7, h8⟩
  obtain ⟨c, en, ck, rfl, h4, _, h5, h6⟩ := h3
  · have hown := owns_any (P := Tryz.prog) (k := Tryz.sortedA_ren.t 26) (by kernel_rfl) h4 h5 h6 hw (by unfold maxLen; omega)
    have hsz : Maps.size (kvD (k0 (kv.map (·.1)))) = kv.length := by rw [kvD_size]; unfold k0; rw [List.length_map, List.length_map]
    have hpk : ∀ ss : List Int, ss.Perm (intKeys (kvD (k0 (kv.map (·.1))))) → ss.Perm (kv.map (·.1)) := fun ss h => by
      have := h.trans (kvD_keys _)
      rwa [k0_keys] at this
    refine main _ _ (by rw [hsz]; omega) (fun ss h => ?_) (fun ss h => ?_) (hgiv Bm c kv.length (kvD (k0 (kv.map (·.1)))) w hBm hcell hown)
    · rw [(hpk ss h).length_eq, List.length_map, hsz]; exact Nat.le_refl _
    · exact mergeSort_of_perm_i (hpk ss h)
theorem sortedB_ok {β : Type} (f : β → PV) (kv : List (Int × β)) (hw : ∀ q ∈ kv, wfI q.1) (hl : kv.length ≤ 1000000) :
    APtr Tryz.prog 45 220 (.amap false (mapE f kv)) (.own true 1 ((sortZ (kv.map (·.1))).map fun x => [I64 x])) :=
  sortedMap_ok f _ kv hw hl (enters_of Tryz.func220 (by kernel_rfl) rfl)
    (fun {_} Bm b nn D0 {_} w h1 h2 h3 => AnyZI.keys_gives (ρ := Tryz.keysB_ren) { Tryz.keysB with } Fence.wide 2 trivial rfl (by omega) Bm b nn D0 w h1 h2 h3)
theorem sortedI_ok {β : Type} (f : β → PV) (kv : List (Int × β)) (hw : ∀ q ∈ kv, wfI q.1) (hl : kv.length ≤ 1000000) :
    APtr Tryz.prog 45 111 (.amap false (mapE f kv)) (.own true 1 ((sortZ (kv.map (·.1))).map fun x => [I64 x])) :=
  sortedMap_ok f _ kv hw hl (enters_of Tryz.func111 (by kernel_rfl) rfl)
    (fun {_} Bm b nn D0 {_} w h1 h2 h3 => AnyZI.keys_gives (ρ := Tryz.keysA_ren) { Tryz.keysA with } Fence.wide 2 trivial rfl (by omega) Bm b nn D0 w h1 h2 h3)
set_option maxRecDepth 16000 in
theorem keysN_ok (h : List (List SV)) (es : List (Int × PV)) : AMut Tryz.prog 211 [.amap false es] h (fun r h' => h' = h ++ [[.pv (.amap false es)]] ∧ r = .pv (.fn (.func 220) [] [.ptr h.length 0])) := by
  refine AMut.below (by kernel_rfl) fun hh => ?_
  refine amutX [] [.tmp 2] hmo Tryz.func211 (by kernel_rfl) rfl rfl (by kernel_rfl) (Nat.le_of_ble_eq_true rfl) ?_
  simp
set_option maxRecDepth 16000 in
theorem valsN_ok (h : List (List SV)) (l : List Int) : AMut Tryz.prog 157 [.seq false 1 (irow l)] h (fun r h' => h' = h ++ [[.pv (.seq false 1 (irow l))]] ∧ r = .pv (.fn (.func 189) [] [.ptr h.length 0])) := by
  refine AMut.below (by kernel_rfl) fun hh => ?_
  refine amutX [] [.tmp 2] hmo Tryz.func157 (by kernel_rfl) rfl rfl (by kernel_rfl) (Nat.le_of_ble_eq_true rfl) ?_
  simp
theorem sortedL_ok (l : List Int) (hl : l.length ≤ 1000000) : APtr Tryz.prog 45 189 (.seq false 1 (irow l)) (.own true 1 (irow (sortZ l))) := by
  refine ⟨by kernel_rfl, fun w Bm arr T v0 h1 h2 h3 => ?_⟩
  have hcell : w.cell? ⟨Bm, 0, none⟩ = some v0 := by
    have : arr[0]? = some v0 := by rw [← Array.getElem?_toList, h2]; rfl
    simp [World.cell?, h1, this]
  have hBm := (Array.getElem?_eq_some_iff.1 h1).1
  have hseq : SeqBelow Fence.wide 2 Tryz.prog 189 #[.pointer (some ⟨Bm, 0, none⟩)] (fun ss => ss = l) l.length w := by
    intro n J W hW _ hY h0
    have hc' := (hW.cell (p := ⟨Bm, 0, none⟩) hBm).trans hcell
    obtain ⟨p, cap, rfl, hcap, hrow⟩ := h3
    by_cases he : l = []
    · subst he
      exact (vals1_nil Fence.wide 2 trivial rfl n Bm cap p J W hc' h0).mono fun e W' ⟨he, hj⟩ => ⟨he, _, rfl, hj⟩
    · rcases hrow with hrow | ⟨c, off, arr2, T2, fz, vs, rfl, hI, _, hR, hpre⟩
      · unfold irow at hrow
        rw [List.map_eq_nil_iff] at hrow
        exact absurd hrow he
      · have hvs := fitR_ints hR
        have hb : c < w.heap.size := (Array.getElem?_eq_some_iff.1 hI).1
        have hll : (irow l).length = l.length := by simp
        rw [hll] at hc'
        refine (vals1_in Fence.wide 2 trivial rfl (by omega) n Bm w.heap.size c off cap l (by omega) hb J (fun pre x W1 a b => (hY pre x W1 a b).mono fun e W' ⟨a, b, _, d⟩ => ⟨a, b, d⟩) W hc' (fun j hj => ?_) h0).mono fun e W' ⟨he, hj⟩ => ⟨he, _, rfl, hj⟩
        rw [hW.cell (p := ⟨c, off + j, none⟩) hb]
        have hI' : w.heap[c]? = some (.cells arr2 T2 fz) := hI
        obtain ⟨tl, htl⟩ := hpre
        have : arr2[off + j]? = some (.int .i64 (l[j]?.getD 0)) := by
          rw [← Array.getElem?_toList]
          have h9 : (arr2.toList.drop off)[j]? = arr2.toList[off + j]? := List.getElem?_drop
          rw [← h9, ← htl, hvs, List.getElem?_append_left (by rw [List.length_map]; exact hj), List.getElem?_map, List.getElem?_eq_getElem hj]
          rfl
        simp [World.cell?, hI', this]
  have cS := sortedV Tryz.sortedA sl24 Fence.wide 5 trivial trivial trivial trivial rfl (by omega) (Tryz.sortsA _) (enters_of Tryz.func100 (by kernel_rfl) rfl) 189 #[.pointer (some ⟨Bm, 0, none⟩)] trivial (enters_of Tryz.func189 (by kernel_rfl) rfl) (fun ss => ss = l) l.length (by unfold maxLen; omega) (by omega) w hseq (fun ss h => by rw [h]; exact Nat.le_refl _)
  refine ((callsIn_wide (n := 5)).1 cS).mono fun e w' ⟨v, ss, he, hS, hrow, hone, hnl, hb⟩ => ?_
  subst hS
  obtain ⟨g', o, h5, h6, h7, h8⟩ := aptr_end (by rw [List.length_mergeSort]) hrow hone hb
  exact ⟨v, g', o, he, h5, h6, h7, h8⟩
end Go.AX

namespace Go.AX
open Go.Proofs
set_option linter.unusedSimpArgs false
theorem isNaN2_ok (n : Int) : APure Tryz.prog 212 [I64 n] (fun r => r = .pv (BL false)) := by
  refine apure1 hmo Tryz.func212 (by kernel_rfl) rfl rfl (by kernel_rfl) (Nat.le_of_ble_eq_true rfl) ?_
  simp
theorem tLess_ok (a b : Int) : APure Tryz.prog 178 [I64 a, I64 b] (fun r => r = .pv (BL (decide (a < b)))) := by
  refine apure1 hmo Tryz.func178 (by kernel_rfl) rfl rfl (by kernel_rfl) (Nat.le_of_ble_eq_true rfl) ?_
  simp
  refine CallK.intro (isNaN_ok a) (by simp) ?_
  simp
  refine CallG.intro (fun h : False => h.elim) (r := .pv (BL false)) (by simp) ?_
  simp
def bsI (l : List Int) (x : Int) : Nat := l.countP fun y => decide (y < x)
theorem bsI_is {l : List Int} {x : Int} {i : Nat} (hi : i ≤ l.length) (h1 : ∀ k (_ : k < l.length), k < i → l[k] < x) (h2 : ∀ k (_ : k < l.length), i ≤ k → x ≤ l[k]) : bsI l x = i := by
  unfold bsI
  rw [← List.take_append_drop i l, List.countP_append]
  have e1 : (l.take i).countP (fun y => decide (y < x)) = (l.take i).length := List.countP_eq_length.2 fun y hy => by
    obtain ⟨k, hk, rfl⟩ := List.getElem_of_mem hy
    rw [List.length_take] at hk
    rw [List.getElem_take]
    exact decide_eq_true (h1 k (by omega) (by omega))
  have e2 : (l.drop i).countP (fun y => decide (y < x)) = 0 := List.countP_eq_zero.2 fun y hy => by
    obtain ⟨k, hk, rfl⟩ := List.getElem_of_mem hy
    rw [List.length_drop] at hk
    rw [List.getElem_drop]
    have := h2 (i + k) (by omega) (by omega)
    simp; omega
  rw [e1, e2, List.length_take]
  omega
def bsB (l : List Int) (x : Int) : Bool := decide (l[bsI l x]? = some x)
theorem mid_is (i j : Nat) (h : i + j ≤ 4000000) : w64 ((IntKind.u64.wrap ((i : Int) + j)).fdiv (2 ^ min 1 IntKind.u64.bits)) = (((i + j) / 2 : Nat) : Int) := by
  have e1 : IntKind.u64.wrap ((i : Int) + j) = ((i + j : Nat) : Int) := by
    rw [show ((i : Int) + j) = ((i + j : Nat) : Int) by omega]
    have hb : IntKind.u64.bits = 64 := rfl
    have hs : IntKind.u64.signed = false := rfl
    unfold IntKind.wrap
    simp [hb, hs]
    omega
  have e2 : (2 : Int) ^ min 1 IntKind.u64.bits = 2 := by decide
  rw [e1, e2, Int.fdiv_eq_ediv_of_nonneg _ (by decide)]
  have : (((i + j : Nat) : Int) / 2) = (((i + j) / 2 : Nat) : Int) := by omega
  rw [this]
  exact w64_id (by omega) (by omega)
set_option maxRecDepth 16000 in
theorem bsearch_ok (l : List Int) (x : Int) (hl : l.length ≤ 1000000) (hs : l.Pairwise (· ≤ ·)) : APure Tryz.prog 196 [.seq false 1 (irow l), I64 x] (fun r => r = .pv (.tup [I64 (bsI l x), BL (bsB l x)])) := by
  refine apureN [4, 5] hmo Tryz.func196 (by kernel_rfl) rfl (fun _ _ => results_tmp2 rfl _ _ _) (by kernel_rfl) (Nat.le_of_ble_eq_true rfl) ?_
  have hm : ∀ j k (hj : j < l.length) (hk : k < l.length), j ≤ k → l[j] ≤ l[k] := fun j k hj hk h => by
    rcases Nat.lt_or_eq_of_le h with h | h
    · exact List.pairwise_iff_getElem.1 hs j k hj hk h
    · subst h; exact Int.le_refl _
  simp
  refine ALoop.intro (S := fun (p : Nat × Nat) => ⟨[(0, .pv (.seq false 1 (irow l))), (1, .pv (I64 x)), (6, .pv (I64 l.length)), (7, .pv (I64 p.1)), (8, .pv (I64 p.2))], []⟩) (fun p => p.1 ≤ p.2 ∧ p.2 ≤ l.length ∧ (∀ k (_ : k < l.length), k < p.1 → l[k] < x) ∧ ∀ k (_ : k < l.length), p.2 ≤ k → x ≤ l[k]) (fun p => p.2 - p.1) (0, l.length) ?_ ⟨Nat.zero_le _, Nat.le_refl _, (fun k _ h => by omega), (fun k h1 h2 => by omega)⟩ ?_
  · exact Weak.keep (by simp) rfl
  rintro ⟨i, j⟩ ⟨hij, hj, h1, h2⟩
  dsimp only at hij hj h1 h2
  by_cases c : i < j
  · have hwa : w64 ((i : Int) + j) = (i : Int) + j := w64_id (by omega) (by omega)
    have hmid := mid_is i j (by omega)
    generalize hmm : (i + j) / 2 = m at *
    have hml : m < l.length := by omega
    have hw : w64 ((m : Int) + 1) = ((m + 1 : Nat) : Int) := by rw [w64_id (by omega) (by omega)]; omega
    simp [c, hwa, hmid, hml]
    refine CallK.intro (tLess_ok l[m] x) (by simp) ?_
    by_cases d : l[m] < x
    · simp [d]
      exact ⟨(m + 1, j), by (try dsimp only); omega, ⟨by (try dsimp only); omega, hj, (fun k hk hkm => by have := hm k m hk hml (by (try dsimp only at hkm); omega); omega), h2⟩, Weak.keep (by simp [hw]) (by simp)⟩
    · simp [d]
      exact ⟨(i, m), by (try dsimp only); omega, ⟨by (try dsimp only); omega, by (try dsimp only); omega, h1, (fun k hk hkm => by have := hm m k hml hk (by (try dsimp only at hkm); omega); omega)⟩, Weak.keep (by simp) (by simp)⟩
  · have hie : i = j := by omega
    subst hie
    have hI := bsI_is hj h1 h2
    simp
    by_cases d : i < l.length
    · by_cases e : l[i] = x
      · have hB : bsB l x = true := by unfold bsB; rw [hI, List.getElem?_eq_getElem d, e]; simp
        simp [d, e, hI, hB]
        refine CallG.intro (fun h : False => h.elim) (r := .pv (BL false)) (by simp) ?_
        simp
        refine CallG.intro (fun h : False => h.elim) (r := .pv (BL false)) (by simp) ?_
        simp [hI, hB]
      · have hB : bsB l x = false := by unfold bsB; rw [hI, List.getElem?_eq_getElem d]; simpa using e
        simp [d, e, hI, hB]
        refine CallG.intro (fun _ => isNaN2_ok _) (by simp) ?_
        simp
        refine CallG.intro (fun h : False => h.elim) (r := .pv (BL false)) (by simp) ?_
        simp [hI, hB]
    · have hB : bsB l x = false := by unfold bsB; rw [hI, List.getElem?_eq_none (by omega)]; rfl
      simp [d, hI, hB]
      refine CallG.intro (fun h : False => h.elim) (r := .pv (BL false)) (by simp) ?_
      simp
      refine CallG.intro (fun h : False => h.elim) (r := .pv (BL false)) (by simp) ?_
      simp [hI, hB]
end Go.AX
