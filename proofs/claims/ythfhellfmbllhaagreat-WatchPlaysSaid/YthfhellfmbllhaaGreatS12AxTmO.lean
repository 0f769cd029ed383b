/-
  The library: a map's keys, sorted, whatever its values; a slice's values, sorted.
  The library: slices.BinarySearch of numbers.
-/
import Derived.Test.YthfhellfmbllhaaGreatS12AxEvG
import Derived.Test.YthfhellfmbllhaaGreatS12AxTmL
import Derived.Test.YthfhellfmbllhaaGreatS12AxTmQ
import Derived.Test.YthfhellfmbllhaaGreatAxPt
namespace Go.AX
open Go.Proofs Go.Maps Go.Shelf
set_option linter.unusedSimpArgs false
def rAny (_ : Value) : Option (DataW Unit × List MemPlace) := some (.lit (.int .i64 0), [])
def k0 (ks : List Int) : List (Int × Int) := ks.map fun x => (x, 0)
def sortZ (l : List Int) : List Int := l.mergeSort fun x y => decide (x ≤ y)
theorem fitE_keys {β : Type} {f : β → PV} {G : Gh} : ∀ {kv : List (Int × β)} {en : List MapEntry}, FitE G (mapE f kv) en → en.map (·.key) = (kv.map (·.1)).map fun x => .int .i64 x
  | [], en, h => by
    have : en = [] := h
    rw [this]; rfl
  | q :: kv, en, ⟨m, r, h1, h2, h3, h4⟩ => by
    subst h1
    rw [List.map_cons, List.map_cons, List.map_cons, fitE_keys h4, h2]
section
variable {P : Program} {k : TypeId}
theorem rg_any (hk : P.underlying k = some (.int .i64)) : ∀ {en : List MapEntry} {ks : List Int}, en.map (·.key) = ks.map (fun x => .int .i64 x) → (∀ x ∈ ks, wfI x) →
    en.map (WideElems.rg P k rAny) = kvL (k0 ks) ∧ ∀ m ∈ en, ∃ y, WideElems.rd P k rAny m = some y
  | [], ks, h, _ => by
    cases ks with
    | nil => exact ⟨rfl, fun m hm => by cases hm⟩
    | cons _ _ => cases h
  | m :: en, ks, h, hw => by
    cases ks with
    | nil => cases h
    | cons q ks =>
      rw [List.map_cons, List.map_cons] at h
      injection h with h1 h2
      obtain ⟨i1, i2⟩ := rg_any hk h2 (fun q hq => hw q (List.mem_cons_of_mem _ hq))
      have hr : WideElems.rd P k rAny m = some (.int .i64 q, .lit (.int .i64 0)) := by
        unfold WideElems.rd
        rw [h1, keyOf_int_mk hk (hw q List.mem_cons_self)]
        simp [rAny]
      refine ⟨?_, fun m' hm' => ?_⟩
      · rw [List.map_cons, i1, WideElems.rg_of hr]; rfl
      · rcases List.mem_cons.1 hm' with rfl | hm'
        · exact ⟨_, hr⟩
        · exact i2 m' hm'
theorem owns_any {β : Type} {f : β → PV} (hk : P.underlying k = some (.int .i64)) {w : World} {c : Nat} {en : Array MapEntry} {ck : Nat} {G : Gh} {kv : List (Int × β)} (hc : w.heap[c]? = some (.map en ck)) (hf : FitE G (mapE f kv) en.toList) (hst : MapKept.Stamped en ck)
    (hw : ∀ q ∈ kv, wfI q.1) (hl : kv.length ≤ maxLen) : w.ownsMap P k rAny c kv.length (kvD (k0 (kv.map (·.1)))) := by
  have he := fitE_keys hf
  have hn : en.size = kv.length := by
    have := congrArg List.length he
    simpa using this
  obtain ⟨i1, i2⟩ := rg_any hk he (fun x hx => by
    rw [List.mem_map] at hx
    obtain ⟨q, hq, rfl⟩ := hx
    exact hw q hq)
  exact ⟨en, ck, hc, ⟨by omega, hst, i2⟩, by omega, by unfold kvD; rw [i1]⟩
end
theorem k0_keys (ks : List Int) : (k0 ks).map (·.1) = ks := by
  unfold k0
  rw [List.map_map]
  exact List.map_id ks
theorem sl24 : slInfo Tryz.prog (Tryz.sortedA_ren.t 24) = some (1, 8) := by kernel_rfl
theorem sortedMap_ok {β : Type} (f : β → PV) (kf : Nat) (kv : List (Int × β)) (hw : ∀ q ∈ kv, wfI q.1) (hl : kv.length ≤ 1000000) (ekf : ∀ args w, (callFunc kf args).run Tryz.prog w = .ok (.enter kf args) w)
    (hgiv : ∀ {H : Type} (Bm b nn : Nat) (D0 : DataW H) {R : Value → Option (DataW H × List MemPlace)} (w : World), Bm < w.heap.size → w.cell? ⟨Bm, 0, none⟩ = some (.map (some b)) → w.ownsMap Tryz.prog (Tryz.sortedA_ren.t 26) R b nn D0 → SeqGives Fence.wide 2 Tryz.prog kf #[.pointer (some ⟨Bm, 0, none⟩)] encZ (fun ss => ss.Perm (intKeys D0)) (Maps.size D0) w) :
    APtr Tryz.prog 45 kf (.amap false (mapE f kv)) (.own true 1 ((sortZ (kv.map (·.1))).map fun x => [I64 x])) := by
  refine ⟨by kernel_rfl, fun w Bm arr T v0 h1 h2 h3 => ?_⟩
  have hcell : w.cell? ⟨Bm, 0, none⟩ = some v0 := by
    have : arr[0]? = some v0 := by rw [← Array.getElem?_toList, h2]; rfl
    simp [World.cell?, h1, this]
  have hBm := (Array.getElem?_eq_some_iff.1 h1).1
  have main : ∀ (S : List Int → Prop) (N : Nat), N ≤ 1000000 → (∀ ss, S ss → ss.length ≤ N) → (∀ ss, S ss → sortZ ss = sortZ (kv.map (·.1))) → SeqGives Fence.wide 2 Tryz.prog kf #[.pointer (some ⟨Bm, 0, none⟩)] encZ S N w →
      Calls Tryz.prog 45 #[.func (.func kf) #[] #[.pointer (some ⟨Bm, 0, none⟩)]] w fun e w' => ∃ v g' o, e = .returned v ∧ PureEnd w w' g' ∧ SFit g' w' (.own true 1 ((sortZ (kv.map (·.1))).map fun x => [I64 x])) v o ∧ (SV.own true 1 ((sortZ (kv.map (·.1))).map fun x => [I64 x])).inCell = true ∧ ∀ c, o = some c → w.heap.size ≤ c ∧ g'.I c = none := by
    intro S N hN hS1 hS2 hseq
    have cS := sortedV Tryz.sortedA sl24 Fence.wide 5 trivial trivial trivial trivial rfl (by omega) (Tryz.sortsA _) (enters_of Tryz.func100 (by kernel_rfl) rfl) kf #[.pointer (some ⟨Bm, 0, none⟩)] trivial ekf S N (by unfold maxLen; omega) (by omega) w (SeqBelow.of hseq) hS1
    refine ((callsIn_wide (n := 5)).1 cS).mono fun e w' ⟨v, ss, he, hS, hrow, hone, hnl, hb⟩ => ?_
    have hm := hS2 ss hS
    have hl : ss.length = (sortZ (kv.map (·.1))).length := by rw [← hm]; unfold sortZ; rw [List.length_mergeSort]
    unfold sortZ at hm
    rw [hm] at hrow
    obtain ⟨g', o, h5, h6, h7, h8⟩ := aptr_end hl hrow hone hb
    exact ⟨v, g', o, he, h5, h6, h7, h8⟩
  obtain ⟨c, en, ck, rfl, h4, _, h5, h6⟩ := h3
  · have hown := owns_any (P := Tryz.prog) (k := Tryz.sortedA_ren.t 26) (by kernel_rfl) h4 h5 h6 hw (by unfold maxLen; omega)
    have hsz : Maps.size (kvD (k0 (kv.map (·.1)))) = kv.length := by rw [kvD_size]; unfold k0; rw [List.length_map, List.length_map]
    have hpk : ∀ ss : List Int, ss.Perm (intKeys (kvD (k0 (kv.map (·.1))))) → ss.Perm (kv.map (·.1)) := fun ss h => by
      have := h.trans (kvD_keys _)
      rwa [k0_keys] at this
    refine main _ _ (by rw [hsz]; omega) (fun ss h => ?_) (fun ss h => ?_) (hgiv Bm c kv.length (kvD (k0 (kv.map (·.1)))) w hBm hcell hown)
    · rw [(hpk ss h).length_eq, List.length_map, hsz]; exact Nat.le_refl _
    · exact mergeSort_of_perm_i (hpk ss h)
theorem sortedI_ok {β : Type} (f : β → PV) (kv : List (Int × β)) (hw : ∀ q ∈ kv, wfI q.1) (hl : kv.length ≤ 1000000) :
    APtr Tryz.prog 45 111 (.amap false (mapE f kv)) (.own true 1 ((sortZ (kv.map (·.1))).map fun x => [I64 x])) :=
  sortedMap_ok f _ kv hw hl (enters_of Tryz.func111 (by kernel_rfl) rfl)
    (fun {_} Bm b nn D0 {_} w h1 h2 h3 => AnyZI.keys_gives (ρ := Tryz.keysA_ren) { Tryz.keysA with } Fence.wide 2 trivial rfl (by omega) Bm b nn D0 w h1 h2 h3)
def bsI (l : List Int) (x : Int) : Nat := l.countP fun y => decide (y < x)
def bsB (l : List Int) (x : Int) : Bool := decide (l[bsI l x]? = some x)
end Go.AX
