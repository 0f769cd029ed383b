/-
  EX at a seat: slices.Sorted over maps.Keys.
-/
import Derived.Test.YtpejmhpcgpnpaaaGreatS15AxShelf
import Derived.Test.YtpejmhpcgpnpaaaGreatAxVs
import Derived.Test.YtpejmhpcgpnpaaaGreatAxExP
namespace Go.EX
open Go.AX Go.Proofs Go.Maps Go.Shelf Go.RowKit Go.Sort
set_option linter.unusedSimpArgs false
def rAnx (_ : Value) : Option (DataW Unit × List MemPlace) := some (.lit (.int .i64 0), [])
def kvZ (ks : List Int) : List (Lit × DataW Unit) := ks.map fun x => (.int .i64 x, .lit (.int .i64 0))
def kvY (ks : List Int) : DataW Unit := .map ((kvZ ks).foldr DataW.insert [])
section
variable {P : Program} {k : TypeId}
theorem rg_anx (hk : P.underlying k = some (.int .i64)) : ∀ {en : List MapEntry} {ks : List Int}, en.map (·.key) = ks.map (fun x => .int .i64 x) → (∀ x ∈ ks, (Lit.int .i64 x).wf = true) →
 en.map (WideElems.rg P k rAnx) = kvZ ks ∧ ∀ m ∈ en, ∃ y, WideElems.rd P k rAnx m = some y
 | [], ks, h, _ => by
  cases ks with
  | nil => exact ⟨rfl, fun m hm => by cases hm⟩
  | cons _ _ => cases h
 | m :: en, ks, h, hw => by
  cases ks with
  | nil => cases h
  | cons q ks =>
   rw [List.map_cons, List.map_cons] at h; injection h with h1 h2; obtain ⟨i1, i2⟩ := rg_anx hk h2 (fun q hq => hw q (List.mem_cons_of_mem _ hq)); have hr : WideElems.rd P k rAnx m = some (.int .i64 q, .lit (.int .i64 0)) := by
    unfold WideElems.rd; rw [h1, keyOf_int_mk hk (hw q List.mem_cons_self)]; simp [rAnx]
   refine ⟨?_, fun m' hm' => ?_⟩
   ·rw [List.map_cons, i1, WideElems.rg_of hr]; rfl
   ·rcases List.mem_cons.1 hm' with rfl | hm'
    ·exact ⟨_, hr⟩
    ·exact i2 m' hm'
end
theorem kvY_keys (ks : List Int) : (intKeys (kvY ks)).Perm ks := by
 unfold kvY intKeys; refine ((WideShapes.sorted_perm (kvZ ks)).map _).trans ?_; unfold kvZ; rw [List.map_map]; exact List.Perm.of_eq (List.map_id ks)
theorem kvY_size (ks : List Int) : Maps.size (kvY ks) = ks.length := by
 unfold kvY; rw [Maps.size_eq, (WideShapes.sorted_perm (kvZ ks)).length_eq]; simp [kvZ]
theorem Tryz.sortsX (m : Nat) : AnyZI.SortsIn Tryz.prog Tryz.sortedA_ren Fence.wide m :=
  ⟨fun blk off cap ss W hH hblk hsz => callsIn_wide.2 (AnyM.slices_Sort_int Tryz.sortA blk off cap ss W hH hblk hsz),
   fun p cap W => callsIn_wide.2 (AnyM.slices_Sort_int_none Tryz.sortA p cap W)⟩
theorem sl24X : slInfo Tryz.prog (Tryz.sortedA_ren.t 24) = some (1, 8) := by kernel_rfl
theorem keysX (kf : Nat) (ekf : ∀ args w, (callFunc kf args).run Tryz.prog w = .ok (.enter kf args) w)
 (hgiv : ∀ {H : Type} (Bm b nn : Nat) (D0 : DataW H) {R : Value → Option (DataW H × List MemPlace)} (w : World), Bm < w.heap.size → w.cell? ⟨Bm, 0, none⟩ = some (.map (some b)) → w.ownsMap Tryz.prog (Tryz.sortedA_ren.t 26) R b nn D0 → SeqGives Fence.wide 2 Tryz.prog kf #[.pointer (some ⟨Bm, 0, none⟩)] encZ (fun ss => ss.Perm (intKeys D0)) (Maps.size D0) w) :
 KeysOk Tryz.prog 241 kf (Tryz.sortedA_ren.t 26) := by
 intro w Bm c en ck ks hcell hBm hc hk hst hwf hl; have hn : en.size = ks.length := by
  have := congrArg List.length hk; simpa using this
 obtain ⟨i1, i2⟩ := rg_anx (P := Tryz.prog) (k := Tryz.sortedA_ren.t 26) (by kernel_rfl) hk (fun x hx => by
  obtain ⟨h1, h2⟩ := hwf x hx; have e1 : IntKind.i64.min = -9223372036854775808 := rfl; have e2 : IntKind.i64.max = 9223372036854775807 := rfl; simp [Lit.wf, e1, e2]; omega)
 have hown : w.ownsMap Tryz.prog (Tryz.sortedA_ren.t 26) rAnx c ks.length (kvY ks) := ⟨en, ck, hc, ⟨by first | omega | (unfold maxLen; omega), hst, i2⟩, by first | omega | (unfold maxLen; omega), by unfold kvY; rw [i1]⟩; have hseq := hgiv Bm c ks.length (kvY ks) w hBm hcell hown; have cS := sortedV Tryz.sortedA sl24X Fence.wide 5 trivial trivial trivial trivial rfl (by omega) (Tryz.sortsX _) (enters_of Tryz.func282 (by kernel_rfl) rfl) kf #[.pointer (some ⟨Bm, 0, none⟩)] trivial ekf _ (Maps.size (kvY ks)) (by rw [kvY_size]; unfold maxLen; omega) (by rw [kvY_size]; omega) w (SeqBelow.of hseq) (fun ss h => by rw [kvY_size]; exact Nat.le_of_eq ((h.trans (kvY_keys ks)).length_eq)); refine ((callsIn_wide (n := 5)).1 cS).mono fun e w' ⟨v, ss, he, hS, hrow, hone, hnl, hb⟩ => ?_; have hperm := hS.trans (kvY_keys ks); have hm : ss.mergeSort (fun x y => decide (x ≤ y)) = ks.mergeSort (fun x y => decide (x ≤ y)) := mergeSort_of_perm_i hperm; have hlen := hperm.length_eq; rw [hm] at hrow; refine ⟨v, he, by unfold envOf; rw [hb.os, hb.tape, hb.output], hb.size, hb.block, ?_⟩; obtain ⟨r1, ⟨rfl, r2⟩ | ⟨g, cap, cur, rfl, r3, r4, r5, r6, r7, r8⟩⟩ := hrow
 ·left; exact ⟨List.eq_nil_of_length_eq_zero (by omega), rfl⟩
 ·by_cases h0 : ks = []
  ·exfalso; subst h0; have : ss = [] := List.eq_nil_of_length_eq_zero (by simpa using hlen); have := hnl.2 this; cases this
  ·right; have hcap : cur.size = cap := by rw [r7, Nat.mul_one]
   refine ⟨h0, g, cur, by rw [hcap, hlen], by rw [hcap]; omega, r3, r4, ?_⟩; rw [← r8]; exact List.take_prefix _ _
theorem keysXA : KeysOk Tryz.prog 241 407 (Tryz.sortedA_ren.t 26) :=
 keysX _ (enters_of Tryz.func407 (by kernel_rfl) rfl) (fun {_} Bm b nn D0 {_} w h1 h2 h3 => AnyZI.keys_gives (ρ := Tryz.keysA_ren) { Tryz.keysA with } Fence.wide 2 trivial rfl (by omega) Bm b nn D0 w h1 h2 h3)
theorem keysXB : KeysOk Tryz.prog 241 443 (Tryz.sortedA_ren.t 26) :=
 keysX _ (enters_of Tryz.func443 (by kernel_rfl) rfl) (fun {_} Bm b nn D0 {_} w h1 h2 h3 => AnyZI.keys_gives (ρ := Tryz.keysB_ren) { Tryz.keysB with } Fence.wide 2 trivial rfl (by omega) Bm b nn D0 w h1 h2 h3)
end Go.EX
