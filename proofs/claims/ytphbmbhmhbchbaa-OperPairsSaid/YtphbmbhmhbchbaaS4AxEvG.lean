/-
  Maps of numbers, as the library reads them: their keys, sorted; what is deleted.
-/
import Derived.Test.YtphbmbhmhbchbaaS4AxShelf
import Derived.Test.YtphbmbhmhbchbaaS4AxCntJ
import Derived.Test.YtphbmbhmhbchbaaAxMK
import Derived.Test.YtphbmbhmhbchbaaAxDr
namespace Go.AX
open Go.Proofs Go.Maps Go.Shelf
set_option linter.unusedSimpArgs false

def wfI (x : Int) : Prop := (Lit.int .i64 x).wf = true
def rI (p : Int → Bool) (v : Value) : Option (DataW Unit × List MemPlace) :=
  match v with
  | .int .i64 x => if p x = true then some (.lit (.int .i64 x), []) else none
  | _ => none
def kvL (kv : List (Int × Int)) : List (Lit × DataW Unit) := kv.map fun q => (.int .i64 q.1, .lit (.int .i64 q.2))
def kvD (kv : List (Int × Int)) : DataW Unit := .map ((kvL kv).foldr DataW.insert [])
def sortK (kv : List (Int × Int)) : List Int := (kv.map (·.1)).mergeSort fun x y => decide (x ≤ y)

theorem fitE_ints {G : Gh} : ∀ {kv : List (Int × Int)} {en : List MapEntry}, FitE G (mapE fI kv) en → en.map (fun m => (m.key, m.val)) = kv.map fun q => (.int .i64 q.1, .int .i64 q.2)
  | [], en, h => by
    have : en = [] := h
    rw [this]; rfl
  | q :: kv, en, ⟨m, r, h1, h2, h3, h4⟩ => by
    subst h1
    have h5 : m.val = .int .i64 q.2 := h3
    rw [List.map_cons, List.map_cons, fitE_ints h4, h2, h5]
theorem fitE_of {G : Gh} : ∀ {kv : List (Int × Int)} {en : List MapEntry}, en.map (fun m => (m.key, m.val)) = kv.map (fun q => (.int .i64 q.1, .int .i64 q.2)) → FitE G (mapE fI kv) en
  | [], en, h => by
    cases en with
    | nil => rfl
    | cons _ _ => cases h
  | q :: kv, en, h => by
    cases en with
    | nil => cases h
    | cons m r =>
      rw [List.map_cons, List.map_cons] at h
      injection h with h1 h2
      injection h1 with h3 h4
      exact ⟨m, r, rfl, h3, h4, fitE_of h2⟩

section
variable {P : Program} {k : TypeId} {p : Int → Bool}
theorem rd_int (hk : P.underlying k = some (.int .i64)) {m : MapEntry} {q : Int × Int} (hm : (m.key, m.val) = (.int .i64 q.1, .int .i64 q.2)) (h1 : wfI q.1) (h2 : p q.2 = true) :
    WideElems.rd P k (rI p) m = some (.int .i64 q.1, .lit (.int .i64 q.2)) := by
  injection hm with h3 h4
  unfold WideElems.rd
  rw [h3, h4, keyOf_int_mk hk h1]
  simp [rI, h2]
theorem rg_ints (hk : P.underlying k = some (.int .i64)) : ∀ {en : List MapEntry} {kv : List (Int × Int)}, en.map (fun m => (m.key, m.val)) = kv.map (fun q => (.int .i64 q.1, .int .i64 q.2)) → (∀ q ∈ kv, wfI q.1 ∧ p q.2 = true) →
    en.map (WideElems.rg P k (rI p)) = kvL kv ∧ ∀ m ∈ en, ∃ y, WideElems.rd P k (rI p) m = some y
  | [], kv, h, _ => by
    cases kv with
    | nil => exact ⟨rfl, fun m hm => by cases hm⟩
    | cons _ _ => cases h
  | m :: en, kv, h, hw => by
    cases kv with
    | nil => cases h
    | cons q kv =>
      rw [List.map_cons, List.map_cons] at h
      injection h with h1 h2
      obtain ⟨i1, i2⟩ := rg_ints hk h2 (fun q hq => hw q (List.mem_cons_of_mem _ hq))
      have hr := rd_int hk h1 (hw q List.mem_cons_self).1 (hw q List.mem_cons_self).2
      refine ⟨?_, fun m' hm' => ?_⟩
      · rw [List.map_cons, i1, WideElems.rg_of hr]; rfl
      · rcases List.mem_cons.1 hm' with rfl | hm'
        · exact ⟨_, hr⟩
        · exact i2 m' hm'
theorem owns_ints (hk : P.underlying k = some (.int .i64)) {w : World} {c : Nat} {en : Array MapEntry} {ck : Nat} {G : Gh} {kv : List (Int × Int)} (hc : w.heap[c]? = some (.map en ck)) (hf : FitE G (mapE fI kv) en.toList) (hst : MapKept.Stamped en ck)
    (hw : ∀ q ∈ kv, wfI q.1 ∧ p q.2 = true) (hl : kv.length ≤ maxLen) : w.ownsMap P k (rI p) c kv.length (kvD kv) := by
  have he := fitE_ints hf
  have hn : en.size = kv.length := by
    have := congrArg List.length he
    simpa using this
  obtain ⟨i1, i2⟩ := rg_ints (p := p) hk he hw
  exact ⟨en, ck, hc, ⟨by omega, hst, i2⟩, by omega, by unfold kvD; rw [i1]⟩
theorem ints_of_owns (hk : P.underlying k = some (.int .i64)) {w : World} {c n : Nat} {D : DataW Unit} (h : w.ownsMap P k (rI p) c n D) :
    ∃ en ck kv, w.heap[c]? = some (.map en ck) ∧ MapKept.Stamped en ck ∧ (∀ G, FitE G (mapE fI kv) en.toList) ∧ D = kvD kv ∧ ∀ q ∈ kv, wfI q.1 ∧ p q.2 = true := by
  obtain ⟨en, ck, h1, hF, h2, h3⟩ := h
  have key : ∀ l : List MapEntry, (∀ m ∈ l, ∃ y, WideElems.rd P k (rI p) m = some y) → ∃ kv : List (Int × Int), l.map (fun m => (m.key, m.val)) = kv.map (fun q => (.int .i64 q.1, .int .i64 q.2)) ∧ ∀ q ∈ kv, wfI q.1 ∧ p q.2 = true := by
    intro l
    induction l with
    | nil => exact fun _ => ⟨[], rfl, fun q hq => by cases hq⟩
    | cons m l ih =>
      intro hl
      obtain ⟨kv, i1, i2⟩ := ih fun m' hm' => hl m' (List.mem_cons_of_mem _ hm')
      obtain ⟨y, hy⟩ := hl m List.mem_cons_self
      obtain ⟨x, hx1, hx2, hx3⟩ := keyOf_i64 hk (WideElems.rd_key hy)
      obtain ⟨z, hz, _⟩ := WideElems.rd_val hy
      unfold rI at hz
      split at hz
      · rename_i v hv
        split at hz
        · rename_i hp
          refine ⟨(x, v) :: kv, by rw [List.map_cons, List.map_cons, i1, hx1, hv], fun q hq => ?_⟩
          rcases List.mem_cons.1 hq with rfl | hq
          · exact ⟨hx3, hp⟩
          · exact i2 q hq
        · cases hz
      · cases hz
  obtain ⟨kv, i1, i2⟩ := key en.toList hF.reads
  exact ⟨en, ck, kv, h1, hF.stamped, fun G => fitE_of i1, by rw [h3]; unfold kvD; rw [(rg_ints hk i1 i2).1], i2⟩
end

theorem kvD_keys (kv : List (Int × Int)) : (intKeys (kvD kv)).Perm (kv.map (·.1)) := by
  unfold kvD intKeys
  refine ((WideShapes.sorted_perm (kvL kv)).map _).trans ?_
  unfold kvL
  rw [List.map_map]
  exact List.Perm.refl _
theorem kvD_size (kv : List (Int × Int)) : Maps.size (kvD kv) = kv.length := by
  unfold kvD
  rw [Maps.size_eq, (WideShapes.sorted_perm (kvL kv)).length_eq]
  simp [kvL]

theorem keysF_ok : AKeys Try.prog 104 150 :=
  ⟨by kernel_rfl, Try.keysA_ren.t 23, fun mb w => (callsIn_wide (n := 5)).1 (AnyZI.keys_in Try.keysA Fence.wide 5 trivial rfl mb w)⟩

theorem Try.sortsA (m : Nat) : AnyZI.SortsIn Try.prog Try.sortedA_ren Fence.wide m :=
  ⟨fun blk off cap ss W hH hblk hsz => callsIn_wide.2 (AnyM.slices_Sort_int Try.sortA blk off cap ss W hH hblk hsz),
   fun p cap W => callsIn_wide.2 (AnyM.slices_Sort_int_none Try.sortA p cap W)⟩

theorem sortedF_ok (kv : List (Int × Int)) (hw : ∀ q ∈ kv, wfI q.1) (hl : kv.length ≤ 1000000) :
    ASorted Try.prog 103 150 (mapE fI kv) ((sortK kv).map fun x => [I64 x]) := by
  refine ⟨by kernel_rfl, fun w Bm c arr T en ck G h1 h2 h3 h4 h5 => ?_⟩
  have hown := owns_ints (P := Try.prog) (p := fun _ => true) (k := Try.keysA_ren.t 26) (by kernel_rfl) h3 h4 h5 (fun q hq => ⟨hw q hq, rfl⟩) (by unfold maxLen; omega)
  have hcell : w.cell? ⟨Bm, 0, none⟩ = some (.map (some c)) := by
    have : arr[0]? = some (.map (some c)) := by rw [← Array.getElem?_toList, h2]; rfl
    simp [World.cell?, h1, this]
  have hseq := AnyZI.keys_gives (ρ := Try.keysA_ren) { Try.keysA with } Fence.wide 2 trivial rfl (by omega) Bm c kv.length (kvD kv) w (Array.getElem?_eq_some_iff.1 h1).1 hcell hown
  have cS := AnyZI.sorted_in Try.sortedA Fence.wide 5 trivial trivial trivial trivial rfl (by omega) (Try.sortsA _) (enters_of Try.func149 (by kernel_rfl) rfl) 150 #[.pointer (some ⟨Bm, 0, none⟩)] trivial
    (enters_of Try.func150 (by kernel_rfl) rfl) _ (Maps.size (kvD kv)) (by rw [kvD_size]; unfold maxLen; omega) (by rw [kvD_size]; omega) w hseq
  refine ((callsIn_wide (n := 5)).1 cS).mono fun e w' ⟨v, ss, he, hS, hrow, hnil, hb⟩ => ?_
  have hss : ss.mergeSort (fun x y => decide (x ≤ y)) = sortK kv := mergeSort_of_perm_i (hS.trans (kvD_keys kv))
  rw [hss] at hrow
  have hlen : ss.length = (sortK kv).length := by rw [← hss, List.length_mergeSort]
  refine ⟨v, he, ?_, hb.size, hb.block, ?_⟩
  · unfold envOf; rw [hb.os, hb.tape, hb.output]
  · obtain ⟨r1, ⟨rfl, r2⟩ | ⟨g, cap, cur, rfl, r3, r4, r5, r6, r7, r8⟩⟩ := hrow
    · left
      have : sortK kv = [] := List.eq_nil_of_length_eq_zero (by omega)
      rw [this]; exact ⟨rfl, rfl⟩
    · right
      refine ⟨g, cap, cur, _, by rw [List.length_map, ← hlen], r4, r3, by rw [r7, Nat.mul_one], by rw [List.length_map, ← hlen]; exact r5, r6, (sortK kv).map encZ, ?_, fun G => ?_⟩
      · rw [← r8]; exact List.take_prefix _ _
      · generalize sortK kv = zs
        induction zs with
        | nil => rfl
        | cons z zs ih => exact ⟨[encZ z], zs.map encZ, rfl, ⟨rfl, fun v hv => by simp at hv; subst hv; rfl⟩, ⟨_, _, rfl, rfl, rfl⟩, ih⟩

/-- What is deleted of a map. -/
theorem delF_ok (kv : List (Int × Int)) (hw : ∀ q ∈ kv, wfI q.1) (hl : kv.length ≤ 1000000) (p : Int → Bool) (hp : ∀ q ∈ kv, p q.2 = true) (del : Int → Int → Bool) (g : Nat) (cap : List PV) (ho : oldL cap) (hb : belowL 0 cap)
    (hg : ∀ x y, p y = true → APure Try.prog g (I64 x :: I64 y :: cap) (fun r => r = .pv (BL (del x y)))) (eg : ∀ args w, (callFunc g args).run Try.prog w = .ok (.enter g args) w) :
    ADelM Try.prog 101 (mapE fI kv) [.fn (.func g) [] cap] (fun es' => ∃ kv', es' = mapE fI kv' ∧ (kv'.map (·.1)).Perm ((kv.filter fun q => !del q.1 q.2).map (·.1)) ∧ ∀ q ∈ kv', wfI q.1) := by
  refine ⟨by kernel_rfl, fun w c en ck us G h1 h2 h3 h4 => ?_⟩
  obtain ⟨fv, r, rfl, ⟨a, b, rfl, ha, hbv⟩, hr⟩ := h4
  have hr' : r = [] := hr
  have ha' : a = #[] := Array.ext' ha
  subst hr' ha'
  have hku : Try.prog.underlying (Try.delA_ren.t 26) = some (.int .i64) := by kernel_rfl
  have hown := owns_ints (P := Try.prog) (p := p) (k := Try.delA_ren.t 26) hku h1 h2 h3 (fun q hq => ⟨hw q hq, hp q hq⟩) (by unfold maxLen; omega)
  refine (AnyDf.maps_DeleteFunc Try.delA (int_keyed hku) (rI p) (fun kl yd => match kl, yd with | .int _ x, .lit (.int _ y) => del x y | _, _ => false) g b c kv.length (kvD kv) w eg hown ?_).mono fun e w' ⟨he, ho', hgr⟩ => ?_
  · intro W key val kl yd yp hW hkey hR
    obtain ⟨x, rfl, rfl, _⟩ := keyOf_i64 hku hkey
    unfold rI at hR
    split at hR
    · rename_i y
      split at hR
      · rename_i hpy
        simp only [Option.some.injEq, Prod.mk.injEq] at hR
        obtain ⟨rfl, rfl⟩ := hR
        have hfit : FitL (snap W) (I64 x :: I64 y :: cap) (.int .i64 x :: .int .i64 y :: b.toList) := by
          refine ⟨_, _, rfl, rfl, _, _, rfl, rfl, ?_⟩
          refine FitL.monoC (hid_le (w := w) (c := c) fun k hk hlt => hW.block k hlt (fun e => hk (by injection e))) _ _ (.inr ho) (.inl rfl) hbv
        have hc := (hg x y hpy).2 W _ hfit
        have harr : (Value.int .i64 x :: Value.int .i64 y :: b.toList).toArray = #[.int .i64 x, .int .i64 y] ++ b := by apply Array.ext'; simp
        rw [harr] at hc
        refine hc.mono fun e w2 ⟨v, r, g', o, he, hr, hE, hF, _, _⟩ => ?_
        subst hr
        obtain ⟨_, hv⟩ := hF
        have hv' : v = .bool (del x y) := hv
        rw [he, hv']
        refine ⟨rfl, ?_⟩
        have henv := hE.env
        unfold envOf at henv
        simp only [Prod.mk.injEq] at henv
        exact ⟨henv.1, henv.2.1, henv.2.2, hE.size, fun k hk _ => hE.keep k hk⟩
      · cases hR
    · cases hR
  · obtain ⟨en', ck', kv', k1, k2, k3, k4, k5⟩ := ints_of_owns hku ho'
    refine ⟨he, ?_, hgr.size, fun k hk hne => hgr.block k hk (fun e => hne (by injection e)), en', ck', mapE fI kv', ⟨kv', rfl, ?_, fun q hq => (k5 q hq).1⟩, k1, k2, k3⟩
    · unfold envOf; rw [hgr.os, hgr.tape, hgr.output]
    · have h7 := kvD_keys kv'
      rw [← k4] at h7
      refine h7.symm.trans ?_
      unfold kvD Lib.deleteFuncD intKeys
      refine (((WideShapes.sorted_perm (kvL kv)).filter _).map _).trans ?_
      unfold kvL
      rw [List.filter_map, List.map_map]
      exact List.Perm.refl _

end Go.AX
