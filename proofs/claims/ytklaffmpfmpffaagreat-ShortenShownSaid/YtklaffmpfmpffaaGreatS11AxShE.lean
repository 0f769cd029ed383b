/-
  Contracts: slices.DeleteFunc whose predicate turns blocks.
  Contracts: a clause that is made shorter.
-/
import Derived.Test.YtklaffmpfmpffaaGreatS11AxShC
import Derived.Test.YtklaffmpfmpffaaGreatAxBM
namespace Go.AX
open Go.Proofs
set_option linter.unusedSimpArgs false

set_option maxRecDepth 8000 in
theorem indexB_ok (zs : List Int) (hl : zs.length ≤ 1000000) (g : Nat) (cap : List PV) (p : Int → Bool) (n : Nat) (Inv : List (List SV) → Prop) (hp : ptrAny cap = true) (pre suf : List Value) (cp : Nat)
    (hz : ∀ x ∈ zs, ∀ h, Inv h → AMut Tryz.prog g (I64 x :: cap) h (fun r h' => Inv h' ∧ h'[n]? = h[n]? ∧ r = .pv (BL (p x)))) (h : List (List SV)) (hI : Inv h) (hn : h[n]? = some (blk pre zs suf)) :
    AMut Tryz.prog 116 [.bsl n 1 pre.length zs.length cp, .fn (.func g) [] cap] h (fun r h' => Inv h' ∧ h'[n]? = some (blk pre zs suf) ∧ r = .pv (I64 (idxS p zs))) := by
  refine amut1 hmo Tryz.func116 (by kernel_rfl) rfl rfl (by kernel_rfl) (Nat.le_of_ble_eq_true rfl) ?_
  simp
  refine ALoop.intro (S := fun (y : Nat × List (List SV)) => ⟨[(0, .pv (.bsl n 1 pre.length zs.length cp)), (1, .pv (.fn (.func g) [] cap)), (7, .pv (I64 zs.length)), (8, .pv (I64 y.1))], y.2⟩) (fun y => y.1 ≤ zs.length ∧ (∀ j (hj : j < zs.length), j < y.1 → p zs[j] = false) ∧ Inv y.2 ∧ y.2[n]? = some (blk pre zs suf)) (fun y => zs.length - y.1) (0, h) ?_ ⟨Nat.zero_le _, fun j _ h => absurd h (Nat.not_lt_zero _), hI, hn⟩ ?_
  · exact Weak.keep (by simp) rfl
  · rintro ⟨i, h1⟩ ⟨hi, ho, hI1, hn1⟩
    dsimp only at hi ho hI1 hn1
    obtain ⟨n1, g1⟩ := List.getElem?_eq_some_iff.1 hn1
    by_cases c : i < zs.length
    · have hw : w64 ((i : Int) + 1) = ((i + 1 : Nat) : Int) := by rw [w64_id (by omega) (by omega)]; omega
      have hx := hz zs[i] (List.getElem_mem c) h1 hI1
      have hget := blk_get pre zs suf (i := i) c
      have hlen := blk_length pre zs suf
      simp [c, hp, n1, g1, hget, hlen]
      refine ⟨by omega, ?_⟩
      refine CallB.intro hx (by trivial) ?_
      rintro _ h2 ⟨hI2, hn2, rfl⟩
      rw [hn1] at hn2
      cases hpx : p zs[i]
      · simp
        refine ⟨(i + 1, h2), by (try dsimp only); omega, ⟨by (try dsimp only); omega, fun j hj hji => ?_, hI2, hn2⟩, Weak.keep (by simp [hw]) rfl⟩
        dsimp only at hji
        by_cases e : j = i
        · subst e; exact hpx
        · exact ho j hj (by omega)
      · simp
        rw [idxS_at c ho hpx]
        exact ⟨hI2, hn2, rfl⟩
    · simp [c]
      rw [idxS_none (fun j hj => ho j hj (by omega))]
      exact ⟨hI1, hn1, rfl⟩
set_option maxRecDepth 16000 in
theorem deleteB_ok (zs : List Int) (hl : zs.length ≤ 1000000) (g : Nat) (cap : List PV) (p : Int → Bool) (n : Nat) (Inv : List (List SV) → Prop) (hp : ptrAny cap = true) (hset : ∀ h L, Inv h → Inv (h.set n L)) (pre suf : List Value) (cp : Nat) (hcp : zs.length ≤ cp)
    (hz : ∀ x ∈ zs, ∀ h, Inv h → AMut Tryz.prog g (I64 x :: cap) h (fun r h' => Inv h' ∧ h'[n]? = h[n]? ∧ r = .pv (BL (p x)))) (h : List (List SV)) (hI : Inv h) (hn : h[n]? = some (blk pre zs suf)) :
    AMut Tryz.prog 60 [.bsl n 1 pre.length zs.length cp, .fn (.func g) [] cap] h (fun r h' => Inv h' ∧ ∃ zs', zs' = delS p zs ++ List.replicate (zs.length - (delS p zs).length) 0 ∧ h'[n]? = some (blk pre zs' suf) ∧ r = .pv (.bsl n 1 pre.length (delS p zs).length cp)) := by
  have hI0 := indexB_ok zs hl g cap p n Inv hp pre suf cp hz h hI hn
  refine amut1 hmo Tryz.func60 (by kernel_rfl) rfl rfl (by kernel_rfl) (Nat.le_of_ble_eq_true rfl) ?_
  simp
  refine CallB.intro hI0 (by trivial) ?_
  rintro _ h0 ⟨hI1, hn1, rfl⟩
  by_cases c : ∃ i, ∃ h : i < zs.length, p zs[i] = true ∧ ∀ j (hj : j < zs.length), j < i → p zs[j] = false
  rotate_left
  · have hno : ∀ j (hj : j < zs.length), p zs[j] = false := by
      intro j
      induction j using Nat.strongRecOn with
      | ind j ih =>
        intro hj
        cases e : p zs[j]
        · rfl
        · exact absurd ⟨j, hj, e, fun k hk hkj => ih k hkj hk⟩ c
    have hd := delS_none p zs fun x hx => by
      obtain ⟨j, hj, rfl⟩ := List.getElem_of_mem hx
      exact hno j hj
    rw [idxS_none hno, hd]
    simp
    exact ⟨hI1, hn1⟩
  obtain ⟨i0, hi0, hpi, hno⟩ := c
  rw [idxS_at hi0 hno hpi]
  have hw0 : w64 ((i0 : Int) + 1) = ((i0 + 1 : Nat) : Int) := by rw [w64_id (by omega) (by omega)]; omega
  have hd0 : delS p (zs.take i0) = zs.take i0 := delS_none p _ fun x hx => by
    obtain ⟨j, hj, rfl⟩ := List.getElem_of_mem hx
    rw [List.length_take] at hj
    rw [List.getElem_take]; exact hno j (by omega) (by omega)
  simp
  refine ALoop.intro (S := fun (y : Nat × List Int × List (List SV)) => ⟨[(0, .pv (.bsl n 1 pre.length zs.length cp)), (1, .pv (.fn (.func g) [] cap)), (5, .pv (I64 ((delS p (zs.take y.1)).length : Nat))), (6, .pv (I64 y.1))], y.2.2⟩)
    (fun y => y.1 ≤ zs.length ∧ (delS p (zs.take y.1)).length < y.1 ∧ y.2.1.length = zs.length ∧ y.2.1.take (delS p (zs.take y.1)).length = delS p (zs.take y.1) ∧ y.2.1.drop y.1 = zs.drop y.1 ∧ Inv y.2.2 ∧ y.2.2[n]? = some (blk pre y.2.1 suf)) (fun y => zs.length - y.1) (i0 + 1, zs, h0) ?_ ?_ ?_
  · refine Weak.keep ?_ rfl
    have : (delS p (zs.take (i0 + 1))).length = i0 := by rw [delS_take p zs hi0, if_pos hpi, hd0, List.length_take]; omega
    simp [hw0, this]
  · have : delS p (zs.take (i0 + 1)) = zs.take i0 := by rw [delS_take p zs hi0, if_pos hpi, hd0]
    refine ⟨by dsimp only; omega, ?_, rfl, ?_, rfl, hI1, hn1⟩
    · dsimp only; rw [this, List.length_take]; omega
    · dsimp only; rw [this, List.length_take]; congr 1; omega
  · rintro ⟨j, cur, H⟩ ⟨h1, h2, h3, h4, h5, h6, h7⟩
    dsimp only at h1 h2 h3 h4 h5 h6 h7
    have hlen := blk_length pre cur suf
    obtain ⟨n1, g1⟩ := List.getElem?_eq_some_iff.1 h7
    by_cases cj : j < zs.length
    · have hw : w64 ((j : Int) + 1) = ((j + 1 : Nat) : Int) := by rw [w64_id (by omega) (by omega)]; omega
      have hcj : cur[j]'(by omega) = zs[j] := by
        have := congrArg (fun l => l[0]?) h5
        simp only [List.getElem?_drop, Nat.add_zero] at this
        rw [List.getElem?_eq_getElem (by omega), List.getElem?_eq_getElem cj] at this
        exact Option.some.inj this
      have hget := blk_get pre cur suf (i := j) (by omega)
      rw [hcj] at hget
      have hx := hz zs[j] (List.getElem_mem cj) H h6
      have hst := delS_take p zs cj
      simp [cj, hp, n1, g1, hget, hlen]
      refine ⟨by omega, CallB.intro hx (by trivial) ?_⟩
      rintro _ H2 ⟨hI2, hn2, rfl⟩
      rw [h7] at hn2
      obtain ⟨m1, f1⟩ := List.getElem?_eq_some_iff.1 hn2
      cases hpx : p zs[j]
      · rw [hpx] at hst
        simp only [Bool.false_eq_true, if_false] at hst
        have hw2 : w64 (((delS p (zs.take j)).length : Int) + 1) = (((delS p (zs.take j)).length + 1 : Nat) : Int) := by rw [w64_id (by omega) (by omega)]; omega
        have hsb := blk_set pre cur suf (i := (delS p (zs.take j)).length) zs[j] (by omega)
        simp [m1, f1, hlen]
        refine ⟨by omega, by omega, (j + 1, cur.set (delS p (zs.take j)).length zs[j], H2.set n (blk pre (cur.set (delS p (zs.take j)).length zs[j]) suf)), by (try dsimp only); omega, ⟨by (try dsimp only); omega, ?_, by (try dsimp only); rw [List.length_set]; exact h3, ?_, ?_, hset H2 _ hI2, ?_⟩, Weak.keep ?_ (by simp [hsb])⟩
        · dsimp only; rw [hst, List.length_append, List.length_singleton]; omega
        · dsimp only
          rw [hst, List.length_append, List.length_singleton, List.take_add_one, List.take_set_of_le (Nat.le_refl _), h4, List.getElem?_set_self (by omega)]
          rfl
        · dsimp only
          rw [List.drop_set_of_lt (by omega)]
          have := congrArg (List.drop 1) h5
          rwa [List.drop_drop, List.drop_drop] at this
        · dsimp only; rw [List.getElem?_set_self m1]
        · simp [hw, hw2, hst]
      · rw [hpx] at hst
        simp only [if_true] at hst
        simp
        refine ⟨(j + 1, cur, H2), by (try dsimp only); omega, ⟨by (try dsimp only); omega, by dsimp only; rw [hst]; omega, h3, by dsimp only; rw [hst]; exact h4, ?_, hI2, hn2⟩, Weak.keep (by simp [hw, hst]) rfl⟩
        dsimp only
        have := congrArg (List.drop 1) h5
        rwa [List.drop_drop, List.drop_drop] at this
    · have : j = zs.length := by omega
      subst this
      rw [List.take_length] at h2 h4
      have hfill := blk_fill pre cur suf (i := (delS p zs).length) (n := zs.length - (delS p zs).length) 0 (by omega)
      have hfin : cur.take (delS p zs).length ++ List.replicate (zs.length - (delS p zs).length) 0 ++ cur.drop ((delS p zs).length + (zs.length - (delS p zs).length)) = delS p zs ++ List.replicate (zs.length - (delS p zs).length) 0 := by
        rw [h4, List.drop_eq_nil_of_le (by omega), List.append_nil]
      rw [hfin] at hfill
      simp [n1, g1, h3, hfill]
      refine ⟨⟨by omega, by omega⟩, by omega, by omega, ⟨by omega, by omega⟩, hset H _ h6⟩
end Go.AX

namespace Go.AX
open Go.Proofs
set_option linter.unusedSimpArgs false

@[simp] theorem oldE_mapI : ∀ l : List (Int × Int), oldE (mapE fI l)
  | [] => trivial
  | (_, _) :: l => ⟨trivial, oldE_mapI l⟩
def shB (A : Ar) (T : Tr) (lits : List Int) (m : List (Int × Int)) : List (List SV) := askB A T lits m 0 ++ [[.pv (askF 0)], [.pv (I64 T.lits.length)]]
def shI (A : Ar) (T : Tr) (lits : List Int) (h : List (List SV)) : Prop := ∃ m L, MemoOk A T lits m ∧ h = shB A T lits m ++ [L]
theorem shI_set (A : Ar) (T : Tr) (lits : List Int) (h : List (List SV)) (L : List SV) (hi : shI A T lits h) : shI A T lits (h.set 7 L) := by
  obtain ⟨m, L0, h1, rfl⟩ := hi
  exact ⟨m, L, h1, rfl⟩
theorem askAt_sh (A : Ar) (T : Tr) (lits : List Int) (m : List (Int × Int)) (L : List SV) : AskAt A T lits m 0 (shB A T lits m ++ [L]) := ⟨rfl, rfl, rfl, rfl, rfl⟩
set_option maxRecDepth 8000 in
theorem shortP_ok (A : Ar) (T : Tr) (lits : List Int) (hs : ShOk A T lits) (x : Int) (h : List (List SV)) (hI : shI A T lits h) :
    AMut Tryz.prog 106 [I64 x, .ptr 5 0, .ptr 6 0] h (fun r h' => shI A T lits h' ∧ h'[7]? = h[7]? ∧ r = .pv (BL (deepQ A T lits x))) := by
  obtain ⟨m, L, hm, rfl⟩ := hI
  refine amut1 hmo Tryz.func106 (by kernel_rfl) rfl rfl (by kernel_rfl) (Nat.le_of_ble_eq_true rfl) ?_
  have hd := deep_ok A T lits 0 hs T.lits.length x T.lits.length m (shB A T lits m ++ [L]) (fun _ h => h) (askAt_sh A T lits m L) hm
  have g5 : (shB A T lits m ++ [L])[5]? = some [.pv (askF 0)] := rfl
  have g6 : (shB A T lits m ++ [L])[6]? = some [.pv (I64 T.lits.length)] := rfl
  have hlen : (shB A T lits m ++ [L]).length = 8 := rfl
  have hfin : ∀ m', (shB A T lits m ++ [L]).set 3 [.omap true (mapE fI m')] = shB A T lits m' ++ [L] := fun _ => rfl
  have g7 : ∀ m', (shB A T lits m' ++ [L])[7]? = some L := fun _ => rfl
  have h7 := g7 m
  generalize hH : shB A T lits m ++ [L] = H at *
  obtain ⟨n5, f5⟩ := List.getElem?_eq_some_iff.1 g5
  obtain ⟨n6, f6⟩ := List.getElem?_eq_some_iff.1 g6
  simp [n5, f5, n6, f6, askF]
  refine CallB.intro hd (by trivial) ?_
  rintro _ _ ⟨m', hm', rfl, rfl⟩
  simp [deepQ]
  rw [hfin m']
  exact ⟨m', L, hm', rfl⟩
def shoS (A : Ar) (T : Tr) (lits : List Int) : List Int := lits.take 1 ++ delS (deepQ A T lits) (lits.drop 1)
def shoSch : Sch := .take 0 (.take 1 (.take 2 (.take 3 (.fork [(4, .fork [(5, .fork [(6, .take 7 .done)])])]))))
set_option maxRecDepth 16000 in
theorem shorten_ok (A : Ar) (T : Tr) (lits : List Int) (hs : ShOk A T lits) (hl : T.lits.length ≤ 1000000) : APure Tryz.prog 43 [arP A, trP T, .seq false 1 (irow lits)] (fun r => r = .own true 1 (irow (shoS A T lits))) := by
  refine apure1B [6] hmo Tryz.func43 (by kernel_rfl) rfl rfl (by kernel_rfl) (Nat.le_of_ble_eq_true rfl) ?_
  have hask := fun h => asker_ok h A T lits
  have hlt := tlits_ok T hl
  have hcl := clone_ok lits hs.few
  simp only [arP, arR, trP, trR] at hask hlt
  simp [arP, arR, trP, trR]
  refine CallK.intro hcl (by simp) ?_
  by_cases c : lits = []
  · subst c
    simp [shoS, delS]
  have hpos : 0 < lits.length := List.length_pos_iff.2 c
  simp [c]
  refine CallK.introM (hask _) (by simp) ?_
  rintro _ _ ⟨rfl, rfl⟩
  simp [askF, askB]
  refine ⟨rfl, CallK.intro hlt (by simp) ?_⟩
  simp
  refine AAnyD.one shoSch (by kernel_rfl) ?_
  simp [shoSch]
  refine ⟨by omega, ?_⟩
  have hd1 : ∀ l : List Int, List.drop lits.length (irow lits) = [] := fun _ => List.drop_eq_nil_of_le (by simp)
  by_cases c1 : lits.length = 1
  · obtain ⟨x0, rfl⟩ := List.length_eq_one_iff.1 c1
    have hS : shoS A T [x0] = [x0] := rfl
    rw [hS]
    generalize hq : frzL (frzP [[SV.pv (arP A)], [SV.pv (trP T)], [SV.pv (PV.seq false 1 (irow [x0]))], [SV.omap true []], [SV.pv (PV.fn (Fn.func 161) [] [PV.ptr 1 0, PV.ptr 3 0, PV.ptr 0 0, PV.ptr 2 0, PV.ptr 4 0])], [SV.pv (PV.fn (Fn.func 161) [] [PV.ptr 1 0, PV.ptr 3 0, PV.ptr 0 0, PV.ptr 2 0, PV.ptr 4 0])], [SV.pv (PV.lit (Value.int .i64 T.lits.length))]] 3) [PV.ptr 5 0, PV.ptr 6 0] = cap
    have hD := deleteF_ok [] (by simp) 106 cap (fun _ => false) (fun r => by rw [← hq]; simp [frzP, arP, arR, trP, trR]) (by rw [← hq]; rfl) (fun k => by rw [← hq]; simp [frzP, arP, arR, trP, trR]) (by rw [← hq]; simp [frzP, arP, arR, trP, trR, PV.old, oldL, oldR]) (fun x hx => by cases hx)
    refine CallK.introX (CallX.introS (o := .slot 7) (lo := 1) (hi := 1) hD (by simp) rfl rfl (by simp) (by simp) rfl (by simp [intsB]) trivial (by simp) (by rw [← hq]; simp) ?_)
    rintro k rows' ⟨rfl, rfl⟩ _ _
    have hd0 : delS (fun _ => false) [] = [] := rfl
    simp [hd0, intsB, irow]
  · have h2 : 1 < lits.length := by omega
    have hE := fun (pre suf : List Value) (cp : Nat) (hcp : (lits.drop 1).length ≤ cp) => deleteB_ok (lits.drop 1) (by have := hs.few; rw [List.length_drop]; omega) 106 [.ptr 5 0, .ptr 6 0] (deepQ A T lits) 7 (shI A T lits) rfl (shI_set A T lits) pre suf cp hcp (fun x _ h hI => shortP_ok A T lits hs x h hI) (shB A T lits [] ++ [blk pre (lits.drop 1) suf]) ⟨[], _, memo_new A T lits, rfl⟩ rfl
    refine CallK.introX (CallX.introB (s := 7) (lo := 1) (hi := lits.length) (nw := true) (all := lits) (zs := lits.drop 1) (R := fun k zs' H' => k = some (delS (deepQ A T lits) (lits.drop 1)).length ∧ zs' = delS (deepQ A T lits) (lits.drop 1) ++ List.replicate ((lits.drop 1).length - (delS (deepQ A T lits) (lits.drop 1)).length) 0 ∧ ∃ m, H' = shB A T lits m)
      rfl (by simp) rfl rfl rfl (by simp) h2 (by rw [List.take_length]) (by simp) (by simp) rfl (fun pre suf cp hcp hpr => (hE pre suf cp hcp).mono ?_) ?_)
    · rintro r h' ⟨⟨m, L, hm, rfl⟩, zs', rfl, h7, rfl⟩
      have hL : L = blk pre (delS (deepQ A T lits) (lits.drop 1) ++ List.replicate ((lits.drop 1).length - (delS (deepQ A T lits) (lits.drop 1)).length) 0) suf := Option.some.inj h7
      subst hL
      have hdl := delS_len (deepQ A T lits) (lits.drop 1)
      refine ⟨_, _, shB A T lits m, ⟨rfl, rfl, m, rfl⟩, by rw [List.length_append, List.length_replicate]; omega, fun k hk => by cases hk; exact hdl, rfl, by simp [shB, askB, askF, arR, trR], rfl, rfl⟩
    · rintro k zs' H' ⟨rfl, rfl, m, rfl⟩ _ _
      have hS : shoS A T lits = lits.take 1 ++ delS (deepQ A T lits) (lits.drop 1) := rfl
      have hdl := delS_len (deepQ A T lits) (lits.drop 1)
      have hf := hs.few
      generalize delS (deepQ A T lits) (lits.drop 1) = D at *
      simp only [List.length_drop] at hdl
      have hlen : (intsB (lits.take 1 ++ (D ++ List.replicate (lits.length - 1 - D.length) 0))).length = lits.length := by
        simp only [intsB, List.length_map, List.length_append, List.length_take, List.length_replicate]; omega
      simp [hlen]
      refine ⟨by omega, ?_⟩
      rw [hS]
      have h1 : (lits.take 1).length = 1 := by rw [List.length_take]; omega
      generalize lits.take 1 = Z at *
      obtain ⟨z, rfl⟩ := List.length_eq_one_iff.1 h1
      have e1 : List.take (1 + D.length) (intsB ([z] ++ (D ++ List.replicate (lits.length - 1 - D.length) 0))) = irow ([z] ++ D) := by
        unfold intsB irow
        rw [← List.map_take, ← List.append_assoc, List.take_left' (by simp; omega)]
      rw [e1]
      rfl
end Go.AX
