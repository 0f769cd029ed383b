/-
  Contracts: the document's checker: New.
  Contracts: the document's checker: may a clause be added?
  Contracts: the document's checker: Step.
  Contracts: the document's checker: Check.
  Contracts: the document's answer for trim: shown, Plain, first.
  Contracts: the document's answer for trim: first, put.
-/
import Derived.Test.YthfhellfmbllhaaGreatS12AxTxC
import Derived.Test.YthfhellfmbllhaaGreatS12AxTtB
namespace Go.AX
open Go.Proofs
set_option linter.unusedSimpArgs false
theorem newTo_succ (L : List (List Int)) (hL : L.length ≤ 100000) {i : Nat} (h : i < L.length) : newTo L (i + 1) = ⟨(newTo L i).m ++ [(((i + 1 : Nat) : Int), L[i])], ((i + 1 : Nat) : Int), (newTo L i).done || decide (L[i].length = 0)⟩ := by
  obtain ⟨g1, g2⟩ := CkG.new L hL i (by omega)
  have hs : newTo L (i + 1) = newF (newTo L i) L[i] := foldl_take_succ newF _ L i (by omega)
  have hw : w64 ((newTo L i).last + 1) = ((i + 1 : Nat) : Int) := by rw [g2, w64_id (by omega) (by omega)]; omega
  rw [hs]
  unfold newF
  rw [hw]
  have := (g1.put (id := ((i + 1 : Nat) : Int)) (l := L[i]) (by omega) (by omega)).1
  unfold putC at this ⊢
  simp only at this
  rw [this]
theorem newTo_mlen (L : List (List Int)) (hL : L.length ≤ 100000) : ∀ i, i ≤ L.length → (newTo L i).m.length = i
  | 0, _ => rfl
  | i + 1, h => by rw [newTo_succ L hL (show i < L.length by omega), List.length_append, newTo_mlen L hL i (by omega)]; rfl
def newDC (v : Int) (L : List (List Int)) : Ck := if (cnfS v L).2 ≠ 0 then ⟨[], 0, false⟩ else newC L
set_option maxRecDepth 16000 in
theorem rnew_ok (v : Int) (L : List (List Int)) (hL : L.length ≤ 100000) (hr : ∀ c ∈ L, c.length ≤ 1000000) : AMut Tryz.prog 76 [.agg [I64 v, .seq false 1 (L.map crowF)]] [] (fun r g' => g' = [] ∧ r = .pv (.tup [ckD false (newDC v L), I64 (cnfS v L).2])) := by
  refine amutXW [] [.cell 2 _, .tmp 3] hmo Tryz.func76 (by kernel_rfl) rfl rfl (by kernel_rfl) (Nat.le_of_ble_eq_true rfl) ?_
  have hC := refCnf_ok v L hr
  have hD : newDC v L = if (cnfS v L).2 ≠ 0 then ⟨[], 0, false⟩ else newC L := rfl
  generalize newDC v L = D at *
  generalize cnfS v L = S at *
  obtain ⟨s1, s2⟩ := S
  simp only at hD
  simp
  refine CallK.intro hC (by simp) ?_
  by_cases c1 : s2 = 0
  rotate_left
  · rw [if_pos c1] at hD
    subst hD
    simp [c1, wkP, wkPL, isNilSl]
  subst c1
  rw [if_neg (by simp)] at hD
  subst hD
  obtain ⟨K, hK⟩ : ∃ K : Nat → List (List PV), ∀ i, K i = (newTo L i).m.map numR := ⟨_, fun _ => rfl⟩
  obtain ⟨B, hB⟩ : ∃ B : Nat → Bool, ∀ i, B i = (newTo L i).done := ⟨_, fun _ => rfl⟩
  have hK0 : K 0 = [] := by rw [hK]; rfl
  have hB0 : B 0 = false := by rw [hB]; rfl
  have hKs : ∀ i (h : i < L.length), K (i + 1) = K i ++ [[I64 ((i + 1 : Nat) : Int), .seq false 1 (irow L[i])]] := fun i h => by
    rw [hK, hK, newTo_succ L hL h, List.map_append]; rfl
  have hBs : ∀ i (h : i < L.length), B (i + 1) = (B i || decide (L[i].length = 0)) := fun i h => by rw [hB, hB, newTo_succ L hL h]
  have hKl : ∀ i, i ≤ L.length → (K i).length = i := fun i h => by rw [hK, List.length_map, newTo_mlen L hL i h]
  have hKe : K L.length = (newC L).m.map numR := hK _
  have hBe : B L.length = (newC L).done := hB _
  have hLe : (newC L).last = L.length := (CkG.new L hL L.length (Nat.le_refl _)).2
  simp
  refine ALoop.intro (S := fun (i : Nat) => ⟨[(1, .pv (.ptr 0 0)), (2, .pv (.ptr 1 0)), (6, .pv (.ptr 2 0)), (7, .pv (I64 i))], [[.pv (I64 v), .pv (.seq false 1 (L.map crowF))], [.pv (.lit (.slice none 0 0)), .pv (I64 0), .pv (BL false)], [.own true 2 (K i), .pv (I64 i), .pv (BL (B i))]]⟩) (fun i => i ≤ L.length) (fun i => L.length - i) 0 ?_ (Nat.zero_le _) ?_
  · exact (Weak.nilCell (b := 2) (k := 0) (xs := [.pv (.lit (.slice none 0 0)), .pv (I64 0), .pv (BL false)]) 2 true (by simp) (by simp)).trans (Weak.keep (by simp) (by simp [hK0, hB0]))
  intro i hi
  have hkl := hKl i hi
  by_cases d : i < L.length
  · have hw : w64 ((i : Int) + 1) = ((i + 1 : Nat) : Int) := by rw [w64_id (by omega) (by omega)]; omega
    have hq : L[i]? = some L[i] := List.getElem?_eq_getElem d
    have hks := hKs i d
    have hbs := hBs i d
    simp [d, hq, crowF, hw]
    exact ⟨by omega, i + 1, by (try dsimp only); omega, by (try dsimp only); omega, Weak.keep (by simp) (by simp [hks, hbs])⟩
  · have : i = L.length := by omega
    subst this
    simp [wkP, wkPL, hKe, hBe, hLe]
end Go.AX

namespace Go.AX
open Go.Proofs
set_option linter.unusedSimpArgs false
def eacG (c : Ck) (g : List Int) (k : Nat) : List (Int × List (List Int)) := ((List.range k).filter fun j : Nat => decide ((dIds c).getD j 0 = w64 (-(g.headD 0)))).map fun j : Nat => ((j : Int), rowsS c g.tail)
def eacTo (c : Ck) (gs : List (List Int)) (i : Nat) : List (Int × List (List Int)) := ((gs.take i).map fun g => eacG c g (dIds c).length).flatten
def eacD (c : Ck) (gs : List (List Int)) : List (Int × List (List Int)) := eacTo c gs gs.length
theorem eacG_succ (c : Ck) (g : List Int) (k : Nat) : eacG c g (k + 1) = if (dIds c).getD k 0 = w64 (-(g.headD 0)) then eacG c g k ++ [((k : Int), rowsS c g.tail)] else eacG c g k := by
  unfold eacG
  rw [List.range_succ, List.filter_append, List.map_append, List.filter_cons, List.filter_nil]
  by_cases e : (dIds c).getD k 0 = w64 (-(g.headD 0))
  · rw [if_pos e, if_pos (decide_eq_true e)]; rfl
  · rw [if_neg e, if_neg (by rw [decide_eq_true_iff]; exact e)]; simp
theorem eacG_len (c : Ck) (g : List Int) (k : Nat) : (eacG c g k).length ≤ k := by
  unfold eacG
  rw [List.length_map]
  exact Nat.le_trans (List.length_filter_le _ _) (Nat.le_of_eq List.length_range)
theorem eacTo_succ (c : Ck) (gs : List (List Int)) {i : Nat} (h : i < gs.length) : eacTo c gs (i + 1) = eacTo c gs i ++ eacG c gs[i] (dIds c).length := by
  unfold eacTo
  rw [List.take_add_one, List.getElem?_eq_getElem h, List.map_append, List.flatten_append]
  simp
theorem eacTo_len (c : Ck) (gs : List (List Int)) : ∀ i, i ≤ gs.length → (eacTo c gs i).length ≤ i * (dIds c).length
  | 0, _ => by simp [eacTo]
  | i + 1, h => by
    rw [eacTo_succ c gs (by omega), List.length_append, Nat.succ_mul]
    have := eacTo_len c gs i (by omega)
    have := eacG_len c gs[i] (dIds c).length
    omega
theorem eacTo_mem {c : Ck} {gs : List (List Int)} {i : Nat} {q : Int × List (List Int)} (h : q ∈ eacTo c gs i) : ∃ g ∈ gs, q.2 = rowsS c g.tail := by
  unfold eacTo at h
  obtain ⟨l, hl, hq⟩ := List.mem_flatten.1 h
  obtain ⟨g, hg, rfl⟩ := List.mem_map.1 hl
  refine ⟨g, (List.take_subset _ _) hg, ?_⟩
  unfold eacG at hq
  obtain ⟨j, _, rfl⟩ := List.mem_map.1 hq
  rfl
def eacT (e : Int × List (List Int)) : List PV := [I64 e.1, .seq true 1 (e.2.map crowF)]
@[simp] theorem belowR_eacT (k : Nat) (l : List (Int × List (List Int))) : belowR k (l.map eacT) := by
  induction l with
  | nil => trivial
  | cons x xs ih => exact ⟨⟨trivial, belowR_crowF k _, trivial⟩, ih⟩
@[simp] theorem frzR_eacT (r : Nat → Nat → PV) (l : List (Int × List (List Int))) : frzR r (l.map eacT) = l.map eacR := by
  rw [frzR_map, List.map_map]
  apply List.map_congr_left
  intro x _
  simp [eacR, eacT]
def shoD (c : Ck) (lits hints : List Int) : Int :=
  if (shwS lits (rowsS c (splS hints).1)).2 ≠ 23 ∨ lits = [] then (shwS lits (rowsS c (splS hints).1)).2
  else if (ratS (rowsS c (dIds c)) lits (rowsS c (splS hints).1) (ptA (eacD c (splS hints).2))).2 ≠ 0 then 24 else 0
def sh2Sch : Sch :=
  let s0 : Sch := .fork [(5, .take 6 (.take 7 (.take 8 (.take 9 (.take 10 .done)))))]
  let s1 : Sch := .fork [(4, s0)]
  let s2 : Sch := .fork [(2, s1)]
  let s3 : Sch := .fork [(1, s0)]
  let s4 : Sch := .fork [(1, s1), (4, s3)]
  let s5 : Sch := .fork [(1, s2), (2, s4)]
  .take 0 (.take 3 s5)
def sh14Sch : Sch :=
  let s0 : Sch := .fork [(11, .take 12 .done)]
  let s1 : Sch := .fork [(10, s0)]
  let s2 : Sch := .fork [(9, s1)]
  let s3 : Sch := .fork [(8, s2)]
  let s4 : Sch := .fork [(6, .take 7 s3)]
  let s5 : Sch := .fork [(2, s3)]
  let s6 : Sch := .fork [(2, s4), (6, .take 7 s5)]
  .take 0 (.take 1 (.take 3 (.take 4 (.take 5 s6))))
def sh15Sch : Sch :=
  let s0 : Sch := .fork [(9, .take 10 (.take 11 (.take 12 (.take 13 .done))))]
  let s1 : Sch := .fork [(7, s0)]
  let s2 : Sch := .fork [(5, s1)]
  let s3 : Sch := .fork [(4, s0)]
  let s4 : Sch := .fork [(4, s1), (7, s3)]
  let s5 : Sch := .fork [(4, s2), (5, s4)]
  let s6 : Sch := .fork [(2, s1)]
  let s7 : Sch := .fork [(2, s2), (5, s6)]
  let s8 : Sch := .fork [(2, s4), (4, s6)]
  let s9 : Sch := .fork [(2, s5), (4, s7), (5, s8)]
  let s10 : Sch := .fork [(0, s6)]
  let s11 : Sch := .fork [(0, s7), (5, s10)]
  let s12 : Sch := .fork [(0, s8), (4, s10)]
  let s13 : Sch := .fork [(0, s9), (4, s11), (5, s12)]
  .take 1 (.take 3 (.take 6 (.take 8 s13)))
set_option maxRecDepth 16000 in
theorem rshow_ok (c : Ck) (hc : CkOk c) (hcn : c.m.length ≤ 1000) (s : Stp) (hl : s.lits.length ≤ 100000) (hh : s.hints.length ≤ 1000) :
    APure Tryz.prog 131 [ckD false c, .agg (stpR s)] (fun r => r = .pv (I64 (shoD c s.lits s.hints))) := by
  refine apure1B [2, 14, 15] hmo Tryz.func131 (by kernel_rfl) rfl rfl (by kernel_rfl) (Nat.le_of_ble_eq_true rfl) ?_
  have hSp := fun g => refSplit10_ok g s.hints (by omega)
  have hS : shoD c s.lits s.hints = if (shwS s.lits (rowsS c (splS s.hints).1)).2 ≠ 23 ∨ s.lits = [] then (shwS s.lits (rowsS c (splS s.hints).1)).2
    else if (ratS (rowsS c (dIds c)) s.lits (rowsS c (splS s.hints).1) (ptA (eacD c (splS s.hints).2))).2 ≠ 0 then 24 else 0 := rfl
  have hsl := splTo_len s.hints s.hints.length (Nat.le_refl _)
  have hsn := splTo_ne s.hints s.hints.length (Nat.le_refl _)
  have hspl : splS s.hints = splTo s.hints s.hints.length := rfl
  rw [← hspl] at hsl hsn
  generalize splS s.hints = sp at *
  obtain ⟨ahead, groups⟩ := sp
  simp only at hsl hsn hS hSp
  obtain ⟨hsl1, hsl2⟩ := hsl
  have hra := rowsS_le hc ahead
  have hri := rowsS_le hc (dIds c)
  have hil : (dIds c).length = c.m.length := by unfold dIds; rw [List.length_map]
  have hf := (rrows_ok [] c ahead (by omega) (by omega)).mono (R' := fun r _ => r = .pv (.seq true 1 ((rowsS c ahead).map crowF))) fun _ _ h => h.2
  have hfi := (rrows_ok [] c (dIds c) (by omega) (by omega)).mono (R' := fun r _ => r = .pv (.seq true 1 ((rowsS c (dIds c)).map crowF))) fun _ _ h => h.2
  have hSh := refShow8_ok s.lits (rowsS c ahead) (by omega) (fun x hx => by have := hra.2 x hx; omega)
  generalize shoD c s.lits s.hints = S at *
  simp [stpR]
  refine CallK.introM (hSp _) (by simp) ?_
  rintro _ _ ⟨rfl, rfl⟩
  simp
  generalize hsh : shwS s.lits (rowsS c ahead) = sh at *
  obtain ⟨shn, she⟩ := sh
  simp only at hS
  refine AAnyD.meet sh2Sch ⟨[(2, .pv (.ptr 0 0)), (3, .pv (.ptr 1 0)), (5, .pv (.seq false 1 (irow ahead))), (6, .pv (.seq true 1 (groups.map crowF))), (8, .pv (I64 she))], [[.pv (.seq false 2 (c.m.map numR)), .pv (I64 c.last), .pv (BL c.done)], [.pv (I64 s.kind), .pv (I64 s.id), .pv (.seq false 1 (irow s.lits)), .pv (.seq false 1 (irow s.hints))]]⟩ (by kernel_rfl) ?_ ?_
  · simp [sh2Sch]
    and_intros
    all_goals
      refine CallK.introX (CallX.pureM (p := []) (q := []) (zs := [ckD false c, .seq false 1 (irow ahead)]) hf (by simp) rfl (by simp [argsPv]) (by simp) (by simp) ?_)
      simp
      refine CallK.intro hSh (by simp) ?_
      simp
      exact Weak.keep (by simp) rfl
  by_cases c1 : she = 23
  rotate_left
  · rw [if_pos (.inl c1)] at hS
    subst hS
    simp [c1]
  by_cases c2 : s.lits = []
  · rw [if_pos (.inr c2)] at hS
    subst hS
    simp [c1, c2]
  rw [if_neg (fun e => e.elim (fun e => e c1) c2)] at hS
  subst c1
  have hI := rids_ok c (by omega)
  simp [c2]
  refine CallK.intro hI (by simp) ?_
  simp
  obtain ⟨W, hW⟩ : ∃ W : Nat → List (List PV), ∀ i, W i = (eacTo c groups i).map eacT := ⟨_, fun _ => rfl⟩
  have hW0 : W 0 = [] := by rw [hW]; rfl
  have hWe : W groups.length = (eacD c groups).map eacT := hW _
  refine ALoop.intro (S := fun (i : Nat) => ⟨[(2, .pv (.ptr 0 0)), (3, .pv (.ptr 1 0)), (5, .pv (.seq false 1 (irow ahead))), (6, .pv (.seq true 1 (groups.map crowF))), (9, .pv (.seq true 1 (irow (dIds c)))), (10, .own true 2 (W i)), (11, .pv (I64 i))], [[.pv (.seq false 2 (c.m.map numR)), .pv (I64 c.last), .pv (BL c.done)], [.pv (I64 s.kind), .pv (I64 s.id), .pv (.seq false 1 (irow s.lits)), .pv (.seq false 1 (irow s.hints))]]⟩) (fun i => i ≤ groups.length) (fun i => groups.length - i) 0 ?_ (Nat.zero_le _) ?_
  · exact ((Weak.frz (s := 9) (e := 1) (nw := true) (rows := irow (dIds c)) (by simp)).trans (Weak.nilOwn (s := 10) 2 true (by simp))).trans (Weak.keep (by simp [hW0]) (by simp))
  intro i hi
  by_cases d : i < groups.length
  · have hw : w64 ((i : Int) + 1) = ((i + 1 : Nat) : Int) := by rw [w64_id (by omega) (by omega)]; omega
    have hrow := crowF_at groups d
    have hqg : groups[i]? = some groups[i] := List.getElem?_eq_getElem d
    have hgn := hsn _ (List.getElem_mem d)
    have hgl := hsl2 _ (List.getElem_mem d)
    have hes := eacTo_succ c groups d
    have hel := eacTo_len c groups i (by omega)
    generalize groups[i] = g at *
    obtain ⟨x, l, rfl⟩ : ∃ x l, g = x :: l := by
      cases g with
      | nil => exact absurd rfl hgn
      | cons x c => exact ⟨x, c, rfl⟩
    simp only [List.length_cons] at hgl
    have hml : i * (dIds c).length ≤ 1000 * 1000 := Nat.mul_le_mul (by omega) (by omega)
    have hfg := (rrows_ok [] c l (by omega) (by omega)).mono (R' := fun r _ => r = .pv (.seq true 1 ((rowsS c l).map crowF))) fun _ _ h => h.2
    obtain ⟨V, hV⟩ : ∃ V : Nat → List (List PV), ∀ k, V k = (eacTo c groups i ++ eacG c (x :: l) k).map eacT := ⟨_, fun _ => rfl⟩
    have hV0 : W i = V 0 := by rw [hV, hW]; simp [eacG]
    have hVe : V (dIds c).length = W (i + 1) := by rw [hV, hW, hes]
    have hVs : ∀ k (f : k < (dIds c).length), V (k + 1) = if (dIds c)[k] = w64 (-x) then V k ++ [eacT ((k : Int), rowsS c l)] else V k := fun k f => by
      rw [hV, hV, eacG_succ]
      have hg : (dIds c).getD k 0 = (dIds c)[k] := by rw [List.getD_eq_getElem?_getD, List.getElem?_eq_getElem f]; rfl
      rw [hg]
      show List.map eacT (_ ++ (if (dIds c)[k] = w64 (-x) then _ else _)) = _
      split
      · simp
      · rfl
    have hVl : ∀ k, k ≤ (dIds c).length → (V k).length ≤ 1010000 := fun k hk => by
      rw [hV, List.length_map, List.length_append]
      have := eacG_len c (x :: l) k
      omega
    simp [d, hqg]
    refine ALoop.intro (S := fun (k : Nat) => ⟨[(2, .pv (.ptr 0 0)), (3, .pv (.ptr 1 0)), (5, .pv (.seq false 1 (irow ahead))), (6, .pv (.seq true 1 (groups.map crowF))), (9, .pv (.seq true 1 (irow (dIds c)))), (10, .own true 2 (V k)), (11, .pv (I64 i)), (12, .pv (I64 k))], [[.pv (.seq false 2 (c.m.map numR)), .pv (I64 c.last), .pv (BL c.done)], [.pv (I64 s.kind), .pv (I64 s.id), .pv (.seq false 1 (irow s.lits)), .pv (.seq false 1 (irow s.hints))]]⟩) (fun k => k ≤ (dIds c).length) (fun k => (dIds c).length - k) 0 ?_ (Nat.zero_le _) ?_
    · exact Weak.keep (by simp [hV0]) (by simp)
    intro k hk
    have hvl := hVl k hk
    by_cases f : k < (dIds c).length
    · have hwk : w64 ((k : Int) + 1) = ((k + 1 : Nat) : Int) := by rw [w64_id (by omega) (by omega)]; omega
      have hqk : (dIds c)[k]? = some (dIds c)[k] := List.getElem?_eq_getElem f
      have hvs := hVs k f
      by_cases e : (dIds c)[k] = w64 (-x)
      · rw [if_pos e] at hvs
        simp [f, d, hqk, hrow, e]
        have htk : (List.take (l.length + 1) (irow (x :: l))).tail = irow l := by
          simp [irow]
          exact List.take_of_length_le (by simp)
        refine AAnyD.one sh14Sch (by kernel_rfl) ?_
        simp [sh14Sch, f, d, hrow, htk]
        refine ⟨⟨by omega, ?_⟩, ⟨by omega, ?_⟩⟩
        all_goals
          refine CallK.introX (CallX.pureM (p := []) (q := []) (zs := [ckD false c, .seq false 1 (irow l)]) hfg (by simp) rfl (by simp [argsPv]) (by simp) (by simp) ?_)
          simp [f, d, hrow]
          exact ⟨by omega, k + 1, by (try dsimp only); omega, by (try dsimp only); omega, Weak.keep (by simp [hwk, hvs, eacT]) (by simp)⟩
      · rw [if_neg e] at hvs
        simp [f, d, hqk, hrow, e]
        exact ⟨k + 1, by (try dsimp only); omega, by (try dsimp only); omega, Weak.keep (by simp [hwk, hvs]) (by simp)⟩
    · have : k = (dIds c).length := by omega
      subst this
      simp
      exact ⟨i + 1, by (try dsimp only); omega, by (try dsimp only); omega, Weak.keep (by simp [hw, hVe]) (by simp)⟩
  · have : i = groups.length := by omega
    subst this
    have hel := eacTo_len c groups groups.length (Nat.le_refl _)
    have hml : groups.length * (dIds c).length ≤ 1000 * 1000 := Nat.mul_le_mul (by omega) (by omega)
    have hR := refShow9_ok (rowsS c (dIds c)) s.lits (rowsS c ahead) (eacD c groups) (by omega) hri.2 hl (by omega) hra.2 (fun q hq => ?_) (by show (eacTo c groups groups.length).length ≤ _; omega)
    rotate_left
    · obtain ⟨g, hg, e⟩ := eacTo_mem hq
      have hgl := hsl2 g hg
      have := rowsS_le hc g.tail
      rw [e]
      refine ⟨?_, this.2⟩
      rw [this.1, List.length_tail]
      omega
    simp [hWe]
    refine AAnyD.meet sh15Sch ⟨[(8, .pv (I64 (ratS (rowsS c (dIds c)) s.lits (rowsS c ahead) (ptA (eacD c groups))).2))], []⟩ (by kernel_rfl) ?_ ?_
    · simp [sh15Sch]
      and_intros
      all_goals
        refine CallK.introX (CallX.pureM (p := []) (q := []) (zs := [ckD false c, .seq true 1 (irow (dIds c))]) (hfi.args (by simp [wkPL, wkP, wkRR_self])) (by simp) rfl (by simp [argsPv]) (by simp) (by simp) ?_)
        simp
        try and_intros
        all_goals
          refine CallK.introX (CallX.pureM (p := []) (q := []) (zs := [ckD false c, .seq false 1 (irow ahead)]) hf (by simp) rfl (by simp [argsPv]) (by simp) (by simp) ?_)
          simp
          refine CallK.intro hR (by simp) ?_
          simp
          exact Weak.to (by simp) rfl (by simp) (by simp) (by simp)
    · by_cases d : (ratS (rowsS c (dIds c)) s.lits (rowsS c ahead) (ptA (eacD c groups))).2 = 0
      · rw [if_neg (by simp [d])] at hS
        subst hS
        simp [d]
      · rw [if_pos d] at hS
        subst hS
        simp [d]
end Go.AX

namespace Go.AX
open Go.Proofs
set_option linter.unusedSimpArgs false
def stepD (c : Ck) (s : Stp) : Ck × Int :=
  if mayP s = false then (c, 2)
  else if s.kind = 2 then (if (drpGo c.m s.hints).2 ≠ 0 then (c, (drpGo c.m s.hints).2) else (⟨(drpGo c.m s.hints).1, c.last, c.done⟩, 0))
  else if s.id ≤ c.last then (c, 21) else if tautS s.lits = true then (c, 11) else if thereD c s.hints = false then (c, 20)
  else if shoD c s.lits s.hints ≠ 0 then (c, shoD c s.lits s.hints)
  else (⟨c.m ++ [(s.id, s.lits)], s.id, c.done || decide (s.lits.length = 0)⟩, 0)
theorem drpGo_len : ∀ (ids : List Int) (m : List (Int × List Int)), (drpGo m ids).1.length ≤ m.length
  | [], m => Nat.le_refl _
  | id :: ids, m => by
    rw [drpGo]
    split
    · exact Nat.le_refl _
    · exact Nat.le_trans (drpGo_len ids _) (List.length_filter_le _ _)
set_option maxRecDepth 16000 in
theorem rstep_ok (c : Ck) (hc : CkOk c) (hcn : c.m.length ≤ 1000) (s : Stp) (hl : s.lits.length ≤ 100000) (hh : s.hints.length ≤ 1000) :
    AMut Tryz.prog 78 [ckD false c, .agg (stpR s)] [] (fun r g' => g' = [] ∧ r = .pv (.tup [ckD false (stepD c s).1, I64 (stepD c s).2])) := by
  refine amutXW [18] [.cell 4 _, .tmp 5] hmo Tryz.func78 (by kernel_rfl) rfl rfl (by kernel_rfl) (Nat.le_of_ble_eq_true rfl) ?_
  have k1 := refChk10_ok s hl (by omega)
  have k2 := (rdrop_ok c s.hints (by omega) (by omega)).mono (R' := fun r _ => r = .pv (.tup [ckD false ⟨(drpGo c.m s.hints).1, c.last, c.done⟩, I64 (drpGo c.m s.hints).2])) fun _ _ h => h.2
  have k3 := refTaut_ok s.lits (by omega)
  have k4 := rthere_ok c s.hints (by omega) (by omega)
  have k5 := rshow_ok c hc hcn s hl hh
  have hS : stepD c s = if mayP s = false then (c, 2)
    else if s.kind = 2 then (if (drpGo c.m s.hints).2 ≠ 0 then (c, (drpGo c.m s.hints).2) else (⟨(drpGo c.m s.hints).1, c.last, c.done⟩, 0))
    else if s.id ≤ c.last then (c, 21) else if tautS s.lits = true then (c, 11) else if thereD c s.hints = false then (c, 20)
    else if shoD c s.lits s.hints ≠ 0 then (c, shoD c s.lits s.hints)
    else (⟨c.m ++ [(s.id, s.lits)], s.id, c.done || decide (s.lits.length = 0)⟩, 0) := rfl
  generalize stepD c s = S at *
  generalize drpGo c.m s.hints = D at *
  obtain ⟨d1, d2⟩ := D
  simp only at hS k2
  generalize mayP s = M at *
  generalize tautS s.lits = T at *
  generalize thereD c s.hints = H at *
  generalize shoD c s.lits s.hints = Sh at *
  simp [stpR]
  refine CallK.intro k1 (by simp) ?_
  cases M
  · rw [if_pos rfl] at hS
    subst hS
    simp [wkP, wkPL]
  rw [if_neg (by simp)] at hS
  simp
  by_cases c2 : s.kind = 2
  · rw [if_pos c2] at hS
    simp [c2]
    refine CallK.introX (CallX.pureM (p := []) (q := []) (zs := [ckD false c, .seq false 1 (irow s.hints)]) k2 (by simp) rfl (by simp [argsPv]) (by simp) (by simp) ?_)
    by_cases e : d2 = 0
    · rw [if_neg (by simp [e])] at hS
      subst hS e
      simp [wkP, wkPL]
    · rw [if_pos e] at hS
      subst hS
      simp [e, wkP, wkPL]
  rw [if_neg c2] at hS
  by_cases c3 : s.id ≤ c.last
  · rw [if_pos c3] at hS
    subst hS
    have c3' : ¬ c.last < s.id := by omega
    simp [c2, c3, c3', wkP, wkPL]
  rw [if_neg c3] at hS
  have c3' : c.last < s.id := by omega
  simp [c2, c3, c3']
  refine CallK.intro k3 (by simp) ?_
  cases T
  rotate_left
  · rw [if_pos rfl] at hS
    subst hS
    simp [wkP, wkPL]
  rw [if_neg (by simp)] at hS
  simp
  refine CallK.intro k4 (by simp) ?_
  cases H
  · rw [if_pos rfl] at hS
    subst hS
    simp [wkP, wkPL]
  rw [if_neg (by simp)] at hS
  simp
  refine CallK.intro k5 (by simp) ?_
  by_cases c6 : Sh = 0
  rotate_left
  · rw [if_pos c6] at hS
    subst hS
    simp [c6, wkP, wkPL]
  rw [if_neg (by simp [c6])] at hS
  subst hS
  simp [c6]
  refine AAnyD.dagO 13 #[false, false, false, false, false, false, false, false, false, false, false, false, false] (by kernel_rfl) fun stp hstp C hC => ?_
  have e0 := hstp 0
  simp only [AStepI, AStep, AEx, gslot, boxedIn, List.getElem?_cons_zero, List.getElem?_cons_succ, Option.bind_some, Bool.or_false, Bool.false_or, Bool.or_true, Bool.true_or, Bool.false_and, Bool.true_and, Bool.false_eq_true, if_false] at e0
  have e1 := hstp 1
  simp only [AStepI, AStep, AEx, gslot, boxedIn, List.getElem?_cons_zero, List.getElem?_cons_succ, Option.bind_some, Bool.or_false, Bool.false_or, Bool.or_true, Bool.true_or, Bool.false_and, Bool.true_and, Bool.false_eq_true, if_false] at e1
  have e2 := hstp 2
  simp only [AStepI, AStep, AEx, gslot, boxedIn, List.getElem?_cons_zero, List.getElem?_cons_succ, Option.bind_some, Bool.or_false, Bool.false_or, Bool.or_true, Bool.true_or, Bool.false_and, Bool.true_and, Bool.false_eq_true, if_false] at e2
  have e3 := hstp 3
  simp only [AStepI, AStep, AEx, gslot, boxedIn, List.getElem?_cons_zero, List.getElem?_cons_succ, Option.bind_some, Bool.or_false, Bool.false_or, Bool.or_true, Bool.true_or, Bool.false_and, Bool.true_and, Bool.false_eq_true, if_false] at e3
  have e4 := hstp 4
  simp only [AStepI, AStep, AEx, gslot, boxedIn, List.getElem?_cons_zero, List.getElem?_cons_succ, Option.bind_some, Bool.or_false, Bool.false_or, Bool.or_true, Bool.true_or, Bool.false_and, Bool.true_and, Bool.false_eq_true, if_false] at e4
  have e5 := hstp 5
  simp only [AStepI, AStep, AEx, gslot, boxedIn, List.getElem?_cons_zero, List.getElem?_cons_succ, Option.bind_some, Bool.or_false, Bool.false_or, Bool.or_true, Bool.true_or, Bool.false_and, Bool.true_and, Bool.false_eq_true, if_false] at e5
  have e6 := hstp 6
  simp only [AStepI, AStep, AEx, gslot, boxedIn, List.getElem?_cons_zero, List.getElem?_cons_succ, Option.bind_some, Bool.or_false, Bool.false_or, Bool.or_true, Bool.true_or, Bool.false_and, Bool.true_and, Bool.false_eq_true, if_false] at e6
  have e7 := hstp 7
  simp only [AStepI, AStep, AEx, gslot, boxedIn, List.getElem?_cons_zero, List.getElem?_cons_succ, Option.bind_some, Bool.or_false, Bool.false_or, Bool.or_true, Bool.true_or, Bool.false_and, Bool.true_and, Bool.false_eq_true, if_false] at e7
  have e8 := hstp 8
  simp only [AStepI, AStep, AEx, gslot, boxedIn, List.getElem?_cons_zero, List.getElem?_cons_succ, Option.bind_some, Bool.or_false, Bool.false_or, Bool.or_true, Bool.true_or, Bool.false_and, Bool.true_and, Bool.false_eq_true, if_false] at e8
  have e9 := hstp 9
  simp only [AStepI, AStep, AEx, gslot, boxedIn, List.getElem?_cons_zero, List.getElem?_cons_succ, Option.bind_some, Bool.or_false, Bool.false_or, Bool.or_true, Bool.true_or, Bool.false_and, Bool.true_and, Bool.false_eq_true, if_false] at e9
  have e10 := hstp 10
  simp only [AStepI, AStep, AEx, gslot, boxedIn, List.getElem?_cons_zero, List.getElem?_cons_succ, Option.bind_some, Bool.or_false, Bool.false_or, Bool.or_true, Bool.true_or, Bool.false_and, Bool.true_and, Bool.false_eq_true, if_false] at e10
  have e11 := hstp 11
  simp only [AStepI, AStep, AEx, gslot, boxedIn, List.getElem?_cons_zero, List.getElem?_cons_succ, Option.bind_some, Bool.or_false, Bool.false_or, Bool.or_true, Bool.true_or, Bool.false_and, Bool.true_and, Bool.false_eq_true, if_false] at e11
  have e12 := hstp 12
  simp only [AStepI, AStep, AEx, gslot, boxedIn, List.getElem?_cons_zero, List.getElem?_cons_succ, Option.bind_some, Bool.or_false, Bool.false_or, Bool.or_true, Bool.true_or, Bool.false_and, Bool.true_and, Bool.false_eq_true, if_false] at e12
  clear hstp
  have d0 : C 0 #[true, true, true, true, true, true, true, true, true, true, true, true, true] ⟨[(2, .pv (.ptr 0 0)), (3, .pv (.ptr 1 0)), (4, .pv (.ptr 2 0))], [[.own true 2 (c.m.map numR ++ [[I64 s.id, .seq false 1 (irow s.lits)]]), .pv (I64 c.last), .pv (BL c.done)], [.pv (I64 s.kind), .pv (I64 s.id), .pv (.seq false 1 (irow s.lits)), .pv (.seq false 1 (irow s.hints))], [.pv (.lit (.slice none 0 0)), .pv (.lit (.int .i64 0)), .pv (.lit (.bool false))]]⟩ := by
    refine hC.done _ _ _ ?_ ?_
    · kernel_rfl
    simp [wkP, wkPL, numR]
  have d1 : C 1 #[true, true, true, true, true, true, true, true, true, true, true, true, false] ⟨[(2, .pv (.ptr 0 0)), (3, .pv (.ptr 1 0)), (4, .pv (.ptr 2 0)), (68, .own true 2 (c.m.map numR ++ [[I64 s.id, .seq false 1 (irow s.lits)]])), (69, .pv (.ptr 0 0))], [[.pv (.seq false 2 (c.m.map numR)), .pv (I64 c.last), .pv (BL c.done)], [.pv (I64 s.kind), .pv (I64 s.id), .pv (.seq false 1 (irow s.lits)), .pv (.seq false 1 (irow s.hints))], [.pv (.lit (.slice none 0 0)), .pv (.lit (.int .i64 0)), .pv (.lit (.bool false))]]⟩ := by
    refine hC.fork [(12, #[true, true, true, true, true, true, true, true, true, true, true, true, true])] ?_ ⟨?_, trivial⟩
    · kernel_rfl
    · simp [e12]
      try refine ⟨by omega, ?_⟩
      refine hC.weak d0 (Weak.keep ?_ ?_) <;> simp
  have d2 : C 3 #[true, true, true, true, true, true, true, true, true, true, false, false, false] ⟨[(2, .pv (.ptr 0 0)), (3, .pv (.ptr 1 0)), (4, .pv (.ptr 2 0)), (61, .own true 2 (c.m.map numR)), (67, .own true 2 [[I64 s.id, .seq false 1 (irow s.lits)]])], [[.pv (.seq false 2 (c.m.map numR)), .pv (I64 c.last), .pv (BL c.done)], [.pv (I64 s.kind), .pv (I64 s.id), .pv (.seq false 1 (irow s.lits)), .pv (.seq false 1 (irow s.hints))], [.pv (.lit (.slice none 0 0)), .pv (.lit (.int .i64 0)), .pv (.lit (.bool false))]]⟩ := by
    refine hC.fork [(10, #[true, true, true, true, true, true, true, true, true, true, true, false, false])] ?_ ⟨?_, trivial⟩
    · kernel_rfl
    · simp [e10]
      try refine ⟨by omega, ?_⟩
      refine hC.take 11 #[true, true, true, true, true, true, true, true, true, true, true, true, false] ?_ ?_
      · kernel_rfl
      simp [e11]
      refine hC.weak d1 (Weak.keep ?_ ?_) <;> simp
  have d3 : C 4 #[true, true, true, true, true, true, true, true, true, false, false, false, false] ⟨[(2, .pv (.ptr 0 0)), (3, .pv (.ptr 1 0)), (4, .pv (.ptr 2 0)), (61, .own true 2 (c.m.map numR)), (66, .pv (.agg [I64 s.id, .seq false 1 (irow s.lits)]))], [[.pv (.seq false 2 (c.m.map numR)), .pv (I64 c.last), .pv (BL c.done)], [.pv (I64 s.kind), .pv (I64 s.id), .pv (.seq false 1 (irow s.lits)), .pv (.seq false 1 (irow s.hints))], [.pv (.lit (.slice none 0 0)), .pv (.lit (.int .i64 0)), .pv (.lit (.bool false))]]⟩ := by
    refine hC.fork [(9, #[true, true, true, true, true, true, true, true, true, true, false, false, false])] ?_ ⟨?_, trivial⟩
    · kernel_rfl
    · simp [e9]
      try refine ⟨by omega, ?_⟩
      refine hC.weak d2 (Weak.keep ?_ ?_) <;> simp
  have d4 : C 5 #[true, true, true, true, true, true, true, true, false, false, false, false, false] ⟨[(2, .pv (.ptr 0 0)), (3, .pv (.ptr 1 0)), (4, .pv (.ptr 2 0)), (61, .own true 2 (c.m.map numR)), (63, .pv (I64 s.id)), (65, .pv (.seq false 1 (irow s.lits)))], [[.pv (.seq false 2 (c.m.map numR)), .pv (I64 c.last), .pv (BL c.done)], [.pv (I64 s.kind), .pv (I64 s.id), .pv (.seq false 1 (irow s.lits)), .pv (.seq false 1 (irow s.hints))], [.pv (.lit (.slice none 0 0)), .pv (.lit (.int .i64 0)), .pv (.lit (.bool false))]]⟩ := by
    refine hC.fork [(8, #[true, true, true, true, true, true, true, true, true, false, false, false, false])] ?_ ⟨?_, trivial⟩
    · kernel_rfl
    · simp [e8]
      try refine ⟨by omega, ?_⟩
      refine hC.weak d3 (Weak.keep ?_ ?_) <;> simp
  have d5 : C 6 #[true, true, true, true, true, true, true, false, false, false, false, false, false] ⟨[(2, .pv (.ptr 0 0)), (3, .pv (.ptr 1 0)), (4, .pv (.ptr 2 0)), (61, .own true 2 (c.m.map numR)), (63, .pv (I64 s.id)), (64, .pv (.ptr 1 2))], [[.pv (.seq false 2 (c.m.map numR)), .pv (I64 c.last), .pv (BL c.done)], [.pv (I64 s.kind), .pv (I64 s.id), .pv (.seq false 1 (irow s.lits)), .pv (.seq false 1 (irow s.hints))], [.pv (.lit (.slice none 0 0)), .pv (.lit (.int .i64 0)), .pv (.lit (.bool false))]]⟩ := by
    refine hC.fork [(7, #[true, true, true, true, true, true, true, true, false, false, false, false, false])] ?_ ⟨?_, trivial⟩
    · kernel_rfl
    · simp [e7]
      try refine ⟨by omega, ?_⟩
      refine hC.weak d4 (Weak.keep ?_ ?_) <;> simp
  have d6 : C 6 #[true, true, true, true, true, false, true, true, false, false, false, false, false] ⟨[(2, .pv (.ptr 0 0)), (3, .pv (.ptr 1 0)), (4, .pv (.ptr 2 0)), (61, .own true 2 (c.m.map numR)), (62, .pv (.ptr 1 1)), (65, .pv (.seq false 1 (irow s.lits)))], [[.pv (.seq false 2 (c.m.map numR)), .pv (I64 c.last), .pv (BL c.done)], [.pv (I64 s.kind), .pv (I64 s.id), .pv (.seq false 1 (irow s.lits)), .pv (.seq false 1 (irow s.hints))], [.pv (.lit (.slice none 0 0)), .pv (.lit (.int .i64 0)), .pv (.lit (.bool false))]]⟩ := by
    refine hC.fork [(5, #[true, true, true, true, true, true, true, true, false, false, false, false, false])] ?_ ⟨?_, trivial⟩
    · kernel_rfl
    · simp [e5]
      try refine ⟨by omega, ?_⟩
      refine hC.weak d4 (Weak.keep ?_ ?_) <;> simp
  have d7 : C 7 #[true, true, true, true, true, false, true, false, false, false, false, false, false] ⟨[(2, .pv (.ptr 0 0)), (3, .pv (.ptr 1 0)), (4, .pv (.ptr 2 0)), (61, .own true 2 (c.m.map numR)), (62, .pv (.ptr 1 1)), (64, .pv (.ptr 1 2))], [[.pv (.seq false 2 (c.m.map numR)), .pv (I64 c.last), .pv (BL c.done)], [.pv (I64 s.kind), .pv (I64 s.id), .pv (.seq false 1 (irow s.lits)), .pv (.seq false 1 (irow s.hints))], [.pv (.lit (.slice none 0 0)), .pv (.lit (.int .i64 0)), .pv (.lit (.bool false))]]⟩ := by
    refine hC.fork [(5, #[true, true, true, true, true, true, true, false, false, false, false, false, false]), (7, #[true, true, true, true, true, false, true, true, false, false, false, false, false])] ?_ ⟨?_, ?_, trivial⟩
    · kernel_rfl
    · simp [e5]
      try refine ⟨by omega, ?_⟩
      refine hC.weak d5 (Weak.keep ?_ ?_) <;> simp
    · simp [e7]
      try refine ⟨by omega, ?_⟩
      refine hC.weak d6 (Weak.keep ?_ ?_) <;> simp
  have d8 : C 4 #[true, true, true, false, true, true, true, true, true, true, false, false, false] ⟨[(2, .pv (.ptr 0 0)), (3, .pv (.ptr 1 0)), (4, .pv (.ptr 2 0)), (58, .own true 2 []), (60, .pv (.seq false 2 (c.m.map numR))), (67, .own true 2 [[I64 s.id, .seq false 1 (irow s.lits)]])], [[.pv (.seq false 2 (c.m.map numR)), .pv (I64 c.last), .pv (BL c.done)], [.pv (I64 s.kind), .pv (I64 s.id), .pv (.seq false 1 (irow s.lits)), .pv (.seq false 1 (irow s.hints))], [.pv (.lit (.slice none 0 0)), .pv (.lit (.int .i64 0)), .pv (.lit (.bool false))]]⟩ := by
    refine hC.fork [(3, #[true, true, true, true, true, true, true, true, true, true, false, false, false])] ?_ ⟨?_, trivial⟩
    · kernel_rfl
    · simp [e3]
      try refine ⟨by omega, ?_⟩
      refine hC.weak d2 (Weak.keep ?_ ?_) <;> simp
  have d9 : C 5 #[true, true, true, false, true, true, true, true, true, false, false, false, false] ⟨[(2, .pv (.ptr 0 0)), (3, .pv (.ptr 1 0)), (4, .pv (.ptr 2 0)), (58, .own true 2 []), (60, .pv (.seq false 2 (c.m.map numR))), (66, .pv (.agg [I64 s.id, .seq false 1 (irow s.lits)]))], [[.pv (.seq false 2 (c.m.map numR)), .pv (I64 c.last), .pv (BL c.done)], [.pv (I64 s.kind), .pv (I64 s.id), .pv (.seq false 1 (irow s.lits)), .pv (.seq false 1 (irow s.hints))], [.pv (.lit (.slice none 0 0)), .pv (.lit (.int .i64 0)), .pv (.lit (.bool false))]]⟩ := by
    refine hC.fork [(3, #[true, true, true, true, true, true, true, true, true, false, false, false, false]), (9, #[true, true, true, false, true, true, true, true, true, true, false, false, false])] ?_ ⟨?_, ?_, trivial⟩
    · kernel_rfl
    · simp [e3]
      try refine ⟨by omega, ?_⟩
      refine hC.weak d3 (Weak.keep ?_ ?_) <;> simp
    · simp [e9]
      try refine ⟨by omega, ?_⟩
      refine hC.weak d8 (Weak.keep ?_ ?_) <;> simp
  have d10 : C 6 #[true, true, true, false, true, true, true, true, false, false, false, false, false] ⟨[(2, .pv (.ptr 0 0)), (3, .pv (.ptr 1 0)), (4, .pv (.ptr 2 0)), (58, .own true 2 []), (60, .pv (.seq false 2 (c.m.map numR))), (63, .pv (I64 s.id)), (65, .pv (.seq false 1 (irow s.lits)))], [[.pv (.seq false 2 (c.m.map numR)), .pv (I64 c.last), .pv (BL c.done)], [.pv (I64 s.kind), .pv (I64 s.id), .pv (.seq false 1 (irow s.lits)), .pv (.seq false 1 (irow s.hints))], [.pv (.lit (.slice none 0 0)), .pv (.lit (.int .i64 0)), .pv (.lit (.bool false))]]⟩ := by
    refine hC.fork [(3, #[true, true, true, true, true, true, true, true, false, false, false, false, false]), (8, #[true, true, true, false, true, true, true, true, true, false, false, false, false])] ?_ ⟨?_, ?_, trivial⟩
    · kernel_rfl
    · simp [e3]
      try refine ⟨by omega, ?_⟩
      refine hC.weak d4 (Weak.keep ?_ ?_) <;> simp
    · simp [e8]
      try refine ⟨by omega, ?_⟩
      refine hC.weak d9 (Weak.keep ?_ ?_) <;> simp
  have d11 : C 7 #[true, true, true, false, true, true, true, false, false, false, false, false, false] ⟨[(2, .pv (.ptr 0 0)), (3, .pv (.ptr 1 0)), (4, .pv (.ptr 2 0)), (58, .own true 2 []), (60, .pv (.seq false 2 (c.m.map numR))), (63, .pv (I64 s.id)), (64, .pv (.ptr 1 2))], [[.pv (.seq false 2 (c.m.map numR)), .pv (I64 c.last), .pv (BL c.done)], [.pv (I64 s.kind), .pv (I64 s.id), .pv (.seq false 1 (irow s.lits)), .pv (.seq false 1 (irow s.hints))], [.pv (.lit (.slice none 0 0)), .pv (.lit (.int .i64 0)), .pv (.lit (.bool false))]]⟩ := by
    refine hC.fork [(3, #[true, true, true, true, true, true, true, false, false, false, false, false, false]), (7, #[true, true, true, false, true, true, true, true, false, false, false, false, false])] ?_ ⟨?_, ?_, trivial⟩
    · kernel_rfl
    · simp [e3]
      try refine ⟨by omega, ?_⟩
      refine hC.weak d5 (Weak.keep ?_ ?_) <;> simp
    · simp [e7]
      try refine ⟨by omega, ?_⟩
      refine hC.weak d10 (Weak.keep ?_ ?_) <;> simp
  have d12 : C 7 #[true, true, true, false, true, false, true, true, false, false, false, false, false] ⟨[(2, .pv (.ptr 0 0)), (3, .pv (.ptr 1 0)), (4, .pv (.ptr 2 0)), (58, .own true 2 []), (60, .pv (.seq false 2 (c.m.map numR))), (62, .pv (.ptr 1 1)), (65, .pv (.seq false 1 (irow s.lits)))], [[.pv (.seq false 2 (c.m.map numR)), .pv (I64 c.last), .pv (BL c.done)], [.pv (I64 s.kind), .pv (I64 s.id), .pv (.seq false 1 (irow s.lits)), .pv (.seq false 1 (irow s.hints))], [.pv (.lit (.slice none 0 0)), .pv (.lit (.int .i64 0)), .pv (.lit (.bool false))]]⟩ := by
    refine hC.fork [(3, #[true, true, true, true, true, false, true, true, false, false, false, false, false]), (5, #[true, true, true, false, true, true, true, true, false, false, false, false, false])] ?_ ⟨?_, ?_, trivial⟩
    · kernel_rfl
    · simp [e3]
      try refine ⟨by omega, ?_⟩
      refine hC.weak d6 (Weak.keep ?_ ?_) <;> simp
    · simp [e5]
      try refine ⟨by omega, ?_⟩
      refine hC.weak d10 (Weak.keep ?_ ?_) <;> simp
  have d13 : C 8 #[true, true, true, false, true, false, true, false, false, false, false, false, false] ⟨[(2, .pv (.ptr 0 0)), (3, .pv (.ptr 1 0)), (4, .pv (.ptr 2 0)), (58, .own true 2 []), (60, .pv (.seq false 2 (c.m.map numR))), (62, .pv (.ptr 1 1)), (64, .pv (.ptr 1 2))], [[.pv (.seq false 2 (c.m.map numR)), .pv (I64 c.last), .pv (BL c.done)], [.pv (I64 s.kind), .pv (I64 s.id), .pv (.seq false 1 (irow s.lits)), .pv (.seq false 1 (irow s.hints))], [.pv (.lit (.slice none 0 0)), .pv (.lit (.int .i64 0)), .pv (.lit (.bool false))]]⟩ := by
    refine hC.fork [(3, #[true, true, true, true, true, false, true, false, false, false, false, false, false]), (5, #[true, true, true, false, true, true, true, false, false, false, false, false, false]), (7, #[true, true, true, false, true, false, true, true, false, false, false, false, false])] ?_ ⟨?_, ?_, ?_, trivial⟩
    · kernel_rfl
    · simp [e3]
      try refine ⟨by omega, ?_⟩
      refine hC.weak d7 (Weak.keep ?_ ?_) <;> simp
    · simp [e5]
      try refine ⟨by omega, ?_⟩
      refine hC.weak d11 (Weak.keep ?_ ?_) <;> simp
    · simp [e7]
      try refine ⟨by omega, ?_⟩
      refine hC.weak d12 (Weak.keep ?_ ?_) <;> simp
  have d14 : C 5 #[true, true, false, false, true, true, true, true, true, true, false, false, false] ⟨[(2, .pv (.ptr 0 0)), (3, .pv (.ptr 1 0)), (4, .pv (.ptr 2 0)), (58, .own true 2 []), (59, .pv (.ptr 0 0)), (67, .own true 2 [[I64 s.id, .seq false 1 (irow s.lits)]])], [[.pv (.seq false 2 (c.m.map numR)), .pv (I64 c.last), .pv (BL c.done)], [.pv (I64 s.kind), .pv (I64 s.id), .pv (.seq false 1 (irow s.lits)), .pv (.seq false 1 (irow s.hints))], [.pv (.lit (.slice none 0 0)), .pv (.lit (.int .i64 0)), .pv (.lit (.bool false))]]⟩ := by
    refine hC.fork [(2, #[true, true, true, false, true, true, true, true, true, true, false, false, false])] ?_ ⟨?_, trivial⟩
    · kernel_rfl
    · simp [e2]
      try refine ⟨by omega, ?_⟩
      refine hC.weak d8 (Weak.keep ?_ ?_) <;> simp
  have d15 : C 6 #[true, true, false, false, true, true, true, true, true, false, false, false, false] ⟨[(2, .pv (.ptr 0 0)), (3, .pv (.ptr 1 0)), (4, .pv (.ptr 2 0)), (58, .own true 2 []), (59, .pv (.ptr 0 0)), (66, .pv (.agg [I64 s.id, .seq false 1 (irow s.lits)]))], [[.pv (.seq false 2 (c.m.map numR)), .pv (I64 c.last), .pv (BL c.done)], [.pv (I64 s.kind), .pv (I64 s.id), .pv (.seq false 1 (irow s.lits)), .pv (.seq false 1 (irow s.hints))], [.pv (.lit (.slice none 0 0)), .pv (.lit (.int .i64 0)), .pv (.lit (.bool false))]]⟩ := by
    refine hC.fork [(2, #[true, true, true, false, true, true, true, true, true, false, false, false, false]), (9, #[true, true, false, false, true, true, true, true, true, true, false, false, false])] ?_ ⟨?_, ?_, trivial⟩
    · kernel_rfl
    · simp [e2]
      try refine ⟨by omega, ?_⟩
      refine hC.weak d9 (Weak.keep ?_ ?_) <;> simp
    · simp [e9]
      try refine ⟨by omega, ?_⟩
      refine hC.weak d14 (Weak.keep ?_ ?_) <;> simp
  have d16 : C 7 #[true, true, false, false, true, true, true, true, false, false, false, false, false] ⟨[(2, .pv (.ptr 0 0)), (3, .pv (.ptr 1 0)), (4, .pv (.ptr 2 0)), (58, .own true 2 []), (59, .pv (.ptr 0 0)), (63, .pv (I64 s.id)), (65, .pv (.seq false 1 (irow s.lits)))], [[.pv (.seq false 2 (c.m.map numR)), .pv (I64 c.last), .pv (BL c.done)], [.pv (I64 s.kind), .pv (I64 s.id), .pv (.seq false 1 (irow s.lits)), .pv (.seq false 1 (irow s.hints))], [.pv (.lit (.slice none 0 0)), .pv (.lit (.int .i64 0)), .pv (.lit (.bool false))]]⟩ := by
    refine hC.fork [(2, #[true, true, true, false, true, true, true, true, false, false, false, false, false]), (8, #[true, true, false, false, true, true, true, true, true, false, false, false, false])] ?_ ⟨?_, ?_, trivial⟩
    · kernel_rfl
    · simp [e2]
      try refine ⟨by omega, ?_⟩
      refine hC.weak d10 (Weak.keep ?_ ?_) <;> simp
    · simp [e8]
      try refine ⟨by omega, ?_⟩
      refine hC.weak d15 (Weak.keep ?_ ?_) <;> simp
  have d17 : C 8 #[true, true, false, false, true, true, true, false, false, false, false, false, false] ⟨[(2, .pv (.ptr 0 0)), (3, .pv (.ptr 1 0)), (4, .pv (.ptr 2 0)), (58, .own true 2 []), (59, .pv (.ptr 0 0)), (63, .pv (I64 s.id)), (64, .pv (.ptr 1 2))], [[.pv (.seq false 2 (c.m.map numR)), .pv (I64 c.last), .pv (BL c.done)], [.pv (I64 s.kind), .pv (I64 s.id), .pv (.seq false 1 (irow s.lits)), .pv (.seq false 1 (irow s.hints))], [.pv (.lit (.slice none 0 0)), .pv (.lit (.int .i64 0)), .pv (.lit (.bool false))]]⟩ := by
    refine hC.fork [(2, #[true, true, true, false, true, true, true, false, false, false, false, false, false]), (7, #[true, true, false, false, true, true, true, true, false, false, false, false, false])] ?_ ⟨?_, ?_, trivial⟩
    · kernel_rfl
    · simp [e2]
      try refine ⟨by omega, ?_⟩
      refine hC.weak d11 (Weak.keep ?_ ?_) <;> simp
    · simp [e7]
      try refine ⟨by omega, ?_⟩
      refine hC.weak d16 (Weak.keep ?_ ?_) <;> simp
  have d18 : C 8 #[true, true, false, false, true, false, true, true, false, false, false, false, false] ⟨[(2, .pv (.ptr 0 0)), (3, .pv (.ptr 1 0)), (4, .pv (.ptr 2 0)), (58, .own true 2 []), (59, .pv (.ptr 0 0)), (62, .pv (.ptr 1 1)), (65, .pv (.seq false 1 (irow s.lits)))], [[.pv (.seq false 2 (c.m.map numR)), .pv (I64 c.last), .pv (BL c.done)], [.pv (I64 s.kind), .pv (I64 s.id), .pv (.seq false 1 (irow s.lits)), .pv (.seq false 1 (irow s.hints))], [.pv (.lit (.slice none 0 0)), .pv (.lit (.int .i64 0)), .pv (.lit (.bool false))]]⟩ := by
    refine hC.fork [(2, #[true, true, true, false, true, false, true, true, false, false, false, false, false]), (5, #[true, true, false, false, true, true, true, true, false, false, false, false, false])] ?_ ⟨?_, ?_, trivial⟩
    · kernel_rfl
    · simp [e2]
      try refine ⟨by omega, ?_⟩
      refine hC.weak d12 (Weak.keep ?_ ?_) <;> simp
    · simp [e5]
      try refine ⟨by omega, ?_⟩
      refine hC.weak d16 (Weak.keep ?_ ?_) <;> simp
  have d19 : C 9 #[true, true, false, false, true, false, true, false, false, false, false, false, false] ⟨[(2, .pv (.ptr 0 0)), (3, .pv (.ptr 1 0)), (4, .pv (.ptr 2 0)), (58, .own true 2 []), (59, .pv (.ptr 0 0)), (62, .pv (.ptr 1 1)), (64, .pv (.ptr 1 2))], [[.pv (.seq false 2 (c.m.map numR)), .pv (I64 c.last), .pv (BL c.done)], [.pv (I64 s.kind), .pv (I64 s.id), .pv (.seq false 1 (irow s.lits)), .pv (.seq false 1 (irow s.hints))], [.pv (.lit (.slice none 0 0)), .pv (.lit (.int .i64 0)), .pv (.lit (.bool false))]]⟩ := by
    refine hC.fork [(2, #[true, true, true, false, true, false, true, false, false, false, false, false, false]), (5, #[true, true, false, false, true, true, true, false, false, false, false, false, false]), (7, #[true, true, false, false, true, false, true, true, false, false, false, false, false])] ?_ ⟨?_, ?_, ?_, trivial⟩
    · kernel_rfl
    · simp [e2]
      try refine ⟨by omega, ?_⟩
      refine hC.weak d13 (Weak.keep ?_ ?_) <;> simp
    · simp [e5]
      try refine ⟨by omega, ?_⟩
      refine hC.weak d17 (Weak.keep ?_ ?_) <;> simp
    · simp [e7]
      try refine ⟨by omega, ?_⟩
      refine hC.weak d18 (Weak.keep ?_ ?_) <;> simp
  have d20 : C 5 #[false, true, true, false, true, true, true, true, true, true, false, false, false] ⟨[(2, .pv (.ptr 0 0)), (3, .pv (.ptr 1 0)), (4, .pv (.ptr 2 0)), (60, .pv (.seq false 2 (c.m.map numR))), (67, .own true 2 [[I64 s.id, .seq false 1 (irow s.lits)]])], [[.pv (.seq false 2 (c.m.map numR)), .pv (I64 c.last), .pv (BL c.done)], [.pv (I64 s.kind), .pv (I64 s.id), .pv (.seq false 1 (irow s.lits)), .pv (.seq false 1 (irow s.hints))], [.pv (.lit (.slice none 0 0)), .pv (.lit (.int .i64 0)), .pv (.lit (.bool false))]]⟩ := by
    refine hC.fork [(0, #[true, true, true, false, true, true, true, true, true, true, false, false, false])] ?_ ⟨?_, trivial⟩
    · kernel_rfl
    · simp [e0]
      try refine ⟨by omega, ?_⟩
      refine hC.weak d8 (Weak.keep ?_ ?_) <;> simp
  have d21 : C 6 #[false, true, true, false, true, true, true, true, true, false, false, false, false] ⟨[(2, .pv (.ptr 0 0)), (3, .pv (.ptr 1 0)), (4, .pv (.ptr 2 0)), (60, .pv (.seq false 2 (c.m.map numR))), (66, .pv (.agg [I64 s.id, .seq false 1 (irow s.lits)]))], [[.pv (.seq false 2 (c.m.map numR)), .pv (I64 c.last), .pv (BL c.done)], [.pv (I64 s.kind), .pv (I64 s.id), .pv (.seq false 1 (irow s.lits)), .pv (.seq false 1 (irow s.hints))], [.pv (.lit (.slice none 0 0)), .pv (.lit (.int .i64 0)), .pv (.lit (.bool false))]]⟩ := by
    refine hC.fork [(0, #[true, true, true, false, true, true, true, true, true, false, false, false, false]), (9, #[false, true, true, false, true, true, true, true, true, true, false, false, false])] ?_ ⟨?_, ?_, trivial⟩
    · kernel_rfl
    · simp [e0]
      try refine ⟨by omega, ?_⟩
      refine hC.weak d9 (Weak.keep ?_ ?_) <;> simp
    · simp [e9]
      try refine ⟨by omega, ?_⟩
      refine hC.weak d20 (Weak.keep ?_ ?_) <;> simp
  have d22 : C 7 #[false, true, true, false, true, true, true, true, false, false, false, false, false] ⟨[(2, .pv (.ptr 0 0)), (3, .pv (.ptr 1 0)), (4, .pv (.ptr 2 0)), (60, .pv (.seq false 2 (c.m.map numR))), (63, .pv (I64 s.id)), (65, .pv (.seq false 1 (irow s.lits)))], [[.pv (.seq false 2 (c.m.map numR)), .pv (I64 c.last), .pv (BL c.done)], [.pv (I64 s.kind), .pv (I64 s.id), .pv (.seq false 1 (irow s.lits)), .pv (.seq false 1 (irow s.hints))], [.pv (.lit (.slice none 0 0)), .pv (.lit (.int .i64 0)), .pv (.lit (.bool false))]]⟩ := by
    refine hC.fork [(0, #[true, true, true, false, true, true, true, true, false, false, false, false, false]), (8, #[false, true, true, false, true, true, true, true, true, false, false, false, false])] ?_ ⟨?_, ?_, trivial⟩
    · kernel_rfl
    · simp [e0]
      try refine ⟨by omega, ?_⟩
      refine hC.weak d10 (Weak.keep ?_ ?_) <;> simp
    · simp [e8]
      try refine ⟨by omega, ?_⟩
      refine hC.weak d21 (Weak.keep ?_ ?_) <;> simp
  have d23 : C 8 #[false, true, true, false, true, true, true, false, false, false, false, false, false] ⟨[(2, .pv (.ptr 0 0)), (3, .pv (.ptr 1 0)), (4, .pv (.ptr 2 0)), (60, .pv (.seq false 2 (c.m.map numR))), (63, .pv (I64 s.id)), (64, .pv (.ptr 1 2))], [[.pv (.seq false 2 (c.m.map numR)), .pv (I64 c.last), .pv (BL c.done)], [.pv (I64 s.kind), .pv (I64 s.id), .pv (.seq false 1 (irow s.lits)), .pv (.seq false 1 (irow s.hints))], [.pv (.lit (.slice none 0 0)), .pv (.lit (.int .i64 0)), .pv (.lit (.bool false))]]⟩ := by
    refine hC.fork [(0, #[true, true, true, false, true, true, true, false, false, false, false, false, false]), (7, #[false, true, true, false, true, true, true, true, false, false, false, false, false])] ?_ ⟨?_, ?_, trivial⟩
    · kernel_rfl
    · simp [e0]
      try refine ⟨by omega, ?_⟩
      refine hC.weak d11 (Weak.keep ?_ ?_) <;> simp
    · simp [e7]
      try refine ⟨by omega, ?_⟩
      refine hC.weak d22 (Weak.keep ?_ ?_) <;> simp
  have d24 : C 8 #[false, true, true, false, true, false, true, true, false, false, false, false, false] ⟨[(2, .pv (.ptr 0 0)), (3, .pv (.ptr 1 0)), (4, .pv (.ptr 2 0)), (60, .pv (.seq false 2 (c.m.map numR))), (62, .pv (.ptr 1 1)), (65, .pv (.seq false 1 (irow s.lits)))], [[.pv (.seq false 2 (c.m.map numR)), .pv (I64 c.last), .pv (BL c.done)], [.pv (I64 s.kind), .pv (I64 s.id), .pv (.seq false 1 (irow s.lits)), .pv (.seq false 1 (irow s.hints))], [.pv (.lit (.slice none 0 0)), .pv (.lit (.int .i64 0)), .pv (.lit (.bool false))]]⟩ := by
    refine hC.fork [(0, #[true, true, true, false, true, false, true, true, false, false, false, false, false]), (5, #[false, true, true, false, true, true, true, true, false, false, false, false, false])] ?_ ⟨?_, ?_, trivial⟩
    · kernel_rfl
    · simp [e0]
      try refine ⟨by omega, ?_⟩
      refine hC.weak d12 (Weak.keep ?_ ?_) <;> simp
    · simp [e5]
      try refine ⟨by omega, ?_⟩
      refine hC.weak d22 (Weak.keep ?_ ?_) <;> simp
  have d25 : C 9 #[false, true, true, false, true, false, true, false, false, false, false, false, false] ⟨[(2, .pv (.ptr 0 0)), (3, .pv (.ptr 1 0)), (4, .pv (.ptr 2 0)), (60, .pv (.seq false 2 (c.m.map numR))), (62, .pv (.ptr 1 1)), (64, .pv (.ptr 1 2))], [[.pv (.seq false 2 (c.m.map numR)), .pv (I64 c.last), .pv (BL c.done)], [.pv (I64 s.kind), .pv (I64 s.id), .pv (.seq false 1 (irow s.lits)), .pv (.seq false 1 (irow s.hints))], [.pv (.lit (.slice none 0 0)), .pv (.lit (.int .i64 0)), .pv (.lit (.bool false))]]⟩ := by
    refine hC.fork [(0, #[true, true, true, false, true, false, true, false, false, false, false, false, false]), (5, #[false, true, true, false, true, true, true, false, false, false, false, false, false]), (7, #[false, true, true, false, true, false, true, true, false, false, false, false, false])] ?_ ⟨?_, ?_, ?_, trivial⟩
    · kernel_rfl
    · simp [e0]
      try refine ⟨by omega, ?_⟩
      refine hC.weak d13 (Weak.keep ?_ ?_) <;> simp
    · simp [e5]
      try refine ⟨by omega, ?_⟩
      refine hC.weak d23 (Weak.keep ?_ ?_) <;> simp
    · simp [e7]
      try refine ⟨by omega, ?_⟩
      refine hC.weak d24 (Weak.keep ?_ ?_) <;> simp
  have d26 : C 6 #[false, true, false, false, true, true, true, true, true, true, false, false, false] ⟨[(2, .pv (.ptr 0 0)), (3, .pv (.ptr 1 0)), (4, .pv (.ptr 2 0)), (59, .pv (.ptr 0 0)), (67, .own true 2 [[I64 s.id, .seq false 1 (irow s.lits)]])], [[.pv (.seq false 2 (c.m.map numR)), .pv (I64 c.last), .pv (BL c.done)], [.pv (I64 s.kind), .pv (I64 s.id), .pv (.seq false 1 (irow s.lits)), .pv (.seq false 1 (irow s.hints))], [.pv (.lit (.slice none 0 0)), .pv (.lit (.int .i64 0)), .pv (.lit (.bool false))]]⟩ := by
    refine hC.fork [(0, #[true, true, false, false, true, true, true, true, true, true, false, false, false]), (2, #[false, true, true, false, true, true, true, true, true, true, false, false, false])] ?_ ⟨?_, ?_, trivial⟩
    · kernel_rfl
    · simp [e0]
      try refine ⟨by omega, ?_⟩
      refine hC.weak d14 (Weak.keep ?_ ?_) <;> simp
    · simp [e2]
      try refine ⟨by omega, ?_⟩
      refine hC.weak d20 (Weak.keep ?_ ?_) <;> simp
  have d27 : C 7 #[false, true, false, false, true, true, true, true, true, false, false, false, false] ⟨[(2, .pv (.ptr 0 0)), (3, .pv (.ptr 1 0)), (4, .pv (.ptr 2 0)), (59, .pv (.ptr 0 0)), (66, .pv (.agg [I64 s.id, .seq false 1 (irow s.lits)]))], [[.pv (.seq false 2 (c.m.map numR)), .pv (I64 c.last), .pv (BL c.done)], [.pv (I64 s.kind), .pv (I64 s.id), .pv (.seq false 1 (irow s.lits)), .pv (.seq false 1 (irow s.hints))], [.pv (.lit (.slice none 0 0)), .pv (.lit (.int .i64 0)), .pv (.lit (.bool false))]]⟩ := by
    refine hC.fork [(0, #[true, true, false, false, true, true, true, true, true, false, false, false, false]), (2, #[false, true, true, false, true, true, true, true, true, false, false, false, false]), (9, #[false, true, false, false, true, true, true, true, true, true, false, false, false])] ?_ ⟨?_, ?_, ?_, trivial⟩
    · kernel_rfl
    · simp [e0]
      try refine ⟨by omega, ?_⟩
      refine hC.weak d15 (Weak.keep ?_ ?_) <;> simp
    · simp [e2]
      try refine ⟨by omega, ?_⟩
      refine hC.weak d21 (Weak.keep ?_ ?_) <;> simp
    · simp [e9]
      try refine ⟨by omega, ?_⟩
      refine hC.weak d26 (Weak.keep ?_ ?_) <;> simp
  have d28 : C 8 #[false, true, false, false, true, true, true, true, false, false, false, false, false] ⟨[(2, .pv (.ptr 0 0)), (3, .pv (.ptr 1 0)), (4, .pv (.ptr 2 0)), (59, .pv (.ptr 0 0)), (63, .pv (I64 s.id)), (65, .pv (.seq false 1 (irow s.lits)))], [[.pv (.seq false 2 (c.m.map numR)), .pv (I64 c.last), .pv (BL c.done)], [.pv (I64 s.kind), .pv (I64 s.id), .pv (.seq false 1 (irow s.lits)), .pv (.seq false 1 (irow s.hints))], [.pv (.lit (.slice none 0 0)), .pv (.lit (.int .i64 0)), .pv (.lit (.bool false))]]⟩ := by
    refine hC.fork [(0, #[true, true, false, false, true, true, true, true, false, false, false, false, false]), (2, #[false, true, true, false, true, true, true, true, false, false, false, false, false]), (8, #[false, true, false, false, true, true, true, true, true, false, false, false, false])] ?_ ⟨?_, ?_, ?_, trivial⟩
    · kernel_rfl
    · simp [e0]
      try refine ⟨by omega, ?_⟩
      refine hC.weak d16 (Weak.keep ?_ ?_) <;> simp
    · simp [e2]
      try refine ⟨by omega, ?_⟩
      refine hC.weak d22 (Weak.keep ?_ ?_) <;> simp
    · simp [e8]
      try refine ⟨by omega, ?_⟩
      refine hC.weak d27 (Weak.keep ?_ ?_) <;> simp
  have d29 : C 9 #[false, true, false, false, true, true, true, false, false, false, false, false, false] ⟨[(2, .pv (.ptr 0 0)), (3, .pv (.ptr 1 0)), (4, .pv (.ptr 2 0)), (59, .pv (.ptr 0 0)), (63, .pv (I64 s.id)), (64, .pv (.ptr 1 2))], [[.pv (.seq false 2 (c.m.map numR)), .pv (I64 c.last), .pv (BL c.done)], [.pv (I64 s.kind), .pv (I64 s.id), .pv (.seq false 1 (irow s.lits)), .pv (.seq false 1 (irow s.hints))], [.pv (.lit (.slice none 0 0)), .pv (.lit (.int .i64 0)), .pv (.lit (.bool false))]]⟩ := by
    refine hC.fork [(0, #[true, true, false, false, true, true, true, false, false, false, false, false, false]), (2, #[false, true, true, false, true, true, true, false, false, false, false, false, false]), (7, #[false, true, false, false, true, true, true, true, false, false, false, false, false])] ?_ ⟨?_, ?_, ?_, trivial⟩
    · kernel_rfl
    · simp [e0]
      try refine ⟨by omega, ?_⟩
      refine hC.weak d17 (Weak.keep ?_ ?_) <;> simp
    · simp [e2]
      try refine ⟨by omega, ?_⟩
      refine hC.weak d23 (Weak.keep ?_ ?_) <;> simp
    · simp [e7]
      try refine ⟨by omega, ?_⟩
      refine hC.weak d28 (Weak.keep ?_ ?_) <;> simp
  have d30 : C 9 #[false, true, false, false, true, false, true, true, false, false, false, false, false] ⟨[(2, .pv (.ptr 0 0)), (3, .pv (.ptr 1 0)), (4, .pv (.ptr 2 0)), (59, .pv (.ptr 0 0)), (62, .pv (.ptr 1 1)), (65, .pv (.seq false 1 (irow s.lits)))], [[.pv (.seq false 2 (c.m.map numR)), .pv (I64 c.last), .pv (BL c.done)], [.pv (I64 s.kind), .pv (I64 s.id), .pv (.seq false 1 (irow s.lits)), .pv (.seq false 1 (irow s.hints))], [.pv (.lit (.slice none 0 0)), .pv (.lit (.int .i64 0)), .pv (.lit (.bool false))]]⟩ := by
    refine hC.fork [(0, #[true, true, false, false, true, false, true, true, false, false, false, false, false]), (2, #[false, true, true, false, true, false, true, true, false, false, false, false, false]), (5, #[false, true, false, false, true, true, true, true, false, false, false, false, false])] ?_ ⟨?_, ?_, ?_, trivial⟩
    · kernel_rfl
    · simp [e0]
      try refine ⟨by omega, ?_⟩
      refine hC.weak d18 (Weak.keep ?_ ?_) <;> simp
    · simp [e2]
      try refine ⟨by omega, ?_⟩
      refine hC.weak d24 (Weak.keep ?_ ?_) <;> simp
    · simp [e5]
      try refine ⟨by omega, ?_⟩
      refine hC.weak d28 (Weak.keep ?_ ?_) <;> simp
  have d31 : C 10 #[false, true, false, false, true, false, true, false, false, false, false, false, false] ⟨[(2, .pv (.ptr 0 0)), (3, .pv (.ptr 1 0)), (4, .pv (.ptr 2 0)), (59, .pv (.ptr 0 0)), (62, .pv (.ptr 1 1)), (64, .pv (.ptr 1 2))], [[.pv (.seq false 2 (c.m.map numR)), .pv (I64 c.last), .pv (BL c.done)], [.pv (I64 s.kind), .pv (I64 s.id), .pv (.seq false 1 (irow s.lits)), .pv (.seq false 1 (irow s.hints))], [.pv (.lit (.slice none 0 0)), .pv (.lit (.int .i64 0)), .pv (.lit (.bool false))]]⟩ := by
    refine hC.fork [(0, #[true, true, false, false, true, false, true, false, false, false, false, false, false]), (2, #[false, true, true, false, true, false, true, false, false, false, false, false, false]), (5, #[false, true, false, false, true, true, true, false, false, false, false, false, false]), (7, #[false, true, false, false, true, false, true, true, false, false, false, false, false])] ?_ ⟨?_, ?_, ?_, ?_, trivial⟩
    · kernel_rfl
    · simp [e0]
      try refine ⟨by omega, ?_⟩
      refine hC.weak d19 (Weak.keep ?_ ?_) <;> simp
    · simp [e2]
      try refine ⟨by omega, ?_⟩
      refine hC.weak d25 (Weak.keep ?_ ?_) <;> simp
    · simp [e5]
      try refine ⟨by omega, ?_⟩
      refine hC.weak d29 (Weak.keep ?_ ?_) <;> simp
    · simp [e7]
      try refine ⟨by omega, ?_⟩
      refine hC.weak d30 (Weak.keep ?_ ?_) <;> simp
  refine hC.take 1 #[false, true, false, false, false, false, false, false, false, false, false, false, false] ?_ ?_
  · kernel_rfl
  simp [e1]
  refine hC.take 4 #[false, true, false, false, true, false, false, false, false, false, false, false, false] ?_ ?_
  · kernel_rfl
  simp [e4]
  refine hC.take 6 #[false, true, false, false, true, false, true, false, false, false, false, false, false] ?_ ?_
  · kernel_rfl
  simp [e6]
  refine hC.weak d31 (Weak.keep ?_ ?_) <;> simp
end Go.AX

namespace Go.AX
open Go.Proofs
set_option linter.unusedSimpArgs false
def chkDGo : Ck → List Stp → Nat → Int × Int
  | c, [], i => if c.done = true then ((i : Int), 0) else ((i : Int), 25)
  | c, s :: ss, i => if (stepD c s).2 ≠ 0 then ((i : Int), (stepD c s).2) else chkDGo (stepD c s).1 ss (i + 1)
def chkD (v : Int) (L : List (List Int)) (ss : List Stp) : Int × Int := if (cnfS v L).2 ≠ 0 then (-1, (cnfS v L).2) else chkDGo (newC L) ss 0
structure CkM (n : Nat) (c : Ck) : Prop where
  n : c.m.length ≤ n
  w : ∀ q ∈ c.m, wfI q.1
  l : ∀ q ∈ c.m, q.2.length ≤ 100000
theorem CkM.ok {n : Nat} {c : Ck} (h : CkM n c) (hn : n ≤ 100000) : CkOk c := ⟨Nat.le_trans h.n hn, h.w, h.l⟩
theorem drpGo_sub : ∀ (ids : List Int) (m : List (Int × List Int)), ∀ q ∈ (drpGo m ids).1, q ∈ m
  | [], m, q, h => h
  | id :: ids, m, q, h => by
    rw [drpGo] at h
    split at h
    · exact h
    · exact (List.mem_filter.1 (drpGo_sub ids _ q h)).1
theorem CkM.step {n : Nat} {c : Ck} (h : CkM n c) {s : Stp} (hl : s.lits.length ≤ 100000) : CkM (n + 1) (stepD c s).1 := by
  have h' : CkM (n + 1) c := ⟨Nat.le_succ_of_le h.n, h.w, h.l⟩
  unfold stepD
  split
  · exact h'
  rename_i hm
  have hmay : mayP s = true := by simpa using hm
  split
  · split
    · exact h'
    · exact ⟨Nat.le_succ_of_le (Nat.le_trans (drpGo_len _ _) h.n), fun q hq => h.w q (drpGo_sub _ _ q hq), fun q hq => h.l q (drpGo_sub _ _ q hq)⟩
  split
  · exact h'
  split
  · exact h'
  split
  · exact h'
  split
  · exact h'
  · have hid := mayP_id hmay
    refine ⟨by show (c.m ++ [(s.id, s.lits)]).length ≤ _; rw [List.length_append]; exact Nat.succ_le_succ h.n, fun q hq => ?_, fun q hq => ?_⟩
    · rcases List.mem_append.1 hq with hq | hq
      · exact h.w q hq
      · rw [List.mem_singleton] at hq; subst hq; exact wfI_of hid.2.1 (by have := hid.2.2; simp only; omega)
    · rcases List.mem_append.1 hq with hq | hq
      · exact h.l q hq
      · rw [List.mem_singleton] at hq; subst hq; exact hl
theorem newTo_ckm (L : List (List Int)) (hL : L.length ≤ 100000) (hr : ∀ c ∈ L, c.length ≤ 100000) : CkM L.length (newC L) := by
  obtain ⟨g, _⟩ := CkG.new L hL L.length (Nat.le_refl _)
  have hl := newTo_mlen L hL L.length (Nat.le_refl _)
  refine ⟨Nat.le_of_eq hl, fun q hq => wfI_of (by have := g.lo q hq; omega) (by have := g.hi q hq; have := g.t; omega), ?_⟩
  have : ∀ i, i ≤ L.length → ∀ q ∈ (newTo L i).m, q.2.length ≤ 100000 := by
    intro i
    induction i with
    | zero => intro _ q hq; exact absurd hq List.not_mem_nil
    | succ i ih =>
      intro hi q hq
      rw [newTo_succ L hL (show i < L.length by omega)] at hq
      rcases List.mem_append.1 hq with hq | hq
      · exact ih (by omega) q hq
      · rw [List.mem_singleton] at hq; subst hq; exact hr _ (List.getElem_mem _)
  exact this _ (Nat.le_refl _)
def ch7Sch : Sch :=
  let s0 : Sch := .fork [(10, .take 11 .done)]
  let s1 : Sch := .fork [(9, s0)]
  let s2 : Sch := .fork [(5, .take 6 (.take 7 (.take 8 s0)))]
  let s3 : Sch := .fork [(5, .take 6 (.take 7 (.take 8 s1))), (9, s2)]
  let s4 : Sch := .fork [(4, s2)]
  let s5 : Sch := .fork [(4, s3), (9, s4)]
  let s6 : Sch := .fork [(0, s2)]
  let s7 : Sch := .fork [(0, s3), (9, s6)]
  let s8 : Sch := .fork [(0, s4), (4, s6)]
  let s9 : Sch := .fork [(0, s5), (4, s7), (9, s8)]
  .take 1 (.take 2 (.take 3 s9))
set_option maxRecDepth 16000 in
theorem rcheck_ok (v : Int) (L : List (List Int)) (ss : List Stp) (hL : L.length ≤ 400) (hn : ss.length ≤ 400) (hr : ∀ c ∈ L, c.length ≤ 100000) (hs : ∀ s ∈ ss, s.lits.length ≤ 100000 ∧ s.hints.length ≤ 1000) :
    APure Tryz.prog 61 [.agg [I64 v, .seq false 1 (L.map crowF)], .seq false 4 (ss.map stpR)] (fun r => r = .pv (.tup [I64 (chkD v L ss).1, I64 (chkD v L ss).2])) := by
  refine apureNB [7] [4, 5] hmo Tryz.func61 (by kernel_rfl) rfl (fun _ _ => results_tmp2 rfl _ _ _) (by kernel_rfl) (Nat.le_of_ble_eq_true rfl) ?_
  have k1 := (rnew_ok v L (by omega) (fun c hc => by have := hr c hc; omega)).mono (R' := fun r _ => r = .pv (.tup [ckD false (newDC v L), I64 (cnfS v L).2])) fun _ _ h => h.2
  have hnd : newDC v L = if (cnfS v L).2 ≠ 0 then ⟨[], 0, false⟩ else newC L := rfl
  have hD : chkD v L ss = if (cnfS v L).2 ≠ 0 then (-1, (cnfS v L).2) else chkDGo (newC L) ss 0 := rfl
  generalize newDC v L = N at *
  generalize chkD v L ss = D at *
  generalize cnfS v L = F at *
  obtain ⟨f1, f2⟩ := F
  simp only at *
  simp
  refine CallK.introX (CallX.pureM (p := []) (q := []) (zs := [.agg [I64 v, .seq false 1 (L.map crowF)]]) k1 (by simp) rfl (by simp [argsPv]) (by simp) (by simp) ?_)
  by_cases c1 : f2 = 0
  rotate_left
  · rw [if_pos c1] at hD
    subst hD
    simp [c1]
  subst c1
  rw [if_neg (by simp)] at hnd hD
  subst hnd
  have hck := newTo_ckm L (by omega) hr
  have hD0 : D = chkDGo (newC L) (ss.drop 0) 0 := hD
  simp
  refine ALoop.intro (S := fun (x : Nat × Ck) => ⟨[(1, .pv (.seq false 4 (ss.map stpR))), (6, .pv (.ptr 1 0)), (8, .pv (I64 x.1))], [[.pv (I64 v), .pv (.seq false 1 (L.map crowF))], [.pv (.seq false 2 (x.2.m.map numR)), .pv (I64 x.2.last), .pv (BL x.2.done)]]⟩) (fun x => x.1 ≤ ss.length ∧ CkM (L.length + x.1) x.2 ∧ D = chkDGo x.2 (ss.drop x.1) x.1) (fun x => ss.length - x.1) (0, newC L) ?_ ⟨Nat.zero_le _, hck, hD0⟩ ?_
  · exact Weak.keep (by simp) (by simp)
  rintro ⟨i, c⟩ ⟨hi, hc, hDi⟩
  dsimp only at hi hc hDi
  by_cases d : i < ss.length
  · have hw : w64 ((i : Int) + 1) = ((i + 1 : Nat) : Int) := by rw [w64_id (by omega) (by omega)]; omega
    have hq : ss[i]? = some ss[i] := List.getElem?_eq_getElem d
    have hsi := hs _ (List.getElem_mem d)
    have k2 := (rstep_ok c (hc.ok (by omega)) (by have := hc.n; omega) ss[i] hsi.1 hsi.2).mono (R' := fun r _ => r = .pv (.tup [ckD false (stepD c ss[i]).1, I64 (stepD c ss[i]).2])) fun _ _ h => h.2
    have hcs := hc.step hsi.1
    rw [List.drop_eq_getElem_cons d, chkDGo] at hDi
    generalize hT : stepD c ss[i] = T at *
    obtain ⟨d1, e1⟩ := T
    simp only at k2 hcs hDi
    simp only [stpR] at k2
    simp [d, hq]
    refine AAnyD.meet ch7Sch ⟨[(1, .pv (.seq false 4 (ss.map stpR))), (6, .pv (.ptr 1 0)), (8, .pv (I64 i)), (9, .pv (.ptr 2 0)), (10, .pv (I64 e1))], [[.pv (I64 v), .pv (.seq false 1 (L.map crowF))], [.pv (.seq false 2 (c.m.map numR)), .pv (I64 c.last), .pv (BL c.done)], [.pv (.seq false 2 (d1.m.map numR)), .pv (I64 d1.last), .pv (BL d1.done)]]⟩ (by kernel_rfl) ?_ ?_
    · simp [ch7Sch, d, hq, stpR]
      and_intros
      all_goals
        refine CallK.introX (CallX.pureM (p := []) (q := []) (zs := [ckD false c, .agg [I64 ss[i].kind, I64 ss[i].id, .seq false 1 (irow ss[i].lits), .seq false 1 (irow ss[i].hints)]]) k2 (by simp) rfl (by simp [argsPv]) (by simp) (by simp) ?_)
        simp
        try and_intros
        all_goals exact Weak.keep (by simp [stpR]) (by simp)
    · by_cases e : e1 = 0
      · rw [if_neg (by simp [e])] at hDi
        simp [e]
        exact ⟨(i + 1, d1), by (try dsimp only); omega, ⟨by (try dsimp only); omega, hcs, hDi⟩, Weak.to (by simp [hw]) rfl (by simp) (by simp) (by simp)⟩
      · rw [if_pos e] at hDi
        subst hDi
        simp [e]
  · have : i = ss.length := by omega
    subst this
    rw [List.drop_eq_nil_of_le (Nat.le_refl _), chkDGo] at hDi
    cases hdn : c.done
    · rw [hdn, if_neg (by simp)] at hDi
      subst hDi
      simp [hdn]
    · rw [hdn, if_pos rfl] at hDi
      subst hDi
      simp [hdn]
end Go.AX

namespace Go.AX
open Go.Proofs
set_option linter.unusedSimpArgs false
def shdSch : Sch :=
  let s0 : Sch := .fork [(6, .take 7 (.take 8 (.take 9 (.take 10 (.take 11 .done)))))]
  let s1 : Sch := .fork [(5, s0)]
  let s2 : Sch := .fork [(2, .take 4 s1)]
  let s3 : Sch := .fork [(0, s0)]
  let s4 : Sch := .fork [(0, s1), (5, s3)]
  let s5 : Sch := .fork [(0, s2), (2, .take 4 s4)]
  .take 1 (.take 3 s5)
set_option maxRecDepth 16000 in
theorem rshown_ok (c : Ck) (hc : CkOk c) (s : Stp) (hl : s.lits.length ≤ 100000) (hh : s.hints.length ≤ 1000) : APure Tryz.prog 77 [ckD false c, .agg (stpR s)] (fun r => r = .pv (BL (shnB c s))) := by
  refine apure1B [5] hmo Tryz.func77 (by kernel_rfl) rfl rfl (by kernel_rfl) (Nat.le_of_ble_eq_true rfl) ?_
  have hra := rowsS_le hc s.hints
  have hSh := refShow8_ok s.lits (rowsS c s.hints) (by omega) (fun x hx => by have := hra.2 x hx; omega)
  have hS : shnB c s = ((s.hints.all fun h => (lk c.m h).isSome) && decide ((shwS s.lits (rowsS c s.hints)).2 = 0)) := rfl
  generalize shnB c s = S at *
  obtain ⟨Q, hQ⟩ : ∃ Q : Nat → List (List PV), ∀ i, Q i = (rowsS c (s.hints.take i)).map crowF := ⟨_, fun _ => rfl⟩
  have hQ0 : Q 0 = [] := by rw [hQ]; rfl
  have hQe : Q s.hints.length = (rowsS c s.hints).map crowF := by rw [hQ, List.take_length]
  have hQs : ∀ i (h : i < s.hints.length), Q (i + 1) = Q i ++ [[.seq false 1 (irow ((lk c.m s.hints[i]).getD []))]] := fun i h => by
    rw [hQ, hQ, List.take_add_one, List.getElem?_eq_getElem h]
    unfold rowsS
    rw [List.map_append, List.map_append]; rfl
  have hQl : ∀ i, (Q i).length ≤ s.hints.length := fun i => by rw [hQ]; simp [rowsS]; omega
  simp [stpR]
  refine ALoop.intro (S := fun (i : Nat) => ⟨[(2, .pv (.ptr 0 0)), (3, .pv (.ptr 1 0)), (5, .own true 1 (Q i)), (6, .pv (I64 i))], [[.pv (.seq false 2 (c.m.map numR)), .pv (I64 c.last), .pv (BL c.done)], [.pv (I64 s.kind), .pv (I64 s.id), .pv (.seq false 1 (irow s.lits)), .pv (.seq false 1 (irow s.hints))]]⟩) (fun i => i ≤ s.hints.length ∧ ∀ k (_ : k < s.hints.length), k < i → (lk c.m s.hints[k]).isSome = true) (fun i => s.hints.length - i) 0 ?_ ⟨Nat.zero_le _, fun k _ h => by omega⟩ ?_
  · exact (Weak.nilOwn (s := 5) 1 true (by simp)).trans (Weak.keep (by simp [hQ0]) (by simp))
  rintro i ⟨hi, ho⟩
  have hql := hQl i
  by_cases d : i < s.hints.length
  · have hw : w64 ((i : Int) + 1) = ((i + 1 : Nat) : Int) := by rw [w64_id (by omega) (by omega)]; omega
    have hq : s.hints[i]? = some s.hints[i] := List.getElem?_eq_getElem d
    have hqs := hQs i d
    have hF := (rfind_ok [] c s.hints[i] hc.n).mono (R' := fun r _ => r = .pv (.tup [.seq false 1 (irow ((lk c.m s.hints[i]).getD [])), BL (lk c.m s.hints[i]).isSome])) fun _ _ h => h.2
    generalize (lk c.m s.hints[i]).getD [] = Lr at *
    simp [d, hq]
    cases e : (lk c.m s.hints[i]).isSome
    · have hSf : S = false := by
        have : (s.hints.all fun h => (lk c.m h).isSome) = false := by
          rw [List.all_eq_false]
          exact ⟨s.hints[i], List.getElem_mem d, by rw [e]; simp⟩
        rw [hS, this, Bool.false_and]
      subst hSf
      rw [e] at hF
      refine AAnyD.one shdSch (by kernel_rfl) ?_
      simp [shdSch, d, hq]
      and_intros
      all_goals
        refine CallK.introX (CallX.pureM (p := []) (q := []) (zs := [ckD false c, I64 s.hints[i]]) hF (by simp) rfl (by simp [argsPv]) (by simp) (by simp) ?_)
        simp
    · rw [e] at hF
      refine AAnyD.one shdSch (by kernel_rfl) ?_
      simp [shdSch, d, hq]
      and_intros
      all_goals
        refine CallK.introX (CallX.pureM (p := []) (q := []) (zs := [ckD false c, I64 s.hints[i]]) hF (by simp) rfl (by simp [argsPv]) (by simp) (by simp) ?_)
        simp
        refine ⟨by omega, i + 1, by (try dsimp only); omega, ⟨by (try dsimp only); omega, fun k h1 h2 => ?_⟩, Weak.keep (by simp [hw, hqs]) (by simp)⟩
        by_cases ek : k = i
        · subst ek; exact e
        · exact ho k h1 (by omega)
  · have : i = s.hints.length := by omega
    subst this
    have hall : (s.hints.all fun h => (lk c.m h).isSome) = true := by
      rw [List.all_eq_true]
      intro x hx
      obtain ⟨k, hk, rfl⟩ := List.getElem_of_mem hx
      exact ho k hk hk
    rw [hall, Bool.true_and] at hS
    subst hS
    simp [hQe]
    refine CallK.intro hSh (by simp) ?_
    simp
def plnDGo : Ck → List Stp → Bool
  | _, [] => true
  | c, s :: ss => if s.kind = 1 ∧ shnB c s = false then false else plnDGo (stepD c s).1 ss
def plnD (v : Int) (L : List (List Int)) (ss : List Stp) : Bool := if (chkD v L ss).2 ≠ 0 then false else plnDGo (newDC v L) ss
def pl8Sch : Sch :=
  let s0 : Sch := .fork [(9, .done)]
  let s1 : Sch := .fork [(5, .take 6 (.take 7 (.take 8 s0)))]
  let s2 : Sch := .fork [(4, s1)]
  let s3 : Sch := .fork [(0, s1)]
  let s4 : Sch := .fork [(0, s2), (4, s3)]
  .take 1 (.take 2 (.take 3 s4))
set_option maxRecDepth 16000 in
theorem rplain_ok (v : Int) (L : List (List Int)) (ss : List Stp) (hL : L.length ≤ 400) (hn : ss.length ≤ 400) (hr : ∀ c ∈ L, c.length ≤ 100000) (hs : ∀ s ∈ ss, s.lits.length ≤ 100000 ∧ s.hints.length ≤ 1000) :
    APure Tryz.prog 24 [.agg [I64 v, .seq false 1 (L.map crowF)], .seq false 4 (ss.map stpR)] (fun r => r = .pv (BL (plnD v L ss))) := by
  refine apure1B [8] hmo Tryz.func24 (by kernel_rfl) rfl rfl (by kernel_rfl) (Nat.le_of_ble_eq_true rfl) ?_
  have k0 := rcheck_ok v L ss hL hn hr hs
  have k1 := (rnew_ok v L (by omega) (fun c hc => by have := hr c hc; omega)).mono (R' := fun r _ => r = .pv (.tup [ckD false (newDC v L), I64 (cnfS v L).2])) fun _ _ h => h.2
  have hnm : CkM 400 (newDC v L) := by
    have hck := newTo_ckm L (by omega) hr
    unfold newDC
    split
    · exact ⟨Nat.zero_le _, fun q hq => absurd hq List.not_mem_nil, fun q hq => absurd hq List.not_mem_nil⟩
    · exact ⟨Nat.le_trans hck.n hL, hck.w, hck.l⟩
  have hD : plnD v L ss = if (chkD v L ss).2 ≠ 0 then false else plnDGo (newDC v L) ss := rfl
  generalize plnD v L ss = D at *
  generalize newDC v L = N at *
  generalize chkD v L ss = E at *
  obtain ⟨e1, e2⟩ := E
  simp only at *
  simp
  refine CallK.intro k0 (by simp) ?_
  simp
  refine CallK.introX (CallX.pureM (p := []) (q := []) (zs := [.agg [I64 v, .seq false 1 (L.map crowF)]]) k1 (by simp) rfl (by simp [argsPv]) (by simp) (by simp) ?_)
  simp
  refine ALoop.intro (S := fun (x : Nat × Ck) => ⟨[(1, .pv (.seq false 4 (ss.map stpR))), (6, .pv (I64 e2)), (7, .pv (.ptr 1 0)), (9, .pv (I64 x.1))], [[.pv (I64 v), .pv (.seq false 1 (L.map crowF))], [.pv (.seq false 2 (x.2.m.map numR)), .pv (I64 x.2.last), .pv (BL x.2.done)]]⟩) (fun x => x.1 ≤ ss.length ∧ CkM (400 + x.1) x.2 ∧ D = if e2 ≠ 0 then false else plnDGo x.2 (ss.drop x.1)) (fun x => ss.length - x.1) (0, N) ?_ ⟨Nat.zero_le _, hnm, hD⟩ ?_
  · exact Weak.keep (by simp) (by simp)
  rintro ⟨i, c⟩ ⟨hi, hc, hDi⟩
  dsimp only at hi hc hDi
  by_cases c1 : e2 = 0
  rotate_left
  · rw [if_pos c1] at hDi
    subst hDi
    by_cases d : i < ss.length
    · simp [d, c1]
    · simp [d, c1]
  rw [if_neg (by simp [c1])] at hDi
  subst c1
  by_cases d : i < ss.length
  · have hw : w64 ((i : Int) + 1) = ((i + 1 : Nat) : Int) := by rw [w64_id (by omega) (by omega)]; omega
    have hq : ss[i]? = some ss[i] := List.getElem?_eq_getElem d
    have hsi := hs _ (List.getElem_mem d)
    have k2 := (rstep_ok c (hc.ok (by omega)) (by have := hc.n; omega) ss[i] hsi.1 hsi.2).mono (R' := fun r _ => r = .pv (.tup [ckD false (stepD c ss[i]).1, I64 (stepD c ss[i]).2])) fun _ _ h => h.2
    have k3 := rshown_ok c (hc.ok (by omega)) ss[i] hsi.1 hsi.2
    have hcs := hc.step hsi.1
    rw [List.drop_eq_getElem_cons d, plnDGo] at hDi
    generalize hT : stepD c ss[i] = T at *
    obtain ⟨d1, x1⟩ := T
    simp only at k2 hcs hDi
    simp only [stpR] at k2 k3
    simp [d, hq, stpR]
    refine CallQ.intro (fun _ => k3) (by simp) ?_
    generalize shnB c ss[i] = sb at *
    by_cases f : ss[i].kind = 1 ∧ sb = false
    · rw [if_pos f] at hDi
      subst hDi
      simp [f.1, f.2]
    · rw [if_neg f] at hDi
      have f' : ¬ (ss[i].kind = 1 ∧ sb = false) := f
      simp [d, hq, stpR]
      refine ⟨fun h1 h2 => absurd ⟨h1, h2⟩ f, fun _ => ?_⟩
      refine AAnyD.one pl8Sch (by kernel_rfl) ?_
      simp [pl8Sch, d, hq, stpR]
      and_intros
      all_goals
        refine CallK.introX (CallX.pureM (p := []) (q := []) (zs := [ckD false c, .agg [I64 ss[i].kind, I64 ss[i].id, .seq false 1 (irow ss[i].lits), .seq false 1 (irow ss[i].hints)]]) k2 (by simp) rfl (by simp [argsPv]) (by simp) (by simp) ?_)
        simp
        exact ⟨(i + 1, d1), by (try dsimp only); omega, ⟨by (try dsimp only); omega, hcs, hDi⟩, Weak.to (by simp [hw, stpR]) rfl (by simp) (by simp) (by simp)⟩
  · have : i = ss.length := by omega
    subst this
    rw [List.drop_eq_nil_of_le (Nat.le_refl _), plnDGo] at hDi
    subst hDi
    simp
end Go.AX

namespace Go.AX
open Go.Proofs
set_option linter.unusedSimpArgs false
set_option maxRecDepth 16000 in
theorem tfirst_ok (v : Int) (L : List (List Int)) (ss : List Stp) (hn : L.length + ss.length ≤ 90000) :
    APure Tryz.prog 63 [.agg [I64 v, .seq false 1 (L.map crowF)], .seq false 4 (ss.map stpR)] (fun r => r = .pv (I64 (emptyS L ss))) := by
  refine apure1 hmo Tryz.func63 (by kernel_rfl) rfl rfl (by kernel_rfl) (Nat.le_of_ble_eq_true rfl) ?_
  have hE : emptyS L ss = (emGo1 (L.drop 0) 0).getD (emGo2 ss) := rfl
  generalize emptyS L ss = E at *
  simp
  refine ALoop.intro (S := fun (i : Nat) => ⟨[(1, .pv (.seq false 4 (ss.map stpR))), (2, .pv (.ptr 0 0)), (5, .pv (I64 i))], [[.pv (I64 v), .pv (.seq false 1 (L.map crowF))]]⟩) (fun i => i ≤ L.length ∧ E = (emGo1 (L.drop i) i).getD (emGo2 ss)) (fun i => L.length - i) 0 ?_ ⟨Nat.zero_le _, hE⟩ ?_
  · exact Weak.keep (by simp) (by simp)
  rintro i ⟨hi, hEi⟩
  by_cases h : i < L.length
  · have hw : w64 ((i : Int) + 1) = ((i + 1 : Nat) : Int) := by rw [w64_id (by omega) (by omega)]; omega
    have hrow := crowF_at L h
    have hq : L[i]? = some L[i] := List.getElem?_eq_getElem h
    rw [List.drop_eq_getElem_cons h, emGo1] at hEi
    by_cases c : L[i] = []
    · rw [if_pos c] at hEi
      subst hEi
      simp [h, hrow, hq, c, crowF, irow, hw]
    · rw [if_neg c] at hEi
      have c' : L[i].length ≠ 0 := fun e => c (List.length_eq_zero_iff.1 e)
      simp [h, hrow, hq, c, crowF]
      exact ⟨i + 1, by (try dsimp only); omega, ⟨by (try dsimp only); omega, hEi⟩, Weak.keep (by simp [hw]) (by simp)⟩
  · have hie : i = L.length := by omega
    subst hie
    rw [List.drop_eq_nil_of_le (Nat.le_refl _), emGo1, Option.getD_none] at hEi
    simp
    refine ALoop.intro (S := fun (i : Nat) => ⟨[(1, .pv (.seq false 4 (ss.map stpR))), (6, .pv (I64 i))], [[.pv (I64 v), .pv (.seq false 1 (L.map crowF))]]⟩) (fun i => i ≤ ss.length ∧ E = emGo2 (ss.drop i)) (fun i => ss.length - i) 0 ?_ ⟨Nat.zero_le _, hEi⟩ ?_
    · exact Weak.keep (by simp) (by simp)
    rintro j ⟨hj, hEj⟩
    by_cases d : j < ss.length
    · have hw : w64 ((j : Int) + 1) = ((j + 1 : Nat) : Int) := by rw [w64_id (by omega) (by omega)]; omega
      have hq : ss[j]? = some ss[j] := List.getElem?_eq_getElem d
      rw [List.drop_eq_getElem_cons d, emGo2] at hEj
      by_cases k1 : ss[j].kind = 1
      · by_cases k2 : ss[j].lits = []
        · rw [if_pos ⟨k1, k2⟩] at hEj
          subst hEj
          simp [d, hq, stpR, k1, k2, irow]
        · rw [if_neg (fun e => k2 e.2)] at hEj
          simp [d, hq, stpR, k1, k2]
          exact ⟨j + 1, by (try dsimp only); omega, ⟨by (try dsimp only); omega, hEj⟩, Weak.keep (by simp [hw, stpR]) (by simp)⟩
      · rw [if_neg (fun e => k1 e.1)] at hEj
        simp [d, hq, stpR, k1]
        exact ⟨j + 1, by (try dsimp only); omega, ⟨by (try dsimp only); omega, hEj⟩, Weak.keep (by simp [hw, stpR]) (by simp)⟩
    · have hje : j = ss.length := by omega
      subst hje
      rw [List.drop_eq_nil_of_le (Nat.le_refl _), emGo2] at hEj
      subst hEj
      simp
def ptK3 : List Int → Int → Nat
  | [], _ => 0
  | x :: l, n => if x < n then ptK3 l n + 1 else 0
def ptL3 (l : List Int) (n : Int) : List Int := if n ∈ l then l else l.take (ptK3 l n) ++ [n] ++ l.drop (ptK3 l n)
theorem ptK3_le : ∀ (l : List Int) (n : Int), ptK3 l n ≤ l.length
  | [], _ => Nat.le_refl _
  | x :: l, n => by
    rw [ptK3]
    have := ptK3_le l n
    split
    · simp; exact this
    · exact Nat.zero_le _
def pt3Sch : Sch :=
  let s0 : Sch := .fork [(11, .take 12 .done)]
  let s1 : Sch := .fork [(7, s0)]
  let s2 : Sch := .fork [(6, s1)]
  let s3 : Sch := .fork [(4, s1)]
  let s4 : Sch := .fork [(4, s2), (6, s3)]
  let s5 : Sch := .fork [(0, s3)]
  let s6 : Sch := .fork [(0, s4), (6, s5)]
  .take 1 (.take 2 (.take 3 (.take 5 (.take 8 (.take 9 (.take 10 s6))))))
theorem ptI_eq (l : List Int) (n : Int) (k : Nat) : List.take k (irow l) ++ [I64 n] :: List.drop k (List.take l.length (irow l)) = irow (List.take k l ++ n :: List.drop k l) := by
  unfold irow
  rw [List.map_append, List.map_cons, ← List.map_take, ← List.map_take, ← List.map_drop, List.take_length]
theorem belowR_takeI (m k : Nat) (l : List Int) : belowR m (List.take k (irow l)) := by
  have : List.take k (irow l) = irow (l.take k) := by unfold irow; rw [← List.map_take]
  rw [this]; exact belowR_irow m _
theorem belowR_dropI (m k : Nat) (l : List Int) : belowR m (List.drop k (List.take l.length (irow l))) := by
  have : List.drop k (List.take l.length (irow l)) = irow (l.drop k) := by unfold irow; rw [← List.map_take, ← List.map_drop, List.take_length]
  rw [this]; exact belowR_irow m _
set_option maxRecDepth 16000 in
theorem t43put_ok (l : List Int) (n : Int) (hl : l.length ≤ 1000000) : AMut Tryz.prog 62 [.seq false 1 (irow l), I64 n] [] (fun r g' => g' = [] ∧ r = .pv (.seq false 1 (irow (ptL3 l n)))) := by
  refine amutXW [6] [.tmp 4] hmo Tryz.func62 (by kernel_rfl) rfl rfl (by kernel_rfl) (Nat.le_of_ble_eq_true rfl) ?_
  have hH := refHas_ok l n (by omega)
  have hP : ptL3 l n = if n ∈ l then l else l.take (ptK3 l n) ++ [n] ++ l.drop (ptK3 l n) := rfl
  have hK : ptK3 l n = 0 + ptK3 (l.drop 0) n := by simp
  generalize ptL3 l n = P at *
  generalize ptK3 l n = K at *
  simp
  refine CallK.intro hH (by simp) ?_
  by_cases c : n ∈ l
  · rw [if_pos c] at hP
    subst hP
    simp [c, wkP]
  rw [if_neg c] at hP
  simp [c]
  refine ALoop.intro (S := fun (k : Nat) => ⟨[(0, .pv (.seq false 1 (irow l))), (1, .pv (I64 n)), (5, .pv (I64 k))], []⟩) (fun k => k ≤ l.length ∧ K = k + ptK3 (l.drop k) n) (fun k => l.length - k) 0 ?_ ⟨Nat.zero_le _, hK⟩ ?_
  · exact Weak.keep (by simp) (by simp)
  rintro k ⟨hk, hKk⟩
  by_cases d : k < l.length
  · have hw : w64 ((k : Int) + 1) = ((k + 1 : Nat) : Int) := by rw [w64_id (by omega) (by omega)]; omega
    have hq : l[k]? = some l[k] := List.getElem?_eq_getElem d
    rw [List.drop_eq_getElem_cons d, ptK3] at hKk
    by_cases e : l[k] < n
    · rw [if_pos e] at hKk
      simp [d, hq, e]
      exact ⟨k + 1, by (try dsimp only); omega, ⟨by (try dsimp only); omega, by (try dsimp only); omega⟩, Weak.keep (by simp [hw]) (by simp)⟩
    · rw [if_neg e] at hKk
      have : K = k := by omega
      subst this
      simp [d, hq, e]
      subst hP
      have hI := ptI_eq l n K
      refine AAnyD.one pt3Sch (by kernel_rfl) ?_
      simp [pt3Sch, hk]
      repeat' apply And.intro
      all_goals first | omega | exact belowR_takeI _ _ _ | exact belowR_dropI _ _ _ | exact hI
  · have : k = l.length := by omega
    subst this
    rw [List.drop_eq_nil_of_le (Nat.le_refl _), ptK3] at hKk
    have : K = l.length := by omega
    subst this
    simp
    subst hP
    have hI : List.take l.length (irow l) ++ [[I64 n]] = irow (l ++ [n]) := by
      unfold irow
      rw [List.map_append, ← List.map_take, List.take_length]; rfl
    refine AAnyD.one pt3Sch (by kernel_rfl) ?_
    simp [pt3Sch]
    repeat' apply And.intro
    all_goals first | omega | exact belowR_takeI _ _ _ | exact belowR_dropI _ _ _ | exact hI
end Go.AX
