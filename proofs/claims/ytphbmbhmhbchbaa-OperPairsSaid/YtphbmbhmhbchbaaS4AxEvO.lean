/-
  Contracts: which processes have an open operation.
  Contracts: which processes have an open operation (the document's answer).
  Contracts: replevinref25.Open.
  Contracts: awake of law 25, EventTells.
  EventCuts.
  EventForms.
-/
import Derived.Test.YtphbmbhmhbchbaaS4AxEvD
import Derived.Test.YtphbmbhmhbchbaaS4AxEvG
namespace Go.AX
open Go.Proofs Go.Maps
set_option linter.unusedSimpArgs false

theorem openC_ok (l : List Ev) (x y : Int) (hy : 0 ≤ y ∧ y < l.length) : APure Try.prog 102 [I64 x, I64 y, .iptr 1 [[evV l]] 0 0] (fun r => r = .pv (BL (!decide ((l.getD y.toNat default).w = 1)))) := by
  refine apure1 hmo Try.func102 (by kernel_rfl) rfl rfl (by kernel_rfl) (Nat.le_of_ble_eq_true rfl) ?_
  obtain ⟨j, rfl⟩ : ∃ j : Nat, y = (j : Int) := ⟨y.toNat, by omega⟩
  have hj : j < l.length := by omega
  simp [evV, evR, hj]

theorem pt_keys {α : Type} : ∀ (l : List (Int × α)) (k : Int) (y : α) (x : Int), x ∈ (pt l k y).map (·.1) ↔ x = k ∨ x ∈ l.map (·.1)
  | [], k, y, x => by simp [pt]
  | (j, z) :: l, k, y, x => by
    rw [pt]
    by_cases c : j = k
    · rw [if_pos c]; subst c; simp
    · rw [if_neg c, List.map_cons, List.mem_cons, pt_keys l k y x, List.map_cons, List.mem_cons]
      constructor
      · rintro (h | h | h)
        · exact .inr (.inl h)
        · exact .inl h
        · exact .inr (.inr h)
      · rintro (h | h | h)
        · exact .inr (.inl h)
        · exact .inl h
        · exact .inr (.inr h)
theorem pt_nodup {α : Type} : ∀ (l : List (Int × α)) (k : Int) (y : α), (l.map (·.1)).Nodup → ((pt l k y).map (·.1)).Nodup
  | [], k, y, _ => by simp [pt]
  | (j, z) :: l, k, y, h => by
    rw [List.map_cons, List.nodup_cons] at h
    rw [pt]
    by_cases c : j = k
    · rw [if_pos c, List.map_cons, List.nodup_cons]; subst c; exact h
    · rw [if_neg c, List.map_cons, List.nodup_cons, pt_keys]
      exact ⟨fun hh => hh.elim c h.1, pt_nodup l k y h.2⟩
theorem laTo_nodup (l : List Ev) : ∀ i, ((laTo l i).map (·.1)).Nodup
  | 0 => by simp [laTo]
  | i + 1 => by rw [laTo]; exact pt_nodup _ _ _ (laTo_nodup l i)
theorem lk_mem {α : Type} : ∀ {l : List (Int × α)}, (l.map (·.1)).Nodup → ∀ {k : Int} {x : α}, (k, x) ∈ l ↔ lk l k = some x
  | [], _, k, x => by simp [lk]
  | (j, z) :: l, h, k, x => by
    rw [List.map_cons, List.nodup_cons] at h
    rw [lk, List.mem_cons]
    by_cases c : j = k
    · rw [if_pos c]
      subst c
      constructor
      · rintro (h1 | h1)
        · cases h1; rfl
        · exact absurd (List.mem_map_of_mem (f := (·.1)) h1) h.1
      · intro h1; cases h1; exact .inl rfl
    · rw [if_neg c]
      constructor
      · rintro (h1 | h1)
        · cases h1; exact absurd rfl c
        · exact (lk_mem h.2).1 h1
      · exact fun h1 => .inr ((lk_mem h.2).2 h1)
theorem laTo_range (l : List Ev) (n : Nat) : ∀ q ∈ laTo l n, 0 ≤ q.2 ∧ q.2 < n ∧ q.2 = lastTo l q.1 n := by
  rintro ⟨p, x⟩ hq
  have h := (lk_mem (laTo_nodup l n)).1 hq
  rw [lk_laTo] at h
  have := lastTo_lt l p n
  split at h
  · cases h; exact ⟨by assumption, this.2, rfl⟩
  · cases h
theorem laTo_wf {l : List Ev} (hw : ∀ x ∈ l, wfI x.p) : ∀ n, n ≤ l.length → ∀ q ∈ laTo l n, wfI q.1
  | 0, _, q, hq => by simp [laTo] at hq
  | n + 1, hn, q, hq => by
    rw [laTo] at hq
    have := (pt_keys (laTo l n) (l.getD n default).p (n : Int) q.1).1 (List.mem_map_of_mem (f := (·.1)) hq)
    rcases this with h | h
    · rw [h]
      have hm : l.getD n default ∈ l := by
        rw [List.getD_eq_getElem?_getD, List.getElem?_eq_getElem (by omega)]
        exact List.getElem_mem _
      exact hw _ hm
    · obtain ⟨q2, h1, h2⟩ := List.mem_map.1 h
      rw [← h2]
      exact laTo_wf hw n (by omega) q2 h1
theorem laTo_len (l : List Ev) : ∀ n, (laTo l n).length ≤ n
  | 0 => by simp [laTo]
  | n + 1 => by
    have h := laTo_len l n
    have : ∀ (l : List (Int × Int)) k y, (pt l k y).length ≤ l.length + 1 := by
      intro l k y
      induction l with
      | nil => simp [pt]
      | cons q l ih =>
        obtain ⟨j, z⟩ := q
        rw [pt]
        split
        · simp
        · simp only [List.length_cons]; omega
    rw [laTo]
    have := this (laTo l n) (l.getD n default).p (n : Int)
    omega

def opnB (l : List Ev) (q : Int × Int) : Bool := decide ((l.getD q.2.toNat default).w = 1)
def openL (l : List Ev) : List Int := sortK ((laTo l l.length).filter (opnB l))

theorem openE_ok (l : List Ev) (hw : ∀ x ∈ l, wfI x.p) (hl : l.length ≤ 1000000) : APure Try.prog 42 [evV l] (fun r => r = .own true 1 (irow (openL l))) := by
  refine apure1 hmo Try.func42 (by kernel_rfl) rfl rfl (by kernel_rfl) (Nat.le_of_ble_eq_true rfl) ?_
  have hla := lasts_ok l (by omega)
  have hlen := laTo_len l l.length
  have hwf := laTo_wf hw l.length (Nat.le_refl _)
  have hdel := delF_ok (laTo l l.length) hwf (by omega) (fun y => decide (0 ≤ y ∧ y < l.length)) (fun q hq => by have := laTo_range l l.length q hq; simp; omega)
    (fun _ y => !decide ((l.getD y.toNat default).w = 1)) 102 [.iptr 1 [[evV l]] 0 0] (by simp [evV]) (by simp [evV])
    (fun x y hy => openC_ok l x y (by simpa using hy)) (enters_of Try.func102 (by kernel_rfl) rfl)
  simp only [evV] at hla hdel
  simp [evV]
  refine CallK.intro hla (by simp) ?_
  simp
  first | refine CallK.introX ?_ | refine CallB.introX ?_
  refine CallX.delM (p := .slot 3) (nw := true) hdel (by simp) (by simp) rfl (by simp) (by simp) (by simp) (by simp) (by simp [frzP, frzC]) ?_
  rintro es' ⟨kv', rfl, hperm, hwf'⟩
  have hlen' : kv'.length ≤ 1000000 := by
    have := hperm.length_eq
    rw [List.length_map, List.length_map] at this
    have := List.length_filter_le (fun q : Int × Int => !!decide ((l.getD q.2.toNat default).w = 1)) (laTo l l.length)
    omega
  have hsk : sortK kv' = openL l := by
    unfold openL sortK
    refine mergeSort_of_perm_i (hperm.trans ?_)
    simp only [Bool.not_not]
    exact List.Perm.refl _
  have hsorted := sortedF_ok kv' hwf' hlen'
  rw [hsk] at hsorted
  simp [putU]
  first | refine CallK.introX ?_ | refine CallB.introX ?_
  refine CallX.keys (s := 3) (nw := true) (es := mapE fI kv') keysF_ok (by simp) (by simp) rfl (by simp) (by simp) (by simp) ?_
  simp [moved]
  first | refine CallK.introX ?_ | refine CallB.introX ?_
  refine CallX.sorted (b := 1) (nw := true) hsorted (by simp) (by simp) rfl (by simp) (by simp) (by simp) (by simp) ?_
  simp [irow]

end Go.AX

namespace Go.AX
open Go.Proofs Go.Maps
set_option linter.unusedSimpArgs false

/-- How many stand ahead of p. -/
def insK : List Int → Int → Nat
  | [], _ => 0
  | x :: l, p => if x < p then insK l p + 1 else 0
def insS (l : List Int) (p : Int) : List Int := l.take (insK l p) ++ p :: l.drop (insK l p)
theorem insK_le : ∀ (l : List Int) (p : Int), insK l p ≤ l.length
  | [], _ => Nat.le_refl _
  | x :: l, p => by
    rw [insK]; have := insK_le l p
    split
    · simp; omega
    · simp
theorem insS_cons (x : Int) (l : List Int) (p : Int) : insS (x :: l) p = if x < p then x :: insS l p else p :: x :: l := by
  unfold insS
  rw [insK]
  split
  · simp
  · simp
theorem insS_perm : ∀ (l : List Int) (p : Int), (insS l p).Perm (p :: l)
  | [], p => by simp [insS, insK]
  | x :: l, p => by
    rw [insS_cons]
    split
    · exact ((insS_perm l p).cons x).trans (.swap p x l)
    · exact .refl _
theorem insS_sorted : ∀ (l : List Int) (p : Int), l.Pairwise (· ≤ ·) → (insS l p).Pairwise (· ≤ ·)
  | [], p, _ => by simp [insS, insK]
  | x :: l, p, h => by
    rw [insS_cons]
    rw [List.pairwise_cons] at h
    split
    · rename_i c
      rw [List.pairwise_cons]
      refine ⟨fun y hy => ?_, insS_sorted l p h.2⟩
      rcases List.mem_cons.1 ((insS_perm l p).mem_iff.1 hy) with rfl | hy
      · omega
      · exact h.1 y hy
    · rename_i c
      rw [List.pairwise_cons, List.pairwise_cons]
      refine ⟨fun y hy => ?_, h⟩
      rcases List.mem_cons.1 hy with rfl | hy
      · omega
      · have := h.1 y hy; omega
theorem insK_step {l : List Int} {p : Int} {k : Nat} (hk : k < l.length) (hle : k ≤ insK l p) : k < insK l p ↔ l[k] < p := by
  induction l generalizing k with
  | nil => simp at hk
  | cons x l ih =>
    rw [insK] at *
    by_cases c : x < p
    · rw [if_pos c] at *
      cases k with
      | zero => simp [c]
      | succ k =>
        have := ih (k := k) (by simpa using hk) (by omega)
        simp only [List.getElem_cons_succ]
        omega
    · rw [if_neg c] at *
      have : k = 0 := by omega
      subst this
      simp [c]

/-- What is open among the first i events. -/
def isOp (l : List Ev) (i : Nat) : Bool := decide ((l.getD i default).w = 1) && decide (lastTo l (l.getD i default).p l.length = (i : Int))
def refOpTo (l : List Ev) : Nat → List Int
  | 0 => []
  | i + 1 => if isOp l i = true then insS (refOpTo l i) (l.getD i default).p else refOpTo l i
theorem refOpTo_perm (l : List Ev) : ∀ i, (refOpTo l i).Perm (((List.range i).filter (isOp l)).map fun i => (l.getD i default).p)
  | 0 => by simp [refOpTo]
  | i + 1 => by
    rw [refOpTo, List.range_succ, List.filter_append, List.map_append]
    have ih := refOpTo_perm l i
    simp only [List.filter_cons, List.filter_nil]
    split
    · rename_i c
      simp only [List.map_cons, List.map_nil]
      exact (insS_perm _ _).trans ((ih.cons _).trans (List.perm_append_singleton _ _).symm)
    · simpa using ih
theorem refOpTo_sorted (l : List Ev) : ∀ i, (refOpTo l i).Pairwise (· ≤ ·)
  | 0 => by simp [refOpTo]
  | i + 1 => by
    rw [refOpTo]
    split
    · exact insS_sorted _ _ (refOpTo_sorted l i)
    · exact refOpTo_sorted l i
theorem refOpTo_len (l : List Ev) (i : Nat) : (refOpTo l i).length ≤ i := by
  rw [(refOpTo_perm l i).length_eq, List.length_map]
  exact Nat.le_trans (List.length_filter_le _ _) (by simp)
theorem lastTo_p (l : List Ev) (p : Int) : ∀ (n m : Nat), lastTo l p n = (m : Int) → m < n ∧ (l.getD m default).p = p
  | 0, m, h => by simp only [lastTo] at h; omega
  | n + 1, m, h => by
    rw [lastTo] at h
    by_cases c : (l.getD n default).p = p
    · rw [if_pos c] at h
      have : n = m := by omega
      subst this; exact ⟨by omega, c⟩
    · rw [if_neg c] at h
      have := lastTo_p l p n m h
      exact ⟨by omega, this.2⟩
theorem open_same (l : List Ev) : refOpTo l l.length = openL l := by
  have h1 : (((List.range l.length).filter (isOp l)).map fun i => (l.getD i default).p).Perm (((laTo l l.length).filter (opnB l)).map (·.1)) := by
    refine (List.perm_ext_iff_of_nodup ?_ ?_).2 fun p => ?_
    · have key : ∀ L : List Nat, L.Nodup → (∀ i ∈ L, isOp l i = true) → (L.map fun i => (l.getD i default).p).Nodup := by
        intro L
        induction L with
        | nil => intro _ _; simp
        | cons i L ih =>
          intro hn ho
          rw [List.nodup_cons] at hn
          rw [List.map_cons, List.nodup_cons]
          refine ⟨fun hm => ?_, ih hn.2 fun j hj => ho j (List.mem_cons_of_mem _ hj)⟩
          obtain ⟨j, hj, he⟩ := List.mem_map.1 hm
          have h2 := ho i List.mem_cons_self
          have h3 := ho j (List.mem_cons_of_mem _ hj)
          unfold isOp at h2 h3
          simp only [Bool.and_eq_true, decide_eq_true_eq] at h2 h3
          rw [he, h2.2] at h3
          have : i = j := by omega
          subst this
          exact hn.1 hj
      exact key _ (List.Pairwise.filter _ List.nodup_range) fun i hi => (List.mem_filter.1 hi).2
    · exact List.Pairwise.sublist (List.filter_sublist.map _) (laTo_nodup l l.length)
    · rw [List.mem_map, List.mem_map]
      constructor
      · rintro ⟨i, hi, rfl⟩
        obtain ⟨h2, h3⟩ := List.mem_filter.1 hi
        unfold isOp at h3
        simp only [Bool.and_eq_true, decide_eq_true_eq] at h3
        refine ⟨((l.getD i default).p, (i : Int)), List.mem_filter.2 ⟨(lk_mem (laTo_nodup l l.length)).2 ?_, ?_⟩, rfl⟩
        · rw [lk_laTo, h3.2, if_pos (by omega)]
        · unfold opnB; simpa using h3.1
      · rintro ⟨⟨q, x⟩, hq, rfl⟩
        obtain ⟨h2, h3⟩ := List.mem_filter.1 hq
        obtain ⟨h4, h5, h6⟩ := laTo_range l l.length _ h2
        dsimp only at h4 h5 h6 ⊢
        obtain ⟨m, rfl⟩ : ∃ m : Nat, x = (m : Int) := ⟨x.toNat, by omega⟩
        obtain ⟨h7, h8⟩ := lastTo_p l q l.length m h6.symm
        refine ⟨m, List.mem_filter.2 ⟨List.mem_range.2 h7, ?_⟩, h8⟩
        unfold isOp
        rw [h8, ← h6]
        unfold opnB at h3
        simp only [Int.toNat_natCast] at h3
        simp only [h3, decide_true, Bool.and_self]
  have h2 := mergeSort_of_perm_i ((refOpTo_perm l l.length).trans h1)
  have h3 : (refOpTo l l.length).mergeSort leI = refOpTo l l.length := List.mergeSort_of_pairwise ((refOpTo_sorted l l.length).imp fun h => by simpa using h)
  rw [h3] at h2
  exact h2

end Go.AX

namespace Go.AX
open Go.Proofs Go.Maps
set_option linter.unusedSimpArgs false

theorem irow_ins (l : List Int) (p : Int) : irow (insS l p) = (irow l).take (insK l p) ++ [I64 p] :: (irow l).drop (insK l p) := by
  simp [irow, insS, List.map_take, List.map_drop]
@[simp] theorem irow_len (l : List Int) : (irow l).length = l.length := by simp [irow]

set_option maxRecDepth 16000 in
theorem refOpen_ok (l : List Ev) (hl : l.length ≤ 1000000) : APure Try.prog 43 [evV l] (fun r => r = .own true 1 (irow (refOpTo l l.length))) := by
  refine apure1B [10] hmo Try.func43 (by kernel_rfl) rfl rfl (by kernel_rfl) (Nat.le_of_ble_eq_true rfl) ?_
  simp [evV]
  refine ALoop.intro (S := fun (i : Nat) => ⟨[(0, .pv (evV l)), (3, .own true 1 (irow (refOpTo l i))), (4, .pv (I64 i))], []⟩) (fun i => i ≤ l.length) (fun i => l.length - i) 0 ?_ (Nat.zero_le _) ?_
  · exact (Weak.nilOwn (s := 3) 1 true (by simp)).trans (Weak.to (by simp [evV, refOpTo, irow]) rfl (by simp) (by simp [evV]) (by simp))
  · intro i hi
    by_cases c : i < l.length
    · have hw : w64 ((i : Int) + 1) = ((i + 1 : Nat) : Int) := by rw [w64_id (by omega) (by omega)]; omega
      obtain ⟨x, hx⟩ : ∃ x, l[i] = x := ⟨_, rfl⟩
      have hgd : l.getD i default = x := by rw [← hx]; simp [c]
      have hr := refLast_ok l x.p (by omega)
      simp only [evV] at hr
      have hlen := refOpTo_len l i
      have hst : refOpTo l (i + 1) = if x.w = 1 ∧ lastTo l x.p l.length = (i : Int) then insS (refOpTo l i) x.p else refOpTo l i := by
        rw [refOpTo]; unfold isOp; rw [hgd]; simp
      obtain ⟨w, p, n⟩ := x
      dsimp only at hst hr
      generalize refOpTo l i = out at *
      by_cases d : w = 1
      · by_cases e : lastTo l p l.length = (i : Int)
        · rw [if_pos ⟨d, e⟩] at hst
          simp [evV, evR, c, hx, d]
          refine CallG.intro (r := .pv (I64 (lastTo l p l.length))) (fun _ => hr) (by simp) ?_
          simp [e]
          refine ALoop.intro (S := fun (k : Nat) => ⟨[(0, .pv (evV l)), (3, .own true 1 (irow out)), (4, .pv (I64 i)), (5, .pv (I64 p)), (6, .pv (I64 k))], []⟩) (fun k => k ≤ insK out p) (fun k => out.length - k) 0 ?_ (Nat.zero_le _) ?_
          · exact Weak.to (by simp [evV]) rfl (by simp) (by simp [evV]) (by simp)
          · intro k hk
            have hkl := insK_le out p
            by_cases ck : k < out.length
            · have hst2 := insK_step ck hk
              have hw2 : w64 ((k : Int) + 1) = ((k + 1 : Nat) : Int) := by rw [w64_id (by omega) (by omega)]; omega
              by_cases f : out[k] < p
              · simp [evV, ck, f, irow]
                exact ⟨k + 1, by (try dsimp only); omega, by have := hst2.2 f; (try dsimp only); omega, Weak.to (by simp [hw2, evV, irow]) rfl (by simp) (by simp [evV]) (by simp)⟩
              · have hke : k = insK out p := by
                  have := fun h => f (hst2.1 h); omega
                simp [evV, ck, f, irow]
                refine AAnyD.meet (.take 1 (.take 2 (.take 3 (.take 5 (.take 8 (.take 9 (.take 10 (.fork [(0, .fork [(4, .fork [(6, .fork [(7, .fork [(11, .fork [(12, .done)])])])]), (6, .fork [(4, .fork [(7, .fork [(11, .fork [(12, .done)])])])])]), (6, .fork [(0, .fork [(4, .fork [(7, .fork [(11, .fork [(12, .done)])])])])])]))))))))
                  ⟨[(0, .pv (evV l)), (3, .own true 1 (irow (insS out p))), (4, .pv (I64 i))], []⟩ (by kernel_rfl) ?_ ?_
                · simp [evV, ck, irow]
                  have hfin : irow (insS out p) = List.take k (List.map (fun i => [I64 i]) out) ++ [I64 p] :: List.drop k (List.take out.length (List.map (fun i => [I64 i]) out)) := by
                    rw [irow_ins, ← hke]; unfold irow
                    rw [List.take_of_length_le (l := List.map (fun i => [I64 i]) out) (i := out.length) (by simp)]
                  have hfin2 : List.map (fun i => [I64 i]) (insS out p) = List.take k (List.map (fun i => [I64 i]) out) ++ [I64 p] :: List.drop k (List.take out.length (List.map (fun i => [I64 i]) out)) := hfin
                  and_intros
                  all_goals first
                    | omega
                    | exact Weak.to (by simp [evV, hfin, hfin2]) rfl (by simp) (by simp [evV]) (by simp)
                · simp
                  exact ⟨i + 1, by (try dsimp only); omega, by (try dsimp only); omega, Weak.to (by simp [hw, hst, evV, irow]) rfl (by simp) (by simp [evV]) (by simp)⟩
            · have hke : k = insK out p := by omega
              have hkl2 : k = out.length := by omega
              simp [evV, ck, irow]
              refine AAnyD.meet (.take 1 (.take 2 (.take 3 (.take 5 (.take 8 (.take 9 (.take 10 (.fork [(0, .fork [(4, .fork [(6, .fork [(7, .fork [(11, .fork [(12, .done)])])])]), (6, .fork [(4, .fork [(7, .fork [(11, .fork [(12, .done)])])])])]), (6, .fork [(0, .fork [(4, .fork [(7, .fork [(11, .fork [(12, .done)])])])])])]))))))))
                ⟨[(0, .pv (evV l)), (3, .own true 1 (irow (insS out p))), (4, .pv (I64 i))], []⟩ (by kernel_rfl) ?_ ?_
              · simp [evV, ck, irow]
                have hfin : irow (insS out p) = List.take k (List.map (fun i => [I64 i]) out) ++ [I64 p] :: List.drop k (List.take out.length (List.map (fun i => [I64 i]) out)) := by
                  rw [irow_ins, ← hke]; unfold irow
                  rw [List.take_of_length_le (l := List.map (fun i => [I64 i]) out) (i := out.length) (by simp)]
                have hfin2 : List.map (fun i => [I64 i]) (insS out p) = List.take k (List.map (fun i => [I64 i]) out) ++ [I64 p] :: List.drop k (List.take out.length (List.map (fun i => [I64 i]) out)) := hfin
                and_intros
                all_goals first
                  | omega
                  | exact Weak.to (by simp [evV, hfin, hfin2]) rfl (by simp) (by simp [evV]) (by simp)
              · simp
                exact ⟨i + 1, by (try dsimp only); omega, by (try dsimp only); omega, Weak.to (by simp [hw, hst, evV, irow]) rfl (by simp) (by simp [evV]) (by simp)⟩
        · rw [if_neg (fun h => e h.2)] at hst
          simp [evV, evR, c, hx, d]
          refine CallG.intro (r := .pv (I64 (lastTo l p l.length))) (fun _ => hr) (by simp) ?_
          simp [e]
          exact ⟨i + 1, by (try dsimp only); omega, by (try dsimp only); omega, Weak.to (by simp [hw, hst, evV]) rfl (by simp) (by simp [evV]) (by simp)⟩
      · rw [if_neg (fun h => d h.1)] at hst
        simp [evV, evR, c, hx, d]
        refine CallG.intro (r := .pv (I64 0)) (fun h => h.elim) (by simp) ?_
        simp
        exact ⟨i + 1, by (try dsimp only); omega, by (try dsimp only); omega, Weak.to (by simp [hw, hst, evV]) rfl (by simp) (by simp [evV]) (by simp)⟩
    · have : i = l.length := by omega
      subst this
      simp [evV]

end Go.AX

namespace Go.AX
open Go.Proofs Go.Maps
set_option linter.unusedSimpArgs false

def evT : List Ev := [⟨1, 1, 3⟩, ⟨1, 2, 5⟩, ⟨2, 1, 7⟩]
def evU : List Ev := [⟨1, 1, 3⟩, ⟨1, 2, 5⟩, ⟨2, 1, 7⟩, ⟨2, 1, 0⟩]
def evZ : List Ev := [⟨0, 0, 0⟩]
theorem two_ok : APure Try.prog 97 [] (fun r => r = .own true 3 (evT.map evR)) := by
  refine apure1 hmo Try.func97 (by kernel_rfl) rfl rfl (by kernel_rfl) (Nat.le_of_ble_eq_true rfl) ?_
  simp [evT, evR]
set_option maxRecDepth 16000 in
theorem evAwake_ok : APure Try.prog 37 [] (fun r => r = .pv (BL true)) := by
  refine apure1 hmo Try.func37 (by kernel_rfl) rfl rfl (by kernel_rfl) (Nat.le_of_ble_eq_true rfl) ?_
  have h0 := two_ok
  have h1 := evChk_ok evT (by decide)
  have h2 := evChk_ok evU (by decide)
  have h3 := evChk_ok evZ (by decide)
  rw [show evChk evT = (3, 0) by kernel_rfl] at h1
  rw [show evChk evU = (3, 33) by kernel_rfl] at h2
  rw [show evChk evZ = (0, 8) by kernel_rfl] at h3
  have h4 := kinds_ok evT (by decide)
  have h5 := kinds_ok [] (by decide)
  rw [show kindsTo evT evT.length = 6 by kernel_rfl] at h4
  rw [show kindsTo [] (List.length ([] : List Ev)) = 0 by kernel_rfl] at h5
  have h6 := openE_ok evT (by intro x hx; unfold evT at hx; simp at hx; rcases hx with rfl | rfl | rfl <;> (unfold wfI; decide)) (by decide)
  rw [← open_same, show refOpTo evT evT.length = [2] by kernel_rfl] at h6
  have h7 := sameInts_ok [2] [2] (by decide)
  have h8 := ofE_ok evT 1 (by decide)
  rw [show filTo evT (ofB evT 1) evT.length = [⟨1, 1, 3⟩, ⟨2, 1, 7⟩] by kernel_rfl] at h8
  have h9 := doneE_ok evT (by decide)
  rw [show filTo evT (doneB evT) evT.length = [⟨1, 1, 3⟩, ⟨2, 1, 7⟩] by kernel_rfl] at h9
  have h10 := refSameEvs_ok [⟨1, 1, 3⟩, ⟨2, 1, 7⟩] [⟨1, 1, 3⟩, ⟨2, 1, 7⟩] (by decide)
  have h11 := sameEvs_ok evT evT (by decide)
  have h12 := sameEvs_ok evT [] (by decide)
  rw [decide_eq_true rfl] at h7 h10 h11
  rw [show decide (evT = []) = false by kernel_rfl] at h12
  simp only [evT, evU, evZ, evV, evR, List.map_cons, List.map_nil, irow] at h0 h1 h2 h3 h4 h6 h7 h8 h9 h10 h11 h12
  simp
  refine CallK.intro h0 (by simp) ?_
  simp
  refine CallK.intro h1 (by simp) ?_
  simp
  first | refine CallK.intro h0 (by simp) ?_ | refine CallQ0.intro h0 (by simp) ?_
  simp
  first | refine CallK.intro h2 (by simp) ?_ | refine CallQ0.intro h2 (by simp) ?_
  simp
  first | refine CallK.intro h3 (by simp) ?_ | refine CallQ0.intro h3 (by simp) ?_
  simp
  first | refine CallG.intro (fun _ => h0) (by simp) ?_ | refine CallQ.intro (fun _ => h0) (by simp) ?_
  simp
  first | refine CallG.intro (fun _ => h4) (by simp) ?_ | refine CallQ.intro (fun _ => h4) (by simp) ?_
  simp
  first | refine CallG.intro (fun _ => h5.conv ⟨_, _, rfl, PV.as_nil 3, rfl⟩) (by simp) ?_ | refine CallQ.intro (fun _ => h5.conv ⟨_, _, rfl, PV.as_nil 3, rfl⟩) (by simp) ?_
  simp
  first | refine CallG.intro (fun _ => h0) (by simp) ?_ | refine CallQ.intro (fun _ => h0) (by simp) ?_
  simp
  first | refine CallG.intro (fun _ => h6) (by simp) ?_ | refine CallQ.intro (fun _ => h6) (by simp) ?_
  simp
  first | refine CallG.intro (fun _ => h7) (by simp) ?_ | refine CallQ.intro (fun _ => h7) (by simp) ?_
  simp
  first | refine CallG.intro (fun _ => h0) (by simp) ?_ | refine CallQ.intro (fun _ => h0) (by simp) ?_
  simp
  first | refine CallG.intro (fun _ => h8) (by simp) ?_ | refine CallQ.intro (fun _ => h8) (by simp) ?_
  simp
  first | refine CallG.intro (fun _ => h0) (by simp) ?_ | refine CallQ.intro (fun _ => h0) (by simp) ?_
  simp
  first | refine CallG.intro (fun _ => h9) (by simp) ?_ | refine CallQ.intro (fun _ => h9) (by simp) ?_
  simp
  first | refine CallG.intro (fun _ => h0) (by simp) ?_ | refine CallQ.intro (fun _ => h0) (by simp) ?_
  simp
  first | refine CallG.intro (fun _ => h0) (by simp) ?_ | refine CallQ.intro (fun _ => h0) (by simp) ?_
  simp
  first | refine CallG.intro (fun _ => h10) (by simp) ?_ | refine CallQ.intro (fun _ => h10) (by simp) ?_
  simp
  first | refine CallG.intro (fun _ => h0) (by simp) ?_ | refine CallQ.intro (fun _ => h0) (by simp) ?_
  simp
  first | refine CallG.intro (fun _ => h0) (by simp) ?_ | refine CallQ.intro (fun _ => h0) (by simp) ?_
  simp
  first | refine CallG.intro (fun _ => h11) (by simp) ?_ | refine CallQ.intro (fun _ => h11) (by simp) ?_
  simp
  first | refine CallG.intro (fun _ => h0) (by simp) ?_ | refine CallQ.intro (fun _ => h0) (by simp) ?_
  simp
  first | refine CallG.intro (fun _ => h12.conv ⟨_, _, rfl, .refl _, _, _, rfl, PV.as_nil 3, rfl⟩) (by simp) ?_ | refine CallQ.intro (fun _ => h12.conv ⟨_, _, rfl, .refl _, _, _, rfl, PV.as_nil 3, rfl⟩) (by simp) ?_
  simp

set_option maxRecDepth 16000 in
theorem eventTells_ok (l m : List Ev) (p : Int) (hw : ∀ x ∈ l, wfI x.p) : APure Try.prog 7 [evV l, evV m, I64 p] (fun r => r = .pv (BL true)) := by
  refine apure1 hmo Try.func7 (by kernel_rfl) rfl rfl (by kernel_rfl) (Nat.le_of_ble_eq_true rfl) ?_
  by_cases c1 : 200 < l.length
  · have c1' : 200 < (l.length : Int) := by omega
    simp [evV, c1, c1']
    exact CallK.intro evAwake_ok (by simp) (by simp)
  have c1' : ¬ 200 < (l.length : Int) := by omega
  by_cases c2 : 200 < m.length
  · have c2' : 200 < (m.length : Int) := by omega
    simp [evV, c1, c1', c2, c2']
    exact CallK.intro evAwake_ok (by simp) (by simp)
  have c2' : ¬ 200 < (m.length : Int) := by omega
  have k1 := evChk_ok l (by omega)
  have k2 := refEvChk_ok l (by omega)
  have k3 := kinds_ok l (by omega)
  have k4 := refKinds_ok l (by omega)
  have k5 := openE_ok l hw (by omega)
  have k6 := refOpen_ok l (by omega)
  rw [open_same] at k6
  have hol : (openL l).length ≤ l.length := by rw [← open_same]; exact refOpTo_len l l.length
  have k7 := sameInts_ok (openL l) (openL l) (by omega)
  have k8 := ofE_ok l p (by omega)
  have k9 := refOf_ok l p (by omega)
  have hl1 := filTo_len l (ofB l p) l.length
  have k10 := refSameEvs_ok (filTo l (ofB l p) l.length) (filTo l (ofB l p) l.length) (by omega)
  have k11 := doneE_ok l (by omega)
  have k12 := refDone_ok l (by omega)
  have hl2 := filTo_len l (doneB l) l.length
  have k13 := refSameEvs_ok (filTo l (doneB l) l.length) (filTo l (doneB l) l.length) (by omega)
  have k14 := sameEvs_ok l m (by omega)
  have k15 := refSameEvs_ok l m (by omega)
  rw [decide_eq_true rfl] at k7 k10 k13
  generalize evChk l = ec at *
  generalize openL l = op at *
  generalize filTo l (ofB l p) l.length = f1 at *
  generalize filTo l (doneB l) l.length = f2 at *
  generalize kindsTo l l.length = kd at *
  generalize decide (l = m) = D at *
  simp only [evV] at k1 k2 k3 k4 k5 k6 k8 k9 k10 k11 k12 k13 k14 k15
  simp [evV, c1, c1', c2, c2']
  refine CallK.intro k1 (by simp) ?_
  simp
  refine CallK.intro k2 (by simp) ?_
  simp
  first | refine CallG.intro (fun _ => k3) (by simp) ?_ | refine CallQ.intro (fun _ => k3) (by simp) ?_
  simp
  first | refine CallG.intro (fun _ => k4) (by simp) ?_ | refine CallQ.intro (fun _ => k4) (by simp) ?_
  simp
  first | refine CallG.intro (fun _ => k5) (by simp) ?_ | refine CallQ.intro (fun _ => k5) (by simp) ?_
  simp
  first | refine CallG.intro (fun _ => k6) (by simp) ?_ | refine CallQ.intro (fun _ => k6) (by simp) ?_
  simp
  first | refine CallG.intro (fun _ => k7) (by simp) ?_ | refine CallQ.intro (fun _ => k7) (by simp) ?_
  simp
  first | refine CallG.intro (fun _ => k8) (by simp) ?_ | refine CallQ.intro (fun _ => k8) (by simp) ?_
  simp
  first | refine CallG.intro (fun _ => k9) (by simp) ?_ | refine CallQ.intro (fun _ => k9) (by simp) ?_
  simp
  first | refine CallG.intro (fun _ => k10) (by simp) ?_ | refine CallQ.intro (fun _ => k10) (by simp) ?_
  simp
  first | refine CallG.intro (fun _ => k11) (by simp) ?_ | refine CallQ.intro (fun _ => k11) (by simp) ?_
  simp
  first | refine CallG.intro (fun _ => k12) (by simp) ?_ | refine CallQ.intro (fun _ => k12) (by simp) ?_
  simp
  first | refine CallG.intro (fun _ => k13) (by simp) ?_ | refine CallQ.intro (fun _ => k13) (by simp) ?_
  simp
  first | refine CallG.intro (fun _ => k14) (by simp) ?_ | refine CallQ.intro (fun _ => k14) (by simp) ?_
  simp
  first | refine CallG.intro (fun _ => k15) (by simp) ?_ | refine CallQ.intro (fun _ => k15) (by simp) ?_
  simp
  first | refine CallG.intro (r := .pv (BL true)) (fun _ => evAwake_ok) (by simp) ?_ | refine CallQ.intro (r := .pv (BL true)) (fun _ => evAwake_ok) (by simp) ?_
  simp

end Go.AX

namespace Go.AX
open Go.Proofs Go.Maps
set_option linter.unusedSimpArgs false

theorem evGo_is {l : List Ev} : ∀ (k i : Nat), ∃ j : Nat, i ≤ j ∧ j ≤ i + k ∧ (evGo l k i).1 = (j : Int) ∧ (∀ m, i ≤ m → m < j → evErr l m = 0) ∧ (j < i + k → (evGo l k i).2 = evErr l j ∧ evErr l j ≠ 0) ∧ (j = i + k → (evGo l k i).2 = 0)
  | 0, i => ⟨i, Nat.le_refl _, Nat.le_refl _, rfl, fun m h1 h2 => by omega, fun h => by omega, fun _ => rfl⟩
  | k + 1, i => by
    rw [evGo]
    by_cases c : evErr l i = 0
    · rw [if_neg (by simpa using c)]
      obtain ⟨j, h1, h2, h3, h4, h5, h6⟩ := evGo_is (l := l) k (i + 1)
      refine ⟨j, by omega, by omega, h3, fun m h7 h8 => ?_, fun h => h5 (by omega), fun h => h6 (by omega)⟩
      by_cases e : m = i
      · subst e; exact c
      · exact h4 m (by omega) h8
    · rw [if_pos c]
      exact ⟨i, Nat.le_refl _, by omega, rfl, fun m h1 h2 => by omega, fun _ => ⟨rfl, c⟩, fun h => by omega⟩
theorem opTo_take (l : List Ev) (n : Nat) : ∀ i, i ≤ n → opTo (l.take n) i = opTo l i
  | 0, _ => rfl
  | i + 1, h => by
    rw [opTo, opTo, opTo_take l n i (by omega)]
    have : (l.take n).getD i default = l.getD i default := by
      simp only [List.getD_eq_getElem?_getD, List.getElem?_take]
      rw [if_pos (by omega)]
    rw [this]
theorem evErr_take (l : List Ev) (n i : Nat) (h : i < n) : evErr (l.take n) i = evErr l i := by
  unfold evErr
  rw [opTo_take l n i (by omega)]
  have : (l.take n).getD i default = l.getD i default := by
    simp only [List.getD_eq_getElem?_getD, List.getElem?_take]
    rw [if_pos h]
  rw [this]
theorem evChk_is {l : List Ev} (hl : l.length ≤ 10000) : ∃ j : Nat, j ≤ l.length ∧ (evChk l).1 = (j : Int) ∧ (∀ m, m < j → evErr l m = 0) ∧ (j < l.length → (evChk l).2 = evErr l j ∧ evErr l j ≠ 0) ∧ (j = l.length → (evChk l).2 = 0) := by
  obtain ⟨j, h1, h2, h3, h4, h5, h6⟩ := evGo_is (l := l) l.length 0
  unfold evChk
  rw [if_neg (by omega)]
  exact ⟨j, by omega, h3, fun m hm => h4 m (by omega) hm, fun h => h5 (by omega), fun h => h6 (by omega)⟩
theorem evChk_cut {l : List Ev} (hl : l.length ≤ 10000) {n : Nat} (hn : n ≤ l.length) :
    ∃ j : Nat, j ≤ l.length ∧ (evChk l).1 = (j : Int) ∧ ((evChk l).2 = 0 ↔ j = l.length) ∧ (n ≤ j → evChk (l.take n) = ((n : Int), 0)) ∧ (¬ n ≤ j → evChk (l.take n) = evChk l) := by
  obtain ⟨j, h1, h2, h3, h4, h5⟩ := evChk_is hl
  have hlt : (l.take n).length = n := by rw [List.length_take]; omega
  obtain ⟨j', k1, k2, k3, k4, k5⟩ := evChk_is (l := l.take n) (by omega)
  rw [hlt] at k1 k4 k5
  have hs : ∀ m, m < n → evErr (l.take n) m = evErr l m := fun m hm => evErr_take l n m hm
  refine ⟨j, h1, h2, ⟨fun h => ?_, h5⟩, fun h => ?_, fun h => ?_⟩
  · apply Classical.byContradiction
    intro hne
    have := h4 (by omega)
    exact this.2 (this.1 ▸ h)
  · have hj : j' = n := by
      apply Classical.byContradiction
      intro hne
      have := k4 (by omega)
      rw [hs j' (by omega)] at this
      exact this.2 (h3 j' (by omega))
    exact Prod.ext (by rw [k2, hj]) (k5 hj)
  · have hj : j' = j := by
      apply Classical.byContradiction
      intro hne
      have hj4 := h4 (by omega)
      by_cases c : j' < j
      · have := k4 (by omega)
        rw [hs j' (by omega)] at this
        exact this.2 (h3 j' c)
      · have := k3 j (by omega)
        rw [hs j (by omega)] at this
        exact hj4.2 this
    subst hj
    have e1 := k4 (by omega)
    have e2 := h4 (by omega)
    rw [hs j' (by omega)] at e1
    exact Prod.ext (k2.trans h2.symm) (e1.1.trans e2.1.symm)

set_option maxRecDepth 16000 in
theorem eventCuts_ok (l : List Ev) (n : Int) : APure Try.prog 9 [evV l, I64 n] (fun r => r = .pv (BL true)) := by
  refine apure1 hmo Try.func9 (by kernel_rfl) rfl rfl (by kernel_rfl) (Nat.le_of_ble_eq_true rfl) ?_
  by_cases c1 : 200 < l.length
  · have c1' : 200 < (l.length : Int) := by omega
    simp [evV, c1, c1']
    exact CallK.intro evAwake_ok (by simp) (by simp)
  have c1' : ¬ 200 < (l.length : Int) := by omega
  have k1 := evChk_ok l (by omega)
  obtain ⟨j, h1, h2, h3, _, _⟩ := evChk_cut (l := l) (by omega) (n := 0) (Nat.zero_le _)
  have hj0 : ¬ (j : Int) < 0 := by omega
  have hjl : ¬ (l.length : Int) < (j : Int) := by omega
  have hjl2 : ¬ l.length < j := by omega
  by_cases c2 : n < 0
  · generalize evChk l = ec at *
    obtain ⟨at', e⟩ := ec
    dsimp only at h2 h3 k1
    subst h2
    simp only [evV] at k1
    simp [evV, c1, c1']
    refine CallK.intro k1 (by simp) ?_
    by_cases he : e = 0
    · have := h3.1 he
      subst this
      simp [he, c2]
      exact CallK.intro evAwake_ok (by simp) (by simp)
    · have hne : ¬ j = l.length := fun h => he (h3.2 h)
      have hne' : ¬ (j : Int) = (l.length : Int) := by omega
      simp [he, c2, hne, hne', hj0, hjl, hjl2]
      exact CallK.intro evAwake_ok (by simp) (by simp)
  · by_cases c3 : (l.length : Int) < n
    · generalize evChk l = ec at *
      obtain ⟨at', e⟩ := ec
      dsimp only at h2 h3 k1
      subst h2
      simp only [evV] at k1
      simp [evV, c1, c1']
      refine CallK.intro k1 (by simp) ?_
      by_cases he : e = 0
      · have := h3.1 he
        subst this
        simp [he, c2, c3]
        exact CallK.intro evAwake_ok (by simp) (by simp)
      · have hne : ¬ j = l.length := fun h => he (h3.2 h)
        have hne' : ¬ (j : Int) = (l.length : Int) := by omega
        simp [he, c2, c3, hne, hne', hj0, hjl, hjl2]
        exact CallK.intro evAwake_ok (by simp) (by simp)
    · obtain ⟨m, rfl⟩ : ∃ m : Nat, n = (m : Int) := ⟨n.toNat, by omega⟩
      have hm : m ≤ l.length := by omega
      obtain ⟨j', h1', h2', h3', h4', h5'⟩ := evChk_cut (l := l) (by omega) hm
      have hjj : j' = j := by omega
      subst hjj
      have k2 := evChk_ok (l.take m) (by simp; omega)
      have hml : (m : Int) ≤ (l.length : Int) := by omega
      generalize evChk (l.take m) = ec2 at *
      generalize evChk l = ec at *
      obtain ⟨at', e⟩ := ec
      obtain ⟨at2, e2⟩ := ec2
      dsimp only at h2 h3 k1 k2
      subst h2
      simp only [evV, List.map_take] at k1 k2
      simp [evV, c1, c1']
      refine CallK.intro k1 (by simp) ?_
      by_cases hmj : m ≤ j'
      · have hmj' : (m : Int) ≤ (j' : Int) := by omega
        have e3 := h4' hmj
        injection e3 with e4 e5
        subst e4 e5
        by_cases he : e = 0
        · have := h3.1 he
          subst this
          simp [he, c3, hm, hml]
          refine CallK.intro k2 (by simp) ?_
          simp [hmj, hmj']
          refine CallG.intro (r := .pv (BL true)) (fun _ => evAwake_ok) (by simp) ?_
          simp
        · have hne : ¬ j' = l.length := fun h => he (h3.2 h)
          have hne' : ¬ (j' : Int) = (l.length : Int) := by omega
          simp [he, c3, hm, hml, hne, hne', hj0, hjl, hjl2]
          refine CallK.intro k2 (by simp) ?_
          simp [hmj, hmj']
          refine CallG.intro (r := .pv (BL true)) (fun _ => evAwake_ok) (by simp) ?_
          simp
      · have hmj' : ¬ (m : Int) ≤ (j' : Int) := by omega
        have e3 := h5' hmj
        injection e3 with e4 e5
        subst e4 e5
        by_cases he : e2 = 0
        · have := h3.1 he
          omega
        · have hne : ¬ j' = l.length := fun h => he (h3.2 h)
          have hne' : ¬ (j' : Int) = (l.length : Int) := by omega
          simp [he, c3, hm, hml, hne, hne', hj0, hjl, hjl2]
          refine CallK.intro k2 (by simp) ?_
          simp [hmj, hmj']
          refine CallG.intro (r := .pv (BL true)) (fun _ => evAwake_ok) (by simp) ?_
          simp

end Go.AX

namespace Go.AX
open Go.Proofs Go.Maps
set_option linter.unusedSimpArgs false

theorem refHas_ok (l : List Int) (n : Int) (hl : l.length ≤ 140737488355328) : APure Try.prog 50 [.seq false 1 (irow l), I64 n] (fun r => r = .pv (BL (decide (n ∈ l)))) := by
  refine apure1 hmo Try.func50 (by kernel_rfl) rfl rfl (by kernel_rfl) (Nat.le_of_ble_eq_true rfl) ?_
  simp
  refine ALoop.intro (S := fun (i : Nat) => ⟨[(0, .pv (.seq false 1 (irow l))), (1, .pv (I64 n)), (5, .pv (I64 i))], []⟩) (fun i => i ≤ l.length ∧ ∀ j (h : j < l.length), j < i → l[j] ≠ n) (fun i => l.length - i) 0 ?_ ⟨Nat.zero_le _, fun j _ h => by omega⟩ ?_
  · exact Weak.to (by simp) rfl (by simp) (by simp [irow]) (by simp)
  · rintro i ⟨hi, ho⟩
    by_cases c : i < l.length
    · have hw : w64 ((i : Int) + 1) = ((i + 1 : Nat) : Int) := by rw [w64_id (by omega) (by omega)]; omega
      simp [c, irow]
      refine ⟨fun d => ?_, fun d => ⟨i + 1, by dsimp only; omega, ⟨by omega, fun j h1 h2 => ?_⟩, Weak.to (by simp [hw, irow]) rfl (by simp) (by simp [irow]) (by simp)⟩⟩
      · rw [← d]; exact List.getElem_mem c
      · by_cases e : j = i
        · subst e; exact d
        · exact ho j h1 (by omega)
    · have : i = l.length := by omega
      subst this
      simp [irow]
      intro h
      obtain ⟨j, hj, he⟩ := List.getElem_of_mem h
      exact ho j hj hj he

theorem evErr_zero {l : List Ev} {i : Nat} (h : evErr l i = 0) : evAlone (l.getD i default) = 0 ∧ ((l.getD i default).w = 1 ∨ (l.getD i default).w = 2) ∧ ((lk (opTo l i) (l.getD i default).p).getD 0 = 1 ↔ (l.getD i default).w = 2) := by
  unfold evErr at h
  have ha : evAlone (l.getD i default) = 0 := by
    apply Classical.byContradiction
    intro hne
    rw [if_pos hne] at h; exact hne h
  rw [if_neg (by simpa using ha)] at h
  have hw : (l.getD i default).w = 1 ∨ (l.getD i default).w = 2 := by
    unfold evAlone at ha
    by_cases a : (l.getD i default).w = 1
    · exact .inl a
    · by_cases b : (l.getD i default).w = 2
      · exact .inr b
      · rw [if_pos ⟨a, b⟩] at ha; cases ha
  refine ⟨ha, hw, ?_⟩
  have h2 : ¬ ((lk (opTo l i) (l.getD i default).p).getD 0 = 1 ↔ (l.getD i default).w = 1) := fun hh => by rw [if_pos hh] at h; cases h
  rcases hw with hw | hw
  · constructor
    · intro h3; exact absurd ⟨fun _ => hw, fun _ => h3⟩ h2
    · intro h3; omega
  · constructor
    · intro _; exact hw
    · intro _
      apply Classical.byContradiction
      intro h3
      exact h2 ⟨fun h => absurd h h3, fun h => by omega⟩

/-- A process' events go in turns. -/
theorem own_turns {l : List Ev} (p : Int) : ∀ n, (∀ j, j < n → evErr l j = 0) →
    (∀ i (h : i < (filTo l (ofB l p) n).length), ((filTo l (ofB l p) n)[i]).p = p ∧ (((filTo l (ofB l p) n)[i]).w = 1 ↔ i % 2 = 0)) ∧ ((lk (opTo l n) p).getD 0 = 1 ↔ (filTo l (ofB l p) n).length % 2 = 1)
  | 0, _ => ⟨fun i h => by simp [filTo] at h, by simp [filTo, opTo, lk]⟩
  | n + 1, he => by
    obtain ⟨h1, h2⟩ := own_turns p n (fun j hj => he j (by omega))
    obtain ⟨_, hw, ho⟩ := evErr_zero (he n (by omega))
    have hs := filTo_succ l (ofB l p) n
    rw [opTo, lk_pt]
    obtain ⟨x, hx⟩ : ∃ x, l.getD n default = x := ⟨_, rfl⟩
    have hof : ofB l p n = decide (x.p = p) := by unfold ofB; rw [hx]
    rw [hof, hx] at hs
    rw [hx] at hw ho ⊢
    by_cases c : x.p = p
    · rw [if_pos (by simpa using c)] at hs
      rw [if_pos c]
      rw [c] at ho
      rw [hs]
      refine ⟨fun i hi => ?_, ?_⟩
      · by_cases e : i < (filTo l (ofB l p) n).length
        · rw [List.getElem_append_left e]; exact h1 i e
        · have : i = (filTo l (ofB l p) n).length := by rw [List.length_append, List.length_singleton] at hi; omega
          subst this
          rw [List.getElem_append_right (Nat.le_refl _)]
          simp only [Nat.sub_self, List.getElem_singleton]
          refine ⟨c, ?_⟩
          rw [h2] at ho
          omega
      · rw [List.length_append, List.length_singleton]
        simp only [Option.getD_some]
        rw [h2] at ho
        omega
    · rw [if_neg (by simpa using c)] at hs
      rw [if_neg c, hs]
      exact ⟨h1, h2⟩

/-- What is done, told alike of what is left. -/
theorem done_inv {l : List Ev} {N : Nat} (hN : N = l.length) : ∀ n, n ≤ N → (∀ j, j < n → evErr l j = 0) → ∀ p,
    ((∀ m, m < n → (l.getD m default).p = p → doneB l m = true) → lk (opTo (filTo l (doneB l) n) (filTo l (doneB l) n).length) p = lk (opTo l n) p) ∧
    ((∃ m, m < n ∧ (l.getD m default).p = p ∧ doneB l m = false) → ¬ (lk (opTo (filTo l (doneB l) n) (filTo l (doneB l) n).length) p).getD 0 = 1)
  | 0, _, _, p => ⟨fun _ => by simp [filTo, opTo], fun ⟨m, h, _⟩ => by omega⟩
  | n + 1, hn, he, p => by
    obtain ⟨h1, h2⟩ := done_inv hN n (by omega) (fun j hj => he j (by omega)) p
    have hs := filTo_succ l (doneB l) n
    obtain ⟨d, hd⟩ : ∃ d, filTo l (doneB l) n = d := ⟨_, rfl⟩
    rw [hd] at h1 h2 hs
    have hsnoc : opTo (d ++ [l.getD n default]) (d ++ [l.getD n default]).length = pt (opTo d d.length) (l.getD n default).p (l.getD n default).w := by
      rw [List.length_append, List.length_singleton, opTo]
      have e1 : opTo (d ++ [l.getD n default]) d.length = opTo d d.length := by
        have := opTo_take (d ++ [l.getD n default]) d.length d.length (Nat.le_refl _)
        rw [List.take_left'] at this
        · exact this.symm
        · rfl
      rw [e1]
      have e2 : (d ++ [l.getD n default]).getD d.length default = l.getD n default := by simp
      rw [e2]
    refine ⟨fun hall => ?_, fun ⟨m, hm, hmp, hmd⟩ => ?_⟩
    · have ih := h1 fun m hm hp => hall m (by omega) hp
      rw [opTo, lk_pt]
      cases hdn : doneB l n
      · rw [hdn] at hs
        simp only [Bool.false_eq_true, if_false] at hs
        rw [hs, ih]
        have hne : ¬ (l.getD n default).p = p := fun hp => by
          have := hall n (by omega) hp
          rw [hdn] at this; cases this
        rw [if_neg hne]
      · rw [hdn] at hs
        simp only [if_true] at hs
        rw [hs, hsnoc, lk_pt, ih]
    · have hlast : lastTo l p l.length = (m : Int) := by
        unfold doneB at hmd
        simp only [Bool.or_eq_false_iff, Bool.not_eq_false', decide_eq_true_eq] at hmd
        rw [← hmp]; exact hmd.2
      by_cases e : m = n
      · subst e
        rw [hmd] at hs
        simp only [Bool.false_eq_true, if_false] at hs
        rw [hs]
        have ih := h1 fun m' hm' hp => by
          unfold doneB
          rw [hp, hlast]
          simp; right; omega
        rw [ih]
        obtain ⟨_, _, ho⟩ := evErr_zero (he m (by omega))
        rw [hmp] at ho
        have hw1 : (l.getD m default).w = 1 := by
          unfold doneB at hmd
          simp only [Bool.or_eq_false_iff, Bool.not_eq_false', decide_eq_true_eq] at hmd
          exact hmd.1
        intro h3
        have := ho.1 h3
        omega
      · have hne : ¬ (l.getD n default).p = p := fun hp => by
          have := lastTo_ge l p l.length n (by omega) hp
          omega
        have ih := h2 ⟨m, by omega, hmp, hmd⟩
        cases hdn : doneB l n
        · rw [hdn] at hs
          simp only [Bool.false_eq_true, if_false] at hs
          rw [hs]; exact ih
        · rw [hdn] at hs
          simp only [if_true] at hs
          rw [hs, hsnoc, lk_pt, if_neg hne]; exact ih

theorem done_valid {l : List Ev} : ∀ n, n ≤ l.length → (∀ j, j < n → evErr l j = 0) → ∀ k, k < (filTo l (doneB l) n).length → evErr (filTo l (doneB l) n) k = 0
  | 0, _, _, k, hk => by simp [filTo] at hk
  | n + 1, hn, he, k, hk => by
    have ih := done_valid n (by omega) (fun j hj => he j (by omega))
    have hs := filTo_succ l (doneB l) n
    obtain ⟨d, hd⟩ : ∃ d, filTo l (doneB l) n = d := ⟨_, rfl⟩
    have hinv := done_inv (l := l) rfl n (by omega) (fun j hj => he j (by omega)) (l.getD n default).p
    rw [hd] at ih hs hinv
    cases hdn : doneB l n
    · rw [hdn] at hs
      simp only [Bool.false_eq_true, if_false] at hs
      rw [hs] at hk ⊢
      exact ih k hk
    · rw [hdn] at hs
      simp only [if_true] at hs
      rw [hs] at hk ⊢
      have htake : (d ++ [l.getD n default]).take d.length = d := by rw [List.take_left']; rfl
      by_cases e : k < d.length
      · have := evErr_take (d ++ [l.getD n default]) d.length k e
        rw [htake] at this
        rw [← this]; exact ih k e
      · have : k = d.length := by rw [List.length_append, List.length_singleton] at hk; omega
        subst this
        have hn0 := he n (by omega)
        unfold evErr at hn0 ⊢
        have e2 : (d ++ [l.getD n default]).getD d.length default = l.getD n default := by simp
        have e1 : opTo (d ++ [l.getD n default]) d.length = opTo d d.length := by
          have := opTo_take (d ++ [l.getD n default]) d.length d.length (Nat.le_refl _)
          rw [htake] at this
          exact this.symm
        rw [e2, e1, hinv.1 fun m hm hp => ?_]
        · exact hn0
        · unfold doneB
          rw [hp]
          have h9 : ¬ lastTo l (l.getD n default).p l.length = (m : Int) := by
            have := lastTo_ge l (l.getD n default).p l.length n (by omega) rfl
            omega
          rw [decide_eq_false h9, Bool.not_false, Bool.or_true]
theorem evChk_ok0 {l : List Ev} (hl : l.length ≤ 10000) (h : ∀ j, j < l.length → evErr l j = 0) : evChk l = ((l.length : Int), 0) := by
  obtain ⟨j, h1, h2, h3, h4, h5⟩ := evChk_is hl
  have hj : j = l.length := by
    apply Classical.byContradiction
    intro hne
    have := h4 (by omega)
    exact this.2 (h j (by omega))
  exact Prod.ext (by rw [h2, hj]) (h5 hj)
theorem done_open {l : List Ev} (h : ∀ j, j < l.length → evErr l j = 0) : openL (filTo l (doneB l) l.length) = [] := by
  rw [← open_same]
  apply List.eq_nil_of_length_eq_zero
  rw [(refOpTo_perm _ _).length_eq, List.length_map]
  apply Nat.eq_zero_of_not_pos
  intro hp
  obtain ⟨k, hk⟩ := List.exists_mem_of_length_pos hp
  obtain ⟨hk1, hk2⟩ := List.mem_filter.1 hk
  rw [List.mem_range] at hk1
  obtain ⟨d, hd⟩ : ∃ d, filTo l (doneB l) l.length = d := ⟨_, rfl⟩
  rw [hd] at hk1 hk2
  unfold isOp at hk2
  simp only [Bool.and_eq_true, decide_eq_true_eq] at hk2
  have hinv := done_inv (l := l) rfl l.length (Nat.le_refl _) h (d.getD k default).p
  rw [hd] at hinv
  have hlk : lk (opTo d d.length) (d.getD k default).p = some 1 := by
    rw [lk_opTo, hk2.2, if_pos (by omega), Int.toNat_natCast, hk2.1]
  by_cases c : ∃ m, m < l.length ∧ (l.getD m default).p = (d.getD k default).p ∧ doneB l m = false
  · exact hinv.2 c (by rw [hlk]; rfl)
  · have hall : ∀ m, m < l.length → (l.getD m default).p = (d.getD k default).p → doneB l m = true := fun m hm hp => by
      cases hdm : doneB l m
      · exact absurd ⟨m, hm, hp, hdm⟩ c
      · rfl
    have h1 := hinv.1 hall
    rw [hlk, lk_opTo] at h1
    split at h1
    · rename_i hge
      injection h1 with h1
      have hlt := lastTo_lt l (d.getD k default).p l.length
      obtain ⟨m, hm⟩ : ∃ m : Nat, lastTo l (d.getD k default).p l.length = (m : Int) := ⟨(lastTo l (d.getD k default).p l.length).toNat, by omega⟩
      rw [hm, Int.toNat_natCast] at h1
      obtain ⟨hml, hmp⟩ := lastTo_p l _ l.length m hm
      have := hall m hml hmp
      unfold doneB at this
      rw [hmp, hm, ← h1] at this
      simp at this
    · cases h1
theorem done_len (l : List Ev) : (filTo l (doneB l) l.length).length + (openL l).length = l.length := by
  rw [← open_same, (refOpTo_perm l l.length).length_eq]
  unfold filTo
  rw [List.length_map, List.length_map]
  have key : ∀ n, ((List.range n).filter (doneB l)).length + ((List.range n).filter (isOp l)).length = n := by
    intro n
    induction n with
    | zero => rfl
    | succ n ih =>
      rw [List.range_succ, List.filter_append, List.filter_append, List.length_append, List.length_append]
      have : doneB l n = !isOp l n := by unfold doneB isOp; simp
      simp only [List.filter_cons, List.filter_nil, this]
      cases isOp l n <;> simp <;> omega
  exact key l.length
theorem mem_openL (l : List Ev) (p : Int) : p ∈ openL l ↔ opnS l p l.length = true := by
  rw [← open_same, (refOpTo_perm l l.length).mem_iff, List.mem_map]
  constructor
  · rintro ⟨i, hi, rfl⟩
    have := (List.mem_filter.1 hi).2
    unfold isOp at this
    simp only [Bool.and_eq_true, decide_eq_true_eq] at this
    unfold opnS
    rw [this.2]
    simp
    simpa using this.1
  · intro h
    unfold opnS at h
    simp only [Bool.and_eq_true, decide_eq_true_eq] at h
    obtain ⟨m, hm⟩ : ∃ m : Nat, lastTo l p l.length = (m : Int) := ⟨(lastTo l p l.length).toNat, by omega⟩
    obtain ⟨h1, h2⟩ := lastTo_p l p l.length m hm
    refine ⟨m, List.mem_filter.2 ⟨List.mem_range.2 h1, ?_⟩, h2⟩
    rw [hm, Int.toNat_natCast] at h
    unfold isOp
    rw [h2, hm, h.2]
    simp
theorem evFil_wf {l : List Ev} (hw : ∀ x ∈ l, wfI x.p) (f : Nat → Bool) : ∀ x ∈ filTo l f l.length, wfI x.p := by
  intro x hx
  unfold filTo at hx
  obtain ⟨i, hi, rfl⟩ := List.mem_map.1 hx
  have hi2 := List.mem_range.1 (List.mem_filter.1 hi).1
  have : l.getD i default ∈ l := by
    rw [List.getD_eq_getElem?_getD, List.getElem?_eq_getElem hi2]
    exact List.getElem_mem _
  exact hw _ this

theorem w64_sub {a b : Nat} (h : b ≤ a) (ha : a ≤ 1000000) : w64 ((a : Int) - b) = ((a - b : Nat) : Int) := by rw [w64_id (by omega) (by omega)]; omega

set_option maxRecDepth 16000 in
theorem eventForms_ok (l : List Ev) (p : Int) (hw : ∀ x ∈ l, wfI x.p) : APure Try.prog 8 [evV l, I64 p] (fun r => r = .pv (BL true)) := by
  refine apure1 hmo Try.func8 (by kernel_rfl) rfl rfl (by kernel_rfl) (Nat.le_of_ble_eq_true rfl) ?_
  by_cases c1 : 200 < l.length
  · have c1' : 200 < (l.length : Int) := by omega
    simp [evV, c1, c1']
    exact CallK.intro evAwake_ok (by simp) (by simp)
  have c1' : ¬ 200 < (l.length : Int) := by omega
  have k1 := evChk_ok l (by omega)
  by_cases c2 : (evChk l).2 = 0
  rotate_left
  · simp only [evV] at k1
    simp [evV, c1, c1']
    refine CallK.intro k1 (by simp) ?_
    simp [c2]
    exact CallK.intro evAwake_ok (by simp) (by simp)
  have hE : ∀ j, j < l.length → evErr l j = 0 := by
    have c := c2
    unfold evChk at c
    rw [if_neg (by omega)] at c
    exact fun j hj => evGo_okI l.length 0 c j (Nat.zero_le _) (by omega)
  have k2 := ofE_ok l p (by omega)
  have k3 := openE_ok l hw (by omega)
  have hol : (openL l).length ≤ l.length := by rw [← open_same]; exact refOpTo_len l l.length
  have k4 := refHas_ok (openL l) p (by omega)
  have k5 := doneE_ok l (by omega)
  have hdl := filTo_len l (doneB l) l.length
  have hdw := evFil_wf hw (doneB l)
  have k6 := evChk_ok (filTo l (doneB l) l.length) (by omega)
  have k7 := openE_ok (filTo l (doneB l) l.length) hdw (by omega)
  rw [evChk_ok0 (l := filTo l (doneB l) l.length) (by omega) (done_valid l.length (Nat.le_refl _) hE)] at k6
  rw [done_open hE] at k7
  have hdlen := done_len l
  obtain ⟨t1, t2⟩ := own_turns p l.length hE
  have hmem := mem_openL l p
  rw [← opn_iff] at hmem
  have hmo2 : p ∈ openL l ↔ (filTo l (ofB l p) l.length).length % 2 = 1 := hmem.trans t2
  have hfl := filTo_len l (ofB l p) l.length
  have hsub := w64_sub hol (by omega)
  generalize evChk l = ec at *
  generalize openL l = op at *
  generalize filTo l (doneB l) l.length = d at *
  generalize filTo l (ofB l p) l.length = own at *
  simp only [evV] at k1 k2 k3 k4 k5 k6 k7
  simp [evV, c1, c1']
  refine CallK.intro k1 (by simp) ?_
  simp [c2]
  refine CallK.intro k2 (by simp) ?_
  simp
  refine ALoop.intro (S := fun (i : Nat) => ⟨[(0, .pv (evV l)), (1, .pv (I64 p)), (7, .own true 3 (own.map evR)), (8, .pv (I64 i))], []⟩) (fun i => i ≤ own.length) (fun i => own.length - i) 0 ?_ (Nat.zero_le _) ?_
  · exact Weak.to (by simp [evV]) rfl (by simp) (by simp [evV]) (by simp)
  · intro i hi
    by_cases c : i < own.length
    · have hw2 : w64 ((i : Int) + 1) = ((i + 1 : Nat) : Int) := by rw [w64_id (by omega) (by omega)]; omega
      obtain ⟨u1, u2⟩ := t1 i c
      obtain ⟨x, hx⟩ : ∃ x, own[i] = x := ⟨_, rfl⟩
      rw [hx] at u1 u2
      have e0 : (i : Int).tmod 2 = ((i % 2 : Nat) : Int) := rfl
      by_cases e : i % 2 = 0
      · have u3 := u2.2 e
        have e2 : (i : Int).tmod 2 = 0 := by rw [e0, e]; rfl
        simp [evV, evR, c, hx, u1, u3, e2]
        exact ⟨i + 1, by (try dsimp only); omega, by (try dsimp only); omega, Weak.to (by simp [hw2, evV]) rfl (by simp) (by simp [evV]) (by simp)⟩
      · have u3 : ¬ x.w = 1 := fun h => e (u2.1 h)
        have e2 : ¬ (i : Int).tmod 2 = 0 := by rw [e0]; omega
        simp [evV, evR, c, hx, u1, u3, e2]
        exact ⟨i + 1, by (try dsimp only); omega, by (try dsimp only); omega, Weak.to (by simp [hw2, evV]) rfl (by simp) (by simp [evV]) (by simp)⟩
    · have : i = own.length := by omega
      subst this
      simp [evV]
      refine CallK.intro k3 (by simp) ?_
      simp
      refine CallK.intro k4 (by simp) ?_
      have e0 : (own.length : Int).tmod 2 = ((own.length % 2 : Nat) : Int) := rfl
      have hdz : (0 : Int) = ((([] : List Int).length : Nat) : Int) := rfl
      have hdl2 : (d.length : Int) = ((l.length - op.length : Nat) : Int) := by omega
      by_cases hp : own.length % 2 = 1
      all_goals
        first
          | (have e2 : (own.length : Int).tmod 2 = 1 := by rw [e0, hp]; rfl
             have hm : p ∈ op := hmo2.2 hp
             simp [hm, e2])
          | (have e2 : ¬ (own.length : Int).tmod 2 = 1 := by rw [e0]; omega
             have hm : ¬ p ∈ op := fun h => hp (hmo2.1 h)
             simp [hm, e2])
        refine CallK.intro k5 (by simp) ?_
        simp
        refine CallK.intro k6 (by simp) ?_
        simp
        refine CallG.intro (fun _ => k7) (by simp) ?_
        simp [irow]
        refine CallG.intro (fun _ => k3) (by simp) ?_
        simp [irow, hsub, hdl2]
        refine CallG.intro (r := .pv (BL true)) (fun _ => evAwake_ok) (by simp) ?_
        simp

end Go.AX
