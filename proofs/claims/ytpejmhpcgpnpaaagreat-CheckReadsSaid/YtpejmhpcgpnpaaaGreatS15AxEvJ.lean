/-
  Contracts: which processes have an open operation (the document's answer).
  Contracts: replevinref25.Open.
-/
import Derived.Test.YtpejmhpcgpnpaaaGreatS15AxEvE
import Derived.Test.YtpejmhpcgpnpaaaGreatS15AxShelf
import Derived.Test.YtpejmhpcgpnpaaaGreatS15AxCntL
import Derived.Test.YtpejmhpcgpnpaaaGreatAxR
import Derived.Test.YtpejmhpcgpnpaaaGreatAxDr
namespace Go.AX
open Go.Proofs Go.Maps
set_option linter.unusedSimpArgs false
def insK : List Int → Int → Nat
 | [], _ => 0
 | x :: l, p => if x < p then insK l p + 1 else 0
def insE (l : List Int) (p : Int) : List Int := l.take (insK l p) ++ p :: l.drop (insK l p)
theorem insK_le : ∀ (l : List Int) (p : Int), insK l p ≤ l.length
 | [], _ => Nat.le_refl _
 | x :: l, p => by
  rw [insK]; have := insK_le l p; split
  ·simp; omega
  ·simp
theorem insS_cons (x : Int) (l : List Int) (p : Int) : insE (x :: l) p = if x < p then x :: insE l p else p :: x :: l := by
 unfold insE; rw [insK]; split
 ·simp
 ·simp
theorem insS_perm : ∀ (l : List Int) (p : Int), (insE l p).Perm (p :: l)
 | [], p => by simp [insE, insK]
 | x :: l, p => by
  rw [insS_cons]; split
  ·exact ((insS_perm l p).cons x).trans (.swap p x l)
  ·exact .refl _
theorem insK_step {l : List Int} {p : Int} {k : Nat} (hk : k < l.length) (hle : k ≤ insK l p) : k < insK l p ↔ l[k] < p := by
 induction l generalizing k with
 | nil => simp at hk
 | cons x l ih =>
  rw [insK] at *; by_cases c : x < p
  ·rw [if_pos c] at *; cases k with
   | zero => simp [c]
   | succ k =>
    have := ih (k := k) (by simpa using hk) (by omega); simp only [List.getElem_cons_succ]; omega
  ·rw [if_neg c] at *; have : k = 0 := by omega
   subst this; simp [c]
def isOp (l : List Ev) (i : Nat) : Bool := decide ((l.getD i default).w = 1) && decide (lastTo l (l.getD i default).p l.length = (i : Int))
def refOpTo (l : List Ev) : Nat → List Int
 | 0 => []
 | i + 1 => if isOp l i = true then insE (refOpTo l i) (l.getD i default).p else refOpTo l i
theorem refOpTo_perm (l : List Ev) : ∀ i, (refOpTo l i).Perm (((List.range i).filter (isOp l)).map fun i => (l.getD i default).p)
 | 0 => by simp [refOpTo]
 | i + 1 => by
  rw [refOpTo, List.range_succ, List.filter_append, List.map_append]; have ih := refOpTo_perm l i; simp only [List.filter_cons, List.filter_nil]; split
  ·rename_i c; simp only [List.map_cons, List.map_nil]; exact (insS_perm _ _).trans ((ih.cons _).trans (List.perm_append_singleton _ _).symm)
  ·simpa using ih
theorem refOpTo_len (l : List Ev) (i : Nat) : (refOpTo l i).length ≤ i := by
 rw [(refOpTo_perm l i).length_eq, List.length_map]; exact Nat.le_trans (List.length_filter_le _ _) (by simp)
theorem lastTo_p (l : List Ev) (p : Int) : ∀ (n m : Nat), lastTo l p n = (m : Int) → m < n ∧ (l.getD m default).p = p
 | 0, m, h => by simp only [lastTo] at h; omega
 | n + 1, m, h => by
  rw [lastTo] at h; by_cases c : (l.getD n default).p = p
  ·rw [if_pos c] at h; have : n = m := by omega
   subst this; exact ⟨by omega, c⟩
  ·rw [if_neg c] at h; have := lastTo_p l p n m h; exact ⟨by omega, this.2⟩
end Go.AX

namespace Go.AX
open Go.Proofs Go.Maps
set_option linter.unusedSimpArgs false
theorem irow_ins (l : List Int) (p : Int) : irow (insE l p) = (irow l).take (insK l p) ++ [I64 p] :: (irow l).drop (insK l p) := by
 simp [irow, insE, List.map_take, List.map_drop]
set_option maxRecDepth 16000 in
theorem refOpen_ok (l : List Ev) (hl : l.length ≤ 1000000) : APure Tryz.prog 123 [evV l] (fun r => r = .own true 1 (irow (refOpTo l l.length))) := by
 refine apure1B [10] hmo Tryz.func123 ?_; simp [evV]; refine ALoop.intro (S := fun (i : Nat) => ⟨[(0, .pv (evV l)), (3, .own true 1 (irow (refOpTo l i))), (4, .pv (I64 i))], []⟩) (fun i => i ≤ l.length) (fun i => l.length - i) 0 ?_ (Nat.zero_le _) ?_
 ·exact (Weak.nilOwn (s := 3) 1 true (by simp)).trans (Weak.to (by simp [evV, refOpTo, irow]) rfl (by simp) (by simp [evV]) (by simp))
 ·intro i hi; by_cases c : i < l.length
  ·have hw := wnx i; obtain ⟨x, hx⟩ : ∃ x, l[i] = x := ⟨_, rfl⟩; have hgd : l.getD i default = x := by rw [← hx]; simp [c]
   have hr := refLast_ok l x.p (by omega); simp only [evV] at hr; have hlen := refOpTo_len l i; have hst : refOpTo l (i + 1) = if x.w = 1 ∧ lastTo l x.p l.length = (i : Int) then insE (refOpTo l i) x.p else refOpTo l i := by
    rw [refOpTo]; unfold isOp; rw [hgd]; simp
   obtain ⟨w, p, n⟩ := x; dsimp only at hst hr; generalize refOpTo l i = out at *; by_cases d : w = 1
   ·by_cases e : lastTo l p l.length = (i : Int)
    ·rw [if_pos ⟨d, e⟩] at hst; simp [evV, evR, c, hx, d]; refine CallG.intro (r := .pv (I64 (lastTo l p l.length))) (fun _ => hr) ?_; simp [e]; refine ALoop.intro (S := fun (k : Nat) => ⟨[(0, .pv (evV l)), (3, .own true 1 (irow out)), (4, .pv (I64 i)), (5, .pv (I64 p)), (6, .pv (I64 k))], []⟩) (fun k => k ≤ insK out p) (fun k => out.length - k) 0 ?_ (Nat.zero_le _) ?_
     ·exact Weak.to (by simp [evV]) rfl (by simp) (by simp [evV]) (by simp)
     ·intro k hk; have hkl := insK_le out p; by_cases ck : k < out.length
      ·have hst2 := insK_step ck hk; have hw2 := wnx k; by_cases f : out[k] < p
       ·simp [evV, ck, f, irow]; exact ⟨k + 1, by (try dsimp only); omega, by have := hst2.2 f; (try dsimp only); omega, Weak.to (by simp [hw2, evV, irow]) rfl (by simp) (by simp [evV]) (by simp)⟩
       ·have hke : k = insK out p := by
         have := fun h => f (hst2.1 h); omega
        simp [evV, ck, f, irow]; refine AAnyD.meet (.take 1 (.take 2 (.take 3 (.take 5 (.take 8 (.take 9 (.take 10 (.fork [(0, .fork [(4, .fork [(6, .fork [(7, .fork [(11, .fork [(12, .done)])])])]), (6, .fork [(4, .fork [(7, .fork [(11, .fork [(12, .done)])])])])]), (6, .fork [(0, .fork [(4, .fork [(7, .fork [(11, .fork [(12, .done)])])])])])]))))))))
         ⟨[(0, .pv (evV l)), (3, .own true 1 (irow (insE out p))), (4, .pv (I64 i))], []⟩ (by kernel_rfl) ?_ ?_
        ·simp [evV, ck, irow]; have hfin : irow (insE out p) = List.take k (List.map (fun i => [I64 i]) out) ++ [I64 p] :: List.drop k (List.take out.length (List.map (fun i => [I64 i]) out)) := by
          rw [irow_ins, ← hke]; unfold irow; rw [List.take_of_length_le (l := List.map (fun i => [I64 i]) out) (i := out.length) (by simp)]
         have hfin2 : List.map (fun i => [I64 i]) (insE out p) = List.take k (List.map (fun i => [I64 i]) out) ++ [I64 p] :: List.drop k (List.take out.length (List.map (fun i => [I64 i]) out)) := hfin; and_intros
         all_goals first
          | omega
          | exact Weak.to (by simp [evV, hfin, hfin2]) rfl (by simp) (by simp [evV]) (by simp)
        ·simp; exact ⟨i + 1, by (try dsimp only); omega, by (try dsimp only); omega, Weak.to (by simp [hw, hst, evV, irow]) rfl (by simp) (by simp [evV]) (by simp)⟩
      ·have hke : k = insK out p := by omega
       have hkl2 : k = out.length := by omega
       simp [evV, ck, irow]; refine AAnyD.meet (.take 1 (.take 2 (.take 3 (.take 5 (.take 8 (.take 9 (.take 10 (.fork [(0, .fork [(4, .fork [(6, .fork [(7, .fork [(11, .fork [(12, .done)])])])]), (6, .fork [(4, .fork [(7, .fork [(11, .fork [(12, .done)])])])])]), (6, .fork [(0, .fork [(4, .fork [(7, .fork [(11, .fork [(12, .done)])])])])])]))))))))
        ⟨[(0, .pv (evV l)), (3, .own true 1 (irow (insE out p))), (4, .pv (I64 i))], []⟩ (by kernel_rfl) ?_ ?_
       ·simp [evV, ck, irow]; have hfin : irow (insE out p) = List.take k (List.map (fun i => [I64 i]) out) ++ [I64 p] :: List.drop k (List.take out.length (List.map (fun i => [I64 i]) out)) := by
         rw [irow_ins, ← hke]; unfold irow; rw [List.take_of_length_le (l := List.map (fun i => [I64 i]) out) (i := out.length) (by simp)]
        have hfin2 : List.map (fun i => [I64 i]) (insE out p) = List.take k (List.map (fun i => [I64 i]) out) ++ [I64 p] :: List.drop k (List.take out.length (List.map (fun i => [I64 i]) out)) := hfin; and_intros
        all_goals first
         | omega
         | exact Weak.to (by simp [evV, hfin, hfin2]) rfl (by simp) (by simp [evV]) (by simp)
       ·simp; exact ⟨i + 1, by (try dsimp only); omega, by (try dsimp only); omega, Weak.to (by simp [hw, hst, evV, irow]) rfl (by simp) (by simp [evV]) (by simp)⟩
    ·rw [if_neg (fun h => e h.2)] at hst; simp [evV, evR, c, hx, d]; refine CallG.intro (r := .pv (I64 (lastTo l p l.length))) (fun _ => hr) ?_; simp [e]; exact ⟨i + 1, by (try dsimp only); omega, by (try dsimp only); omega, Weak.to (by simp [hw, hst, evV]) rfl (by simp) (by simp [evV]) (by simp)⟩
   ·rw [if_neg (fun h => d h.1)] at hst; simp [evV, evR, c, hx, d]; refine CallG.intro (r := .pv (I64 0)) (fun h => h.elim) ?_; simp; exact ⟨i + 1, by (try dsimp only); omega, by (try dsimp only); omega, Weak.to (by simp [hw, hst, evV]) rfl (by simp) (by simp [evV]) (by simp)⟩
  ·have : i = l.length := by omega
   subst this; simp [evV]
end Go.AX
