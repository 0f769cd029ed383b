/-
  Contracts: arenas that are only read; what other literals a reason has.
  Contracts: the asker of what is deeply left over.
  Contracts: what is deeply left over; what is a part of what.
-/
import Derived.Test.YtklaffmpfmpffaaGreatS11AxGlI
import Derived.Test.YtklaffmpfmpffaaGreatAxBe
import Derived.Test.YtklaffmpfmpffaaGreatS11AxMovS
namespace Go.AX
open Go.Proofs
set_option linter.unusedSimpArgs false

def arR (A : Ar) : List PV := [.seq false 1 (irow A.row), .amap false (mapE fI A.hd)]
abbrev arP (A : Ar) : PV := .iptr 2 [arR A] 0 0
@[simp] theorem oldR_irow : ∀ l : List Int, oldR (irow l)
  | [] => trivial
  | _ :: l => ⟨⟨trivial, trivial⟩, oldR_irow l⟩
@[simp] theorem oldR_mkR : ∀ l : List Mk, oldR (l.map mkR)
  | [] => trivial
  | _ :: l => ⟨⟨trivial, trivial, trivial, trivial, trivial⟩, oldR_mkR l⟩
theorem frz_ar0 {h : List (List SV)} {b : Nat} {A : Ar} (hb : h[b]? = some (arB A)) (n : Nat) : frzP h (n + 1) b 0 = arP A := by
  obtain ⟨hlt, hb'⟩ := List.getElem?_eq_some_iff.1 hb
  simp [frzP, hlt, hb', arB, arR, frzC]
@[simp] theorem mapE_cons (k v : Int) (l : List (Int × Int)) : mapE fI ((k, v) :: l) = (k, I64 v) :: mapE fI l := rfl
theorem amadeF_ok (A : Ar) (h0 : A.hd ≠ []) : APure Tryz.prog 133 [arP A] (fun r => r = .pv (BL true)) := by
  refine apure1 hmo Tryz.func133 (by kernel_rfl) rfl rfl (by kernel_rfl) (Nat.le_of_ble_eq_true rfl) ?_
  obtain ⟨row, hd⟩ := A
  cases hd with
  | nil => exact absurd rfl h0
  | cons x hd =>
    obtain ⟨k, v⟩ := x
    simp [arP, arR]
theorem aisF_ok (A : Ar) (h0 : A.hd ≠ []) (q : Int) : APure Tryz.prog 141 [arP A, I64 q] (fun r => r = .pv (BL (isA A q))) := by
  refine apure1 hmo Tryz.func141 (by kernel_rfl) rfl rfl (by kernel_rfl) (Nat.le_of_ble_eq_true rfl) ?_
  have hm := amadeF_ok A h0
  simp only [arP, arR] at hm
  simp [arP, arR]
  refine CallK.intro hm (by simp) ?_
  simp [isA]
set_option maxRecDepth 8000 in
theorem aviewF_ok (h : List (List SV)) (A : Ar) (p n : Nat) (ha : AtOk A p n) (hl : A.row.length ≤ 1000000000) : AMut Tryz.prog 144 [arP A, I64 p] h (fun r h' => h' = h ∧ r = .pv (.seq false 1 (irow (partA' A p n)))) := by
  refine amutXP [] [.tmp 4] hmo Tryz.func144 (by kernel_rfl) rfl rfl (by kernel_rfl) (Nat.le_of_ble_eq_true rfl) ?_
  obtain ⟨a1, a2⟩ := ha
  have h1 : p + 1 < A.row.length := by omega
  have h2 : A.row[p + 1] = (n : Int) := by rw [← a2, List.getD_eq_getElem?_getD, List.getElem?_eq_getElem h1]; rfl
  have w1 : w64 ((p : Int) + 1) = ((p + 1 : Nat) : Int) := by rw [w64_id (by omega) (by omega)]; omega
  have w3 : w64 ((p : Int) + 3) = ((p + 3 : Nat) : Int) := by rw [w64_id (by omega) (by omega)]; omega
  have w4 : w64 ((p : Int) + 3 + n) = (p : Int) + 3 + n := w64_id (by omega) (by omega)
  have hrw : List.drop (p + 3) (List.take (p + 3 + n) (irow A.row)) = irow (partA' A p n) := by
    unfold irow partA'
    rw [← List.map_take, ← List.map_drop, List.drop_take]
    congr 3; omega
  have t1 : ((p : Int) + 3).toNat = p + 3 := by omega
  have t2 : ((p : Int) + 3 + n).toNat = p + 3 + n := by omega
  simp [arP, arR, w1, w3, w4, h1, h2, t1, t2, hrw, retXP]
  try omega
def litsA (A : Ar) (q : Int) : List Int := if isA A q = true then partA' A q.toNat (A.row.getD (q.toNat + 1) 0).toNat else []
def ArOk (A : Ar) : Prop := ∀ q : Int, isA A q = true → ∃ p n : Nat, q = (p : Int) ∧ AtOk A p n
set_option maxRecDepth 8000 in
theorem alitsF_ok (A : Ar) (h0 : A.hd ≠ []) (hk : ArOk A) (hl : A.row.length ≤ 1000000) (q : Int) : APure Tryz.prog 86 [arP A, I64 q] (fun r => r = .own true 1 (irow (litsA A q))) := by
  refine APure.own0 (R := fun r => r = .own true 1 (irow (litsA A q)) ∨ (litsA A q = [] ∧ r = .pv (.lit (.slice none 0 0)))) ?_ (fun r h => h.imp id fun ⟨e1, e2⟩ => ⟨e2, true, 1, by rw [e1]; rfl⟩)
  refine apure1 hmo Tryz.func86 (by kernel_rfl) rfl rfl (by kernel_rfl) (Nat.le_of_ble_eq_true rfl) ?_
  have hi := aisF_ok A h0 q
  simp only [arP, arR] at hi
  simp [arP, arR]
  refine CallK.intro hi (by simp) ?_
  by_cases c : isA A q = true
  rotate_left
  · have c' : isA A q = false := by simpa using c
    have hL : litsA A q = [] := if_neg c
    simp [c', hL]
  obtain ⟨p, n, rfl, ha⟩ := hk q c
  have hv := fun h => aviewF_ok h A p n ha (by omega)
  have hL : litsA A p = partA' A p n := by
    unfold litsA
    rw [if_pos c, Int.toNat_natCast, ha.num, Int.toNat_natCast]
  obtain ⟨a1, a2⟩ := ha
  have h1 : p + 1 < A.row.length := by omega
  have h2 : A.row[p + 1] = (n : Int) := by rw [← a2, List.getD_eq_getElem?_getD, List.getElem?_eq_getElem h1]; rfl
  have w1 : w64 ((p : Int) + 1) = ((p + 1 : Nat) : Int) := by rw [w64_id (by omega) (by omega)]; omega
  have hpl : (partA' A p n).length = n := by unfold partA'; rw [List.length_take, List.length_drop]; omega
  have hpt : (irow (partA' A p n)).take n = irow (partA' A p n) := List.take_of_length_le (by simp [hpl])
  rw [hL]
  generalize partA' A p n = y at *
  simp only [arP, arR] at hv
  simp [c, w1, h1, h2, arR]
  refine ⟨by omega, by omega, ?_⟩
  refine CallK.introM (hv _) (by simp) ?_
  rintro _ _ ⟨rfl, rfl⟩
  simp [hpl, hpt]
theorem litsA_len (A : Ar) (hk : ArOk A) (q : Int) : (litsA A q).length ≤ A.row.length := by
  unfold litsA
  split
  · unfold partA'; rw [List.length_take, List.length_drop]; omega
  · simp
def lowS (T : Tr) (l x : Int) : Bool := decide (x = w64 (-l)) || decide ((ofT T (litV x)).1.lev = 0)
def othB (A : Ar) (T : Tr) (l : Int) : Bool := !(decide (0 ≤ valT T l) || decide ((ofT T (litV l)).1.rea < 0) || !hasS (litsA A (ofT T (litV l)).1.rea) (w64 (-l)))
def othL (A : Ar) (T : Tr) (l : Int) : List Int := if othB A T l = true then (litsA A (ofT T (litV l)).1.rea).filter fun x => !lowS T l x else []
set_option maxRecDepth 8000 in
theorem low_ok (T : Tr) (ht : T.ok) (l x : Int) : APure Tryz.prog 205 [I64 x, .iptr 1 [[I64 l]] 0 0, .iptr 1 [[trP T]] 0 0] (fun r => r = .pv (BL (lowS T l x))) := by
  refine apure1 hmo Tryz.func205 (by kernel_rfl) rfl rfl (by kernel_rfl) (Nat.le_of_ble_eq_true rfl) ?_
  have hv := tlevel_ok T (litV x) ht
  simp only [trP, trR] at hv
  unfold lowS
  by_cases c : x = w64 (-l)
  · simp [trP, trR, c]
    refine CallQ.intro (fun h : False => h.elim) (r := .pv (I64 0)) (by simp) ?_
    simp [trR]
    refine CallQ.intro (fun h : False => h.elim) (r := .pv (I64 0)) (by simp) ?_
    simp
  · simp [trP, trR, c]
    refine CallQ.intro (fun _ => litVar_ok x) (by simp) ?_
    simp [trR]
    refine CallQ.intro (fun _ => hv) (by simp) ?_
    simp
set_option maxRecDepth 16000 in
theorem others_ok (A : Ar) (T : Tr) (l : Int) (ht : T.ok) (hk : ArOk A) (hl : A.row.length ≤ 1000000) (h0 : 0 ≤ (ofT T (litV l)).1.rea → A.hd ≠ []) : APure Tryz.prog 158 [arP A, trP T, I64 l] (fun r => r = .pv (.tup [.seq true 1 (irow (othL A T l)), BL (othB A T l)])) := by
  refine APure.wk (R := fun r => ∃ x, r = .pv x ∧ wkP x (.tup [.seq true 1 (irow (othL A T l)), BL (othB A T l)])) ?_ (fun r ⟨x, e, h⟩ => ⟨x, _, e, h, rfl⟩)
  refine apureX [] [.tmp 6, .tmp 7] hmo Tryz.func158 (by kernel_rfl) rfl rfl (by kernel_rfl) (Nat.le_of_ble_eq_true rfl) ?_
  have hr := treason_ok T (litV l) ht
  have hv := tvalue_ok T l ht
  have hL := fun h => alitsF_ok A h hk hl (ofT T (litV l)).1.rea
  have hlow := fun x => low_ok T ht l x
  simp only [trP, trR] at hr hv
  simp only [arP, arR] at hL
  simp [arP, arR, trP, trR]
  refine CallQ0.intro (litVar_ok l) (by simp) ?_
  simp [trR]
  refine CallQ0.intro hr (by simp) ?_
  simp [trR]
  refine CallQ0.intro hv (by simp) ?_
  have hB : othB A T l = !(decide (0 ≤ valT T l) || decide ((ofT T (litV l)).1.rea < 0) || !hasS (litsA A (ofT T (litV l)).1.rea) (w64 (-l))) := rfl
  have hO : othL A T l = if othB A T l = true then (litsA A (ofT T (litV l)).1.rea).filter fun x => !lowS T l x else [] := rfl
  have hla := litsA_len A hk (ofT T (litV l)).1.rea
  generalize (ofT T (litV l)).1.rea = why at *
  by_cases c1 : 0 ≤ valT T l
  · have hB' : othB A T l = false := by rw [hB]; simp [c1]
    rw [hB'] at hO
    simp only [Bool.false_eq_true, if_false] at hO
    simp [c1, hB', hO]
    refine CallQ.intro (fun h : False => h.elim) (r := .pv (.seq true 1 [])) (by simp) ?_
    simp
    refine CallQ.intro (fun h : False => h.elim) (r := .pv (BL false)) (by simp) ?_
    simp [wkP, wkPL, irow]
  by_cases c2 : why < 0
  · have hB' : othB A T l = false := by rw [hB]; simp [c2]
    rw [hB'] at hO
    simp only [Bool.false_eq_true, if_false] at hO
    simp [c1, c2, hB', hO]
    refine CallQ.intro (fun h : False => h.elim) (r := .pv (.seq true 1 [])) (by simp) ?_
    simp
    refine CallQ.intro (fun h : False => h.elim) (r := .pv (BL false)) (by simp) ?_
    simp [wkP, wkPL, irow]
  have hL := hL (h0 (by omega))
  simp [c1, c2]
  refine CallQ.intro (fun _ => hL) (by simp) ?_
  simp
  refine CallQ.intro (fun _ => has_ok _ (w64 (-l)) (by omega)) (by simp) ?_
  cases c3 : hasS (litsA A why) (w64 (-l))
  · have hB' : othB A T l = false := by rw [hB]; simp [c3]
    rw [hB'] at hO
    simp only [Bool.false_eq_true, if_false] at hO
    simp [hB', hO, wkP, wkPL, irow]
  · have hB' : othB A T l = true := by rw [hB]; simp [c1, c2, c3]
    rw [hB'] at hO
    simp only [if_true] at hO
    simp [hB', trR, arR]
    refine CallK.intro hL (by simp) ?_
    generalize litsA A why = y at *
    have hD := deleteF_ok y (by omega) 205 [.iptr 1 [[I64 l]] 0 0, .iptr 1 [[trP T]] 0 0] (lowS T l) (fun r => by simp [trP, trR]) rfl (fun k => by simp [trP, trR]) (by simp [trP, trR, PV.old, oldL, oldR]) (fun x _ => hlow x)
    simp
    refine CallK.introX (CallX.introS (o := .slot 34) (lo := 0) (hi := y.length) hD (by simp) rfl rfl (by simp) (by simp) rfl (by simp; rw [List.take_of_length_le (by simp)]; rfl) (belowR_irow 0 y) (by simp) (by simp [trP, trR, frzP]) ?_)
    rintro k rows' ⟨rfl, rfl⟩ _ _
    have hd1 : List.drop y.length (irow y) = [] := List.drop_eq_nil_of_le (by simp)
    have hd2 : ∀ X, List.take (delS (lowS T l) y).length (intsB (delS (lowS T l) y ++ X)) = irow (delS (lowS T l) y) := fun X => by
      unfold intsB; rw [List.map_append, List.take_left' (by simp)]; rfl
    have hO' : delS (lowS T l) y = othL A T l := hO.symm
    simp [hd1, hd2, hO', wkP, wkPL]
    rw [hO'] at hd2
    exact hd2 _
def selfS (A : Ar) (T : Tr) (lits : List Int) (l : Int) : Bool := othB A T l && !((othL A T l).any fun x => decide (x = l) || !decide (x ∈ lits))
theorem selfM_ok (lits : List Int) (hl : lits.length ≤ 1000000) (l x : Int) : APure Tryz.prog 159 [I64 x, .iptr 1 [[I64 l]] 0 0, .iptr 1 [[.seq false 1 (irow lits)]] 0 0] (fun r => r = .pv (BL (decide (x = l) || !decide (x ∈ lits)))) := by
  refine apure1 hmo Tryz.func159 (by kernel_rfl) rfl rfl (by kernel_rfl) (Nat.le_of_ble_eq_true rfl) ?_
  by_cases c : x = l
  · simp [c]
    refine CallG.intro (fun h : False => h.elim) (r := .pv (BL false)) (by simp) ?_
    simp
  · simp [c]
    refine CallG.intro (fun _ => contains_ok lits x (by omega)) (by simp) ?_
    simp
theorem othL_len (A : Ar) (T : Tr) (l : Int) (hk : ArOk A) : (othL A T l).length ≤ A.row.length := by
  unfold othL
  split
  · exact Nat.le_trans (List.length_filter_le _ _) (litsA_len A hk _)
  · simp
set_option maxRecDepth 16000 in
theorem self_ok (A : Ar) (T : Tr) (lits : List Int) (l : Int) (hn : lits.length ≤ 1000000) (ht : T.ok) (hk : ArOk A) (hl : A.row.length ≤ 1000000) (h0 : 0 ≤ (ofT T (litV l)).1.rea → A.hd ≠ []) : APure Tryz.prog 102 [arP A, trP T, .seq false 1 (irow lits), I64 l] (fun r => r = .pv (BL (selfS A T lits l))) := by
  refine apure1 hmo Tryz.func102 (by kernel_rfl) rfl rfl (by kernel_rfl) (Nat.le_of_ble_eq_true rfl) ?_
  have ho := others_ok A T l ht hk hl h0
  have hol := othL_len A T l hk
  have hS : selfS A T lits l = (othB A T l && !((othL A T l).any fun x => decide (x = l) || !decide (x ∈ lits))) := rfl
  have hc := containsF_ok (othL A T l) (by omega) 159 [.iptr 1 [[I64 l]] 0 0, .iptr 1 [[.seq false 1 (irow lits)]] 0 0] (fun x => decide (x = l) || !decide (x ∈ lits)) (fun r => by simp) rfl (fun k => by simp) (fun x _ => selfM_ok lits hn l x)
  simp only [arP, arR, trP, trR] at ho
  simp [arP, arR, trP, trR]
  refine CallK.intro ho (by simp) ?_
  simp [frzP]
  refine CallG.intro (fun _ => hc) (by simp) ?_
  rw [hS]
  cases othB A T l <;> simp
end Go.AX

namespace Go.AX
open Go.Proofs
set_option linter.unusedSimpArgs false

@[simp] theorem z_fn73 : zeroL Tryz.prog 73 = some [.lit .nilFunc] := by kernel_rfl
def askF (n : Nat) : PV := .fn (.func 161) [] [.ptr (n + 1) 0, .ptr (n + 3) 0, .ptr n 0, .ptr (n + 2) 0, .ptr (n + 4) 0]
def askB (A : Ar) (T : Tr) (lits : List Int) (m : List (Int × Int)) (n : Nat) : List (List SV) := [[.pv (arP A)], [.pv (trP T)], [.pv (.seq false 1 (irow lits))], [.omap true (mapE fI m)], [.pv (askF n)]]
set_option maxRecDepth 8000 in
theorem asker_ok (h : List (List SV)) (A : Ar) (T : Tr) (lits : List Int) : AMut Tryz.prog 105 [arP A, trP T, .seq false 1 (irow lits)] h (fun r h' => h' = h ++ askB A T lits [] h.length ∧ r = .pv (askF h.length)) := by
  refine amutX [] [.tmp 6] hmo Tryz.func105 (by kernel_rfl) rfl rfl (by kernel_rfl) (Nat.le_of_ble_eq_true rfl) ?_
  simp [arP, arR, trP, trR, askB, askF]
  rfl
def plaT (T : Tr) (l : Int) : Int := (ofT T (litV l)).1.pla
def stanS (T : Tr) (lits : List Int) (l x : Int) : Bool := !decide (x = l) && (decide (x ∈ lits) && decide (plaT T x < plaT T l))
def deepF (A : Ar) (T : Tr) (lits : List Int) : Nat → Int → Bool
  | 0, _ => false
  | k + 1, l => othB A T l && (othL A T l).all fun x => stanS T lits l x || (decide (0 ≤ plaT T x ∧ plaT T x < plaT T l) && deepF A T lits k x)
theorem deepF_eq (A : Ar) (T : Tr) (lits : List Int) : ∀ (k k' : Nat) (l : Int), (plaT T l).toNat < k → (plaT T l).toNat < k' → deepF A T lits k l = deepF A T lits k' l
  | 0, _, _, h, _ => by omega
  | _ + 1, 0, _, _, h => by omega
  | k + 1, k' + 1, l, h, h' => by
    have e : (fun x => stanS T lits l x || (decide (0 ≤ plaT T x ∧ plaT T x < plaT T l) && deepF A T lits k x)) = (fun x => stanS T lits l x || (decide (0 ≤ plaT T x ∧ plaT T x < plaT T l) && deepF A T lits k' x)) := by
      funext x
      by_cases c : 0 ≤ plaT T x ∧ plaT T x < plaT T l
      · rw [deepF_eq A T lits k k' x (by omega) (by omega)]
      · rw [decide_eq_false c, Bool.false_and, Bool.false_and]
    rw [deepF, deepF, e]
def deepV (A : Ar) (T : Tr) (lits : List Int) (l : Int) : Bool := deepF A T lits ((plaT T l).toNat + 1) l
def deepP (A : Ar) (T : Tr) (lits : List Int) (l x : Int) : Bool := stanS T lits l x || (decide (0 ≤ plaT T x ∧ plaT T x < plaT T l) && deepV A T lits x)
theorem deepV_step (A : Ar) (T : Tr) (lits : List Int) (l : Int) : deepV A T lits l = (othB A T l && (othL A T l).all (deepP A T lits l)) := by
  have e : (fun x => stanS T lits l x || (decide (0 ≤ plaT T x ∧ plaT T x < plaT T l) && deepF A T lits (plaT T l).toNat x)) = deepP A T lits l := by
    funext x
    unfold deepP deepV
    by_cases c : 0 ≤ plaT T x ∧ plaT T x < plaT T l
    · rw [deepF_eq A T lits (plaT T l).toNat ((plaT T x).toNat + 1) x (by omega) (by omega)]
    · rw [decide_eq_false c, Bool.false_and, Bool.false_and]
  unfold deepV
  rw [deepF, e]
def deepB (A : Ar) (T : Tr) (lits : List Int) (l before : Int) : Bool := decide (0 ≤ plaT T l ∧ plaT T l < before) && deepV A T lits l
def MemoOk (A : Ar) (T : Tr) (lits : List Int) (m : List (Int × Int)) : Prop := ∀ q : Int, (lk m q).getD 0 = 0 ∨ ((lk m q).getD 0 = 1 ∧ deepV A T lits q = true) ∨ ((lk m q).getD 0 = 2 ∧ deepV A T lits q = false)
def deepSch : Sch :=
  let E : Sch := .fork [(14, .take 16 (.take 17 (.take 18 (.take 20 (.take 21 (.fork [(19, .fork [(22, .take 23 (.take 24 (.fork [(25, .done)])))])]))))))]
  .take 0 (.take 1 (.take 2 (.take 3 (.take 4 (.take 5 (.take 7 (.fork [(6, .fork [(8, .take 9 (.take 10 (.take 12 (.take 15 (.fork [(11, .fork [(13, E)]), (13, .fork [(11, E)])])))))])])))))))
structure AskAt (A : Ar) (T : Tr) (lits : List Int) (m : List (Int × Int)) (n : Nat) (h : List (List SV)) : Prop where
  b0 : h[n]? = some [.pv (arP A)]
  b1 : h[n + 1]? = some [.pv (trP T)]
  b2 : h[n + 2]? = some [.pv (.seq false 1 (irow lits))]
  b3 : h[n + 3]? = some [.omap true (mapE fI m)]
  b4 : h[n + 4]? = some [.pv (askF n)]
theorem AskAt.set {A : Ar} {T : Tr} {lits : List Int} {m m' : List (Int × Int)} {n : Nat} {h : List (List SV)} (a : AskAt A T lits m n h) : AskAt A T lits m' n (h.set (n + 3) [.omap true (mapE fI m')]) where
  b0 := by rw [List.getElem?_set_ne (by omega)]; exact a.b0
  b1 := by rw [List.getElem?_set_ne (by omega)]; exact a.b1
  b2 := by rw [List.getElem?_set_ne (by omega)]; exact a.b2
  b3 := by rw [List.getElem?_set_self (List.getElem?_eq_some_iff.1 a.b3).1]
  b4 := by rw [List.getElem?_set_ne (by omega)]; exact a.b4
structure ShOk (A : Ar) (T : Tr) (lits : List Int) : Prop where
  tr : T.ok
  ar : ArOk A
  len : A.row.length ≤ 1000000
  few : lits.length ≤ 1000000
  hd : ∀ v, 0 ≤ (ofT T v).1.rea → A.hd ≠ []
set_option maxRecDepth 16000 in
theorem deepN_ok (A : Ar) (T : Tr) (lits : List Int) (n : Nat) (hs : ShOk A T lits) (l before : Int) (m : List (Int × Int)) (h : List (List SV)) (hN : ¬ (0 ≤ plaT T l ∧ plaT T l < before)) (ha : AskAt A T lits m n h) (hm : MemoOk A T lits m) :
    AMut Tryz.prog 161 [I64 l, I64 before, .ptr (n + 1) 0, .ptr (n + 3) 0, .ptr n 0, .ptr (n + 2) 0, .ptr (n + 4) 0] h (fun r h' => ∃ m', MemoOk A T lits m' ∧ h' = h.set (n + 3) [.omap true (mapE fI m')] ∧ r = .pv (BL (deepB A T lits l before))) := by
  refine amutX [10] [.tmp 9] hmo Tryz.func161 (by kernel_rfl) rfl rfl (by kernel_rfl) (Nat.le_of_ble_eq_true rfl) ?_
  have hpl := tplace_ok T (litV l) hs.tr
  have hpd : (ofT T (litV l)).1.pla = plaT T l := rfl
  obtain ⟨n0, g0⟩ := List.getElem?_eq_some_iff.1 ha.b0
  obtain ⟨n1, g1⟩ := List.getElem?_eq_some_iff.1 ha.b1
  obtain ⟨n2, g2⟩ := List.getElem?_eq_some_iff.1 ha.b2
  obtain ⟨n3, g3⟩ := List.getElem?_eq_some_iff.1 ha.b3
  obtain ⟨n4, g4⟩ := List.getElem?_eq_some_iff.1 ha.b4
  rw [hpd] at hpl
  simp only [trP, trR] at hpl
  simp [n1, g1, trP, trR]
  refine CallQ0.intro (litVar_ok l) (by simp) ?_
  simp [n1, g1, trP, trR]
  refine CallQ0.intro hpl (by simp) ?_
  by_cases c1 : plaT T l < 0
  · have hB : deepB A T lits l before = false := by unfold deepB; rw [decide_eq_false (by omega), Bool.false_and]
    simp [c1, hB]
    exact ⟨m, hm, (set_sameT ha.b3).symm⟩
  by_cases c2 : before ≤ plaT T l
  · have hB : deepB A T lits l before = false := by unfold deepB; rw [decide_eq_false (by omega), Bool.false_and]
    simp [c1, c2, hB]
    exact ⟨m, hm, (set_sameT ha.b3).symm⟩
  exact absurd ⟨by omega, by omega⟩ hN
set_option maxRecDepth 16000 in
theorem deep_ok (A : Ar) (T : Tr) (lits : List Int) (n : Nat) (hs : ShOk A T lits) : ∀ (N : Nat) (l before : Int) (m : List (Int × Int)) (h : List (List SV)), (0 ≤ plaT T l → plaT T l < before → plaT T l < N) → AskAt A T lits m n h → MemoOk A T lits m →
    AMut Tryz.prog 161 [I64 l, I64 before, .ptr (n + 1) 0, .ptr (n + 3) 0, .ptr n 0, .ptr (n + 2) 0, .ptr (n + 4) 0] h (fun r h' => ∃ m', MemoOk A T lits m' ∧ h' = h.set (n + 3) [.omap true (mapE fI m')] ∧ r = .pv (BL (deepB A T lits l before))) := by
  intro N
  induction N with
  | zero =>
    intro l before m h hN ha hm
    exact deepN_ok A T lits n hs l before m h (fun c => by have := hN c.1 c.2; omega) ha hm
  | succ N ih =>
    intro l before m h hN ha hm
    refine amutX [10] [.tmp 9] hmo Tryz.func161 (by kernel_rfl) rfl rfl (by kernel_rfl) (Nat.le_of_ble_eq_true rfl) ?_
    have hpl := tplace_ok T (litV l) hs.tr
    have hpd : (ofT T (litV l)).1.pla = plaT T l := rfl
    obtain ⟨n0, g0⟩ := List.getElem?_eq_some_iff.1 ha.b0
    obtain ⟨n1, g1⟩ := List.getElem?_eq_some_iff.1 ha.b1
    obtain ⟨n2, g2⟩ := List.getElem?_eq_some_iff.1 ha.b2
    obtain ⟨n3, g3⟩ := List.getElem?_eq_some_iff.1 ha.b3
    obtain ⟨n4, g4⟩ := List.getElem?_eq_some_iff.1 ha.b4
    rw [hpd] at hpl
    simp only [trP, trR] at hpl
    simp [n1, g1, trP, trR]
    refine CallQ0.intro (litVar_ok l) (by simp) ?_
    simp [n1, g1, trP, trR]
    refine CallQ0.intro hpl (by simp) ?_
    by_cases c1 : plaT T l < 0
    · have hB : deepB A T lits l before = false := by unfold deepB; rw [decide_eq_false (by omega), Bool.false_and]
      simp [c1, hB]
      exact ⟨m, hm, (set_sameT ha.b3).symm⟩
    by_cases c2 : before ≤ plaT T l
    · have hB : deepB A T lits l before = false := by unfold deepB; rw [decide_eq_false (by omega), Bool.false_and]
      simp [c1, c2, hB]
      exact ⟨m, hm, (set_sameT ha.b3).symm⟩
    have hB : deepB A T lits l before = deepV A T lits l := by unfold deepB; rw [decide_eq_true (by omega), Bool.true_and]
    rw [hB]
    have hml := hm l
    by_cases c3 : (lk m l).getD 0 = 0
    rotate_left
    · simp [c1, c2, n3, g3, c3]
      refine ⟨m, hm, (set_sameT ha.b3).symm, ?_⟩
      rcases hml with e | ⟨e, e2⟩ | ⟨e, e2⟩
      · exact absurd e c3
      · rw [e, e2]; rfl
      · rw [e, e2]; rfl
    have hot := others_ok A T l hs.tr hs.ar hs.len (hs.hd _)
    have hol := othL_len A T l hs.ar
    have hst := deepV_step A T lits l
    simp only [arP, arR, trP, trR] at hot
    simp [c1, c2, n0, g0, n1, g1, n3, g3, c3, arP, arR, trP, trR]
    refine CallK.intro hot (by simp) ?_
    simp
    generalize othL A T l = rest at *
    generalize othB A T l = ok at *
    refine ALoop.intro (S := fun (y : Nat × List (Int × Int)) => ⟨[(0, .pv (I64 l)), (1, .pv (I64 before)), (2, .pv (.ptr (n + 1) 0)), (3, .pv (.ptr (n + 3) 0)), (4, .pv (.ptr n 0)), (5, .pv (.ptr (n + 2) 0)), (6, .pv (.ptr (n + 4) 0)), (10, .pv (I64 (plaT T l))), (12, .pv (BL (ok && (rest.take y.1).all (deepP A T lits l)))), (41, .pv (.seq true 1 (irow rest))), (42, .pv (I64 rest.length)), (43, .pv (I64 y.1))], h.set (n + 3) [.omap true (mapE fI y.2)]⟩) (fun y => y.1 ≤ rest.length ∧ MemoOk A T lits y.2) (fun y => rest.length - y.1) (0, m) ?_ ⟨Nat.zero_le _, hm⟩ ?_
    · exact Weak.keep (by simp) (set_sameT ha.b3).symm
    rintro ⟨i, m1⟩ ⟨hi, hm1⟩
    dsimp only at hi hm1
    have ha1 : AskAt A T lits m1 n (h.set (n + 3) [.omap true (mapE fI m1)]) := ha.set
    have hss : ∀ X Y : List SV, (h.set (n + 3) X).set (n + 3) Y = h.set (n + 3) Y := fun X Y => List.set_set ..
    have hHl : (h.set (n + 3) [.omap true (mapE fI m1)]).length = h.length := List.length_set ..
    generalize hH : h.set (n + 3) [.omap true (mapE fI m1)] = H at *
    obtain ⟨k0, f0⟩ := List.getElem?_eq_some_iff.1 ha1.b0
    obtain ⟨k1, f1⟩ := List.getElem?_eq_some_iff.1 ha1.b1
    obtain ⟨k2, f2⟩ := List.getElem?_eq_some_iff.1 ha1.b2
    obtain ⟨k3, f3⟩ := List.getElem?_eq_some_iff.1 ha1.b3
    obtain ⟨k4, f4⟩ := List.getElem?_eq_some_iff.1 ha1.b4
    by_cases ci : i < rest.length
    · have hw2 : w64 ((i : Int) + 1) = ((i + 1 : Nat) : Int) := by
        have := hs.len
        rw [w64_id (by omega) (by omega)]; omega
      have hacc1 : (ok && (rest.take (i + 1)).all (deepP A T lits l)) = ((ok && (rest.take i).all (deepP A T lits l)) && deepP A T lits l rest[i]) := by
        rw [List.take_add_one, List.getElem?_eq_getElem ci, Option.toList_some, List.all_append]
        simp [Bool.and_assoc]
      simp [ci]
      refine AAnyD.one deepSch (by kernel_rfl) ?_
      generalize hacc : (ok && (rest.take i).all (deepP A T lits l)) = acc at *
      cases acc
      · simp [deepSch, ci, k1, f1, k2, f2, k4, f4]
        refine CallG.intro (fun h : False => h.elim) (r := .pv (BL false)) (by simp) ?_
        simp [ci, k1, f1, k2, f2, k4, f4, trP, trR]
        and_intros
        all_goals
          refine CallG.intro (fun h : False => h.elim) (r := .pv (I64 0)) (by simp) ?_
          simp [ci, k1, f1, k2, f2, k4, f4, trP, trR]
          refine CallG.intro (fun h : False => h.elim) (r := .pv (I64 0)) (by simp) ?_
          simp [ci, k1, f1, k2, f2, k4, f4, trP, trR, askF]
          exact ⟨(i + 1, m1), by (try dsimp only); omega, ⟨by (try dsimp only); omega, hm1⟩, Weak.keep (by simp [hw2, hacc1]) (by simp [hH])⟩
      · generalize hxx : rest[i] = x at *
        have hcon := contains_ok lits x (by have := hs.few; omega)
        have hpx := tplace_ok T (litV x) hs.tr
        have hpxd : (ofT T (litV x)).1.pla = plaT T x := rfl
        rw [hpxd] at hpx
        simp only [trP, trR] at hpx
        have hrec := ih x (plaT T l) m1 H (fun h1 h2 => by have := hN (by omega) (by omega); omega) ha1 hm1
        have hP : deepP A T lits l x = (stanS T lits l x || deepB A T lits x (plaT T l)) := rfl
        have hSt : stanS T lits l x = (!decide (x = l) && (decide (x ∈ lits) && decide (plaT T x < plaT T l))) := rfl
        by_cases c5 : x = l
        · have hst0 : stanS T lits l x = false := by rw [hSt]; simp [c5]
          rw [hst0, Bool.false_or] at hP
          rw [c5] at hrec hP hxx hacc1
          rw [hP] at hacc1
          simp [deepSch, ci, k1, f1, k2, f2, k4, f4, hxx, trP, trR, c5]
          refine CallG.intro (fun h : False => h.elim) (r := .pv (BL false)) (by simp) ?_
          simp [ci, k1, f1, k2, f2, k4, f4, hxx, trP, trR]
          and_intros
          all_goals
            refine CallG.intro (fun h : False => h.elim) (r := .pv (I64 0)) (by simp) ?_
            simp [ci, k1, f1, k2, f2, k4, f4, hxx, trP, trR]
            refine CallG.intro (fun h : False => h.elim) (r := .pv (I64 0)) (by simp) ?_
            simp [ci, k1, f1, k2, f2, k4, f4, hxx, trP, trR, askF]
            refine CallB.intro hrec (by trivial) ?_
            rintro _ _ ⟨m2, hm2, rfl, rfl⟩
            simp
            exact ⟨(i + 1, m2), by (try dsimp only); omega, ⟨by (try dsimp only); omega, hm2⟩, Weak.keep (by simp [hw2, hacc1]) (by simp [← hH, hss])⟩
        · by_cases c6 : x ∈ lits
          · by_cases c7 : plaT T x < plaT T l
            · have hst0 : stanS T lits l x = true := by rw [hSt]; simp [c5, c6, c7]
              rw [hst0, Bool.true_or] at hP
              rw [hP] at hacc1
              simp [deepSch, ci, k1, f1, k2, f2, k4, f4, hxx, trP, trR, c5]
              refine CallG.intro (fun _ => hcon) (by simp) ?_
              simp [ci, k1, f1, k2, f2, k4, f4, hxx, trP, trR, c6]
              and_intros
              all_goals
                refine CallG.intro (fun _ => litVar_ok x) (by simp) ?_
                simp [ci, k1, f1, k2, f2, k4, f4, hxx, trP, trR, c6]
                refine CallG.intro (fun _ => hpx) (by simp) ?_
                simp [ci, k1, f1, k2, f2, k4, f4, hxx, trP, trR, askF, c6, c7]
                exact ⟨(i + 1, m1), by (try dsimp only); omega, ⟨by (try dsimp only); omega, hm1⟩, Weak.keep (by simp [hw2, hacc1]) (by simp [hH])⟩
            · have hst0 : stanS T lits l x = false := by rw [hSt]; simp [c7]
              rw [hst0, Bool.false_or] at hP
              rw [hP] at hacc1
              simp [deepSch, ci, k1, f1, k2, f2, k4, f4, hxx, trP, trR, c5]
              refine CallG.intro (fun _ => hcon) (by simp) ?_
              simp [ci, k1, f1, k2, f2, k4, f4, hxx, trP, trR, c6]
              and_intros
              all_goals
                refine CallG.intro (fun _ => litVar_ok x) (by simp) ?_
                simp [ci, k1, f1, k2, f2, k4, f4, hxx, trP, trR, c6]
                refine CallG.intro (fun _ => hpx) (by simp) ?_
                simp [ci, k1, f1, k2, f2, k4, f4, hxx, trP, trR, askF, c6, c7]
                refine CallB.intro hrec (by trivial) ?_
                rintro _ _ ⟨m2, hm2, rfl, rfl⟩
                simp
                exact ⟨(i + 1, m2), by (try dsimp only); omega, ⟨by (try dsimp only); omega, hm2⟩, Weak.keep (by simp [hw2, hacc1]) (by simp [← hH, hss])⟩
          · have hst0 : stanS T lits l x = false := by rw [hSt]; simp [c6]
            rw [hst0, Bool.false_or] at hP
            rw [hP] at hacc1
            simp [deepSch, ci, k1, f1, k2, f2, k4, f4, hxx, trP, trR, c5]
            refine CallG.intro (fun _ => hcon) (by simp) ?_
            simp [ci, k1, f1, k2, f2, k4, f4, hxx, trP, trR, c6]
            and_intros
            all_goals
              refine CallG.intro (fun h : False => h.elim) (r := .pv (I64 0)) (by simp) ?_
              simp [ci, k1, f1, k2, f2, k4, f4, hxx, trP, trR]
              refine CallG.intro (fun h : False => h.elim) (r := .pv (I64 0)) (by simp) ?_
              simp [ci, k1, f1, k2, f2, k4, f4, hxx, trP, trR, askF]
              refine CallB.intro hrec (by trivial) ?_
              rintro _ _ ⟨m2, hm2, rfl, rfl⟩
              simp
              exact ⟨(i + 1, m2), by (try dsimp only); omega, ⟨by (try dsimp only); omega, hm2⟩, Weak.keep (by simp [hw2, hacc1]) (by simp [← hH, hss])⟩
    · have hie : i = rest.length := by omega
      subst hie
      rw [List.take_length, ← hst]
      have hlk2 : ∀ q : Int, lk (pt m1 l 2) q = if l = q then some 2 else lk m1 q := fun q => lk_pt m1 l 2 q
      have hlk1 : ∀ q : Int, lk (pt (pt m1 l 2) l 1) q = if l = q then some 1 else lk (pt m1 l 2) q := fun q => lk_pt (pt m1 l 2) l 1 q
      cases hv : deepV A T lits l
      · simp [k3, f3]
        refine ⟨pt m1 l 2, fun q => ?_, ?_⟩
        · rw [hlk2]
          split
          · rename_i e; subst e; exact .inr (.inr ⟨rfl, hv⟩)
          · exact hm1 q
        · simp [← hH, hss]
      · simp [k3, f3]
        refine ⟨pt (pt m1 l 2) l 1, fun q => ?_, ?_⟩
        · rw [hlk1]
          split
          · rename_i e; subst e; exact .inr (.inl ⟨rfl, hv⟩)
          · rename_i e
            rw [hlk2, if_neg e]; exact hm1 q
        · simp [← hH, hss]
end Go.AX

namespace Go.AX
open Go.Proofs
set_option linter.unusedSimpArgs false

def deepQ (A : Ar) (T : Tr) (lits : List Int) (l : Int) : Bool := deepB A T lits l T.lits.length
theorem askAt_app (h : List (List SV)) (A : Ar) (T : Tr) (lits : List Int) (m : List (Int × Int)) : AskAt A T lits m h.length (h ++ askB A T lits m h.length) where
  b0 := by simp [askB]
  b1 := by simp [askB]
  b2 := by simp [askB]
  b3 := by simp [askB]
  b4 := by simp [askB]
theorem memo_new (A : Ar) (T : Tr) (lits : List Int) : MemoOk A T lits [] := fun q => .inl rfl
set_option maxRecDepth 16000 in
theorem deepE_ok (A : Ar) (T : Tr) (lits : List Int) (l : Int) (hs : ShOk A T lits) (hl : T.lits.length ≤ 1000000) : APure Tryz.prog 103 [arP A, trP T, .seq false 1 (irow lits), I64 l] (fun r => r = .pv (BL (deepQ A T lits l))) := by
  refine apure1 hmo Tryz.func103 (by kernel_rfl) rfl rfl (by kernel_rfl) (Nat.le_of_ble_eq_true rfl) ?_
  have hask := fun h => asker_ok h A T lits
  have hlt := tlits_ok T hl
  simp only [arP, arR, trP, trR] at hask hlt
  simp [arP, arR, trP, trR]
  refine CallK.introM (hask _) (by simp) ?_
  rintro _ _ ⟨rfl, rfl⟩
  simp
  refine CallK.intro hlt (by simp) ?_
  have hat : AskAt A T lits [] 0 (askB A T lits [] 0) := askAt_app [] A T lits []
  have hd := deep_ok A T lits 0 hs T.lits.length l T.lits.length [] (askB A T lits [] 0) (fun _ h => h) hat (memo_new A T lits)
  simp [askF, askB]
  refine CallB.intro hd (by trivial) ?_
  rintro _ _ ⟨m', _, rfl, rfl⟩
  simp [deepQ]
end Go.AX
