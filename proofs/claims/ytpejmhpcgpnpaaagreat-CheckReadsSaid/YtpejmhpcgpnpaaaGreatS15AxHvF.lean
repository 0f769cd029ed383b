/-
  Contracts: what is read of a text, with its formula.
  Contracts: the document's object of lines.
  Contracts: the document's case of a text.
  Contracts: the document's reading of a text.
-/
import Derived.Test.YtpejmhpcgpnpaaaGreatS15AxHuD
import Derived.Test.YtpejmhpcgpnpaaaGreatS15AxEvE
import Derived.Test.YtpejmhpcgpnpaaaGreatS15AxEnU
namespace Go.AX
open Go.Proofs
set_option linter.unusedSimpArgs false
theorem rowsA_len {fin : Nat} : ∀ {n : Nat} {L : List (List Tok)} {acc : List ORow}, (rowsA fin n L acc).2.2 = 0 → (rowsA fin n L acc).1.length = acc.length + n ∧ n ≤ L.length
 | 0, L, acc, _ => ⟨rfl, Nat.zero_le _⟩
 | n + 1, L, acc, h => by
  rw [rowsA] at h ⊢; by_cases c : (lineA fin wRow bz4 (hd L)).2.2 = 0
  ·rw [if_pos c] at h ⊢; obtain ⟨h1, h2⟩ := rowsA_len h; obtain ⟨_, _, t, r, e, _⟩ := lineA_len c; have : L ≠ [] := fun e2 => by subst e2; cases e
   have := List.length_pos_iff.2 this; rw [List.length_tail] at h2; rw [h1, List.length_append]; exact ⟨by simp; omega, by omega⟩
  ·rw [if_neg c] at h; exact absurd h c
theorem takeA_rows {fin : Nat} {L : List (List Tok)} (h : (takeA fin L).e = 0) : (takeA fin L).o.rows.length < L.length ∧ (takeA fin L).n = (takeA fin L).o.rows.length + 1 := by
 unfold takeA at h ⊢; dsimp only at h ⊢; by_cases c1 : (lineA fin wObj bz4 (hd L)).2.2 = 0; rotate_left
 ·rw [if_pos c1] at h; simp only at h; omega
 rw [if_neg (by simpa using c1)] at h ⊢; obtain ⟨_, _, t, r, e, _⟩ := lineA_len c1; have hne : L ≠ [] := fun e2 => by subst e2; cases e
 have hne := List.length_pos_iff.2 hne; generalize lineA fin wObj bz4 (hd L) = LL at h ⊢; by_cases c2 : (rowsA fin (LL.1.getD 3 0).toNat L.tail []).2.2 = 0; rotate_left
 ·rw [if_pos c2] at h; simp only at h; omega
 rw [if_neg (by simpa using c2)] at h ⊢; obtain ⟨h1, h2⟩ := rowsA_len c2; rw [List.length_tail] at h2; split at h
 ·rename_i c3; exact absurd h c3
 ·rename_i c3; rw [if_neg c3]; dsimp only; rw [h1, List.length_nil]; exact ⟨by omega, by omega⟩
theorem caseA_ok {s : ByteArray} (hs : s.size ≤ 1000000) (h : (caseA s).e = 0) : (objChk (caseA s).o).2 = 0 ∧ objR (caseA s).o ∧ (caseA s).o.rows.length ≤ 1000000 ∧ evsOk (caseA s).l := by
 unfold caseA at h ⊢; rw [if_neg (by omega)] at h ⊢; dsimp only at h ⊢; have hTo := takeA_ok (fin := s.size) (L := said (lns s 0 0)); have hTr := takeA_rows (fin := s.size) (L := said (lns s 0 0)); obtain ⟨T, hT⟩ : ∃ T, takeA s.size (said (lns s 0 0)) = T := ⟨_, rfl⟩; rw [hT] at h hTo hTr ⊢; by_cases c1 : T.e = 0; rotate_left
 ·rw [if_pos c1] at h; exact absurd h c1
 rw [if_neg (by simpa using c1)] at h ⊢; obtain ⟨q1, q2, q3, q4, q5, q6⟩ := hTo c1; obtain ⟨k1, k2⟩ := objChk_kd q1 q5 q6; have hev := evsA_ok (kd := T.o.kd) (fin := s.size) k2 (L := (said (lns s 0 0)).drop T.n) (out := []) ⟨Nat.zero_le _, fun j hj => by cases hj⟩; by_cases c2 : (evsA T.o.kd s.size ((said (lns s 0 0)).drop T.n) []).2.2 = 0
 ·rw [if_neg (by simpa using c2)]; have h1 := (lns_lines hs).1; have h2 : (said (lns s 0 0)).length ≤ (lns s 0 0).length := List.length_filter_le _ _; have h3 := (hTr c1).1; refine ⟨q1, ⟨⟨?_, ?_⟩, ⟨?_, ?_⟩⟩, by dsimp only; omega, (hev c2).1⟩ <;> dsimp only <;> omega
 ·rw [if_pos c2] at h; exact absurd h c2
structure RdR where
  o : Obj
  l : List Ev
  ops : List Op5
  v : Int
  cs : List (List Int)
  at_ : Nat
  e : Int
  big : Bool
def readA (s : ByteArray) : RdR :=
 let k := caseA s
 if k.e ≠ 0 then ⟨o0, [], [], 0, [], k.at_, k.e, false⟩ else
 let ops := (ofOpen k.l k.l.length).1
 if failE k.o ops ≠ 0 then ⟨k.o, k.l, ops, 0, [], 0, failE k.o ops, true⟩ else ⟨k.o, k.l, ops, varsN ops.length k.o.st, encC k.o ops, 0, 0, false⟩
@[simp] theorem nwR_rrowS : ∀ l : List ORow, nwR (l.map rrow)
 | [] => trivial
 | _ :: l => ⟨⟨trivial, trivial, trivial, trivial, trivial⟩, nwR_rrowS l⟩
@[simp] theorem nwR_orowS : ∀ l : List Op5, nwR (l.map orow)
 | [] => trivial
 | _ :: l => ⟨⟨trivial, trivial, trivial, trivial, trivial, trivial⟩, nwR_orowS l⟩
def readP (r : RdR) : PV := .agg [I64 r.o.st, I64 r.o.kd, I64 r.o.ini, .seq true 4 (r.o.rows.map rrow), evVT r.l, .seq true 5 (r.ops.map orow), I64 r.v, .seq true 1 (r.cs.map crow), I64 r.at_, I64 r.e, BL r.big]
theorem ops_len {l : List Ev} (h : evsOk l) : (ofOpen l l.length).1.length ≤ 10000 := Nat.le_trans (of_len _) h.1
set_option maxRecDepth 16000 in
theorem reading_ok (s : ByteArray) (hs : s.size ≤ 1000000) : APure Tryz.prog 23 [ST s] (fun r => r = .pv (readP (readA s))) := by
 refine (AMut.pure (R := fun r => r = .pv (readP (readA s))) ?_); refine AMut.mono (R := fun r h' => h' = [] ∧ r = .pv (readP (readA s))) ?_ fun r h' h => ⟨_, h.2, rfl⟩; refine amutXW [] [.cell 2 _] hmo Tryz.func23 ?_; have hP := parseC_ok s hs; have hO := caseA_ok hs; obtain ⟨R, hR⟩ : ∃ R, readA s = R := ⟨_, rfl⟩; rw [hR]; unfold readA at hR; dsimp only at hR; obtain ⟨k, hk⟩ : ∃ k, caseA s = k := ⟨_, rfl⟩; rw [hk] at hR hP hO; simp; refine CallK.intro hP ?_ (by simp [caseY, caseP, evVT]); by_cases c1 : k.e = 0; rotate_left
 ·rw [if_pos c1] at hR; simp [caseY, caseP, c1, ← hR, readP, o0, evVT]
 rw [if_neg (by simpa using c1)] at hR; obtain ⟨q1, q2, q3, q4⟩ := hO c1; have hof := of_ok k.l (by have := q4.1; omega); rw [evsOk_chk q4] at hof; have hen := encode_ok k.o (ofOpen k.l k.l.length).1 q2 (by omega) (by have := ops_len q4; omega); simp only [evV, ofV, evsOk_chk q4, if_true] at hof; simp only [robj, ovec] at hen; generalize (ofOpen k.l k.l.length).1 = ops at *; simp [caseY, caseP, c1, evVT]; refine CallK.intro hof ?_; simp; refine CallK.intro hen ?_ (by simp [encPV]; split <;> simp); by_cases c2 : failE k.o ops = 0
 ·rw [if_neg (by simpa using c2)] at hR; simp [encPV, c2, ← hR, readP, evVT]
 ·rw [if_pos c2] at hR; simp [encPV, c2, ← hR, readP, evVT]
def fmlSch : Sch :=
 let s0 : Sch := .fork [(4, .take 5 .done)]
 let s1 : Sch := .fork [(3, .take 5 .done)]
 let s2 : Sch := .fork [(3, s0), (4, s1)]
 let s3 : Sch := .fork [(1, s0)]
 let s4 : Sch := .fork [(1, s2), (3, s3)]
 .take 0 (.take 2 s4)
set_option maxRecDepth 16000 in
theorem formula_ok (s : ByteArray) (hs : s.size ≤ 1000000) : APure Tryz.prog 14 [ST s] (fun r => r = .pv (.tup [.agg [I64 (readA s).v, .seq true 1 ((readA s).cs.map crow)], I64 (readA s).e])) := by
 refine apureX [2] [.cell 2 _, .tmp 3] hmo Tryz.func14 ?_; have hr := reading_ok s hs; generalize readA s = R at *; simp; refine CallK.intro hr ?_ (by simp [readP, evVT]); simp [readP, evVT]; refine AAnyD.one fmlSch (by kernel_rfl) ?_; simp [fmlSch]
theorem hd_drop (L : List (List Tok)) (i : Nat) : hd (L.drop i) = L.getD i [] := by
 unfold hd; rw [List.head?_drop, List.getD_eq_getElem?_getD]
set_option maxRecDepth 16000 in
theorem refLine_ok (L : List (List Tok)) (i : Nat) (w : ByteArray) (fin : Nat) (hL : linesOk L) : APure Tryz.prog 120 [.seq false 1 (L.map lnF), I64 i, ST w, I64 fin] (fun r => r = .pv (numsPV (lineA fin w bz4 (hd (L.drop i))))) := by
 refine apureX [] [.tmp 8, .tmp 9, .tmp 10] hmo Tryz.func120 ?_; rw [hd_drop]; by_cases h : i < L.length
 ·have h' : ¬ (L.length : Int) ≤ i := by omega
  obtain ⟨l, hl⟩ : ∃ l, L[i] = l := ⟨_, rfl⟩; have hlg : L.getD i [] = l := by rw [List.getD_eq_getElem?_getD, List.getElem?_eq_getElem h, hl]; rfl
  obtain ⟨h1, h2⟩ := hL.2 l (by rw [← hl]; exact List.getElem_mem _); have hN := refNumbers_ok l w bz4 fin h1 (by decide) h2; rw [hlg]; generalize lineA fin w bz4 l = X at *; simp [h, h', hl, lnF]; refine CallK.intro hN ?_ (by simp [numsPV]; split <;> simp); by_cases c : X.2.2 = 0 <;> simp [numsPV, c]
 ·have h' : (L.length : Int) ≤ i := by omega
  have hlg : L.getD i [] = [] := by rw [List.getD_eq_getElem?_getD, List.getElem?_eq_none (by omega)]; rfl
  rw [hlg]; simp [h', lineA, numsPV, eShort]
def takeZ (k : TakeR) : PV := .tup [robjT k.o, I64 k.n, I64 k.at_, I64 k.e]
def rtkSch14 : Sch :=
 let s0 : Sch := .fork [(10, .take 11 (.take 12 (.take 13 .done)))]
 let s1 : Sch := .fork [(8, .take 12 (.take 13 .done))]
 let s2 : Sch := .fork [(8, s0), (10, .take 11 s1)]
 let s3 : Sch := .fork [(5, .take 6 (.take 7 s1))]
 let s4 : Sch := .fork [(5, .take 6 (.take 7 s2)), (10, .take 11 s3)]
 let s5 : Sch := .fork [(0, s0)]
 let s6 : Sch := .fork [(0, s2), (8, s5)]
 let s7 : Sch := .fork [(0, s4), (5, .take 6 (.take 7 s6))]
 .take 1 (.take 2 (.take 3 (.take 4 (.take 9 s7))))
def rtkSch15 : Sch :=
 let s0 : Sch := .fork [(6, .take 7 (.take 8 (.take 9 .done)))]
 let s1 : Sch := .fork [(3, .take 4 (.take 7 (.take 8 (.take 9 .done))))]
 let s2 : Sch := .fork [(3, .take 4 s0), (6, s1)]
 let s3 : Sch := .fork [(0, s0)]
 let s4 : Sch := .fork [(0, s2), (3, .take 4 s3)]
 .take 1 (.take 2 (.take 5 s4))
set_option maxRecDepth 16000 in
theorem refTake_ok (L : List (List Tok)) (fin : Nat) (hL : linesOk L) (hne : ∀ l ∈ L, l ≠ []) : APure Tryz.prog 53 [.seq false 1 (L.map lnF), I64 fin] (fun r => r = .pv (takeZ (takeA fin L))) := by
 refine (AMut.pure (R := fun r => r = .pv (takeZ (takeA fin L))) ?_); refine AMut.mono (R := fun r h' => h' = [] ∧ r = .pv (takeZ (takeA fin L))) ?_ fun r h' h => ⟨_, h.2, rfl⟩; have hl := refLine_ok L; obtain ⟨T, hT⟩ : ∃ T, takeA fin L = T := ⟨_, rfl⟩; rw [hT]; unfold takeA at hT; dsimp only at hT; refine amutXW [14, 15] [.cell 4 _, .tmp 5, .tmp 6, .tmp 7] hmo Tryz.func53 ?_; have hl0 := hl 0 wObj fin hL; rw [List.drop_zero] at hl0; simp; refine CallK.intro hl0 ?_ (by simp [numsPV]; split <;> simp); by_cases c1 : (lineA fin wObj bz4 (hd L)).2.2 = 0; rotate_left
 ·rw [if_pos c1] at hT; simp [numsPV, c1, ← hT, takeZ, robjT, o0]
 rw [if_neg (by rw [c1]; simp)] at hT; have hlen : (lineA fin wObj bz4 (hd L)).1.length = 4 := (lineA_len c1).1; obtain ⟨_, _, t0, tr, htr, _⟩ := lineA_len c1; have hLpos : 0 < L.length := List.length_pos_iff.2 fun e => by subst e; cases htr
 have hin := lineA_in c1
 revert hT hlen hin
 generalize hLL : lineA fin wObj bz4 (hd L) = LL at c1 ⊢; obtain ⟨xs, fa⟩ := LL; intro hT hlen hin; dsimp only at hT hlen hin c1
 match xs, hlen with
 | [a, b, c, d], _ =>
 have hd3 : 0 ≤ d ∧ d ≤ 1000000 := hin 3 (show 3 < 4 by omega) (show 3 < 4 by omega); have ha3 : 0 ≤ a ∧ a ≤ 1000000 := hin 0 (show 0 < 4 by omega) (show 0 < 4 by omega); have hb3 : 0 ≤ b ∧ b ≤ 1000000 := hin 1 (show 1 < 4 by omega) (show 1 < 4 by omega); obtain ⟨n, rfl⟩ : ∃ n : Nat, d = n := ⟨d.toNat, by omega⟩; simp only [List.getD_cons_zero, List.getD_cons_succ, Int.toNat_natCast] at hT; clear hin hLL; obtain ⟨RR, hRR⟩ : ∃ RR, rowsA fin n L.tail [] = RR := ⟨_, rfl⟩; rw [hRR] at hT; simp [numsPV, c1, irow]; refine ALoop.intro (S := fun (x : Nat × List ORow) => ⟨[(0, .pv (.seq false 1 (L.map lnF))), (1, .pv (I64 fin)), (4, .pv (.ptr 0 0)), (8, .pv (.seq true 1 [[I64 a], [I64 b], [I64 c], [I64 n]])), (11, .pv (.ptr 1 0)), (12, .pv (I64 (x.1 + 1 : Nat)))],
  [[.pv (I64 0), .pv (I64 0), .pv (I64 0), .pv (.lit (.slice none 0 0))], [.pv (I64 a), .pv (I64 b), .pv (I64 c), .own true 4 (x.2.map rrow)]]⟩)
  (fun x => x.1 ≤ n ∧ rowsA fin (n - x.1) (L.drop (x.1 + 1)) x.2 = RR ∧ x.2.length = x.1 ∧ x.1 < L.length) (fun x => n - x.1) (0, []) ?_ ⟨Nat.zero_le _, by simpa using hRR, rfl, hLpos⟩ ?_
 ·refine (Weak.nilCell (b := 1) (k := 3) (xs := [.pv (I64 a), .pv (I64 b), .pv (I64 c), .pv (.lit (.slice none 0 0))]) 4 true (by simp) (by simp)).trans ?_; exact Weak.to (by simp) (by simp) (by simp) (by simp) (by simp)
 rintro ⟨i, rows⟩ ⟨hi, hrow, hrl, hil⟩; dsimp only at hi hrow hrl hil; have hw := wnx (i + 1); have hw0 := wnx i; have hLs := hL.1; by_cases h : i < n
 ·have h' : ((i + 1 : Nat) : Int) ≤ n := by omega
  rw [show n - i = (n - (i + 1)) + 1 by omega, rowsA] at hrow; have hli := hl (i + 1) wRow fin hL; generalize hI : i + 1 = I at *; simp [h']; refine CallK.intro hli ?_ (by simp [numsPV]; split <;> simp); by_cases c2 : (lineA fin wRow bz4 (hd (L.drop I))).2.2 = 0; rotate_left
  ·rw [if_neg c2] at hrow; have e1 : RR.2 = (lineA fin wRow bz4 (hd (L.drop I))).2 := by rw [← hrow]
   rw [e1, if_pos c2] at hT; simp [numsPV, c2, ← hT, takeZ, robjT, o0]
  rw [if_pos c2] at hrow; obtain ⟨hl2, _, t1, tr1, htr1, _⟩ := lineA_len c2; have hIl : I < L.length := by
   rw [hd_drop] at htr1; refine Decidable.byContradiction fun q => ?_; rw [List.getD_eq_getElem?_getD, List.getElem?_eq_none (by omega)] at htr1; cases htr1
  revert hl2 hrow
  generalize lineA fin wRow bz4 (hd (L.drop I)) = L2 at c2 ⊢; obtain ⟨ys, fb⟩ := L2; intro hrow hl2; dsimp only at hl2 hrow c2
  match ys, hl2 with
  | [y0, y1, y2, y3], _ =>
  simp [numsPV, c2, irow]; refine ⟨by omega, (I, rows ++ [rowOf [y0, y1, y2, y3]]), by dsimp only; omega, ⟨by dsimp only; omega, ?_, by simp; omega, by dsimp only; omega⟩, ?_⟩
  ·dsimp only; rw [← List.tail_drop]; exact hrow
  ·exact Weak.to (by simp [hw, rowOf]) (by simp [rowOf, rrow]) (by simp) (by simp) (by simp [rowOf, rrow])
 ·have hie : i = n := by omega
  subst hie; have h' : ¬ ((i + 1 : Nat) : Int) ≤ i := by omega
  have hrr : RR = (rows, fin, okN) := by rw [← hrow, Nat.sub_self, rowsA]
  rw [hrr, if_neg (by simp [okN])] at hT; have hck := refObjChk_ok ⟨a, b, c, rows⟩ ⟨⟨by dsimp only; omega, by dsimp only; omega⟩, by dsimp only; omega, by dsimp only; omega⟩ (by dsimp only; omega); simp [robj] at hck; generalize hI : i + 1 = I at *; simp [h']; refine CallK.intro hck ?_; by_cases c3 : (objChk ⟨a, b, c, rows⟩).2 = 0
  ·rw [if_neg (by simp [c3])] at hT; simp [c3]; refine AAnyD.one rtkSch15 (by kernel_rfl) ?_; simp [rtkSch15, hw0, hI, ← hT, takeZ, robjT]
  ·rw [if_pos (by simpa using c3)] at hT; obtain ⟨k, hk, hkl⟩ := objChk_range _ c3; dsimp only at hkl; have hw2 : w64 (k : Int) = (k : Int) := w64_id (by omega) (by omega); rw [hk, show ((k : Int) - 1 + 1).toNat = k by omega] at hT; rw [hk]; simp [c3]; refine AAnyD.one rtkSch14 (by kernel_rfl) ?_; have hkL : k < L.length := by omega
   obtain ⟨l, hl5⟩ : ∃ l, L[k] = l := ⟨_, rfl⟩; have hlm : l ≠ [] := hne l (by rw [← hl5]; exact List.getElem_mem _); obtain ⟨t, r, rfl⟩ : ∃ t r, l = t :: r := by
    cases l with
    | nil => exact absurd rfl hlm
    | cons t r => exact ⟨t, r, rfl⟩
   have hlg : L.getD k [] = t :: r := by rw [List.getD_eq_getElem?_getD, List.getElem?_eq_getElem hkL, hl5]; rfl
   rw [hlg] at hT; simp [rtkSch14, hw2, hkL, hl5, lnF, Tok.row, ← hT, takeZ, robjT, o0, atOf]
def evD (kd : Int) (fin : Nat) (out : List Ev) (l : List Tok) : Ev × Nat × Int :=
 if (l.head?.getD ⟨0, 0, ByteArray.empty⟩).tx ≠ wCall ∧ (l.head?.getD ⟨0, 0, ByteArray.empty⟩).tx ≠ wRet then (⟨0, 0, 0⟩, (l.head?.getD ⟨0, 0, ByteArray.empty⟩).at_, 8) else evOf kd fin out l
theorem evD_eq (kd : Int) (fin : Nat) (out : List Ev) (l : List Tok) : (evD kd fin out l).2 = (evOf kd fin out l).2 ∧ ((evOf kd fin out l).2.2 = 0 → evD kd fin out l = evOf kd fin out l) := by
 unfold evD; split
 ·rename_i c; have e : evOf kd fin out l = (⟨2, 0, 0⟩, (l.head?.getD ⟨0, 0, ByteArray.empty⟩).at_, 8) := by
   have e1 : ev1 kd fin out l = (⟨2, 0, 0⟩, (l.head?.getD ⟨0, 0, ByteArray.empty⟩).at_, 8) := by
    unfold ev1; dsimp only; rw [if_pos c]
   unfold evOf; rw [e1, if_pos (by simp)]
  rw [e]; exact ⟨rfl, fun h => by cases h⟩
 ·exact ⟨rfl, fun _ => rfl⟩
set_option maxRecDepth 16000 in
theorem refOne_ok (o : Obj) (fin : Nat) (out : List Ev) (l : List Tok) (hk1 : 1 ≤ o.kd) (hk2 : o.kd ≤ 64) (ho : out.length ≤ 10000) (hl : l.length ≤ 1000000) (hl0 : l ≠ []) (ht : ∀ t ∈ l, t.tx.size ≤ 1000000 ∧ t.at_ ≤ 1000000) :
 APure Tryz.prog 54 [robj o, evV out, .seq false 3 (l.map Tok.row), I64 fin] (fun r => r = .pv (evT (evD o.kd fin out l))) := by
 refine apureX [3, 15, 17] [.cell 8 _, .tmp 9, .tmp 10] hmo Tryz.func54 ?_; have hpos : 0 < l.length := List.length_pos_iff.2 hl0; obtain ⟨t, hT⟩ : ∃ t, l[0] = t := ⟨_, rfl⟩; have hhd : l.head?.getD ⟨0, 0, ByteArray.empty⟩ = t := by
  cases l with
  | nil => exact absurd rfl hl0
  | cons a r => exact hT
 have hat : atOf l = t.at_ := by
  cases l with
  | nil => exact absurd rfl hl0
  | cons a r => exact congrArg Tok.at_ hT
 obtain ⟨X, hX⟩ : ∃ X, evD o.kd fin out l = X := ⟨_, rfl⟩; rw [hX]; unfold evD evOf ev1 at hX; dsimp only at hX; rw [hhd, hat] at hX; have hw1 : w64 (o.kd - 1) = o.kd - 1 := w64_id (by omega) (by omega); have hN := fun top : Int => refNumbers_ok l t.tx [(1, 1000), (0, top)] fin hl (by simp) ht; simp only [List.map, irow] at hN; have hOp := refOpen_ok out (by omega); have hHas := fun p : Int => refHas_ok (refOpTo out out.length) p (by have := refOpTo_len out out.length; omega); simp only [evV] at hOp; simp [robj, evV, hpos, hT, Tok.row, hl0]; by_cases c1 : t.tx = wCall
 case neg =>
  have c1' : ¬ t.tx = ⟨#[99, 97, 108, 108]⟩ := c1; by_cases c0 : t.tx = wRet
  case neg =>
   have c0' : ¬ t.tx = ⟨#[114, 101, 116]⟩ := c0; rw [if_pos ⟨c1, c0⟩] at hX; simp [c1', c0']; refine AAnyD.one rdSch14 (by kernel_rfl) ?_; simp [rdSch14, hpos, hT, Tok.row, ← hX, evT, evR]
  have c0' : t.tx = ⟨#[114, 101, 116]⟩ := c0; simp only [if_neg (fun h : t.tx ≠ wCall ∧ t.tx ≠ wRet => h.2 c0), if_neg c1] at hX; rw [c0'] at hN hX; simp [c0']; refine CallK.intro (hN _) ?_ (by simp [numsPV]; split <;> simp); rw [← c0'] at hX; rw [← c0']; by_cases c2 : (lineA fin t.tx [(1, 1000), (0, 1000000)] l).2.2 = 0; rotate_left
  ·simp only [if_pos c2] at hX; rw [if_pos (by simpa using c2)] at hX; simp [numsPV, c2, ← hX, evT, evR]
  simp only [if_neg (show ¬ (lineA fin t.tx [(1, 1000), (0, 1000000)] l).2.2 ≠ 0 from fun h => h c2)] at hX; have hlen : (lineA fin t.tx [(1, 1000), (0, 1000000)] l).1.length = 2 := (lineA_len c2).1
  revert hX hlen
  generalize lineA fin t.tx [(1, 1000), (0, 1000000)] l = L2 at c2 ⊢; obtain ⟨ys, fb⟩ := L2; intro hX hlen; dsimp only at hX hlen c2
  match ys, hlen with
  | [p, n], _ =>
  simp only [List.getD_cons_zero, List.getD_cons_succ] at hX; simp [numsPV, c2, irow]; refine CallQ0.intro hOp ?_; simp; refine CallQ0.intro (hHas p) ?_; have hb := open_mem out p; by_cases c3 : p ∈ refOpTo out out.length
  ·have c3' := hb.1 c3; rw [c3'] at hX; simp at hX; simp [c3]; by_cases c4 : out.length = 10000
   ·have c4' : (out.length : Int) = 10000 := by omega
    rw [if_pos (by omega)] at hX; simp [c4', ← hX]; refine AAnyD.one rdSch14 (by kernel_rfl) ?_; simp [rdSch14, hpos, hT, Tok.row, evT, evR, hat]
   ·have c4' : ¬ (out.length : Int) = 10000 := by omega
    rw [if_neg (by omega)] at hX; simp [c4', ← hX, evT, evR]
  ·have c3' : opnS out p out.length = false := Bool.eq_false_iff.2 fun h => c3 (hb.2 h); rw [c3'] at hX; simp at hX; simp [c3, ← hX]; refine AAnyD.one rdSch14 (by kernel_rfl) ?_; simp [rdSch14, hpos, hT, Tok.row, evT, evR]
 have c1' : t.tx = ⟨#[99, 97, 108, 108]⟩ := c1; simp only [if_neg (fun h : t.tx ≠ wCall ∧ t.tx ≠ wRet => h.1 c1), if_pos c1] at hX; rw [c1'] at hN hX; simp [c1', hw1]; refine CallK.intro (hN _) ?_ (by simp [numsPV]; split <;> simp); rw [← c1'] at hX; rw [← c1']; by_cases c2 : (lineA fin t.tx [(1, 1000), (0, (o.kd - 1))] l).2.2 = 0; rotate_left
 ·simp only [if_pos c2] at hX; rw [if_pos (by simpa using c2)] at hX; simp [numsPV, c2, ← hX, evT, evR]
 simp only [if_neg (show ¬ (lineA fin t.tx [(1, 1000), (0, (o.kd - 1))] l).2.2 ≠ 0 from fun h => h c2)] at hX; have hlen : (lineA fin t.tx [(1, 1000), (0, (o.kd - 1))] l).1.length = 2 := (lineA_len c2).1
 revert hX hlen
 generalize lineA fin t.tx [(1, 1000), (0, (o.kd - 1))] l = L2 at c2 ⊢; obtain ⟨ys, fb⟩ := L2; intro hX hlen; dsimp only at hX hlen c2
 match ys, hlen with
 | [p, n], _ =>
 simp only [List.getD_cons_zero, List.getD_cons_succ] at hX; simp [numsPV, c2, irow]; refine CallQ0.intro hOp ?_; simp; refine CallQ0.intro (hHas p) ?_; have hb := open_mem out p; by_cases c3 : p ∈ refOpTo out out.length
 ·have c3' := hb.1 c3; rw [c3'] at hX; simp at hX; simp [c3, ← hX]; refine AAnyD.one rdSch14 (by kernel_rfl) ?_; simp [rdSch14, hpos, hT, Tok.row, evT, evR]
 ·have c3' : opnS out p out.length = false := Bool.eq_false_iff.2 fun h => c3 (hb.2 h); rw [c3'] at hX; simp at hX; simp [c3]; by_cases c4 : out.length = 10000
  ·have c4' : (out.length : Int) = 10000 := by omega
   rw [if_pos (by omega)] at hX; simp [c4', ← hX]; refine AAnyD.one rdSch14 (by kernel_rfl) ?_; simp [rdSch14, hpos, hT, Tok.row, evT, evR, hat]
  ·have c4' : ¬ (out.length : Int) = 10000 := by omega
   rw [if_neg (by omega)] at hX; simp [c4', ← hX, evT, evR]
def parSch11 : Sch :=
 let s0 : Sch := .fork [(14, .take 15 (.take 16 .done))]
 let s1 : Sch := .fork [(13, s0)]
 let s2 : Sch := .fork [(8, .take 9 (.take 10 (.take 11 (.take 12 s0))))]
 let s3 : Sch := .fork [(8, .take 9 (.take 10 (.take 11 (.take 12 s1)))), (13, s2)]
 let s4 : Sch := .fork [(5, s2)]
 let s5 : Sch := .fork [(5, s3), (13, s4)]
 let s6 : Sch := .fork [(0, s2)]
 let s7 : Sch := .fork [(0, s3), (13, s6)]
 let s8 : Sch := .fork [(0, s4), (5, s6)]
 let s9 : Sch := .fork [(0, s5), (5, s7), (13, s8)]
 .take 1 (.take 2 (.take 3 (.take 4 (.take 6 (.take 7 s9)))))
set_option maxRecDepth 16000 in
theorem refParse_ok (s : ByteArray) (hs : s.size ≤ 1000000) : APure Tryz.prog 27 [ST s] (fun r => r = .pv (.tup [robjT (caseA s).o, evVT (caseA s).l, I64 (caseA s).at_, I64 (caseA s).e])) := by
 refine (AMut.pure (R := fun r => r = .pv (.tup [robjT (caseA s).o, evVT (caseA s).l, I64 (caseA s).at_, I64 (caseA s).e])) ?_); refine AMut.mono (R := fun r h' => h' = [] ∧ r = .pv (.tup [robjT (caseA s).o, evVT (caseA s).l, I64 (caseA s).at_, I64 (caseA s).e])) ?_ fun r h' h => ⟨_, h.2, rfl⟩; refine amutXW [11] [.cell 2 _, .tmp 3, .tmp 4, .tmp 5] hmo Tryz.func27 ?_; have hls := lns_lines hs; have hz : ¬ 1000000 < (s.size : Int) := by omega
 obtain ⟨K, hK⟩ : ∃ K, caseA s = K := ⟨_, rfl⟩; rw [hK]; unfold caseA at hK; rw [if_neg (by omega)] at hK; dsimp only at hK; have hL : linesOk (said (lns s 0 0)) := ⟨Nat.le_trans (List.length_filter_le _ _) hls.1, fun l hl => hls.2 l (List.mem_filter.1 hl).1⟩; have hT := refTake_ok (said (lns s 0 0)) s.size hL (fun l hl => said_ne l hl); have hTo := takeA_ok (fin := s.size) (L := said (lns s 0 0)); have hTr := takeA_rows (fin := s.size) (L := said (lns s 0 0)); have hne := fun l (hl : l ∈ said (lns s 0 0)) => said_ne l hl; simp [hz]; refine CallK.intro (refLines_ok s hs) ?_; simp; refine CallK.introM (said_ok _ _ hls.1) ?_; rintro _ _ ⟨rfl, rfl⟩; generalize said (lns s 0 0) = L at *; simp; refine CallK.intro hT ?_ (by simp [takeZ, robjT]); obtain ⟨T, hTT⟩ : ∃ T, takeA s.size L = T := ⟨_, rfl⟩; rw [hTT] at hK hTo hTr ⊢; by_cases c1 : T.e = 0; rotate_left
 ·rw [if_pos c1] at hK; simp [c1, takeZ, robjT, ← hK, o0, evVT]
 obtain ⟨q1, q2, q3, q4, q5, q6⟩ := hTo c1; obtain ⟨k1, k2⟩ := objChk_kd q1 q5 q6; obtain ⟨hTn, hTn2⟩ := hTr c1; rw [if_neg (by simpa using c1)] at hK; obtain ⟨E, hE⟩ : ∃ E, evsA T.o.kd s.size (L.drop T.n) [] = E := ⟨_, rfl⟩; rw [hE] at hK; simp [c1, takeZ, robjT]; refine ALoop.intro (S := fun (x : Nat × List Ev) => ⟨[(0, .pv (ST s)), (2, .pv (.ptr 0 0)), (6, .pv (.seq true 1 (L.map lnF))), (7, .pv (.ptr 1 0)), (11, .own true 3 (x.2.map evR)), (12, .pv (I64 x.1))],
  [[.pv (I64 0), .pv (I64 0), .pv (I64 0), .pv (.lit (.slice none 0 0))], [.pv (I64 T.o.st), .pv (I64 T.o.kd), .pv (I64 T.o.ini), .pv (.seq true 4 (T.o.rows.map rrow))]]⟩)
  (fun x => x.1 ≤ L.length ∧ evsA T.o.kd s.size (L.drop x.1) x.2 = E ∧ evsOk x.2) (fun x => L.length - x.1) (T.n, []) ?_ ⟨by dsimp only; omega, hE, Nat.zero_le _, fun j hj => by cases hj⟩ ?_
 ·exact (Weak.nilOwn (s := 11) 3 true (by simp)).trans (Weak.to (by simp) (by simp) (by simp) (by simp) (by simp))
 rintro ⟨i, out⟩ ⟨hi, hev, heo⟩; dsimp only at hi hev heo; have hLl := hL.1; by_cases h : i < L.length; rotate_left
 ·have hie : i = L.length := by omega
  subst hie; rw [List.drop_length] at hev; have hev : (out, s.size, (0 : Int)) = E := hev; rw [← hev, if_neg (by simp)] at hK; simp [← hK, evVT, robjT]
 have hw := wnx i; obtain ⟨l, hl⟩ : ∃ l, L[i] = l := ⟨_, rfl⟩; have hlm : l ∈ L := by rw [← hl]; exact List.getElem_mem _
 obtain ⟨hl1, hl2⟩ := hL.2 l hlm; rw [List.drop_eq_getElem_cons h, hl, evsA] at hev; have h1 := refOne_ok T.o s.size out l k1 k2 heo.1 hl1 (hne l hlm) hl2; obtain ⟨d1, d2⟩ := evD_eq T.o.kd s.size out l; have hok := evOf_ok (kd := T.o.kd) (fin := s.size) (out := out) (l := l) k2 heo; rw [← d1] at hev hok d2; generalize evD T.o.kd s.size out l = D at *; simp only [robj, evV] at h1; simp [h, hl, lnF]; refine AAnyD.meet parSch11 ⟨[(0, .pv (ST s)), (2, .pv (.ptr 0 0)), (6, .pv (.seq true 1 (L.map lnF))), (7, .pv (.ptr 1 0)), (11, .own true 3 (out.map evR)), (12, .pv (I64 i)), (13, .pv (.ptr 2 0)), (14, .pv (I64 D.2.1)), (15, .pv (I64 D.2.2))],
  [[.pv (I64 0), .pv (I64 0), .pv (I64 0), .pv (.lit (.slice none 0 0))], [.pv (I64 T.o.st), .pv (I64 T.o.kd), .pv (I64 T.o.ini), .pv (.seq true 4 (T.o.rows.map rrow))], [.pv (I64 D.1.w), .pv (I64 D.1.p), .pv (I64 D.1.n)]]⟩ (by kernel_rfl) ?_ ?_
 ·simp [parSch11, h, hl, lnF]
  repeat' first
   | trivial
   | refine And.intro ?_ ?_
   | (refine CallK.intro h1 ?_ (by simp [evT, evR]); simp [evT, evR])
   | exact Weak.keep (by simp) (by simp)
 simp; refine ⟨fun c => ?_, fun c => ?_⟩
 ·rw [if_neg c] at hev; rw [← hev, if_pos c] at hK; simp [← hK, o0, evVT]
 ·rw [if_pos c, ← d2 c] at hev; have hok := hok c; rw [← d2 c] at hok; have h10 := heo.1; refine ⟨by omega, (i + 1, out ++ [D.1]), by dsimp only; omega, ⟨by dsimp only; omega, hev, hok⟩, ?_⟩; exact Weak.to (by simp [hw, evR]) (by simp) (by simp) (by simp [evR]) (by simp)
theorem ops_same {l : List Ev} (h : evsOk l) : refOps l l.length = (ofOpen l l.length).1 := (of_same (l := l) l.length h.2).1.symm
def readD (r : RdR) : PV := .agg [I64 r.o.st, I64 r.o.kd, I64 r.o.ini, .seq true 4 (r.o.rows.map rrow), .seq true 5 (r.ops.map orow), I64 r.v, .seq true 1 (r.cs.map crow), I64 r.at_, I64 r.e, BL r.big]
set_option maxRecDepth 16000 in
theorem refOf40_ok (s : ByteArray) (hs : s.size ≤ 1000000) : APure Tryz.prog 12 [ST s] (fun r => r = .pv (readD (readA s))) := by
 refine (AMut.pure (R := fun r => r = .pv (readD (readA s))) ?_); refine AMut.mono (R := fun r h' => h' = [] ∧ r = .pv (readD (readA s))) ?_ fun r h' h => ⟨_, h.2, rfl⟩; refine amutXW [] [.cell 2 _] hmo Tryz.func12 ?_; have hP := refParse_ok s hs; have hO := caseA_ok hs; obtain ⟨R, hR⟩ : ∃ R, readA s = R := ⟨_, rfl⟩; rw [hR]; unfold readA at hR; dsimp only at hR; obtain ⟨k, hk⟩ : ∃ k, caseA s = k := ⟨_, rfl⟩; rw [hk] at hR hP hO; simp; refine CallK.intro hP ?_ (by simp [robjT, evVT]); by_cases c1 : k.e = 0; rotate_left
 ·rw [if_pos c1] at hR; simp [robjT, evVT, c1, ← hR, readD, o0]
 rw [if_neg (by simpa using c1)] at hR; obtain ⟨q1, q2, q3, q4⟩ := hO c1; have hof := refOf27_ok k.l (by have := q4.1; omega); have hen := refEnc_ok k.o (ofOpen k.l k.l.length).1 q2 (by omega) (by have := ops_len q4; omega); rw [refOfV, evsOk_chk q4, if_pos rfl, ops_same q4] at hof; simp only [evV] at hof; simp only [robj, ovec] at hen; generalize (ofOpen k.l k.l.length).1 = ops at *; simp [robjT, evVT, c1]; refine CallK.intro hof ?_; simp; refine CallK.intro hen ?_ (by simp [encPV]; split <;> simp); by_cases c2 : failE k.o ops = 0
 ·rw [if_neg (by simpa using c2)] at hR; simp [encPV, c2, ← hR, readD]
 ·rw [if_pos c2] at hR; simp [encPV, c2, ← hR, readD]
theorem budget_ok (n : Int) : APure Tryz.prog 16 [I64 n] (fun r => r = .pv (I64 (max 0 (min n 1000000)))) := by
 refine apure1 hmo Tryz.func16 ?_; simp; split <;> split <;> omega
theorem refBudget_ok (n : Int) : APure Tryz.prog 17 [I64 n] (fun r => r = .pv (I64 (max 0 (min n 1000000)))) := by
 refine apure1 hmo Tryz.func17 ?_; simp; refine ⟨fun h => by omega, fun h => ⟨fun h2 => by omega, fun h2 => by omega⟩⟩
theorem few40_ok (s : ByteArray) : APure Tryz.prog 8 [ST s] (fun r => r = .pv (BL (decide (s.size ≤ 3000) && decide ((readA s).ops.length ≤ 6)))) := by
 refine apure1 hmo Tryz.func8 ?_; by_cases h : s.size ≤ 3000
 ·have hr := refOf40_ok s (by omega); generalize readA s = R at *; have h' : (s.size : Int) ≤ 3000 := by omega
  simp [h, h']; refine CallG.intro (fun _ => hr) ?_ (by simp [readD]); simp [readD]; omega
 ·have h' : ¬ (s.size : Int) ≤ 3000 := by omega
  simp [h, h']; refine CallG.intro (r := .pv (readD ⟨o0, [], [], 0, [], 0, 0, false⟩)) (fun h => h.elim) ?_ (by simp [readD]); simp [readD]
set_option maxRecDepth 16000 in
theorem refSameF_ok (v1 v2 : Int) (a b : List (List Int)) (hl : a.length ≤ 140737488355328) (hr : ∀ x ∈ a, x.length ≤ 140737488355328) : APure Tryz.prog 15 [.agg [I64 v1, .seq false 1 (a.map crowF)], .agg [I64 v2, .seq false 1 (b.map crowF)]] (fun r => r = .pv (BL (decide (v1 = v2) && decide (a = b)))) := by
 refine apure1 hmo Tryz.func15 ?_; have h := sameRows_ok a b hl hr; simp; refine CallG.intro (fun _ => h) ?_; simp
theorem readA_cs {s : ByteArray} (hs : s.size ≤ 1000000) : (readA s).cs.length ≤ 100000000 ∧ ∀ x ∈ (readA s).cs, x.length ≤ 100 := by
 have hO := caseA_ok hs; unfold readA; dsimp only; split
 ·exact ⟨Nat.zero_le _, fun x hx => by cases hx⟩
 ·rename_i c; have c := Decidable.byContradiction c; obtain ⟨q1, q2, q3, q4⟩ := hO c; split
  ·exact ⟨Nat.zero_le _, fun x hx => by cases hx⟩
  ·rename_i c2; have c2 := Decidable.byContradiction c2; obtain ⟨h1, h2, h3, hP, _, hc⟩ := failE_zero q2 c2; exact ⟨(enc_len q2 c2).1, fun x hx => enc_rows hc x hx⟩
set_option maxRecDepth 16000 in
theorem checkReads_ok (hAw : APure Tryz.prog 9 [] (fun r => r = .pv (BL true))) (s : ByteArray) (n : Int) : APure Tryz.prog 4 [ST s, I64 n] (fun r => r = .pv (BL true)) := by
 refine apure1 hmo Tryz.func4 ?_; have hF := few40_ok s; by_cases h : s.size ≤ 3000; rotate_left
 ·simp [h] at hF; simp; refine CallK.intro hF ?_; simp; refine CallK.intro hAw ?_; simp
 have h1 := formula_ok s (by omega); have h2 := refOf40_ok s (by omega); obtain ⟨c1, c2⟩ := readA_cs (s := s) (by omega); have h3 := refSameF_ok (readA s).v (readA s).v (readA s).cs (readA s).cs (by omega) (fun x hx => by have := c2 x hx; omega); have h4 := budget_ok n; have h5 := refBudget_ok n; generalize readA s = R at *; generalize max 0 (min n 1000000) = m at *; simp; refine CallK.intro hF ?_; by_cases hf : R.ops.length ≤ 6; rotate_left
 ·simp [h, hf]; refine CallK.intro hAw ?_; simp
 simp [h, hf]; refine CallK.intro h1 ?_; simp; refine CallK.intro h2 ?_ (by simp [readD]); simp [readD]; refine CallK.intro h3 ?_; simp; refine CallG.intro (fun _ => h4) ?_; simp; refine CallG.intro (fun _ => h5) ?_; simp; refine CallG.intro (fun _ => hAw) ?_; simp
end Go.AX
