/-
  Contracts: lrat: a group of hints is noted.
  Contracts: rat.Show.
  Contracts: lrat.Checker: may a clause be added?
-/
import Derived.Test.YthfhellfmbllhaaGreatS12AxTmO
import Derived.Test.YthfhellfmbllhaaGreatS12AxTmN
import Derived.Test.YthfhellfmbllhaaGreatAxPu
namespace Go.AX
open Go.Proofs
set_option linter.unusedSimpArgs false
def fR (l : List (List Int)) : PV := .seq true 1 (l.map crowF)
@[simp] theorem put_fR (l : List (Int × List (List Int))) (k : Int) (y : List (List Int)) : amPut (mapE fR l) k (.seq true 1 (y.map crowF)) = mapE fR (pt l k y) := amPut_mapE fR l k y
theorem belowE_fR (n : Nat) : ∀ l : List (Int × List (List Int)), belowE n (mapE fR l)
  | [] => trivial
  | x :: l => ⟨belowR_crowF n _, belowE_fR n l⟩
def noteF (c : Ck) (each : List (Int × List (List Int))) (g : List Int) : List (Int × List (List Int)) :=
  if bsB (idsS c) (w64 (-(g.headD 0))) = true then pt each (bsI (idsS c) (w64 (-(g.headD 0)))) (rowsS c g.tail) else each
def notSch : Sch :=
  let E : Sch := .fork [(6, .done)]
  .take 1 (.take 2 (.take 3 (.fork [(0, .fork [(4, .fork [(5, E)])]), (4, .fork [(0, .fork [(5, E)]), (5, .fork [(0, E)])])])))
set_option maxRecDepth 16000 in
theorem note_ok (h : List (List SV)) (c : Ck) (each : List (Int × List (List Int))) (bi bo be : Nat) (x : Int) (l : List Int) (hl : l.length ≤ 1000000)
    (hi : h[bi]? = some [.pv (.seq true 1 (irow (idsS c)))]) (ho : h[bo]? = some [.pv (.fn (.func 192) [ckP c] [])]) (he : h[be]? = some [.omap true (mapE fR each)]) (hlen : (idsS c).length ≤ 1000000) (hsrt : (idsS c).Pairwise (· ≤ ·)) :
    AMut Tryz.prog 195 [.seq false 1 (irow (x :: l)), .ptr bi 0, .ptr bo 0, .ptr be 0] h (fun r h' => h' = h.set be [.omap true (mapE fR (noteF c each (x :: l)))] ∧ r = .pv (.tup [])) := by
  refine amutXD [2] [] (h.set be [.omap true (mapE fR (noteF c each (x :: l)))]) (by simp) (fun hh => by rw [List.length_set]; exact belowH_setT (x := [.omap true (mapE fR (noteF c each (x :: l)))]) ⟨belowE_fR _ _, trivial⟩ be hh) hmo Tryz.func195 (by kernel_rfl) rfl rfl (by kernel_rfl) (Nat.le_of_ble_eq_true rfl) ?_
  obtain ⟨hli, hi'⟩ := List.getElem?_eq_some_iff.1 hi
  obtain ⟨hlo, ho'⟩ := List.getElem?_eq_some_iff.1 ho
  obtain ⟨hle, he'⟩ := List.getElem?_eq_some_iff.1 he
  have hS := bsearch_ok (idsS c) (w64 (-x)) hlen hsrt
  simp [hi', ho', he', hli, hlo, hle]
  refine CallQ0.intro hS (by simp) ?_
  have hF : noteF c each (x :: l) = if bsB (idsS c) (w64 (-x)) = true then pt each (bsI (idsS c) (w64 (-x))) (rowsS c l) else each := rfl
  generalize noteF c each (x :: l) = F at *
  have hset : h.set be [.omap true (mapE fR each)] = h := by rw [← he']; exact List.set_getElem_self hle
  cases d : bsB (idsS c) (w64 (-x))
  · rw [if_neg (by simp [d])] at hF
    subst hF
    simp [d, hset]
  · rw [if_pos d] at hF
    subst hF
    have hrw := (lrows_ok [] c l (by omega)).mono (R' := fun r _ => r = .pv (.seq true 1 ((rowsS c l).map crowF))) fun _ _ h => h.2
    have htk : (List.take (l.length + 1) (irow (x :: l))).tail = irow l := by
      simp [irow]
      exact List.take_of_length_le (by simp)
    simp [d, ho', he', hlo, hle]
    refine AAnyD.one notSch (by kernel_rfl) ?_
    simp [notSch, d, ho', he', hlo, hle, htk]
    refine ⟨by omega, ?_, ?_, ?_⟩
    all_goals
      refine CallK.introX (CallX.pureM (p := []) (q := []) (zs := [.seq false 1 (irow l), .fn (.func 192) [ckP c] []]) hrw (by simp) rfl (by simp [argsPv]) (by simp) (by simp) ?_)
      simp [d, ho', he', hlo, hle, htk]
      exact List.take_of_length_le (by simp)
end Go.AX

namespace Go.AX
open Go.Proofs
set_option linter.unusedSimpArgs false
theorem refuteP_ok (l c : List Int) (p : Int) (hs : List (List Int)) (hl : l.length + c.length + hs.length ≤ 1000000) (hh : ∀ h ∈ hs, h.length ≤ 1000000) : APure Tryz.prog 214 [.seq false 1 (irow l), .seq false 1 (irow c), I64 p, .seq false 1 (hs.map crowF)] (fun r => r = .pv (I64 (refE l c p hs))) :=
  AMut.pure ((refute_ok [] l c p hs hl hh).mono fun _ _ h => ⟨_, h.2, rfl⟩)
theorem rShowP_ok (c : List Int) (hs : List (List Int)) (hl : c.length + hs.length ≤ 1000000) (hh : ∀ h ∈ hs, h.length ≤ 1000000) : APure Tryz.prog 119 [.seq false 1 (irow c), .seq false 1 (hs.map crowF)] (fun r => r = .pv (.tup [I64 (shwS c hs).1, I64 (shwS c hs).2])) :=
  AMut.pure ((rShow_ok [] c hs hl hh).mono fun _ _ h => ⟨_, h.2, rfl⟩)
def fS (l : List (List Int)) : PV := .seq false 1 (l.map crowF)
@[simp] theorem look_fS (l : List (Int × List (List Int))) (k : Int) : amLook (mapE fS l) k = (lk l k).map fS := amLook_mapE fS l k
@[simp] theorem frzE_fR (r : Nat → Nat → PV) : ∀ l : List (Int × List (List Int)), frzE r (mapE fR l) = mapE fS l
  | [] => rfl
  | x :: l => by
    have := frzE_fR r l
    show (x.1, frzW r (fR x.2)) :: frzE r (mapE fR l) = (x.1, fS x.2) :: mapE fS l
    rw [this]
    simp [fR, fS]
@[simp] theorem frzE_fS (r : Nat → Nat → PV) : ∀ l : List (Int × List (List Int)), frzE r (mapE fS l) = mapE fS l
  | [] => rfl
  | x :: l => by
    have := frzE_fS r l
    show (x.1, frzW r (fS x.2)) :: frzE r (mapE fS l) = (x.1, fS x.2) :: mapE fS l
    rw [this]
    simp [fS]
@[simp] theorem belowE_fS (n : Nat) : ∀ l : List (Int × List (List Int)), belowE n (mapE fS l)
  | [] => trivial
  | x :: l => ⟨belowR_crowF n _, belowE_fS n l⟩
def refB (cs : List (List Int)) (c l : List Int) (each : List (Int × List (List Int))) (i : Int) : Bool :=
  match lk each i with
  | none => false
  | some h => decide (refE l (cs.getD i.toNat []) (c.headD 0) h = 0)
set_option maxRecDepth 16000 in
theorem ratS1_ok (cs : List (List Int)) (c l : List Int) (each : List (Int × List (List Int))) (i : Nat) (hi : i < cs.length) (hc : c ≠ []) (hb : ∀ j h, lk each j = some h → l.length + (cs[i]).length + h.length ≤ 1000000 ∧ ∀ x ∈ h, x.length ≤ 1000000) :
    APure Tryz.prog 213 [I64 i, .iptr 1 [[.amap false (mapE fS each)]] 0 0, .iptr 1 [[.seq false 1 (irow l)]] 0 0, .iptr 1 [[.seq false 1 (cs.map crowF)]] 0 0, .iptr 1 [[.seq false 1 (irow c)]] 0 0] (fun r => r = .pv (BL (refB cs c l each i))) := by
  refine apure1 hmo Tryz.func213 (by kernel_rfl) rfl rfl (by kernel_rfl) (Nat.le_of_ble_eq_true rfl) ?_
  have hB : refB cs c l each i = match lk each i with
    | none => false
    | some h => decide (refE l (cs.getD i []) (c.headD 0) h = 0) := rfl
  have hg : cs.getD i [] = cs[i] := by rw [List.getD_eq_getElem?_getD, List.getElem?_eq_getElem hi]; rfl
  rw [hg] at hB
  have hrow := crowF_at cs hi
  generalize cs[i] = ci at *
  obtain ⟨x, c, rfl⟩ : ∃ x c', c = x :: c' := by
    cases c with
    | nil => exact absurd rfl hc
    | cons x c => exact ⟨x, c, rfl⟩
  cases e : lk each i with
  | none =>
    rw [e] at hB
    simp only at hB
    simp [e, hi, hrow, hB]
    refine CallQ.intro (fun h : False => h.elim) (r := .pv (I64 0)) (by simp) ?_
    simp
  | some h =>
    rw [e] at hB
    simp only [List.headD_cons] at hB
    have hR := refuteP_ok l ci x h (hb _ _ e).1 (hb _ _ e).2
    simp [e, hi, hrow, fS]
    refine CallQ.intro (fun _ => hR) (by simp) ?_
    by_cases hE : refE l ci x h = 0
    · simp [hB, hE]
    · simp [hB, hE]
theorem chnF_len : ∀ (hs : List (List Int)) (l : List Int) (n : Nat), (chnF l hs n).1.length ≤ l.length + hs.length
  | [], l, n => by simp [chnF]
  | h :: hs, l, n => by
    rw [chnF]
    split
    · simp
    · split
      · have := chnF_len hs (l ++ [(unitS l h).1]) (n + 1)
        simp at this ⊢
        omega
      · simp
theorem canS_mem (cs : List (List Int)) (p : Int) : ∀ n x, x ∈ canS cs p n → ∃ k : Nat, k < n ∧ x = (k : Int)
  | 0, x, h => by cases h
  | n + 1, x, h => by
    rw [canS] at h
    split at h
    · rcases List.mem_append.1 h with h | h
      · obtain ⟨k, h1, h2⟩ := canS_mem cs p n x h
        exact ⟨k, by omega, h2⟩
      · rw [List.mem_singleton] at h
        exact ⟨n, by omega, h⟩
    · obtain ⟨k, h1, h2⟩ := canS_mem cs p n x h
      exact ⟨k, by omega, h2⟩
def ratGo (f : Int → Bool) : List Int → Nat → Int × Int
  | [], n => (n, 0)
  | i :: l, n => if f i = false then (i, 24) else ratGo f l n
def ratS (cs : List (List Int)) (c : List Int) (ahead : List (List Int)) (each : List (Int × List (List Int))) : Int × Int :=
  if staE c ≠ 0 then (-1, staE c) else if c = [] then (-1, 11) else if (chnF (staL c) ahead 0).2.2 ≠ 23 then (-1, (chnF (staL c) ahead 0).2.2)
  else ratGo (refB cs c (chnF (staL c) ahead 0).1 each) (canS cs (c.headD 0) cs.length) (canS cs (c.headD 0) cs.length).length
set_option maxRecDepth 16000 in
theorem ratShow_ok (cs : List (List Int)) (c : List Int) (ahead : List (List Int)) (each : List (Int × List (List Int))) (hn : cs.length ≤ 100000) (hcs : ∀ x ∈ cs, x.length ≤ 100000) (hc : c.length ≤ 100000) (ha : ahead.length ≤ 100000) (hah : ∀ x ∈ ahead, x.length ≤ 100000)
    (he : ∀ j h, lk each j = some h → h.length ≤ 100000 ∧ ∀ x ∈ h, x.length ≤ 100000) :
    APure Tryz.prog 197 [.seq false 1 (cs.map crowF), .seq false 1 (irow c), .seq false 1 (ahead.map crowF), .amap false (mapE fS each)] (fun r => r = .pv (.tup [I64 (ratS cs c ahead each).1, I64 (ratS cs c ahead each).2])) := by
  refine apureN [8, 9] hmo Tryz.func197 (by kernel_rfl) rfl (fun _ _ => results_tmp2 rfl _ _ _) (by kernel_rfl) (Nat.le_of_ble_eq_true rfl) ?_
  have hSt := fun g => rStart_ok g c (by omega)
  have hle := staTo_le c c.length
  have hCh := fun g => rChain_ok g (staL c) ahead (by unfold staL; omega) (fun x hx => by have := hah x hx; omega)
  have hlen := chnF_len ahead (staL c) 0
  have hR : staR c = if staE c = 0 then staL c else [] := rfl
  have hS : ratS cs c ahead each = if staE c ≠ 0 then (-1, staE c) else if c = [] then (-1, 11) else if (chnF (staL c) ahead 0).2.2 ≠ 23 then (-1, (chnF (staL c) ahead 0).2.2)
    else ratGo (refB cs c (chnF (staL c) ahead 0).1 each) (canS cs (c.headD 0) cs.length) (canS cs (c.headD 0) cs.length).length := rfl
  generalize ratS cs c ahead each = S at *
  have hll : (staL c).length ≤ c.length := hle
  generalize chnF (staL c) ahead 0 = F at *
  obtain ⟨L, fn, fe⟩ := F
  simp only at hlen hS hCh
  simp
  refine CallK.introM (hSt _) (by simp) ?_
  rintro _ _ ⟨rfl, rfl⟩
  by_cases c1 : staE c = 0
  rotate_left
  · rw [if_pos c1] at hS
    subst hS
    simp [c1]
  rw [if_neg (by simp [c1])] at hS
  rw [if_pos c1] at hR
  rw [hR]
  by_cases c2 : c = []
  · rw [if_pos c2] at hS
    subst hS
    subst c2
    simp [c1]
  rw [if_neg c2] at hS
  have c2' : c.length ≠ 0 := fun e => c2 (List.length_eq_zero_iff.1 e)
  simp [c1, c2]
  refine CallK.introM (hCh _) (by simp) ?_
  rintro _ _ ⟨rfl, rfl⟩
  by_cases c3 : fe = 23
  rotate_left
  · rw [if_pos c3] at hS
    subst hS
    simp [c3]
  rw [if_neg (by simp [c3])] at hS
  obtain ⟨x, c', rfl⟩ : ∃ x c', c = x :: c' := by
    cases c with
    | nil => exact absurd rfl c2
    | cons x c => exact ⟨x, c, rfl⟩
  have hCa := cands_ok cs x (by omega) (fun y hy => by have := hcs y hy; omega)
  have hcl := canS_len cs x cs.length
  have hcm := canS_mem cs x cs.length
  simp only [List.headD_cons] at hS
  generalize hX : canS cs x cs.length = X at *
  clear hX
  simp [c3]
  refine CallQ0.intro (r := .own true 1 (irow X)) hCa (by simp) ?_
  simp
  refine ALoop.intro (S := fun (i : Nat) => ⟨[(11, .pv (.fn (.func 213) [] [.ptr 2 0, .ptr 3 0, .ptr 0 0, .ptr 1 0])), (12, .pv (.seq true 1 (irow X))), (44, .pv (.seq true 1 (irow X))), (45, .pv (I64 X.length)), (46, .pv (I64 i))], [[.pv (.seq false 1 (cs.map crowF))], [.pv (.seq false 1 (irow (x :: c')))], [.pv (.amap false (mapE fS each))], [.pv (.seq true 1 (irow L))]]⟩) (fun i => i ≤ X.length ∧ S = ratGo (refB cs (x :: c') L each) (X.drop i) X.length) (fun i => X.length - i) 0 ?_ ⟨Nat.zero_le _, hS⟩ ?_
  · exact Weak.keep (by simp) (by simp)
  rintro i ⟨hi, hSi⟩
  by_cases h : i < X.length
  · have hw : w64 ((i : Int) + 1) = ((i + 1 : Nat) : Int) := by rw [w64_id (by omega) (by omega)]; omega
    obtain ⟨k, hk, hxk⟩ := hcm _ (List.getElem_mem h)
    rw [List.drop_eq_getElem_cons h, ratGo, hxk] at hSi
    have h1 := ratS1_ok cs (x :: c') L each k hk (by simp) (fun j hh hj => by
      have := he j hh hj
      have h2 := hcs _ (List.getElem_mem hk)
      exact ⟨by omega, fun y hy => by have := this.2 y hy; omega⟩)
    simp [h, hxk, frzP]
    refine CallB.introP h1 (by simp) (by simp) ?_
    cases hb : refB cs (x :: c') L each k
    · rw [if_pos hb] at hSi
      subst hSi
      simp
    · rw [if_neg (by simp [hb])] at hSi
      simp
      exact ⟨i + 1, by (try dsimp only); omega, ⟨by (try dsimp only); omega, hSi⟩, Weak.keep (by simp [hw]) (by simp)⟩
  · have hie : i = X.length := by omega
    subst hie
    rw [List.drop_eq_nil_of_le (Nat.le_refl _), ratGo] at hSi
    subst hSi
    simp
end Go.AX

namespace Go.AX
open Go.Proofs
set_option linter.unusedSimpArgs false
theorem sortZ_pairwise (l : List Int) : (sortZ l).Pairwise (· ≤ ·) := by
  have := List.pairwise_mergeSort (le := fun x y : Int => decide (x ≤ y)) (fun a b c h1 h2 => by simp at *; omega) (fun a b => by simp; omega) l
  exact this.imp (fun h => by simpa using h)
def eachS (c : Ck) (gs : List (List Int)) : List (Int × List (List Int)) := gs.foldl (noteF c) []
def shoC (c : Ck) (lits hints : List Int) : Int :=
  if (shwS lits (rowsS c (splS hints).1)).2 ≠ 23 ∨ lits = [] then (shwS lits (rowsS c (splS hints).1)).2
  else if (ratS (rowsS c (idsS c)) lits (rowsS c (splS hints).1) (eachS c (splS hints).2)).2 ≠ 0 then 24 else 0
structure CkOk (c : Ck) : Prop where
  n : c.m.length ≤ 100000
  w : ∀ q ∈ c.m, wfI q.1
  l : ∀ q ∈ c.m, q.2.length ≤ 100000
theorem lk_in {α : Type} : ∀ {l : List (Int × α)} {k : Int} {x : α}, lk l k = some x → (k, x) ∈ l
  | (j, y) :: l, k, x, h => by
    rw [lk] at h
    split at h
    · rename_i e
      subst e
      injection h with h
      subst h
      exact List.mem_cons_self
    · exact List.mem_cons_of_mem _ (lk_in h)
theorem rowsS_le {c : Ck} (h : CkOk c) (ids : List Int) : (rowsS c ids).length = ids.length ∧ ∀ x ∈ rowsS c ids, x.length ≤ 100000 := by
  refine ⟨by unfold rowsS; simp, fun x hx => ?_⟩
  unfold rowsS at hx
  rw [List.mem_map] at hx
  obtain ⟨id, _, rfl⟩ := hx
  cases e : lk c.m id with
  | none => simp
  | some y => exact h.l _ (lk_in e)
theorem noteF_le {c : Ck} (h : CkOk c) {each : List (Int × List (List Int))} {g : List Int} (hg : g.length ≤ 100000) (he : ∀ j r, lk each j = some r → r.length ≤ 100000 ∧ ∀ x ∈ r, x.length ≤ 100000) :
    ∀ j r, lk (noteF c each g) j = some r → r.length ≤ 100000 ∧ ∀ x ∈ r, x.length ≤ 100000 := by
  intro j r hr
  unfold noteF at hr
  split at hr
  · rw [lk_pt] at hr
    split at hr
    · injection hr with hr
      subst hr
      have := rowsS_le h g.tail
      exact ⟨by rw [this.1, List.length_tail]; omega, this.2⟩
    · exact he j r hr
  · exact he j r hr
theorem eachS_le {c : Ck} (h : CkOk c) : ∀ (gs : List (List Int)) (each : List (Int × List (List Int))), (∀ g ∈ gs, g.length ≤ 100000) → (∀ j r, lk each j = some r → r.length ≤ 100000 ∧ ∀ x ∈ r, x.length ≤ 100000) →
    ∀ j r, lk (gs.foldl (noteF c) each) j = some r → r.length ≤ 100000 ∧ ∀ x ∈ r, x.length ≤ 100000
  | [], each, _, he => he
  | g :: gs, each, hg, he => eachS_le h gs _ (fun x hx => hg x (List.mem_cons_of_mem _ hx)) (noteF_le h (hg g List.mem_cons_self) he)
theorem splF_ne {x : List Int × List (List Int)} {h : Int} (hx : ∀ g ∈ x.2, g ≠ []) : ∀ g ∈ (splF x h).2, g ≠ [] := by
  intro g hg
  unfold splF at hg
  split at hg
  · rcases List.mem_append.1 hg with hg | hg
    · exact hx g hg
    · rw [List.mem_singleton] at hg; subst hg; simp
  · split at hg
    · exact hx g hg
    · rcases List.mem_append.1 hg with hg | hg
      · exact hx g (List.dropLast_subset _ hg)
      · rw [List.mem_singleton] at hg; subst hg; simp
theorem splTo_ne (hs : List Int) : ∀ i, i ≤ hs.length → ∀ g ∈ (splTo hs i).2, g ≠ []
  | 0, _ => fun g hg => by simp [splTo] at hg
  | i + 1, h => by
    rw [splTo_succ hs (by omega)]
    exact splF_ne (splTo_ne hs i (by omega))
theorem Weak.frzC {k0 : Nat} {st : St} {b k e : Nat} {nw : Bool} {rows : List (List PV)} (h : posGet st (.cell b k) = .own nw e rows) : Weak k0 st (setPos st (.cell b k) (.pv (.seq nw e rows))) := fun g a w _ hs => by
  obtain ⟨g', t, _, _, _, s, _⟩ := hs.freeze (p := .cell b k) (by rw [h]; rfl)
  rw [h] at s
  exact ⟨g', t, s⟩
def cshSch : Sch :=
  let E : Sch := .fork [(6, .take 7 (.take 8 (.take 9 (.take 10 (.take 11 .done)))))]
  let T : Sch := .fork [(2, E)]
  let U : Sch := .fork [(2, .fork [(5, E)]), (5, T)]
  let A : Sch := .fork [(1, U), (5, .fork [(1, T)])]
  let B : Sch := .fork [(0, U), (5, .fork [(0, T)])]
  let C : Sch := .fork [(0, .fork [(1, T)]), (1, .fork [(0, T)])]
  .take 3 (.take 4 (.fork [(0, A), (1, B), (5, C)]))
set_option maxRecDepth 16000 in
theorem cshow_ok (c : Ck) (hc : CkOk c) (lits hints : List Int) (hl : lits.length ≤ 100000) (hh : hints.length ≤ 100000) :
    APure Tryz.prog 159 [ckP c, .seq false 1 (irow lits), .seq false 1 (irow hints)] (fun r => r = .pv (I64 (shoC c lits hints))) := by
  refine apure1B [15] hmo Tryz.func159 (by kernel_rfl) rfl rfl (by kernel_rfl) (Nat.le_of_ble_eq_true rfl) ?_
  have hSp := fun g => prSplit_ok g hints (by omega)
  have hS : shoC c lits hints = if (shwS lits (rowsS c (splS hints).1)).2 ≠ 23 ∨ lits = [] then (shwS lits (rowsS c (splS hints).1)).2
    else if (ratS (rowsS c (idsS c)) lits (rowsS c (splS hints).1) (eachS c (splS hints).2)).2 ≠ 0 then 24 else 0 := rfl
  have hsl := splTo_len hints hints.length (Nat.le_refl _)
  have hsn := splTo_ne hints hints.length (Nat.le_refl _)
  have hspl : splS hints = splTo hints hints.length := rfl
  rw [← hspl] at hsl hsn
  generalize splS hints = sp at *
  obtain ⟨ahead, groups⟩ := sp
  simp only at hsl hsn hS hSp
  obtain ⟨hsl1, hsl2⟩ := hsl
  have hra := rowsS_le hc ahead
  have hri := rowsS_le hc (idsS c)
  have hil : (idsS c).length ≤ 100000 := by unfold idsS sortZ; rw [List.length_mergeSort, List.length_map]; exact hc.n
  have hf := (lrows_ok [] c ahead (by omega)).mono (R' := fun r _ => r = .pv (.seq true 1 ((rowsS c ahead).map crowF))) fun _ _ h => h.2
  have hfi := (lrows_ok [] c (idsS c) (by omega)).mono (R' := fun r _ => r = .pv (.seq true 1 ((rowsS c (idsS c)).map crowF))) fun _ _ h => h.2
  have hSh := rShowP_ok lits (rowsS c ahead) (by omega) (fun x hx => by have := hra.2 x hx; omega)
  generalize shoC c lits hints = S at *
  simp
  refine CallK.introM (hSp _) (by simp) ?_
  rintro _ _ ⟨rfl, rfl⟩
  simp
  refine ⟨rfl, CallK.introX (CallX.pureM (p := []) (q := []) (zs := [.seq true 1 (irow ahead), .fn (.func 192) [ckP c] []]) (hf.args (by simp [wkPL, wkP, wkRR_self])) (by simp) rfl (by simp [argsPv]) (by simp) (by simp) ?_)⟩
  simp
  refine CallK.intro hSh (by simp) ?_
  generalize shwS lits (rowsS c ahead) = sh at *
  obtain ⟨shn, she⟩ := sh
  simp only at hS
  by_cases c1 : she = 23
  rotate_left
  · rw [if_pos (.inl c1)] at hS
    subst hS
    simp [c1]
  by_cases c2 : lits = []
  · rw [if_pos (.inr c2)] at hS
    subst hS
    simp [c1, c2]
  rw [if_neg (fun e => e.elim (fun e => e c1) c2)] at hS
  have hI := cids_ok c hc.w (by have := hc.n; omega)
  simp [c1, c2]
  refine CallK.intro hI (by simp) ?_
  simp
  obtain ⟨E, hE⟩ : ∃ E : Nat → List (Int × List (List Int)), ∀ i, E i = (groups.take i).foldl (noteF c) [] := ⟨_, fun _ => rfl⟩
  refine ALoop.intro (S := fun (i : Nat) => ⟨[(1, .pv (.seq false 1 (irow lits))), (9, .pv (.ptr 0 0)), (10, .pv (.seq true 1 ((rowsS c ahead).map crowF))), (13, .pv (.ptr 1 0)), (14, .pv (.ptr 2 0)), (15, .pv (.fn (.func 195) [] [.ptr 1 0, .ptr 0 0, .ptr 2 0])), (48, .pv (.seq true 1 (groups.map crowF))), (49, .pv (I64 groups.length)), (50, .pv (I64 i))], [[.pv (.fn (.func 192) [ckP c] [])], [.pv (.seq true 1 (irow (idsS c)))], [.omap true (mapE fR (E i))]]⟩) (fun i => i ≤ groups.length) (fun i => groups.length - i) 0 ?_ (Nat.zero_le _) ?_
  · exact (Weak.frzC (b := 1) (k := 0) (e := 1) (nw := true) (rows := irow (idsS c)) (by simp)).trans (Weak.keep (by simp) (by simp [hE, mapE]))
  intro i hi
  by_cases h : i < groups.length
  · have hw : w64 ((i : Int) + 1) = ((i + 1 : Nat) : Int) := by rw [w64_id (by omega) (by omega)]; omega
    have hrow := crowF_at groups h
    have hEs : E (i + 1) = noteF c (E i) groups[i] := by rw [hE, hE]; exact foldl_take_succ (noteF c) [] groups i h
    have hgn := hsn _ (List.getElem_mem h)
    have hgl := hsl2 _ (List.getElem_mem h)
    generalize groups[i] = g at *
    obtain ⟨x, l, rfl⟩ : ∃ x l, g = x :: l := by
      cases g with
      | nil => exact absurd rfl hgn
      | cons x c => exact ⟨x, c, rfl⟩
    simp only [List.length_cons] at hgl
    have hN := note_ok [[.pv (.fn (.func 192) [ckP c] [])], [.pv (.seq true 1 (irow (idsS c)))], [.omap true (mapE fR (E i))]] c (E i) 1 0 2 x l (by omega) rfl rfl rfl (by omega) (sortZ_pairwise _)
    simp [h, hrow]
    refine CallB.intro hN (by simp) ?_
    rintro _ _ ⟨rfl, rfl⟩
    simp
    exact ⟨i + 1, by (try dsimp only); omega, by (try dsimp only); omega, Weak.keep (by simp [hw]) (by simp [hEs])⟩
  · have hie : i = groups.length := by omega
    subst hie
    have hEe : E groups.length = eachS c groups := by rw [hE, List.take_length]; rfl
    have hR := ratShow_ok (rowsS c (idsS c)) lits (rowsS c ahead) (eachS c groups) (by omega) hri.2 hl (by omega) hra.2 (eachS_le hc groups [] (fun g hg => by have := hsl2 g hg; omega) (fun j r hr => by cases hr))
    simp [hEe]
    refine AAnyD.meet cshSch ⟨[(19, .pv (I64 (ratS (rowsS c (idsS c)) lits (rowsS c ahead) (eachS c groups)).2))], [[.pv (.fn (.func 192) [ckP c] [])], [.pv (.seq true 1 (irow (idsS c)))], [.omap true (mapE fR (eachS c groups))]]⟩ (by kernel_rfl) ?_ ?_
    · simp [cshSch]
      and_intros
      all_goals
        refine CallK.introX (CallX.pureM (p := []) (q := []) (zs := [.seq true 1 (irow (idsS c)), .fn (.func 192) [ckP c] []]) (hfi.args (by simp [wkPL, wkP, wkRR_self])) (by simp) rfl (by simp [argsPv]) (by simp) (by simp) ?_)
        simp
        refine CallK.intro hR (by simp) ?_
        simp
        exact Weak.keep (by simp) (by simp)
    · by_cases d : (ratS (rowsS c (idsS c)) lits (rowsS c ahead) (eachS c groups)).2 = 0
      · rw [if_neg (by simp [d])] at hS
        subst hS
        simp [d]
      · rw [if_pos d] at hS
        subst hS
        simp [d]
end Go.AX
