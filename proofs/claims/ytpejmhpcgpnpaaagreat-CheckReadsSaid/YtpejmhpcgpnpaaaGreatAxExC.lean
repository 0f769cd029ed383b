/-
  EX, part B: what an operation does, of plain data.
  EX, part C: the executor.
-/
import Derived.Test.YtpejmhpcgpnpaaaGreatAxExA
import Derived.Test.YtpejmhpcgpnpaaaGreatAxBe
namespace Go.EX
open Go.AX
inductive PR where
  | v (x : CV)
  | rd (b : Ps) (f : CB → Option CV)
  | al (c : CB) (f : Ps → CV)
  | wr (b : Ps) (f : CB → Option (CV × CB))
  | gw (f : Tr CB → Ps → Option (CV × Tr CB × Ps))
  | ca (f : FuncId) (args : List CV)
def CV.un : CV := .t []
def PR.o : Option CV → Option PR
 | some x => some (.v x)
 | none => none
/-! ### What types say -/
def zer (P : Program) (t : TypeId) : Option CV :=
 match P.info? t with
 | some i => match i.zero with
  | some v => cvOf v
  | none => none
 | none => none
def elt (P : Program) (t : TypeId) : Option TypeId :=
 match P.underlying t with
 | some (.slice e) => some e
 | _ => none
/-! ### Lists of cells -/
def put : List CV → Nat → List CV → Option (List CV)
 | xs, 0, [] => some xs
 | x :: xs, k + 1, ys => match put xs k ys with
  | some zs => some (x :: zs)
  | none => none
 | _ :: xs, 0, y :: ys => match put xs 0 ys with
  | some zs => some (y :: zs)
  | none => none
 | [], 0, _ :: _ => none
 | [], _ + 1, _ => none
def tak : List CV → Nat → Option (List CV)
 | _, 0 => some []
 | x :: xs, k + 1 => match tak xs k with
  | some zs => some (x :: zs)
  | none => none
 | [], _ + 1 => none
def drp : List CV → Nat → List CV
 | xs, 0 => xs
 | _ :: xs, k + 1 => drp xs k
 | [], _ + 1 => []
def hd : List CV → Option CV
 | x :: _ => some x
 | [] => none
def len : List CV → Nat
 | [] => 0
 | _ :: xs => Nat.succ (len xs)
def rep (zs : List CV) : Nat → List CV
 | 0 => []
 | n + 1 => zs ++ rep zs n
def fil (pl : Nat → Option (Nat × Nat)) : List CV → List (Nat × CV) → Option (List CV)
 | cs, [] => some cs
 | cs, (i, y) :: r => match pl i with
  | some (off, n) => match Nat.beq (len y.cells) n with
   | true => match put cs off y.cells with
    | some cs' => fil pl cs' r
    | none => none
   | false => none
  | none => none
def rdc (ag : Bool) (n off : Nat) : CB → Option CV
 | .c _ xs => match ag with
  | true => match tak (drp xs off) n with
   | some ys => some (.a ys)
   | none => none
  | false => hd (drp xs off)
 | .mp _ _ => none
def wrc (ys : List CV) (off : Nat) : CB → Option (CV × CB)
 | .c T xs => match allOne ys with
  | true => match put xs off ys with
   | some zs => some (.un, .c T zs)
   | none => none
  | false => none
 | .mp _ _ => none
theorem len_eq : ∀ xs : List CV, len xs = xs.length
 | [] => rfl
 | _ :: xs => by show Nat.succ (len xs) = _; rw [len_eq xs]; rfl
theorem drp_eq : ∀ (xs : List CV) (k : Nat), drp xs k = xs.drop k
 | [], 0 => rfl
 | [], _ + 1 => rfl
 | _ :: _, 0 => rfl
 | _ :: xs, k + 1 => drp_eq xs k
theorem hd_eq (xs : List CV) : hd xs = xs[0]? := by cases xs <;> rfl
theorem tak_eq : ∀ {xs : List CV} {k : Nat} {ys : List CV}, tak xs k = some ys → ys = xs.take k ∧ k ≤ xs.length
 | [], 0, _, h => by cases h; simp
 | _ :: _, 0, _, h => by simp [tak] at h; subst h; simp
 | [], _ + 1, _, h => by cases h
 | x :: xs, k + 1, ys, h => by
  simp only [tak] at h; split at h
  ·rename_i zs hz; cases h; obtain ⟨h1, h2⟩ := tak_eq hz; exact ⟨by simp [h1], by simp; omega⟩
  ·cases h
theorem put_eq : ∀ {xs : List CV} {k : Nat} {ys zs : List CV}, put xs k ys = some zs → k + ys.length ≤ xs.length ∧ zs = splice xs k ys
 | [], 0, [], zs, h => by cases h; exact ⟨Nat.le_refl _, rfl⟩
 | x :: xs, 0, [], zs, h => by simp [put] at h; subst h; exact ⟨by simp, by simp [splice]⟩
 | [], 0, _ :: _, zs, h => by simp [put] at h
 | [], _ + 1, _, zs, h => by simp [put] at h
 | x :: xs, k + 1, ys, zs, h => by
  simp only [put] at h; split at h
  ·rename_i us hu; cases h; obtain ⟨h1, h2⟩ := put_eq hu; refine ⟨by simp; omega, ?_⟩; rw [h2]; simp [splice, Nat.add_right_comm]
  ·cases h
 | x :: xs, 0, y :: ys, zs, h => by
  simp only [put] at h; split at h
  ·rename_i us hu; cases h; obtain ⟨h1, h2⟩ := put_eq hu; refine ⟨by simp at h1 ⊢; omega, ?_⟩; rw [h2]; simp [splice]
  ·cases h
/-! ### Operators -/
def bI (op : BinOp) (k : IntKind) (a b : Int) : Option CV :=
 match op with
 | .add => some (.i k (k.wrap (a + b)))
 | .sub => some (.i k (k.wrap (a - b)))
 | .mul => some (.i k (k.wrap (a * b)))
 | .quo => if b = 0 then none else some (.i k (k.wrap (a.tdiv b)))
 | .rem => if b = 0 then none else some (.i k (a.tmod b))
 | .lss => some (.b (decide (a < b)))
 | .leq => some (.b (decide (a ≤ b)))
 | .gtr => some (.b (decide (b < a)))
 | .geq => some (.b (decide (b ≤ a)))
 | .eql => some (.b (decide (a = b)))
 | .neq => some (.b (!decide (a = b)))
 | .and => some (.i k (bits .and k a b))
 | _ => none
def shI (op : BinOp) (k : IntKind) (a b : Int) : Option CV :=
 match op with
 | .shl => if b < 0 then none else some (.i k (k.wrap (a * 2 ^ min b.toNat k.bits)))
 | .shr => if b < 0 then none else some (.i k (a.fdiv (2 ^ min b.toNat k.bits)))
 | _ => none
def sEq : List Nat → List Nat → Bool
 | [], [] => true
 | x :: xs, y :: ys => match Nat.beq x y with
  | true => sEq xs ys
  | false => false
 | _, _ => false
def bS (op : BinOp) (a b : List Nat) : Option CV :=
 match op with
 | .add => if a.length + b.length ≤ 1000000 then some (.s (a ++ b)) else none
 | .eql => some (.b (sEq a b))
 | .neq => some (.b (!sEq a b))
 | _ => none
def eqO (op : BinOp) (x : Bool) : Option CV :=
 match op with
 | .eql => some (.b x)
 | .neq => some (.b (!x))
 | _ => none
def nilC : Nl → CV → Option Bool
 | .p, .k .p => some true
 | .p, .p _ _ => some false
 | .s, .k .s => some true
 | .s, .sl _ _ _ _ => some false
 | .s, .su _ _ _ _ => some false
 | .s, .se => some false
 | .m, .k .m => some true
 | .m, .m _ => some false
 | _, _ => none
def flI : List CV → Option (List (IntKind × Int))
 | [] => some []
 | .i k n :: r => match flI r with
  | some l => some ((k, n) :: l)
  | none => none
 | _ :: _ => none
def bin (P : Program) (op : BinOp) (t : TypeId) : CV → CV → Option CV
 | .i k a, .i k' b => match shI op k a b with
  | some x => some x
  | none => if k = k' then bI op k a b else none
 | .b a, .b b => match P.underlying t with
  | some .bool => eqO op (a == b)
  | _ => none
 | .s a, .s b => bS op a b
 | .a xs, .a ys => match tk P t with
  | .flat n => match flI xs, flI ys with
   | some A, some B => if A.length = n ∧ A.map (·.1) = B.map (·.1) then eqO op (decide (A.map (·.2) = B.map (·.2))) else none
   | _, _ => none
  | _ => none
 | x, .k c => match P.underlying t, c, nilC c x with
  | some (.pointer _), .p, some q => eqO op q
  | some (.slice _), .s, some q => eqO op q
  | some (.map _ _), .m, some q => eqO op q
  | _, _, _ => none
 | _, _ => none
def una (op : UnOp) : CV → Option CV
 | .b x => match op with
  | .not => some (.b (!x))
  | _ => none
 | .i k n => match op with
  | .neg => some (.i k (k.wrap (0 - n)))
  | _ => none
 | _ => none
/-! ### Slices -/
def bnd (ρ : Operand → Option CV) (d : Nat) : Option Operand → Option Nat
 | none => some d
 | some x => match ρ x with
  | some (.i _ (.ofNat n)) => some n
  | _ => none
def cut (P : Program) (t : TypeId) (ρ : Operand → Option CV) (lo hi mx : Option Operand) : CV → Option PR
 | .s s => match P.underlying t, mx, bnd ρ 0 lo, bnd ρ s.length hi with
  | some .string, none, some l, some h => if l ≤ h ∧ h ≤ s.length then some (.v (.s ((s.take h).drop l))) else none
  | _, _, _, _ => none
 | .p b off => match arSize P t with
  | some (n, e) => match bnd ρ 0 lo, bnd ρ n hi, bnd ρ n mx with
   | some l, some h, some m => if l ≤ h ∧ h ≤ m ∧ m ≤ n ∧ (mx.isSome = true → hi.isSome = true) then some (.v (.sl b (if m = l then off else off + l * e) (h - l) (m - l))) else none
   | _, _, _ => none
  | none => none
 | .k .s => match slSize P t, bnd ρ 0 lo, bnd ρ 0 hi, bnd ρ 0 mx with
  | some _, some 0, some 0, some 0 => match !mx.isSome || hi.isSome with
   | true => some (.v (.k .s))
   | false => none
  | _, _, _, _ => none
 | .sl b off n cap => match slSize P t with
  | some e => match bnd ρ 0 lo, bnd ρ n hi, bnd ρ cap mx with
   | some l, some h, some m => if l ≤ h ∧ h ≤ m ∧ m ≤ cap ∧ (mx.isSome = true → hi.isSome = true) then some (.v (.sl b (if m = l then off else off + l * e) (h - l) (m - l))) else none
   | _, _, _ => none
  | none => none
 | .su b off n e' => match slSize P t with
  | some e => match mx with
   | some _ => match bnd ρ 0 lo, bnd ρ n hi, bnd ρ n mx with
    | some l, some h, some m => if l ≤ h ∧ h ≤ m ∧ m ≤ n ∧ hi.isSome = true then some (.v (.sl b (if m = l then off else off + l * e) (h - l) (m - l))) else none
    | _, _, _ => none
   | none => match bnd ρ 0 lo, bnd ρ n hi with
    | some l, some h => if l ≤ h ∧ e' = e ∧ 0 < e then
     if h ≤ n then some (.v (if l = 0 then .su b off h e else if l = h then .se else .su b (off + l * e) (h - l) e))
     else some (.rd b fun c => match c with
      | .c _ xs => if off + h * e ≤ xs.length then some (if l = 0 then .su b off h e else if l = h then .se else .su b (off + l * e) (h - l) e) else none
      | .mp _ _ => none)
     else none
    | _, _ => none
  | none => none
 | _ => none
noncomputable def src (h : Tr CB) (e : Nat) : CV → Option (Nat × List CV)
 | .k .s => some (0, [])
 | .se => some (0, [])
 | .sl b off n _ => match h.get b with
  | some (.c _ xs) => match tak (drp xs off) (n * e) with
   | some ys => some (n, ys)
   | none => none
  | _ => none
 | .su b off n _ => match h.get b with
  | some (.c _ xs) => match tak (drp xs off) (n * e) with
   | some ys => some (n, ys)
   | none => none
  | _ => none
 | _ => none
noncomputable def app (P : Program) (t : TypeId) (s x : CV) (h : Tr CB) (n : Ps) : Option (CV × Tr CB × Ps) :=
 match slInfo P t, elt P t with
 | some (e, by_), some el => match src h e x with
  | some (nx, ys) => if 0 < e ∧ 0 < by_ ∧ nx * by_ ≤ 1000000000 ∧ allOne ys = true then
   match s with
   | .k .s => if nx = 0 then some (s, h, n) else some (.su n 0 nx e, h.set (some (.c el ys)) n, n.succ)
   | .sl b off k cap => match h.get b with
    | some (.c T xs) => if nx = 0 then some (s, h, n) else
      if k + nx ≤ cap then match put xs (off + k * e) ys with
       | some zs => some (.sl b off (k + nx) cap, h.set (some (.c T zs)) b, n)
       | none => none
      else match tak (drp xs off) (k * e) with
       | some us => if (k + nx) * by_ ≤ 1000000000 then some (.su n 0 (k + nx) e, h.set (some (.c el (us ++ ys))) n, n.succ) else none
       | none => none
    | _ => none
   | .su b off k e' => match h.get b with
    | some (.c T xs) => if nx = 0 then some (s, h, n) else
      if e' = e ∧ off + (k + nx) * e ≤ xs.length then match put xs (off + k * e) ys with
       | some zs => some (.su b off (k + nx) e, h.set (some (.c T zs)) b, n)
       | none => none
      else match tak xs (k * e) with
       | some us => if e' = e ∧ off = 0 ∧ T = el ∧ (k + nx) * by_ ≤ 1000000000 then some (.su n 0 (k + nx) e, (h.set none b).set (some (.c el (us ++ ys))) n, n.succ) else none
       | none => none
    | _ => none
   | _ => none
   else none
  | none => none
 | _, _ => none
noncomputable def cpy (P : Program) (t : TypeId) (s x : CV) (h : Tr CB) (n : Ps) : Option (CV × Tr CB × Ps) :=
 match slSize P t with
 | some e => match src h e x with
  | some (nx, ys) => match s with
   | .k .s => some (.i .i64 0, h, n)
   | .se => some (.i .i64 0, h, n)
   | .sl b off k _ => match h.get b with
    | some (.c T xs) => match put xs off (ys.take (min nx k * e)) with
     | some zs => if allOne ys = true then some (.i .i64 (min nx k : Nat), h.set (some (.c T zs)) b, n) else none
     | none => none
    | _ => none
   | .su b off k _ => match h.get b with
    | some (.c T xs) => match put xs off (ys.take (min nx k * e)) with
     | some zs => if allOne ys = true then some (.i .i64 (min nx k : Nat), h.set (some (.c T zs)) b, n) else none
     | none => none
    | _ => none
   | _ => none
  | none => none
 | none => none
/-! ### Maps -/
def kEq : CV → CV → Option Bool
 | .i k a, .i k' b => if k = k' then some (decide (a = b)) else none
 | _, _ => none
def fnd (k : CV) : List (CV × CV × Nat) → Nat → Option (Option (Nat × CV))
 | [], _ => some none
 | (k', x, _) :: r, i => match kEq k k' with
  | some true => some (some (i, x))
  | some false => fnd k r (i + 1)
  | none => none
def mpI (P : Program) (t : TypeId) : Option CV :=
 match P.underlying t with
 | some (.map k e) => match P.underlying k with
  | some (.int _) => zer P e
  | _ => none
 | _ => none
def lok (ok : Bool) (z : CV) : Option (Nat × CV) → CV
 | some (_, x) => if ok then .t [x, .b true] else x
 | none => if ok then .t [z, .b false] else z
def keyOk (P : Program) (t : TypeId) : CV → Bool
 | .i _ _ => match P.underlying t with
  | some (.map k _) => match P.underlying k with
   | some (.int _) => true
   | _ => false
  | _ => false
 | _ => false
def ixb (c : Nat) : List Nat → Nat → Int
 | [], _ => -1
 | x :: r, k => match Nat.beq x c with
  | true => .ofNat k
  | false => ixb c r (Nat.succ k)
def xtn (P : Program) (id : FuncId) (args : List CV) : Option CV :=
 match P.funcs[id]? with
 | some fn => match fn.body.isNone && fn.origin == "" && fn.name == "internal/bytealg.IndexByteString", args with
  | true, [.s l, .i .u8 (.ofNat c)] => match Nat.blt c 256 with
   | true => some (.i .i64 (ixb c l 0))
   | false => none
  | _, _ => none
 | none => none
/-! ### Operations -/
def opL (ρ : Operand → Option CV) : List Operand → Option (List CV)
 | [] => some []
 | x :: r => match ρ x with
  | some c => match opL ρ r with
   | some cs => some (c :: cs)
   | none => none
  | none => none
def prt (ρ : Operand → Option CV) : List (Nat × Operand) → Option (List (Nat × CV))
 | [] => some []
 | (i, x) :: r => match ρ x with
  | some c => match prt ρ r with
   | some cs => some ((i, c) :: cs)
   | none => none
  | none => none
def byt : List CV → Option (List Nat)
 | [] => some []
 | .i .u8 (.ofNat n) :: r => match Nat.ble n 255 with
  | true => match byt r with
   | some l => some (n :: l)
   | none => none
  | false => none
 | _ :: _ => none
def isBy (P : Program) (s d : TypeId) : Bool :=
 match P.underlying s, P.underlying d with
 | some (.slice e), some .string => match P.underlying e with
  | some (.int .u8) => true
  | _ => false
 | _, _ => false
def strR (n off : Nat) : CB → Option CV
 | .c _ xs => match tak (drp xs off) n with
  | some ys => match byt ys with
   | some l => some (.s l)
   | none => none
  | none => none
 | .mp _ _ => none
def cvt (P : Program) (s d : TypeId) : CV → Option PR
 | .i _ n => match P.underlying s, cvtK P d with
  | some _, some k => some (.v (.i k (k.wrap n)))
  | _, _ => none
 | .s l => match P.underlying s, P.underlying d with
  | some .string, some .string => some (.v (.s l))
  | _, _ => none
 | .k .s => if isBy P s d then some (.v (.s [])) else none
 | .se => if isBy P s d then some (.v (.s [])) else none
 | .sl b off n _ => if isBy P s d then some (.rd b (strR n off)) else none
 | .su b off n _ => if isBy P s d then some (.rd b (strR n off)) else none
 | _ => none
def msl (P : Program) (t : TypeId) : CV → CV → Option PR
 | .i _ (.ofNat l), .i _ (.ofNat c) => match slInfo P t, elt P t with
  | some (_, b), some el => match zer P el with
   | some z => if l ≤ c ∧ c * b ≤ 1000000000 ∧ 0 < b then some (.al (.c el (rep z.cells c)) fun p => .sl p 0 l c) else none
   | none => none
  | _, _ => none
 | _, _ => none
def ixa (P : Program) (t : TypeId) : CV → CV → Option PR
 | .sl b off n _, .i _ (.ofNat i) => match slSize P t with
  | some e => match Nat.blt i n with
   | true => some (.v (.p b (off + i * e)))
   | false => none
  | none => none
 | .su b off n _, .i _ (.ofNat i) => match slSize P t with
  | some e => match Nat.blt i n with
   | true => some (.v (.p b (off + i * e)))
   | false => none
  | none => none
 | .p b off, .i _ (.ofNat i) => match arSize P t with
  | some (n, e) => match Nat.blt i n with
   | true => some (.v (.p b (off + i * e)))
   | false => none
  | none => none
 | _, _ => none
def ixv (P : Program) (t : TypeId) : CV → CV → Option CV
 | .a xs, .i _ (.ofNat i) => match arInfo P t with
  | some (n, ag, e) => match Nat.blt i n with
   | true => rdc ag e (i * e) (.c 0 xs)
   | false => none
  | none => none
 | .s l, .i _ (.ofNat i) => match P.underlying t with
  | some .string => match l[i]? with
   | some b => some (.i .u8 b)
   | none => none
  | _ => none
 | _, _ => none
def lkp (P : Program) (t : TypeId) (ok : Bool) (k : CV) : CV → Option PR
 | .k .m => match mpI P t, keyOk P t k with
  | some z, true => some (.v (lok ok z none))
  | _, _ => none
 | .m b => match mpI P t, keyOk P t k with
  | some z, true => some (.rd b fun c => match c with
   | .mp es _ => match fnd k es 0 with
    | some r => some (lok ok z r)
    | none => none
   | .c _ _ => none)
  | _, _ => none
 | _ => none
def setE (i : Nat) (x : CV) : List (CV × CV × Nat) → List (CV × CV × Nat)
 | [] => []
 | (k, y, n) :: r => match i with
  | 0 => (k, x, n) :: r
  | i + 1 => (k, y, n) :: setE i x r
def mup (P : Program) (t : TypeId) (k x : CV) : CV → Option PR
 | .m b => match keyOk P t k with
  | true => some (.wr b fun c => match c with
   | .mp es ck => match fnd k es 0 with
    | some (some (i, _)) => some (.un, .mp (setE i x es) ck)
    | some none => some (.un, .mp (es ++ [(k, x, ck)]) (ck + 1))
    | none => none
   | .c _ _ => none)
  | false => none
 | _ => none
def mdl (P : Program) (t : TypeId) (k : CV) : CV → Option PR
 | .m b => match keyOk P t k with
  | true => some (.wr b fun c => match c with
   | .mp es ck => match fnd k es 0 with
    | some (some (i, _)) => some (.t [], .mp (es.eraseIdx i) ck)
    | some none => some (.t [], .mp es ck)
    | none => none
   | .c _ _ => none)
  | false => none
 | _ => none
def clr (P : Program) (t : TypeId) : CV → Option PR
 | .k .m => match P.underlying t with
  | some (.map _ _) => some (.v (.t []))
  | _ => none
 | .k .s => match P.underlying t with
  | some (.slice _) => some (.v (.t []))
  | _ => none
 | .se => match P.underlying t with
  | some (.slice _) => some (.v (.t []))
  | _ => none
 | .m b => match P.underlying t with
  | some (.map _ _) => some (.wr b fun c => match c with
   | .mp _ ck => some (.t [], .mp [] ck)
   | .c _ _ => none)
  | _ => none
 | .sl b off n _ => match elt P t with
  | some el => match zer P el with
   | some z => match n with
    | 0 => some (.v (.t []))
    | n + 1 => some (.wr b (wrc (rep z.cells (n + 1)) off))
   | none => none
  | none => none
 | .su b off n _ => match elt P t with
  | some el => match zer P el with
   | some z => match n with
    | 0 => some (.v (.t []))
    | n + 1 => some (.wr b (wrc (rep z.cells (n + 1)) off))
   | none => none
  | none => none
 | _ => none
def lenV (P : Program) (t : TypeId) : CV → Option PR
 | .s l => match P.underlying t with
  | some .string => some (.v (.i .i64 (len' l)))
  | _ => none
 | .k .s => match P.underlying t with
  | some (.slice _) => some (.v (.i .i64 0))
  | _ => none
 | .se => match P.underlying t with
  | some (.slice _) => some (.v (.i .i64 0))
  | _ => none
 | .sl _ _ n _ => match P.underlying t with
  | some (.slice _) => some (.v (.i .i64 n))
  | _ => none
 | .su _ _ n _ => match P.underlying t with
  | some (.slice _) => some (.v (.i .i64 n))
  | _ => none
 | .k .m => match P.underlying t with
  | some (.map _ _) => some (.v (.i .i64 0))
  | _ => none
 | .m b => match P.underlying t with
  | some (.map _ _) => some (.rd b fun c => match c with
   | .mp es _ => some (.i .i64 es.length)
   | .c _ _ => none)
  | _ => none
 | _ => none
where len' : List Nat → Nat
  | [] => 0
  | _ :: r => Nat.succ (len' r)
noncomputable def blt (P : Program) (b : Builtin) (ts : List TypeId) (cs : List CV) : Option PR :=
 match b, ts, cs with
 | .len, [t], [x] => lenV P t x
 | .cap, [t], [.sl _ _ _ c] => match P.underlying t with
  | some (.slice _) => some (.v (.i .i64 c))
  | _ => none
 | .cap, [t], [.k .s] => match P.underlying t with
  | some (.slice _) => some (.v (.i .i64 0))
  | _ => none
 | .min, _, [.i k a, .i _ b] => some (.v (.i k (if b < a then b else a)))
 | .max, _, [.i k a, .i _ b] => some (.v (.i k (if a < b then b else a)))
 | .append, [t, u], [s, x] => match Nat.beq t u with
  | true => some (.gw (app P t s x))
  | false => none
 | .copy, [t, _], [s, x] => some (.gw (cpy P t s x))
 | .delete, [t, _], [m, k] => mdl P t k m
 | .clear, [t], [x] => clr P t x
 | _, _, _ => none
noncomputable def pop (P : Program) (op : Op) (ρ : Operand → Option CV) : Option PR :=
 match op with
 | .move x => PR.o (ρ x)
 | .assign x => PR.o (ρ x)
 | .pick c a b => match ρ c with
  | some (.b true) => PR.o (ρ a)
  | some (.b false) => PR.o (ρ b)
  | _ => none
 | .alloc T => match zer P T with
  | some z => match allOne z.cells with
   | true => some (.al (.c T z.cells) fun p => .p p 0)
   | false => none
  | none => none
 | .box T x => match ρ x with
  | some c => match allOne c.cells with
   | true => some (.al (.c T c.cells) fun p => .p p 0)
   | false => none
  | none => none
 | .build t ps => match bInfo P t, zer P t, prt ρ ps.toList with
  | some pl, some z, some cs => match fil (pl[·]?) z.cells cs with
   | some xs => some (.v (.a xs))
   | none => none
  | _, _, _ => none
 | .buildSlice t n ps => match slInfo P t, elt P t, prt ρ ps.toList with
  | some (e, _), some el, some cs => match zer P el with
   | some z => if n * e ≤ 16777216 ∧ 0 < e then match fil (fun i => some (i * e, e)) (rep z.cells n) cs with
    | some xs => some (.al (.c el xs) fun p => .sl p 0 n n)
    | none => none
    else none
   | none => none
  | _, _, _ => none
 | .load t x => match ρ x, ldInfo P t with
  | some (.p b off), some (ag, n) => some (.rd b (rdc ag n off))
  | _, _ => none
 | .store t x y => match ρ x, ρ y, ldInfo P t with
  | some (.p b off), some c, some (_, n) => match Nat.beq (len c.cells) n with
   | true => some (.wr b (wrc c.cells off))
   | false => none
  | _, _, _ => none
 | .nilCheck x => match ρ x with
  | some (.p b off) => some (.v (.p b off))
  | some (.f (.func f) a c) => some (.v (.f (.func f) a c))
  | _ => none
 | .binOp o t x y _ => match ρ x, ρ y with
  | some a, some b => PR.o (bin P o t a b)
  | _, _ => none
 | .unOp o _ x => match ρ x with
  | some a => PR.o (una o a)
  | none => none
 | .convert s d x => match ρ x with
  | some a => cvt P s d a
  | none => none
 | .makeFunc fn a c => match opL ρ a.toList, opL ρ c.toList with
  | some xs, some ys => some (.v (.f fn xs ys))
  | _, _ => none
 | .makeMap t r => match r with
  | none => some (.al (.mp [] 0) .m)
  | some x => match ρ x, P.underlying t with
   | some (.i _ _), some (.map _ _) => some (.al (.mp [] 0) .m)
   | _, _ => none
 | .makeSlice t l c => match ρ l, ρ c with
  | some a, some b => msl P t a b
  | _, _ => none
 | .slice t x lo hi mx => match ρ x with
  | some a => cut P t ρ lo hi mx a
  | none => none
 | .fieldAddr t x f => match ρ x, fOff P t f with
  | some (.p b off), some d => some (.v (.p b (off + d)))
  | _, _ => none
 | .field t x f => match ρ x, fldInfo P t f with
  | some (.a xs), some (off, ag, n) => PR.o (rdc ag n off (.c 0 xs))
  | _, _ => none
 | .indexAddr t x i => match ρ x, ρ i with
  | some a, some b => ixa P t a b
  | _, _ => none
 | .index t x i => match ρ x, ρ i with
  | some a, some b => PR.o (ixv P t a b)
  | _, _ => none
 | .lookup t x k ok => match ρ x, ρ k with
  | some m, some k => lkp P t ok k m
  | _, _ => none
 | .mapUpdate t m k x => match ρ m, ρ k, ρ x with
  | some m, some k, some x => mup P t k x m
  | _, _, _ => none
 | .insert t m k x => match ρ m, ρ k, ρ x with
  | some m, some k, some x => mup P t k x m
  | _, _, _ => none
 | .extract x i => match ρ x with
  | some (.t xs) => PR.o xs[i]?
  | _ => none
 | .call c => match c.callee, opL ρ c.args.toList with
  | .builtin b, some cs => blt P b c.argTypes.toList cs
  | .value f, some cs => match ρ f with
   | some (.f (.func id) first cap) => match callable P id with
    | true => some (.ca id (first ++ cs ++ cap))
    | false => PR.o (xtn P id (first ++ cs ++ cap))
   | _ => none
  | _, _ => none
 | _ => none
end Go.EX

namespace Go.EX
open Go.AX
abbrev Hs := Option (CV × Tr CB × Ps)
abbrev Cal := FuncId → List CV → Tr CB → Ps → Hs
/-! ### What is reckoned at once -/
section
variable {R : Type}
noncomputable def frN (m : Nat) (k : Nat → R) : R := Nat.rec (motive := fun _ => R) (k 0) (fun m _ => k (Nat.succ m)) m
noncomputable def frI (n : Int) (k : Int → R) : R := Int.casesOn (motive := fun _ => R) n (fun m => frN m fun m => k (.ofNat m)) (fun m => frN m fun m => k (.negSucc m))
noncomputable def frP (p : Ps) (k : Ps → R) : R := Ps.rec (motive := fun _ => (Ps → R) → R) (fun k => k .e) (fun _ ih k => ih fun p => k (.z p)) (fun _ ih k => ih fun p => k (.o p)) p k
noncomputable def frS (l : List Nat) (k : List Nat → R) : R := List.rec (motive := fun _ => (List Nat → R) → R) (fun k => k []) (fun x _ ih k => frN x fun x => ih fun l => k (x :: l)) l k
noncomputable def fr1 (x : CV) (k : CV → R) : R :=
 match x with
 | .i d n => frI n fun n => k (.i d n)
 | .b true => k (.b true)
 | .b false => k (.b false)
 | .s l => frS l fun l => k (.s l)
 | .p b o => frN o fun o => k (.p b o)
 | .sl b o n c => frN o fun o => frN n fun n => frN c fun c => k (.sl b o n c)
 | .su b o n e => frN o fun o => frN n fun n => k (.su b o n e)
 | x => k x
noncomputable def frL (l : List CV) (k : List CV → R) : R := List.rec (motive := fun _ => (List CV → R) → R) (fun k => k []) (fun x _ ih k => fr1 x fun x => ih fun l => k (x :: l)) l k
noncomputable def frc (x : CV) (k : CV → R) : R :=
 match x with
 | .a xs => frL xs fun xs => k (.a xs)
 | .t xs => frL xs fun xs => k (.t xs)
 | x => fr1 x k
theorem frN_eq (m : Nat) (k : Nat → R) : frN m k = k m := by cases m <;> rfl
theorem frI_eq : ∀ (n : Int) (k : Int → R), frI n k = k n
 | .ofNat m, k => frN_eq m fun m => k (.ofNat m)
 | .negSucc m, k => frN_eq m fun m => k (.negSucc m)
theorem frP_eq : ∀ (p : Ps) (k : Ps → R), frP p k = k p
 | .e, _ => rfl
 | .z p, k => frP_eq p fun p => k (.z p)
 | .o p, k => frP_eq p fun p => k (.o p)
theorem frS_eq : ∀ (l : List Nat) (k : List Nat → R), frS l k = k l
 | [], _ => rfl
 | x :: l, k => (frN_eq x fun x => frS l fun l => k (x :: l)).trans (frS_eq l fun l => k (x :: l))
theorem fr1_eq (x : CV) (k : CV → R) : fr1 x k = k x := by
 unfold fr1; split <;> simp only [frI_eq, frS_eq, frN_eq]
theorem frL_eq : ∀ (l : List CV) (k : List CV → R), frL l k = k l
 | [], _ => rfl
 | x :: l, k => (fr1_eq x fun x => frL l fun l => k (x :: l)).trans (frL_eq l fun l => k (x :: l))
theorem frc_eq (x : CV) (k : CV → R) : frc x k = k x := by
 unfold frc; split <;> simp only [frL_eq, fr1_eq]
end
noncomputable def PR.run (cal : Cal) (h : Tr CB) (n : Ps) : PR → Hs
 | .v x => some (x, h, n)
 | .rd b f => match h.get b with
  | some c => match f c with
   | some x => some (x, h, n)
   | none => none
  | none => none
 | .al c f => frP n.succ fun n' => some (f n, h.set (some c) n, n')
 | .wr b f => match h.get b with
  | some c => match f c with
   | some (x, c') => some (x, h.set (some c') b, n)
   | none => none
  | none => none
 | .gw f => f h n
 | .ca f args => cal f args h n
noncomputable def ev (t : Tr CV) : Operand → Option CV
 | .tmp k => t.get (Ps.of k)
 | .const v => cvOf v
 | .func f => some (.f (.func f) [] [])
 | .global _ => none
noncomputable def pt (t : Tr CV) (d : Option Tmp) (x : CV) : Tr CV :=
 match d with
 | some d => t.set (some x) (Ps.of d)
 | none => t
noncomputable def wnt (ops : List Oper) (t : Tr CV) : Option (Nat × Bool) → Option Bool
 | none => some true
 | some (j, w) => match ops[j]? with
  | some o => match o.dst with
   | some d => match t.get (Ps.of d) with
    | some (.b x) => some (x == w)
    | some (.t []) => some false
    | _ => none
   | none => none
  | none => none
abbrev S3 := Option (Tr CV × Tr CB × Ps)
noncomputable def opr (P : Program) (cal : Cal) (ops : List Oper) (o : Oper) (t : Tr CV) (h : Tr CB) (n : Ps) : S3 :=
 match wnt ops t o.guard with
 | some true => match pop P o.op (ev t) with
  | some pr => match pr.run cal h n with
   | some (x, h, n) => frc x fun x => some (pt t o.dst x, h, n)
   | none => none
  | none => none
 | some false => some (pt t o.dst .un, h, n)
 | none => none
noncomputable def seqR (P : Program) (cal : Cal) (ops : List Oper) (l : List Oper) : Tr CV → Tr CB → Ps → S3 :=
 List.rec (motive := fun _ => Tr CV → Tr CB → Ps → S3) (fun t h n => some (t, h, n))
  (fun o _ ih t h n => match opr P cal ops o t h n with
   | some (t, h, n) => ih t h n
   | none => none) l
/-! ### Regions that draw their order -/
inductive Cl where
  | p
  | r
  | a
  | w
def cls : Op → Cl
 | .move _ | .assign _ | .pick .. | .build .. | .nilCheck _ | .binOp .. | .unOp .. | .makeFunc .. | .fieldAddr .. | .field .. | .indexAddr .. | .index .. | .extract .. => .p
 | .load .. | .lookup .. | .convert .. | .slice .. => .r
 | .alloc _ | .box .. | .buildSlice .. | .makeMap .. | .makeSlice .. => .a
 | .call { callee := .builtin .len, .. } => .r
 | .call { callee := .builtin .cap, .. } | .call { callee := .builtin .min, .. } | .call { callee := .builtin .max, .. } => .p
 | _ => .w
def isW (o : Oper) : Bool :=
 match cls o.op with
 | .w => true
 | _ => false
def isA (o : Oper) : Bool :=
 match cls o.op with
 | .a => true
 | _ => false
def isR (o : Oper) : Bool :=
 match cls o.op with
 | .r => true
 | _ => false
def edg (o : Oper) : List Nat := o.after.toList.filterMap fun e => match Region.binds .any e with
 | true => some e.on
 | false => none
def msk (acc : List Nat) (o : Oper) : Nat := (edg o).foldl (fun m j => m ||| 2 ^ j ||| acc.getD j 0) 0
def msks : List Oper → List Nat → List Nat
 | [], acc => acc
 | o :: r, acc => msks r (acc ++ [msk acc o])
def ordO (ops : List Oper) (ms : List Nat) : List Nat :=
 let l := ops.zipIdx
 let ws := (l.filter fun p => isW p.1).map (·.2)
 let late := fun i => (ws.findIdx? fun w => (ms.getD w 0).testBit i).getD ws.length
 let as := (l.filter fun p => isA p.1).map fun p => (p.2, late p.2)
 let stage := fun (o : Oper) i => (as.filter fun q => (ms.getD i 0).testBit q.1 || q.1 == i).foldl (fun m q => max m q.2) ((ws.filter fun w => (ms.getD i 0).testBit w).length)
 let rest := (l.filter fun p => !isW p.1).map fun p => (p.2, stage p.1 p.2)
 (List.range (ws.length + 1)).flatMap fun s => (match s with
  | 0 => []
  | s + 1 => (ws[s]?).toList) ++ (rest.filter fun q => q.2 == s).map (·.1)
abbrev Row := Nat × Nat × Oper
def rowsO (ops : List Oper) (ms : List Nat) : List Nat → Option (List Row)
 | [] => some []
 | i :: r => match ops[i]?, ms[i]?, rowsO ops ms r with
  | some o, some m, some l => some ((i, m, o) :: l)
  | _, _, _ => none
def prO (ops : Array Oper) (x y : Row) : Bool :=
 !(x.1 == y.1) && (y.2.1.testBit x.1 || !((isW y.2.2 && (isW x.2.2 || isA x.2.2)) || (isR y.2.2 && isW x.2.2))) &&
 (match y.2.2.dst with
 | some d => !(x.2.2.looksAt ops).contains d && !(x.2.2.dst == some d)
 | none => true) &&
 (match x.2.2.dst with
 | some d => !(y.2.2.looksAt ops).contains d || y.2.1.testBit x.1
 | none => true)
def selfO (ops : Array Oper) (x : Row) : Bool :=
 match x.2.2.dst with
 | some d => !(x.2.2.looksAt ops).contains d
 | none => true
def lkM : List Row → Nat → Nat
 | [], _ => 0
 | x :: r, j => match Nat.beq x.1 j with
  | true => x.2.1
  | false => lkM r j
def mkM (pre : List Row) : List Nat → Nat
 | [] => 0
 | j :: r => 2 ^ j ||| lkM pre j ||| mkM pre r
def okO (ops : Array Oper) : List Row → List Row → Bool
 | _, [] => true
 | pre, x :: r => selfO ops x && Nat.beq x.2.1 (mkM pre (edg x.2.2)) && (edg x.2.2).all (fun j => pre.any fun y => Nat.beq y.1 j) && r.all (fun y => prO ops x y) && okO ops (x :: pre) r
abbrev Pd := Nat × Ps × (CB → Option CV) × CV
def cE1 : CV → CV → Bool
 | .i k a, .i k' b => k == k' && a == b
 | .b a, .b b => a == b
 | .s a, .s b => sEq a b
 | .k .p, .k .p => true
 | .k .s, .k .s => true
 | .k .m, .k .m => true
 | .k .f, .k .f => true
 | .k .i, .k .i => true
 | .p b o, .p b' o' => b == b' && o == o'
 | .sl b o n c, .sl b' o' n' c' => b == b' && o == o' && n == n' && c == c'
 | .su b o n c, .su b' o' n' c' => b == b' && o == o' && n == n' && c == c'
 | .se, .se => true
 | .m b, .m b' => b == b'
 | _, _ => false
def cEL : List CV → List CV → Bool
 | [], [] => true
 | x :: xs, y :: ys => cE1 x y && cEL xs ys
 | _, _ => false
def cEq : CV → CV → Bool
 | .a xs, .a ys => cEL xs ys
 | .t xs, .t ys => cEL xs ys
 | x, y => cE1 x y
noncomputable def chk (h : Tr CB) (m : Nat) : List Pd → Option (List Pd)
 | [] => some []
 | (i, b, f, x) :: r => match m.testBit i with
  | true => chk h m r
  | false => match h.get b with
   | some c => match f c with
    | some y => match cEq x y with
     | true => match chk h m r with
      | some l => some ((i, b, f, x) :: l)
      | none => none
     | false => none
    | none => none
   | none => none
noncomputable def opd (P : Program) (cal : Cal) (ops : List Oper) (row : Row) (pd : List Pd) (t : Tr CV) (h : Tr CB) (n : Ps) : Option (List Pd × Tr CV × Tr CB × Ps) :=
 match wnt ops t row.2.2.guard with
 | some true => match pop P row.2.2.op (ev t) with
  | some pr => match pr.run cal h n with
   | some (x, h, n) => frc x fun x => match cls row.2.2.op, pr with
    | .w, _ => match chk h row.2.1 pd with
     | some pd => some (pd, pt t row.2.2.dst x, h, n)
     | none => none
    | _, .v _ => some (pd, pt t row.2.2.dst x, h, n)
    | .r, .rd b f => some ((row.1, b, f, x) :: pd, pt t row.2.2.dst x, h, n)
    | .a, .al _ _ => some (pd, pt t row.2.2.dst x, h, n)
    | _, _ => none
   | none => none
  | none => none
 | some false => some (pd, pt t row.2.2.dst .un, h, n)
 | none => none
abbrev D4 := List Pd × Tr CV × Tr CB × Ps
noncomputable def runD (P : Program) (cal : Cal) (ops : List Oper) (l : List Row) : D4 → Option D4 :=
 List.rec (motive := fun _ => D4 → Option D4) (fun s => some s)
  (fun o _ ih s => match opd P cal ops o s.1 s.2.1 s.2.2.1 s.2.2.2 with
   | some s => ih s
   | none => none) l
def plan (ops : Array Oper) : Option (List Row) :=
 match rowsO ops.toList (msks ops.toList []) (ordO ops.toList (msks ops.toList [])) with
 | some l => match okO ops [] l && (List.range ops.size).all (fun i => l.any fun x => Nat.beq x.1 i) with
  | true => some l
  | false => none
 | none => none
def grdOk (n : Nat) : List Oper → Bool
 | [] => true
 | o :: r => (match o.guard with
  | some (j, _) => Nat.blt j n
  | none => true) && grdOk n r
def planT (ops : Array Oper) : Option (List Oper × List Row × Option Oper) :=
 match plan ops with
 | some l => some (ops.toList, l, none)
 | none => match ops.toList.getLast? with
  | some z => match plan ops.toList.dropLast.toArray with
   | some l => match (List.range ops.toList.dropLast.length).all (fun j => (edg z).any fun i => Nat.beq i j) && (edg z).all (fun j => Nat.blt j ops.toList.dropLast.length) && grdOk ops.toList.dropLast.length ops.toList.dropLast with
    | true => some (ops.toList.dropLast, l, some z)
    | false => none
   | none => none
  | none => none
/-! ### Code -/
inductive Ex where
  | nx
  | ex (id : Nat)
  | gt (l : Nat)
  | rt
abbrev Rs := Option (Ex × Tr CV × Tr CB × Ps)
abbrev Cd := Code → Tr CV → Tr CB → Ps → Rs
noncomputable def scp (ih : Cd) (body : Code) (k : Nat) : Cd :=
 Nat.rec (motive := fun _ => Cd) (fun _ _ _ _ => none) (fun _ jh c t h n => match ih c t h n with
  | some (.gt l, t, h, n) => match findLabel body l with
   | some c => jh c t h n
   | none => some (.gt l, t, h, n)
  | r => r) k
noncomputable def stp (P : Program) (cal : Cal) (N k : Nat) (ih : Cd) : Cd := fun c t h n =>
 match c with
 | .skip => some (.nx, t, h, n)
 | .label _ => some (.nx, t, h, n)
 | .exit id => some (.ex id, t, h, n)
 | .goto l => some (.gt l, t, h, n)
 | .ret => some (.rt, t, h, n)
 | .seq a b => match ih a t h n with
  | some (.nx, t, h, n) => ih b t h n
  | r => r
 | .cond c a b => match ev t c with
  | some (.b true) => ih a t h n
  | some (.b false) => ih b t h n
  | _ => none
 | .block id c => match ih c t h n with
  | some (.ex j, t, h, n) => match Nat.beq j id with
   | true => some (.nx, t, h, n)
   | false => some (.ex j, t, h, n)
  | r => r
 | .loop c => match ih c t h n with
  | some (.nx, t, h, n) => ih (.loop c) t h n
  | r => r
 | .scope c => scp ih c k c t h n
 | .region _ ops d => match dstsOk N ops.toList with
  | true => match d with
   | false => match seqR P cal ops.toList ops.toList t h n with
    | some (t, h, n) => some (.nx, t, h, n)
    | none => none
   | true => match planT ops with
    | some (lo, l, z) => match runD P cal lo l ([], t, h, n) with
     | some (_, t, h, n) => match z with
      | none => some (.nx, t, h, n)
      | some z => match opr P cal ops.toList z t h n with
       | some (t, h, n) => some (.nx, t, h, n)
       | none => none
     | none => none
    | none => none
  | false => none
 | _ => none
noncomputable def exC (P : Program) (cal : Cal) (N : Nat) (k : Nat) : Cd := Nat.rec (motive := fun _ => Cd) (fun _ _ _ _ => none) (fun k ih => stp P cal N k ih) k
noncomputable def iniP (args : List CV) : Ps → Tr CV → Tr CV := List.rec (motive := fun _ => Ps → Tr CV → Tr CV) (fun _ t => t) (fun x _ ih p t => ih p.succ (t.set (some x) p)) args
noncomputable def ini (args : List CV) : Tr CV := iniP args .e .lf
noncomputable def res1 (P : Program) (t : Tr CV) (h : Tr CB) : ResultVar → Option CV
 | .tmp k => t.get (Ps.of k)
 | .cell a T => match t.get (Ps.of a), ldInfo P T with
  | some (.p b off), some (ag, n) => match h.get b with
   | some c => rdc ag n off c
   | none => none
  | _, _ => none
noncomputable def resL (P : Program) (t : Tr CV) (h : Tr CB) : List ResultVar → Option (List CV)
 | [] => some []
 | r :: l => match res1 P t h r with
  | some x => match resL P t h l with
   | some xs => some (x :: xs)
   | none => none
  | none => none
def pak : List CV → CV
 | [x] => x
 | xs => .t xs
noncomputable def bdy (P : Program) (k : Nat) (cal : Cal) : Cal := fun f args h n =>
 match P.funcs[f]? with
 | some fn => match fn.body with
  | some c => match Nat.ble args.length fn.ntmps with
   | true => match exC P cal fn.ntmps k c (ini args) h n with
    | some (.nx, t, h, n) => match resL P t h fn.results.toList with
     | some xs => some (pak xs, h, n)
     | none => none
    | some (.rt, t, h, n) => match resL P t h fn.results.toList with
     | some xs => some (pak xs, h, n)
     | none => none
    | _ => none
   | false => none
  | none => none
 | none => none
abbrev Kn := FuncId → List CV → Option (Tr CB → Ps → Hs)
noncomputable def exF (P : Program) (kn : Kn) (k : Nat) : Nat → Cal := Nat.rec (motive := fun _ => Cal) (fun _ _ _ _ => none) (fun _ cal f args h n => match kn f args with
 | some r => r h n
 | none => bdy P k cal f args h n)
end Go.EX
