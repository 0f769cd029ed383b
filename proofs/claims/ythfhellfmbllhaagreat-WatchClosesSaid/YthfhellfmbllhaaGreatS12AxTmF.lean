/-
  Contracts: proof.Split: hints, parted.
  Contracts: proof.Check: steps that may be.
  Contracts: lrat.Checker: what it holds.
  Contracts: lrat.Checker, read only.
-/
import Derived.Test.YthfhellfmbllhaaGreatS12AxTmB
import Derived.Test.YthfhellfmbllhaaGreatAxFz
namespace Go.AX
open Go.Proofs
set_option linter.unusedSimpArgs false
structure Bs where
  b:Nat
  n:Nat
  cap:Nat
def i64C (l:List Int):List SV:=l.map fun x=>.pv (I64 x)
structure BsOk (h:List (List SV)) (e:Bs) (l:List Int):Prop where
  n:e.n=l.length
  cap:e.n≤e.cap
  at':∃sp,h[e.b]?=some (i64C l++sp)∧sp.length=e.cap -e.n
theorem WeakE.of {k0:Nat} {st S:St} (h:Weak k0 st S):WeakE k0 st (fun _:Unit=>S):=fun g a w h0 hs=>by
 obtain⟨g',t,s'⟩:=h g a w h0 hs;exact⟨g',(),t,s'⟩
theorem BsOk.lt {h:List (List SV)} {e:Bs} {l:List Int} (hb:BsOk h e l):e.b<h.length:=by
 obtain⟨sp,h1,_⟩:=hb.at';exact(List.getElem?_eq_some_iff.1 h1).1
structure Stp where
  kind:Int
  id:Int
  lits:List Int
  hints:List Int
instance:Inhabited Stp:=⟨⟨0,0,[],[]⟩⟩
structure Ck where
  m:List (Int×List Int)
  last:Int
  done:Bool
def putC (c:Ck) (id:Int) (l:List Int):Ck:=⟨pt c.m id l,id,c.done||decide (l.length=0)⟩
theorem cloneN2_ok:APure Tryz.prog 70 [.lit (.slice none 0 0)] (fun r=>r=.pv (.lit (.slice none 0 0))):=by
 refine apure1 hmo Tryz.func70 (by kernel_rfl) rfl rfl (by kernel_rfl) (Nat.le_of_ble_eq_true rfl) ?_;simp
def absM (id:Int):Int:=if id<w64 (-id)then w64 (-id)else id
def thereS (c:Ck) (ids:List Int):Bool:=ids.all fun id=>(lk c.m (absM id)).isSome
end Go.AX