/-
  Contracts: rows that may be forgotten: which is worse, what stays.
  Plain law: which rows are forgotten.
-/
import Derived.Test.YthfhellfmbllhaaGreatS12AxTrA
import Derived.Test.YthfhellfmbllhaaGreatAxIs
import Derived.Test.YthfhellfmbllhaaGreatAxDr
import Derived.Sort.Grow
import Derived.Shelf.SlSortCmp.Insertion
namespace Go.AX
open Go.Proofs
set_option linter.unusedSimpArgs false
structure Gr where
  at':Int
  gl:Int
  wi:Int
  lo:Bool
deriving DecidableEq,Inhabited
def grR (x:Gr):List PV:=[I64 x.at',I64 x.gl,I64 x.wi,BL x.lo]
end Go.AX
namespace Go.AX
open Go.Proofs Go.Sort
structure G3 where
  at':Int
  gl:Int
  wi:Int
deriving DecidableEq,Inhabited
def g3 (x:G3):Gr:=⟨x.at',x.gl,x.wi,false⟩
def lt3 (a b:G3):Prop:=b.gl<a.gl∨a.gl=b.gl∧(b.wi<a.wi∨a.wi=b.wi∧a.at'<b.at')
instance (a b:G3):Decidable (lt3 a b):=by unfold lt3;infer_instance
end Go.AX