/-
  Contracts: rows that may be forgotten: which is worse, what stays.
  Plain law: which rows are forgotten.
  Contracts: what is forgotten, by the program.
-/
import Derived.Test.YtepodadinenmnaaGreatS14AxRfA
import Derived.Test.YtepodadinenmnaaGreatAxIs
import Derived.Test.YtepodadinenmnaaGreatAxAg
import Derived.Test.YtepodadinenmnaaGreatS14AxShelf2
import Derived.Test.YtepodadinenmnaaGreatAxDl
namespace Go.AX
open Go.Proofs
set_option linter.unusedSimpArgs false
structure Gr where
  at':Int
  gl:Int
  wi:Int
  lo:Bool
deriving DecidableEq,Inhabited
def Me(x:Gr):List PV:=[ae x.at',ae x.gl,ae x.wi,BL x.lo]
@[simp] theorem MY(k:Nat)(l:List Gr):bX k (l.map Me):=by
 induction l with
 |nil=>trivial
 |cons x xs a=>exact⟨⟨trivial,trivial,trivial,trivial,trivial⟩,a⟩
@[simp] theorem PJ(r:Nat->Nat->PV)(l:List Gr):kJ r (l.map Me)=l.map Me:=by
 rw[bW,SJ];rfl
end Go.AX
namespace Go.AX
open Go.Proofs Go.Sort
structure G3 where
  at':Int
  gl:Int
  wi:Int
deriving DecidableEq,Inhabited
def g3(x:G3):Gr:=⟨x.at',x.gl,x.wi,false⟩
def Ru(a b:G3):Prop:=b.gl<a.gl∨a.gl=b.gl∧(b.wi<a.wi∨a.wi=b.wi∧a.at'<b.at')
instance (a b:G3):Decidable (Ru a b):=by unfold Ru;infer_instance
def eA(l:List Int):List Int:=l.mergeSort λx y=>decide (x<=y)
theorem xd(l:List Int):(eA l).Pairwise (·<=·):=by
 have:=UR (le:=λx y:Int=>decide (x<=y)) (λa b c h1 d=>by simp only[R0]at*;omega) (λa b=>by simp only[S4,R0];omega) l;exact this.imp λh=>by simpa using h
end Go.AX
namespace Go.AX
open Go.Proofs Go.Shelf
set_option linter.unusedSimpArgs false
def r3(x:G3):List PV:=Me (g3 x)
theorem Fa(l:List Int)(a:l.length<=1000000):wx Tryz.prog 171 1 (aa l) [] (λk rows=>k=none∧rows=aa (eA l)):=
 zb Tryz.sortA l a (by kernel_rfl)
end Go.AX