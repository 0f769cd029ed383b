/-
  Contracts: rows that may be forgotten: which is worse, what stays.
  Plain law: which rows are forgotten.
  Contracts: what is forgotten, by the program.
-/
import Derived.Test.YtepodadinenmnaaGreatS14AxRfA
import Derived.Test.YtepodadinenmnaaGreatAxIs
import Derived.Test.YtepodadinenmnaaGreatAxAg
import Derived.Test.YtepodadinenmnaaGreatS14AxShelf2
import Derived.Test.YtepodadinenmnaaGreatAxDl
namespace Go.AX
open Go.Proofs
set_option linter.unusedSimpArgs false
structure Gr where
  at':Int
  gl:Int
  wi:Int
  lo:Bool
deriving DecidableEq,Inhabited
def KF(x:Gr):List PV:=[af x.at',af x.gl,af x.wi,BL x.lo]
@[simp] theorem Lr(k:Nat)(l:List Gr):bQ k (l.map KF):=by
 induction l with
 |nil=>trivial
 |cons x xs a=>exact⟨⟨trivial,trivial,trivial,trivial,trivial⟩,a⟩
@[simp] theorem Oq(r:Nat->Nat->PV)(l:List Gr):lz r (l.map KF)=l.map KF:=by
 rw[cb,Ra];rfl
end Go.AX
namespace Go.AX
open Go.Proofs Go.Sort
structure G3 where
  at':Int
  gl:Int
  wi:Int
deriving DecidableEq,Inhabited
def g3(x:G3):Gr:=⟨x.at',x.gl,x.wi,false⟩
def PZ(a b:G3):Prop:=b.gl<a.gl∨a.gl=b.gl∧(b.wi<a.wi∨a.wi=b.wi∧a.at'<b.at')
instance (a b:G3):Decidable (PZ a b):=by unfold PZ;infer_instance
def d5(l:List Int):List Int:=l.mergeSort λx y=>decide (x<=y)
theorem wl(l:List Int):(d5 l).Pairwise (·<=·):=by
 have:=TV (le:=λx y:Int=>decide (x<=y)) (λa b c h1 d=>by simp only[Qs]at*;omega) (λa b=>by simp only[Rq,Qs];omega) l;exact this.imp λh=>by simpa using h
end Go.AX
namespace Go.AX
open Go.Proofs Go.Shelf
set_option linter.unusedSimpArgs false
def r3(x:G3):List PV:=KF (g3 x)
theorem Dz(l:List Int)(a:l.length<=1000000):vz Tryz.prog 171 1 (ab l) [] (λk rows=>k=none∧rows=ab (d5 l)):=
 x3 Tryz.sortA l a (by kernel_rfl)
end Go.AX