/-
  Contracts: rows that may be forgotten: which is worse, what stays.
  Plain law: which rows are forgotten.
  Contracts: what is forgotten, by the program.
-/
import Derived.Test.YtepodadinenmnaaGreatS14AxRfA
import Derived.Test.YtepodadinenmnaaGreatAxIs
import Derived.Test.YtepodadinenmnaaGreatAxAg
import Derived.Test.YtepodadinenmnaaGreatS14AxShelf2
import Derived.Test.YtepodadinenmnaaGreatAxDl
namespace Go.AX
open Go.Proofs
set_option linter.unusedSimpArgs false
structure Gr where
  at':Int
  gl:Int
  wi:Int
  lo:Bool
deriving DecidableEq,Inhabited
def Ie(x:Gr):List PV:=[ae x.at',ae x.gl,ae x.wi,BL x.lo]
@[simp] theorem I3(k:Nat)(l:List Gr):bS k (l.map Ie):=by
 induction l with
 |nil=>trivial
 |cons x xs a=>exact⟨⟨trivial,trivial,trivial,trivial,trivial⟩,a⟩
@[simp] theorem LC(r:Nat->Nat->PV)(l:List Gr):kw r (l.map Ie)=l.map Ie:=by
 rw[ce,Pa];rfl
end Go.AX
namespace Go.AX
open Go.Proofs Go.Sort
structure G3 where
  at':Int
  gl:Int
  wi:Int
deriving DecidableEq,Inhabited
def g3(x:G3):Gr:=⟨x.at',x.gl,x.wi,false⟩
def NV(a b:G3):Prop:=b.gl<a.gl∨a.gl=b.gl∧(b.wi<a.wi∨a.wi=b.wi∧a.at'<b.at')
instance (a b:G3):Decidable (NV a b):=by unfold NV;infer_instance
def dP(l:List Int):List Int:=l.mergeSort λx y=>decide (x<=y)
theorem uC(l:List Int):(dP l).Pairwise (·<=·):=by
 have:=Sn (le:=λx y:Int=>decide (x<=y)) (λa b c h1 d=>by simp only[Ov]at*;omega) (λa b=>by simp only[Pu,Ov];omega) l;exact this.imp λh=>by simpa using h
end Go.AX
namespace Go.AX
open Go.Proofs Go.Shelf
set_option linter.unusedSimpArgs false
def r3(x:G3):List PV:=Ie (g3 x)
theorem BK(l:List Int)(a:l.length<=1000000):tV Tryz.prog 171 1 (af l) [] (λk rows=>k=none∧rows=af (dP l)):=
 wq Tryz.sortA l a (by kernel_rfl)
end Go.AX