/-
  Contracts: rows that may be forgotten: which is worse, what stays.
  Plain law: which rows are forgotten.
  Contracts: what is forgotten, by the program.
-/
import Derived.Test.YtepodadinenmnaaGreatS14AxRfA
import Derived.Test.YtepodadinenmnaaGreatAxBM
import Derived.Test.YtepodadinenmnaaGreatAxAg
import Derived.Test.YtepodadinenmnaaGreatS14AxShelf2
import Derived.Test.YtepodadinenmnaaGreatAxDl
namespace Go.AX
open Go.Proofs
set_option linter.unusedSimpArgs false
structure Gr where
  at':Int
  gl:Int
  wi:Int
  lo:Bool
deriving DecidableEq,Inhabited
def HF(x:Gr):List PV:=[ae x.at',ae x.gl,ae x.wi,BL x.lo]
@[simp] theorem Iz(k:Nat)(l:List Gr):bP k (l.map HF):=by
 induction l with
 |nil=>trivial
 |cons x xs ih=>exact⟨⟨trivial,trivial,trivial,trivial,trivial⟩,ih⟩
@[simp] theorem K6(r:Nat→Nat→PV)(l:List Gr):ke r (l.map HF)=l.map HF:=by
 rw[cd,List.map_map];rfl
end Go.AX
namespace Go.AX
open Go.Proofs Go.Sort
structure G3 where
  at':Int
  gl:Int
  wi:Int
deriving DecidableEq,Inhabited
def g3(x:G3):Gr:=⟨x.at',x.gl,x.wi,false⟩
def No(a b:G3):Prop:=b.gl<a.gl∨a.gl=b.gl∧(b.wi<a.wi∨a.wi=b.wi∧a.at'<b.at')
instance (a b:G3):Decidable (No a b):=by unfold No;infer_instance
def dO(l:List Int):List Int:=l.mergeSort fun x y=>decide (x≤y)
theorem uA(l:List Int):(dO l).Pairwise (·≤·):=by
 have:=List.pairwise_mergeSort (le:=fun x y:Int=>decide (x≤y)) (fun a b c h1 h2=>by simp only[decide_eq_true_eq]at*;omega) (fun a b=>by simp only[Bool.or_eq_true,decide_eq_true_eq];omega) l;exact this.imp fun h=>by simpa using h
end Go.AX
namespace Go.AX
open Go.Proofs Go.Shelf
set_option linter.unusedSimpArgs false
def r3(x:G3):List PV:=HF (g3 x)
theorem BC(l:List Int)(hl:l.length≤1000000):tT Tryz.prog 171 1 (af l) [] (fun k rows=>k=none∧rows=af (dO l)):=
 wl Tryz.sortA l hl (by kernel_rfl)
end Go.AX