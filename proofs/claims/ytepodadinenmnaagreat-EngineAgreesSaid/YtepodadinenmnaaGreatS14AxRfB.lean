/-
  Contracts: what follows by units, by the document.
-/
import Derived.Test.YtepodadinenmnaaGreatS14AxRfA
import Derived.Test.YtepodadinenmnaaGreatS14AxClD
namespace Go.AX
open Go.Proofs
set_option linter.unusedSimpArgs false
def cG(l:List Int)(x:Int):Int:=if bi x<0 then 0 else if x∈l then 1 else if aM (-x)∈l then-1 else 0
theorem pi{α β:Type}(f:β→α→β)(b:β)(c:List α)(i:Nat)(h:i<c.length):(c.take (i+1)).foldl f b=f ((c.take i).foldl f b) c[i]:=by
 rw[←List.take_append_getElem h,List.foldl_append];rfl
def Ix(l:List Int)(n x:Int):Int:=if 0≤bi x∧n<cG l x then cG l x else n
def FX(l c:List Int):Int:=c.foldl (Ix l) (-1)
def FY(l:List Int)(t:Int×Int×Int)(x:Int):Int×Int×Int:=
 if cG l x=1 then(aM (t.1+1),t.2.1,t.2.2)else if cG l x=-1 then(t.1,aM (t.2.1+1),t.2.2)else if 0≤bi x then(t.1,t.2.1,aM (t.2.2+1))else t
def K5(l c:List Int):Int×Int×Int:=c.foldl (FY l) (0,0,0)
def HE(l:List Int)(n x:Int):Int:=if 0≤bi x∧cG l x=0 then x else n
def fX(l c:List Int):Int×Bool:=if(K5 l c).1≠0∨(K5 l c).2.2≠1 then(0,false)else(c.foldl (HE l) 0,true)
end Go.AX