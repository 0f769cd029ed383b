/-
  Contracts: what follows by units, by the document.
-/
import Derived.Test.YtepodadinenmnaaGreatS14AxRfA
import Derived.Test.YtepodadinenmnaaGreatS14AxClD
namespace Go.AX
open Go.Proofs
set_option linter.unusedSimpArgs false
def b8(l:List Int)(x:Int):Int:=if bf x<0 then 0 else if x∈l then 1 else if a8 (-x)∈l then-1 else 0
theorem pA{α β:Type}(f:β->α->β)(b:β)(c:List α)(i:Nat)(h:i<c.length):(c.take (i+1)).foldl f b=f ((c.take i).foldl f b) c[i]:=by
 rw[←QU h,List.foldl_append];rfl
def I0(l:List Int)(n x:Int):Int:=if 0<=bf x∧n<b8 l x then b8 l x else n
def DR(l c:List Int):Int:=c.foldl (I0 l) (-1)
def Ge(l:List Int)(t:Int×Int×Int)(x:Int):Int×Int×Int:=
 if b8 l x=1 then(a8 (t.1+1),t.2.1,t.2.2)else if b8 l x=-1 then(t.1,a8 (t.2.1+1),t.2.2)else if 0<=bf x then(t.1,t.2.1,a8 (t.2.2+1))else t
def LB(l c:List Int):Int×Int×Int:=c.foldl (Ge l) (0,0,0)
def Id(l:List Int)(n x:Int):Int:=if 0<=bf x∧b8 l x=0 then x else n
def ft(l c:List Int):Int×Bool:=if(LB l c).1≠0∨(LB l c).2.2≠1 then(0,false)else(c.foldl (Id l) 0,true)
end Go.AX