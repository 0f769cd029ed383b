/-
  Contracts: what follows by units, by the document.
-/
import Derived.Test.YtepodadinenmnaaGreatZg
set_option linter.unusedSimpArgs false
namespace Go.AX
open Go.Proofs
def ca(l:af)(x:Int):Int:=if bH x<0 then 0 else if x∈l then 1 else if bG (-x)∈l then-1 else 0
theorem bf{α β:Type}(f:β->α->β)(b:β)(c:List α)(i:Nat)(h:i<c.length):(c.take (i+1)).foldl f b=f ((c.take i).foldl f b) c[i]:=by
 rw[←YM h,Y7];rfl
def BA(l:af)(n x:Int):Int:=if 0<=bH x∧n<ca l x then ca l x else n
def ve(l c:af):Int:=c.foldl (BA l) (-1)
def Dc(l:af)(t:Int×Int×Int)(x:Int):Int×Int×Int:=
 if ca l x=1 then(bG (t.1+1),t.2.1,t.2.2)else if ca l x=-1 then(t.1,bG (t.2.1+1),t.2.2)else if 0<=bH x then(t.1,t.2.1,bG (t.2.2+1))else t
def Aw(l c:af):Int×Int×Int:=c.foldl (Dc l) (0,0,0)
def OE(l:af)(n x:Int):Int:=if 0<=bH x∧ca l x=0 then x else n
def dz(l c:af):Int×Bool:=if(Aw l c).1≠0∨(Aw l c).2.2≠1 then(0,false)else(c.foldl (OE l) 0,true)
end Go.AX
