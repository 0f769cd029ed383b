/-
  Contracts: what follows by units, by the document.
-/
import Derived.Test.YtepodadinenmnaaGreatS14AxRfA
import Derived.Test.YtepodadinenmnaaGreatS14AxClD
namespace Go.AX
open Go.Proofs
set_option linter.unusedSimpArgs false
def bn(l:List Int)(x:Int):Int:=if aX x<0 then 0 else if x∈l then 1 else if aY (-x)∈l then-1 else 0
theorem bd{α β:Type}(f:β->α->β)(b:β)(c:List α)(i:Nat)(h:i<c.length):(c.take (i+1)).foldl f b=f ((c.take i).foldl f b) c[i]:=by
 rw[←VS h,Wh];rfl
def zp(l:List Int)(n x:Int):Int:=if 0<=aX x∧n<bn l x then bn l x else n
def sm(l c:List Int):Int:=c.foldl (zp l) (-1)
def A5(l:List Int)(t:Int×Int×Int)(x:Int):Int×Int×Int:=
 if bn l x=1 then(aY (t.1+1),t.2.1,t.2.2)else if bn l x=-1 then(t.1,aY (t.2.1+1),t.2.2)else if 0<=aX x then(t.1,t.2.1,aY (t.2.2+1))else t
def yf(l c:List Int):Int×Int×Int:=c.foldl (A5 l) (0,0,0)
def Lw(l:List Int)(n x:Int):Int:=if 0<=aX x∧bn l x=0 then x else n
def cK(l c:List Int):Int×Bool:=if(yf l c).1≠0∨(yf l c).2.2≠1 then(0,false)else(c.foldl (Lw l) 0,true)
end Go.AX