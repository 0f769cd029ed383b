/-
  Contracts: what follows by units, by the document.
-/
import Derived.Test.YtepodadinenmnaaGreatS14AxRfA
import Derived.Test.YtepodadinenmnaaGreatS14AxClD
namespace Go.AX
open Go.Proofs
set_option linter.unusedSimpArgs false
def bu(l:List Int)(x:Int):Int:=if aV x<0 then 0 else if x∈l then 1 else if aX (-x)∈l then-1 else 0
theorem bs{α β:Type}(f:β->α->β)(b:β)(c:List α)(i:Nat)(h:i<c.length):(c.take (i+1)).foldl f b=f ((c.take i).foldl f b) c[i]:=by
 rw[←Tf h,UB];rfl
def xY(l:List Int)(n x:Int):Int:=if 0<=aV x∧n<bu l x then bu l x else n
def rS(l c:List Int):Int:=c.foldl (xY l) (-1)
def zu(l:List Int)(t:Int×Int×Int)(x:Int):Int×Int×Int:=
 if bu l x=1 then(aX (t.1+1),t.2.1,t.2.2)else if bu l x=-1 then(t.1,aX (t.2.1+1),t.2.2)else if 0<=aV x then(t.1,t.2.1,aX (t.2.2+1))else t
def wT(l c:List Int):Int×Int×Int:=c.foldl (zu l) (0,0,0)
def Jv(l:List Int)(n x:Int):Int:=if 0<=aV x∧bu l x=0 then x else n
def cM(l c:List Int):Int×Bool:=if(wT l c).1≠0∨(wT l c).2.2≠1 then(0,false)else(c.foldl (Jv l) 0,true)
end Go.AX