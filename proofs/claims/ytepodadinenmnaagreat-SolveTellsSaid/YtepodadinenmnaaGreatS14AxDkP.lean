/-
  Trails: what the program keeps and what the document keeps go together (plain law).
-/
import Derived.Test.YtepodadinenmnaaGreatS14AxRfA
import Derived.Test.YtepodadinenmnaaGreatS14AxClG
import Derived.Test.YtepodadinenmnaaGreatAxXW
namespace Go.AX
open Go.Proofs
set_option linter.unusedSimpArgs false
structure RelT (T:Tr) (t:RT):Prop where
  len:T.marks.length=7
  vars:t.vars=6
  lits:T.lits=t.rows.map (·.l)
  dep:t.dep=(T.beg.length:Int)
  ok:∀x∈t.rows,aw x.l 6=0∧0<=x.lev∧x.lev<=t.dep
  free:∀v:Int,qx t v<0->(bG T v).v=0
  mark:∀(v:Int)(i:Nat)(hi:i<t.rows.length),qx t v=(i:Int)->bG T v=⟨if t.rows[i].l<0 then-1 else 1,t.rows[i].lev,t.rows[i].rea,i⟩
  cnt:T.marks.countP (λm=>decide (m.v≠0))=t.rows.length
def RelD(T:Tr)(t:RT):Prop:=RelT T t∧T.beg.length<=t.rows.length
end Go.AX