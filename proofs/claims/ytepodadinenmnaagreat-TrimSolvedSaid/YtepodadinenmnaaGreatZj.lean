/-
  Trails: what the program keeps and what the document keeps go together (plain law).
-/
import Derived.Test.YtepodadinenmnaaGreatZi
set_option linter.unusedSimpArgs false
namespace Go.AX
open Go.Proofs
structure RelT (T:Tr) (t:RT):Prop where
  len:T.marks.length=7
  vars:t.vars=6
  lits:T.lits=t.rows.map (·.l)
  dep:t.dep=(T.beg.length:Int)
  ok:∀x∈t.rows,aQ x.l 6=0∧0<=x.lev∧x.lev<=t.dep
  free:∀v:Int,sD t v<0->(cv T v).v=0
  mark:∀(v:Int)(i:Nat)(hi:i<t.rows.length),sD t v=(i:Int)->cv T v=⟨if t.rows[i].l<0 then-1 else 1,t.rows[i].lev,t.rows[i].rea,i⟩
  cnt:T.marks.countP (λm=>decide (m.v≠0))=t.rows.length
def RelD(T:Tr)(t:RT):Prop:=RelT T t∧T.beg.length<=t.rows.length
end Go.AX
