/-
  Contracts: the document's checker: Check.
-/
import Derived.Test.YtepodadinenmnaaGreatS14AxTtA
namespace Go.AX
open Go.Proofs
set_option linter.unusedSimpArgs false
structure CkM (n:Nat) (c:Ck):Prop where
  n:c.m.length<=n
  w:∀q∈c.m,CC q.1
  l:∀q∈c.m,q.2.length<=100000
theorem CkM.ok{n:Nat}{c:Ck}(h:CkM n c)(hn:n<=100000):CkOk c:=⟨OM h.n hn,h.w,h.l⟩
end Go.AX