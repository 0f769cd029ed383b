/-
  Contracts: rup: what follows by a chain of hints.
-/
import Derived.Test.YthfhellfmbllhaaGreatS12AxRnS
import Derived.Test.YthfhellfmbllhaaGreatAxAf
namespace Go.AX
open Go.Proofs
set_option linter.unusedSimpArgs false
theorem Weak.frz {k0:Nat} {st:St} {s e:Nat} {nw:Bool} {rows:List (List PV)} (h:look st.t s=.own nw e rows):Weak k0 st ⟨(s,.pv (.seq nw e rows))::st.t,st.h⟩:=fun g a w _ hs=>by
 have h1:mv st (.tmp s)=.al (.slot s):=by simp[mv,mvS,ev,h]
 have h2:posGet st (.slot s)=.own nw e rows:=h;have hd:(emb st (.tmp s)).2.2:=by
  unfold emb;rw[h1];simp[embPos,h2,gc,gcS,ev,h]
 obtain⟨g',t,_,_,s',_⟩:=emb_ok hs (.tmp s) hd;refine⟨g',t,?_⟩;have he:(emb st (.tmp s)).2.1=⟨(s,.pv (.seq nw e rows))::st.t,st.h⟩:=by
  unfold emb;rw[h1];simp only[embPos];rw[h2];rfl
 rw[←he];exact s'
end Go.AX