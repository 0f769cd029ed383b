/-
  Contracts: rup: what follows by a chain of hints.
-/
import Derived.Test.YtepodadinenmnaaGreatS14AxLuA
import Derived.Test.YtepodadinenmnaaGreatAxAf
namespace Go.AX
open Go.Proofs
set_option linter.unusedSimpArgs false
theorem ai.frz{k0:Nat}{st:St}{s e:Nat}{nw:Bool}{rows:List (List PV)}(h:look st.t s=.own nw e rows):ai k0 st ⟨(s,.pv (.seq nw e rows))::st.t,st.h⟩:=λg a w _ hs=>by
 have h1:mv st (.tmp s)=.al (.slot s):=by simp[mv,Na,ev,h]
 have b:aa st (.slot s)=.own nw e rows:=h;have hd:(bO st (.tmp s)).2.2:=by
  unfold bO;rw[h1];simp[mJ,b,gc,Nb,ev,h]
 obtain⟨g',t,_,_,s',_⟩:=ku hs (.tmp s) hd;refine⟨g',t,?_⟩;have c:(bO st (.tmp s)).2.1=⟨(s,.pv (.seq nw e rows))::st.t,st.h⟩:=by
  unfold bO;rw[h1];simp only[mJ];rw[b];rfl
 rw[←c];exact s'
end Go.AX