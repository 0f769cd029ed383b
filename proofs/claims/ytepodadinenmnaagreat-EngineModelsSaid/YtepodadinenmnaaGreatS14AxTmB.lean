/-
  Contracts: rup: what follows by a chain of hints.
-/
import Derived.Test.YtepodadinenmnaaGreatS14AxRnX
import Derived.Test.YtepodadinenmnaaGreatAxAf
namespace Go.AX
open Go.Proofs
set_option linter.unusedSimpArgs false
theorem af.frz{k0:Nat}{st:St}{s e:Nat}{nw:Bool}{rows:List (List PV)}(h:look st.t s=.own nw e rows):af k0 st ⟨(s,.pv (.seq nw e rows))::st.t,st.h⟩:=λg a w _ hs=>by
 have h1:mv st (.tmp s)=.al (.slot s):=by simp[mv,Q2,ev,h]
 have b:ab st (.slot s)=.own nw e rows:=h;have hd:(b9 st (.tmp s)).2.2:=by
  unfold b9;rw[h1];simp[nV,b,gc,Q4,ev,h]
 obtain⟨g',t,_,_,s',_⟩:=mc hs (.tmp s) hd;refine⟨g',t,?_⟩;have c:(b9 st (.tmp s)).2.1=⟨(s,.pv (.seq nw e rows))::st.t,st.h⟩:=by
  unfold b9;rw[h1];simp only[nV];rw[b];rfl
 rw[←c];exact s'
end Go.AX