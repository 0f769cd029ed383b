/-
  Contracts: rup: what follows by a chain of hints.
-/
import Derived.Test.YtepodadinenmnaaGreatS14AxRnX
import Derived.Test.YtepodadinenmnaaGreatAxAf
namespace Go.AX
open Go.Proofs
set_option linter.unusedSimpArgs false
theorem aj.frz{k0:Nat}{st:St}{s e:Nat}{nw:Bool}{rows:List (List PV)}(h:look st.t s=.own nw e rows):aj k0 st ⟨(s,.pv (.seq nw e rows))::st.t,st.h⟩:=fun g a w _ hs=>by
 have h1:mv st (.tmp s)=.al (.slot s):=by simp[mv,Mi,ev,h]
 have h2:aa st (.slot s)=.own nw e rows:=h;have hd:(bL st (.tmp s)).2.2:=by
  unfold bL;rw[h1];simp[mz,h2,gc,Mj,ev,h]
 obtain⟨g',t,_,_,s',_⟩:=kb hs (.tmp s) hd;refine⟨g',t,?_⟩;have he:(bL st (.tmp s)).2.1=⟨(s,.pv (.seq nw e rows))::st.t,st.h⟩:=by
  unfold bL;rw[h1];simp only[mz];rw[h2];rfl
 rw[←he];exact s'
end Go.AX