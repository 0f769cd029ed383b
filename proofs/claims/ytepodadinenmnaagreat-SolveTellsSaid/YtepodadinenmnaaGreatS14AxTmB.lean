/-
  Contracts: rup: what follows by a chain of hints.
-/
import Derived.Test.YtepodadinenmnaaGreatS14AxLuA
import Derived.Test.YtepodadinenmnaaGreatAxAf
namespace Go.AX
open Go.Proofs
set_option linter.unusedSimpArgs false
theorem ah.frz{k0:Nat}{st:St}{s e:Nat}{nw:Bool}{rows:List (List PV)}(h:look st.t s=.own nw e rows):ah k0 st ⟨(s,.pv (.seq nw e rows))::st.t,st.h⟩:=λg a w _ hs=>by
 have h1:mv st (.tmp s)=.al (.slot s):=by simp[mv,R6,ev,h]
 have b:aa st (.slot s)=.own nw e rows:=h;have hd:(b6 st (.tmp s)).2.2:=by
  unfold b6;rw[h1];simp[oq,b,gc,R7,ev,h]
 obtain⟨g',t,_,_,s',_⟩:=mq hs (.tmp s) hd;refine⟨g',t,?_⟩;have c:(b6 st (.tmp s)).2.1=⟨(s,.pv (.seq nw e rows))::st.t,st.h⟩:=by
  unfold b6;rw[h1];simp only[oq];rw[b];rfl
 rw[←c];exact s'
end Go.AX