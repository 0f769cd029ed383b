/-
  Contracts: rup: what follows by a chain of hints.
-/
import Derived.Test.YtepodadinenmnaaGreatS14AxRnX
import Derived.Test.YtepodadinenmnaaGreatAxAf
namespace Go.AX
open Go.Proofs
set_option linter.unusedSimpArgs false
theorem ah.frz{k0:Nat}{st:St}{s e:Nat}{nw:Bool}{rows:List (List PV)}(h:look st.t s=.own nw e rows):ah k0 st ⟨(s,.pv (.seq nw e rows))::st.t,st.h⟩:=λg a w _ hs=>by
 have h1:mv st (.tmp s)=.al (.slot s):=by simp[mv,QR,ev,h]
 have b:ab st (.slot s)=.own nw e rows:=h;have hd:(b8 st (.tmp s)).2.2:=by
  unfold b8;rw[h1];simp[nQ,b,gc,QS,ev,h]
 obtain⟨g',t,_,_,s',_⟩:=l9 hs (.tmp s) hd;refine⟨g',t,?_⟩;have c:(b8 st (.tmp s)).2.1=⟨(s,.pv (.seq nw e rows))::st.t,st.h⟩:=by
  unfold b8;rw[h1];simp only[nQ];rw[b];rfl
 rw[←c];exact s'
end Go.AX