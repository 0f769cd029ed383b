/-
  Watches: the shapes of the laws' inputs.
-/
import Derived.Test.YthfhellfmbllhaaGreatS12AxWaO
import Derived.Test.YthfhellfmbllhaaGreatS12AxTsS
namespace Go.AX
theorem sh_actsW {x:PV} (h:IsSh (.sl [.int .i64,.int .i64]) x):∃l:List (Int×Int),x=.seq false 2 (l.map actR):=by
 rw [IsSh] at h; obtain ⟨rows, rfl, _, h⟩ := h; obtain ⟨l, rfl⟩ := rows_ofT actR _ (fun r hr => by
  rw[IsShL]at hr;obtain⟨_,_,rfl,h1,hr⟩:=hr;rw[IsShL]at hr;obtain⟨_,_,rfl,h2,hr⟩:=hr;rw[IsShL]at hr;subst hr;rw[IsSh]at h1 h2;obtain⟨a,rfl,_⟩:=h1;obtain⟨b,rfl,_⟩:=h2;exact⟨(a,b),rfl⟩) rows h
 exact⟨l,rfl⟩
theorem argsW2 {xs:List PV} (h:IsArgs [(false,[.sl [.sl [.int .i64]]]),(false,[.sl [.int .i64,.int .i64]])] xs):∃(cs:List (List Int)) (l:List (Int×Int)),xs=[.seq false 1 (cs.map crowF),.seq false 2 (l.map actR)]:=by
 rw[IsArgs]at h;obtain⟨_,_,rfl,h1,h⟩:=h;rw[IsArgs]at h;obtain⟨_,_,rfl,h2,h⟩:=h;rw[IsArgs]at h;subst h;simp only[IsArg]at h1 h2;rw[IsShL]at h1 h2;obtain⟨t,us,e,h1⟩:=h1;cases e
 obtain⟨t2,us2,e2,h2⟩:=h2;cases e2
 obtain⟨cs,rfl⟩:=sh_clsT h1.1;obtain⟨l,rfl⟩:=sh_actsW h2.1;exact⟨cs,l,rfl⟩
end Go.AX