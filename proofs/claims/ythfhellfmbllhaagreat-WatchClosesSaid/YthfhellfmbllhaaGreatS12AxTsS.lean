/-
  What formulas, steps and truths are handed in as.
-/
import Derived.Test.YthfhellfmbllhaaGreatS12AxTtA
import Derived.Test.YthfhellfmbllhaaGreatAxZ
namespace Go.AX
theorem rows_ofT {α:Type} (f:α→List PV) (s:List Sh) (h1:∀r,IsShL s r→∃x,r=f x):∀rows:List (List PV),(∀r∈rows,IsShL s r)→∃l:List α,rows=l.map f
 |[],_=>⟨[],rfl⟩
 |r::rows,h=>by
  obtain⟨x,rfl⟩:=h1 r (h r List.mem_cons_self);obtain⟨l,rfl⟩:=rows_ofT f s h1 rows (fun r hr=>h r (List.mem_cons_of_mem _ hr));exact⟨x::l,rfl⟩
theorem sh_intsT {x:PV} (h:IsSh (.sl [.int .i64]) x):∃l:List Int,x=.seq false 1 (irow l):=by
 simp only [IsSh] at h; obtain ⟨rows, rfl, _, h⟩ := h; obtain ⟨l, rfl⟩ := rows_ofT (fun i : Int => [I64 i]) _ (fun r hr => by
  simp only[IsShL,IsSh]at hr;obtain⟨_,_,rfl,⟨a,rfl,_⟩,rfl⟩:=hr;exact⟨a,rfl⟩) rows h
 exact⟨l,rfl⟩
theorem sh_clsT {x:PV} (h:IsSh (.sl [.sl [.int .i64]]) x):∃cs:List (List Int),x=.seq false 1 (cs.map crowF):=by
 rw [IsSh] at h; obtain ⟨rows, rfl, _, h⟩ := h; obtain ⟨l, rfl⟩ := rows_ofT crowF _ (fun r hr => by
  rw[IsShL]at hr;obtain⟨_,_,rfl,h1,h2⟩:=hr;obtain⟨l,rfl⟩:=sh_intsT h1;rw[IsShL]at h2;subst h2;exact⟨l,rfl⟩) rows h
 exact⟨l,rfl⟩
end Go.AX