/-
  Contracts: what follows by units, by the document.
-/
import Derived.Test.YtepodadinenmnaaGreatS14AxRfA
import Derived.Test.YtepodadinenmnaaGreatS14AxClD
namespace Go.AX
set_option maxRecDepth 8000
open Go.Proofs
set_option linter.unusedSimpArgs false
def bK(l:List Int)(x:Int):Int:=if aV x<0 then 0 else if x∈l then 1 else if aX (-x)∈l then-1 else 0
theorem gU(l:List Int)(x:Int)(b:l.length<=1000000):aj Tryz.prog 61 [.seq false 1 (ae l),ab x] (λr=>r=.pv (ab (bK l x))):=by
 refine ap aD Tryz.func61 ?_;have a:bK l x=if aV x<0 then 0 else if x∈l then 1 else if aX (-x)∈l then-1 else 0:=rfl;generalize bK l x=V at a⊢;simp;refine ai.intro (dH x) ?_;simp;refine⟨λc=>by rw[a,SX c],λc=>?_⟩;rw[SU (by omega)]at a;refine ai.intro (jT l x (by omega)) ?_;simp;refine⟨λc=>by rw[a,SX c],λc=>?_⟩;rw[SU c]at a;refine ai.intro (jT l (aX (-x)) (by omega)) ?_;simp;exact⟨λc=>by rw[a,SX c],λc=>by rw[a,SU c]⟩
theorem bL{α β:Type}(f:β->α->β)(b:β)(c:List α)(i:Nat)(h:i<c.length):(c.take (i+1)).foldl f b=f ((c.take i).foldl f b) c[i]:=by
 rw[←U7 h,VW];rfl
def D9(l:List Int)(n x:Int):Int:=if 0<=aV x∧n<bK l x then bK l x else n
def zy(l c:List Int):Int:=c.foldl (D9 l) (-1)
theorem xG(l c:List Int)(d:l.length<=1000000)(k:c.length<=1000000):aj Tryz.prog 111 [.seq false 1 (ae l),.seq false 1 (ae c)] (λr=>r=.pv (ab (zy l c))):=by
 refine ap aD Tryz.func111 ?_;simp;refine ax.intro (S:=λ(i:Nat)=>⟨[(0,.pv (.seq false 1 (ae l))),(1,.pv (.seq false 1 (ae c))),(5,.pv (ab ((c.take i).foldl (D9 l) (-1)))),(6,.pv (ab i))],[]⟩) (λi=>i<=c.length) (λi=>c.length -i) 0 ?_ (Tf _) ?_
 .exact ah.to (by simp) rfl (by simp) (by simp) (by simp)
 intro i hi
 by_cases h:i<c.length
 .have f:=dv i;have a:=bL (D9 l) (-1) c i h;generalize(c.take i).foldl (D9 l) (-1)=n at a⊢;simp[h];refine ai.intro (dH c[i]) ?_;simp[h];refine bf.intro (r:=.pv (ab (bK l c[i]))) (λ_=>gU l c[i] d) ?_;simp[h];refine⟨λc1 c2=>?_,λc1=>⟨i+1,by(try dsimp only);omega,by(try dsimp only);omega,?_⟩⟩
  .refine ai.intro (gU l c[i] d) ?_;have e:D9 l n c[i]=bK l c[i]:=by unfold D9;rw[SX ⟨c1,c2⟩]
   rw[e]at a;simp[h];exact⟨i+1,by(try dsimp only);omega,by(try dsimp only);omega,ah.to (by simp[f,a]) rfl (by simp) (by simp) (by simp)⟩
  .have e:D9 l n c[i]=n:=by
    unfold D9;rw[SU];rintro⟨g,j⟩;have:=c1 g;omega
   rw[e]at a;exact ah.to (by simp[f,a]) rfl (by simp) (by simp) (by simp)
 .have b:i=c.length:=by omega
  subst b;simp[zy]
def vO(l:List Int)(t:Int×Int×Int)(x:Int):Int×Int×Int:=
 if bK l x=1 then(aX (t.1+1),t.2.1,t.2.2)else if bK l x=-1 then(t.1,aX (t.2.1+1),t.2.2)else if 0<=aV x then(t.1,t.2.1,aX (t.2.2+1))else t
def G6(l c:List Int):Int×Int×Int:=c.foldl (vO l) (0,0,0)
theorem zA(l c:List Int)(e:l.length<=1000000)(f:c.length<=1000000):aj Tryz.prog 184 [.seq false 1 (ae l),.seq false 1 (ae c)] (λr=>r=.pv (.agg [ab (G6 l c).1,ab (G6 l c).2.1,ab (G6 l c).2.2])):=by
 refine NE aD Tryz.func184 ?_;simp;refine ax.intro (S:=λ(i:Nat)=>⟨[(0,.pv (.seq false 1 (ae l))),(1,.pv (.seq false 1 (ae c))),(4,.pv (.ptr 0 0)),(5,.pv (.ptr 1 0)),(6,.pv (ab i))],[[.pv (ab 0),.pv (ab 0),.pv (ab 0)],[.pv (ab ((c.take i).foldl (vO l) (0,0,0)).1),.pv (ab ((c.take i).foldl (vO l) (0,0,0)).2.1),.pv (ab ((c.take i).foldl (vO l) (0,0,0)).2.2)]]⟩) (λi=>i<=c.length) (λi=>c.length -i) 0 ?_ (Tf _) ?_
 .exact ah.to (by simp) (by simp) (by simp) (by simp) (by simp)
 intro i hi
 by_cases h:i<c.length
 .have b:=dv i;have a:=bL (vO l) (0,0,0) c i h;generalize(c.take i).foldl (vO l) (0,0,0)=t at a⊢;obtain⟨x,y,z⟩:=t;unfold vO at a;simp[h];refine ai.intro (gU l c[i] e) ?_;simp[h];refine⟨λc1=>⟨i+1,by(try dsimp only);omega,by(try dsimp only);omega,ah.to (by rw[SX c1]at a;simp[b]) (by rw[SX c1]at a;unfold vO;simp[a]) (by simp) (by simp) (by simp)⟩,λc1=>⟨λc2=>⟨i+1,by(try dsimp only);omega,by(try dsimp only);omega,ah.to (by simp[b]) (by rw[SU c1,SX c2]at a;unfold vO;simp[a]) (by simp) (by simp) (by simp)⟩,λc2=>?_⟩⟩;refine ai.intro (dH c[i]) ?_;simp;exact⟨λc3=>⟨i+1,by(try dsimp only);omega,by(try dsimp only);omega,ah.to (by simp[b]) (by rw[SU c1,SU c2,SX c3]at a;unfold vO;simp[a]) (by simp) (by simp) (by simp)⟩,λc3=>⟨i+1,by(try dsimp only);omega,by(try dsimp only);omega,ah.to (by simp[b]) (by rw[SU c1,SU c2,SU (by omega)]at a;unfold vO;simp[a]) (by simp) (by simp) (by simp)⟩⟩
 .have d:i=c.length:=by omega
  subst d;simp[G6]
def Cc(l:List Int)(n x:Int):Int:=if 0<=aV x∧bK l x=0 then x else n
def cY(l c:List Int):Int×Bool:=if(G6 l c).1≠0∨(G6 l c).2.2≠1 then(0,false)else(c.foldl (Cc l) 0,true)
theorem Cd(l c:List Int)(j:l.length<=1000000)(o:c.length<=1000000):aj Tryz.prog 112 [.seq false 1 (ae l),.seq false 1 (ae c)] (λr=>r=.pv (.tup [ab (cY l c).1,BL (cY l c).2])):=by
 refine mC [4,5] aD Tryz.func112 (λ_ _=>results_tmp2 rfl _ _ _) ?_;have a:cY l c=if(G6 l c).1≠0∨(G6 l c).2.2≠1 then(0,false)else(c.foldl (Cc l) 0,true):=rfl;have b:=zA l c j o;generalize cY l c=U at a⊢;generalize G6 l c=t at a b;obtain⟨x,y,z⟩:=t;dsimp only at a b;simp;refine ai.intro b ?_
 by_cases c1:x=0
 rotate_left
 .rw[SX (.inl c1)]at a;subst a;simp[c1]
 by_cases c2:z=1
 rotate_left
 .rw[SX (.inr c2)]at a;subst a;simp[c1,c2]
 rw[SU (by omega)]at a;simp[c1,c2];refine ax.intro (S:=λ(i:Nat)=>⟨[(0,.pv (.seq false 1 (ae l))),(1,.pv (.seq false 1 (ae c))),(7,.pv (ab ((c.take i).foldl (Cc l) 0))),(8,.pv (ab i))],[]⟩) (λi=>i<=c.length) (λi=>c.length -i) 0 ?_ (Tf _) ?_
 .exact ah.to (by simp) rfl (by simp) (by simp) (by simp)
 intro i hi
 by_cases h:i<c.length
 .have k:=dv i;have e:=bL (Cc l) 0 c i h;generalize(c.take i).foldl (Cc l) 0=n at e⊢;unfold Cc at e;simp[h];refine ai.intro (dH c[i]) ?_;simp[h];refine bf.intro (r:=.pv (ab (bK l c[i]))) (λ_=>gU l c[i] j) ?_;simp[h];refine⟨λf m=>⟨i+1,by(try dsimp only);omega,by(try dsimp only);omega,?_⟩,λf=>⟨i+1,by(try dsimp only);omega,by(try dsimp only);omega,?_⟩⟩
  .rw[SX ⟨f,m⟩]at e;exact ah.to (by unfold Cc;simp[k,e]) rfl (by simp) (by simp) (by simp)
  .rw[SU (λd=>f d.1 d.2)]at e;exact ah.to (by unfold Cc;simp[k,e]) rfl (by simp) (by simp) (by simp)
 .have g:i=c.length:=by omega
  subst g a;simp
end Go.AX