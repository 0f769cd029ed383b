/-
  Contracts: what follows by units, by the document.
-/
import Derived.Test.YtepodadinenmnaaGreatS14AxRfA
import Derived.Test.YtepodadinenmnaaGreatS14AxClD
namespace Go.AX
set_option maxRecDepth 16000
open Go.Proofs
set_option linter.unusedSimpArgs false
def bJ(l:List Int)(x:Int):Int:=if aW x<0 then 0 else if x∈l then 1 else if aS (-x)∈l then-1 else 0
theorem gQ(l:List Int)(x:Int)(b:l.length<=1000000):am Tryz.prog 61 [.seq false 1 (aa l),ae x] (λr=>r=.pv (ae (bJ l x))):=by
 refine aq aE Tryz.func61 ?_;have a:bJ l x=if aW x<0 then 0 else if x∈l then 1 else if aS (-x)∈l then-1 else 0:=rfl;generalize bJ l x=V at a⊢;simp;refine ai.intro (dM x) ?_;simp;refine⟨λc=>by rw[a,Rx c],λc=>?_⟩;rw[Rw (by omega)]at a;refine ai.intro (jO l x (by omega)) ?_;simp;refine⟨λc=>by rw[a,Rx c],λc=>?_⟩;rw[Rw c]at a;refine ai.intro (jO l (aS (-x)) (by omega)) ?_;simp;exact⟨λc=>by rw[a,Rx c],λc=>by rw[a,Rw c]⟩
theorem bf{α β:Type}(f:β->α->β)(b:β)(c:List α)(i:Nat)(h:i<c.length):(c.take (i+1)).foldl f b=f ((c.take i).foldl f b) c[i]:=by
 rw[←TH h,Vk];rfl
def Dm(l:List Int)(n x:Int):Int:=if 0<=aW x∧n<bJ l x then bJ l x else n
def pN(l c:List Int):Int:=c.foldl (Dm l) (-1)
theorem lq(l c:List Int)(d:l.length<=1000000)(k:c.length<=1000000):am Tryz.prog 111 [.seq false 1 (aa l),.seq false 1 (aa c)] (λr=>r=.pv (ae (pN l c))):=by
 refine aq aE Tryz.func111 ?_;simp;refine aw.intro (S:=λ(i:Nat)=>⟨[(0,.pv (.seq false 1 (aa l))),(1,.pv (.seq false 1 (aa c))),(5,.pv (ae ((c.take i).foldl (Dm l) (-1)))),(6,.pv (ae i))],[]⟩) (λi=>i<=c.length) (λi=>c.length -i) 0 ?_ (RL _) ?_
 .exact ah.to (by simp) rfl (by simp) (by simp) (by simp)
 intro i hi
 by_cases h:i<c.length
 .have f:=dr i;have a:=bf (Dm l) (-1) c i h;generalize(c.take i).foldl (Dm l) (-1)=n at a⊢;simp[h];refine ai.intro (dM c[i]) ?_;simp[h];refine aP.intro (r:=.pv (ae (bJ l c[i]))) (λ_=>gQ l c[i] d) ?_;simp[h];refine⟨λc1 c2=>?_,λc1=>⟨i+1,by(try dsimp only);omega,by(try dsimp only);omega,?_⟩⟩
  .refine ai.intro (gQ l c[i] d) ?_;have e:Dm l n c[i]=bJ l c[i]:=by unfold Dm;rw[Rx ⟨c1,c2⟩]
   rw[e]at a;simp[h];exact⟨i+1,by(try dsimp only);omega,by(try dsimp only);omega,ah.to (by simp[f,a]) rfl (by simp) (by simp) (by simp)⟩
  .have e:Dm l n c[i]=n:=by
    unfold Dm;rw[Rw];rintro⟨g,j⟩;have:=c1 g;omega
   rw[e]at a;exact ah.to (by simp[f,a]) rfl (by simp) (by simp) (by simp)
 .have b:i=c.length:=by omega
  subst b;simp[pN]
def vf(l:List Int)(t:Int×Int×Int)(x:Int):Int×Int×Int:=
 if bJ l x=1 then(aS (t.1+1),t.2.1,t.2.2)else if bJ l x=-1 then(t.1,aS (t.2.1+1),t.2.2)else if 0<=aW x then(t.1,t.2.1,aS (t.2.2+1))else t
def Ga(l c:List Int):Int×Int×Int:=c.foldl (vf l) (0,0,0)
theorem yV(l c:List Int)(e:l.length<=1000000)(f:c.length<=1000000):am Tryz.prog 184 [.seq false 1 (aa l),.seq false 1 (aa c)] (λr=>r=.pv (.agg [ae (Ga l c).1,ae (Ga l c).2.1,ae (Ga l c).2.2])):=by
 refine Mu aE Tryz.func184 ?_;simp;refine aw.intro (S:=λ(i:Nat)=>⟨[(0,.pv (.seq false 1 (aa l))),(1,.pv (.seq false 1 (aa c))),(4,.pv (.ptr 0 0)),(5,.pv (.ptr 1 0)),(6,.pv (ae i))],[[.pv (ae 0),.pv (ae 0),.pv (ae 0)],[.pv (ae ((c.take i).foldl (vf l) (0,0,0)).1),.pv (ae ((c.take i).foldl (vf l) (0,0,0)).2.1),.pv (ae ((c.take i).foldl (vf l) (0,0,0)).2.2)]]⟩) (λi=>i<=c.length) (λi=>c.length -i) 0 ?_ (RL _) ?_
 .exact ah.to (by simp) (by simp) (by simp) (by simp) (by simp)
 intro i hi
 by_cases h:i<c.length
 .have b:=dr i;have a:=bf (vf l) (0,0,0) c i h;generalize(c.take i).foldl (vf l) (0,0,0)=t at a⊢;obtain⟨x,y,z⟩:=t;unfold vf at a;simp[h];refine ai.intro (gQ l c[i] e) ?_;simp[h];refine⟨λc1=>⟨i+1,by(try dsimp only);omega,by(try dsimp only);omega,ah.to (by rw[Rx c1]at a;simp[b]) (by rw[Rx c1]at a;unfold vf;simp[a]) (by simp) (by simp) (by simp)⟩,λc1=>⟨λc2=>⟨i+1,by(try dsimp only);omega,by(try dsimp only);omega,ah.to (by simp[b]) (by rw[Rw c1,Rx c2]at a;unfold vf;simp[a]) (by simp) (by simp) (by simp)⟩,λc2=>?_⟩⟩;refine ai.intro (dM c[i]) ?_;simp;exact⟨λc3=>⟨i+1,by(try dsimp only);omega,by(try dsimp only);omega,ah.to (by simp[b]) (by rw[Rw c1,Rw c2,Rx c3]at a;unfold vf;simp[a]) (by simp) (by simp) (by simp)⟩,λc3=>⟨i+1,by(try dsimp only);omega,by(try dsimp only);omega,ah.to (by simp[b]) (by rw[Rw c1,Rw c2,Rw (by omega)]at a;unfold vf;simp[a]) (by simp) (by simp) (by simp)⟩⟩
 .have d:i=c.length:=by omega
  subst d;simp[Ga]
def Bz(l:List Int)(n x:Int):Int:=if 0<=aW x∧bJ l x=0 then x else n
def bD(l c:List Int):Int×Bool:=if(Ga l c).1≠0∨(Ga l c).2.2≠1 then(0,false)else(c.foldl (Bz l) 0,true)
theorem oi(l c:List Int)(j:l.length<=1000000)(o:c.length<=1000000):am Tryz.prog 112 [.seq false 1 (aa l),.seq false 1 (aa c)] (λr=>r=.pv (.tup [ae (bD l c).1,BL (bD l c).2])):=by
 refine jG [4,5] aE Tryz.func112 (λ_ _=>results_tmp2 rfl _ _ _) ?_;have a:bD l c=if(Ga l c).1≠0∨(Ga l c).2.2≠1 then(0,false)else(c.foldl (Bz l) 0,true):=rfl;have b:=yV l c j o;generalize bD l c=U at a⊢;generalize Ga l c=t at a b;obtain⟨x,y,z⟩:=t;dsimp only at a b;simp;refine ai.intro b ?_
 by_cases c1:x=0
 rotate_left
 .rw[Rx (.inl c1)]at a;subst a;simp[c1]
 by_cases c2:z=1
 rotate_left
 .rw[Rx (.inr c2)]at a;subst a;simp[c1,c2]
 rw[Rw (by omega)]at a;simp[c1,c2];refine aw.intro (S:=λ(i:Nat)=>⟨[(0,.pv (.seq false 1 (aa l))),(1,.pv (.seq false 1 (aa c))),(7,.pv (ae ((c.take i).foldl (Bz l) 0))),(8,.pv (ae i))],[]⟩) (λi=>i<=c.length) (λi=>c.length -i) 0 ?_ (RL _) ?_
 .exact ah.to (by simp) rfl (by simp) (by simp) (by simp)
 intro i hi
 by_cases h:i<c.length
 .have k:=dr i;have e:=bf (Bz l) 0 c i h;generalize(c.take i).foldl (Bz l) 0=n at e⊢;unfold Bz at e;simp[h];refine ai.intro (dM c[i]) ?_;simp[h];refine aP.intro (r:=.pv (ae (bJ l c[i]))) (λ_=>gQ l c[i] j) ?_;simp[h];refine⟨λf m=>⟨i+1,by(try dsimp only);omega,by(try dsimp only);omega,?_⟩,λf=>⟨i+1,by(try dsimp only);omega,by(try dsimp only);omega,?_⟩⟩
  .rw[Rx ⟨f,m⟩]at e;exact ah.to (by unfold Bz;simp[k,e]) rfl (by simp) (by simp) (by simp)
  .rw[Rw (λd=>f d.1 d.2)]at e;exact ah.to (by unfold Bz;simp[k,e]) rfl (by simp) (by simp) (by simp)
 .have g:i=c.length:=by omega
  subst g a;simp
def fewC(cs:List (List Int)):Prop:=cs.length<=500∧∀c∈cs,c.length<=1000
def ii(cs:List (List Int))(l:List Int):Int:=i7 (λc=>decide (pN l c=-1)) cs
theorem qL(cs:List (List Int))(l:List Int)(d:l.length<=1000000)(a:fewC cs):am Tryz.prog 183 [.seq false 1 (cs.map ao),.seq false 1 (aa l)] (λr=>r=.pv (ae (ii cs l))):=by
 refine aq aE Tryz.func183 ?_;simp;refine aw.intro (S:=λ(i:Nat)=>⟨[(0,.pv (.seq false 1 (cs.map ao))),(1,.pv (.seq false 1 (aa l))),(5,.pv (ae i))],[]⟩) (λi=>i<=cs.length∧∀j (hj:j<cs.length),j<i->decide (pN l cs[j]=-1)=false) (λi=>cs.length -i) 0 ?_ ⟨RL _,λj _ h=>by omega⟩ ?_
 .exact ah.to (by simp) rfl (by simp) (by simp) (by simp)
 intro i ⟨hi,ho⟩;have:=a.1
 by_cases h:i<cs.length
 .have f:=dr i;have b:=a.2 _ (Rz h);simp[h,ao];refine ai.intro (lq l cs[i] d (by omega)) ?_;simp[h];refine⟨λc1=>?_,λc1=>⟨i+1,by(try dsimp only);omega,⟨by omega,λj hj c=>?_⟩,ah.to (by simp[f,ao]) rfl (by simp) (by simp) (by simp)⟩⟩
  .rw[ii,gH h ho (by simpa using c1)]
  .by_cases e:j=i
   .subst e;simpa using c1
   .simpa using ho j hj (by omega)
 .simp[h];rw[ii,ff (λj hj=>ho j hj (by omega))]
def eP(cs:List (List Int))(l:List Int):Int×Int×Bool:=match cs.findIdx? (λc=>(bD l c).2)with
 |some i=>((bD l (cs.getD i [])).1,i,true)
 |none=>(0,0,false)
theorem sK(cs:List (List Int))(l:List Int)(g:l.length<=1000000)(b:fewC cs):am Tryz.prog 182 [.seq false 1 (cs.map ao),.seq false 1 (aa l)] (λr=>r=.pv (.tup [ae (eP cs l).1,ae (eP cs l).2.1,BL (eP cs l).2.2])):=by
 refine jG [4,5,6] aE Tryz.func182 (λ_ _=>results_tmp3 rfl _ _ _) ?_;simp;refine aw.intro (S:=λ(i:Nat)=>⟨[(0,.pv (.seq false 1 (cs.map ao))),(1,.pv (.seq false 1 (aa l))),(7,.pv (ae i))],[]⟩) (λi=>i<=cs.length∧∀j (hj:j<cs.length),j<i->(bD l cs[j]).2=false) (λi=>cs.length -i) 0 ?_ ⟨RL _,λj _ h=>by omega⟩ ?_
 .exact ah.to (by simp) rfl (by simp) (by simp) (by simp)
 intro i ⟨hi,ho⟩;have:=b.1
 by_cases h:i<cs.length
 .have k:=dr i;have d:=b.2 _ (Rz h);simp[h,ao];refine ai.intro (oi l cs[i] g (by omega)) ?_;simp[h];refine⟨λc1=>?_,λc1=>⟨i+1,by(try dsimp only);omega,⟨by omega,λj hj f=>?_⟩,ah.to (by simp[k,ao]) rfl (by simp) (by simp) (by simp)⟩⟩
  .have a:cs.findIdx? (λc=>(bD l c).2)=some i:=by
    rw[SG];exact⟨h,c1,λj hj=>by simpa using ho j (by omega) hj⟩
   simp[eP,a,h]
  .by_cases e:j=i
   .subst e;simpa using c1
   .simpa using ho j hj (by omega)
 .have a:cs.findIdx? (λc=>(bD l c).2)=none:=by
   rw[TQ];intro x hx;obtain⟨j,hj,rfl⟩:=Vx.1 hx;exact ho j hj (by omega)
  simp[h,eP,a]
def jT(cs:List (List Int)):Nat->List Int->List Int->List Int×List Int×Int
 |0,out,by'=>(out,by',-1)
 |k+1,out,by'=>if 0<=ii cs out then(out,by',ii cs out)else if(eP cs out).2.2=false then(out,by',-1)else jT cs k (out++[(eP cs out).1]) (by'++[(eP cs out).2.1])
def qM(cs:List (List Int)):Nat:=cs.foldl (λn c=>n+c.length) 0
def eQ(cs:List (List Int))(l:List Int):List Int×List Int×Int:=jT cs (qM cs+1) l []
theorem Hy{cs:List (List Int)}(a:∀c∈cs,c.length<=1000):∀i,(cs.take i).foldl (λn c=>n+c.length) 0<=1000*i:=by
 intro i
 induction i with
 |zero=>simp
 |succ i b=>
  by_cases h:i<cs.length
  .rw[bf _ _ _ _ h];have:=a _ (Rz h);omega
  .rw[SA (by omega)];rw[SA (by omega)]at b;omega
theorem sL(cs:List (List Int))(k:Nat)(out by':List Int):jT cs (k+1) out by'=if 0<=ii cs out then(out,by',ii cs out)else if(eP cs out).2.2=false then(out,by',-1)else jT cs k (out++[(eP cs out).1]) (by'++[(eP cs out).2.1]):=rfl
theorem BA(cs:List (List Int))(l:List Int)(A:l.length<=1000)(e:fewC cs):am Tryz.prog 180 [.seq false 1 (cs.map ao),.seq false 1 (aa l)] (λr=>r=.pv (.tup [.seq true 1 (aa (eQ cs l).1),.seq true 1 (aa (eQ cs l).2.1),ae (eQ cs l).2.2])):=by
 refine jG [4,5,6] aE Tryz.func180 (λ_ _=>results_tmp3 rfl _ _ _) ?_;have t:=e.1;have p:=Hy e.2;have q:jT cs (qM cs+1) l []=eQ cs l:=rfl;have d:qM cs=(cs.take cs.length).foldl (λn c=>n+c.length) 0:=by rw[RY];rfl
 simp;refine⟨by omega,?_⟩;refine aw.intro (S:=λ(i:Nat)=>⟨[(0,.pv (.seq false 1 (cs.map ao))),(7,.own true 1 (aa l)),(8,.pv (.lit (.slice none 0 0))),(9,.pv (ae (((cs.take i).foldl (λn c=>n+c.length) 0:Nat):Int))),(10,.pv (ae i))],[]⟩) (λi=>i<=cs.length) (λi=>cs.length -i) 0 ?_ (RL _) ?_
 .exact ah.to (by simp) rfl (by simp) (by simp) (by simp)
 intro i hi
 by_cases h:i<cs.length
 .have j:=dr i;have u:=e.2 _ (Rz h);have b:=p i;have o:=bf (λn (c:List Int)=>n+c.length) 0 cs i h;generalize(cs.take i).foldl (λn c=>n+c.length) 0=m at o b⊢;have k:aS ((m:Int)+cs[i].length)=((m+cs[i].length:Nat):Int):=by rw[ap (by omega) (by omega)];omega
  simp[h,ao];exact⟨i+1,by(try dsimp only);omega,by(try dsimp only);omega,ah.to (by simp[j,k,o,ao]) rfl (by simp) (by simp) (by simp)⟩
 have g:i=cs.length:=by omega
 subst g;have b:=p cs.length;rw[←d]at b⊢;generalize v:qM cs=m at*;generalize eQ cs l=R at*;simp;refine aw.intro (S:=λ(y:Nat×List Int×List Int)=>⟨[(0,.pv (.seq false 1 (cs.map ao))),(7,.own true 1 (aa y.2.1)),(8,.own true 1 (aa y.2.2)),(9,.pv (ae m)),(11,.pv (ae y.1))],[]⟩) (λy=>y.1<=m+1∧y.2.1.length=l.length+y.1∧y.2.2.length=y.1∧jT cs (m+1 -y.1) y.2.1 y.2.2=R) (λy=>m+2 -y.1) (0,l,[]) ?_ ⟨RL _,rfl,rfl,q⟩ ?_
 .exact(ah.nilOwn (s:=8) 1 true (by simp)).trans (ah.to (by simp[aa]) rfl (by simp) (by simp) (by simp))
 rintro⟨n,out,by'⟩ ⟨w,x,z,a⟩;dsimp only at w x z a
 by_cases h:n<=m
 .have j:=dr n;rw[show m+1 -n=(m -n)+1 by omega,sL]at a;simp[h];refine ai.intro (qL cs out (by omega) e) ?_
  by_cases c1:0<=ii cs out
  .rw[Rx c1]at a;subst a;simp[c1]
  rw[Rw c1]at a;simp[c1];refine ai.intro (sK cs out (by omega) e) ?_
  by_cases c2:(eP cs out).2.2=false
  .rw[Rx c2]at a;subst a;simp[c2]
  rw[Rw c2]at a;have f:(eP cs out).2.2=true:=by simpa using c2
  simp[f];refine⟨by omega,by omega,(n+1,out++[(eP cs out).1],by'++[(eP cs out).2.1]),by(try dsimp only);omega,⟨by dsimp only;omega,by simp;omega,by simp;omega,by dsimp only;rw[show m+1 -(n+1)=m -n by omega];exact a⟩,ah.to (by simp[j,aa]) rfl (by simp) (by simp) (by simp)⟩
 .rw[show m+1 -n=0 by omega]at a;subst a;have:¬(n:Int)<=m:=by omega
  simp[this,jT]
end Go.AX