/-
  Contracts: what follows by units, by the document.
-/
import Derived.Test.YtepodadinenmnaaGreatS14AxRfA
import Derived.Test.YtepodadinenmnaaGreatS14AxClD
namespace Go.AX
set_option maxRecDepth 16000
open Go.Proofs
set_option linter.unusedSimpArgs false
def bH(l:List Int)(x:Int):Int:=if aW x<0 then 0 else if x∈l then 1 else if aR (-x)∈l then-1 else 0
theorem fP(l:List Int)(x:Int)(b:l.length<=1000000):am Tryz.prog 61 [.seq false 1 (aa l),ae x] (λr=>r=.pv (ae (bH l x))):=by
 refine aq aE Tryz.func61 ?_;have a:bH l x=if aW x<0 then 0 else if x∈l then 1 else if aR (-x)∈l then-1 else 0:=rfl;generalize bH l x=V at a⊢;simp;refine ai.intro (dP x) ?_;simp;refine⟨λc=>by rw[a,RI c],λc=>?_⟩;rw[RH (by omega)]at a;refine ai.intro (jR l x (by omega)) ?_;simp;refine⟨λc=>by rw[a,RI c],λc=>?_⟩;rw[RH c]at a;refine ai.intro (jR l (aR (-x)) (by omega)) ?_;simp;exact⟨λc=>by rw[a,RI c],λc=>by rw[a,RH c]⟩
theorem bf{α β:Type}(f:β->α->β)(b:β)(c:List α)(i:Nat)(h:i<c.length):(c.take (i+1)).foldl f b=f ((c.take i).foldl f b) c[i]:=by
 rw[←TT h,Vv];rfl
def Dv(l:List Int)(n x:Int):Int:=if 0<=aW x∧n<bH l x then bH l x else n
def pS(l c:List Int):Int:=c.foldl (Dv l) (-1)
theorem lu(l c:List Int)(d:l.length<=1000000)(k:c.length<=1000000):am Tryz.prog 111 [.seq false 1 (aa l),.seq false 1 (aa c)] (λr=>r=.pv (ae (pS l c))):=by
 refine aq aE Tryz.func111 ?_;simp;refine av.intro (S:=λ(i:Nat)=>⟨[(0,.pv (.seq false 1 (aa l))),(1,.pv (.seq false 1 (aa c))),(5,.pv (ae ((c.take i).foldl (Dv l) (-1)))),(6,.pv (ae i))],[]⟩) (λi=>i<=c.length) (λi=>c.length -i) 0 ?_ (RW _) ?_
 .exact af.to (by simp) rfl (by simp) (by simp) (by simp)
 intro i hi
 by_cases h:i<c.length
 .have f:=dq i;have a:=bf (Dv l) (-1) c i h;generalize(c.take i).foldl (Dv l) (-1)=n at a⊢;simp[h];refine ai.intro (dP c[i]) ?_;simp[h];refine aH.intro (r:=.pv (ae (bH l c[i]))) (λ_=>fP l c[i] d) ?_;simp[h];refine⟨λc1 c2=>?_,λc1=>⟨i+1,by(try dsimp only);omega,by(try dsimp only);omega,?_⟩⟩
  .refine ai.intro (fP l c[i] d) ?_;have e:Dv l n c[i]=bH l c[i]:=by unfold Dv;rw[RI ⟨c1,c2⟩]
   rw[e]at a;simp[h];exact⟨i+1,by(try dsimp only);omega,by(try dsimp only);omega,af.to (by simp[f,a]) rfl (by simp) (by simp) (by simp)⟩
  .have e:Dv l n c[i]=n:=by
    unfold Dv;rw[RH];rintro⟨g,j⟩;have:=c1 g;omega
   rw[e]at a;exact af.to (by simp[f,a]) rfl (by simp) (by simp) (by simp)
 .have b:i=c.length:=by omega
  subst b;simp[pS]
def vk(l:List Int)(t:Int×Int×Int)(x:Int):Int×Int×Int:=
 if bH l x=1 then(aR (t.1+1),t.2.1,t.2.2)else if bH l x=-1 then(t.1,aR (t.2.1+1),t.2.2)else if 0<=aW x then(t.1,t.2.1,aR (t.2.2+1))else t
def Gk(l c:List Int):Int×Int×Int:=c.foldl (vk l) (0,0,0)
theorem y9(l c:List Int)(e:l.length<=1000000)(f:c.length<=1000000):am Tryz.prog 184 [.seq false 1 (aa l),.seq false 1 (aa c)] (λr=>r=.pv (.agg [ae (Gk l c).1,ae (Gk l c).2.1,ae (Gk l c).2.2])):=by
 refine ME aE Tryz.func184 ?_;simp;refine av.intro (S:=λ(i:Nat)=>⟨[(0,.pv (.seq false 1 (aa l))),(1,.pv (.seq false 1 (aa c))),(4,.pv (.ptr 0 0)),(5,.pv (.ptr 1 0)),(6,.pv (ae i))],[[.pv (ae 0),.pv (ae 0),.pv (ae 0)],[.pv (ae ((c.take i).foldl (vk l) (0,0,0)).1),.pv (ae ((c.take i).foldl (vk l) (0,0,0)).2.1),.pv (ae ((c.take i).foldl (vk l) (0,0,0)).2.2)]]⟩) (λi=>i<=c.length) (λi=>c.length -i) 0 ?_ (RW _) ?_
 .exact af.to (by simp) (by simp) (by simp) (by simp) (by simp)
 intro i hi
 by_cases h:i<c.length
 .have b:=dq i;have a:=bf (vk l) (0,0,0) c i h;generalize(c.take i).foldl (vk l) (0,0,0)=t at a⊢;obtain⟨x,y,z⟩:=t;unfold vk at a;simp[h];refine ai.intro (fP l c[i] e) ?_;simp[h];refine⟨λc1=>⟨i+1,by(try dsimp only);omega,by(try dsimp only);omega,af.to (by rw[RI c1]at a;simp[b]) (by rw[RI c1]at a;unfold vk;simp[a]) (by simp) (by simp) (by simp)⟩,λc1=>⟨λc2=>⟨i+1,by(try dsimp only);omega,by(try dsimp only);omega,af.to (by simp[b]) (by rw[RH c1,RI c2]at a;unfold vk;simp[a]) (by simp) (by simp) (by simp)⟩,λc2=>?_⟩⟩;refine ai.intro (dP c[i]) ?_;simp;exact⟨λc3=>⟨i+1,by(try dsimp only);omega,by(try dsimp only);omega,af.to (by simp[b]) (by rw[RH c1,RH c2,RI c3]at a;unfold vk;simp[a]) (by simp) (by simp) (by simp)⟩,λc3=>⟨i+1,by(try dsimp only);omega,by(try dsimp only);omega,af.to (by simp[b]) (by rw[RH c1,RH c2,RH (by omega)]at a;unfold vk;simp[a]) (by simp) (by simp) (by simp)⟩⟩
 .have d:i=c.length:=by omega
  subst d;simp[Gk]
def BJ(l:List Int)(n x:Int):Int:=if 0<=aW x∧bH l x=0 then x else n
def bD(l c:List Int):Int×Bool:=if(Gk l c).1≠0∨(Gk l c).2.2≠1 then(0,false)else(c.foldl (BJ l) 0,true)
theorem ot(l c:List Int)(j:l.length<=1000000)(o:c.length<=1000000):am Tryz.prog 112 [.seq false 1 (aa l),.seq false 1 (aa c)] (λr=>r=.pv (.tup [ae (bD l c).1,BL (bD l c).2])):=by
 refine iG [4,5] aE Tryz.func112 (λ_ _=>results_tmp2 rfl _ _ _) ?_;have a:bD l c=if(Gk l c).1≠0∨(Gk l c).2.2≠1 then(0,false)else(c.foldl (BJ l) 0,true):=rfl;have b:=y9 l c j o;generalize bD l c=U at a⊢;generalize Gk l c=t at a b;obtain⟨x,y,z⟩:=t;dsimp only at a b;simp;refine ai.intro b ?_
 by_cases c1:x=0
 rotate_left
 .rw[RI (.inl c1)]at a;subst a;simp[c1]
 by_cases c2:z=1
 rotate_left
 .rw[RI (.inr c2)]at a;subst a;simp[c1,c2]
 rw[RH (by omega)]at a;simp[c1,c2];refine av.intro (S:=λ(i:Nat)=>⟨[(0,.pv (.seq false 1 (aa l))),(1,.pv (.seq false 1 (aa c))),(7,.pv (ae ((c.take i).foldl (BJ l) 0))),(8,.pv (ae i))],[]⟩) (λi=>i<=c.length) (λi=>c.length -i) 0 ?_ (RW _) ?_
 .exact af.to (by simp) rfl (by simp) (by simp) (by simp)
 intro i hi
 by_cases h:i<c.length
 .have k:=dq i;have e:=bf (BJ l) 0 c i h;generalize(c.take i).foldl (BJ l) 0=n at e⊢;unfold BJ at e;simp[h];refine ai.intro (dP c[i]) ?_;simp[h];refine aH.intro (r:=.pv (ae (bH l c[i]))) (λ_=>fP l c[i] j) ?_;simp[h];refine⟨λf m=>⟨i+1,by(try dsimp only);omega,by(try dsimp only);omega,?_⟩,λf=>⟨i+1,by(try dsimp only);omega,by(try dsimp only);omega,?_⟩⟩
  .rw[RI ⟨f,m⟩]at e;exact af.to (by unfold BJ;simp[k,e]) rfl (by simp) (by simp) (by simp)
  .rw[RH (λd=>f d.1 d.2)]at e;exact af.to (by unfold BJ;simp[k,e]) rfl (by simp) (by simp) (by simp)
 .have g:i=c.length:=by omega
  subst g a;simp
def fewC(cs:List (List Int)):Prop:=cs.length<=500∧∀c∈cs,c.length<=1000
def ij(cs:List (List Int))(l:List Int):Int:=iH (λc=>decide (pS l c=-1)) cs
theorem qQ(cs:List (List Int))(l:List Int)(d:l.length<=1000000)(a:fewC cs):am Tryz.prog 183 [.seq false 1 (cs.map an),.seq false 1 (aa l)] (λr=>r=.pv (ae (ij cs l))):=by
 refine aq aE Tryz.func183 ?_;simp;refine av.intro (S:=λ(i:Nat)=>⟨[(0,.pv (.seq false 1 (cs.map an))),(1,.pv (.seq false 1 (aa l))),(5,.pv (ae i))],[]⟩) (λi=>i<=cs.length∧∀j (hj:j<cs.length),j<i->decide (pS l cs[j]=-1)=false) (λi=>cs.length -i) 0 ?_ ⟨RW _,λj _ h=>by omega⟩ ?_
 .exact af.to (by simp) rfl (by simp) (by simp) (by simp)
 intro i ⟨hi,ho⟩;have:=a.1
 by_cases h:i<cs.length
 .have f:=dq i;have b:=a.2 _ (RK h);simp[h,an];refine ai.intro (lu l cs[i] d (by omega)) ?_;simp[h];refine⟨λc1=>?_,λc1=>⟨i+1,by(try dsimp only);omega,⟨by omega,λj hj c=>?_⟩,af.to (by simp[f,an]) rfl (by simp) (by simp) (by simp)⟩⟩
  .rw[ij,f9 h ho (by simpa using c1)]
  .by_cases e:j=i
   .subst e;simpa using c1
   .simpa using ho j hj (by omega)
 .simp[h];rw[ij,ed (λj hj=>ho j hj (by omega))]
def eU(cs:List (List Int))(l:List Int):Int×Int×Bool:=match cs.findIdx? (λc=>(bD l c).2)with
 |some i=>((bD l (cs.getD i [])).1,i,true)
 |none=>(0,0,false)
theorem sX(cs:List (List Int))(l:List Int)(g:l.length<=1000000)(b:fewC cs):am Tryz.prog 182 [.seq false 1 (cs.map an),.seq false 1 (aa l)] (λr=>r=.pv (.tup [ae (eU cs l).1,ae (eU cs l).2.1,BL (eU cs l).2.2])):=by
 refine iG [4,5,6] aE Tryz.func182 (λ_ _=>results_tmp3 rfl _ _ _) ?_;simp;refine av.intro (S:=λ(i:Nat)=>⟨[(0,.pv (.seq false 1 (cs.map an))),(1,.pv (.seq false 1 (aa l))),(7,.pv (ae i))],[]⟩) (λi=>i<=cs.length∧∀j (hj:j<cs.length),j<i->(bD l cs[j]).2=false) (λi=>cs.length -i) 0 ?_ ⟨RW _,λj _ h=>by omega⟩ ?_
 .exact af.to (by simp) rfl (by simp) (by simp) (by simp)
 intro i ⟨hi,ho⟩;have:=b.1
 by_cases h:i<cs.length
 .have k:=dq i;have d:=b.2 _ (RK h);simp[h,an];refine ai.intro (ot l cs[i] g (by omega)) ?_;simp[h];refine⟨λc1=>?_,λc1=>⟨i+1,by(try dsimp only);omega,⟨by omega,λj hj f=>?_⟩,af.to (by simp[k,an]) rfl (by simp) (by simp) (by simp)⟩⟩
  .have a:cs.findIdx? (λc=>(bD l c).2)=some i:=by
    rw[SR];exact⟨h,c1,λj hj=>by simpa using ho j (by omega) hj⟩
   simp[eU,a,h]
  .by_cases e:j=i
   .subst e;simpa using c1
   .simpa using ho j hj (by omega)
 .have a:cs.findIdx? (λc=>(bD l c).2)=none:=by
   rw[T6];intro x hx;obtain⟨j,hj,rfl⟩:=U6.1 hx;exact ho j hj (by omega)
  simp[h,eU,a]
def jW(cs:List (List Int)):Nat->List Int->List Int->List Int×List Int×Int
 |0,out,by'=>(out,by',-1)
 |k+1,out,by'=>if 0<=ij cs out then(out,by',ij cs out)else if(eU cs out).2.2=false then(out,by',-1)else jW cs k (out++[(eU cs out).1]) (by'++[(eU cs out).2.1])
def qR(cs:List (List Int)):Nat:=cs.foldl (λn c=>n+c.length) 0
def eV(cs:List (List Int))(l:List Int):List Int×List Int×Int:=jW cs (qR cs+1) l []
theorem HH{cs:List (List Int)}(a:∀c∈cs,c.length<=1000):∀i,(cs.take i).foldl (λn c=>n+c.length) 0<=1000*i:=by
 intro i
 induction i with
 |zero=>simp
 |succ i b=>
  by_cases h:i<cs.length
  .rw[bf _ _ _ _ h];have:=a _ (RK h);omega
  .rw[SK (by omega)];rw[SK (by omega)]at b;omega
theorem sY(cs:List (List Int))(k:Nat)(out by':List Int):jW cs (k+1) out by'=if 0<=ij cs out then(out,by',ij cs out)else if(eU cs out).2.2=false then(out,by',-1)else jW cs k (out++[(eU cs out).1]) (by'++[(eU cs out).2.1]):=rfl
theorem BK(cs:List (List Int))(l:List Int)(A:l.length<=1000)(e:fewC cs):am Tryz.prog 180 [.seq false 1 (cs.map an),.seq false 1 (aa l)] (λr=>r=.pv (.tup [.seq true 1 (aa (eV cs l).1),.seq true 1 (aa (eV cs l).2.1),ae (eV cs l).2.2])):=by
 refine iG [4,5,6] aE Tryz.func180 (λ_ _=>results_tmp3 rfl _ _ _) ?_;have t:=e.1;have p:=HH e.2;have q:jW cs (qR cs+1) l []=eV cs l:=rfl;have d:qR cs=(cs.take cs.length).foldl (λn c=>n+c.length) 0:=by rw[R8];rfl
 simp;refine⟨by omega,?_⟩;refine av.intro (S:=λ(i:Nat)=>⟨[(0,.pv (.seq false 1 (cs.map an))),(7,.own true 1 (aa l)),(8,.pv (.lit (.slice none 0 0))),(9,.pv (ae (((cs.take i).foldl (λn c=>n+c.length) 0:Nat):Int))),(10,.pv (ae i))],[]⟩) (λi=>i<=cs.length) (λi=>cs.length -i) 0 ?_ (RW _) ?_
 .exact af.to (by simp) rfl (by simp) (by simp) (by simp)
 intro i hi
 by_cases h:i<cs.length
 .have j:=dq i;have u:=e.2 _ (RK h);have b:=p i;have o:=bf (λn (c:List Int)=>n+c.length) 0 cs i h;generalize(cs.take i).foldl (λn c=>n+c.length) 0=m at o b⊢;have k:aR ((m:Int)+cs[i].length)=((m+cs[i].length:Nat):Int):=by rw[ap (by omega) (by omega)];omega
  simp[h,an];exact⟨i+1,by(try dsimp only);omega,by(try dsimp only);omega,af.to (by simp[j,k,o,an]) rfl (by simp) (by simp) (by simp)⟩
 have g:i=cs.length:=by omega
 subst g;have b:=p cs.length;rw[←d]at b⊢;generalize v:qR cs=m at*;generalize eV cs l=R at*;simp;refine av.intro (S:=λ(y:Nat×List Int×List Int)=>⟨[(0,.pv (.seq false 1 (cs.map an))),(7,.own true 1 (aa y.2.1)),(8,.own true 1 (aa y.2.2)),(9,.pv (ae m)),(11,.pv (ae y.1))],[]⟩) (λy=>y.1<=m+1∧y.2.1.length=l.length+y.1∧y.2.2.length=y.1∧jW cs (m+1 -y.1) y.2.1 y.2.2=R) (λy=>m+2 -y.1) (0,l,[]) ?_ ⟨RW _,rfl,rfl,q⟩ ?_
 .exact(af.nilOwn (s:=8) 1 true (by simp)).trans (af.to (by simp[aa]) rfl (by simp) (by simp) (by simp))
 rintro⟨n,out,by'⟩ ⟨w,x,z,a⟩;dsimp only at w x z a
 by_cases h:n<=m
 .have j:=dq n;rw[show m+1 -n=(m -n)+1 by omega,sY]at a;simp[h];refine ai.intro (qQ cs out (by omega) e) ?_
  by_cases c1:0<=ij cs out
  .rw[RI c1]at a;subst a;simp[c1]
  rw[RH c1]at a;simp[c1];refine ai.intro (sX cs out (by omega) e) ?_
  by_cases c2:(eU cs out).2.2=false
  .rw[RI c2]at a;subst a;simp[c2]
  rw[RH c2]at a;have f:(eU cs out).2.2=true:=by simpa using c2
  simp[f];refine⟨by omega,by omega,(n+1,out++[(eU cs out).1],by'++[(eU cs out).2.1]),by(try dsimp only);omega,⟨by dsimp only;omega,by simp;omega,by simp;omega,by dsimp only;rw[show m+1 -(n+1)=m -n by omega];exact a⟩,af.to (by simp[j,aa]) rfl (by simp) (by simp) (by simp)⟩
 .rw[show m+1 -n=0 by omega]at a;subst a;have:¬(n:Int)<=m:=by omega
  simp[this,jW]
end Go.AX