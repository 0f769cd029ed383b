/-
  Contracts: where a clause holds.
-/
import Derived.Test.YtepodadinenmnaaGreatS14AxEvC
namespace Go.AX
set_option maxRecDepth 16000
open Go.Proofs
set_option linter.unusedSimpArgs false
def cQ(l:Int):Int×Bool:=if 0<l∧l<=100000 then(l,true)else if l<0∧-100000<=l then(-l,false)else(0,false)
theorem vS(l:Int):0<=(cQ l).1∧(cQ l).1<=100000:=by
 unfold cQ;split
 .dsimp only;omega
 .split
  .dsimp only;omega
  .simp
theorem Jq(l:Int):am Tryz.prog 70 [ae l] (λr=>r=.pv (.tup [ae (cQ l).1,BL (cQ l).2])):=by
 refine iG [2,3] aE Tryz.func70 (λ_ _=>results_tmp2 rfl _ _ _) ?_;simp;refine⟨λh1 a=>by simp[cQ,h1,a],λh=>⟨λh1 a=>?_,λh1=>?_⟩⟩
 .have:aR (-l)=-l:=ap (by omega) (by omega);rw[cQ,RH (by omega),RI (by omega),this];simp
 .rw[cQ,RH (by omega),RH (by omega)];simp
def gY(m:List Bool)(l:Int):Bool:=decide ((cQ l).1≠0)&&(decide ((cQ l).1<=(m.length:Int))&&m.getD ((cQ l).1 -1).toNat false)==(cQ l).2
def cO(c:List Int)(m:List Bool):Bool:=c.any (gY m)
theorem z8(c:List Int)(m:List Bool)(A:c.length<=140737488355328):am Tryz.prog 25 [.seq false 1 (aa c),.seq false 1 (cM m)] (λr=>r=.pv (BL (cO c m))):=by
 refine aq aE Tryz.func25 ?_;simp;refine av.intro (S:=λ(i:Nat)=>⟨[(0,.pv (.seq false 1 (aa c))),(1,.pv (.seq false 1 (cM m))),(5,.pv (ae i))],[]⟩) (λi=>i<=c.length∧∀j (hj:j<c.length),j<i->gY m c[j]=false) (λi=>c.length -i) 0 ?_ ?_ ?_
 .exact af.to (by simp) rfl (by simp) (by simp) (by simp)
 .exact⟨by omega,λj _ hj=>by omega⟩
 .intro i ⟨hi,ho⟩
  by_cases h:i<c.length
  .have p:=dq i;have hs:=Jq c[i];have hin:=vS c[i];have f:∀b,gY m c[i]=b->b=true->cO c m=true:=λb s n=>Tm.2 ⟨c[i],RK h,by rw[s,n]⟩;have a:gY m c[i]=false->∀j (hj:j<c.length),j<i+1->gY m c[j]=false:=λu j hj w=>by
    by_cases e:j=i
    .subst e;exact u
    .exact ho j hj (by omega)
   have hd:gY m c[i]=(decide ((cQ c[i]).1≠0)&&(decide ((cQ c[i]).1<=(m.length:Int))&&m.getD ((cQ c[i]).1 -1).toNat false)==(cQ c[i]).2):=rfl;generalize z:gY m c[i]=L at f a hd;obtain⟨v,y⟩:=Te hin.1;have o:(cQ c[i]).1=(v:Int):=y;rw[o]at hs hin hd;generalize(cQ c[i]).2=t at hs hd;simp[h];refine ai.intro hs ?_;rcases Uf v with h0|h0
   .subst h0;simp;refine⟨i+1,by dsimp only;omega,⟨by omega,a (by rw[hd];simp)⟩,af.to ?_ (by simp) (by simp) (by simp) (by simp)⟩;simp[p]
   .obtain⟨k,rfl⟩:∃k,v=k+1:=⟨v -1,by omega⟩;have g:aR (k:Int)=(k:Int):=ap (by omega) (by omega);have l:¬(k:Int)+1=0:=by omega
    by_cases hk:k<m.length
    .have hle:(k:Int)+1<=(m.length:Int):=by omega
     have d:k+1<=m.length:=by omega
     simp[l,hk,hle,d,g]at hd⊢;refine⟨λq=>f L rfl (by rw[hd];simp[q]),λq=>⟨i+1,by dsimp only;omega,⟨by omega,a (by rw[hd];simp[q])⟩,af.to ?_ (by simp) (by simp) (by simp) (by simp)⟩⟩;simp[p]
    .have hle:¬(k:Int)+1<=(m.length:Int):=by omega
     have d:¬k+1<=m.length:=by omega
     simp[l,hk,hle,d,g]at hd⊢;refine⟨λq=>f L rfl (by rw[hd];simp[q]),λq=>⟨i+1,by dsimp only;omega,⟨by omega,a (by rw[hd];simp[q])⟩,af.to ?_ (by simp) (by simp) (by simp) (by simp)⟩⟩;simp[p]
  .simp[h];simp only[cO,Tv];intro x hx;obtain⟨j,hj,rfl⟩:=U6.1 hx;rw[ho j hj (by omega)];simp
def jL(L:List (List Int))(m:List Bool):Int:=iH (λc=>!cO c m) L
theorem tV(L:List (List Int))(m:List Bool):jL L m<0↔∀c∈L,cO c m=true:=by
 unfold jL iH;cases h:L.findIdx? (λc=>!cO c m)with
 |none=>
  rw[T6]at h;exact⟨λ_ c d=>by have:=h c d;simpa using this,λ_=>by decide⟩
 |some i=>
  rw[SR]at h;obtain⟨h1,b,_⟩:=h;refine⟨λa=>absurd a (by dsimp only;omega),λa=>?_⟩;rw[a L[i] (RK h1)]at b;cases b
theorem Aa(v:Int)(L:List (List Int))(m:List Bool)(f:L.length<=140737488355328)(b:∀x∈L,x.length<=140737488355328):am Tryz.prog 60 [.agg [ae v,.seq false 1 (L.map an)],.seq false 1 (cM m)] (λr=>r=.pv (ae (jL L m))):=by
 refine aq aE Tryz.func60 ?_;simp;refine av.intro (S:=λ(i:Nat)=>⟨[(1,.pv (.seq false 1 (cM m))),(2,.pv (.ptr 0 0)),(5,.pv (ae i))],[[.pv (ae v),.pv (.seq false 1 (L.map an))]]⟩) (λi=>i<=L.length∧∀j (hj:j<L.length),j<i->(λc=>!cO c m) L[j]=false) (λi=>L.length -i) 0 ?_ ?_ ?_
 .exact af.to (by simp) (by simp) (by simp) (by simp) (by simp)
 .exact⟨by omega,λj _ hj=>by omega⟩
 .intro i ⟨hi,ho⟩
  by_cases h:i<L.length
  .have d:=dq i;simp[h,an];refine ai.intro (z8 L[i] m (b _ (RK h))) ?_;simp;refine⟨λc=>by rw[jL,f9 h ho (by simp[c])],λc=>⟨i+1,by dsimp only;omega,⟨by omega,λj hj a=>?_⟩,af.to ?_ (by simp) (by simp) (by simp) (by simp)⟩⟩
   .by_cases e:j=i
    .subst e;simpa using c
    .simpa using ho j hj (by omega)
   .simp[d,an]
  .simp[h];rw[jL,ed (λj hj=>ho j hj (by omega))]
end Go.AX