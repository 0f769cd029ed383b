/-
  Contracts: where a clause holds.
-/
import Derived.Test.YtepodadinenmnaaGreatS14AxEvC
namespace Go.AX
set_option maxRecDepth 16000
open Go.Proofs
set_option linter.unusedSimpArgs false
def b8(l:Int):Int×Bool:=if 0<l∧l<=100000 then(l,true)else if l<0∧-100000<=l then(-l,false)else(0,false)
theorem wj(l:Int):0<=(b8 l).1∧(b8 l).1<=100000:=by
 unfold b8;split
 .dsimp only;omega
 .split
  .dsimp only;omega
  .simp
theorem Jv(l:Int):aj Tryz.prog 70 [ab l] (λr=>r=.pv (.tup [ab (b8 l).1,BL (b8 l).2])):=by
 refine mC [2,3] aD Tryz.func70 (λ_ _=>results_tmp2 rfl _ _ _) ?_;simp;refine⟨λh1 a=>by simp[b8,h1,a],λh=>⟨λh1 a=>?_,λh1=>?_⟩⟩
 .have:aX (-l)=-l:=ao (by omega) (by omega);rw[b8,SU (by omega),SX (by omega),this];simp
 .rw[b8,SU (by omega),SU (by omega)];simp
def ij(m:List Bool)(l:Int):Bool:=decide ((b8 l).1≠0)&&(decide ((b8 l).1<=(m.length:Int))&&m.getD ((b8 l).1 -1).toNat false)==(b8 l).2
def cI(c:List Int)(m:List Bool):Bool:=c.any (ij m)
theorem Ah(c:List Int)(m:List Bool)(A:c.length<=140737488355328):aj Tryz.prog 25 [.seq false 1 (ae c),.seq false 1 (de m)] (λr=>r=.pv (BL (cI c m))):=by
 refine ap aD Tryz.func25 ?_;simp;refine ax.intro (S:=λ(i:Nat)=>⟨[(0,.pv (.seq false 1 (ae c))),(1,.pv (.seq false 1 (de m))),(5,.pv (ab i))],[]⟩) (λi=>i<=c.length∧∀j (hj:j<c.length),j<i->ij m c[j]=false) (λi=>c.length -i) 0 ?_ ?_ ?_
 .exact ah.to (by simp) rfl (by simp) (by simp) (by simp)
 .exact⟨by omega,λj _ hj=>by omega⟩
 .intro i ⟨hi,ho⟩
  by_cases h:i<c.length
  .have p:=dv i;have hs:=Jv c[i];have hin:=wj c[i];have f:∀b,ij m c[i]=b->b=true->cI c m=true:=λb s n=>UL.2 ⟨c[i],S5 h,by rw[s,n]⟩;have a:ij m c[i]=false->∀j (hj:j<c.length),j<i+1->ij m c[j]=false:=λu j hj w=>by
    by_cases e:j=i
    .subst e;exact u
    .exact ho j hj (by omega)
   have hd:ij m c[i]=(decide ((b8 c[i]).1≠0)&&(decide ((b8 c[i]).1<=(m.length:Int))&&m.getD ((b8 c[i]).1 -1).toNat false)==(b8 c[i]).2):=rfl;generalize z:ij m c[i]=L at f a hd;obtain⟨v,y⟩:=Uo hin.1;have o:(b8 c[i]).1=(v:Int):=y;rw[o]at hs hin hd;generalize(b8 c[i]).2=t at hs hd;simp[h];refine ai.intro hs ?_;rcases Vo v with h0|h0
   .subst h0;simp;refine⟨i+1,by dsimp only;omega,⟨by omega,a (by rw[hd];simp)⟩,ah.to ?_ (by simp) (by simp) (by simp) (by simp)⟩;simp[p]
   .obtain⟨k,rfl⟩:∃k,v=k+1:=⟨v -1,by omega⟩;have g:aX (k:Int)=(k:Int):=ao (by omega) (by omega);have l:¬(k:Int)+1=0:=by omega
    by_cases hk:k<m.length
    .have hle:(k:Int)+1<=(m.length:Int):=by omega
     have d:k+1<=m.length:=by omega
     simp[l,hk,hle,d,g]at hd⊢;refine⟨λq=>f L rfl (by rw[hd];simp[q]),λq=>⟨i+1,by dsimp only;omega,⟨by omega,a (by rw[hd];simp[q])⟩,ah.to ?_ (by simp) (by simp) (by simp) (by simp)⟩⟩;simp[p]
    .have hle:¬(k:Int)+1<=(m.length:Int):=by omega
     have d:¬k+1<=m.length:=by omega
     simp[l,hk,hle,d,g]at hd⊢;refine⟨λq=>f L rfl (by rw[hd];simp[q]),λq=>⟨i+1,by dsimp only;omega,⟨by omega,a (by rw[hd];simp[q])⟩,ah.to ?_ (by simp) (by simp) (by simp) (by simp)⟩⟩;simp[p]
  .simp[h];simp only[cI,UE];intro x hx;obtain⟨j,hj,rfl⟩:=W6.1 hx;rw[ho j hj (by omega)];simp
def jL(L:List (List Int))(m:List Bool):Int:=iP (λc=>!cI c m) L
theorem t8(L:List (List Int))(m:List Bool):jL L m<0↔∀c∈L,cI c m=true:=by
 unfold jL iP;cases h:L.findIdx? (λc=>!cI c m)with
 |none=>
  rw[VT]at h;exact⟨λ_ c d=>by have:=h c d;simpa using this,λ_=>by decide⟩
 |some i=>
  rw[U5]at h;obtain⟨h1,b,_⟩:=h;refine⟨λa=>absurd a (by dsimp only;omega),λa=>?_⟩;rw[a L[i] (S5 h1)]at b;cases b
theorem Ai(v:Int)(L:List (List Int))(m:List Bool)(f:L.length<=140737488355328)(b:∀x∈L,x.length<=140737488355328):aj Tryz.prog 60 [.agg [ab v,.seq false 1 (L.map aq)],.seq false 1 (de m)] (λr=>r=.pv (ab (jL L m))):=by
 refine ap aD Tryz.func60 ?_;simp;refine ax.intro (S:=λ(i:Nat)=>⟨[(1,.pv (.seq false 1 (de m))),(2,.pv (.ptr 0 0)),(5,.pv (ab i))],[[.pv (ab v),.pv (.seq false 1 (L.map aq))]]⟩) (λi=>i<=L.length∧∀j (hj:j<L.length),j<i->(λc=>!cI c m) L[j]=false) (λi=>L.length -i) 0 ?_ ?_ ?_
 .exact ah.to (by simp) (by simp) (by simp) (by simp) (by simp)
 .exact⟨by omega,λj _ hj=>by omega⟩
 .intro i ⟨hi,ho⟩
  by_cases h:i<L.length
  .have d:=dv i;simp[h,aq];refine ai.intro (Ah L[i] m (b _ (S5 h))) ?_;simp;refine⟨λc=>by rw[jL,eU h ho (by simp[c])],λc=>⟨i+1,by dsimp only;omega,⟨by omega,λj hj a=>?_⟩,ah.to ?_ (by simp) (by simp) (by simp) (by simp)⟩⟩
   .by_cases e:j=i
    .subst e;simpa using c
    .simpa using ho j hj (by omega)
   .simp[d,aq]
  .simp[h];rw[jL,cM (λj hj=>ho j hj (by omega))]
end Go.AX