/-
  Contracts: where a clause holds.
-/
import Derived.Test.YtepodadinenmnaaGreatS14AxEvC
namespace Go.AX
set_option maxRecDepth 16000
open Go.Proofs
set_option linter.unusedSimpArgs false
def ca(l:Int):Int×Bool:=if 0<l∧l<=100000 then(l,true)else if l<0∧-100000<=l then(-l,false)else(0,false)
theorem wg(l:Int):0<=(ca l).1∧(ca l).1<=100000:=by
 unfold ca;split
 .dsimp only;omega
 .split
  .dsimp only;omega
  .simp
theorem Jm(l:Int):ak Tryz.prog 70 [ab l] (λr=>r=.pv (.tup [ab (ca l).1,BL (ca l).2])):=by
 refine oB [2,3] aC Tryz.func70 (λ_ _=>results_tmp2 rfl _ _ _) ?_;simp;refine⟨λh1 a=>by simp[ca,h1,a],λh=>⟨λh1 a=>?_,λh1=>?_⟩⟩
 .have:aY (-l)=-l:=ao (by omega) (by omega);rw[ca,SM (by omega),SN (by omega),this];simp
 .rw[ca,SM (by omega),SM (by omega)];simp
def iu(m:List Bool)(l:Int):Bool:=decide ((ca l).1≠0)&&(decide ((ca l).1<=(m.length:Int))&&m.getD ((ca l).1 -1).toNat false)==(ca l).2
def cd(c:List Int)(m:List Bool):Bool:=c.any (iu m)
theorem z8(c:List Int)(m:List Bool)(A:c.length<=140737488355328):ak Tryz.prog 25 [.seq false 1 (ae c),.seq false 1 (cT m)] (λr=>r=.pv (BL (cd c m))):=by
 refine ap aC Tryz.func25 ?_;simp;refine aF.intro (S:=λ(i:Nat)=>⟨[(0,.pv (.seq false 1 (ae c))),(1,.pv (.seq false 1 (cT m))),(5,.pv (ab i))],[]⟩) (λi=>i<=c.length∧∀j (hj:j<c.length),j<i->iu m c[j]=false) (λi=>c.length -i) 0 ?_ ?_ ?_
 .exact ai.to (by simp) rfl (by simp) (by simp) (by simp)
 .exact⟨by omega,λj _ hj=>by omega⟩
 .intro i ⟨hi,ho⟩
  by_cases h:i<c.length
  .have p:=dZ i;have hs:=Jm c[i];have hin:=wg c[i];have f:∀b,iu m c[i]=b->b=true->cd c m=true:=λb s n=>U0.2 ⟨c[i],SS h,by rw[s,n]⟩;have a:iu m c[i]=false->∀j (hj:j<c.length),j<i+1->iu m c[j]=false:=λu j hj w=>by
    by_cases e:j=i
    .subst e;exact u
    .exact ho j hj (by omega)
   have hd:iu m c[i]=(decide ((ca c[i]).1≠0)&&(decide ((ca c[i]).1<=(m.length:Int))&&m.getD ((ca c[i]).1 -1).toNat false)==(ca c[i]).2):=rfl;generalize z:iu m c[i]=L at f a hd;obtain⟨v,y⟩:=Uk hin.1;have o:(ca c[i]).1=(v:Int):=y;rw[o]at hs hin hd;generalize(ca c[i]).2=t at hs hd;simp[h];refine ah.intro hs ?_;rcases Vn v with h0|h0
   .subst h0;simp;refine⟨i+1,by dsimp only;omega,⟨by omega,a (by rw[hd];simp)⟩,ai.to ?_ (by simp) (by simp) (by simp) (by simp)⟩;simp[p]
   .obtain⟨k,rfl⟩:∃k,v=k+1:=⟨v -1,by omega⟩;have g:aY (k:Int)=(k:Int):=ao (by omega) (by omega);have l:¬(k:Int)+1=0:=by omega
    by_cases hk:k<m.length
    .have hle:(k:Int)+1<=(m.length:Int):=by omega
     have d:k+1<=m.length:=by omega
     simp[l,hk,hle,d,g]at hd⊢;refine⟨λq=>f L rfl (by rw[hd];simp[q]),λq=>⟨i+1,by dsimp only;omega,⟨by omega,a (by rw[hd];simp[q])⟩,ai.to ?_ (by simp) (by simp) (by simp) (by simp)⟩⟩;simp[p]
    .have hle:¬(k:Int)+1<=(m.length:Int):=by omega
     have d:¬k+1<=m.length:=by omega
     simp[l,hk,hle,d,g]at hd⊢;refine⟨λq=>f L rfl (by rw[hd];simp[q]),λq=>⟨i+1,by dsimp only;omega,⟨by omega,a (by rw[hd];simp[q])⟩,ai.to ?_ (by simp) (by simp) (by simp) (by simp)⟩⟩;simp[p]
  .simp[h];simp only[cd,UJ];intro x hx;obtain⟨j,hj,rfl⟩:=WV.1 hx;rw[ho j hj (by omega)];simp
def mP(L:List (List Int))(m:List Bool):Int:=gp (λc=>!cd c m) L
theorem oX(L:List (List Int))(m:List Bool):mP L m<0↔∀c∈L,cd c m=true:=by
 unfold mP gp;cases h:L.findIdx? (λc=>!cd c m)with
 |none=>
  rw[Vr]at h;exact⟨λ_ c d=>by have:=h c d;simpa using this,λ_=>by decide⟩
 |some i=>
  rw[UF]at h;obtain⟨h1,b,_⟩:=h;refine⟨λa=>absurd a (by dsimp only;omega),λa=>?_⟩;rw[a L[i] (SS h1)]at b;cases b
theorem Aa(v:Int)(L:List (List Int))(m:List Bool)(f:L.length<=140737488355328)(b:∀x∈L,x.length<=140737488355328):ak Tryz.prog 60 [.agg [ab v,.seq false 1 (L.map aw)],.seq false 1 (cT m)] (λr=>r=.pv (ab (mP L m))):=by
 refine ap aC Tryz.func60 ?_;simp;refine aF.intro (S:=λ(i:Nat)=>⟨[(1,.pv (.seq false 1 (cT m))),(2,.pv (.ptr 0 0)),(5,.pv (ab i))],[[.pv (ab v),.pv (.seq false 1 (L.map aw))]]⟩) (λi=>i<=L.length∧∀j (hj:j<L.length),j<i->(λc=>!cd c m) L[j]=false) (λi=>L.length -i) 0 ?_ ?_ ?_
 .exact ai.to (by simp) (by simp) (by simp) (by simp) (by simp)
 .exact⟨by omega,λj _ hj=>by omega⟩
 .intro i ⟨hi,ho⟩
  by_cases h:i<L.length
  .have d:=dZ i;simp[h,aw];refine ah.intro (z8 L[i] m (b _ (SS h))) ?_;simp;refine⟨λc=>by rw[mP,d9 h ho (by simp[c])],λc=>⟨i+1,by dsimp only;omega,⟨by omega,λj hj a=>?_⟩,ai.to ?_ (by simp) (by simp) (by simp) (by simp)⟩⟩
   .by_cases e:j=i
    .subst e;simpa using c
    .simpa using ho j hj (by omega)
   .simp[d,aw]
  .simp[h];rw[mP,cJ (λj hj=>ho j hj (by omega))]
end Go.AX