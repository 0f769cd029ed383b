/-
  Contracts: where a clause holds.
-/
import Derived.Test.YtepodadinenmnaaGreatS14AxEvC
namespace Go.AX
set_option maxRecDepth 16000
open Go.Proofs
set_option linter.unusedSimpArgs false
def bT(l:Int):Int×Bool:=if 0<l∧l<=100000 then(l,true)else if l<0∧-100000<=l then(-l,false)else(0,false)
theorem te(l:Int):0<=(bT l).1∧(bT l).1<=100000:=by
 unfold bT;split
 .dsimp only;omega
 .split
  .dsimp only;omega
  .simp
theorem Ey(l:Int):an Tryz.prog 70 [ae l] (λr=>r=.pv (.tup [ae (bT l).1,BL (bT l).2])):=by
 refine Dq [2,3] aG Tryz.func70 (λ_ _=>results_tmp2 rfl _ _ _) ?_;simp;refine⟨λh1 a=>by simp[bT,h1,a],λh=>⟨λh1 a=>?_,λh1=>?_⟩⟩
 .have:a8 (-l)=-l:=ap (by omega) (by omega);rw[bT,N8 (by omega),N9 (by omega),this];simp
 .rw[bT,N8 (by omega),N8 (by omega)];simp
def gp(m:List Bool)(l:Int):Bool:=decide ((bT l).1≠0)&&(decide ((bT l).1<=(m.length:Int))&&m.getD ((bT l).1 -1).toNat false)==(bT l).2
def b5(c:List Int)(m:List Bool):Bool:=c.any (gp m)
theorem wG(c:List Int)(m:List Bool)(A:c.length<=140737488355328):an Tryz.prog 25 [.seq false 1 (af c),.seq false 1 (cz m)] (λr=>r=.pv (BL (b5 c m))):=by
 refine ax aG Tryz.func25 ?_;simp;refine aJ.intro (S:=λ(i:Nat)=>⟨[(0,.pv (.seq false 1 (af c))),(1,.pv (.seq false 1 (cz m))),(5,.pv (ae i))],[]⟩) (λi=>i<=c.length∧∀j (hj:j<c.length),j<i->gp m c[j]=false) (λi=>c.length -i) 0 ?_ ?_ ?_
 .exact ai.to (by simp) rfl (by simp) (by simp) (by simp)
 .exact⟨by omega,λj _ hj=>by omega⟩
 .intro i ⟨hi,ho⟩
  by_cases h:i<c.length
  .have p:=fQ i;have hs:=Ey c[i];have hin:=te c[i];have f:∀b,gp m c[i]=b->b=true->b5 c m=true:=λb s n=>Qe.2 ⟨c[i],Od h,by rw[s,n]⟩;have a:gp m c[i]=false->∀j (hj:j<c.length),j<i+1->gp m c[j]=false:=λu j hj w=>by
    by_cases e:j=i
    .subst e;exact u
    .exact ho j hj (by omega)
   have hd:gp m c[i]=(decide ((bT c[i]).1≠0)&&(decide ((bT c[i]).1<=(m.length:Int))&&m.getD ((bT c[i]).1 -1).toNat false)==(bT c[i]).2):=rfl;generalize z:gp m c[i]=L at f a hd;obtain⟨v,y⟩:=Pn hin.1;have o:(bT c[i]).1=(v:Int):=y;rw[o]at hs hin hd;generalize(bT c[i]).2=t at hs hd;simp[h];refine aj.intro hs ?_;rcases Qn v with h0|h0
   .subst h0;simp;refine⟨i+1,by dsimp only;omega,⟨by omega,a (by rw[hd];simp)⟩,ai.to ?_ (by simp) (by simp) (by simp) (by simp)⟩;simp[p]
   .obtain⟨k,rfl⟩:∃k,v=k+1:=⟨v -1,by omega⟩;have g:a8 (k:Int)=(k:Int):=ap (by omega) (by omega);have l:¬(k:Int)+1=0:=by omega
    by_cases hk:k<m.length
    .have hle:(k:Int)+1<=(m.length:Int):=by omega
     have d:k+1<=m.length:=by omega
     simp[l,hk,hle,d,g]at hd⊢;refine⟨λq=>f L rfl (by rw[hd];simp[q]),λq=>⟨i+1,by dsimp only;omega,⟨by omega,a (by rw[hd];simp[q])⟩,ai.to ?_ (by simp) (by simp) (by simp) (by simp)⟩⟩;simp[p]
    .have hle:¬(k:Int)+1<=(m.length:Int):=by omega
     have d:¬k+1<=m.length:=by omega
     simp[l,hk,hle,d,g]at hd⊢;refine⟨λq=>f L rfl (by rw[hd];simp[q]),λq=>⟨i+1,by dsimp only;omega,⟨by omega,a (by rw[hd];simp[q])⟩,ai.to ?_ (by simp) (by simp) (by simp) (by simp)⟩⟩;simp[p]
  .simp[h];simp only[b5,QS];intro x hx;obtain⟨j,hj,rfl⟩:=RS.1 hx;rw[ho j hj (by omega)];simp
def gX(L:List (List Int))(m:List Bool):Int:=iV (λc=>!b5 c m) L
theorem jL(L:List (List Int))(m:List Bool):gX L m<0↔∀c∈L,b5 c m=true:=by
 unfold gX iV;cases h:L.findIdx? (λc=>!b5 c m)with
 |none=>
  rw[QM]at h;exact⟨λ_ c d=>by have:=h c d;simpa using this,λ_=>by decide⟩
 |some i=>
  rw[P2]at h;obtain⟨h1,b,_⟩:=h;refine⟨λa=>absurd a (by dsimp only;omega),λa=>?_⟩;rw[a L[i] (Od h1)]at b;cases b
theorem o9(v:Int)(L:List (List Int))(m:List Bool)(f:L.length<=140737488355328)(b:∀x∈L,x.length<=140737488355328):an Tryz.prog 60 [.agg [ae v,.seq false 1 (L.map aK)],.seq false 1 (cz m)] (λr=>r=.pv (ae (gX L m))):=by
 refine ax aG Tryz.func60 ?_;simp;refine aJ.intro (S:=λ(i:Nat)=>⟨[(1,.pv (.seq false 1 (cz m))),(2,.pv (.ptr 0 0)),(5,.pv (ae i))],[[.pv (ae v),.pv (.seq false 1 (L.map aK))]]⟩) (λi=>i<=L.length∧∀j (hj:j<L.length),j<i->(λc=>!b5 c m) L[j]=false) (λi=>L.length -i) 0 ?_ ?_ ?_
 .exact ai.to (by simp) (by simp) (by simp) (by simp) (by simp)
 .exact⟨by omega,λj _ hj=>by omega⟩
 .intro i ⟨hi,ho⟩
  by_cases h:i<L.length
  .have d:=fQ i;simp[h,aK];refine aj.intro (wG L[i] m (b _ (Od h))) ?_;simp;refine⟨λc=>by rw[gX,fR h ho (by simp[c])],λc=>⟨i+1,by dsimp only;omega,⟨by omega,λj hj a=>?_⟩,ai.to ?_ (by simp) (by simp) (by simp) (by simp)⟩⟩
   .by_cases e:j=i
    .subst e;simpa using c
    .simpa using ho j hj (by omega)
   .simp[d,aK]
  .simp[h];rw[gX,d9 (λj hj=>ho j hj (by omega))]
end Go.AX