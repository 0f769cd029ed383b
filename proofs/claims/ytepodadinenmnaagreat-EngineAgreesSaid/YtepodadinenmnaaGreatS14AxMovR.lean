/-
  Contracts: where a clause holds.
-/
import Derived.Test.YtepodadinenmnaaGreatS14AxEvC
namespace Go.AX
open Go.Proofs
set_option linter.unusedSimpArgs false
def cC(l:Int):Int×Bool:=if 0<l∧l≤100000 then(l,true)else if l<0∧-100000≤l then(-l,false)else(0,false)
theorem tq(l:Int):0≤(cC l).1∧(cC l).1≤100000:=by
 unfold cC;split
 ·dsimp only;omega
 ·split
  ·dsimp only;omega
  ·simp
theorem Fe(l:Int):ao Tryz.prog 70 [ae l] (fun r=>r=.pv (.tup [ae (cC l).1,BL (cC l).2])):=by
 refine Di [2,3] aG Tryz.func70 (by kernel_rfl) rfl (fun _ _=>results_tmp2 rfl _ _ _) (by kernel_rfl) (Nat.le_of_ble_eq_true rfl) ?_;simp;refine⟨fun h1 h2=>by simp[cC,h1,h2],fun h=>⟨fun h1 h2=>?_,fun h1=>?_⟩⟩
 ·have:aM (-l)=-l:=ah (by omega) (by omega);rw[cC,if_neg (by omega),if_pos (by omega),this];simp
 ·rw[cC,if_neg (by omega),if_neg (by omega)];simp
def gg(m:List Bool)(l:Int):Bool:=decide ((cC l).1≠0)&&(decide ((cC l).1≤(m.length:Int))&&m.getD ((cC l).1 -1).toNat false)==(cC l).2
def cD(c:List Int)(m:List Bool):Bool:=c.any (gg m)
set_option maxRecDepth 16000 in
theorem oZ(c:List Int)(m:List Bool)(hl:c.length≤140737488355328):ao Tryz.prog 25 [.seq false 1 (af c),.seq false 1 (cF m)] (fun r=>r=.pv (BL (cD c m))):=by
 refine aw aG Tryz.func25 (by kernel_rfl) rfl rfl (by kernel_rfl) (Nat.le_of_ble_eq_true rfl) ?_;simp;refine aH.intro (S:=fun(i:Nat)=>⟨[(0,.pv (.seq false 1 (af c))),(1,.pv (.seq false 1 (cF m))),(5,.pv (ae i))],[]⟩) (fun i=>i≤c.length∧∀j (hj:j<c.length),j<i→gg m c[j]=false) (fun i=>c.length -i) 0 ?_ ?_ ?_
 ·exact aj.to (by simp) rfl (by simp) (by simp) (by simp)
 ·exact⟨by omega,fun j _ hj=>by omega⟩
 ·intro i ⟨hi,ho⟩
  by_cases h:i<c.length
  ·have hw:aM ((i:Int)+1)=((i+1:Nat):Int):=by rw[ah (by omega) (by omega)];omega
   have hs:=Fe c[i];have hin:=tq c[i];have hlit:∀b,gg m c[i]=b→b=true→cD c m=true:=fun b hb hb2=>List.any_eq_true.2 ⟨c[i],List.getElem_mem h,by rw[hb,hb2]⟩;have hnext:gg m c[i]=false→∀j (hj:j<c.length),j<i+1→gg m c[j]=false:=fun hf j hj hji=>by
    by_cases e:j=i
    ·subst e;exact hf
    ·exact ho j hj (by omega)
   have hd:gg m c[i]=(decide ((cC c[i]).1≠0)&&(decide ((cC c[i]).1≤(m.length:Int))&&m.getD ((cC c[i]).1 -1).toNat false)==(cC c[i]).2):=rfl;generalize hL:gg m c[i]=L at hlit hnext hd;obtain⟨v,hv⟩:=Int.eq_ofNat_of_zero_le hin.1;have hv':(cC c[i]).1=(v:Int):=hv;rw[hv']at hs hin hd;generalize(cC c[i]).2=t at hs hd;simp[h];refine am.intro hs (by simp) ?_;rcases Nat.eq_zero_or_pos v with h0|h0
   ·subst h0;simp;refine⟨i+1,by dsimp only;omega,⟨by omega,hnext (by rw[hd];simp)⟩,aj.to ?_ (by simp) (by simp) (by simp) (by simp)⟩;simp[hw]
   ·obtain⟨k,rfl⟩:∃k,v=k+1:=⟨v -1,by omega⟩;have hk1:aM (k:Int)=(k:Int):=ah (by omega) (by omega);have hne:¬(k:Int)+1=0:=by omega
    by_cases hk:k<m.length
    ·have hle:(k:Int)+1≤(m.length:Int):=by omega
     have hle2:k+1≤m.length:=by omega
     simp[hne,hk,hle,hle2,hk1]at hd⊢;refine⟨fun q=>hlit L rfl (by rw[hd];simp[q]),fun q=>⟨i+1,by dsimp only;omega,⟨by omega,hnext (by rw[hd];simp[q])⟩,aj.to ?_ (by simp) (by simp) (by simp) (by simp)⟩⟩;simp[hw]
    ·have hle:¬(k:Int)+1≤(m.length:Int):=by omega
     have hle2:¬k+1≤m.length:=by omega
     simp[hne,hk,hle,hle2,hk1]at hd⊢;refine⟨fun q=>hlit L rfl (by rw[hd];simp[q]),fun q=>⟨i+1,by dsimp only;omega,⟨by omega,hnext (by rw[hd];simp[q])⟩,aj.to ?_ (by simp) (by simp) (by simp) (by simp)⟩⟩;simp[hw]
  ·simp[h];simp only[cD,List.any_eq_false];intro x hx;obtain⟨j,hj,rfl⟩:=List.mem_iff_getElem.1 hx;rw[ho j hj (by omega)];simp
def lw(L:List (List Int))(m:List Bool):Int:=jX (fun c=>!cD c m) L
theorem rq(L:List (List Int))(m:List Bool):lw L m<0↔∀c∈L,cD c m=true:=by
 unfold lw jX;cases h:L.findIdx? (fun c=>!cD c m)with
 |none=>
  rw[List.findIdx?_eq_none_iff]at h;exact⟨fun _ c hc=>by have:=h c hc;simpa using this,fun _=>by decide⟩
 |some i=>
  rw[List.findIdx?_eq_some_iff_getElem]at h;obtain⟨h1,h2,_⟩:=h;refine⟨fun h3=>absurd h3 (by dsimp only;omega),fun h3=>?_⟩;rw[h3 L[i] (List.getElem_mem h1)]at h2;cases h2
set_option maxRecDepth 16000 in
theorem wT(v:Int)(L:List (List Int))(m:List Bool)(hl:L.length≤140737488355328)(hr:∀x∈L,x.length≤140737488355328):ao Tryz.prog 60 [.agg [ae v,.seq false 1 (L.map aO)],.seq false 1 (cF m)] (fun r=>r=.pv (ae (lw L m))):=by
 refine aw aG Tryz.func60 (by kernel_rfl) rfl rfl (by kernel_rfl) (Nat.le_of_ble_eq_true rfl) ?_;simp;refine aH.intro (S:=fun(i:Nat)=>⟨[(1,.pv (.seq false 1 (cF m))),(2,.pv (.ptr 0 0)),(5,.pv (ae i))],[[.pv (ae v),.pv (.seq false 1 (L.map aO))]]⟩) (fun i=>i≤L.length∧∀j (hj:j<L.length),j<i→(fun c=>!cD c m) L[j]=false) (fun i=>L.length -i) 0 ?_ ?_ ?_
 ·exact aj.to (by simp) (by simp) (by simp) (by simp) (by simp)
 ·exact⟨by omega,fun j _ hj=>by omega⟩
 ·intro i ⟨hi,ho⟩
  by_cases h:i<L.length
  ·have hw:aM ((i:Int)+1)=((i+1:Nat):Int):=by rw[ah (by omega) (by omega)];omega
   simp[h,aO];refine am.intro (oZ L[i] m (hr _ (List.getElem_mem h))) (by simp) ?_;simp;refine⟨fun c=>by rw[lw,fO h ho (by simp[c])],fun c=>⟨i+1,by dsimp only;omega,⟨by omega,fun j hj hji=>?_⟩,aj.to ?_ (by simp) (by simp) (by simp) (by simp)⟩⟩
   ·by_cases e:j=i
    ·subst e;simpa using c
    ·simpa using ho j hj (by omega)
   ·simp[hw,aO]
  ·simp[h];rw[lw,eb (fun j hj=>ho j hj (by omega))]
end Go.AX