/-
  Contracts: lists that are the same; where a number stands; plays.
  Contracts: plays.
  Contracts: truths of orders and of rows of states.
  Contracts: events.
  Contracts: histories (kinds, what is a process', the same).
  Contracts: histories (a process' events; what is done).
-/
import Derived.Test.YtepodadinenmnaaGreatS14AxMovB
import Derived.Test.YtepodadinenmnaaGreatS14AxCntG
namespace Go.AX
open Go.Proofs
/-! ### Lists that are the same -/
@[simp] theorem KI(k:Nat)(l:List (List Int)):bX k (l.map an):=by
 rw[iC];intro r a x hx;obtain⟨o,_,rfl⟩:=RO.1 a;simp[an]at hx;subst hx;exact bc k o
@[simp] theorem MO(r:Nat->Nat->PV)(l:List (List Int)):kJ r (l.map an)=l.map an:=by
 rw[bW,SJ];apply TW;intro x _;simp[an]
theorem ET{α:Type}{a b:List α}(c:a.length=b.length)(h:∀j (h1:j<a.length),a[j]=b[j]'(c▸h1)):a=b:=Uh c λj h1 _=>h j h1
theorem jp(a b:List Int)(l:a.length<=140737488355328):am Tryz.prog 51 [.seq false 1 (aa a),.seq false 1 (aa b)] (λr=>r=.pv (BL (decide (a=b)))):=by
 refine aq aE Tryz.func51 ?_;simp;refine⟨λh=>λe=>h (by rw[e]),λh=>?_⟩;have d:a.length=b.length:=by omega
 refine av.intro (S:=λ(i:Nat)=>⟨[(0,.pv (.seq false 1 (aa a))),(1,.pv (.seq false 1 (aa b))),(5,.pv (ae i))],[]⟩) (λi=>i<=a.length∧∀j (h1:j<a.length),j<i->a[j]=b[j]'(d▸h1)) (λi=>a.length -i) 0 ?_ ?_ ?_
 .exact af.to (by simp) rfl (by simp) (by simp) (by simp)
 .exact⟨by omega,λj _ hj=>by omega⟩
 .intro i ⟨hi,ho⟩
  by_cases f:i<a.length
  .have k:=dq i;have g:i<b.length:=by omega
   simp[f,g];refine⟨λc=>λe=>c (by subst e;rfl),λc=>⟨i+1,by dsimp only;omega,⟨by omega,λj h1 hj=>?_⟩,af.to ?_ rfl (by simp) (by simp) (by simp)⟩⟩
   .by_cases e:j=i
    .subst e;exact c
    .exact ho j h1 (by omega)
   .simp[k]
  .simp[f];exact ET d λj h1=>ho j h1 (by omega)
/-! ### Where a number stands -/
def BA(l:List Int)(n:Int):Int:=iH (λx=>decide (x=n)) l
theorem KJ(l:List Int)(n:Int):0<=BA l n↔n∈l:=by
 unfold BA iH;cases h:l.findIdx? (λx=>decide (x=n))with
 |none=>
  rw[T6]at h;refine⟨λa=>absurd a (by decide),λa=>by have:=h n a;simp at this⟩
 |some i=>
  rw[SR]at h;obtain⟨h1,a,_⟩:=h;refine⟨λ_=>?_,λ_=>by dsimp only;omega⟩;have:l[i]=n:=by simpa using a
  exact this▸RK h1
theorem yL(l:List Int)(n:Int)(d:l.length<=140737488355328):am Tryz.prog 235 [.seq false 1 (aa l),ae n] (λr=>r=.pv (ae (BA l n))):=by
 refine aq aE Tryz.func235 ?_;simp;refine av.intro (S:=λ(i:Nat)=>⟨[(0,.pv (.seq false 1 (aa l))),(1,.pv (ae n)),(7,.pv (ae l.length)),(8,.pv (ae i))],[]⟩) (λi=>i<=l.length∧∀j (hj:j<l.length),j<i->(λx=>decide (x=n)) l[j]=false) (λi=>l.length -i) 0 ?_ ?_ ?_
 .exact af.to (by simp) rfl (by simp) (by simp) (by simp)
 .exact⟨by omega,λj hj h=>by omega⟩
 .intro i ⟨hi,ho⟩
  by_cases h:i<l.length
  .have b:=dq i;simp[h];refine⟨λc=>by rw[BA,f9 h ho (by simpa using c.symm)],λc=>⟨i+1,by dsimp only;omega,⟨by omega,λj hj a=>?_⟩,af.to ?_ rfl (by simp) (by simp) (by simp)⟩⟩
   .by_cases e:j=i
    .subst e;simpa usingλe=>c e.symm
    .simpa using ho j hj (by omega)
   .simp[b]
  .simp[h];rw[BA,ed (λj hj=>ho j hj (by omega))]
theorem jr(l:List Int)(n:Int)(a:l.length<=140737488355328):am Tryz.prog 168 [.seq false 1 (aa l),ae n] (λr=>r=.pv (BL (decide (n∈l)))):=by
 refine aq aE Tryz.func168 ?_;simp;refine ai.intro (yL l n a) ?_;simp[KJ]
theorem jR(l:List Int)(n:Int)(g:l.length<=140737488355328):am Tryz.prog 123 [.seq false 1 (aa l),ae n] (λr=>r=.pv (BL (decide (n∈l)))):=by
 refine aq aE Tryz.func123 ?_;simp;refine av.intro (S:=λ(i:Nat)=>⟨[(0,.pv (.seq false 1 (aa l))),(1,.pv (ae n)),(5,.pv (ae i))],[]⟩) (λi=>i<=l.length∧∀j (h:j<l.length),j<i->l[j]≠n) (λi=>l.length -i) 0 ?_ ⟨RW _,λj _ h=>by omega⟩ ?_
 .exact af.to (by simp) rfl (by simp) (by simp[aa]) (by simp)
 .rintro i ⟨hi,ho⟩
  by_cases c:i<l.length
  .have b:=dq i;simp[c,aa];refine⟨λd=>?_,λd=>⟨i+1,by dsimp only;omega,⟨by omega,λj h1 f=>?_⟩,af.to (by simp[b,aa]) rfl (by simp) (by simp[aa]) (by simp)⟩⟩
   .rw[←d];exact RK c
   .by_cases e:j=i
    .subst e;exact d
    .exact ho j h1 (by omega)
  .have:i=l.length:=by omega
   subst this;simp[aa];intro h;obtain⟨j,hj,a⟩:=RU h;exact ho j hj hj a
/-! ### Closed objects and operations -/
/-! ### May, proper -/
def cM(l:List Bool):List (List PV):=l.map λb=>[BL b]
@[simp] theorem Mc(l:List Bool):(cM l).length=l.length:=by simp[cM]
@[simp] theorem Md(k:Nat)(l:List Bool):bX k (cM l):=by
 rw[iC];intro r a x hx;obtain⟨o,_,rfl⟩:=RO.1 a;simp at hx;subst hx;trivial
@[simp] theorem NO(r:Nat->Nat->PV)(l:List Bool):kJ r (cM l)=cM l:=by
 rw[cM,bW,SJ];congr 1
@[simp] theorem PA(l:List Bool)(i:Nat):(cM l)[i]?=l[i]?.map λn=>[BL n]:=by simp[cM]
@[simp] theorem NP(l:List Bool)(i:Nat)(h:i<(cM l).length):(cM l)[i]'h=[BL (l[i]'(by simpa using h))]:=by simp[cM]
def yM(ops:List Op5)(a:List Int)(b:List Bool)(i:Nat):Prop:=(i:Int)∈a∧((ops.getD i default).e≠-1->b.getD i false=true)
instance (ops:List Op5) (order:List Int) (inn:List Bool) (i:Nat):Decidable (yM ops order inn i):=by unfold yM;infer_instance
theorem cZ{α:Type}[DecidableEq α]:∀(l m:List α),l.Nodup->(∀x∈l,x∈m)->l.length<=m.length
 |[],_,_,_=>RW _
 |x::l,m,hn,hs=>by
  have hx:=hs x R2;obtain⟨h1,a⟩:=Tg.1 hn;have:=cZ l (m.erase x) a (λy hy=>(List.mem_erase_of_ne (λe=>h1 (by rw[←e];exact hy))).2 (hs y (RZ _ hy)));rw[List.length_erase_of_mem hx]at this;have hp:=List.length_pos_of_mem hx;simp only[Sa];omega
def marks(V:Nat)(a:List Nat):List Bool:=(List.range V).map λj=>decide (j∈a)
theorem yP(l:List Bool)(i:Nat)(b:Bool):(cM l).set i [BL b]=cM (l.set i b):=by simp[cM,Wg]
@[simp] theorem PD(l:List Bool):Ew (cM l):=by
 rw[rB];intro r a;obtain⟨o,_,rfl⟩:=RO.1 a;exact⟨trivial,trivial⟩
theorem EU(l:List Int)(i:Nat):List.take i (aa l)=aa (l.take i):=by simp[aa,TR]
def PE(n:Int)(a:List Int)(k:Nat):Prop:=0<=a.getD k 0∧a.getD k 0<n∧¬a.getD k 0∈a.take k
instance (n:Int) (order:List Int) (k:Nat):Decidable (PE n order k):=by unfold PE;infer_instance
def PF(m:Int)(row:List Int)(k:Nat):Prop:=0<=row.getD k 0∧row.getD k 0<m
instance (m:Int) (row:List Int) (k:Nat):Decidable (PF m row k):=by unfold PF;infer_instance
structure Ev where
  w:Int
  p:Int
  n:Int
instance:Inhabited Ev:=⟨⟨0,0,0⟩⟩
theorem MQ:∀x y:Ev,x.w=y.w->x.p=y.p->x.n=y.n->x=y:=λx y h1 a b=>by
 cases x;cases y;simp at h1 a b;subst h1 a b;rfl
instance:DecidableEq Ev:=λa b=>if h:a.w=b.w∧a.p=b.p∧a.n=b.n then .isTrue (MQ a b h.1 h.2.1 h.2.2)else .isFalse λe=>h (by subst e;exact⟨rfl,rfl,rfl⟩)
@[simp] theorem QW(r:Nat->Nat->PV)(l:List (Int×Int)):sa r (a8 fI l)=a8 fI l:=by
 rw[x8];unfold a8;rw[SJ];congr 1
@[simp] theorem Ri(l:List (Int×Int)):Kq (a8 fI l):=by
 rw[CV];intro r a;obtain⟨x,_,rfl⟩:=RO.1 a;trivial
end Go.AX