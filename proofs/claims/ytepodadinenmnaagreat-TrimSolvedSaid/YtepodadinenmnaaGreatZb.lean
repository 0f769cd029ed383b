/-
  Contracts: lists that are the same; where a number stands; plays; and what follows.
-/
import Derived.Test.YtepodadinenmnaaGreatZa
set_option linter.unusedSimpArgs false
namespace Go.AX
open Go.Proofs Go.Proofs.Tryz
@[simp] theorem ga(k:Nat)(l:au):bV k (l.map aF):=by
 rw[iC];intro r a x hx;obtain⟨o,_,rfl⟩:=VB.1 a;simp[aF]at hx;subst hx;exact br k o
@[simp] theorem Qx(r:Nat->Nat->PV)(l:au):mA r (l.map aF)=l.map aF:=by
 rw[cN,Wo];apply XE;intro x _;simp[aF]
theorem xH{α:Type}{a b:List α}(c:a.length=b.length)(h:∀j (h1:j<a.length),a[j]=b[j]'(c▸h1)):a=b:=Yq c λj h1 _=>h j h1
theorem lj(a b:af)(l:a.length<=140737488355328):aw prog 51 [.seq false 1 (am a),.seq false 1 (am b)] (λr=>r=.pv (BL (decide (a=b)))):=by
 refine aB aP func51 ?_;simp;refine⟨λh=>λe=>h (by rw[e]),λh=>?_⟩;have d:a.length=b.length:=by omega
 refine aM.intro (S:=λ(i:Nat)=>⟨[(0,.pv (.seq false 1 (am a))),(1,.pv (.seq false 1 (am b))),(5,.pv (ak i))],[]⟩) (λi=>i<=a.length∧∀j (h1:j<a.length),j<i->a[j]=b[j]'(d▸h1)) (λi=>a.length -i) 0 ?_ ?_ ?_;exact av.to (by simp) rfl (by simp) (by simp) (by simp);exact⟨by omega,λj _ hj=>by omega⟩;intro i ⟨hi,ho⟩;by_cases f:i<a.length;have k:=dU i;have g:i<b.length:=by omega
 simp[f,g];refine⟨λc=>λe=>c (by subst e;rfl),λc=>⟨i+1,by dsimp only;omega,⟨by omega,λj h1 hj=>?_⟩,av.to ?_ rfl (by simp) (by simp) (by simp)⟩⟩;by_cases e:j=i;subst e;exact c;exact ho j h1 (by omega);simp[k];simp[f];exact xH d λj h1=>ho j h1 (by omega)
def D4(l:af)(n:Int):Int:=gD (λx=>decide (x=n)) l
theorem Oo(l:af)(n:Int):0<=D4 l n↔n∈l:=by
 unfold D4 gD;cases h:l.findIdx? (λx=>decide (x=n))with
 |none=>
  rw[Yk]at h;refine⟨λa=>absurd a (by decide),λa=>by have:=h n a;simp at this⟩
 |some i=>
  rw[Xk]at h;obtain⟨h1,a,_⟩:=h;refine⟨λ_=>?_,λ_=>by dsimp only;omega⟩;have:l[i]=n:=by simpa using a
  exact this▸Vx h1
theorem Bi(l:af)(n:Int)(d:l.length<=140737488355328):aw prog 235 [.seq false 1 (am l),ak n] (λr=>r=.pv (ak (D4 l n))):=by
 refine aB aP func235 ?_;simp;refine aM.intro (S:=λ(i:Nat)=>⟨[(0,.pv (.seq false 1 (am l))),(1,.pv (ak n)),(7,.pv (ak l.length)),(8,.pv (ak i))],[]⟩) (λi=>i<=l.length∧∀j (hj:j<l.length),j<i->(λx=>decide (x=n)) l[j]=false) (λi=>l.length -i) 0 ?_ ?_ ?_;exact av.to (by simp) rfl (by simp) (by simp) (by simp);exact⟨by omega,λj hj h=>by omega⟩;intro i ⟨hi,ho⟩;by_cases h:i<l.length;have b:=dU i;simp[h];refine⟨λc=>by rw[D4,d0 h ho (by simpa using c.symm)],λc=>⟨i+1,by dsimp only;omega,⟨by omega,λj hj a=>?_⟩,av.to ?_ rfl (by simp) (by simp) (by simp)⟩⟩;by_cases e:j=i;subst e;simpa usingλe=>c e.symm;simpa using ho j hj (by omega);simp[b];simp[h];rw[D4,cw (λj hj=>ho j hj (by omega))]
theorem fL(l:af)(n:Int)(a:l.length<=140737488355328):aw prog 168 [.seq false 1 (am l),ak n] (λr=>r=.pv (BL (decide (n∈l)))):=by
 refine aB aP func168 ?_;simp;refine ap.intro (Bi l n a) ?_;simp[Oo]
def fM(l:dC):aT:=l.map λb=>[BL b]
@[simp] theorem P6(l:dC):(fM l).length=l.length:=by simp[fM]
@[simp] theorem P7(k:Nat)(l:dC):bV k (fM l):=by
 rw[iC];intro r a x hx;obtain⟨o,_,rfl⟩:=VB.1 a;simp at hx;subst hx;trivial
@[simp] theorem Ry(r:Nat->Nat->PV)(l:dC):mA r (fM l)=fM l:=by
 rw[fM,cN,Wo];congr 1
@[simp] theorem Tu(l:dC)(i:Nat):(fM l)[i]?=l[i]?.map λn=>[BL n]:=by simp[fM]
@[simp] theorem Rz(l:dC)(i:Nat)(h:i<(fM l).length):(fM l)[i]'h=[BL (l[i]'(by simpa using h))]:=by simp[fM]
def Bj(ops:List Op5)(a:af)(b:dC)(i:Nat):Prop:=(i:Int)∈a∧((ops.getD i default).e≠-1->b.getD i false=true)
instance (ops:List Op5) (order:af) (inn:dC) (i:Nat):Decidable (Bj ops order inn i):=by unfold Bj;infer_instance
theorem eb{α:Type}[DecidableEq α]:∀(l m:List α),l.Nodup->(∀x∈l,x∈m)->l.length<=m.length
 |[],_,_,_=>VH _
 |x::l,m,hn,hs=>by
  have hx:=hs x VN;obtain⟨h1,a⟩:=Xj.1 hn;have:=eb l (m.erase x) a (λy hy=>(List.mem_erase_of_ne (λe=>h1 (by rw[←e];exact hy))).2 (hs y (VG _ hy)));rw[List.length_erase_of_mem hx]at this;have hp:=List.length_pos_of_mem hx;simp only[VR];omega
def marks(V:Nat)(a:bJ):dC:=(List.range V).map λj=>decide (j∈a)
theorem Bl(l:dC)(i:Nat)(b:Bool):(fM l).set i [BL b]=fM (l.set i b):=by simp[fM,Zn]
@[simp] theorem Ty(l:dC):Da (fM l):=by
 rw[qS];intro r a;obtain⟨o,_,rfl⟩:=VB.1 a;exact⟨trivial,trivial⟩
theorem Il(l:af)(i:Nat):List.take i (am l)=am (l.take i):=by simp[am,Xn]
def Tz(n:Int)(a:af)(k:Nat):Prop:=0<=a.getD k 0∧a.getD k 0<n∧¬a.getD k 0∈a.take k
instance (n:Int) (order:af) (k:Nat):Decidable (Tz n order k):=by unfold Tz;infer_instance
def TA(m:Int)(row:af)(k:Nat):Prop:=0<=row.getD k 0∧row.getD k 0<m
instance (m:Int) (row:af) (k:Nat):Decidable (TA m row k):=by unfold TA;infer_instance
structure Ev where
  w:Int
  p:Int
  n:Int
instance:Inhabited Ev:=⟨⟨0,0,0⟩⟩
theorem Qz:∀x y:Ev,x.w=y.w->x.p=y.p->x.n=y.n->x=y:=λx y h1 a b=>by
 cases x;cases y;simp at h1 a b;subst h1 a b;rfl
instance:DecidableEq Ev:=λa b=>if h:a.w=b.w∧a.p=b.p∧a.n=b.n then .isTrue (Qz a b h.1 h.2.1 h.2.2)else .isFalse λe=>h (by subst e;exact⟨rfl,rfl,rfl⟩)
@[simp] theorem UI(r:Nat->Nat->PV)(l:aS):nL r (aL fI l)=aL fI l:=by
 rw[AJ];unfold aL;rw[Wo];congr 1
@[simp] theorem U4(l:aS):N6 (aL fI l):=by
 rw[FY];intro r a;obtain⟨x,_,rfl⟩:=VB.1 a;trivial
end Go.AX
