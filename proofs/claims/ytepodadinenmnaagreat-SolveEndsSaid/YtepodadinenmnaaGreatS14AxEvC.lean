/-
  Contracts: lists that are the same; where a number stands; plays.
  Contracts: plays.
  Contracts: truths of orders and of rows of states.
  Contracts: events.
  Contracts: histories (kinds, what is a process', the same).
  Contracts: histories (a process' events; what is done).
-/
import Derived.Test.YtepodadinenmnaaGreatS14AxMovB
import Derived.Test.YtepodadinenmnaaGreatS14AxCntG
namespace Go.AX
open Go.Proofs
/-! ### Lists that are the same -/
@[simp] theorem GG(k:Nat)(l:List (List Int)):bS k (l.map aK):=by
 rw[gI];intro r a x hx;obtain⟨o,_,rfl⟩:=Of.1 a;simp[aK]at hx;subst hx;exact bd k o
@[simp] theorem IP(r:Nat->Nat->PV)(l:List (List Int)):kw r (l.map aK)=l.map aK:=by
 rw[ce,Pa];apply Q1;intro x _;simp[aK]
/-! ### Where a number stands -/
def ym(l:List Int)(n:Int):Int:=iV (λx=>decide (x=n)) l
theorem GI(l:List Int)(n:Int):0<=ym l n↔n∈l:=by
 unfold ym iV;cases h:l.findIdx? (λx=>decide (x=n))with
 |none=>
  rw[QM]at h;refine⟨λa=>absurd a (by decide),λa=>by have:=h n a;simp at this⟩
 |some i=>
  rw[P2]at h;obtain⟨h1,a,_⟩:=h;refine⟨λ_=>?_,λ_=>by dsimp only;omega⟩;have:l[i]=n:=by simpa using a
  exact this▸Od h1
theorem vY(l:List Int)(n:Int)(d:l.length<=140737488355328):an Tryz.prog 235 [.seq false 1 (af l),ae n] (λr=>r=.pv (ae (ym l n))):=by
 refine ax aG Tryz.func235 ?_;simp;refine aJ.intro (S:=λ(i:Nat)=>⟨[(0,.pv (.seq false 1 (af l))),(1,.pv (ae n)),(7,.pv (ae l.length)),(8,.pv (ae i))],[]⟩) (λi=>i<=l.length∧∀j (hj:j<l.length),j<i->(λx=>decide (x=n)) l[j]=false) (λi=>l.length -i) 0 ?_ ?_ ?_
 .exact ai.to (by simp) rfl (by simp) (by simp) (by simp)
 .exact⟨by omega,λj hj h=>by omega⟩
 .intro i ⟨hi,ho⟩
  by_cases h:i<l.length
  .have b:=fQ i;simp[h];refine⟨λc=>by rw[ym,fR h ho (by simpa using c.symm)],λc=>⟨i+1,by dsimp only;omega,⟨by omega,λj hj a=>?_⟩,ai.to ?_ rfl (by simp) (by simp) (by simp)⟩⟩
   .by_cases e:j=i
    .subst e;simpa usingλe=>c e.symm
    .simpa using ho j hj (by omega)
   .simp[b]
  .simp[h];rw[ym,d9 (λj hj=>ho j hj (by omega))]
theorem iz(l:List Int)(n:Int)(a:l.length<=140737488355328):an Tryz.prog 168 [.seq false 1 (af l),ae n] (λr=>r=.pv (BL (decide (n∈l)))):=by
 refine ax aG Tryz.func168 ?_;simp;refine aj.intro (vY l n a) ?_;simp[GI]
/-! ### Closed objects and operations -/
/-! ### May, proper -/
def cz(l:List Bool):List (List PV):=l.map λb=>[BL b]
@[simp] theorem Ib(l:List Bool):(cz l).length=l.length:=by simp[cz]
@[simp] theorem Ic(k:Nat)(l:List Bool):bS k (cz l):=by
 rw[gI];intro r a x hx;obtain⟨o,_,rfl⟩:=Of.1 a;simp at hx;subst hx;trivial
@[simp] theorem JO(r:Nat->Nat->PV)(l:List Bool):kw r (cz l)=cz l:=by
 rw[cz,ce,Pa];congr 1
@[simp] theorem Ls(l:List Bool)(i:Nat):(cz l)[i]?=l[i]?.map λn=>[BL n]:=by simp[cz]
@[simp] theorem JQ(l:List Bool)(i:Nat)(h:i<(cz l).length):(cz l)[i]'h=[BL (l[i]'(by simpa using h))]:=by simp[cz]
def vZ(ops:List Op5)(a:List Int)(b:List Bool)(i:Nat):Prop:=(i:Int)∈a∧((ops.getD i default).e≠-1->b.getD i false=true)
instance (ops:List Op5) (order:List Int) (inn:List Bool) (i:Nat):Decidable (vZ ops order inn i):=by unfold vZ;infer_instance
theorem cX{α:Type}[DecidableEq α]:∀(l m:List α),l.Nodup->(∀x∈l,x∈m)->l.length<=m.length
 |[],_,_,_=>Oz _
 |x::l,m,hn,hs=>by
  have hx:=hs x OA;obtain⟨h1,a⟩:=PC.1 hn;have:=cX l (m.erase x) a (λy hy=>(List.mem_erase_of_ne (λe=>h1 (by rw[←e];exact hy))).2 (hs y (Ou _ hy)));rw[List.length_erase_of_mem hx]at this;have hp:=List.length_pos_of_mem hx;simp only[OC];omega
def marks(V:Nat)(a:List Nat):List Bool:=(List.range V).map λj=>decide (j∈a)
theorem v7(l:List Bool)(i:Nat)(b:Bool):(cz l).set i [BL b]=cz (l.set i b):=by simp[cz,SC]
@[simp] theorem Lv(l:List Bool):zK (cz l):=by
 rw[pL];intro r a;obtain⟨o,_,rfl⟩:=Of.1 a;exact⟨trivial,trivial⟩
theorem BC(l:List Int)(i:Nat):List.take i (af l)=af (l.take i):=by simp[af,QI]
def Lw(n:Int)(a:List Int)(k:Nat):Prop:=0<=a.getD k 0∧a.getD k 0<n∧¬a.getD k 0∈a.take k
instance (n:Int) (order:List Int) (k:Nat):Decidable (Lw n order k):=by unfold Lw;infer_instance
def Lx(m:Int)(row:List Int)(k:Nat):Prop:=0<=row.getD k 0∧row.getD k 0<m
instance (m:Int) (row:List Int) (k:Nat):Decidable (Lx m row k):=by unfold Lx;infer_instance
structure Ev where
  w:Int
  p:Int
  n:Int
instance:Inhabited Ev:=⟨⟨0,0,0⟩⟩
theorem IS:∀x y:Ev,x.w=y.w->x.p=y.p->x.n=y.n->x=y:=λx y h1 a b=>by
 cases x;cases y;simp at h1 a b;subst h1 a b;rfl
instance:DecidableEq Ev:=λa b=>if h:a.w=b.w∧a.p=b.p∧a.n=b.n then .isTrue (IS a b h.1 h.2.1 h.2.2)else .isFalse λe=>h (by subst e;exact⟨rfl,rfl,rfl⟩)
@[simp] theorem M6(r:Nat->Nat->PV)(l:List (Int×Int)):qd r (aS fI l)=aS fI l:=by
 rw[vm];unfold aS;rw[Pa];congr 1
@[simp] theorem Nq(l:List (Int×Int)):Gn (aS fI l):=by
 rw[zL];intro r a;obtain⟨x,_,rfl⟩:=Of.1 a;trivial
end Go.AX