/-
  Contracts: cnf.With.
  Contracts: replevinlaw10.Few, replevinlaw43.few, three; replevinref10.Same.
  Contracts: replevinlaw43.awake.
  Plain facts: checkers, and what is left of a plain proof.
  Plain facts: what is left of a proof is accepted, and is left as it is.
  Plain facts: what is needed, and the core.
-/
import Derived.Test.YtepodadinenmnaaGreatS14AxWaD
namespace Go.AX
open Go.Proofs
set_option linter.unusedSimpArgs false
set_option maxRecDepth 16000 in
theorem K6(v:Int)(L:List (List Int))(o:L.length<=1000000)(j:∀c∈L,c.length<=1000000):am Tryz.prog 66 [.agg [ae v,.seq false 1 (L.map ao)],.lit (.slice none 0 0)] (λr=>r=.pv (.agg [ae v,.seq true 1 (L.map oZ)])):=by
 refine mq [] [.cell 4 _] aE Tryz.func66 ?_;obtain⟨M,a⟩:∃M:Nat->List (List PV),∀i,M i=(L.take i).map oZ:=⟨_,λ_=>rfl⟩;have d:M 0=[]:=by rw[a];rfl
 have e:M L.length=L.map oZ:=by rw[a,RY]
 have g:∀i (c:i<L.length),M (i+1)=M i++[oZ L[i]]:=λi c=>by rw[a,a,Sp,Ru c,R1];rfl
 have f:∀i,(M i).length<=L.length:=λi=>by rw[a,RH,RD];exact Vs _ _
 simp;refine aw.intro (S:=λ(i:Nat)=>⟨[(2,.pv (.ptr 0 0)),(4,.pv (.ptr 1 0)),(5,.pv (.ptr 2 0)),(1,.pv (.lit (.slice none 0 0))),(14,.pv (.seq false 1 (L.map ao))),(15,.pv (ae L.length)),(16,.pv (ae i))],[[.pv (ae v),.pv (.seq false 1 (L.map ao))],[.pv (ae 0),.pv (.lit (.slice none 0 0))],[.pv (ae v),.own true 1 (M i)]]⟩) (λi=>i<=L.length) (λi=>L.length -i) 0 ?_ (RL _) ?_
 .exact(ah.nilCell (b:=2) (k:=1) (xs:=[.pv (ae v),.pv (.lit (.slice none 0 0))]) 1 true (by simp) (by simp)).trans (ah.keep (by simp[d]) (by simp[d]))
 intro i hi
 by_cases c:i<L.length
 .have n:=dr i;have l:=g i c;have h:=iF L[i] (j _ (Rz c));have m:=f i;simp[c,ao];refine br.intro (by exact h) ?_;simp;exact⟨by omega,i+1,by(try dsimp only);omega,by(try dsimp only);omega,ah.keep (by simp[n]) (by simp[l,oZ])⟩
 .have:i=L.length:=by omega
  subst this;simp;refine aw.intro (S:=λ(_:Unit)=>⟨[(4,.pv (.ptr 1 0)),(5,.pv (.ptr 2 0)),(28,.pv (.lit (.slice none 0 0))),(29,.pv (ae 0)),(30,.pv (ae 0))],[[.pv (ae v),.pv (.seq false 1 (L.map ao))],[.pv (ae 0),.pv (.lit (.slice none 0 0))],[.pv (ae v),.own true 1 (M L.length)]]⟩) (λ_=>True) (λ_=>0) () ?_ trivial ?_
  .exact ah.keep (by simp) rfl
  intro _ _;simp[e]
def zx(cs:List (List Int)):Bool:=decide (cs.length<=200)&&cs.all λc=>decide (c.length<=50)
theorem Fp(v:Int)(cs:List (List Int)):am Tryz.prog 39 [.agg [ae v,.seq false 1 (cs.map ao)]] (λr=>r=.pv (BL (zx cs))):=by
 refine aq aE Tryz.func39 ?_
 by_cases c:(200:Int)<cs.length
 .have:zx cs=false:=by unfold zx;rw[Tq (by omega),Ts]
  rw[this];simp[c]
 have c':cs.length<=200:=by omega
 have f:zx cs=cs.all λc=>decide (c.length<=50):=by unfold zx;rw[S9 c',Um]
 rw[f];simp[c];refine aw.intro (S:=λ(i:Nat)=>⟨[(1,.pv (.ptr 0 0)),(3,.pv (ae i))],[[.pv (ae v),.pv (.seq false 1 (cs.map ao))]]⟩) (λi=>i<=cs.length∧∀j (h:j<cs.length),j<i->cs[j].length<=50) (λi=>cs.length -i) 0 ?_ ⟨RL _,λj _ h=>by omega⟩ ?_
 .exact ah.to (by simp) rfl (by simp) (by simp) (by simp)
 rintro i ⟨hi,hle⟩
 by_cases a:i<cs.length
 .have d:=dr i
  by_cases c5:(50:Int)<cs[i].length
  .have:(cs.all λc=>decide (c.length<=50))=false:=by
    rw[List.all_eq_false];exact⟨cs[i],Rz a,by simp;omega⟩
   rw[this];simp[a,ao,c5]
  .simp[a,ao,c5];refine⟨i+1,by(try dsimp only);omega,⟨by(try dsimp only);omega,λj hj g=>?_⟩,ah.to (by simp[d]) rfl (by simp) (by simp) (by simp)⟩
   by_cases e:j=i
   .subst e;omega
   .exact hle j hj (by omega)
 .have b:i=cs.length:=by omega
  subst b;have:(cs.all λc=>decide (c.length<=50))=true:=by
   rw[R3];intro x hx;obtain⟨j,hj,rfl⟩:=RJ hx;simpa using hle j hj hj
  rw[this];simp
theorem K7(a b:Stp)(h1:a.kind=b.kind)(c:a.id=b.id)(d:a.lits=b.lits)(e:a.hints=b.hints):a=b:=by
 cases a;cases b;simp at*;exact⟨h1,c,d,e⟩
instance:DecidableEq Stp:=λa b=>decidable_of_iff (a.kind=b.kind∧a.id=b.id∧a.lits=b.lits∧a.hints=b.hints) ⟨λ⟨h1,h2,h3,h4⟩=>K7 a b h1 h2 h3 h4,λh=>by subst h;exact⟨rfl,rfl,rfl,rfl⟩⟩
theorem Ir{l l':List Int}(h:l.Perm l')(hs:l'.Pairwise (·<=·)):cK l=l':=by
 refine VU (le:=(·<=·)) (λa b _ _ h1 d=>Int.le_antisymm h1 d) ?_ hs ?_
 .have:=UH (le:=λx y:Int=>decide (x<=y)) (λa b c h1 d=>by simp at*;omega) (λa b=>by simp;omega) l;exact this.imp λh=>by simpa using h
 .unfold cK;exact(Uq l _).trans h
theorem th{α:Type}:∀{l:List (Int×α)}{k:Int}{y:α},(∀q∈l,q.1≠k)->pt l k y=l++[(k,y)]
 |[],_,_,_=>rfl
 |(j,x)::l,k,y,h=>by
  rw[pt,Rw (h _ RR),th λq a=>h q (RO _ a)];rfl
abbrev xn{α:Type}(l:List (Int×α)):Prop:=l.Pairwise λp q=>p.1<q.1
theorem xn.lk{α:Type}:∀{l:List (Int×α)},xn l->∀{k:Int}{x:α},(k,x)∈l->lk l k=some x
 |(j,z)::l,h,k,x,a=>by
  replace h:=T4.1 h;rw[AX.lk];rcases RZ.1 a with a|a
  .cases a;rw[Rx rfl]
  .have:=h.1 _ a;simp only at this;rw[Rw (by omega)];exact xn.lk h.2 a
theorem xo{α:Type}:∀(l:List (Int×α))(k:Int),(dl l k).Sublist l
 |[],_=>VV _
 |(j,x)::l,k=>by
  rw[dl];split
  .exact List.sublist_cons_self _ _
  .exact(xo l k).cons_cons _
theorem nH{α:Type}:∀(ids:List Int)(m:List (Int×α)),(ids.foldl dl m).Sublist m
 |[],_=>VV _
 |id::ids,m=>(nH ids (dl m id)).trans (xo m id)
structure CkG (c:Ck):Prop where
  rs:xn c.m
  lo:∀q∈c.m,1<=q.1
  hi:∀q∈c.m,q.1<=c.last
  t:0<=c.last∧c.last<=20000000
theorem CkG.put{c:Ck}(h:CkG c){id:Int}{l:List Int}(h1:c.last<id)(d:id<=20000000):(qg c id l).m=c.m++[(id,l)]∧CkG (qg c id l):=by
 have e:pt c.m id l=c.m++[(id,l)]:=th λq a=>by have:=h.hi q a;omega
 have ht:=h.t;have b:(qg c id l).m=c.m++[(id,l)]:=e;refine⟨b,⟨?_,?_,?_,?_⟩⟩
 .rw[b,xn,Uk];refine⟨h.rs,List.pairwise_singleton _ _,λq a p hp=>?_⟩;rw[Sc]at hp;subst hp;have:=h.hi q a;simp only;omega
 .rw[b];intro q a;rcases RI.1 a with a|a
  .exact h.lo q a
  .rw[Sc]at a;subst a;simp only;omega
 .rw[b];intro q a;show q.1<=id;rcases RI.1 a with a|a
  .have:=h.hi q a;omega
  .rw[Sc]at a;subst a;exact TU _
 .exact⟨by show 0<=id;omega,d⟩
theorem CkG.drop{c:Ck}(h:CkG c)(ids:List Int):CkG ⟨ids.foldl dl c.m,c.last,c.done⟩:=by
 have hs:=nH ids c.m;exact⟨h.rs.sublist hs,λq a=>h.lo q (hs.subset a),λq a=>h.hi q (hs.subset a),h.t⟩
theorem CkG.new(L:List (List Int))(c:L.length<=100000):∀i,i<=L.length->CkG (d5 L i)∧(d5 L i).last=i
 |0,_=>⟨⟨List.Pairwise.nil,λq a=>absurd a Vu,λq a=>absurd a Vu,⟨TU _,by show(0:Int)<=20000000;omega⟩⟩,rfl⟩
 |i+1,hi=>by
  obtain⟨h1,b⟩:=CkG.new L c i (by omega);have hs:d5 L (i+1)=xl (d5 L i) L[i]:=bf xl _ L i (by omega);have d:aS ((d5 L i).last+1)=((i+1:Nat):Int):=by rw[b,ap (by omega) (by omega)];omega
  rw[hs];unfold xl;rw[d];exact⟨(h1.put (by omega) (by omega)).2,rfl⟩
theorem Fq{s:Stp}(h:zj [s]=0):iO s=true:=by
 rw[mD]at h;split at h
 .assumption
 .cases h
theorem B0{c:Ck}{s:Stp}(h:(eW c s).2=0):iO s=true∧((s.kind=2∧dropB c s.hints=false∧eW c s=(⟨s.hints.foldl dl c.m,c.last,c.done⟩,0))∨
 (s.kind=1∧c.last<s.id∧fh s.lits=false∧jH c s.hints=true∧xk c s.lits s.hints=0∧eW c s=(qg c s.id s.lits,0))):=by
 by_cases hp:zj [s]=0
 rotate_left
 .unfold eW at h;rw[Rx hp]at h;exact absurd h hp
 have g:=Fq hp;refine⟨g,?_⟩
 by_cases b:s.kind=2
 .have e:eW c s=(vu c s.hints,zm c s.hints):=by unfold eW;rw[Rw (by simp[hp]),Rx b]
  rw[e]at h;have a:dropB c s.hints=false:=by
   cases a:dropB c s.hints
   .rfl
   .unfold zm at h;rw[Rx a]at h;cases h
  refine .inl ⟨b,a,?_⟩;rw[e];unfold vu zm xh;rw[Rw (by rw[a];simp),Rw (by rw[a];simp),RY]
 .have e:eW c s=Fo c s:=by unfold eW;rw[Rw (by simp[hp]),Rw b]
  rw[e]at h⊢;have h1:=(rz g).1.resolve_right b;right;unfold Fo at h⊢
  by_cases f:s.id<=c.last
  .rw[Rx f]at h;cases h
  rw[Rw f]at h⊢
  by_cases d:fh s.lits=true
  .rw[Rx d]at h;cases h
  rw[Rw d]at h⊢
  by_cases a3:jH c s.hints=false
  .rw[Rx a3]at h;cases h
  rw[Rw a3]at h⊢
  by_cases a4:xk c s.lits s.hints≠0
  .rw[Rx a4]at h;exact absurd h a4
  rw[Rw a4];exact⟨h1,by omega,by simpa using d,by simpa using a3,by simpa using a4,rfl⟩
theorem Fs{c:Ck}{s:Stp}(h0:iO s=true)(h1:s.kind=1)(e:c.last<s.id)(a:fh s.lits=false)(b:jH c s.hints=true)(d:xk c s.lits s.hints=0):eW c s=(qg c s.id s.lits,0):=by
 unfold eW;rw[Rw (by rw[mD,Rx h0];simp),Rw (by omega)];unfold Fo;rw[Rw (by omega),Rw (by rw[a];simp),Rw (by rw[b];simp),Rw (by rw[d];simp)]
theorem B1{c:Ck}(b:CkG c){s:Stp}(h:(eW c s).2=0):CkG (eW c s).1∧c.last<=(eW c s).1.last:=by
 obtain⟨e,h|h⟩:=B0 h
 .rw[h.2.2];exact⟨b.drop _,TU _⟩
 .obtain⟨_,a,_,_,_,d⟩:=h;rw[d];have:=(rz e).2.2;exact⟨(b.put a (by omega)).2,Wk a⟩
theorem B2{hs:List Int}(h:∀x∈hs,0<=x):jZ hs=(hs,[]):=by
 have:∀i,i<=hs.length->eU hs i=(hs.take i,[]):=by
  intro i
  induction i with
  |zero=>intro _;rfl
  |succ i a=>
   intro hi;rw[gy hs (by omega),a (by omega)];have:=h hs[i] (Rz _);unfold qf;rw[Rw (by omega),Rx rfl,Sp,Ru (by omega)];rfl
 unfold jZ;rw[this _ (Ry _),RY]
theorem Is{h:Int}(h1:1<=h)(a:h<=20000000):BP h=h:=by
 unfold BP;rw[ap (by omega) (by omega),Rw (by omega)]
/-! ### What is marked -/
def Rd(m:List (Int×Int))(k:Int):Prop:=0<(lk m k).getD 0
instance (m:List (Int×Int)) (k:Int):Decidable (Rd m k):=by unfold Rd;infer_instance
def LZ:List Stp->Nat
 |[]=>0
 |s::ss=>LZ ss+s.hints.length
/-! ### The replay -/
def Rl(L:List (List Int))(ss:List Stp)(x:Int):Prop:=Rd (MZ L ss) x
instance (L:List (List Int)) (ss:List Stp) (x:Int):Decidable (Rl L ss x):=by unfold Rl;infer_instance
section
variable {v : Int} {L : List (List Int)} {ss : List Stp} (hn : 1 + LZ ss <= 1000000000)
include hn
end
theorem mG{α:Type}:∀(l:List (Int×α))(k:Int)(y:α)(x:Int),x∈(pt l k y).map (·.1)↔x=k∨x∈l.map (·.1)
 |[],k,y,x=>by simp[pt]
 |(j,z)::l,k,y,x=>by
  rw[pt]
  by_cases c:j=k
  .rw[Rx c];subst c;simp
  .rw[Rw c,RU,RZ,mG l k y x,RU,RZ];constructor
   .rintro(h|h|h)
    .exact .inr (.inl h)
    .exact .inl h
    .exact .inr (.inr h)
   .rintro(h|h|h)
    .exact .inr (.inl h)
    .exact .inl h
    .exact .inr (.inr h)
theorem j0{α:Type}:∀(l:List (Int×α))(k:Int)(y:α),(l.map (·.1)).Nodup->((pt l k y).map (·.1)).Nodup
 |[],k,y,_=>by simp[pt]
 |(j,z)::l,k,y,h=>by
  rw[RU,S4]at h;rw[pt]
  by_cases c:j=k
  .rw[Rx c,RU,S4];subst c;exact h
  .rw[Rw c,RU,S4,mG];exact⟨λa=>a.elim c h.1,j0 l k y h.2⟩
theorem vC{l:List Int}{x:Int}:x∈cK l↔x∈l:=by
 unfold cK;exact(Uq l _).mem_iff
end Go.AX