/-
  Plain facts: the document's checker is the program's.
-/
import Derived.Test.YtepodadinenmnaaGreatS14AxTxG
import Derived.Test.YtepodadinenmnaaGreatS14AxTtA
namespace Go.AX
open Go.Proofs
set_option linter.unusedSimpArgs false
theorem IF{α:Type}:∀{m:List (Int×α)}{k:Int},(∀q∈m,q.1≠k)->lk m k=none
 |[],_,_=>rfl
 |(j,y)::m,k,h=>by
  rw[AX.lk,Rw (h _ RR)];exact IF λq a=>h q (RO _ a)
theorem xt{α:Type}:∀{m:List (Int×α)},xn m->∀(k x:Int),lk (dl m k) x=if x=k then none else lk m x
 |[],_,k,x=>by
  rw[dl,AX.lk];split<;>rfl
 |(j,y)::m,h,k,x=>by
  obtain⟨h1,a⟩:=T4.1 h;rw[dl]
  by_cases c:j=k
  .rw[Rx c];subst c
   by_cases e:x=j
   .subst e;rw[Rx rfl];exact IF λq b=>by have:=h1 q b;simp only at this;omega
   .rw[Rw e,AX.lk,Rw (λe'=>e e'.symm)]
  .rw[Rw c,AX.lk,AX.lk,xt a k x]
   by_cases e:x=k
   .rw[Rx e,Rx e,Rw (by omega)]
   .rw[Rw e,Rw e]
theorem DC:∀{m:List (Int×List Int)},xn m->∀k:Int,zA m k=dl m k
 |[],_,_=>rfl
 |(j,y)::m,h,k=>by
  obtain⟨h1,b⟩:=T4.1 h;have a:=DC b k;unfold zA at a⊢;rw[Sn,dl]
  by_cases c:j=k
  .rw[Rw (by simp[c]),Rx c];exact Tw.2 λq d=>by have:=h1 q d;simp only at this;simp;omega
  .rw[Rx (by simp[c]),Rw c,a]
theorem IG:∀(ids:List Int)(m:List (Int×List Int)),xn m->((ids.Nodup∧∀x∈ids,(lk m x).isSome=true)->fq m ids=(ids.foldl dl m,0))∧(¬(ids.Nodup∧∀x∈ids,(lk m x).isSome=true)->(fq m ids).2=20)
 |[],m,_=>⟨λ_=>rfl,λh=>absurd ⟨List.nodup_nil,λx hx=>absurd hx Vu⟩ h⟩
 |id::ids,m,c=>by
  rw[fq];cases e:(lk m id).isSome
  .rw[Rx rfl];refine⟨λh=>?_,λ_=>rfl⟩;have:=h.2 id RR;rw[e]at this;cases this
  .rw[Rw (by simp),DC c,Ud];obtain⟨h1,f⟩:=IG ids (dl m id) (c.sublist (xo m id));have key:(ids.Nodup∧∀x∈ids,(lk (dl m id) x).isSome=true)↔((id::ids).Nodup∧∀x∈id::ids,(lk m x).isSome=true):=by
    rw[S4];constructor
    .rintro⟨a,b⟩;refine⟨⟨λhin=>?_,a⟩,λx hx=>?_⟩
     .have:=b id hin;rw[xt c,Rx rfl]at this;cases this
     .rcases RZ.1 hx with rfl|hx
      .exact e
      .have:=b x hx;rw[xt c]at this;split at this
       .cases this
       .exact this
    .rintro⟨⟨a,b⟩,d⟩;refine⟨b,λx hx=>?_⟩;rw[xt c,Rw (λe':x=id=>a (e'▸hx))];exact d x (RO _ hx)
   exact⟨λh=>h1 (key.2 h),λh=>f λh'=>h (key.1 h')⟩
theorem vG{zs:List Int}(hs:zs.Pairwise (·<=·)):∀j,j<=zs.length->(aJ zs j).Pairwise (·<·)∧∀x,x∈aJ zs j↔x∈zs.take j
 |0,_=>⟨by simp[aJ],λx=>by simp[aJ]⟩
 |j+1,h=>by
  obtain⟨h1,b⟩:=vG hs j (by omega);have f:zs.getD j 0=zs[j]:=by simp[show j<zs.length by omega]
  rw[aJ,f,Sp,Ru (by omega),Tm];have hp:=R9.1 hs
  by_cases d:j=0∨zs[j]≠zs.getD (j -1) 0
  .rw[Rx d];refine⟨Uk.2 ⟨h1,by simp,λy hy z hz=>?_⟩,λx=>by rw[RI,RI,b]⟩;rw[Sc]at hz;subst hz;obtain⟨k,hk,rfl⟩:=RJ ((b y).1 hy);rw[RD]at hk;rw[SQ];rcases d with rfl|d
   .omega
   .have a:zs.getD (j -1) 0=zs[j -1]:=by simp[show j -1<zs.length by omega]
    rw[a]at d;have i:zs[k]<=zs[j -1]:=by
     by_cases e:k=j -1
     .subst e;exact TU _
     .exact hp k (j -1) (by omega) (by omega) (by omega)
    have l:zs[j -1]<=zs[j]:=hp (j -1) j (by omega) (by omega) (by omega);omega
  .rw[Rw d];refine⟨h1,λx=>?_⟩;rw[b,RI,Sc];refine⟨.inl,λhx=>hx.elim id λe=>?_⟩;have hj:j≠0:=λe=>d (.inl e);have a:zs.getD (j -1) 0=zs[j -1]:=by simp[show j -1<zs.length by omega]
   have c:zs[j]=zs[j -1]:=RW λg=>d (.inr (by rw[a];exact g));rw[e,c];exact SH.2 ⟨j -1,by omega,rfl⟩
theorem qN{zs:List Int}:∀j,j<=zs.length->(aJ zs j).length=j->aJ zs j=zs.take j
 |0,_,_=>by simp[aJ]
 |j+1,h,a=>by
  have b:zs.getD j 0=zs[j]:=by simp[show j<zs.length by omega]
  have:=iJ zs j;rw[aJ]at a⊢
  by_cases d:j=0∨zs.getD j 0≠zs.getD (j -1) 0
  .rw[Rx d]at a⊢;rw[RF,SS]at a;rw[qN j (by omega) (by omega),b,Sp,Ru (by omega)];rfl
  .rw[Rw d]at a;omega
theorem nI{zs:List Int}(hs:zs.Pairwise (·<·)):∀j,j<=zs.length->(aJ zs j).length=j
 |0,_=>rfl
 |j+1,h=>by
  have c:=nI hs j (by omega);have b:zs.getD j 0=zs[j]:=by simp[show j<zs.length by omega]
  rw[aJ,Rx,RF,c]
  .rfl
  .by_cases e:j=0
   .exact .inl e
   .right;have a:zs.getD (j -1) 0=zs[j -1]:=by simp[show j -1<zs.length by omega]
    have:=R9.1 hs (j -1) j (by omega) (by omega) (by omega);rw[b,a];omega
theorem B5(ids:List Int):¬(cP (cK ids)).length<ids.length↔ids.Nodup:=by
 have hp:(cK ids).Perm ids:=Uq _ _;have e:=hp.length_eq;have hs:=td ids;constructor
 .intro h;have h1:=iJ (cK ids) (cK ids).length;unfold cP at h;have d:=qN (zs:=cK ids) _ (Ry _) (by omega);have c:=(vG hs _ (Ry _)).1;rw[d,RY]at c;exact hp.nodup_iff.1 (c.imp λh=>by omega)
 .intro h;have hn:=hp.nodup_iff.2 h;have:=nI ((List.pairwise_and_iff.2 ⟨hs,hn⟩).imp λ⟨a,b⟩=>by omega) _ (Ry (cK ids).length);unfold cP;omega
theorem IH{c:Ck}{ids:List Int}(hi:∀x∈ids,1<=x∧x<=20000000):dropB c ids=false↔(ids.Nodup∧∀x∈ids,(lk c.m x).isSome=true):=by
 unfold dropB jH;rw[T5,S5,B5,Bool.not_eq_false',R3];refine and_congr_right λ_=>VW λx=>VW λhx=>?_;rw[Is (hi x hx).1 (hi x hx).2]
theorem DD{l:List Int}{lo:Int}(h:jw l lo=true):∀x∈l,lo<=x∧x<=10000000:=by
 unfold jw at h;rw[RG,Sk,Tp]at h;intro x hx;have:=h.2 x hx;unfold xe at this;simp at this;omega
theorem zH{c:Ck}(a:CkG c):KY c=dA c:=
 Ir (UA _) (Tj.2 (a.rs.imp λh=>Wk h))
theorem Fy{l:List Nat}{b:Nat}(h:l.Nodup)(a:∀x,x∈l↔x=b):l=[b]:=by
 match l,h,a with
 |[],_,a=>exact absurd ((a b).2 rfl) Vu
 |[x],_,a=>rw[(a x).1 RR]
 |x::y::l,h,a=>
  have h1:=(a x).1 RR;have c:=(a y).1 (RO _ RR);subst h1;subst c;exact absurd RR (S4.1 h).1
theorem Ma{l:List Int}(hs:l.Pairwise (·<·)){X:Int}{j:Nat}(hj:j<l.length)(e:l[j]=X):MW l X=j∧NW l X=true:=by
 have hp := R9.1 hs; have h1 : MW l X = j := MX (Wl hj) (λ k hk h => by have := hp k j hk hj h; omega) (λ k hk h => by
  by_cases a:k=j
  .subst a;omega
  .have:=hp j k hj hk (by omega);omega)
 refine⟨h1,?_⟩;unfold NW;rw[h1,Ru hj,e];simp
theorem M6{l:List Int}(hs:l.Pairwise (·<·))(X:Int):((List.range l.length).filter λj:Nat=>decide (l.getD j 0=X))=if NW l X=true then[MW l X]else[]:=by
 have b:∀j (h:j<l.length),l.getD j 0=l[j]:=λj h=>by simp[h]
 by_cases c:NW l X=true
 .rw[Rx c];apply Fy
  .exact List.nodup_range.filter _
  .intro x;rw[Ss,SK,Uf];constructor
   .rintro⟨h1,a⟩;rw[b x h1]at a;exact(Ma hs h1 a).1.symm
   .rintro rfl;unfold NW at c;have:=Vl c;obtain⟨h1,a⟩:=Rt.1 this;exact⟨h1,by rw[b _ h1,a]⟩
 .rw[Rw c];rw[Tn];intro j hj h;rw[SK]at hj;rw[Uf,b j hj]at h;exact c (Ma hs hj h).2
theorem Lb{c:Ck}(a:CkG c)(g:List Int)(m:List (Int×List (List Int))):(qp c g (dA c).length).foldl (λm e=>pt m e.1 e.2) m=Ii c m g:=by
 have hs:(dA c).Pairwise (·<·):=Tj.2 a.rs;unfold qp Ii;rw[M6 hs,zH a];split<;>rfl
theorem Fz{c:Ck}(b:CkG c)(a:List (List Int)):B4 (zE c a)=Ij c a:=by
 unfold B4 zE lQ Ij;rw[RY];generalize([]:List (Int×List (List Int)))=m
 induction a generalizing m with
 |nil=>rfl
 |cons g a d=>
  rw[RU,Un,Vk,Lb b,d,Ud]
theorem FA{c:Ck}(a:CkG c)(lits hints:List Int):un c lits hints=xk c lits hints:=by
 unfold un xk;rw[zH a,Fz a]
theorem B6(c:Ck){ids:List Int}(h:∀x∈ids,-10000000<=x∧x<=10000000):mI c ids=jH c ids:=by
 unfold mI jH;apply Vz.2;rw[R3,R3];refine VW λx=>VW λhx=>?_;have:=h x hx;have e:qn x=BP x:=by
  unfold qn BP;rw[ap (by omega) (by omega)];split
  .rw[Rx (by omega)]
  .rw[Rw (by omega)]
 rw[e]
theorem B7{s:Stp}(h:iO s=true):(∀x∈s.hints,-10000000<=x∧x<=10000000)∧(s.kind=2->∀x∈s.hints,1<=x∧x<=10000000):=by
 unfold iO at h
 by_cases a:s.kind=1
 .rw[Rx a]at h;simp only[RG,RP]at h;exact⟨DD h.2.2.2,λk=>by omega⟩
 .rw[Rw a]at h
  by_cases b:s.kind=2
  .rw[Rx b]at h;simp only[RG,RP]at h;have:=DD h.2.2.2;exact⟨λx hx=>by have:=this x hx;omega,λ_=>this⟩
  .rw[Rw b]at h;cases h
theorem FB{c:Ck}(g:CkG c)(s:Stp):vF c s=eW c s:=by
 unfold vF eW
 by_cases a:iO s=true
 rotate_left
 .have e:zj [s]=2:=by rw[mD,Rw a]
  rw[Rx (by simpa using a),e,Rx (by decide)]
 have e:zj [s]=0:=by rw[mD,Rx a]
 have hz:¬((0:Int)≠0):=by decide
 rw[Rw (by rw[a];decide),e,Rw hz];obtain⟨h1,n⟩:=B7 a
 by_cases d:s.kind=2
 .rw[Rx d,Rx d];obtain⟨j,k⟩:=IG s.hints c.m g.rs;have i:=IH (c:=c) (ids:=s.hints) λx hx=>by have:=n d x hx;omega
  unfold vu zm xh;cases b:dropB c s.hints
  .rw[j (i.1 b),Rw hz,Rw (by decide),Rw (by decide),RY]
  .have:=k λh=>by rw[i.2 h]at b;cases b
   rw[this,Rx (by decide),Rx rfl,Rx rfl]
 .rw[Rw d,Rw d];unfold Fo;rw[B6 c h1,FA g]
  by_cases f:s.id<=c.last
  .rw[Rx f,Rx f]
  rw[Rw f,Rw f];have oI:=rz a;have hp:qg c s.id s.lits=⟨c.m++[(s.id,s.lits)],s.id,c.done||decide (s.lits.length=0)⟩:=by
   have:=(g.put (id:=s.id) (l:=s.lits) (by omega) (by omega)).1;unfold qg at this⊢;simp only at this;rw[this]
  rw[hp]
end Go.AX