/-
  Plain facts: the document's checker is the program's.
-/
import Derived.Test.YtepodadinenmnaaGreatS14AxTxG
import Derived.Test.YtepodadinenmnaaGreatS14AxTtA
namespace Go.AX
open Go.Proofs
set_option linter.unusedSimpArgs false
theorem IN{α:Type}:∀{m:List (Int×α)}{k:Int},(∀q∈m,q.1≠k)->lk m k=none
 |[],_,_=>rfl
 |(j,y)::m,k,h=>by
  rw[AX.lk,RH (h _ R2)];exact IN λq a=>h q (RZ _ a)
theorem xz{α:Type}:∀{m:List (Int×α)},xv m->∀(k x:Int),lk (dl m k) x=if x=k then none else lk m x
 |[],_,k,x=>by
  rw[dl,AX.lk];split<;>rfl
 |(j,y)::m,h,k,x=>by
  obtain⟨h1,a⟩:=Ue.1 h;rw[dl]
  by_cases c:j=k
  .rw[RI c];subst c
   by_cases e:x=j
   .subst e;rw[RI rfl];exact IN λq b=>by have:=h1 q b;simp only at this;omega
   .rw[RH e,AX.lk,RH (λe'=>e e'.symm)]
  .rw[RH c,AX.lk,AX.lk,xz a k x]
   by_cases e:x=k
   .rw[RI e,RI e,RH (by omega)]
   .rw[RH e,RH e]
theorem DM:∀{m:List (Int×List Int)},xv m->∀k:Int,zG m k=dl m k
 |[],_,_=>rfl
 |(j,y)::m,h,k=>by
  obtain⟨h1,b⟩:=Ue.1 h;have a:=DM b k;unfold zG at a⊢;rw[Sz,dl]
  by_cases c:j=k
  .rw[RH (by simp[c]),RI c];exact TG.2 λq d=>by have:=h1 q d;simp only at this;simp;omega
  .rw[RI (by simp[c]),RH c,a]
theorem IP:∀(ids:List Int)(m:List (Int×List Int)),xv m->((ids.Nodup∧∀x∈ids,(lk m x).isSome=true)->fv m ids=(ids.foldl dl m,0))∧(¬(ids.Nodup∧∀x∈ids,(lk m x).isSome=true)->(fv m ids).2=20)
 |[],m,_=>⟨λ_=>rfl,λh=>absurd ⟨List.nodup_nil,λx hx=>absurd hx VF⟩ h⟩
 |id::ids,m,c=>by
  rw[fv];cases e:(lk m id).isSome
  .rw[RI rfl];refine⟨λh=>?_,λ_=>rfl⟩;have:=h.2 id R2;rw[e]at this;cases this
  .rw[RH (by simp),DM c,Uo];obtain⟨h1,f⟩:=IP ids (dl m id) (c.sublist (xw m id));have key:(ids.Nodup∧∀x∈ids,(lk (dl m id) x).isSome=true)↔((id::ids).Nodup∧∀x∈id::ids,(lk m x).isSome=true):=by
    rw[Tg];constructor
    .rintro⟨a,b⟩;refine⟨⟨λhin=>?_,a⟩,λx hx=>?_⟩
     .have:=b id hin;rw[xz c,RI rfl]at this;cases this
     .rcases R9.1 hx with rfl|hx
      .exact e
      .have:=b x hx;rw[xz c]at this;split at this
       .cases this
       .exact this
    .rintro⟨⟨a,b⟩,d⟩;refine⟨b,λx hx=>?_⟩;rw[xz c,RH (λe':x=id=>a (e'▸hx))];exact d x (RZ _ hx)
   exact⟨λh=>h1 (key.2 h),λh=>f λh'=>h (key.1 h')⟩
theorem vK{zs:List Int}(hs:zs.Pairwise (·<=·)):∀j,j<=zs.length->(aK zs j).Pairwise (·<·)∧∀x,x∈aK zs j↔x∈zs.take j
 |0,_=>⟨by simp[aK],λx=>by simp[aK]⟩
 |j+1,h=>by
  obtain⟨h1,b⟩:=vK hs j (by omega);have f:zs.getD j 0=zs[j]:=by simp[show j<zs.length by omega]
  rw[aK,f,SA,RF (by omega),Ty];have hp:=Sl.1 hs
  by_cases d:j=0∨zs[j]≠zs.getD (j -1) 0
  .rw[RI d];refine⟨Uv.2 ⟨h1,by simp,λy hy z hz=>?_⟩,λx=>by rw[RS,RS,b]⟩;rw[Sp]at hz;subst hz;obtain⟨k,hk,rfl⟩:=RU ((b y).1 hy);rw[RN]at hk;rw[S7];rcases d with rfl|d
   .omega
   .have a:zs.getD (j -1) 0=zs[j -1]:=by simp[show j -1<zs.length by omega]
    rw[a]at d;have i:zs[k]<=zs[j -1]:=by
     by_cases e:k=j -1
     .subst e;exact T8 _
     .exact hp k (j -1) (by omega) (by omega) (by omega)
    have l:zs[j -1]<=zs[j]:=hp (j -1) j (by omega) (by omega) (by omega);omega
  .rw[RH d];refine⟨h1,λx=>?_⟩;rw[b,RS,Sp];refine⟨.inl,λhx=>hx.elim id λe=>?_⟩;have hj:j≠0:=λe=>d (.inl e);have a:zs.getD (j -1) 0=zs[j -1]:=by simp[show j -1<zs.length by omega]
   have c:zs[j]=zs[j -1]:=R6 λg=>d (.inr (by rw[a];exact g));rw[e,c];exact SS.2 ⟨j -1,by omega,rfl⟩
theorem qS{zs:List Int}:∀j,j<=zs.length->(aK zs j).length=j->aK zs j=zs.take j
 |0,_,_=>by simp[aK]
 |j+1,h,a=>by
  have b:zs.getD j 0=zs[j]:=by simp[show j<zs.length by omega]
  have:=iM zs j;rw[aK]at a⊢
  by_cases d:j=0∨zs.getD j 0≠zs.getD (j -1) 0
  .rw[RI d]at a⊢;rw[RP,S9]at a;rw[qS j (by omega) (by omega),b,SA,RF (by omega)];rfl
  .rw[RH d]at a;omega
theorem nM{zs:List Int}(hs:zs.Pairwise (·<·)):∀j,j<=zs.length->(aK zs j).length=j
 |0,_=>rfl
 |j+1,h=>by
  have c:=nM hs j (by omega);have b:zs.getD j 0=zs[j]:=by simp[show j<zs.length by omega]
  rw[aK,RI,RP,c]
  .rfl
  .by_cases e:j=0
   .exact .inl e
   .right;have a:zs.getD (j -1) 0=zs[j -1]:=by simp[show j -1<zs.length by omega]
    have:=Sl.1 hs (j -1) j (by omega) (by omega) (by omega);rw[b,a];omega
theorem Cf(ids:List Int):¬(cT (cL ids)).length<ids.length↔ids.Nodup:=by
 have hp:(cL ids).Perm ids:=UB _ _;have e:=hp.length_eq;have hs:=tu ids;constructor
 .intro h;have h1:=iM (cL ids) (cL ids).length;unfold cT at h;have d:=qS (zs:=cL ids) _ (RJ _) (by omega);have c:=(vK hs _ (RJ _)).1;rw[d,R8]at c;exact hp.nodup_iff.1 (c.imp λh=>by omega)
 .intro h;have hn:=hp.nodup_iff.2 h;have:=nM ((List.pairwise_and_iff.2 ⟨hs,hn⟩).imp λ⟨a,b⟩=>by omega) _ (RJ (cL ids).length);unfold cT;omega
theorem IQ{c:Ck}{ids:List Int}(hi:∀x∈ids,1<=x∧x<=20000000):dropB c ids=false↔(ids.Nodup∧∀x∈ids,(lk c.m x).isSome=true):=by
 unfold dropB jJ;rw[Ug,Th,Cf,Bool.not_eq_false',Se];refine and_congr_right λ_=>V6 λx=>V6 λhx=>?_;rw[IA (hi x hx).1 (hi x hx).2]
theorem DN{l:List Int}{lo:Int}(h:jA l lo=true):∀x∈l,lo<=x∧x<=10000000:=by
 unfold jA at h;rw[RQ,Sw,Tv]at h;intro x hx;have:=h.2 x hx;unfold xk at this;simp at this;omega
theorem zN{c:Ck}(a:CkG c):Lc c=dD c:=
 Iz (UK _) (Tu.2 (a.rs.imp λh=>Wv h))
theorem FJ{l:List Nat}{b:Nat}(h:l.Nodup)(a:∀x,x∈l↔x=b):l=[b]:=by
 match l,h,a with
 |[],_,a=>exact absurd ((a b).2 rfl) VF
 |[x],_,a=>rw[(a x).1 R2]
 |x::y::l,h,a=>
  have h1:=(a x).1 R2;have c:=(a y).1 (RZ _ R2);subst h1;subst c;exact absurd R2 (Tg.1 h).1
theorem Mm{l:List Int}(hs:l.Pairwise (·<·)){X:Int}{j:Nat}(hj:j<l.length)(e:l[j]=X):M9 l X=j∧N7 l X=true:=by
 have hp := Sl.1 hs; have h1 : M9 l X = j := Na (Ww hj) (λ k hk h => by have := hp k j hk hj h; omega) (λ k hk h => by
  by_cases a:k=j
  .subst a;omega
  .have:=hp j k hj hk (by omega);omega)
 refine⟨h1,?_⟩;unfold N7;rw[h1,RF hj,e];simp
theorem Nh{l:List Int}(hs:l.Pairwise (·<·))(X:Int):((List.range l.length).filter λj:Nat=>decide (l.getD j 0=X))=if N7 l X=true then[M9 l X]else[]:=by
 have b:∀j (h:j<l.length),l.getD j 0=l[j]:=λj h=>by simp[h]
 by_cases c:N7 l X=true
 .rw[RI c];apply FJ
  .exact List.nodup_range.filter _
  .intro x;rw[SD,SY,Ur];constructor
   .rintro⟨h1,a⟩;rw[b x h1]at a;exact(Mm hs h1 a).1.symm
   .rintro rfl;unfold N7 at c;have:=Vw c;obtain⟨h1,a⟩:=RE.1 this;exact⟨h1,by rw[b _ h1,a]⟩
 .rw[RH c];rw[Tz];intro j hj h;rw[SY]at hj;rw[Ur,b j hj]at h;exact c (Mm hs hj h).2
theorem Lm{c:Ck}(a:CkG c)(g:List Int)(m:List (Int×List (List Int))):(qv c g (dD c).length).foldl (λm e=>pt m e.1 e.2) m=Iq c m g:=by
 have hs:(dD c).Pairwise (·<·):=Tu.2 a.rs;unfold qv Iq;rw[Nh hs,zN a];split<;>rfl
theorem FK{c:Ck}(b:CkG c)(a:List (List Int)):Ce (zK c a)=Ir c a:=by
 unfold Ce zK lT Ir;rw[R8];generalize([]:List (Int×List (List Int)))=m
 induction a generalizing m with
 |nil=>rfl
 |cons g a d=>
  rw[R4,Uy,Vv,Lm b,d,Uo]
theorem FL{c:Ck}(a:CkG c)(lits hints:List Int):uu c lits hints=xq c lits hints:=by
 unfold uu xq;rw[zN a,FK a]
theorem Cg(c:Ck){ids:List Int}(h:∀x∈ids,-10000000<=x∧x<=10000000):mL c ids=jJ c ids:=by
 unfold mL jJ;apply VJ.2;rw[Se,Se];refine V6 λx=>V6 λhx=>?_;have:=h x hx;have e:qt x=B0 x:=by
  unfold qt B0;rw[ap (by omega) (by omega)];split
  .rw[RI (by omega)]
  .rw[RH (by omega)]
 rw[e]
theorem Ch{s:Stp}(h:iR s=true):(∀x∈s.hints,-10000000<=x∧x<=10000000)∧(s.kind=2->∀x∈s.hints,1<=x∧x<=10000000):=by
 unfold iR at h
 by_cases a:s.kind=1
 .rw[RI a]at h;simp only[RQ,R0]at h;exact⟨DN h.2.2.2,λk=>by omega⟩
 .rw[RH a]at h
  by_cases b:s.kind=2
  .rw[RI b]at h;simp only[RQ,R0]at h;have:=DN h.2.2.2;exact⟨λx hx=>by have:=this x hx;omega,λ_=>this⟩
  .rw[RH b]at h;cases h
theorem FM{c:Ck}(g:CkG c)(s:Stp):vJ c s=eY c s:=by
 unfold vJ eY
 by_cases a:iR s=true
 rotate_left
 .have e:zr [s]=2:=by rw[mG,RH a]
  rw[RI (by simpa using a),e,RI (by decide)]
 have e:zr [s]=0:=by rw[mG,RI a]
 have hz:¬((0:Int)≠0):=by decide
 rw[RH (by rw[a];decide),e,RH hz];obtain⟨h1,n⟩:=Ch a
 by_cases d:s.kind=2
 .rw[RI d,RI d];obtain⟨j,k⟩:=IP s.hints c.m g.rs;have i:=IQ (c:=c) (ids:=s.hints) λx hx=>by have:=n d x hx;omega
  unfold vz zu xn;cases b:dropB c s.hints
  .rw[j (i.1 b),RH hz,RH (by decide),RH (by decide),R8]
  .have:=k λh=>by rw[i.2 h]at b;cases b
   rw[this,RI (by decide),RI rfl,RI rfl]
 .rw[RH d,RH d];unfold Fy;rw[Cg c h1,FL g]
  by_cases f:s.id<=c.last
  .rw[RI f,RI f]
  rw[RH f,RH f];have oM:=rM a;have hp:ql c s.id s.lits=⟨c.m++[(s.id,s.lits)],s.id,c.done||decide (s.lits.length=0)⟩:=by
   have:=(g.put (id:=s.id) (l:=s.lits) (by omega) (by omega)).1;unfold ql at this⊢;simp only at this;rw[this]
  rw[hp]
end Go.AX