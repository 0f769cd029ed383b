/-
  The program's checker takes all that an engine has learnt (plain law).
-/
import Derived.Test.YtepodadinenmnaaGreatS14AxEhC
import Derived.Test.YtepodadinenmnaaGreatS14AxTtA
namespace Go.AX
open Go.Proofs
set_option linter.unusedSimpArgs false
def iY:Ck->List Stp->Ck->Prop
 |c,[],d=>c=d
 |c,s::r,d=>(eY c s).2=0∧iY (eY c s).1 r d
theorem iY.snoc:∀{l:List Stp}{c d:Ck}{s:Stp},iY c l d->(eY d s).2=0->iY c (l++[s]) (eY d s).1
 |[],_,_,_,h,a=>by cases h;exact⟨a,rfl⟩
 |_::l,_,_,_,h,a=>⟨h.1,iY.snoc (l:=l) h.2 a⟩
structure CkE (F:List (List Int)) (l:List Rc) (E:ES) (c:Ck):Prop where
  run:iY (de F) E.pf c
  m:c.m=l.map λx=>(x.id,x.lits)
  last:c.last=E.id
  dn:c.done=true↔∃x∈l,x.lits=[]
  g:CkG c
  al:∀x∈l,x.side≠2
  may:∀s∈E.pf,iR s=true
theorem nk:∀(l:List Rc)(p:Nat),(∀x∈l,x.side≠2)->(bn p l).map (λy=>(y.id,y.lits))=l.map λx=>(x.id,x.lits)
 |[],_,_=>rfl
 |x::l,p,h=>by
  rw[bn,RH (h x R2),R4,R4,nk l _ λy hy=>h y (RZ _ hy)]
section
variable {n r s : Nat} {F : List (List Int)} {l : List Rc} {E : ES} {c : Ck}
theorem CkE.mem(K:CkE F l E c){y:Ro}(hy:y∈bn 0 l):(y.id,y.lits)∈c.m:=by
 rw[K.m,←nk l 0 K.al];exact RO.2 ⟨y,hy,rfl⟩
theorem CkE.over(K:CkE F l E c)(h:EI n F r s l E):c.done=E.over:=by
 have h1:(∃x∈l,x.lits=[])↔∃x∈bn 0 l,x.lits=[]:=by
  have e:=nk l 0 K.al;constructor
  .rintro⟨x,hx,b⟩;have:(x.id,x.lits)∈(bn 0 l).map λy=>(y.id,y.lits):=by rw[e];exact RO.2 ⟨x,hx,rfl⟩
   obtain⟨y,hy,a⟩:=RO.1 this;exact⟨y,hy,by rw[←b];exact(Wx a).2⟩
  .rintro⟨y,hy,b⟩;have:(y.id,y.lits)∈l.map λx=>(x.id,x.lits):=by rw[←e];exact RO.2 ⟨y,hy,rfl⟩
   obtain⟨x,hx,a⟩:=RO.1 this;exact⟨x,hx,by rw[←b];exact(Wx a).2⟩
 rw[VJ,K.dn,h.ovr,h1]
theorem CkE.res(K:CkE F l E c)(h:EI n F r s l E)(O:0<=E.con)(oM:E.id+1<=10000000)(q:HS)(p:List Bool)(k:Int):
 CkE F (l++[⟨E.id+1,1,az E⟩]) (nr E q p k) (ql c (E.id+1) (az E)):=by
 have R:=h.res O;have P:=h.n9;have H:=h.idz;have f:∀y∈az E,cF y=true:=λy hy=>V.okL_chk (v:=n) (by omega) (R.chk y hy);have j:∀z∈ff E,∃y∈bn 0 l,i7 E.A z=y.id∧aw E.A z=y.lits∧1<=y.id∧lk c.m y.id=some y.lits:=λz hz=>by
  obtain⟨y,hy,rfl⟩:=R.hin.2 z hz;obtain⟨I,J⟩:=h.ari.at hy;exact⟨y,hy,J,I,h.ari.ids y hy,xv.lk K.g.rs (K.mem hy)⟩
 have o:fl (az E)=false:=by
  unfold fl;rw[Tv];intro x hx;simp only[d7,RQ,R0];rintro⟨⟨_,_⟩,_,B⟩;have h1:=R.neg x hx;have i:=R.neg (-x) B;rw[TJ]at i;exact h.one (f x hx) ⟨i,h1⟩
 have d:∀z∈(ff E).map (i7 E.A),1<=z∧z<=10000000∧(lk c.m z).isSome=true:=λz hz=>by
  obtain⟨u,Q,rfl⟩:=RO.1 hz;obtain⟨y,hy,t,_,M,w⟩:=j u Q;have:=K.g.hi _ (K.mem hy);rw[K.last]at this;rw[t,w];exact⟨M,by dsimp only at this;omega,rfl⟩
 have C:bZ c ((ff E).map (i7 E.A))=(ff E).map (aw E.A):=by
  unfold bZ;rw[SJ];refine TW λz hz=>?_;obtain⟨y,hy,t,L,_,w⟩:=j z hz;simp only[Function.comp,t,w,L,Sm]
 have b:iR ⟨1,E.id+1,az E,(ff E).map (i7 E.A)⟩=true:=by
  unfold iR;rw[RI rfl];have h1:fu (az E) 100000=0:=vW (by have:=R.len;omega) f R.nd;have i:jA ((ff E).map (i7 E.A)) (-10000000)=true:=by
   unfold jA;rw[Tk (by rw[RR];have:=R.hle;omega),Ux];rw[Sw,Tv];intro z hz;have:=d z hz;simp only[xk,S4,R0];omega
  simp only[h1,i,decide_true,Bool.and_true,RQ,R0];omega
 have G:jJ c ((ff E).map (i7 E.A))=true:=by
  unfold jJ;rw[Se];intro z hz;obtain⟨h1,i,B⟩:=d z hz;have:B0 z=z:=by
   unfold B0;rw[ap (by omega) (by omega),RH (by omega)]
  rw[this];exact B
 have D:xq c (az E) ((ff E).map (i7 E.A))=0:=by
  have a:l3 (az E)=0:=by
   unfold l3 Ij;rw[RH,RH (by rw[o];simp)];rw[Uu,Tv];intro x hx;have ho:=f x hx;have T:=(aY x).1 ho;have:¬aW x<0:=by
    unfold aW dr;rw[RI ho];split<;>omega
   simpa using this
  have S:(rk (az E) ((ff E).map (aw E.A))).2=0:=by
   unfold rk;rw[RI a];exact R.shw
  unfold xq;rw[Cc λx hx=>by have:=d x hx;omega];dsimp only;rw[C,S];simp
 have a:=FB (s:=⟨1,E.id+1,az E,(ff E).map (i7 E.A)⟩) b rfl (by rw[K.last];dsimp only;omega) o G D;dsimp only at a;obtain⟨N,g2⟩:=K.g.put (id:=E.id+1) (l:=az E) (by rw[K.last];omega) (by omega);exact{
  run:=by
   have:=K.run.snoc (s:=⟨1,E.id+1,az E,(ff E).map (i7 E.A)⟩) (by rw[a]);rw[a]at this;exact this
  m:=by rw[N,K.m];simp
  last:=rfl
  dn:=by
   show(c.done||decide ((az E).length=0))=true↔_;rw[S4,K.dn,R0,Td];constructor
   .rintro(⟨x,hx,e⟩|e)
    .exact⟨x,by simp[hx],e⟩
    .exact⟨⟨E.id+1,1,az E⟩,by simp,e⟩
   .rintro⟨x,hx,e⟩;rcases RS.1 hx with hx|hx
    .exact .inl ⟨x,hx,e⟩
    .simp at hx;subst hx;exact .inr e
  g:=g2
  al:=λx hx=>by
   rcases RS.1 hx with hx|hx
   .exact K.al x hx
   .simp at hx;subst hx;simp
  may:=λs hs=>by
   rcases RS.1 hs with hs|hs
   .exact K.may s hs
   .rw[Sp]at hs;subst hs;exact b}
theorem CE(L:List (List Int))(b:L.length<=100000){i:Nat}(h:i<L.length):d8 L (i+1)=⟨(d8 L i).m++[(((i+1:Nat):Int),L[i])],((i+1:Nat):Int),(d8 L i).done||decide (L[i].length=0)⟩:=by
 have e:d8 L (i+1)=xt (d8 L i) L[i]:=by
  unfold d8;rw[SN h,Vv];rfl
 obtain⟨a,g2⟩:=CkG.new L b i (by omega);have c:aR ((d8 L i).last+1)=((i+1:Nat):Int):=by rw[g2,ap (by omega) (by omega)];omega
 rw[e];unfold xt;rw[c];have:=(a.put (id:=((i+1:Nat):Int)) (l:=L[i]) (by omega) (by omega)).1;unfold ql at this⊢;dsimp only at this;rw[this]
theorem CkE.new(b:F.length<=100000)(e:l.map (λx=>(x.id,x.lits))=F.mapIdx λi c=>(((i+1:Nat):Int),c))(hs:∀x∈l,x.side=0)(oM:E.id=F.length)(hp:E.pf=[]):CkE F l E (de F):=by
 have key:∀i,i<=F.length->(d8 F i).m=(F.take i).mapIdx (λi c=>(((i+1:Nat):Int),c))∧((d8 F i).done=true↔∃d∈F.take i,d=[]):=by
  intro i
  induction i with
  |zero=>intro _;simp[d8]
  |succ i h=>
   intro hi;obtain⟨h1,a⟩:=h (by omega);rw[CE F b hi,SN hi];refine⟨by dsimp only;rw[h1];simp only[List.mapIdx_append,List.mapIdx_cons,List.mapIdx_nil,RN,Tn (Ww hi),SF],?_⟩;dsimp only;rw[S4,a,R0,Td];simp only[RS,Sp,or_and_right,exists_or,exists_eq_left]
 obtain⟨h1,a⟩:=key F.length (RJ _);rw[R8]at h1 a;obtain⟨f,g2⟩:=CkG.new F b F.length (RJ _);refine{run:=by rw[hp];rfl,m:=h1.trans e.symm,last:=by rw[oM];exact g2,dn:=?_,g:=f,al:=λx hx=>by rw[hs x hx];decide,may:=by rw[hp];simp};have:l.map (·.lits)=F:=by
  have:=Ul (List.map Prod.snd) e;simpa[SJ,Uz,List.mapIdx_eq_zipIdx_map,List.map_zipIdx]using this
 refine a.trans ?_;rw[←this];simp
end
end Go.AX