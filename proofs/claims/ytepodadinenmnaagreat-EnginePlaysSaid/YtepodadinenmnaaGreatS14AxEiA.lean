/-
  The program's checker takes all that an engine has learnt (plain law).
-/
import Derived.Test.YtepodadinenmnaaGreatS14AxEhC
import Derived.Test.YtepodadinenmnaaGreatS14AxTtA
namespace Go.AX
open Go.Proofs
set_option linter.unusedSimpArgs false
def iU:Ck->List Stp->Ck->Prop
 |c,[],d=>c=d
 |c,s::r,d=>(eW c s).2=0∧iU (eW c s).1 r d
theorem iU.snoc:∀{l:List Stp}{c d:Ck}{s:Stp},iU c l d->(eW d s).2=0->iU c (l++[s]) (eW d s).1
 |[],_,_,_,h,a=>by cases h;exact⟨a,rfl⟩
 |_::l,_,_,_,h,a=>⟨h.1,iU.snoc (l:=l) h.2 a⟩
structure CkE (F:List (List Int)) (l:List Rc) (E:ES) (c:Ck):Prop where
  run:iU (c9 F) E.pf c
  m:c.m=l.map λx=>(x.id,x.lits)
  last:c.last=E.id
  dn:c.done=true↔∃x∈l,x.lits=[]
  g:CkG c
  al:∀x∈l,x.side≠2
  may:∀s∈E.pf,iO s=true
theorem ng:∀(l:List Rc)(p:Nat),(∀x∈l,x.side≠2)->(bn p l).map (λy=>(y.id,y.lits))=l.map λx=>(x.id,x.lits)
 |[],_,_=>rfl
 |x::l,p,h=>by
  rw[bn,Rw (h x RR),RU,RU,ng l _ λy hy=>h y (RO _ hy)]
section
variable {n r s : Nat} {F : List (List Int)} {l : List Rc} {E : ES} {c : Ck}
theorem CkE.mem(K:CkE F l E c){y:Ro}(hy:y∈bn 0 l):(y.id,y.lits)∈c.m:=by
 rw[K.m,←ng l 0 K.al];exact RE.2 ⟨y,hy,rfl⟩
theorem CkE.over(K:CkE F l E c)(h:EI n F r s l E):c.done=E.over:=by
 have h1:(∃x∈l,x.lits=[])↔∃x∈bn 0 l,x.lits=[]:=by
  have e:=ng l 0 K.al;constructor
  .rintro⟨x,hx,b⟩;have:(x.id,x.lits)∈(bn 0 l).map λy=>(y.id,y.lits):=by rw[e];exact RE.2 ⟨x,hx,rfl⟩
   obtain⟨y,hy,a⟩:=RE.1 this;exact⟨y,hy,by rw[←b];exact(Wm a).2⟩
  .rintro⟨y,hy,b⟩;have:(y.id,y.lits)∈l.map λx=>(x.id,x.lits):=by rw[←e];exact RE.2 ⟨y,hy,rfl⟩
   obtain⟨x,hx,a⟩:=RE.1 this;exact⟨x,hx,by rw[←b];exact(Wm a).2⟩
 rw[Vz,K.dn,h.ovr,h1]
theorem CkE.res(K:CkE F l E c)(h:EI n F r s l E)(O:0<=E.con)(oI:E.id+1<=10000000)(q:HS)(p:List Bool)(k:Int):
 CkE F (l++[⟨E.id+1,1,az E⟩]) (nl E q p k) (qg c (E.id+1) (az E)):=by
 have R:=h.res O;have P:=h.n9;have H:=h.idz;have f:∀y∈az E,cE y=true:=λy hy=>V.okL_chk (v:=n) (by omega) (R.chk y hy);have j:∀z∈eZ E,∃y∈bn 0 l,iW E.A z=y.id∧av E.A z=y.lits∧1<=y.id∧lk c.m y.id=some y.lits:=λz hz=>by
  obtain⟨y,hy,rfl⟩:=R.hin.2 z hz;obtain⟨I,J⟩:=h.ari.at hy;exact⟨y,hy,J,I,h.ari.ids y hy,xn.lk K.g.rs (K.mem hy)⟩
 have o:fh (az E)=false:=by
  unfold fh;rw[Tp];intro x hx;simp only[d4,RG,RP];rintro⟨⟨_,_⟩,_,B⟩;have h1:=R.neg x hx;have i:=R.neg (-x) B;rw[Tz]at i;exact h.one (f x hx) ⟨i,h1⟩
 have d:∀z∈(eZ E).map (iW E.A),1<=z∧z<=10000000∧(lk c.m z).isSome=true:=λz hz=>by
  obtain⟨u,Q,rfl⟩:=RE.1 hz;obtain⟨y,hy,t,_,M,w⟩:=j u Q;have:=K.g.hi _ (K.mem hy);rw[K.last]at this;rw[t,w];exact⟨M,by dsimp only at this;omega,rfl⟩
 have C:bY c ((eZ E).map (iW E.A))=(eZ E).map (av E.A):=by
  unfold bY;rw[Sz];refine TT λz hz=>?_;obtain⟨y,hy,t,L,_,w⟩:=j z hz;simp only[Function.comp,t,w,L,Sa]
 have b:iO ⟨1,E.id+1,az E,(eZ E).map (iW E.A)⟩=true:=by
  unfold iO;rw[Rx rfl];have h1:fp (az E) 100000=0:=vR (by have:=R.len;omega) f R.nd;have i:jw ((eZ E).map (iW E.A)) (-10000000)=true:=by
   unfold jw;rw[S9 (by rw[RH];have:=R.hle;omega),Um];rw[Sk,Tp];intro z hz;have:=d z hz;simp only[xe,SN,RP];omega
  simp only[h1,i,decide_true,Bool.and_true,RG,RP];omega
 have G:jH c ((eZ E).map (iW E.A))=true:=by
  unfold jH;rw[R3];intro z hz;obtain⟨h1,i,B⟩:=d z hz;have:BP z=z:=by
   unfold BP;rw[ap (by omega) (by omega),Rw (by omega)]
  rw[this];exact B
 have D:xk c (az E) ((eZ E).map (iW E.A))=0:=by
  have a:lY (az E)=0:=by
   unfold lY Ia;rw[Rw,Rw (by rw[o];simp)];rw[Uj,Tp];intro x hx;have ho:=f x hx;have T:=(aY x).1 ho;have:¬aW x<0:=by
    unfold aW dg;rw[Rx ho];split<;>omega
   simpa using this
  have S:(ra (az E) ((eZ E).map (av E.A))).2=0:=by
   unfold ra;rw[Rx a];exact R.shw
  unfold xk;rw[B2 λx hx=>by have:=d x hx;omega];dsimp only;rw[C,S];simp
 have a:=Fs (s:=⟨1,E.id+1,az E,(eZ E).map (iW E.A)⟩) b rfl (by rw[K.last];dsimp only;omega) o G D;dsimp only at a;obtain⟨N,g2⟩:=K.g.put (id:=E.id+1) (l:=az E) (by rw[K.last];omega) (by omega);exact{
  run:=by
   have:=K.run.snoc (s:=⟨1,E.id+1,az E,(eZ E).map (iW E.A)⟩) (by rw[a]);rw[a]at this;exact this
  m:=by rw[N,K.m];simp
  last:=rfl
  dn:=by
   show(c.done||decide ((az E).length=0))=true↔_;rw[SN,K.dn,RP,SY];constructor
   .rintro(⟨x,hx,e⟩|e)
    .exact⟨x,by simp[hx],e⟩
    .exact⟨⟨E.id+1,1,az E⟩,by simp,e⟩
   .rintro⟨x,hx,e⟩;rcases RI.1 hx with hx|hx
    .exact .inl ⟨x,hx,e⟩
    .simp at hx;subst hx;exact .inr e
  g:=g2
  al:=λx hx=>by
   rcases RI.1 hx with hx|hx
   .exact K.al x hx
   .simp at hx;subst hx;simp
  may:=λs hs=>by
   rcases RI.1 hs with hs|hs
   .exact K.may s hs
   .rw[Sc]at hs;subst hs;exact b}
theorem Cv(L:List (List Int))(b:L.length<=100000){i:Nat}(h:i<L.length):d5 L (i+1)=⟨(d5 L i).m++[(((i+1:Nat):Int),L[i])],((i+1:Nat):Int),(d5 L i).done||decide (L[i].length=0)⟩:=by
 have e:d5 L (i+1)=xl (d5 L i) L[i]:=by
  unfold d5;rw[SC h,Vk];rfl
 obtain⟨a,g2⟩:=CkG.new L b i (by omega);have c:aS ((d5 L i).last+1)=((i+1:Nat):Int):=by rw[g2,ap (by omega) (by omega)];omega
 rw[e];unfold xl;rw[c];have:=(a.put (id:=((i+1:Nat):Int)) (l:=L[i]) (by omega) (by omega)).1;unfold qg at this⊢;dsimp only at this;rw[this]
theorem CkE.new(b:F.length<=100000)(e:l.map (λx=>(x.id,x.lits))=F.mapIdx λi c=>(((i+1:Nat):Int),c))(hs:∀x∈l,x.side=0)(oI:E.id=F.length)(hp:E.pf=[]):CkE F l E (c9 F):=by
 have key:∀i,i<=F.length->(d5 F i).m=(F.take i).mapIdx (λi c=>(((i+1:Nat):Int),c))∧((d5 F i).done=true↔∃d∈F.take i,d=[]):=by
  intro i
  induction i with
  |zero=>intro _;simp[d5]
  |succ i h=>
   intro hi;obtain⟨h1,a⟩:=h (by omega);rw[Cv F b hi,SC hi];refine⟨by dsimp only;rw[h1];simp only[List.mapIdx_append,List.mapIdx_cons,List.mapIdx_nil,RD,Tc (Wl hi),Sv],?_⟩;dsimp only;rw[SN,a,RP,SY];simp only[RI,Sc,or_and_right,exists_or,exists_eq_left]
 obtain⟨h1,a⟩:=key F.length (Ry _);rw[RY]at h1 a;obtain⟨f,g2⟩:=CkG.new F b F.length (Ry _);refine{run:=by rw[hp];rfl,m:=h1.trans e.symm,last:=by rw[oI];exact g2,dn:=?_,g:=f,al:=λx hx=>by rw[hs x hx];decide,may:=by rw[hp];simp};have:l.map (·.lits)=F:=by
  have:=Ua (List.map Prod.snd) e;simpa[Sz,Uo,List.mapIdx_eq_zipIdx_map,List.map_zipIdx]using this
 refine a.trans ?_;rw[←this];simp
end
end Go.AX