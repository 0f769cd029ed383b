/-
  The program's checker takes all that an engine has learnt (plain law).
-/
import Derived.Test.YtepodadinenmnaaGreatS14AxEhC
import Derived.Test.YtepodadinenmnaaGreatS14AxTtA
namespace Go.AX
open Go.Proofs
set_option linter.unusedSimpArgs false
def tg:Ck->List Stp->Ck->Prop
 |c,[],d=>c=d
 |c,s::r,d=>(jf c s).2=0∧tg (jf c s).1 r d
theorem tg.snoc:∀{l:List Stp}{c d:Ck}{s:Stp},tg c l d->(jf d s).2=0->tg c (l++[s]) (jf d s).1
 |[],_,_,_,h,a=>by cases h;exact⟨a,rfl⟩
 |_::l,_,_,_,h,a=>⟨h.1,tg.snoc (l:=l) h.2 a⟩
structure CkE (F:List (List Int)) (l:List Rc) (E:ES) (c:Ck):Prop where
  run:tg (Ec F) E.pf c
  m:c.m=l.map λx=>(x.id,x.lits)
  last:c.last=E.id
  dn:c.done=true↔∃x∈l,x.lits=[]
  g:CkG c
  al:∀x∈l,x.side≠2
  may:∀s∈E.pf,jr s=true
theorem wR:∀(l:List Rc)(p:Nat),(∀x∈l,x.side≠2)->(bg p l).map (λy=>(y.id,y.lits))=l.map λx=>(x.id,x.lits)
 |[],_,_=>rfl
 |x::l,p,h=>by
  rw[bg,Qa (h x Qy),Qw,Qw,wR l _ λy hy=>h y (Qr _ hy)]
section
variable {n r s : Nat} {F : List (List Int)} {l : List Rc} {E : ES} {c : Ck}
theorem CkE.mem(K:CkE F l E c){y:Ro}(hy:y∈bg 0 l):(y.id,y.lits)∈c.m:=by
 rw[K.m,←wR l 0 K.al];exact Qk.2 ⟨y,hy,rfl⟩
theorem CkE.over(K:CkE F l E c)(h:EI n F r s l E):c.done=E.over:=by
 have h1:(∃x∈l,x.lits=[])↔∃x∈bg 0 l,x.lits=[]:=by
  have e:=wR l 0 K.al;constructor
  .rintro⟨x,hx,b⟩;have:(x.id,x.lits)∈(bg 0 l).map λy=>(y.id,y.lits):=by rw[e];exact Qk.2 ⟨x,hx,rfl⟩
   obtain⟨y,hy,a⟩:=Qk.1 this;exact⟨y,hy,by rw[←b];exact(Prod.mk.inj a).2⟩
  .rintro⟨y,hy,b⟩;have:(y.id,y.lits)∈l.map λx=>(x.id,x.lits):=by rw[←e];exact Qk.2 ⟨y,hy,rfl⟩
   obtain⟨x,hx,a⟩:=Qk.1 this;exact⟨x,hx,by rw[←b];exact(Prod.mk.inj a).2⟩
 rw[UL,K.dn,h.ovr,h1]
theorem CkE.res(K:CkE F l E c)(h:EI n F r s l E)(O:0<=E.con)(oi:E.id+1<=10000000)(q:HS)(p:List Bool)(k:Int):
 CkE F (l++[⟨E.id+1,1,aI E⟩]) (p6 E q p k) (nW c (E.id+1) (aI E)):=by
 have R:=h.res O;have P:=h.n9;have H:=h.idz;have f:∀y∈aI E,cK y=true:=λy hy=>V.okL_chk (v:=n) (by omega) (R.chk y hy);have j:∀z∈eW E,∃y∈bg 0 l,je E.A z=y.id∧au E.A z=y.lits∧1<=y.id∧lk c.m y.id=some y.lits:=λz hz=>by
  obtain⟨y,hy,rfl⟩:=R.hin.2 z hz;obtain⟨I,J⟩:=h.ari.at hy;exact⟨y,hy,J,I,h.ari.ids y hy,Ee.lk K.g.rs (K.mem hy)⟩
 have o:iK (aI E)=false:=by
  unfold iK;rw[Sa];intro x hx;simp only[ku,Qj,Qs];rintro⟨⟨_,_⟩,_,B⟩;have h1:=R.neg x hx;have i:=R.neg (-x) B;rw[R2]at i;exact h.one (f x hx) ⟨i,h1⟩
 have d:∀z∈(eW E).map (je E.A),1<=z∧z<=10000000∧(lk c.m z).isSome=true:=λz hz=>by
  obtain⟨u,Q,rfl⟩:=Qk.1 hz;obtain⟨y,hy,t,_,M,w⟩:=j u Q;have:=K.g.hi _ (K.mem hy);rw[K.last]at this;rw[t,w];exact⟨M,by dsimp only at this;omega,rfl⟩
 have C:cJ c ((eW E).map (je E.A))=(eW E).map (au E.A):=by
  unfold cJ;rw[Ra];refine Sw λz hz=>?_;obtain⟨y,hy,t,L,_,w⟩:=j z hz;simp only[Function.comp,t,w,L,QF]
 have b:jr ⟨1,E.id+1,aI E,(eW E).map (je E.A)⟩=true:=by
  unfold jr;rw[Qb rfl];have h1:fj (aI E) 100000=0:=u6 (by have:=R.len;omega) f R.nd;have i:mc ((eW E).map (je E.A)) (-10000000)=true:=by
   unfold mc;rw[Sn (by rw[Ql];have:=R.hle;omega),SY];rw[QZ,Sa];intro z hz;have:=d z hz;simp only[sq,Rq,Qs];omega
  simp only[h1,i,decide_true,Bool.and_true,Qj,Qs];omega
 have G:gU c ((eW E).map (je E.A))=true:=by
  unfold gU;rw[QR];intro z hz;obtain⟨h1,i,B⟩:=d z hz;have:AM z=z:=by
   unfold AM;rw[aq (by omega) (by omega),Qa (by omega)]
  rw[this];exact B
 have D:sB c (aI E) ((eW E).map (je E.A))=0:=by
  have a:ma (aI E)=0:=by
   unfold ma GI;rw[Qa,Qa (by rw[o];simp)];rw[SP,Sa];intro x hx;have ho:=f x hx;have T:=(aW x).1 ho;have:¬aV x<0:=by
    unfold aV du;rw[Qb ho];split<;>omega
   simpa using this
  have S:(qE (aI E) ((eW E).map (au E.A))).2=0:=by
   unfold qE;rw[Qb a];exact R.shw
  unfold sB;rw[A3 λx hx=>by have:=d x hx;omega];dsimp only;rw[C,S];simp
 have a:=Ef (s:=⟨1,E.id+1,aI E,(eW E).map (je E.A)⟩) b rfl (by rw[K.last];dsimp only;omega) o G D;dsimp only at a;obtain⟨N,g2⟩:=K.g.put (id:=E.id+1) (l:=aI E) (by rw[K.last];omega) (by omega);exact{
  run:=by
   have:=K.run.snoc (s:=⟨1,E.id+1,aI E,(eW E).map (je E.A)⟩) (by rw[a]);rw[a]at this;exact this
  m:=by rw[N,K.m];simp
  last:=rfl
  dn:=by
   show(c.done||decide ((aI E).length=0))=true↔_;rw[Rq,K.dn,Qs,Rj];constructor
   .rintro(⟨x,hx,e⟩|e)
    .exact⟨x,by simp[hx],e⟩
    .exact⟨⟨E.id+1,1,aI E⟩,by simp,e⟩
   .rintro⟨x,hx,e⟩;rcases Qn.1 hx with hx|hx
    .exact .inl ⟨x,hx,e⟩
    .simp at hx;subst hx;exact .inr e
  g:=g2
  al:=λx hx=>by
   rcases Qn.1 hx with hx|hx
   .exact K.al x hx
   .simp at hx;subst hx;simp
  may:=λs hs=>by
   rcases Qn.1 hs with hs|hs
   .exact K.may s hs
   .rw[QI]at hs;subst hs;exact b}
theorem Bt(L:List (List Int))(b:L.length<=100000){i:Nat}(h:i<L.length):dg L (i+1)=⟨(dg L i).m++[(((i+1:Nat):Int),L[i])],((i+1:Nat):Int),(dg L i).done||decide (L[i].length=0)⟩:=by
 have e:dg L (i+1)=tE (dg L i) L[i]:=by
  unfold dg;rw[Rf h,UB];rfl
 obtain⟨a,g2⟩:=CkG.new L b i (by omega);have c:aX ((dg L i).last+1)=((i+1:Nat):Int):=by rw[g2,aq (by omega) (by omega)];omega
 rw[e];unfold tE;rw[c];have:=(a.put (id:=((i+1:Nat):Int)) (l:=L[i]) (by omega) (by omega)).1;unfold nW at this⊢;dsimp only at this;rw[this]
theorem CkE.new(b:F.length<=100000)(e:l.map (λx=>(x.id,x.lits))=F.mapIdx λi c=>(((i+1:Nat):Int),c))(hs:∀x∈l,x.side=0)(oi:E.id=F.length)(hp:E.pf=[]):CkE F l E (Ec F):=by
 have key:∀i,i<=F.length->(dg F i).m=(F.take i).mapIdx (λi c=>(((i+1:Nat):Int),c))∧((dg F i).done=true↔∃d∈F.take i,d=[]):=by
  intro i
  induction i with
  |zero=>intro _;simp[dg]
  |succ i h=>
   intro hi;obtain⟨h1,a⟩:=h (by omega);rw[Bt F b hi,Rf hi];refine⟨by dsimp only;rw[h1];simp only[List.mapIdx_append,List.mapIdx_cons,List.mapIdx_nil,Qg,Rz (Nat.le_of_lt hi),Q2],?_⟩;dsimp only;rw[Rq,a,Qs,Rj];simp only[Qn,QI,or_and_right,exists_or,exists_eq_left]
 obtain⟨h1,a⟩:=key F.length (Qc _);rw[QO]at h1 a;obtain⟨f,g2⟩:=CkG.new F b F.length (Qc _);refine{run:=by rw[hp];rfl,m:=h1.trans e.symm,last:=by rw[oi];exact g2,dn:=?_,g:=f,al:=λx hx=>by rw[hs x hx];decide,may:=by rw[hp];simp};have:l.map (·.lits)=F:=by
  have:=SK (List.map Prod.snd) e;simpa[Ra,Tc,List.mapIdx_eq_zipIdx_map,List.map_zipIdx]using this
 refine a.trans ?_;rw[←this];simp
end
end Go.AX