/-
  Contracts: the document's checker: New.
  Contracts: the document's checker: may a clause be added?
  Contracts: the document's checker: Step.
  Contracts: the document's checker: Check.
-/
import Derived.Test.YtepodadinenmnaaGreatS14AxTxC
import Derived.Test.YtepodadinenmnaaGreatS14AxTtA
namespace Go.AX
open Go.Proofs
set_option linter.unusedSimpArgs false
theorem oD(L:List (List Int))(b:L.length<=100000){i:Nat}(h:i<L.length):d8 L (i+1)=⟨(d8 L i).m++[(((i+1:Nat):Int),L[i])],((i+1:Nat):Int),(d8 L i).done||decide (L[i].length=0)⟩:=by
 obtain⟨a,g2⟩:=CkG.new L b i (by omega);have hs:d8 L (i+1)=xt (d8 L i) L[i]:=bf xt _ L i (by omega);have c:aR ((d8 L i).last+1)=((i+1:Nat):Int):=by rw[g2,ap (by omega) (by omega)];omega
 rw[hs];unfold xt;rw[c];have:=(a.put (id:=((i+1:Nat):Int)) (l:=L[i]) (by omega) (by omega)).1;unfold ql at this⊢;simp only at this;rw[this]
theorem tF(L:List (List Int))(a:L.length<=100000):∀i,i<=L.length->(d8 L i).m.length=i
 |0,_=>rfl
 |i+1,h=>by rw[oD L a (show i<L.length by omega),RP,tF L a i (by omega)];rfl
def vI(v:Int)(L:List (List Int)):Ck:=if(eX v L).2≠0 then⟨[],0,false⟩else de L
set_option maxRecDepth 16000 in
theorem Ll(v:Int)(L:List (List Int))(g:L.length<=100000)(A:∀c∈L,c.length<=1000000):aB Tryz.prog 106 [.agg [ae v,.seq false 1 (L.map an)]] [] (λr g'=>g'=[]∧r=.pv (.tup [nc false (vI v L),ae (eX v L).2])):=by
 refine dV [] [.cell 2 _,.tmp 3] aE Tryz.func106 ?_;have x:=vC v L A;have a:vI v L=if(eX v L).2≠0 then⟨[],0,false⟩else de L:=rfl;generalize vI v L=D at*;generalize eX v L=S at*;obtain⟨F,E⟩:=S;simp only at a;simp;refine ai.intro x ?_
 by_cases c1:E=0
 rotate_left
 .rw[RI c1]at a;subst a;simp[c1,bu,bd,il]
 subst c1;rw[RH (by simp)]at a;subst a;obtain⟨K,e⟩:∃K:Nat->List (List PV),∀i,K i=(d8 L i).m.map bN:=⟨_,λ_=>rfl⟩;obtain⟨B,f⟩:∃B:Nat->Bool,∀i,B i=(d8 L i).done:=⟨_,λ_=>rfl⟩;have o:K 0=[]:=by rw[e];rfl
 have j:B 0=false:=by rw[f];rfl
 have s:∀i (h:i<L.length),K (i+1)=K i++[[ae ((i+1:Nat):Int),.seq false 1 (aa L[i])]]:=λi h=>by
  rw[e,e,oD L g h,Sb];rfl
 have n:∀i (h:i<L.length),B (i+1)=(B i||decide (L[i].length=0)):=λi h=>by rw[f,f,oD L g h]
 have q:∀i,i<=L.length->(K i).length=i:=λi h=>by rw[e,RR,tF L g i h]
 have p:K L.length=(de L).m.map bN:=e _;have l:B L.length=(de L).done:=f _;have t:(de L).last=L.length:=(CkG.new L g L.length (RJ _)).2;simp;refine av.intro (S:=λ(i:Nat)=>⟨[(1,.pv (.ptr 0 0)),(2,.pv (.ptr 1 0)),(6,.pv (.ptr 2 0)),(7,.pv (ae i))],[[.pv (ae v),.pv (.seq false 1 (L.map an))],[.pv (.lit (.slice none 0 0)),.pv (ae 0),.pv (BL false)],[.own true 2 (K i),.pv (ae i),.pv (BL (B i))]]⟩) (λi=>i<=L.length) (λi=>L.length -i) 0 ?_ (RW _) ?_
 .exact(af.nilCell (b:=2) (k:=0) (xs:=[.pv (.lit (.slice none 0 0)),.pv (ae 0),.pv (BL false)]) 2 true (by simp) (by simp)).trans (af.keep (by simp) (by simp[o,j]))
 intro i hi;have y:=q i hi
 by_cases d:i<L.length
 .have C:=dq i;have z:L[i]?=some L[i]:=RF d;have w:=s i d;have u:=n i d;simp[d,z,an,C];exact⟨by omega,i+1,by(try dsimp only);omega,by(try dsimp only);omega,af.keep (by simp) (by simp[w,u])⟩
 .have:i=L.length:=by omega
  subst this;simp[bu,bd,p,l,t]
def qv(c:Ck)(g:List Int)(k:Nat):List (Int×List (List Int)):=((List.range k).filter λj:Nat=>decide ((dD c).getD j 0=aR (-(g.headD 0)))).map λj:Nat=>((j:Int),bZ c g.tail)
def lT(c:Ck)(a:List (List Int))(i:Nat):List (Int×List (List Int)):=((a.take i).map λg=>qv c g (dD c).length).flatten
def zK(c:Ck)(a:List (List Int)):List (Int×List (List Int)):=lT c a a.length
theorem FF(c:Ck)(g:List Int)(k:Nat):qv c g (k+1)=if(dD c).getD k 0=aR (-(g.headD 0))then qv c g k++[((k:Int),bZ c g.tail)]else qv c g k:=by
 unfold qv;rw[Uq,S5,Sb,Sz,U0]
 by_cases e:(dD c).getD k 0=aR (-(g.headD 0))
 .rw[RI e,RI (Tk e)];rfl
 .rw[RH e,RH (by rw[Ur];exact e)];simp
theorem zL(c:Ck)(g:List Int)(k:Nat):(qv c g k).length<=k:=by
 unfold qv;rw[RR];exact Sn (Ta _ _) (Nat.le_of_eq Vx)
theorem tG(c:Ck)(a:List (List Int)){i:Nat}(h:i<a.length):lT c a (i+1)=lT c a i++qv c a[i] (dD c).length:=by
 unfold lT;rw[SA,RF h,Sb,UQ];simp
theorem qw(c:Ck)(a:List (List Int)):∀i,i<=a.length->(lT c a i).length<=i*(dD c).length
 |0,_=>by simp[lT]
 |i+1,h=>by
  rw[tG c a (by omega),RP,TD];have:=qw c a i (by omega);have:=zL c a[i] (dD c).length;omega
theorem FH{c:Ck}{a:List (List Int)}{i:Nat}{q:Int×List (List Int)}(h:q∈lT c a i):∃g∈a,q.2=bZ c g.tail:=by
 unfold lT at h;obtain⟨l,e,b⟩:=VC.1 h;obtain⟨g,d,rfl⟩:=RO.1 e;refine⟨g,(List.take_subset _ _) d,?_⟩;unfold qv at b;obtain⟨j,_,rfl⟩:=RO.1 b;rfl
def zM(e:Int×List (List Int)):List PV:=[ae e.1,.seq true 1 (e.2.map an)]
@[simp] theorem N9(r:Nat->Nat->PV)(l:List (Int×List (List Int))):kJ r (l.map zM)=l.map zH:=by
 rw[bW,SJ];apply TW;intro x _;simp[zH,zM]
def uu(c:Ck)(lits hints:List Int):Int:=
 if(rk lits (bZ c (j8 hints).1)).2≠23∨lits=[]then(rk lits (bZ c (j8 hints).1)).2
 else if(xp (bZ c (dD c)) lits (bZ c (j8 hints).1) (Ce (zK c (j8 hints).2))).2≠0 then 24 else 0
def IK:Sch:=
 let a:Sch:=.fork [(5,.take 6 (.take 7 (.take 8 (.take 9 (.take 10 .done)))))]
 let b:Sch:=.fork [(4,a)]
 let c:Sch:=.fork [(2,b)]
 let d:Sch:=.fork [(1,a)]
 let e:Sch:=.fork [(1,b),(4,d)]
 let f:Sch:=.fork [(1,c),(2,e)]
 .take 0 (.take 3 f)
def DJ:Sch:=
 let b:Sch:=.fork [(11,.take 12 .done)]
 let c:Sch:=.fork [(10,b)]
 let d:Sch:=.fork [(9,c)]
 let a:Sch:=.fork [(8,d)]
 let e:Sch:=.fork [(6,.take 7 a)]
 let f:Sch:=.fork [(2,a)]
 let g:Sch:=.fork [(2,e),(6,.take 7 f)]
 .take 0 (.take 1 (.take 3 (.take 4 (.take 5 g))))
def DL:Sch:=
 let g:Sch:=.fork [(9,.take 10 (.take 11 (.take 12 (.take 13 .done))))]
 let b:Sch:=.fork [(7,g)]
 let h:Sch:=.fork [(5,b)]
 let l:Sch:=.fork [(4,g)]
 let i:Sch:=.fork [(4,b),(7,l)]
 let m:Sch:=.fork [(4,h),(5,i)]
 let f:Sch:=.fork [(2,b)]
 let j:Sch:=.fork [(2,h),(5,f)]
 let k:Sch:=.fork [(2,i),(4,f)]
 let n:Sch:=.fork [(2,m),(4,j),(5,k)]
 let a:Sch:=.fork [(0,f)]
 let c:Sch:=.fork [(0,j),(5,a)]
 let d:Sch:=.fork [(0,k),(4,a)]
 let e:Sch:=.fork [(0,n),(4,c),(5,d)]
 .take 1 (.take 3 (.take 6 (.take 8 e)))
set_option maxRecDepth 16000 in
theorem IL(c:Ck)(L:CkOk c)(ad:c.m.length<=1000)(s:Stp)(hl:s.lits.length<=100000)(hh:s.hints.length<=1000):
 am Tryz.prog 199 [nc false c,.agg (gD s)] (λr=>r=.pv (ae (uu c s.lits s.hints))):=by
 refine oX [2,14,15] aE Tryz.func199 ?_;have v:=λg=>ur g s.hints (by omega);have j:uu c s.lits s.hints=if(rk s.lits (bZ c (j8 s.hints).1)).2≠23∨s.lits=[]then(rk s.lits (bZ c (j8 s.hints).1)).2
  else if(xp (bZ c (dD c)) s.lits (bZ c (j8 s.hints).1) (Ce (zK c (j8 s.hints).2))).2≠0 then 24 else 0:=rfl
 have t:=vv s.hints s.hints.length (RJ _);have u:=zx s.hints s.hints.length (RJ _);have B:j8 s.hints=eW s.hints s.hints.length:=rfl;rw[←B]at t u;generalize j8 s.hints=sp at*;obtain⟨ahead,a⟩:=sp;simp only at t u j v;obtain⟨ab,o⟩:=t;have A:=tv L ahead;have X:=tv L (dD c);have ag:(dD c).length=c.m.length:=by unfold dD;rw[RR]
 have Z:=(tE [] c ahead (by omega) (by omega)).mono (R':=λr _=>r=.pv (.seq true 1 ((bZ c ahead).map an))) λ_ _ h=>h.2;have P:=(tE [] c (dD c) (by omega) (by omega)).mono (R':=λr _=>r=.pv (.seq true 1 ((bZ c (dD c)).map an))) λ_ _ h=>h.2;have E:=zo s.lits (bZ c ahead) (by omega) (λx hx=>by have:=A.2 x hx;omega);generalize uu c s.lits s.hints=S at*;simp[gD];refine ai.introM (v _) ?_;rintro _ _ ⟨rfl,rfl⟩;simp;generalize ah:rk s.lits (bZ c ahead)=sh at*;obtain⟨ak,C⟩:=sh;simp only at j;refine aQ.meet IK ⟨[(2,.pv (.ptr 0 0)),(3,.pv (.ptr 1 0)),(5,.pv (.seq false 1 (aa ahead))),(6,.pv (.seq true 1 (a.map an))),(8,.pv (ae C))],[[.pv (.seq false 2 (c.m.map bN)),.pv (ae c.last),.pv (BL c.done)],[.pv (ae s.kind),.pv (ae s.id),.pv (.seq false 1 (aa s.lits)),.pv (.seq false 1 (aa s.hints))]]⟩ (by kernel_rfl) ?_ ?_
 .simp[IK];and_intros
  all_goals
   refine ai.introX (bC.pureM (p:=[]) (q:=[]) (zs:=[nc false c,.seq false 1 (aa ahead)]) Z (by simp) rfl (by simp[dW]) (by simp) (by simp) ?_);simp;refine ai.intro E ?_;simp;exact af.keep (by simp) rfl
 by_cases c1:C=23
 rotate_left
 .rw[RI (.inl c1)]at j;subst j;simp[c1]
 by_cases c2:s.lits=[]
 .rw[RI (.inr c2)]at j;subst j;simp[c1,c2]
 rw[RH (λe=>e.elim (λe=>e c1) c2)]at j;subst c1;have hI:=Lj c (by omega);simp[c2];refine ai.intro hI ?_;simp;obtain⟨W,D⟩:∃W:Nat->List (List PV),∀i,W i=(lT c a i).map zM:=⟨_,λ_=>rfl⟩;have J:W 0=[]:=by rw[D];rfl
 have K:W a.length=(zK c a).map zM:=D _;refine av.intro (S:=λ(i:Nat)=>⟨[(2,.pv (.ptr 0 0)),(3,.pv (.ptr 1 0)),(5,.pv (.seq false 1 (aa ahead))),(6,.pv (.seq true 1 (a.map an))),(9,.pv (.seq true 1 (aa (dD c)))),(10,.own true 2 (W i)),(11,.pv (ae i))],[[.pv (.seq false 2 (c.m.map bN)),.pv (ae c.last),.pv (BL c.done)],[.pv (ae s.kind),.pv (ae s.id),.pv (.seq false 1 (aa s.lits)),.pv (.seq false 1 (aa s.hints))]]⟩) (λi=>i<=a.length) (λi=>a.length -i) 0 ?_ (RW _) ?_
 .exact((af.frz (s:=9) (e:=1) (nw:=true) (rows:=aa (dD c)) (by simp)).trans (af.nilOwn (s:=10) 2 true (by simp))).trans (af.keep (by simp[J]) (by simp))
 intro i hi
 by_cases d:i<a.length
 .have hw:=dq i;have b:=zn a d;have U:a[i]?=some a[i]:=RF d;have R:=u _ (RK d);have y:=o _ (RK d);have N:=tG c a d;have M:=qw c a i (by omega);generalize a[i]=g at*;obtain⟨x,l,rfl⟩:∃x l,g=x::l:=by
   cases g with
   |nil=>exact absurd rfl R
   |cons x c=>exact⟨x,c,rfl⟩
  simp only[Sa]at y;have T:i*(dD c).length<=1000*1000:=Wn (by omega) (by omega);have O:=(tE [] c l (by omega) (by omega)).mono (R':=λr _=>r=.pv (.seq true 1 ((bZ c l).map an))) λ_ _ h=>h.2;obtain⟨V,w⟩:∃V:Nat->List (List PV),∀k,V k=(lT c a i++qv c (x::l) k).map zM:=⟨_,λ_=>rfl⟩;have F:W i=V 0:=by rw[w,D];simp[qv]
  have G:V (dD c).length=W (i+1):=by rw[w,D,N]
  have I:∀k (f:k<(dD c).length),V (k+1)=if(dD c)[k]=aR (-x)then V k++[zM ((k:Int),bZ c l)]else V k:=λk f=>by
   rw[w,w,FF];have Q:(dD c).getD k 0=(dD c)[k]:=by rw[RG,RF f];rfl
   rw[Q];show List.map zM (_++(if(dD c)[k]=aR (-x)then _ else _))=_;split
   .simp
   .rfl
  have H:∀k,k<=(dD c).length->(V k).length<=1010000:=λk hk=>by
   rw[w,RR,RP];have:=zL c (x::l) k;omega
  simp[d,U];refine av.intro (S:=λ(k:Nat)=>⟨[(2,.pv (.ptr 0 0)),(3,.pv (.ptr 1 0)),(5,.pv (.seq false 1 (aa ahead))),(6,.pv (.seq true 1 (a.map an))),(9,.pv (.seq true 1 (aa (dD c)))),(10,.own true 2 (V k)),(11,.pv (ae i)),(12,.pv (ae k))],[[.pv (.seq false 2 (c.m.map bN)),.pv (ae c.last),.pv (BL c.done)],[.pv (ae s.kind),.pv (ae s.id),.pv (.seq false 1 (aa s.lits)),.pv (.seq false 1 (aa s.hints))]]⟩) (λk=>k<=(dD c).length) (λk=>(dD c).length -k) 0 ?_ (RW _) ?_
  .exact af.keep (by simp[F]) (by simp)
  intro k hk;have aj:=H k hk
  by_cases f:k<(dD c).length
  .have hwk:=dq k;have z:(dD c)[k]?=some (dD c)[k]:=RF f;have n:=I k f
   by_cases e:(dD c)[k]=aR (-x)
   .rw[RI e]at n;simp[f,d,z,b,e];have Y:(List.take (l.length+1) (aa (x::l))).tail=aa l:=by
     simp[aa];exact SK (by simp)
    refine aQ.one DJ (by kernel_rfl) ?_;simp[DJ,f,d,b,Y];refine⟨⟨by omega,?_⟩,⟨by omega,?_⟩⟩
    all_goals
     refine ai.introX (bC.pureM (p:=[]) (q:=[]) (zs:=[nc false c,.seq false 1 (aa l)]) O (by simp) rfl (by simp[dW]) (by simp) (by simp) ?_);simp[f,d,b];exact⟨by omega,k+1,by(try dsimp only);omega,by(try dsimp only);omega,af.keep (by simp[hwk,n,zM]) (by simp)⟩
   .rw[RH e]at n;simp[f,d,z,b,e];exact⟨k+1,by(try dsimp only);omega,by(try dsimp only);omega,af.keep (by simp[hwk,n]) (by simp)⟩
  .have:k=(dD c).length:=by omega
   subst this;simp;exact⟨i+1,by(try dsimp only);omega,by(try dsimp only);omega,af.keep (by simp[hw,G]) (by simp)⟩
 .have:i=a.length:=by omega
  subst this;have M:=qw c a a.length (RJ _);have T:a.length*(dD c).length<=1000*1000:=Wn (by omega) (by omega);have hR:=zI (bZ c (dD c)) s.lits (bZ c ahead) (zK c a) (by omega) X.2 hl (by omega) A.2 (λq hq=>?_) (by show(lT c a a.length).length<=_;omega);rotate_left
  .obtain⟨g,Q,e⟩:=FH hq;have y:=o g Q;have:=tv L g.tail;rw[e];refine⟨?_,this.2⟩;rw[this.1,List.length_tail];omega
  simp[K];refine aQ.meet DL ⟨[(8,.pv (ae (xp (bZ c (dD c)) s.lits (bZ c ahead) (Ce (zK c a))).2))],[]⟩ (by kernel_rfl) ?_ ?_
  .simp[DL];and_intros
   all_goals
    refine ai.introX (bC.pureM (p:=[]) (q:=[]) (zs:=[nc false c,.seq true 1 (aa (dD c))]) (P.args (by simp[bd,bu,qm])) (by simp) rfl (by simp[dW]) (by simp) (by simp) ?_);simp
    try and_intros
    all_goals
     refine ai.introX (bC.pureM (p:=[]) (q:=[]) (zs:=[nc false c,.seq false 1 (aa ahead)]) Z (by simp) rfl (by simp[dW]) (by simp) (by simp) ?_);simp;refine ai.intro hR ?_;simp;exact af.to (by simp) rfl (by simp) (by simp) (by simp)
  .by_cases d:(xp (bZ c (dD c)) s.lits (bZ c ahead) (Ce (zK c a))).2=0
   .rw[RH (by simp[d])]at j;subst j;simp[d]
   .rw[RI d]at j;subst j;simp[d]
def vJ(c:Ck)(s:Stp):Ck×Int:=
 if iR s=false then(c,2)
 else if s.kind=2 then(if(fv c.m s.hints).2≠0 then(c,(fv c.m s.hints).2)else(⟨(fv c.m s.hints).1,c.last,c.done⟩,0))
 else if s.id<=c.last then(c,21)else if fl s.lits=true then(c,11)else if mL c s.hints=false then(c,20)
 else if uu c s.lits s.hints≠0 then(c,uu c s.lits s.hints)
 else(⟨c.m++[(s.id,s.lits)],s.id,c.done||decide (s.lits.length=0)⟩,0)
set_option maxRecDepth 16000 in
theorem IM(c:Ck)(l:CkOk c)(g:c.m.length<=1000)(s:Stp)(i:s.lits.length<=100000)(n:s.hints.length<=1000):
 aB Tryz.prog 118 [nc false c,.agg (gD s)] [] (λr g'=>g'=[]∧r=.pv (.tup [nc false (vJ c s).1,ae (vJ c s).2])):=by
 refine dV [18] [.cell 4 _,.tmp 5] aE Tryz.func118 ?_;have o:=zJ s i (by omega);have j:=(II c s.hints (by omega) (by omega)).mono (R':=λr _=>r=.pv (.tup [nc false ⟨(fv c.m s.hints).1,c.last,c.done⟩,ae (fv c.m s.hints).2])) λ_ _ h=>h.2;have u:=oh s.lits (by omega);have v:=FE c s.hints (by omega) (by omega);have w:=IL c l g s i n;have a:vJ c s=if iR s=false then(c,2)
  else if s.kind=2 then(if(fv c.m s.hints).2≠0 then(c,(fv c.m s.hints).2)else(⟨(fv c.m s.hints).1,c.last,c.done⟩,0))
  else if s.id<=c.last then(c,21)else if fl s.lits=true then(c,11)else if mL c s.hints=false then(c,20)
  else if uu c s.lits s.hints≠0 then(c,uu c s.lits s.hints)
  else(⟨c.m++[(s.id,s.lits)],s.id,c.done||decide (s.lits.length=0)⟩,0):=rfl
 generalize vJ c s=S at*;generalize fv c.m s.hints=D at*;obtain⟨x,k⟩:=D;simp only at a j;generalize iR s=M at*;generalize fl s.lits=T at*;generalize mL c s.hints=H at*;generalize uu c s.lits s.hints=Sh at*;simp[gD];refine ai.intro o ?_;cases M
 .rw[RI rfl]at a;subst a;simp[bu,bd]
 rw[RH (by simp)]at a;simp
 by_cases c2:s.kind=2
 .rw[RI c2]at a;simp[c2];refine ai.introX (bC.pureM (p:=[]) (q:=[]) (zs:=[nc false c,.seq false 1 (aa s.hints)]) j (by simp) rfl (by simp[dW]) (by simp) (by simp) ?_)
  by_cases e:k=0
  .rw[RH (by simp[e])]at a;subst a e;simp[bu,bd]
  .rw[RI e]at a;subst a;simp[e,bu,bd]
 rw[RH c2]at a
 by_cases c3:s.id<=c.last
 .rw[RI c3]at a;subst a;have d:¬c.last<s.id:=by omega
  simp[c2,c3,d,bu,bd]
 rw[RH c3]at a;have d:c.last<s.id:=by omega
 simp[c2,c3,d];refine ai.intro u ?_;cases T
 rotate_left
 .rw[RI rfl]at a;subst a;simp[bu,bd]
 rw[RH (by simp)]at a;simp;refine ai.intro v ?_;cases H
 .rw[RI rfl]at a;subst a;simp[bu,bd]
 rw[RH (by simp)]at a;simp;refine ai.intro w ?_
 by_cases c6:Sh=0
 rotate_left
 .rw[RI c6]at a;subst a;simp[c6,bu,bd]
 rw[RH (by simp[c6])]at a;subst a;simp[c6];have b:(c.m.length+1)*16<=140737488355328:=by omega
 refine aQ.tab [] ⟨[some (58,.own true 2 []),some (59,.pv (.ptr 0 0)),some (60,.pv (.seq false 2 (c.m.map bN))),some (61,.own true 2 (c.m.map bN)),some (62,.pv (.ptr 1 1)),some (63,.pv (ae s.id)),some (64,.pv (.ptr 1 2)),some (65,.pv (.seq false 1 (aa s.lits))),some (66,.pv (.agg [ae s.id,.seq false 1 (aa s.lits)])),some (67,.own true 2 [[ae s.id,.seq false 1 (aa s.lits)]]),some (68,.own true 2 (c.m.map bN++[[ae s.id,.seq false 1 (aa s.lits)]])),some (69,.pv (.ptr 0 0)),none],[(2,.pv (.ptr 0 0)),(3,.pv (.ptr 1 0)),(4,.pv (.ptr 2 0))],[[],[],[1],[0,2],[],[4],[],[6],[5,7],[8],[3,9],[],[10,11]],[12],[[0],[0],[0],[0],[0],[0],[0],[0],[0],[0],[0],[0],[0]],[(3,58),(10,61),(12,68)],λ|0=>[[.pv (.seq false 2 (c.m.map bN)),.pv (ae c.last),.pv (BL c.done)],[.pv (ae s.kind),.pv (ae s.id),.pv (.seq false 1 (aa s.lits)),.pv (.seq false 1 (aa s.hints))],[.pv (.lit (.slice none 0 0)),.pv (.lit (.int .i64 0)),.pv (.lit (.bool false))]]|_=>[[.own true 2 (c.m.map bN++[[ae s.id,.seq false 1 (aa s.lits)]]),.pv (ae c.last),.pv (BL c.done)],[.pv (ae s.kind),.pv (ae s.id),.pv (.seq false 1 (aa s.lits)),.pv (.seq false 1 (aa s.hints))],[.pv (.lit (.slice none 0 0)),.pv (.lit (.int .i64 0)),.pv (.lit (.bool false))]]⟩ ⟨[(2,.pv (.ptr 0 0)),(3,.pv (.ptr 1 0)),(4,.pv (.ptr 2 0))],[[.own true 2 (c.m.map bN++[[ae s.id,.seq false 1 (aa s.lits)]]),.pv (ae c.last),.pv (BL c.done)],[.pv (ae s.kind),.pv (ae s.id),.pv (.seq false 1 (aa s.lits)),.pv (.seq false 1 (aa s.hints))],[.pv (.lit (.slice none 0 0)),.pv (.lit (.int .i64 0)),.pv (.lit (.bool false))]]⟩ (by kernel_rfl) (by simp[aT]) rfl ?_ (λt h1 f=>?_) ?_
 .simp only[Tb.steps,Gi,Tb.lvA,Tb.dpA,y8,pm,Tp,TH,cz,dY,lN,gZ,eO,eM,GS,gM,im,SC,Tw,Ui,U3,Uw,Vl,Vk,TC,Ux,Ss,S8];and_intros
  all_goals first|trivial|(intro t h1 f;simp only[aT,Sq,Sj]at h1;simp[b,h1,f,Tb.postL,Tb.wth,qP,pm,aT,aZ]<;>and_intros<;>first|omega|(intro e;simp[b,e]))
 .simp only[aT,Sq,Sj]at h1 f;simp[Gj]at f;exact af.keep (by simp[h1,f]) rfl
 simp[bu,bd,bN]
structure CkM (n:Nat) (c:Ck):Prop where
  n:c.m.length<=n
  w:∀q∈c.m,Gg q.1
  l:∀q∈c.m,q.2.length<=100000
theorem CkM.ok{n:Nat}{c:Ck}(h:CkM n c)(hn:n<=100000):CkOk c:=⟨Sn h.n hn,h.w,h.l⟩
end Go.AX