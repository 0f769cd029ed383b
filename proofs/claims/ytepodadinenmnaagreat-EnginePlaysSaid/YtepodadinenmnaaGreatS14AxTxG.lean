/-
  Contracts: the document's checker: New.
  Contracts: the document's checker: may a clause be added?
  Contracts: the document's checker: Step.
  Contracts: the document's checker: Check.
-/
import Derived.Test.YtepodadinenmnaaGreatS14AxTxC
import Derived.Test.YtepodadinenmnaaGreatS14AxTtA
namespace Go.AX
open Go.Proofs
set_option linter.unusedSimpArgs false
theorem oz(L:List (List Int))(b:L.length<=100000){i:Nat}(h:i<L.length):d5 L (i+1)=⟨(d5 L i).m++[(((i+1:Nat):Int),L[i])],((i+1:Nat):Int),(d5 L i).done||decide (L[i].length=0)⟩:=by
 obtain⟨a,g2⟩:=CkG.new L b i (by omega);have hs:d5 L (i+1)=xl (d5 L i) L[i]:=bf xl _ L i (by omega);have c:aS ((d5 L i).last+1)=((i+1:Nat):Int):=by rw[g2,ap (by omega) (by omega)];omega
 rw[hs];unfold xl;rw[c];have:=(a.put (id:=((i+1:Nat):Int)) (l:=L[i]) (by omega) (by omega)).1;unfold qg at this⊢;simp only at this;rw[this]
theorem tt(L:List (List Int))(a:L.length<=100000):∀i,i<=L.length->(d5 L i).m.length=i
 |0,_=>rfl
 |i+1,h=>by rw[oz L a (show i<L.length by omega),RF,tt L a i (by omega)];rfl
def vE(v:Int)(L:List (List Int)):Ck:=if(eV v L).2≠0 then⟨[],0,false⟩else c9 L
set_option maxRecDepth 16000 in
theorem La(v:Int)(L:List (List Int))(g:L.length<=100000)(A:∀c∈L,c.length<=1000000):aB Tryz.prog 106 [.agg [ae v,.seq false 1 (L.map ao)]] [] (λr g'=>g'=[]∧r=.pv (.tup [m7 false (vE v L),ae (eV v L).2])):=by
 refine dQ [] [.cell 2 _,.tmp 3] aE Tryz.func106 ?_;have x:=vy v L A;have a:vE v L=if(eV v L).2≠0 then⟨[],0,false⟩else c9 L:=rfl;generalize vE v L=D at*;generalize eV v L=S at*;obtain⟨F,E⟩:=S;simp only at a;simp;refine ai.intro x ?_
 by_cases c1:E=0
 rotate_left
 .rw[Rx c1]at a;subst a;simp[c1,bu,bd,ik]
 subst c1;rw[Rw (by simp)]at a;subst a;obtain⟨K,e⟩:∃K:Nat->List (List PV),∀i,K i=(d5 L i).m.map bN:=⟨_,λ_=>rfl⟩;obtain⟨B,f⟩:∃B:Nat->Bool,∀i,B i=(d5 L i).done:=⟨_,λ_=>rfl⟩;have o:K 0=[]:=by rw[e];rfl
 have j:B 0=false:=by rw[f];rfl
 have s:∀i (h:i<L.length),K (i+1)=K i++[[ae ((i+1:Nat):Int),.seq false 1 (aa L[i])]]:=λi h=>by
  rw[e,e,oz L g h,R1];rfl
 have n:∀i (h:i<L.length),B (i+1)=(B i||decide (L[i].length=0)):=λi h=>by rw[f,f,oz L g h]
 have q:∀i,i<=L.length->(K i).length=i:=λi h=>by rw[e,RH,tt L g i h]
 have p:K L.length=(c9 L).m.map bN:=e _;have l:B L.length=(c9 L).done:=f _;have t:(c9 L).last=L.length:=(CkG.new L g L.length (Ry _)).2;simp;refine aw.intro (S:=λ(i:Nat)=>⟨[(1,.pv (.ptr 0 0)),(2,.pv (.ptr 1 0)),(6,.pv (.ptr 2 0)),(7,.pv (ae i))],[[.pv (ae v),.pv (.seq false 1 (L.map ao))],[.pv (.lit (.slice none 0 0)),.pv (ae 0),.pv (BL false)],[.own true 2 (K i),.pv (ae i),.pv (BL (B i))]]⟩) (λi=>i<=L.length) (λi=>L.length -i) 0 ?_ (RL _) ?_
 .exact(ah.nilCell (b:=2) (k:=0) (xs:=[.pv (.lit (.slice none 0 0)),.pv (ae 0),.pv (BL false)]) 2 true (by simp) (by simp)).trans (ah.keep (by simp) (by simp[o,j]))
 intro i hi;have y:=q i hi
 by_cases d:i<L.length
 .have C:=dr i;have z:L[i]?=some L[i]:=Ru d;have w:=s i d;have u:=n i d;simp[d,z,ao,C];exact⟨by omega,i+1,by(try dsimp only);omega,by(try dsimp only);omega,ah.keep (by simp) (by simp[w,u])⟩
 .have:i=L.length:=by omega
  subst this;simp[bu,bd,p,l,t]
def qp(c:Ck)(g:List Int)(k:Nat):List (Int×List (List Int)):=((List.range k).filter λj:Nat=>decide ((dA c).getD j 0=aS (-(g.headD 0)))).map λj:Nat=>((j:Int),bY c g.tail)
def lQ(c:Ck)(a:List (List Int))(i:Nat):List (Int×List (List Int)):=((a.take i).map λg=>qp c g (dA c).length).flatten
def zE(c:Ck)(a:List (List Int)):List (Int×List (List Int)):=lQ c a a.length
theorem Fw(c:Ck)(g:List Int)(k:Nat):qp c g (k+1)=if(dA c).getD k 0=aS (-(g.headD 0))then qp c g k++[((k:Int),bY c g.tail)]else qp c g k:=by
 unfold qp;rw[Ur,SO,R1,Sn,UQ]
 by_cases e:(dA c).getD k 0=aS (-(g.headD 0))
 .rw[Rx e,Rx (S9 e)];rfl
 .rw[Rw e,Rw (by rw[Uf];exact e)];simp
theorem zF(c:Ck)(g:List Int)(k:Nat):(qp c g k).length<=k:=by
 unfold qp;rw[RH];exact Sb (SU _ _) (Nat.le_of_eq Vm)
theorem tu(c:Ck)(a:List (List Int)){i:Nat}(h:i<a.length):lQ c a (i+1)=lQ c a i++qp c a[i] (dA c).length:=by
 unfold lQ;rw[Sp,Ru h,R1,UG];simp
theorem qr(c:Ck)(a:List (List Int)):∀i,i<=a.length->(lQ c a i).length<=i*(dA c).length
 |0,_=>by simp[lQ]
 |i+1,h=>by
  rw[tu c a (by omega),RF,Tt];have:=qr c a i (by omega);have:=zF c a[i] (dA c).length;omega
theorem Fx{c:Ck}{a:List (List Int)}{i:Nat}{q:Int×List (List Int)}(h:q∈lQ c a i):∃g∈a,q.2=bY c g.tail:=by
 unfold lQ at h;obtain⟨l,e,b⟩:=Vr.1 h;obtain⟨g,d,rfl⟩:=RE.1 e;refine⟨g,(List.take_subset _ _) d,?_⟩;unfold qp at b;obtain⟨j,_,rfl⟩:=RE.1 b;rfl
def zG(e:Int×List (List Int)):List PV:=[ae e.1,.seq true 1 (e.2.map ao)]
@[simp] theorem NY(r:Nat->Nat->PV)(l:List (Int×List (List Int))):kw r (l.map zG)=l.map zB:=by
 rw[bV,Sz];apply TT;intro x _;simp[zB,zG]
def un(c:Ck)(lits hints:List Int):Int:=
 if(ra lits (bY c (jZ hints).1)).2≠23∨lits=[]then(ra lits (bY c (jZ hints).1)).2
 else if(xj (bY c (dA c)) lits (bY c (jZ hints).1) (B4 (zE c (jZ hints).2))).2≠0 then 24 else 0
def IC:Sch:=
 let a:Sch:=.fork [(5,.take 6 (.take 7 (.take 8 (.take 9 (.take 10 .done)))))]
 let b:Sch:=.fork [(4,a)]
 let c:Sch:=.fork [(2,b)]
 let d:Sch:=.fork [(1,a)]
 let e:Sch:=.fork [(1,b),(4,d)]
 let f:Sch:=.fork [(1,c),(2,e)]
 .take 0 (.take 3 f)
def DA:Sch:=
 let b:Sch:=.fork [(11,.take 12 .done)]
 let c:Sch:=.fork [(10,b)]
 let d:Sch:=.fork [(9,c)]
 let a:Sch:=.fork [(8,d)]
 let e:Sch:=.fork [(6,.take 7 a)]
 let f:Sch:=.fork [(2,a)]
 let g:Sch:=.fork [(2,e),(6,.take 7 f)]
 .take 0 (.take 1 (.take 3 (.take 4 (.take 5 g))))
def DB:Sch:=
 let g:Sch:=.fork [(9,.take 10 (.take 11 (.take 12 (.take 13 .done))))]
 let b:Sch:=.fork [(7,g)]
 let h:Sch:=.fork [(5,b)]
 let l:Sch:=.fork [(4,g)]
 let i:Sch:=.fork [(4,b),(7,l)]
 let m:Sch:=.fork [(4,h),(5,i)]
 let f:Sch:=.fork [(2,b)]
 let j:Sch:=.fork [(2,h),(5,f)]
 let k:Sch:=.fork [(2,i),(4,f)]
 let n:Sch:=.fork [(2,m),(4,j),(5,k)]
 let a:Sch:=.fork [(0,f)]
 let c:Sch:=.fork [(0,j),(5,a)]
 let d:Sch:=.fork [(0,k),(4,a)]
 let e:Sch:=.fork [(0,n),(4,c),(5,d)]
 .take 1 (.take 3 (.take 6 (.take 8 e)))
set_option maxRecDepth 16000 in
theorem ID(c:Ck)(L:CkOk c)(ad:c.m.length<=1000)(s:Stp)(hl:s.lits.length<=100000)(hh:s.hints.length<=1000):
 am Tryz.prog 199 [m7 false c,.agg (gA s)] (λr=>r=.pv (ae (un c s.lits s.hints))):=by
 refine ru [2,14,15] aE Tryz.func199 ?_;have v:=λg=>ul g s.hints (by omega);have j:un c s.lits s.hints=if(ra s.lits (bY c (jZ s.hints).1)).2≠23∨s.lits=[]then(ra s.lits (bY c (jZ s.hints).1)).2
  else if(xj (bY c (dA c)) s.lits (bY c (jZ s.hints).1) (B4 (zE c (jZ s.hints).2))).2≠0 then 24 else 0:=rfl
 have t:=vo s.hints s.hints.length (Ry _);have u:=zo s.hints s.hints.length (Ry _);have B:jZ s.hints=eU s.hints s.hints.length:=rfl;rw[←B]at t u;generalize jZ s.hints=sp at*;obtain⟨ahead,a⟩:=sp;simp only at t u j v;obtain⟨ab,o⟩:=t;have A:=te L ahead;have X:=te L (dA c);have af:(dA c).length=c.m.length:=by unfold dA;rw[RH]
 have Z:=(tq [] c ahead (by omega) (by omega)).mono (R':=λr _=>r=.pv (.seq true 1 ((bY c ahead).map ao))) λ_ _ h=>h.2;have P:=(tq [] c (dA c) (by omega) (by omega)).mono (R':=λr _=>r=.pv (.seq true 1 ((bY c (dA c)).map ao))) λ_ _ h=>h.2;have E:=zh s.lits (bY c ahead) (by omega) (λx hx=>by have:=A.2 x hx;omega);generalize un c s.lits s.hints=S at*;simp[gA];refine ai.introM (v _) ?_;rintro _ _ ⟨rfl,rfl⟩;simp;generalize ag:ra s.lits (bY c ahead)=sh at*;obtain⟨ak,C⟩:=sh;simp only at j;refine aQ.meet IC ⟨[(2,.pv (.ptr 0 0)),(3,.pv (.ptr 1 0)),(5,.pv (.seq false 1 (aa ahead))),(6,.pv (.seq true 1 (a.map ao))),(8,.pv (ae C))],[[.pv (.seq false 2 (c.m.map bN)),.pv (ae c.last),.pv (BL c.done)],[.pv (ae s.kind),.pv (ae s.id),.pv (.seq false 1 (aa s.lits)),.pv (.seq false 1 (aa s.hints))]]⟩ (by kernel_rfl) ?_ ?_
 .simp[IC];and_intros
  all_goals
   refine ai.introX (bC.pureM (p:=[]) (q:=[]) (zs:=[m7 false c,.seq false 1 (aa ahead)]) Z (by simp) rfl (by simp[dR]) (by simp) (by simp) ?_);simp;refine ai.intro E ?_;simp;exact ah.keep (by simp) rfl
 by_cases c1:C=23
 rotate_left
 .rw[Rx (.inl c1)]at j;subst j;simp[c1]
 by_cases c2:s.lits=[]
 .rw[Rx (.inr c2)]at j;subst j;simp[c1,c2]
 rw[Rw (λe=>e.elim (λe=>e c1) c2)]at j;subst c1;have hI:=K8 c (by omega);simp[c2];refine ai.intro hI ?_;simp;obtain⟨W,D⟩:∃W:Nat->List (List PV),∀i,W i=(lQ c a i).map zG:=⟨_,λ_=>rfl⟩;have J:W 0=[]:=by rw[D];rfl
 have K:W a.length=(zE c a).map zG:=D _;refine aw.intro (S:=λ(i:Nat)=>⟨[(2,.pv (.ptr 0 0)),(3,.pv (.ptr 1 0)),(5,.pv (.seq false 1 (aa ahead))),(6,.pv (.seq true 1 (a.map ao))),(9,.pv (.seq true 1 (aa (dA c)))),(10,.own true 2 (W i)),(11,.pv (ae i))],[[.pv (.seq false 2 (c.m.map bN)),.pv (ae c.last),.pv (BL c.done)],[.pv (ae s.kind),.pv (ae s.id),.pv (.seq false 1 (aa s.lits)),.pv (.seq false 1 (aa s.hints))]]⟩) (λi=>i<=a.length) (λi=>a.length -i) 0 ?_ (RL _) ?_
 .exact((ah.frz (s:=9) (e:=1) (nw:=true) (rows:=aa (dA c)) (by simp)).trans (ah.nilOwn (s:=10) 2 true (by simp))).trans (ah.keep (by simp[J]) (by simp))
 intro i hi
 by_cases d:i<a.length
 .have hw:=dr i;have b:=zg a d;have U:a[i]?=some a[i]:=Ru d;have R:=u _ (Rz d);have y:=o _ (Rz d);have N:=tu c a d;have M:=qr c a i (by omega);generalize a[i]=g at*;obtain⟨x,l,rfl⟩:∃x l,g=x::l:=by
   cases g with
   |nil=>exact absurd rfl R
   |cons x c=>exact⟨x,c,rfl⟩
  simp only[R0]at y;have T:i*(dA c).length<=1000*1000:=Wd (by omega) (by omega);have O:=(tq [] c l (by omega) (by omega)).mono (R':=λr _=>r=.pv (.seq true 1 ((bY c l).map ao))) λ_ _ h=>h.2;obtain⟨V,w⟩:∃V:Nat->List (List PV),∀k,V k=(lQ c a i++qp c (x::l) k).map zG:=⟨_,λ_=>rfl⟩;have F:W i=V 0:=by rw[w,D];simp[qp]
  have G:V (dA c).length=W (i+1):=by rw[w,D,N]
  have I:∀k (f:k<(dA c).length),V (k+1)=if(dA c)[k]=aS (-x)then V k++[zG ((k:Int),bY c l)]else V k:=λk f=>by
   rw[w,w,Fw];have Q:(dA c).getD k 0=(dA c)[k]:=by rw[Rv,Ru f];rfl
   rw[Q];show List.map zG (_++(if(dA c)[k]=aS (-x)then _ else _))=_;split
   .simp
   .rfl
  have H:∀k,k<=(dA c).length->(V k).length<=1010000:=λk hk=>by
   rw[w,RH,RF];have:=zF c (x::l) k;omega
  simp[d,U];refine aw.intro (S:=λ(k:Nat)=>⟨[(2,.pv (.ptr 0 0)),(3,.pv (.ptr 1 0)),(5,.pv (.seq false 1 (aa ahead))),(6,.pv (.seq true 1 (a.map ao))),(9,.pv (.seq true 1 (aa (dA c)))),(10,.own true 2 (V k)),(11,.pv (ae i)),(12,.pv (ae k))],[[.pv (.seq false 2 (c.m.map bN)),.pv (ae c.last),.pv (BL c.done)],[.pv (ae s.kind),.pv (ae s.id),.pv (.seq false 1 (aa s.lits)),.pv (.seq false 1 (aa s.hints))]]⟩) (λk=>k<=(dA c).length) (λk=>(dA c).length -k) 0 ?_ (RL _) ?_
  .exact ah.keep (by simp[F]) (by simp)
  intro k hk;have aj:=H k hk
  by_cases f:k<(dA c).length
  .have hwk:=dr k;have z:(dA c)[k]?=some (dA c)[k]:=Ru f;have n:=I k f
   by_cases e:(dA c)[k]=aS (-x)
   .rw[Rx e]at n;simp[f,d,z,b,e];have Y:(List.take (l.length+1) (aa (x::l))).tail=aa l:=by
     simp[aa];exact SA (by simp)
    refine aQ.one DA (by kernel_rfl) ?_;simp[DA,f,d,b,Y];refine⟨⟨by omega,?_⟩,⟨by omega,?_⟩⟩
    all_goals
     refine ai.introX (bC.pureM (p:=[]) (q:=[]) (zs:=[m7 false c,.seq false 1 (aa l)]) O (by simp) rfl (by simp[dR]) (by simp) (by simp) ?_);simp[f,d,b];exact⟨by omega,k+1,by(try dsimp only);omega,by(try dsimp only);omega,ah.keep (by simp[hwk,n,zG]) (by simp)⟩
   .rw[Rw e]at n;simp[f,d,z,b,e];exact⟨k+1,by(try dsimp only);omega,by(try dsimp only);omega,ah.keep (by simp[hwk,n]) (by simp)⟩
  .have:k=(dA c).length:=by omega
   subst this;simp;exact⟨i+1,by(try dsimp only);omega,by(try dsimp only);omega,ah.keep (by simp[hw,G]) (by simp)⟩
 .have:i=a.length:=by omega
  subst this;have M:=qr c a a.length (Ry _);have T:a.length*(dA c).length<=1000*1000:=Wd (by omega) (by omega);have hR:=zC (bY c (dA c)) s.lits (bY c ahead) (zE c a) (by omega) X.2 hl (by omega) A.2 (λq hq=>?_) (by show(lQ c a a.length).length<=_;omega);rotate_left
  .obtain⟨g,Q,e⟩:=Fx hq;have y:=o g Q;have:=te L g.tail;rw[e];refine⟨?_,this.2⟩;rw[this.1,List.length_tail];omega
  simp[K];refine aQ.meet DB ⟨[(8,.pv (ae (xj (bY c (dA c)) s.lits (bY c ahead) (B4 (zE c a))).2))],[]⟩ (by kernel_rfl) ?_ ?_
  .simp[DB];and_intros
   all_goals
    refine ai.introX (bC.pureM (p:=[]) (q:=[]) (zs:=[m7 false c,.seq true 1 (aa (dA c))]) (P.args (by simp[bd,bu,qh])) (by simp) rfl (by simp[dR]) (by simp) (by simp) ?_);simp
    try and_intros
    all_goals
     refine ai.introX (bC.pureM (p:=[]) (q:=[]) (zs:=[m7 false c,.seq false 1 (aa ahead)]) Z (by simp) rfl (by simp[dR]) (by simp) (by simp) ?_);simp;refine ai.intro hR ?_;simp;exact ah.to (by simp) rfl (by simp) (by simp) (by simp)
  .by_cases d:(xj (bY c (dA c)) s.lits (bY c ahead) (B4 (zE c a))).2=0
   .rw[Rw (by simp[d])]at j;subst j;simp[d]
   .rw[Rx d]at j;subst j;simp[d]
def vF(c:Ck)(s:Stp):Ck×Int:=
 if iO s=false then(c,2)
 else if s.kind=2 then(if(fq c.m s.hints).2≠0 then(c,(fq c.m s.hints).2)else(⟨(fq c.m s.hints).1,c.last,c.done⟩,0))
 else if s.id<=c.last then(c,21)else if fh s.lits=true then(c,11)else if mI c s.hints=false then(c,20)
 else if un c s.lits s.hints≠0 then(c,un c s.lits s.hints)
 else(⟨c.m++[(s.id,s.lits)],s.id,c.done||decide (s.lits.length=0)⟩,0)
set_option maxRecDepth 16000 in
theorem IE(c:Ck)(l:CkOk c)(g:c.m.length<=1000)(s:Stp)(i:s.lits.length<=100000)(n:s.hints.length<=1000):
 aB Tryz.prog 118 [m7 false c,.agg (gA s)] [] (λr g'=>g'=[]∧r=.pv (.tup [m7 false (vF c s).1,ae (vF c s).2])):=by
 refine dQ [18] [.cell 4 _,.tmp 5] aE Tryz.func118 ?_;have o:=zD s i (by omega);have j:=(IA c s.hints (by omega) (by omega)).mono (R':=λr _=>r=.pv (.tup [m7 false ⟨(fq c.m s.hints).1,c.last,c.done⟩,ae (fq c.m s.hints).2])) λ_ _ h=>h.2;have u:=oc s.lits (by omega);have v:=Fv c s.hints (by omega) (by omega);have w:=ID c l g s i n;have a:vF c s=if iO s=false then(c,2)
  else if s.kind=2 then(if(fq c.m s.hints).2≠0 then(c,(fq c.m s.hints).2)else(⟨(fq c.m s.hints).1,c.last,c.done⟩,0))
  else if s.id<=c.last then(c,21)else if fh s.lits=true then(c,11)else if mI c s.hints=false then(c,20)
  else if un c s.lits s.hints≠0 then(c,un c s.lits s.hints)
  else(⟨c.m++[(s.id,s.lits)],s.id,c.done||decide (s.lits.length=0)⟩,0):=rfl
 generalize vF c s=S at*;generalize fq c.m s.hints=D at*;obtain⟨x,k⟩:=D;simp only at a j;generalize iO s=M at*;generalize fh s.lits=T at*;generalize mI c s.hints=H at*;generalize un c s.lits s.hints=Sh at*;simp[gA];refine ai.intro o ?_;cases M
 .rw[Rx rfl]at a;subst a;simp[bu,bd]
 rw[Rw (by simp)]at a;simp
 by_cases c2:s.kind=2
 .rw[Rx c2]at a;simp[c2];refine ai.introX (bC.pureM (p:=[]) (q:=[]) (zs:=[m7 false c,.seq false 1 (aa s.hints)]) j (by simp) rfl (by simp[dR]) (by simp) (by simp) ?_)
  by_cases e:k=0
  .rw[Rw (by simp[e])]at a;subst a e;simp[bu,bd]
  .rw[Rx e]at a;subst a;simp[e,bu,bd]
 rw[Rw c2]at a
 by_cases c3:s.id<=c.last
 .rw[Rx c3]at a;subst a;have d:¬c.last<s.id:=by omega
  simp[c2,c3,d,bu,bd]
 rw[Rw c3]at a;have d:c.last<s.id:=by omega
 simp[c2,c3,d];refine ai.intro u ?_;cases T
 rotate_left
 .rw[Rx rfl]at a;subst a;simp[bu,bd]
 rw[Rw (by simp)]at a;simp;refine ai.intro v ?_;cases H
 .rw[Rx rfl]at a;subst a;simp[bu,bd]
 rw[Rw (by simp)]at a;simp;refine ai.intro w ?_
 by_cases c6:Sh=0
 rotate_left
 .rw[Rx c6]at a;subst a;simp[c6,bu,bd]
 rw[Rw (by simp[c6])]at a;subst a;simp[c6];have b:(c.m.length+1)*16<=140737488355328:=by omega
 refine aQ.tab [] ⟨[some (58,.own true 2 []),some (59,.pv (.ptr 0 0)),some (60,.pv (.seq false 2 (c.m.map bN))),some (61,.own true 2 (c.m.map bN)),some (62,.pv (.ptr 1 1)),some (63,.pv (ae s.id)),some (64,.pv (.ptr 1 2)),some (65,.pv (.seq false 1 (aa s.lits))),some (66,.pv (.agg [ae s.id,.seq false 1 (aa s.lits)])),some (67,.own true 2 [[ae s.id,.seq false 1 (aa s.lits)]]),some (68,.own true 2 (c.m.map bN++[[ae s.id,.seq false 1 (aa s.lits)]])),some (69,.pv (.ptr 0 0)),none],[(2,.pv (.ptr 0 0)),(3,.pv (.ptr 1 0)),(4,.pv (.ptr 2 0))],[[],[],[1],[0,2],[],[4],[],[6],[5,7],[8],[3,9],[],[10,11]],[12],[[0],[0],[0],[0],[0],[0],[0],[0],[0],[0],[0],[0],[0]],[(3,58),(10,61),(12,68)],λ|0=>[[.pv (.seq false 2 (c.m.map bN)),.pv (ae c.last),.pv (BL c.done)],[.pv (ae s.kind),.pv (ae s.id),.pv (.seq false 1 (aa s.lits)),.pv (.seq false 1 (aa s.hints))],[.pv (.lit (.slice none 0 0)),.pv (.lit (.int .i64 0)),.pv (.lit (.bool false))]]|_=>[[.own true 2 (c.m.map bN++[[ae s.id,.seq false 1 (aa s.lits)]]),.pv (ae c.last),.pv (BL c.done)],[.pv (ae s.kind),.pv (ae s.id),.pv (.seq false 1 (aa s.lits)),.pv (.seq false 1 (aa s.hints))],[.pv (.lit (.slice none 0 0)),.pv (.lit (.int .i64 0)),.pv (.lit (.bool false))]]⟩ ⟨[(2,.pv (.ptr 0 0)),(3,.pv (.ptr 1 0)),(4,.pv (.ptr 2 0))],[[.own true 2 (c.m.map bN++[[ae s.id,.seq false 1 (aa s.lits)]]),.pv (ae c.last),.pv (BL c.done)],[.pv (ae s.kind),.pv (ae s.id),.pv (.seq false 1 (aa s.lits)),.pv (.seq false 1 (aa s.hints))],[.pv (.lit (.slice none 0 0)),.pv (.lit (.int .i64 0)),.pv (.lit (.bool false))]]⟩ (by kernel_rfl) (by simp[aT]) rfl ?_ (λt h1 f=>?_) ?_
 .simp only[Tb.steps,F8,Tb.lvA,Tb.dpA,yU,pd,Te,Tx,cv,dV,lL,gY,eK,eJ,GK,gL,il,Sr,Tk,T7,UT,Ul,Va,U9,Ts,Um,Sg,SR];and_intros
  all_goals first|trivial|(intro t h1 f;simp only[aT,Se,R7]at h1;simp[b,h1,f,Tb.postL,Tb.wth,qK,pd,aT,aZ]<;>and_intros<;>first|omega|(intro e;simp[b,e]))
 .simp only[aT,Se,R7]at h1 f;simp[F9]at f;exact ah.keep (by simp[h1,f]) rfl
 simp[bu,bd,bN]
structure CkM (n:Nat) (c:Ck):Prop where
  n:c.m.length<=n
  w:∀q∈c.m,F7 q.1
  l:∀q∈c.m,q.2.length<=100000
theorem CkM.ok{n:Nat}{c:Ck}(h:CkM n c)(hn:n<=100000):CkOk c:=⟨Sb h.n hn,h.w,h.l⟩
end Go.AX