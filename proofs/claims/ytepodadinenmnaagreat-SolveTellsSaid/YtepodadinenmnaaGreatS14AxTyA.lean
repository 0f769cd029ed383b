/-
  Contracts: the document's checker: New; and what follows.
-/
import Derived.Test.YtepodadinenmnaaGreatS14AxTxC
import Derived.Test.YtepodadinenmnaaGreatS14AxTtA
namespace Go.AX
open Go.Proofs
set_option linter.unusedSimpArgs false
theorem lL(L:List (List Int))(b:L.length<=100000){i:Nat}(h:i<L.length):dM L (i+1)=⟨(dM L i).m++[(((i+1:Nat):Int),L[i])],((i+1:Nat):Int),(dM L i).done||decide (L[i].length=0)⟩:=by
 obtain⟨a,g2⟩:=CkG.new L b i (by omega);have hs:dM L (i+1)=xV (dM L i) L[i]:=bL xV _ L i (by omega);have c:aX ((dM L i).last+1)=((i+1:Nat):Int):=by rw[g2,ao (by omega) (by omega)];omega
 rw[hs];unfold xV;rw[c];have:=(a.put (id:=((i+1:Nat):Int)) (l:=L[i]) (by omega) (by omega)).1;unfold qE at this⊢;simp only at this;rw[this]
theorem oV(L:List (List Int))(a:L.length<=100000):∀i,i<=L.length->(dM L i).m.length=i
 |0,_=>rfl
 |i+1,h=>by rw[lL L a (show i<L.length by omega),Ta,oV L a i (by omega)];rfl
def we(v:Int)(L:List (List Int)):Ck:=if(cH v L).2≠0 then⟨[],0,false⟩else lK L
set_option maxRecDepth 16000 in
theorem Mp(v:Int)(L:List (List Int))(g:L.length<=100000)(A:∀c∈L,c.length<=1000000):aA Tryz.prog 106 [.agg [ab v,.seq false 1 (L.map aq)]] [] (λr g'=>g'=[]∧r=.pv (.tup [rK false (we v L),ab (cH v L).2])):=by
 refine d7 [] [.cell 2 _,.tmp 3] aD Tryz.func106 ?_;have x:=wd v L A;have a:we v L=if(cH v L).2≠0 then⟨[],0,false⟩else lK L:=rfl;generalize we v L=D at*;generalize cH v L=S at*;obtain⟨F,E⟩:=S;simp only at a;simp;refine ai.intro x ?_
 by_cases c1:E=0
 rotate_left
 .rw[SX c1]at a;subst a;simp[c1,bB,bc,iu]
 subst c1;rw[SU (by simp)]at a;subst a;obtain⟨K,e⟩:∃K:Nat->List (List PV),∀i,K i=(dM L i).m.map dE:=⟨_,λ_=>rfl⟩;obtain⟨B,f⟩:∃B:Nat->Bool,∀i,B i=(dM L i).done:=⟨_,λ_=>rfl⟩;have o:K 0=[]:=by rw[e];rfl
 have j:B 0=false:=by rw[f];rfl
 have s:∀i (h:i<L.length),K (i+1)=K i++[[ab ((i+1:Nat):Int),.seq false 1 (ae L[i])]]:=λi h=>by
  rw[e,e,lL L g h,Tu];rfl
 have n:∀i (h:i<L.length),B (i+1)=(B i||decide (L[i].length=0)):=λi h=>by rw[f,f,lL L g h]
 have q:∀i,i<=L.length->(K i).length=i:=λi h=>by rw[e,S7,oV L g i h]
 have p:K L.length=(lK L).m.map dE:=e _;have l:B L.length=(lK L).done:=f _;have t:(lK L).last=L.length:=(CkG.new L g L.length (SY _)).2;simp;refine ax.intro (S:=λ(i:Nat)=>⟨[(1,.pv (.ptr 0 0)),(2,.pv (.ptr 1 0)),(6,.pv (.ptr 2 0)),(7,.pv (ab i))],[[.pv (ab v),.pv (.seq false 1 (L.map aq))],[.pv (.lit (.slice none 0 0)),.pv (ab 0),.pv (BL false)],[.own true 2 (K i),.pv (ab i),.pv (BL (B i))]]⟩) (λi=>i<=L.length) (λi=>L.length -i) 0 ?_ (Tf _) ?_
 .exact(ah.nilCell (b:=2) (k:=0) (xs:=[.pv (.lit (.slice none 0 0)),.pv (ab 0),.pv (BL false)]) 2 true (by simp) (by simp)).trans (ah.keep (by simp) (by simp[o,j]))
 intro i hi;have y:=q i hi
 by_cases d:i<L.length
 .have C:=dv i;have z:L[i]?=some L[i]:=SR d;have w:=s i d;have u:=n i d;simp[d,z,aq,C];exact⟨by omega,i+1,by(try dsimp only);omega,by(try dsimp only);omega,ah.keep (by simp) (by simp[w,u])⟩
 .have:i=L.length:=by omega
  subst this;simp[bB,bc,p,l,t]
def qL(c:Ck)(g:List Int)(k:Nat):List (Int×List (List Int)):=((List.range k).filter λj:Nat=>decide ((dx c).getD j 0=aX (-(g.headD 0)))).map λj:Nat=>((j:Int),bZ c g.tail)
def lZ(c:Ck)(a:List (List Int))(i:Nat):List (Int×List (List Int)):=((a.take i).map λg=>qL c g (dx c).length).flatten
def Ae(c:Ck)(a:List (List Int)):List (Int×List (List Int)):=lZ c a a.length
theorem Gm(c:Ck)(g:List Int)(k:Nat):qL c g (k+1)=if(dx c).getD k 0=aX (-(g.headD 0))then qL c g k++[((k:Int),bZ c g.tail)]else qL c g k:=by
 unfold qL;rw[VX,Uu,Tu,TO,Wd]
 by_cases e:(dx c).getD k 0=aX (-(g.headD 0))
 .rw[SX e,SX (Uv e)];rfl
 .rw[SU e,SU (by rw[Vy];exact e)];simp
theorem Af(c:Ck)(g:List Int)(k:Nat):(qL c g k).length<=k:=by
 unfold qL;rw[S7];exact TD (Uq _ _) (XS WM)
theorem t7(c:Ck)(a:List (List Int)){i:Nat}(h:i<a.length):lZ c a (i+1)=lZ c a i++qL c a[i] (dx c).length:=by
 unfold lZ;rw[TW,SR h,Tu,V1];simp
theorem qM(c:Ck)(a:List (List Int)):∀i,i<=a.length->(lZ c a i).length<=i*(dx c).length
 |0,_=>by simp[lZ]
 |i+1,h=>by
  rw[t7 c a (by omega),Ta,UR];have:=qM c a i (by omega);have:=Af c a[i] (dx c).length;omega
theorem Gn{c:Ck}{a:List (List Int)}{i:Nat}{q:Int×List (List Int)}(h:q∈lZ c a i):∃g∈a,q.2=bZ c g.tail:=by
 unfold lZ at h;obtain⟨l,e,b⟩:=Xr.1 h;obtain⟨g,d,rfl⟩:=S8.1 e;refine⟨g,(List.take_subset _ _) d,?_⟩;unfold qL at b;obtain⟨j,_,rfl⟩:=S8.1 b;rfl
def Ag(e:Int×List (List Int)):List PV:=[ab e.1,.seq true 1 (e.2.map aq)]
@[simp] theorem O6(r:Nat->Nat->PV)(l:List (Int×List (List Int))):jN r (l.map Ag)=l.map z7:=by
 rw[bP,TX];apply UW;intro x _;simp[z7,Ag]
def uR(c:Ck)(lits hints:List Int):Int:=
 if(rJ lits (bZ c (kb hints).1)).2≠23∨lits=[]then(rJ lits (bZ c (kb hints).1)).2
 else if(xT (bZ c (dx c)) lits (bZ c (kb hints).1) (CA (Ae c (kb hints).2))).2≠0 then 24 else 0
def Js:Sch:=
 let a:Sch:=.fork [(5,.take 6 (.take 7 (.take 8 (.take 9 (.take 10 .done)))))]
 let b:Sch:=.fork [(4,a)]
 let c:Sch:=.fork [(2,b)]
 let d:Sch:=.fork [(1,a)]
 let e:Sch:=.fork [(1,b),(4,d)]
 let f:Sch:=.fork [(1,c),(2,e)]
 .take 0 (.take 3 f)
def Em:Sch:=
 let b:Sch:=.fork [(11,.take 12 .done)]
 let c:Sch:=.fork [(10,b)]
 let d:Sch:=.fork [(9,c)]
 let a:Sch:=.fork [(8,d)]
 let e:Sch:=.fork [(6,.take 7 a)]
 let f:Sch:=.fork [(2,a)]
 let g:Sch:=.fork [(2,e),(6,.take 7 f)]
 .take 0 (.take 1 (.take 3 (.take 4 (.take 5 g))))
def Eo:Sch:=
 let g:Sch:=.fork [(9,.take 10 (.take 11 (.take 12 (.take 13 .done))))]
 let b:Sch:=.fork [(7,g)]
 let h:Sch:=.fork [(5,b)]
 let l:Sch:=.fork [(4,g)]
 let i:Sch:=.fork [(4,b),(7,l)]
 let m:Sch:=.fork [(4,h),(5,i)]
 let f:Sch:=.fork [(2,b)]
 let j:Sch:=.fork [(2,h),(5,f)]
 let k:Sch:=.fork [(2,i),(4,f)]
 let n:Sch:=.fork [(2,m),(4,j),(5,k)]
 let a:Sch:=.fork [(0,f)]
 let c:Sch:=.fork [(0,j),(5,a)]
 let d:Sch:=.fork [(0,k),(4,a)]
 let e:Sch:=.fork [(0,n),(4,c),(5,d)]
 .take 1 (.take 3 (.take 6 (.take 8 e)))
set_option maxRecDepth 16000 in
theorem Jt(c:Ck)(L:CkOk c)(ad:c.m.length<=5000)(s:Stp)(hl:s.lits.length<=100000)(hh:s.hints.length<=1000):
 aj Tryz.prog 199 [rK false c,.agg (dX s)] (λr=>r=.pv (ab (uR c s.lits s.hints))):=by
 refine r8 [2,14,15] aD Tryz.func199 ?_;have v:=λg=>uQ g s.hints (by omega);have j:uR c s.lits s.hints=if(rJ s.lits (bZ c (kb s.hints).1)).2≠23∨s.lits=[]then(rJ s.lits (bZ c (kb s.hints).1)).2
  else if(xT (bZ c (dx c)) s.lits (bZ c (kb s.hints).1) (CA (Ae c (kb s.hints).2))).2≠0 then 24 else 0:=rfl
 have t:=vZ s.hints s.hints.length (SY _);have u:=zY s.hints s.hints.length (SY _);have B:kb s.hints=eJ s.hints s.hints.length:=rfl;rw[←B]at t u;generalize kb s.hints=sp at*;obtain⟨ahead,a⟩:=sp;simp only at t u j v;obtain⟨aa,o⟩:=t;have A:=tR L ahead;have X:=tR L (dx c);have af:(dx c).length=c.m.length:=by unfold dx;rw[S7]
 have Z:=(tY [] c ahead (by omega) (by omega)).mono (R':=λr _=>r=.pv (.seq true 1 ((bZ c ahead).map aq))) λ_ _ h=>h.2;have P:=(tY [] c (dx c) (by omega) (by omega)).mono (R':=λr _=>r=.pv (.seq true 1 ((bZ c (dx c)).map aq))) λ_ _ h=>h.2;have E:=zT s.lits (bZ c ahead) (by omega) (λx hx=>by have:=A.2 x hx;omega);generalize uR c s.lits s.hints=S at*;simp[dX];refine ai.introM (v _) ?_;rintro _ _ ⟨rfl,rfl⟩;simp;generalize ag:rJ s.lits (bZ c ahead)=sh at*;obtain⟨an,C⟩:=sh;simp only at j;refine aT.meet Js ⟨[(2,.pv (.ptr 0 0)),(3,.pv (.ptr 1 0)),(5,.pv (.seq false 1 (ae ahead))),(6,.pv (.seq true 1 (a.map aq))),(8,.pv (ab C))],[[.pv (.seq false 2 (c.m.map dE)),.pv (ab c.last),.pv (BL c.done)],[.pv (ab s.kind),.pv (ab s.id),.pv (.seq false 1 (ae s.lits)),.pv (.seq false 1 (ae s.hints))]]⟩ (by kernel_rfl) ?_ ?_
 .simp[Js];and_intros
  all_goals
   refine ai.introX (bE.pureM (p:=[]) (q:=[]) (zs:=[rK false c,.seq false 1 (ae ahead)]) Z (by simp) rfl (by simp[fw]) (by simp) (by simp) ?_);simp;refine ai.intro E ?_;simp;exact ah.keep (by simp) rfl
 by_cases c1:C=23
 rotate_left
 .rw[SX (.inl c1)]at j;subst j;simp[c1]
 by_cases c2:s.lits=[]
 .rw[SX (.inr c2)]at j;subst j;simp[c1,c2]
 rw[SU (λe=>e.elim (λe=>e c1) c2)]at j;subst c1;have hI:=Mj c (by omega);simp[c2];refine ai.intro hI ?_;simp;obtain⟨W,D⟩:∃W:Nat->List (List PV),∀i,W i=(lZ c a i).map Ag:=⟨_,λ_=>rfl⟩;have J:W 0=[]:=by rw[D];rfl
 have K:W a.length=(Ae c a).map Ag:=D _;refine ax.intro (S:=λ(i:Nat)=>⟨[(2,.pv (.ptr 0 0)),(3,.pv (.ptr 1 0)),(5,.pv (.seq false 1 (ae ahead))),(6,.pv (.seq true 1 (a.map aq))),(9,.pv (.seq true 1 (ae (dx c)))),(10,.own true 2 (W i)),(11,.pv (ab i))],[[.pv (.seq false 2 (c.m.map dE)),.pv (ab c.last),.pv (BL c.done)],[.pv (ab s.kind),.pv (ab s.id),.pv (.seq false 1 (ae s.lits)),.pv (.seq false 1 (ae s.hints))]]⟩) (λi=>i<=a.length) (λi=>a.length -i) 0 ?_ (Tf _) ?_
 .exact((ah.frz (s:=9) (e:=1) (nw:=true) (rows:=ae (dx c)) (by simp)).trans (ah.nilOwn (s:=10) 2 true (by simp))).trans (ah.keep (by simp[J]) (by simp))
 intro i hi
 by_cases d:i<a.length
 .have hw:=dv i;have b:=zS a d;have U:a[i]?=some a[i]:=SR d;have R:=u _ (S5 d);have y:=o _ (S5 d);have N:=t7 c a d;have M:=qM c a i (by omega);generalize a[i]=g at*;obtain⟨x,l,rfl⟩:∃x l,g=x::l:=by
   cases g with
   |nil=>exact absurd rfl R
   |cons x c=>exact⟨x,c,rfl⟩
  simp only[Ty]at y;have T:i*(dx c).length<=1000*5000:=XJ (by omega) (by omega);have O:=(tY [] c l (by omega) (by omega)).mono (R':=λr _=>r=.pv (.seq true 1 ((bZ c l).map aq))) λ_ _ h=>h.2;obtain⟨V,w⟩:∃V:Nat->List (List PV),∀k,V k=(lZ c a i++qL c (x::l) k).map Ag:=⟨_,λ_=>rfl⟩;have F:W i=V 0:=by rw[w,D];simp[qL]
  have G:V (dx c).length=W (i+1):=by rw[w,D,N]
  have I:∀k (f:k<(dx c).length),V (k+1)=if(dx c)[k]=aX (-x)then V k++[Ag ((k:Int),bZ c l)]else V k:=λk f=>by
   rw[w,w,Gm];have Q:(dx c).getD k 0=(dx c)[k]:=by rw[SS,SR f];rfl
   rw[Q];show List.map Ag (_++(if(dx c)[k]=aX (-x)then _ else _))=_;split
   .simp
   .rfl
  have H:∀k,k<=(dx c).length->(V k).length<=5010000:=λk hk=>by
   rw[w,S7,Ta];have:=Af c (x::l) k;omega
  simp[d,U];refine ax.intro (S:=λ(k:Nat)=>⟨[(2,.pv (.ptr 0 0)),(3,.pv (.ptr 1 0)),(5,.pv (.seq false 1 (ae ahead))),(6,.pv (.seq true 1 (a.map aq))),(9,.pv (.seq true 1 (ae (dx c)))),(10,.own true 2 (V k)),(11,.pv (ab i)),(12,.pv (ab k))],[[.pv (.seq false 2 (c.m.map dE)),.pv (ab c.last),.pv (BL c.done)],[.pv (ab s.kind),.pv (ab s.id),.pv (.seq false 1 (ae s.lits)),.pv (.seq false 1 (ae s.hints))]]⟩) (λk=>k<=(dx c).length) (λk=>(dx c).length -k) 0 ?_ (Tf _) ?_
  .exact ah.keep (by simp[F]) (by simp)
  intro k hk;have ak:=H k hk
  by_cases f:k<(dx c).length
  .have hwk:=dv k;have z:(dx c)[k]?=some (dx c)[k]:=SR f;have n:=I k f
   by_cases e:(dx c)[k]=aX (-x)
   .rw[SX e]at n;simp[f,d,z,b,e];have Y:(List.take (l.length+1) (ae (x::l))).tail=ae l:=by
     simp[ae];exact TT (by simp)
    refine aT.one Em (by kernel_rfl) ?_;simp[Em,f,d,b,Y];refine⟨⟨by omega,?_⟩,⟨by omega,?_⟩⟩
    all_goals
     refine ai.introX (bE.pureM (p:=[]) (q:=[]) (zs:=[rK false c,.seq false 1 (ae l)]) O (by simp) rfl (by simp[fw]) (by simp) (by simp) ?_);simp[f,d,b];exact⟨by omega,k+1,by(try dsimp only);omega,by(try dsimp only);omega,ah.keep (by simp[hwk,n,Ag]) (by simp)⟩
   .rw[SU e]at n;simp[f,d,z,b,e];exact⟨k+1,by(try dsimp only);omega,by(try dsimp only);omega,ah.keep (by simp[hwk,n]) (by simp)⟩
  .have:k=(dx c).length:=by omega
   subst this;simp;exact⟨i+1,by(try dsimp only);omega,by(try dsimp only);omega,ah.keep (by simp[hw,G]) (by simp)⟩
 .have:i=a.length:=by omega
  subst this;have M:=qM c a a.length (SY _);have T:a.length*(dx c).length<=1000*5000:=XJ (by omega) (by omega);have hR:=z8 (bZ c (dx c)) s.lits (bZ c ahead) (Ae c a) (by omega) X.2 hl (by omega) A.2 (λq hq=>?_) (by show(lZ c a a.length).length<=_;omega);rotate_left
  .obtain⟨g,Q,e⟩:=Gn hq;have y:=o g Q;have:=tR L g.tail;rw[e];refine⟨?_,this.2⟩;rw[this.1,List.length_tail];omega
  simp[K];refine aT.meet Eo ⟨[(8,.pv (ab (xT (bZ c (dx c)) s.lits (bZ c ahead) (CA (Ae c a))).2))],[]⟩ (by kernel_rfl) ?_ ?_
  .simp[Eo];and_intros
   all_goals
    refine ai.introX (bE.pureM (p:=[]) (q:=[]) (zs:=[rK false c,.seq true 1 (ae (dx c))]) (P.args (by simp[bc,bB,qF])) (by simp) rfl (by simp[fw]) (by simp) (by simp) ?_);simp
    try and_intros
    all_goals
     refine ai.introX (bE.pureM (p:=[]) (q:=[]) (zs:=[rK false c,.seq false 1 (ae ahead)]) Z (by simp) rfl (by simp[fw]) (by simp) (by simp) ?_);simp;refine ai.intro hR ?_;simp;exact ah.to (by simp) rfl (by simp) (by simp) (by simp)
  .by_cases d:(xT (bZ c (dx c)) s.lits (bZ c ahead) (CA (Ae c a))).2=0
   .rw[SU (by simp[d])]at j;subst j;simp[d]
   .rw[SX d]at j;subst j;simp[d]
def jA(c:Ck)(s:Stp):Ck×Int:=
 if fQ s=false then(c,2)
 else if s.kind=2 then(if(dZ c.m s.hints).2≠0 then(c,(dZ c.m s.hints).2)else(⟨(dZ c.m s.hints).1,c.last,c.done⟩,0))
 else if s.id<=c.last then(c,21)else if eY s.lits=true then(c,11)else if mT c s.hints=false then(c,20)
 else if uR c s.lits s.hints≠0 then(c,uR c s.lits s.hints)
 else(⟨c.m++[(s.id,s.lits)],s.id,c.done||decide (s.lits.length=0)⟩,0)
theorem wg:∀(ids:List Int)(m:List (Int×List Int)),(dZ m ids).1.length<=m.length
 |[],m=>SY _
 |id::ids,m=>by
  rw[dZ];split
  .exact SY _
  .exact TD (wg ids _) (Uq _ _)
set_option maxRecDepth 16000 in
theorem Ju(c:Ck)(l:CkOk c)(g:c.m.length<=5000)(s:Stp)(i:s.lits.length<=100000)(n:s.hints.length<=1000):
 aA Tryz.prog 118 [rK false c,.agg (dX s)] [] (λr g'=>g'=[]∧r=.pv (.tup [rK false (jA c s).1,ab (jA c s).2])):=by
 refine d7 [18] [.cell 4 _,.tmp 5] aD Tryz.func118 ?_;have o:=Aa s i (by omega);have j:=(Jo c s.hints (by omega) (by omega)).mono (R':=λr _=>r=.pv (.tup [rK false ⟨(dZ c.m s.hints).1,c.last,c.done⟩,ab (dZ c.m s.hints).2])) λ_ _ h=>h.2;have u:=oF s.lits (by omega);have v:=Gi c s.hints (by omega) (by omega);have w:=Jt c l g s i n;have a:jA c s=if fQ s=false then(c,2)
  else if s.kind=2 then(if(dZ c.m s.hints).2≠0 then(c,(dZ c.m s.hints).2)else(⟨(dZ c.m s.hints).1,c.last,c.done⟩,0))
  else if s.id<=c.last then(c,21)else if eY s.lits=true then(c,11)else if mT c s.hints=false then(c,20)
  else if uR c s.lits s.hints≠0 then(c,uR c s.lits s.hints)
  else(⟨c.m++[(s.id,s.lits)],s.id,c.done||decide (s.lits.length=0)⟩,0):=rfl
 generalize jA c s=S at*;generalize dZ c.m s.hints=D at*;obtain⟨x,k⟩:=D;simp only at a j;generalize fQ s=M at*;generalize eY s.lits=T at*;generalize mT c s.hints=H at*;generalize uR c s.lits s.hints=Sh at*;simp[dX];refine ai.intro o ?_;cases M
 .rw[SX rfl]at a;subst a;simp[bB,bc]
 rw[SU (by simp)]at a;simp
 by_cases c2:s.kind=2
 .rw[SX c2]at a;simp[c2];refine ai.introX (bE.pureM (p:=[]) (q:=[]) (zs:=[rK false c,.seq false 1 (ae s.hints)]) j (by simp) rfl (by simp[fw]) (by simp) (by simp) ?_)
  by_cases e:k=0
  .rw[SU (by simp[e])]at a;subst a e;simp[bB,bc]
  .rw[SX e]at a;subst a;simp[e,bB,bc]
 rw[SU c2]at a
 by_cases c3:s.id<=c.last
 .rw[SX c3]at a;subst a;have d:¬c.last<s.id:=by omega
  simp[c2,c3,d,bB,bc]
 rw[SU c3]at a;have d:c.last<s.id:=by omega
 simp[c2,c3,d];refine ai.intro u ?_;cases T
 rotate_left
 .rw[SX rfl]at a;subst a;simp[bB,bc]
 rw[SU (by simp)]at a;simp;refine ai.intro v ?_;cases H
 .rw[SX rfl]at a;subst a;simp[bB,bc]
 rw[SU (by simp)]at a;simp;refine ai.intro w ?_
 by_cases c6:Sh=0
 rotate_left
 .rw[SX c6]at a;subst a;simp[c6,bB,bc]
 rw[SU (by simp[c6])]at a;subst a;simp[c6];have b:(c.m.length+1)*16<=140737488355328:=by omega
 refine aT.tab [] ⟨[some (58,.own true 2 []),some (59,.pv (.ptr 0 0)),some (60,.pv (.seq false 2 (c.m.map dE))),some (61,.own true 2 (c.m.map dE)),some (62,.pv (.ptr 1 1)),some (63,.pv (ab s.id)),some (64,.pv (.ptr 1 2)),some (65,.pv (.seq false 1 (ae s.lits))),some (66,.pv (.agg [ab s.id,.seq false 1 (ae s.lits)])),some (67,.own true 2 [[ab s.id,.seq false 1 (ae s.lits)]]),some (68,.own true 2 (c.m.map dE++[[ab s.id,.seq false 1 (ae s.lits)]])),some (69,.pv (.ptr 0 0)),none],[(2,.pv (.ptr 0 0)),(3,.pv (.ptr 1 0)),(4,.pv (.ptr 2 0))],[[],[],[1],[0,2],[],[4],[],[6],[5,7],[8],[3,9],[],[10,11]],[12],[[0],[0],[0],[0],[0],[0],[0],[0],[0],[0],[0],[0],[0]],[(3,58),(10,61),(12,68)],λ|0=>[[.pv (.seq false 2 (c.m.map dE)),.pv (ab c.last),.pv (BL c.done)],[.pv (ab s.kind),.pv (ab s.id),.pv (.seq false 1 (ae s.lits)),.pv (.seq false 1 (ae s.hints))],[.pv (.lit (.slice none 0 0)),.pv (.lit (.int .i64 0)),.pv (.lit (.bool false))]]|_=>[[.own true 2 (c.m.map dE++[[ab s.id,.seq false 1 (ae s.lits)]]),.pv (ab c.last),.pv (BL c.done)],[.pv (ab s.kind),.pv (ab s.id),.pv (.seq false 1 (ae s.lits)),.pv (.seq false 1 (ae s.hints))],[.pv (.lit (.slice none 0 0)),.pv (.lit (.int .i64 0)),.pv (.lit (.bool false))]]⟩ ⟨[(2,.pv (.ptr 0 0)),(3,.pv (.ptr 1 0)),(4,.pv (.ptr 2 0))],[[.own true 2 (c.m.map dE++[[ab s.id,.seq false 1 (ae s.lits)]]),.pv (ab c.last),.pv (BL c.done)],[.pv (ab s.kind),.pv (ab s.id),.pv (.seq false 1 (ae s.lits)),.pv (.seq false 1 (ae s.hints))],[.pv (.lit (.slice none 0 0)),.pv (.lit (.int .i64 0)),.pv (.lit (.bool false))]]⟩ (by kernel_rfl) (by simp[a8]) rfl ?_ (λt h1 f=>?_) ?_
 .simp only[Tb.steps,Iu,Tb.lvA,Tb.dpA,Bd,uF,UQ,Vb,cA,d8,mN,iU,fi,eX,K3,io,jg,TQ,UV,Vr,WD,VN,WU,WT,U1,Vu,TM,Ul];and_intros
  all_goals first|trivial|(intro t h1 f;simp only[a8,TP,TI]at h1;simp[b,h1,f,Tb.postL,Tb.wth,vN,uF,a8,bQ]<;>and_intros<;>first|omega|(intro e;simp[b,e]))
 .simp only[a8,TP,TI]at h1 f;simp[Iv]at f;exact ah.keep (by simp[h1,f]) rfl
 simp[bB,bc,dE]
def lN:Ck->List Stp->Nat->Int×Int
 |c,[],i=>if c.done=true then((i:Int),0)else((i:Int),25)
 |c,s::ss,i=>if(jA c s).2≠0 then((i:Int),(jA c s).2)else lN (jA c s).1 ss (i+1)
def Gs(v:Int)(L:List (List Int))(ss:List Stp):Int×Int:=if(cH v L).2≠0 then(-1,(cH v L).2)else lN (lK L) ss 0
structure CkM (n:Nat) (c:Ck):Prop where
  n:c.m.length<=n
  w:∀q∈c.m,GZ q.1
  l:∀q∈c.m,q.2.length<=100000
theorem CkM.ok{n:Nat}{c:Ck}(h:CkM n c)(hn:n<=100000):CkOk c:=⟨TD h.n hn,h.w,h.l⟩
theorem qP:∀(ids:List Int)(m:List (Int×List Int)),∀q∈(dZ m ids).1,q∈m
 |[],m,q,h=>h
 |id::ids,m,q,h=>by
  rw[dZ]at h;split at h
  .exact h
  .exact(TJ.1 (qP ids _ q h)).1
theorem CkM.step{n:Nat}{c:Ck}(h:CkM n c){s:Stp}(d:s.lits.length<=100000):CkM (n+1) (jA c s).1:=by
 have h':CkM (n+1) c:=⟨WJ h.n,h.w,h.l⟩;unfold jA;split
 .exact h'
 rename_i e;have b:fQ s=true:=by simpa using e
 split
 .split
  .exact h'
  .exact⟨WJ (TD (wg _ _) h.n),λq a=>h.w q (qP _ _ q a),λq a=>h.l q (qP _ _ q a)⟩
 split
 .exact h'
 split
 .exact h'
 split
 .exact h'
 split
 .exact h'
 .have nh:=se b;refine⟨by show(c.m++[(s.id,s.lits)]).length<=_;rw[Ta];exact Nat.succ_le_succ h.n,λq a=>?_,λq a=>?_⟩
  .rcases Te.1 a with a|a
   .exact h.w q a
   .rw[TA]at a;subst a;exact xW nh.2.1 (by have:=nh.2.2;simp only;omega)
  .rcases Te.1 a with a|a
   .exact h.l q a
   .rw[TA]at a;subst a;exact d
theorem Gt(L:List (List Int))(b:L.length<=100000)(e:∀c∈L,c.length<=100000):CkM L.length (lK L):=by
 obtain⟨g,_⟩:=CkG.new L b L.length (SY _);have d:=oV L b L.length (SY _);refine⟨XS d,λq a=>xW (by have:=g.lo q a;omega) (by have:=g.hi q a;have:=g.t;omega),?_⟩;have:∀i,i<=L.length->∀q∈(dM L i).m,q.2.length<=100000:=by
  intro i
  induction i with
  |zero=>intro _ q a;exact absurd a V6
  |succ i f=>
   intro hi q a;rw[lL L b (show i<L.length by omega)]at a;rcases Te.1 a with a|a
   .exact f (by omega) q a
   .rw[TA]at a;subst a;exact e _ (S5 _)
 exact this _ (SY _)
def JJ:Sch:=
 let b:Sch:=.fork [(10,.take 11 .done)]
 let f:Sch:=.fork [(9,b)]
 let a:Sch:=.fork [(5,.take 6 (.take 7 (.take 8 b)))]
 let c:Sch:=.fork [(5,.take 6 (.take 7 (.take 8 f))),(9,a)]
 let d:Sch:=.fork [(4,a)]
 let g:Sch:=.fork [(4,c),(9,d)]
 let e:Sch:=.fork [(0,a)]
 let h:Sch:=.fork [(0,c),(9,e)]
 let i:Sch:=.fork [(0,d),(4,e)]
 let j:Sch:=.fork [(0,g),(4,h),(9,i)]
 .take 1 (.take 2 (.take 3 j))
set_option maxRecDepth 16000 in
theorem Gu(v:Int)(L:List (List Int))(ss:List Stp)(hn:L.length+ss.length<=5000)(A:∀c∈L,c.length<=100000)(hs:∀s∈ss,s.lits.length<=100000∧s.hints.length<=1000):
 aj Tryz.prog 74 [.agg [ab v,.seq false 1 (L.map aq)],.seq false 4 (ss.map dX)] (λr=>r=.pv (.tup [ab (Gs v L ss).1,ab (Gs v L ss).2])):=by
 refine DO [7] [4,5] aD Tryz.func74 (λ_ _=>results_tmp2 rfl _ _ _) ?_;have E:=(Mp v L (by omega) (λc g=>by have:=A c g;omega)).mono (R':=λr _=>r=.pv (.tup [rK false (we v L),ab (cH v L).2])) λ_ _ h=>h.2;have k:we v L=if(cH v L).2≠0 then⟨[],0,false⟩else lK L:=rfl;have o:Gs v L ss=if(cH v L).2≠0 then(-1,(cH v L).2)else lN (lK L) ss 0:=rfl;generalize we v L=N at*;generalize Gs v L ss=D at*;generalize cH v L=F at*;obtain⟨G,B⟩:=F;simp only at*;simp;refine ai.introX (bE.pureM (p:=[]) (q:=[]) (zs:=[.agg [ab v,.seq false 1 (L.map aq)]]) E (by simp) rfl (by simp[fw]) (by simp) (by simp) ?_)
 by_cases c1:B=0
 rotate_left
 .rw[SX c1]at o;subst o;simp[c1]
 subst c1;rw[SU (by simp)]at k o;subst k;have u:=Gt L (by omega) A;have t:D=lN (lK L) (ss.drop 0) 0:=o;simp;refine ax.intro (S:=λ(x:Nat×Ck)=>⟨[(1,.pv (.seq false 4 (ss.map dX))),(6,.pv (.ptr 1 0)),(8,.pv (ab x.1))],[[.pv (ab v),.pv (.seq false 1 (L.map aq))],[.pv (.seq false 2 (x.2.m.map dE)),.pv (ab x.2.last),.pv (BL x.2.done)]]⟩) (λx=>x.1<=ss.length∧CkM (L.length+x.1) x.2∧D=lN x.2 (ss.drop x.1) x.1) (λx=>ss.length -x.1) (0,lK L) ?_ ⟨Tf _,u,t⟩ ?_
 .exact ah.keep (by simp) (by simp)
 rintro⟨i,c⟩ ⟨hi,g,a⟩;dsimp only at hi g a
 by_cases d:i<ss.length
 .have C:=dv i;have z:ss[i]?=some ss[i]:=SR d;have f:=hs _ (S5 d);have w:=(Ju c (g.ok (by omega)) (by have:=g.n;omega) ss[i] f.1 f.2).mono (R':=λr _=>r=.pv (.tup [rK false (jA c ss[i]).1,ab (jA c ss[i]).2])) λ_ _ h=>h.2;have j:=g.step f.1;rw[TG d,lN]at a;generalize H:jA c ss[i]=T at*;obtain⟨l,y⟩:=T;simp only at w j a;simp only[dX]at w;simp[d,z];refine aT.meet JJ ⟨[(1,.pv (.seq false 4 (ss.map dX))),(6,.pv (.ptr 1 0)),(8,.pv (ab i)),(9,.pv (.ptr 2 0)),(10,.pv (ab y))],[[.pv (ab v),.pv (.seq false 1 (L.map aq))],[.pv (.seq false 2 (c.m.map dE)),.pv (ab c.last),.pv (BL c.done)],[.pv (.seq false 2 (l.m.map dE)),.pv (ab l.last),.pv (BL l.done)]]⟩ (by kernel_rfl) ?_ ?_
  .simp[JJ,d,z,dX];and_intros
   all_goals
    refine ai.introX (bE.pureM (p:=[]) (q:=[]) (zs:=[rK false c,.agg [ab ss[i].kind,ab ss[i].id,.seq false 1 (ae ss[i].lits),.seq false 1 (ae ss[i].hints)]]) w (by simp) rfl (by simp[fw]) (by simp) (by simp) ?_);simp
    try and_intros
    all_goals exact ah.keep (by simp[dX]) (by simp)
  .by_cases e:y=0
   .rw[SU (by simp[e])]at a;simp[e];exact⟨(i+1,l),by(try dsimp only);omega,⟨by(try dsimp only);omega,j,a⟩,ah.to (by simp[C]) rfl (by simp) (by simp) (by simp)⟩
   .rw[SX e]at a;subst a;simp[e]
 .have:i=ss.length:=by omega
  subst this;rw[Tq (SY _),lN]at a;cases b:c.done
  .rw[b,SU (by simp)]at a;subst a;simp[b]
  .rw[b,SX rfl]at a;subst a;simp[b]
theorem JK{α:Type}:∀{m:List (Int×α)}{k:Int},(∀q∈m,q.1≠k)->lk m k=none
 |[],_,_=>rfl
 |(j,y)::m,k,h=>by
  rw[AX.lk,SU (h _ To)];exact JK λq a=>h q (Tl _ a)
theorem x4{α:Type}:∀{m:List (Int×α)},rL m->∀(k x:Int),lk (dl m k) x=if x=k then none else lk m x
 |[],_,k,x=>by
  rw[dl,AX.lk];split<;>rfl
 |(j,y)::m,h,k,x=>by
  obtain⟨h1,a⟩:=U6.1 h;rw[dl]
  by_cases c:j=k
  .rw[SX c];subst c
   by_cases e:x=j
   .subst e;rw[SX rfl];exact JK λq b=>by have:=h1 q b;simp only at this;omega
   .rw[SU e,AX.lk,SU (λe'=>e e'.symm)]
  .rw[SU c,AX.lk,AX.lk,x4 a k x]
   by_cases e:x=k
   .rw[SX e,SX e,SU (by omega)]
   .rw[SU e,SU e]
theorem Es:∀{m:List (Int×List Int)},rL m->∀k:Int,zZ m k=dl m k
 |[],_,_=>rfl
 |(j,y)::m,h,k=>by
  obtain⟨h1,b⟩:=U6.1 h;have a:=Es b k;unfold zZ at a⊢;rw[TO,dl]
  by_cases c:j=k
  .rw[SU (by simp[c]),SX c];exact Uz.2 λq d=>by have:=h1 q d;simp only at this;simp;omega
  .rw[SX (by simp[c]),SU c,a]
theorem JM:∀(ids:List Int)(m:List (Int×List Int)),rL m->((ids.Nodup∧∀x∈ids,(lk m x).isSome=true)->dZ m ids=(ids.foldl dl m,0))∧(¬(ids.Nodup∧∀x∈ids,(lk m x).isSome=true)->(dZ m ids).2=20)
 |[],m,_=>⟨λ_=>rfl,λh=>absurd ⟨Xh,λx hx=>absurd hx V6⟩ h⟩
 |id::ids,m,c=>by
  rw[dZ];cases e:(lk m id).isSome
  .rw[SX rfl];refine⟨λh=>?_,λ_=>rfl⟩;have:=h.2 id To;rw[e]at this;cases this
  .rw[SU (by simp),Es c,Vw];obtain⟨h1,f⟩:=JM ids (dl m id) (c.sublist (xY m id));have key:(ids.Nodup∧∀x∈ids,(lk (dl m id) x).isSome=true)↔((id::ids).Nodup∧∀x∈id::ids,(lk m x).isSome=true):=by
    rw[UA];constructor
    .rintro⟨a,b⟩;refine⟨⟨λhin=>?_,a⟩,λx hx=>?_⟩
     .have:=b id hin;rw[x4 c,SX rfl]at this;cases this
     .rcases Tx.1 hx with rfl|hx
      .exact e
      .have:=b x hx;rw[x4 c]at this;split at this
       .cases this
       .exact this
    .rintro⟨⟨a,b⟩,d⟩;refine⟨b,λx hx=>?_⟩;rw[x4 c,SU (λe':x=id=>a (e'▸hx))];exact d x (Tl _ hx)
   exact⟨λh=>h1 (key.2 h),λh=>f λh'=>h (key.1 h')⟩
theorem wq{zs:List Int}(hs:zs.Pairwise (·<=·)):∀j,j<=zs.length->(aL zs j).Pairwise (·<·)∧∀x,x∈aL zs j↔x∈zs.take j
 |0,_=>⟨by simp[aL],λx=>by simp[aL]⟩
 |j+1,h=>by
  obtain⟨h1,b⟩:=wq hs j (by omega);have f:zs.getD j 0=zs[j]:=by simp[show j<zs.length by omega]
  rw[aL,f,TW,SR (by omega),UO];have hp:=TB.1 hs
  by_cases d:j=0∨zs[j]≠zs.getD (j -1) 0
  .rw[SX d];refine⟨VB.2 ⟨h1,by simp,λy hy z hz=>?_⟩,λx=>by rw[Te,Te,b]⟩;rw[TA]at hz;subst hz;obtain⟨k,hk,rfl⟩:=Tc ((b y).1 hy);rw[S6]at hk;rw[Uh];rcases d with rfl|d
   .omega
   .have a:zs.getD (j -1) 0=zs[j -1]:=by simp[show j -1<zs.length by omega]
    rw[a]at d;have i:zs[k]<=zs[j -1]:=by
     by_cases e:k=j -1
     .subst e;exact Vn _
     .exact hp k (j -1) (by omega) (by omega) (by omega)
    have l:zs[j -1]<=zs[j]:=hp (j -1) j (by omega) (by omega) (by omega);omega
  .rw[SU d];refine⟨h1,λx=>?_⟩;rw[b,Te,TA];refine⟨.inl,λhx=>hx.elim id λe=>?_⟩;have hj:j≠0:=λe=>d (.inl e);have a:zs.getD (j -1) 0=zs[j -1]:=by simp[show j -1<zs.length by omega]
   have c:zs[j]=zs[j -1]:=Ts λg=>d (.inr (by rw[a];exact g));rw[e,c];exact Uj.2 ⟨j -1,by omega,rfl⟩
theorem rn{zs:List Int}:∀j,j<=zs.length->(aL zs j).length=j->aL zs j=zs.take j
 |0,_,_=>by simp[aL]
 |j+1,h,a=>by
  have b:zs.getD j 0=zs[j]:=by simp[show j<zs.length by omega]
  have:=iT zs j;rw[aL]at a⊢
  by_cases d:j=0∨zs.getD j 0≠zs.getD (j -1) 0
  .rw[SX d]at a⊢;rw[Ta,Ue]at a;rw[rn j (by omega) (by omega),b,TW,SR (by omega)];rfl
  .rw[SU d]at a;omega
theorem oc{zs:List Int}(hs:zs.Pairwise (·<·)):∀j,j<=zs.length->(aL zs j).length=j
 |0,_=>rfl
 |j+1,h=>by
  have c:=oc hs j (by omega);have b:zs.getD j 0=zs[j]:=by simp[show j<zs.length by omega]
  rw[aL,SX,Ta,c]
  .rfl
  .by_cases e:j=0
   .exact .inl e
   .right;have a:zs.getD (j -1) 0=zs[j -1]:=by simp[show j -1<zs.length by omega]
    have:=TB.1 hs (j -1) j (by omega) (by omega) (by omega);rw[b,a];omega
theorem CJ(ids:List Int):¬(cJ (cD ids)).length<ids.length↔ids.Nodup:=by
 have hp:(cD ids).Perm ids:=Va _ _;have e:=hp.length_eq;have hs:=tQ ids;constructor
 .intro h;have h1:=iT (cD ids) (cD ids).length;unfold cJ at h;have d:=rn (zs:=cD ids) _ (SY _) (by omega);have c:=(wq hs _ (SY _)).1;rw[d,Tw]at c;exact hp.nodup_iff.1 (c.imp λh=>by omega)
 .intro h;have hn:=hp.nodup_iff.2 h;have:=oc ((List.pairwise_and_iff.2 ⟨hs,hn⟩).imp λ⟨a,b⟩=>by omega) _ (SY (cD ids).length);unfold cJ;omega
theorem Am{c:Ck}{ids:List Int}(hi:∀x∈ids,1<=x∧x<=20000000):dropB c ids=false↔(ids.Nodup∧∀x∈ids,(lk c.m x).isSome=true):=by
 unfold dropB jK;rw[Vp,Un,CJ,Bool.not_eq_false',TE];refine and_congr_right λ_=>Xp λx=>Xp λhx=>?_;rw[Jr (hi x hx).1 (hi x hx).2]
theorem Et{l:List Int}{lo:Int}(h:gp l lo=true):∀x∈l,lo<=x∧x<=10000000:=by
 unfold gp at h;rw[S9,TU,UE]at h;intro x hx;have:=h.2 x hx;unfold uO at this;simp at this;omega
theorem An{c:Ck}(a:CkG c):Mf c=dx c:=
 Jq (VS _) (Ux.2 (a.rs.imp λh=>XR h))
theorem Gv{l:List Nat}{b:Nat}(h:l.Nodup)(a:∀x,x∈l↔x=b):l=[b]:=by
 match l,h,a with
 |[],_,a=>exact absurd ((a b).2 rfl) V6
 |[x],_,a=>rw[(a x).1 To]
 |x::y::l,h,a=>
  have h1:=(a x).1 To;have c:=(a y).1 (Tl _ To);subst h1;subst c;exact absurd To (UA.1 h).1
theorem Nn{l:List Int}(hs:l.Pairwise (·<·)){X:Int}{j:Nat}(hj:j<l.length)(e:l[j]=X):N7 l X=j∧O3 l X=true:=by
 have hp := TB.1 hs; have h1 : N7 l X = j := N8 (XQ hj) (λ k hk h => by have := hp k j hk hj h; omega) (λ k hk h => by
  by_cases a:k=j
  .subst a;omega
  .have:=hp j k hj hk (by omega);omega)
 refine⟨h1,?_⟩;unfold O3;rw[h1,SR hj,e];simp
theorem Oe{l:List Int}(hs:l.Pairwise (·<·))(X:Int):((List.range l.length).filter λj:Nat=>decide (l.getD j 0=X))=if O3 l X=true then[N7 l X]else[]:=by
 have b:∀j (h:j<l.length),l.getD j 0=l[j]:=λj h=>by simp[h]
 by_cases c:O3 l X=true
 .rw[SX c];apply Gv
  .exact List.nodup_range.filter _
  .intro x;rw[TJ,Ug,Vy];constructor
   .rintro⟨h1,a⟩;rw[b x h1]at a;exact(Nn hs h1 a).1.symm
   .rintro rfl;unfold O3 at c;have:=WN c;obtain⟨h1,a⟩:=SQ.1 this;exact⟨h1,by rw[b _ h1,a]⟩
 .rw[SU c];rw[US];intro j hj h;rw[Ug]at hj;rw[Vy,b j hj]at h;exact c (Nn hs hj h).2
theorem Mr{c:Ck}(a:CkG c)(g:List Int)(m:List (Int×List (List Int))):(qL c g (dx c).length).foldl (λm e=>pt m e.1 e.2) m=Jg c m g:=by
 have hs:(dx c).Pairwise (·<·):=Ux.2 a.rs;unfold qL Jg;rw[Oe hs,An a];split<;>rfl
theorem Gw{c:Ck}(b:CkG c)(a:List (List Int)):CA (Ae c a)=Jh c a:=by
 unfold CA Ae lZ Jh;rw[Tw];generalize([]:List (Int×List (List Int)))=m
 induction a generalizing m with
 |nil=>rfl
 |cons g a d=>
  rw[Tn,VF,VW,Mr b,d,Vw]
theorem Gx{c:Ck}(a:CkG c)(lits hints:List Int):uR c lits hints=xU c lits hints:=by
 unfold uR xU;rw[An a,Gw a]
theorem CK(c:Ck){ids:List Int}(h:∀x∈ids,-10000000<=x∧x<=10000000):mT c ids=jK c ids:=by
 unfold mT jK;apply W8.2;rw[TE,TE];refine Xp λx=>Xp λhx=>?_;have:=h x hx;have e:qI x=Cw x:=by
  unfold qI Cw;rw[ao (by omega) (by omega)];split
  .rw[SX (by omega)]
  .rw[SU (by omega)]
 rw[e]
theorem CL{s:Stp}(h:fQ s=true):(∀x∈s.hints,-10000000<=x∧x<=10000000)∧(s.kind=2->∀x∈s.hints,1<=x∧x<=10000000):=by
 unfold fQ at h
 by_cases a:s.kind=1
 .rw[SX a]at h;simp only[S9,Th]at h;exact⟨Et h.2.2.2,λk=>by omega⟩
 .rw[SU a]at h
  by_cases b:s.kind=2
  .rw[SX b]at h;simp only[S9,Th]at h;have:=Et h.2.2.2;exact⟨λx hx=>by have:=this x hx;omega,λ_=>this⟩
  .rw[SU b]at h;cases h
theorem Gy{c:Ck}(g:CkG c)(s:Stp):jA c s=dY c s:=by
 unfold jA dY
 by_cases a:fQ s=true
 rotate_left
 .have e:zV [s]=2:=by rw[mS,SU a]
  rw[SX (by simpa using a),e,SX (by decide)]
 have e:zV [s]=0:=by rw[mS,SX a]
 have hz:¬((0:Int)≠0):=by decide
 rw[SU (by rw[a];decide),e,SU hz];obtain⟨h1,n⟩:=CL a
 by_cases d:s.kind=2
 .rw[SX d,SX d];obtain⟨j,k⟩:=JM s.hints c.m g.rs;have i:=Am (c:=c) (ids:=s.hints) λx hx=>by have:=n d x hx;omega
  unfold tO v8 tN;cases b:dropB c s.hints
  .rw[j (i.1 b),SU hz,SU (by decide),SU (by decide),Tw]
  .have:=k λh=>by rw[i.2 h]at b;cases b
   rw[this,SX (by decide),SX rfl,SX rfl]
 .rw[SU d,SU d];unfold Ji;rw[CK c h1,Gx g]
  by_cases f:s.id<=c.last
  .rw[SX f,SX f]
  rw[SU f,SU f];have nh:=se a;have hp:qE c s.id s.lits=⟨c.m++[(s.id,s.lits)],s.id,c.done||decide (s.lits.length=0)⟩:=by
   have:=(g.put (id:=s.id) (l:=s.lits) (by omega) (by omega)).1;unfold qE at this⊢;simp only at this;rw[this]
  rw[hp]
theorem wr:∀(ss:List Stp)(c:Ck)(i:Nat),CkG c->lN c ss i=tU c ss i
 |[],_,_,_=>rfl
 |s::ss,c,i,a=>by
  rw[lN,tU,Gy a]
  by_cases h:(dY c s).2=0
  .rw[SU (by simp[h]),SU (by simp[h])];exact wr ss _ _ (CC a h).1
  .rw[SX h,SX h]
theorem JN(v:Int){L:List (List Int)}(a:L.length<=100000)(ss:List Stp):Gs v L ss=Mi v L ss:=by
 unfold Gs Mi;have b:CkG (lK L):=(CkG.new L a L.length (SY _)).1;rw[wr ss _ _ b]
end Go.AX