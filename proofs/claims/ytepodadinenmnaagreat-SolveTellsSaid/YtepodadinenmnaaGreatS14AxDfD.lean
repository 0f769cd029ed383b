/-
  Contracts: slices.Compact of numbers; and what follows.
-/
import Derived.Test.YtepodadinenmnaaGreatS14AxRfA
import Derived.Test.YtepodadinenmnaaGreatS14AxEvC
import Derived.Test.YtepodadinenmnaaGreatAxOw
import Derived.Test.YtepodadinenmnaaGreatS14AxHpP
import Derived.Test.YtepodadinenmnaaGreatS14AxMovR
set_option linter.unusedSimpArgs false
namespace Go.AX
open Go.Proofs
def aL(zs:List Int):Nat->List Int
 |0=>[]
 |j+1=>if j=0∨zs.getD j 0≠zs.getD (j -1) 0 then aL zs j++[zs.getD j 0]else aL zs j
def cJ(zs:List Int):List Int:=aL zs zs.length
theorem iT(zs:List Int):∀j,(aL zs j).length<=j
 |0=>SY _
 |j+1=>by
  have:=iT zs j;rw[aL];split
  .rw[Ta,Ue];omega
  .omega
theorem te(zs:List Int):∀j,0<j->0<(aL zs j).length
 |0,h=>by omega
 |1,_=>by rw[aL,SX (.inl rfl)];simp
 |j+2,_=>by
  have:=te zs (j+1) (by omega);rw[aL];split
  .rw[Ta];omega
  .exact this
def NQ(zs:List Int)(k:Option Nat)(rows:List (List PV)):Prop:=k=some (cJ zs).length∧rows=aC (cJ zs++List.replicate (zs.length -(cJ zs).length) 0)
theorem tf(zs:List Int)(W:zs.length<=1000000):o8 Tryz.prog 140 1 (aC zs) [] (NQ zs):=by
 refine o8.ofInts (by kernel_rfl) trivial trivial (λz pre a cp P R=>?_) (λQ q cp=>?_)
 .refine mF aD Tryz.func140 ?_
  by_cases c2:zs.length<2
  .have r:(zs.length:Int)<2:=by omega
   simp[c2,r];have h1:zs.length=1:=by
    have:=UG.2 z;omega
   have G:cJ zs=zs:=by
    unfold cJ;rw[h1,aL,SX (.inl rfl),aL,TI]
    match zs,h1 with
    |[x],_=>rfl
   exact⟨some zs.length,zs,⟨by rw[G],by rw[G];simp⟩,rfl,λm w=>by cases w;exact SY _,rfl,rfl⟩
  have r:¬(zs.length:Int)<2:=by omega
  simp[c2,r];refine ax.intro (S:=λ(k:Nat)=>⟨[(0,.pv (.bsl 0 1 pre.length zs.length cp)),(3,.pv (ab k))],[blk pre zs a]⟩) (λk=>1<=k∧k<=zs.length∧aL zs k=zs.take k) (λk=>zs.length -k) 1 ?_ ⟨SY _,by omega,?_⟩ ?_
  .exact ah.to (by simp) rfl (by simp) (by simp) (by simp[fE])
  .rw[aL,SX (.inl rfl),aL,TI]
   match zs,z with
   |x::l,_=>rfl
  .rintro k ⟨h1,G,u⟩;have e:=eF pre zs a
   by_cases ck:k<zs.length
   .have T:=dv k;have I:aX ((k:Int) -1)=((k -1:Nat):Int):=by rw[ao (by omega) (by omega)];omega
    have g:=lr pre zs a (i:=k) ck;have o:=lr pre zs a (i:=k -1) (by omega);have E:zs.getD k 0=zs[k]:=by simp[ck]
    have F:zs.getD (k -1) 0=zs[k -1]:=by simp[show k -1<zs.length by omega]
    have f:aL zs (k+1)=if zs[k]≠zs[k -1]then aL zs k++[zs[k]]else aL zs k:=by
     rw[aL,E,F]
     by_cases d:zs[k]≠zs[k -1]
     .rw[SX (.inr d),SX d]
     .rw[SU (λh=>h.elim (by omega) d),SU d]
    simp[ck,I,g,o,e];refine⟨by omega,by omega,by omega,λd=>⟨⟨by omega,by omega⟩,?_⟩,λd=>⟨k+1,by(try dsimp only);omega,⟨by omega,by omega,?_⟩,ah.to (by simp[T]) rfl (by simp) (by simp) (by simp[fE])⟩⟩;rotate_left
    .rw[f,SX d,u,TW,SR ck];rfl
    rw[SU (λh=>h d),u]at f;refine ax.intro (S:=λ(y:Nat×List Int)=>⟨[(0,.pv (.bsl 0 1 pre.length zs.length cp)),(3,.pv (ab ((aL zs (k+y.1)).length:Nat))),(4,.pv (.bsl 0 1 (pre.length+k) (zs.length -k) (cp -k))),(5,.pv (ab y.1))],[blk pre y.2 a]⟩)
     (λy=>1<=y.1∧k+y.1<=zs.length∧(aL zs (k+y.1)).length<k+y.1∧y.2.length=zs.length∧y.2.take (aL zs (k+y.1)).length=aL zs (k+y.1)∧y.2.drop (k+y.1 -1)=zs.drop (k+y.1 -1)) (λy=>zs.length -y.1) (1,zs) ?_ ?_ ?_
    .refine ah.to ?_ rfl (by simp) (by simp) (by simp[fE]);have:(aL zs (k+1)).length=k:=by rw[f,S6];omega
     simp[this]
    .have:(aL zs (k+1)).length=k:=by rw[f,S6];omega
     refine⟨SY _,by dsimp only;omega,by dsimp only;omega,rfl,?_,rfl⟩;dsimp only;rw[this,f]
    .rintro⟨j,b⟩ ⟨U,V,i3,K,B,C⟩;dsimp only at U V i3 K B C;have e:=eF pre b a
     by_cases L:k+j<zs.length
     .have N:(j:Int)<((zs.length -k:Nat):Int):=by omega
      have H:aX ((j:Int) -1)=((j -1:Nat):Int):=by rw[ao (by omega) (by omega)];omega
      have v:=dv j;have p:∀i (h:i<zs.length),k+j -1<=i->b[i]'(by omega)=zs[i]:=by
       intro i h hi;have:=Vm (λl=>l[i -(k+j -1)]?) C;simp only[Ub]at this;rw[show k+j -1+(i -(k+j -1))=i by omega,SR (by omega),SR h]at this;exact VH this
      have g:=lr pre b a (i:=k+j) (by omega);have o:=lr pre b a (i:=k+(j -1)) (by omega);rw[p (k+j) L (by omega),←U4]at g;have O:b[k+(j -1)]'(by omega)=zs[k+(j -1)]:=p _ (by omega) (by omega);rw[O,←U4]at o;have E:zs.getD (k+j) 0=zs[k+j]:=by simp[L]
      have F:zs.getD (k+j -1) 0=zs[k+(j -1)]:=by
       have:k+j -1=k+(j -1):=by omega
       rw[this];simp[show k+(j -1)<zs.length by omega]
      have c:aL zs (k+(j+1))=if zs[k+j]≠zs[k+(j -1)]then aL zs (k+j)++[zs[k+j]]else aL zs (k+j):=by
       rw[←U4,aL,E,F]
       by_cases d:zs[k+j]≠zs[k+(j -1)]
       .rw[SX (.inr d),SX d]
       .rw[SU (λh=>h.elim (by omega) d),SU d]
      have s:j<zs.length -k:=by omega
      have D:j -1<zs.length -k:=by omega
      simp[s,D,H,g,o,e];refine⟨by omega,by omega,λd=>?_,λd=>?_⟩
      .rw[SX d]at c;have J:=dv ((aL zs (k+j)).length);have A:=xt pre b a (i:=(aL zs (k+j)).length) zs[k+j] (by omega);refine⟨by omega,by omega,by omega,(j+1,b.set (aL zs (k+j)).length zs[k+j]),by(try dsimp only);omega,⟨by(try dsimp only);omega,by(try dsimp only);omega,?_,by(try dsimp only);rw[Tt];exact K,?_,?_⟩,ah.to (by simp[v,J,c]) (by simp[A]) (by simp) (by simp) (by simp[fE])⟩
       .dsimp only;rw[c,Ta,Ue];omega
       .dsimp only;rw[c,Ta,Ue,TW,Ws (SY _),B,TH (by omega)];rfl
       .dsimp only;rw[V2 (by omega)];have:=Vm (List.drop 1) C;rw[Ui,Ui]at this
        rwa [show k+j -1+1=k+(j+1) -1 by omega]at this
      .rw[SU (λh=>h d)]at c;exact⟨(j+1,b),by(try dsimp only);omega,⟨by(try dsimp only);omega,by(try dsimp only);omega,by(try dsimp only);rw[c];omega,K,by(try dsimp only);rw[c];exact B,by
        dsimp only;have:=Vm (List.drop 1) C;rw[Ui,Ui]at this
        rwa [show k+j -1+1=k+(j+1) -1 by omega]at this⟩,ah.to (by simp[v,c]) rfl (by simp) (by simp) (by simp[fE])⟩
     .have hj:k+j=zs.length:=by omega
      have s:¬j<zs.length -k:=by omega
      rw[hj]at i3 B;have M:=te zs zs.length (by omega);have t:=tc pre b a (i:=(aL zs zs.length).length) (n:=zs.length -(aL zs zs.length).length) 0 (by omega);simp[s,hj,e];refine⟨⟨by omega,by omega⟩,by omega,by omega,⟨by omega,by omega⟩,some (cJ zs).length,cJ zs++List.replicate (zs.length -(cJ zs).length) 0,⟨rfl,rfl⟩,?_,λm w=>?_,rfl,?_⟩
      .unfold cJ;simp;omega
      .cases w;unfold cJ;omega
      .unfold cJ;rw[t,B,Tq (by omega),Ut]
   .have:k=zs.length:=by omega
    subst this;simp;rw[Tw]at u;exact⟨some zs.length,zs,⟨by unfold cJ;rw[u],by unfold cJ;rw[u];simp⟩,rfl,λm w=>by cases w;exact SY _,rfl,rfl⟩
 .subst Q;refine ap aD Tryz.func140 ?_;simp;exact⟨some 0,⟨rfl,rfl⟩,.inr rfl,rfl⟩
theorem ga{P:Program}{fn:Func}(a:fn.results=#[]) (tmps:Array Value) (w:World):(results fn tmps).run P w=.ok (.tuple (([]:List Nat).map λt=>tmps.getD t undef).toArray) w:=by
 simp[results,a]
structure HS where
  sc:List Int
  row:List Int
  pl:List Int
def au(q:HS):List SV:=[.own true 1 (ae q.sc),.own true 1 (ae q.row),.own true 1 (ae q.pl)]
def ep(q:HS):List PV:=[.seq false 1 (ae q.sc),.seq false 1 (ae q.row),.seq false 1 (ae q.pl)]
theorem gZ(l:List Int)(i:Nat)(x:Int):(ae l).set i [ab x]=ae (l.set i x):=by simp[ae,XB]
theorem sg(q:HS)(a:0<q.sc.length):aj Tryz.prog 174 [.iptr 3 [ep q] 0 0] (λr=>r=.pv (BL true)):=by
 refine ap aD Tryz.func174 ?_;simp[ep,a]
def um(q:HS)(v:Int):Bool:=decide (1<=v)&&decide (v<q.sc.length)
theorem J8(q:HS)(a:0<q.sc.length)(v:Int):aj Tryz.prog 212 [.iptr 3 [ep q] 0 0,ab v] (λr=>r=.pv (BL (um q v))):=by
 refine ap aD Tryz.func212 ?_;have h1:=sg q a;simp only[ep]at h1;simp[ep];refine ai.intro h1 ?_;simp[um]
def Mz(q:HS)(v:Int):Int:=if um q v then 0 else 10
theorem EE(q:HS)(b:0<q.sc.length)(v:Int):aj Tryz.prog 209 [.iptr 3 [ep q] 0 0,ab v] (λr=>r=.pv (ab (Mz q v))):=by
 refine ap aD Tryz.func209 ?_;have h1:=sg q b;have a:=J8 q b v;simp only[ep]at h1 a;simp[ep];refine ai.intro h1 ?_;simp;refine ai.intro a ?_;simp[Mz]
theorem ya(q:HS)(e:0<q.sc.length)(d:q.pl.length=q.sc.length)(v:Int):aj Tryz.prog 132 [.iptr 3 [ep q] 0 0,ab v] (λr=>r=.pv (BL (um q v&&decide (0<=q.pl.getD v.toNat 0)))):=by
 refine ap aD Tryz.func132 ?_;have a:=J8 q e v;simp only[ep]at a;simp[ep];refine ai.intro a ?_
 by_cases c:um q v=true
 .have c2:=c;simp only[um,S9,Th]at c2;have b:v.toNat<q.pl.length:=by omega
  simp[c,b];omega
 .simp[c]
theorem EH(q:HS)(a:0<q.sc.length):aj Tryz.prog 100 [.iptr 3 [ep q] 0 0] (λr=>r=.pv (ab q.row.length)):=by
 refine ap aD Tryz.func100 ?_;have h1:=sg q a;simp only[ep]at h1;simp[ep];refine ai.intro h1 ?_;simp
def b7(q:HS):Int:=q.row.getD 0 0
theorem J9(q:HS)(a:0<q.sc.length):aj Tryz.prog 175 [.iptr 3 [ep q] 0 0] (λr=>r=.pv (ab (b7 q))):=by
 refine ap aD Tryz.func175 ?_;have h1:=EH q a;simp only[ep]at h1;simp[ep];refine ai.intro h1 ?_;simp[b7];cases b:q.row with
 |nil=>simp
 |cons x xs=>simp
theorem un(q:HS)(v w:Nat)(a:v<q.sc.length)(b:w<q.sc.length):aj Tryz.prog 251 [.iptr 3 [ep q] 0 0,ab v,ab w] (λr=>r=.pv (BL (kj q.sc v w))):=by
 refine ap aD Tryz.func251 ?_;simp[ep,a,b,kj];constructor
 .intro c;simp[c]
 .intro c;simp[c]
theorem si(h:List (List SV))(b:Nat)(q:HS)(d:h[b]?=some (au q))(i v:Nat)(hi:i<q.row.length)(e:v<q.pl.length):
 aA Tryz.prog 176 [.ptr b 0,ab i,ab v] h (λr h'=>r=.pv (.tup [])∧h'=h.set b (au ⟨q.sc,q.row.set i v,q.pl.set v i⟩)):=by
 refine vz [] aD Tryz.func176 (λ_ _=>ga rfl _ _) ?_;obtain⟨c,a⟩:=SQ.1 d;simp[a,c,au,hi,e,gZ]
theorem g8{h:List (List SV)}{b:Nat}{x:List SV}(a:h[b]?=some x):h.set b x=h:=by
 apply Uf;intro i;rw[Tz];split
 .rename_i e;subst e;rw[SX (SQ.1 a).1,a]
 .rfl
theorem p7{h:List (List SV)}{b:Nat}(a:b<h.length)(q:HS)(n:Nat):bA (h.set b (au q)) (n+1) b 0=.iptr 3 [ep q] 0 0:=by
 simp[bA,a,au,ep,frzC]
theorem gG{h:List (List SV)}{b:Nat}{q:HS}(d:h[b]?=some (au q))(n:Nat):bA h (n+1) b 0=.iptr 3 [ep q] 0 0:=by
 obtain⟨c,a⟩:=SQ.1 d;simp[bA,c,a,au,ep,frzC]
theorem gd{h:List (List SV)}{b:Nat}(a:b<h.length)(x:List SV):(h.set b x)[b]?=some x:=by simp[a]
set_option maxRecDepth 16000 in
theorem Ka(h:List (List SV))(b:Nat)(q:HS)(F:h[b]?=some (au q))(i:Nat)(hi:i<q.row.length)(hin:uG q.row q.pl.length)(O:q.pl.length=q.sc.length)(hs:q.row.length<=1000000):
 aA Tryz.prog 210 [.ptr b 0,ab i] h (λr h'=>r=.pv (.tup [])∧h'=h.set b (au ⟨q.sc,(rq q.sc (q.row.getD i 0) i q.row q.pl).1,(rq q.sc (q.row.getD i 0) i q.row q.pl).2⟩)):=by
 refine vz [] aD Tryz.func210 (λ_ _=>ga rfl _ _) ?_;obtain⟨a,y⟩:=SQ.1 F;have M:=hin (q.row.getD i 0) (bj hi);obtain⟨v,B⟩:=Uo (show 0<=q.row.getD i 0 by omega);have f:q.row.getD i 0=(v:Int):=B;have C:q.row[i]=(v:Int):=by rw[←f];simp[hi]
 rw[f]at M⊢;have N:v<q.pl.length:=by omega
 simp[y,a,au,hi,C];refine ax.intro (S:=λ(x:Nat×List Int×List Int)=>⟨[(0,.pv (.ptr b 0)),(1,.pv (ab x.1)),(4,.pv (.fn (.func 251) [.ptr b 0] [])),(5,.pv (ab v))],h.set b (au ⟨q.sc,x.2.1,x.2.2⟩)⟩)
  (λx=>x.1<x.2.1.length∧x.2.1.length=q.row.length∧x.2.2.length=q.pl.length∧uG x.2.1 q.pl.length∧rq q.sc v x.1 x.2.1 x.2.2=rq q.sc v i q.row q.pl) (λx=>x.1) (i,q.row,q.pl) ?_ ?_ ?_
 .exact ah.keep (by simp) (g8 F).symm
 .exact⟨hi,rfl,rfl,hin,rfl⟩
 .rintro⟨j,row,pl⟩ ⟨t,H,I,E,w⟩;dsimp only at t H I E w;rcases Vo j with h0|h0
  .subst h0;have A:0<row.length:=t;simp[a,au];refine am.intro (si _ b ⟨q.sc,row,pl⟩ (gd a _) 0 v A (by dsimp only;omega)) ?_;rintro _ _ ⟨rfl,rfl⟩;rw[←w];unfold rq;simp[au]
  .obtain⟨k,rfl⟩:∃k,j=k+1:=⟨j -1,by omega⟩;obtain⟨p,hp,K⟩:∃p:Nat,Int.tdiv (k:Int) 2=(p:Int)∧p=k/2:=⟨k/2,rfl,rfl⟩;have D:aX ((k:Nat):Int)=(k:Int):=ao (by omega) (by omega);have g:aX ((p:Nat):Int)=(p:Int):=ao (by omega) (by omega);have d:p<row.length:=by omega
   have G:=E (row.getD p 0) (bj d);obtain⟨u,L⟩:=Uo (show 0<=row.getD p 0 by omega);have n:row.getD p 0=(u:Int):=L;have o:row[p]=(u:Int):=by rw[←n];simp[d]
   have z:=un ⟨q.sc,row,pl⟩ v u (by dsimp only;omega) (by dsimp only;omega);simp[a,au,D,hp,g,d,o];rw[←au.eq_1 ⟨q.sc,row,pl⟩,p7 a];refine am.introP z ?_;rw[au.eq_1 ⟨q.sc,row,pl⟩];have m:=si (h.set b (au ⟨q.sc,row,pl⟩)) b ⟨q.sc,row,pl⟩ (gd a _) (k+1) v t (by dsimp only;omega);have e:=si (h.set b (au ⟨q.sc,row,pl⟩)) b ⟨q.sc,row,pl⟩ (gd a _) (k+1) u t (by dsimp only;omega)
   push_cast at m e
   have s:rq q.sc v (k+1) row pl=if kj q.sc v u=true then rq q.sc v p (row.set (k+1) u) (pl.set u (k+1:Nat))else(row.set (k+1) v,pl.set v (k+1:Nat)):=by
    rw[rq];have J:(k+1 -1)/2=p:=by omega
    simp only[J,n]
    by_cases c:kj q.sc v u=true
    .rw[dif_pos ⟨by omega,c⟩,SX c];rfl
    .rw[dif_neg (λh=>c h.2),SU c];rfl
   cases l:kj q.sc v u with
   |false=>
    simp[a,au];refine am.intro m ?_;rintro _ _ ⟨rfl,rfl⟩;rw[←w,s,l];simp[au]
   |true=>
    simp[a,au,D,hp,g,d,o];refine am.intro e ?_;rintro _ _ ⟨rfl,rfl⟩;simp[D,hp,g];refine⟨(p,row.set (k+1) u,pl.set u (k+1:Nat)),by dsimp only;omega,⟨by dsimp only;simp;omega,by simpa using H,by simpa using I,?_,?_⟩,ah.keep ?_ ?_⟩
    .intro x hx;rcases U2 hx with hx|hx
     .exact E x hx
     .omega
    .rw[←w,s,l];rfl
    .simp
    .simp[au]
theorem rr(q:HS)(v w:Int)(e:0<=v∧v<q.sc.length)(f:0<=w∧w<q.sc.length):aj Tryz.prog 251 [.iptr 3 [ep q] 0 0,ab v,ab w] (λr=>r=.pv (BL (kj q.sc v w))):=by
 obtain⟨a,b⟩:=Uo e.1;obtain⟨c,d⟩:=Uo f.1;have:=un q a c (by omega) (by omega);rw[b,d];exact this
theorem Au(h:List (List SV))(b:Nat)(q:HS)(d:h[b]?=some (au q))(i:Nat)(v:Int)(hi:i<q.row.length)(e:0<=v∧v<q.pl.length):
 aA Tryz.prog 176 [.ptr b 0,ab i,ab v] h (λr h'=>r=.pv (.tup [])∧h'=h.set b (au ⟨q.sc,q.row.set i v,q.pl.set v.toNat i⟩)):=by
 obtain⟨a,c⟩:=Uo e.1;have:=si h b q d i a hi (by omega);rw[c];exact this
def Kb(sc row:List Int)(v:Int)(i:Nat):Int×Nat:=if 2*i+1<row.length∧kj sc (row.getD (2*i+1) 0) v=true then(row.getD (2*i+1) 0,2*i+1)else(v,i)
def EK(sc row:List Int)(v:Int)(i:Nat):Nat->Int×Nat
 |0=>(v,i)
 |1=>Kb sc row v i
 |_=>fp sc row v i
theorem MA(sc row:List Int)(v:Int)(i:Nat):fp sc row v i=if 2*i+2<row.length∧kj sc (row.getD (2*i+2) 0) (Kb sc row v i).1=true then(row.getD (2*i+2) 0,2*i+2)else Kb sc row v i:=rfl
theorem Kc{sc row:List Int}{v:Int}{i n:Nat}(hin:uG row n)(a:1<=v∧v<n)(hi:i<row.length):1<=(Kb sc row v i).1∧(Kb sc row v i).1<n∧(Kb sc row v i).2<row.length:=by
 unfold Kb;split
 .rename_i c;have:=hin _ (bj c.1);exact⟨this.1,this.2,c.1⟩
 .exact⟨a.1,a.2,hi⟩
theorem Av{sc row:List Int}{v:Int}{i n:Nat}(hin:uG row n)(a:1<=v∧v<n)(hi:i<row.length):1<=(fp sc row v i).1∧(fp sc row v i).1<n∧(fp sc row v i).2<row.length:=by
 rw[MA];split
 .rename_i c;have:=hin _ (bj c.1);exact⟨this.1,this.2,c.1⟩
 .exact Kc hin a hi
set_option maxRecDepth 16000 in
theorem Aw(h:List (List SV))(b:Nat)(q:HS)(M:h[b]?=some (au q))(i:Nat)(hi:i<q.row.length)(hin:uG q.row q.pl.length)(X:q.pl.length=q.sc.length)(hs:q.row.length<=1000000):
 aA Tryz.prog 177 [.ptr b 0,ab i] h (λr h'=>r=.pv (.tup [])∧h'=h.set b (au ⟨q.sc,(eh q.sc (q.row.getD i 0) q.row.length i q.row q.pl).1,(eh q.sc (q.row.getD i 0) q.row.length i q.row q.pl).2⟩)):=by
 refine vz [] aD Tryz.func177 (λ_ _=>ga rfl _ _) ?_;obtain⟨a,D⟩:=SQ.1 M;have N:=hin (q.row.getD i 0) (bj hi);have I:q.row[i]=q.row.getD i 0:=by simp[hi]
 generalize U:q.row.getD i 0=v at*;simp[D,a,au,hi,I];refine ax.intro (S:=λ(x:Nat×Nat×List Int×List Int)=>⟨[(0,.pv (.ptr b 0)),(1,.pv (ab x.2.1)),(4,.pv (ab v))],h.set b (au ⟨q.sc,x.2.2.1,x.2.2.2⟩)⟩)
  (λx=>x.2.1<x.2.2.1.length∧x.2.2.1.length=q.row.length∧x.2.2.2.length=q.pl.length∧uG x.2.2.1 q.pl.length∧x.2.2.1.length<=x.2.1+x.1∧eh q.sc v x.1 x.2.1 x.2.2.1 x.2.2.2=eh q.sc v q.row.length i q.row q.pl) (λx=>x.1) (q.row.length,i,q.row,q.pl) ?_ ?_ ?_
 .exact ah.keep (by simp) (g8 M).symm
 .exact⟨hi,rfl,rfl,hin,by dsimp only;omega,rfl⟩
 .rintro⟨n,j,row,pl⟩ ⟨C,O,P,w,V,s⟩;dsimp only at C O P w V s;have J:aX (2*(j:Int))=2*(j:Int):=ao (by omega) (by omega);have m:aX 1=1:=ao (by omega) (by omega);have o:aX 2=2:=ao (by omega) (by omega);obtain⟨c1,E⟩:∃c,c=2*j+1:=⟨_,rfl⟩;obtain⟨c2,F⟩:∃c,c=2*j+2:=⟨_,rfl⟩;have K:aX (2*(j:Int)+1)=(c1:Int):=by rw[ao (by omega) (by omega)];omega
  have L:aX (2*(j:Int)+2)=(c2:Int):=by rw[ao (by omega) (by omega)];omega
  have y:=Kc (sc:=q.sc) (i:=j) w N C;have z:=Av (sc:=q.sc) (i:=j) w N C;have A:Kb q.sc row v j=if c1<row.length∧kj q.sc (row.getD c1 0) v=true then(row.getD c1 0,c1)else(v,j):=by rw[E];rfl
  have B:fp q.sc row v j=if c2<row.length∧kj q.sc (row.getD c2 0) (Kb q.sc row v j).1=true then(row.getD c2 0,c2)else Kb q.sc row v j:=by rw[F];rfl
  simp[J,K,L];refine ax.intro (S:=λ(t:Nat)=>⟨[(0,.pv (.ptr b 0)),(1,.pv (ab j)),(4,.pv (ab v)),(5,.pv (ab (EK q.sc row v j t).1)),(6,.pv (ab (EK q.sc row v j t).2)),(24,.pv (.agg [ab c1,ab c2])),(25,.pv (ab t))],h.set b (au ⟨q.sc,row,pl⟩)⟩)
   (λt=>t<=2) (λt=>2 -t) 0 ?_ ?_ ?_
  .exact ah.keep (by simp[EK]) rfl
  .omega
  .intro t ht;have:t=0∨t=1∨t=2:=by omega
   rcases this with rfl|rfl|rfl
   .by_cases hcl:c1<row.length
    .have G:=w _ (bj hcl);have l:row[c1]=row.getD c1 0:=by simp[hcl]
     generalize T:row.getD c1 0=u at*;have p:=rr ⟨q.sc,row,pl⟩ u v (by dsimp only;omega) (by dsimp only;omega);simp[a,au,EK,hcl,l];rw[←au.eq_1 ⟨q.sc,row,pl⟩,p7 a];refine am.introP p ?_;rw[au.eq_1 ⟨q.sc,row,pl⟩];cases g:kj q.sc u v with
     |false=>
      simp;refine⟨1,by dsimp only;omega,by dsimp only;omega,ah.keep ?_ (by simp[au])⟩;simp[m,EK,A,g]
     |true=>
      simp[a,hcl,l];refine⟨1,by dsimp only;omega,by dsimp only;omega,ah.keep ?_ (by simp[au])⟩;simp[m,EK,A,g,hcl]
    .simp[a,au,EK,hcl];refine⟨1,by dsimp only;omega,by dsimp only;omega,ah.keep ?_ (by simp[au])⟩;simp[m,EK,A,hcl]
   .generalize f:Kb q.sc row v j=be at*;obtain⟨d,at'⟩:=be;dsimp only at y
    by_cases hcl:c2<row.length
    .have G:=w _ (bj hcl);have l:row[c2]=row.getD c2 0:=by simp[hcl]
     generalize T:row.getD c2 0=u at*;have p:=rr ⟨q.sc,row,pl⟩ u d (by dsimp only;omega) (by dsimp only;omega);simp[a,au,EK,hcl,l,f];rw[←au.eq_1 ⟨q.sc,row,pl⟩,p7 a];refine am.introP p ?_;rw[au.eq_1 ⟨q.sc,row,pl⟩];cases g:kj q.sc u d with
     |false=>
      simp;refine⟨2,by dsimp only;omega,by dsimp only;omega,ah.keep ?_ (by simp[au])⟩;simp[o,EK,B,g]
     |true=>
      simp[a,hcl,l];refine⟨2,by dsimp only;omega,by dsimp only;omega,ah.keep ?_ (by simp[au])⟩;simp[o,EK,B,g,hcl]
    .simp[a,au,EK,hcl,f];refine⟨2,by dsimp only;omega,by dsimp only;omega,ah.keep ?_ (by simp[au])⟩;simp[o,EK,B,hcl]
   .have hn:n≠0:=by omega
    obtain⟨n,rfl⟩:∃k,n=k+1:=⟨n -1,by omega⟩;rw[eh]at s;clear A B y;generalize f:fp q.sc row v j=be at*;obtain⟨d,at'⟩:=be;dsimp only at z s;have H:=Au (h.set b (au ⟨q.sc,row,pl⟩)) b ⟨q.sc,row,pl⟩ (gd a _) j d C (by dsimp only;omega);simp[a,au,EK,f];refine am.intro H ?_;rintro _ _ ⟨rfl,rfl⟩
    by_cases c:at'=j
    .rw[SX c]at s;simp[c,←s,au]
    .rw[SU c]at s;have c':¬(at':Int)=(j:Int):=by omega
     simp[c,c',a,au,z,gZ];have R:j<at':=by
      rcases At (sc:=q.sc) (row:=row) (v:=v) (i:=j)with⟨e,_⟩|⟨W,e,_,_,Q,_⟩
      .rw[f]at e;simp only[UH]at e;omega
      .rw[f]at e;simp only[UH]at e;omega
     refine⟨(n,at',(row.set j d).set at' v,pl.set d.toNat j),by dsimp only;omega,⟨?_,?_,?_,?_,?_,s⟩,ah.keep ?_ ?_⟩
     .dsimp only;simp only[Tt];omega
     .simpa using O
     .simpa using P
     .intro x hx;rcases U2 hx with hx|hx
      .rcases U2 hx with hx|hx
       .exact w x hx
       .omega
      .omega
     .dsimp only;simp only[Tt];omega
     .simp
     .simp[au]
end Go.AX
namespace Go.AX
set_option maxRecDepth 16000
open Go.Proofs
theorem ww{sc:List Int}{v:Int}:∀(n i:Nat)(row pl:List Int),(eh sc v n i row pl).1.length=row.length∧(eh sc v n i row pl).2.length=pl.length
 |0,i,row,pl=>by simp[eh]
 |n+1,i,row,pl=>by
  rw[eh];split
  .simp
  .obtain⟨h1,a⟩:=ww (sc:=sc) (v:=v) n (fp sc row v i).2 ((row.set i (fp sc row v i).1).set (fp sc row v i).2 v) (pl.set (fp sc row v i).1.toNat i);rw[h1,a];simp
theorem sj{row:List Int}{n i:Nat}{x:Int}(h:uG row n)(hx:1<=x∧x<n):uG (row.set i x) n:=by
 intro y hy;rcases U2 hy with hy|hy
 .exact h y hy
 .subst hy;exact hx
theorem Ax{sc:List Int}{v:Int}{m:Nat}(a:1<=v∧v<m):∀(n i:Nat)(row pl:List Int),i<row.length->uG row m->uG (eh sc v n i row pl).1 m
 |0,i,row,pl,hi,h=>sj h a
 |n+1,i,row,pl,hi,h=>by
  have hp:=Av (sc:=sc) (i:=i) h a hi;rw[eh];split
  .exact sj h ⟨hp.1,hp.2.1⟩
  .exact Ax a n _ _ _ (by simp only[Tt];exact hp.2.2) (sj (sj h ⟨hp.1,hp.2.1⟩) a)
def iZ(sc:List Int):Nat->List Int->List Int->List Int×List Int
 |0,row,pl=>(row,pl)
 |k+1,row,pl=>iZ sc k (eh sc (row.getD k 0) row.length k row pl).1 (eh sc (row.getD k 0) row.length k row pl).2
theorem GA(h:List (List SV))(b:Nat)(q:HS)(o:h[b]?=some (au q))(hin:uG q.row q.pl.length)(A:q.pl.length=q.sc.length)(hs:q.row.length<=1000000):
 aA Tryz.prog 248 [.ptr b 0] h (λr h'=>r=.pv (.tup [])∧h'=h.set b (au ⟨q.sc,(iZ q.sc (q.row.length/2) q.row q.pl).1,(iZ q.sc (q.row.length/2) q.row q.pl).2⟩)):=by
 refine vz [] aD Tryz.func248 (λ_ _=>ga rfl _ _) ?_;obtain⟨a,g⟩:=SQ.1 o;obtain⟨m,u,j⟩:∃p:Nat,Int.tdiv (q.row.length:Int) 2=(p:Int)∧p=q.row.length/2:=⟨q.row.length/2,rfl,rfl⟩;have w:aX (m:Int)=(m:Int):=ao (by omega) (by omega);have l:aX ((m:Int) -1)=(m:Int) -1:=ao (by omega) (by omega);rw[←j];simp[g,a,au,u,w,l];refine ax.intro (S:=λ(x:Nat×List Int×List Int)=>⟨[(0,.pv (.ptr b 0)),(2,.pv (ab ((x.1:Int) -1)))],h.set b (au ⟨q.sc,x.2.1,x.2.2⟩)⟩)
  (λx=>x.1<=x.2.1.length∧x.2.1.length=q.row.length∧x.2.2.length=q.pl.length∧uG x.2.1 q.pl.length∧iZ q.sc x.1 x.2.1 x.2.2=iZ q.sc m q.row q.pl) (λx=>x.1) (m,q.row,q.pl) ?_ ?_ ?_
 .exact ah.keep (by simp) (g8 o).symm
 .exact⟨by dsimp only;omega,rfl,rfl,hin,rfl⟩
 .rintro⟨k,row,pl⟩ ⟨y,z,t,e,f⟩;dsimp only at y z t e f;rcases Vo k with h0|h0
  .subst h0;rw[←f];simp[a,au,iZ]
  .obtain⟨k,rfl⟩:∃i,k=i+1:=⟨k -1,by omega⟩;have n:aX ((k:Int) -1)=(k:Int) -1:=ao (by omega) (by omega);have c:=Aw (h.set b (au ⟨q.sc,row,pl⟩)) b ⟨q.sc,row,pl⟩ (gd a _) k (by dsimp only;omega) (by dsimp only;rw[t];exact e) (by dsimp only;omega) (by dsimp only;omega);have s:=ww (sc:=q.sc) (v:=row.getD k 0) row.length k row pl;have d:=Ax (sc:=q.sc) (e _ (bj (show k<row.length by omega))) row.length k row pl (by omega) e;rw[iZ]at f;simp only[au]at c;simp[a,au];refine am.intro c ?_;rintro _ _ ⟨rfl,rfl⟩;simp[n];refine⟨(k,_,_),by dsimp only;omega,⟨?_,?_,?_,d,f⟩,ah.keep ?_ ?_⟩
   .dsimp only;omega
   .dsimp only;omega
   .dsimp only;omega
   .simp
   .simp[au]
def half(x:Int):Int:=aX (Int.tdiv x 2)
def il(l:List Int)(i:Nat):List Int:=(l.take i).map half++l.drop i
theorem CQ(l:List Int)(i:Nat):(il l i).length=l.length:=by
 simp only[il,Ta,S7,S6,TN];omega
theorem CR{l:List Int}{i:Nat}(h:i<l.length):(il l i)[i]?=some l[i]:=by
 have a:((l.take i).map half).length=i:=by simp;omega
 rw[il,Tk (by omega),a,U8,Ub];simp[h]
theorem Ay{l:List Int}{i:Nat}(h:i<l.length):(il l i).set i (half l[i])=il l (i+1):=by
 have a:((l.take i).map half).length=i:=by simp;omega
 unfold il;rw[VR _ _ (by omega),a,U8,Us h,TG h,Tu,WC,Tv];rfl
def cq(q:HS):HS:=⟨q.sc.map half,(iZ (q.sc.map half) (q.row.length/2) q.row q.pl).1,(iZ (q.sc.map half) (q.row.length/2) q.row q.pl).2⟩
theorem qT(h:List (List SV))(b:Nat)(q:HS)(k:h[b]?=some (au q))(o:0<q.sc.length)(hin:uG q.row q.pl.length)(n:q.pl.length=q.sc.length)(hs:q.row.length<=1000000)(p:q.sc.length<=1000000):
 aA Tryz.prog 169 [.ptr b 0] h (λr h'=>r=.pv (.tup [])∧h'=h.set b (au (cq q))):=by
 refine vz [] aD Tryz.func169 (λ_ _=>ga rfl _ _) ?_;obtain⟨a,l⟩:=SQ.1 k;have h1:=sg q o;simp;rw[gG k];refine am.introP h1 ?_;simp[l,a,au];refine ax.intro (S:=λ(i:Nat)=>⟨[(0,.pv (.ptr b 0)),(10,.pv (ab q.sc.length)),(11,.pv (ab i))],h.set b (au ⟨il q.sc i,q.row,q.pl⟩)⟩)
  (λi=>i<=q.sc.length) (λi=>q.sc.length -i) 0 ?_ ?_ ?_
 .exact ah.keep (by simp) (by simp[il,g8 k])
 .omega
 .intro i hi
  by_cases c:i<q.sc.length
  .have s:=dv i;have g:=CQ q.sc i;have e:=CR c;have d:(il q.sc i)[i]'(by omega)=q.sc[i]:=by
    have:=SQ.1 e;exact this.2
   have j:=Ay c;unfold half at j;simp[a,au,c,g,d,gZ];refine⟨i+1,by dsimp only;omega,by dsimp only;omega,ah.keep ?_ ?_⟩
   .simp[s]
   .simp[au,j]
  .have:i=q.sc.length:=by omega
   subst this;have f:=GA (h.set b (au ⟨q.sc.map half,q.row,q.pl⟩)) b ⟨q.sc.map half,q.row,q.pl⟩ (gd a _) hin (by simpa using n) hs;have m:il q.sc q.sc.length=q.sc.map half:=by simp[il]
   simp only[au]at f;simp[a,au,m];refine am.intro f ?_;rintro _ _ ⟨rfl,rfl⟩;simp[cq]
end Go.AX
namespace Go.AX
def eP(q:HS)(v by':Int):HS×Int:=
 if um q v=false then(q,10)else if by'<0∨1000000000000<by' then(q,2)else
  let a:=q.sc.set v.toNat (q.sc.getD v.toNat 0+by')
  let b:HS:=if 0<=q.pl.getD v.toNat 0 then⟨a,(rq a (q.row.getD (q.pl.getD v.toNat 0).toNat 0) (q.pl.getD v.toNat 0).toNat q.row q.pl).1,(rq a (q.row.getD (q.pl.getD v.toNat 0).toNat 0) (q.pl.getD v.toNat 0).toNat q.row q.pl).2⟩else⟨a,q.row,q.pl⟩
  (if 1000000000000<b.sc.getD v.toNat 0 then cq b else b,0)
def eq(q:HS)(v:Int):HS×Int:=
 if um q v=false then(q,10)else if 0<=q.pl.getD v.toNat 0 then(q,21)else
  (⟨q.sc,(rq q.sc v q.row.length (q.row++[v]) q.pl).1,(rq q.sc v q.row.length (q.row++[v]) q.pl).2⟩,0)
def fk(q:HS):HS×Int:=
 if b7 q=0 then(q,0)else
  let w:=q.row.getD (q.row.length -1) 0
  let a:=(q.row.set 0 w).take (q.row.length -1)
  let b:=(q.pl.set w.toNat 0).set (b7 q).toNat (-1)
  (if 0<q.row.length -1 then⟨q.sc,(eh q.sc (a.getD 0 0) a.length 0 a b).1,(eh q.sc (a.getD 0 0) a.length 0 a b).2⟩else⟨q.sc,a,b⟩,b7 q)
def nJ(n:Nat):HS:=⟨List.replicate (n+1) 0,(List.range n).map λi=>((i+1:Nat):Int),0::(List.range n).map λi=>((i:Nat):Int)⟩
structure HpG (n:Nat) (M:Int) (q:HS):Prop where
  sl:q.sc.length=n+1
  pll:q.pl.length=n+1
  nd:q.row.Nodup
  inr:uG q.row (n+1)
  plc:PL q.row q.pl
  out:∀u:Nat,1<=u->u<=n->¬(u:Int)∈q.row->q.pl.getD u 0=-1
  ho:HO q.sc q.row 0
  rng:∀x∈q.sc,0<=x∧x<=M
namespace HpG
variable {n : Nat} {M : Int} {q : HS}
theorem few(g:HpG n M q):q.row.length<=n:=by
 have := dq q.row ((List.range n).map λ i => ((i + 1 : Nat) : Int)) g.nd (λ x hx => by
  have:=g.inr x hx;rw[S8];exact⟨(x -1).toNat,Ug.2 (by omega),by omega⟩)
 simpa using this
theorem isV_iff(g:HpG n M q){v:Int}:um q v=true↔1<=v∧v<=n:=by
 simp only[um,S9,Th,g.sl];omega
theorem place(g:HpG n M q){v:Int}(h:v∈q.row):∃i,i<q.row.length∧q.row.getD i 0=v∧q.pl.getD v.toNat 0=(i:Int):=by
 obtain⟨i,hi,e⟩:=J6 h;exact⟨i,hi,e,by have:=g.plc i hi;rwa [e]at this⟩
theorem has_iff(g:HpG n M q){v:Int}(a:1<=v∧v<=n):0<=q.pl.getD v.toNat 0↔v∈q.row:=by
 constructor
 .intro h;apply Ts;intro hn;have:=g.out v.toNat (by omega) (by omega) (by rwa [show((v.toNat:Nat):Int)=v by omega]);omega
 .intro h;obtain⟨i,_,_,e⟩:=g.place h;rw[e];omega
theorem score(g:HpG n M q)(v:Nat):0<=q.sc.getD v 0∧(0<=M->q.sc.getD v 0<=M):=by
 by_cases h:v<q.sc.length
 .have:=g.rng _ (bj h);exact⟨this.1,λ_=>this.2⟩
 .have:q.sc.getD v 0=0:=by simp[SS,h]
  rw[this];exact⟨by omega,λh=>h⟩
theorem first(g:HpG n M q):∀j,j<q.row.length->kj q.sc (q.row.getD j 0) (q.row.getD 0 0)=false:=by
 intro j
 induction j using Nat.strongRecOn with
 |_ j a=>
  intro hj;rcases Vo j with h0|h0
  .subst h0;exact nC _ _
  .exact iY (g.ho j h0 hj (Tf _)) (a ((j -1)/2) (by omega) (by omega))
theorem peek_zero(g:HpG n M q):b7 q=0↔q.row=[]:=by
 constructor
 .intro h;cases a:q.row with
  |nil=>rfl
  |cons x xs=>
   have:=g.inr x (by rw[a];simp);simp only[b7,a,UQ]at h;omega
 .intro h;simp[b7,h]
theorem peek_mem(g:HpG n M q)(h:b7 q≠0):b7 q∈q.row:=by
 cases a:q.row with
 |nil=>exact absurd (g.peek_zero.2 a) h
 |cons x xs=>simp[b7,a]
end HpG
theorem wx{sc:List Int}:∀(k:Nat)(row pl:List Int),k<=row.length->row.Nodup->uG row pl.length->PL row pl->HO sc row k->DnOk sc row pl 0 (iZ sc k row pl)
 |0,row,pl,_,_,_,hp,ho=>⟨VS _,ho,hp,λ_ _=>rfl,rfl⟩
 |k+1,row,pl,hk,a,hin,hp,ho=>by
  have d:=ul (sc:=sc) (v:=row.getD k 0) (k:=k) row.length k row pl (by omega) (by omega) (SY _) rfl a hin (λj hj _=>hp j hj)
   (λj b hj e g=>ho j b hj (by omega)) (λj _ _ _ h1 i=>by omega)
  have f:=d.perm.length_eq;have r:=wx k _ _ (by rw[f];omega) (d.perm.nodup_iff.2 a) (by rw[d.len];exactλx hx=>hin x (d.perm.mem_iff.1 hx)) d.plc d.ho;exact⟨r.perm.trans d.perm,r.ho,r.plc,λu c=>by rw[iZ,r.out u (λh=>c (d.perm.mem_iff.1 h)),d.out u c],r.len.trans d.len⟩
theorem MB{x:Int}(h:0<=x)(a:x<=4000000000000):half x=x/2:=by
 unfold half;have:Int.tdiv x 2=x/2:=Wi h;rw[this,ao (by omega) (by omega)]
theorem lP{n:Nat}{M:Int}{q:HS}(g:HpG n (2*M) q)(h0:0<=M)(i:M<=1000000000000):HpG n M (cq q)∧(cq q).row.Perm q.row∧(cq q).sc=q.sc.map (·/2):=by
 have b:q.sc.map half=q.sc.map (·/2):=UW λx hx=>by have:=g.rng x hx;exact MB this.1 (by omega)
 have a:=wx (sc:=q.sc.map half) (q.row.length/2) q.row q.pl (by omega) g.nd (by rw[g.pll];exact g.inr) g.plc (λj h1 d f=>by omega);refine⟨⟨by simp[cq,g.sl],by simp only[cq];rw[a.len,g.pll],a.perm.nodup_iff.2 g.nd,λx hx=>g.inr x (a.perm.mem_iff.1 hx),a.plc,λu h1 d e=>?_,a.ho,λx hx=>?_⟩,a.perm,b⟩
 .have c:¬(u:Int)∈q.row:=λh=>e (a.perm.mem_iff.2 h);rw[show(cq q).pl.getD u 0=_ from a.out u c];exact g.out u h1 d c
 .simp only[cq,b,S8]at hx;obtain⟨y,hy,rfl⟩:=hx;have:=g.rng y hy;omega
theorem HpG.mono{n:Nat}{M a:Int}{q:HS}(g:HpG n M q)(h:M<=a):HpG n a q:=⟨g.sl,g.pll,g.nd,g.inr,g.plc,g.out,g.ho,λx hx=>by have:=g.rng x hx;omega⟩
theorem Kd{l:List Int}{i:Nat}:l.set i (l.getD i 0)=l:=by
 apply VJ
 .simp
 .intro j b a;rw[Xv];split
  .rename_i e;subst e;simp[SS,a]
  .rfl
def d0(q:HS)(v by':Int):HS:=
 if 0<=q.pl.getD v.toNat 0 then⟨q.sc.set v.toNat (q.sc.getD v.toNat 0+by'),(rq (q.sc.set v.toNat (q.sc.getD v.toNat 0+by')) (q.row.getD (q.pl.getD v.toNat 0).toNat 0) (q.pl.getD v.toNat 0).toNat q.row q.pl).1,(rq (q.sc.set v.toNat (q.sc.getD v.toNat 0+by')) (q.row.getD (q.pl.getD v.toNat 0).toNat 0) (q.pl.getD v.toNat 0).toNat q.row q.pl).2⟩else⟨q.sc.set v.toNat (q.sc.getD v.toNat 0+by'),q.row,q.pl⟩
theorem uo{n:Nat}{q:HS}(g:HpG n 1000000000000 q){v by':Int}(H:1<=v∧v<=n)(c2:¬(by'<0∨1000000000000<by')):
 HpG n (2*1000000000000) (d0 q v by')∧(d0 q v by').row.Perm q.row∧(d0 q v by').sc=q.sc.set v.toNat (q.sc.getD v.toNat 0+by')∧(d0 q v by').sc.getD v.toNat 0=q.sc.getD v.toNat 0+by':=by
 have E:v.toNat<q.sc.length:=by rw[g.sl];omega
 have N:=g.score v.toNat;have d:∀u:Nat,(q.sc.set v.toNat (q.sc.getD v.toNat 0+by')).getD u 0=if u=v.toNat then q.sc.getD v.toNat 0+by' else q.sc.getD u 0:=λu=>by
  rw[bi]
  by_cases e:u=v.toNat
  .rw[SX ⟨e.symm,E⟩,SX e]
  .rw[SU (λh=>e h.1.symm),SU e]
 have o:∀x∈q.sc.set v.toNat (q.sc.getD v.toNat 0+by'),0<=x∧x<=2*1000000000000:=λx hx=>by
  rcases U2 hx with hx|hx
  .have:=g.rng x hx;omega
  .omega
 generalize r:q.sc.set v.toNat (q.sc.getD v.toNat 0+by')=c at*;have s:c.length=n+1:=by rw[←r,Tt,g.sl]
 have key:∀w:HS,w=(if 0<=q.pl.getD v.toNat 0 then⟨c,(rq c (q.row.getD (q.pl.getD v.toNat 0).toNat 0) (q.pl.getD v.toNat 0).toNat q.row q.pl).1,(rq c (q.row.getD (q.pl.getD v.toNat 0).toNat 0) (q.pl.getD v.toNat 0).toNat q.row q.pl).2⟩else⟨c,q.row,q.pl⟩)->
  HpG n (2*1000000000000) w∧w.row.Perm q.row∧w.sc=c:=by
  intro w l
  by_cases c3:0<=q.pl.getD v.toNat 0
  .rw[SX c3]at l;obtain⟨i,hi,m,A⟩:=g.place ((g.has_iff H).1 c3);rw[A,Uc,m]at l;have b:q.row.set i v=q.row:=by rw[←m];exact Kd
   have C:∀j,j<q.row.length->j≠i->q.row.getD j 0≠v:=λj hj k e=>k (dV g.nd hj hi (by rw[e,m]));have a:∀j,j<q.row.length->j≠i->c.getD (q.row.getD j 0).toNat 0=q.sc.getD (q.row.getD j 0).toNat 0:=λj hj k=>by
    have h1:=g.inr _ (bj hj);have p:=C j hj k;rw[d,SU (by omega)]
   have D:=J7 (sc:=c) (v:=v) i q.row q.pl hi (by rw[b];exact g.nd) (by rw[b,g.pll];exact g.inr) (by rw[b];exactλj hj _=>g.plc j hj)
    (λ j f hj k => by
     rw[b];have h1:=g.ho j f hj (Tf _);have p:=a j hj k
     by_cases e:(j -1)/2=i
     .rw[e,m]at h1⊢;rw[gY]at h1⊢;rw[p,d,SX rfl];omega
     .have L:=a ((j -1)/2) (by omega) e;rw[gY]at h1⊢;rw[p,L];exact h1)
    (λ j f hj B z => by
     rw[b];have h1:=g.ho j f hj (Tf _);have M:=g.ho i z hi (Tf _);rw[B]at h1;have G:=iY h1 M;rw[gY]at G⊢;rw[a j hj (by omega),a ((i -1)/2) (by omega) (by omega)];exact G)
   obtain⟨y,Q,R,J,S⟩:=D;rw[b]at y J;subst l;exact⟨⟨s,by dsimp only;rw[S,g.pll],y.nodup_iff.2 g.nd,λx hx=>g.inr x (y.mem_iff.1 hx),R,λu h1 p O=>by
    have t:¬(u:Int)∈q.row:=λh=>O (y.mem_iff.2 h);dsimp only;rw[J u t];exact g.out u h1 p t,Q,o⟩,y,rfl⟩
  .rw[SU c3]at l;subst l;have F:¬v∈q.row:=λh=>c3 ((g.has_iff H).2 h);refine⟨⟨s,g.pll,g.nd,g.inr,g.plc,g.out,λj f hj hk=>?_,o⟩,VS _,rfl⟩;have h1:=g.ho j f hj (Tf _);have a:∀j,j<q.row.length->c.getD (q.row.getD j 0).toNat 0=q.sc.getD (q.row.getD j 0).toNat 0:=λj hj=>by
    have h1:=g.inr _ (bj hj);have p:q.row.getD j 0≠v:=λe=>F (by rw[←e];exact bj hj);rw[d,SU (by omega)]
   rw[gY]at h1⊢;dsimp only at hj⊢;rw[a j hj,a ((j -1)/2) (by omega)];exact h1
 obtain⟨K,P,I⟩:=key (d0 q v by') (by rw[←r];rfl);exact⟨K,P,I,by rw[I,d,SX rfl]⟩
theorem wy{n:Nat}{q:HS}(g:HpG n 1000000000000 q)(v by':Int):HpG n 1000000000000 (eP q v by').1∧(eP q v by').1.row.Perm q.row∧
 ((eP q v by').2=0->(eP q v by').1.sc=(let s:=q.sc.set v.toNat (q.sc.getD v.toNat 0+by');if 1000000000000<q.sc.getD v.toNat 0+by' then s.map (·/2)else s))∧((eP q v by').2≠0->(eP q v by').1=q):=by
 unfold eP
 by_cases c1:um q v=false
 .rw[SX c1];exact⟨g,VS _,λh=>absurd h (by simp),λ_=>rfl⟩
 rw[SU c1]
 by_cases c2:by'<0∨1000000000000<by'
 .rw[SX c2];exact⟨g,VS _,λh=>absurd h (by simp),λ_=>rfl⟩
 rw[SU c2];have f:=g.isV_iff.1 (by simpa using c1);obtain⟨a,d,c,b⟩:=uo g f c2
 change HpG n 1000000000000 ((if 1000000000000<(d0 q v by').sc.getD v.toNat 0 then cq (d0 q v by')else d0 q v by',(0:Int))).1∧((if 1000000000000<(d0 q v by').sc.getD v.toNat 0 then cq (d0 q v by')else d0 q v by',(0:Int))).1.row.Perm q.row∧(_->((if 1000000000000<(d0 q v by').sc.getD v.toNat 0 then cq (d0 q v by')else d0 q v by',(0:Int))).1.sc=_)∧(¬(0:Int)=0->_)
 generalize d0 q v by'=k at*
 rw[b];dsimp only
 by_cases c4:1000000000000<q.sc.getD v.toNat 0+by'
 .rw[SX c4,SX c4];obtain⟨g2,i,j⟩:=lP a (by omega) (by omega);exact⟨g2,i.trans d,λ_=>by rw[j,c],λh=>absurd rfl h⟩
 .rw[SU c4,SU c4];refine⟨⟨a.sl,a.pll,a.nd,a.inr,a.plc,a.out,a.ho,λx hx=>?_⟩,d,λ_=>c,λh=>absurd rfl h⟩;rw[c]at hx;have e:=g.score v.toNat;rcases U2 hx with hx|hx
  .exact g.rng x hx
  .omega
theorem Az{n:Nat}{M:Int}{q:HS}(g:HpG n M q)(v:Int):HpG n M (eq q v).1∧(eq q v).1.sc=q.sc∧((eq q v).2=0->(eq q v).1.row.Perm (q.row++[v]))∧((eq q v).2≠0->(eq q v).1=q):=by
 unfold eq
 by_cases c1:um q v=false
 .rw[SX c1];exact⟨g,rfl,λh=>absurd h (by simp),λ_=>rfl⟩
 rw[SU c1]
 by_cases c2:0<=q.pl.getD v.toNat 0
 .rw[SX c2];exact⟨g,rfl,λh=>absurd h (by simp),λ_=>rfl⟩
 rw[SU c2];have B:=g.isV_iff.1 (by simpa using c1);have p:¬v∈q.row:=λh=>c2 ((g.has_iff B).2 h);have c:(q.row++[v]).set q.row.length v=q.row++[v]:=by simp
 have i:(q.row++[v]).Nodup:=by
  rw[VY];exact⟨g.nd,by simp,λa w b r=>by simp at r;subst r;exactλe=>p (e▸w)⟩
 have d:∀j,j<q.row.length->(q.row++[v]).getD j 0=q.row.getD j 0:=λj hj=>by
  rw[SS,SZ hj,←SS]
 have hin:uG (q.row++[v]) (n+1):=λx hx=>by
  rcases Te.1 hx with hx|hx
  .exact g.inr x hx
  .simp at hx;omega
 have o:=J7 (sc:=q.sc) (v:=v) q.row.length (q.row++[v]) q.pl (by simp) (by rw[c];exact i) (by rw[c,g.pll];exact hin)
  (by
   rw[c];intro j hj k;simp only[Ta,Ty,List.length_nil]at hj
   by_cases e:j=q.row.length
   .subst e;exact absurd (by simp[SS]) k
   .rw[d j (by omega)];exact g.plc j (by omega))
  (λ j f hj k => by
   rw[c];simp only[Ta,Ty,List.length_nil]at hj;rw[d j (by omega),d _ (by omega)];exact g.ho j f (by omega) (Tf _))
  (λj f hj z y=>by simp only[Ta,Ty,List.length_nil]at hj;omega)
 obtain⟨m,C,D,s,E⟩:=o;rw[c]at m s;refine⟨⟨g.sl,by dsimp only;rw[E,g.pll],m.nodup_iff.2 i,λx hx=>hin x (m.mem_iff.1 hx),D,λu h1 t A=>?_,C,g.rng⟩,rfl,λ_=>m,λh=>absurd rfl h⟩;have l:¬(u:Int)∈q.row++[v]:=λh=>A (m.mem_iff.2 h);dsimp only;rw[s u l];exact g.out u h1 t (λh=>l (Up _ h))
theorem GB{n:Nat}{M:Int}{q:HS}(g:HpG n M q):HpG n M (fk q).1∧(fk q).1.sc=q.sc∧(fk q).2=b7 q∧(b7 q≠0->q.row.Perm (b7 q::(fk q).1.row))∧(b7 q=0->(fk q).1=q):=by
  unfold fk
  by_cases c1:b7 q=0
  · rw[SX c1];exact⟨g,rfl,c1.symm,λh=>absurd c1 h,λ_=>rfl⟩
  rw[SU c1]
  have r:q.row≠[]:=λh=>c1 (g.peek_zero.2 h)
  have T:0<q.row.length:=UG.2 r
  obtain⟨L,D⟩:∃L,q.row.length=L+1:=⟨q.row.length -1,by omega⟩
  have I:=g.peek_mem c1
  have H:q.row.getD 0 0=b7 q:=rfl
  simp only[D,VQ]
  generalize N:q.row.getD L 0=w
  have B:w∈q.row:=by rw[←N];exact bj (by omega)
  have W:=g.inr w B
  have U:=g.inr _ I
  -- what is left
  have a:q.row.Perm (b7 q::(q.row.set 0 w).take L):=by
    have h1:q.row=(q.row.take L)++[w]:=by
      rw[←N]
      apply VJ
      · simp;omega
      · intro j R a2
        rw[List.getElem_append]
        split
        · simp
        · rename_i hj
          simp only[S6]at hj
          have:j=L:=by omega
          subst this
          simp[SS,R]
    rcases Vo L with h0|h0
    · subst h0
      cases s:q.row with
      |nil=>exact absurd s r
      |cons x xs=>
        have hx:xs=[]:=by rw[s]at D;simpa using D
        subst hx
        simp[b7,s]
    · cases s:q.row with
      |nil=>exact absurd s r
      |cons x xs=>
        obtain⟨K,rfl⟩:∃K,L=K+1:=⟨L -1,by omega⟩
        rw[s]at h1
        simp only[Wv,TP,Vi,true_and]at h1
        have hx:b7 q=x:=by simp[b7,s]
        simp only[WC,Wv,hx]
        refine List.Perm.cons _ ?_
        conv=>lhs;rw[h1]
        exact List.perm_append_comm
  have G:((q.row.set 0 w).take L).length=L:=by simp[D]
  have b:=(a.nodup_iff.1 g.nd)
  rw[UA]at b
  have l:∀x,x∈(q.row.set 0 w).take L↔x∈q.row∧x≠b7 q:=λx=>by
    constructor
    · intro hx
      exact⟨a.mem_iff.2 (Tl _ hx),λe=>b.1 (e▸hx)⟩
    · rintro⟨h1,t⟩
      rcases Tx.1 (a.mem_iff.1 h1)with F|F
      · exact absurd F t
      · exact F
  have i:uG ((q.row.set 0 w).take L) (n+1):=λx hx=>g.inr x ((l x).1 hx).1
  have d:∀j,0<j->j<L->((q.row.set 0 w).take L).getD j 0=q.row.getD j 0:=λj h0 hj=>by
    rw[SS,Vk hj,Tj (by omega),←SS]
  have m:∀u:Nat,1<=u->u<=n->¬(u:Int)∈(q.row.set 0 w).take L->((q.pl.set w.toNat 0).set (b7 q).toNat (-1)).getD u 0=-1:=λu h1 t J=>by
    rw[bi,Tt,g.pll]
    by_cases e:(u:Int)=b7 q
    · rw[SX ⟨by omega,by omega⟩]
    · rw[SU (by omega)]
      have A:¬(u:Int)∈q.row:=λh=>J ((l u).2 ⟨h,e⟩)
      rw[bi,SU (λh=>A (by rw[show(u:Int)=w by omega];exact B))]
      exact g.out u h1 t A
  generalize V:(q.row.set 0 w).take L=c at*
  generalize y:(q.pl.set w.toNat 0).set (b7 q).toNat (-1)=C at*
  have f:C.length=n+1:=by rw[←y];simp[g.pll]
  by_cases c2:0<L
  · rw[SX c2]
    have hd:=ul (sc:=q.sc) (v:=c.getD 0 0) (k:=0) c.length 0 c C (by omega) (by omega) (SY _) rfl b.2 (by rw[f];exact i)
      (λ j hj p => by
        have o:0<j:=by
          rcases Vo j with h0|h0
          · subst h0;exact absurd rfl p
          · exact h0
        rw[d j o (by omega)]
        have h1:=g.inr _ (bj (show j<q.row.length by omega))
        have O:q.row.getD j 0≠b7 q:=λe=>by have:=dV g.nd (show j<q.row.length by omega) T (by rw[e,H]);omega
        have P:q.row.getD j 0≠w:=λe=>by have:=dV g.nd (show j<q.row.length by omega) (show L<q.row.length by omega) (by rw[e,N]);omega
        rw[←y,bi,SU (by omega),bi,SU (by omega)]
        exact g.plc j (by omega))
      (λ j o hj _ p => by
        rw[d j o (by omega),d _ (by omega) (by omega)]
        exact g.ho j o (by omega) (Tf _))
      (λj _ _ _ h1 _=>by omega)
    obtain⟨E,X,Y,Z,u5⟩:=hd
    refine⟨⟨g.sl,by dsimp only;rw[u5,f],E.nodup_iff.2 b.2,λx hx=>i x (E.mem_iff.1 hx),Y,λu h1 t J=>?_,X,g.rng⟩,rfl,(by first|rfl|trivial),λ_=>a.trans (E.symm.cons _),λh=>absurd h c1⟩
    have z:¬(u:Int)∈c:=λh=>J (E.mem_iff.2 h)
    dsimp only
    rw[Z u z];exact m u h1 t z
  · rw[SU c2]
    have S:L=0:=by omega
    have Q:c=[]:=UZ (by omega)
    refine⟨⟨g.sl,f,b.2,i,λj hj=>?_,m,λj h0 hj=>?_,g.rng⟩,rfl,(by first|rfl|trivial),λ_=>a,λh=>absurd h c1⟩
    · dsimp only at hj;omega
    · dsimp only at hj;omega
theorem Ke(n:Nat):HpG n 1000000000000 (nJ n):=by
 have a:∀j,j<n->((List.range n).map λi=>((i+1:Nat):Int)).getD j 0=((j+1:Nat):Int):=λj hj=>by simp[SS,hj]
 refine⟨by simp[nJ],by simp[nJ],?_,λx hx=>?_,λj hj=>?_,λu h1 f d=>?_,λj c hj _=>?_,λx hx=>?_⟩
 .simp only[nJ];unfold List.Nodup;rw[TB];intro i j hi hj b e;simp at e;omega
 .simp only[nJ,S8,Ug]at hx;obtain⟨i,hi,rfl⟩:=hx;omega
 .simp only[nJ,S7,WM]at hj⊢;rw[a j hj,Uc,SS,UV];simp[hj]
 .exfalso;apply d;simp only[nJ,S8,Ug];exact⟨u -1,by omega,by omega⟩
 .simp only[nJ,S7,WM]at hj⊢;rw[a j hj,a _ (by omega),gY];right;refine⟨?_,by omega⟩;simp only[SS,Xq];rw[SX (by omega),SX (by omega)]
 .simp only[nJ]at hx;have:=Vz hx;omega
end Go.AX
namespace Go.AX
open Go.Proofs
theorem uq(s r p:List Int):[SV.own true 1 (ae s),SV.own true 1 (ae r),SV.own true 1 (ae p)]=au ⟨s,r,p⟩:=rfl
theorem m6{l:List Int}{i:Nat}(h:i<l.length):l[i]=l.getD i 0:=by simp[h]
theorem Kf{q:HS}{v by':Int}(h:um q v=false):eP q v by'=(q,10):=by unfold eP;rw[SX h]
theorem GC{q:HS}{v by':Int}(h:um q v=true)(a:by'<0∨1000000000000<by'):eP q v by'=(q,2):=by unfold eP;rw[SU (by rw[h];simp),SX a]
theorem GD{q:HS}{v by':Int}(h:um q v=true)(a:¬(by'<0∨1000000000000<by')):eP q v by'=(if 1000000000000<(d0 q v by').sc.getD v.toNat 0 then cq (d0 q v by')else d0 q v by',0):=by
 unfold eP;rw[SU (by rw[h];simp),SU a];rfl
set_option maxRecDepth 16000 in
theorem AA(h:List (List SV))(b:Nat)(q:HS)(O:h[b]?=some (au q)){n:Nat}(g:HpG n 1000000000000 q)(hn:n<=100000)(v by':Int):
 aA Tryz.prog 129 [.ptr b 0,ab v,ab by'] h (λr h'=>r=.pv (ab (eP q v by').2)∧h'=h.set b (au (eP q v by').1)):=by
 refine mF aD Tryz.func129 ?_;obtain⟨a,Q⟩:=SQ.1 O;have hq:0<q.sc.length:=by rw[g.sl];omega
 have X:=EE q hq v;generalize y:eP q v by'=BS
 simp;rw[gG O];refine am.introP X ?_;unfold Mz;cases I:um q v with
 |false=>
  have e:=y.symm.trans (Kf I);subst e;simp[g8 O]
 |true=>
  have M:=g.isV_iff.1 I;have K:v.toNat<q.sc.length:=by rw[g.sl];omega
  have L:v.toNat<q.pl.length:=by rw[g.pll];omega
  have k:0<=v:=by omega
  have V:v<(q.sc.length:Int):=by rw[g.sl];omega
  have W:v<(q.pl.length:Int):=by rw[g.pll];omega
  have ad:=g.score v.toNat;obtain⟨f,E⟩:∃x,x=q.sc.getD v.toNat 0:=⟨_,rfl⟩;obtain⟨H,t⟩:∃x,x=q.pl.getD v.toNat 0:=⟨_,rfl⟩;have R:q.sc[v.toNat]=f:=by rw[E];exact m6 K
  have T:q.pl[v.toNat]=H:=by rw[t];exact m6 L
  simp[a,Q,au,K,k,V,R,gZ];refine⟨λc=>?_,λc1 c2=>?_⟩
  .have e:=y.symm.trans (GC I c);subst e;simp[uq,g8 O]
  have c3:¬(by'<0∨1000000000000<by'):=λh=>h.elim (λh=>WF.2 c1 h) (λh=>WF.2 c2 h);have e:=y.symm.trans (GD I c3);clear y;subst e;obtain⟨F,w⟩:∃F,(if 1000000000000<(d0 q v by').sc.getD v.toNat 0 then cq (d0 q v by')else d0 q v by')=F:=⟨_,rfl⟩;rw[w];have Y:aX (f+by')=f+by':=ao (by omega) (by omega)
  have N:d0 q v by'=if 0<=H then⟨q.sc.set v.toNat (f+by'),(rq (q.sc.set v.toNat (f+by')) (q.row.getD H.toNat 0) H.toNat q.row q.pl).1,(rq (q.sc.set v.toNat (f+by')) (q.row.getD H.toNat 0) H.toNat q.row q.pl).2⟩else⟨q.sc.set v.toNat (f+by'),q.row,q.pl⟩:=by
   rw[E,t];rfl
  have j:=ya ⟨q.sc.set v.toNat (f+by'),q.row,q.pl⟩ (by simpa using hq) (by dsimp only;rw[Tt,g.pll,g.sl]) v;have U:um ⟨q.sc.set v.toNat (f+by'),q.row,q.pl⟩ v=true:=by unfold um at I⊢;simpa using I
  rw[U]at j;rw[Y];dsimp only at j;rw[←t]at j;rw[uq,p7 a];refine am.introP j ?_;have aa:q.row.length<=n:=g.few;obtain⟨d,p1,s1,A⟩:=uo g M c3;rw[←E]at A s1;rw[A]at w
  by_cases c5:0<=H
  .obtain⟨i,hi,J,D⟩:=g.place ((g.has_iff M).1 (by rw[←t];exact c5));rw[←t]at D;have hin:uG q.row q.pl.length:=by rw[g.pll];exact g.inr
   have u:=Ka (h.set b (au ⟨q.sc.set v.toNat (f+by'),q.row,q.pl⟩)) b ⟨q.sc.set v.toNat (f+by'),q.row,q.pl⟩ (gd a _) i hi hin (by dsimp only;rw[Tt,g.pll,g.sl]) (by dsimp only;omega);rw[SX c5,D,Uc,J]at N;dsimp only at u;rw[J]at u;rw[←D]at u;simp only[au]at u;simp[a,au,c5,L,k,W,T];refine am.intro u ?_;rintro _ _ ⟨rfl,rfl⟩;simp;have P:au (d0 q v by')=[.own true 1 (ae (q.sc.set v.toNat (f+by'))),.own true 1 (ae (rq (q.sc.set v.toNat (f+by')) v i q.row q.pl).1),.own true 1 (ae (rq (q.sc.set v.toNat (f+by')) v i q.row q.pl).2)]:=by rw[N];rfl
   rw[←P];generalize d0 q v by'=B at*
   refine ax.intro (S:=λ(x:Nat)=>⟨[(0,.pv (.ptr b 0)),(1,.pv (ab v))],h.set b (au (if x=0 then B else cq B))⟩) (λx=>x=0∨x=1∧1000000000000<f+by') (λx=>1 -x) 0 ?_ (.inl rfl) ?_
   .exact ah.keep (by simp) (by simp)
   .have l:v.toNat<B.sc.length:=by rw[d.sl];omega
    have m:v<(B.sc.length:Int):=by rw[d.sl];omega
    have C:B.sc[v.toNat]=f+by':=by rw[←A];exact m6 l
    rintro x (rfl|⟨rfl,hx⟩)
    .have s:=qT (h.set b (au B)) b B (gd a _) (by rw[d.sl];omega) (by rw[d.pll];exact d.inr) (by rw[d.pll,d.sl]) (by have:=d.few;omega) (by rw[d.sl];omega);simp only[au]at s;simp[a,au,l,m,k,C];refine⟨λc=>?_,λc=>?_⟩
     .refine am.intro s ?_;rintro _ _ ⟨rfl,rfl⟩;simp;exact⟨1,by dsimp only;omega,.inr ⟨rfl,c⟩,ah.keep (by simp) (by simp[au])⟩
     .rw[SU (WF.2 c)]at w;rw[w]
    .obtain⟨g2,p2,s2⟩:=lP d (by omega) (by omega);have o:v.toNat<(cq B).sc.length:=by rw[g2.sl];omega
     have p:v<((cq B).sc.length:Int):=by rw[g2.sl];omega
     obtain⟨z,hz⟩:∃z,(cq B).sc[v.toNat]=z:=⟨_,rfl⟩;have Z:=g2.rng z (by rw[←hz];exact S5 o);have G:¬1000000000000<z:=by omega
     simp[a,au,o,p,k,hz,G];rw[SX hx]at w;rw[w]
  .rw[SU c5]at N;simp[c5];rw[←N];generalize d0 q v by'=B at*
   refine ax.intro (S:=λ(x:Nat)=>⟨[(0,.pv (.ptr b 0)),(1,.pv (ab v))],h.set b (au (if x=0 then B else cq B))⟩) (λx=>x=0∨x=1∧1000000000000<f+by') (λx=>1 -x) 0 ?_ (.inl rfl) ?_
   .exact ah.keep (by simp) (by simp)
   .have l:v.toNat<B.sc.length:=by rw[d.sl];omega
    have m:v<(B.sc.length:Int):=by rw[d.sl];omega
    have C:B.sc[v.toNat]=f+by':=by rw[←A];exact m6 l
    rintro x (rfl|⟨rfl,hx⟩)
    .have s:=qT (h.set b (au B)) b B (gd a _) (by rw[d.sl];omega) (by rw[d.pll];exact d.inr) (by rw[d.pll,d.sl]) (by have:=d.few;omega) (by rw[d.sl];omega);simp only[au]at s;simp[a,au,l,m,k,C];refine⟨λc=>?_,λc=>?_⟩
     .refine am.intro s ?_;rintro _ _ ⟨rfl,rfl⟩;simp;exact⟨1,by dsimp only;omega,.inr ⟨rfl,c⟩,ah.keep (by simp) (by simp[au])⟩
     .rw[SU (WF.2 c)]at w;rw[w]
    .obtain⟨g2,p2,s2⟩:=lP d (by omega) (by omega);have o:v.toNat<(cq B).sc.length:=by rw[g2.sl];omega
     have p:v<((cq B).sc.length:Int):=by rw[g2.sl];omega
     obtain⟨z,hz⟩:∃z,(cq B).sc[v.toNat]=z:=⟨_,rfl⟩;have Z:=g2.rng z (by rw[←hz];exact S5 o);have G:¬1000000000000<z:=by omega
     simp[a,au,o,p,k,hz,G];rw[SX hx]at w;rw[w]
end Go.AX
namespace Go.AX
set_option maxRecDepth 16000
open Go.Proofs
theorem GM(rows:List (List Int))(k:FuncId)(cap:List PV)(p:List Int->Bool)(m:rows.length<=140737488355328)(d:∀r,eC r cap=cap)(b:∀n,bR n cap)(hp:jF cap=false)(f:∀x∈rows,aj Tryz.prog k (.seq false 1 (ae x)::cap) (λr=>r=.pv (BL (p x)))):
 aj Tryz.prog 202 [.seq false 1 (rows.map aq),.fn (.func k) [] cap] (λr=>r=.pv (ab (iP p rows))):=by
 refine ap aD Tryz.func202 ?_;simp;refine ax.intro (S:=λ(i:Nat)=>⟨[(0,.pv (.seq false 1 (rows.map aq))),(1,.pv (.fn (.func k) [] cap)),(7,.pv (ab rows.length)),(8,.pv (ab i))],[]⟩) (λi=>i<=rows.length∧∀j (hj:j<rows.length),j<i->p rows[j]=false) (λi=>rows.length -i) 0 ?_ ?_ ?_
 .exact ah.to (by simp) (by simp) (by simp) (by simp[b]) (by simp)
 .exact⟨by omega,λj hj h=>by omega⟩
 .intro i ⟨hi,ho⟩
  by_cases h:i<rows.length
  .have l:=dv i;have a:=f rows[i] (S5 h);simp[h,hp,d,aq];refine ai.intro a ?_;simp;refine⟨λc=>by rw[eU h ho c],λc=>⟨i+1,by dsimp only;omega,⟨by omega,λj hj g=>?_⟩,ah.to ?_ (by simp) (by simp) (by simp[b]) (by simp)⟩⟩
   .by_cases e:j=i
    .subst e;exact c
    .exact ho j hj (by omega)
   .simp[l,aq]
  .simp[h];rw[cM (λj hj=>ho j hj (by omega))]
theorem GN(l:Int):(b8 l).1=af l∧(af l≠0->(b8 l).2=decide (0<l)):=by
 unfold b8 af c9
 by_cases c:cF l=true
 .obtain⟨h1,a,b⟩:=(aY l).1 c;rw[SX c]
  by_cases d:l<0
  .rw[SU (by omega),SX ⟨d,a⟩,SX d];exact⟨rfl,λ_=>(UP (by omega)).symm⟩
  .rw[SX ⟨by omega,b⟩,SU d];exact⟨rfl,λ_=>(Uv (by omega)).symm⟩
 .have hn:¬(l≠0∧-100000<=l∧l<=100000):=λh=>c ((aY l).2 h);rw[SU c,SU (by omega),SU (by omega)];exact⟨rfl,λh=>absurd rfl h⟩
theorem GO(l:Int)(m:List Bool):aj Tryz.prog 264 [ab l,.iptr 1 [[.seq false 1 (de m)]] 0 0] (λr=>r=.pv (BL (ij m l))):=by
 refine ap aD Tryz.func264 ?_;simp;refine ai.intro (aK l) ?_;obtain⟨e,f⟩:=GN l;have hin:=wj l;unfold ij;rw[e]at hin⊢;generalize af l=v at*;obtain⟨n,rfl⟩:=Uo hin.1;rcases Vo n with h0|h0
 .subst h0;simp
 obtain⟨k,rfl⟩:∃k,n=k+1:=⟨n -1,by omega⟩;rw[f (by omega)];have c:aX (k:Int)=(k:Int):=ao (by omega) (by omega);have d:¬(k:Int)+1=0:=by omega
 have b:(0:Int)<(k:Int)+1:=by omega
 by_cases hk:k<m.length
 .have hle:(k:Int)+1<=(m.length:Int):=by omega
  have a:k+1<=m.length:=by omega
  simp[d,hk,hle,a,c,b]
 .have hle:¬(k:Int)+1<=(m.length:Int):=by omega
  have a:¬k+1<=m.length:=by omega
  simp[d,hk,hle,a,c,b]
theorem GP(c:List Int)(m:List Bool)(a:c.length<=1000000):aj Tryz.prog 203 [.seq false 1 (ae c),.iptr 1 [[.fn (.func 264) [] [.iptr 1 [[.seq false 1 (de m)]] 0 0]]] 0 0] (λr=>r=.pv (BL (!cI c m))):=by
 refine ap aD Tryz.func203 ?_;simp;refine ai.intro (fY c a 264 [.iptr 1 [[.seq false 1 (de m)]] 0 0] (ij m) (by simp) (by simp) (by simp) (λx _=>GO x m)) ?_;simp[cI]
theorem GQ(m:List Bool)(h:List (List SV)):aA Tryz.prog 201 [.seq false 1 (de m)] h (λr h'=>r=.pv (.fn (.func 264) [] [.ptr h.length 0])∧h'=h++[[.pv (.seq false 1 (de m))]]):=by
 refine mF aD Tryz.func201 ?_;simp
theorem KH(v:Int)(L:List (List Int))(m:List Bool)(b:L.length<=140737488355328)(d:∀x∈L,x.length<=1000000):aj Tryz.prog 121 [.agg [ab v,.seq false 1 (L.map aq)],.seq false 1 (de m)] (λr=>r=.pv (ab (jL L m))):=by
 refine ap aD Tryz.func121 ?_;simp;refine ai.introM (GQ m _) ?_;rintro _ _ ⟨rfl,rfl⟩;simp;have a:bA [[.pv (ab v),.pv (.seq false 1 (L.map aq))],[.pv (.seq false 1 (de m))],[.pv (.fn (.func 264) [] [.ptr 1 0])]] 3 2 0=.iptr 1 [[.fn (.func 264) [] [.iptr 1 [[.seq false 1 (de m)]] 0 0]]] 0 0:=by simp[bA]
 rw[a];refine⟨rfl,ai.intro (GM L 203 [.iptr 1 [[.fn (.func 264) [] [.iptr 1 [[.seq false 1 (de m)]] 0 0]]] 0 0] (λc=>!cI c m) b (by simp) (by simp) (by simp) (λx hx=>GP x m (d x hx))) ?_⟩;simp[jL]
theorem KI(v:Int)(L:List (List Int))(m:List Bool)(b:L.length<=140737488355328)(d:∀x∈L,x.length<=1000000):aj Tryz.prog 59 [.agg [ab v,.seq false 1 (L.map aq)],.seq false 1 (de m)] (λr=>r=.pv (BL (decide ((m.length:Int)=v)&&decide (∀c∈L,cI c m=true)))):=by
 refine ap aD Tryz.func59 ?_;have a:=KH v L m b d;have hn:=t8 L m;simp;refine bf.intro (λ_=>a) ?_;simp[hn]
end Go.AX