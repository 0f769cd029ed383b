/-
  Contracts: slices.Compact of numbers.
  Contracts: heaps.
  Contracts: heaps are put in order.
  Contracts: heaps: down.
  Contracts: heaps: order, halving, and all that is done with one.
  The plain law of heaps: what stays so, whatever is done.
  Contracts: what is done with a heap.
  Contracts: whether a formula holds (package cnf).
-/
import Derived.Test.YtepodadinenmnaaGreatS14AxRfA
import Derived.Test.YtepodadinenmnaaGreatS14AxEvC
import Derived.Test.YtepodadinenmnaaGreatAxIs
import Derived.Test.YtepodadinenmnaaGreatS14AxHpP
import Derived.Test.YtepodadinenmnaaGreatS14AxMovR
namespace Go.AX
open Go.Proofs
set_option linter.unusedSimpArgs false
def aJ(zs:List Int):Nat->List Int
 |0=>[]
 |j+1=>if j=0∨zs.getD j 0≠zs.getD (j -1) 0 then aJ zs j++[zs.getD j 0]else aJ zs j
def cP(zs:List Int):List Int:=aJ zs zs.length
theorem iJ(zs:List Int):∀j,(aJ zs j).length<=j
 |0=>Ry _
 |j+1=>by
  have:=iJ zs j;rw[aJ];split
  .rw[RF,SS];omega
  .omega
theorem sC(zs:List Int):∀j,0<j->0<(aJ zs j).length
 |0,h=>by omega
 |1,_=>by rw[aJ,Rx (.inl rfl)];simp
 |j+2,_=>by
  have:=sC zs (j+1) (by omega);rw[aJ];split
  .rw[RF];omega
  .exact this
def MF(zs:List Int)(k:Option Nat)(rows:List (List PV)):Prop:=k=some (cP zs).length∧rows=aD (cP zs++List.replicate (zs.length -(cP zs).length) 0)
theorem sD(zs:List Int)(W:zs.length<=1000000):wo Tryz.prog 140 1 (aD zs) [] (MF zs):=by
 refine wo.ofInts (by kernel_rfl) trivial trivial (λz pre a cp P R=>?_) (λQ q cp=>?_)
 .refine nz aE Tryz.func140 ?_
  by_cases c2:zs.length<2
  .have r:(zs.length:Int)<2:=by omega
   simp[c2,r];have h1:zs.length=1:=by
    have:=Td.2 z;omega
   have G:cP zs=zs:=by
    unfold cP;rw[h1,aJ,Rx (.inl rfl),aJ,R7]
    match zs,h1 with
    |[x],_=>rfl
   exact⟨some zs.length,zs,⟨by rw[G],by rw[G];simp⟩,rfl,λm w=>by cases w;exact Ry _,rfl,rfl⟩
  have r:¬(zs.length:Int)<2:=by omega
  simp[c2,r];refine aw.intro (S:=λ(k:Nat)=>⟨[(0,.pv (.bsl 0 1 pre.length zs.length cp)),(3,.pv (ae k))],[blk pre zs a]⟩) (λk=>1<=k∧k<=zs.length∧aJ zs k=zs.take k) (λk=>zs.length -k) 1 ?_ ⟨Ry _,by omega,?_⟩ ?_
  .exact ah.to (by simp) rfl (by simp) (by simp) (by simp[fL])
  .rw[aJ,Rx (.inl rfl),aJ,R7]
   match zs,z with
   |x::l,_=>rfl
  .rintro k ⟨h1,G,u⟩;have e:=eM pre zs a
   by_cases ck:k<zs.length
   .have T:=dr k;have I:aS ((k:Int) -1)=((k -1:Nat):Int):=by rw[ap (by omega) (by omega)];omega
    have g:=lh pre zs a (i:=k) ck;have o:=lh pre zs a (i:=k -1) (by omega);have E:zs.getD k 0=zs[k]:=by simp[ck]
    have F:zs.getD (k -1) 0=zs[k -1]:=by simp[show k -1<zs.length by omega]
    have f:aJ zs (k+1)=if zs[k]≠zs[k -1]then aJ zs k++[zs[k]]else aJ zs k:=by
     rw[aJ,E,F]
     by_cases d:zs[k]≠zs[k -1]
     .rw[Rx (.inr d),Rx d]
     .rw[Rw (λh=>h.elim (by omega) d),Rw d]
    simp[ck,I,g,o,e];refine⟨by omega,by omega,by omega,λd=>⟨⟨by omega,by omega⟩,?_⟩,λd=>⟨k+1,by(try dsimp only);omega,⟨by omega,by omega,?_⟩,ah.to (by simp[T]) rfl (by simp) (by simp) (by simp[fL])⟩⟩;rotate_left
    .rw[f,Rx d,u,Sp,Ru ck];rfl
    rw[Rw (λh=>h d),u]at f;refine aw.intro (S:=λ(y:Nat×List Int)=>⟨[(0,.pv (.bsl 0 1 pre.length zs.length cp)),(3,.pv (ae ((aJ zs (k+y.1)).length:Nat))),(4,.pv (.bsl 0 1 (pre.length+k) (zs.length -k) (cp -k))),(5,.pv (ae y.1))],[blk pre y.2 a]⟩)
     (λy=>1<=y.1∧k+y.1<=zs.length∧(aJ zs (k+y.1)).length<k+y.1∧y.2.length=zs.length∧y.2.take (aJ zs (k+y.1)).length=aJ zs (k+y.1)∧y.2.drop (k+y.1 -1)=zs.drop (k+y.1 -1)) (λy=>zs.length -y.1) (1,zs) ?_ ?_ ?_
    .refine ah.to ?_ rfl (by simp) (by simp) (by simp[fL]);have:(aJ zs (k+1)).length=k:=by rw[f,RD];omega
     simp[this]
    .have:(aJ zs (k+1)).length=k:=by rw[f,RD];omega
     refine⟨Ry _,by dsimp only;omega,by dsimp only;omega,rfl,?_,rfl⟩;dsimp only;rw[this,f]
    .rintro⟨j,b⟩ ⟨U,V,i3,K,B,C⟩;dsimp only at U V i3 K B C;have e:=eM pre b a
     by_cases L:k+j<zs.length
     .have N:(j:Int)<((zs.length -k:Nat):Int):=by omega
      have H:aS ((j:Int) -1)=((j -1:Nat):Int):=by rw[ap (by omega) (by omega)];omega
      have v:=dr j;have p:∀i (h:i<zs.length),k+j -1<=i->b[i]'(by omega)=zs[i]:=by
       intro i h hi;have:=Ua (λl=>l[i -(k+j -1)]?) C;simp only[SZ]at this;rw[show k+j -1+(i -(k+j -1))=i by omega,Ru (by omega),Ru h]at this;exact TL this
      have g:=lh pre b a (i:=k+j) (by omega);have o:=lh pre b a (i:=k+(j -1)) (by omega);rw[p (k+j) L (by omega),←TR]at g;have O:b[k+(j -1)]'(by omega)=zs[k+(j -1)]:=p _ (by omega) (by omega);rw[O,←TR]at o;have E:zs.getD (k+j) 0=zs[k+j]:=by simp[L]
      have F:zs.getD (k+j -1) 0=zs[k+(j -1)]:=by
       have:k+j -1=k+(j -1):=by omega
       rw[this];simp[show k+(j -1)<zs.length by omega]
      have c:aJ zs (k+(j+1))=if zs[k+j]≠zs[k+(j -1)]then aJ zs (k+j)++[zs[k+j]]else aJ zs (k+j):=by
       rw[←TR,aJ,E,F]
       by_cases d:zs[k+j]≠zs[k+(j -1)]
       .rw[Rx (.inr d),Rx d]
       .rw[Rw (λh=>h.elim (by omega) d),Rw d]
      have s:j<zs.length -k:=by omega
      have D:j -1<zs.length -k:=by omega
      simp[s,D,H,g,o,e];refine⟨by omega,by omega,λd=>?_,λd=>?_⟩
      .rw[Rx d]at c;have J:=dr ((aJ zs (k+j)).length);have A:=wN pre b a (i:=(aJ zs (k+j)).length) zs[k+j] (by omega);refine⟨by omega,by omega,by omega,(j+1,b.set (aJ zs (k+j)).length zs[k+j]),by(try dsimp only);omega,⟨by(try dsimp only);omega,by(try dsimp only);omega,?_,by(try dsimp only);rw[R5];exact K,?_,?_⟩,ah.to (by simp[v,J,c]) (by simp[A]) (by simp) (by simp) (by simp[fL])⟩
       .dsimp only;rw[c,RF,SS];omega
       .dsimp only;rw[c,RF,SS,Sp,VG (Ry _),B,Si (by omega)];rfl
       .dsimp only;rw[U5 (by omega)];have:=Ua (List.drop 1) C;rw[S7,S7]at this
        rwa [show k+j -1+1=k+(j+1) -1 by omega]at this
      .rw[Rw (λh=>h d)]at c;exact⟨(j+1,b),by(try dsimp only);omega,⟨by(try dsimp only);omega,by(try dsimp only);omega,by(try dsimp only);rw[c];omega,K,by(try dsimp only);rw[c];exact B,by
        dsimp only;have:=Ua (List.drop 1) C;rw[S7,S7]at this
        rwa [show k+j -1+1=k+(j+1) -1 by omega]at this⟩,ah.to (by simp[v,c]) rfl (by simp) (by simp) (by simp[fL])⟩
     .have hj:k+j=zs.length:=by omega
      have s:¬j<zs.length -k:=by omega
      rw[hj]at i3 B;have M:=sC zs zs.length (by omega);have t:=sy pre b a (i:=(aJ zs zs.length).length) (n:=zs.length -(aJ zs zs.length).length) 0 (by omega);simp[s,hj,e];refine⟨⟨by omega,by omega⟩,by omega,by omega,⟨by omega,by omega⟩,some (cP zs).length,cP zs++List.replicate (zs.length -(cP zs).length) 0,⟨rfl,rfl⟩,?_,λm w=>?_,rfl,?_⟩
      .unfold cP;simp;omega
      .cases w;unfold cP;omega
      .unfold cP;rw[t,B,R2 (by omega),SX]
   .have:k=zs.length:=by omega
    subst this;simp;rw[RY]at u;exact⟨some zs.length,zs,⟨by unfold cP;rw[u],by unfold cP;rw[u];simp⟩,rfl,λm w=>by cases w;exact Ry _,rfl,rfl⟩
 .subst Q;refine aq aE Tryz.func140 ?_;simp;exact⟨some 0,⟨rfl,rfl⟩,.inr rfl,rfl⟩
theorem f9{P:Program}{fn:Func}(a:fn.results=#[]) (tmps:Array Value) (w:World):(results fn tmps).run P w=.ok (.tuple (([]:List Nat).map λt=>tmps.getD t undef).toArray) w:=by
 simp[results,a]
structure HS where
  sc:List Int
  row:List Int
  pl:List Int
def au(q:HS):List SV:=[.own true 1 (aa q.sc),.own true 1 (aa q.row),.own true 1 (aa q.pl)]
def eA(q:HS):List PV:=[.seq false 1 (aa q.sc),.seq false 1 (aa q.row),.seq false 1 (aa q.pl)]
theorem iR(l:List Int)(i:Nat)(x:Int):(aa l).set i [ae x]=aa (l.set i x):=by simp[aa,V6]
theorem rE(q:HS)(a:0<q.sc.length):am Tryz.prog 174 [.iptr 3 [eA q] 0 0] (λr=>r=.pv (BL true)):=by
 refine aq aE Tryz.func174 ?_;simp[eA,a]
def tE(q:HS)(v:Int):Bool:=decide (1<=v)&&decide (v<q.sc.length)
theorem I6(q:HS)(a:0<q.sc.length)(v:Int):am Tryz.prog 212 [.iptr 3 [eA q] 0 0,ae v] (λr=>r=.pv (BL (tE q v))):=by
 refine aq aE Tryz.func212 ?_;have h1:=rE q a;simp only[eA]at h1;simp[eA];refine ai.intro h1 ?_;simp[tE]
def Lh(q:HS)(v:Int):Int:=if tE q v then 0 else 10
theorem DO(q:HS)(b:0<q.sc.length)(v:Int):am Tryz.prog 209 [.iptr 3 [eA q] 0 0,ae v] (λr=>r=.pv (ae (Lh q v))):=by
 refine aq aE Tryz.func209 ?_;have h1:=rE q b;have a:=I6 q b v;simp only[eA]at h1 a;simp[eA];refine ai.intro h1 ?_;simp;refine ai.intro a ?_;simp[Lh]
theorem xy(q:HS)(e:0<q.sc.length)(d:q.pl.length=q.sc.length)(v:Int):am Tryz.prog 132 [.iptr 3 [eA q] 0 0,ae v] (λr=>r=.pv (BL (tE q v&&decide (0<=q.pl.getD v.toNat 0)))):=by
 refine aq aE Tryz.func132 ?_;have a:=I6 q e v;simp only[eA]at a;simp[eA];refine ai.intro a ?_
 by_cases c:tE q v=true
 .have c2:=c;simp only[tE,RG,RP]at c2;have b:v.toNat<q.pl.length:=by omega
  simp[c,b];omega
 .simp[c]
theorem DP(q:HS)(a:0<q.sc.length):am Tryz.prog 100 [.iptr 3 [eA q] 0 0] (λr=>r=.pv (ae q.row.length)):=by
 refine aq aE Tryz.func100 ?_;have h1:=rE q a;simp only[eA]at h1;simp[eA];refine ai.intro h1 ?_;simp
def b9(q:HS):Int:=q.row.getD 0 0
theorem I7(q:HS)(a:0<q.sc.length):am Tryz.prog 175 [.iptr 3 [eA q] 0 0] (λr=>r=.pv (ae (b9 q))):=by
 refine aq aE Tryz.func175 ?_;have h1:=DP q a;simp only[eA]at h1;simp[eA];refine ai.intro h1 ?_;simp[b9];cases b:q.row with
 |nil=>simp
 |cons x xs=>simp
theorem tF(q:HS)(v w:Nat)(a:v<q.sc.length)(b:w<q.sc.length):am Tryz.prog 251 [.iptr 3 [eA q] 0 0,ae v,ae w] (λr=>r=.pv (BL (j8 q.sc v w))):=by
 refine aq aE Tryz.func251 ?_;simp[eA,a,b,j8];constructor
 .intro c;simp[c]
 .intro c;simp[c]
theorem rF(h:List (List SV))(b:Nat)(q:HS)(d:h[b]?=some (au q))(i v:Nat)(hi:i<q.row.length)(e:v<q.pl.length):
 aB Tryz.prog 176 [.ptr b 0,ae i,ae v] h (λr h'=>r=.pv (.tup [])∧h'=h.set b (au ⟨q.sc,q.row.set i v,q.pl.set v i⟩)):=by
 refine uT [] aE Tryz.func176 (λ_ _=>f9 rfl _ _) ?_;obtain⟨c,a⟩:=Rt.1 d;simp[a,c,au,hi,e,iR]
theorem gX{h:List (List SV)}{b:Nat}{x:List SV}(a:h[b]?=some x):h.set b x=h:=by
 apply Ta;intro i;rw[R4];split
 .rename_i e;subst e;rw[Rx (Rt.1 a).1,a]
 .rfl
theorem pG{h:List (List SV)}{b:Nat}(a:b<h.length)(q:HS)(n:Nat):bG (h.set b (au q)) (n+1) b 0=.iptr 3 [eA q] 0 0:=by
 simp[bG,a,au,eA,frzC]
theorem gC{h:List (List SV)}{b:Nat}{q:HS}(d:h[b]?=some (au q))(n:Nat):bG h (n+1) b 0=.iptr 3 [eA q] 0 0:=by
 obtain⟨c,a⟩:=Rt.1 d;simp[bG,c,a,au,eA,frzC]
theorem ga{h:List (List SV)}{b:Nat}(a:b<h.length)(x:List SV):(h.set b x)[b]?=some x:=by simp[a]
set_option maxRecDepth 16000 in
theorem I8(h:List (List SV))(b:Nat)(q:HS)(F:h[b]?=some (au q))(i:Nat)(hi:i<q.row.length)(hin:uc q.row q.pl.length)(O:q.pl.length=q.sc.length)(hs:q.row.length<=1000000):
 aB Tryz.prog 210 [.ptr b 0,ae i] h (λr h'=>r=.pv (.tup [])∧h'=h.set b (au ⟨q.sc,(qQ q.sc (q.row.getD i 0) i q.row q.pl).1,(qQ q.sc (q.row.getD i 0) i q.row q.pl).2⟩)):=by
 refine uT [] aE Tryz.func210 (λ_ _=>f9 rfl _ _) ?_;obtain⟨a,y⟩:=Rt.1 F;have M:=hin (q.row.getD i 0) (bi hi);obtain⟨v,B⟩:=S6 (show 0<=q.row.getD i 0 by omega);have f:q.row.getD i 0=(v:Int):=B;have C:q.row[i]=(v:Int):=by rw[←f];simp[hi]
 rw[f]at M⊢;have N:v<q.pl.length:=by omega
 simp[y,a,au,hi,C];refine aw.intro (S:=λ(x:Nat×List Int×List Int)=>⟨[(0,.pv (.ptr b 0)),(1,.pv (ae x.1)),(4,.pv (.fn (.func 251) [.ptr b 0] [])),(5,.pv (ae v))],h.set b (au ⟨q.sc,x.2.1,x.2.2⟩)⟩)
  (λx=>x.1<x.2.1.length∧x.2.1.length=q.row.length∧x.2.2.length=q.pl.length∧uc x.2.1 q.pl.length∧qQ q.sc v x.1 x.2.1 x.2.2=qQ q.sc v i q.row q.pl) (λx=>x.1) (i,q.row,q.pl) ?_ ?_ ?_
 .exact ah.keep (by simp) (gX F).symm
 .exact⟨hi,rfl,rfl,hin,rfl⟩
 .rintro⟨j,row,pl⟩ ⟨t,H,I,E,w⟩;dsimp only at t H I E w;rcases Ui j with h0|h0
  .subst h0;have A:0<row.length:=t;simp[a,au];refine aj.intro (rF _ b ⟨q.sc,row,pl⟩ (ga a _) 0 v A (by dsimp only;omega)) ?_;rintro _ _ ⟨rfl,rfl⟩;rw[←w];unfold qQ;simp[au]
  .obtain⟨k,rfl⟩:∃k,j=k+1:=⟨j -1,by omega⟩;obtain⟨p,hp,K⟩:∃p:Nat,Int.tdiv (k:Int) 2=(p:Int)∧p=k/2:=⟨k/2,rfl,rfl⟩;have D:aS ((k:Nat):Int)=(k:Int):=ap (by omega) (by omega);have g:aS ((p:Nat):Int)=(p:Int):=ap (by omega) (by omega);have d:p<row.length:=by omega
   have G:=E (row.getD p 0) (bi d);obtain⟨u,L⟩:=S6 (show 0<=row.getD p 0 by omega);have n:row.getD p 0=(u:Int):=L;have o:row[p]=(u:Int):=by rw[←n];simp[d]
   have z:=tF ⟨q.sc,row,pl⟩ v u (by dsimp only;omega) (by dsimp only;omega);simp[a,au,D,hp,g,d,o];rw[←au.eq_1 ⟨q.sc,row,pl⟩,pG a];refine aj.introP z ?_;rw[au.eq_1 ⟨q.sc,row,pl⟩];have m:=rF (h.set b (au ⟨q.sc,row,pl⟩)) b ⟨q.sc,row,pl⟩ (ga a _) (k+1) v t (by dsimp only;omega);have e:=rF (h.set b (au ⟨q.sc,row,pl⟩)) b ⟨q.sc,row,pl⟩ (ga a _) (k+1) u t (by dsimp only;omega)
   push_cast at m e
   have s:qQ q.sc v (k+1) row pl=if j8 q.sc v u=true then qQ q.sc v p (row.set (k+1) u) (pl.set u (k+1:Nat))else(row.set (k+1) v,pl.set v (k+1:Nat)):=by
    rw[qQ];have J:(k+1 -1)/2=p:=by omega
    simp only[J,n]
    by_cases c:j8 q.sc v u=true
    .rw[dif_pos ⟨by omega,c⟩,Rx c];rfl
    .rw[dif_neg (λh=>c h.2),Rw c];rfl
   cases l:j8 q.sc v u with
   |false=>
    simp[a,au];refine aj.intro m ?_;rintro _ _ ⟨rfl,rfl⟩;rw[←w,s,l];simp[au]
   |true=>
    simp[a,au,D,hp,g,d,o];refine aj.intro e ?_;rintro _ _ ⟨rfl,rfl⟩;simp[D,hp,g];refine⟨(p,row.set (k+1) u,pl.set u (k+1:Nat)),by dsimp only;omega,⟨by dsimp only;simp;omega,by simpa using H,by simpa using I,?_,?_⟩,ah.keep ?_ ?_⟩
    .intro x hx;rcases TE hx with hx|hx
     .exact E x hx
     .omega
    .rw[←w,s,l];rfl
    .simp
    .simp[au]
theorem qR(q:HS)(v w:Int)(e:0<=v∧v<q.sc.length)(f:0<=w∧w<q.sc.length):am Tryz.prog 251 [.iptr 3 [eA q] 0 0,ae v,ae w] (λr=>r=.pv (BL (j8 q.sc v w))):=by
 obtain⟨a,b⟩:=S6 e.1;obtain⟨c,d⟩:=S6 f.1;have:=tF q a c (by omega) (by omega);rw[b,d];exact this
theorem zN(h:List (List SV))(b:Nat)(q:HS)(d:h[b]?=some (au q))(i:Nat)(v:Int)(hi:i<q.row.length)(e:0<=v∧v<q.pl.length):
 aB Tryz.prog 176 [.ptr b 0,ae i,ae v] h (λr h'=>r=.pv (.tup [])∧h'=h.set b (au ⟨q.sc,q.row.set i v,q.pl.set v.toNat i⟩)):=by
 obtain⟨a,c⟩:=S6 e.1;have:=rF h b q d i a hi (by omega);rw[c];exact this
def I9(sc row:List Int)(v:Int)(i:Nat):Int×Nat:=if 2*i+1<row.length∧j8 sc (row.getD (2*i+1) 0) v=true then(row.getD (2*i+1) 0,2*i+1)else(v,i)
def DQ(sc row:List Int)(v:Int)(i:Nat):Nat->Int×Nat
 |0=>(v,i)
 |1=>I9 sc row v i
 |_=>ft sc row v i
theorem Li(sc row:List Int)(v:Int)(i:Nat):ft sc row v i=if 2*i+2<row.length∧j8 sc (row.getD (2*i+2) 0) (I9 sc row v i).1=true then(row.getD (2*i+2) 0,2*i+2)else I9 sc row v i:=rfl
theorem Ja{sc row:List Int}{v:Int}{i n:Nat}(hin:uc row n)(a:1<=v∧v<n)(hi:i<row.length):1<=(I9 sc row v i).1∧(I9 sc row v i).1<n∧(I9 sc row v i).2<row.length:=by
 unfold I9;split
 .rename_i c;have:=hin _ (bi c.1);exact⟨this.1,this.2,c.1⟩
 .exact⟨a.1,a.2,hi⟩
theorem zO{sc row:List Int}{v:Int}{i n:Nat}(hin:uc row n)(a:1<=v∧v<n)(hi:i<row.length):1<=(ft sc row v i).1∧(ft sc row v i).1<n∧(ft sc row v i).2<row.length:=by
 rw[Li];split
 .rename_i c;have:=hin _ (bi c.1);exact⟨this.1,this.2,c.1⟩
 .exact Ja hin a hi
set_option maxRecDepth 16000 in
theorem zP(h:List (List SV))(b:Nat)(q:HS)(N:h[b]?=some (au q))(i:Nat)(hi:i<q.row.length)(hin:uc q.row q.pl.length)(Y:q.pl.length=q.sc.length)(hs:q.row.length<=1000000):
 aB Tryz.prog 177 [.ptr b 0,ae i] h (λr h'=>r=.pv (.tup [])∧h'=h.set b (au ⟨q.sc,(ez q.sc (q.row.getD i 0) q.row.length i q.row q.pl).1,(ez q.sc (q.row.getD i 0) q.row.length i q.row q.pl).2⟩)):=by
 refine uT [] aE Tryz.func177 (λ_ _=>f9 rfl _ _) ?_;obtain⟨d,E⟩:=Rt.1 N;have O:=hin (q.row.getD i 0) (bi hi);have J:q.row[i]=q.row.getD i 0:=by simp[hi]
 generalize V:q.row.getD i 0=v at*;simp[E,d,au,hi,J];refine aw.intro (S:=λ(x:Nat×Nat×List Int×List Int)=>⟨[(0,.pv (.ptr b 0)),(1,.pv (ae x.2.1)),(4,.pv (ae v))],h.set b (au ⟨q.sc,x.2.2.1,x.2.2.2⟩)⟩)
  (λx=>x.2.1<x.2.2.1.length∧x.2.2.1.length=q.row.length∧x.2.2.2.length=q.pl.length∧uc x.2.2.1 q.pl.length∧x.2.2.1.length<=x.2.1+x.1∧ez q.sc v x.1 x.2.1 x.2.2.1 x.2.2.2=ez q.sc v q.row.length i q.row q.pl) (λx=>x.1) (q.row.length,i,q.row,q.pl) ?_ ?_ ?_
 .exact ah.keep (by simp) (gX N).symm
 .exact⟨hi,rfl,rfl,hin,by dsimp only;omega,rfl⟩
 .rintro⟨n,j,row,pl⟩ ⟨D,P,Q,y,W,w⟩;dsimp only at D P Q y W w;have K:aS (2*(j:Int))=2*(j:Int):=ap (by omega) (by omega);have o:aS 1=1:=ap (by omega) (by omega);have p:aS 2=2:=ap (by omega) (by omega);obtain⟨c1,F⟩:∃c,c=2*j+1:=⟨_,rfl⟩;obtain⟨c2,G⟩:∃c,c=2*j+2:=⟨_,rfl⟩;have L:aS (2*(j:Int)+1)=(c1:Int):=by rw[ap (by omega) (by omega)];omega
  have M:aS (2*(j:Int)+2)=(c2:Int):=by rw[ap (by omega) (by omega)];omega
  have z:=Ja (sc:=q.sc) (i:=j) y O D;have A:=zO (sc:=q.sc) (i:=j) y O D;have B:I9 q.sc row v j=if c1<row.length∧j8 q.sc (row.getD c1 0) v=true then(row.getD c1 0,c1)else(v,j):=by rw[F];rfl
  have C:ft q.sc row v j=if c2<row.length∧j8 q.sc (row.getD c2 0) (I9 q.sc row v j).1=true then(row.getD c2 0,c2)else I9 q.sc row v j:=by rw[G];rfl
  simp[K,L,M];refine aw.intro (S:=λ(t:Nat)=>⟨[(0,.pv (.ptr b 0)),(1,.pv (ae j)),(4,.pv (ae v)),(5,.pv (ae (DQ q.sc row v j t).1)),(6,.pv (ae (DQ q.sc row v j t).2)),(24,.pv (.agg [ae c1,ae c2])),(25,.pv (ae t))],h.set b (au ⟨q.sc,row,pl⟩)⟩)
   (λt=>t<=2) (λt=>2 -t) 0 ?_ ?_ ?_
  .exact ah.keep (by simp[DQ]) rfl
  .omega
  .intro t ht;have:t=0∨t=1∨t=2:=by omega
   rcases this with rfl|rfl|rfl
   .by_cases a:c1<row.length
    .have H:=y _ (bi a);have m:row[c1]=row.getD c1 0:=by simp[a]
     generalize U:row.getD c1 0=u at*;have s:=qR ⟨q.sc,row,pl⟩ u v (by dsimp only;omega) (by dsimp only;omega);simp[d,au,DQ,a,m];rw[←au.eq_1 ⟨q.sc,row,pl⟩,pG d];refine aj.introP s ?_;rw[au.eq_1 ⟨q.sc,row,pl⟩];cases l:j8 q.sc u v with
     |false=>
      simp;refine⟨1,by dsimp only;omega,by dsimp only;omega,ah.keep ?_ (by simp[au])⟩;simp[o,DQ,B,l]
     |true=>
      simp[d,a,m];refine⟨1,by dsimp only;omega,by dsimp only;omega,ah.keep ?_ (by simp[au])⟩;simp[o,DQ,B,l,a]
    .simp[d,au,DQ,a];refine⟨1,by dsimp only;omega,by dsimp only;omega,ah.keep ?_ (by simp[au])⟩;simp[o,DQ,B,a]
   .generalize g:I9 q.sc row v j=be at*;obtain⟨f,at'⟩:=be;dsimp only at z
    by_cases a:c2<row.length
    .have H:=y _ (bi a);have m:row[c2]=row.getD c2 0:=by simp[a]
     generalize U:row.getD c2 0=u at*;have s:=qR ⟨q.sc,row,pl⟩ u f (by dsimp only;omega) (by dsimp only;omega);simp[d,au,DQ,a,m,g];rw[←au.eq_1 ⟨q.sc,row,pl⟩,pG d];refine aj.introP s ?_;rw[au.eq_1 ⟨q.sc,row,pl⟩];cases l:j8 q.sc u f with
     |false=>
      simp;refine⟨2,by dsimp only;omega,by dsimp only;omega,ah.keep ?_ (by simp[au])⟩;simp[p,DQ,C,l]
     |true=>
      simp[d,a,m];refine⟨2,by dsimp only;omega,by dsimp only;omega,ah.keep ?_ (by simp[au])⟩;simp[p,DQ,C,l,a]
    .simp[d,au,DQ,a,g];refine⟨2,by dsimp only;omega,by dsimp only;omega,ah.keep ?_ (by simp[au])⟩;simp[p,DQ,C,a]
   .have hn:n≠0:=by omega
    obtain⟨n,rfl⟩:∃k,n=k+1:=⟨n -1,by omega⟩;rw[ez]at w;clear B C z;generalize g:ft q.sc row v j=be at*;obtain⟨f,at'⟩:=be;dsimp only at A w;have I:=zN (h.set b (au ⟨q.sc,row,pl⟩)) b ⟨q.sc,row,pl⟩ (ga d _) j f D (by dsimp only;omega);simp[d,au,DQ,g];refine aj.intro I ?_;rintro _ _ ⟨rfl,rfl⟩
    by_cases c:at'=j
    .rw[Rx c]at w;simp[c,←w,au]
    .rw[Rw c]at w;have c':¬(at':Int)=(j:Int):=by omega
     simp[c,c',d,au,A,iR];have T:j<at':=by
      rcases zM (sc:=q.sc) (row:=row) (v:=v) (i:=j)with⟨e,_⟩|⟨X,e,_,_,R,_⟩
      .rw[g]at e;simp only[Tf]at e;omega
      .rw[g]at e;simp only[Tf]at e;omega
     refine⟨(n,at',(row.set j f).set at' v,pl.set f.toNat j),by dsimp only;omega,⟨?_,?_,?_,?_,?_,w⟩,ah.keep ?_ ?_⟩
     .dsimp only;simp only[R5];omega
     .simpa using P
     .simpa using Q
     .intro x hx;rcases TE hx with hx|hx
      .rcases TE hx with hx|hx
       .exact y x hx
       .omega
      .omega
     .dsimp only;simp only[R5];omega
     .simp
     .simp[au]
end Go.AX
namespace Go.AX
set_option maxRecDepth 16000
open Go.Proofs
set_option linter.unusedSimpArgs false
theorem vK{sc:List Int}{v:Int}:∀(n i:Nat)(row pl:List Int),(ez sc v n i row pl).1.length=row.length∧(ez sc v n i row pl).2.length=pl.length
 |0,i,row,pl=>by simp[ez]
 |n+1,i,row,pl=>by
  rw[ez];split
  .simp
  .obtain⟨h1,a⟩:=vK (sc:=sc) (v:=v) n (ft sc row v i).2 ((row.set i (ft sc row v i).1).set (ft sc row v i).2 v) (pl.set (ft sc row v i).1.toNat i);rw[h1,a];simp
theorem rG{row:List Int}{n i:Nat}{x:Int}(h:uc row n)(hx:1<=x∧x<n):uc (row.set i x) n:=by
 intro y hy;rcases TE hy with hy|hy
 .exact h y hy
 .subst hy;exact hx
theorem zQ{sc:List Int}{v:Int}{m:Nat}(a:1<=v∧v<m):∀(n i:Nat)(row pl:List Int),i<row.length->uc row m->uc (ez sc v n i row pl).1 m
 |0,i,row,pl,hi,h=>rG h a
 |n+1,i,row,pl,hi,h=>by
  have hp:=zO (sc:=sc) (i:=i) h a hi;rw[ez];split
  .exact rG h ⟨hp.1,hp.2.1⟩
  .exact zQ a n _ _ _ (by simp only[R5];exact hp.2.2) (rG (rG h ⟨hp.1,hp.2.1⟩) a)
def iS(sc:List Int):Nat->List Int->List Int->List Int×List Int
 |0,row,pl=>(row,pl)
 |k+1,row,pl=>iS sc k (ez sc (row.getD k 0) row.length k row pl).1 (ez sc (row.getD k 0) row.length k row pl).2
theorem FD(h:List (List SV))(b:Nat)(q:HS)(o:h[b]?=some (au q))(hin:uc q.row q.pl.length)(A:q.pl.length=q.sc.length)(hs:q.row.length<=1000000):
 aB Tryz.prog 248 [.ptr b 0] h (λr h'=>r=.pv (.tup [])∧h'=h.set b (au ⟨q.sc,(iS q.sc (q.row.length/2) q.row q.pl).1,(iS q.sc (q.row.length/2) q.row q.pl).2⟩)):=by
 refine uT [] aE Tryz.func248 (λ_ _=>f9 rfl _ _) ?_;obtain⟨a,g⟩:=Rt.1 o;obtain⟨m,u,j⟩:∃p:Nat,Int.tdiv (q.row.length:Int) 2=(p:Int)∧p=q.row.length/2:=⟨q.row.length/2,rfl,rfl⟩;have w:aS (m:Int)=(m:Int):=ap (by omega) (by omega);have l:aS ((m:Int) -1)=(m:Int) -1:=ap (by omega) (by omega);rw[←j];simp[g,a,au,u,w,l];refine aw.intro (S:=λ(x:Nat×List Int×List Int)=>⟨[(0,.pv (.ptr b 0)),(2,.pv (ae ((x.1:Int) -1)))],h.set b (au ⟨q.sc,x.2.1,x.2.2⟩)⟩)
  (λx=>x.1<=x.2.1.length∧x.2.1.length=q.row.length∧x.2.2.length=q.pl.length∧uc x.2.1 q.pl.length∧iS q.sc x.1 x.2.1 x.2.2=iS q.sc m q.row q.pl) (λx=>x.1) (m,q.row,q.pl) ?_ ?_ ?_
 .exact ah.keep (by simp) (gX o).symm
 .exact⟨by dsimp only;omega,rfl,rfl,hin,rfl⟩
 .rintro⟨k,row,pl⟩ ⟨y,z,t,e,f⟩;dsimp only at y z t e f;rcases Ui k with h0|h0
  .subst h0;rw[←f];simp[a,au,iS]
  .obtain⟨k,rfl⟩:∃i,k=i+1:=⟨k -1,by omega⟩;have n:aS ((k:Int) -1)=(k:Int) -1:=ap (by omega) (by omega);have c:=zP (h.set b (au ⟨q.sc,row,pl⟩)) b ⟨q.sc,row,pl⟩ (ga a _) k (by dsimp only;omega) (by dsimp only;rw[t];exact e) (by dsimp only;omega) (by dsimp only;omega);have s:=vK (sc:=q.sc) (v:=row.getD k 0) row.length k row pl;have d:=zQ (sc:=q.sc) (e _ (bi (show k<row.length by omega))) row.length k row pl (by omega) e;rw[iS]at f;simp only[au]at c;simp[a,au];refine aj.intro c ?_;rintro _ _ ⟨rfl,rfl⟩;simp[n];refine⟨(k,_,_),by dsimp only;omega,⟨?_,?_,?_,d,f⟩,ah.keep ?_ ?_⟩
   .dsimp only;omega
   .dsimp only;omega
   .dsimp only;omega
   .simp
   .simp[au]
def half(x:Int):Int:=aS (Int.tdiv x 2)
def ia(l:List Int)(i:Nat):List Int:=(l.take i).map half++l.drop i
theorem Cc(l:List Int)(i:Nat):(ia l i).length=l.length:=by
 simp only[ia,RF,RH,RD,Sj];omega
theorem Cd{l:List Int}{i:Nat}(h:i<l.length):(ia l i)[i]?=some l[i]:=by
 have a:((l.take i).map half).length=i:=by simp;omega
 rw[ia,RV (by omega),a,TV,SZ];simp[h]
theorem zR{l:List Int}{i:Nat}(h:i<l.length):(ia l i).set i (half l[i])=ia l (i+1):=by
 have a:((l.take i).map half).length=i:=by simp;omega
 unfold ia;rw[Uz _ _ (by omega),a,TV,SC h,R8 h,R1,Vc,R6];rfl
def cu(q:HS):HS:=⟨q.sc.map half,(iS (q.sc.map half) (q.row.length/2) q.row q.pl).1,(iS (q.sc.map half) (q.row.length/2) q.row q.pl).2⟩
theorem qu(h:List (List SV))(b:Nat)(q:HS)(k:h[b]?=some (au q))(o:0<q.sc.length)(hin:uc q.row q.pl.length)(n:q.pl.length=q.sc.length)(hs:q.row.length<=1000000)(p:q.sc.length<=1000000):
 aB Tryz.prog 169 [.ptr b 0] h (λr h'=>r=.pv (.tup [])∧h'=h.set b (au (cu q))):=by
 refine uT [] aE Tryz.func169 (λ_ _=>f9 rfl _ _) ?_;obtain⟨a,l⟩:=Rt.1 k;have h1:=rE q o;simp;rw[gC k];refine aj.introP h1 ?_;simp[l,a,au];refine aw.intro (S:=λ(i:Nat)=>⟨[(0,.pv (.ptr b 0)),(10,.pv (ae q.sc.length)),(11,.pv (ae i))],h.set b (au ⟨ia q.sc i,q.row,q.pl⟩)⟩)
  (λi=>i<=q.sc.length) (λi=>q.sc.length -i) 0 ?_ ?_ ?_
 .exact ah.keep (by simp) (by simp[ia,gX k])
 .omega
 .intro i hi
  by_cases c:i<q.sc.length
  .have s:=dr i;have g:=Cc q.sc i;have e:=Cd c;have d:(ia q.sc i)[i]'(by omega)=q.sc[i]:=by
    have:=Rt.1 e;exact this.2
   have j:=zR c;unfold half at j;simp[a,au,c,g,d,iR];refine⟨i+1,by dsimp only;omega,by dsimp only;omega,ah.keep ?_ ?_⟩
   .simp[s]
   .simp[au,j]
  .have:i=q.sc.length:=by omega
   subst this;have f:=FD (h.set b (au ⟨q.sc.map half,q.row,q.pl⟩)) b ⟨q.sc.map half,q.row,q.pl⟩ (ga a _) hin (by simpa using n) hs;have m:ia q.sc q.sc.length=q.sc.map half:=by simp[ia]
   simp only[au]at f;simp[a,au,m];refine aj.intro f ?_;rintro _ _ ⟨rfl,rfl⟩;simp[cu]
end Go.AX
namespace Go.AX
def eY(q:HS)(v by':Int):HS×Int:=
 if tE q v=false then(q,10)else if by'<0∨1000000000000<by' then(q,2)else
  let a:=q.sc.set v.toNat (q.sc.getD v.toNat 0+by')
  let b:HS:=if 0<=q.pl.getD v.toNat 0 then⟨a,(qQ a (q.row.getD (q.pl.getD v.toNat 0).toNat 0) (q.pl.getD v.toNat 0).toNat q.row q.pl).1,(qQ a (q.row.getD (q.pl.getD v.toNat 0).toNat 0) (q.pl.getD v.toNat 0).toNat q.row q.pl).2⟩else⟨a,q.row,q.pl⟩
  (if 1000000000000<b.sc.getD v.toNat 0 then cu b else b,0)
def eC(q:HS)(v:Int):HS×Int:=
 if tE q v=false then(q,10)else if 0<=q.pl.getD v.toNat 0 then(q,21)else
  (⟨q.sc,(qQ q.sc v q.row.length (q.row++[v]) q.pl).1,(qQ q.sc v q.row.length (q.row++[v]) q.pl).2⟩,0)
def fl(q:HS):HS×Int:=
 if b9 q=0 then(q,0)else
  let w:=q.row.getD (q.row.length -1) 0
  let a:=(q.row.set 0 w).take (q.row.length -1)
  let b:=(q.pl.set w.toNat 0).set (b9 q).toNat (-1)
  (if 0<q.row.length -1 then⟨q.sc,(ez q.sc (a.getD 0 0) a.length 0 a b).1,(ez q.sc (a.getD 0 0) a.length 0 a b).2⟩else⟨q.sc,a,b⟩,b9 q)
def nk(n:Nat):HS:=⟨List.replicate (n+1) 0,(List.range n).map λi=>((i+1:Nat):Int),0::(List.range n).map λi=>((i:Nat):Int)⟩
structure HpG (n:Nat) (M:Int) (q:HS):Prop where
  sl:q.sc.length=n+1
  pll:q.pl.length=n+1
  nd:q.row.Nodup
  inr:uc q.row (n+1)
  plc:PL q.row q.pl
  out:∀u:Nat,1<=u->u<=n->¬(u:Int)∈q.row->q.pl.getD u 0=-1
  ho:HO q.sc q.row 0
  rng:∀x∈q.sc,0<=x∧x<=M
namespace HpG
variable {n : Nat} {M : Int} {q : HS}
theorem few(g:HpG n M q):q.row.length<=n:=by
 have := cW q.row ((List.range n).map λ i => ((i + 1 : Nat) : Int)) g.nd (λ x hx => by
  have:=g.inr x hx;rw[RE];exact⟨(x -1).toNat,SK.2 (by omega),by omega⟩)
 simpa using this
theorem isV_iff(g:HpG n M q){v:Int}:tE q v=true↔1<=v∧v<=n:=by
 simp only[tE,RG,RP,g.sl];omega
theorem place(g:HpG n M q){v:Int}(h:v∈q.row):∃i,i<q.row.length∧q.row.getD i 0=v∧q.pl.getD v.toNat 0=(i:Int):=by
 obtain⟨i,hi,e⟩:=I4 h;exact⟨i,hi,e,by have:=g.plc i hi;rwa [e]at this⟩
theorem has_iff(g:HpG n M q){v:Int}(a:1<=v∧v<=n):0<=q.pl.getD v.toNat 0↔v∈q.row:=by
 constructor
 .intro h;apply RW;intro hn;have:=g.out v.toNat (by omega) (by omega) (by rwa [show((v.toNat:Nat):Int)=v by omega]);omega
 .intro h;obtain⟨i,_,_,e⟩:=g.place h;rw[e];omega
theorem score(g:HpG n M q)(v:Nat):0<=q.sc.getD v 0∧(0<=M->q.sc.getD v 0<=M):=by
 by_cases h:v<q.sc.length
 .have:=g.rng _ (bi h);exact⟨this.1,λ_=>this.2⟩
 .have:q.sc.getD v 0=0:=by simp[Rv,h]
  rw[this];exact⟨by omega,λh=>h⟩
theorem first(g:HpG n M q):∀j,j<q.row.length->j8 q.sc (q.row.getD j 0) (q.row.getD 0 0)=false:=by
 intro j
 induction j using Nat.strongRecOn with
 |_ j a=>
  intro hj;rcases Ui j with h0|h0
  .subst h0;exact m9 _ _
  .exact iQ (g.ho j h0 hj (RL _)) (a ((j -1)/2) (by omega) (by omega))
theorem peek_zero(g:HpG n M q):b9 q=0↔q.row=[]:=by
 constructor
 .intro h;cases a:q.row with
  |nil=>rfl
  |cons x xs=>
   have:=g.inr x (by rw[a];simp);simp only[b9,a,Te]at h;omega
 .intro h;simp[b9,h]
theorem peek_mem(g:HpG n M q)(h:b9 q≠0):b9 q∈q.row:=by
 cases a:q.row with
 |nil=>exact absurd (g.peek_zero.2 a) h
 |cons x xs=>simp[b9,a]
end HpG
theorem vL{sc:List Int}:∀(k:Nat)(row pl:List Int),k<=row.length->row.Nodup->uc row pl.length->PL row pl->HO sc row k->DnOk sc row pl 0 (iS sc k row pl)
 |0,row,pl,_,_,_,hp,ho=>⟨UA _,ho,hp,λ_ _=>rfl,rfl⟩
 |k+1,row,pl,hk,a,hin,hp,ho=>by
  have d:=tD (sc:=sc) (v:=row.getD k 0) (k:=k) row.length k row pl (by omega) (by omega) (Ry _) rfl a hin (λj hj _=>hp j hj)
   (λj b hj e g=>ho j b hj (by omega)) (λj _ _ _ h1 i=>by omega)
  have f:=d.perm.length_eq;have r:=vL k _ _ (by rw[f];omega) (d.perm.nodup_iff.2 a) (by rw[d.len];exactλx hx=>hin x (d.perm.mem_iff.1 hx)) d.plc d.ho;exact⟨r.perm.trans d.perm,r.ho,r.plc,λu c=>by rw[iS,r.out u (λh=>c (d.perm.mem_iff.1 h)),d.out u c],r.len.trans d.len⟩
theorem Lj{x:Int}(h:0<=x)(a:x<=4000000000000):half x=x/2:=by
 unfold half;have:Int.tdiv x 2=x/2:=UV h;rw[this,ap (by omega) (by omega)]
theorem lD{n:Nat}{M:Int}{q:HS}(g:HpG n (2*M) q)(h0:0<=M)(i:M<=1000000000000):HpG n M (cu q)∧(cu q).row.Perm q.row∧(cu q).sc=q.sc.map (·/2):=by
 have b:q.sc.map half=q.sc.map (·/2):=TT λx hx=>by have:=g.rng x hx;exact Lj this.1 (by omega)
 have a:=vL (sc:=q.sc.map half) (q.row.length/2) q.row q.pl (by omega) g.nd (by rw[g.pll];exact g.inr) g.plc (λj h1 d f=>by omega);refine⟨⟨by simp[cu,g.sl],by simp only[cu];rw[a.len,g.pll],a.perm.nodup_iff.2 g.nd,λx hx=>g.inr x (a.perm.mem_iff.1 hx),a.plc,λu h1 d e=>?_,a.ho,λx hx=>?_⟩,a.perm,b⟩
 .have c:¬(u:Int)∈q.row:=λh=>e (a.perm.mem_iff.2 h);rw[show(cu q).pl.getD u 0=_ from a.out u c];exact g.out u h1 d c
 .simp only[cu,b,RE]at hx;obtain⟨y,hy,rfl⟩:=hx;have:=g.rng y hy;omega
theorem HpG.mono{n:Nat}{M a:Int}{q:HS}(g:HpG n M q)(h:M<=a):HpG n a q:=⟨g.sl,g.pll,g.nd,g.inr,g.plc,g.out,g.ho,λx hx=>by have:=g.rng x hx;omega⟩
theorem Jb{l:List Int}{i:Nat}:l.set i (l.getD i 0)=l:=by
 apply T6
 .simp
 .intro j b a;rw[V0];split
  .rename_i e;subst e;simp[Rv,a]
  .rfl
def d6(q:HS)(v by':Int):HS:=
 if 0<=q.pl.getD v.toNat 0 then⟨q.sc.set v.toNat (q.sc.getD v.toNat 0+by'),(qQ (q.sc.set v.toNat (q.sc.getD v.toNat 0+by')) (q.row.getD (q.pl.getD v.toNat 0).toNat 0) (q.pl.getD v.toNat 0).toNat q.row q.pl).1,(qQ (q.sc.set v.toNat (q.sc.getD v.toNat 0+by')) (q.row.getD (q.pl.getD v.toNat 0).toNat 0) (q.pl.getD v.toNat 0).toNat q.row q.pl).2⟩else⟨q.sc.set v.toNat (q.sc.getD v.toNat 0+by'),q.row,q.pl⟩
theorem tG{n:Nat}{q:HS}(g:HpG n 1000000000000 q){v by':Int}(H:1<=v∧v<=n)(c2:¬(by'<0∨1000000000000<by')):
 HpG n (2*1000000000000) (d6 q v by')∧(d6 q v by').row.Perm q.row∧(d6 q v by').sc=q.sc.set v.toNat (q.sc.getD v.toNat 0+by')∧(d6 q v by').sc.getD v.toNat 0=q.sc.getD v.toNat 0+by':=by
 have E:v.toNat<q.sc.length:=by rw[g.sl];omega
 have N:=g.score v.toNat;have d:∀u:Nat,(q.sc.set v.toNat (q.sc.getD v.toNat 0+by')).getD u 0=if u=v.toNat then q.sc.getD v.toNat 0+by' else q.sc.getD u 0:=λu=>by
  rw[bg]
  by_cases e:u=v.toNat
  .rw[Rx ⟨e.symm,E⟩,Rx e]
  .rw[Rw (λh=>e h.1.symm),Rw e]
 have o:∀x∈q.sc.set v.toNat (q.sc.getD v.toNat 0+by'),0<=x∧x<=2*1000000000000:=λx hx=>by
  rcases TE hx with hx|hx
  .have:=g.rng x hx;omega
  .omega
 generalize r:q.sc.set v.toNat (q.sc.getD v.toNat 0+by')=c at*;have s:c.length=n+1:=by rw[←r,R5,g.sl]
 have key:∀w:HS,w=(if 0<=q.pl.getD v.toNat 0 then⟨c,(qQ c (q.row.getD (q.pl.getD v.toNat 0).toNat 0) (q.pl.getD v.toNat 0).toNat q.row q.pl).1,(qQ c (q.row.getD (q.pl.getD v.toNat 0).toNat 0) (q.pl.getD v.toNat 0).toNat q.row q.pl).2⟩else⟨c,q.row,q.pl⟩)->
  HpG n (2*1000000000000) w∧w.row.Perm q.row∧w.sc=c:=by
  intro w l
  by_cases c3:0<=q.pl.getD v.toNat 0
  .rw[Rx c3]at l;obtain⟨i,hi,m,A⟩:=g.place ((g.has_iff H).1 c3);rw[A,SF,m]at l;have b:q.row.set i v=q.row:=by rw[←m];exact Jb
   have C:∀j,j<q.row.length->j≠i->q.row.getD j 0≠v:=λj hj k e=>k (dY g.nd hj hi (by rw[e,m]));have a:∀j,j<q.row.length->j≠i->c.getD (q.row.getD j 0).toNat 0=q.sc.getD (q.row.getD j 0).toNat 0:=λj hj k=>by
    have h1:=g.inr _ (bi hj);have p:=C j hj k;rw[d,Rw (by omega)]
   have D:=I5 (sc:=c) (v:=v) i q.row q.pl hi (by rw[b];exact g.nd) (by rw[b,g.pll];exact g.inr) (by rw[b];exactλj hj _=>g.plc j hj)
    (λ j f hj k => by
     rw[b];have h1:=g.ho j f hj (RL _);have p:=a j hj k
     by_cases e:(j -1)/2=i
     .rw[e,m]at h1⊢;rw[gW]at h1⊢;rw[p,d,Rx rfl];omega
     .have L:=a ((j -1)/2) (by omega) e;rw[gW]at h1⊢;rw[p,L];exact h1)
    (λ j f hj B z => by
     rw[b];have h1:=g.ho j f hj (RL _);have M:=g.ho i z hi (RL _);rw[B]at h1;have G:=iQ h1 M;rw[gW]at G⊢;rw[a j hj (by omega),a ((i -1)/2) (by omega) (by omega)];exact G)
   obtain⟨y,Q,R,J,S⟩:=D;rw[b]at y J;subst l;exact⟨⟨s,by dsimp only;rw[S,g.pll],y.nodup_iff.2 g.nd,λx hx=>g.inr x (y.mem_iff.1 hx),R,λu h1 p O=>by
    have t:¬(u:Int)∈q.row:=λh=>O (y.mem_iff.2 h);dsimp only;rw[J u t];exact g.out u h1 p t,Q,o⟩,y,rfl⟩
  .rw[Rw c3]at l;subst l;have F:¬v∈q.row:=λh=>c3 ((g.has_iff H).2 h);refine⟨⟨s,g.pll,g.nd,g.inr,g.plc,g.out,λj f hj hk=>?_,o⟩,UA _,rfl⟩;have h1:=g.ho j f hj (RL _);have a:∀j,j<q.row.length->c.getD (q.row.getD j 0).toNat 0=q.sc.getD (q.row.getD j 0).toNat 0:=λj hj=>by
    have h1:=g.inr _ (bi hj);have p:q.row.getD j 0≠v:=λe=>F (by rw[←e];exact bi hj);rw[d,Rw (by omega)]
   rw[gW]at h1⊢;dsimp only at hj⊢;rw[a j hj,a ((j -1)/2) (by omega)];exact h1
 obtain⟨K,P,I⟩:=key (d6 q v by') (by rw[←r];rfl);exact⟨K,P,I,by rw[I,d,Rx rfl]⟩
theorem vM{n:Nat}{q:HS}(g:HpG n 1000000000000 q)(v by':Int):HpG n 1000000000000 (eY q v by').1∧(eY q v by').1.row.Perm q.row∧
 ((eY q v by').2=0->(eY q v by').1.sc=(let s:=q.sc.set v.toNat (q.sc.getD v.toNat 0+by');if 1000000000000<q.sc.getD v.toNat 0+by' then s.map (·/2)else s))∧((eY q v by').2≠0->(eY q v by').1=q):=by
 unfold eY
 by_cases c1:tE q v=false
 .rw[Rx c1];exact⟨g,UA _,λh=>absurd h (by simp),λ_=>rfl⟩
 rw[Rw c1]
 by_cases c2:by'<0∨1000000000000<by'
 .rw[Rx c2];exact⟨g,UA _,λh=>absurd h (by simp),λ_=>rfl⟩
 rw[Rw c2];have f:=g.isV_iff.1 (by simpa using c1);obtain⟨a,d,c,b⟩:=tG g f c2
 change HpG n 1000000000000 ((if 1000000000000<(d6 q v by').sc.getD v.toNat 0 then cu (d6 q v by')else d6 q v by',(0:Int))).1∧((if 1000000000000<(d6 q v by').sc.getD v.toNat 0 then cu (d6 q v by')else d6 q v by',(0:Int))).1.row.Perm q.row∧(_->((if 1000000000000<(d6 q v by').sc.getD v.toNat 0 then cu (d6 q v by')else d6 q v by',(0:Int))).1.sc=_)∧(¬(0:Int)=0->_)
 generalize d6 q v by'=k at*
 rw[b];dsimp only
 by_cases c4:1000000000000<q.sc.getD v.toNat 0+by'
 .rw[Rx c4,Rx c4];obtain⟨g2,i,j⟩:=lD a (by omega) (by omega);exact⟨g2,i.trans d,λ_=>by rw[j,c],λh=>absurd rfl h⟩
 .rw[Rw c4,Rw c4];refine⟨⟨a.sl,a.pll,a.nd,a.inr,a.plc,a.out,a.ho,λx hx=>?_⟩,d,λ_=>c,λh=>absurd rfl h⟩;rw[c]at hx;have e:=g.score v.toNat;rcases TE hx with hx|hx
  .exact g.rng x hx
  .omega
theorem zS{n:Nat}{M:Int}{q:HS}(g:HpG n M q)(v:Int):HpG n M (eC q v).1∧(eC q v).1.sc=q.sc∧((eC q v).2=0->(eC q v).1.row.Perm (q.row++[v]))∧((eC q v).2≠0->(eC q v).1=q):=by
 unfold eC
 by_cases c1:tE q v=false
 .rw[Rx c1];exact⟨g,rfl,λh=>absurd h (by simp),λ_=>rfl⟩
 rw[Rw c1]
 by_cases c2:0<=q.pl.getD v.toNat 0
 .rw[Rx c2];exact⟨g,rfl,λh=>absurd h (by simp),λ_=>rfl⟩
 rw[Rw c2];have B:=g.isV_iff.1 (by simpa using c1);have p:¬v∈q.row:=λh=>c2 ((g.has_iff B).2 h);have c:(q.row++[v]).set q.row.length v=q.row++[v]:=by simp
 have i:(q.row++[v]).Nodup:=by
  rw[Up];exact⟨g.nd,by simp,λa w b r=>by simp at r;subst r;exactλe=>p (e▸w)⟩
 have d:∀j,j<q.row.length->(q.row++[v]).getD j 0=q.row.getD j 0:=λj hj=>by
  rw[Rv,RB hj,←Rv]
 have hin:uc (q.row++[v]) (n+1):=λx hx=>by
  rcases RI.1 hx with hx|hx
  .exact g.inr x hx
  .simp at hx;omega
 have o:=I5 (sc:=q.sc) (v:=v) q.row.length (q.row++[v]) q.pl (by simp) (by rw[c];exact i) (by rw[c,g.pll];exact hin)
  (by
   rw[c];intro j hj k;simp only[RF,R0,List.length_nil]at hj
   by_cases e:j=q.row.length
   .subst e;exact absurd (by simp[Rv]) k
   .rw[d j (by omega)];exact g.plc j (by omega))
  (λ j f hj k => by
   rw[c];simp only[RF,R0,List.length_nil]at hj;rw[d j (by omega),d _ (by omega)];exact g.ho j f (by omega) (RL _))
  (λj f hj z y=>by simp only[RF,R0,List.length_nil]at hj;omega)
 obtain⟨m,C,D,s,E⟩:=o;rw[c]at m s;refine⟨⟨g.sl,by dsimp only;rw[E,g.pll],m.nodup_iff.2 i,λx hx=>hin x (m.mem_iff.1 hx),D,λu h1 t A=>?_,C,g.rng⟩,rfl,λ_=>m,λh=>absurd rfl h⟩;have l:¬(u:Int)∈q.row++[v]:=λh=>A (m.mem_iff.2 h);dsimp only;rw[s u l];exact g.out u h1 t (λh=>l (SJ _ h))
theorem FE{n:Nat}{M:Int}{q:HS}(g:HpG n M q):HpG n M (fl q).1∧(fl q).1.sc=q.sc∧(fl q).2=b9 q∧(b9 q≠0->q.row.Perm (b9 q::(fl q).1.row))∧(b9 q=0->(fl q).1=q):=by
  unfold fl
  by_cases c1:b9 q=0
  · rw[Rx c1];exact⟨g,rfl,c1.symm,λh=>absurd c1 h,λ_=>rfl⟩
  rw[Rw c1]
  have r:q.row≠[]:=λh=>c1 (g.peek_zero.2 h)
  have T:0<q.row.length:=Td.2 r
  obtain⟨L,D⟩:∃L,q.row.length=L+1:=⟨q.row.length -1,by omega⟩
  have I:=g.peek_mem c1
  have H:q.row.getD 0 0=b9 q:=rfl
  simp only[D,UN]
  generalize N:q.row.getD L 0=w
  have B:w∈q.row:=by rw[←N];exact bi (by omega)
  have W:=g.inr w B
  have U:=g.inr _ I
  -- what is left
  have a:q.row.Perm (b9 q::(q.row.set 0 w).take L):=by
    have h1:q.row=(q.row.take L)++[w]:=by
      rw[←N]
      apply T6
      · simp;omega
      · intro j R a2
        rw[List.getElem_append]
        split
        · simp
        · rename_i hj
          simp only[RD]at hj
          have:j=L:=by omega
          subst this
          simp[Rv,R]
    rcases Ui L with h0|h0
    · subst h0
      cases s:q.row with
      |nil=>exact absurd s r
      |cons x xs=>
        have hx:xs=[]:=by rw[s]at D;simpa using D
        subst hx
        simp[b9,s]
    · cases s:q.row with
      |nil=>exact absurd s r
      |cons x xs=>
        obtain⟨K,rfl⟩:∃K,L=K+1:=⟨L -1,by omega⟩
        rw[s]at h1
        simp only[U6,Se,TY,true_and]at h1
        have hx:b9 q=x:=by simp[b9,s]
        simp only[Vc,U6,hx]
        refine List.Perm.cons _ ?_
        conv=>lhs;rw[h1]
        exact List.perm_append_comm
  have G:((q.row.set 0 w).take L).length=L:=by simp[D]
  have b:=(a.nodup_iff.1 g.nd)
  rw[S4]at b
  have l:∀x,x∈(q.row.set 0 w).take L↔x∈q.row∧x≠b9 q:=λx=>by
    constructor
    · intro hx
      exact⟨a.mem_iff.2 (RO _ hx),λe=>b.1 (e▸hx)⟩
    · rintro⟨h1,t⟩
      rcases RZ.1 (a.mem_iff.1 h1)with F|F
      · exact absurd F t
      · exact F
  have i:uc ((q.row.set 0 w).take L) (n+1):=λx hx=>g.inr x ((l x).1 hx).1
  have d:∀j,0<j->j<L->((q.row.set 0 w).take L).getD j 0=q.row.getD j 0:=λj h0 hj=>by
    rw[Rv,TX hj,RN (by omega),←Rv]
  have m:∀u:Nat,1<=u->u<=n->¬(u:Int)∈(q.row.set 0 w).take L->((q.pl.set w.toNat 0).set (b9 q).toNat (-1)).getD u 0=-1:=λu h1 t J=>by
    rw[bg,R5,g.pll]
    by_cases e:(u:Int)=b9 q
    · rw[Rx ⟨by omega,by omega⟩]
    · rw[Rw (by omega)]
      have A:¬(u:Int)∈q.row:=λh=>J ((l u).2 ⟨h,e⟩)
      rw[bg,Rw (λh=>A (by rw[show(u:Int)=w by omega];exact B))]
      exact g.out u h1 t A
  generalize V:(q.row.set 0 w).take L=c at*
  generalize y:(q.pl.set w.toNat 0).set (b9 q).toNat (-1)=C at*
  have f:C.length=n+1:=by rw[←y];simp[g.pll]
  by_cases c2:0<L
  · rw[Rx c2]
    have hd:=tD (sc:=q.sc) (v:=c.getD 0 0) (k:=0) c.length 0 c C (by omega) (by omega) (Ry _) rfl b.2 (by rw[f];exact i)
      (λ j hj p => by
        have o:0<j:=by
          rcases Ui j with h0|h0
          · subst h0;exact absurd rfl p
          · exact h0
        rw[d j o (by omega)]
        have h1:=g.inr _ (bi (show j<q.row.length by omega))
        have O:q.row.getD j 0≠b9 q:=λe=>by have:=dY g.nd (show j<q.row.length by omega) T (by rw[e,H]);omega
        have P:q.row.getD j 0≠w:=λe=>by have:=dY g.nd (show j<q.row.length by omega) (show L<q.row.length by omega) (by rw[e,N]);omega
        rw[←y,bg,Rw (by omega),bg,Rw (by omega)]
        exact g.plc j (by omega))
      (λ j o hj _ p => by
        rw[d j o (by omega),d _ (by omega) (by omega)]
        exact g.ho j o (by omega) (RL _))
      (λj _ _ _ h1 _=>by omega)
    obtain⟨E,X,Y,Z,u5⟩:=hd
    refine⟨⟨g.sl,by dsimp only;rw[u5,f],E.nodup_iff.2 b.2,λx hx=>i x (E.mem_iff.1 hx),Y,λu h1 t J=>?_,X,g.rng⟩,rfl,(by first|rfl|trivial),λ_=>a.trans (E.symm.cons _),λh=>absurd h c1⟩
    have z:¬(u:Int)∈c:=λh=>J (E.mem_iff.2 h)
    dsimp only
    rw[Z u z];exact m u h1 t z
  · rw[Rw c2]
    have S:L=0:=by omega
    have Q:c=[]:=TC (by omega)
    refine⟨⟨g.sl,f,b.2,i,λj hj=>?_,m,λj h0 hj=>?_,g.rng⟩,rfl,(by first|rfl|trivial),λ_=>a,λh=>absurd h c1⟩
    · dsimp only at hj;omega
    · dsimp only at hj;omega
theorem Jc(n:Nat):HpG n 1000000000000 (nk n):=by
 have a:∀j,j<n->((List.range n).map λi=>((i+1:Nat):Int)).getD j 0=((j+1:Nat):Int):=λj hj=>by simp[Rv,hj]
 refine⟨by simp[nk],by simp[nk],?_,λx hx=>?_,λj hj=>?_,λu h1 f d=>?_,λj c hj _=>?_,λx hx=>?_⟩
 .simp only[nk];unfold List.Nodup;rw[R9];intro i j hi hj b e;simp at e;omega
 .simp only[nk,RE,SK]at hx;obtain⟨i,hi,rfl⟩:=hx;omega
 .simp only[nk,RH,Vm]at hj⊢;rw[a j hj,SF,Rv,Tk];simp[hj]
 .exfalso;apply d;simp only[nk,RE,SK];exact⟨u -1,by omega,by omega⟩
 .simp only[nk,RH,Vm]at hj⊢;rw[a j hj,a _ (by omega),gW];right;refine⟨?_,by omega⟩;simp only[Rv,VX];rw[Rx (by omega),Rx (by omega)]
 .simp only[nk]at hx;have:=Uh hx;omega
end Go.AX
namespace Go.AX
open Go.Proofs
set_option linter.unusedSimpArgs false
theorem tH(s r p:List Int):[SV.own true 1 (aa s),SV.own true 1 (aa r),SV.own true 1 (aa p)]=au ⟨s,r,p⟩:=rfl
theorem mL{l:List Int}{i:Nat}(h:i<l.length):l[i]=l.getD i 0:=by simp[h]
theorem Jd{q:HS}{v by':Int}(h:tE q v=false):eY q v by'=(q,10):=by unfold eY;rw[Rx h]
theorem FF{q:HS}{v by':Int}(h:tE q v=true)(a:by'<0∨1000000000000<by'):eY q v by'=(q,2):=by unfold eY;rw[Rw (by rw[h];simp),Rx a]
theorem FH{q:HS}{v by':Int}(h:tE q v=true)(a:¬(by'<0∨1000000000000<by')):eY q v by'=(if 1000000000000<(d6 q v by').sc.getD v.toNat 0 then cu (d6 q v by')else d6 q v by',0):=by
 unfold eY;rw[Rw (by rw[h];simp),Rw a];rfl
set_option maxRecDepth 16000 in
theorem zT(h:List (List SV))(b:Nat)(q:HS)(O:h[b]?=some (au q)){n:Nat}(g:HpG n 1000000000000 q)(hn:n<=100000)(v by':Int):
 aB Tryz.prog 129 [.ptr b 0,ae v,ae by'] h (λr h'=>r=.pv (ae (eY q v by').2)∧h'=h.set b (au (eY q v by').1)):=by
 refine nz aE Tryz.func129 ?_;obtain⟨a,Q⟩:=Rt.1 O;have hq:0<q.sc.length:=by rw[g.sl];omega
 have X:=DO q hq v;generalize y:eY q v by'=BS
 simp;rw[gC O];refine aj.introP X ?_;unfold Lh;cases I:tE q v with
 |false=>
  have e:=y.symm.trans (Jd I);subst e;simp[gX O]
 |true=>
  have M:=g.isV_iff.1 I;have K:v.toNat<q.sc.length:=by rw[g.sl];omega
  have L:v.toNat<q.pl.length:=by rw[g.pll];omega
  have k:0<=v:=by omega
  have V:v<(q.sc.length:Int):=by rw[g.sl];omega
  have W:v<(q.pl.length:Int):=by rw[g.pll];omega
  have ad:=g.score v.toNat;obtain⟨f,E⟩:∃x,x=q.sc.getD v.toNat 0:=⟨_,rfl⟩;obtain⟨H,t⟩:∃x,x=q.pl.getD v.toNat 0:=⟨_,rfl⟩;have R:q.sc[v.toNat]=f:=by rw[E];exact mL K
  have T:q.pl[v.toNat]=H:=by rw[t];exact mL L
  simp[a,Q,au,K,k,V,R,iR];refine⟨λc=>?_,λc1 c2=>?_⟩
  .have e:=y.symm.trans (FF I c);subst e;simp[tH,gX O]
  have c3:¬(by'<0∨1000000000000<by'):=λh=>h.elim (λh=>Vf.2 c1 h) (λh=>Vf.2 c2 h);have e:=y.symm.trans (FH I c3);clear y;subst e;obtain⟨F,w⟩:∃F,(if 1000000000000<(d6 q v by').sc.getD v.toNat 0 then cu (d6 q v by')else d6 q v by')=F:=⟨_,rfl⟩;rw[w];have Y:aS (f+by')=f+by':=ap (by omega) (by omega)
  have N:d6 q v by'=if 0<=H then⟨q.sc.set v.toNat (f+by'),(qQ (q.sc.set v.toNat (f+by')) (q.row.getD H.toNat 0) H.toNat q.row q.pl).1,(qQ (q.sc.set v.toNat (f+by')) (q.row.getD H.toNat 0) H.toNat q.row q.pl).2⟩else⟨q.sc.set v.toNat (f+by'),q.row,q.pl⟩:=by
   rw[E,t];rfl
  have j:=xy ⟨q.sc.set v.toNat (f+by'),q.row,q.pl⟩ (by simpa using hq) (by dsimp only;rw[R5,g.pll,g.sl]) v;have U:tE ⟨q.sc.set v.toNat (f+by'),q.row,q.pl⟩ v=true:=by unfold tE at I⊢;simpa using I
  rw[U]at j;rw[Y];dsimp only at j;rw[←t]at j;rw[tH,pG a];refine aj.introP j ?_;have ab:q.row.length<=n:=g.few;obtain⟨d,p1,s1,A⟩:=tG g M c3;rw[←E]at A s1;rw[A]at w
  by_cases c5:0<=H
  .obtain⟨i,hi,J,D⟩:=g.place ((g.has_iff M).1 (by rw[←t];exact c5));rw[←t]at D;have hin:uc q.row q.pl.length:=by rw[g.pll];exact g.inr
   have u:=I8 (h.set b (au ⟨q.sc.set v.toNat (f+by'),q.row,q.pl⟩)) b ⟨q.sc.set v.toNat (f+by'),q.row,q.pl⟩ (ga a _) i hi hin (by dsimp only;rw[R5,g.pll,g.sl]) (by dsimp only;omega);rw[Rx c5,D,SF,J]at N;dsimp only at u;rw[J]at u;rw[←D]at u;simp only[au]at u;simp[a,au,c5,L,k,W,T];refine aj.intro u ?_;rintro _ _ ⟨rfl,rfl⟩;simp;have P:au (d6 q v by')=[.own true 1 (aa (q.sc.set v.toNat (f+by'))),.own true 1 (aa (qQ (q.sc.set v.toNat (f+by')) v i q.row q.pl).1),.own true 1 (aa (qQ (q.sc.set v.toNat (f+by')) v i q.row q.pl).2)]:=by rw[N];rfl
   rw[←P];generalize d6 q v by'=B at*
   refine aw.intro (S:=λ(x:Nat)=>⟨[(0,.pv (.ptr b 0)),(1,.pv (ae v))],h.set b (au (if x=0 then B else cu B))⟩) (λx=>x=0∨x=1∧1000000000000<f+by') (λx=>1 -x) 0 ?_ (.inl rfl) ?_
   .exact ah.keep (by simp) (by simp)
   .have l:v.toNat<B.sc.length:=by rw[d.sl];omega
    have m:v<(B.sc.length:Int):=by rw[d.sl];omega
    have C:B.sc[v.toNat]=f+by':=by rw[←A];exact mL l
    rintro x (rfl|⟨rfl,hx⟩)
    .have s:=qu (h.set b (au B)) b B (ga a _) (by rw[d.sl];omega) (by rw[d.pll];exact d.inr) (by rw[d.pll,d.sl]) (by have:=d.few;omega) (by rw[d.sl];omega);simp only[au]at s;simp[a,au,l,m,k,C];refine⟨λc=>?_,λc=>?_⟩
     .refine aj.intro s ?_;rintro _ _ ⟨rfl,rfl⟩;simp;exact⟨1,by dsimp only;omega,.inr ⟨rfl,c⟩,ah.keep (by simp) (by simp[au])⟩
     .rw[Rw (Vf.2 c)]at w;rw[w]
    .obtain⟨g2,p2,s2⟩:=lD d (by omega) (by omega);have o:v.toNat<(cu B).sc.length:=by rw[g2.sl];omega
     have p:v<((cu B).sc.length:Int):=by rw[g2.sl];omega
     obtain⟨z,hz⟩:∃z,(cu B).sc[v.toNat]=z:=⟨_,rfl⟩;have Z:=g2.rng z (by rw[←hz];exact Rz o);have G:¬1000000000000<z:=by omega
     simp[a,au,o,p,k,hz,G];rw[Rx hx]at w;rw[w]
  .rw[Rw c5]at N;simp[c5];rw[←N];generalize d6 q v by'=B at*
   refine aw.intro (S:=λ(x:Nat)=>⟨[(0,.pv (.ptr b 0)),(1,.pv (ae v))],h.set b (au (if x=0 then B else cu B))⟩) (λx=>x=0∨x=1∧1000000000000<f+by') (λx=>1 -x) 0 ?_ (.inl rfl) ?_
   .exact ah.keep (by simp) (by simp)
   .have l:v.toNat<B.sc.length:=by rw[d.sl];omega
    have m:v<(B.sc.length:Int):=by rw[d.sl];omega
    have C:B.sc[v.toNat]=f+by':=by rw[←A];exact mL l
    rintro x (rfl|⟨rfl,hx⟩)
    .have s:=qu (h.set b (au B)) b B (ga a _) (by rw[d.sl];omega) (by rw[d.pll];exact d.inr) (by rw[d.pll,d.sl]) (by have:=d.few;omega) (by rw[d.sl];omega);simp only[au]at s;simp[a,au,l,m,k,C];refine⟨λc=>?_,λc=>?_⟩
     .refine aj.intro s ?_;rintro _ _ ⟨rfl,rfl⟩;simp;exact⟨1,by dsimp only;omega,.inr ⟨rfl,c⟩,ah.keep (by simp) (by simp[au])⟩
     .rw[Rw (Vf.2 c)]at w;rw[w]
    .obtain⟨g2,p2,s2⟩:=lD d (by omega) (by omega);have o:v.toNat<(cu B).sc.length:=by rw[g2.sl];omega
     have p:v<((cu B).sc.length:Int):=by rw[g2.sl];omega
     obtain⟨z,hz⟩:∃z,(cu B).sc[v.toNat]=z:=⟨_,rfl⟩;have Z:=g2.rng z (by rw[←hz];exact Rz o);have G:¬1000000000000<z:=by omega
     simp[a,au,o,p,k,hz,G];rw[Rx hx]at w;rw[w]
end Go.AX
namespace Go.AX
set_option maxRecDepth 16000
open Go.Proofs
set_option linter.unusedSimpArgs false
theorem FT(rows:List (List Int))(k:FuncId)(cap:List PV)(p:List Int->Bool)(m:rows.length<=140737488355328)(d:∀r,eD r cap=cap)(b:∀n,bO n cap)(hp:jD cap=false)(f:∀x∈rows,am Tryz.prog k (.seq false 1 (aa x)::cap) (λr=>r=.pv (BL (p x)))):
 am Tryz.prog 202 [.seq false 1 (rows.map ao),.fn (.func k) [] cap] (λr=>r=.pv (ae (i7 p rows))):=by
 refine aq aE Tryz.func202 ?_;simp;refine aw.intro (S:=λ(i:Nat)=>⟨[(0,.pv (.seq false 1 (rows.map ao))),(1,.pv (.fn (.func k) [] cap)),(7,.pv (ae rows.length)),(8,.pv (ae i))],[]⟩) (λi=>i<=rows.length∧∀j (hj:j<rows.length),j<i->p rows[j]=false) (λi=>rows.length -i) 0 ?_ ?_ ?_
 .exact ah.to (by simp) (by simp) (by simp) (by simp[b]) (by simp)
 .exact⟨by omega,λj hj h=>by omega⟩
 .intro i ⟨hi,ho⟩
  by_cases h:i<rows.length
  .have l:=dr i;have a:=f rows[i] (Rz h);simp[h,hp,d,ao];refine ai.intro a ?_;simp;refine⟨λc=>by rw[gH h ho c],λc=>⟨i+1,by dsimp only;omega,⟨by omega,λj hj g=>?_⟩,ah.to ?_ (by simp) (by simp) (by simp[b]) (by simp)⟩⟩
   .by_cases e:j=i
    .subst e;exact c
    .exact ho j hj (by omega)
   .simp[l,ao]
  .simp[h];rw[ff (λj hj=>ho j hj (by omega))]
theorem FU(l:Int):(gD l).1=af l∧(af l≠0->(gD l).2=decide (0<l)):=by
 unfold gD af dg
 by_cases c:cE l=true
 .obtain⟨h1,a,b⟩:=(aY l).1 c;rw[Rx c]
  by_cases d:l<0
  .rw[Rw (by omega),Rx ⟨d,a⟩,Rx d];exact⟨rfl,λ_=>(Tq (by omega)).symm⟩
  .rw[Rx ⟨by omega,b⟩,Rw d];exact⟨rfl,λ_=>(S9 (by omega)).symm⟩
 .have hn:¬(l≠0∧-100000<=l∧l<=100000):=λh=>c ((aY l).2 h);rw[Rw c,Rw (by omega),Rw (by omega)];exact⟨rfl,λh=>absurd rfl h⟩
theorem FV(l:Int)(m:List Bool):am Tryz.prog 264 [ae l,.iptr 1 [[.seq false 1 (eF m)]] 0 0] (λr=>r=.pv (BL (ka m l))):=by
 refine aq aE Tryz.func264 ?_;simp;refine ai.intro (aI l) ?_;obtain⟨e,f⟩:=FU l;have hin:=FO l;unfold ka;rw[e]at hin⊢;generalize af l=v at*;obtain⟨n,rfl⟩:=S6 hin.1;rcases Ui n with h0|h0
 .subst h0;simp
 obtain⟨k,rfl⟩:∃k,n=k+1:=⟨n -1,by omega⟩;rw[f (by omega)];have c:aS (k:Int)=(k:Int):=ap (by omega) (by omega);have d:¬(k:Int)+1=0:=by omega
 have b:(0:Int)<(k:Int)+1:=by omega
 by_cases hk:k<m.length
 .have hle:(k:Int)+1<=(m.length:Int):=by omega
  have a:k+1<=m.length:=by omega
  simp[d,hk,hle,a,c,b]
 .have hle:¬(k:Int)+1<=(m.length:Int):=by omega
  have a:¬k+1<=m.length:=by omega
  simp[d,hk,hle,a,c,b]
theorem FW(c:List Int)(m:List Bool)(a:c.length<=1000000):am Tryz.prog 203 [.seq false 1 (aa c),.iptr 1 [[.fn (.func 264) [] [.iptr 1 [[.seq false 1 (eF m)]] 0 0]]] 0 0] (λr=>r=.pv (BL (!eh c m))):=by
 refine aq aE Tryz.func203 ?_;simp;refine ai.intro (fY c a 264 [.iptr 1 [[.seq false 1 (eF m)]] 0 0] (ka m) (by simp) (by simp) (by simp) (λx _=>FV x m)) ?_;simp[eh]
theorem FX(m:List Bool)(h:List (List SV)):aB Tryz.prog 201 [.seq false 1 (eF m)] h (λr h'=>r=.pv (.fn (.func 264) [] [.ptr h.length 0])∧h'=h++[[.pv (.seq false 1 (eF m))]]):=by
 refine nz aE Tryz.func201 ?_;simp
theorem JH(v:Int)(L:List (List Int))(m:List Bool)(b:L.length<=140737488355328)(d:∀x∈L,x.length<=1000000):am Tryz.prog 121 [.agg [ae v,.seq false 1 (L.map ao)],.seq false 1 (eF m)] (λr=>r=.pv (ae (xz L m))):=by
 refine aq aE Tryz.func121 ?_;simp;refine ai.introM (FX m _) ?_;rintro _ _ ⟨rfl,rfl⟩;simp;have a:bG [[.pv (ae v),.pv (.seq false 1 (L.map ao))],[.pv (.seq false 1 (eF m))],[.pv (.fn (.func 264) [] [.ptr 1 0])]] 3 2 0=.iptr 1 [[.fn (.func 264) [] [.iptr 1 [[.seq false 1 (eF m)]] 0 0]]] 0 0:=by simp[bG]
 rw[a];refine⟨rfl,ai.intro (FT L 203 [.iptr 1 [[.fn (.func 264) [] [.iptr 1 [[.seq false 1 (eF m)]] 0 0]]] 0 0] (λc=>!eh c m) b (by simp) (by simp) (by simp) (λx hx=>FW x m (d x hx))) ?_⟩;simp[xz]
theorem JI(v:Int)(L:List (List Int))(m:List Bool)(b:L.length<=140737488355328)(d:∀x∈L,x.length<=1000000):am Tryz.prog 59 [.agg [ae v,.seq false 1 (L.map ao)],.seq false 1 (eF m)] (λr=>r=.pv (BL (decide ((m.length:Int)=v)&&decide (∀c∈L,eh c m=true)))):=by
 refine aq aE Tryz.func59 ?_;have a:=JH v L m b d;have hn:=Ch L m;simp;refine aP.intro (λ_=>a) ?_;simp[hn]
end Go.AX