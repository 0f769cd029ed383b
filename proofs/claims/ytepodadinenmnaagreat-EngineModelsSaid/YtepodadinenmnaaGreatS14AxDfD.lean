/-
  Contracts: slices.Compact of numbers.
  Contracts: heaps.
  Contracts: heaps are put in order.
  Contracts: heaps: down.
  Contracts: heaps: order, halving, and all that is done with one.
  The plain law of heaps: what stays so, whatever is done.
  Contracts: what is done with a heap.
  Contracts: whether a formula holds (package cnf).
-/
import Derived.Test.YtepodadinenmnaaGreatS14AxRfA
import Derived.Test.YtepodadinenmnaaGreatS14AxEvC
import Derived.Test.YtepodadinenmnaaGreatAxIs
import Derived.Test.YtepodadinenmnaaGreatS14AxHpP
import Derived.Test.YtepodadinenmnaaGreatS14AxMovR
namespace Go.AX
open Go.Proofs
set_option linter.unusedSimpArgs false
def aK(zs:List Int):Nat->List Int
 |0=>[]
 |j+1=>if j=0∨zs.getD j 0≠zs.getD (j -1) 0 then aK zs j++[zs.getD j 0]else aK zs j
def cT(zs:List Int):List Int:=aK zs zs.length
theorem iM(zs:List Int):∀j,(aK zs j).length<=j
 |0=>RJ _
 |j+1=>by
  have:=iM zs j;rw[aK];split
  .rw[RP,S9];omega
  .omega
theorem sP(zs:List Int):∀j,0<j->0<(aK zs j).length
 |0,h=>by omega
 |1,_=>by rw[aK,RI (.inl rfl)];simp
 |j+2,_=>by
  have:=sP zs (j+1) (by omega);rw[aK];split
  .rw[RP];omega
  .exact this
def MP(zs:List Int)(k:Option Nat)(rows:List (List PV)):Prop:=k=some (cT zs).length∧rows=aD (cT zs++List.replicate (zs.length -(cT zs).length) 0)
theorem sQ(zs:List Int)(W:zs.length<=1000000):wx Tryz.prog 140 1 (aD zs) [] (MP zs):=by
 refine wx.ofInts (by kernel_rfl) trivial trivial (λz pre a cp P R=>?_) (λQ q cp=>?_)
 .refine nC aE Tryz.func140 ?_
  by_cases c2:zs.length<2
  .have r:(zs.length:Int)<2:=by omega
   simp[c2,r];have h1:zs.length=1:=by
    have:=To.2 z;omega
   have G:cT zs=zs:=by
    unfold cT;rw[h1,aK,RI (.inl rfl),aK,Sj]
    match zs,h1 with
    |[x],_=>rfl
   exact⟨some zs.length,zs,⟨by rw[G],by rw[G];simp⟩,rfl,λm w=>by cases w;exact RJ _,rfl,rfl⟩
  have r:¬(zs.length:Int)<2:=by omega
  simp[c2,r];refine av.intro (S:=λ(k:Nat)=>⟨[(0,.pv (.bsl 0 1 pre.length zs.length cp)),(3,.pv (ae k))],[blk pre zs a]⟩) (λk=>1<=k∧k<=zs.length∧aK zs k=zs.take k) (λk=>zs.length -k) 1 ?_ ⟨RJ _,by omega,?_⟩ ?_
  .exact af.to (by simp) rfl (by simp) (by simp) (by simp[fM])
  .rw[aK,RI (.inl rfl),aK,Sj]
   match zs,z with
   |x::l,_=>rfl
  .rintro k ⟨h1,G,u⟩;have e:=eP pre zs a
   by_cases ck:k<zs.length
   .have T:=dq k;have I:aR ((k:Int) -1)=((k -1:Nat):Int):=by rw[ap (by omega) (by omega)];omega
    have g:=ll pre zs a (i:=k) ck;have o:=ll pre zs a (i:=k -1) (by omega);have E:zs.getD k 0=zs[k]:=by simp[ck]
    have F:zs.getD (k -1) 0=zs[k -1]:=by simp[show k -1<zs.length by omega]
    have f:aK zs (k+1)=if zs[k]≠zs[k -1]then aK zs k++[zs[k]]else aK zs k:=by
     rw[aK,E,F]
     by_cases d:zs[k]≠zs[k -1]
     .rw[RI (.inr d),RI d]
     .rw[RH (λh=>h.elim (by omega) d),RH d]
    simp[ck,I,g,o,e];refine⟨by omega,by omega,by omega,λd=>⟨⟨by omega,by omega⟩,?_⟩,λd=>⟨k+1,by(try dsimp only);omega,⟨by omega,by omega,?_⟩,af.to (by simp[T]) rfl (by simp) (by simp) (by simp[fM])⟩⟩;rotate_left
    .rw[f,RI d,u,SA,RF ck];rfl
    rw[RH (λh=>h d),u]at f;refine av.intro (S:=λ(y:Nat×List Int)=>⟨[(0,.pv (.bsl 0 1 pre.length zs.length cp)),(3,.pv (ae ((aK zs (k+y.1)).length:Nat))),(4,.pv (.bsl 0 1 (pre.length+k) (zs.length -k) (cp -k))),(5,.pv (ae y.1))],[blk pre y.2 a]⟩)
     (λy=>1<=y.1∧k+y.1<=zs.length∧(aK zs (k+y.1)).length<k+y.1∧y.2.length=zs.length∧y.2.take (aK zs (k+y.1)).length=aK zs (k+y.1)∧y.2.drop (k+y.1 -1)=zs.drop (k+y.1 -1)) (λy=>zs.length -y.1) (1,zs) ?_ ?_ ?_
    .refine af.to ?_ rfl (by simp) (by simp) (by simp[fM]);have:(aK zs (k+1)).length=k:=by rw[f,RN];omega
     simp[this]
    .have:(aK zs (k+1)).length=k:=by rw[f,RN];omega
     refine⟨RJ _,by dsimp only;omega,by dsimp only;omega,rfl,?_,rfl⟩;dsimp only;rw[this,f]
    .rintro⟨j,b⟩ ⟨U,V,i3,K,B,C⟩;dsimp only at U V i3 K B C;have e:=eP pre b a
     by_cases L:k+j<zs.length
     .have N:(j:Int)<((zs.length -k:Nat):Int):=by omega
      have H:aR ((j:Int) -1)=((j -1:Nat):Int):=by rw[ap (by omega) (by omega)];omega
      have v:=dq j;have p:∀i (h:i<zs.length),k+j -1<=i->b[i]'(by omega)=zs[i]:=by
       intro i h hi;have:=Ul (λl=>l[i -(k+j -1)]?) C;simp only[Tf]at this;rw[show k+j -1+(i -(k+j -1))=i by omega,RF (by omega),RF h]at this;exact TX this
      have g:=ll pre b a (i:=k+j) (by omega);have o:=ll pre b a (i:=k+(j -1)) (by omega);rw[p (k+j) L (by omega),←T7]at g;have O:b[k+(j -1)]'(by omega)=zs[k+(j -1)]:=p _ (by omega) (by omega);rw[O,←T7]at o;have E:zs.getD (k+j) 0=zs[k+j]:=by simp[L]
      have F:zs.getD (k+j -1) 0=zs[k+(j -1)]:=by
       have:k+j -1=k+(j -1):=by omega
       rw[this];simp[show k+(j -1)<zs.length by omega]
      have c:aK zs (k+(j+1))=if zs[k+j]≠zs[k+(j -1)]then aK zs (k+j)++[zs[k+j]]else aK zs (k+j):=by
       rw[←T7,aK,E,F]
       by_cases d:zs[k+j]≠zs[k+(j -1)]
       .rw[RI (.inr d),RI d]
       .rw[RH (λh=>h.elim (by omega) d),RH d]
      have s:j<zs.length -k:=by omega
      have D:j -1<zs.length -k:=by omega
      simp[s,D,H,g,o,e];refine⟨by omega,by omega,λd=>?_,λd=>?_⟩
      .rw[RI d]at c;have J:=dq ((aK zs (k+j)).length);have A:=wT pre b a (i:=(aK zs (k+j)).length) zs[k+j] (by omega);refine⟨by omega,by omega,by omega,(j+1,b.set (aK zs (k+j)).length zs[k+j]),by(try dsimp only);omega,⟨by(try dsimp only);omega,by(try dsimp only);omega,?_,by(try dsimp only);rw[Sg];exact K,?_,?_⟩,af.to (by simp[v,J,c]) (by simp[A]) (by simp) (by simp) (by simp[fM])⟩
       .dsimp only;rw[c,RP,S9];omega
       .dsimp only;rw[c,RP,S9,SA,VQ (RJ _),B,Su (by omega)];rfl
       .dsimp only;rw[Vg (by omega)];have:=Ul (List.drop 1) C;rw[Ti,Ti]at this
        rwa [show k+j -1+1=k+(j+1) -1 by omega]at this
      .rw[RH (λh=>h d)]at c;exact⟨(j+1,b),by(try dsimp only);omega,⟨by(try dsimp only);omega,by(try dsimp only);omega,by(try dsimp only);rw[c];omega,K,by(try dsimp only);rw[c];exact B,by
        dsimp only;have:=Ul (List.drop 1) C;rw[Ti,Ti]at this
        rwa [show k+j -1+1=k+(j+1) -1 by omega]at this⟩,af.to (by simp[v,c]) rfl (by simp) (by simp) (by simp[fM])⟩
     .have hj:k+j=zs.length:=by omega
      have s:¬j<zs.length -k:=by omega
      rw[hj]at i3 B;have M:=sP zs zs.length (by omega);have t:=sK pre b a (i:=(aK zs zs.length).length) (n:=zs.length -(aK zs zs.length).length) 0 (by omega);simp[s,hj,e];refine⟨⟨by omega,by omega⟩,by omega,by omega,⟨by omega,by omega⟩,some (cT zs).length,cT zs++List.replicate (zs.length -(cT zs).length) 0,⟨rfl,rfl⟩,?_,λm w=>?_,rfl,?_⟩
      .unfold cT;simp;omega
      .cases w;unfold cT;omega
      .unfold cT;rw[t,B,Sc (by omega),Tc]
   .have:k=zs.length:=by omega
    subst this;simp;rw[R8]at u;exact⟨some zs.length,zs,⟨by unfold cT;rw[u],by unfold cT;rw[u];simp⟩,rfl,λm w=>by cases w;exact RJ _,rfl,rfl⟩
 .subst Q;refine aq aE Tryz.func140 ?_;simp;exact⟨some 0,⟨rfl,rfl⟩,.inr rfl,rfl⟩
theorem ge{P:Program}{fn:Func}(a:fn.results=#[]) (tmps:Array Value) (w:World):(results fn tmps).run P w=.ok (.tuple (([]:List Nat).map λt=>tmps.getD t undef).toArray) w:=by
 simp[results,a]
structure HS where
  sc:List Int
  row:List Int
  pl:List Int
def au(q:HS):List SV:=[.own true 1 (aa q.sc),.own true 1 (aa q.row),.own true 1 (aa q.pl)]
def eF(q:HS):List PV:=[.seq false 1 (aa q.sc),.seq false 1 (aa q.row),.seq false 1 (aa q.pl)]
theorem iU(l:List Int)(i:Nat)(x:Int):(aa l).set i [ae x]=aa (l.set i x):=by simp[aa,Wg]
theorem rP(q:HS)(a:0<q.sc.length):am Tryz.prog 174 [.iptr 3 [eF q] 0 0] (λr=>r=.pv (BL true)):=by
 refine aq aE Tryz.func174 ?_;simp[eF,a]
def tQ(q:HS)(v:Int):Bool:=decide (1<=v)&&decide (v<q.sc.length)
theorem Jg(q:HS)(a:0<q.sc.length)(v:Int):am Tryz.prog 212 [.iptr 3 [eF q] 0 0,ae v] (λr=>r=.pv (BL (tQ q v))):=by
 refine aq aE Tryz.func212 ?_;have h1:=rP q a;simp only[eF]at h1;simp[eF];refine ai.intro h1 ?_;simp[tQ]
def Lt(q:HS)(v:Int):Int:=if tQ q v then 0 else 10
theorem DY(q:HS)(b:0<q.sc.length)(v:Int):am Tryz.prog 209 [.iptr 3 [eF q] 0 0,ae v] (λr=>r=.pv (ae (Lt q v))):=by
 refine aq aE Tryz.func209 ?_;have h1:=rP q b;have a:=Jg q b v;simp only[eF]at h1 a;simp[eF];refine ai.intro h1 ?_;simp;refine ai.intro a ?_;simp[Lt]
theorem xE(q:HS)(e:0<q.sc.length)(d:q.pl.length=q.sc.length)(v:Int):am Tryz.prog 132 [.iptr 3 [eF q] 0 0,ae v] (λr=>r=.pv (BL (tQ q v&&decide (0<=q.pl.getD v.toNat 0)))):=by
 refine aq aE Tryz.func132 ?_;have a:=Jg q e v;simp only[eF]at a;simp[eF];refine ai.intro a ?_
 by_cases c:tQ q v=true
 .have c2:=c;simp only[tQ,RQ,R0]at c2;have b:v.toNat<q.pl.length:=by omega
  simp[c,b];omega
 .simp[c]
theorem DZ(q:HS)(a:0<q.sc.length):am Tryz.prog 100 [.iptr 3 [eF q] 0 0] (λr=>r=.pv (ae q.row.length)):=by
 refine aq aE Tryz.func100 ?_;have h1:=rP q a;simp only[eF]at h1;simp[eF];refine ai.intro h1 ?_;simp
def cb(q:HS):Int:=q.row.getD 0 0
theorem Jh(q:HS)(a:0<q.sc.length):am Tryz.prog 175 [.iptr 3 [eF q] 0 0] (λr=>r=.pv (ae (cb q))):=by
 refine aq aE Tryz.func175 ?_;have h1:=DZ q a;simp only[eF]at h1;simp[eF];refine ai.intro h1 ?_;simp[cb];cases b:q.row with
 |nil=>simp
 |cons x xs=>simp
theorem tR(q:HS)(v w:Nat)(a:v<q.sc.length)(b:w<q.sc.length):am Tryz.prog 251 [.iptr 3 [eF q] 0 0,ae v,ae w] (λr=>r=.pv (BL (kb q.sc v w))):=by
 refine aq aE Tryz.func251 ?_;simp[eF,a,b,kb];constructor
 .intro c;simp[c]
 .intro c;simp[c]
theorem rQ(h:List (List SV))(b:Nat)(q:HS)(d:h[b]?=some (au q))(i v:Nat)(hi:i<q.row.length)(e:v<q.pl.length):
 aB Tryz.prog 176 [.ptr b 0,ae i,ae v] h (λr h'=>r=.pv (.tup [])∧h'=h.set b (au ⟨q.sc,q.row.set i v,q.pl.set v i⟩)):=by
 refine uX [] aE Tryz.func176 (λ_ _=>ge rfl _ _) ?_;obtain⟨c,a⟩:=RE.1 d;simp[a,c,au,hi,e,iU]
theorem gX{h:List (List SV)}{b:Nat}{x:List SV}(a:h[b]?=some x):h.set b x=h:=by
 apply Tl;intro i;rw[Sf];split
 .rename_i e;subst e;rw[RI (RE.1 a).1,a]
 .rfl
theorem pK{h:List (List SV)}{b:Nat}(a:b<h.length)(q:HS)(n:Nat):bG (h.set b (au q)) (n+1) b 0=.iptr 3 [eF q] 0 0:=by
 simp[bG,a,au,eF,frzC]
theorem gF{h:List (List SV)}{b:Nat}{q:HS}(d:h[b]?=some (au q))(n:Nat):bG h (n+1) b 0=.iptr 3 [eF q] 0 0:=by
 obtain⟨c,a⟩:=RE.1 d;simp[bG,c,a,au,eF,frzC]
theorem gg{h:List (List SV)}{b:Nat}(a:b<h.length)(x:List SV):(h.set b x)[b]?=some x:=by simp[a]
set_option maxRecDepth 16000 in
theorem Ji(h:List (List SV))(b:Nat)(q:HS)(F:h[b]?=some (au q))(i:Nat)(hi:i<q.row.length)(hin:uh q.row q.pl.length)(O:q.pl.length=q.sc.length)(hs:q.row.length<=1000000):
 aB Tryz.prog 210 [.ptr b 0,ae i] h (λr h'=>r=.pv (.tup [])∧h'=h.set b (au ⟨q.sc,(qV q.sc (q.row.getD i 0) i q.row q.pl).1,(qV q.sc (q.row.getD i 0) i q.row q.pl).2⟩)):=by
 refine uX [] aE Tryz.func210 (λ_ _=>ge rfl _ _) ?_;obtain⟨a,y⟩:=RE.1 F;have M:=hin (q.row.getD i 0) (bi hi);obtain⟨v,B⟩:=Te (show 0<=q.row.getD i 0 by omega);have f:q.row.getD i 0=(v:Int):=B;have C:q.row[i]=(v:Int):=by rw[←f];simp[hi]
 rw[f]at M⊢;have N:v<q.pl.length:=by omega
 simp[y,a,au,hi,C];refine av.intro (S:=λ(x:Nat×List Int×List Int)=>⟨[(0,.pv (.ptr b 0)),(1,.pv (ae x.1)),(4,.pv (.fn (.func 251) [.ptr b 0] [])),(5,.pv (ae v))],h.set b (au ⟨q.sc,x.2.1,x.2.2⟩)⟩)
  (λx=>x.1<x.2.1.length∧x.2.1.length=q.row.length∧x.2.2.length=q.pl.length∧uh x.2.1 q.pl.length∧qV q.sc v x.1 x.2.1 x.2.2=qV q.sc v i q.row q.pl) (λx=>x.1) (i,q.row,q.pl) ?_ ?_ ?_
 .exact af.keep (by simp) (gX F).symm
 .exact⟨hi,rfl,rfl,hin,rfl⟩
 .rintro⟨j,row,pl⟩ ⟨t,H,I,E,w⟩;dsimp only at t H I E w;rcases Uf j with h0|h0
  .subst h0;have A:0<row.length:=t;simp[a,au];refine aj.intro (rQ _ b ⟨q.sc,row,pl⟩ (gg a _) 0 v A (by dsimp only;omega)) ?_;rintro _ _ ⟨rfl,rfl⟩;rw[←w];unfold qV;simp[au]
  .obtain⟨k,rfl⟩:∃k,j=k+1:=⟨j -1,by omega⟩;obtain⟨p,hp,K⟩:∃p:Nat,Int.tdiv (k:Int) 2=(p:Int)∧p=k/2:=⟨k/2,rfl,rfl⟩;have D:aR ((k:Nat):Int)=(k:Int):=ap (by omega) (by omega);have g:aR ((p:Nat):Int)=(p:Int):=ap (by omega) (by omega);have d:p<row.length:=by omega
   have G:=E (row.getD p 0) (bi d);obtain⟨u,L⟩:=Te (show 0<=row.getD p 0 by omega);have n:row.getD p 0=(u:Int):=L;have o:row[p]=(u:Int):=by rw[←n];simp[d]
   have z:=tR ⟨q.sc,row,pl⟩ v u (by dsimp only;omega) (by dsimp only;omega);simp[a,au,D,hp,g,d,o];rw[←au.eq_1 ⟨q.sc,row,pl⟩,pK a];refine aj.introP z ?_;rw[au.eq_1 ⟨q.sc,row,pl⟩];have m:=rQ (h.set b (au ⟨q.sc,row,pl⟩)) b ⟨q.sc,row,pl⟩ (gg a _) (k+1) v t (by dsimp only;omega);have e:=rQ (h.set b (au ⟨q.sc,row,pl⟩)) b ⟨q.sc,row,pl⟩ (gg a _) (k+1) u t (by dsimp only;omega)
   push_cast at m e
   have s:qV q.sc v (k+1) row pl=if kb q.sc v u=true then qV q.sc v p (row.set (k+1) u) (pl.set u (k+1:Nat))else(row.set (k+1) v,pl.set v (k+1:Nat)):=by
    rw[qV];have J:(k+1 -1)/2=p:=by omega
    simp only[J,n]
    by_cases c:kb q.sc v u=true
    .rw[dif_pos ⟨by omega,c⟩,RI c];rfl
    .rw[dif_neg (λh=>c h.2),RH c];rfl
   cases l:kb q.sc v u with
   |false=>
    simp[a,au];refine aj.intro m ?_;rintro _ _ ⟨rfl,rfl⟩;rw[←w,s,l];simp[au]
   |true=>
    simp[a,au,D,hp,g,d,o];refine aj.intro e ?_;rintro _ _ ⟨rfl,rfl⟩;simp[D,hp,g];refine⟨(p,row.set (k+1) u,pl.set u (k+1:Nat)),by dsimp only;omega,⟨by dsimp only;simp;omega,by simpa using H,by simpa using I,?_,?_⟩,af.keep ?_ ?_⟩
    .intro x hx;rcases TP hx with hx|hx
     .exact E x hx
     .omega
    .rw[←w,s,l];rfl
    .simp
    .simp[au]
theorem qW(q:HS)(v w:Int)(e:0<=v∧v<q.sc.length)(f:0<=w∧w<q.sc.length):am Tryz.prog 251 [.iptr 3 [eF q] 0 0,ae v,ae w] (λr=>r=.pv (BL (kb q.sc v w))):=by
 obtain⟨a,b⟩:=Te e.1;obtain⟨c,d⟩:=Te f.1;have:=tR q a c (by omega) (by omega);rw[b,d];exact this
theorem zT(h:List (List SV))(b:Nat)(q:HS)(d:h[b]?=some (au q))(i:Nat)(v:Int)(hi:i<q.row.length)(e:0<=v∧v<q.pl.length):
 aB Tryz.prog 176 [.ptr b 0,ae i,ae v] h (λr h'=>r=.pv (.tup [])∧h'=h.set b (au ⟨q.sc,q.row.set i v,q.pl.set v.toNat i⟩)):=by
 obtain⟨a,c⟩:=Te e.1;have:=rQ h b q d i a hi (by omega);rw[c];exact this
def Jj(sc row:List Int)(v:Int)(i:Nat):Int×Nat:=if 2*i+1<row.length∧kb sc (row.getD (2*i+1) 0) v=true then(row.getD (2*i+1) 0,2*i+1)else(v,i)
def D4(sc row:List Int)(v:Int)(i:Nat):Nat->Int×Nat
 |0=>(v,i)
 |1=>Jj sc row v i
 |_=>fw sc row v i
theorem Lu(sc row:List Int)(v:Int)(i:Nat):fw sc row v i=if 2*i+2<row.length∧kb sc (row.getD (2*i+2) 0) (Jj sc row v i).1=true then(row.getD (2*i+2) 0,2*i+2)else Jj sc row v i:=rfl
theorem Jk{sc row:List Int}{v:Int}{i n:Nat}(hin:uh row n)(a:1<=v∧v<n)(hi:i<row.length):1<=(Jj sc row v i).1∧(Jj sc row v i).1<n∧(Jj sc row v i).2<row.length:=by
 unfold Jj;split
 .rename_i c;have:=hin _ (bi c.1);exact⟨this.1,this.2,c.1⟩
 .exact⟨a.1,a.2,hi⟩
theorem zU{sc row:List Int}{v:Int}{i n:Nat}(hin:uh row n)(a:1<=v∧v<n)(hi:i<row.length):1<=(fw sc row v i).1∧(fw sc row v i).1<n∧(fw sc row v i).2<row.length:=by
 rw[Lu];split
 .rename_i c;have:=hin _ (bi c.1);exact⟨this.1,this.2,c.1⟩
 .exact Jk hin a hi
set_option maxRecDepth 16000 in
theorem zV(h:List (List SV))(b:Nat)(q:HS)(N:h[b]?=some (au q))(i:Nat)(hi:i<q.row.length)(hin:uh q.row q.pl.length)(Y:q.pl.length=q.sc.length)(hs:q.row.length<=1000000):
 aB Tryz.prog 177 [.ptr b 0,ae i] h (λr h'=>r=.pv (.tup [])∧h'=h.set b (au ⟨q.sc,(eD q.sc (q.row.getD i 0) q.row.length i q.row q.pl).1,(eD q.sc (q.row.getD i 0) q.row.length i q.row q.pl).2⟩)):=by
 refine uX [] aE Tryz.func177 (λ_ _=>ge rfl _ _) ?_;obtain⟨d,E⟩:=RE.1 N;have O:=hin (q.row.getD i 0) (bi hi);have J:q.row[i]=q.row.getD i 0:=by simp[hi]
 generalize V:q.row.getD i 0=v at*;simp[E,d,au,hi,J];refine av.intro (S:=λ(x:Nat×Nat×List Int×List Int)=>⟨[(0,.pv (.ptr b 0)),(1,.pv (ae x.2.1)),(4,.pv (ae v))],h.set b (au ⟨q.sc,x.2.2.1,x.2.2.2⟩)⟩)
  (λx=>x.2.1<x.2.2.1.length∧x.2.2.1.length=q.row.length∧x.2.2.2.length=q.pl.length∧uh x.2.2.1 q.pl.length∧x.2.2.1.length<=x.2.1+x.1∧eD q.sc v x.1 x.2.1 x.2.2.1 x.2.2.2=eD q.sc v q.row.length i q.row q.pl) (λx=>x.1) (q.row.length,i,q.row,q.pl) ?_ ?_ ?_
 .exact af.keep (by simp) (gX N).symm
 .exact⟨hi,rfl,rfl,hin,by dsimp only;omega,rfl⟩
 .rintro⟨n,j,row,pl⟩ ⟨D,P,Q,y,W,w⟩;dsimp only at D P Q y W w;have K:aR (2*(j:Int))=2*(j:Int):=ap (by omega) (by omega);have o:aR 1=1:=ap (by omega) (by omega);have p:aR 2=2:=ap (by omega) (by omega);obtain⟨c1,F⟩:∃c,c=2*j+1:=⟨_,rfl⟩;obtain⟨c2,G⟩:∃c,c=2*j+2:=⟨_,rfl⟩;have L:aR (2*(j:Int)+1)=(c1:Int):=by rw[ap (by omega) (by omega)];omega
  have M:aR (2*(j:Int)+2)=(c2:Int):=by rw[ap (by omega) (by omega)];omega
  have z:=Jk (sc:=q.sc) (i:=j) y O D;have A:=zU (sc:=q.sc) (i:=j) y O D;have B:Jj q.sc row v j=if c1<row.length∧kb q.sc (row.getD c1 0) v=true then(row.getD c1 0,c1)else(v,j):=by rw[F];rfl
  have C:fw q.sc row v j=if c2<row.length∧kb q.sc (row.getD c2 0) (Jj q.sc row v j).1=true then(row.getD c2 0,c2)else Jj q.sc row v j:=by rw[G];rfl
  simp[K,L,M];refine av.intro (S:=λ(t:Nat)=>⟨[(0,.pv (.ptr b 0)),(1,.pv (ae j)),(4,.pv (ae v)),(5,.pv (ae (D4 q.sc row v j t).1)),(6,.pv (ae (D4 q.sc row v j t).2)),(24,.pv (.agg [ae c1,ae c2])),(25,.pv (ae t))],h.set b (au ⟨q.sc,row,pl⟩)⟩)
   (λt=>t<=2) (λt=>2 -t) 0 ?_ ?_ ?_
  .exact af.keep (by simp[D4]) rfl
  .omega
  .intro t ht;have:t=0∨t=1∨t=2:=by omega
   rcases this with rfl|rfl|rfl
   .by_cases a:c1<row.length
    .have H:=y _ (bi a);have m:row[c1]=row.getD c1 0:=by simp[a]
     generalize U:row.getD c1 0=u at*;have s:=qW ⟨q.sc,row,pl⟩ u v (by dsimp only;omega) (by dsimp only;omega);simp[d,au,D4,a,m];rw[←au.eq_1 ⟨q.sc,row,pl⟩,pK d];refine aj.introP s ?_;rw[au.eq_1 ⟨q.sc,row,pl⟩];cases l:kb q.sc u v with
     |false=>
      simp;refine⟨1,by dsimp only;omega,by dsimp only;omega,af.keep ?_ (by simp[au])⟩;simp[o,D4,B,l]
     |true=>
      simp[d,a,m];refine⟨1,by dsimp only;omega,by dsimp only;omega,af.keep ?_ (by simp[au])⟩;simp[o,D4,B,l,a]
    .simp[d,au,D4,a];refine⟨1,by dsimp only;omega,by dsimp only;omega,af.keep ?_ (by simp[au])⟩;simp[o,D4,B,a]
   .generalize g:Jj q.sc row v j=be at*;obtain⟨f,at'⟩:=be;dsimp only at z
    by_cases a:c2<row.length
    .have H:=y _ (bi a);have m:row[c2]=row.getD c2 0:=by simp[a]
     generalize U:row.getD c2 0=u at*;have s:=qW ⟨q.sc,row,pl⟩ u f (by dsimp only;omega) (by dsimp only;omega);simp[d,au,D4,a,m,g];rw[←au.eq_1 ⟨q.sc,row,pl⟩,pK d];refine aj.introP s ?_;rw[au.eq_1 ⟨q.sc,row,pl⟩];cases l:kb q.sc u f with
     |false=>
      simp;refine⟨2,by dsimp only;omega,by dsimp only;omega,af.keep ?_ (by simp[au])⟩;simp[p,D4,C,l]
     |true=>
      simp[d,a,m];refine⟨2,by dsimp only;omega,by dsimp only;omega,af.keep ?_ (by simp[au])⟩;simp[p,D4,C,l,a]
    .simp[d,au,D4,a,g];refine⟨2,by dsimp only;omega,by dsimp only;omega,af.keep ?_ (by simp[au])⟩;simp[p,D4,C,a]
   .have hn:n≠0:=by omega
    obtain⟨n,rfl⟩:∃k,n=k+1:=⟨n -1,by omega⟩;rw[eD]at w;clear B C z;generalize g:fw q.sc row v j=be at*;obtain⟨f,at'⟩:=be;dsimp only at A w;have I:=zT (h.set b (au ⟨q.sc,row,pl⟩)) b ⟨q.sc,row,pl⟩ (gg d _) j f D (by dsimp only;omega);simp[d,au,D4,g];refine aj.intro I ?_;rintro _ _ ⟨rfl,rfl⟩
    by_cases c:at'=j
    .rw[RI c]at w;simp[c,←w,au]
    .rw[RH c]at w;have c':¬(at':Int)=(j:Int):=by omega
     simp[c,c',d,au,A,iU];have T:j<at':=by
      rcases zS (sc:=q.sc) (row:=row) (v:=v) (i:=j)with⟨e,_⟩|⟨X,e,_,_,R,_⟩
      .rw[g]at e;simp only[Tq]at e;omega
      .rw[g]at e;simp only[Tq]at e;omega
     refine⟨(n,at',(row.set j f).set at' v,pl.set f.toNat j),by dsimp only;omega,⟨?_,?_,?_,?_,?_,w⟩,af.keep ?_ ?_⟩
     .dsimp only;simp only[Sg];omega
     .simpa using P
     .simpa using Q
     .intro x hx;rcases TP hx with hx|hx
      .rcases TP hx with hx|hx
       .exact y x hx
       .omega
      .omega
     .dsimp only;simp only[Sg];omega
     .simp
     .simp[au]
end Go.AX
namespace Go.AX
set_option maxRecDepth 16000
open Go.Proofs
set_option linter.unusedSimpArgs false
theorem vO{sc:List Int}{v:Int}:∀(n i:Nat)(row pl:List Int),(eD sc v n i row pl).1.length=row.length∧(eD sc v n i row pl).2.length=pl.length
 |0,i,row,pl=>by simp[eD]
 |n+1,i,row,pl=>by
  rw[eD];split
  .simp
  .obtain⟨h1,a⟩:=vO (sc:=sc) (v:=v) n (fw sc row v i).2 ((row.set i (fw sc row v i).1).set (fw sc row v i).2 v) (pl.set (fw sc row v i).1.toNat i);rw[h1,a];simp
theorem rR{row:List Int}{n i:Nat}{x:Int}(h:uh row n)(hx:1<=x∧x<n):uh (row.set i x) n:=by
 intro y hy;rcases TP hy with hy|hy
 .exact h y hy
 .subst hy;exact hx
theorem zW{sc:List Int}{v:Int}{m:Nat}(a:1<=v∧v<m):∀(n i:Nat)(row pl:List Int),i<row.length->uh row m->uh (eD sc v n i row pl).1 m
 |0,i,row,pl,hi,h=>rR h a
 |n+1,i,row,pl,hi,h=>by
  have hp:=zU (sc:=sc) (i:=i) h a hi;rw[eD];split
  .exact rR h ⟨hp.1,hp.2.1⟩
  .exact zW a n _ _ _ (by simp only[Sg];exact hp.2.2) (rR (rR h ⟨hp.1,hp.2.1⟩) a)
def iV(sc:List Int):Nat->List Int->List Int->List Int×List Int
 |0,row,pl=>(row,pl)
 |k+1,row,pl=>iV sc k (eD sc (row.getD k 0) row.length k row pl).1 (eD sc (row.getD k 0) row.length k row pl).2
theorem FO(h:List (List SV))(b:Nat)(q:HS)(o:h[b]?=some (au q))(hin:uh q.row q.pl.length)(A:q.pl.length=q.sc.length)(hs:q.row.length<=1000000):
 aB Tryz.prog 248 [.ptr b 0] h (λr h'=>r=.pv (.tup [])∧h'=h.set b (au ⟨q.sc,(iV q.sc (q.row.length/2) q.row q.pl).1,(iV q.sc (q.row.length/2) q.row q.pl).2⟩)):=by
 refine uX [] aE Tryz.func248 (λ_ _=>ge rfl _ _) ?_;obtain⟨a,g⟩:=RE.1 o;obtain⟨m,u,j⟩:∃p:Nat,Int.tdiv (q.row.length:Int) 2=(p:Int)∧p=q.row.length/2:=⟨q.row.length/2,rfl,rfl⟩;have w:aR (m:Int)=(m:Int):=ap (by omega) (by omega);have l:aR ((m:Int) -1)=(m:Int) -1:=ap (by omega) (by omega);rw[←j];simp[g,a,au,u,w,l];refine av.intro (S:=λ(x:Nat×List Int×List Int)=>⟨[(0,.pv (.ptr b 0)),(2,.pv (ae ((x.1:Int) -1)))],h.set b (au ⟨q.sc,x.2.1,x.2.2⟩)⟩)
  (λx=>x.1<=x.2.1.length∧x.2.1.length=q.row.length∧x.2.2.length=q.pl.length∧uh x.2.1 q.pl.length∧iV q.sc x.1 x.2.1 x.2.2=iV q.sc m q.row q.pl) (λx=>x.1) (m,q.row,q.pl) ?_ ?_ ?_
 .exact af.keep (by simp) (gX o).symm
 .exact⟨by dsimp only;omega,rfl,rfl,hin,rfl⟩
 .rintro⟨k,row,pl⟩ ⟨y,z,t,e,f⟩;dsimp only at y z t e f;rcases Uf k with h0|h0
  .subst h0;rw[←f];simp[a,au,iV]
  .obtain⟨k,rfl⟩:∃i,k=i+1:=⟨k -1,by omega⟩;have n:aR ((k:Int) -1)=(k:Int) -1:=ap (by omega) (by omega);have c:=zV (h.set b (au ⟨q.sc,row,pl⟩)) b ⟨q.sc,row,pl⟩ (gg a _) k (by dsimp only;omega) (by dsimp only;rw[t];exact e) (by dsimp only;omega) (by dsimp only;omega);have s:=vO (sc:=q.sc) (v:=row.getD k 0) row.length k row pl;have d:=zW (sc:=q.sc) (e _ (bi (show k<row.length by omega))) row.length k row pl (by omega) e;rw[iV]at f;simp only[au]at c;simp[a,au];refine aj.intro c ?_;rintro _ _ ⟨rfl,rfl⟩;simp[n];refine⟨(k,_,_),by dsimp only;omega,⟨?_,?_,?_,d,f⟩,af.keep ?_ ?_⟩
   .dsimp only;omega
   .dsimp only;omega
   .dsimp only;omega
   .simp
   .simp[au]
def half(x:Int):Int:=aR (Int.tdiv x 2)
def ib(l:List Int)(i:Nat):List Int:=(l.take i).map half++l.drop i
theorem Cn(l:List Int)(i:Nat):(ib l i).length=l.length:=by
 simp only[ib,RP,RR,RN,Sv];omega
theorem Co{l:List Int}{i:Nat}(h:i<l.length):(ib l i)[i]?=some l[i]:=by
 have a:((l.take i).map half).length=i:=by simp;omega
 rw[ib,R5 (by omega),a,T9,Tf];simp[h]
theorem zX{l:List Int}{i:Nat}(h:i<l.length):(ib l i).set i (half l[i])=ib l (i+1):=by
 have a:((l.take i).map half).length=i:=by simp;omega
 unfold ib;rw[UJ _ _ (by omega),a,T9,SN h,Sk h,Sb,Vn,Si];rfl
def cv(q:HS):HS:=⟨q.sc.map half,(iV (q.sc.map half) (q.row.length/2) q.row q.pl).1,(iV (q.sc.map half) (q.row.length/2) q.row q.pl).2⟩
theorem qA(h:List (List SV))(b:Nat)(q:HS)(k:h[b]?=some (au q))(o:0<q.sc.length)(hin:uh q.row q.pl.length)(n:q.pl.length=q.sc.length)(hs:q.row.length<=1000000)(p:q.sc.length<=1000000):
 aB Tryz.prog 169 [.ptr b 0] h (λr h'=>r=.pv (.tup [])∧h'=h.set b (au (cv q))):=by
 refine uX [] aE Tryz.func169 (λ_ _=>ge rfl _ _) ?_;obtain⟨a,l⟩:=RE.1 k;have h1:=rP q o;simp;rw[gF k];refine aj.introP h1 ?_;simp[l,a,au];refine av.intro (S:=λ(i:Nat)=>⟨[(0,.pv (.ptr b 0)),(10,.pv (ae q.sc.length)),(11,.pv (ae i))],h.set b (au ⟨ib q.sc i,q.row,q.pl⟩)⟩)
  (λi=>i<=q.sc.length) (λi=>q.sc.length -i) 0 ?_ ?_ ?_
 .exact af.keep (by simp) (by simp[ib,gX k])
 .omega
 .intro i hi
  by_cases c:i<q.sc.length
  .have s:=dq i;have g:=Cn q.sc i;have e:=Co c;have d:(ib q.sc i)[i]'(by omega)=q.sc[i]:=by
    have:=RE.1 e;exact this.2
   have j:=zX c;unfold half at j;simp[a,au,c,g,d,iU];refine⟨i+1,by dsimp only;omega,by dsimp only;omega,af.keep ?_ ?_⟩
   .simp[s]
   .simp[au,j]
  .have:i=q.sc.length:=by omega
   subst this;have f:=FO (h.set b (au ⟨q.sc.map half,q.row,q.pl⟩)) b ⟨q.sc.map half,q.row,q.pl⟩ (gg a _) hin (by simpa using n) hs;have m:ib q.sc q.sc.length=q.sc.map half:=by simp[ib]
   simp only[au]at f;simp[a,au,m];refine aj.intro f ?_;rintro _ _ ⟨rfl,rfl⟩;simp[cv]
end Go.AX
namespace Go.AX
def fc(q:HS)(v by':Int):HS×Int:=
 if tQ q v=false then(q,10)else if by'<0∨1000000000000<by' then(q,2)else
  let a:=q.sc.set v.toNat (q.sc.getD v.toNat 0+by')
  let b:HS:=if 0<=q.pl.getD v.toNat 0 then⟨a,(qV a (q.row.getD (q.pl.getD v.toNat 0).toNat 0) (q.pl.getD v.toNat 0).toNat q.row q.pl).1,(qV a (q.row.getD (q.pl.getD v.toNat 0).toNat 0) (q.pl.getD v.toNat 0).toNat q.row q.pl).2⟩else⟨a,q.row,q.pl⟩
  (if 1000000000000<b.sc.getD v.toNat 0 then cv b else b,0)
def eG(q:HS)(v:Int):HS×Int:=
 if tQ q v=false then(q,10)else if 0<=q.pl.getD v.toNat 0 then(q,21)else
  (⟨q.sc,(qV q.sc v q.row.length (q.row++[v]) q.pl).1,(qV q.sc v q.row.length (q.row++[v]) q.pl).2⟩,0)
def fq(q:HS):HS×Int:=
 if cb q=0 then(q,0)else
  let w:=q.row.getD (q.row.length -1) 0
  let a:=(q.row.set 0 w).take (q.row.length -1)
  let b:=(q.pl.set w.toNat 0).set (cb q).toNat (-1)
  (if 0<q.row.length -1 then⟨q.sc,(eD q.sc (a.getD 0 0) a.length 0 a b).1,(eD q.sc (a.getD 0 0) a.length 0 a b).2⟩else⟨q.sc,a,b⟩,cb q)
def nq(n:Nat):HS:=⟨List.replicate (n+1) 0,(List.range n).map λi=>((i+1:Nat):Int),0::(List.range n).map λi=>((i:Nat):Int)⟩
structure HpG (n:Nat) (M:Int) (q:HS):Prop where
  sl:q.sc.length=n+1
  pll:q.pl.length=n+1
  nd:q.row.Nodup
  inr:uh q.row (n+1)
  plc:PL q.row q.pl
  out:∀u:Nat,1<=u->u<=n->¬(u:Int)∈q.row->q.pl.getD u 0=-1
  ho:HO q.sc q.row 0
  rng:∀x∈q.sc,0<=x∧x<=M
namespace HpG
variable {n : Nat} {M : Int} {q : HS}
theorem few(g:HpG n M q):q.row.length<=n:=by
 have := cZ q.row ((List.range n).map λ i => ((i + 1 : Nat) : Int)) g.nd (λ x hx => by
  have:=g.inr x hx;rw[RO];exact⟨(x -1).toNat,SY.2 (by omega),by omega⟩)
 simpa using this
theorem isV_iff(g:HpG n M q){v:Int}:tQ q v=true↔1<=v∧v<=n:=by
 simp only[tQ,RQ,R0,g.sl];omega
theorem place(g:HpG n M q){v:Int}(h:v∈q.row):∃i,i<q.row.length∧q.row.getD i 0=v∧q.pl.getD v.toNat 0=(i:Int):=by
 obtain⟨i,hi,e⟩:=Jd h;exact⟨i,hi,e,by have:=g.plc i hi;rwa [e]at this⟩
theorem has_iff(g:HpG n M q){v:Int}(a:1<=v∧v<=n):0<=q.pl.getD v.toNat 0↔v∈q.row:=by
 constructor
 .intro h;apply R6;intro hn;have:=g.out v.toNat (by omega) (by omega) (by rwa [show((v.toNat:Nat):Int)=v by omega]);omega
 .intro h;obtain⟨i,_,_,e⟩:=g.place h;rw[e];omega
theorem score(g:HpG n M q)(v:Nat):0<=q.sc.getD v 0∧(0<=M->q.sc.getD v 0<=M):=by
 by_cases h:v<q.sc.length
 .have:=g.rng _ (bi h);exact⟨this.1,λ_=>this.2⟩
 .have:q.sc.getD v 0=0:=by simp[RG,h]
  rw[this];exact⟨by omega,λh=>h⟩
theorem first(g:HpG n M q):∀j,j<q.row.length->kb q.sc (q.row.getD j 0) (q.row.getD 0 0)=false:=by
 intro j
 induction j using Nat.strongRecOn with
 |_ j a=>
  intro hj;rcases Uf j with h0|h0
  .subst h0;exact ng _ _
  .exact iT (g.ho j h0 hj (RW _)) (a ((j -1)/2) (by omega) (by omega))
theorem peek_zero(g:HpG n M q):cb q=0↔q.row=[]:=by
 constructor
 .intro h;cases a:q.row with
  |nil=>rfl
  |cons x xs=>
   have:=g.inr x (by rw[a];simp);simp only[cb,a,Tp]at h;omega
 .intro h;simp[cb,h]
theorem peek_mem(g:HpG n M q)(h:cb q≠0):cb q∈q.row:=by
 cases a:q.row with
 |nil=>exact absurd (g.peek_zero.2 a) h
 |cons x xs=>simp[cb,a]
end HpG
theorem vP{sc:List Int}:∀(k:Nat)(row pl:List Int),k<=row.length->row.Nodup->uh row pl.length->PL row pl->HO sc row k->DnOk sc row pl 0 (iV sc k row pl)
 |0,row,pl,_,_,_,hp,ho=>⟨UK _,ho,hp,λ_ _=>rfl,rfl⟩
 |k+1,row,pl,hk,a,hin,hp,ho=>by
  have d:=tP (sc:=sc) (v:=row.getD k 0) (k:=k) row.length k row pl (by omega) (by omega) (RJ _) rfl a hin (λj hj _=>hp j hj)
   (λj b hj e g=>ho j b hj (by omega)) (λj _ _ _ h1 i=>by omega)
  have f:=d.perm.length_eq;have r:=vP k _ _ (by rw[f];omega) (d.perm.nodup_iff.2 a) (by rw[d.len];exactλx hx=>hin x (d.perm.mem_iff.1 hx)) d.plc d.ho;exact⟨r.perm.trans d.perm,r.ho,r.plc,λu c=>by rw[iV,r.out u (λh=>c (d.perm.mem_iff.1 h)),d.out u c],r.len.trans d.len⟩
theorem Lv{x:Int}(h:0<=x)(a:x<=4000000000000):half x=x/2:=by
 unfold half;have:Int.tdiv x 2=x/2:=U5 h;rw[this,ap (by omega) (by omega)]
theorem lF{n:Nat}{M:Int}{q:HS}(g:HpG n (2*M) q)(h0:0<=M)(i:M<=1000000000000):HpG n M (cv q)∧(cv q).row.Perm q.row∧(cv q).sc=q.sc.map (·/2):=by
 have b:q.sc.map half=q.sc.map (·/2):=TW λx hx=>by have:=g.rng x hx;exact Lv this.1 (by omega)
 have a:=vP (sc:=q.sc.map half) (q.row.length/2) q.row q.pl (by omega) g.nd (by rw[g.pll];exact g.inr) g.plc (λj h1 d f=>by omega);refine⟨⟨by simp[cv,g.sl],by simp only[cv];rw[a.len,g.pll],a.perm.nodup_iff.2 g.nd,λx hx=>g.inr x (a.perm.mem_iff.1 hx),a.plc,λu h1 d e=>?_,a.ho,λx hx=>?_⟩,a.perm,b⟩
 .have c:¬(u:Int)∈q.row:=λh=>e (a.perm.mem_iff.2 h);rw[show(cv q).pl.getD u 0=_ from a.out u c];exact g.out u h1 d c
 .simp only[cv,b,RO]at hx;obtain⟨y,hy,rfl⟩:=hx;have:=g.rng y hy;omega
theorem HpG.mono{n:Nat}{M a:Int}{q:HS}(g:HpG n M q)(h:M<=a):HpG n a q:=⟨g.sl,g.pll,g.nd,g.inr,g.plc,g.out,g.ho,λx hx=>by have:=g.rng x hx;omega⟩
theorem Jl{l:List Int}{i:Nat}:l.set i (l.getD i 0)=l:=by
 apply Uh
 .simp
 .intro j b a;rw[Wa];split
  .rename_i e;subst e;simp[RG,a]
  .rfl
def d9(q:HS)(v by':Int):HS:=
 if 0<=q.pl.getD v.toNat 0 then⟨q.sc.set v.toNat (q.sc.getD v.toNat 0+by'),(qV (q.sc.set v.toNat (q.sc.getD v.toNat 0+by')) (q.row.getD (q.pl.getD v.toNat 0).toNat 0) (q.pl.getD v.toNat 0).toNat q.row q.pl).1,(qV (q.sc.set v.toNat (q.sc.getD v.toNat 0+by')) (q.row.getD (q.pl.getD v.toNat 0).toNat 0) (q.pl.getD v.toNat 0).toNat q.row q.pl).2⟩else⟨q.sc.set v.toNat (q.sc.getD v.toNat 0+by'),q.row,q.pl⟩
theorem tT{n:Nat}{q:HS}(g:HpG n 1000000000000 q){v by':Int}(H:1<=v∧v<=n)(c2:¬(by'<0∨1000000000000<by')):
 HpG n (2*1000000000000) (d9 q v by')∧(d9 q v by').row.Perm q.row∧(d9 q v by').sc=q.sc.set v.toNat (q.sc.getD v.toNat 0+by')∧(d9 q v by').sc.getD v.toNat 0=q.sc.getD v.toNat 0+by':=by
 have E:v.toNat<q.sc.length:=by rw[g.sl];omega
 have N:=g.score v.toNat;have d:∀u:Nat,(q.sc.set v.toNat (q.sc.getD v.toNat 0+by')).getD u 0=if u=v.toNat then q.sc.getD v.toNat 0+by' else q.sc.getD u 0:=λu=>by
  rw[bg]
  by_cases e:u=v.toNat
  .rw[RI ⟨e.symm,E⟩,RI e]
  .rw[RH (λh=>e h.1.symm),RH e]
 have o:∀x∈q.sc.set v.toNat (q.sc.getD v.toNat 0+by'),0<=x∧x<=2*1000000000000:=λx hx=>by
  rcases TP hx with hx|hx
  .have:=g.rng x hx;omega
  .omega
 generalize r:q.sc.set v.toNat (q.sc.getD v.toNat 0+by')=c at*;have s:c.length=n+1:=by rw[←r,Sg,g.sl]
 have key:∀w:HS,w=(if 0<=q.pl.getD v.toNat 0 then⟨c,(qV c (q.row.getD (q.pl.getD v.toNat 0).toNat 0) (q.pl.getD v.toNat 0).toNat q.row q.pl).1,(qV c (q.row.getD (q.pl.getD v.toNat 0).toNat 0) (q.pl.getD v.toNat 0).toNat q.row q.pl).2⟩else⟨c,q.row,q.pl⟩)->
  HpG n (2*1000000000000) w∧w.row.Perm q.row∧w.sc=c:=by
  intro w l
  by_cases c3:0<=q.pl.getD v.toNat 0
  .rw[RI c3]at l;obtain⟨i,hi,m,A⟩:=g.place ((g.has_iff H).1 c3);rw[A,SQ,m]at l;have b:q.row.set i v=q.row:=by rw[←m];exact Jl
   have C:∀j,j<q.row.length->j≠i->q.row.getD j 0≠v:=λj hj k e=>k (d4 g.nd hj hi (by rw[e,m]));have a:∀j,j<q.row.length->j≠i->c.getD (q.row.getD j 0).toNat 0=q.sc.getD (q.row.getD j 0).toNat 0:=λj hj k=>by
    have h1:=g.inr _ (bi hj);have p:=C j hj k;rw[d,RH (by omega)]
   have D:=Je (sc:=c) (v:=v) i q.row q.pl hi (by rw[b];exact g.nd) (by rw[b,g.pll];exact g.inr) (by rw[b];exactλj hj _=>g.plc j hj)
    (λ j f hj k => by
     rw[b];have h1:=g.ho j f hj (RW _);have p:=a j hj k
     by_cases e:(j -1)/2=i
     .rw[e,m]at h1⊢;rw[gW]at h1⊢;rw[p,d,RI rfl];omega
     .have L:=a ((j -1)/2) (by omega) e;rw[gW]at h1⊢;rw[p,L];exact h1)
    (λ j f hj B z => by
     rw[b];have h1:=g.ho j f hj (RW _);have M:=g.ho i z hi (RW _);rw[B]at h1;have G:=iT h1 M;rw[gW]at G⊢;rw[a j hj (by omega),a ((i -1)/2) (by omega) (by omega)];exact G)
   obtain⟨y,Q,R,J,S⟩:=D;rw[b]at y J;subst l;exact⟨⟨s,by dsimp only;rw[S,g.pll],y.nodup_iff.2 g.nd,λx hx=>g.inr x (y.mem_iff.1 hx),R,λu h1 p O=>by
    have t:¬(u:Int)∈q.row:=λh=>O (y.mem_iff.2 h);dsimp only;rw[J u t];exact g.out u h1 p t,Q,o⟩,y,rfl⟩
  .rw[RH c3]at l;subst l;have F:¬v∈q.row:=λh=>c3 ((g.has_iff H).2 h);refine⟨⟨s,g.pll,g.nd,g.inr,g.plc,g.out,λj f hj hk=>?_,o⟩,UK _,rfl⟩;have h1:=g.ho j f hj (RW _);have a:∀j,j<q.row.length->c.getD (q.row.getD j 0).toNat 0=q.sc.getD (q.row.getD j 0).toNat 0:=λj hj=>by
    have h1:=g.inr _ (bi hj);have p:q.row.getD j 0≠v:=λe=>F (by rw[←e];exact bi hj);rw[d,RH (by omega)]
   rw[gW]at h1⊢;dsimp only at hj⊢;rw[a j hj,a ((j -1)/2) (by omega)];exact h1
 obtain⟨K,P,I⟩:=key (d9 q v by') (by rw[←r];rfl);exact⟨K,P,I,by rw[I,d,RI rfl]⟩
theorem vQ{n:Nat}{q:HS}(g:HpG n 1000000000000 q)(v by':Int):HpG n 1000000000000 (fc q v by').1∧(fc q v by').1.row.Perm q.row∧
 ((fc q v by').2=0->(fc q v by').1.sc=(let s:=q.sc.set v.toNat (q.sc.getD v.toNat 0+by');if 1000000000000<q.sc.getD v.toNat 0+by' then s.map (·/2)else s))∧((fc q v by').2≠0->(fc q v by').1=q):=by
 unfold fc
 by_cases c1:tQ q v=false
 .rw[RI c1];exact⟨g,UK _,λh=>absurd h (by simp),λ_=>rfl⟩
 rw[RH c1]
 by_cases c2:by'<0∨1000000000000<by'
 .rw[RI c2];exact⟨g,UK _,λh=>absurd h (by simp),λ_=>rfl⟩
 rw[RH c2];have f:=g.isV_iff.1 (by simpa using c1);obtain⟨a,d,c,b⟩:=tT g f c2
 change HpG n 1000000000000 ((if 1000000000000<(d9 q v by').sc.getD v.toNat 0 then cv (d9 q v by')else d9 q v by',(0:Int))).1∧((if 1000000000000<(d9 q v by').sc.getD v.toNat 0 then cv (d9 q v by')else d9 q v by',(0:Int))).1.row.Perm q.row∧(_->((if 1000000000000<(d9 q v by').sc.getD v.toNat 0 then cv (d9 q v by')else d9 q v by',(0:Int))).1.sc=_)∧(¬(0:Int)=0->_)
 generalize d9 q v by'=k at*
 rw[b];dsimp only
 by_cases c4:1000000000000<q.sc.getD v.toNat 0+by'
 .rw[RI c4,RI c4];obtain⟨g2,i,j⟩:=lF a (by omega) (by omega);exact⟨g2,i.trans d,λ_=>by rw[j,c],λh=>absurd rfl h⟩
 .rw[RH c4,RH c4];refine⟨⟨a.sl,a.pll,a.nd,a.inr,a.plc,a.out,a.ho,λx hx=>?_⟩,d,λ_=>c,λh=>absurd rfl h⟩;rw[c]at hx;have e:=g.score v.toNat;rcases TP hx with hx|hx
  .exact g.rng x hx
  .omega
theorem zY{n:Nat}{M:Int}{q:HS}(g:HpG n M q)(v:Int):HpG n M (eG q v).1∧(eG q v).1.sc=q.sc∧((eG q v).2=0->(eG q v).1.row.Perm (q.row++[v]))∧((eG q v).2≠0->(eG q v).1=q):=by
 unfold eG
 by_cases c1:tQ q v=false
 .rw[RI c1];exact⟨g,rfl,λh=>absurd h (by simp),λ_=>rfl⟩
 rw[RH c1]
 by_cases c2:0<=q.pl.getD v.toNat 0
 .rw[RI c2];exact⟨g,rfl,λh=>absurd h (by simp),λ_=>rfl⟩
 rw[RH c2];have B:=g.isV_iff.1 (by simpa using c1);have p:¬v∈q.row:=λh=>c2 ((g.has_iff B).2 h);have c:(q.row++[v]).set q.row.length v=q.row++[v]:=by simp
 have i:(q.row++[v]).Nodup:=by
  rw[UA];exact⟨g.nd,by simp,λa w b r=>by simp at r;subst r;exactλe=>p (e▸w)⟩
 have d:∀j,j<q.row.length->(q.row++[v]).getD j 0=q.row.getD j 0:=λj hj=>by
  rw[RG,RL hj,←RG]
 have hin:uh (q.row++[v]) (n+1):=λx hx=>by
  rcases RS.1 hx with hx|hx
  .exact g.inr x hx
  .simp at hx;omega
 have o:=Je (sc:=q.sc) (v:=v) q.row.length (q.row++[v]) q.pl (by simp) (by rw[c];exact i) (by rw[c,g.pll];exact hin)
  (by
   rw[c];intro j hj k;simp only[RP,Sa,List.length_nil]at hj
   by_cases e:j=q.row.length
   .subst e;exact absurd (by simp[RG]) k
   .rw[d j (by omega)];exact g.plc j (by omega))
  (λ j f hj k => by
   rw[c];simp only[RP,Sa,List.length_nil]at hj;rw[d j (by omega),d _ (by omega)];exact g.ho j f (by omega) (RW _))
  (λj f hj z y=>by simp only[RP,Sa,List.length_nil]at hj;omega)
 obtain⟨m,C,D,s,E⟩:=o;rw[c]at m s;refine⟨⟨g.sl,by dsimp only;rw[E,g.pll],m.nodup_iff.2 i,λx hx=>hin x (m.mem_iff.1 hx),D,λu h1 t A=>?_,C,g.rng⟩,rfl,λ_=>m,λh=>absurd rfl h⟩;have l:¬(u:Int)∈q.row++[v]:=λh=>A (m.mem_iff.2 h);dsimp only;rw[s u l];exact g.out u h1 t (λh=>l (SX _ h))
theorem FP{n:Nat}{M:Int}{q:HS}(g:HpG n M q):HpG n M (fq q).1∧(fq q).1.sc=q.sc∧(fq q).2=cb q∧(cb q≠0->q.row.Perm (cb q::(fq q).1.row))∧(cb q=0->(fq q).1=q):=by
  unfold fq
  by_cases c1:cb q=0
  · rw[RI c1];exact⟨g,rfl,c1.symm,λh=>absurd c1 h,λ_=>rfl⟩
  rw[RH c1]
  have r:q.row≠[]:=λh=>c1 (g.peek_zero.2 h)
  have T:0<q.row.length:=To.2 r
  obtain⟨L,D⟩:∃L,q.row.length=L+1:=⟨q.row.length -1,by omega⟩
  have I:=g.peek_mem c1
  have H:q.row.getD 0 0=cb q:=rfl
  simp only[D,UX]
  generalize N:q.row.getD L 0=w
  have B:w∈q.row:=by rw[←N];exact bi (by omega)
  have W:=g.inr w B
  have U:=g.inr _ I
  -- what is left
  have a:q.row.Perm (cb q::(q.row.set 0 w).take L):=by
    have h1:q.row=(q.row.take L)++[w]:=by
      rw[←N]
      apply Uh
      · simp;omega
      · intro j R a2
        rw[List.getElem_append]
        split
        · simp
        · rename_i hj
          simp only[RN]at hj
          have:j=L:=by omega
          subst this
          simp[RG,R]
    rcases Uf L with h0|h0
    · subst h0
      cases s:q.row with
      |nil=>exact absurd s r
      |cons x xs=>
        have hx:xs=[]:=by rw[s]at D;simpa using D
        subst hx
        simp[cb,s]
    · cases s:q.row with
      |nil=>exact absurd s r
      |cons x xs=>
        obtain⟨K,rfl⟩:∃K,L=K+1:=⟨L -1,by omega⟩
        rw[s]at h1
        simp only[Vh,Sq,Uc,true_and]at h1
        have hx:cb q=x:=by simp[cb,s]
        simp only[Vn,Vh,hx]
        refine List.Perm.cons _ ?_
        conv=>lhs;rw[h1]
        exact List.perm_append_comm
  have G:((q.row.set 0 w).take L).length=L:=by simp[D]
  have b:=(a.nodup_iff.1 g.nd)
  rw[Tg]at b
  have l:∀x,x∈(q.row.set 0 w).take L↔x∈q.row∧x≠cb q:=λx=>by
    constructor
    · intro hx
      exact⟨a.mem_iff.2 (RZ _ hx),λe=>b.1 (e▸hx)⟩
    · rintro⟨h1,t⟩
      rcases R9.1 (a.mem_iff.1 h1)with F|F
      · exact absurd F t
      · exact F
  have i:uh ((q.row.set 0 w).take L) (n+1):=λx hx=>g.inr x ((l x).1 hx).1
  have d:∀j,0<j->j<L->((q.row.set 0 w).take L).getD j 0=q.row.getD j 0:=λj h0 hj=>by
    rw[RG,Ub hj,RY (by omega),←RG]
  have m:∀u:Nat,1<=u->u<=n->¬(u:Int)∈(q.row.set 0 w).take L->((q.pl.set w.toNat 0).set (cb q).toNat (-1)).getD u 0=-1:=λu h1 t J=>by
    rw[bg,Sg,g.pll]
    by_cases e:(u:Int)=cb q
    · rw[RI ⟨by omega,by omega⟩]
    · rw[RH (by omega)]
      have A:¬(u:Int)∈q.row:=λh=>J ((l u).2 ⟨h,e⟩)
      rw[bg,RH (λh=>A (by rw[show(u:Int)=w by omega];exact B))]
      exact g.out u h1 t A
  generalize V:(q.row.set 0 w).take L=c at*
  generalize y:(q.pl.set w.toNat 0).set (cb q).toNat (-1)=C at*
  have f:C.length=n+1:=by rw[←y];simp[g.pll]
  by_cases c2:0<L
  · rw[RI c2]
    have hd:=tP (sc:=q.sc) (v:=c.getD 0 0) (k:=0) c.length 0 c C (by omega) (by omega) (RJ _) rfl b.2 (by rw[f];exact i)
      (λ j hj p => by
        have o:0<j:=by
          rcases Uf j with h0|h0
          · subst h0;exact absurd rfl p
          · exact h0
        rw[d j o (by omega)]
        have h1:=g.inr _ (bi (show j<q.row.length by omega))
        have O:q.row.getD j 0≠cb q:=λe=>by have:=d4 g.nd (show j<q.row.length by omega) T (by rw[e,H]);omega
        have P:q.row.getD j 0≠w:=λe=>by have:=d4 g.nd (show j<q.row.length by omega) (show L<q.row.length by omega) (by rw[e,N]);omega
        rw[←y,bg,RH (by omega),bg,RH (by omega)]
        exact g.plc j (by omega))
      (λ j o hj _ p => by
        rw[d j o (by omega),d _ (by omega) (by omega)]
        exact g.ho j o (by omega) (RW _))
      (λj _ _ _ h1 _=>by omega)
    obtain⟨E,X,Y,Z,u5⟩:=hd
    refine⟨⟨g.sl,by dsimp only;rw[u5,f],E.nodup_iff.2 b.2,λx hx=>i x (E.mem_iff.1 hx),Y,λu h1 t J=>?_,X,g.rng⟩,rfl,(by first|rfl|trivial),λ_=>a.trans (E.symm.cons _),λh=>absurd h c1⟩
    have z:¬(u:Int)∈c:=λh=>J (E.mem_iff.2 h)
    dsimp only
    rw[Z u z];exact m u h1 t z
  · rw[RH c2]
    have S:L=0:=by omega
    have Q:c=[]:=TN (by omega)
    refine⟨⟨g.sl,f,b.2,i,λj hj=>?_,m,λj h0 hj=>?_,g.rng⟩,rfl,(by first|rfl|trivial),λ_=>a,λh=>absurd h c1⟩
    · dsimp only at hj;omega
    · dsimp only at hj;omega
theorem Jm(n:Nat):HpG n 1000000000000 (nq n):=by
 have a:∀j,j<n->((List.range n).map λi=>((i+1:Nat):Int)).getD j 0=((j+1:Nat):Int):=λj hj=>by simp[RG,hj]
 refine⟨by simp[nq],by simp[nq],?_,λx hx=>?_,λj hj=>?_,λu h1 f d=>?_,λj c hj _=>?_,λx hx=>?_⟩
 .simp only[nq];unfold List.Nodup;rw[Sl];intro i j hi hj b e;simp at e;omega
 .simp only[nq,RO,SY]at hx;obtain⟨i,hi,rfl⟩:=hx;omega
 .simp only[nq,RR,Vx]at hj⊢;rw[a j hj,SQ,RG,Tw];simp[hj]
 .exfalso;apply d;simp only[nq,RO,SY];exact⟨u -1,by omega,by omega⟩
 .simp only[nq,RR,Vx]at hj⊢;rw[a j hj,a _ (by omega),gW];right;refine⟨?_,by omega⟩;simp only[RG,V7];rw[RI (by omega),RI (by omega)]
 .simp only[nq]at hx;have:=Ut hx;omega
end Go.AX
namespace Go.AX
open Go.Proofs
set_option linter.unusedSimpArgs false
theorem tU(s r p:List Int):[SV.own true 1 (aa s),SV.own true 1 (aa r),SV.own true 1 (aa p)]=au ⟨s,r,p⟩:=rfl
theorem mO{l:List Int}{i:Nat}(h:i<l.length):l[i]=l.getD i 0:=by simp[h]
theorem Jn{q:HS}{v by':Int}(h:tQ q v=false):fc q v by'=(q,10):=by unfold fc;rw[RI h]
theorem FQ{q:HS}{v by':Int}(h:tQ q v=true)(a:by'<0∨1000000000000<by'):fc q v by'=(q,2):=by unfold fc;rw[RH (by rw[h];simp),RI a]
theorem FR{q:HS}{v by':Int}(h:tQ q v=true)(a:¬(by'<0∨1000000000000<by')):fc q v by'=(if 1000000000000<(d9 q v by').sc.getD v.toNat 0 then cv (d9 q v by')else d9 q v by',0):=by
 unfold fc;rw[RH (by rw[h];simp),RH a];rfl
set_option maxRecDepth 16000 in
theorem zZ(h:List (List SV))(b:Nat)(q:HS)(O:h[b]?=some (au q)){n:Nat}(g:HpG n 1000000000000 q)(hn:n<=100000)(v by':Int):
 aB Tryz.prog 129 [.ptr b 0,ae v,ae by'] h (λr h'=>r=.pv (ae (fc q v by').2)∧h'=h.set b (au (fc q v by').1)):=by
 refine nC aE Tryz.func129 ?_;obtain⟨a,Q⟩:=RE.1 O;have hq:0<q.sc.length:=by rw[g.sl];omega
 have X:=DY q hq v;generalize y:fc q v by'=BS
 simp;rw[gF O];refine aj.introP X ?_;unfold Lt;cases I:tQ q v with
 |false=>
  have e:=y.symm.trans (Jn I);subst e;simp[gX O]
 |true=>
  have M:=g.isV_iff.1 I;have K:v.toNat<q.sc.length:=by rw[g.sl];omega
  have L:v.toNat<q.pl.length:=by rw[g.pll];omega
  have k:0<=v:=by omega
  have V:v<(q.sc.length:Int):=by rw[g.sl];omega
  have W:v<(q.pl.length:Int):=by rw[g.pll];omega
  have ad:=g.score v.toNat;obtain⟨f,E⟩:∃x,x=q.sc.getD v.toNat 0:=⟨_,rfl⟩;obtain⟨H,t⟩:∃x,x=q.pl.getD v.toNat 0:=⟨_,rfl⟩;have R:q.sc[v.toNat]=f:=by rw[E];exact mO K
  have T:q.pl[v.toNat]=H:=by rw[t];exact mO L
  simp[a,Q,au,K,k,V,R,iU];refine⟨λc=>?_,λc1 c2=>?_⟩
  .have e:=y.symm.trans (FQ I c);subst e;simp[tU,gX O]
  have c3:¬(by'<0∨1000000000000<by'):=λh=>h.elim (λh=>Vq.2 c1 h) (λh=>Vq.2 c2 h);have e:=y.symm.trans (FR I c3);clear y;subst e;obtain⟨F,w⟩:∃F,(if 1000000000000<(d9 q v by').sc.getD v.toNat 0 then cv (d9 q v by')else d9 q v by')=F:=⟨_,rfl⟩;rw[w];have Y:aR (f+by')=f+by':=ap (by omega) (by omega)
  have N:d9 q v by'=if 0<=H then⟨q.sc.set v.toNat (f+by'),(qV (q.sc.set v.toNat (f+by')) (q.row.getD H.toNat 0) H.toNat q.row q.pl).1,(qV (q.sc.set v.toNat (f+by')) (q.row.getD H.toNat 0) H.toNat q.row q.pl).2⟩else⟨q.sc.set v.toNat (f+by'),q.row,q.pl⟩:=by
   rw[E,t];rfl
  have j:=xE ⟨q.sc.set v.toNat (f+by'),q.row,q.pl⟩ (by simpa using hq) (by dsimp only;rw[Sg,g.pll,g.sl]) v;have U:tQ ⟨q.sc.set v.toNat (f+by'),q.row,q.pl⟩ v=true:=by unfold tQ at I⊢;simpa using I
  rw[U]at j;rw[Y];dsimp only at j;rw[←t]at j;rw[tU,pK a];refine aj.introP j ?_;have ab:q.row.length<=n:=g.few;obtain⟨d,p1,s1,A⟩:=tT g M c3;rw[←E]at A s1;rw[A]at w
  by_cases c5:0<=H
  .obtain⟨i,hi,J,D⟩:=g.place ((g.has_iff M).1 (by rw[←t];exact c5));rw[←t]at D;have hin:uh q.row q.pl.length:=by rw[g.pll];exact g.inr
   have u:=Ji (h.set b (au ⟨q.sc.set v.toNat (f+by'),q.row,q.pl⟩)) b ⟨q.sc.set v.toNat (f+by'),q.row,q.pl⟩ (gg a _) i hi hin (by dsimp only;rw[Sg,g.pll,g.sl]) (by dsimp only;omega);rw[RI c5,D,SQ,J]at N;dsimp only at u;rw[J]at u;rw[←D]at u;simp only[au]at u;simp[a,au,c5,L,k,W,T];refine aj.intro u ?_;rintro _ _ ⟨rfl,rfl⟩;simp;have P:au (d9 q v by')=[.own true 1 (aa (q.sc.set v.toNat (f+by'))),.own true 1 (aa (qV (q.sc.set v.toNat (f+by')) v i q.row q.pl).1),.own true 1 (aa (qV (q.sc.set v.toNat (f+by')) v i q.row q.pl).2)]:=by rw[N];rfl
   rw[←P];generalize d9 q v by'=B at*
   refine av.intro (S:=λ(x:Nat)=>⟨[(0,.pv (.ptr b 0)),(1,.pv (ae v))],h.set b (au (if x=0 then B else cv B))⟩) (λx=>x=0∨x=1∧1000000000000<f+by') (λx=>1 -x) 0 ?_ (.inl rfl) ?_
   .exact af.keep (by simp) (by simp)
   .have l:v.toNat<B.sc.length:=by rw[d.sl];omega
    have m:v<(B.sc.length:Int):=by rw[d.sl];omega
    have C:B.sc[v.toNat]=f+by':=by rw[←A];exact mO l
    rintro x (rfl|⟨rfl,hx⟩)
    .have s:=qA (h.set b (au B)) b B (gg a _) (by rw[d.sl];omega) (by rw[d.pll];exact d.inr) (by rw[d.pll,d.sl]) (by have:=d.few;omega) (by rw[d.sl];omega);simp only[au]at s;simp[a,au,l,m,k,C];refine⟨λc=>?_,λc=>?_⟩
     .refine aj.intro s ?_;rintro _ _ ⟨rfl,rfl⟩;simp;exact⟨1,by dsimp only;omega,.inr ⟨rfl,c⟩,af.keep (by simp) (by simp[au])⟩
     .rw[RH (Vq.2 c)]at w;rw[w]
    .obtain⟨g2,p2,s2⟩:=lF d (by omega) (by omega);have o:v.toNat<(cv B).sc.length:=by rw[g2.sl];omega
     have p:v<((cv B).sc.length:Int):=by rw[g2.sl];omega
     obtain⟨z,hz⟩:∃z,(cv B).sc[v.toNat]=z:=⟨_,rfl⟩;have Z:=g2.rng z (by rw[←hz];exact RK o);have G:¬1000000000000<z:=by omega
     simp[a,au,o,p,k,hz,G];rw[RI hx]at w;rw[w]
  .rw[RH c5]at N;simp[c5];rw[←N];generalize d9 q v by'=B at*
   refine av.intro (S:=λ(x:Nat)=>⟨[(0,.pv (.ptr b 0)),(1,.pv (ae v))],h.set b (au (if x=0 then B else cv B))⟩) (λx=>x=0∨x=1∧1000000000000<f+by') (λx=>1 -x) 0 ?_ (.inl rfl) ?_
   .exact af.keep (by simp) (by simp)
   .have l:v.toNat<B.sc.length:=by rw[d.sl];omega
    have m:v<(B.sc.length:Int):=by rw[d.sl];omega
    have C:B.sc[v.toNat]=f+by':=by rw[←A];exact mO l
    rintro x (rfl|⟨rfl,hx⟩)
    .have s:=qA (h.set b (au B)) b B (gg a _) (by rw[d.sl];omega) (by rw[d.pll];exact d.inr) (by rw[d.pll,d.sl]) (by have:=d.few;omega) (by rw[d.sl];omega);simp only[au]at s;simp[a,au,l,m,k,C];refine⟨λc=>?_,λc=>?_⟩
     .refine aj.intro s ?_;rintro _ _ ⟨rfl,rfl⟩;simp;exact⟨1,by dsimp only;omega,.inr ⟨rfl,c⟩,af.keep (by simp) (by simp[au])⟩
     .rw[RH (Vq.2 c)]at w;rw[w]
    .obtain⟨g2,p2,s2⟩:=lF d (by omega) (by omega);have o:v.toNat<(cv B).sc.length:=by rw[g2.sl];omega
     have p:v<((cv B).sc.length:Int):=by rw[g2.sl];omega
     obtain⟨z,hz⟩:∃z,(cv B).sc[v.toNat]=z:=⟨_,rfl⟩;have Z:=g2.rng z (by rw[←hz];exact RK o);have G:¬1000000000000<z:=by omega
     simp[a,au,o,p,k,hz,G];rw[RI hx]at w;rw[w]
end Go.AX
namespace Go.AX
set_option maxRecDepth 16000
open Go.Proofs
set_option linter.unusedSimpArgs false
theorem F1(rows:List (List Int))(k:FuncId)(cap:List PV)(p:List Int->Bool)(m:rows.length<=140737488355328)(d:∀r,eI r cap=cap)(b:∀n,bO n cap)(hp:jG cap=false)(f:∀x∈rows,am Tryz.prog k (.seq false 1 (aa x)::cap) (λr=>r=.pv (BL (p x)))):
 am Tryz.prog 202 [.seq false 1 (rows.map an),.fn (.func k) [] cap] (λr=>r=.pv (ae (iH p rows))):=by
 refine aq aE Tryz.func202 ?_;simp;refine av.intro (S:=λ(i:Nat)=>⟨[(0,.pv (.seq false 1 (rows.map an))),(1,.pv (.fn (.func k) [] cap)),(7,.pv (ae rows.length)),(8,.pv (ae i))],[]⟩) (λi=>i<=rows.length∧∀j (hj:j<rows.length),j<i->p rows[j]=false) (λi=>rows.length -i) 0 ?_ ?_ ?_
 .exact af.to (by simp) (by simp) (by simp) (by simp[b]) (by simp)
 .exact⟨by omega,λj hj h=>by omega⟩
 .intro i ⟨hi,ho⟩
  by_cases h:i<rows.length
  .have l:=dq i;have a:=f rows[i] (RK h);simp[h,hp,d,an];refine ai.intro a ?_;simp;refine⟨λc=>by rw[f9 h ho c],λc=>⟨i+1,by dsimp only;omega,⟨by omega,λj hj g=>?_⟩,af.to ?_ (by simp) (by simp) (by simp[b]) (by simp)⟩⟩
   .by_cases e:j=i
    .subst e;exact c
    .exact ho j hj (by omega)
   .simp[l,an]
  .simp[h];rw[ed (λj hj=>ho j hj (by omega))]
theorem F2(l:Int):(cQ l).1=ah l∧(ah l≠0->(cQ l).2=decide (0<l)):=by
 unfold cQ ah dr
 by_cases c:cF l=true
 .obtain⟨h1,a,b⟩:=(aY l).1 c;rw[RI c]
  by_cases d:l<0
  .rw[RH (by omega),RI ⟨d,a⟩,RI d];exact⟨rfl,λ_=>(TB (by omega)).symm⟩
  .rw[RI ⟨by omega,b⟩,RH d];exact⟨rfl,λ_=>(Tk (by omega)).symm⟩
 .have hn:¬(l≠0∧-100000<=l∧l<=100000):=λh=>c ((aY l).2 h);rw[RH c,RH (by omega),RH (by omega)];exact⟨rfl,λh=>absurd rfl h⟩
theorem F3(l:Int)(m:List Bool):am Tryz.prog 264 [ae l,.iptr 1 [[.seq false 1 (cM m)]] 0 0] (λr=>r=.pv (BL (gY m l))):=by
 refine aq aE Tryz.func264 ?_;simp;refine ai.intro (aJ l) ?_;obtain⟨e,f⟩:=F2 l;have hin:=vS l;unfold gY;rw[e]at hin⊢;generalize ah l=v at*;obtain⟨n,rfl⟩:=Te hin.1;rcases Uf n with h0|h0
 .subst h0;simp
 obtain⟨k,rfl⟩:∃k,n=k+1:=⟨n -1,by omega⟩;rw[f (by omega)];have c:aR (k:Int)=(k:Int):=ap (by omega) (by omega);have d:¬(k:Int)+1=0:=by omega
 have b:(0:Int)<(k:Int)+1:=by omega
 by_cases hk:k<m.length
 .have hle:(k:Int)+1<=(m.length:Int):=by omega
  have a:k+1<=m.length:=by omega
  simp[d,hk,hle,a,c,b]
 .have hle:¬(k:Int)+1<=(m.length:Int):=by omega
  have a:¬k+1<=m.length:=by omega
  simp[d,hk,hle,a,c,b]
theorem F4(c:List Int)(m:List Bool)(a:c.length<=1000000):am Tryz.prog 203 [.seq false 1 (aa c),.iptr 1 [[.fn (.func 264) [] [.iptr 1 [[.seq false 1 (cM m)]] 0 0]]] 0 0] (λr=>r=.pv (BL (!cO c m))):=by
 refine aq aE Tryz.func203 ?_;simp;refine ai.intro (ga c a 264 [.iptr 1 [[.seq false 1 (cM m)]] 0 0] (gY m) (by simp) (by simp) (by simp) (λx _=>F3 x m)) ?_;simp[cO]
theorem F5(m:List Bool)(h:List (List SV)):aB Tryz.prog 201 [.seq false 1 (cM m)] h (λr h'=>r=.pv (.fn (.func 264) [] [.ptr h.length 0])∧h'=h++[[.pv (.seq false 1 (cM m))]]):=by
 refine nC aE Tryz.func201 ?_;simp
theorem JT(v:Int)(L:List (List Int))(m:List Bool)(b:L.length<=140737488355328)(d:∀x∈L,x.length<=1000000):am Tryz.prog 121 [.agg [ae v,.seq false 1 (L.map an)],.seq false 1 (cM m)] (λr=>r=.pv (ae (jL L m))):=by
 refine aq aE Tryz.func121 ?_;simp;refine ai.introM (F5 m _) ?_;rintro _ _ ⟨rfl,rfl⟩;simp;have a:bG [[.pv (ae v),.pv (.seq false 1 (L.map an))],[.pv (.seq false 1 (cM m))],[.pv (.fn (.func 264) [] [.ptr 1 0])]] 3 2 0=.iptr 1 [[.fn (.func 264) [] [.iptr 1 [[.seq false 1 (cM m)]] 0 0]]] 0 0:=by simp[bG]
 rw[a];refine⟨rfl,ai.intro (F1 L 203 [.iptr 1 [[.fn (.func 264) [] [.iptr 1 [[.seq false 1 (cM m)]] 0 0]]] 0 0] (λc=>!cO c m) b (by simp) (by simp) (by simp) (λx hx=>F4 x m (d x hx))) ?_⟩;simp[jL]
theorem JU(v:Int)(L:List (List Int))(m:List Bool)(b:L.length<=140737488355328)(d:∀x∈L,x.length<=1000000):am Tryz.prog 59 [.agg [ae v,.seq false 1 (L.map an)],.seq false 1 (cM m)] (λr=>r=.pv (BL (decide ((m.length:Int)=v)&&decide (∀c∈L,cO c m=true)))):=by
 refine aq aE Tryz.func59 ?_;have a:=JT v L m b d;have hn:=tV L m;simp;refine aH.intro (λ_=>a) ?_;simp[hn]
end Go.AX