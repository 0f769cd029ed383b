/-
  Contracts: slices.Compact of numbers.
  Contracts: heaps.
  Contracts: heaps are put in order.
  Contracts: heaps: down.
  Contracts: heaps: order, halving, and all that is done with one.
  The plain law of heaps: what stays so, whatever is done.
  Contracts: whether a formula holds (package cnf).
-/
import Derived.Test.YtepodadinenmnaaGreatS14AxRfA
import Derived.Test.YtepodadinenmnaaGreatS14AxEvC
import Derived.Test.YtepodadinenmnaaGreatAxIs
import Derived.Test.YtepodadinenmnaaGreatS14AxHpP
import Derived.Test.YtepodadinenmnaaGreatS14AxMovR
namespace Go.AX
open Go.Proofs
set_option linter.unusedSimpArgs false
def aQ(zs:List Int):Nat->List Int
 |0=>[]
 |j+1=>if j=0∨zs.getD j 0≠zs.getD (j -1) 0 then aQ zs j++[zs.getD j 0]else aQ zs j
def cT(zs:List Int):List Int:=aQ zs zs.length
theorem mT(zs:List Int):∀j,(aQ zs j).length<=j
 |0=>Oc _
 |j+1=>by
  have:=mT zs j;rw[aQ];split
  .rw[Oi,Po];omega
  .omega
theorem qI(zs:List Int):∀j,0<j->0<(aQ zs j).length
 |0,h=>by omega
 |1,_=>by rw[aQ,N9 (.inl rfl)];simp
 |j+2,_=>by
  have:=qI zs (j+1) (by omega);rw[aQ];split
  .rw[Oi];omega
  .exact this
def IR(zs:List Int)(k:Option Nat)(rows:List (List PV)):Prop:=k=some (cT zs).length∧rows=az (cT zs++List.replicate (zs.length -(cT zs).length) 0)
theorem qJ(zs:List Int)(W:zs.length<=1000000):tV Tryz.prog 140 1 (az zs) [] (IR zs):=by
 refine tV.ofInts (by kernel_rfl) trivial trivial (λz pre a cp P R=>?_) (λQ q cp=>?_)
 .refine mo aG Tryz.func140 ?_
  by_cases c2:zs.length<2
  .have r:(zs.length:Int)<2:=by omega
   simp[c2,r];have h1:zs.length=1:=by
    have:=PF.2 z;omega
   have G:cT zs=zs:=by
    unfold cT;rw[h1,aQ,N9 (.inl rfl),aQ,OL]
    match zs,h1 with
    |[x],_=>rfl
   exact⟨some zs.length,zs,⟨by rw[G],by rw[G];simp⟩,rfl,λm w=>by cases w;exact Oc _,rfl,rfl⟩
  have r:¬(zs.length:Int)<2:=by omega
  simp[c2,r];refine aJ.intro (S:=λ(k:Nat)=>⟨[(0,.pv (.bsl 0 1 pre.length zs.length cp)),(3,.pv (ae k))],[blk pre zs a]⟩) (λk=>1<=k∧k<=zs.length∧aQ zs k=zs.take k) (λk=>zs.length -k) 1 ?_ ⟨Oc _,by omega,?_⟩ ?_
  .exact ai.to (by simp) rfl (by simp) (by simp) (by simp[eM])
  .rw[aQ,N9 (.inl rfl),aQ,OL]
   match zs,z with
   |x::l,_=>rfl
  .rintro k ⟨h1,G,u⟩;have e:=dZ pre zs a
   by_cases ck:k<zs.length
   .have T:=fQ k;have I:a8 ((k:Int) -1)=((k -1:Nat):Int):=by rw[ap (by omega) (by omega)];omega
    have g:=jD pre zs a (i:=k) ck;have o:=jD pre zs a (i:=k -1) (by omega);have E:zs.getD k 0=zs[k]:=by simp[ck]
    have F:zs.getD (k -1) 0=zs[k -1]:=by simp[show k -1<zs.length by omega]
    have f:aQ zs (k+1)=if zs[k]≠zs[k -1]then aQ zs k++[zs[k]]else aQ zs k:=by
     rw[aQ,E,F]
     by_cases d:zs[k]≠zs[k -1]
     .rw[N9 (.inr d),N9 d]
     .rw[N8 (λh=>h.elim (by omega) d),N8 d]
    simp[ck,I,g,o,e];refine⟨by omega,by omega,by omega,λd=>⟨⟨by omega,by omega⟩,?_⟩,λd=>⟨k+1,by(try dsimp only);omega,⟨by omega,by omega,?_⟩,ai.to (by simp[T]) rfl (by simp) (by simp) (by simp[eM])⟩⟩;rotate_left
    .rw[f,N9 d,u,Pj,N6 ck];rfl
    rw[N8 (λh=>h d),u]at f;refine aJ.intro (S:=λ(y:Nat×List Int)=>⟨[(0,.pv (.bsl 0 1 pre.length zs.length cp)),(3,.pv (ae ((aQ zs (k+y.1)).length:Nat))),(4,.pv (.bsl 0 1 (pre.length+k) (zs.length -k) (cp -k))),(5,.pv (ae y.1))],[blk pre y.2 a]⟩)
     (λy=>1<=y.1∧k+y.1<=zs.length∧(aQ zs (k+y.1)).length<k+y.1∧y.2.length=zs.length∧y.2.take (aQ zs (k+y.1)).length=aQ zs (k+y.1)∧y.2.drop (k+y.1 -1)=zs.drop (k+y.1 -1)) (λy=>zs.length -y.1) (1,zs) ?_ ?_ ?_
    .refine ai.to ?_ rfl (by simp) (by simp) (by simp[eM]);have:(aQ zs (k+1)).length=k:=by rw[f,Oe];omega
     simp[this]
    .have:(aQ zs (k+1)).length=k:=by rw[f,Oe];omega
     refine⟨Oc _,by dsimp only;omega,by dsimp only;omega,rfl,?_,rfl⟩;dsimp only;rw[this,f]
    .rintro⟨j,b⟩ ⟨U,V,i3,K,B,C⟩;dsimp only at U V i3 K B C;have e:=dZ pre b a
     by_cases L:k+j<zs.length
     .have N:(j:Int)<((zs.length -k:Nat):Int):=by omega
      have H:a8 ((j:Int) -1)=((j -1:Nat):Int):=by rw[ap (by omega) (by omega)];omega
      have v:=fQ j;have p:∀i (h:i<zs.length),k+j -1<=i->b[i]'(by omega)=zs[i]:=by
       intro i h hi;have:=QH (λl=>l[i -(k+j -1)]?) C;simp only[Pp]at this;rw[show k+j -1+(i -(k+j -1))=i by omega,N6 (by omega),N6 h]at this;exact QT this
      have g:=jD pre b a (i:=k+j) (by omega);have o:=jD pre b a (i:=k+(j -1)) (by omega);rw[p (k+j) L (by omega),←Qd]at g;have O:b[k+(j -1)]'(by omega)=zs[k+(j -1)]:=p _ (by omega) (by omega);rw[O,←Qd]at o;have E:zs.getD (k+j) 0=zs[k+j]:=by simp[L]
      have F:zs.getD (k+j -1) 0=zs[k+(j -1)]:=by
       have:k+j -1=k+(j -1):=by omega
       rw[this];simp[show k+(j -1)<zs.length by omega]
      have c:aQ zs (k+(j+1))=if zs[k+j]≠zs[k+(j -1)]then aQ zs (k+j)++[zs[k+j]]else aQ zs (k+j):=by
       rw[←Qd,aQ,E,F]
       by_cases d:zs[k+j]≠zs[k+(j -1)]
       .rw[N9 (.inr d),N9 d]
       .rw[N8 (λh=>h.elim (by omega) d),N8 d]
      have s:j<zs.length -k:=by omega
      have D:j -1<zs.length -k:=by omega
      simp[s,D,H,g,o,e];refine⟨by omega,by omega,λd=>?_,λd=>?_⟩
      .rw[N9 d]at c;have J:=fQ ((aQ zs (k+j)).length);have A:=un pre b a (i:=(aQ zs (k+j)).length) zs[k+j] (by omega);refine⟨by omega,by omega,by omega,(j+1,b.set (aQ zs (k+j)).length zs[k+j]),by(try dsimp only);omega,⟨by(try dsimp only);omega,by(try dsimp only);omega,?_,by(try dsimp only);rw[OE];exact K,?_,?_⟩,ai.to (by simp[v,J,c]) (by simp[A]) (by simp) (by simp) (by simp[eM])⟩
       .dsimp only;rw[c,Oi,Po];omega
       .dsimp only;rw[c,Oi,Po,Pj,R5 (Oc _),B,O4 (by omega)];rfl
       .dsimp only;rw[Rr (by omega)];have:=QH (List.drop 1) C;rw[Pv,Pv]at this
        rwa [show k+j -1+1=k+(j+1) -1 by omega]at this
      .rw[N8 (λh=>h d)]at c;exact⟨(j+1,b),by(try dsimp only);omega,⟨by(try dsimp only);omega,by(try dsimp only);omega,by(try dsimp only);rw[c];omega,K,by(try dsimp only);rw[c];exact B,by
        dsimp only;have:=QH (List.drop 1) C;rw[Pv,Pv]at this
        rwa [show k+j -1+1=k+(j+1) -1 by omega]at this⟩,ai.to (by simp[v,c]) rfl (by simp) (by simp) (by simp[eM])⟩
     .have hj:k+j=zs.length:=by omega
      have s:¬j<zs.length -k:=by omega
      rw[hj]at i3 B;have M:=qI zs zs.length (by omega);have t:=qF pre b a (i:=(aQ zs zs.length).length) (n:=zs.length -(aQ zs zs.length).length) 0 (by omega);simp[s,hj,e];refine⟨⟨by omega,by omega⟩,by omega,by omega,⟨by omega,by omega⟩,some (cT zs).length,cT zs++List.replicate (zs.length -(cT zs).length) 0,⟨rfl,rfl⟩,?_,λm w=>?_,rfl,?_⟩
      .unfold cT;simp;omega
      .cases w;unfold cT;omega
      .unfold cT;rw[t,B,OK (by omega),Pt]
   .have:k=zs.length:=by omega
    subst this;simp;rw[OT]at u;exact⟨some zs.length,zs,⟨by unfold cT;rw[u],by unfold cT;rw[u];simp⟩,rfl,λm w=>by cases w;exact Oc _,rfl,rfl⟩
 .subst Q;refine ax aG Tryz.func140 ?_;simp;exact⟨some 0,⟨rfl,rfl⟩,.inr rfl,rfl⟩
theorem fi{P:Program}{fn:Func}(a:fn.results=#[]) (tmps:Array Value) (w:World):(results fn tmps).run P w=.ok (.tuple (([]:List Nat).map λt=>tmps.getD t undef).toArray) w:=by
 simp[results,a]
structure HS where
  sc:List Int
  row:List Int
  pl:List Int
def ao(q:HS):List SV:=[.own true 1 (af q.sc),.own true 1 (af q.row),.own true 1 (af q.pl)]
def dU(q:HS):List PV:=[.seq false 1 (af q.sc),.seq false 1 (af q.row),.seq false 1 (af q.pl)]
theorem g8(l:List Int)(i:Nat)(x:Int):(af l).set i [ae x]=af (l.set i x):=by simp[af,SC]
theorem pV(q:HS)(a:0<q.sc.length):an Tryz.prog 174 [.iptr 3 [dU q] 0 0] (λr=>r=.pv (BL true)):=by
 refine ax aG Tryz.func174 ?_;simp[dU,a]
def rv(q:HS)(v:Int):Bool:=decide (1<=v)&&decide (v<q.sc.length)
theorem Ff(q:HS)(a:0<q.sc.length)(v:Int):an Tryz.prog 212 [.iptr 3 [dU q] 0 0,ae v] (λr=>r=.pv (BL (rv q v))):=by
 refine ax aG Tryz.func212 ?_;have h1:=pV q a;simp only[dU]at h1;simp[dU];refine aj.intro h1 ?_;simp[rv]
def Hu(q:HS)(v:Int):Int:=if rv q v then 0 else 10
theorem AP(q:HS)(b:0<q.sc.length)(v:Int):an Tryz.prog 209 [.iptr 3 [dU q] 0 0,ae v] (λr=>r=.pv (ae (Hu q v))):=by
 refine ax aG Tryz.func209 ?_;have h1:=pV q b;have a:=Ff q b v;simp only[dU]at h1 a;simp[dU];refine aj.intro h1 ?_;simp;refine aj.intro a ?_;simp[Hu]
theorem uR(q:HS)(e:0<q.sc.length)(d:q.pl.length=q.sc.length)(v:Int):an Tryz.prog 132 [.iptr 3 [dU q] 0 0,ae v] (λr=>r=.pv (BL (rv q v&&decide (0<=q.pl.getD v.toNat 0)))):=by
 refine ax aG Tryz.func132 ?_;have a:=Ff q e v;simp only[dU]at a;simp[dU];refine aj.intro a ?_
 by_cases c:rv q v=true
 .have c2:=c;simp only[rv,Og,Ov]at c2;have b:v.toNat<q.pl.length:=by omega
  simp[c,b];omega
 .simp[c]
theorem AR(q:HS)(a:0<q.sc.length):an Tryz.prog 100 [.iptr 3 [dU q] 0 0] (λr=>r=.pv (ae q.row.length)):=by
 refine ax aG Tryz.func100 ?_;have h1:=pV q a;simp only[dU]at h1;simp[dU];refine aj.intro h1 ?_;simp
def bP(q:HS):Int:=q.row.getD 0 0
theorem Fg(q:HS)(a:0<q.sc.length):an Tryz.prog 175 [.iptr 3 [dU q] 0 0] (λr=>r=.pv (ae (bP q))):=by
 refine ax aG Tryz.func175 ?_;have h1:=AR q a;simp only[dU]at h1;simp[dU];refine aj.intro h1 ?_;simp[bP];cases b:q.row with
 |nil=>simp
 |cons x xs=>simp
theorem rx(q:HS)(v w:Nat)(a:v<q.sc.length)(b:w<q.sc.length):an Tryz.prog 251 [.iptr 3 [dU q] 0 0,ae v,ae w] (λr=>r=.pv (BL (jd q.sc v w))):=by
 refine ax aG Tryz.func251 ?_;simp[dU,a,b,jd];constructor
 .intro c;simp[c]
 .intro c;simp[c]
theorem pW(h:List (List SV))(b:Nat)(q:HS)(d:h[b]?=some (ao q))(i v:Nat)(hi:i<q.row.length)(e:v<q.pl.length):
 aB Tryz.prog 176 [.ptr b 0,ae i,ae v] h (λr h'=>r=.pv (.tup [])∧h'=h.set b (ao ⟨q.sc,q.row.set i v,q.pl.set v i⟩)):=by
 refine sJ [] aG Tryz.func176 (λ_ _=>fi rfl _ _) ?_;obtain⟨c,a⟩:=N5.1 d;simp[a,c,ao,hi,e,g8]
theorem gi{h:List (List SV)}{b:Nat}{x:List SV}(a:h[b]?=some x):h.set b x=h:=by
 apply Px;intro i;rw[OD];split
 .rename_i e;subst e;rw[N9 (N5.1 a).1,a]
 .rfl
theorem nW{h:List (List SV)}{b:Nat}(a:b<h.length)(q:HS)(n:Nat):br (h.set b (ao q)) (n+1) b 0=.iptr 3 [dU q] 0 0:=by
 simp[br,a,ao,dU,frzC]
theorem fN{h:List (List SV)}{b:Nat}{q:HS}(d:h[b]?=some (ao q))(n:Nat):br h (n+1) b 0=.iptr 3 [dU q] 0 0:=by
 obtain⟨c,a⟩:=N5.1 d;simp[br,c,a,ao,dU,frzC]
theorem fj{h:List (List SV)}{b:Nat}(a:b<h.length)(x:List SV):(h.set b x)[b]?=some x:=by simp[a]
set_option maxRecDepth 16000 in
theorem Fh(h:List (List SV))(b:Nat)(q:HS)(F:h[b]?=some (ao q))(i:Nat)(hi:i<q.row.length)(hin:rO q.row q.pl.length)(O:q.pl.length=q.sc.length)(hs:q.row.length<=1000000):
 aB Tryz.prog 210 [.ptr b 0,ae i] h (λr h'=>r=.pv (.tup [])∧h'=h.set b (ao ⟨q.sc,(pg q.sc (q.row.getD i 0) i q.row q.pl).1,(pg q.sc (q.row.getD i 0) i q.row q.pl).2⟩)):=by
 refine sJ [] aG Tryz.func210 (λ_ _=>fi rfl _ _) ?_;obtain⟨a,y⟩:=N5.1 F;have M:=hin (q.row.getD i 0) (aU hi);obtain⟨v,B⟩:=Pn (show 0<=q.row.getD i 0 by omega);have f:q.row.getD i 0=(v:Int):=B;have C:q.row[i]=(v:Int):=by rw[←f];simp[hi]
 rw[f]at M⊢;have N:v<q.pl.length:=by omega
 simp[y,a,ao,hi,C];refine aJ.intro (S:=λ(x:Nat×List Int×List Int)=>⟨[(0,.pv (.ptr b 0)),(1,.pv (ae x.1)),(4,.pv (.fn (.func 251) [.ptr b 0] [])),(5,.pv (ae v))],h.set b (ao ⟨q.sc,x.2.1,x.2.2⟩)⟩)
  (λx=>x.1<x.2.1.length∧x.2.1.length=q.row.length∧x.2.2.length=q.pl.length∧rO x.2.1 q.pl.length∧pg q.sc v x.1 x.2.1 x.2.2=pg q.sc v i q.row q.pl) (λx=>x.1) (i,q.row,q.pl) ?_ ?_ ?_
 .exact ai.keep (by simp) (gi F).symm
 .exact⟨hi,rfl,rfl,hin,rfl⟩
 .rintro⟨j,row,pl⟩ ⟨t,H,I,E,w⟩;dsimp only at t H I E w;rcases Qn j with h0|h0
  .subst h0;have A:0<row.length:=t;simp[a,ao];refine am.intro (pW _ b ⟨q.sc,row,pl⟩ (fj a _) 0 v A (by dsimp only;omega)) ?_;rintro _ _ ⟨rfl,rfl⟩;rw[←w];unfold pg;simp[ao]
  .obtain⟨k,rfl⟩:∃k,j=k+1:=⟨j -1,by omega⟩;obtain⟨p,hp,K⟩:∃p:Nat,Int.tdiv (k:Int) 2=(p:Int)∧p=k/2:=⟨k/2,rfl,rfl⟩;have D:a8 ((k:Nat):Int)=(k:Int):=ap (by omega) (by omega);have g:a8 ((p:Nat):Int)=(p:Int):=ap (by omega) (by omega);have d:p<row.length:=by omega
   have G:=E (row.getD p 0) (aU d);obtain⟨u,L⟩:=Pn (show 0<=row.getD p 0 by omega);have n:row.getD p 0=(u:Int):=L;have o:row[p]=(u:Int):=by rw[←n];simp[d]
   have z:=rx ⟨q.sc,row,pl⟩ v u (by dsimp only;omega) (by dsimp only;omega);simp[a,ao,D,hp,g,d,o];rw[←ao.eq_1 ⟨q.sc,row,pl⟩,nW a];refine am.introP z ?_;rw[ao.eq_1 ⟨q.sc,row,pl⟩];have m:=pW (h.set b (ao ⟨q.sc,row,pl⟩)) b ⟨q.sc,row,pl⟩ (fj a _) (k+1) v t (by dsimp only;omega);have e:=pW (h.set b (ao ⟨q.sc,row,pl⟩)) b ⟨q.sc,row,pl⟩ (fj a _) (k+1) u t (by dsimp only;omega)
   push_cast at m e
   have s:pg q.sc v (k+1) row pl=if jd q.sc v u=true then pg q.sc v p (row.set (k+1) u) (pl.set u (k+1:Nat))else(row.set (k+1) v,pl.set v (k+1:Nat)):=by
    rw[pg];have J:(k+1 -1)/2=p:=by omega
    simp only[J,n]
    by_cases c:jd q.sc v u=true
    .rw[dif_pos ⟨by omega,c⟩,N9 c];rfl
    .rw[dif_neg (λh=>c h.2),N8 c];rfl
   cases l:jd q.sc v u with
   |false=>
    simp[a,ao];refine am.intro m ?_;rintro _ _ ⟨rfl,rfl⟩;rw[←w,s,l];simp[ao]
   |true=>
    simp[a,ao,D,hp,g,d,o];refine am.intro e ?_;rintro _ _ ⟨rfl,rfl⟩;simp[D,hp,g];refine⟨(p,row.set (k+1) u,pl.set u (k+1:Nat)),by dsimp only;omega,⟨by dsimp only;simp;omega,by simpa using H,by simpa using I,?_,?_⟩,ai.keep ?_ ?_⟩
    .intro x hx;rcases PY hx with hx|hx
     .exact E x hx
     .omega
    .rw[←w,s,l];rfl
    .simp
    .simp[ao]
theorem pi(q:HS)(v w:Int)(e:0<=v∧v<q.sc.length)(f:0<=w∧w<q.sc.length):an Tryz.prog 251 [.iptr 3 [dU q] 0 0,ae v,ae w] (λr=>r=.pv (BL (jd q.sc v w))):=by
 obtain⟨a,b⟩:=Pn e.1;obtain⟨c,d⟩:=Pn f.1;have:=rx q a c (by omega) (by omega);rw[b,d];exact this
theorem wP(h:List (List SV))(b:Nat)(q:HS)(d:h[b]?=some (ao q))(i:Nat)(v:Int)(hi:i<q.row.length)(e:0<=v∧v<q.pl.length):
 aB Tryz.prog 176 [.ptr b 0,ae i,ae v] h (λr h'=>r=.pv (.tup [])∧h'=h.set b (ao ⟨q.sc,q.row.set i v,q.pl.set v.toNat i⟩)):=by
 obtain⟨a,c⟩:=Pn e.1;have:=pW h b q d i a hi (by omega);rw[c];exact this
def Fi(sc row:List Int)(v:Int)(i:Nat):Int×Nat:=if 2*i+1<row.length∧jd sc (row.getD (2*i+1) 0) v=true then(row.getD (2*i+1) 0,2*i+1)else(v,i)
def AS(sc row:List Int)(v:Int)(i:Nat):Nat->Int×Nat
 |0=>(v,i)
 |1=>Fi sc row v i
 |_=>eu sc row v i
theorem Hv(sc row:List Int)(v:Int)(i:Nat):eu sc row v i=if 2*i+2<row.length∧jd sc (row.getD (2*i+2) 0) (Fi sc row v i).1=true then(row.getD (2*i+2) 0,2*i+2)else Fi sc row v i:=rfl
theorem Fj{sc row:List Int}{v:Int}{i n:Nat}(hin:rO row n)(a:1<=v∧v<n)(hi:i<row.length):1<=(Fi sc row v i).1∧(Fi sc row v i).1<n∧(Fi sc row v i).2<row.length:=by
 unfold Fi;split
 .rename_i c;have:=hin _ (aU c.1);exact⟨this.1,this.2,c.1⟩
 .exact⟨a.1,a.2,hi⟩
theorem wQ{sc row:List Int}{v:Int}{i n:Nat}(hin:rO row n)(a:1<=v∧v<n)(hi:i<row.length):1<=(eu sc row v i).1∧(eu sc row v i).1<n∧(eu sc row v i).2<row.length:=by
 rw[Hv];split
 .rename_i c;have:=hin _ (aU c.1);exact⟨this.1,this.2,c.1⟩
 .exact Fj hin a hi
set_option maxRecDepth 16000 in
theorem wR(h:List (List SV))(b:Nat)(q:HS)(N:h[b]?=some (ao q))(i:Nat)(hi:i<q.row.length)(hin:rO q.row q.pl.length)(Y:q.pl.length=q.sc.length)(hs:q.row.length<=1000000):
 aB Tryz.prog 177 [.ptr b 0,ae i] h (λr h'=>r=.pv (.tup [])∧h'=h.set b (ao ⟨q.sc,(dR q.sc (q.row.getD i 0) q.row.length i q.row q.pl).1,(dR q.sc (q.row.getD i 0) q.row.length i q.row q.pl).2⟩)):=by
 refine sJ [] aG Tryz.func177 (λ_ _=>fi rfl _ _) ?_;obtain⟨d,E⟩:=N5.1 N;have O:=hin (q.row.getD i 0) (aU hi);have J:q.row[i]=q.row.getD i 0:=by simp[hi]
 generalize V:q.row.getD i 0=v at*;simp[E,d,ao,hi,J];refine aJ.intro (S:=λ(x:Nat×Nat×List Int×List Int)=>⟨[(0,.pv (.ptr b 0)),(1,.pv (ae x.2.1)),(4,.pv (ae v))],h.set b (ao ⟨q.sc,x.2.2.1,x.2.2.2⟩)⟩)
  (λx=>x.2.1<x.2.2.1.length∧x.2.2.1.length=q.row.length∧x.2.2.2.length=q.pl.length∧rO x.2.2.1 q.pl.length∧x.2.2.1.length<=x.2.1+x.1∧dR q.sc v x.1 x.2.1 x.2.2.1 x.2.2.2=dR q.sc v q.row.length i q.row q.pl) (λx=>x.1) (q.row.length,i,q.row,q.pl) ?_ ?_ ?_
 .exact ai.keep (by simp) (gi N).symm
 .exact⟨hi,rfl,rfl,hin,by dsimp only;omega,rfl⟩
 .rintro⟨n,j,row,pl⟩ ⟨D,P,Q,y,W,w⟩;dsimp only at D P Q y W w;have K:a8 (2*(j:Int))=2*(j:Int):=ap (by omega) (by omega);have o:a8 1=1:=ap (by omega) (by omega);have p:a8 2=2:=ap (by omega) (by omega);obtain⟨c1,F⟩:∃c,c=2*j+1:=⟨_,rfl⟩;obtain⟨c2,G⟩:∃c,c=2*j+2:=⟨_,rfl⟩;have L:a8 (2*(j:Int)+1)=(c1:Int):=by rw[ap (by omega) (by omega)];omega
  have M:a8 (2*(j:Int)+2)=(c2:Int):=by rw[ap (by omega) (by omega)];omega
  have z:=Fj (sc:=q.sc) (i:=j) y O D;have A:=wQ (sc:=q.sc) (i:=j) y O D;have B:Fi q.sc row v j=if c1<row.length∧jd q.sc (row.getD c1 0) v=true then(row.getD c1 0,c1)else(v,j):=by rw[F];rfl
  have C:eu q.sc row v j=if c2<row.length∧jd q.sc (row.getD c2 0) (Fi q.sc row v j).1=true then(row.getD c2 0,c2)else Fi q.sc row v j:=by rw[G];rfl
  simp[K,L,M];refine aJ.intro (S:=λ(t:Nat)=>⟨[(0,.pv (.ptr b 0)),(1,.pv (ae j)),(4,.pv (ae v)),(5,.pv (ae (AS q.sc row v j t).1)),(6,.pv (ae (AS q.sc row v j t).2)),(24,.pv (.agg [ae c1,ae c2])),(25,.pv (ae t))],h.set b (ao ⟨q.sc,row,pl⟩)⟩)
   (λt=>t<=2) (λt=>2 -t) 0 ?_ ?_ ?_
  .exact ai.keep (by simp[AS]) rfl
  .omega
  .intro t ht;have:t=0∨t=1∨t=2:=by omega
   rcases this with rfl|rfl|rfl
   .by_cases a:c1<row.length
    .have H:=y _ (aU a);have m:row[c1]=row.getD c1 0:=by simp[a]
     generalize U:row.getD c1 0=u at*;have s:=pi ⟨q.sc,row,pl⟩ u v (by dsimp only;omega) (by dsimp only;omega);simp[d,ao,AS,a,m];rw[←ao.eq_1 ⟨q.sc,row,pl⟩,nW d];refine am.introP s ?_;rw[ao.eq_1 ⟨q.sc,row,pl⟩];cases l:jd q.sc u v with
     |false=>
      simp;refine⟨1,by dsimp only;omega,by dsimp only;omega,ai.keep ?_ (by simp[ao])⟩;simp[o,AS,B,l]
     |true=>
      simp[d,a,m];refine⟨1,by dsimp only;omega,by dsimp only;omega,ai.keep ?_ (by simp[ao])⟩;simp[o,AS,B,l,a]
    .simp[d,ao,AS,a];refine⟨1,by dsimp only;omega,by dsimp only;omega,ai.keep ?_ (by simp[ao])⟩;simp[o,AS,B,a]
   .generalize g:Fi q.sc row v j=be at*;obtain⟨f,at'⟩:=be;dsimp only at z
    by_cases a:c2<row.length
    .have H:=y _ (aU a);have m:row[c2]=row.getD c2 0:=by simp[a]
     generalize U:row.getD c2 0=u at*;have s:=pi ⟨q.sc,row,pl⟩ u f (by dsimp only;omega) (by dsimp only;omega);simp[d,ao,AS,a,m,g];rw[←ao.eq_1 ⟨q.sc,row,pl⟩,nW d];refine am.introP s ?_;rw[ao.eq_1 ⟨q.sc,row,pl⟩];cases l:jd q.sc u f with
     |false=>
      simp;refine⟨2,by dsimp only;omega,by dsimp only;omega,ai.keep ?_ (by simp[ao])⟩;simp[p,AS,C,l]
     |true=>
      simp[d,a,m];refine⟨2,by dsimp only;omega,by dsimp only;omega,ai.keep ?_ (by simp[ao])⟩;simp[p,AS,C,l,a]
    .simp[d,ao,AS,a,g];refine⟨2,by dsimp only;omega,by dsimp only;omega,ai.keep ?_ (by simp[ao])⟩;simp[p,AS,C,a]
   .have hn:n≠0:=by omega
    obtain⟨n,rfl⟩:∃k,n=k+1:=⟨n -1,by omega⟩;rw[dR]at w;clear B C z;generalize g:eu q.sc row v j=be at*;obtain⟨f,at'⟩:=be;dsimp only at A w;have I:=wP (h.set b (ao ⟨q.sc,row,pl⟩)) b ⟨q.sc,row,pl⟩ (fj d _) j f D (by dsimp only;omega);simp[d,ao,AS,g];refine am.intro I ?_;rintro _ _ ⟨rfl,rfl⟩
    by_cases c:at'=j
    .rw[N9 c]at w;simp[c,←w,ao]
    .rw[N8 c]at w;have c':¬(at':Int)=(j:Int):=by omega
     simp[c,c',d,ao,A,g8];have T:j<at':=by
      rcases wO (sc:=q.sc) (row:=row) (v:=v) (i:=j)with⟨e,_⟩|⟨X,e,_,_,R,_⟩
      .rw[g]at e;simp only[Py]at e;omega
      .rw[g]at e;simp only[Py]at e;omega
     refine⟨(n,at',(row.set j f).set at' v,pl.set f.toNat j),by dsimp only;omega,⟨?_,?_,?_,?_,?_,w⟩,ai.keep ?_ ?_⟩
     .dsimp only;simp only[OE];omega
     .simpa using P
     .simpa using Q
     .intro x hx;rcases PY hx with hx|hx
      .rcases PY hx with hx|hx
       .exact y x hx
       .omega
      .omega
     .dsimp only;simp only[OE];omega
     .simp
     .simp[ao]
end Go.AX
namespace Go.AX
set_option maxRecDepth 16000
open Go.Proofs
set_option linter.unusedSimpArgs false
theorem tq{sc:List Int}{v:Int}:∀(n i:Nat)(row pl:List Int),(dR sc v n i row pl).1.length=row.length∧(dR sc v n i row pl).2.length=pl.length
 |0,i,row,pl=>by simp[dR]
 |n+1,i,row,pl=>by
  rw[dR];split
  .simp
  .obtain⟨h1,a⟩:=tq (sc:=sc) (v:=v) n (eu sc row v i).2 ((row.set i (eu sc row v i).1).set (eu sc row v i).2 v) (pl.set (eu sc row v i).1.toNat i);rw[h1,a];simp
theorem pX{row:List Int}{n i:Nat}{x:Int}(h:rO row n)(hx:1<=x∧x<n):rO (row.set i x) n:=by
 intro y hy;rcases PY hy with hy|hy
 .exact h y hy
 .subst hy;exact hx
theorem wS{sc:List Int}{v:Int}{m:Nat}(a:1<=v∧v<m):∀(n i:Nat)(row pl:List Int),i<row.length->rO row m->rO (dR sc v n i row pl).1 m
 |0,i,row,pl,hi,h=>pX h a
 |n+1,i,row,pl,hi,h=>by
  have hp:=wQ (sc:=sc) (i:=i) h a hi;rw[dR];split
  .exact pX h ⟨hp.1,hp.2.1⟩
  .exact wS a n _ _ _ (by simp only[OE];exact hp.2.2) (pX (pX h ⟨hp.1,hp.2.1⟩) a)
def ia(sc:List Int):Nat->List Int->List Int->List Int×List Int
 |0,row,pl=>(row,pl)
 |k+1,row,pl=>ia sc k (dR sc (row.getD k 0) row.length k row pl).1 (dR sc (row.getD k 0) row.length k row pl).2
theorem Cc(h:List (List SV))(b:Nat)(q:HS)(o:h[b]?=some (ao q))(hin:rO q.row q.pl.length)(A:q.pl.length=q.sc.length)(hs:q.row.length<=1000000):
 aB Tryz.prog 248 [.ptr b 0] h (λr h'=>r=.pv (.tup [])∧h'=h.set b (ao ⟨q.sc,(ia q.sc (q.row.length/2) q.row q.pl).1,(ia q.sc (q.row.length/2) q.row q.pl).2⟩)):=by
 refine sJ [] aG Tryz.func248 (λ_ _=>fi rfl _ _) ?_;obtain⟨a,g⟩:=N5.1 o;obtain⟨m,u,j⟩:∃p:Nat,Int.tdiv (q.row.length:Int) 2=(p:Int)∧p=q.row.length/2:=⟨q.row.length/2,rfl,rfl⟩;have w:a8 (m:Int)=(m:Int):=ap (by omega) (by omega);have l:a8 ((m:Int) -1)=(m:Int) -1:=ap (by omega) (by omega);rw[←j];simp[g,a,ao,u,w,l];refine aJ.intro (S:=λ(x:Nat×List Int×List Int)=>⟨[(0,.pv (.ptr b 0)),(2,.pv (ae ((x.1:Int) -1)))],h.set b (ao ⟨q.sc,x.2.1,x.2.2⟩)⟩)
  (λx=>x.1<=x.2.1.length∧x.2.1.length=q.row.length∧x.2.2.length=q.pl.length∧rO x.2.1 q.pl.length∧ia q.sc x.1 x.2.1 x.2.2=ia q.sc m q.row q.pl) (λx=>x.1) (m,q.row,q.pl) ?_ ?_ ?_
 .exact ai.keep (by simp) (gi o).symm
 .exact⟨by dsimp only;omega,rfl,rfl,hin,rfl⟩
 .rintro⟨k,row,pl⟩ ⟨y,z,t,e,f⟩;dsimp only at y z t e f;rcases Qn k with h0|h0
  .subst h0;rw[←f];simp[a,ao,ia]
  .obtain⟨k,rfl⟩:∃i,k=i+1:=⟨k -1,by omega⟩;have n:a8 ((k:Int) -1)=(k:Int) -1:=ap (by omega) (by omega);have c:=wR (h.set b (ao ⟨q.sc,row,pl⟩)) b ⟨q.sc,row,pl⟩ (fj a _) k (by dsimp only;omega) (by dsimp only;rw[t];exact e) (by dsimp only;omega) (by dsimp only;omega);have s:=tq (sc:=q.sc) (v:=row.getD k 0) row.length k row pl;have d:=wS (sc:=q.sc) (e _ (aU (show k<row.length by omega))) row.length k row pl (by omega) e;rw[ia]at f;simp only[ao]at c;simp[a,ao];refine am.intro c ?_;rintro _ _ ⟨rfl,rfl⟩;simp[n];refine⟨(k,_,_),by dsimp only;omega,⟨?_,?_,?_,d,f⟩,ai.keep ?_ ?_⟩
   .dsimp only;omega
   .dsimp only;omega
   .dsimp only;omega
   .simp
   .simp[ao]
def half(x:Int):Int:=a8 (Int.tdiv x 2)
def gr(l:List Int)(i:Nat):List Int:=(l.take i).map half++l.drop i
theorem yX(l:List Int)(i:Nat):(gr l i).length=l.length:=by
 simp only[gr,Oi,Oj,Oe,OO];omega
theorem yY{l:List Int}{i:Nat}(h:i<l.length):(gr l i)[i]?=some l[i]:=by
 have a:((l.take i).map half).length=i:=by simp;omega
 rw[gr,Ot (by omega),a,P5,Pp];simp[h]
theorem wT{l:List Int}{i:Nat}(h:i<l.length):(gr l i).set i (half l[i])=gr l (i+1):=by
 have a:((l.take i).map half).length=i:=by simp;omega
 unfold gr;rw[QL _ _ (by omega),a,P5,PH h,O0 h,OJ,Rz,OG];rfl
def b6(q:HS):HS:=⟨q.sc.map half,(ia (q.sc.map half) (q.row.length/2) q.row q.pl).1,(ia (q.sc.map half) (q.row.length/2) q.row q.pl).2⟩
theorem oQ(h:List (List SV))(b:Nat)(q:HS)(k:h[b]?=some (ao q))(o:0<q.sc.length)(hin:rO q.row q.pl.length)(n:q.pl.length=q.sc.length)(hs:q.row.length<=1000000)(p:q.sc.length<=1000000):
 aB Tryz.prog 169 [.ptr b 0] h (λr h'=>r=.pv (.tup [])∧h'=h.set b (ao (b6 q))):=by
 refine sJ [] aG Tryz.func169 (λ_ _=>fi rfl _ _) ?_;obtain⟨a,l⟩:=N5.1 k;have h1:=pV q o;simp;rw[fN k];refine am.introP h1 ?_;simp[l,a,ao];refine aJ.intro (S:=λ(i:Nat)=>⟨[(0,.pv (.ptr b 0)),(10,.pv (ae q.sc.length)),(11,.pv (ae i))],h.set b (ao ⟨gr q.sc i,q.row,q.pl⟩)⟩)
  (λi=>i<=q.sc.length) (λi=>q.sc.length -i) 0 ?_ ?_ ?_
 .exact ai.keep (by simp) (by simp[gr,gi k])
 .omega
 .intro i hi
  by_cases c:i<q.sc.length
  .have s:=fQ i;have g:=yX q.sc i;have e:=yY c;have d:(gr q.sc i)[i]'(by omega)=q.sc[i]:=by
    have:=N5.1 e;exact this.2
   have j:=wT c;unfold half at j;simp[a,ao,c,g,d,g8];refine⟨i+1,by dsimp only;omega,by dsimp only;omega,ai.keep ?_ ?_⟩
   .simp[s]
   .simp[ao,j]
  .have:i=q.sc.length:=by omega
   subst this;have f:=Cc (h.set b (ao ⟨q.sc.map half,q.row,q.pl⟩)) b ⟨q.sc.map half,q.row,q.pl⟩ (fj a _) hin (by simpa using n) hs;have m:gr q.sc q.sc.length=q.sc.map half:=by simp[gr]
   simp only[ao]at f;simp[a,ao,m];refine am.intro f ?_;rintro _ _ ⟨rfl,rfl⟩;simp[b6]
end Go.AX
namespace Go.AX
def d7(q:HS)(v by':Int):HS×Int:=
 if rv q v=false then(q,10)else if by'<0∨1000000000000<by' then(q,2)else
  let a:=q.sc.set v.toNat (q.sc.getD v.toNat 0+by')
  let b:HS:=if 0<=q.pl.getD v.toNat 0 then⟨a,(pg a (q.row.getD (q.pl.getD v.toNat 0).toNat 0) (q.pl.getD v.toNat 0).toNat q.row q.pl).1,(pg a (q.row.getD (q.pl.getD v.toNat 0).toNat 0) (q.pl.getD v.toNat 0).toNat q.row q.pl).2⟩else⟨a,q.row,q.pl⟩
  (if 1000000000000<b.sc.getD v.toNat 0 then b6 b else b,0)
def dV(q:HS)(v:Int):HS×Int:=
 if rv q v=false then(q,10)else if 0<=q.pl.getD v.toNat 0 then(q,21)else
  (⟨q.sc,(pg q.sc v q.row.length (q.row++[v]) q.pl).1,(pg q.sc v q.row.length (q.row++[v]) q.pl).2⟩,0)
def eh(q:HS):HS×Int:=
 if bP q=0 then(q,0)else
  let w:=q.row.getD (q.row.length -1) 0
  let a:=(q.row.set 0 w).take (q.row.length -1)
  let b:=(q.pl.set w.toNat 0).set (bP q).toNat (-1)
  (if 0<q.row.length -1 then⟨q.sc,(dR q.sc (a.getD 0 0) a.length 0 a b).1,(dR q.sc (a.getD 0 0) a.length 0 a b).2⟩else⟨q.sc,a,b⟩,bP q)
def ma(n:Nat):HS:=⟨List.replicate (n+1) 0,(List.range n).map λi=>((i+1:Nat):Int),0::(List.range n).map λi=>((i:Nat):Int)⟩
structure HpG (n:Nat) (M:Int) (q:HS):Prop where
  sl:q.sc.length=n+1
  pll:q.pl.length=n+1
  nd:q.row.Nodup
  inr:rO q.row (n+1)
  plc:PL q.row q.pl
  out:∀u:Nat,1<=u->u<=n->¬(u:Int)∈q.row->q.pl.getD u 0=-1
  ho:HO q.sc q.row 0
  rng:∀x∈q.sc,0<=x∧x<=M
namespace HpG
variable {n : Nat} {M : Int} {q : HS}
theorem few(g:HpG n M q):q.row.length<=n:=by
 have := cX q.row ((List.range n).map λ i => ((i + 1 : Nat) : Int)) g.nd (λ x hx => by
  have:=g.inr x hx;rw[Of];exact⟨(x -1).toNat,Pg.2 (by omega),by omega⟩)
 simpa using this
theorem isV_iff(g:HpG n M q){v:Int}:rv q v=true↔1<=v∧v<=n:=by
 simp only[rv,Og,Ov,g.sl];omega
theorem place(g:HpG n M q){v:Int}(h:v∈q.row):∃i,i<q.row.length∧q.row.getD i 0=v∧q.pl.getD v.toNat 0=(i:Int):=by
 obtain⟨i,hi,e⟩:=Fd h;exact⟨i,hi,e,by have:=g.plc i hi;rwa [e]at this⟩
theorem has_iff(g:HpG n M q){v:Int}(a:1<=v∧v<=n):0<=q.pl.getD v.toNat 0↔v∈q.row:=by
 constructor
 .intro h;apply OF;intro hn;have:=g.out v.toNat (by omega) (by omega) (by rwa [show((v.toNat:Nat):Int)=v by omega]);omega
 .intro h;obtain⟨i,_,_,e⟩:=g.place h;rw[e];omega
theorem score(g:HpG n M q)(v:Nat):0<=q.sc.getD v 0∧(0<=M->q.sc.getD v 0<=M):=by
 by_cases h:v<q.sc.length
 .have:=g.rng _ (aU h);exact⟨this.1,λ_=>this.2⟩
 .have:q.sc.getD v 0=0:=by simp[N7,h]
  rw[this];exact⟨by omega,λh=>h⟩
theorem first(g:HpG n M q):∀j,j<q.row.length->jd q.sc (q.row.getD j 0) (q.row.getD 0 0)=false:=by
 intro j
 induction j using Nat.strongRecOn with
 |_ j a=>
  intro hj;rcases Qn j with h0|h0
  .subst h0;exact l3 _ _
  .exact gZ (g.ho j h0 hj (Oz _)) (a ((j -1)/2) (by omega) (by omega))
theorem peek_zero(g:HpG n M q):bP q=0↔q.row=[]:=by
 constructor
 .intro h;cases a:q.row with
  |nil=>rfl
  |cons x xs=>
   have:=g.inr x (by rw[a];simp);simp only[bP,a,PR]at h;omega
 .intro h;simp[bP,h]
theorem peek_mem(g:HpG n M q)(h:bP q≠0):bP q∈q.row:=by
 cases a:q.row with
 |nil=>exact absurd (g.peek_zero.2 a) h
 |cons x xs=>simp[bP,a]
end HpG
theorem tt{sc:List Int}:∀(k:Nat)(row pl:List Int),k<=row.length->row.Nodup->rO row pl.length->PL row pl->HO sc row k->DnOk sc row pl 0 (ia sc k row pl)
 |0,row,pl,_,_,_,hp,ho=>⟨Q5 _,ho,hp,λ_ _=>rfl,rfl⟩
 |k+1,row,pl,hk,a,hin,hp,ho=>by
  have d:=ru (sc:=sc) (v:=row.getD k 0) (k:=k) row.length k row pl (by omega) (by omega) (Oc _) rfl a hin (λj hj _=>hp j hj)
   (λj b hj e g=>ho j b hj (by omega)) (λj _ _ _ h1 i=>by omega)
  have f:=d.perm.length_eq;have r:=tt k _ _ (by rw[f];omega) (d.perm.nodup_iff.2 a) (by rw[d.len];exactλx hx=>hin x (d.perm.mem_iff.1 hx)) d.plc d.ho;exact⟨r.perm.trans d.perm,r.ho,r.plc,λu c=>by rw[ia,r.out u (λh=>c (d.perm.mem_iff.1 h)),d.out u c],r.len.trans d.len⟩
theorem Hw{x:Int}(h:0<=x)(a:x<=4000000000000):half x=x/2:=by
 unfold half;have:Int.tdiv x 2=x/2:=Rb h;rw[this,ap (by omega) (by omega)]
theorem jO{n:Nat}{M:Int}{q:HS}(g:HpG n (2*M) q)(h0:0<=M)(i:M<=1000000000000):HpG n M (b6 q)∧(b6 q).row.Perm q.row∧(b6 q).sc=q.sc.map (·/2):=by
 have b:q.sc.map half=q.sc.map (·/2):=Q1 λx hx=>by have:=g.rng x hx;exact Hw this.1 (by omega)
 have a:=tt (sc:=q.sc.map half) (q.row.length/2) q.row q.pl (by omega) g.nd (by rw[g.pll];exact g.inr) g.plc (λj h1 d f=>by omega);refine⟨⟨by simp[b6,g.sl],by simp only[b6];rw[a.len,g.pll],a.perm.nodup_iff.2 g.nd,λx hx=>g.inr x (a.perm.mem_iff.1 hx),a.plc,λu h1 d e=>?_,a.ho,λx hx=>?_⟩,a.perm,b⟩
 .have c:¬(u:Int)∈q.row:=λh=>e (a.perm.mem_iff.2 h);rw[show(b6 q).pl.getD u 0=_ from a.out u c];exact g.out u h1 d c
 .simp only[b6,b,Of]at hx;obtain⟨y,hy,rfl⟩:=hx;have:=g.rng y hy;omega
theorem HpG.mono{n:Nat}{M a:Int}{q:HS}(g:HpG n M q)(h:M<=a):HpG n a q:=⟨g.sl,g.pll,g.nd,g.inr,g.plc,g.out,g.ho,λx hx=>by have:=g.rng x hx;omega⟩
theorem Fk{l:List Int}{i:Nat}:l.set i (l.getD i 0)=l:=by
 apply Qw
 .simp
 .intro j b a;rw[Su];split
  .rename_i e;subst e;simp[N7,a]
  .rfl
def dF(q:HS)(v by':Int):HS:=
 if 0<=q.pl.getD v.toNat 0 then⟨q.sc.set v.toNat (q.sc.getD v.toNat 0+by'),(pg (q.sc.set v.toNat (q.sc.getD v.toNat 0+by')) (q.row.getD (q.pl.getD v.toNat 0).toNat 0) (q.pl.getD v.toNat 0).toNat q.row q.pl).1,(pg (q.sc.set v.toNat (q.sc.getD v.toNat 0+by')) (q.row.getD (q.pl.getD v.toNat 0).toNat 0) (q.pl.getD v.toNat 0).toNat q.row q.pl).2⟩else⟨q.sc.set v.toNat (q.sc.getD v.toNat 0+by'),q.row,q.pl⟩
theorem ry{n:Nat}{q:HS}(g:HpG n 1000000000000 q){v by':Int}(H:1<=v∧v<=n)(c2:¬(by'<0∨1000000000000<by')):
 HpG n (2*1000000000000) (dF q v by')∧(dF q v by').row.Perm q.row∧(dF q v by').sc=q.sc.set v.toNat (q.sc.getD v.toNat 0+by')∧(dF q v by').sc.getD v.toNat 0=q.sc.getD v.toNat 0+by':=by
 have E:v.toNat<q.sc.length:=by rw[g.sl];omega
 have N:=g.score v.toNat;have d:∀u:Nat,(q.sc.set v.toNat (q.sc.getD v.toNat 0+by')).getD u 0=if u=v.toNat then q.sc.getD v.toNat 0+by' else q.sc.getD u 0:=λu=>by
  rw[aT]
  by_cases e:u=v.toNat
  .rw[N9 ⟨e.symm,E⟩,N9 e]
  .rw[N8 (λh=>e h.1.symm),N8 e]
 have o:∀x∈q.sc.set v.toNat (q.sc.getD v.toNat 0+by'),0<=x∧x<=2*1000000000000:=λx hx=>by
  rcases PY hx with hx|hx
  .have:=g.rng x hx;omega
  .omega
 generalize r:q.sc.set v.toNat (q.sc.getD v.toNat 0+by')=c at*;have s:c.length=n+1:=by rw[←r,OE,g.sl]
 have key:∀w:HS,w=(if 0<=q.pl.getD v.toNat 0 then⟨c,(pg c (q.row.getD (q.pl.getD v.toNat 0).toNat 0) (q.pl.getD v.toNat 0).toNat q.row q.pl).1,(pg c (q.row.getD (q.pl.getD v.toNat 0).toNat 0) (q.pl.getD v.toNat 0).toNat q.row q.pl).2⟩else⟨c,q.row,q.pl⟩)->
  HpG n (2*1000000000000) w∧w.row.Perm q.row∧w.sc=c:=by
  intro w l
  by_cases c3:0<=q.pl.getD v.toNat 0
  .rw[N9 c3]at l;obtain⟨i,hi,m,A⟩:=g.place ((g.has_iff H).1 c3);rw[A,Pe,m]at l;have b:q.row.set i v=q.row:=by rw[←m];exact Fk
   have C:∀j,j<q.row.length->j≠i->q.row.getD j 0≠v:=λj hj k e=>k (dC g.nd hj hi (by rw[e,m]));have a:∀j,j<q.row.length->j≠i->c.getD (q.row.getD j 0).toNat 0=q.sc.getD (q.row.getD j 0).toNat 0:=λj hj k=>by
    have h1:=g.inr _ (aU hj);have p:=C j hj k;rw[d,N8 (by omega)]
   have D:=Fe (sc:=c) (v:=v) i q.row q.pl hi (by rw[b];exact g.nd) (by rw[b,g.pll];exact g.inr) (by rw[b];exactλj hj _=>g.plc j hj)
    (λ j f hj k => by
     rw[b];have h1:=g.ho j f hj (Oz _);have p:=a j hj k
     by_cases e:(j -1)/2=i
     .rw[e,m]at h1⊢;rw[gh]at h1⊢;rw[p,d,N9 rfl];omega
     .have L:=a ((j -1)/2) (by omega) e;rw[gh]at h1⊢;rw[p,L];exact h1)
    (λ j f hj B z => by
     rw[b];have h1:=g.ho j f hj (Oz _);have M:=g.ho i z hi (Oz _);rw[B]at h1;have G:=gZ h1 M;rw[gh]at G⊢;rw[a j hj (by omega),a ((i -1)/2) (by omega) (by omega)];exact G)
   obtain⟨y,Q,R,J,S⟩:=D;rw[b]at y J;subst l;exact⟨⟨s,by dsimp only;rw[S,g.pll],y.nodup_iff.2 g.nd,λx hx=>g.inr x (y.mem_iff.1 hx),R,λu h1 p O=>by
    have t:¬(u:Int)∈q.row:=λh=>O (y.mem_iff.2 h);dsimp only;rw[J u t];exact g.out u h1 p t,Q,o⟩,y,rfl⟩
  .rw[N8 c3]at l;subst l;have F:¬v∈q.row:=λh=>c3 ((g.has_iff H).2 h);refine⟨⟨s,g.pll,g.nd,g.inr,g.plc,g.out,λj f hj hk=>?_,o⟩,Q5 _,rfl⟩;have h1:=g.ho j f hj (Oz _);have a:∀j,j<q.row.length->c.getD (q.row.getD j 0).toNat 0=q.sc.getD (q.row.getD j 0).toNat 0:=λj hj=>by
    have h1:=g.inr _ (aU hj);have p:q.row.getD j 0≠v:=λe=>F (by rw[←e];exact aU hj);rw[d,N8 (by omega)]
   rw[gh]at h1⊢;dsimp only at hj⊢;rw[a j hj,a ((j -1)/2) (by omega)];exact h1
 obtain⟨K,P,I⟩:=key (dF q v by') (by rw[←r];rfl);exact⟨K,P,I,by rw[I,d,N9 rfl]⟩
theorem tu{n:Nat}{q:HS}(g:HpG n 1000000000000 q)(v by':Int):HpG n 1000000000000 (d7 q v by').1∧(d7 q v by').1.row.Perm q.row∧
 ((d7 q v by').2=0->(d7 q v by').1.sc=(let s:=q.sc.set v.toNat (q.sc.getD v.toNat 0+by');if 1000000000000<q.sc.getD v.toNat 0+by' then s.map (·/2)else s))∧((d7 q v by').2≠0->(d7 q v by').1=q):=by
 unfold d7
 by_cases c1:rv q v=false
 .rw[N9 c1];exact⟨g,Q5 _,λh=>absurd h (by simp),λ_=>rfl⟩
 rw[N8 c1]
 by_cases c2:by'<0∨1000000000000<by'
 .rw[N9 c2];exact⟨g,Q5 _,λh=>absurd h (by simp),λ_=>rfl⟩
 rw[N8 c2];have f:=g.isV_iff.1 (by simpa using c1);obtain⟨a,d,c,b⟩:=ry g f c2
 change HpG n 1000000000000 ((if 1000000000000<(dF q v by').sc.getD v.toNat 0 then b6 (dF q v by')else dF q v by',(0:Int))).1∧((if 1000000000000<(dF q v by').sc.getD v.toNat 0 then b6 (dF q v by')else dF q v by',(0:Int))).1.row.Perm q.row∧(_->((if 1000000000000<(dF q v by').sc.getD v.toNat 0 then b6 (dF q v by')else dF q v by',(0:Int))).1.sc=_)∧(¬(0:Int)=0->_)
 generalize dF q v by'=k at*
 rw[b];dsimp only
 by_cases c4:1000000000000<q.sc.getD v.toNat 0+by'
 .rw[N9 c4,N9 c4];obtain⟨g2,i,j⟩:=jO a (by omega) (by omega);exact⟨g2,i.trans d,λ_=>by rw[j,c],λh=>absurd rfl h⟩
 .rw[N8 c4,N8 c4];refine⟨⟨a.sl,a.pll,a.nd,a.inr,a.plc,a.out,a.ho,λx hx=>?_⟩,d,λ_=>c,λh=>absurd rfl h⟩;rw[c]at hx;have e:=g.score v.toNat;rcases PY hx with hx|hx
  .exact g.rng x hx
  .omega
theorem wU{n:Nat}{M:Int}{q:HS}(g:HpG n M q)(v:Int):HpG n M (dV q v).1∧(dV q v).1.sc=q.sc∧((dV q v).2=0->(dV q v).1.row.Perm (q.row++[v]))∧((dV q v).2≠0->(dV q v).1=q):=by
 unfold dV
 by_cases c1:rv q v=false
 .rw[N9 c1];exact⟨g,rfl,λh=>absurd h (by simp),λ_=>rfl⟩
 rw[N8 c1]
 by_cases c2:0<=q.pl.getD v.toNat 0
 .rw[N9 c2];exact⟨g,rfl,λh=>absurd h (by simp),λ_=>rfl⟩
 rw[N8 c2];have B:=g.isV_iff.1 (by simpa using c1);have p:¬v∈q.row:=λh=>c2 ((g.has_iff B).2 h);have c:(q.row++[v]).set q.row.length v=q.row++[v]:=by simp
 have i:(q.row++[v]).Nodup:=by
  rw[QW];exact⟨g.nd,by simp,λa w b r=>by simp at r;subst r;exactλe=>p (e▸w)⟩
 have d:∀j,j<q.row.length->(q.row++[v]).getD j 0=q.row.getD j 0:=λj hj=>by
  rw[N7,Oa hj,←N7]
 have hin:rO (q.row++[v]) (n+1):=λx hx=>by
  rcases Om.1 hx with hx|hx
  .exact g.inr x hx
  .simp at hx;omega
 have o:=Fe (sc:=q.sc) (v:=v) q.row.length (q.row++[v]) q.pl (by simp) (by rw[c];exact i) (by rw[c,g.pll];exact hin)
  (by
   rw[c];intro j hj k;simp only[Oi,OC,List.length_nil]at hj
   by_cases e:j=q.row.length
   .subst e;exact absurd (by simp[N7]) k
   .rw[d j (by omega)];exact g.plc j (by omega))
  (λ j f hj k => by
   rw[c];simp only[Oi,OC,List.length_nil]at hj;rw[d j (by omega),d _ (by omega)];exact g.ho j f (by omega) (Oz _))
  (λj f hj z y=>by simp only[Oi,OC,List.length_nil]at hj;omega)
 obtain⟨m,C,D,s,E⟩:=o;rw[c]at m s;refine⟨⟨g.sl,by dsimp only;rw[E,g.pll],m.nodup_iff.2 i,λx hx=>hin x (m.mem_iff.1 hx),D,λu h1 t A=>?_,C,g.rng⟩,rfl,λ_=>m,λh=>absurd rfl h⟩;have l:¬(u:Int)∈q.row++[v]:=λh=>A (m.mem_iff.2 h);dsimp only;rw[s u l];exact g.out u h1 t (λh=>l (Pc _ h))
theorem Cd{n:Nat}{M:Int}{q:HS}(g:HpG n M q):HpG n M (eh q).1∧(eh q).1.sc=q.sc∧(eh q).2=bP q∧(bP q≠0->q.row.Perm (bP q::(eh q).1.row))∧(bP q=0->(eh q).1=q):=by
  unfold eh
  by_cases c1:bP q=0
  · rw[N9 c1];exact⟨g,rfl,c1.symm,λh=>absurd c1 h,λ_=>rfl⟩
  rw[N8 c1]
  have r:q.row≠[]:=λh=>c1 (g.peek_zero.2 h)
  have T:0<q.row.length:=PF.2 r
  obtain⟨L,D⟩:∃L,q.row.length=L+1:=⟨q.row.length -1,by omega⟩
  have I:=g.peek_mem c1
  have H:q.row.getD 0 0=bP q:=rfl
  simp only[D,Q7]
  generalize N:q.row.getD L 0=w
  have B:w∈q.row:=by rw[←N];exact aU (by omega)
  have W:=g.inr w B
  have U:=g.inr _ I
  -- what is left
  have a:q.row.Perm (bP q::(q.row.set 0 w).take L):=by
    have h1:q.row=(q.row.take L)++[w]:=by
      rw[←N]
      apply Qw
      · simp;omega
      · intro j R a2
        rw[List.getElem_append]
        split
        · simp
        · rename_i hj
          simp only[Oe]at hj
          have:j=L:=by omega
          subst this
          simp[N7,R]
    rcases Qn L with h0|h0
    · subst h0
      cases s:q.row with
      |nil=>exact absurd s r
      |cons x xs=>
        have hx:xs=[]:=by rw[s]at D;simpa using D
        subst hx
        simp[bP,s]
    · cases s:q.row with
      |nil=>exact absurd s r
      |cons x xs=>
        obtain⟨K,rfl⟩:∃K,L=K+1:=⟨L -1,by omega⟩
        rw[s]at h1
        simp only[Rt,OU,Ql,true_and]at h1
        have hx:bP q=x:=by simp[bP,s]
        simp only[Rz,Rt,hx]
        refine List.Perm.cons _ ?_
        conv=>lhs;rw[h1]
        exact List.perm_append_comm
  have G:((q.row.set 0 w).take L).length=L:=by simp[D]
  have b:=(a.nodup_iff.1 g.nd)
  rw[PC]at b
  have l:∀x,x∈(q.row.set 0 w).take L↔x∈q.row∧x≠bP q:=λx=>by
    constructor
    · intro hx
      exact⟨a.mem_iff.2 (Ou _ hx),λe=>b.1 (e▸hx)⟩
    · rintro⟨h1,t⟩
      rcases OB.1 (a.mem_iff.1 h1)with F|F
      · exact absurd F t
      · exact F
  have i:rO ((q.row.set 0 w).take L) (n+1):=λx hx=>g.inr x ((l x).1 hx).1
  have d:∀j,0<j->j<L->((q.row.set 0 w).take L).getD j 0=q.row.getD j 0:=λj h0 hj=>by
    rw[N7,Qj hj,On (by omega),←N7]
  have m:∀u:Nat,1<=u->u<=n->¬(u:Int)∈(q.row.set 0 w).take L->((q.pl.set w.toNat 0).set (bP q).toNat (-1)).getD u 0=-1:=λu h1 t J=>by
    rw[aT,OE,g.pll]
    by_cases e:(u:Int)=bP q
    · rw[N9 ⟨by omega,by omega⟩]
    · rw[N8 (by omega)]
      have A:¬(u:Int)∈q.row:=λh=>J ((l u).2 ⟨h,e⟩)
      rw[aT,N8 (λh=>A (by rw[show(u:Int)=w by omega];exact B))]
      exact g.out u h1 t A
  generalize V:(q.row.set 0 w).take L=c at*
  generalize y:(q.pl.set w.toNat 0).set (bP q).toNat (-1)=C at*
  have f:C.length=n+1:=by rw[←y];simp[g.pll]
  by_cases c2:0<L
  · rw[N9 c2]
    have hd:=ru (sc:=q.sc) (v:=c.getD 0 0) (k:=0) c.length 0 c C (by omega) (by omega) (Oc _) rfl b.2 (by rw[f];exact i)
      (λ j hj p => by
        have o:0<j:=by
          rcases Qn j with h0|h0
          · subst h0;exact absurd rfl p
          · exact h0
        rw[d j o (by omega)]
        have h1:=g.inr _ (aU (show j<q.row.length by omega))
        have O:q.row.getD j 0≠bP q:=λe=>by have:=dC g.nd (show j<q.row.length by omega) T (by rw[e,H]);omega
        have P:q.row.getD j 0≠w:=λe=>by have:=dC g.nd (show j<q.row.length by omega) (show L<q.row.length by omega) (by rw[e,N]);omega
        rw[←y,aT,N8 (by omega),aT,N8 (by omega)]
        exact g.plc j (by omega))
      (λ j o hj _ p => by
        rw[d j o (by omega),d _ (by omega) (by omega)]
        exact g.ho j o (by omega) (Oz _))
      (λj _ _ _ h1 _=>by omega)
    obtain⟨E,X,Y,Z,u5⟩:=hd
    refine⟨⟨g.sl,by dsimp only;rw[u5,f],E.nodup_iff.2 b.2,λx hx=>i x (E.mem_iff.1 hx),Y,λu h1 t J=>?_,X,g.rng⟩,rfl,(by first|rfl|trivial),λ_=>a.trans (E.symm.cons _),λh=>absurd h c1⟩
    have z:¬(u:Int)∈c:=λh=>J (E.mem_iff.2 h)
    dsimp only
    rw[Z u z];exact m u h1 t z
  · rw[N8 c2]
    have S:L=0:=by omega
    have Q:c=[]:=PW (by omega)
    refine⟨⟨g.sl,f,b.2,i,λj hj=>?_,m,λj h0 hj=>?_,g.rng⟩,rfl,(by first|rfl|trivial),λ_=>a,λh=>absurd h c1⟩
    · dsimp only at hj;omega
    · dsimp only at hj;omega
theorem Fl(n:Nat):HpG n 1000000000000 (ma n):=by
 have a:∀j,j<n->((List.range n).map λi=>((i+1:Nat):Int)).getD j 0=((j+1:Nat):Int):=λj hj=>by simp[N7,hj]
 refine⟨by simp[ma],by simp[ma],?_,λx hx=>?_,λj hj=>?_,λu h1 f d=>?_,λj c hj _=>?_,λx hx=>?_⟩
 .simp only[ma];unfold List.Nodup;rw[OR];intro i j hi hj b e;simp at e;omega
 .simp only[ma,Of,Pg]at hx;obtain⟨i,hi,rfl⟩:=hx;omega
 .simp only[ma,Oj,Sm]at hj⊢;rw[a j hj,Pe,N7,P8];simp[hj]
 .exfalso;apply d;simp only[ma,Of,Pg];exact⟨u -1,by omega,by omega⟩
 .simp only[ma,Oj,Sm]at hj⊢;rw[a j hj,a _ (by omega),gh];right;refine⟨?_,by omega⟩;simp only[N7,Sp];rw[N9 (by omega),N9 (by omega)]
 .simp only[ma]at hx;have:=Qv hx;omega
end Go.AX
namespace Go.AX
set_option maxRecDepth 16000
open Go.Proofs
set_option linter.unusedSimpArgs false
theorem Cp(rows:List (List Int))(k:FuncId)(cap:List PV)(p:List Int->Bool)(m:rows.length<=140737488355328)(d:∀r,dY r cap=cap)(b:∀n,bR n cap)(hp:iH cap=false)(f:∀x∈rows,an Tryz.prog k (.seq false 1 (af x)::cap) (λr=>r=.pv (BL (p x)))):
 an Tryz.prog 202 [.seq false 1 (rows.map aK),.fn (.func k) [] cap] (λr=>r=.pv (ae (iV p rows))):=by
 refine ax aG Tryz.func202 ?_;simp;refine aJ.intro (S:=λ(i:Nat)=>⟨[(0,.pv (.seq false 1 (rows.map aK))),(1,.pv (.fn (.func k) [] cap)),(7,.pv (ae rows.length)),(8,.pv (ae i))],[]⟩) (λi=>i<=rows.length∧∀j (hj:j<rows.length),j<i->p rows[j]=false) (λi=>rows.length -i) 0 ?_ ?_ ?_
 .exact ai.to (by simp) (by simp) (by simp) (by simp[b]) (by simp)
 .exact⟨by omega,λj hj h=>by omega⟩
 .intro i ⟨hi,ho⟩
  by_cases h:i<rows.length
  .have l:=fQ i;have a:=f rows[i] (Od h);simp[h,hp,d,aK];refine aj.intro a ?_;simp;refine⟨λc=>by rw[fR h ho c],λc=>⟨i+1,by dsimp only;omega,⟨by omega,λj hj g=>?_⟩,ai.to ?_ (by simp) (by simp) (by simp[b]) (by simp)⟩⟩
   .by_cases e:j=i
    .subst e;exact c
    .exact ho j hj (by omega)
   .simp[l,aK]
  .simp[h];rw[d9 (λj hj=>ho j hj (by omega))]
theorem Cq(l:Int):(bT l).1=ab l∧(ab l≠0->(bT l).2=decide (0<l)):=by
 unfold bT ab eG
 by_cases c:da l=true
 .obtain⟨h1,a,b⟩:=(bk l).1 c;rw[N9 c]
  by_cases d:l<0
  .rw[N8 (by omega),N9 ⟨d,a⟩,N9 d];exact⟨rfl,λ_=>(PE (by omega)).symm⟩
  .rw[N9 ⟨by omega,b⟩,N8 d];exact⟨rfl,λ_=>(PG (by omega)).symm⟩
 .have hn:¬(l≠0∧-100000<=l∧l<=100000):=λh=>c ((bk l).2 h);rw[N8 c,N8 (by omega),N8 (by omega)];exact⟨rfl,λh=>absurd rfl h⟩
theorem Cr(l:Int)(m:List Bool):an Tryz.prog 264 [ae l,.iptr 1 [[.seq false 1 (cz m)]] 0 0] (λr=>r=.pv (BL (gp m l))):=by
 refine ax aG Tryz.func264 ?_;simp;refine aj.intro (aF l) ?_;obtain⟨e,f⟩:=Cq l;have hin:=te l;unfold gp;rw[e]at hin⊢;generalize ab l=v at*;obtain⟨n,rfl⟩:=Pn hin.1;rcases Qn n with h0|h0
 .subst h0;simp
 obtain⟨k,rfl⟩:∃k,n=k+1:=⟨n -1,by omega⟩;rw[f (by omega)];have c:a8 (k:Int)=(k:Int):=ap (by omega) (by omega);have d:¬(k:Int)+1=0:=by omega
 have b:(0:Int)<(k:Int)+1:=by omega
 by_cases hk:k<m.length
 .have hle:(k:Int)+1<=(m.length:Int):=by omega
  have a:k+1<=m.length:=by omega
  simp[d,hk,hle,a,c,b]
 .have hle:¬(k:Int)+1<=(m.length:Int):=by omega
  have a:¬k+1<=m.length:=by omega
  simp[d,hk,hle,a,c,b]
theorem Cs(c:List Int)(m:List Bool)(a:c.length<=1000000):an Tryz.prog 203 [.seq false 1 (af c),.iptr 1 [[.fn (.func 264) [] [.iptr 1 [[.seq false 1 (cz m)]] 0 0]]] 0 0] (λr=>r=.pv (BL (!b5 c m))):=by
 refine ax aG Tryz.func203 ?_;simp;refine aj.intro (fe c a 264 [.iptr 1 [[.seq false 1 (cz m)]] 0 0] (gp m) (by simp) (by simp) (by simp) (λx _=>Cr x m)) ?_;simp[b5]
theorem Ct(m:List Bool)(h:List (List SV)):aB Tryz.prog 201 [.seq false 1 (cz m)] h (λr h'=>r=.pv (.fn (.func 264) [] [.ptr h.length 0])∧h'=h++[[.pv (.seq false 1 (cz m))]]):=by
 refine mo aG Tryz.func201 ?_;simp
theorem FU(v:Int)(L:List (List Int))(m:List Bool)(b:L.length<=140737488355328)(d:∀x∈L,x.length<=1000000):an Tryz.prog 121 [.agg [ae v,.seq false 1 (L.map aK)],.seq false 1 (cz m)] (λr=>r=.pv (ae (gX L m))):=by
 refine ax aG Tryz.func121 ?_;simp;refine aj.introM (Ct m _) ?_;rintro _ _ ⟨rfl,rfl⟩;simp;have a:br [[.pv (ae v),.pv (.seq false 1 (L.map aK))],[.pv (.seq false 1 (cz m))],[.pv (.fn (.func 264) [] [.ptr 1 0])]] 3 2 0=.iptr 1 [[.fn (.func 264) [] [.iptr 1 [[.seq false 1 (cz m)]] 0 0]]] 0 0:=by simp[br]
 rw[a];refine⟨rfl,aj.intro (Cp L 203 [.iptr 1 [[.fn (.func 264) [] [.iptr 1 [[.seq false 1 (cz m)]] 0 0]]] 0 0] (λc=>!b5 c m) b (by simp) (by simp) (by simp) (λx hx=>Cs x m (d x hx))) ?_⟩;simp[gX]
theorem FV(v:Int)(L:List (List Int))(m:List Bool)(b:L.length<=140737488355328)(d:∀x∈L,x.length<=1000000):an Tryz.prog 59 [.agg [ae v,.seq false 1 (L.map aK)],.seq false 1 (cz m)] (λr=>r=.pv (BL (decide ((m.length:Int)=v)&&decide (∀c∈L,b5 c m=true)))):=by
 refine ax aG Tryz.func59 ?_;have a:=FU v L m b d;have hn:=jL L m;simp;refine bK.intro (λ_=>a) ?_;simp[hn]
end Go.AX