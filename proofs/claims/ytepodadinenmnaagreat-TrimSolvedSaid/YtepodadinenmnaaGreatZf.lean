/-
  Contracts: slices.Compact of numbers; and what follows.
-/
import Derived.Test.YtepodadinenmnaaGreatZc
import Derived.Test.YtepodadinenmnaaGreatZe
import Derived.Test.YtepodadinenmnaaGreatZd
set_option linter.unusedSimpArgs false
set_option maxRecDepth 16000
namespace Go.AX
open Go.Proofs
def bc(zs:af):Nat->af
 |0=>[]
 |j+1=>if j=0∨zs.getD j 0≠zs.getD (j -1) 0 then bc zs j++[zs.getD j 0]else bc zs j
def cY(zs:af):af:=bc zs zs.length
theorem iK(zs:af):∀j,(bc zs j).length<=j
 |0=>Vu _
 |j+1=>by
  have:=iK zs j;rw[bc];split;rw[Vz,Wi];omega;omega
theorem uZ(zs:af):∀j,0<j->0<(bc zs j).length
 |0,h=>by omega
 |1,_=>by rw[bc,Vt (.inl rfl)];simp
 |j+2,_=>by
  have:=uZ zs (j+1) (by omega);rw[bc];split;rw[Vz];omega;exact this
def Qy(zs:af)(k:Option Nat)(rows:aT):Prop:=k=some (cY zs).length∧rows=aU (cY zs++List.replicate (zs.length -(cY zs).length) 0)
theorem qk(zs:af)(W:zs.length<=1000000):qP Tryz.prog 140 1 (aU zs) [] (Qy zs):=by
 refine qP.ofInts (by kernel_rfl) trivial trivial (λz pre a cp P R=>?_) (λQ q cp=>?_);refine lg aP Tryz.func140 ?_;by_cases c2:zs.length<2;have r:(zs.length:Int)<2:=by omega
 simp[c2,r];have h1:zs.length=1:=by
  have:=WJ.2 z;omega
 have G:cY zs=zs:=by
  unfold cY;rw[h1,bc,Vt (.inl rfl),bc,V8]
  match zs,h1 with
  |[x],_=>rfl
 exact⟨some zs.length,zs,⟨by rw[G],by rw[G];simp⟩,rfl,λm w=>by cases w;exact Vu _,rfl,rfl⟩;have r:¬(zs.length:Int)<2:=by omega
 simp[c2,r];refine aM.intro (S:=λ(k:Nat)=>⟨[(0,.pv (.bsl 0 1 pre.length zs.length cp)),(3,.pv (ak k))],[blk pre zs a]⟩) (λk=>1<=k∧k<=zs.length∧bc zs k=zs.take k) (λk=>zs.length -k) 1 ?_ ⟨Vu _,by omega,?_⟩ ?_;exact av.to (by simp) rfl (by simp) (by simp) (by simp[gJ]);rw[bc,Vt (.inl rfl),bc,V8]
 match zs,z with
 |x::l,_=>rfl
 rintro k ⟨h1,G,u⟩;have e:=fN pre zs a;by_cases ck:k<zs.length
 .have T:=dU k;have I:bG ((k:Int) -1)=((k -1:Nat):Int):=by rw[aC (by omega) (by omega)];omega
  have g:=mM pre zs a (i:=k) ck;have o:=mM pre zs a (i:=k -1) (by omega);have E:zs.getD k 0=zs[k]:=by simp[ck]
  have F:zs.getD (k -1) 0=zs[k -1]:=by simp[show k -1<zs.length by omega]
  have f:bc zs (k+1)=if zs[k]≠zs[k -1]then bc zs k++[zs[k]]else bc zs k:=by
   rw[bc,E,F];by_cases d:zs[k]≠zs[k -1];rw[Vt (.inr d),Vt d];rw[Vs (λh=>h.elim (by omega) d),Vs d]
  simp[ck,I,g,o,e];refine⟨by omega,by omega,by omega,λd=>⟨⟨by omega,by omega⟩,?_⟩,λd=>⟨k+1,by(try dsimp only);omega,⟨by omega,by omega,?_⟩,av.to (by simp[T]) rfl (by simp) (by simp) (by simp[gJ])⟩⟩;rotate_left;rw[f,Vt d,u,Wj,Vq ck];rfl;rw[Vs (λh=>h d),u]at f;refine aM.intro (S:=λ(y:Nat×af)=>⟨[(0,.pv (.bsl 0 1 pre.length zs.length cp)),(3,.pv (ak ((bc zs (k+y.1)).length:Nat))),(4,.pv (.bsl 0 1 (pre.length+k) (zs.length -k) (cp -k))),(5,.pv (ak y.1))],[blk pre y.2 a]⟩)
   (λy=>1<=y.1∧k+y.1<=zs.length∧(bc zs (k+y.1)).length<k+y.1∧y.2.length=zs.length∧y.2.take (bc zs (k+y.1)).length=bc zs (k+y.1)∧y.2.drop (k+y.1 -1)=zs.drop (k+y.1 -1)) (λy=>zs.length -y.1) (1,zs) ?_ ?_ ?_
  refine av.to ?_ rfl (by simp) (by simp) (by simp[gJ]);have:(bc zs (k+1)).length=k:=by rw[f,Vy];omega
  simp[this];have:(bc zs (k+1)).length=k:=by rw[f,Vy];omega
  refine⟨Vu _,by dsimp only;omega,by dsimp only;omega,rfl,?_,rfl⟩;dsimp only;rw[this,f];rintro⟨j,b⟩ ⟨U,V,i3,K,B,C⟩;dsimp only at U V i3 K B C;have e:=fN pre b a;by_cases L:k+j<zs.length;have N:(j:Int)<((zs.length -k:Nat):Int):=by omega
  have H:bG ((j:Int) -1)=((j -1:Nat):Int):=by rw[aC (by omega) (by omega)];omega
  have v:=dU j;have p:∀i (h:i<zs.length),k+j -1<=i->b[i]'(by omega)=zs[i]:=by
   intro i h hi;have:=Xp (λl=>l[i -(k+j -1)]?) C;simp only[Wk]at this;rw[show k+j -1+(i -(k+j -1))=i by omega,Vq (by omega),Vq h]at this;exact Yb this
  have g:=mM pre b a (i:=k+j) (by omega);have o:=mM pre b a (i:=k+(j -1)) (by omega);rw[p (k+j) L (by omega),←Xf]at g;have O:b[k+(j -1)]'(by omega)=zs[k+(j -1)]:=p _ (by omega) (by omega);rw[O,←Xf]at o;have E:zs.getD (k+j) 0=zs[k+j]:=by simp[L]
  have F:zs.getD (k+j -1) 0=zs[k+(j -1)]:=by
   have:k+j -1=k+(j -1):=by omega
   rw[this];simp[show k+(j -1)<zs.length by omega]
  have c:bc zs (k+(j+1))=if zs[k+j]≠zs[k+(j -1)]then bc zs (k+j)++[zs[k+j]]else bc zs (k+j):=by
   rw[←Xf,bc,E,F];by_cases d:zs[k+j]≠zs[k+(j -1)];rw[Vt (.inr d),Vt d];rw[Vs (λh=>h.elim (by omega) d),Vs d]
  have s:j<zs.length -k:=by omega
  have D:j -1<zs.length -k:=by omega
  simp[s,D,H,g,o,e];refine⟨by omega,by omega,λd=>?_,λd=>?_⟩;rw[Vt d]at c;have J:=dU ((bc zs (k+j)).length);have A:=zC pre b a (i:=(bc zs (k+j)).length) zs[k+j] (by omega);refine⟨by omega,by omega,by omega,(j+1,b.set (bc zs (k+j)).length zs[k+j]),by(try dsimp only);omega,⟨by(try dsimp only);omega,by(try dsimp only);omega,?_,by(try dsimp only);rw[VQ];exact K,?_,?_⟩,av.to (by simp[v,J,c]) (by simp[A]) (by simp) (by simp) (by simp[gJ])⟩;dsimp only;rw[c,Vz,Wi];omega;dsimp only;rw[c,Vz,Wi,Wj,Yw (Vu _),B,VZ (by omega)];rfl;dsimp only;rw[Yh (by omega)];have:=Xp (List.drop 1) C;rw[Wx,Wx]at this
  rwa [show k+j -1+1=k+(j+1) -1 by omega]at this
  rw[Vs (λh=>h d)]at c;exact⟨(j+1,b),by dsimp only;omega,⟨by dsimp only;omega,by(try dsimp only);omega,by(try dsimp only);rw[c];omega,K,by(try dsimp only);rw[c];exact B,by
   dsimp only;have:=Xp (List.drop 1) C;rw[Wx,Wx]at this
   rwa [show k+j -1+1=k+(j+1) -1 by omega]at this⟩,av.to (by simp[v,c]) rfl (by simp) (by simp) (by simp[gJ])⟩
  have hj:k+j=zs.length:=by omega
  have s:¬j<zs.length -k:=by omega
  rw[hj]at i3 B;have M:=uZ zs zs.length (by omega);have t:=uX pre b a (i:=(bc zs zs.length).length) (n:=zs.length -(bc zs zs.length).length) 0 (by omega);simp[s,hj,e];refine⟨⟨by omega,by omega⟩,by omega,by omega,⟨by omega,by omega⟩,some (cY zs).length,cY zs++List.replicate (zs.length -(cY zs).length) 0,⟨rfl,rfl⟩,?_,λm w=>?_,rfl,?_⟩;unfold cY;simp;omega;cases w;unfold cY;omega;unfold cY;rw[t,B,VS (by omega),WF]
 have:k=zs.length:=by omega
 subst this;simp;rw[VX]at u;exact⟨some zs.length,zs,⟨by unfold cY;rw[u],by unfold cY;rw[u];simp⟩,rfl,λm w=>by cases w;exact Vu _,rfl,rfl⟩;subst Q;refine aB aP Tryz.func140 ?_;simp;exact⟨some 0,⟨rfl,rfl⟩,.inr rfl,rfl⟩
open Go.Proofs Go.Proofs.Tryz
theorem im{P:aa}{fn:Func}(a:fn.results=#[]) (tmps:Array an) (w:ab):(results fn tmps).run P w=.ok (.tuple (([]:bJ).map λt=>tmps.getD t undef).toArray) w:=by
 simp[results,a]
structure HS where
  sc:af
  row:af
  pl:af
def aH(q:HS):bj:=[.own true 1 (am q.sc),.own true 1 (am q.row),.own true 1 (am q.pl)]
def fp(q:HS):aD:=[.seq false 1 (am q.sc),.seq false 1 (am q.row),.seq false 1 (am q.pl)]
theorem jn(l:af)(i:Nat)(x:Int):(am l).set i [ak x]=am (l.set i x):=by simp[am,Zn]
theorem uk(q:HS)(a:0<q.sc.length):aw prog 174 [.iptr 3 [fp q] 0 0] (λr=>r=.pv (BL true)):=by
 refine aB aP func174 ?_;simp[fp,a]
def ww(q:HS)(v:Int):Bool:=decide (1<=v)&&decide (v<q.sc.length)
theorem M0(q:HS)(a:0<q.sc.length)(v:Int):aw prog 212 [.iptr 3 [fp q] 0 0,ak v] (λr=>r=.pv (BL (ww q v))):=by
 refine aB aP func212 ?_;have h1:=uk q a;simp only[fp]at h1;simp[fp];refine ap.intro h1 ?_;simp[ww]
def Pn(q:HS)(v:Int):Int:=if ww q v then 0 else 10
theorem Hh(q:HS)(b:0<q.sc.length)(v:Int):aw prog 209 [.iptr 3 [fp q] 0 0,ak v] (λr=>r=.pv (ak (Pn q v))):=by
 refine aB aP func209 ?_;have h1:=uk q b;have a:=M0 q b v;simp only[fp]at h1 a;simp[fp];refine ap.intro h1 ?_;simp;refine ap.intro a ?_;simp[Pn]
theorem An(q:HS)(e:0<q.sc.length)(d:q.pl.length=q.sc.length)(v:Int):aw prog 132 [.iptr 3 [fp q] 0 0,ak v] (λr=>r=.pv (BL (ww q v&&decide (0<=q.pl.getD v.toNat 0)))):=by
 refine aB aP func132 ?_;have a:=M0 q e v;simp only[fp]at a;simp[fp];refine ap.intro a ?_;by_cases c:ww q v=true;have c2:=c;simp only[ww,VC,VI]at c2;have b:v.toNat<q.pl.length:=by omega
 simp[c,b];omega;simp[c]
theorem Hj(q:HS)(a:0<q.sc.length):aw prog 100 [.iptr 3 [fp q] 0 0] (λr=>r=.pv (ak q.row.length)):=by
 refine aB aP func100 ?_;have h1:=uk q a;simp only[fp]at h1;simp[fp];refine ap.intro h1 ?_;simp
def cU(q:HS):Int:=q.row.getD 0 0
theorem M2(q:HS)(a:0<q.sc.length):aw prog 175 [.iptr 3 [fp q] 0 0] (λr=>r=.pv (ak (cU q))):=by
 refine aB aP func175 ?_;have h1:=Hj q a;simp only[fp]at h1;simp[fp];refine ap.intro h1 ?_;simp[cU];cases b:q.row with
 |nil=>simp
 |cons x xs=>simp
theorem wx(q:HS)(v w:Nat)(a:v<q.sc.length)(b:w<q.sc.length):aw prog 251 [.iptr 3 [fp q] 0 0,ak v,ak w] (λr=>r=.pv (BL (mc q.sc v w))):=by
 refine aB aP func251 ?_;simp[fp,a,b,mc];constructor;intro c;simp[c];intro c;simp[c]
theorem ul(h:ao)(b:Nat)(q:HS)(d:h[b]?=some (aH q))(i v:Nat)(hi:i<q.row.length)(e:v<q.pl.length):
 aI prog 176 [.ptr b 0,ak i,ak v] h (λr h'=>r=.pv (.tup [])∧h'=h.set b (aH ⟨q.sc,q.row.set i v,q.pl.set v i⟩)):=by
 refine xA [] aP func176 (λ_ _=>im rfl _ _) ?_;obtain⟨c,a⟩:=Vp.1 d;simp[a,c,aH,hi,e,jn]
theorem jo{h:ao}{b:Nat}{x:bj}(a:h[b]?=some x):h.set b x=h:=by
 apply Wv;intro i;rw[V2];split;rename_i e;subst e;rw[Vt (Vp.1 a).1,a];rfl
theorem rX{h:ao}{b:Nat}(a:b<h.length)(q:HS)(n:Nat):bE (h.set b (aH q)) (n+1) b 0=.iptr 3 [fp q] 0 0:=by
 simp[bE,a,aH,fp,frzC]
theorem iR{h:ao}{b:Nat}{q:HS}(d:h[b]?=some (aH q))(n:Nat):bE h (n+1) b 0=.iptr 3 [fp q] 0 0:=by
 obtain⟨c,a⟩:=Vp.1 d;simp[bE,c,a,aH,fp,frzC]
theorem io{h:ao}{b:Nat}(a:b<h.length)(x:bj):(h.set b x)[b]?=some x:=by simp[a]
theorem M3(h:ao)(b:Nat)(q:HS)(F:h[b]?=some (aH q))(i:Nat)(hi:i<q.row.length)(hin:wO q.row q.pl.length)(O:q.pl.length=q.sc.length)(hs:q.row.length<=1000000):
 aI Tryz.prog 210 [.ptr b 0,ak i] h (λr h'=>r=.pv (.tup [])∧h'=h.set b (aH ⟨q.sc,(tC q.sc (q.row.getD i 0) i q.row q.pl).1,(tC q.sc (q.row.getD i 0) i q.row q.pl).2⟩)):=by
 refine xA [] aP Tryz.func210 (λ_ _=>im rfl _ _) ?_;obtain⟨a,y⟩:=Vp.1 F;have M:=hin (q.row.getD i 0) (bR hi);obtain⟨v,B⟩:=WY (show 0<=q.row.getD i 0 by omega);have f:q.row.getD i 0=(v:Int):=B;have C:q.row[i]=(v:Int):=by rw[←f];simp[hi]
 rw[f]at M⊢;have N:v<q.pl.length:=by omega
 simp[y,a,aH,hi,C];refine aM.intro (S:=λ(x:Nat×af×af)=>⟨[(0,.pv (.ptr b 0)),(1,.pv (ak x.1)),(4,.pv (.fn (.func 251) [.ptr b 0] [])),(5,.pv (ak v))],h.set b (aH ⟨q.sc,x.2.1,x.2.2⟩)⟩)
  (λx=>x.1<x.2.1.length∧x.2.1.length=q.row.length∧x.2.2.length=q.pl.length∧wO x.2.1 q.pl.length∧tC q.sc v x.1 x.2.1 x.2.2=tC q.sc v i q.row q.pl) (λx=>x.1) (i,q.row,q.pl) ?_ ?_ ?_
 exact av.keep (by simp) (jo F).symm;exact⟨hi,rfl,rfl,hin,rfl⟩;rintro⟨j,row,pl⟩ ⟨t,H,I,E,w⟩;dsimp only at t H I E w;rcases Yp j with h0|h0;subst h0;have A:0<row.length:=t;simp[a,aH];refine ay.intro (ul _ b ⟨q.sc,row,pl⟩ (io a _) 0 v A (by dsimp only;omega)) ?_;rintro _ _ ⟨rfl,rfl⟩;rw[←w];unfold tC;simp[aH];obtain⟨k,rfl⟩:∃k,j=k+1:=⟨j -1,by omega⟩;obtain⟨p,hp,K⟩:∃p:Nat,Int.tdiv (k:Int) 2=(p:Int)∧p=k/2:=⟨k/2,rfl,rfl⟩;have D:bG ((k:Nat):Int)=(k:Int):=aC (by omega) (by omega);have g:bG ((p:Nat):Int)=(p:Int):=aC (by omega) (by omega);have d:p<row.length:=by omega
 have G:=E (row.getD p 0) (bR d);obtain⟨u,L⟩:=WY (show 0<=row.getD p 0 by omega);have n:row.getD p 0=(u:Int):=L;have o:row[p]=(u:Int):=by rw[←n];simp[d]
 have z:=wx ⟨q.sc,row,pl⟩ v u (by dsimp only;omega) (by dsimp only;omega);simp[a,aH,D,hp,g,d,o];rw[←aH.eq_1 ⟨q.sc,row,pl⟩,rX a];refine ay.introP z ?_;rw[aH.eq_1 ⟨q.sc,row,pl⟩];have m:=ul (h.set b (aH ⟨q.sc,row,pl⟩)) b ⟨q.sc,row,pl⟩ (io a _) (k+1) v t (by dsimp only;omega);have e:=ul (h.set b (aH ⟨q.sc,row,pl⟩)) b ⟨q.sc,row,pl⟩ (io a _) (k+1) u t (by dsimp only;omega)
 push_cast at m e
 have s:tC q.sc v (k+1) row pl=if mc q.sc v u=true then tC q.sc v p (row.set (k+1) u) (pl.set u (k+1:Nat))else(row.set (k+1) v,pl.set v (k+1:Nat)):=by
  rw[tC];have J:(k+1 -1)/2=p:=by omega
  simp only[J,n];by_cases c:mc q.sc v u=true;rw[dif_pos ⟨by omega,c⟩,Vt c];rfl;rw[dif_neg (λh=>c h.2),Vs c];rfl
 cases l:mc q.sc v u with
 |false=>
  simp[a,aH];refine ay.intro m ?_;rintro _ _ ⟨rfl,rfl⟩;rw[←w,s,l];simp[aH]
 |true=>
  simp[a,aH,D,hp,g,d,o];refine ay.intro e ?_;rintro _ _ ⟨rfl,rfl⟩;simp[D,hp,g];refine⟨(p,row.set (k+1) u,pl.set u (k+1:Nat)),by dsimp only;omega,⟨by dsimp only;simp;omega,by simpa using H,by simpa using I,?_,?_⟩,av.keep ?_ ?_⟩;intro x hx;rcases XA hx with hx|hx;exact E x hx;omega;rw[←w,s,l];rfl;simp;simp[aH]
theorem tD(q:HS)(v w:Int)(e:0<=v∧v<q.sc.length)(f:0<=w∧w<q.sc.length):aw prog 251 [.iptr 3 [fp q] 0 0,ak v,ak w] (λr=>r=.pv (BL (mc q.sc v w))):=by
 obtain⟨a,b⟩:=WY e.1;obtain⟨c,d⟩:=WY f.1;have:=wx q a c (by omega) (by omega);rw[b,d];exact this
theorem Cv(h:ao)(b:Nat)(q:HS)(d:h[b]?=some (aH q))(i:Nat)(v:Int)(hi:i<q.row.length)(e:0<=v∧v<q.pl.length):
 aI prog 176 [.ptr b 0,ak i,ak v] h (λr h'=>r=.pv (.tup [])∧h'=h.set b (aH ⟨q.sc,q.row.set i v,q.pl.set v.toNat i⟩)):=by
 obtain⟨a,c⟩:=WY e.1;have:=ul h b q d i a hi (by omega);rw[c];exact this
def M4(sc row:af)(v:Int)(i:Nat):Int×Nat:=if 2*i+1<row.length∧mc sc (row.getD (2*i+1) 0) v=true then(row.getD (2*i+1) 0,2*i+1)else(v,i)
def Hk(sc row:af)(v:Int)(i:Nat):Nat->Int×Nat
 |0=>(v,i)
 |1=>M4 sc row v i
 |_=>gx sc row v i
theorem Po(sc row:af)(v:Int)(i:Nat):gx sc row v i=if 2*i+2<row.length∧mc sc (row.getD (2*i+2) 0) (M4 sc row v i).1=true then(row.getD (2*i+2) 0,2*i+2)else M4 sc row v i:=rfl
theorem M5{sc row:af}{v:Int}{i n:Nat}(hin:wO row n)(a:1<=v∧v<n)(hi:i<row.length):1<=(M4 sc row v i).1∧(M4 sc row v i).1<n∧(M4 sc row v i).2<row.length:=by
 unfold M4;split;rename_i c;have:=hin _ (bR c.1);exact⟨this.1,this.2,c.1⟩;exact⟨a.1,a.2,hi⟩
theorem Cw{sc row:af}{v:Int}{i n:Nat}(hin:wO row n)(a:1<=v∧v<n)(hi:i<row.length):1<=(gx sc row v i).1∧(gx sc row v i).1<n∧(gx sc row v i).2<row.length:=by
 rw[Po];split;rename_i c;have:=hin _ (bR c.1);exact⟨this.1,this.2,c.1⟩;exact M5 hin a hi
theorem Cx(h:ao)(b:Nat)(q:HS)(M:h[b]?=some (aH q))(i:Nat)(hi:i<q.row.length)(hin:wO q.row q.pl.length)(X:q.pl.length=q.sc.length)(hs:q.row.length<=1000000):
 aI prog 177 [.ptr b 0,ak i] h (λr h'=>r=.pv (.tup [])∧h'=h.set b (aH ⟨q.sc,(fo q.sc (q.row.getD i 0) q.row.length i q.row q.pl).1,(fo q.sc (q.row.getD i 0) q.row.length i q.row q.pl).2⟩)):=by
 refine xA [] aP func177 (λ_ _=>im rfl _ _) ?_;obtain⟨a,D⟩:=Vp.1 M;have N:=hin (q.row.getD i 0) (bR hi);have I:q.row[i]=q.row.getD i 0:=by simp[hi]
 generalize U:q.row.getD i 0=v at*;simp[D,a,aH,hi,I];refine aM.intro (S:=λ(x:Nat×Nat×af×af)=>⟨[(0,.pv (.ptr b 0)),(1,.pv (ak x.2.1)),(4,.pv (ak v))],h.set b (aH ⟨q.sc,x.2.2.1,x.2.2.2⟩)⟩)
  (λx=>x.2.1<x.2.2.1.length∧x.2.2.1.length=q.row.length∧x.2.2.2.length=q.pl.length∧wO x.2.2.1 q.pl.length∧x.2.2.1.length<=x.2.1+x.1∧fo q.sc v x.1 x.2.1 x.2.2.1 x.2.2.2=fo q.sc v q.row.length i q.row q.pl) (λx=>x.1) (q.row.length,i,q.row,q.pl) ?_ ?_ ?_
 exact av.keep (by simp) (jo M).symm;exact⟨hi,rfl,rfl,hin,by dsimp only;omega,rfl⟩;rintro⟨n,j,row,pl⟩ ⟨C,O,P,w,V,s⟩;dsimp only at C O P w V s;have J:bG (2*(j:Int))=2*(j:Int):=aC (by omega) (by omega);have m:bG 1=1:=aC (by omega) (by omega);have o:bG 2=2:=aC (by omega) (by omega);obtain⟨c1,E⟩:∃c,c=2*j+1:=⟨_,rfl⟩;obtain⟨c2,F⟩:∃c,c=2*j+2:=⟨_,rfl⟩;have K:bG (2*(j:Int)+1)=(c1:Int):=by rw[aC (by omega) (by omega)];omega
 have L:bG (2*(j:Int)+2)=(c2:Int):=by rw[aC (by omega) (by omega)];omega
 have y:=M5 (sc:=q.sc) (i:=j) w N C;have z:=Cw (sc:=q.sc) (i:=j) w N C;have A:M4 q.sc row v j=if c1<row.length∧mc q.sc (row.getD c1 0) v=true then(row.getD c1 0,c1)else(v,j):=by rw[E];rfl
 have B:gx q.sc row v j=if c2<row.length∧mc q.sc (row.getD c2 0) (M4 q.sc row v j).1=true then(row.getD c2 0,c2)else M4 q.sc row v j:=by rw[F];rfl
 simp[J,K,L];refine aM.intro (S:=λ(t:Nat)=>⟨[(0,.pv (.ptr b 0)),(1,.pv (ak j)),(4,.pv (ak v)),(5,.pv (ak (Hk q.sc row v j t).1)),(6,.pv (ak (Hk q.sc row v j t).2)),(24,.pv (.agg [ak c1,ak c2])),(25,.pv (ak t))],h.set b (aH ⟨q.sc,row,pl⟩)⟩)
  (λt=>t<=2) (λt=>2 -t) 0 ?_ ?_ ?_
 exact av.keep (by simp[Hk]) rfl;omega;intro t ht;have:t=0∨t=1∨t=2:=by omega
 rcases this with rfl|rfl|rfl;by_cases hcl:c1<row.length;have G:=w _ (bR hcl);have l:row[c1]=row.getD c1 0:=by simp[hcl]
 generalize T:row.getD c1 0=u at*;have p:=tD ⟨q.sc,row,pl⟩ u v (by dsimp only;omega) (by dsimp only;omega);simp[a,aH,Hk,hcl,l];rw[←aH.eq_1 ⟨q.sc,row,pl⟩,rX a];refine ay.introP p ?_;rw[aH.eq_1 ⟨q.sc,row,pl⟩];cases g:mc q.sc u v with
 |false=>
  simp;refine⟨1,by dsimp only;omega,by dsimp only;omega,av.keep ?_ (by simp[aH])⟩;simp[m,Hk,A,g]
 |true=>
  simp[a,hcl,l];refine⟨1,by dsimp only;omega,by dsimp only;omega,av.keep ?_ (by simp[aH])⟩;simp[m,Hk,A,g,hcl]
 simp[a,aH,Hk,hcl];refine⟨1,by dsimp only;omega,by dsimp only;omega,av.keep ?_ (by simp[aH])⟩;simp[m,Hk,A,hcl];generalize f:M4 q.sc row v j=be at*;obtain⟨d,at'⟩:=be;dsimp only at y;by_cases hcl:c2<row.length;have G:=w _ (bR hcl);have l:row[c2]=row.getD c2 0:=by simp[hcl]
 generalize T:row.getD c2 0=u at*;have p:=tD ⟨q.sc,row,pl⟩ u d (by dsimp only;omega) (by dsimp only;omega);simp[a,aH,Hk,hcl,l,f];rw[←aH.eq_1 ⟨q.sc,row,pl⟩,rX a];refine ay.introP p ?_;rw[aH.eq_1 ⟨q.sc,row,pl⟩];cases g:mc q.sc u d with
 |false=>
  simp;refine⟨2,by dsimp only;omega,by dsimp only;omega,av.keep ?_ (by simp[aH])⟩;simp[o,Hk,B,g]
 |true=>
  simp[a,hcl,l];refine⟨2,by dsimp only;omega,by dsimp only;omega,av.keep ?_ (by simp[aH])⟩;simp[o,Hk,B,g,hcl]
 simp[a,aH,Hk,hcl,f];refine⟨2,by dsimp only;omega,by dsimp only;omega,av.keep ?_ (by simp[aH])⟩;simp[o,Hk,B,hcl];have hn:n≠0:=by omega
 obtain⟨n,rfl⟩:∃k,n=k+1:=⟨n -1,by omega⟩;rw[fo]at s;clear A B y;generalize f:gx q.sc row v j=be at*;obtain⟨d,at'⟩:=be;dsimp only at z s;have H:=Cv (h.set b (aH ⟨q.sc,row,pl⟩)) b ⟨q.sc,row,pl⟩ (io a _) j d C (by dsimp only;omega);simp[a,aH,Hk,f];refine ay.intro H ?_;rintro _ _ ⟨rfl,rfl⟩;by_cases c:at'=j;rw[Vt c]at s;simp[c,←s,aH];rw[Vs c]at s;have c':¬(at':Int)=(j:Int):=by omega
 simp[c,c',a,aH,z,jn];have R:j<at':=by
  rcases Cu (sc:=q.sc) (row:=row) (v:=v) (i:=j)with⟨e,_⟩|⟨W,e,_,_,Q,_⟩;rw[f]at e;simp only[W8]at e;omega;rw[f]at e;simp only[W8]at e;omega
 refine⟨(n,at',(row.set j d).set at' v,pl.set d.toNat j),by dsimp only;omega,⟨?_,?_,?_,?_,?_,s⟩,av.keep ?_ ?_⟩;dsimp only;simp only[VQ];omega;simpa using O;simpa using P;intro x hx;rcases XA hx with hx|hx;rcases XA hx with hx|hx;exact w x hx;omega;omega;dsimp only;simp only[VQ];omega;simp;simp[aH]
section
theorem yy{sc:af}{v:Int}:∀(n i:Nat)(row pl:af),(fo sc v n i row pl).1.length=row.length∧(fo sc v n i row pl).2.length=pl.length
 |0,i,row,pl=>by simp[fo]
 |n+1,i,row,pl=>by
  rw[fo];split;simp;obtain⟨h1,a⟩:=yy (sc:=sc) (v:=v) n (gx sc row v i).2 ((row.set i (gx sc row v i).1).set (gx sc row v i).2 v) (pl.set (gx sc row v i).1.toNat i);rw[h1,a];simp
theorem um{row:af}{n i:Nat}{x:Int}(h:wO row n)(hx:1<=x∧x<n):wO (row.set i x) n:=by
 intro y hy;rcases XA hy with hy|hy;exact h y hy;subst hy;exact hx
theorem Cy{sc:af}{v:Int}{m:Nat}(a:1<=v∧v<m):∀(n i:Nat)(row pl:af),i<row.length->wO row m->wO (fo sc v n i row pl).1 m
 |0,i,row,pl,hi,h=>um h a
 |n+1,i,row,pl,hi,h=>by
  have hp:=Cw (sc:=sc) (i:=i) h a hi;rw[fo];split;exact um h ⟨hp.1,hp.2.1⟩;exact Cy a n _ _ _ (by simp only[VQ];exact hp.2.2) (um (um h ⟨hp.1,hp.2.1⟩) a)
def kr(sc:af):Nat->af->af->af×af
 |0,row,pl=>(row,pl)
 |k+1,row,pl=>kr sc k (fo sc (row.getD k 0) row.length k row pl).1 (fo sc (row.getD k 0) row.length k row pl).2
theorem Ji(h:ao)(b:Nat)(q:HS)(o:h[b]?=some (aH q))(hin:wO q.row q.pl.length)(A:q.pl.length=q.sc.length)(hs:q.row.length<=1000000):
 aI prog 248 [.ptr b 0] h (λr h'=>r=.pv (.tup [])∧h'=h.set b (aH ⟨q.sc,(kr q.sc (q.row.length/2) q.row q.pl).1,(kr q.sc (q.row.length/2) q.row q.pl).2⟩)):=by
 refine xA [] aP func248 (λ_ _=>im rfl _ _) ?_;obtain⟨a,g⟩:=Vp.1 o;obtain⟨m,u,j⟩:∃p:Nat,Int.tdiv (q.row.length:Int) 2=(p:Int)∧p=q.row.length/2:=⟨q.row.length/2,rfl,rfl⟩;have w:bG (m:Int)=(m:Int):=aC (by omega) (by omega);have l:bG ((m:Int) -1)=(m:Int) -1:=aC (by omega) (by omega);rw[←j];simp[g,a,aH,u,w,l];refine aM.intro (S:=λ(x:Nat×af×af)=>⟨[(0,.pv (.ptr b 0)),(2,.pv (ak ((x.1:Int) -1)))],h.set b (aH ⟨q.sc,x.2.1,x.2.2⟩)⟩)
  (λx=>x.1<=x.2.1.length∧x.2.1.length=q.row.length∧x.2.2.length=q.pl.length∧wO x.2.1 q.pl.length∧kr q.sc x.1 x.2.1 x.2.2=kr q.sc m q.row q.pl) (λx=>x.1) (m,q.row,q.pl) ?_ ?_ ?_
 exact av.keep (by simp) (jo o).symm;exact⟨by dsimp only;omega,rfl,rfl,hin,rfl⟩;rintro⟨k,row,pl⟩ ⟨y,z,t,e,f⟩;dsimp only at y z t e f;rcases Yp k with h0|h0;subst h0;rw[←f];simp[a,aH,kr];obtain⟨k,rfl⟩:∃i,k=i+1:=⟨k -1,by omega⟩;have n:bG ((k:Int) -1)=(k:Int) -1:=aC (by omega) (by omega);have c:=Cx (h.set b (aH ⟨q.sc,row,pl⟩)) b ⟨q.sc,row,pl⟩ (io a _) k (by dsimp only;omega) (by dsimp only;rw[t];exact e) (by dsimp only;omega) (by dsimp only;omega);have s:=yy (sc:=q.sc) (v:=row.getD k 0) row.length k row pl;have d:=Cy (sc:=q.sc) (e _ (bR (show k<row.length by omega))) row.length k row pl (by omega) e;rw[kr]at f;simp only[aH]at c;simp[a,aH];refine ay.intro c ?_;rintro _ _ ⟨rfl,rfl⟩;simp[n];refine⟨(k,_,_),by dsimp only;omega,⟨?_,?_,?_,d,f⟩,av.keep ?_ ?_⟩;dsimp only;omega;dsimp only;omega;dsimp only;omega;simp;simp[aH]
def half(x:Int):Int:=bG (Int.tdiv x 2)
def jx(l:af)(i:Nat):af:=(l.take i).map half++l.drop i
theorem Fi(l:af)(i:Nat):(jx l i).length=l.length:=by
 simp only[jx,Vz,VA,Vy,Wf];omega
theorem Fj{l:af}{i:Nat}(h:i<l.length):(jx l i)[i]?=some l[i]:=by
 have a:((l.take i).map half).length=i:=by simp;omega
 rw[jx,VM (by omega),a,Xr,Wk];simp[h]
theorem Cz{l:af}{i:Nat}(h:i<l.length):(jx l i).set i (half l[i])=jx l (i+1):=by
 have a:((l.take i).map half).length=i:=by simp;omega
 unfold jx;rw[XG _ _ (by omega),a,Xr,Ws h,V3 h,V1,Zr,VV];rfl
def dg(q:HS):HS:=⟨q.sc.map half,(kr (q.sc.map half) (q.row.length/2) q.row q.pl).1,(kr (q.sc.map half) (q.row.length/2) q.row q.pl).2⟩
theorem sW(h:ao)(b:Nat)(q:HS)(k:h[b]?=some (aH q))(o:0<q.sc.length)(hin:wO q.row q.pl.length)(n:q.pl.length=q.sc.length)(hs:q.row.length<=1000000)(p:q.sc.length<=1000000):
 aI prog 169 [.ptr b 0] h (λr h'=>r=.pv (.tup [])∧h'=h.set b (aH (dg q))):=by
 refine xA [] aP func169 (λ_ _=>im rfl _ _) ?_;obtain⟨a,l⟩:=Vp.1 k;have h1:=uk q o;simp;rw[iR k];refine ay.introP h1 ?_;simp[l,a,aH];refine aM.intro (S:=λ(i:Nat)=>⟨[(0,.pv (.ptr b 0)),(10,.pv (ak q.sc.length)),(11,.pv (ak i))],h.set b (aH ⟨jx q.sc i,q.row,q.pl⟩)⟩)
  (λi=>i<=q.sc.length) (λi=>q.sc.length -i) 0 ?_ ?_ ?_
 exact av.keep (by simp) (by simp[jx,jo k]);omega;intro i hi;by_cases c:i<q.sc.length;have s:=dU i;have g:=Fi q.sc i;have e:=Fj c;have d:(jx q.sc i)[i]'(by omega)=q.sc[i]:=by
  have:=Vp.1 e;exact this.2
 have j:=Cz c;unfold half at j;simp[a,aH,c,g,d,jn];refine⟨i+1,by dsimp only;omega,by dsimp only;omega,av.keep ?_ ?_⟩;simp[s];simp[aH,j];have:i=q.sc.length:=by omega
 subst this;have f:=Ji (h.set b (aH ⟨q.sc.map half,q.row,q.pl⟩)) b ⟨q.sc.map half,q.row,q.pl⟩ (io a _) hin (by simpa using n) hs;have m:jx q.sc q.sc.length=q.sc.map half:=by simp[jx]
 simp only[aH]at f;simp[a,aH,m];refine ay.intro f ?_;rintro _ _ ⟨rfl,rfl⟩;simp[dg]
end
def fY(q:HS)(v by':Int):HS×Int:=
 if ww q v=false then(q,10)else if by'<0∨1000000000000<by' then(q,2)else
  let a:=q.sc.set v.toNat (q.sc.getD v.toNat 0+by')
  let b:HS:=if 0<=q.pl.getD v.toNat 0 then⟨a,(tC a (q.row.getD (q.pl.getD v.toNat 0).toNat 0) (q.pl.getD v.toNat 0).toNat q.row q.pl).1,(tC a (q.row.getD (q.pl.getD v.toNat 0).toNat 0) (q.pl.getD v.toNat 0).toNat q.row q.pl).2⟩else⟨a,q.row,q.pl⟩
  (if 1000000000000<b.sc.getD v.toNat 0 then dg b else b,0)
def fq(q:HS)(v:Int):HS×Int:=
 if ww q v=false then(q,10)else if 0<=q.pl.getD v.toNat 0 then(q,21)else
  (⟨q.sc,(tC q.sc v q.row.length (q.row++[v]) q.pl).1,(tC q.sc v q.row.length (q.row++[v]) q.pl).2⟩,0)
def gp(q:HS):HS×Int:=
 if cU q=0 then(q,0)else
  let w:=q.row.getD (q.row.length -1) 0
  let a:=(q.row.set 0 w).take (q.row.length -1)
  let b:=(q.pl.set w.toNat 0).set (cU q).toNat (-1)
  (if 0<q.row.length -1 then⟨q.sc,(fo q.sc (a.getD 0 0) a.length 0 a b).1,(fo q.sc (a.getD 0 0) a.length 0 a b).2⟩else⟨q.sc,a,b⟩,cU q)
def pA(n:Nat):HS:=⟨List.replicate (n+1) 0,(List.range n).map λi=>((i+1:Nat):Int),0::(List.range n).map λi=>((i:Nat):Int)⟩
structure HpG (n:Nat) (M:Int) (q:HS):Prop where
  sl:q.sc.length=n+1
  pll:q.pl.length=n+1
  nd:q.row.Nodup
  inr:wO q.row (n+1)
  plc:PL q.row q.pl
  out:∀u:Nat,1<=u->u<=n->¬(u:Int)∈q.row->q.pl.getD u 0=-1
  ho:HO q.sc q.row 0
  rng:∀x∈q.sc,0<=x∧x<=M
namespace HpG
variable {n : Nat} {M : Int} {q : HS}
theorem few(g:HpG n M q):q.row.length<=n:=by
 have := eb q.row ((List.range n).map λ i => ((i + 1 : Nat) : Int)) g.nd (λ x hx => by
  have:=g.inr x hx;rw[VB];exact⟨(x -1).toNat,WN.2 (by omega),by omega⟩)
 simpa using this
theorem isV_iff(g:HpG n M q){v:Int}:ww q v=true↔1<=v∧v<=n:=by
 simp only[ww,VC,VI,g.sl];omega
theorem place(g:HpG n M q){v:Int}(h:v∈q.row):∃i,i<q.row.length∧q.row.getD i 0=v∧q.pl.getD v.toNat 0=(i:Int):=by
 obtain⟨i,hi,e⟩:=MY h;exact⟨i,hi,e,by have:=g.plc i hi;rwa [e]at this⟩
theorem has_iff(g:HpG n M q){v:Int}(a:1<=v∧v<=n):0<=q.pl.getD v.toNat 0↔v∈q.row:=by
 constructor;intro h;apply V0;intro hn;have:=g.out v.toNat (by omega) (by omega) (by rwa [show((v.toNat:Nat):Int)=v by omega]);omega;intro h;obtain⟨i,_,_,e⟩:=g.place h;rw[e];omega
theorem score(g:HpG n M q)(v:Nat):0<=q.sc.getD v 0∧(0<=M->q.sc.getD v 0<=M):=by
 by_cases h:v<q.sc.length;have:=g.rng _ (bR h);exact⟨this.1,λ_=>this.2⟩;have:q.sc.getD v 0=0:=by simp[Vr,h]
 rw[this];exact⟨by omega,λh=>h⟩
theorem first(g:HpG n M q):∀j,j<q.row.length->mc q.sc (q.row.getD j 0) (q.row.getD 0 0)=false:=by
 intro j
 induction j using Nat.strongRecOn with
 |_ j a=>
  intro hj;rcases Yp j with h0|h0;subst h0;exact pg _ _;exact ko (g.ho j h0 hj (VH _)) (a ((j -1)/2) (by omega) (by omega))
theorem peek_zero(g:HpG n M q):cU q=0↔q.row=[]:=by
 constructor;intro h;cases a:q.row with
 |nil=>rfl
 |cons x xs=>
  have:=g.inr x (by rw[a];simp);simp only[cU,a,Xv]at h;omega
 intro h;simp[cU,h]
theorem peek_mem(g:HpG n M q)(h:cU q≠0):cU q∈q.row:=by
 cases a:q.row with
 |nil=>exact absurd (g.peek_zero.2 a) h
 |cons x xs=>simp[cU,a]
end HpG
theorem yz{sc:af}:∀(k:Nat)(row pl:af),k<=row.length->row.Nodup->wO row pl.length->PL row pl->HO sc row k->DnOk sc row pl 0 (kr sc k row pl)
 |0,row,pl,_,_,_,hp,ho=>⟨YX _,ho,hp,λ_ _=>rfl,rfl⟩
 |k+1,row,pl,hk,a,hin,hp,ho=>by
  have d:=wv (sc:=sc) (v:=row.getD k 0) (k:=k) row.length k row pl (by omega) (by omega) (Vu _) rfl a hin (λj hj _=>hp j hj)
   (λj b hj e g=>ho j b hj (by omega)) (λj _ _ _ h1 i=>by omega)
  have f:=d.perm.length_eq;have r:=yz k _ _ (by rw[f];omega) (d.perm.nodup_iff.2 a) (by rw[d.len];exactλx hx=>hin x (d.perm.mem_iff.1 hx)) d.plc d.ho;exact⟨r.perm.trans d.perm,r.ho,r.plc,λu c=>by rw[kr,r.out u (λh=>c (d.perm.mem_iff.1 h)),d.out u c],r.len.trans d.len⟩
theorem Pp{x:Int}(h:0<=x)(a:x<=4000000000000):half x=x/2:=by
 unfold half;have:Int.tdiv x 2=x/2:=Za h;rw[this,aC (by omega) (by omega)]
theorem nf{n:Nat}{M:Int}{q:HS}(g:HpG n (2*M) q)(h0:0<=M)(i:M<=1000000000000):HpG n M (dg q)∧(dg q).row.Perm q.row∧(dg q).sc=q.sc.map (·/2):=by
 have b:q.sc.map half=q.sc.map (·/2):=XE λx hx=>by have:=g.rng x hx;exact Pp this.1 (by omega)
 have a:=yz (sc:=q.sc.map half) (q.row.length/2) q.row q.pl (by omega) g.nd (by rw[g.pll];exact g.inr) g.plc (λj h1 d f=>by omega);refine⟨⟨by simp[dg,g.sl],by simp only[dg];rw[a.len,g.pll],a.perm.nodup_iff.2 g.nd,λx hx=>g.inr x (a.perm.mem_iff.1 hx),a.plc,λu h1 d e=>?_,a.ho,λx hx=>?_⟩,a.perm,b⟩;have c:¬(u:Int)∈q.row:=λh=>e (a.perm.mem_iff.2 h);rw[show(dg q).pl.getD u 0=_ from a.out u c];exact g.out u h1 d c;simp only[dg,b,VB]at hx;obtain⟨y,hy,rfl⟩:=hx;have:=g.rng y hy;omega
theorem HpG.mono{n:Nat}{M a:Int}{q:HS}(g:HpG n M q)(h:M<=a):HpG n a q:=⟨g.sl,g.pll,g.nd,g.inr,g.plc,g.out,g.ho,λx hx=>by have:=g.rng x hx;omega⟩
theorem M6{l:af}{i:Nat}:l.set i (l.getD i 0)=l:=by
 apply Yq;simp;intro j b a;rw[Z6];split;rename_i e;subst e;simp[Vr,a];rfl
def ff(q:HS)(v by':Int):HS:=
 if 0<=q.pl.getD v.toNat 0 then⟨q.sc.set v.toNat (q.sc.getD v.toNat 0+by'),(tC (q.sc.set v.toNat (q.sc.getD v.toNat 0+by')) (q.row.getD (q.pl.getD v.toNat 0).toNat 0) (q.pl.getD v.toNat 0).toNat q.row q.pl).1,(tC (q.sc.set v.toNat (q.sc.getD v.toNat 0+by')) (q.row.getD (q.pl.getD v.toNat 0).toNat 0) (q.pl.getD v.toNat 0).toNat q.row q.pl).2⟩else⟨q.sc.set v.toNat (q.sc.getD v.toNat 0+by'),q.row,q.pl⟩
theorem wy{n:Nat}{q:HS}(g:HpG n 1000000000000 q){v by':Int}(H:1<=v∧v<=n)(c2:¬(by'<0∨1000000000000<by')):
 HpG n (2*1000000000000) (ff q v by')∧(ff q v by').row.Perm q.row∧(ff q v by').sc=q.sc.set v.toNat (q.sc.getD v.toNat 0+by')∧(ff q v by').sc.getD v.toNat 0=q.sc.getD v.toNat 0+by':=by
 have E:v.toNat<q.sc.length:=by rw[g.sl];omega
 have N:=g.score v.toNat;have d:∀u:Nat,(q.sc.set v.toNat (q.sc.getD v.toNat 0+by')).getD u 0=if u=v.toNat then q.sc.getD v.toNat 0+by' else q.sc.getD u 0:=λu=>by
  rw[bQ];by_cases e:u=v.toNat;rw[Vt ⟨e.symm,E⟩,Vt e];rw[Vs (λh=>e h.1.symm),Vs e]
 have o:∀x∈q.sc.set v.toNat (q.sc.getD v.toNat 0+by'),0<=x∧x<=2*1000000000000:=λx hx=>by
  rcases XA hx with hx|hx;have:=g.rng x hx;omega;omega
 generalize r:q.sc.set v.toNat (q.sc.getD v.toNat 0+by')=c at*;have s:c.length=n+1:=by rw[←r,VQ,g.sl]
 have key:∀w:HS,w=(if 0<=q.pl.getD v.toNat 0 then⟨c,(tC c (q.row.getD (q.pl.getD v.toNat 0).toNat 0) (q.pl.getD v.toNat 0).toNat q.row q.pl).1,(tC c (q.row.getD (q.pl.getD v.toNat 0).toNat 0) (q.pl.getD v.toNat 0).toNat q.row q.pl).2⟩else⟨c,q.row,q.pl⟩)->
  HpG n (2*1000000000000) w∧w.row.Perm q.row∧w.sc=c:=by
  intro w l;by_cases c3:0<=q.pl.getD v.toNat 0;rw[Vt c3]at l;obtain⟨i,hi,m,A⟩:=g.place ((g.has_iff H).1 c3);rw[A,WH,m]at l;have b:q.row.set i v=q.row:=by rw[←m];exact M6
  have C:∀j,j<q.row.length->j≠i->q.row.getD j 0≠v:=λj hj k e=>k (eY g.nd hj hi (by rw[e,m]));have a:∀j,j<q.row.length->j≠i->c.getD (q.row.getD j 0).toNat 0=q.sc.getD (q.row.getD j 0).toNat 0:=λj hj k=>by
   have h1:=g.inr _ (bR hj);have p:=C j hj k;rw[d,Vs (by omega)]
  have D:=MZ (sc:=c) (v:=v) i q.row q.pl hi (by rw[b];exact g.nd) (by rw[b,g.pll];exact g.inr) (by rw[b];exactλj hj _=>g.plc j hj)
   (λ j f hj k => by
    rw[b];have h1:=g.ho j f hj (VH _);have p:=a j hj k;by_cases e:(j -1)/2=i;rw[e,m]at h1⊢;rw[jm]at h1⊢;rw[p,d,Vt rfl];omega;have L:=a ((j -1)/2) (by omega) e;rw[jm]at h1⊢;rw[p,L];exact h1)
   (λ j f hj B z => by
    rw[b];have h1:=g.ho j f hj (VH _);have M:=g.ho i z hi (VH _);rw[B]at h1;have G:=ko h1 M;rw[jm]at G⊢;rw[a j hj (by omega),a ((i -1)/2) (by omega) (by omega)];exact G)
  obtain⟨y,Q,R,J,S⟩:=D;rw[b]at y J;subst l;exact⟨⟨s,by dsimp only;rw[S,g.pll],y.nodup_iff.2 g.nd,λx hx=>g.inr x (y.mem_iff.1 hx),R,λu h1 p O=>by
   have t:¬(u:Int)∈q.row:=λh=>O (y.mem_iff.2 h);dsimp only;rw[J u t];exact g.out u h1 p t,Q,o⟩,y,rfl⟩
  rw[Vs c3]at l;subst l;have F:¬v∈q.row:=λh=>c3 ((g.has_iff H).2 h);refine⟨⟨s,g.pll,g.nd,g.inr,g.plc,g.out,λj f hj hk=>?_,o⟩,YX _,rfl⟩;have h1:=g.ho j f hj (VH _);have a:∀j,j<q.row.length->c.getD (q.row.getD j 0).toNat 0=q.sc.getD (q.row.getD j 0).toNat 0:=λj hj=>by
   have h1:=g.inr _ (bR hj);have p:q.row.getD j 0≠v:=λe=>F (by rw[←e];exact bR hj);rw[d,Vs (by omega)]
  rw[jm]at h1⊢;dsimp only at hj⊢;rw[a j hj,a ((j -1)/2) (by omega)];exact h1
 obtain⟨K,P,I⟩:=key (ff q v by') (by rw[←r];rfl);exact⟨K,P,I,by rw[I,d,Vt rfl]⟩
theorem yA{n:Nat}{q:HS}(g:HpG n 1000000000000 q)(v by':Int):HpG n 1000000000000 (fY q v by').1∧(fY q v by').1.row.Perm q.row∧
 ((fY q v by').2=0->(fY q v by').1.sc=(let s:=q.sc.set v.toNat (q.sc.getD v.toNat 0+by');if 1000000000000<q.sc.getD v.toNat 0+by' then s.map (·/2)else s))∧((fY q v by').2≠0->(fY q v by').1=q):=by
 unfold fY;by_cases c1:ww q v=false;rw[Vt c1];exact⟨g,YX _,λh=>absurd h (by simp),λ_=>rfl⟩;rw[Vs c1];by_cases c2:by'<0∨1000000000000<by'
 rw[Vt c2];exact⟨g,YX _,λh=>absurd h (by simp),λ_=>rfl⟩;rw[Vs c2];have f:=g.isV_iff.1 (by simpa using c1);obtain⟨a,d,c,b⟩:=wy g f c2
 change HpG n 1000000000000 ((if 1000000000000<(ff q v by').sc.getD v.toNat 0 then dg (ff q v by')else ff q v by',(0:Int))).1∧((if 1000000000000<(ff q v by').sc.getD v.toNat 0 then dg (ff q v by')else ff q v by',(0:Int))).1.row.Perm q.row∧(_->((if 1000000000000<(ff q v by').sc.getD v.toNat 0 then dg (ff q v by')else ff q v by',(0:Int))).1.sc=_)∧(¬(0:Int)=0->_)
 generalize ff q v by'=k at*
 rw[b];dsimp only;by_cases c4:1000000000000<q.sc.getD v.toNat 0+by'
 rw[Vt c4,Vt c4];obtain⟨g2,i,j⟩:=nf a (by omega) (by omega);exact⟨g2,i.trans d,λ_=>by rw[j,c],λh=>absurd rfl h⟩;rw[Vs c4,Vs c4];refine⟨⟨a.sl,a.pll,a.nd,a.inr,a.plc,a.out,a.ho,λx hx=>?_⟩,d,λ_=>c,λh=>absurd rfl h⟩;rw[c]at hx;have e:=g.score v.toNat;rcases XA hx with hx|hx;exact g.rng x hx;omega
theorem CA{n:Nat}{M:Int}{q:HS}(g:HpG n M q)(v:Int):HpG n M (fq q v).1∧(fq q v).1.sc=q.sc∧((fq q v).2=0->(fq q v).1.row.Perm (q.row++[v]))∧((fq q v).2≠0->(fq q v).1=q):=by
 unfold fq;by_cases c1:ww q v=false;rw[Vt c1];exact⟨g,rfl,λh=>absurd h (by simp),λ_=>rfl⟩;rw[Vs c1];by_cases c2:0<=q.pl.getD v.toNat 0;rw[Vt c2];exact⟨g,rfl,λh=>absurd h (by simp),λ_=>rfl⟩;rw[Vs c2];have B:=g.isV_iff.1 (by simpa using c1);have p:¬v∈q.row:=λh=>c2 ((g.has_iff B).2 h);have c:(q.row++[v]).set q.row.length v=q.row++[v]:=by simp
 have i:(q.row++[v]).Nodup:=by
  rw[YN];exact⟨g.nd,by simp,λa w b r=>by simp at r;subst r;exactλe=>p (e▸w)⟩
 have d:∀j,j<q.row.length->(q.row++[v]).getD j 0=q.row.getD j 0:=λj hj=>by
  rw[Vr,Vv hj,←Vr]
 have hin:wO (q.row++[v]) (n+1):=λx hx=>by
  rcases VF.1 hx with hx|hx;exact g.inr x hx;simp at hx;omega
 have o:=MZ (sc:=q.sc) (v:=v) q.row.length (q.row++[v]) q.pl (by simp) (by rw[c];exact i) (by rw[c,g.pll];exact hin)
  (by
   rw[c];intro j hj k;simp only[Vz,VR,List.length_nil]at hj;by_cases e:j=q.row.length;subst e;exact absurd (by simp[Vr]) k;rw[d j (by omega)];exact g.plc j (by omega))
  (λ j f hj k => by
   rw[c];simp only[Vz,VR,List.length_nil]at hj;rw[d j (by omega),d _ (by omega)];exact g.ho j f (by omega) (VH _))
  (λj f hj z y=>by simp only[Vz,VR,List.length_nil]at hj;omega)
 obtain⟨m,C,D,s,E⟩:=o;rw[c]at m s;refine⟨⟨g.sl,by dsimp only;rw[E,g.pll],m.nodup_iff.2 i,λx hx=>hin x (m.mem_iff.1 hx),D,λu h1 t A=>?_,C,g.rng⟩,rfl,λ_=>m,λh=>absurd rfl h⟩;have l:¬(u:Int)∈q.row++[v]:=λh=>A (m.mem_iff.2 h);dsimp only;rw[s u l];exact g.out u h1 t (λh=>l (WG _ h))
theorem Jj{n:Nat}{M:Int}{q:HS}(g:HpG n M q):HpG n M (gp q).1∧(gp q).1.sc=q.sc∧(gp q).2=cU q∧(cU q≠0->q.row.Perm (cU q::(gp q).1.row))∧(cU q=0->(gp q).1=q):=by
  unfold gp
  by_cases c1:cU q=0
  · rw[Vt c1];exact⟨g,rfl,c1.symm,λh=>absurd c1 h,λ_=>rfl⟩
  rw[Vs c1]
  have r:q.row≠[]:=λh=>c1 (g.peek_zero.2 h)
  have T:0<q.row.length:=WJ.2 r
  obtain⟨L,D⟩:∃L,q.row.length=L+1:=⟨q.row.length -1,by omega⟩
  have I:=g.peek_mem c1
  have H:q.row.getD 0 0=cU q:=rfl
  simp only[D,Yo]
  generalize N:q.row.getD L 0=w
  have B:w∈q.row:=by rw[←N];exact bR (by omega)
  have W:=g.inr w B
  have U:=g.inr _ I
  -- what is left
  have a:q.row.Perm (cU q::(q.row.set 0 w).take L):=by
    have h1:q.row=(q.row.take L)++[w]:=by
      rw[←N]
      apply Yq
      · simp;omega
      · intro j R a2
        rw[List.getElem_append]
        split
        · simp
        · rename_i hj
          simp only[Vy]at hj
          have:j=L:=by omega
          subst this
          simp[Vr,R]
    rcases Yp L with h0|h0
    · subst h0
      cases s:q.row with
      |nil=>exact absurd s r
      |cons x xs=>
        have hx:xs=[]:=by rw[s]at D;simpa using D
        subst hx
        simp[cU,s]
    · cases s:q.row with
      |nil=>exact absurd s r
      |cons x xs=>
        obtain⟨K,rfl⟩:∃K,L=K+1:=⟨L -1,by omega⟩
        rw[s]at h1
        simp only[Zm,Wh,XR,aav]at h1
        have hx:cU q=x:=by simp[cU,s]
        simp only[Zr,Zm,hx]
        refine List.Perm.cons _ ?_
        conv=>lhs;rw[h1]
        exact List.perm_append_comm
  have G:((q.row.set 0 w).take L).length=L:=by simp[D]
  have b:=(a.nodup_iff.1 g.nd)
  rw[Xj]at b
  have l:∀x,x∈(q.row.set 0 w).take L↔x∈q.row∧x≠cU q:=λx=>by
    constructor
    · intro hx
      exact⟨a.mem_iff.2 (VG _ hx),λe=>b.1 (e▸hx)⟩
    · rintro⟨h1,t⟩
      rcases VU.1 (a.mem_iff.1 h1)with F|F
      · exact absurd F t
      · exact F
  have i:wO ((q.row.set 0 w).take L) (n+1):=λx hx=>g.inr x ((l x).1 hx).1
  have d:∀j,0<j->j<L->((q.row.set 0 w).take L).getD j 0=q.row.getD j 0:=λj h0 hj=>by
    rw[Vr,XY hj,VL (by omega),←Vr]
  have m:∀u:Nat,1<=u->u<=n->¬(u:Int)∈(q.row.set 0 w).take L->((q.pl.set w.toNat 0).set (cU q).toNat (-1)).getD u 0=-1:=λu h1 t J=>by
    rw[bQ,VQ,g.pll]
    by_cases e:(u:Int)=cU q
    · rw[Vt ⟨by omega,by omega⟩]
    · rw[Vs (by omega)]
      have A:¬(u:Int)∈q.row:=λh=>J ((l u).2 ⟨h,e⟩)
      rw[bQ,Vs (λh=>A (by rw[show(u:Int)=w by omega];exact B))]
      exact g.out u h1 t A
  generalize V:(q.row.set 0 w).take L=c at*
  generalize y:(q.pl.set w.toNat 0).set (cU q).toNat (-1)=C at*
  have f:C.length=n+1:=by rw[←y];simp[g.pll]
  by_cases c2:0<L
  · rw[Vt c2]
    have hd:=wv (sc:=q.sc) (v:=c.getD 0 0) (k:=0) c.length 0 c C (by omega) (by omega) (Vu _) rfl b.2 (by rw[f];exact i)
      (λ j hj p => by
        have o:0<j:=by
          rcases Yp j with h0|h0
          · subst h0;exact absurd rfl p
          · exact h0
        rw[d j o (by omega)]
        have h1:=g.inr _ (bR (show j<q.row.length by omega))
        have O:q.row.getD j 0≠cU q:=λe=>by have:=eY g.nd (show j<q.row.length by omega) T (by rw[e,H]);omega
        have P:q.row.getD j 0≠w:=λe=>by have:=eY g.nd (show j<q.row.length by omega) (show L<q.row.length by omega) (by rw[e,N]);omega
        rw[←y,bQ,Vs (by omega),bQ,Vs (by omega)]
        exact g.plc j (by omega))
      (λ j o hj _ p => by
        rw[d j o (by omega),d _ (by omega) (by omega)]
        exact g.ho j o (by omega) (VH _))
      (λj _ _ _ h1 _=>by omega)
    obtain⟨E,X,Y,Z,u5⟩:=hd
    refine⟨⟨g.sl,by dsimp only;rw[u5,f],E.nodup_iff.2 b.2,λx hx=>i x (E.mem_iff.1 hx),Y,λu h1 t J=>?_,X,g.rng⟩,rfl,(by first|rfl|trivial),λ_=>a.trans (E.symm.cons _),λh=>absurd h c1⟩
    have z:¬(u:Int)∈c:=λh=>J (E.mem_iff.2 h)
    dsimp only
    rw[Z u z];exact m u h1 t z
  · rw[Vs c2]
    have S:L=0:=by omega
    have Q:c=[]:=Xx (by omega)
    refine⟨⟨g.sl,f,b.2,i,λj hj=>?_,m,λj h0 hj=>?_,g.rng⟩,rfl,(by first|rfl|trivial),λ_=>a,λh=>absurd h c1⟩
    · dsimp only at hj;omega
    · dsimp only at hj;omega
theorem M7(n:Nat):HpG n 1000000000000 (pA n):=by
 have a:∀j,j<n->((List.range n).map λi=>((i+1:Nat):Int)).getD j 0=((j+1:Nat):Int):=λj hj=>by simp[Vr,hj]
 refine⟨by simp[pA],by simp[pA],?_,λx hx=>?_,λj hj=>?_,λu h1 f d=>?_,λj c hj _=>?_,λx hx=>?_⟩;simp only[pA];unfold List.Nodup;rw[V5];intro i j hi hj b e;simp at e;omega;simp only[pA,VB,WN]at hx;obtain⟨i,hi,rfl⟩:=hx;omega;simp only[pA,VA,Z0]at hj⊢;rw[a j hj,WH,Vr,XK];simp[hj];exfalso;apply d;simp only[pA,VB,WN];exact⟨u -1,by omega,by omega⟩;simp only[pA,VA,Z0]at hj⊢;rw[a j hj,a _ (by omega),jm];right;refine⟨?_,by omega⟩;simp only[Vr,Z2];rw[Vt (by omega),Vt (by omega)];simp only[pA]at hx;have:=Yn hx;omega
theorem wz(s r p:af):[SV.own true 1 (am s),SV.own true 1 (am r),SV.own true 1 (am p)]=aH ⟨s,r,p⟩:=rfl
theorem oD{l:af}{i:Nat}(h:i<l.length):l[i]=l.getD i 0:=by simp[h]
theorem M8{q:HS}{v by':Int}(h:ww q v=false):fY q v by'=(q,10):=by unfold fY;rw[Vt h]
theorem Jk{q:HS}{v by':Int}(h:ww q v=true)(a:by'<0∨1000000000000<by'):fY q v by'=(q,2):=by unfold fY;rw[Vs (by rw[h];simp),Vt a]
theorem Jl{q:HS}{v by':Int}(h:ww q v=true)(a:¬(by'<0∨1000000000000<by')):fY q v by'=(if 1000000000000<(ff q v by').sc.getD v.toNat 0 then dg (ff q v by')else ff q v by',0):=by
 unfold fY;rw[Vs (by rw[h];simp),Vs a];rfl
theorem CB(h:ao)(b:Nat)(q:HS)(O:h[b]?=some (aH q)){n:Nat}(g:HpG n 1000000000000 q)(hn:n<=100000)(v by':Int):
 aI Tryz.prog 129 [.ptr b 0,ak v,ak by'] h (λr h'=>r=.pv (ak (fY q v by').2)∧h'=h.set b (aH (fY q v by').1)):=by
 refine lg aP Tryz.func129 ?_;obtain⟨a,Q⟩:=Vp.1 O;have hq:0<q.sc.length:=by rw[g.sl];omega
 have X:=Hh q hq v;generalize y:fY q v by'=BS
 simp;rw[iR O];refine ay.introP X ?_;unfold Pn;cases I:ww q v with
 |false=>
  have e:=y.symm.trans (M8 I);subst e;simp[jo O]
 |true=>
  have M:=g.isV_iff.1 I;have K:v.toNat<q.sc.length:=by rw[g.sl];omega
  have L:v.toNat<q.pl.length:=by rw[g.pll];omega
  have k:0<=v:=by omega
  have V:v<(q.sc.length:Int):=by rw[g.sl];omega
  have W:v<(q.pl.length:Int):=by rw[g.pll];omega
  have ab:=g.score v.toNat;obtain⟨f,E⟩:∃x,x=q.sc.getD v.toNat 0:=⟨_,rfl⟩;obtain⟨H,t⟩:∃x,x=q.pl.getD v.toNat 0:=⟨_,rfl⟩;have R:q.sc[v.toNat]=f:=by rw[E];exact oD K
  have T:q.pl[v.toNat]=H:=by rw[t];exact oD L
  simp[a,Q,aH,K,k,V,R,jn];refine⟨λc=>?_,λc1 c2=>?_⟩;have e:=y.symm.trans (Jk I c);subst e;simp[wz,jo O];have c3:¬(by'<0∨1000000000000<by'):=λh=>h.elim (λh=>Zu.2 c1 h) (λh=>Zu.2 c2 h);have e:=y.symm.trans (Jl I c3);clear y;subst e;obtain⟨F,w⟩:∃F,(if 1000000000000<(ff q v by').sc.getD v.toNat 0 then dg (ff q v by')else ff q v by')=F:=⟨_,rfl⟩;rw[w];have Y:bG (f+by')=f+by':=aC (by omega) (by omega)
  have N:ff q v by'=if 0<=H then⟨q.sc.set v.toNat (f+by'),(tC (q.sc.set v.toNat (f+by')) (q.row.getD H.toNat 0) H.toNat q.row q.pl).1,(tC (q.sc.set v.toNat (f+by')) (q.row.getD H.toNat 0) H.toNat q.row q.pl).2⟩else⟨q.sc.set v.toNat (f+by'),q.row,q.pl⟩:=by
   rw[E,t];rfl
  have j:=An ⟨q.sc.set v.toNat (f+by'),q.row,q.pl⟩ (by simpa using hq) (by dsimp only;rw[VQ,g.pll,g.sl]) v;have U:ww ⟨q.sc.set v.toNat (f+by'),q.row,q.pl⟩ v=true:=by unfold ww at I⊢;simpa using I
  rw[U]at j;rw[Y];dsimp only at j;rw[←t]at j;rw[wz,rX a];refine ay.introP j ?_;have aa:q.row.length<=n:=g.few;obtain⟨d,p1,s1,A⟩:=wy g M c3;rw[←E]at A s1;rw[A]at w;by_cases c5:0<=H;obtain⟨i,hi,J,D⟩:=g.place ((g.has_iff M).1 (by rw[←t];exact c5));rw[←t]at D;have hin:wO q.row q.pl.length:=by rw[g.pll];exact g.inr
  have u:=M3 (h.set b (aH ⟨q.sc.set v.toNat (f+by'),q.row,q.pl⟩)) b ⟨q.sc.set v.toNat (f+by'),q.row,q.pl⟩ (io a _) i hi hin (by dsimp only;rw[VQ,g.pll,g.sl]) (by dsimp only;omega);rw[Vt c5,D,WH,J]at N;dsimp only at u;rw[J]at u;rw[←D]at u;simp only[aH]at u;simp[a,aH,c5,L,k,W,T];refine ay.intro u ?_;rintro _ _ ⟨rfl,rfl⟩;simp;have P:aH (ff q v by')=[.own true 1 (am (q.sc.set v.toNat (f+by'))),.own true 1 (am (tC (q.sc.set v.toNat (f+by')) v i q.row q.pl).1),.own true 1 (am (tC (q.sc.set v.toNat (f+by')) v i q.row q.pl).2)]:=by rw[N];rfl
  rw[←P];generalize ff q v by'=B at*
  refine aM.intro (S:=λ(x:Nat)=>⟨[(0,.pv (.ptr b 0)),(1,.pv (ak v))],h.set b (aH (if x=0 then B else dg B))⟩) (λx=>x=0∨x=1∧1000000000000<f+by') (λx=>1 -x) 0 ?_ (.inl rfl) ?_;exact av.keep (by simp) (by simp);have l:v.toNat<B.sc.length:=by rw[d.sl];omega
  have m:v<(B.sc.length:Int):=by rw[d.sl];omega
  have C:B.sc[v.toNat]=f+by':=by rw[←A];exact oD l
  rintro x (rfl|⟨rfl,hx⟩);have s:=sW (h.set b (aH B)) b B (io a _) (by rw[d.sl];omega) (by rw[d.pll];exact d.inr) (by rw[d.pll,d.sl]) (by have:=d.few;omega) (by rw[d.sl];omega);simp only[aH]at s;simp[a,aH,l,m,k,C];refine⟨λc=>?_,λc=>?_⟩;refine ay.intro s ?_;rintro _ _ ⟨rfl,rfl⟩;simp;exact⟨1,by dsimp only;omega,.inr ⟨rfl,c⟩,av.keep (by simp) (by simp[aH])⟩;rw[Vs (Zu.2 c)]at w;rw[w];obtain⟨g2,p2,s2⟩:=nf d (by omega) (by omega);have o:v.toNat<(dg B).sc.length:=by rw[g2.sl];omega
  have p:v<((dg B).sc.length:Int):=by rw[g2.sl];omega
  obtain⟨z,hz⟩:∃z,(dg B).sc[v.toNat]=z:=⟨_,rfl⟩;have Z:=g2.rng z (by rw[←hz];exact Vx o);have G:¬1000000000000<z:=by omega
  simp[a,aH,o,p,k,hz,G];rw[Vt hx]at w;rw[w];rw[Vs c5]at N;simp[c5];rw[←N];generalize ff q v by'=B at*
  refine aM.intro (S:=λ(x:Nat)=>⟨[(0,.pv (.ptr b 0)),(1,.pv (ak v))],h.set b (aH (if x=0 then B else dg B))⟩) (λx=>x=0∨x=1∧1000000000000<f+by') (λx=>1 -x) 0 ?_ (.inl rfl) ?_;exact av.keep (by simp) (by simp);have l:v.toNat<B.sc.length:=by rw[d.sl];omega
  have m:v<(B.sc.length:Int):=by rw[d.sl];omega
  have C:B.sc[v.toNat]=f+by':=by rw[←A];exact oD l
  rintro x (rfl|⟨rfl,hx⟩);have s:=sW (h.set b (aH B)) b B (io a _) (by rw[d.sl];omega) (by rw[d.pll];exact d.inr) (by rw[d.pll,d.sl]) (by have:=d.few;omega) (by rw[d.sl];omega);simp only[aH]at s;simp[a,aH,l,m,k,C];refine⟨λc=>?_,λc=>?_⟩;refine ay.intro s ?_;rintro _ _ ⟨rfl,rfl⟩;simp;exact⟨1,by dsimp only;omega,.inr ⟨rfl,c⟩,av.keep (by simp) (by simp[aH])⟩;rw[Vs (Zu.2 c)]at w;rw[w];obtain⟨g2,p2,s2⟩:=nf d (by omega) (by omega);have o:v.toNat<(dg B).sc.length:=by rw[g2.sl];omega
  have p:v<((dg B).sc.length:Int):=by rw[g2.sl];omega
  obtain⟨z,hz⟩:∃z,(dg B).sc[v.toNat]=z:=⟨_,rfl⟩;have Z:=g2.rng z (by rw[←hz];exact Vx o);have G:¬1000000000000<z:=by omega
  simp[a,aH,o,p,k,hz,G];rw[Vt hx]at w;rw[w]
section
theorem Jt(rows:au)(k:az)(cap:aD)(p:af->Bool)(m:rows.length<=140737488355328)(d:∀r,eG r cap=cap)(b:∀n,b7 n cap)(hp:gm cap=false)(f:∀x∈rows,aw prog k (.seq false 1 (am x)::cap) (λr=>r=.pv (BL (p x)))):
 aw prog 202 [.seq false 1 (rows.map aF),.fn (.func k) [] cap] (λr=>r=.pv (ak (gD p rows))):=by
 refine aB aP func202 ?_;simp;refine aM.intro (S:=λ(i:Nat)=>⟨[(0,.pv (.seq false 1 (rows.map aF))),(1,.pv (.fn (.func k) [] cap)),(7,.pv (ak rows.length)),(8,.pv (ak i))],[]⟩) (λi=>i<=rows.length∧∀j (hj:j<rows.length),j<i->p rows[j]=false) (λi=>rows.length -i) 0 ?_ ?_ ?_;exact av.to (by simp) (by simp) (by simp) (by simp[b]) (by simp);exact⟨by omega,λj hj h=>by omega⟩;intro i ⟨hi,ho⟩;by_cases h:i<rows.length;have l:=dU i;have a:=f rows[i] (Vx h);simp[h,hp,d,aF];refine ap.intro a ?_;simp;refine⟨λc=>by rw[d0 h ho c],λc=>⟨i+1,by dsimp only;omega,⟨by omega,λj hj g=>?_⟩,av.to ?_ (by simp) (by simp) (by simp[b]) (by simp)⟩⟩;by_cases e:j=i;subst e;exact c;exact ho j hj (by omega);simp[l,aF];simp[h];rw[cw (λj hj=>ho j hj (by omega))]
theorem Ju(l:Int):(fU l).1=aq l∧(aq l≠0->(fU l).2=decide (0<l)):=by
 unfold fU aq gr;by_cases c:dF l=true;obtain⟨h1,a,b⟩:=(bO l).1 c;rw[Vt c];by_cases d:l<0;rw[Vs (by omega),Vt ⟨d,a⟩,Vt d];exact⟨rfl,λ_=>(W7 (by omega)).symm⟩;rw[Vt ⟨by omega,b⟩,Vs d];exact⟨rfl,λ_=>(WP (by omega)).symm⟩;have hn:¬(l≠0∧-100000<=l∧l<=100000):=λh=>c ((bO l).2 h);rw[Vs c,Vs (by omega),Vs (by omega)];exact⟨rfl,λh=>absurd rfl h⟩
theorem Jv(l:Int)(m:dC):aw prog 264 [ak l,.iptr 1 [[.seq false 1 (fM m)]] 0 0] (λr=>r=.pv (BL (m8 m l))):=by
 refine aB aP func264 ?_;simp;refine ap.intro (aX l) ?_;obtain⟨e,f⟩:=Ju l;have hin:=Jd l;unfold m8;rw[e]at hin⊢;generalize aq l=v at*;obtain⟨n,rfl⟩:=WY hin.1;rcases Yp n with h0|h0;subst h0;simp;obtain⟨k,rfl⟩:∃k,n=k+1:=⟨n -1,by omega⟩;rw[f (by omega)];have c:bG (k:Int)=(k:Int):=aC (by omega) (by omega);have d:¬(k:Int)+1=0:=by omega
 have b:(0:Int)<(k:Int)+1:=by omega
 by_cases hk:k<m.length;have hle:(k:Int)+1<=(m.length:Int):=by omega
 have a:k+1<=m.length:=by omega
 simp[d,hk,hle,a,c,b];have hle:¬(k:Int)+1<=(m.length:Int):=by omega
 have a:¬k+1<=m.length:=by omega
 simp[d,hk,hle,a,c,b]
theorem Jw(c:af)(m:dC)(a:c.length<=1000000):aw prog 203 [.seq false 1 (am c),.iptr 1 [[.fn (.func 264) [] [.iptr 1 [[.seq false 1 (fM m)]] 0 0]]] 0 0] (λr=>r=.pv (BL (!dP c m))):=by
 refine aB aP func203 ?_;simp;refine ap.intro (eQ c a 264 [.iptr 1 [[.seq false 1 (fM m)]] 0 0] (m8 m) (by simp) (by simp) (by simp) (λx _=>Jv x m)) ?_;simp[dP]
theorem Jx(m:dC)(h:ao):aI prog 201 [.seq false 1 (fM m)] h (λr h'=>r=.pv (.fn (.func 264) [] [.ptr h.length 0])∧h'=h++[[.pv (.seq false 1 (fM m))]]):=by
 refine lg aP func201 ?_;simp
theorem NA(v:Int)(L:au)(m:dC)(b:L.length<=140737488355328)(d:∀x∈L,x.length<=1000000):aw prog 121 [.agg [ak v,.seq false 1 (L.map aF)],.seq false 1 (fM m)] (λr=>r=.pv (ak (Ah L m))):=by
 refine aB aP func121 ?_;simp;refine ap.introM (Jx m _) ?_;rintro _ _ ⟨rfl,rfl⟩;simp;have a:bE [[.pv (ak v),.pv (.seq false 1 (L.map aF))],[.pv (.seq false 1 (fM m))],[.pv (.fn (.func 264) [] [.ptr 1 0])]] 3 2 0=.iptr 1 [[.fn (.func 264) [] [.iptr 1 [[.seq false 1 (fM m)]] 0 0]]] 0 0:=by simp[bE]
 rw[a];refine⟨rfl,ap.intro (Jt L 203 [.iptr 1 [[.fn (.func 264) [] [.iptr 1 [[.seq false 1 (fM m)]] 0 0]]] 0 0] (λc=>!dP c m) b (by simp) (by simp) (by simp) (λx hx=>Jw x m (d x hx))) ?_⟩;simp[Ah]
theorem NB(v:Int)(L:au)(m:dC)(b:L.length<=140737488355328)(d:∀x∈L,x.length<=1000000):aw prog 59 [.agg [ak v,.seq false 1 (L.map aF)],.seq false 1 (fM m)] (λr=>r=.pv (BL (decide ((m.length:Int)=v)&&decide (∀c∈L,dP c m=true)))):=by
 refine aB aP func59 ?_;have a:=NA v L m b d;have hn:=EZ L m;simp;refine bz.intro (λ_=>a) ?_;simp[hn]
end
end Go.AX
