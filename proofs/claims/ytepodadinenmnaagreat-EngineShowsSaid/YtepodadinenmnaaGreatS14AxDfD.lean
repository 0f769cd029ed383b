/-
  Contracts: slices.Compact of numbers.
  Contracts: heaps.
  Contracts: heaps are put in order.
  Contracts: heaps: down.
  Contracts: heaps: order, halving, and all that is done with one.
  The plain law of heaps: what stays so, whatever is done.
  Contracts: what is done with a heap.
  Contracts: whether a formula holds (package cnf).
-/
import Derived.Test.YtepodadinenmnaaGreatS14AxRfA
import Derived.Test.YtepodadinenmnaaGreatS14AxEvC
import Derived.Test.YtepodadinenmnaaGreatAxIs
import Derived.Test.YtepodadinenmnaaGreatS14AxHpP
import Derived.Test.YtepodadinenmnaaGreatS14AxMovR
namespace Go.AX
open Go.Proofs
set_option linter.unusedSimpArgs false
def aT(zs:List Int):Nat->List Int
 |0=>[]
 |j+1=>if j=0∨zs.getD j 0≠zs.getD (j -1) 0 then aT zs j++[zs.getD j 0]else aT zs j
def cH(zs:List Int):List Int:=aT zs zs.length
theorem kr(zs:List Int):∀j,(aT zs j).length<=j
 |0=>Qc _
 |j+1=>by
  have:=kr zs j;rw[aT];split
  .rw[Qh,Ri];omega
  .omega
theorem rM(zs:List Int):∀j,0<j->0<(aT zs j).length
 |0,h=>by omega
 |1,_=>by rw[aT,Qb (.inl rfl)];simp
 |j+2,_=>by
  have:=rM zs (j+1) (by omega);rw[aT];split
  .rw[Qh];omega
  .exact this
def Lj(zs:List Int)(k:Option Nat)(rows:List (List PV)):Prop:=k=some (cH zs).length∧rows=aB (cH zs++List.replicate (zs.length -(cH zs).length) 0)
theorem nJ(zs:List Int)(W:zs.length<=1000000):vz Tryz.prog 140 1 (aB zs) [] (Lj zs):=by
 refine vz.ofInts (by kernel_rfl) trivial trivial (λz pre a cp P R=>?_) (λQ q cp=>?_)
 .refine m7 aD Tryz.func140 ?_
  by_cases c2:zs.length<2
  .have r:(zs.length:Int)<2:=by omega
   simp[c2,r];have h1:zs.length=1:=by
    have:=Ru.2 z;omega
   have G:cH zs=zs:=by
    unfold cH;rw[h1,aT,Qb (.inl rfl),aT,QL]
    match zs,h1 with
    |[x],_=>rfl
   exact⟨some zs.length,zs,⟨by rw[G],by rw[G];simp⟩,rfl,λm w=>by cases w;exact Qc _,rfl,rfl⟩
  have r:¬(zs.length:Int)<2:=by omega
  simp[c2,r];refine aH.intro (S:=λ(k:Nat)=>⟨[(0,.pv (.bsl 0 1 pre.length zs.length cp)),(3,.pv (af k))],[blk pre zs a]⟩) (λk=>1<=k∧k<=zs.length∧aT zs k=zs.take k) (λk=>zs.length -k) 1 ?_ ⟨Qc _,by omega,?_⟩ ?_
  .exact ai.to (by simp) rfl (by simp) (by simp) (by simp[fu])
  .rw[aT,Qb (.inl rfl),aT,QL]
   match zs,z with
   |x::l,_=>rfl
  .rintro k ⟨h1,G,u⟩;have e:=eu pre zs a
   by_cases ck:k<zs.length
   .have T:=eq k;have I:aX ((k:Int) -1)=((k -1:Nat):Int):=by rw[aq (by omega) (by omega)];omega
    have g:=kj pre zs a (i:=k) ck;have o:=kj pre zs a (i:=k -1) (by omega);have E:zs.getD k 0=zs[k]:=by simp[ck]
    have F:zs.getD (k -1) 0=zs[k -1]:=by simp[show k -1<zs.length by omega]
    have f:aT zs (k+1)=if zs[k]≠zs[k -1]then aT zs k++[zs[k]]else aT zs k:=by
     rw[aT,E,F]
     by_cases d:zs[k]≠zs[k -1]
     .rw[Qb (.inr d),Qb d]
     .rw[Qa (λh=>h.elim (by omega) d),Qa d]
    simp[ck,I,g,o,e];refine⟨by omega,by omega,by omega,λd=>⟨⟨by omega,by omega⟩,?_⟩,λd=>⟨k+1,by(try dsimp only);omega,⟨by omega,by omega,?_⟩,ai.to (by simp[T]) rfl (by simp) (by simp) (by simp[fu])⟩⟩;rotate_left
    .rw[f,Qb d,u,Rl,P8 ck];rfl
    rw[Qa (λh=>h d),u]at f;refine aH.intro (S:=λ(y:Nat×List Int)=>⟨[(0,.pv (.bsl 0 1 pre.length zs.length cp)),(3,.pv (af ((aT zs (k+y.1)).length:Nat))),(4,.pv (.bsl 0 1 (pre.length+k) (zs.length -k) (cp -k))),(5,.pv (af y.1))],[blk pre y.2 a]⟩)
     (λy=>1<=y.1∧k+y.1<=zs.length∧(aT zs (k+y.1)).length<k+y.1∧y.2.length=zs.length∧y.2.take (aT zs (k+y.1)).length=aT zs (k+y.1)∧y.2.drop (k+y.1 -1)=zs.drop (k+y.1 -1)) (λy=>zs.length -y.1) (1,zs) ?_ ?_ ?_
    .refine ai.to ?_ rfl (by simp) (by simp) (by simp[fu]);have:(aT zs (k+1)).length=k:=by rw[f,Qg];omega
     simp[this]
    .have:(aT zs (k+1)).length=k:=by rw[f,Qg];omega
     refine⟨Qc _,by dsimp only;omega,by dsimp only;omega,rfl,?_,rfl⟩;dsimp only;rw[this,f]
    .rintro⟨j,b⟩ ⟨U,V,i3,K,B,C⟩;dsimp only at U V i3 K B C;have e:=eu pre b a
     by_cases L:k+j<zs.length
     .have N:(j:Int)<((zs.length -k:Nat):Int):=by omega
      have H:aX ((j:Int) -1)=((j -1:Nat):Int):=by rw[aq (by omega) (by omega)];omega
      have v:=eq j;have p:∀i (h:i<zs.length),k+j -1<=i->b[i]'(by omega)=zs[i]:=by
       intro i h hi;have:=SK (λl=>l[i -(k+j -1)]?) C;simp only[Rp]at this;rw[show k+j -1+(i -(k+j -1))=i by omega,P8 (by omega),P8 h]at this;exact Te this
      have g:=kj pre b a (i:=k+j) (by omega);have o:=kj pre b a (i:=k+(j -1)) (by omega);rw[p (k+j) L (by omega),←Sg]at g;have O:b[k+(j -1)]'(by omega)=zs[k+(j -1)]:=p _ (by omega) (by omega);rw[O,←Sg]at o;have E:zs.getD (k+j) 0=zs[k+j]:=by simp[L]
      have F:zs.getD (k+j -1) 0=zs[k+(j -1)]:=by
       have:k+j -1=k+(j -1):=by omega
       rw[this];simp[show k+(j -1)<zs.length by omega]
      have c:aT zs (k+(j+1))=if zs[k+j]≠zs[k+(j -1)]then aT zs (k+j)++[zs[k+j]]else aT zs (k+j):=by
       rw[←Sg,aT,E,F]
       by_cases d:zs[k+j]≠zs[k+(j -1)]
       .rw[Qb (.inr d),Qb d]
       .rw[Qa (λh=>h.elim (by omega) d),Qa d]
      have s:j<zs.length -k:=by omega
      have D:j -1<zs.length -k:=by omega
      simp[s,D,H,g,o,e];refine⟨by omega,by omega,λd=>?_,λd=>?_⟩
      .rw[Qb d]at c;have J:=eq ((aT zs (k+j)).length);have A:=vW pre b a (i:=(aT zs (k+j)).length) zs[k+j] (by omega);refine⟨by omega,by omega,by omega,(j+1,b.set (aT zs (k+j)).length zs[k+j]),by(try dsimp only);omega,⟨by(try dsimp only);omega,by(try dsimp only);omega,?_,by(try dsimp only);rw[Qz];exact K,?_,?_⟩,ai.to (by simp[v,J,c]) (by simp[A]) (by simp) (by simp) (by simp[fu])⟩
       .dsimp only;rw[c,Qh,Ri];omega
       .dsimp only;rw[c,Qh,Ri,Rl,Uo (Qc _),B,Q0 (by omega)];rfl
       .dsimp only;rw[TJ (by omega)];have:=SK (List.drop 1) C;rw[RB,RB]at this
        rwa [show k+j -1+1=k+(j+1) -1 by omega]at this
      .rw[Qa (λh=>h d)]at c;exact⟨(j+1,b),by(try dsimp only);omega,⟨by(try dsimp only);omega,by(try dsimp only);omega,by(try dsimp only);rw[c];omega,K,by(try dsimp only);rw[c];exact B,by
        dsimp only;have:=SK (List.drop 1) C;rw[RB,RB]at this
        rwa [show k+j -1+1=k+(j+1) -1 by omega]at this⟩,ai.to (by simp[v,c]) rfl (by simp) (by simp) (by simp[fu])⟩
     .have hj:k+j=zs.length:=by omega
      have s:¬j<zs.length -k:=by omega
      rw[hj]at i3 B;have M:=rM zs zs.length (by omega);have t:=rK pre b a (i:=(aT zs zs.length).length) (n:=zs.length -(aT zs zs.length).length) 0 (by omega);simp[s,hj,e];refine⟨⟨by omega,by omega⟩,by omega,by omega,⟨by omega,by omega⟩,some (cH zs).length,cH zs++List.replicate (zs.length -(cH zs).length) 0,⟨rfl,rfl⟩,?_,λm w=>?_,rfl,?_⟩
      .unfold cH;simp;omega
      .cases w;unfold cH;omega
      .unfold cH;rw[t,B,QK (by omega),Rx]
   .have:k=zs.length:=by omega
    subst this;simp;rw[QO]at u;exact⟨some zs.length,zs,⟨by unfold cH;rw[u],by unfold cH;rw[u];simp⟩,rfl,λm w=>by cases w;exact Qc _,rfl,rfl⟩
 .subst Q;refine ao aD Tryz.func140 ?_;simp;exact⟨some 0,⟨rfl,rfl⟩,.inr rfl,rfl⟩
theorem fQ{P:Program}{fn:Func}(a:fn.results=#[]) (tmps:Array Value) (w:World):(results fn tmps).run P w=.ok (.tuple (([]:List Nat).map λt=>tmps.getD t undef).toArray) w:=by
 simp[results,a]
structure HS where
  sc:List Int
  row:List Int
  pl:List Int
def ap(q:HS):List SV:=[.own true 1 (ab q.sc),.own true 1 (ab q.row),.own true 1 (ab q.pl)]
def d8(q:HS):List PV:=[.seq false 1 (ab q.sc),.seq false 1 (ab q.row),.seq false 1 (ab q.pl)]
theorem iQ(l:List Int)(i:Nat)(x:Int):(ab l).set i [af x]=ab (l.set i x):=by simp[ab,T6]
theorem qV(q:HS)(a:0<q.sc.length):am Tryz.prog 174 [.iptr 3 [d8 q] 0 0] (λr=>r=.pv (BL true)):=by
 refine ao aD Tryz.func174 ?_;simp[d8,a]
def sP(q:HS)(v:Int):Bool:=decide (1<=v)&&decide (v<q.sc.length)
theorem HP(q:HS)(a:0<q.sc.length)(v:Int):am Tryz.prog 212 [.iptr 3 [d8 q] 0 0,af v] (λr=>r=.pv (BL (sP q v))):=by
 refine ao aD Tryz.func212 ?_;have h1:=qV q a;simp only[d8]at h1;simp[d8];refine ah.intro h1 ?_;simp[sP]
def Kc(q:HS)(v:Int):Int:=if sP q v then 0 else 10
theorem CH(q:HS)(b:0<q.sc.length)(v:Int):am Tryz.prog 209 [.iptr 3 [d8 q] 0 0,af v] (λr=>r=.pv (af (Kc q v))):=by
 refine ao aD Tryz.func209 ?_;have h1:=qV q b;have a:=HP q b v;simp only[d8]at h1 a;simp[d8];refine ah.intro h1 ?_;simp;refine ah.intro a ?_;simp[Kc]
theorem wF(q:HS)(e:0<q.sc.length)(d:q.pl.length=q.sc.length)(v:Int):am Tryz.prog 132 [.iptr 3 [d8 q] 0 0,af v] (λr=>r=.pv (BL (sP q v&&decide (0<=q.pl.getD v.toNat 0)))):=by
 refine ao aD Tryz.func132 ?_;have a:=HP q e v;simp only[d8]at a;simp[d8];refine ah.intro a ?_
 by_cases c:sP q v=true
 .have c2:=c;simp only[sP,Qj,Qs]at c2;have b:v.toNat<q.pl.length:=by omega
  simp[c,b];omega
 .simp[c]
theorem CI(q:HS)(a:0<q.sc.length):am Tryz.prog 100 [.iptr 3 [d8 q] 0 0] (λr=>r=.pv (af q.row.length)):=by
 refine ao aD Tryz.func100 ?_;have h1:=qV q a;simp only[d8]at h1;simp[d8];refine ah.intro h1 ?_;simp
def bY(q:HS):Int:=q.row.getD 0 0
theorem HQ(q:HS)(a:0<q.sc.length):am Tryz.prog 175 [.iptr 3 [d8 q] 0 0] (λr=>r=.pv (af (bY q))):=by
 refine ao aD Tryz.func175 ?_;have h1:=CI q a;simp only[d8]at h1;simp[d8];refine ah.intro h1 ?_;simp[bY];cases b:q.row with
 |nil=>simp
 |cons x xs=>simp
theorem sQ(q:HS)(v w:Nat)(a:v<q.sc.length)(b:w<q.sc.length):am Tryz.prog 251 [.iptr 3 [d8 q] 0 0,af v,af w] (λr=>r=.pv (BL (jO q.sc v w))):=by
 refine ao aD Tryz.func251 ?_;simp[d8,a,b,jO];constructor
 .intro c;simp[c]
 .intro c;simp[c]
theorem qW(h:List (List SV))(b:Nat)(q:HS)(d:h[b]?=some (ap q))(i v:Nat)(hi:i<q.row.length)(e:v<q.pl.length):
 ay Tryz.prog 176 [.ptr b 0,af i,af v] h (λr h'=>r=.pv (.tup [])∧h'=h.set b (ap ⟨q.sc,q.row.set i v,q.pl.set v i⟩)):=by
 refine uh [] aD Tryz.func176 (λ_ _=>fQ rfl _ _) ?_;obtain⟨c,a⟩:=P7.1 d;simp[a,c,ap,hi,e,iQ]
theorem gR{h:List (List SV)}{b:Nat}{x:List SV}(a:h[b]?=some x):h.set b x=h:=by
 apply Rt;intro i;rw[QB];split
 .rename_i e;subst e;rw[Qb (P7.1 a).1,a]
 .rfl
theorem pg{h:List (List SV)}{b:Nat}(a:b<h.length)(q:HS)(n:Nat):a8 (h.set b (ap q)) (n+1) b 0=.iptr 3 [d8 q] 0 0:=by
 simp[a8,a,ap,d8,frzC]
theorem gr{h:List (List SV)}{b:Nat}{q:HS}(d:h[b]?=some (ap q))(n:Nat):a8 h (n+1) b 0=.iptr 3 [d8 q] 0 0:=by
 obtain⟨c,a⟩:=P7.1 d;simp[a8,c,a,ap,d8,frzC]
theorem fT{h:List (List SV)}{b:Nat}(a:b<h.length)(x:List SV):(h.set b x)[b]?=some x:=by simp[a]
set_option maxRecDepth 16000 in
theorem HR(h:List (List SV))(b:Nat)(q:HS)(F:h[b]?=some (ap q))(i:Nat)(hi:i<q.row.length)(hin:tu q.row q.pl.length)(O:q.pl.length=q.sc.length)(hs:q.row.length<=1000000):
 ay Tryz.prog 210 [.ptr b 0,af i] h (λr h'=>r=.pv (.tup [])∧h'=h.set b (ap ⟨q.sc,(qo q.sc (q.row.getD i 0) i q.row q.pl).1,(qo q.sc (q.row.getD i 0) i q.row q.pl).2⟩)):=by
 refine uh [] aD Tryz.func210 (λ_ _=>fQ rfl _ _) ?_;obtain⟨a,y⟩:=P7.1 F;have M:=hin (q.row.getD i 0) (aZ hi);obtain⟨v,B⟩:=RL (show 0<=q.row.getD i 0 by omega);have f:q.row.getD i 0=(v:Int):=B;have C:q.row[i]=(v:Int):=by rw[←f];simp[hi]
 rw[f]at M⊢;have N:v<q.pl.length:=by omega
 simp[y,a,ap,hi,C];refine aH.intro (S:=λ(x:Nat×List Int×List Int)=>⟨[(0,.pv (.ptr b 0)),(1,.pv (af x.1)),(4,.pv (.fn (.func 251) [.ptr b 0] [])),(5,.pv (af v))],h.set b (ap ⟨q.sc,x.2.1,x.2.2⟩)⟩)
  (λx=>x.1<x.2.1.length∧x.2.1.length=q.row.length∧x.2.2.length=q.pl.length∧tu x.2.1 q.pl.length∧qo q.sc v x.1 x.2.1 x.2.2=qo q.sc v i q.row q.pl) (λx=>x.1) (i,q.row,q.pl) ?_ ?_ ?_
 .exact ai.keep (by simp) (gR F).symm
 .exact⟨hi,rfl,rfl,hin,rfl⟩
 .rintro⟨j,row,pl⟩ ⟨t,H,I,E,w⟩;dsimp only at t H I E w;rcases SF j with h0|h0
  .subst h0;have A:0<row.length:=t;simp[a,ap];refine ak.intro (qW _ b ⟨q.sc,row,pl⟩ (fT a _) 0 v A (by dsimp only;omega)) ?_;rintro _ _ ⟨rfl,rfl⟩;rw[←w];unfold qo;simp[ap]
  .obtain⟨k,rfl⟩:∃k,j=k+1:=⟨j -1,by omega⟩;obtain⟨p,hp,K⟩:∃p:Nat,Int.tdiv (k:Int) 2=(p:Int)∧p=k/2:=⟨k/2,rfl,rfl⟩;have D:aX ((k:Nat):Int)=(k:Int):=aq (by omega) (by omega);have g:aX ((p:Nat):Int)=(p:Int):=aq (by omega) (by omega);have d:p<row.length:=by omega
   have G:=E (row.getD p 0) (aZ d);obtain⟨u,L⟩:=RL (show 0<=row.getD p 0 by omega);have n:row.getD p 0=(u:Int):=L;have o:row[p]=(u:Int):=by rw[←n];simp[d]
   have z:=sQ ⟨q.sc,row,pl⟩ v u (by dsimp only;omega) (by dsimp only;omega);simp[a,ap,D,hp,g,d,o];rw[←ap.eq_1 ⟨q.sc,row,pl⟩,pg a];refine ak.introP z ?_;rw[ap.eq_1 ⟨q.sc,row,pl⟩];have m:=qW (h.set b (ap ⟨q.sc,row,pl⟩)) b ⟨q.sc,row,pl⟩ (fT a _) (k+1) v t (by dsimp only;omega);have e:=qW (h.set b (ap ⟨q.sc,row,pl⟩)) b ⟨q.sc,row,pl⟩ (fT a _) (k+1) u t (by dsimp only;omega)
   push_cast at m e
   have s:qo q.sc v (k+1) row pl=if jO q.sc v u=true then qo q.sc v p (row.set (k+1) u) (pl.set u (k+1:Nat))else(row.set (k+1) v,pl.set v (k+1:Nat)):=by
    rw[qo];have J:(k+1 -1)/2=p:=by omega
    simp only[J,n]
    by_cases c:jO q.sc v u=true
    .rw[dif_pos ⟨by omega,c⟩,Qb c];rfl
    .rw[dif_neg (λh=>c h.2),Qa c];rfl
   cases l:jO q.sc v u with
   |false=>
    simp[a,ap];refine ak.intro m ?_;rintro _ _ ⟨rfl,rfl⟩;rw[←w,s,l];simp[ap]
   |true=>
    simp[a,ap,D,hp,g,d,o];refine ak.intro e ?_;rintro _ _ ⟨rfl,rfl⟩;simp[D,hp,g];refine⟨(p,row.set (k+1) u,pl.set u (k+1:Nat)),by dsimp only;omega,⟨by dsimp only;simp;omega,by simpa using H,by simpa using I,?_,?_⟩,ai.keep ?_ ?_⟩
    .intro x hx;rcases RY hx with hx|hx
     .exact E x hx
     .omega
    .rw[←w,s,l];rfl
    .simp
    .simp[ap]
theorem qp(q:HS)(v w:Int)(e:0<=v∧v<q.sc.length)(f:0<=w∧w<q.sc.length):am Tryz.prog 251 [.iptr 3 [d8 q] 0 0,af v,af w] (λr=>r=.pv (BL (jO q.sc v w))):=by
 obtain⟨a,b⟩:=RL e.1;obtain⟨c,d⟩:=RL f.1;have:=sQ q a c (by omega) (by omega);rw[b,d];exact this
theorem yJ(h:List (List SV))(b:Nat)(q:HS)(d:h[b]?=some (ap q))(i:Nat)(v:Int)(hi:i<q.row.length)(e:0<=v∧v<q.pl.length):
 ay Tryz.prog 176 [.ptr b 0,af i,af v] h (λr h'=>r=.pv (.tup [])∧h'=h.set b (ap ⟨q.sc,q.row.set i v,q.pl.set v.toNat i⟩)):=by
 obtain⟨a,c⟩:=RL e.1;have:=qW h b q d i a hi (by omega);rw[c];exact this
def HT(sc row:List Int)(v:Int)(i:Nat):Int×Nat:=if 2*i+1<row.length∧jO sc (row.getD (2*i+1) 0) v=true then(row.getD (2*i+1) 0,2*i+1)else(v,i)
def CJ(sc row:List Int)(v:Int)(i:Nat):Nat->Int×Nat
 |0=>(v,i)
 |1=>HT sc row v i
 |_=>eZ sc row v i
theorem Kd(sc row:List Int)(v:Int)(i:Nat):eZ sc row v i=if 2*i+2<row.length∧jO sc (row.getD (2*i+2) 0) (HT sc row v i).1=true then(row.getD (2*i+2) 0,2*i+2)else HT sc row v i:=rfl
theorem HU{sc row:List Int}{v:Int}{i n:Nat}(hin:tu row n)(a:1<=v∧v<n)(hi:i<row.length):1<=(HT sc row v i).1∧(HT sc row v i).1<n∧(HT sc row v i).2<row.length:=by
 unfold HT;split
 .rename_i c;have:=hin _ (aZ c.1);exact⟨this.1,this.2,c.1⟩
 .exact⟨a.1,a.2,hi⟩
theorem yK{sc row:List Int}{v:Int}{i n:Nat}(hin:tu row n)(a:1<=v∧v<n)(hi:i<row.length):1<=(eZ sc row v i).1∧(eZ sc row v i).1<n∧(eZ sc row v i).2<row.length:=by
 rw[Kd];split
 .rename_i c;have:=hin _ (aZ c.1);exact⟨this.1,this.2,c.1⟩
 .exact HU hin a hi
set_option maxRecDepth 16000 in
theorem yL(h:List (List SV))(b:Nat)(q:HS)(N:h[b]?=some (ap q))(i:Nat)(hi:i<q.row.length)(hin:tu q.row q.pl.length)(Z:q.pl.length=q.sc.length)(hs:q.row.length<=1000000):
 ay Tryz.prog 177 [.ptr b 0,af i] h (λr h'=>r=.pv (.tup [])∧h'=h.set b (ap ⟨q.sc,(d7 q.sc (q.row.getD i 0) q.row.length i q.row q.pl).1,(d7 q.sc (q.row.getD i 0) q.row.length i q.row q.pl).2⟩)):=by
 refine uh [] aD Tryz.func177 (λ_ _=>fQ rfl _ _) ?_;obtain⟨d,E⟩:=P7.1 N;have O:=hin (q.row.getD i 0) (aZ hi);have J:q.row[i]=q.row.getD i 0:=by simp[hi]
 generalize W:q.row.getD i 0=v at*;simp[E,d,ap,hi,J];refine aH.intro (S:=λ(x:Nat×Nat×List Int×List Int)=>⟨[(0,.pv (.ptr b 0)),(1,.pv (af x.2.1)),(4,.pv (af v))],h.set b (ap ⟨q.sc,x.2.2.1,x.2.2.2⟩)⟩)
  (λx=>x.2.1<x.2.2.1.length∧x.2.2.1.length=q.row.length∧x.2.2.2.length=q.pl.length∧tu x.2.2.1 q.pl.length∧x.2.2.1.length<=x.2.1+x.1∧d7 q.sc v x.1 x.2.1 x.2.2.1 x.2.2.2=d7 q.sc v q.row.length i q.row q.pl) (λx=>x.1) (q.row.length,i,q.row,q.pl) ?_ ?_ ?_
 .exact ai.keep (by simp) (gR N).symm
 .exact⟨hi,rfl,rfl,hin,by dsimp only;omega,rfl⟩
 .rintro⟨n,j,row,pl⟩ ⟨D,P,Q,y,X,w⟩;dsimp only at D P Q y X w;have K:aX (2*(j:Int))=2*(j:Int):=aq (by omega) (by omega);have o:aX 1=1:=aq (by omega) (by omega);have p:aX 2=2:=aq (by omega) (by omega);obtain⟨c1,F⟩:∃c,c=2*j+1:=⟨_,rfl⟩;obtain⟨c2,G⟩:∃c,c=2*j+2:=⟨_,rfl⟩;have L:aX (2*(j:Int)+1)=(c1:Int):=by rw[aq (by omega) (by omega)];omega
  have M:aX (2*(j:Int)+2)=(c2:Int):=by rw[aq (by omega) (by omega)];omega
  have z:=HU (sc:=q.sc) (i:=j) y O D;have A:=yK (sc:=q.sc) (i:=j) y O D;have B:HT q.sc row v j=if c1<row.length∧jO q.sc (row.getD c1 0) v=true then(row.getD c1 0,c1)else(v,j):=by rw[F];rfl
  have C:eZ q.sc row v j=if c2<row.length∧jO q.sc (row.getD c2 0) (HT q.sc row v j).1=true then(row.getD c2 0,c2)else HT q.sc row v j:=by rw[G];rfl
  simp[K,L,M];refine aH.intro (S:=λ(t:Nat)=>⟨[(0,.pv (.ptr b 0)),(1,.pv (af j)),(4,.pv (af v)),(5,.pv (af (CJ q.sc row v j t).1)),(6,.pv (af (CJ q.sc row v j t).2)),(24,.pv (.agg [af c1,af c2])),(25,.pv (af t))],h.set b (ap ⟨q.sc,row,pl⟩)⟩)
   (λt=>t<=2) (λt=>2 -t) 0 ?_ ?_ ?_
  .exact ai.keep (by simp[CJ]) rfl
  .omega
  .intro t ht;have:t=0∨t=1∨t=2:=by omega
   rcases this with rfl|rfl|rfl
   .by_cases a:c1<row.length
    .have H:=y _ (aZ a);have m:row[c1]=row.getD c1 0:=by simp[a]
     generalize V:row.getD c1 0=u at*;have s:=qp ⟨q.sc,row,pl⟩ u v (by dsimp only;omega) (by dsimp only;omega);simp[d,ap,CJ,a,m];rw[←ap.eq_1 ⟨q.sc,row,pl⟩,pg d];refine ak.introP s ?_;rw[ap.eq_1 ⟨q.sc,row,pl⟩];cases l:jO q.sc u v with
     |false=>
      simp;refine⟨1,by dsimp only;omega,by dsimp only;omega,ai.keep ?_ (by simp[ap])⟩;simp[o,CJ,B,l]
     |true=>
      simp[d,a,m];refine⟨1,by dsimp only;omega,by dsimp only;omega,ai.keep ?_ (by simp[ap])⟩;simp[o,CJ,B,l,a]
    .simp[d,ap,CJ,a];refine⟨1,by dsimp only;omega,by dsimp only;omega,ai.keep ?_ (by simp[ap])⟩;simp[o,CJ,B,a]
   .generalize g:HT q.sc row v j=be at*;obtain⟨f,at'⟩:=be;dsimp only at z
    by_cases a:c2<row.length
    .have H:=y _ (aZ a);have m:row[c2]=row.getD c2 0:=by simp[a]
     generalize V:row.getD c2 0=u at*;have s:=qp ⟨q.sc,row,pl⟩ u f (by dsimp only;omega) (by dsimp only;omega);simp[d,ap,CJ,a,m,g];rw[←ap.eq_1 ⟨q.sc,row,pl⟩,pg d];refine ak.introP s ?_;rw[ap.eq_1 ⟨q.sc,row,pl⟩];cases l:jO q.sc u f with
     |false=>
      simp;refine⟨2,by dsimp only;omega,by dsimp only;omega,ai.keep ?_ (by simp[ap])⟩;simp[p,CJ,C,l]
     |true=>
      simp[d,a,m];refine⟨2,by dsimp only;omega,by dsimp only;omega,ai.keep ?_ (by simp[ap])⟩;simp[p,CJ,C,l,a]
    .simp[d,ap,CJ,a,g];refine⟨2,by dsimp only;omega,by dsimp only;omega,ai.keep ?_ (by simp[ap])⟩;simp[p,CJ,C,a]
   .have hn:n≠0:=by omega
    obtain⟨n,rfl⟩:∃k,n=k+1:=⟨n -1,by omega⟩;rw[d7]at w;clear B C z;generalize g:eZ q.sc row v j=be at*;obtain⟨f,at'⟩:=be;dsimp only at A w;have I:=yJ (h.set b (ap ⟨q.sc,row,pl⟩)) b ⟨q.sc,row,pl⟩ (fT d _) j f D (by dsimp only;omega);simp[d,ap,CJ,g];refine ak.intro I ?_;rintro _ _ ⟨rfl,rfl⟩
    by_cases c:at'=j
    .rw[Qb c]at w;simp[c,←w,ap]
    .rw[Qa c]at w;have R:¬(at':Int)=(j:Int):=by omega
     simp[c,R,d,ap,A,iQ];have U:j<at':=by
      rcases yI (sc:=q.sc) (row:=row) (v:=v) (i:=j)with⟨e,_⟩|⟨Y,e,_,_,T,_⟩
      .rw[g]at e;simp only[RC]at e;omega
      .rw[g]at e;simp only[RC]at e;omega
     refine⟨(n,at',(row.set j f).set at' v,pl.set f.toNat j),by dsimp only;omega,⟨?_,?_,?_,?_,?_,w⟩,ai.keep ?_ ?_⟩
     .dsimp only;simp only[Qz];omega
     .simpa using P
     .simpa using Q
     .intro x hx;rcases RY hx with hx|hx
      .rcases RY hx with hx|hx
       .exact y x hx
       .omega
      .omega
     .dsimp only;simp only[Qz];omega
     .simp
     .simp[ap]
end Go.AX
namespace Go.AX
set_option maxRecDepth 16000
open Go.Proofs
set_option linter.unusedSimpArgs false
theorem uT{sc:List Int}{v:Int}:∀(n i:Nat)(row pl:List Int),(d7 sc v n i row pl).1.length=row.length∧(d7 sc v n i row pl).2.length=pl.length
 |0,i,row,pl=>by simp[d7]
 |n+1,i,row,pl=>by
  rw[d7];split
  .simp
  .obtain⟨h1,a⟩:=uT (sc:=sc) (v:=v) n (eZ sc row v i).2 ((row.set i (eZ sc row v i).1).set (eZ sc row v i).2 v) (pl.set (eZ sc row v i).1.toNat i);rw[h1,a];simp
theorem qX{row:List Int}{n i:Nat}{x:Int}(h:tu row n)(hx:1<=x∧x<n):tu (row.set i x) n:=by
 intro y hy;rcases RY hy with hy|hy
 .exact h y hy
 .subst hy;exact hx
theorem yM{sc:List Int}{v:Int}{m:Nat}(a:1<=v∧v<m):∀(n i:Nat)(row pl:List Int),i<row.length->tu row m->tu (d7 sc v n i row pl).1 m
 |0,i,row,pl,hi,h=>qX h a
 |n+1,i,row,pl,hi,h=>by
  have hp:=yK (sc:=sc) (i:=i) h a hi;rw[d7];split
  .exact qX h ⟨hp.1,hp.2.1⟩
  .exact yM a n _ _ _ (by simp only[Qz];exact hp.2.2) (qX (qX h ⟨hp.1,hp.2.1⟩) a)
def iR(sc:List Int):Nat->List Int->List Int->List Int×List Int
 |0,row,pl=>(row,pl)
 |k+1,row,pl=>iR sc k (d7 sc (row.getD k 0) row.length k row pl).1 (d7 sc (row.getD k 0) row.length k row pl).2
theorem Ej(h:List (List SV))(b:Nat)(q:HS)(o:h[b]?=some (ap q))(hin:tu q.row q.pl.length)(A:q.pl.length=q.sc.length)(hs:q.row.length<=1000000):
 ay Tryz.prog 248 [.ptr b 0] h (λr h'=>r=.pv (.tup [])∧h'=h.set b (ap ⟨q.sc,(iR q.sc (q.row.length/2) q.row q.pl).1,(iR q.sc (q.row.length/2) q.row q.pl).2⟩)):=by
 refine uh [] aD Tryz.func248 (λ_ _=>fQ rfl _ _) ?_;obtain⟨a,g⟩:=P7.1 o;obtain⟨m,u,j⟩:∃p:Nat,Int.tdiv (q.row.length:Int) 2=(p:Int)∧p=q.row.length/2:=⟨q.row.length/2,rfl,rfl⟩;have w:aX (m:Int)=(m:Int):=aq (by omega) (by omega);have l:aX ((m:Int) -1)=(m:Int) -1:=aq (by omega) (by omega);rw[←j];simp[g,a,ap,u,w,l];refine aH.intro (S:=λ(x:Nat×List Int×List Int)=>⟨[(0,.pv (.ptr b 0)),(2,.pv (af ((x.1:Int) -1)))],h.set b (ap ⟨q.sc,x.2.1,x.2.2⟩)⟩)
  (λx=>x.1<=x.2.1.length∧x.2.1.length=q.row.length∧x.2.2.length=q.pl.length∧tu x.2.1 q.pl.length∧iR q.sc x.1 x.2.1 x.2.2=iR q.sc m q.row q.pl) (λx=>x.1) (m,q.row,q.pl) ?_ ?_ ?_
 .exact ai.keep (by simp) (gR o).symm
 .exact⟨by dsimp only;omega,rfl,rfl,hin,rfl⟩
 .rintro⟨k,row,pl⟩ ⟨y,z,t,e,f⟩;dsimp only at y z t e f;rcases SF k with h0|h0
  .subst h0;rw[←f];simp[a,ap,iR]
  .obtain⟨k,rfl⟩:∃i,k=i+1:=⟨k -1,by omega⟩;have n:aX ((k:Int) -1)=(k:Int) -1:=aq (by omega) (by omega);have c:=yL (h.set b (ap ⟨q.sc,row,pl⟩)) b ⟨q.sc,row,pl⟩ (fT a _) k (by dsimp only;omega) (by dsimp only;rw[t];exact e) (by dsimp only;omega) (by dsimp only;omega);have s:=uT (sc:=q.sc) (v:=row.getD k 0) row.length k row pl;have d:=yM (sc:=q.sc) (e _ (aZ (show k<row.length by omega))) row.length k row pl (by omega) e;rw[iR]at f;simp only[ap]at c;simp[a,ap];refine ak.intro c ?_;rintro _ _ ⟨rfl,rfl⟩;simp[n];refine⟨(k,_,_),by dsimp only;omega,⟨?_,?_,?_,d,f⟩,ai.keep ?_ ?_⟩
   .dsimp only;omega
   .dsimp only;omega
   .dsimp only;omega
   .simp
   .simp[ap]
def half(x:Int):Int:=aX (Int.tdiv x 2)
def gW(l:List Int)(i:Nat):List Int:=(l.take i).map half++l.drop i
theorem A8(l:List Int)(i:Nat):(gW l i).length=l.length:=by
 simp only[gW,Qh,Ql,Qg,QS];omega
theorem A9{l:List Int}{i:Nat}(h:i<l.length):(gW l i)[i]?=some l[i]:=by
 have a:((l.take i).map half).length=i:=by simp;omega
 rw[gW,Qp (by omega),a,RM,Rp];simp[h]
theorem yN{l:List Int}{i:Nat}(h:i<l.length):(gW l i).set i (half l[i])=gW l (i+1):=by
 have a:((l.take i).map half).length=i:=by simp;omega
 unfold gW;rw[Sm _ _ (by omega),a,RM,Rf h,QU h,QT,TT,QD];rfl
def cz(q:HS):HS:=⟨q.sc.map half,(iR (q.sc.map half) (q.row.length/2) q.row q.pl).1,(iR (q.sc.map half) (q.row.length/2) q.row q.pl).2⟩
theorem pZ(h:List (List SV))(b:Nat)(q:HS)(k:h[b]?=some (ap q))(o:0<q.sc.length)(hin:tu q.row q.pl.length)(n:q.pl.length=q.sc.length)(hs:q.row.length<=1000000)(p:q.sc.length<=1000000):
 ay Tryz.prog 169 [.ptr b 0] h (λr h'=>r=.pv (.tup [])∧h'=h.set b (ap (cz q))):=by
 refine uh [] aD Tryz.func169 (λ_ _=>fQ rfl _ _) ?_;obtain⟨a,l⟩:=P7.1 k;have h1:=qV q o;simp;rw[gr k];refine ak.introP h1 ?_;simp[l,a,ap];refine aH.intro (S:=λ(i:Nat)=>⟨[(0,.pv (.ptr b 0)),(10,.pv (af q.sc.length)),(11,.pv (af i))],h.set b (ap ⟨gW q.sc i,q.row,q.pl⟩)⟩)
  (λi=>i<=q.sc.length) (λi=>q.sc.length -i) 0 ?_ ?_ ?_
 .exact ai.keep (by simp) (by simp[gW,gR k])
 .omega
 .intro i hi
  by_cases c:i<q.sc.length
  .have s:=eq i;have g:=A8 q.sc i;have e:=A9 c;have d:(gW q.sc i)[i]'(by omega)=q.sc[i]:=by
    have:=P7.1 e;exact this.2
   have j:=yN c;unfold half at j;simp[a,ap,c,g,d,iQ];refine⟨i+1,by dsimp only;omega,by dsimp only;omega,ai.keep ?_ ?_⟩
   .simp[s]
   .simp[ap,j]
  .have:i=q.sc.length:=by omega
   subst this;have f:=Ej (h.set b (ap ⟨q.sc.map half,q.row,q.pl⟩)) b ⟨q.sc.map half,q.row,q.pl⟩ (fT a _) hin (by simpa using n) hs;have m:gW q.sc q.sc.length=q.sc.map half:=by simp[gW]
   simp only[ap]at f;simp[a,ap,m];refine ak.intro f ?_;rintro _ _ ⟨rfl,rfl⟩;simp[cz]
end Go.AX
namespace Go.AX
def eF(q:HS)(v by':Int):HS×Int:=
 if sP q v=false then(q,10)else if by'<0∨1000000000000<by' then(q,2)else
  let a:=q.sc.set v.toNat (q.sc.getD v.toNat 0+by')
  let b:HS:=if 0<=q.pl.getD v.toNat 0 then⟨a,(qo a (q.row.getD (q.pl.getD v.toNat 0).toNat 0) (q.pl.getD v.toNat 0).toNat q.row q.pl).1,(qo a (q.row.getD (q.pl.getD v.toNat 0).toNat 0) (q.pl.getD v.toNat 0).toNat q.row q.pl).2⟩else⟨a,q.row,q.pl⟩
  (if 1000000000000<b.sc.getD v.toNat 0 then cz b else b,0)
def d9(q:HS)(v:Int):HS×Int:=
 if sP q v=false then(q,10)else if 0<=q.pl.getD v.toNat 0 then(q,21)else
  (⟨q.sc,(qo q.sc v q.row.length (q.row++[v]) q.pl).1,(qo q.sc v q.row.length (q.row++[v]) q.pl).2⟩,0)
def eV(q:HS):HS×Int:=
 if bY q=0 then(q,0)else
  let w:=q.row.getD (q.row.length -1) 0
  let a:=(q.row.set 0 w).take (q.row.length -1)
  let b:=(q.pl.set w.toNat 0).set (bY q).toNat (-1)
  (if 0<q.row.length -1 then⟨q.sc,(d7 q.sc (a.getD 0 0) a.length 0 a b).1,(d7 q.sc (a.getD 0 0) a.length 0 a b).2⟩else⟨q.sc,a,b⟩,bY q)
def mS(n:Nat):HS:=⟨List.replicate (n+1) 0,(List.range n).map λi=>((i+1:Nat):Int),0::(List.range n).map λi=>((i:Nat):Int)⟩
structure HpG (n:Nat) (M:Int) (q:HS):Prop where
  sl:q.sc.length=n+1
  pll:q.pl.length=n+1
  nd:q.row.Nodup
  inr:tu q.row (n+1)
  plc:PL q.row q.pl
  out:∀u:Nat,1<=u->u<=n->¬(u:Int)∈q.row->q.pl.getD u 0=-1
  ho:HO q.sc q.row 0
  rng:∀x∈q.sc,0<=x∧x<=M
namespace HpG
variable {n : Nat} {M : Int} {q : HS}
theorem few(g:HpG n M q):q.row.length<=n:=by
 have := fi q.row ((List.range n).map λ i => ((i + 1 : Nat) : Int)) g.nd (λ x hx => by
  have:=g.inr x hx;rw[Qk];exact⟨(x -1).toNat,Ry.2 (by omega),by omega⟩)
 simpa using this
theorem isV_iff(g:HpG n M q){v:Int}:sP q v=true↔1<=v∧v<=n:=by
 simp only[sP,Qj,Qs,g.sl];omega
theorem place(g:HpG n M q){v:Int}(h:v∈q.row):∃i,i<q.row.length∧q.row.getD i 0=v∧q.pl.getD v.toNat 0=(i:Int):=by
 obtain⟨i,hi,e⟩:=HM h;exact⟨i,hi,e,by have:=g.plc i hi;rwa [e]at this⟩
theorem has_iff(g:HpG n M q){v:Int}(a:1<=v∧v<=n):0<=q.pl.getD v.toNat 0↔v∈q.row:=by
 constructor
 .intro h;apply QJ;intro hn;have:=g.out v.toNat (by omega) (by omega) (by rwa [show((v.toNat:Nat):Int)=v by omega]);omega
 .intro h;obtain⟨i,_,_,e⟩:=g.place h;rw[e];omega
theorem score(g:HpG n M q)(v:Nat):0<=q.sc.getD v 0∧(0<=M->q.sc.getD v 0<=M):=by
 by_cases h:v<q.sc.length
 .have:=g.rng _ (aZ h);exact⟨this.1,λ_=>this.2⟩
 .have:q.sc.getD v 0=0:=by simp[P9,h]
  rw[this];exact⟨by omega,λh=>h⟩
theorem first(g:HpG n M q):∀j,j<q.row.length->jO q.sc (q.row.getD j 0) (q.row.getD 0 0)=false:=by
 intro j
 induction j using Nat.strongRecOn with
 |_ j a=>
  intro hj;rcases SF j with h0|h0
  .subst h0;exact mM _ _
  .exact iP (g.ho j h0 hj (Qq _)) (a ((j -1)/2) (by omega) (by omega))
theorem peek_zero(g:HpG n M q):bY q=0↔q.row=[]:=by
 constructor
 .intro h;cases a:q.row with
  |nil=>rfl
  |cons x xs=>
   have:=g.inr x (by rw[a];simp);simp only[bY,a,RU]at h;omega
 .intro h;simp[bY,h]
theorem peek_mem(g:HpG n M q)(h:bY q≠0):bY q∈q.row:=by
 cases a:q.row with
 |nil=>exact absurd (g.peek_zero.2 a) h
 |cons x xs=>simp[bY,a]
end HpG
theorem uU{sc:List Int}:∀(k:Nat)(row pl:List Int),k<=row.length->row.Nodup->tu row pl.length->PL row pl->HO sc row k->DnOk sc row pl 0 (iR sc k row pl)
 |0,row,pl,_,_,_,hp,ho=>⟨Tp _,ho,hp,λ_ _=>rfl,rfl⟩
 |k+1,row,pl,hk,a,hin,hp,ho=>by
  have d:=sO (sc:=sc) (v:=row.getD k 0) (k:=k) row.length k row pl (by omega) (by omega) (Qc _) rfl a hin (λj hj _=>hp j hj)
   (λj b hj e g=>ho j b hj (by omega)) (λj _ _ _ h1 i=>by omega)
  have f:=d.perm.length_eq;have r:=uU k _ _ (by rw[f];omega) (d.perm.nodup_iff.2 a) (by rw[d.len];exactλx hx=>hin x (d.perm.mem_iff.1 hx)) d.plc d.ho;exact⟨r.perm.trans d.perm,r.ho,r.plc,λu c=>by rw[iR,r.out u (λh=>c (d.perm.mem_iff.1 h)),d.out u c],r.len.trans d.len⟩
theorem Ke{x:Int}(h:0<=x)(a:x<=4000000000000):half x=x/2:=by
 unfold half;have:Int.tdiv x 2=x/2:=TA h;rw[this,aq (by omega) (by omega)]
theorem ld{n:Nat}{M:Int}{q:HS}(g:HpG n (2*M) q)(h0:0<=M)(i:M<=1000000000000):HpG n M (cz q)∧(cz q).row.Perm q.row∧(cz q).sc=q.sc.map (·/2):=by
 have b:q.sc.map half=q.sc.map (·/2):=Sw λx hx=>by have:=g.rng x hx;exact Ke this.1 (by omega)
 have a:=uU (sc:=q.sc.map half) (q.row.length/2) q.row q.pl (by omega) g.nd (by rw[g.pll];exact g.inr) g.plc (λj h1 d f=>by omega);refine⟨⟨by simp[cz,g.sl],by simp only[cz];rw[a.len,g.pll],a.perm.nodup_iff.2 g.nd,λx hx=>g.inr x (a.perm.mem_iff.1 hx),a.plc,λu h1 d e=>?_,a.ho,λx hx=>?_⟩,a.perm,b⟩
 .have c:¬(u:Int)∈q.row:=λh=>e (a.perm.mem_iff.2 h);rw[show(cz q).pl.getD u 0=_ from a.out u c];exact g.out u h1 d c
 .simp only[cz,b,Qk]at hx;obtain⟨y,hy,rfl⟩:=hx;have:=g.rng y hy;omega
theorem HpG.mono{n:Nat}{M a:Int}{q:HS}(g:HpG n M q)(h:M<=a):HpG n a q:=⟨g.sl,g.pll,g.nd,g.inr,g.plc,g.out,g.ho,λx hx=>by have:=g.rng x hx;omega⟩
theorem HV{l:List Int}{i:Nat}:l.set i (l.getD i 0)=l:=by
 apply SG
 .simp
 .intro j b a;rw[UI];split
  .rename_i e;subst e;simp[P9,a]
  .rfl
def dU(q:HS)(v by':Int):HS:=
 if 0<=q.pl.getD v.toNat 0 then⟨q.sc.set v.toNat (q.sc.getD v.toNat 0+by'),(qo (q.sc.set v.toNat (q.sc.getD v.toNat 0+by')) (q.row.getD (q.pl.getD v.toNat 0).toNat 0) (q.pl.getD v.toNat 0).toNat q.row q.pl).1,(qo (q.sc.set v.toNat (q.sc.getD v.toNat 0+by')) (q.row.getD (q.pl.getD v.toNat 0).toNat 0) (q.pl.getD v.toNat 0).toNat q.row q.pl).2⟩else⟨q.sc.set v.toNat (q.sc.getD v.toNat 0+by'),q.row,q.pl⟩
theorem sR{n:Nat}{q:HS}(g:HpG n 1000000000000 q){v by':Int}(H:1<=v∧v<=n)(c2:¬(by'<0∨1000000000000<by')):
 HpG n (2*1000000000000) (dU q v by')∧(dU q v by').row.Perm q.row∧(dU q v by').sc=q.sc.set v.toNat (q.sc.getD v.toNat 0+by')∧(dU q v by').sc.getD v.toNat 0=q.sc.getD v.toNat 0+by':=by
 have E:v.toNat<q.sc.length:=by rw[g.sl];omega
 have N:=g.score v.toNat;have d:∀u:Nat,(q.sc.set v.toNat (q.sc.getD v.toNat 0+by')).getD u 0=if u=v.toNat then q.sc.getD v.toNat 0+by' else q.sc.getD u 0:=λu=>by
  rw[aY]
  by_cases e:u=v.toNat
  .rw[Qb ⟨e.symm,E⟩,Qb e]
  .rw[Qa (λh=>e h.1.symm),Qa e]
 have o:∀x∈q.sc.set v.toNat (q.sc.getD v.toNat 0+by'),0<=x∧x<=2*1000000000000:=λx hx=>by
  rcases RY hx with hx|hx
  .have:=g.rng x hx;omega
  .omega
 generalize r:q.sc.set v.toNat (q.sc.getD v.toNat 0+by')=c at*;have s:c.length=n+1:=by rw[←r,Qz,g.sl]
 have key:∀w:HS,w=(if 0<=q.pl.getD v.toNat 0 then⟨c,(qo c (q.row.getD (q.pl.getD v.toNat 0).toNat 0) (q.pl.getD v.toNat 0).toNat q.row q.pl).1,(qo c (q.row.getD (q.pl.getD v.toNat 0).toNat 0) (q.pl.getD v.toNat 0).toNat q.row q.pl).2⟩else⟨c,q.row,q.pl⟩)->
  HpG n (2*1000000000000) w∧w.row.Perm q.row∧w.sc=c:=by
  intro w l
  by_cases c3:0<=q.pl.getD v.toNat 0
  .rw[Qb c3]at l;obtain⟨i,hi,m,A⟩:=g.place ((g.has_iff H).1 c3);rw[A,Rm,m]at l;have b:q.row.set i v=q.row:=by rw[←m];exact HV
   have C:∀j,j<q.row.length->j≠i->q.row.getD j 0≠v:=λj hj k e=>k (dQ g.nd hj hi (by rw[e,m]));have a:∀j,j<q.row.length->j≠i->c.getD (q.row.getD j 0).toNat 0=q.sc.getD (q.row.getD j 0).toNat 0:=λj hj k=>by
    have h1:=g.inr _ (aZ hj);have p:=C j hj k;rw[d,Qa (by omega)]
   have D:=HN (sc:=c) (v:=v) i q.row q.pl hi (by rw[b];exact g.nd) (by rw[b,g.pll];exact g.inr) (by rw[b];exactλj hj _=>g.plc j hj)
    (λ j f hj k => by
     rw[b];have h1:=g.ho j f hj (Qq _);have p:=a j hj k
     by_cases e:(j -1)/2=i
     .rw[e,m]at h1⊢;rw[gQ]at h1⊢;rw[p,d,Qb rfl];omega
     .have L:=a ((j -1)/2) (by omega) e;rw[gQ]at h1⊢;rw[p,L];exact h1)
    (λ j f hj B z => by
     rw[b];have h1:=g.ho j f hj (Qq _);have M:=g.ho i z hi (Qq _);rw[B]at h1;have G:=iP h1 M;rw[gQ]at G⊢;rw[a j hj (by omega),a ((i -1)/2) (by omega) (by omega)];exact G)
   obtain⟨y,Q,R,J,S⟩:=D;rw[b]at y J;subst l;exact⟨⟨s,by dsimp only;rw[S,g.pll],y.nodup_iff.2 g.nd,λx hx=>g.inr x (y.mem_iff.1 hx),R,λu h1 p O=>by
    have t:¬(u:Int)∈q.row:=λh=>O (y.mem_iff.2 h);dsimp only;rw[J u t];exact g.out u h1 p t,Q,o⟩,y,rfl⟩
  .rw[Qa c3]at l;subst l;have F:¬v∈q.row:=λh=>c3 ((g.has_iff H).2 h);refine⟨⟨s,g.pll,g.nd,g.inr,g.plc,g.out,λj f hj hk=>?_,o⟩,Tp _,rfl⟩;have h1:=g.ho j f hj (Qq _);have a:∀j,j<q.row.length->c.getD (q.row.getD j 0).toNat 0=q.sc.getD (q.row.getD j 0).toNat 0:=λj hj=>by
    have h1:=g.inr _ (aZ hj);have p:q.row.getD j 0≠v:=λe=>F (by rw[←e];exact aZ hj);rw[d,Qa (by omega)]
   rw[gQ]at h1⊢;dsimp only at hj⊢;rw[a j hj,a ((j -1)/2) (by omega)];exact h1
 obtain⟨K,P,I⟩:=key (dU q v by') (by rw[←r];rfl);exact⟨K,P,I,by rw[I,d,Qb rfl]⟩
theorem uV{n:Nat}{q:HS}(g:HpG n 1000000000000 q)(v by':Int):HpG n 1000000000000 (eF q v by').1∧(eF q v by').1.row.Perm q.row∧
 ((eF q v by').2=0->(eF q v by').1.sc=(let s:=q.sc.set v.toNat (q.sc.getD v.toNat 0+by');if 1000000000000<q.sc.getD v.toNat 0+by' then s.map (·/2)else s))∧((eF q v by').2≠0->(eF q v by').1=q):=by
 unfold eF
 by_cases c1:sP q v=false
 .rw[Qb c1];exact⟨g,Tp _,λh=>absurd h (by simp),λ_=>rfl⟩
 rw[Qa c1]
 by_cases c2:by'<0∨1000000000000<by'
 .rw[Qb c2];exact⟨g,Tp _,λh=>absurd h (by simp),λ_=>rfl⟩
 rw[Qa c2];have f:=g.isV_iff.1 (by simpa using c1);obtain⟨a,d,c,b⟩:=sR g f c2
 change HpG n 1000000000000 ((if 1000000000000<(dU q v by').sc.getD v.toNat 0 then cz (dU q v by')else dU q v by',(0:Int))).1∧((if 1000000000000<(dU q v by').sc.getD v.toNat 0 then cz (dU q v by')else dU q v by',(0:Int))).1.row.Perm q.row∧(_->((if 1000000000000<(dU q v by').sc.getD v.toNat 0 then cz (dU q v by')else dU q v by',(0:Int))).1.sc=_)∧(¬(0:Int)=0->_)
 generalize dU q v by'=k at*
 rw[b];dsimp only
 by_cases c4:1000000000000<q.sc.getD v.toNat 0+by'
 .rw[Qb c4,Qb c4];obtain⟨g2,i,j⟩:=ld a (by omega) (by omega);exact⟨g2,i.trans d,λ_=>by rw[j,c],λh=>absurd rfl h⟩
 .rw[Qa c4,Qa c4];refine⟨⟨a.sl,a.pll,a.nd,a.inr,a.plc,a.out,a.ho,λx hx=>?_⟩,d,λ_=>c,λh=>absurd rfl h⟩;rw[c]at hx;have e:=g.score v.toNat;rcases RY hx with hx|hx
  .exact g.rng x hx
  .omega
theorem yO{n:Nat}{M:Int}{q:HS}(g:HpG n M q)(v:Int):HpG n M (d9 q v).1∧(d9 q v).1.sc=q.sc∧((d9 q v).2=0->(d9 q v).1.row.Perm (q.row++[v]))∧((d9 q v).2≠0->(d9 q v).1=q):=by
 unfold d9
 by_cases c1:sP q v=false
 .rw[Qb c1];exact⟨g,rfl,λh=>absurd h (by simp),λ_=>rfl⟩
 rw[Qa c1]
 by_cases c2:0<=q.pl.getD v.toNat 0
 .rw[Qb c2];exact⟨g,rfl,λh=>absurd h (by simp),λ_=>rfl⟩
 rw[Qa c2];have B:=g.isV_iff.1 (by simpa using c1);have p:¬v∈q.row:=λh=>c2 ((g.has_iff B).2 h);have c:(q.row++[v]).set q.row.length v=q.row++[v]:=by simp
 have i:(q.row++[v]).Nodup:=by
  rw[Ty];exact⟨g.nd,by simp,λa w b r=>by simp at r;subst r;exactλe=>p (e▸w)⟩
 have d:∀j,j<q.row.length->(q.row++[v]).getD j 0=q.row.getD j 0:=λj hj=>by
  rw[P9,Qd hj,←P9]
 have hin:tu (q.row++[v]) (n+1):=λx hx=>by
  rcases Qn.1 hx with hx|hx
  .exact g.inr x hx
  .simp at hx;omega
 have o:=HN (sc:=q.sc) (v:=v) q.row.length (q.row++[v]) q.pl (by simp) (by rw[c];exact i) (by rw[c,g.pll];exact hin)
  (by
   rw[c];intro j hj k;simp only[Qh,QA,List.length_nil]at hj
   by_cases e:j=q.row.length
   .subst e;exact absurd (by simp[P9]) k
   .rw[d j (by omega)];exact g.plc j (by omega))
  (λ j f hj k => by
   rw[c];simp only[Qh,QA,List.length_nil]at hj;rw[d j (by omega),d _ (by omega)];exact g.ho j f (by omega) (Qq _))
  (λj f hj z y=>by simp only[Qh,QA,List.length_nil]at hj;omega)
 obtain⟨m,C,D,s,E⟩:=o;rw[c]at m s;refine⟨⟨g.sl,by dsimp only;rw[E,g.pll],m.nodup_iff.2 i,λx hx=>hin x (m.mem_iff.1 hx),D,λu h1 t A=>?_,C,g.rng⟩,rfl,λ_=>m,λh=>absurd rfl h⟩;have l:¬(u:Int)∈q.row++[v]:=λh=>A (m.mem_iff.2 h);dsimp only;rw[s u l];exact g.out u h1 t (λh=>l (Rv _ h))
theorem Ek{n:Nat}{M:Int}{q:HS}(g:HpG n M q):HpG n M (eV q).1∧(eV q).1.sc=q.sc∧(eV q).2=bY q∧(bY q≠0->q.row.Perm (bY q::(eV q).1.row))∧(bY q=0->(eV q).1=q):=by
  unfold eV
  by_cases c1:bY q=0
  · rw[Qb c1];exact⟨g,rfl,c1.symm,λh=>absurd c1 h,λ_=>rfl⟩
  rw[Qa c1]
  have r:q.row≠[]:=λh=>c1 (g.peek_zero.2 h)
  have T:0<q.row.length:=Ru.2 r
  obtain⟨L,D⟩:∃L,q.row.length=L+1:=⟨q.row.length -1,by omega⟩
  have I:=g.peek_mem c1
  have H:q.row.getD 0 0=bY q:=rfl
  simp only[D,SZ]
  generalize N:q.row.getD L 0=w
  have B:w∈q.row:=by rw[←N];exact aZ (by omega)
  have W:=g.inr w B
  have U:=g.inr _ I
  -- what is left
  have a:q.row.Perm (bY q::(q.row.set 0 w).take L):=by
    have h1:q.row=(q.row.take L)++[w]:=by
      rw[←N]
      apply SG
      · simp;omega
      · intro j R a2
        rw[List.getElem_append]
        split
        · simp
        · rename_i hj
          simp only[Qg]at hj
          have:j=L:=by omega
          subst this
          simp[P9,R]
    rcases SF L with h0|h0
    · subst h0
      cases s:q.row with
      |nil=>exact absurd s r
      |cons x xs=>
        have hx:xs=[]:=by rw[s]at D;simpa using D
        subst hx
        simp[bY,s]
    · cases s:q.row with
      |nil=>exact absurd s r
      |cons x xs=>
        obtain⟨K,rfl⟩:∃K,L=K+1:=⟨L -1,by omega⟩
        rw[s]at h1
        simp only[TN,QW,Sp,U0]at h1
        have hx:bY q=x:=by simp[bY,s]
        simp only[TT,TN,hx]
        refine List.Perm.cons _ ?_
        conv=>lhs;rw[h1]
        exact List.perm_append_comm
  have G:((q.row.set 0 w).take L).length=L:=by simp[D]
  have b:=(a.nodup_iff.1 g.nd)
  rw[RQ]at b
  have l:∀x,x∈(q.row.set 0 w).take L↔x∈q.row∧x≠bY q:=λx=>by
    constructor
    · intro hx
      exact⟨a.mem_iff.2 (Qr _ hx),λe=>b.1 (e▸hx)⟩
    · rintro⟨h1,t⟩
      rcases QC.1 (a.mem_iff.1 h1)with F|F
      · exact absurd F t
      · exact F
  have i:tu ((q.row.set 0 w).take L) (n+1):=λx hx=>g.inr x ((l x).1 hx).1
  have d:∀j,0<j->j<L->((q.row.set 0 w).take L).getD j 0=q.row.getD j 0:=λj h0 hj=>by
    rw[P9,Sl hj,Qt (by omega),←P9]
  have m:∀u:Nat,1<=u->u<=n->¬(u:Int)∈(q.row.set 0 w).take L->((q.pl.set w.toNat 0).set (bY q).toNat (-1)).getD u 0=-1:=λu h1 t J=>by
    rw[aY,Qz,g.pll]
    by_cases e:(u:Int)=bY q
    · rw[Qb ⟨by omega,by omega⟩]
    · rw[Qa (by omega)]
      have A:¬(u:Int)∈q.row:=λh=>J ((l u).2 ⟨h,e⟩)
      rw[aY,Qa (λh=>A (by rw[show(u:Int)=w by omega];exact B))]
      exact g.out u h1 t A
  generalize V:(q.row.set 0 w).take L=c at*
  generalize y:(q.pl.set w.toNat 0).set (bY q).toNat (-1)=C at*
  have f:C.length=n+1:=by rw[←y];simp[g.pll]
  by_cases c2:0<L
  · rw[Qb c2]
    have hd:=sO (sc:=q.sc) (v:=c.getD 0 0) (k:=0) c.length 0 c C (by omega) (by omega) (Qc _) rfl b.2 (by rw[f];exact i)
      (λ j hj p => by
        have o:0<j:=by
          rcases SF j with h0|h0
          · subst h0;exact absurd rfl p
          · exact h0
        rw[d j o (by omega)]
        have h1:=g.inr _ (aZ (show j<q.row.length by omega))
        have O:q.row.getD j 0≠bY q:=λe=>by have:=dQ g.nd (show j<q.row.length by omega) T (by rw[e,H]);omega
        have P:q.row.getD j 0≠w:=λe=>by have:=dQ g.nd (show j<q.row.length by omega) (show L<q.row.length by omega) (by rw[e,N]);omega
        rw[←y,aY,Qa (by omega),aY,Qa (by omega)]
        exact g.plc j (by omega))
      (λ j o hj _ p => by
        rw[d j o (by omega),d _ (by omega) (by omega)]
        exact g.ho j o (by omega) (Qq _))
      (λj _ _ _ h1 _=>by omega)
    obtain⟨E,X,Y,Z,u5⟩:=hd
    refine⟨⟨g.sl,by dsimp only;rw[u5,f],E.nodup_iff.2 b.2,λx hx=>i x (E.mem_iff.1 hx),Y,λu h1 t J=>?_,X,g.rng⟩,rfl,(by first|rfl|trivial),λ_=>a.trans (E.symm.cons _),λh=>absurd h c1⟩
    have z:¬(u:Int)∈c:=λh=>J (E.mem_iff.2 h)
    dsimp only
    rw[Z u z];exact m u h1 t z
  · rw[Qa c2]
    have S:L=0:=by omega
    have Q:c=[]:=RW (by omega)
    refine⟨⟨g.sl,f,b.2,i,λj hj=>?_,m,λj h0 hj=>?_,g.rng⟩,rfl,(by first|rfl|trivial),λ_=>a,λh=>absurd h c1⟩
    · dsimp only at hj;omega
    · dsimp only at hj;omega
theorem HW(n:Nat):HpG n 1000000000000 (mS n):=by
 have a:∀j,j<n->((List.range n).map λi=>((i+1:Nat):Int)).getD j 0=((j+1:Nat):Int):=λj hj=>by simp[P9,hj]
 refine⟨by simp[mS],by simp[mS],?_,λx hx=>?_,λj hj=>?_,λu h1 f d=>?_,λj c hj _=>?_,λx hx=>?_⟩
 .simp only[mS];unfold List.Nodup;rw[QV];intro i j hi hj b e;simp at e;omega
 .simp only[mS,Qk,Ry]at hx;obtain⟨i,hi,rfl⟩:=hx;omega
 .simp only[mS,Ql,List.length_range]at hj⊢;rw[a j hj,Rm,P9,R9];simp[hj]
 .exfalso;apply d;simp only[mS,Qk,Ry];exact⟨u -1,by omega,by omega⟩
 .simp only[mS,Ql,List.length_range]at hj⊢;rw[a j hj,a _ (by omega),gQ];right;refine⟨?_,by omega⟩;simp only[P9,UF];rw[Qb (by omega),Qb (by omega)]
 .simp only[mS]at hx;have:=SE hx;omega
end Go.AX
namespace Go.AX
open Go.Proofs
set_option linter.unusedSimpArgs false
theorem sS(s r p:List Int):[SV.own true 1 (ab s),SV.own true 1 (ab r),SV.own true 1 (ab p)]=ap ⟨s,r,p⟩:=rfl
theorem ml{l:List Int}{i:Nat}(h:i<l.length):l[i]=l.getD i 0:=by simp[h]
theorem HX{q:HS}{v by':Int}(h:sP q v=false):eF q v by'=(q,10):=by unfold eF;rw[Qb h]
theorem El{q:HS}{v by':Int}(h:sP q v=true)(a:by'<0∨1000000000000<by'):eF q v by'=(q,2):=by unfold eF;rw[Qa (by rw[h];simp),Qb a]
theorem Em{q:HS}{v by':Int}(h:sP q v=true)(a:¬(by'<0∨1000000000000<by')):eF q v by'=(if 1000000000000<(dU q v by').sc.getD v.toNat 0 then cz (dU q v by')else dU q v by',0):=by
 unfold eF;rw[Qa (by rw[h];simp),Qa a];rfl
set_option maxRecDepth 16000 in
theorem yP(h:List (List SV))(b:Nat)(q:HS)(O:h[b]?=some (ap q)){n:Nat}(g:HpG n 1000000000000 q)(hn:n<=100000)(v by':Int):
 ay Tryz.prog 129 [.ptr b 0,af v,af by'] h (λr h'=>r=.pv (af (eF q v by').2)∧h'=h.set b (ap (eF q v by').1)):=by
 refine m7 aD Tryz.func129 ?_;obtain⟨a,Q⟩:=P7.1 O;have hq:0<q.sc.length:=by rw[g.sl];omega
 have X:=CH q hq v;generalize y:eF q v by'=BS
 simp;rw[gr O];refine ak.introP X ?_;unfold Kc;cases I:sP q v with
 |false=>
  have e:=y.symm.trans (HX I);subst e;simp[gR O]
 |true=>
  have M:=g.isV_iff.1 I;have K:v.toNat<q.sc.length:=by rw[g.sl];omega
  have L:v.toNat<q.pl.length:=by rw[g.pll];omega
  have k:0<=v:=by omega
  have V:v<(q.sc.length:Int):=by rw[g.sl];omega
  have W:v<(q.pl.length:Int):=by rw[g.pll];omega
  have ad:=g.score v.toNat;obtain⟨f,E⟩:∃x,x=q.sc.getD v.toNat 0:=⟨_,rfl⟩;obtain⟨H,t⟩:∃x,x=q.pl.getD v.toNat 0:=⟨_,rfl⟩;have R:q.sc[v.toNat]=f:=by rw[E];exact ml K
  have T:q.pl[v.toNat]=H:=by rw[t];exact ml L
  simp[a,Q,ap,K,k,V,R,iQ];refine⟨λc=>?_,λc1 c2=>?_⟩
  .have e:=y.symm.trans (El I c);subst e;simp[sS,gR O]
  have c3:¬(by'<0∨1000000000000<by'):=λh=>h.elim (λh=>TX.2 c1 h) (λh=>TX.2 c2 h);have e:=y.symm.trans (Em I c3);clear y;subst e;obtain⟨F,w⟩:∃F,(if 1000000000000<(dU q v by').sc.getD v.toNat 0 then cz (dU q v by')else dU q v by')=F:=⟨_,rfl⟩;rw[w];have Y:aX (f+by')=f+by':=aq (by omega) (by omega)
  have N:dU q v by'=if 0<=H then⟨q.sc.set v.toNat (f+by'),(qo (q.sc.set v.toNat (f+by')) (q.row.getD H.toNat 0) H.toNat q.row q.pl).1,(qo (q.sc.set v.toNat (f+by')) (q.row.getD H.toNat 0) H.toNat q.row q.pl).2⟩else⟨q.sc.set v.toNat (f+by'),q.row,q.pl⟩:=by
   rw[E,t];rfl
  have j:=wF ⟨q.sc.set v.toNat (f+by'),q.row,q.pl⟩ (by simpa using hq) (by dsimp only;rw[Qz,g.pll,g.sl]) v;have U:sP ⟨q.sc.set v.toNat (f+by'),q.row,q.pl⟩ v=true:=by unfold sP at I⊢;simpa using I
  rw[U]at j;rw[Y];dsimp only at j;rw[←t]at j;rw[sS,pg a];refine ak.introP j ?_;have aa:q.row.length<=n:=g.few;obtain⟨d,p1,s1,A⟩:=sR g M c3;rw[←E]at A s1;rw[A]at w
  by_cases c5:0<=H
  .obtain⟨i,hi,J,D⟩:=g.place ((g.has_iff M).1 (by rw[←t];exact c5));rw[←t]at D;have hin:tu q.row q.pl.length:=by rw[g.pll];exact g.inr
   have u:=HR (h.set b (ap ⟨q.sc.set v.toNat (f+by'),q.row,q.pl⟩)) b ⟨q.sc.set v.toNat (f+by'),q.row,q.pl⟩ (fT a _) i hi hin (by dsimp only;rw[Qz,g.pll,g.sl]) (by dsimp only;omega);rw[Qb c5,D,Rm,J]at N;dsimp only at u;rw[J]at u;rw[←D]at u;simp only[ap]at u;simp[a,ap,c5,L,k,W,T];refine ak.intro u ?_;rintro _ _ ⟨rfl,rfl⟩;simp;have P:ap (dU q v by')=[.own true 1 (ab (q.sc.set v.toNat (f+by'))),.own true 1 (ab (qo (q.sc.set v.toNat (f+by')) v i q.row q.pl).1),.own true 1 (ab (qo (q.sc.set v.toNat (f+by')) v i q.row q.pl).2)]:=by rw[N];rfl
   rw[←P];generalize dU q v by'=B at*
   refine aH.intro (S:=λ(x:Nat)=>⟨[(0,.pv (.ptr b 0)),(1,.pv (af v))],h.set b (ap (if x=0 then B else cz B))⟩) (λx=>x=0∨x=1∧1000000000000<f+by') (λx=>1 -x) 0 ?_ (.inl rfl) ?_
   .exact ai.keep (by simp) (by simp)
   .have l:v.toNat<B.sc.length:=by rw[d.sl];omega
    have m:v<(B.sc.length:Int):=by rw[d.sl];omega
    have C:B.sc[v.toNat]=f+by':=by rw[←A];exact ml l
    rintro x (rfl|⟨rfl,hx⟩)
    .have s:=pZ (h.set b (ap B)) b B (fT a _) (by rw[d.sl];omega) (by rw[d.pll];exact d.inr) (by rw[d.pll,d.sl]) (by have:=d.few;omega) (by rw[d.sl];omega);simp only[ap]at s;simp[a,ap,l,m,k,C];refine⟨λc=>?_,λc=>?_⟩
     .refine ak.intro s ?_;rintro _ _ ⟨rfl,rfl⟩;simp;exact⟨1,by dsimp only;omega,.inr ⟨rfl,c⟩,ai.keep (by simp) (by simp[ap])⟩
     .rw[Qa (TX.2 c)]at w;rw[w]
    .obtain⟨g2,p2,s2⟩:=ld d (by omega) (by omega);have o:v.toNat<(cz B).sc.length:=by rw[g2.sl];omega
     have p:v<((cz B).sc.length:Int):=by rw[g2.sl];omega
     obtain⟨z,hz⟩:∃z,(cz B).sc[v.toNat]=z:=⟨_,rfl⟩;have Z:=g2.rng z (by rw[←hz];exact Qe o);have G:¬1000000000000<z:=by omega
     simp[a,ap,o,p,k,hz,G];rw[Qb hx]at w;rw[w]
  .rw[Qa c5]at N;simp[c5];rw[←N];generalize dU q v by'=B at*
   refine aH.intro (S:=λ(x:Nat)=>⟨[(0,.pv (.ptr b 0)),(1,.pv (af v))],h.set b (ap (if x=0 then B else cz B))⟩) (λx=>x=0∨x=1∧1000000000000<f+by') (λx=>1 -x) 0 ?_ (.inl rfl) ?_
   .exact ai.keep (by simp) (by simp)
   .have l:v.toNat<B.sc.length:=by rw[d.sl];omega
    have m:v<(B.sc.length:Int):=by rw[d.sl];omega
    have C:B.sc[v.toNat]=f+by':=by rw[←A];exact ml l
    rintro x (rfl|⟨rfl,hx⟩)
    .have s:=pZ (h.set b (ap B)) b B (fT a _) (by rw[d.sl];omega) (by rw[d.pll];exact d.inr) (by rw[d.pll,d.sl]) (by have:=d.few;omega) (by rw[d.sl];omega);simp only[ap]at s;simp[a,ap,l,m,k,C];refine⟨λc=>?_,λc=>?_⟩
     .refine ak.intro s ?_;rintro _ _ ⟨rfl,rfl⟩;simp;exact⟨1,by dsimp only;omega,.inr ⟨rfl,c⟩,ai.keep (by simp) (by simp[ap])⟩
     .rw[Qa (TX.2 c)]at w;rw[w]
    .obtain⟨g2,p2,s2⟩:=ld d (by omega) (by omega);have o:v.toNat<(cz B).sc.length:=by rw[g2.sl];omega
     have p:v<((cz B).sc.length:Int):=by rw[g2.sl];omega
     obtain⟨z,hz⟩:∃z,(cz B).sc[v.toNat]=z:=⟨_,rfl⟩;have Z:=g2.rng z (by rw[←hz];exact Qe o);have G:¬1000000000000<z:=by omega
     simp[a,ap,o,p,k,hz,G];rw[Qb hx]at w;rw[w]
end Go.AX
namespace Go.AX
set_option maxRecDepth 16000
open Go.Proofs
set_option linter.unusedSimpArgs false
theorem EA(rows:List (List Int))(k:FuncId)(cap:List PV)(p:List Int->Bool)(m:rows.length<=140737488355328)(d:∀r,em r cap=cap)(b:∀n,bP n cap)(hp:jk cap=false)(f:∀x∈rows,am Tryz.prog k (.seq false 1 (ab x)::cap) (λr=>r=.pv (BL (p x)))):
 am Tryz.prog 202 [.seq false 1 (rows.map az),.fn (.func k) [] cap] (λr=>r=.pv (af (gG p rows))):=by
 refine ao aD Tryz.func202 ?_;simp;refine aH.intro (S:=λ(i:Nat)=>⟨[(0,.pv (.seq false 1 (rows.map az))),(1,.pv (.fn (.func k) [] cap)),(7,.pv (af rows.length)),(8,.pv (af i))],[]⟩) (λi=>i<=rows.length∧∀j (hj:j<rows.length),j<i->p rows[j]=false) (λi=>rows.length -i) 0 ?_ ?_ ?_
 .exact ai.to (by simp) (by simp) (by simp) (by simp[b]) (by simp)
 .exact⟨by omega,λj hj h=>by omega⟩
 .intro i ⟨hi,ho⟩
  by_cases h:i<rows.length
  .have l:=eq i;have a:=f rows[i] (Qe h);simp[h,hp,d,az];refine ah.intro a ?_;simp;refine⟨λc=>by rw[gx h ho c],λc=>⟨i+1,by dsimp only;omega,⟨by omega,λj hj g=>?_⟩,ai.to ?_ (by simp) (by simp) (by simp[b]) (by simp)⟩⟩
   .by_cases e:j=i
    .subst e;exact c
    .exact ho j hj (by omega)
   .simp[l,az]
  .simp[h];rw[eJ (λj hj=>ho j hj (by omega))]
theorem EB(l:Int):(gt l).1=ae l∧(ae l≠0->(gt l).2=decide (0<l)):=by
 unfold gt ae du
 by_cases c:cK l=true
 .obtain⟨h1,a,b⟩:=(aW l).1 c;rw[Qb c]
  by_cases d:l<0
  .rw[Qa (by omega),Qb ⟨d,a⟩,Qb d];exact⟨rfl,λ_=>(RX (by omega)).symm⟩
  .rw[Qb ⟨by omega,b⟩,Qa d];exact⟨rfl,λ_=>(Sn (by omega)).symm⟩
 .have hn:¬(l≠0∧-100000<=l∧l<=100000):=λh=>c ((aW l).2 h);rw[Qa c,Qa (by omega),Qa (by omega)];exact⟨rfl,λh=>absurd rfl h⟩
theorem EC(l:Int)(m:List Bool):am Tryz.prog 264 [af l,.iptr 1 [[.seq false 1 (ea m)]] 0 0] (λr=>r=.pv (BL (jQ m l))):=by
 refine ao aD Tryz.func264 ?_;simp;refine ah.intro (aG l) ?_;obtain⟨e,f⟩:=EB l;have hin:=Et l;unfold jQ;rw[e]at hin⊢;generalize ae l=v at*;obtain⟨n,rfl⟩:=RL hin.1;rcases SF n with h0|h0
 .subst h0;simp
 obtain⟨k,rfl⟩:∃k,n=k+1:=⟨n -1,by omega⟩;rw[f (by omega)];have c:aX (k:Int)=(k:Int):=aq (by omega) (by omega);have d:¬(k:Int)+1=0:=by omega
 have b:(0:Int)<(k:Int)+1:=by omega
 by_cases hk:k<m.length
 .have hle:(k:Int)+1<=(m.length:Int):=by omega
  have a:k+1<=m.length:=by omega
  simp[d,hk,hle,a,c,b]
 .have hle:¬(k:Int)+1<=(m.length:Int):=by omega
  have a:¬k+1<=m.length:=by omega
  simp[d,hk,hle,a,c,b]
theorem ED(c:List Int)(m:List Bool)(a:c.length<=1000000):am Tryz.prog 203 [.seq false 1 (ab c),.iptr 1 [[.fn (.func 264) [] [.iptr 1 [[.seq false 1 (ea m)]] 0 0]]] 0 0] (λr=>r=.pv (BL (!d0 c m))):=by
 refine ao aD Tryz.func203 ?_;simp;refine ah.intro (dM c a 264 [.iptr 1 [[.seq false 1 (ea m)]] 0 0] (jQ m) (by simp) (by simp) (by simp) (λx _=>EC x m)) ?_;simp[d0]
theorem EE(m:List Bool)(h:List (List SV)):ay Tryz.prog 201 [.seq false 1 (ea m)] h (λr h'=>r=.pv (.fn (.func 264) [] [.ptr h.length 0])∧h'=h++[[.pv (.seq false 1 (ea m))]]):=by
 refine m7 aD Tryz.func201 ?_;simp
theorem Ix(v:Int)(L:List (List Int))(m:List Bool)(b:L.length<=140737488355328)(d:∀x∈L,x.length<=1000000):am Tryz.prog 121 [.agg [af v,.seq false 1 (L.map az)],.seq false 1 (ea m)] (λr=>r=.pv (af (wG L m))):=by
 refine ao aD Tryz.func121 ?_;simp;refine ah.introM (EE m _) ?_;rintro _ _ ⟨rfl,rfl⟩;simp;have a:a8 [[.pv (af v),.pv (.seq false 1 (L.map az))],[.pv (.seq false 1 (ea m))],[.pv (.fn (.func 264) [] [.ptr 1 0])]] 3 2 0=.iptr 1 [[.fn (.func 264) [] [.iptr 1 [[.seq false 1 (ea m)]] 0 0]]] 0 0:=by simp[a8]
 rw[a];refine⟨rfl,ah.intro (EA L 203 [.iptr 1 [[.fn (.func 264) [] [.iptr 1 [[.seq false 1 (ea m)]] 0 0]]] 0 0] (λc=>!d0 c m) b (by simp) (by simp) (by simp) (λx hx=>ED x m (d x hx))) ?_⟩;simp[wG]
theorem Iy(v:Int)(L:List (List Int))(m:List Bool)(b:L.length<=140737488355328)(d:∀x∈L,x.length<=1000000):am Tryz.prog 59 [.agg [af v,.seq false 1 (L.map az)],.seq false 1 (ea m)] (λr=>r=.pv (BL (decide ((m.length:Int)=v)&&decide (∀c∈L,d0 c m=true)))):=by
 refine ao aD Tryz.func59 ?_;have a:=Ix v L m b d;have hn:=Bd L m;simp;refine aO.intro (λ_=>a) ?_;simp[hn]
end Go.AX