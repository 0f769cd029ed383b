/-
  Contracts: slices.Compact of numbers; and what follows.
-/
import Derived.Test.YtepodadinenmnaaGreatS14AxRfA
import Derived.Test.YtepodadinenmnaaGreatS14AxEvC
import Derived.Test.YtepodadinenmnaaGreatAxOw
import Derived.Test.YtepodadinenmnaaGreatS14AxHpP
import Derived.Test.YtepodadinenmnaaGreatS14AxMovR
namespace Go.AX
open Go.Proofs
set_option linter.unusedSimpArgs false
def aM(zs:List Int):Nat->List Int
 |0=>[]
 |j+1=>if j=0∨zs.getD j 0≠zs.getD (j -1) 0 then aM zs j++[zs.getD j 0]else aM zs j
def cq(zs:List Int):List Int:=aM zs zs.length
theorem gF(zs:List Int):∀j,(aM zs j).length<=j
 |0=>SQ _
 |j+1=>by
  have:=gF zs j;rw[aM];split
  .rw[SX,TZ];omega
  .omega
theorem tm(zs:List Int):∀j,0<j->0<(aM zs j).length
 |0,h=>by omega
 |1,_=>by rw[aM,SN (.inl rfl)];simp
 |j+2,_=>by
  have:=tm zs (j+1) (by omega);rw[aM];split
  .rw[SX];omega
  .exact this
def NK(zs:List Int)(k:Option Nat)(rows:List (List PV)):Prop:=k=some (cq zs).length∧rows=aB (cq zs++List.replicate (zs.length -(cq zs).length) 0)
theorem oF(zs:List Int)(W:zs.length<=1000000):qv Tryz.prog 140 1 (aB zs) [] (NK zs):=by
 refine qv.ofInts (by kernel_rfl) trivial trivial (λz pre a cp P R=>?_) (λQ q cp=>?_)
 .refine mB aC Tryz.func140 ?_
  by_cases c2:zs.length<2
  .have r:(zs.length:Int)<2:=by omega
   simp[c2,r];have h1:zs.length=1:=by
    have:=Up.2 z;omega
   have G:cq zs=zs:=by
    unfold cq;rw[h1,aM,SN (.inl rfl),aM,Tz]
    match zs,h1 with
    |[x],_=>rfl
   exact⟨some zs.length,zs,⟨by rw[G],by rw[G];simp⟩,rfl,λm w=>by cases w;exact SQ _,rfl,rfl⟩
  have r:¬(zs.length:Int)<2:=by omega
  simp[c2,r];refine aF.intro (S:=λ(k:Nat)=>⟨[(0,.pv (.bsl 0 1 pre.length zs.length cp)),(3,.pv (ab k))],[blk pre zs a]⟩) (λk=>1<=k∧k<=zs.length∧aM zs k=zs.take k) (λk=>zs.length -k) 1 ?_ ⟨SQ _,by omega,?_⟩ ?_
  .exact ai.to (by simp) rfl (by simp) (by simp) (by simp[fN])
  .rw[aM,SN (.inl rfl),aM,Tz]
   match zs,z with
   |x::l,_=>rfl
  .rintro k ⟨h1,G,u⟩;have e:=eG pre zs a
   by_cases ck:k<zs.length
   .have T:=dZ k;have I:aY ((k:Int) -1)=((k -1:Nat):Int):=by rw[ao (by omega) (by omega)];omega
    have g:=lr pre zs a (i:=k) ck;have o:=lr pre zs a (i:=k -1) (by omega);have E:zs.getD k 0=zs[k]:=by simp[ck]
    have F:zs.getD (k -1) 0=zs[k -1]:=by simp[show k -1<zs.length by omega]
    have f:aM zs (k+1)=if zs[k]≠zs[k -1]then aM zs k++[zs[k]]else aM zs k:=by
     rw[aM,E,F]
     by_cases d:zs[k]≠zs[k -1]
     .rw[SN (.inr d),SN d]
     .rw[SM (λh=>h.elim (by omega) d),SM d]
    simp[ck,I,g,o,e];refine⟨by omega,by omega,by omega,λd=>⟨⟨by omega,by omega⟩,?_⟩,λd=>⟨k+1,by(try dsimp only);omega,⟨by omega,by omega,?_⟩,ai.to (by simp[T]) rfl (by simp) (by simp) (by simp[fN])⟩⟩;rotate_left
    .rw[f,SN d,u,T4,SH ck];rfl
    rw[SM (λh=>h d),u]at f;refine aF.intro (S:=λ(y:Nat×List Int)=>⟨[(0,.pv (.bsl 0 1 pre.length zs.length cp)),(3,.pv (ab ((aM zs (k+y.1)).length:Nat))),(4,.pv (.bsl 0 1 (pre.length+k) (zs.length -k) (cp -k))),(5,.pv (ab y.1))],[blk pre y.2 a]⟩)
     (λy=>1<=y.1∧k+y.1<=zs.length∧(aM zs (k+y.1)).length<k+y.1∧y.2.length=zs.length∧y.2.take (aM zs (k+y.1)).length=aM zs (k+y.1)∧y.2.drop (k+y.1 -1)=zs.drop (k+y.1 -1)) (λy=>zs.length -y.1) (1,zs) ?_ ?_ ?_
    .refine ai.to ?_ rfl (by simp) (by simp) (by simp[fN]);have:(aM zs (k+1)).length=k:=by rw[f,SU];omega
     simp[this]
    .have:(aM zs (k+1)).length=k:=by rw[f,SU];omega
     refine⟨SQ _,by dsimp only;omega,by dsimp only;omega,rfl,?_,rfl⟩;dsimp only;rw[this,f]
    .rintro⟨j,b⟩ ⟨U,V,i3,K,B,C⟩;dsimp only at U V i3 K B C;have e:=eG pre b a
     by_cases L:k+j<zs.length
     .have N:(j:Int)<((zs.length -k:Nat):Int):=by omega
      have H:aY ((j:Int) -1)=((j -1:Nat):Int):=by rw[ao (by omega) (by omega)];omega
      have v:=dZ j;have p:∀i (h:i<zs.length),k+j -1<=i->b[i]'(by omega)=zs[i]:=by
       intro i h hi;have:=Vk (λl=>l[i -(k+j -1)]?) C;simp only[T5]at this;rw[show k+j -1+(i -(k+j -1))=i by omega,SH (by omega),SH h]at this;exact VC this
      have g:=lr pre b a (i:=k+j) (by omega);have o:=lr pre b a (i:=k+(j -1)) (by omega);rw[p (k+j) L (by omega),←UN]at g;have O:b[k+(j -1)]'(by omega)=zs[k+(j -1)]:=p _ (by omega) (by omega);rw[O,←UN]at o;have E:zs.getD (k+j) 0=zs[k+j]:=by simp[L]
      have F:zs.getD (k+j -1) 0=zs[k+(j -1)]:=by
       have:k+j -1=k+(j -1):=by omega
       rw[this];simp[show k+(j -1)<zs.length by omega]
      have c:aM zs (k+(j+1))=if zs[k+j]≠zs[k+(j -1)]then aM zs (k+j)++[zs[k+j]]else aM zs (k+j):=by
       rw[←UN,aM,E,F]
       by_cases d:zs[k+j]≠zs[k+(j -1)]
       .rw[SN (.inr d),SN d]
       .rw[SM (λh=>h.elim (by omega) d),SM d]
      have s:j<zs.length -k:=by omega
      have D:j -1<zs.length -k:=by omega
      simp[s,D,H,g,o,e];refine⟨by omega,by omega,λd=>?_,λd=>?_⟩
      .rw[SN d]at c;have J:=dZ ((aM zs (k+j)).length);have A:=xt pre b a (i:=(aM zs (k+j)).length) zs[k+j] (by omega);refine⟨by omega,by omega,by omega,(j+1,b.set (aM zs (k+j)).length zs[k+j]),by(try dsimp only);omega,⟨by(try dsimp only);omega,by(try dsimp only);omega,?_,by(try dsimp only);rw[Ti];exact K,?_,?_⟩,ai.to (by simp[v,J,c]) (by simp[A]) (by simp) (by simp) (by simp[fN])⟩
       .dsimp only;rw[c,SX,TZ];omega
       .dsimp only;rw[c,SX,TZ,T4,Wv (SQ _),B,Tu (by omega)];rfl
       .dsimp only;rw[V0 (by omega)];have:=Vk (List.drop 1) C;rw[Ue,Ue]at this
        rwa [show k+j -1+1=k+(j+1) -1 by omega]at this
      .rw[SM (λh=>h d)]at c;exact⟨(j+1,b),by(try dsimp only);omega,⟨by(try dsimp only);omega,by(try dsimp only);omega,by(try dsimp only);rw[c];omega,K,by(try dsimp only);rw[c];exact B,by
        dsimp only;have:=Vk (List.drop 1) C;rw[Ue,Ue]at this
        rwa [show k+j -1+1=k+(j+1) -1 by omega]at this⟩,ai.to (by simp[v,c]) rfl (by simp) (by simp) (by simp[fN])⟩
     .have hj:k+j=zs.length:=by omega
      have s:¬j<zs.length -k:=by omega
      rw[hj]at i3 B;have M:=tm zs zs.length (by omega);have t:=ti pre b a (i:=(aM zs zs.length).length) (n:=zs.length -(aM zs zs.length).length) 0 (by omega);simp[s,hj,e];refine⟨⟨by omega,by omega⟩,by omega,by omega,⟨by omega,by omega⟩,some (cq zs).length,cq zs++List.replicate (zs.length -(cq zs).length) 0,⟨rfl,rfl⟩,?_,λm w=>?_,rfl,?_⟩
      .unfold cq;simp;omega
      .cases w;unfold cq;omega
      .unfold cq;rw[t,B,Tq (by omega),Ui]
   .have:k=zs.length:=by omega
    subst this;simp;rw[Tw]at u;exact⟨some zs.length,zs,⟨by unfold cq;rw[u],by unfold cq;rw[u];simp⟩,rfl,λm w=>by cases w;exact SQ _,rfl,rfl⟩
 .subst Q;refine ap aC Tryz.func140 ?_;simp;exact⟨some 0,⟨rfl,rfl⟩,.inr rfl,rfl⟩
theorem gg{P:Program}{fn:Func}(a:fn.results=#[]) (tmps:Array Value) (w:World):(results fn tmps).run P w=.ok (.tuple (([]:List Nat).map λt=>tmps.getD t undef).toArray) w:=by
 simp[results,a]
structure HS where
  sc:List Int
  row:List Int
  pl:List Int
def aq(q:HS):List SV:=[.own true 1 (ae q.sc),.own true 1 (ae q.row),.own true 1 (ae q.pl)]
def eh(q:HS):List PV:=[.seq false 1 (ae q.sc),.seq false 1 (ae q.row),.seq false 1 (ae q.pl)]
theorem ij(l:List Int)(i:Nat)(x:Int):(ae l).set i [ab x]=ae (l.set i x):=by simp[ae,WO]
theorem sr(q:HS)(a:0<q.sc.length):ak Tryz.prog 174 [.iptr 3 [eh q] 0 0] (λr=>r=.pv (BL true)):=by
 refine ap aC Tryz.func174 ?_;simp[eh,a]
def uq(q:HS)(v:Int):Bool:=decide (1<=v)&&decide (v<q.sc.length)
theorem JU(q:HS)(a:0<q.sc.length)(v:Int):ak Tryz.prog 212 [.iptr 3 [eh q] 0 0,ab v] (λr=>r=.pv (BL (uq q v))):=by
 refine ap aC Tryz.func212 ?_;have h1:=sr q a;simp only[eh]at h1;simp[eh];refine ah.intro h1 ?_;simp[uq]
def Mu(q:HS)(v:Int):Int:=if uq q v then 0 else 10
theorem El(q:HS)(b:0<q.sc.length)(v:Int):ak Tryz.prog 209 [.iptr 3 [eh q] 0 0,ab v] (λr=>r=.pv (ab (Mu q v))):=by
 refine ap aC Tryz.func209 ?_;have h1:=sr q b;have a:=JU q b v;simp only[eh]at h1 a;simp[eh];refine ah.intro h1 ?_;simp;refine ah.intro a ?_;simp[Mu]
theorem xZ(q:HS)(e:0<q.sc.length)(d:q.pl.length=q.sc.length)(v:Int):ak Tryz.prog 132 [.iptr 3 [eh q] 0 0,ab v] (λr=>r=.pv (BL (uq q v&&decide (0<=q.pl.getD v.toNat 0)))):=by
 refine ap aC Tryz.func132 ?_;have a:=JU q e v;simp only[eh]at a;simp[eh];refine ah.intro a ?_
 by_cases c:uq q v=true
 .have c2:=c;simp only[uq,S4,S9]at c2;have b:v.toNat<q.pl.length:=by omega
  simp[c,b];omega
 .simp[c]
theorem Em(q:HS)(a:0<q.sc.length):ak Tryz.prog 100 [.iptr 3 [eh q] 0 0] (λr=>r=.pv (ab q.row.length)):=by
 refine ap aC Tryz.func100 ?_;have h1:=sr q a;simp only[eh]at h1;simp[eh];refine ah.intro h1 ?_;simp
def b8(q:HS):Int:=q.row.getD 0 0
theorem JV(q:HS)(a:0<q.sc.length):ak Tryz.prog 175 [.iptr 3 [eh q] 0 0] (λr=>r=.pv (ab (b8 q))):=by
 refine ap aC Tryz.func175 ?_;have h1:=Em q a;simp only[eh]at h1;simp[eh];refine ah.intro h1 ?_;simp[b8];cases b:q.row with
 |nil=>simp
 |cons x xs=>simp
theorem ur(q:HS)(v w:Nat)(a:v<q.sc.length)(b:w<q.sc.length):ak Tryz.prog 251 [.iptr 3 [eh q] 0 0,ab v,ab w] (λr=>r=.pv (BL (km q.sc v w))):=by
 refine ap aC Tryz.func251 ?_;simp[eh,a,b,km];constructor
 .intro c;simp[c]
 .intro c;simp[c]
theorem su(h:List (List SV))(b:Nat)(q:HS)(d:h[b]?=some (aq q))(i v:Nat)(hi:i<q.row.length)(e:v<q.pl.length):
 ax Tryz.prog 176 [.ptr b 0,ab i,ab v] h (λr h'=>r=.pv (.tup [])∧h'=h.set b (aq ⟨q.sc,q.row.set i v,q.pl.set v i⟩)):=by
 refine vA [] aC Tryz.func176 (λ_ _=>gg rfl _ _) ?_;obtain⟨c,a⟩:=SG.1 d;simp[a,c,aq,hi,e,ij]
theorem ik{h:List (List SV)}{b:Nat}{x:List SV}(a:h[b]?=some x):h.set b x=h:=by
 apply T7;intro i;rw[Ts];split
 .rename_i e;subst e;rw[SN (SG.1 a).1,a]
 .rfl
theorem qf{h:List (List SV)}{b:Nat}(a:b<h.length)(q:HS)(n:Nat):aZ (h.set b (aq q)) (n+1) b 0=.iptr 3 [eh q] 0 0:=by
 simp[aZ,a,aq,eh,frzC]
theorem gM{h:List (List SV)}{b:Nat}{q:HS}(d:h[b]?=some (aq q))(n:Nat):aZ h (n+1) b 0=.iptr 3 [eh q] 0 0:=by
 obtain⟨c,a⟩:=SG.1 d;simp[aZ,c,a,aq,eh,frzC]
theorem gh{h:List (List SV)}{b:Nat}(a:b<h.length)(x:List SV):(h.set b x)[b]?=some x:=by simp[a]
set_option maxRecDepth 16000 in
theorem JW(h:List (List SV))(b:Nat)(q:HS)(F:h[b]?=some (aq q))(i:Nat)(hi:i<q.row.length)(hin:uK q.row q.pl.length)(O:q.pl.length=q.sc.length)(hs:q.row.length<=1000000):
 ax Tryz.prog 210 [.ptr b 0,ab i] h (λr h'=>r=.pv (.tup [])∧h'=h.set b (aq ⟨q.sc,(rz q.sc (q.row.getD i 0) i q.row q.pl).1,(rz q.sc (q.row.getD i 0) i q.row q.pl).2⟩)):=by
 refine vA [] aC Tryz.func210 (λ_ _=>gg rfl _ _) ?_;obtain⟨a,y⟩:=SG.1 F;have M:=hin (q.row.getD i 0) (bj hi);obtain⟨v,B⟩:=Uk (show 0<=q.row.getD i 0 by omega);have f:q.row.getD i 0=(v:Int):=B;have C:q.row[i]=(v:Int):=by rw[←f];simp[hi]
 rw[f]at M⊢;have N:v<q.pl.length:=by omega
 simp[y,a,aq,hi,C];refine aF.intro (S:=λ(x:Nat×List Int×List Int)=>⟨[(0,.pv (.ptr b 0)),(1,.pv (ab x.1)),(4,.pv (.fn (.func 251) [.ptr b 0] [])),(5,.pv (ab v))],h.set b (aq ⟨q.sc,x.2.1,x.2.2⟩)⟩)
  (λx=>x.1<x.2.1.length∧x.2.1.length=q.row.length∧x.2.2.length=q.pl.length∧uK x.2.1 q.pl.length∧rz q.sc v x.1 x.2.1 x.2.2=rz q.sc v i q.row q.pl) (λx=>x.1) (i,q.row,q.pl) ?_ ?_ ?_
 .exact ai.keep (by simp) (ik F).symm
 .exact⟨hi,rfl,rfl,hin,rfl⟩
 .rintro⟨j,row,pl⟩ ⟨t,H,I,E,w⟩;dsimp only at t H I E w;rcases Vn j with h0|h0
  .subst h0;have A:0<row.length:=t;simp[a,aq];refine am.intro (su _ b ⟨q.sc,row,pl⟩ (gh a _) 0 v A (by dsimp only;omega)) ?_;rintro _ _ ⟨rfl,rfl⟩;rw[←w];unfold rz;simp[aq]
  .obtain⟨k,rfl⟩:∃k,j=k+1:=⟨j -1,by omega⟩;obtain⟨p,hp,K⟩:∃p:Nat,Int.tdiv (k:Int) 2=(p:Int)∧p=k/2:=⟨k/2,rfl,rfl⟩;have D:aY ((k:Nat):Int)=(k:Int):=ao (by omega) (by omega);have g:aY ((p:Nat):Int)=(p:Int):=ao (by omega) (by omega);have d:p<row.length:=by omega
   have G:=E (row.getD p 0) (bj d);obtain⟨u,L⟩:=Uk (show 0<=row.getD p 0 by omega);have n:row.getD p 0=(u:Int):=L;have o:row[p]=(u:Int):=by rw[←n];simp[d]
   have z:=ur ⟨q.sc,row,pl⟩ v u (by dsimp only;omega) (by dsimp only;omega);simp[a,aq,D,hp,g,d,o];rw[←aq.eq_1 ⟨q.sc,row,pl⟩,qf a];refine am.introP z ?_;rw[aq.eq_1 ⟨q.sc,row,pl⟩];have m:=su (h.set b (aq ⟨q.sc,row,pl⟩)) b ⟨q.sc,row,pl⟩ (gh a _) (k+1) v t (by dsimp only;omega);have e:=su (h.set b (aq ⟨q.sc,row,pl⟩)) b ⟨q.sc,row,pl⟩ (gh a _) (k+1) u t (by dsimp only;omega)
   push_cast at m e
   have s:rz q.sc v (k+1) row pl=if km q.sc v u=true then rz q.sc v p (row.set (k+1) u) (pl.set u (k+1:Nat))else(row.set (k+1) v,pl.set v (k+1:Nat)):=by
    rw[rz];have J:(k+1 -1)/2=p:=by omega
    simp only[J,n]
    by_cases c:km q.sc v u=true
    .rw[dif_pos ⟨by omega,c⟩,SN c];rfl
    .rw[dif_neg (λh=>c h.2),SM c];rfl
   cases l:km q.sc v u with
   |false=>
    simp[a,aq];refine am.intro m ?_;rintro _ _ ⟨rfl,rfl⟩;rw[←w,s,l];simp[aq]
   |true=>
    simp[a,aq,D,hp,g,d,o];refine am.intro e ?_;rintro _ _ ⟨rfl,rfl⟩;simp[D,hp,g];refine⟨(p,row.set (k+1) u,pl.set u (k+1:Nat)),by dsimp only;omega,⟨by dsimp only;simp;omega,by simpa using H,by simpa using I,?_,?_⟩,ai.keep ?_ ?_⟩
    .intro x hx;rcases UU hx with hx|hx
     .exact E x hx
     .omega
    .rw[←w,s,l];rfl
    .simp
    .simp[aq]
theorem rB(q:HS)(v w:Int)(e:0<=v∧v<q.sc.length)(f:0<=w∧w<q.sc.length):ak Tryz.prog 251 [.iptr 3 [eh q] 0 0,ab v,ab w] (λr=>r=.pv (BL (km q.sc v w))):=by
 obtain⟨a,b⟩:=Uk e.1;obtain⟨c,d⟩:=Uk f.1;have:=ur q a c (by omega) (by omega);rw[b,d];exact this
theorem Aj(h:List (List SV))(b:Nat)(q:HS)(d:h[b]?=some (aq q))(i:Nat)(v:Int)(hi:i<q.row.length)(e:0<=v∧v<q.pl.length):
 ax Tryz.prog 176 [.ptr b 0,ab i,ab v] h (λr h'=>r=.pv (.tup [])∧h'=h.set b (aq ⟨q.sc,q.row.set i v,q.pl.set v.toNat i⟩)):=by
 obtain⟨a,c⟩:=Uk e.1;have:=su h b q d i a hi (by omega);rw[c];exact this
def JX(sc row:List Int)(v:Int)(i:Nat):Int×Nat:=if 2*i+1<row.length∧km sc (row.getD (2*i+1) 0) v=true then(row.getD (2*i+1) 0,2*i+1)else(v,i)
def Eo(sc row:List Int)(v:Int)(i:Nat):Nat->Int×Nat
 |0=>(v,i)
 |1=>JX sc row v i
 |_=>fu sc row v i
theorem Mv(sc row:List Int)(v:Int)(i:Nat):fu sc row v i=if 2*i+2<row.length∧km sc (row.getD (2*i+2) 0) (JX sc row v i).1=true then(row.getD (2*i+2) 0,2*i+2)else JX sc row v i:=rfl
theorem JY{sc row:List Int}{v:Int}{i n:Nat}(hin:uK row n)(a:1<=v∧v<n)(hi:i<row.length):1<=(JX sc row v i).1∧(JX sc row v i).1<n∧(JX sc row v i).2<row.length:=by
 unfold JX;split
 .rename_i c;have:=hin _ (bj c.1);exact⟨this.1,this.2,c.1⟩
 .exact⟨a.1,a.2,hi⟩
theorem Ak{sc row:List Int}{v:Int}{i n:Nat}(hin:uK row n)(a:1<=v∧v<n)(hi:i<row.length):1<=(fu sc row v i).1∧(fu sc row v i).1<n∧(fu sc row v i).2<row.length:=by
 rw[Mv];split
 .rename_i c;have:=hin _ (bj c.1);exact⟨this.1,this.2,c.1⟩
 .exact JY hin a hi
set_option maxRecDepth 16000 in
theorem Al(h:List (List SV))(b:Nat)(q:HS)(M:h[b]?=some (aq q))(i:Nat)(hi:i<q.row.length)(hin:uK q.row q.pl.length)(X:q.pl.length=q.sc.length)(hs:q.row.length<=1000000):
 ax Tryz.prog 177 [.ptr b 0,ab i] h (λr h'=>r=.pv (.tup [])∧h'=h.set b (aq ⟨q.sc,(ed q.sc (q.row.getD i 0) q.row.length i q.row q.pl).1,(ed q.sc (q.row.getD i 0) q.row.length i q.row q.pl).2⟩)):=by
 refine vA [] aC Tryz.func177 (λ_ _=>gg rfl _ _) ?_;obtain⟨a,D⟩:=SG.1 M;have N:=hin (q.row.getD i 0) (bj hi);have I:q.row[i]=q.row.getD i 0:=by simp[hi]
 generalize U:q.row.getD i 0=v at*;simp[D,a,aq,hi,I];refine aF.intro (S:=λ(x:Nat×Nat×List Int×List Int)=>⟨[(0,.pv (.ptr b 0)),(1,.pv (ab x.2.1)),(4,.pv (ab v))],h.set b (aq ⟨q.sc,x.2.2.1,x.2.2.2⟩)⟩)
  (λx=>x.2.1<x.2.2.1.length∧x.2.2.1.length=q.row.length∧x.2.2.2.length=q.pl.length∧uK x.2.2.1 q.pl.length∧x.2.2.1.length<=x.2.1+x.1∧ed q.sc v x.1 x.2.1 x.2.2.1 x.2.2.2=ed q.sc v q.row.length i q.row q.pl) (λx=>x.1) (q.row.length,i,q.row,q.pl) ?_ ?_ ?_
 .exact ai.keep (by simp) (ik M).symm
 .exact⟨hi,rfl,rfl,hin,by dsimp only;omega,rfl⟩
 .rintro⟨n,j,row,pl⟩ ⟨C,O,P,w,V,s⟩;dsimp only at C O P w V s;have J:aY (2*(j:Int))=2*(j:Int):=ao (by omega) (by omega);have m:aY 1=1:=ao (by omega) (by omega);have o:aY 2=2:=ao (by omega) (by omega);obtain⟨c1,E⟩:∃c,c=2*j+1:=⟨_,rfl⟩;obtain⟨c2,F⟩:∃c,c=2*j+2:=⟨_,rfl⟩;have K:aY (2*(j:Int)+1)=(c1:Int):=by rw[ao (by omega) (by omega)];omega
  have L:aY (2*(j:Int)+2)=(c2:Int):=by rw[ao (by omega) (by omega)];omega
  have y:=JY (sc:=q.sc) (i:=j) w N C;have z:=Ak (sc:=q.sc) (i:=j) w N C;have A:JX q.sc row v j=if c1<row.length∧km q.sc (row.getD c1 0) v=true then(row.getD c1 0,c1)else(v,j):=by rw[E];rfl
  have B:fu q.sc row v j=if c2<row.length∧km q.sc (row.getD c2 0) (JX q.sc row v j).1=true then(row.getD c2 0,c2)else JX q.sc row v j:=by rw[F];rfl
  simp[J,K,L];refine aF.intro (S:=λ(t:Nat)=>⟨[(0,.pv (.ptr b 0)),(1,.pv (ab j)),(4,.pv (ab v)),(5,.pv (ab (Eo q.sc row v j t).1)),(6,.pv (ab (Eo q.sc row v j t).2)),(24,.pv (.agg [ab c1,ab c2])),(25,.pv (ab t))],h.set b (aq ⟨q.sc,row,pl⟩)⟩)
   (λt=>t<=2) (λt=>2 -t) 0 ?_ ?_ ?_
  .exact ai.keep (by simp[Eo]) rfl
  .omega
  .intro t ht;have:t=0∨t=1∨t=2:=by omega
   rcases this with rfl|rfl|rfl
   .by_cases hcl:c1<row.length
    .have G:=w _ (bj hcl);have l:row[c1]=row.getD c1 0:=by simp[hcl]
     generalize T:row.getD c1 0=u at*;have p:=rB ⟨q.sc,row,pl⟩ u v (by dsimp only;omega) (by dsimp only;omega);simp[a,aq,Eo,hcl,l];rw[←aq.eq_1 ⟨q.sc,row,pl⟩,qf a];refine am.introP p ?_;rw[aq.eq_1 ⟨q.sc,row,pl⟩];cases g:km q.sc u v with
     |false=>
      simp;refine⟨1,by dsimp only;omega,by dsimp only;omega,ai.keep ?_ (by simp[aq])⟩;simp[m,Eo,A,g]
     |true=>
      simp[a,hcl,l];refine⟨1,by dsimp only;omega,by dsimp only;omega,ai.keep ?_ (by simp[aq])⟩;simp[m,Eo,A,g,hcl]
    .simp[a,aq,Eo,hcl];refine⟨1,by dsimp only;omega,by dsimp only;omega,ai.keep ?_ (by simp[aq])⟩;simp[m,Eo,A,hcl]
   .generalize f:JX q.sc row v j=be at*;obtain⟨d,at'⟩:=be;dsimp only at y
    by_cases hcl:c2<row.length
    .have G:=w _ (bj hcl);have l:row[c2]=row.getD c2 0:=by simp[hcl]
     generalize T:row.getD c2 0=u at*;have p:=rB ⟨q.sc,row,pl⟩ u d (by dsimp only;omega) (by dsimp only;omega);simp[a,aq,Eo,hcl,l,f];rw[←aq.eq_1 ⟨q.sc,row,pl⟩,qf a];refine am.introP p ?_;rw[aq.eq_1 ⟨q.sc,row,pl⟩];cases g:km q.sc u d with
     |false=>
      simp;refine⟨2,by dsimp only;omega,by dsimp only;omega,ai.keep ?_ (by simp[aq])⟩;simp[o,Eo,B,g]
     |true=>
      simp[a,hcl,l];refine⟨2,by dsimp only;omega,by dsimp only;omega,ai.keep ?_ (by simp[aq])⟩;simp[o,Eo,B,g,hcl]
    .simp[a,aq,Eo,hcl,f];refine⟨2,by dsimp only;omega,by dsimp only;omega,ai.keep ?_ (by simp[aq])⟩;simp[o,Eo,B,hcl]
   .have hn:n≠0:=by omega
    obtain⟨n,rfl⟩:∃k,n=k+1:=⟨n -1,by omega⟩;rw[ed]at s;clear A B y;generalize f:fu q.sc row v j=be at*;obtain⟨d,at'⟩:=be;dsimp only at z s;have H:=Aj (h.set b (aq ⟨q.sc,row,pl⟩)) b ⟨q.sc,row,pl⟩ (gh a _) j d C (by dsimp only;omega);simp[a,aq,Eo,f];refine am.intro H ?_;rintro _ _ ⟨rfl,rfl⟩
    by_cases c:at'=j
    .rw[SN c]at s;simp[c,←s,aq]
    .rw[SM c]at s;have c':¬(at':Int)=(j:Int):=by omega
     simp[c,c',a,aq,z,ij];have R:j<at':=by
      rcases Ai (sc:=q.sc) (row:=row) (v:=v) (i:=j)with⟨e,_⟩|⟨W,e,_,_,Q,_⟩
      .rw[f]at e;simp only[Ux]at e;omega
      .rw[f]at e;simp only[Ux]at e;omega
     refine⟨(n,at',(row.set j d).set at' v,pl.set d.toNat j),by dsimp only;omega,⟨?_,?_,?_,?_,?_,s⟩,ai.keep ?_ ?_⟩
     .dsimp only;simp only[Ti];omega
     .simpa using O
     .simpa using P
     .intro x hx;rcases UU hx with hx|hx
      .rcases UU hx with hx|hx
       .exact w x hx
       .omega
      .omega
     .dsimp only;simp only[Ti];omega
     .simp
     .simp[aq]
end Go.AX
namespace Go.AX
set_option maxRecDepth 16000
open Go.Proofs
set_option linter.unusedSimpArgs false
theorem wv{sc:List Int}{v:Int}:∀(n i:Nat)(row pl:List Int),(ed sc v n i row pl).1.length=row.length∧(ed sc v n i row pl).2.length=pl.length
 |0,i,row,pl=>by simp[ed]
 |n+1,i,row,pl=>by
  rw[ed];split
  .simp
  .obtain⟨h1,a⟩:=wv (sc:=sc) (v:=v) n (fu sc row v i).2 ((row.set i (fu sc row v i).1).set (fu sc row v i).2 v) (pl.set (fu sc row v i).1.toNat i);rw[h1,a];simp
theorem sx{row:List Int}{n i:Nat}{x:Int}(h:uK row n)(hx:1<=x∧x<n):uK (row.set i x) n:=by
 intro y hy;rcases UU hy with hy|hy
 .exact h y hy
 .subst hy;exact hx
theorem Am{sc:List Int}{v:Int}{m:Nat}(a:1<=v∧v<m):∀(n i:Nat)(row pl:List Int),i<row.length->uK row m->uK (ed sc v n i row pl).1 m
 |0,i,row,pl,hi,h=>sx h a
 |n+1,i,row,pl,hi,h=>by
  have hp:=Ak (sc:=sc) (i:=i) h a hi;rw[ed];split
  .exact sx h ⟨hp.1,hp.2.1⟩
  .exact Am a n _ _ _ (by simp only[Ti];exact hp.2.2) (sx (sx h ⟨hp.1,hp.2.1⟩) a)
def jf(sc:List Int):Nat->List Int->List Int->List Int×List Int
 |0,row,pl=>(row,pl)
 |k+1,row,pl=>jf sc k (ed sc (row.getD k 0) row.length k row pl).1 (ed sc (row.getD k 0) row.length k row pl).2
theorem Gi(h:List (List SV))(b:Nat)(q:HS)(o:h[b]?=some (aq q))(hin:uK q.row q.pl.length)(A:q.pl.length=q.sc.length)(hs:q.row.length<=1000000):
 ax Tryz.prog 248 [.ptr b 0] h (λr h'=>r=.pv (.tup [])∧h'=h.set b (aq ⟨q.sc,(jf q.sc (q.row.length/2) q.row q.pl).1,(jf q.sc (q.row.length/2) q.row q.pl).2⟩)):=by
 refine vA [] aC Tryz.func248 (λ_ _=>gg rfl _ _) ?_;obtain⟨a,g⟩:=SG.1 o;obtain⟨m,u,j⟩:∃p:Nat,Int.tdiv (q.row.length:Int) 2=(p:Int)∧p=q.row.length/2:=⟨q.row.length/2,rfl,rfl⟩;have w:aY (m:Int)=(m:Int):=ao (by omega) (by omega);have l:aY ((m:Int) -1)=(m:Int) -1:=ao (by omega) (by omega);rw[←j];simp[g,a,aq,u,w,l];refine aF.intro (S:=λ(x:Nat×List Int×List Int)=>⟨[(0,.pv (.ptr b 0)),(2,.pv (ab ((x.1:Int) -1)))],h.set b (aq ⟨q.sc,x.2.1,x.2.2⟩)⟩)
  (λx=>x.1<=x.2.1.length∧x.2.1.length=q.row.length∧x.2.2.length=q.pl.length∧uK x.2.1 q.pl.length∧jf q.sc x.1 x.2.1 x.2.2=jf q.sc m q.row q.pl) (λx=>x.1) (m,q.row,q.pl) ?_ ?_ ?_
 .exact ai.keep (by simp) (ik o).symm
 .exact⟨by dsimp only;omega,rfl,rfl,hin,rfl⟩
 .rintro⟨k,row,pl⟩ ⟨y,z,t,e,f⟩;dsimp only at y z t e f;rcases Vn k with h0|h0
  .subst h0;rw[←f];simp[a,aq,jf]
  .obtain⟨k,rfl⟩:∃i,k=i+1:=⟨k -1,by omega⟩;have n:aY ((k:Int) -1)=(k:Int) -1:=ao (by omega) (by omega);have c:=Al (h.set b (aq ⟨q.sc,row,pl⟩)) b ⟨q.sc,row,pl⟩ (gh a _) k (by dsimp only;omega) (by dsimp only;rw[t];exact e) (by dsimp only;omega) (by dsimp only;omega);have s:=wv (sc:=q.sc) (v:=row.getD k 0) row.length k row pl;have d:=Am (sc:=q.sc) (e _ (bj (show k<row.length by omega))) row.length k row pl (by omega) e;rw[jf]at f;simp only[aq]at c;simp[a,aq];refine am.intro c ?_;rintro _ _ ⟨rfl,rfl⟩;simp[n];refine⟨(k,_,_),by dsimp only;omega,⟨?_,?_,?_,d,f⟩,ai.keep ?_ ?_⟩
   .dsimp only;omega
   .dsimp only;omega
   .dsimp only;omega
   .simp
   .simp[aq]
def half(x:Int):Int:=aY (Int.tdiv x 2)
def iw(l:List Int)(i:Nat):List Int:=(l.take i).map half++l.drop i
theorem CF(l:List Int)(i:Nat):(iw l i).length=l.length:=by
 simp only[iw,SX,SZ,SU,TF];omega
theorem CG{l:List Int}{i:Nat}(h:i<l.length):(iw l i)[i]?=some l[i]:=by
 have a:((l.take i).map half).length=i:=by simp;omega
 rw[iw,Td (by omega),a,UW,T5];simp[h]
theorem An{l:List Int}{i:Nat}(h:i<l.length):(iw l i).set i (half l[i])=iw l (i+1):=by
 have a:((l.take i).map half).length=i:=by simp;omega
 unfold iw;rw[Vj _ _ (by omega),a,UW,T8 h,TJ h,TA,WD,Tn];rfl
def cA(q:HS):HS:=⟨q.sc.map half,(jf (q.sc.map half) (q.row.length/2) q.row q.pl).1,(jf (q.sc.map half) (q.row.length/2) q.row q.pl).2⟩
theorem qX(h:List (List SV))(b:Nat)(q:HS)(k:h[b]?=some (aq q))(o:0<q.sc.length)(hin:uK q.row q.pl.length)(n:q.pl.length=q.sc.length)(hs:q.row.length<=1000000)(p:q.sc.length<=1000000):
 ax Tryz.prog 169 [.ptr b 0] h (λr h'=>r=.pv (.tup [])∧h'=h.set b (aq (cA q))):=by
 refine vA [] aC Tryz.func169 (λ_ _=>gg rfl _ _) ?_;obtain⟨a,l⟩:=SG.1 k;have h1:=sr q o;simp;rw[gM k];refine am.introP h1 ?_;simp[l,a,aq];refine aF.intro (S:=λ(i:Nat)=>⟨[(0,.pv (.ptr b 0)),(10,.pv (ab q.sc.length)),(11,.pv (ab i))],h.set b (aq ⟨iw q.sc i,q.row,q.pl⟩)⟩)
  (λi=>i<=q.sc.length) (λi=>q.sc.length -i) 0 ?_ ?_ ?_
 .exact ai.keep (by simp) (by simp[iw,ik k])
 .omega
 .intro i hi
  by_cases c:i<q.sc.length
  .have s:=dZ i;have g:=CF q.sc i;have e:=CG c;have d:(iw q.sc i)[i]'(by omega)=q.sc[i]:=by
    have:=SG.1 e;exact this.2
   have j:=An c;unfold half at j;simp[a,aq,c,g,d,ij];refine⟨i+1,by dsimp only;omega,by dsimp only;omega,ai.keep ?_ ?_⟩
   .simp[s]
   .simp[aq,j]
  .have:i=q.sc.length:=by omega
   subst this;have f:=Gi (h.set b (aq ⟨q.sc.map half,q.row,q.pl⟩)) b ⟨q.sc.map half,q.row,q.pl⟩ (gh a _) hin (by simpa using n) hs;have m:iw q.sc q.sc.length=q.sc.map half:=by simp[iw]
   simp only[aq]at f;simp[a,aq,m];refine am.intro f ?_;rintro _ _ ⟨rfl,rfl⟩;simp[cA]
end Go.AX
namespace Go.AX
def eU(q:HS)(v by':Int):HS×Int:=
 if uq q v=false then(q,10)else if by'<0∨1000000000000<by' then(q,2)else
  let a:=q.sc.set v.toNat (q.sc.getD v.toNat 0+by')
  let b:HS:=if 0<=q.pl.getD v.toNat 0 then⟨a,(rz a (q.row.getD (q.pl.getD v.toNat 0).toNat 0) (q.pl.getD v.toNat 0).toNat q.row q.pl).1,(rz a (q.row.getD (q.pl.getD v.toNat 0).toNat 0) (q.pl.getD v.toNat 0).toNat q.row q.pl).2⟩else⟨a,q.row,q.pl⟩
  (if 1000000000000<b.sc.getD v.toNat 0 then cA b else b,0)
def ej(q:HS)(v:Int):HS×Int:=
 if uq q v=false then(q,10)else if 0<=q.pl.getD v.toNat 0 then(q,21)else
  (⟨q.sc,(rz q.sc v q.row.length (q.row++[v]) q.pl).1,(rz q.sc v q.row.length (q.row++[v]) q.pl).2⟩,0)
def fl(q:HS):HS×Int:=
 if b8 q=0 then(q,0)else
  let w:=q.row.getD (q.row.length -1) 0
  let a:=(q.row.set 0 w).take (q.row.length -1)
  let b:=(q.pl.set w.toNat 0).set (b8 q).toNat (-1)
  (if 0<q.row.length -1 then⟨q.sc,(ed q.sc (a.getD 0 0) a.length 0 a b).1,(ed q.sc (a.getD 0 0) a.length 0 a b).2⟩else⟨q.sc,a,b⟩,b8 q)
def nI(n:Nat):HS:=⟨List.replicate (n+1) 0,(List.range n).map λi=>((i+1:Nat):Int),0::(List.range n).map λi=>((i:Nat):Int)⟩
structure HpG (n:Nat) (M:Int) (q:HS):Prop where
  sl:q.sc.length=n+1
  pll:q.pl.length=n+1
  nd:q.row.Nodup
  inr:uK q.row (n+1)
  plc:PL q.row q.pl
  out:∀u:Nat,1<=u->u<=n->¬(u:Int)∈q.row->q.pl.getD u 0=-1
  ho:HO q.sc q.row 0
  rng:∀x∈q.sc,0<=x∧x<=M
namespace HpG
variable {n : Nat} {M : Int} {q : HS}
theorem few(g:HpG n M q):q.row.length<=n:=by
 have := dx q.row ((List.range n).map λ i => ((i + 1 : Nat) : Int)) g.nd (λ x hx => by
  have:=g.inr x hx;rw[SY];exact⟨(x -1).toNat,Uf.2 (by omega),by omega⟩)
 simpa using this
theorem isV_iff(g:HpG n M q){v:Int}:uq q v=true↔1<=v∧v<=n:=by
 simp only[uq,S4,S9,g.sl];omega
theorem place(g:HpG n M q){v:Int}(h:v∈q.row):∃i,i<q.row.length∧q.row.getD i 0=v∧q.pl.getD v.toNat 0=(i:Int):=by
 obtain⟨i,hi,e⟩:=JS h;exact⟨i,hi,e,by have:=g.plc i hi;rwa [e]at this⟩
theorem has_iff(g:HpG n M q){v:Int}(a:1<=v∧v<=n):0<=q.pl.getD v.toNat 0↔v∈q.row:=by
 constructor
 .intro h;apply Tl;intro hn;have:=g.out v.toNat (by omega) (by omega) (by rwa [show((v.toNat:Nat):Int)=v by omega]);omega
 .intro h;obtain⟨i,_,_,e⟩:=g.place h;rw[e];omega
theorem score(g:HpG n M q)(v:Nat):0<=q.sc.getD v 0∧(0<=M->q.sc.getD v 0<=M):=by
 by_cases h:v<q.sc.length
 .have:=g.rng _ (bj h);exact⟨this.1,λ_=>this.2⟩
 .have:q.sc.getD v 0=0:=by simp[SI,h]
  rw[this];exact⟨by omega,λh=>h⟩
theorem first(g:HpG n M q):∀j,j<q.row.length->km q.sc (q.row.getD j 0) (q.row.getD 0 0)=false:=by
 intro j
 induction j using Nat.strongRecOn with
 |_ j a=>
  intro hj;rcases Vn j with h0|h0
  .subst h0;exact nA _ _
  .exact je (g.ho j h0 hj (Te _)) (a ((j -1)/2) (by omega) (by omega))
theorem peek_zero(g:HpG n M q):b8 q=0↔q.row=[]:=by
 constructor
 .intro h;cases a:q.row with
  |nil=>rfl
  |cons x xs=>
   have:=g.inr x (by rw[a];simp);simp only[b8,a,UP]at h;omega
 .intro h;simp[b8,h]
theorem peek_mem(g:HpG n M q)(h:b8 q≠0):b8 q∈q.row:=by
 cases a:q.row with
 |nil=>exact absurd (g.peek_zero.2 a) h
 |cons x xs=>simp[b8,a]
end HpG
theorem ww{sc:List Int}:∀(k:Nat)(row pl:List Int),k<=row.length->row.Nodup->uK row pl.length->PL row pl->HO sc row k->DnOk sc row pl 0 (jf sc k row pl)
 |0,row,pl,_,_,_,hp,ho=>⟨V7 _,ho,hp,λ_ _=>rfl,rfl⟩
 |k+1,row,pl,hk,a,hin,hp,ho=>by
  have d:=uo (sc:=sc) (v:=row.getD k 0) (k:=k) row.length k row pl (by omega) (by omega) (SQ _) rfl a hin (λj hj _=>hp j hj)
   (λj b hj e g=>ho j b hj (by omega)) (λj _ _ _ h1 i=>by omega)
  have f:=d.perm.length_eq;have r:=ww k _ _ (by rw[f];omega) (d.perm.nodup_iff.2 a) (by rw[d.len];exactλx hx=>hin x (d.perm.mem_iff.1 hx)) d.plc d.ho;exact⟨r.perm.trans d.perm,r.ho,r.plc,λu c=>by rw[jf,r.out u (λh=>c (d.perm.mem_iff.1 h)),d.out u c],r.len.trans d.len⟩
theorem Mw{x:Int}(h:0<=x)(a:x<=4000000000000):half x=x/2:=by
 unfold half;have:Int.tdiv x 2=x/2:=Wk h;rw[this,ao (by omega) (by omega)]
theorem lM{n:Nat}{M:Int}{q:HS}(g:HpG n (2*M) q)(h0:0<=M)(i:M<=1000000000000):HpG n M (cA q)∧(cA q).row.Perm q.row∧(cA q).sc=q.sc.map (·/2):=by
 have b:q.sc.map half=q.sc.map (·/2):=Vb λx hx=>by have:=g.rng x hx;exact Mw this.1 (by omega)
 have a:=ww (sc:=q.sc.map half) (q.row.length/2) q.row q.pl (by omega) g.nd (by rw[g.pll];exact g.inr) g.plc (λj h1 d f=>by omega);refine⟨⟨by simp[cA,g.sl],by simp only[cA];rw[a.len,g.pll],a.perm.nodup_iff.2 g.nd,λx hx=>g.inr x (a.perm.mem_iff.1 hx),a.plc,λu h1 d e=>?_,a.ho,λx hx=>?_⟩,a.perm,b⟩
 .have c:¬(u:Int)∈q.row:=λh=>e (a.perm.mem_iff.2 h);rw[show(cA q).pl.getD u 0=_ from a.out u c];exact g.out u h1 d c
 .simp only[cA,b,SY]at hx;obtain⟨y,hy,rfl⟩:=hx;have:=g.rng y hy;omega
theorem HpG.mono{n:Nat}{M a:Int}{q:HS}(g:HpG n M q)(h:M<=a):HpG n a q:=⟨g.sl,g.pll,g.nd,g.inr,g.plc,g.out,g.ho,λx hx=>by have:=g.rng x hx;omega⟩
theorem JZ{l:List Int}{i:Nat}:l.set i (l.getD i 0)=l:=by
 apply Vx
 .simp
 .intro j b a;rw[Xr];split
  .rename_i e;subst e;simp[SI,a]
  .rfl
def d0(q:HS)(v by':Int):HS:=
 if 0<=q.pl.getD v.toNat 0 then⟨q.sc.set v.toNat (q.sc.getD v.toNat 0+by'),(rz (q.sc.set v.toNat (q.sc.getD v.toNat 0+by')) (q.row.getD (q.pl.getD v.toNat 0).toNat 0) (q.pl.getD v.toNat 0).toNat q.row q.pl).1,(rz (q.sc.set v.toNat (q.sc.getD v.toNat 0+by')) (q.row.getD (q.pl.getD v.toNat 0).toNat 0) (q.pl.getD v.toNat 0).toNat q.row q.pl).2⟩else⟨q.sc.set v.toNat (q.sc.getD v.toNat 0+by'),q.row,q.pl⟩
theorem ut{n:Nat}{q:HS}(g:HpG n 1000000000000 q){v by':Int}(H:1<=v∧v<=n)(c2:¬(by'<0∨1000000000000<by')):
 HpG n (2*1000000000000) (d0 q v by')∧(d0 q v by').row.Perm q.row∧(d0 q v by').sc=q.sc.set v.toNat (q.sc.getD v.toNat 0+by')∧(d0 q v by').sc.getD v.toNat 0=q.sc.getD v.toNat 0+by':=by
 have E:v.toNat<q.sc.length:=by rw[g.sl];omega
 have N:=g.score v.toNat;have d:∀u:Nat,(q.sc.set v.toNat (q.sc.getD v.toNat 0+by')).getD u 0=if u=v.toNat then q.sc.getD v.toNat 0+by' else q.sc.getD u 0:=λu=>by
  rw[bf]
  by_cases e:u=v.toNat
  .rw[SN ⟨e.symm,E⟩,SN e]
  .rw[SM (λh=>e h.1.symm),SM e]
 have o:∀x∈q.sc.set v.toNat (q.sc.getD v.toNat 0+by'),0<=x∧x<=2*1000000000000:=λx hx=>by
  rcases UU hx with hx|hx
  .have:=g.rng x hx;omega
  .omega
 generalize r:q.sc.set v.toNat (q.sc.getD v.toNat 0+by')=c at*;have s:c.length=n+1:=by rw[←r,Ti,g.sl]
 have key:∀w:HS,w=(if 0<=q.pl.getD v.toNat 0 then⟨c,(rz c (q.row.getD (q.pl.getD v.toNat 0).toNat 0) (q.pl.getD v.toNat 0).toNat q.row q.pl).1,(rz c (q.row.getD (q.pl.getD v.toNat 0).toNat 0) (q.pl.getD v.toNat 0).toNat q.row q.pl).2⟩else⟨c,q.row,q.pl⟩)->
  HpG n (2*1000000000000) w∧w.row.Perm q.row∧w.sc=c:=by
  intro w l
  by_cases c3:0<=q.pl.getD v.toNat 0
  .rw[SN c3]at l;obtain⟨i,hi,m,A⟩:=g.place ((g.has_iff H).1 c3);rw[A,Ub,m]at l;have b:q.row.set i v=q.row:=by rw[←m];exact JZ
   have C:∀j,j<q.row.length->j≠i->q.row.getD j 0≠v:=λj hj k e=>k (dX g.nd hj hi (by rw[e,m]));have a:∀j,j<q.row.length->j≠i->c.getD (q.row.getD j 0).toNat 0=q.sc.getD (q.row.getD j 0).toNat 0:=λj hj k=>by
    have h1:=g.inr _ (bj hj);have p:=C j hj k;rw[d,SM (by omega)]
   have D:=JT (sc:=c) (v:=v) i q.row q.pl hi (by rw[b];exact g.nd) (by rw[b,g.pll];exact g.inr) (by rw[b];exactλj hj _=>g.plc j hj)
    (λ j f hj k => by
     rw[b];have h1:=g.ho j f hj (Te _);have p:=a j hj k
     by_cases e:(j -1)/2=i
     .rw[e,m]at h1⊢;rw[ii]at h1⊢;rw[p,d,SN rfl];omega
     .have L:=a ((j -1)/2) (by omega) e;rw[ii]at h1⊢;rw[p,L];exact h1)
    (λ j f hj B z => by
     rw[b];have h1:=g.ho j f hj (Te _);have M:=g.ho i z hi (Te _);rw[B]at h1;have G:=je h1 M;rw[ii]at G⊢;rw[a j hj (by omega),a ((i -1)/2) (by omega) (by omega)];exact G)
   obtain⟨y,Q,R,J,S⟩:=D;rw[b]at y J;subst l;exact⟨⟨s,by dsimp only;rw[S,g.pll],y.nodup_iff.2 g.nd,λx hx=>g.inr x (y.mem_iff.1 hx),R,λu h1 p O=>by
    have t:¬(u:Int)∈q.row:=λh=>O (y.mem_iff.2 h);dsimp only;rw[J u t];exact g.out u h1 p t,Q,o⟩,y,rfl⟩
  .rw[SM c3]at l;subst l;have F:¬v∈q.row:=λh=>c3 ((g.has_iff H).2 h);refine⟨⟨s,g.pll,g.nd,g.inr,g.plc,g.out,λj f hj hk=>?_,o⟩,V7 _,rfl⟩;have h1:=g.ho j f hj (Te _);have a:∀j,j<q.row.length->c.getD (q.row.getD j 0).toNat 0=q.sc.getD (q.row.getD j 0).toNat 0:=λj hj=>by
    have h1:=g.inr _ (bj hj);have p:q.row.getD j 0≠v:=λe=>F (by rw[←e];exact bj hj);rw[d,SM (by omega)]
   rw[ii]at h1⊢;dsimp only at hj⊢;rw[a j hj,a ((j -1)/2) (by omega)];exact h1
 obtain⟨K,P,I⟩:=key (d0 q v by') (by rw[←r];rfl);exact⟨K,P,I,by rw[I,d,SN rfl]⟩
theorem wx{n:Nat}{q:HS}(g:HpG n 1000000000000 q)(v by':Int):HpG n 1000000000000 (eU q v by').1∧(eU q v by').1.row.Perm q.row∧
 ((eU q v by').2=0->(eU q v by').1.sc=(let s:=q.sc.set v.toNat (q.sc.getD v.toNat 0+by');if 1000000000000<q.sc.getD v.toNat 0+by' then s.map (·/2)else s))∧((eU q v by').2≠0->(eU q v by').1=q):=by
 unfold eU
 by_cases c1:uq q v=false
 .rw[SN c1];exact⟨g,V7 _,λh=>absurd h (by simp),λ_=>rfl⟩
 rw[SM c1]
 by_cases c2:by'<0∨1000000000000<by'
 .rw[SN c2];exact⟨g,V7 _,λh=>absurd h (by simp),λ_=>rfl⟩
 rw[SM c2];have f:=g.isV_iff.1 (by simpa using c1);obtain⟨a,d,c,b⟩:=ut g f c2
 change HpG n 1000000000000 ((if 1000000000000<(d0 q v by').sc.getD v.toNat 0 then cA (d0 q v by')else d0 q v by',(0:Int))).1∧((if 1000000000000<(d0 q v by').sc.getD v.toNat 0 then cA (d0 q v by')else d0 q v by',(0:Int))).1.row.Perm q.row∧(_->((if 1000000000000<(d0 q v by').sc.getD v.toNat 0 then cA (d0 q v by')else d0 q v by',(0:Int))).1.sc=_)∧(¬(0:Int)=0->_)
 generalize d0 q v by'=k at*
 rw[b];dsimp only
 by_cases c4:1000000000000<q.sc.getD v.toNat 0+by'
 .rw[SN c4,SN c4];obtain⟨g2,i,j⟩:=lM a (by omega) (by omega);exact⟨g2,i.trans d,λ_=>by rw[j,c],λh=>absurd rfl h⟩
 .rw[SM c4,SM c4];refine⟨⟨a.sl,a.pll,a.nd,a.inr,a.plc,a.out,a.ho,λx hx=>?_⟩,d,λ_=>c,λh=>absurd rfl h⟩;rw[c]at hx;have e:=g.score v.toNat;rcases UU hx with hx|hx
  .exact g.rng x hx
  .omega
theorem Ao{n:Nat}{M:Int}{q:HS}(g:HpG n M q)(v:Int):HpG n M (ej q v).1∧(ej q v).1.sc=q.sc∧((ej q v).2=0->(ej q v).1.row.Perm (q.row++[v]))∧((ej q v).2≠0->(ej q v).1=q):=by
 unfold ej
 by_cases c1:uq q v=false
 .rw[SN c1];exact⟨g,rfl,λh=>absurd h (by simp),λ_=>rfl⟩
 rw[SM c1]
 by_cases c2:0<=q.pl.getD v.toNat 0
 .rw[SN c2];exact⟨g,rfl,λh=>absurd h (by simp),λ_=>rfl⟩
 rw[SM c2];have B:=g.isV_iff.1 (by simpa using c1);have p:¬v∈q.row:=λh=>c2 ((g.has_iff B).2 h);have c:(q.row++[v]).set q.row.length v=q.row++[v]:=by simp
 have i:(q.row++[v]).Nodup:=by
  rw[VU];exact⟨g.nd,by simp,λa w b r=>by simp at r;subst r;exactλe=>p (e▸w)⟩
 have d:∀j,j<q.row.length->(q.row++[v]).getD j 0=q.row.getD j 0:=λj hj=>by
  rw[SI,SO hj,←SI]
 have hin:uK (q.row++[v]) (n+1):=λx hx=>by
  rcases S7.1 hx with hx|hx
  .exact g.inr x hx
  .simp at hx;omega
 have o:=JT (sc:=q.sc) (v:=v) q.row.length (q.row++[v]) q.pl (by simp) (by rw[c];exact i) (by rw[c,g.pll];exact hin)
  (by
   rw[c];intro j hj k;simp only[SX,To,List.length_nil]at hj
   by_cases e:j=q.row.length
   .subst e;exact absurd (by simp[SI]) k
   .rw[d j (by omega)];exact g.plc j (by omega))
  (λ j f hj k => by
   rw[c];simp only[SX,To,List.length_nil]at hj;rw[d j (by omega),d _ (by omega)];exact g.ho j f (by omega) (Te _))
  (λj f hj z y=>by simp only[SX,To,List.length_nil]at hj;omega)
 obtain⟨m,C,D,s,E⟩:=o;rw[c]at m s;refine⟨⟨g.sl,by dsimp only;rw[E,g.pll],m.nodup_iff.2 i,λx hx=>hin x (m.mem_iff.1 hx),D,λu h1 t A=>?_,C,g.rng⟩,rfl,λ_=>m,λh=>absurd rfl h⟩;have l:¬(u:Int)∈q.row++[v]:=λh=>A (m.mem_iff.2 h);dsimp only;rw[s u l];exact g.out u h1 t (λh=>l (Um _ h))
theorem Gj{n:Nat}{M:Int}{q:HS}(g:HpG n M q):HpG n M (fl q).1∧(fl q).1.sc=q.sc∧(fl q).2=b8 q∧(b8 q≠0->q.row.Perm (b8 q::(fl q).1.row))∧(b8 q=0->(fl q).1=q):=by
  unfold fl
  by_cases c1:b8 q=0
  · rw[SN c1];exact⟨g,rfl,c1.symm,λh=>absurd c1 h,λ_=>rfl⟩
  rw[SM c1]
  have r:q.row≠[]:=λh=>c1 (g.peek_zero.2 h)
  have T:0<q.row.length:=Up.2 r
  obtain⟨L,D⟩:∃L,q.row.length=L+1:=⟨q.row.length -1,by omega⟩
  have I:=g.peek_mem c1
  have H:q.row.getD 0 0=b8 q:=rfl
  simp only[D,Vw]
  generalize N:q.row.getD L 0=w
  have B:w∈q.row:=by rw[←N];exact bj (by omega)
  have W:=g.inr w B
  have U:=g.inr _ I
  -- what is left
  have a:q.row.Perm (b8 q::(q.row.set 0 w).take L):=by
    have h1:q.row=(q.row.take L)++[w]:=by
      rw[←N]
      apply Vx
      · simp;omega
      · intro j R a2
        rw[List.getElem_append]
        split
        · simp
        · rename_i hj
          simp only[SU]at hj
          have:j=L:=by omega
          subst this
          simp[SI,R]
    rcases Vn L with h0|h0
    · subst h0
      cases s:q.row with
      |nil=>exact absurd s r
      |cons x xs=>
        have hx:xs=[]:=by rw[s]at D;simpa using D
        subst hx
        simp[b8,s]
    · cases s:q.row with
      |nil=>exact absurd s r
      |cons x xs=>
        obtain⟨K,rfl⟩:∃K,L=K+1:=⟨L -1,by omega⟩
        rw[s]at h1
        simp only[Wy,TH,U9,XN]at h1
        have hx:b8 q=x:=by simp[b8,s]
        simp only[WD,Wy,hx]
        refine List.Perm.cons _ ?_
        conv=>lhs;rw[h1]
        exact List.perm_append_comm
  have G:((q.row.set 0 w).take L).length=L:=by simp[D]
  have b:=(a.nodup_iff.1 g.nd)
  rw[UE]at b
  have l:∀x,x∈(q.row.set 0 w).take L↔x∈q.row∧x≠b8 q:=λx=>by
    constructor
    · intro hx
      exact⟨a.mem_iff.2 (Tf _ hx),λe=>b.1 (e▸hx)⟩
    · rintro⟨h1,t⟩
      rcases Tp.1 (a.mem_iff.1 h1)with F|F
      · exact absurd F t
      · exact F
  have i:uK ((q.row.set 0 w).take L) (n+1):=λx hx=>g.inr x ((l x).1 hx).1
  have d:∀j,0<j->j<L->((q.row.set 0 w).take L).getD j 0=q.row.getD j 0:=λj h0 hj=>by
    rw[SI,Vh hj,Tc (by omega),←SI]
  have m:∀u:Nat,1<=u->u<=n->¬(u:Int)∈(q.row.set 0 w).take L->((q.pl.set w.toNat 0).set (b8 q).toNat (-1)).getD u 0=-1:=λu h1 t J=>by
    rw[bf,Ti,g.pll]
    by_cases e:(u:Int)=b8 q
    · rw[SN ⟨by omega,by omega⟩]
    · rw[SM (by omega)]
      have A:¬(u:Int)∈q.row:=λh=>J ((l u).2 ⟨h,e⟩)
      rw[bf,SM (λh=>A (by rw[show(u:Int)=w by omega];exact B))]
      exact g.out u h1 t A
  generalize V:(q.row.set 0 w).take L=c at*
  generalize y:(q.pl.set w.toNat 0).set (b8 q).toNat (-1)=C at*
  have f:C.length=n+1:=by rw[←y];simp[g.pll]
  by_cases c2:0<L
  · rw[SN c2]
    have hd:=uo (sc:=q.sc) (v:=c.getD 0 0) (k:=0) c.length 0 c C (by omega) (by omega) (SQ _) rfl b.2 (by rw[f];exact i)
      (λ j hj p => by
        have o:0<j:=by
          rcases Vn j with h0|h0
          · subst h0;exact absurd rfl p
          · exact h0
        rw[d j o (by omega)]
        have h1:=g.inr _ (bj (show j<q.row.length by omega))
        have O:q.row.getD j 0≠b8 q:=λe=>by have:=dX g.nd (show j<q.row.length by omega) T (by rw[e,H]);omega
        have P:q.row.getD j 0≠w:=λe=>by have:=dX g.nd (show j<q.row.length by omega) (show L<q.row.length by omega) (by rw[e,N]);omega
        rw[←y,bf,SM (by omega),bf,SM (by omega)]
        exact g.plc j (by omega))
      (λ j o hj _ p => by
        rw[d j o (by omega),d _ (by omega) (by omega)]
        exact g.ho j o (by omega) (Te _))
      (λj _ _ _ h1 _=>by omega)
    obtain⟨E,X,Y,Z,u5⟩:=hd
    refine⟨⟨g.sl,by dsimp only;rw[u5,f],E.nodup_iff.2 b.2,λx hx=>i x (E.mem_iff.1 hx),Y,λu h1 t J=>?_,X,g.rng⟩,rfl,(by first|rfl|trivial),λ_=>a.trans (E.symm.cons _),λh=>absurd h c1⟩
    have z:¬(u:Int)∈c:=λh=>J (E.mem_iff.2 h)
    dsimp only
    rw[Z u z];exact m u h1 t z
  · rw[SM c2]
    have S:L=0:=by omega
    have Q:c=[]:=US (by omega)
    refine⟨⟨g.sl,f,b.2,i,λj hj=>?_,m,λj h0 hj=>?_,g.rng⟩,rfl,(by first|rfl|trivial),λ_=>a,λh=>absurd h c1⟩
    · dsimp only at hj;omega
    · dsimp only at hj;omega
theorem J2(n:Nat):HpG n 1000000000000 (nI n):=by
 have a:∀j,j<n->((List.range n).map λi=>((i+1:Nat):Int)).getD j 0=((j+1:Nat):Int):=λj hj=>by simp[SI,hj]
 refine⟨by simp[nI],by simp[nI],?_,λx hx=>?_,λj hj=>?_,λu h1 f d=>?_,λj c hj _=>?_,λx hx=>?_⟩
 .simp only[nI];unfold List.Nodup;rw[Tv];intro i j hi hj b e;simp at e;omega
 .simp only[nI,SY,Uf]at hx;obtain⟨i,hi,rfl⟩:=hx;omega
 .simp only[nI,SZ,Xk]at hj⊢;rw[a j hj,Ub,SI,U2];simp[hj]
 .exfalso;apply d;simp only[nI,SY,Uf];exact⟨u -1,by omega,by omega⟩
 .simp only[nI,SZ,Xk]at hj⊢;rw[a j hj,a _ (by omega),ii];right;refine⟨?_,by omega⟩;simp only[SI,Xm];rw[SN (by omega),SN (by omega)]
 .simp only[nI]at hx;have:=Vv hx;omega
end Go.AX
namespace Go.AX
open Go.Proofs
set_option linter.unusedSimpArgs false
theorem uu(s r p:List Int):[SV.own true 1 (ae s),SV.own true 1 (ae r),SV.own true 1 (ae p)]=aq ⟨s,r,p⟩:=rfl
theorem mW{l:List Int}{i:Nat}(h:i<l.length):l[i]=l.getD i 0:=by simp[h]
theorem J3{q:HS}{v by':Int}(h:uq q v=false):eU q v by'=(q,10):=by unfold eU;rw[SN h]
theorem Gk{q:HS}{v by':Int}(h:uq q v=true)(a:by'<0∨1000000000000<by'):eU q v by'=(q,2):=by unfold eU;rw[SM (by rw[h];simp),SN a]
theorem Gl{q:HS}{v by':Int}(h:uq q v=true)(a:¬(by'<0∨1000000000000<by')):eU q v by'=(if 1000000000000<(d0 q v by').sc.getD v.toNat 0 then cA (d0 q v by')else d0 q v by',0):=by
 unfold eU;rw[SM (by rw[h];simp),SM a];rfl
set_option maxRecDepth 16000 in
theorem Ap(h:List (List SV))(b:Nat)(q:HS)(O:h[b]?=some (aq q)){n:Nat}(g:HpG n 1000000000000 q)(hn:n<=100000)(v by':Int):
 ax Tryz.prog 129 [.ptr b 0,ab v,ab by'] h (λr h'=>r=.pv (ab (eU q v by').2)∧h'=h.set b (aq (eU q v by').1)):=by
 refine mB aC Tryz.func129 ?_;obtain⟨a,Q⟩:=SG.1 O;have hq:0<q.sc.length:=by rw[g.sl];omega
 have X:=El q hq v;generalize y:eU q v by'=BS
 simp;rw[gM O];refine am.introP X ?_;unfold Mu;cases I:uq q v with
 |false=>
  have e:=y.symm.trans (J3 I);subst e;simp[ik O]
 |true=>
  have M:=g.isV_iff.1 I;have K:v.toNat<q.sc.length:=by rw[g.sl];omega
  have L:v.toNat<q.pl.length:=by rw[g.pll];omega
  have k:0<=v:=by omega
  have V:v<(q.sc.length:Int):=by rw[g.sl];omega
  have W:v<(q.pl.length:Int):=by rw[g.pll];omega
  have ad:=g.score v.toNat;obtain⟨f,E⟩:∃x,x=q.sc.getD v.toNat 0:=⟨_,rfl⟩;obtain⟨H,t⟩:∃x,x=q.pl.getD v.toNat 0:=⟨_,rfl⟩;have R:q.sc[v.toNat]=f:=by rw[E];exact mW K
  have T:q.pl[v.toNat]=H:=by rw[t];exact mW L
  simp[a,Q,aq,K,k,V,R,ij];refine⟨λc=>?_,λc1 c2=>?_⟩
  .have e:=y.symm.trans (Gk I c);subst e;simp[uu,ik O]
  have c3:¬(by'<0∨1000000000000<by'):=λh=>h.elim (λh=>WG.2 c1 h) (λh=>WG.2 c2 h);have e:=y.symm.trans (Gl I c3);clear y;subst e;obtain⟨F,w⟩:∃F,(if 1000000000000<(d0 q v by').sc.getD v.toNat 0 then cA (d0 q v by')else d0 q v by')=F:=⟨_,rfl⟩;rw[w];have Y:aY (f+by')=f+by':=ao (by omega) (by omega)
  have N:d0 q v by'=if 0<=H then⟨q.sc.set v.toNat (f+by'),(rz (q.sc.set v.toNat (f+by')) (q.row.getD H.toNat 0) H.toNat q.row q.pl).1,(rz (q.sc.set v.toNat (f+by')) (q.row.getD H.toNat 0) H.toNat q.row q.pl).2⟩else⟨q.sc.set v.toNat (f+by'),q.row,q.pl⟩:=by
   rw[E,t];rfl
  have j:=xZ ⟨q.sc.set v.toNat (f+by'),q.row,q.pl⟩ (by simpa using hq) (by dsimp only;rw[Ti,g.pll,g.sl]) v;have U:uq ⟨q.sc.set v.toNat (f+by'),q.row,q.pl⟩ v=true:=by unfold uq at I⊢;simpa using I
  rw[U]at j;rw[Y];dsimp only at j;rw[←t]at j;rw[uu,qf a];refine am.introP j ?_;have aa:q.row.length<=n:=g.few;obtain⟨d,p1,s1,A⟩:=ut g M c3;rw[←E]at A s1;rw[A]at w
  by_cases c5:0<=H
  .obtain⟨i,hi,J,D⟩:=g.place ((g.has_iff M).1 (by rw[←t];exact c5));rw[←t]at D;have hin:uK q.row q.pl.length:=by rw[g.pll];exact g.inr
   have u:=JW (h.set b (aq ⟨q.sc.set v.toNat (f+by'),q.row,q.pl⟩)) b ⟨q.sc.set v.toNat (f+by'),q.row,q.pl⟩ (gh a _) i hi hin (by dsimp only;rw[Ti,g.pll,g.sl]) (by dsimp only;omega);rw[SN c5,D,Ub,J]at N;dsimp only at u;rw[J]at u;rw[←D]at u;simp only[aq]at u;simp[a,aq,c5,L,k,W,T];refine am.intro u ?_;rintro _ _ ⟨rfl,rfl⟩;simp;have P:aq (d0 q v by')=[.own true 1 (ae (q.sc.set v.toNat (f+by'))),.own true 1 (ae (rz (q.sc.set v.toNat (f+by')) v i q.row q.pl).1),.own true 1 (ae (rz (q.sc.set v.toNat (f+by')) v i q.row q.pl).2)]:=by rw[N];rfl
   rw[←P];generalize d0 q v by'=B at*
   refine aF.intro (S:=λ(x:Nat)=>⟨[(0,.pv (.ptr b 0)),(1,.pv (ab v))],h.set b (aq (if x=0 then B else cA B))⟩) (λx=>x=0∨x=1∧1000000000000<f+by') (λx=>1 -x) 0 ?_ (.inl rfl) ?_
   .exact ai.keep (by simp) (by simp)
   .have l:v.toNat<B.sc.length:=by rw[d.sl];omega
    have m:v<(B.sc.length:Int):=by rw[d.sl];omega
    have C:B.sc[v.toNat]=f+by':=by rw[←A];exact mW l
    rintro x (rfl|⟨rfl,hx⟩)
    .have s:=qX (h.set b (aq B)) b B (gh a _) (by rw[d.sl];omega) (by rw[d.pll];exact d.inr) (by rw[d.pll,d.sl]) (by have:=d.few;omega) (by rw[d.sl];omega);simp only[aq]at s;simp[a,aq,l,m,k,C];refine⟨λc=>?_,λc=>?_⟩
     .refine am.intro s ?_;rintro _ _ ⟨rfl,rfl⟩;simp;exact⟨1,by dsimp only;omega,.inr ⟨rfl,c⟩,ai.keep (by simp) (by simp[aq])⟩
     .rw[SM (WG.2 c)]at w;rw[w]
    .obtain⟨g2,p2,s2⟩:=lM d (by omega) (by omega);have o:v.toNat<(cA B).sc.length:=by rw[g2.sl];omega
     have p:v<((cA B).sc.length:Int):=by rw[g2.sl];omega
     obtain⟨z,hz⟩:∃z,(cA B).sc[v.toNat]=z:=⟨_,rfl⟩;have Z:=g2.rng z (by rw[←hz];exact SS o);have G:¬1000000000000<z:=by omega
     simp[a,aq,o,p,k,hz,G];rw[SN hx]at w;rw[w]
  .rw[SM c5]at N;simp[c5];rw[←N];generalize d0 q v by'=B at*
   refine aF.intro (S:=λ(x:Nat)=>⟨[(0,.pv (.ptr b 0)),(1,.pv (ab v))],h.set b (aq (if x=0 then B else cA B))⟩) (λx=>x=0∨x=1∧1000000000000<f+by') (λx=>1 -x) 0 ?_ (.inl rfl) ?_
   .exact ai.keep (by simp) (by simp)
   .have l:v.toNat<B.sc.length:=by rw[d.sl];omega
    have m:v<(B.sc.length:Int):=by rw[d.sl];omega
    have C:B.sc[v.toNat]=f+by':=by rw[←A];exact mW l
    rintro x (rfl|⟨rfl,hx⟩)
    .have s:=qX (h.set b (aq B)) b B (gh a _) (by rw[d.sl];omega) (by rw[d.pll];exact d.inr) (by rw[d.pll,d.sl]) (by have:=d.few;omega) (by rw[d.sl];omega);simp only[aq]at s;simp[a,aq,l,m,k,C];refine⟨λc=>?_,λc=>?_⟩
     .refine am.intro s ?_;rintro _ _ ⟨rfl,rfl⟩;simp;exact⟨1,by dsimp only;omega,.inr ⟨rfl,c⟩,ai.keep (by simp) (by simp[aq])⟩
     .rw[SM (WG.2 c)]at w;rw[w]
    .obtain⟨g2,p2,s2⟩:=lM d (by omega) (by omega);have o:v.toNat<(cA B).sc.length:=by rw[g2.sl];omega
     have p:v<((cA B).sc.length:Int):=by rw[g2.sl];omega
     obtain⟨z,hz⟩:∃z,(cA B).sc[v.toNat]=z:=⟨_,rfl⟩;have Z:=g2.rng z (by rw[←hz];exact SS o);have G:¬1000000000000<z:=by omega
     simp[a,aq,o,p,k,hz,G];rw[SN hx]at w;rw[w]
end Go.AX
namespace Go.AX
set_option maxRecDepth 16000
open Go.Proofs
set_option linter.unusedSimpArgs false
theorem Gv(rows:List (List Int))(k:FuncId)(cap:List PV)(p:List Int->Bool)(m:rows.length<=140737488355328)(d:∀r,eC r cap=cap)(b:∀n,bR n cap)(hp:jH cap=false)(f:∀x∈rows,ak Tryz.prog k (.seq false 1 (ae x)::cap) (λr=>r=.pv (BL (p x)))):
 ak Tryz.prog 202 [.seq false 1 (rows.map aw),.fn (.func k) [] cap] (λr=>r=.pv (ab (gp p rows))):=by
 refine ap aC Tryz.func202 ?_;simp;refine aF.intro (S:=λ(i:Nat)=>⟨[(0,.pv (.seq false 1 (rows.map aw))),(1,.pv (.fn (.func k) [] cap)),(7,.pv (ab rows.length)),(8,.pv (ab i))],[]⟩) (λi=>i<=rows.length∧∀j (hj:j<rows.length),j<i->p rows[j]=false) (λi=>rows.length -i) 0 ?_ ?_ ?_
 .exact ai.to (by simp) (by simp) (by simp) (by simp[b]) (by simp)
 .exact⟨by omega,λj hj h=>by omega⟩
 .intro i ⟨hi,ho⟩
  by_cases h:i<rows.length
  .have l:=dZ i;have a:=f rows[i] (SS h);simp[h,hp,d,aw];refine ah.intro a ?_;simp;refine⟨λc=>by rw[d9 h ho c],λc=>⟨i+1,by dsimp only;omega,⟨by omega,λj hj g=>?_⟩,ai.to ?_ (by simp) (by simp) (by simp[b]) (by simp)⟩⟩
   .by_cases e:j=i
    .subst e;exact c
    .exact ho j hj (by omega)
   .simp[l,aw]
  .simp[h];rw[cJ (λj hj=>ho j hj (by omega))]
theorem Gw(l:Int):(ca l).1=af l∧(af l≠0->(ca l).2=decide (0<l)):=by
 unfold ca af fp
 by_cases c:cX l=true
 .obtain⟨h1,a,b⟩:=(a8 l).1 c;rw[SN c]
  by_cases d:l<0
  .rw[SM (by omega),SN ⟨d,a⟩,SN d];exact⟨rfl,λ_=>(UH (by omega)).symm⟩
  .rw[SN ⟨by omega,b⟩,SM d];exact⟨rfl,λ_=>(Uq (by omega)).symm⟩
 .have hn:¬(l≠0∧-100000<=l∧l<=100000):=λh=>c ((a8 l).2 h);rw[SM c,SM (by omega),SM (by omega)];exact⟨rfl,λh=>absurd rfl h⟩
theorem Gx(l:Int)(m:List Bool):ak Tryz.prog 264 [ab l,.iptr 1 [[.seq false 1 (cT m)]] 0 0] (λr=>r=.pv (BL (iu m l))):=by
 refine ap aC Tryz.func264 ?_;simp;refine ah.intro (aI l) ?_;obtain⟨e,f⟩:=Gw l;have hin:=wg l;unfold iu;rw[e]at hin⊢;generalize af l=v at*;obtain⟨n,rfl⟩:=Uk hin.1;rcases Vn n with h0|h0
 .subst h0;simp
 obtain⟨k,rfl⟩:∃k,n=k+1:=⟨n -1,by omega⟩;rw[f (by omega)];have c:aY (k:Int)=(k:Int):=ao (by omega) (by omega);have d:¬(k:Int)+1=0:=by omega
 have b:(0:Int)<(k:Int)+1:=by omega
 by_cases hk:k<m.length
 .have hle:(k:Int)+1<=(m.length:Int):=by omega
  have a:k+1<=m.length:=by omega
  simp[d,hk,hle,a,c,b]
 .have hle:¬(k:Int)+1<=(m.length:Int):=by omega
  have a:¬k+1<=m.length:=by omega
  simp[d,hk,hle,a,c,b]
theorem Gy(c:List Int)(m:List Bool)(a:c.length<=1000000):ak Tryz.prog 203 [.seq false 1 (ae c),.iptr 1 [[.fn (.func 264) [] [.iptr 1 [[.seq false 1 (cT m)]] 0 0]]] 0 0] (λr=>r=.pv (BL (!cd c m))):=by
 refine ap aC Tryz.func203 ?_;simp;refine ah.intro (dQ c a 264 [.iptr 1 [[.seq false 1 (cT m)]] 0 0] (iu m) (by simp) (by simp) (by simp) (λx _=>Gx x m)) ?_;simp[cd]
theorem Gz(m:List Bool)(h:List (List SV)):ax Tryz.prog 201 [.seq false 1 (cT m)] h (λr h'=>r=.pv (.fn (.func 264) [] [.ptr h.length 0])∧h'=h++[[.pv (.seq false 1 (cT m))]]):=by
 refine mB aC Tryz.func201 ?_;simp
theorem Kv(v:Int)(L:List (List Int))(m:List Bool)(b:L.length<=140737488355328)(d:∀x∈L,x.length<=1000000):ak Tryz.prog 121 [.agg [ab v,.seq false 1 (L.map aw)],.seq false 1 (cT m)] (λr=>r=.pv (ab (mP L m))):=by
 refine ap aC Tryz.func121 ?_;simp;refine ah.introM (Gz m _) ?_;rintro _ _ ⟨rfl,rfl⟩;simp;have a:aZ [[.pv (ab v),.pv (.seq false 1 (L.map aw))],[.pv (.seq false 1 (cT m))],[.pv (.fn (.func 264) [] [.ptr 1 0])]] 3 2 0=.iptr 1 [[.fn (.func 264) [] [.iptr 1 [[.seq false 1 (cT m)]] 0 0]]] 0 0:=by simp[aZ]
 rw[a];refine⟨rfl,ah.intro (Gv L 203 [.iptr 1 [[.fn (.func 264) [] [.iptr 1 [[.seq false 1 (cT m)]] 0 0]]] 0 0] (λc=>!cd c m) b (by simp) (by simp) (by simp) (λx hx=>Gy x m (d x hx))) ?_⟩;simp[mP]
theorem Kw(v:Int)(L:List (List Int))(m:List Bool)(b:L.length<=140737488355328)(d:∀x∈L,x.length<=1000000):ak Tryz.prog 59 [.agg [ab v,.seq false 1 (L.map aw)],.seq false 1 (cT m)] (λr=>r=.pv (BL (decide ((m.length:Int)=v)&&decide (∀c∈L,cd c m=true)))):=by
 refine ap aC Tryz.func59 ?_;have a:=Kv v L m b d;have hn:=oX L m;simp;refine aV.intro (λ_=>a) ?_;simp[hn]
end Go.AX