/-
  Contracts: clause.Norm.
  Contracts: the one form of a clause is the document's.
  Contracts: clause.Check, Without, Resolve.
-/
import Derived.Test.YtepodadinenmnaaGreatS14AxClD
import Derived.Test.YtepodadinenmnaaGreatS14AxShelf2
import Derived.Test.YtepodadinenmnaaGreatAxAg
namespace Go.AX
open Go.Proofs
set_option linter.unusedSimpArgs false
abbrev Lit:={n:Int//cF n=true}
instance:Inhabited Lit:=⟨⟨1,rfl⟩⟩
def BE(a b:Lit):Int:=Bx (aW a.1) (aW b.1)
theorem sS{a b:Int}(c:cF a=true)(d:cF b=true)(h:aW a=aW b):a=b:=by
 obtain⟨e,f,a3⟩:=(aY a).1 c;obtain⟨b1,b2,b3⟩:=(aY b).1 d;unfold aW dr at h;rw[RI c,RI d]at h;split at h<;>split at h<;>omega
theorem sT(a b:Lit):ltOf BE a b=decide (aW a.1<aW b.1):=by
 unfold ltOf BE Bx
 by_cases h:aW a.1<aW b.1
 .simp[h]
 .by_cases c:aW a.1>aW b.1<;>simp[h,c]
theorem Hw:Sort.SWO (ltOf BE)where
 irrefl x:=by rw[sT];simp
 trans x y z:=by simp only[sT,R0];omega
 ntrans x y z:=by simp only[sT,Th];omega
theorem Hx(x y:Lit)(h1:ltOf BE x y=false)(a:ltOf BE y x=false):x=y:=by
 rw[sT]at h1 a;simp at h1 a;exact Subtype.ext (sS x.2 y.2 (by omega))
theorem EW(x:Int):am Tryz.prog 281 [ae x] (λr=>r=.pv (BL (!cF x))):=by
 refine aq aE Tryz.func281 ?_;simp;refine ai.intro (aJ _) ?_;simp[ve]
theorem EX(x y:Int):am Tryz.prog 283 [ae x,ae y] (λr=>r=.pv (ae (Bx (aW x) (aW y)))):=by
 refine aq aE Tryz.func283 ?_;simp;refine ai.intro (qN _) ?_;simp;refine ai.intro (qN _) ?_;simp;refine ai.intro (Bz _ _) ?_;simp
def c9:List Int->List Lit
 |[]=>[]
 |x::l=>if h:cF x=true then⟨x,h⟩::c9 l else c9 l
theorem lq:∀l:List Int,(c9 l).map (·.1)=l.filter cF
 |[]=>rfl
 |x::l=>by
  rw[c9];split
  .rename_i h;rw[R4,lq l,Sz,RI h]
  .rename_i h;rw[lq l,Sz,RH h]
def ju(l:List Lit):List Lit:=l.mergeSort λx y=>!(ltOf BE) y x
def eQ(l:List Int):List Int:=cT ((ju (c9 l)).map (·.1))
theorem Hy(l:List Lit)(a:l.length<=1000000):wx Tryz.prog 282 1 (aD (l.map (·.1))) [.fn (.func 283) [] []] (λk rows=>k=none∧rows=aD ((ju l).map (·.1))):=
 yQ Tryz.sortF (λx:Lit=>x.1) BE 283 l a Hw Hx (enters_of Tryz.func283 (by kernel_rfl) rfl) (by kernel_rfl) (λx y=>EX x.1 y.1)
theorem wx.asFn{P:Program}{f g:FuncId}{e:Nat}{rows:List (List PV)}{R:Option Nat->List (List PV)->Prop}(h:wx P f e rows [.fn (.func g) [] []] R):wx P f e rows [.lit (.func (.func g) #[] #[])] R:=by
 have j:∀{G:Gh}{a:List Value},ak G [.lit (.func (.func g) #[] #[])] a->ak G [.fn (.func g) [] []] a:=λ⟨v,r,h1,b,d⟩=>⟨v,r,h1,⟨#[],#[],b,rfl,rfl⟩,d⟩;exact⟨h.1,λhn w c cap arr T pre vs i a h1 b d k l m n=>h.2.1 hn w c cap arr T pre vs i a h1 b d k l (j m) n,λhn w p cap a h1=>h.2.2 hn w p cap a (j h1)⟩
theorem gd(k:Nat):∀l:List Int,bX k (aD l)
 |[]=>trivial
 |_::l=>⟨⟨trivial,trivial⟩,gd k l⟩
theorem gA(l:List Int):(aD l).length=l.length:=by unfold aD;simp
theorem wZ(a b:List Int):aD (a++b)=aD a++aD b:=by unfold aD;simp
theorem oi(a b:List Int):(aD (a++b)).take a.length=aD a:=by rw[wZ,TU (gA a)]
theorem KP(l:List Int):bk (λx=>!cF x) l=(c9 l).map (·.1):=by
 rw[lq];unfold bk;congr 1;funext x;simp
theorem KQ(l:List Int)(q:l.length<=1000000):am Tryz.prog 241 [.seq false 1 (aa l)] (λr=>r=.own true 1 (aa (eQ l))):=by
 refine aq aE Tryz.func241 ?_;have i:=(iJ l q 281 [] (λx=>!cF x) (λr=>rfl) rfl (λk=>trivial) trivial (λx _=>EW x)).asFn;have c:=jS (λx=>!cF x) l;have p:=KP l;unfold KK at i;rw[p]at i c;have d:(c9 l).length<=1000000:=by rw[RR]at c;omega
 have s:=(Hy (c9 l) d).asFn;have e:(ju (c9 l)).length=(c9 l).length:=Tj _;have h:=sQ ((ju (c9 l)).map (·.1)) (by rw[RR,e];exact d);have j:=iM ((ju (c9 l)).map (·.1)) ((ju (c9 l)).map (·.1)).length;unfold MP at h;have m:cT ((ju (c9 l)).map (·.1))=eQ l:=rfl;have b:aK ((ju (c9 l)).map (·.1)) ((ju (c9 l)).map (·.1)).length=eQ l:=rfl;rw[m]at h;rw[b]at j;have f:((ju (c9 l)).map (·.1)).length=((c9 l).map (·.1)).length:=by rw[RR,RR,e]
 generalize(ju (c9 l)).map (·.1)=t at*;generalize(c9 l).map (·.1)=g at*;generalize eQ l=v at*;simp;refine ai.intro (iI l q) ?_;simp;refine ai.introX (bC.introS (o:=.slot 6) (lo:=0) (hi:=l.length) i (by simp) rfl rfl (by simp) (by simp) rfl (by simp;rw[SK (by simp[aa])];rfl) (gd 0 l) (by simp) (by simp) ?_);rintro k a ⟨rfl,rfl⟩ _ _;have n:List.drop l.length (aa l)=[]:=Sc (by simp[aa]);have u:=gA (g++List.replicate (l.length -g.length) 0);simp[n];refine ai.introX (bC.introS (o:=.slot 6) (lo:=0) (hi:=g.length) s (by simp) rfl rfl (by simp) (by simp) rfl (by simp;exact oi _ _) (gd 0 g) (by simp) (by simp) ?_);rintro k a ⟨rfl,rfl⟩ _ _;simp;refine ai.introX (bC.introS (o:=.slot 6) (lo:=0) (hi:=g.length) h (by simp) rfl rfl (by simp) (by simp) rfl (by simp;rw[TU (by rw[gA,f])]) (gd 0 t) (by simp) (by simp) ?_);rintro k a ⟨rfl,rfl⟩ _ _;simp;rw[TM (by rw[gA];simp),oi];rfl
def yR:List Int->Int->Nat
 |[],_=>0
 |y::l,x=>if aW y<aW x then yR l x+1 else 0
def yS(l:List Int)(x:Int):List Int:=l.take (yR l x)++x::l.drop (yR l x)
theorem KR:∀(l:List Int)(x:Int),yR l x<=l.length
 |[],_=>RJ _
 |y::l,x=>by
  rw[yR];have:=KR l x;split
  .simp;omega
  .simp
theorem vf(y:Int)(l:List Int)(x:Int):yS (y::l) x=if aW y<aW x then y::yS l x else x::y::l:=by
 unfold yS;rw[yR];split
 .simp
 .simp
theorem m6:∀(l:List Int)(x:Int),(yS l x).Perm (x::l)
 |[],x=>by simp[yS,yR]
 |y::l,x=>by
  rw[vf];split
  .exact((m6 l x).cons y).trans (.swap x y l)
  .exact .refl _
theorem qO:∀(l:List Int)(x:Int),(∀y∈l,aW y≠aW x)->l.Pairwise (λa b=>aW a<aW b)->(yS l x).Pairwise (λa b=>aW a<aW b)
 |[],x,_,_=>by simp[yS,yR]
 |y::l,x,hn,h=>by
  rw[vf];rw[Ue]at h;split
  .rename_i c;rw[Ue];refine⟨λz hz=>?_,qO l x (λz hz=>hn z (RZ _ hz)) h.2⟩;rcases R9.1 ((m6 l x).mem_iff.1 hz)with rfl|hz
   .exact c
   .exact h.1 z hz
  .rename_i c;rw[Ue,Ue];have:=hn y R2;refine⟨λz hz=>?_,h⟩;rcases R9.1 hz with rfl|hz
   .omega
   .have:=h.1 z hz;omega
def jU(c:List Int):Nat->List Int
 |0=>[]
 |i+1=>if cF (c.getD i 0)=true∧c.getD i 0∉jU c i then yS (jU c i) (c.getD i 0)else jU c i
theorem vg(c:List Int):∀i,(jU c i).length<=i
 |0=>RJ _
 |i+1=>by
  have:=vg c i;rw[jU];split
  .rw[(m6 _ _).length_eq];simp;omega
  .omega
theorem yT(c:List Int):∀i,i<=c.length->(jU c i).Pairwise (λa b=>aW a<aW b)∧∀x,x∈jU c i↔cF x=true∧x∈c.take i
 |0,_=>⟨by simp[jU],λx=>by simp[jU]⟩
 |i+1,h=>by
  obtain⟨h1,f⟩:=yT c i (by omega);have g:c.getD i 0=c[i]:=by simp[show i<c.length by omega]
  rw[jU,g,SA,RF (by omega),Ty]
  by_cases d:cF c[i]=true∧c[i]∉jU c i
  .rw[RI d];refine⟨qO _ _ (λy hy e=>d.2 ?_) h1,λx=>?_⟩
   .rw[←sS ((f y).1 hy).1 d.1 e];exact hy
   .rw[(m6 _ _).mem_iff,R9,f,RS,Sp];constructor
    .rintro(rfl|⟨a,b⟩)
     .exact⟨d.1,.inr rfl⟩
     .exact⟨a,.inl b⟩
    .rintro⟨a,b|b⟩
     .exact .inr ⟨a,b⟩
     .exact .inl b
  .rw[RH d];refine⟨h1,λx=>?_⟩;rw[f,RS,Sp];constructor
   .rintro⟨a,b⟩;exact⟨a,.inl b⟩
   .rintro⟨a,b|rfl⟩
    .exact⟨a,b⟩
    .have j:c[i]∈jU c i:=R6 λh=>d ⟨a,h⟩;exact(f _).1 j
theorem vh{zs:List Int}(hs:zs.Pairwise (λa b=>aW a<=aW b))(c:∀x∈zs,cF x=true):∀j,j<=zs.length->(aK zs j).Pairwise (λa b=>aW a<aW b)∧∀x,x∈aK zs j↔x∈zs.take j
 |0,_=>⟨by simp[aK],λx=>by simp[aK]⟩
 |j+1,h=>by
  obtain⟨h1,g⟩:=vh hs c j (by omega);have l:zs.getD j 0=zs[j]:=by simp[show j<zs.length by omega]
  rw[aK,l,SA,RF (by omega),Ty];have hp:=Sl.1 hs
  by_cases d:j=0∨zs[j]≠zs.getD (j -1) 0
  .rw[RI d];refine⟨Uv.2 ⟨h1,by simp,λy hy z hz=>?_⟩,λx=>by rw[RS,RS,g]⟩;rw[Sp]at hz;subst hz;obtain⟨k,hk,rfl⟩:=RU ((g y).1 hy);rw[RN]at hk;rw[S7];rcases d with rfl|d
   .omega
   .have f:zs.getD (j -1) 0=zs[j -1]:=by simp[show j -1<zs.length by omega]
    rw[f]at d;have n:aW zs[k]<=aW zs[j -1]:=by
     by_cases e:k=j -1
     .subst e;exact T8 _
     .exact hp k (j -1) (by omega) (by omega) (by omega)
    have o:aW zs[j -1]<=aW zs[j]:=hp (j -1) j (by omega) (by omega) (by omega);have a3:aW zs[j -1]≠aW zs[j]:=λe=>d (sS (c _ (RK _)) (c _ (RK _)) e.symm);omega
  .rw[RH d];refine⟨h1,λx=>?_⟩;rw[g,RS,Sp];refine⟨.inl,λhx=>hx.elim id λe=>?_⟩;have hj:j≠0:=λe=>d (.inl e);have f:zs.getD (j -1) 0=zs[j -1]:=by simp[show j -1<zs.length by omega]
   have i:zs[j]=zs[j -1]:=R6 λm=>d (.inr (by rw[f];exact m));rw[e,i];exact SS.2 ⟨j -1,by omega,rfl⟩
theorem pc(c:List Int):(eQ c).Pairwise (λa b=>aW a<aW b)∧∀x,x∈eQ c↔cF x=true∧x∈c:=by
 have hs:((ju (c9 c)).map (·.1)).Pairwise (λa b=>aW a<=aW b):=by
  rw[Tu];refine(UR (λa b d=>?_) (λa b=>?_) (c9 c)).imp λ{a b} h=>?_
  .simp only[sT,Sw,Th];omega
  .simp only[sT,S4,Sw,Th];omega
  .simp only[sT,Sw,Th]at h;omega
 have e:∀x,x∈(ju (c9 c)).map (·.1)↔cF x=true∧x∈c:=λx=>by
  unfold ju;rw[((UB _ _).map _).mem_iff,lq,SD,And.comm]
 obtain⟨h1,f⟩:=vh hs (λx hx=>((e x).1 hx).1) _ (RJ _);refine⟨h1,λx=>?_⟩;have:=f x;rw[R8]at this;exact this.trans (e x)
theorem yU{a b:List Int}(d:a.Pairwise (λx y=>aW x<aW y))(f:b.Pairwise (λx y=>aW x<aW y))(h:∀x,x∈a↔x∈b):a=b:=by
 have g:a.Nodup:=d.imp λ{x y} c e=>by rw[e]at c;omega
 have i:b.Nodup:=f.imp λ{x y} c e=>by rw[e]at c;omega
 exact V4 (le:=λx y=>aW x<aW y) (λx y _ _ h1 j=>by omega) d f ((List.perm_ext_iff_of_nodup g i).2 h)
theorem Hz(c:List Int):jU c c.length=eQ c:=by
 obtain⟨h1,a⟩:=yT c c.length (RJ _);obtain⟨b,d⟩:=pc c;refine yU h1 b λx=>?_;rw[a,d,R8]
def ii(l:List Int):Nat->Nat
 |0=>0
 |i+1=>ii l i+if l.getD i 0∈l.take i then 1 else 0
theorem ol(l:List Int){i:Nat}:∀n,i<=n->ii l i<=ii l n
 |0,h=>by
  have:i=0:=by omega
  subst this;exact RJ _
 |n+1,h=>by
  by_cases e:i=n+1
  .subst e;exact RJ _
  .have:=ol (i:=i) l n (by omega);rw[ii];omega
theorem BF{α:Type}:∀(l:List (Int×α))(k:Int)(y:α),(pt l k y).length=l.length+if(lk l k).isNone=true then 1 else 0
 |[],k,y=>by simp[pt,lk]
 |(j,x)::r,k,y=>by
  have a:=BF r k y;rw[pt,lk]
  by_cases e:j=k
  .rw[RI e,RI e];simp
  .rw[RH e,RH e,Sa,a,Sa];omega
theorem pd(l:List Int)(x:Int):∀n,n<=l.length->((lk (bP l n) x).isNone=true↔¬(cF x=true∧x∈l.take n))
 |0,_=>by simp[bP,lk]
 |n+1,h=>by
  have a:=pd l x n (by omega);have b:l.getD n 0=l[n]:=by simp[show n<l.length by omega]
  rw[bP,b,SA,RF (by omega),Ty,RS,Sp]
  by_cases c:cF l[n]=true
  .rw[RI c,bK]
   by_cases e:l[n]=x
   .rw[RI e];subst e;simp[c]
   .rw[RH e,a];have e':¬x=l[n]:=λh=>e h.symm;simp[e']
  .rw[RH c,a]
   by_cases e:l[n]=x
   .subst e;simp[c]
   .have e':¬x=l[n]:=λh=>e h.symm;simp[e']
theorem yV(l:List Int)(a:∀x∈l,cF x=true):∀n,n<=l.length->(bP l n).length+ii l n=n
 |0,_=>rfl
 |n+1,h=>by
  have d:=yV l a n (by omega);have c:l.getD n 0=l[n]:=by simp[show n<l.length by omega]
  have b:=a _ (RK (show n<l.length by omega));have hn:=pd l l[n] n (by omega);rw[bP,ii,c,RI b,BF]
  by_cases e:l[n]∈l.take n
  .rw[RI e,RH (λh=>hn.1 h ⟨b,e⟩)];omega
  .rw[RH e,RI (hn.2 λh=>e h.2)];omega
def fu(l:List Int)(m:Int):Int:=
 if m<0∨100000<m then 2 else if 1000<l.length then 3 else if(l.all λx=>nD x m)=false then 10 else if ii l l.length=0 then 0 else 21
theorem MS{x m:Int}(h:m<=100000)(hi:nD x m=true):cF x=true:=by
 unfold nD at hi;simp at hi;exact(aY x).2 (by omega)
theorem sU(l:List Int)(m:Int)(q:l.length<=140737488355328):am Tryz.prog 124 [.seq false 1 (aa l),ae m] (λr=>r=.pv (ae (fu l m))):=by
 refine aq aE Tryz.func124 ?_
 by_cases c1:m<0
 .simp[c1,fu]
 by_cases c2:100000<m
 .simp[c1,c2,fu]
 by_cases c3:1000<l.length
 .have b:1000<(l.length:Int):=by omega
  simp[c1,c2,c3,b,fu]
 have b:¬1000<(l.length:Int):=by omega
 have g:∀n,ax n m=if nD n m=true then 0 else 10:=λn=>by unfold ax;rw[RH (by omega)]
 simp[c1,c2,c3,b];refine av.intro (S:=λ(i:Nat)=>⟨[(0,.pv (.seq false 1 (aa l))),(1,.pv (ae m)),(19,.pv (.seq false 1 (aa l))),(20,.pv (ae l.length)),(21,.pv (ae i))],[]⟩) (λi=>i<=l.length∧∀j (h:j<l.length),j<i->nD l[j] m=true) (λi=>l.length -i) 0 ?_ ⟨RW _,λj _ h=>by omega⟩ ?_
 .exact af.to (by simp) rfl (by simp) (by simp) (by simp)
 .rintro i ⟨hi,ho⟩
  by_cases c:i<l.length
  .have o:=dq i;simp[c];refine ai.intro (jt _ _) ?_;simp[g]
   by_cases d:nD l[i] m=true
   .simp[d];refine⟨i+1,by(try dsimp only);omega,⟨by omega,λj h1 p=>?_⟩,af.to (by simp[o]) rfl (by simp) (by simp) (by simp)⟩
    by_cases e:j=i
    .subst e;exact d
    .exact ho j h1 (by omega)
   .have a:(l.all λx=>nD x m)=false:=by
     rw[←Uu];intro h;exact d (Se.1 h _ (RK c))
    simp[d,fu,c1,c2,c3,a]
  .have:i=l.length:=by omega
   subst this;have a:(l.all λx=>nD x m)=true:=Se.2 λx hx=>by
    obtain⟨j,hj,rfl⟩:=RU hx;exact ho j hj hj
   have k:=yV l (λx hx=>MS (by omega) (Se.1 a x hx)) l.length (RJ _);have f:(a8 fI (bP l l.length)).length=(bP l l.length).length:=by unfold a8;simp
   simp;refine ai.intro (Dp l (by omega)) ?_;simp[f]
   by_cases d:ii l l.length=0
   .have:¬(bP l l.length).length<l.length:=by omega
    simp[this,fu,c1,c2,c3,a,d]
   .have:(bP l l.length).length<l.length:=by omega
    simp[this,fu,c1,c2,c3,a,d]
theorem nE(l:List Int)(m:Int)(s:l.length<=140737488355328):am Tryz.prog 82 [.seq false 1 (aa l),ae m] (λr=>r=.pv (ae (fu l m))):=by
 refine aq aE Tryz.func82 ?_
 by_cases c1:m<0
 .simp[c1,fu]
 by_cases c2:100000<m
 .simp[c1,c2,fu]
 by_cases c3:1000<l.length
 .have b:1000<(l.length:Int):=by omega
  simp[c1,c2,c3,b,fu]
 have b:¬1000<(l.length:Int):=by omega
 have o:∀n,ax n m=if nD n m=true then 0 else 10:=λn=>by unfold ax;rw[RH (by omega)]
 simp[c1,c2,c3,b];refine av.intro (S:=λ(i:Nat)=>⟨[(0,.pv (.seq false 1 (aa l))),(1,.pv (ae m)),(5,.pv (ae i))],[]⟩) (λi=>i<=l.length∧∀j (h:j<l.length),j<i->nD l[j] m=true) (λi=>l.length -i) 0 ?_ ⟨RW _,λj _ h=>by omega⟩ ?_
 .exact af.to (by simp) rfl (by simp) (by simp) (by simp)
 .rintro i ⟨hi,ho⟩
  by_cases c:i<l.length
  .have k:=dq i;simp[c];refine ai.intro (wU _ _) ?_;simp[o]
   by_cases d:nD l[i] m=true
   .simp[d];refine⟨i+1,by(try dsimp only);omega,⟨by omega,λj h1 q=>?_⟩,af.to (by simp[k]) rfl (by simp) (by simp) (by simp)⟩
    by_cases e:j=i
    .subst e;exact d
    .exact ho j h1 (by omega)
   .have a:(l.all λx=>nD x m)=false:=by
     rw[←Uu];intro h;exact d (Se.1 h _ (RK c))
    simp[d,fu,c1,c2,c3,a]
  .have:i=l.length:=by omega
   subst this;have a:(l.all λx=>nD x m)=true:=Se.2 λx hx=>by
    obtain⟨j,hj,rfl⟩:=RU hx;exact ho j hj hj
   simp;refine av.intro (S:=λ(i:Nat)=>⟨[(0,.pv (.seq false 1 (aa l))),(6,.pv (ae i))],[]⟩) (λi=>i<=l.length∧ii l i=0) (λi=>l.length -i) 0 ?_ ⟨RW _,rfl⟩ ?_
   .exact af.to (by simp) rfl (by simp) (by simp) (by simp)
   .rintro i ⟨hi,hz⟩
    by_cases c:i<l.length
    .have k:=dq i;have p:l.getD i 0=l[i]:=by simp[c]
     have hd:ii l (i+1)=if l[i]∈l.take i then 1 else 0:=by rw[ii,hz,p,SF]
     have ht:List.take i (aa l)=aa (l.take i):=by simp[aa,TR]
     have hk:=jR (l.take i) l[i] (by rw[RN];omega);have f:i<=l.length:=hi;simp[c,f,ht];refine br.intro hk ?_;simp;refine⟨λh=>?_,λh=>⟨i+1,by(try dsimp only);omega,⟨by(try dsimp only);omega,by(try dsimp only);rw[hd,RH h]⟩,af.to (by simp[k]) rfl (by simp) (by simp) (by simp)⟩⟩;rw[RI h]at hd;have:=ol (i:=i+1) l l.length (by omega);have g:¬ii l l.length=0:=by omega
     simp[fu,c1,c2,c3,a,g]
    .have:i=l.length:=by omega
     subst this;simp[fu,c1,c2,c3,a,hz]
theorem EY(l:List Int):(eQ l).length<=l.length:=by
 rw[←Hz];exact vg l l.length
end Go.AX