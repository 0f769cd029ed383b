/-
  Contracts: clause.Norm; and what follows.
-/
import Derived.Test.YtepodadinenmnaaGreatS14AxClD
import Derived.Test.YtepodadinenmnaaGreatS14AxShelf2
import Derived.Test.YtepodadinenmnaaGreatAxAg
namespace Go.AX
open Go.Proofs
set_option linter.unusedSimpArgs false
abbrev Lit:={n:Int//cF n=true}
instance:Inhabited Lit:=⟨⟨1,rfl⟩⟩
def B8(a b:Lit):Int:=B1 (aV a.1) (aV b.1)
theorem th{a b:Int}(c:cF a=true)(d:cF b=true)(h:aV a=aV b):a=b:=by
 obtain⟨e,f,a3⟩:=(aY a).1 c;obtain⟨b1,b2,b3⟩:=(aY b).1 d;unfold aV c9 at h;rw[SX c,SX d]at h;split at h<;>split at h<;>omega
theorem ti(a b:Lit):ltOf B8 a b=decide (aV a.1<aV b.1):=by
 unfold ltOf B8 B1
 by_cases h:aV a.1<aV b.1
 .simp[h]
 .by_cases c:aV a.1>aV b.1<;>simp[h,c]
theorem Im:Sort.SWO (ltOf B8)where
 irrefl x:=by rw[ti];simp
 trans x y z:=by simp only[ti,Th];omega
 ntrans x y z:=by simp only[ti,Un];omega
theorem In(x y:Lit)(h1:ltOf B8 x y=false)(a:ltOf B8 y x=false):x=y:=by
 rw[ti]at h1 a;simp at h1 a;exact Subtype.ext (th x.2 y.2 (by omega))
theorem FM(x:Int):aj Tryz.prog 281 [ab x] (λr=>r=.pv (BL (!cF x))):=by
 refine ap aD Tryz.func281 ?_;simp;refine ai.intro (aK _) ?_;simp[vI]
theorem FN(x y:Int):aj Tryz.prog 283 [ab x,ab y] (λr=>r=.pv (ab (B1 (aV x) (aV y)))):=by
 refine ap aD Tryz.func283 ?_;simp;refine ai.intro (rh _) ?_;simp;refine ai.intro (rh _) ?_;simp;refine ai.intro (B2 _ _) ?_;simp
def cT:List Int->List Lit
 |[]=>[]
 |x::l=>if h:cF x=true then⟨x,h⟩::cT l else cT l
theorem lB:∀l:List Int,(cT l).map (·.1)=l.filter cF
 |[]=>rfl
 |x::l=>by
  rw[cT];split
  .rename_i h;rw[Tn,lB l,TO,SX h]
  .rename_i h;rw[lB l,TO,SU h]
def jr(l:List Lit):List Lit:=l.mergeSort λx y=>!(ltOf B8) y x
def eG(l:List Int):List Int:=cJ ((jr (cT l)).map (·.1))
theorem Io(l:List Lit)(a:l.length<=1000000):o8 Tryz.prog 282 1 (aC (l.map (·.1))) [.fn (.func 283) [] []] (λk rows=>k=none∧rows=aC ((jr l).map (·.1))):=
 zk Tryz.sortF (λx:Lit=>x.1) B8 283 l a Im In (enters_of Tryz.func283 (by kernel_rfl) rfl) (by kernel_rfl) (λx y=>FN x.1 y.1)
theorem o8.asFn{P:Program}{f g:FuncId}{e:Nat}{rows:List (List PV)}{R:Option Nat->List (List PV)->Prop}(h:o8 P f e rows [.fn (.func g) [] []] R):o8 P f e rows [.lit (.func (.func g) #[] #[])] R:=by
 have j:∀{G:Gh}{a:List Value},ak G [.lit (.func (.func g) #[] #[])] a->ak G [.fn (.func g) [] []] a:=λ⟨v,r,h1,b,d⟩=>⟨v,r,h1,⟨#[],#[],b,rfl,rfl⟩,d⟩;exact⟨h.1,λhn w c cap arr T pre vs i a h1 b d k l m n=>h.2.1 hn w c cap arr T pre vs i a h1 b d k l (j m) n,λhn w p cap a h1=>h.2.2 hn w p cap a (j h1)⟩
theorem f9(k:Nat):∀l:List Int,bI k (aC l)
 |[]=>trivial
 |_::l=>⟨⟨trivial,trivial⟩,f9 k l⟩
theorem gC(l:List Int):(aC l).length=l.length:=by unfold aC;simp
theorem xx(a b:List Int):aC (a++b)=aC a++aC b:=by unfold aC;simp
theorem oG(a b:List Int):(aC (a++b)).take a.length=aC a:=by rw[xx,UY (gC a)]
theorem Lz(l:List Int):bk (λx=>!cF x) l=(cT l).map (·.1):=by
 rw[lB];unfold bk;congr 1;funext x;simp
theorem LA(l:List Int)(p:l.length<=1000000):aj Tryz.prog 241 [.seq false 1 (ae l)] (λr=>r=.own true 1 (ae (eG l))):=by
 refine ap aD Tryz.func241 ?_;have i:=(iR l p 281 [] (λx=>!cF x) (λr=>rfl) rfl (λk=>trivial) trivial (λx _=>FM x)).asFn;have c:=jU (λx=>!cF x) l;have n:=Lz l;unfold Lv at i;rw[n]at i c;have d:(cT l).length<=1000000:=by rw[S7]at c;omega
 have q:=(Io (cT l) d).asFn;have e:(jr (cT l)).length=(cT l).length:=Ur _;have h:=tf ((jr (cT l)).map (·.1)) (by rw[S7,e];exact d);have hcl:=iT ((jr (cT l)).map (·.1)) ((jr (cT l)).map (·.1)).length;unfold NQ at h;have j:cJ ((jr (cT l)).map (·.1))=eG l:=rfl;have b:aL ((jr (cT l)).map (·.1)) ((jr (cT l)).map (·.1)).length=eG l:=rfl;rw[j]at h;rw[b]at hcl;have f:((jr (cT l)).map (·.1)).length=((cT l).map (·.1)).length:=by rw[S7,S7,e]
 generalize(jr (cT l)).map (·.1)=s at*;generalize(cT l).map (·.1)=g at*;generalize eG l=u at*;simp;refine ai.intro (iQ l p) ?_;simp;refine ai.introX (bE.introS (o:=.slot 6) (lo:=0) (hi:=l.length) i (by simp) rfl rfl (by simp) (by simp) rfl (by simp;rw[TT (by simp[ae])];rfl) (f9 0 l) (by simp) (by simp) ?_);rintro k a ⟨rfl,rfl⟩ _ _;have m:List.drop l.length (ae l)=[]:=Tq (by simp[ae]);have t:=gC (g++List.replicate (l.length -g.length) 0);simp[m];refine ai.introX (bE.introS (o:=.slot 6) (lo:=0) (hi:=g.length) q (by simp) rfl rfl (by simp) (by simp) rfl (by simp;exact oG _ _) (f9 0 g) (by simp) (by simp) ?_);rintro k a ⟨rfl,rfl⟩ _ _;simp;refine ai.introX (bE.introS (o:=.slot 6) (lo:=0) (hi:=g.length) h (by simp) rfl rfl (by simp) (by simp) rfl (by simp;rw[UY (by rw[gC,f])]) (f9 0 s) (by simp) (by simp) ?_);rintro k a ⟨rfl,rfl⟩ _ _;simp;rw[Uy (by rw[gC];simp),oG];rfl
def zm:List Int->Int->Nat
 |[],_=>0
 |y::l,x=>if aV y<aV x then zm l x+1 else 0
def zn(l:List Int)(x:Int):List Int:=l.take (zm l x)++x::l.drop (zm l x)
theorem LB:∀(l:List Int)(x:Int),zm l x<=l.length
 |[],_=>SY _
 |y::l,x=>by
  rw[zm];have:=LB l x;split
  .simp;omega
  .simp
theorem vJ(y:Int)(l:List Int)(x:Int):zn (y::l) x=if aV y<aV x then y::zn l x else x::y::l:=by
 unfold zn;rw[zm];split
 .simp
 .simp
theorem nu:∀(l:List Int)(x:Int),(zn l x).Perm (x::l)
 |[],x=>by simp[zn,zm]
 |y::l,x=>by
  rw[vJ];split
  .exact((nu l x).cons y).trans (.swap x y l)
  .exact .refl _
theorem rk:∀(l:List Int)(x:Int),(∀y∈l,aV y≠aV x)->l.Pairwise (λa b=>aV a<aV b)->(zn l x).Pairwise (λa b=>aV a<aV b)
 |[],x,_,_=>by simp[zn,zm]
 |y::l,x,hn,h=>by
  rw[vJ];rw[U6]at h;split
  .rename_i c;rw[U6];refine⟨λz hz=>?_,rk l x (λz hz=>hn z (Tl _ hz)) h.2⟩;rcases Tx.1 ((nu l x).mem_iff.1 hz)with rfl|hz
   .exact c
   .exact h.1 z hz
  .rename_i c;rw[U6,U6];have:=hn y To;refine⟨λz hz=>?_,h⟩;rcases Tx.1 hz with rfl|hz
   .omega
   .have:=h.1 z hz;omega
def jV(c:List Int):Nat->List Int
 |0=>[]
 |i+1=>if cF (c.getD i 0)=true∧c.getD i 0∉jV c i then zn (jV c i) (c.getD i 0)else jV c i
theorem vK(c:List Int):∀i,(jV c i).length<=i
 |0=>SY _
 |i+1=>by
  have:=vK c i;rw[jV];split
  .rw[(nu _ _).length_eq];simp;omega
  .omega
theorem zo(c:List Int):∀i,i<=c.length->(jV c i).Pairwise (λa b=>aV a<aV b)∧∀x,x∈jV c i↔cF x=true∧x∈c.take i
 |0,_=>⟨by simp[jV],λx=>by simp[jV]⟩
 |i+1,h=>by
  obtain⟨h1,f⟩:=zo c i (by omega);have g:c.getD i 0=c[i]:=by simp[show i<c.length by omega]
  rw[jV,g,TW,SR (by omega),UO]
  by_cases d:cF c[i]=true∧c[i]∉jV c i
  .rw[SX d];refine⟨rk _ _ (λy hy e=>d.2 ?_) h1,λx=>?_⟩
   .rw[←th ((f y).1 hy).1 d.1 e];exact hy
   .rw[(nu _ _).mem_iff,Tx,f,Te,TA];constructor
    .rintro(rfl|⟨a,b⟩)
     .exact⟨d.1,.inr rfl⟩
     .exact⟨a,.inl b⟩
    .rintro⟨a,b|b⟩
     .exact .inr ⟨a,b⟩
     .exact .inl b
  .rw[SU d];refine⟨h1,λx=>?_⟩;rw[f,Te,TA];constructor
   .rintro⟨a,b⟩;exact⟨a,.inl b⟩
   .rintro⟨a,b|rfl⟩
    .exact⟨a,b⟩
    .have j:c[i]∈jV c i:=Ts λh=>d ⟨a,h⟩;exact(f _).1 j
theorem vL{zs:List Int}(hs:zs.Pairwise (λa b=>aV a<=aV b))(c:∀x∈zs,cF x=true):∀j,j<=zs.length->(aL zs j).Pairwise (λa b=>aV a<aV b)∧∀x,x∈aL zs j↔x∈zs.take j
 |0,_=>⟨by simp[aL],λx=>by simp[aL]⟩
 |j+1,h=>by
  obtain⟨h1,g⟩:=vL hs c j (by omega);have l:zs.getD j 0=zs[j]:=by simp[show j<zs.length by omega]
  rw[aL,l,TW,SR (by omega),UO];have hp:=TB.1 hs
  by_cases d:j=0∨zs[j]≠zs.getD (j -1) 0
  .rw[SX d];refine⟨VB.2 ⟨h1,by simp,λy hy z hz=>?_⟩,λx=>by rw[Te,Te,g]⟩;rw[TA]at hz;subst hz;obtain⟨k,hk,rfl⟩:=Tc ((g y).1 hy);rw[S6]at hk;rw[Uh];rcases d with rfl|d
   .omega
   .have f:zs.getD (j -1) 0=zs[j -1]:=by simp[show j -1<zs.length by omega]
    rw[f]at d;have n:aV zs[k]<=aV zs[j -1]:=by
     by_cases e:k=j -1
     .subst e;exact Vn _
     .exact hp k (j -1) (by omega) (by omega) (by omega)
    have o:aV zs[j -1]<=aV zs[j]:=hp (j -1) j (by omega) (by omega) (by omega);have a3:aV zs[j -1]≠aV zs[j]:=λe=>d (th (c _ (S5 _)) (c _ (S5 _)) e.symm);omega
  .rw[SU d];refine⟨h1,λx=>?_⟩;rw[g,Te,TA];refine⟨.inl,λhx=>hx.elim id λe=>?_⟩;have hj:j≠0:=λe=>d (.inl e);have f:zs.getD (j -1) 0=zs[j -1]:=by simp[show j -1<zs.length by omega]
   have i:zs[j]=zs[j -1]:=Ts λm=>d (.inr (by rw[f];exact m));rw[e,i];exact Uj.2 ⟨j -1,by omega,rfl⟩
theorem pC(c:List Int):(eG c).Pairwise (λa b=>aV a<aV b)∧∀x,x∈eG c↔cF x=true∧x∈c:=by
 have hs:((jr (cT c)).map (·.1)).Pairwise (λa b=>aV a<=aV b):=by
  rw[Ux];refine(V3 (λa b d=>?_) (λa b=>?_) (cT c)).imp λ{a b} h=>?_
  .simp only[ti,TU,Un];omega
  .simp only[ti,Um,TU,Un];omega
  .simp only[ti,TU,Un]at h;omega
 have e:∀x,x∈(jr (cT c)).map (·.1)↔cF x=true∧x∈c:=λx=>by
  unfold jr;rw[((Va _ _).map _).mem_iff,lB,TJ,And.comm]
 obtain⟨h1,f⟩:=vL hs (λx hx=>((e x).1 hx).1) _ (SY _);refine⟨h1,λx=>?_⟩;have:=f x;rw[Tw]at this;exact this.trans (e x)
theorem zp{a b:List Int}(d:a.Pairwise (λx y=>aV x<aV y))(f:b.Pairwise (λx y=>aV x<aV y))(h:∀x,x∈a↔x∈b):a=b:=by
 have g:a.Nodup:=d.imp λ{x y} c e=>by rw[e]at c;omega
 have i:b.Nodup:=f.imp λ{x y} c e=>by rw[e]at c;omega
 exact Xm (le:=λx y=>aV x<aV y) (λx y _ _ h1 j=>by omega) d f ((List.perm_ext_iff_of_nodup g i).2 h)
theorem Ip(c:List Int):jV c c.length=eG c:=by
 obtain⟨h1,a⟩:=zo c c.length (SY _);obtain⟨b,d⟩:=pC c;refine zp h1 b λx=>?_;rw[a,d,Tw]
def iq(l:List Int):Nat->Nat
 |0=>0
 |i+1=>iq l i+if l.getD i 0∈l.take i then 1 else 0
theorem oH(l:List Int){i:Nat}:∀n,i<=n->iq l i<=iq l n
 |0,h=>by
  have:i=0:=by omega
  subst this;exact SY _
 |n+1,h=>by
  by_cases e:i=n+1
  .subst e;exact SY _
  .have:=oH (i:=i) l n (by omega);rw[iq];omega
theorem B9{α:Type}:∀(l:List (Int×α))(k:Int)(y:α),(pt l k y).length=l.length+if(lk l k).isNone=true then 1 else 0
 |[],k,y=>by simp[pt,lk]
 |(j,x)::r,k,y=>by
  have a:=B9 r k y;rw[pt,lk]
  by_cases e:j=k
  .rw[SX e,SX e];simp
  .rw[SU e,SU e,Ty,a,Ty];omega
theorem pD(l:List Int)(x:Int):∀n,n<=l.length->((lk (bS l n) x).isNone=true↔¬(cF x=true∧x∈l.take n))
 |0,_=>by simp[bS,lk]
 |n+1,h=>by
  have a:=pD l x n (by omega);have b:l.getD n 0=l[n]:=by simp[show n<l.length by omega]
  rw[bS,b,TW,SR (by omega),UO,Te,TA]
  by_cases c:cF l[n]=true
  .rw[SX c,bJ]
   by_cases e:l[n]=x
   .rw[SX e];subst e;simp[c]
   .rw[SU e,a];have e':¬x=l[n]:=λh=>e h.symm;simp[e']
  .rw[SU c,a]
   by_cases e:l[n]=x
   .subst e;simp[c]
   .have e':¬x=l[n]:=λh=>e h.symm;simp[e']
theorem zr(l:List Int)(a:∀x∈l,cF x=true):∀n,n<=l.length->(bS l n).length+iq l n=n
 |0,_=>rfl
 |n+1,h=>by
  have d:=zr l a n (by omega);have c:l.getD n 0=l[n]:=by simp[show n<l.length by omega]
  have b:=a _ (S5 (show n<l.length by omega));have hn:=pD l l[n] n (by omega);rw[bS,iq,c,SX b,B9]
  by_cases e:l[n]∈l.take n
  .rw[SX e,SU (λh=>hn.1 h ⟨b,e⟩)];omega
  .rw[SU e,SX (hn.2 λh=>e h.2)];omega
def fj(l:List Int)(m:Int):Int:=
 if m<0∨100000<m then 2 else if 1000<l.length then 3 else if(l.all λx=>nH x m)=false then 10 else if iq l l.length=0 then 0 else 21
theorem NU{x m:Int}(h:m<=100000)(hi:nH x m=true):cF x=true:=by
 unfold nH at hi;simp at hi;exact(aY x).2 (by omega)
theorem tm(l:List Int)(m:Int)(q:l.length<=140737488355328):aj Tryz.prog 124 [.seq false 1 (ae l),ab m] (λr=>r=.pv (ab (fj l m))):=by
 refine ap aD Tryz.func124 ?_
 by_cases c1:m<0
 .simp[c1,fj]
 by_cases c2:100000<m
 .simp[c1,c2,fj]
 by_cases c3:1000<l.length
 .have b:1000<(l.length:Int):=by omega
  simp[c1,c2,c3,b,fj]
 have b:¬1000<(l.length:Int):=by omega
 have g:∀n,aw n m=if nH n m=true then 0 else 10:=λn=>by unfold aw;rw[SU (by omega)]
 simp[c1,c2,c3,b];refine ax.intro (S:=λ(i:Nat)=>⟨[(0,.pv (.seq false 1 (ae l))),(1,.pv (ab m)),(19,.pv (.seq false 1 (ae l))),(20,.pv (ab l.length)),(21,.pv (ab i))],[]⟩) (λi=>i<=l.length∧∀j (h:j<l.length),j<i->nH l[j] m=true) (λi=>l.length -i) 0 ?_ ⟨Tf _,λj _ h=>by omega⟩ ?_
 .exact ah.to (by simp) rfl (by simp) (by simp) (by simp)
 .rintro i ⟨hi,ho⟩
  by_cases c:i<l.length
  .have o:=dv i;simp[c];refine ai.intro (jp _ _) ?_;simp[g]
   by_cases d:nH l[i] m=true
   .simp[d];refine⟨i+1,by(try dsimp only);omega,⟨by omega,λj h1 p=>?_⟩,ah.to (by simp[o]) rfl (by simp) (by simp) (by simp)⟩
    by_cases e:j=i
    .subst e;exact d
    .exact ho j h1 (by omega)
   .have a:(l.all λx=>nH x m)=false:=by
     rw[←VL];intro h;exact d (TE.1 h _ (S5 c))
    simp[d,fj,c1,c2,c3,a]
  .have:i=l.length:=by omega
   subst this;have a:(l.all λx=>nH x m)=true:=TE.2 λx hx=>by
    obtain⟨j,hj,rfl⟩:=Tc hx;exact ho j hj hj
   have k:=zr l (λx hx=>NU (by omega) (TE.1 a x hx)) l.length (SY _);have f:(aZ fI (bS l l.length)).length=(bS l l.length).length:=by unfold aZ;simp
   simp;refine ai.intro (D4 l (by omega)) ?_;simp[f]
   by_cases d:iq l l.length=0
   .have:¬(bS l l.length).length<l.length:=by omega
    simp[this,fj,c1,c2,c3,a,d]
   .have:(bS l l.length).length<l.length:=by omega
    simp[this,fj,c1,c2,c3,a,d]
theorem nT(l:List Int)(m:Int)(s:l.length<=140737488355328):aj Tryz.prog 82 [.seq false 1 (ae l),ab m] (λr=>r=.pv (ab (fj l m))):=by
 refine ap aD Tryz.func82 ?_
 by_cases c1:m<0
 .simp[c1,fj]
 by_cases c2:100000<m
 .simp[c1,c2,fj]
 by_cases c3:1000<l.length
 .have b:1000<(l.length:Int):=by omega
  simp[c1,c2,c3,b,fj]
 have b:¬1000<(l.length:Int):=by omega
 have o:∀n,aw n m=if nH n m=true then 0 else 10:=λn=>by unfold aw;rw[SU (by omega)]
 simp[c1,c2,c3,b];refine ax.intro (S:=λ(i:Nat)=>⟨[(0,.pv (.seq false 1 (ae l))),(1,.pv (ab m)),(5,.pv (ab i))],[]⟩) (λi=>i<=l.length∧∀j (h:j<l.length),j<i->nH l[j] m=true) (λi=>l.length -i) 0 ?_ ⟨Tf _,λj _ h=>by omega⟩ ?_
 .exact ah.to (by simp) rfl (by simp) (by simp) (by simp)
 .rintro i ⟨hi,ho⟩
  by_cases c:i<l.length
  .have k:=dv i;simp[c];refine ai.intro (xu _ _) ?_;simp[o]
   by_cases d:nH l[i] m=true
   .simp[d];refine⟨i+1,by(try dsimp only);omega,⟨by omega,λj h1 q=>?_⟩,ah.to (by simp[k]) rfl (by simp) (by simp) (by simp)⟩
    by_cases e:j=i
    .subst e;exact d
    .exact ho j h1 (by omega)
   .have a:(l.all λx=>nH x m)=false:=by
     rw[←VL];intro h;exact d (TE.1 h _ (S5 c))
    simp[d,fj,c1,c2,c3,a]
  .have:i=l.length:=by omega
   subst this;have a:(l.all λx=>nH x m)=true:=TE.2 λx hx=>by
    obtain⟨j,hj,rfl⟩:=Tc hx;exact ho j hj hj
   simp;refine ax.intro (S:=λ(i:Nat)=>⟨[(0,.pv (.seq false 1 (ae l))),(6,.pv (ab i))],[]⟩) (λi=>i<=l.length∧iq l i=0) (λi=>l.length -i) 0 ?_ ⟨Tf _,rfl⟩ ?_
   .exact ah.to (by simp) rfl (by simp) (by simp) (by simp)
   .rintro i ⟨hi,hz⟩
    by_cases c:i<l.length
    .have k:=dv i;have p:l.getD i 0=l[i]:=by simp[c]
     have hd:iq l (i+1)=if l[i]∈l.take i then 1 else 0:=by rw[iq,hz,p,T4]
     have ht:List.take i (ae l)=ae (l.take i):=by simp[ae,UB]
     have hk:=jT (l.take i) l[i] (by rw[S6];omega);have f:i<=l.length:=hi;simp[c,f,ht];refine bz.intro hk ?_;simp;refine⟨λh=>?_,λh=>⟨i+1,by(try dsimp only);omega,⟨by(try dsimp only);omega,by(try dsimp only);rw[hd,SU h]⟩,ah.to (by simp[k]) rfl (by simp) (by simp) (by simp)⟩⟩;rw[SX h]at hd;have:=oH (i:=i+1) l l.length (by omega);have g:¬iq l l.length=0:=by omega
     simp[fj,c1,c2,c3,a,g]
    .have:i=l.length:=by omega
     subst this;simp[fj,c1,c2,c3,a,hz]
theorem FO(l:List Int):(eG l).length<=l.length:=by
 rw[←Ip];exact vK l l.length
end Go.AX