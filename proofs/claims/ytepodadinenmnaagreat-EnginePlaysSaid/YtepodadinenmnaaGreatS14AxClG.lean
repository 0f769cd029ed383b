/-
  Contracts: clause.Norm.
  Contracts: the one form of a clause is the document's.
  Contracts: clause.Check, Without, Resolve.
-/
import Derived.Test.YtepodadinenmnaaGreatS14AxClD
import Derived.Test.YtepodadinenmnaaGreatS14AxShelf2
import Derived.Test.YtepodadinenmnaaGreatAxAg
namespace Go.AX
open Go.Proofs
set_option linter.unusedSimpArgs false
abbrev Lit:={n:Int//cE n=true}
instance:Inhabited Lit:=⟨⟨1,rfl⟩⟩
def Bt(a b:Lit):Int:=Bl (aW a.1) (aW b.1)
theorem sF{a b:Int}(c:cE a=true)(d:cE b=true)(h:aW a=aW b):a=b:=by
 obtain⟨e,f,a3⟩:=(aY a).1 c;obtain⟨b1,b2,b3⟩:=(aY b).1 d;unfold aW dg at h;rw[Rx c,Rx d]at h;split at h<;>split at h<;>omega
theorem sG(a b:Lit):ltOf Bt a b=decide (aW a.1<aW b.1):=by
 unfold ltOf Bt Bl
 by_cases h:aW a.1<aW b.1
 .simp[h]
 .by_cases c:aW a.1>aW b.1<;>simp[h,c]
theorem Ho:Sort.SWO (ltOf Bt)where
 irrefl x:=by rw[sG];simp
 trans x y z:=by simp only[sG,RP];omega
 ntrans x y z:=by simp only[sG,S5];omega
theorem Hp(x y:Lit)(h1:ltOf Bt x y=false)(a:ltOf Bt y x=false):x=y:=by
 rw[sG]at h1 a;simp at h1 a;exact Subtype.ext (sF x.2 y.2 (by omega))
theorem EK(x:Int):am Tryz.prog 281 [ae x] (λr=>r=.pv (BL (!cE x))):=by
 refine aq aE Tryz.func281 ?_;simp;refine ai.intro (aI _) ?_;simp[u9]
theorem EL(x y:Int):am Tryz.prog 283 [ae x,ae y] (λr=>r=.pv (ae (Bl (aW x) (aW y)))):=by
 refine aq aE Tryz.func283 ?_;simp;refine ai.intro (qI _) ?_;simp;refine ai.intro (qI _) ?_;simp;refine ai.intro (Bn _ _) ?_;simp
def cX:List Int->List Lit
 |[]=>[]
 |x::l=>if h:cE x=true then⟨x,h⟩::cX l else cX l
theorem lm:∀l:List Int,(cX l).map (·.1)=l.filter cE
 |[]=>rfl
 |x::l=>by
  rw[cX];split
  .rename_i h;rw[RU,lm l,Sn,Rx h]
  .rename_i h;rw[lm l,Sn,Rw h]
def jp(l:List Lit):List Lit:=l.mergeSort λx y=>!(ltOf Bt) y x
def eO(l:List Int):List Int:=cP ((jp (cX l)).map (·.1))
theorem Hq(l:List Lit)(a:l.length<=1000000):wo Tryz.prog 282 1 (aD (l.map (·.1))) [.fn (.func 283) [] []] (λk rows=>k=none∧rows=aD ((jp l).map (·.1))):=
 yK Tryz.sortF (λx:Lit=>x.1) Bt 283 l a Ho Hp (enters_of Tryz.func283 (by kernel_rfl) rfl) (by kernel_rfl) (λx y=>EL x.1 y.1)
theorem wo.asFn{P:Program}{f g:FuncId}{e:Nat}{rows:List (List PV)}{R:Option Nat->List (List PV)->Prop}(h:wo P f e rows [.fn (.func g) [] []] R):wo P f e rows [.lit (.func (.func g) #[] #[])] R:=by
 have j:∀{G:Gh}{a:List Value},ak G [.lit (.func (.func g) #[] #[])] a->ak G [.fn (.func g) [] []] a:=λ⟨v,r,h1,b,d⟩=>⟨v,r,h1,⟨#[],#[],b,rfl,rfl⟩,d⟩;exact⟨h.1,λhn w c cap arr T pre vs i a h1 b d k l m n=>h.2.1 hn w c cap arr T pre vs i a h1 b d k l (j m) n,λhn w p cap a h1=>h.2.2 hn w p cap a (j h1)⟩
theorem fZ(k:Nat):∀l:List Int,bW k (aD l)
 |[]=>trivial
 |_::l=>⟨⟨trivial,trivial⟩,fZ k l⟩
theorem gv(l:List Int):(aD l).length=l.length:=by unfold aD;simp
theorem wT(a b:List Int):aD (a++b)=aD a++aD b:=by unfold aD;simp
theorem od(a b:List Int):(aD (a++b)).take a.length=aD a:=by rw[wT,TI (gv a)]
theorem KE(l:List Int):bk (λx=>!cE x) l=(cX l).map (·.1):=by
 rw[lm];unfold bk;congr 1;funext x;simp
theorem KF(l:List Int)(q:l.length<=1000000):am Tryz.prog 241 [.seq false 1 (aa l)] (λr=>r=.own true 1 (aa (eO l))):=by
 refine aq aE Tryz.func241 ?_;have i:=(iG l q 281 [] (λx=>!cE x) (λr=>rfl) rfl (λk=>trivial) trivial (λx _=>EK x)).asFn;have c:=jP (λx=>!cE x) l;have p:=KE l;unfold Kz at i;rw[p]at i c;have d:(cX l).length<=1000000:=by rw[RH]at c;omega
 have s:=(Hq (cX l) d).asFn;have e:(jp (cX l)).length=(cX l).length:=S8 _;have h:=sD ((jp (cX l)).map (·.1)) (by rw[RH,e];exact d);have j:=iJ ((jp (cX l)).map (·.1)) ((jp (cX l)).map (·.1)).length;unfold MF at h;have m:cP ((jp (cX l)).map (·.1))=eO l:=rfl;have b:aJ ((jp (cX l)).map (·.1)) ((jp (cX l)).map (·.1)).length=eO l:=rfl;rw[m]at h;rw[b]at j;have f:((jp (cX l)).map (·.1)).length=((cX l).map (·.1)).length:=by rw[RH,RH,e]
 generalize(jp (cX l)).map (·.1)=t at*;generalize(cX l).map (·.1)=g at*;generalize eO l=v at*;simp;refine ai.intro (iF l q) ?_;simp;refine ai.introX (bC.introS (o:=.slot 6) (lo:=0) (hi:=l.length) i (by simp) rfl rfl (by simp) (by simp) rfl (by simp;rw[SA (by simp[aa])];rfl) (fZ 0 l) (by simp) (by simp) ?_);rintro k a ⟨rfl,rfl⟩ _ _;have n:List.drop l.length (aa l)=[]:=R2 (by simp[aa]);have u:=gv (g++List.replicate (l.length -g.length) 0);simp[n];refine ai.introX (bC.introS (o:=.slot 6) (lo:=0) (hi:=g.length) s (by simp) rfl rfl (by simp) (by simp) rfl (by simp;exact od _ _) (fZ 0 g) (by simp) (by simp) ?_);rintro k a ⟨rfl,rfl⟩ _ _;simp;refine ai.introX (bC.introS (o:=.slot 6) (lo:=0) (hi:=g.length) h (by simp) rfl rfl (by simp) (by simp) rfl (by simp;rw[TI (by rw[gv,f])]) (fZ 0 t) (by simp) (by simp) ?_);rintro k a ⟨rfl,rfl⟩ _ _;simp;rw[TB (by rw[gv];simp),od];rfl
def yL:List Int->Int->Nat
 |[],_=>0
 |y::l,x=>if aW y<aW x then yL l x+1 else 0
def yM(l:List Int)(x:Int):List Int:=l.take (yL l x)++x::l.drop (yL l x)
theorem KG:∀(l:List Int)(x:Int),yL l x<=l.length
 |[],_=>Ry _
 |y::l,x=>by
  rw[yL];have:=KG l x;split
  .simp;omega
  .simp
theorem vb(y:Int)(l:List Int)(x:Int):yM (y::l) x=if aW y<aW x then y::yM l x else x::y::l:=by
 unfold yM;rw[yL];split
 .simp
 .simp
theorem mX:∀(l:List Int)(x:Int),(yM l x).Perm (x::l)
 |[],x=>by simp[yM,yL]
 |y::l,x=>by
  rw[vb];split
  .exact((mX l x).cons y).trans (.swap x y l)
  .exact .refl _
theorem qJ:∀(l:List Int)(x:Int),(∀y∈l,aW y≠aW x)->l.Pairwise (λa b=>aW a<aW b)->(yM l x).Pairwise (λa b=>aW a<aW b)
 |[],x,_,_=>by simp[yM,yL]
 |y::l,x,hn,h=>by
  rw[vb];rw[T4]at h;split
  .rename_i c;rw[T4];refine⟨λz hz=>?_,qJ l x (λz hz=>hn z (RO _ hz)) h.2⟩;rcases RZ.1 ((mX l x).mem_iff.1 hz)with rfl|hz
   .exact c
   .exact h.1 z hz
  .rename_i c;rw[T4,T4];have:=hn y RR;refine⟨λz hz=>?_,h⟩;rcases RZ.1 hz with rfl|hz
   .omega
   .have:=h.1 z hz;omega
def jR(c:List Int):Nat->List Int
 |0=>[]
 |i+1=>if cE (c.getD i 0)=true∧c.getD i 0∉jR c i then yM (jR c i) (c.getD i 0)else jR c i
theorem vc(c:List Int):∀i,(jR c i).length<=i
 |0=>Ry _
 |i+1=>by
  have:=vc c i;rw[jR];split
  .rw[(mX _ _).length_eq];simp;omega
  .omega
theorem yN(c:List Int):∀i,i<=c.length->(jR c i).Pairwise (λa b=>aW a<aW b)∧∀x,x∈jR c i↔cE x=true∧x∈c.take i
 |0,_=>⟨by simp[jR],λx=>by simp[jR]⟩
 |i+1,h=>by
  obtain⟨h1,f⟩:=yN c i (by omega);have g:c.getD i 0=c[i]:=by simp[show i<c.length by omega]
  rw[jR,g,Sp,Ru (by omega),Tm]
  by_cases d:cE c[i]=true∧c[i]∉jR c i
  .rw[Rx d];refine⟨qJ _ _ (λy hy e=>d.2 ?_) h1,λx=>?_⟩
   .rw[←sF ((f y).1 hy).1 d.1 e];exact hy
   .rw[(mX _ _).mem_iff,RZ,f,RI,Sc];constructor
    .rintro(rfl|⟨a,b⟩)
     .exact⟨d.1,.inr rfl⟩
     .exact⟨a,.inl b⟩
    .rintro⟨a,b|b⟩
     .exact .inr ⟨a,b⟩
     .exact .inl b
  .rw[Rw d];refine⟨h1,λx=>?_⟩;rw[f,RI,Sc];constructor
   .rintro⟨a,b⟩;exact⟨a,.inl b⟩
   .rintro⟨a,b|rfl⟩
    .exact⟨a,b⟩
    .have j:c[i]∈jR c i:=RW λh=>d ⟨a,h⟩;exact(f _).1 j
theorem vd{zs:List Int}(hs:zs.Pairwise (λa b=>aW a<=aW b))(c:∀x∈zs,cE x=true):∀j,j<=zs.length->(aJ zs j).Pairwise (λa b=>aW a<aW b)∧∀x,x∈aJ zs j↔x∈zs.take j
 |0,_=>⟨by simp[aJ],λx=>by simp[aJ]⟩
 |j+1,h=>by
  obtain⟨h1,g⟩:=vd hs c j (by omega);have l:zs.getD j 0=zs[j]:=by simp[show j<zs.length by omega]
  rw[aJ,l,Sp,Ru (by omega),Tm];have hp:=R9.1 hs
  by_cases d:j=0∨zs[j]≠zs.getD (j -1) 0
  .rw[Rx d];refine⟨Uk.2 ⟨h1,by simp,λy hy z hz=>?_⟩,λx=>by rw[RI,RI,g]⟩;rw[Sc]at hz;subst hz;obtain⟨k,hk,rfl⟩:=RJ ((g y).1 hy);rw[RD]at hk;rw[SQ];rcases d with rfl|d
   .omega
   .have f:zs.getD (j -1) 0=zs[j -1]:=by simp[show j -1<zs.length by omega]
    rw[f]at d;have n:aW zs[k]<=aW zs[j -1]:=by
     by_cases e:k=j -1
     .subst e;exact TU _
     .exact hp k (j -1) (by omega) (by omega) (by omega)
    have o:aW zs[j -1]<=aW zs[j]:=hp (j -1) j (by omega) (by omega) (by omega);have a3:aW zs[j -1]≠aW zs[j]:=λe=>d (sF (c _ (Rz _)) (c _ (Rz _)) e.symm);omega
  .rw[Rw d];refine⟨h1,λx=>?_⟩;rw[g,RI,Sc];refine⟨.inl,λhx=>hx.elim id λe=>?_⟩;have hj:j≠0:=λe=>d (.inl e);have f:zs.getD (j -1) 0=zs[j -1]:=by simp[show j -1<zs.length by omega]
   have i:zs[j]=zs[j -1]:=RW λm=>d (.inr (by rw[f];exact m));rw[e,i];exact SH.2 ⟨j -1,by omega,rfl⟩
theorem o6(c:List Int):(eO c).Pairwise (λa b=>aW a<aW b)∧∀x,x∈eO c↔cE x=true∧x∈c:=by
 have hs:((jp (cX c)).map (·.1)).Pairwise (λa b=>aW a<=aW b):=by
  rw[Tj];refine(UH (λa b d=>?_) (λa b=>?_) (cX c)).imp λ{a b} h=>?_
  .simp only[sG,Sk,S5];omega
  .simp only[sG,SN,Sk,S5];omega
  .simp only[sG,Sk,S5]at h;omega
 have e:∀x,x∈(jp (cX c)).map (·.1)↔cE x=true∧x∈c:=λx=>by
  unfold jp;rw[((Uq _ _).map _).mem_iff,lm,Ss,And.comm]
 obtain⟨h1,f⟩:=vd hs (λx hx=>((e x).1 hx).1) _ (Ry _);refine⟨h1,λx=>?_⟩;have:=f x;rw[RY]at this;exact this.trans (e x)
theorem yO{a b:List Int}(d:a.Pairwise (λx y=>aW x<aW y))(f:b.Pairwise (λx y=>aW x<aW y))(h:∀x,x∈a↔x∈b):a=b:=by
 have g:a.Nodup:=d.imp λ{x y} c e=>by rw[e]at c;omega
 have i:b.Nodup:=f.imp λ{x y} c e=>by rw[e]at c;omega
 exact VU (le:=λx y=>aW x<aW y) (λx y _ _ h1 j=>by omega) d f ((List.perm_ext_iff_of_nodup g i).2 h)
theorem Hr(c:List Int):jR c c.length=eO c:=by
 obtain⟨h1,a⟩:=yN c c.length (Ry _);obtain⟨b,d⟩:=o6 c;refine yO h1 b λx=>?_;rw[a,d,RY]
def ig(l:List Int):Nat->Nat
 |0=>0
 |i+1=>ig l i+if l.getD i 0∈l.take i then 1 else 0
theorem oe(l:List Int){i:Nat}:∀n,i<=n->ig l i<=ig l n
 |0,h=>by
  have:i=0:=by omega
  subst this;exact Ry _
 |n+1,h=>by
  by_cases e:i=n+1
  .subst e;exact Ry _
  .have:=oe (i:=i) l n (by omega);rw[ig];omega
theorem Bu{α:Type}:∀(l:List (Int×α))(k:Int)(y:α),(pt l k y).length=l.length+if(lk l k).isNone=true then 1 else 0
 |[],k,y=>by simp[pt,lk]
 |(j,x)::r,k,y=>by
  have a:=Bu r k y;rw[pt,lk]
  by_cases e:j=k
  .rw[Rx e,Rx e];simp
  .rw[Rw e,Rw e,R0,a,R0];omega
theorem o7(l:List Int)(x:Int):∀n,n<=l.length->((lk (bP l n) x).isNone=true↔¬(cE x=true∧x∈l.take n))
 |0,_=>by simp[bP,lk]
 |n+1,h=>by
  have a:=o7 l x n (by omega);have b:l.getD n 0=l[n]:=by simp[show n<l.length by omega]
  rw[bP,b,Sp,Ru (by omega),Tm,RI,Sc]
  by_cases c:cE l[n]=true
  .rw[Rx c,bK]
   by_cases e:l[n]=x
   .rw[Rx e];subst e;simp[c]
   .rw[Rw e,a];have e':¬x=l[n]:=λh=>e h.symm;simp[e']
  .rw[Rw c,a]
   by_cases e:l[n]=x
   .subst e;simp[c]
   .have e':¬x=l[n]:=λh=>e h.symm;simp[e']
theorem yP(l:List Int)(a:∀x∈l,cE x=true):∀n,n<=l.length->(bP l n).length+ig l n=n
 |0,_=>rfl
 |n+1,h=>by
  have d:=yP l a n (by omega);have c:l.getD n 0=l[n]:=by simp[show n<l.length by omega]
  have b:=a _ (Rz (show n<l.length by omega));have hn:=o7 l l[n] n (by omega);rw[bP,ig,c,Rx b,Bu]
  by_cases e:l[n]∈l.take n
  .rw[Rx e,Rw (λh=>hn.1 h ⟨b,e⟩)];omega
  .rw[Rw e,Rx (hn.2 λh=>e h.2)];omega
def fp(l:List Int)(m:Int):Int:=
 if m<0∨100000<m then 2 else if 1000<l.length then 3 else if(l.all λx=>nZ x m)=false then 10 else if ig l l.length=0 then 0 else 21
theorem MI{x m:Int}(h:m<=100000)(hi:nZ x m=true):cE x=true:=by
 unfold nZ at hi;simp at hi;exact(aY x).2 (by omega)
theorem sH(l:List Int)(m:Int)(q:l.length<=140737488355328):am Tryz.prog 124 [.seq false 1 (aa l),ae m] (λr=>r=.pv (ae (fp l m))):=by
 refine aq aE Tryz.func124 ?_
 by_cases c1:m<0
 .simp[c1,fp]
 by_cases c2:100000<m
 .simp[c1,c2,fp]
 by_cases c3:1000<l.length
 .have b:1000<(l.length:Int):=by omega
  simp[c1,c2,c3,b,fp]
 have b:¬1000<(l.length:Int):=by omega
 have g:∀n,ax n m=if nZ n m=true then 0 else 10:=λn=>by unfold ax;rw[Rw (by omega)]
 simp[c1,c2,c3,b];refine aw.intro (S:=λ(i:Nat)=>⟨[(0,.pv (.seq false 1 (aa l))),(1,.pv (ae m)),(19,.pv (.seq false 1 (aa l))),(20,.pv (ae l.length)),(21,.pv (ae i))],[]⟩) (λi=>i<=l.length∧∀j (h:j<l.length),j<i->nZ l[j] m=true) (λi=>l.length -i) 0 ?_ ⟨RL _,λj _ h=>by omega⟩ ?_
 .exact ah.to (by simp) rfl (by simp) (by simp) (by simp)
 .rintro i ⟨hi,ho⟩
  by_cases c:i<l.length
  .have o:=dr i;simp[c];refine ai.intro (jo _ _) ?_;simp[g]
   by_cases d:nZ l[i] m=true
   .simp[d];refine⟨i+1,by(try dsimp only);omega,⟨by omega,λj h1 p=>?_⟩,ah.to (by simp[o]) rfl (by simp) (by simp) (by simp)⟩
    by_cases e:j=i
    .subst e;exact d
    .exact ho j h1 (by omega)
   .have a:(l.all λx=>nZ x m)=false:=by
     rw[←Uj];intro h;exact d (R3.1 h _ (Rz c))
    simp[d,fp,c1,c2,c3,a]
  .have:i=l.length:=by omega
   subst this;have a:(l.all λx=>nZ x m)=true:=R3.2 λx hx=>by
    obtain⟨j,hj,rfl⟩:=RJ hx;exact ho j hj hj
   have k:=yP l (λx hx=>MI (by omega) (R3.1 a x hx)) l.length (Ry _);have f:(a8 fI (bP l l.length)).length=(bP l l.length).length:=by unfold a8;simp
   simp;refine ai.intro (Dg l (by omega)) ?_;simp[f]
   by_cases d:ig l l.length=0
   .have:¬(bP l l.length).length<l.length:=by omega
    simp[this,fp,c1,c2,c3,a,d]
   .have:(bP l l.length).length<l.length:=by omega
    simp[this,fp,c1,c2,c3,a,d]
theorem nA(l:List Int)(m:Int)(s:l.length<=140737488355328):am Tryz.prog 82 [.seq false 1 (aa l),ae m] (λr=>r=.pv (ae (fp l m))):=by
 refine aq aE Tryz.func82 ?_
 by_cases c1:m<0
 .simp[c1,fp]
 by_cases c2:100000<m
 .simp[c1,c2,fp]
 by_cases c3:1000<l.length
 .have b:1000<(l.length:Int):=by omega
  simp[c1,c2,c3,b,fp]
 have b:¬1000<(l.length:Int):=by omega
 have o:∀n,ax n m=if nZ n m=true then 0 else 10:=λn=>by unfold ax;rw[Rw (by omega)]
 simp[c1,c2,c3,b];refine aw.intro (S:=λ(i:Nat)=>⟨[(0,.pv (.seq false 1 (aa l))),(1,.pv (ae m)),(5,.pv (ae i))],[]⟩) (λi=>i<=l.length∧∀j (h:j<l.length),j<i->nZ l[j] m=true) (λi=>l.length -i) 0 ?_ ⟨RL _,λj _ h=>by omega⟩ ?_
 .exact ah.to (by simp) rfl (by simp) (by simp) (by simp)
 .rintro i ⟨hi,ho⟩
  by_cases c:i<l.length
  .have k:=dr i;simp[c];refine ai.intro (wO _ _) ?_;simp[o]
   by_cases d:nZ l[i] m=true
   .simp[d];refine⟨i+1,by(try dsimp only);omega,⟨by omega,λj h1 q=>?_⟩,ah.to (by simp[k]) rfl (by simp) (by simp) (by simp)⟩
    by_cases e:j=i
    .subst e;exact d
    .exact ho j h1 (by omega)
   .have a:(l.all λx=>nZ x m)=false:=by
     rw[←Uj];intro h;exact d (R3.1 h _ (Rz c))
    simp[d,fp,c1,c2,c3,a]
  .have:i=l.length:=by omega
   subst this;have a:(l.all λx=>nZ x m)=true:=R3.2 λx hx=>by
    obtain⟨j,hj,rfl⟩:=RJ hx;exact ho j hj hj
   simp;refine aw.intro (S:=λ(i:Nat)=>⟨[(0,.pv (.seq false 1 (aa l))),(6,.pv (ae i))],[]⟩) (λi=>i<=l.length∧ig l i=0) (λi=>l.length -i) 0 ?_ ⟨RL _,rfl⟩ ?_
   .exact ah.to (by simp) rfl (by simp) (by simp) (by simp)
   .rintro i ⟨hi,hz⟩
    by_cases c:i<l.length
    .have k:=dr i;have p:l.getD i 0=l[i]:=by simp[c]
     have hd:ig l (i+1)=if l[i]∈l.take i then 1 else 0:=by rw[ig,hz,p,Sv]
     have ht:List.take i (aa l)=aa (l.take i):=by simp[aa,TG]
     have hk:=jO (l.take i) l[i] (by rw[RD];omega);have f:i<=l.length:=hi;simp[c,f,ht];refine br.intro hk ?_;simp;refine⟨λh=>?_,λh=>⟨i+1,by(try dsimp only);omega,⟨by(try dsimp only);omega,by(try dsimp only);rw[hd,Rw h]⟩,ah.to (by simp[k]) rfl (by simp) (by simp) (by simp)⟩⟩;rw[Rx h]at hd;have:=oe (i:=i+1) l l.length (by omega);have g:¬ig l l.length=0:=by omega
     simp[fp,c1,c2,c3,a,g]
    .have:i=l.length:=by omega
     subst this;simp[fp,c1,c2,c3,a,hz]
theorem EM(l:List Int):(eO l).length<=l.length:=by
 rw[←Hr];exact vc l l.length
end Go.AX