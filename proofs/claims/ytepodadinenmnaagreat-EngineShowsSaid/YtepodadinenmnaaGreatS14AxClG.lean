/-
  Contracts: clause.Norm.
  Contracts: the one form of a clause is the document's.
  Contracts: clause.Check, Without, Resolve.
-/
import Derived.Test.YtepodadinenmnaaGreatS14AxClD
import Derived.Test.YtepodadinenmnaaGreatS14AxShelf2
import Derived.Test.YtepodadinenmnaaGreatAxAg
namespace Go.AX
open Go.Proofs
set_option linter.unusedSimpArgs false
abbrev Lit:={n:Int//cK n=true}
instance:Inhabited Lit:=⟨⟨1,rfl⟩⟩
def As(a b:Lit):Int:=Al (aV a.1) (aV b.1)
theorem rO{a b:Int}(c:cK a=true)(d:cK b=true)(h:aV a=aV b):a=b:=by
 obtain⟨e,f,a3⟩:=(aW a).1 c;obtain⟨b1,b2,b3⟩:=(aW b).1 d;unfold aV du at h;rw[Qb c,Qb d]at h;split at h<;>split at h<;>omega
theorem rP(a b:Lit):ltOf As a b=decide (aV a.1<aV b.1):=by
 unfold ltOf As Al
 by_cases h:aV a.1<aV b.1
 .simp[h]
 .by_cases c:aV a.1>aV b.1<;>simp[h,c]
theorem F4:Sort.SWO (ltOf As)where
 irrefl x:=by rw[rP];simp
 trans x y z:=by simp only[rP,Qs];omega
 ntrans x y z:=by simp only[rP,RS];omega
theorem F5(x y:Lit)(h1:ltOf As x y=false)(a:ltOf As y x=false):x=y:=by
 rw[rP]at h1 a;simp at h1 a;exact Subtype.ext (rO x.2 y.2 (by omega))
theorem Du(x:Int):am Tryz.prog 281 [af x] (λr=>r=.pv (BL (!cK x))):=by
 refine ao aD Tryz.func281 ?_;simp;refine ah.intro (aG _) ?_;simp[jF]
theorem Dv(x y:Int):am Tryz.prog 283 [af x,af y] (λr=>r=.pv (af (Al (aV x) (aV y)))):=by
 refine ao aD Tryz.func283 ?_;simp;refine ah.intro (qh _) ?_;simp;refine ah.intro (qh _) ?_;simp;refine ah.intro (Am _ _) ?_;simp
def cV:List Int->List Lit
 |[]=>[]
 |x::l=>if h:cK x=true then⟨x,h⟩::cV l else cV l
theorem kw:∀l:List Int,(cV l).map (·.1)=l.filter cK
 |[]=>rfl
 |x::l=>by
  rw[cV];split
  .rename_i h;rw[Qw,kw l,Q9,Qb h]
  .rename_i h;rw[kw l,Q9,Qa h]
def ja(l:List Lit):List Lit:=l.mergeSort λx y=>!(ltOf As) y x
def eA(l:List Int):List Int:=cH ((ja (cV l)).map (·.1))
theorem F6(l:List Lit)(a:l.length<=1000000):vz Tryz.prog 282 1 (aB (l.map (·.1))) [.fn (.func 283) [] []] (λk rows=>k=none∧rows=aB ((ja l).map (·.1))):=
 xN Tryz.sortF (λx:Lit=>x.1) As 283 l a F4 F5 (enters_of Tryz.func283 (by kernel_rfl) rfl) (by kernel_rfl) (λx y=>Dv x.1 y.1)
theorem vz.asFn{P:Program}{f g:FuncId}{e:Nat}{rows:List (List PV)}{R:Option Nat->List (List PV)->Prop}(h:vz P f e rows [.fn (.func g) [] []] R):vz P f e rows [.lit (.func (.func g) #[] #[])] R:=by
 have j:∀{G:Gh}{a:List Value},aj G [.lit (.func (.func g) #[] #[])] a->aj G [.fn (.func g) [] []] a:=λ⟨v,r,h1,b,d⟩=>⟨v,r,h1,⟨#[],#[],b,rfl,rfl⟩,d⟩;exact⟨h.1,λhn w c cap arr T pre vs i a h1 b d k l m n=>h.2.1 hn w c cap arr T pre vs i a h1 b d k l (j m) n,λhn w p cap a h1=>h.2.2 hn w p cap a (j h1)⟩
theorem eK(k:Nat):∀l:List Int,bQ k (aB l)
 |[]=>trivial
 |_::l=>⟨⟨trivial,trivial⟩,eK k l⟩
theorem gk(l:List Int):(aB l).length=l.length:=by unfold aB;simp
theorem v7(a b:List Int):aB (a++b)=aB a++aB b:=by unfold aB;simp
theorem nK(a b:List Int):(aB (a++b)).take a.length=aB a:=by rw[v7,R4 (gk a)]
theorem Jm(l:List Int):bc (λx=>!cK x) l=(cV l).map (·.1):=by
 rw[kw];unfold bc;congr 1;funext x;simp
theorem Jn(l:List Int)(q:l.length<=1000000):am Tryz.prog 241 [.seq false 1 (ab l)] (λr=>r=.own true 1 (ab (eA l))):=by
 refine ao aD Tryz.func241 ?_;have i:=(iI l q 281 [] (λx=>!cK x) (λr=>rfl) rfl (λk=>trivial) trivial (λx _=>Du x)).asFn;have c:=jD (λx=>!cK x) l;have p:=Jm l;unfold Jj at i;rw[p]at i c;have d:(cV l).length<=1000000:=by rw[Ql]at c;omega
 have s:=(F6 (cV l) d).asFn;have e:(ja (cV l)).length=(cV l).length:=Rn _;have h:=nJ ((ja (cV l)).map (·.1)) (by rw[Ql,e];exact d);have j:=kr ((ja (cV l)).map (·.1)) ((ja (cV l)).map (·.1)).length;unfold Lj at h;have m:cH ((ja (cV l)).map (·.1))=eA l:=rfl;have b:aT ((ja (cV l)).map (·.1)) ((ja (cV l)).map (·.1)).length=eA l:=rfl;rw[m]at h;rw[b]at j;have f:((ja (cV l)).map (·.1)).length=((cV l).map (·.1)).length:=by rw[Ql,Ql,e]
 generalize(ja (cV l)).map (·.1)=t at*;generalize(cV l).map (·.1)=g at*;generalize eA l=v at*;simp;refine ah.intro (ez l q) ?_;simp;refine ah.introX (cd.introS (o:=.slot 6) (lo:=0) (hi:=l.length) i (by simp) rfl rfl (by simp) (by simp) rfl (by simp;rw[QM (by simp[ab])];rfl) (eK 0 l) (by simp) (by simp) ?_);rintro k a ⟨rfl,rfl⟩ _ _;have n:List.drop l.length (ab l)=[]:=QK (by simp[ab]);have u:=gk (g++List.replicate (l.length -g.length) 0);simp[n];refine ah.introX (cd.introS (o:=.slot 6) (lo:=0) (hi:=g.length) s (by simp) rfl rfl (by simp) (by simp) rfl (by simp;exact nK _ _) (eK 0 g) (by simp) (by simp) ?_);rintro k a ⟨rfl,rfl⟩ _ _;simp;refine ah.introX (cd.introS (o:=.slot 6) (lo:=0) (hi:=g.length) h (by simp) rfl rfl (by simp) (by simp) rfl (by simp;rw[R4 (by rw[gk,f])]) (eK 0 t) (by simp) (by simp) ?_);rintro k a ⟨rfl,rfl⟩ _ _;simp;rw[Rg (by rw[gk];simp),nK];rfl
def xO:List Int->Int->Nat
 |[],_=>0
 |y::l,x=>if aV y<aV x then xO l x+1 else 0
def xP(l:List Int)(x:Int):List Int:=l.take (xO l x)++x::l.drop (xO l x)
theorem Jo:∀(l:List Int)(x:Int),xO l x<=l.length
 |[],_=>Qc _
 |y::l,x=>by
  rw[xO];have:=Jo l x;split
  .simp;omega
  .simp
theorem uq(y:Int)(l:List Int)(x:Int):xP (y::l) x=if aV y<aV x then y::xP l x else x::y::l:=by
 unfold xP;rw[xO];split
 .simp
 .simp
theorem mG:∀(l:List Int)(x:Int),(xP l x).Perm (x::l)
 |[],x=>by simp[xP,xO]
 |y::l,x=>by
  rw[uq];split
  .exact((mG l x).cons y).trans (.swap x y l)
  .exact .refl _
theorem qi:∀(l:List Int)(x:Int),(∀y∈l,aV y≠aV x)->l.Pairwise (λa b=>aV a<aV b)->(xP l x).Pairwise (λa b=>aV a<aV b)
 |[],x,_,_=>by simp[xP,xO]
 |y::l,x,hn,h=>by
  rw[uq];rw[SU]at h;split
  .rename_i c;rw[SU];refine⟨λz hz=>?_,qi l x (λz hz=>hn z (Qr _ hz)) h.2⟩;rcases QC.1 ((mG l x).mem_iff.1 hz)with rfl|hz
   .exact c
   .exact h.1 z hz
  .rename_i c;rw[SU,SU];have:=hn y Qy;refine⟨λz hz=>?_,h⟩;rcases QC.1 hz with rfl|hz
   .omega
   .have:=h.1 z hz;omega
def jG(c:List Int):Nat->List Int
 |0=>[]
 |i+1=>if cK (c.getD i 0)=true∧c.getD i 0∉jG c i then xP (jG c i) (c.getD i 0)else jG c i
theorem ur(c:List Int):∀i,(jG c i).length<=i
 |0=>Qc _
 |i+1=>by
  have:=ur c i;rw[jG];split
  .rw[(mG _ _).length_eq];simp;omega
  .omega
theorem xQ(c:List Int):∀i,i<=c.length->(jG c i).Pairwise (λa b=>aV a<aV b)∧∀x,x∈jG c i↔cK x=true∧x∈c.take i
 |0,_=>⟨by simp[jG],λx=>by simp[jG]⟩
 |i+1,h=>by
  obtain⟨h1,f⟩:=xQ c i (by omega);have g:c.getD i 0=c[i]:=by simp[show i<c.length by omega]
  rw[jG,g,Rl,P8 (by omega),R3]
  by_cases d:cK c[i]=true∧c[i]∉jG c i
  .rw[Qb d];refine⟨qi _ _ (λy hy e=>d.2 ?_) h1,λx=>?_⟩
   .rw[←rO ((f y).1 hy).1 d.1 e];exact hy
   .rw[(mG _ _).mem_iff,QC,f,Qn,QI];constructor
    .rintro(rfl|⟨a,b⟩)
     .exact⟨d.1,.inr rfl⟩
     .exact⟨a,.inl b⟩
    .rintro⟨a,b|b⟩
     .exact .inr ⟨a,b⟩
     .exact .inl b
  .rw[Qa d];refine⟨h1,λx=>?_⟩;rw[f,Qn,QI];constructor
   .rintro⟨a,b⟩;exact⟨a,.inl b⟩
   .rintro⟨a,b|rfl⟩
    .exact⟨a,b⟩
    .have j:c[i]∈jG c i:=QJ λh=>d ⟨a,h⟩;exact(f _).1 j
theorem ut{zs:List Int}(hs:zs.Pairwise (λa b=>aV a<=aV b))(c:∀x∈zs,cK x=true):∀j,j<=zs.length->(aT zs j).Pairwise (λa b=>aV a<aV b)∧∀x,x∈aT zs j↔x∈zs.take j
 |0,_=>⟨by simp[aT],λx=>by simp[aT]⟩
 |j+1,h=>by
  obtain⟨h1,g⟩:=ut hs c j (by omega);have l:zs.getD j 0=zs[j]:=by simp[show j<zs.length by omega]
  rw[aT,l,Rl,P8 (by omega),R3];have hp:=QV.1 hs
  by_cases d:j=0∨zs[j]≠zs.getD (j -1) 0
  .rw[Qb d];refine⟨S7.2 ⟨h1,by simp,λy hy z hz=>?_⟩,λx=>by rw[Qn,Qn,g]⟩;rw[QI]at hz;subst hz;obtain⟨k,hk,rfl⟩:=Qm ((g y).1 hy);rw[Qg]at hk;rw[Rr];rcases d with rfl|d
   .omega
   .have f:zs.getD (j -1) 0=zs[j -1]:=by simp[show j -1<zs.length by omega]
    rw[f]at d;have n:aV zs[k]<=aV zs[j -1]:=by
     by_cases e:k=j -1
     .subst e;exact Ss _
     .exact hp k (j -1) (by omega) (by omega) (by omega)
    have o:aV zs[j -1]<=aV zs[j]:=hp (j -1) j (by omega) (by omega) (by omega);have a3:aV zs[j -1]≠aV zs[j]:=λe=>d (rO (c _ (Qe _)) (c _ (Qe _)) e.symm);omega
  .rw[Qa d];refine⟨h1,λx=>?_⟩;rw[g,Qn,QI];refine⟨.inl,λhx=>hx.elim id λe=>?_⟩;have hj:j≠0:=λe=>d (.inl e);have f:zs.getD (j -1) 0=zs[j -1]:=by simp[show j -1<zs.length by omega]
   have i:zs[j]=zs[j -1]:=QJ λm=>d (.inr (by rw[f];exact m));rw[e,i];exact Rw.2 ⟨j -1,by omega,rfl⟩
theorem oH(c:List Int):(eA c).Pairwise (λa b=>aV a<aV b)∧∀x,x∈eA c↔cK x=true∧x∈c:=by
 have hs:((ja (cV c)).map (·.1)).Pairwise (λa b=>aV a<=aV b):=by
  rw[Sk];refine(TV (λa b d=>?_) (λa b=>?_) (cV c)).imp λ{a b} h=>?_
  .simp only[rP,QZ,RS];omega
  .simp only[rP,Rq,QZ,RS];omega
  .simp only[rP,QZ,RS]at h;omega
 have e:∀x,x∈(ja (cV c)).map (·.1)↔cK x=true∧x∈c:=λx=>by
  unfold ja;rw[((TL _ _).map _).mem_iff,kw,Q3,And.comm]
 obtain⟨h1,f⟩:=ut hs (λx hx=>((e x).1 hx).1) _ (Qc _);refine⟨h1,λx=>?_⟩;have:=f x;rw[QO]at this;exact this.trans (e x)
theorem xR{a b:List Int}(d:a.Pairwise (λx y=>aV x<aV y))(f:b.Pairwise (λx y=>aV x<aV y))(h:∀x,x∈a↔x∈b):a=b:=by
 have g:a.Nodup:=d.imp λ{x y} c e=>by rw[e]at c;omega
 have i:b.Nodup:=f.imp λ{x y} c e=>by rw[e]at c;omega
 exact List.Perm.eq_of_pairwise (le:=λx y=>aV x<aV y) (λx y _ _ h1 j=>by omega) d f ((List.perm_ext_iff_of_nodup g i).2 h)
theorem F7(c:List Int):jG c c.length=eA c:=by
 obtain⟨h1,a⟩:=xQ c c.length (Qc _);obtain⟨b,d⟩:=oH c;refine xR h1 b λx=>?_;rw[a,d,QO]
def gZ(l:List Int):Nat->Nat
 |0=>0
 |i+1=>gZ l i+if l.getD i 0∈l.take i then 1 else 0
theorem nL(l:List Int){i:Nat}:∀n,i<=n->gZ l i<=gZ l n
 |0,h=>by
  have:i=0:=by omega
  subst this;exact Qc _
 |n+1,h=>by
  by_cases e:i=n+1
  .subst e;exact Qc _
  .have:=nL (i:=i) l n (by omega);rw[gZ];omega
theorem At{α:Type}:∀(l:List (Int×α))(k:Int)(y:α),(pt l k y).length=l.length+if(lk l k).isNone=true then 1 else 0
 |[],k,y=>by simp[pt,lk]
 |(j,x)::r,k,y=>by
  have a:=At r k y;rw[pt,lk]
  by_cases e:j=k
  .rw[Qb e,Qb e];simp
  .rw[Qa e,Qa e,QA,a,QA];omega
theorem oI(l:List Int)(x:Int):∀n,n<=l.length->((lk (bJ l n) x).isNone=true↔¬(cK x=true∧x∈l.take n))
 |0,_=>by simp[bJ,lk]
 |n+1,h=>by
  have a:=oI l x n (by omega);have b:l.getD n 0=l[n]:=by simp[show n<l.length by omega]
  rw[bJ,b,Rl,P8 (by omega),R3,Qn,QI]
  by_cases c:cK l[n]=true
  .rw[Qb c,bD]
   by_cases e:l[n]=x
   .rw[Qb e];subst e;simp[c]
   .rw[Qa e,a];have e':¬x=l[n]:=λh=>e h.symm;simp[e']
  .rw[Qa c,a]
   by_cases e:l[n]=x
   .subst e;simp[c]
   .have e':¬x=l[n]:=λh=>e h.symm;simp[e']
theorem xS(l:List Int)(a:∀x∈l,cK x=true):∀n,n<=l.length->(bJ l n).length+gZ l n=n
 |0,_=>rfl
 |n+1,h=>by
  have d:=xS l a n (by omega);have c:l.getD n 0=l[n]:=by simp[show n<l.length by omega]
  have b:=a _ (Qe (show n<l.length by omega));have hn:=oI l l[n] n (by omega);rw[bJ,gZ,c,Qb b,At]
  by_cases e:l[n]∈l.take n
  .rw[Qb e,Qa (λh=>hn.1 h ⟨b,e⟩)];omega
  .rw[Qa e,Qb (hn.2 λh=>e h.2)];omega
def fj(l:List Int)(m:Int):Int:=
 if m<0∨100000<m then 2 else if 1000<l.length then 3 else if(l.all λx=>nH x m)=false then 10 else if gZ l l.length=0 then 0 else 21
theorem Ll{x m:Int}(h:m<=100000)(hi:nH x m=true):cK x=true:=by
 unfold nH at hi;simp at hi;exact(aW x).2 (by omega)
theorem nM(l:List Int)(m:Int)(q:l.length<=140737488355328):am Tryz.prog 124 [.seq false 1 (ab l),af m] (λr=>r=.pv (af (fj l m))):=by
 refine ao aD Tryz.func124 ?_
 by_cases c1:m<0
 .simp[c1,fj]
 by_cases c2:100000<m
 .simp[c1,c2,fj]
 by_cases c3:1000<l.length
 .have b:1000<(l.length:Int):=by omega
  simp[c1,c2,c3,b,fj]
 have b:¬1000<(l.length:Int):=by omega
 have g:∀n,ax n m=if nH n m=true then 0 else 10:=λn=>by unfold ax;rw[Qa (by omega)]
 simp[c1,c2,c3,b];refine aH.intro (S:=λ(i:Nat)=>⟨[(0,.pv (.seq false 1 (ab l))),(1,.pv (af m)),(19,.pv (.seq false 1 (ab l))),(20,.pv (af l.length)),(21,.pv (af i))],[]⟩) (λi=>i<=l.length∧∀j (h:j<l.length),j<i->nH l[j] m=true) (λi=>l.length -i) 0 ?_ ⟨Qq _,λj _ h=>by omega⟩ ?_
 .exact ai.to (by simp) rfl (by simp) (by simp) (by simp)
 .rintro i ⟨hi,ho⟩
  by_cases c:i<l.length
  .have o:=eq i;simp[c];refine ah.intro (i9 _ _) ?_;simp[g]
   by_cases d:nH l[i] m=true
   .simp[d];refine⟨i+1,by(try dsimp only);omega,⟨by omega,λj h1 p=>?_⟩,ai.to (by simp[o]) rfl (by simp) (by simp) (by simp)⟩
    by_cases e:j=i
    .subst e;exact d
    .exact ho j h1 (by omega)
   .have a:(l.all λx=>nH x m)=false:=by
     rw[←SP];intro h;exact d (QR.1 h _ (Qe c))
    simp[d,fj,c1,c2,c3,a]
  .have:i=l.length:=by omega
   subst this;have a:(l.all λx=>nH x m)=true:=QR.2 λx hx=>by
    obtain⟨j,hj,rfl⟩:=Qm hx;exact ho j hj hj
   have k:=xS l (λx hx=>Ll (by omega) (QR.1 a x hx)) l.length (Qc _);have f:(aC fI (bJ l l.length)).length=(bJ l l.length).length:=by unfold aC;simp
   simp;refine ah.intro (Cg l (by omega)) ?_;simp[f]
   by_cases d:gZ l l.length=0
   .have:¬(bJ l l.length).length<l.length:=by omega
    simp[this,fj,c1,c2,c3,a,d]
   .have:(bJ l l.length).length<l.length:=by omega
    simp[this,fj,c1,c2,c3,a,d]
theorem tC(l:List Int)(m:Int)(s:l.length<=140737488355328):am Tryz.prog 82 [.seq false 1 (ab l),af m] (λr=>r=.pv (af (fj l m))):=by
 refine ao aD Tryz.func82 ?_
 by_cases c1:m<0
 .simp[c1,fj]
 by_cases c2:100000<m
 .simp[c1,c2,fj]
 by_cases c3:1000<l.length
 .have b:1000<(l.length:Int):=by omega
  simp[c1,c2,c3,b,fj]
 have b:¬1000<(l.length:Int):=by omega
 have o:∀n,ax n m=if nH n m=true then 0 else 10:=λn=>by unfold ax;rw[Qa (by omega)]
 simp[c1,c2,c3,b];refine aH.intro (S:=λ(i:Nat)=>⟨[(0,.pv (.seq false 1 (ab l))),(1,.pv (af m)),(5,.pv (af i))],[]⟩) (λi=>i<=l.length∧∀j (h:j<l.length),j<i->nH l[j] m=true) (λi=>l.length -i) 0 ?_ ⟨Qq _,λj _ h=>by omega⟩ ?_
 .exact ai.to (by simp) rfl (by simp) (by simp) (by simp)
 .rintro i ⟨hi,ho⟩
  by_cases c:i<l.length
  .have k:=eq i;simp[c];refine ah.intro (vX _ _) ?_;simp[o]
   by_cases d:nH l[i] m=true
   .simp[d];refine⟨i+1,by(try dsimp only);omega,⟨by omega,λj h1 q=>?_⟩,ai.to (by simp[k]) rfl (by simp) (by simp) (by simp)⟩
    by_cases e:j=i
    .subst e;exact d
    .exact ho j h1 (by omega)
   .have a:(l.all λx=>nH x m)=false:=by
     rw[←SP];intro h;exact d (QR.1 h _ (Qe c))
    simp[d,fj,c1,c2,c3,a]
  .have:i=l.length:=by omega
   subst this;have a:(l.all λx=>nH x m)=true:=QR.2 λx hx=>by
    obtain⟨j,hj,rfl⟩:=Qm hx;exact ho j hj hj
   simp;refine aH.intro (S:=λ(i:Nat)=>⟨[(0,.pv (.seq false 1 (ab l))),(6,.pv (af i))],[]⟩) (λi=>i<=l.length∧gZ l i=0) (λi=>l.length -i) 0 ?_ ⟨Qq _,rfl⟩ ?_
   .exact ai.to (by simp) rfl (by simp) (by simp) (by simp)
   .rintro i ⟨hi,hz⟩
    by_cases c:i<l.length
    .have k:=eq i;have p:l.getD i 0=l[i]:=by simp[c]
     have hd:gZ l (i+1)=if l[i]∈l.take i then 1 else 0:=by rw[gZ,hz,p,Q2]
     have ht:List.take i (ab l)=ab (l.take i):=by simp[ab,SI]
     have hk:=Dr (l.take i) l[i] (by rw[Qg];omega);have f:i<=l.length:=hi;simp[c,f,ht];refine br.intro hk ?_;simp;refine⟨λh=>?_,λh=>⟨i+1,by(try dsimp only);omega,⟨by(try dsimp only);omega,by(try dsimp only);rw[hd,Qa h]⟩,ai.to (by simp[k]) rfl (by simp) (by simp) (by simp)⟩⟩;rw[Qb h]at hd;have:=nL (i:=i+1) l l.length (by omega);have g:¬gZ l l.length=0:=by omega
     simp[fj,c1,c2,c3,a,g]
    .have:i=l.length:=by omega
     subst this;simp[fj,c1,c2,c3,a,hz]
theorem Dw(l:List Int):(eA l).length<=l.length:=by
 rw[←F7];exact ur l l.length
end Go.AX