/-
  Contracts: clause.Norm.
  Contracts: the one form of a clause is the document's.
  Contracts: clause.Check, Without, Resolve.
-/
import Derived.Test.YtepodadinenmnaaGreatS14AxClD
import Derived.Test.YtepodadinenmnaaGreatS14AxShelf2
import Derived.Test.YtepodadinenmnaaGreatAxAg
namespace Go.AX
open Go.Proofs
set_option linter.unusedSimpArgs false
abbrev Lit:={n:Int//da n=true}
instance:Inhabited Lit:=⟨⟨1,rfl⟩⟩
def yr(a b:Lit):Int:=yk (bf a.1) (bf b.1)
theorem qL{a b:Int}(c:da a=true)(d:da b=true)(h:bf a=bf b):a=b:=by
 obtain⟨e,f,a3⟩:=(bk a).1 c;obtain⟨b1,b2,b3⟩:=(bk b).1 d;unfold bf eG at h;rw[N9 c,N9 d]at h;split at h<;>split at h<;>omega
theorem qM(a b:Lit):ltOf yr a b=decide (bf a.1<bf b.1):=by
 unfold ltOf yr yk
 by_cases h:bf a.1<bf b.1
 .simp[h]
 .by_cases c:bf a.1>bf b.1<;>simp[h,c]
theorem DG:Sort.SWO (ltOf yr)where
 irrefl x:=by rw[qM];simp
 trans x y z:=by simp only[qM,Ov];omega
 ntrans x y z:=by simp only[qM,P9];omega
theorem DH(x y:Lit)(h1:ltOf yr x y=false)(a:ltOf yr y x=false):x=y:=by
 rw[qM]at h1 a;simp at h1 a;exact Subtype.ext (qL x.2 y.2 (by omega))
theorem BF(x:Int):an Tryz.prog 281 [ae x] (λr=>r=.pv (BL (!da x))):=by
 refine ax aG Tryz.func281 ?_;simp;refine aj.intro (aF _) ?_;simp[BD]
theorem BG(x y:Int):an Tryz.prog 283 [ae x,ae y] (λr=>r=.pv (ae (yk (bf x) (bf y)))):=by
 refine ax aG Tryz.func283 ?_;simp;refine aj.intro (o6 _) ?_;simp;refine aj.intro (o6 _) ?_;simp;refine aj.intro (yl _ _) ?_;simp
def cG:List Int->List Lit
 |[]=>[]
 |x::l=>if h:da x=true then⟨x,h⟩::cG l else cG l
theorem jG:∀l:List Int,(cG l).map (·.1)=l.filter da
 |[]=>rfl
 |x::l=>by
  rw[cG];split
  .rename_i h;rw[Ow,jG l,O5,N9 h]
  .rename_i h;rw[jG l,O5,N8 h]
def iB(l:List Lit):List Lit:=l.mergeSort λx y=>!(ltOf yr) y x
def d4(l:List Int):List Int:=cT ((iB (cG l)).map (·.1))
theorem DI(l:List Lit)(a:l.length<=1000000):tV Tryz.prog 282 1 (az (l.map (·.1))) [.fn (.func 283) [] []] (λk rows=>k=none∧rows=az ((iB l).map (·.1))):=
 v8 Tryz.sortF (λx:Lit=>x.1) yr 283 l a DG DH (enters_of Tryz.func283 (by kernel_rfl) rfl) (by kernel_rfl) (λx y=>BG x.1 y.1)
theorem tV.asFn{P:Program}{f g:FuncId}{e:Nat}{rows:List (List PV)}{R:Option Nat->List (List PV)->Prop}(h:tV P f e rows [.fn (.func g) [] []] R):tV P f e rows [.lit (.func (.func g) #[] #[])] R:=by
 have j:∀{G:Gh}{a:List Value},ah G [.lit (.func (.func g) #[] #[])] a->ah G [.fn (.func g) [] []] a:=λ⟨v,r,h1,b,d⟩=>⟨v,r,h1,⟨#[],#[],b,rfl,rfl⟩,d⟩;exact⟨h.1,λhn w c cap arr T pre vs i a h1 b d k l m n=>h.2.1 hn w c cap arr T pre vs i a h1 b d k l (j m) n,λhn w p cap a h1=>h.2.2 hn w p cap a (j h1)⟩
theorem fg(k:Nat):∀l:List Int,bS k (az l)
 |[]=>trivial
 |_::l=>⟨⟨trivial,trivial⟩,fg k l⟩
theorem fJ(l:List Int):(az l).length=l.length:=by unfold az;simp
theorem ut(a b:List Int):az (a++b)=az a++az b:=by unfold az;simp
theorem mU(a b:List Int):(az (a++b)).take a.length=az a:=by rw[ut,P4 (fJ a)]
theorem GN(l:List Int):aV (λx=>!da x) l=(cG l).map (·.1):=by
 rw[jG];unfold aV;congr 1;funext x;simp
theorem GO(l:List Int)(q:l.length<=1000000):an Tryz.prog 241 [.seq false 1 (af l)] (λr=>r=.own true 1 (af (d4 l))):=by
 refine ax aG Tryz.func241 ?_;have i:=(gQ l q 281 [] (λx=>!da x) (λr=>rfl) rfl (λk=>trivial) trivial (λx _=>BF x)).asFn;have c:=iW (λx=>!da x) l;have p:=GN l;unfold GJ at i;rw[p]at i c;have d:(cG l).length<=1000000:=by rw[Oj]at c;omega
 have s:=(DI (cG l) d).asFn;have e:(iB (cG l)).length=(cG l).length:=Pw _;have h:=qJ ((iB (cG l)).map (·.1)) (by rw[Oj,e];exact d);have j:=mT ((iB (cG l)).map (·.1)) ((iB (cG l)).map (·.1)).length;unfold IR at h;have m:cT ((iB (cG l)).map (·.1))=d4 l:=rfl;have b:aQ ((iB (cG l)).map (·.1)) ((iB (cG l)).map (·.1)).length=d4 l:=rfl;rw[m]at h;rw[b]at j;have f:((iB (cG l)).map (·.1)).length=((cG l).map (·.1)).length:=by rw[Oj,Oj,e]
 generalize(iB (cG l)).map (·.1)=t at*;generalize(cG l).map (·.1)=g at*;generalize d4 l=v at*;simp;refine aj.intro (gP l q) ?_;simp;refine aj.introX (dg.introS (o:=.slot 6) (lo:=0) (hi:=l.length) i (by simp) rfl rfl (by simp) (by simp) rfl (by simp;rw[Pf (by simp[af])];rfl) (fg 0 l) (by simp) (by simp) ?_);rintro k a ⟨rfl,rfl⟩ _ _;have n:List.drop l.length (af l)=[]:=OK (by simp[af]);have u:=fJ (g++List.replicate (l.length -g.length) 0);simp[n];refine aj.introX (dg.introS (o:=.slot 6) (lo:=0) (hi:=g.length) s (by simp) rfl rfl (by simp) (by simp) rfl (by simp;exact mU _ _) (fg 0 g) (by simp) (by simp) ?_);rintro k a ⟨rfl,rfl⟩ _ _;simp;refine aj.introX (dg.introS (o:=.slot 6) (lo:=0) (hi:=g.length) h (by simp) rfl rfl (by simp) (by simp) rfl (by simp;rw[P4 (by rw[fJ,f])]) (fg 0 t) (by simp) (by simp) ?_);rintro k a ⟨rfl,rfl⟩ _ _;simp;rw[PU (by rw[fJ];simp),mU];rfl
def wb:List Int->Int->Nat
 |[],_=>0
 |y::l,x=>if bf y<bf x then wb l x+1 else 0
def wc(l:List Int)(x:Int):List Int:=l.take (wb l x)++x::l.drop (wb l x)
theorem GP:∀(l:List Int)(x:Int),wb l x<=l.length
 |[],_=>Oc _
 |y::l,x=>by
  rw[wb];have:=GP l x;split
  .simp;omega
  .simp
theorem sQ(y:Int)(l:List Int)(x:Int):wc (y::l) x=if bf y<bf x then y::wc l x else x::y::l:=by
 unfold wc;rw[wb];split
 .simp
 .simp
theorem lT:∀(l:List Int)(x:Int),(wc l x).Perm (x::l)
 |[],x=>by simp[wc,wb]
 |y::l,x=>by
  rw[sQ];split
  .exact((lT l x).cons y).trans (.swap x y l)
  .exact .refl _
theorem o8:∀(l:List Int)(x:Int),(∀y∈l,bf y≠bf x)->l.Pairwise (λa b=>bf a<bf b)->(wc l x).Pairwise (λa b=>bf a<bf b)
 |[],x,_,_=>by simp[wc,wb]
 |y::l,x,hn,h=>by
  rw[sQ];rw[QJ]at h;split
  .rename_i c;rw[QJ];refine⟨λz hz=>?_,o8 l x (λz hz=>hn z (Ou _ hz)) h.2⟩;rcases OB.1 ((lT l x).mem_iff.1 hz)with rfl|hz
   .exact c
   .exact h.1 z hz
  .rename_i c;rw[QJ,QJ];have:=hn y OA;refine⟨λz hz=>?_,h⟩;rcases OB.1 hz with rfl|hz
   .omega
   .have:=h.1 z hz;omega
def iX(c:List Int):Nat->List Int
 |0=>[]
 |i+1=>if da (c.getD i 0)=true∧c.getD i 0∉iX c i then wc (iX c i) (c.getD i 0)else iX c i
theorem sR(c:List Int):∀i,(iX c i).length<=i
 |0=>Oc _
 |i+1=>by
  have:=sR c i;rw[iX];split
  .rw[(lT _ _).length_eq];simp;omega
  .omega
theorem wd(c:List Int):∀i,i<=c.length->(iX c i).Pairwise (λa b=>bf a<bf b)∧∀x,x∈iX c i↔da x=true∧x∈c.take i
 |0,_=>⟨by simp[iX],λx=>by simp[iX]⟩
 |i+1,h=>by
  obtain⟨h1,f⟩:=wd c i (by omega);have g:c.getD i 0=c[i]:=by simp[show i<c.length by omega]
  rw[iX,g,Pj,N6 (by omega),P3]
  by_cases d:da c[i]=true∧c[i]∉iX c i
  .rw[N9 d];refine⟨o8 _ _ (λy hy e=>d.2 ?_) h1,λx=>?_⟩
   .rw[←qL ((f y).1 hy).1 d.1 e];exact hy
   .rw[(lT _ _).mem_iff,OB,f,Om,O7];constructor
    .rintro(rfl|⟨a,b⟩)
     .exact⟨d.1,.inr rfl⟩
     .exact⟨a,.inl b⟩
    .rintro⟨a,b|b⟩
     .exact .inr ⟨a,b⟩
     .exact .inl b
  .rw[N8 d];refine⟨h1,λx=>?_⟩;rw[f,Om,O7];constructor
   .rintro⟨a,b⟩;exact⟨a,.inl b⟩
   .rintro⟨a,b|rfl⟩
    .exact⟨a,b⟩
    .have j:c[i]∈iX c i:=OF λh=>d ⟨a,h⟩;exact(f _).1 j
theorem sS{zs:List Int}(hs:zs.Pairwise (λa b=>bf a<=bf b))(c:∀x∈zs,da x=true):∀j,j<=zs.length->(aQ zs j).Pairwise (λa b=>bf a<bf b)∧∀x,x∈aQ zs j↔x∈zs.take j
 |0,_=>⟨by simp[aQ],λx=>by simp[aQ]⟩
 |j+1,h=>by
  obtain⟨h1,g⟩:=sS hs c j (by omega);have l:zs.getD j 0=zs[j]:=by simp[show j<zs.length by omega]
  rw[aQ,l,Pj,N6 (by omega),P3];have hp:=OR.1 hs
  by_cases d:j=0∨zs[j]≠zs.getD (j -1) 0
  .rw[N9 d];refine⟨QN.2 ⟨h1,by simp,λy hy z hz=>?_⟩,λx=>by rw[Om,Om,g]⟩;rw[O7]at hz;subst hz;obtain⟨k,hk,rfl⟩:=Oo ((g y).1 hy);rw[Oe]at hk;rw[Pq];rcases d with rfl|d
   .omega
   .have f:zs.getD (j -1) 0=zs[j -1]:=by simp[show j -1<zs.length by omega]
    rw[f]at d;have n:bf zs[k]<=bf zs[j -1]:=by
     by_cases e:k=j -1
     .subst e;exact Qx _
     .exact hp k (j -1) (by omega) (by omega) (by omega)
    have o:bf zs[j -1]<=bf zs[j]:=hp (j -1) j (by omega) (by omega) (by omega);have a3:bf zs[j -1]≠bf zs[j]:=λe=>d (qL (c _ (Od _)) (c _ (Od _)) e.symm);omega
  .rw[N8 d];refine⟨h1,λx=>?_⟩;rw[g,Om,O7];refine⟨.inl,λhx=>hx.elim id λe=>?_⟩;have hj:j≠0:=λe=>d (.inl e);have f:zs.getD (j -1) 0=zs[j -1]:=by simp[show j -1<zs.length by omega]
   have i:zs[j]=zs[j -1]:=OF λm=>d (.inr (by rw[f];exact m));rw[e,i];exact Pm.2 ⟨j -1,by omega,rfl⟩
theorem nE(c:List Int):(d4 c).Pairwise (λa b=>bf a<bf b)∧∀x,x∈d4 c↔da x=true∧x∈c:=by
 have hs:((iB (cG c)).map (·.1)).Pairwise (λa b=>bf a<=bf b):=by
  rw[Qa];refine(Sn (λa b d=>?_) (λa b=>?_) (cG c)).imp λ{a b} h=>?_
  .simp only[qM,OY,P9];omega
  .simp only[qM,Pu,OY,P9];omega
  .simp only[qM,OY,P9]at h;omega
 have e:∀x,x∈(iB (cG c)).map (·.1)↔da x=true∧x∈c:=λx=>by
  unfold iB;rw[((Rs _ _).map _).mem_iff,jG,OW,And.comm]
 obtain⟨h1,f⟩:=sS hs (λx hx=>((e x).1 hx).1) _ (Oc _);refine⟨h1,λx=>?_⟩;have:=f x;rw[OT]at this;exact this.trans (e x)
theorem we{a b:List Int}(d:a.Pairwise (λx y=>bf x<bf y))(f:b.Pairwise (λx y=>bf x<bf y))(h:∀x,x∈a↔x∈b):a=b:=by
 have g:a.Nodup:=d.imp λ{x y} c e=>by rw[e]at c;omega
 have i:b.Nodup:=f.imp λ{x y} c e=>by rw[e]at c;omega
 exact List.Perm.eq_of_pairwise (le:=λx y=>bf x<bf y) (λx y _ _ h1 j=>by omega) d f ((List.perm_ext_iff_of_nodup g i).2 h)
theorem DJ(c:List Int):iX c c.length=d4 c:=by
 obtain⟨h1,a⟩:=wd c c.length (Oc _);obtain⟨b,d⟩:=nE c;refine we h1 b λx=>?_;rw[a,d,OT]
def jW(l:List Int):Nat->Nat
 |0=>0
 |i+1=>jW l i+if l.getD i 0∈l.take i then 1 else 0
theorem qN(l:List Int){i:Nat}:∀n,i<=n->jW l i<=jW l n
 |0,h=>by
  have:i=0:=by omega
  subst this;exact Oc _
 |n+1,h=>by
  by_cases e:i=n+1
  .subst e;exact Oc _
  .have:=qN (i:=i) l n (by omega);rw[jW];omega
theorem yt{α:Type}:∀(l:List (Int×α))(k:Int)(y:α),(pt l k y).length=l.length+if(lk l k).isNone=true then 1 else 0
 |[],k,y=>by simp[pt,lk]
 |(j,x)::r,k,y=>by
  have a:=yt r k y;rw[pt,lk]
  by_cases e:j=k
  .rw[N9 e,N9 e];simp
  .rw[N8 e,N8 e,OC,a,OC];omega
theorem nF(l:List Int)(x:Int):∀n,n<=l.length->((lk (bE l n) x).isNone=true↔¬(da x=true∧x∈l.take n))
 |0,_=>by simp[bE,lk]
 |n+1,h=>by
  have a:=nF l x n (by omega);have b:l.getD n 0=l[n]:=by simp[show n<l.length by omega]
  rw[bE,b,Pj,N6 (by omega),P3,Om,O7]
  by_cases c:da l[n]=true
  .rw[N9 c,bD]
   by_cases e:l[n]=x
   .rw[N9 e];subst e;simp[c]
   .rw[N8 e,a];have e':¬x=l[n]:=λh=>e h.symm;simp[e']
  .rw[N8 c,a]
   by_cases e:l[n]=x
   .subst e;simp[c]
   .have e':¬x=l[n]:=λh=>e h.symm;simp[e']
theorem wg(l:List Int)(a:∀x∈l,da x=true):∀n,n<=l.length->(bE l n).length+jW l n=n
 |0,_=>rfl
 |n+1,h=>by
  have d:=wg l a n (by omega);have c:l.getD n 0=l[n]:=by simp[show n<l.length by omega]
  have b:=a _ (Od (show n<l.length by omega));have hn:=nF l l[n] n (by omega);rw[bE,jW,c,N9 b,yt]
  by_cases e:l[n]∈l.take n
  .rw[N9 e,N8 (λh=>hn.1 h ⟨b,e⟩)];omega
  .rw[N8 e,N9 (hn.2 λh=>e h.2)];omega
def iM(l:List Int)(m:Int):Int:=
 if m<0∨100000<m then 2 else if 1000<l.length then 3 else if(l.all λx=>pz x m)=false then 10 else if jW l l.length=0 then 0 else 21
theorem IU{x m:Int}(h:m<=100000)(hi:pz x m=true):da x=true:=by
 unfold pz at hi;simp at hi;exact(bk x).2 (by omega)
theorem qO(l:List Int)(m:Int)(q:l.length<=140737488355328):an Tryz.prog 124 [.seq false 1 (af l),ae m] (λr=>r=.pv (ae (iM l m))):=by
 refine ax aG Tryz.func124 ?_
 by_cases c1:m<0
 .simp[c1,iM]
 by_cases c2:100000<m
 .simp[c1,c2,iM]
 by_cases c3:1000<l.length
 .have b:1000<(l.length:Int):=by omega
  simp[c1,c2,c3,b,iM]
 have b:¬1000<(l.length:Int):=by omega
 have g:∀n,au n m=if pz n m=true then 0 else 10:=λn=>by unfold au;rw[N8 (by omega)]
 simp[c1,c2,c3,b];refine aJ.intro (S:=λ(i:Nat)=>⟨[(0,.pv (.seq false 1 (af l))),(1,.pv (ae m)),(19,.pv (.seq false 1 (af l))),(20,.pv (ae l.length)),(21,.pv (ae i))],[]⟩) (λi=>i<=l.length∧∀j (h:j<l.length),j<i->pz l[j] m=true) (λi=>l.length -i) 0 ?_ ⟨Oz _,λj _ h=>by omega⟩ ?_
 .exact ai.to (by simp) rfl (by simp) (by simp) (by simp)
 .rintro i ⟨hi,ho⟩
  by_cases c:i<l.length
  .have o:=fQ i;simp[c];refine aj.intro (iA _ _) ?_;simp[g]
   by_cases d:pz l[i] m=true
   .simp[d];refine⟨i+1,by(try dsimp only);omega,⟨by omega,λj h1 p=>?_⟩,ai.to (by simp[o]) rfl (by simp) (by simp) (by simp)⟩
    by_cases e:j=i
    .subst e;exact d
    .exact ho j h1 (by omega)
   .have a:(l.all λx=>pz x m)=false:=by
     rw[←Rn];intro h;exact d (OP.1 h _ (Od c))
    simp[d,iM,c1,c2,c3,a]
  .have:i=l.length:=by omega
   subst this;have a:(l.all λx=>pz x m)=true:=OP.2 λx hx=>by
    obtain⟨j,hj,rfl⟩:=Oo hx;exact ho j hj hj
   have k:=wg l (λx hx=>IU (by omega) (OP.1 a x hx)) l.length (Oc _);have f:(aS fI (bE l l.length)).length=(bE l l.length).length:=by unfold aS;simp
   simp;refine aj.intro (Am l (by omega)) ?_;simp[f]
   by_cases d:jW l l.length=0
   .have:¬(bE l l.length).length<l.length:=by omega
    simp[this,iM,c1,c2,c3,a,d]
   .have:(bE l l.length).length<l.length:=by omega
    simp[this,iM,c1,c2,c3,a,d]
theorem BH(l:List Int):(d4 l).length<=l.length:=by
 rw[←DJ];exact sR l l.length
end Go.AX