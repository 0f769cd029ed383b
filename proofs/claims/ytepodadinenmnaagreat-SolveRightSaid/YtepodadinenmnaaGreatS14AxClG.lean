/-
  Contracts: clause.Norm; and what follows.
-/
import Derived.Test.YtepodadinenmnaaGreatS14AxClD
import Derived.Test.YtepodadinenmnaaGreatS14AxShelf2
import Derived.Test.YtepodadinenmnaaGreatAxAg
namespace Go.AX
open Go.Proofs
set_option linter.unusedSimpArgs false
abbrev Lit:={n:Int//cX n=true}
instance:Inhabited Lit:=⟨⟨1,rfl⟩⟩
def BZ(a b:Lit):Int:=BT (aX a.1) (aX b.1)
theorem tp{a b:Int}(c:cX a=true)(d:cX b=true)(h:aX a=aX b):a=b:=by
 obtain⟨e,f,a3⟩:=(a8 a).1 c;obtain⟨b1,b2,b3⟩:=(a8 b).1 d;unfold aX fp at h;rw[SN c,SN d]at h;split at h<;>split at h<;>omega
theorem tq(a b:Lit):ltOf BZ a b=decide (aX a.1<aX b.1):=by
 unfold ltOf BZ BT
 by_cases h:aX a.1<aX b.1
 .simp[h]
 .by_cases c:aX a.1>aX b.1<;>simp[h,c]
theorem HW:Sort.SWO (ltOf BZ)where
 irrefl x:=by rw[tq];simp
 trans x y z:=by simp only[tq,S9];omega
 ntrans x y z:=by simp only[tq,Us];omega
theorem HX(x y:Lit)(h1:ltOf BZ x y=false)(a:ltOf BZ y x=false):x=y:=by
 rw[tq]at h1 a;simp at h1 a;exact Subtype.ext (tp x.2 y.2 (by omega))
theorem Fu(x:Int):ak Tryz.prog 281 [ab x] (λr=>r=.pv (BL (!cX x))):=by
 refine ap aC Tryz.func281 ?_;simp;refine ah.intro (aI _) ?_;simp[jX]
theorem Fv(x y:Int):ak Tryz.prog 283 [ab x,ab y] (λr=>r=.pv (ab (BT (aX x) (aX y)))):=by
 refine ap aC Tryz.func283 ?_;simp;refine ah.intro (rn _) ?_;simp;refine ah.intro (rn _) ?_;simp;refine ah.intro (BU _ _) ?_;simp
def cZ:List Int->List Lit
 |[]=>[]
 |x::l=>if h:cX x=true then⟨x,h⟩::cZ l else cZ l
theorem lB:∀l:List Int,(cZ l).map (·.1)=l.filter cX
 |[]=>rfl
 |x::l=>by
  rw[cZ];split
  .rename_i h;rw[Th,lB l,TQ,SN h]
  .rename_i h;rw[lB l,TQ,SM h]
def jy(l:List Lit):List Lit:=l.mergeSort λx y=>!(ltOf BZ) y x
def eJ(l:List Int):List Int:=cq ((jy (cZ l)).map (·.1))
theorem HY(l:List Lit)(a:l.length<=1000000):qv Tryz.prog 282 1 (aB (l.map (·.1))) [.fn (.func 283) [] []] (λk rows=>k=none∧rows=aB ((jy l).map (·.1))):=
 zd Tryz.sortF (λx:Lit=>x.1) BZ 283 l a HW HX (enters_of Tryz.func283 (by kernel_rfl) rfl) (by kernel_rfl) (λx y=>Fv x.1 y.1)
theorem qv.asFn{P:Program}{f g:FuncId}{e:Nat}{rows:List (List PV)}{R:Option Nat->List (List PV)->Prop}(h:qv P f e rows [.fn (.func g) [] []] R):qv P f e rows [.lit (.func (.func g) #[] #[])] R:=by
 have j:∀{G:Gh}{a:List Value},aj G [.lit (.func (.func g) #[] #[])] a->aj G [.fn (.func g) [] []] a:=λ⟨v,r,h1,b,d⟩=>⟨v,r,h1,⟨#[],#[],b,rfl,rfl⟩,d⟩;exact⟨h.1,λhn w c cap arr T pre vs i a h1 b d k l m n=>h.2.1 hn w c cap arr T pre vs i a h1 b d k l (j m) n,λhn w p cap a h1=>h.2.2 hn w p cap a (j h1)⟩
theorem eW(k:Nat):∀l:List Int,bL k (aB l)
 |[]=>trivial
 |_::l=>⟨⟨trivial,trivial⟩,eW k l⟩
theorem gG(l:List Int):(aB l).length=l.length:=by unfold aB;simp
theorem xx(a b:List Int):aB (a++b)=aB a++aB b:=by unfold aB;simp
theorem oG(a b:List Int):(aB (a++b)).take a.length=aB a:=by rw[xx,UR (gG a)]
theorem Ln(l:List Int):bk (λx=>!cX x) l=(cZ l).map (·.1):=by
 rw[lB];unfold bk;congr 1;funext x;simp
theorem Lo(l:List Int)(p:l.length<=1000000):ak Tryz.prog 241 [.seq false 1 (ae l)] (λr=>r=.own true 1 (ae (eJ l))):=by
 refine ap aC Tryz.func241 ?_;have i:=(iZ l p 281 [] (λx=>!cX x) (λr=>rfl) rfl (λk=>trivial) trivial (λx _=>Fu x)).asFn;have c:=jW (λx=>!cX x) l;have n:=Ln l;unfold Lk at i;rw[n]at i c;have d:(cZ l).length<=1000000:=by rw[SZ]at c;omega
 have q:=(HY (cZ l) d).asFn;have e:(jy (cZ l)).length=(cZ l).length:=T9 _;have h:=oF ((jy (cZ l)).map (·.1)) (by rw[SZ,e];exact d);have hcl:=gF ((jy (cZ l)).map (·.1)) ((jy (cZ l)).map (·.1)).length;unfold NK at h;have j:cq ((jy (cZ l)).map (·.1))=eJ l:=rfl;have b:aM ((jy (cZ l)).map (·.1)) ((jy (cZ l)).map (·.1)).length=eJ l:=rfl;rw[j]at h;rw[b]at hcl;have f:((jy (cZ l)).map (·.1)).length=((cZ l).map (·.1)).length:=by rw[SZ,SZ,e]
 generalize(jy (cZ l)).map (·.1)=s at*;generalize(cZ l).map (·.1)=g at*;generalize eJ l=u at*;simp;refine ah.intro (eI l p) ?_;simp;refine ah.introX (bU.introS (o:=.slot 6) (lo:=0) (hi:=l.length) i (by simp) rfl rfl (by simp) (by simp) rfl (by simp;rw[Tm (by simp[ae])];rfl) (eW 0 l) (by simp) (by simp) ?_);rintro k a ⟨rfl,rfl⟩ _ _;have m:List.drop l.length (ae l)=[]:=Tq (by simp[ae]);have t:=gG (g++List.replicate (l.length -g.length) 0);simp[m];refine ah.introX (bU.introS (o:=.slot 6) (lo:=0) (hi:=g.length) q (by simp) rfl rfl (by simp) (by simp) rfl (by simp;exact oG _ _) (eW 0 g) (by simp) (by simp) ?_);rintro k a ⟨rfl,rfl⟩ _ _;simp;refine ah.introX (bU.introS (o:=.slot 6) (lo:=0) (hi:=g.length) h (by simp) rfl rfl (by simp) (by simp) rfl (by simp;rw[UR (by rw[gG,f])]) (eW 0 s) (by simp) (by simp) ?_);rintro k a ⟨rfl,rfl⟩ _ _;simp;rw[TV (by rw[gG];simp),oG];rfl
def ze:List Int->Int->Nat
 |[],_=>0
 |y::l,x=>if aX y<aX x then ze l x+1 else 0
def zf(l:List Int)(x:Int):List Int:=l.take (ze l x)++x::l.drop (ze l x)
theorem Lp:∀(l:List Int)(x:Int),ze l x<=l.length
 |[],_=>SQ _
 |y::l,x=>by
  rw[ze];have:=Lp l x;split
  .simp;omega
  .simp
theorem vI(y:Int)(l:List Int)(x:Int):zf (y::l) x=if aX y<aX x then y::zf l x else x::y::l:=by
 unfold zf;rw[ze];split
 .simp
 .simp
theorem nr:∀(l:List Int)(x:Int),(zf l x).Perm (x::l)
 |[],x=>by simp[zf,ze]
 |y::l,x=>by
  rw[vI];split
  .exact((nr l x).cons y).trans (.swap x y l)
  .exact .refl _
theorem ro:∀(l:List Int)(x:Int),(∀y∈l,aX y≠aX x)->l.Pairwise (λa b=>aX a<aX b)->(zf l x).Pairwise (λa b=>aX a<aX b)
 |[],x,_,_=>by simp[zf,ze]
 |y::l,x,hn,h=>by
  rw[vI];rw[Vm]at h;split
  .rename_i c;rw[Vm];refine⟨λz hz=>?_,ro l x (λz hz=>hn z (Tf _ hz)) h.2⟩;rcases Tp.1 ((nr l x).mem_iff.1 hz)with rfl|hz
   .exact c
   .exact h.1 z hz
  .rename_i c;rw[Vm,Vm];have:=hn y Tj;refine⟨λz hz=>?_,h⟩;rcases Tp.1 hz with rfl|hz
   .omega
   .have:=h.1 z hz;omega
def jY(c:List Int):Nat->List Int
 |0=>[]
 |i+1=>if cX (c.getD i 0)=true∧c.getD i 0∉jY c i then zf (jY c i) (c.getD i 0)else jY c i
theorem vJ(c:List Int):∀i,(jY c i).length<=i
 |0=>SQ _
 |i+1=>by
  have:=vJ c i;rw[jY];split
  .rw[(nr _ _).length_eq];simp;omega
  .omega
theorem zg(c:List Int):∀i,i<=c.length->(jY c i).Pairwise (λa b=>aX a<aX b)∧∀x,x∈jY c i↔cX x=true∧x∈c.take i
 |0,_=>⟨by simp[jY],λx=>by simp[jY]⟩
 |i+1,h=>by
  obtain⟨h1,f⟩:=zg c i (by omega);have g:c.getD i 0=c[i]:=by simp[show i<c.length by omega]
  rw[jY,g,T4,SH (by omega),UG]
  by_cases d:cX c[i]=true∧c[i]∉jY c i
  .rw[SN d];refine⟨ro _ _ (λy hy e=>d.2 ?_) h1,λx=>?_⟩
   .rw[←tp ((f y).1 hy).1 d.1 e];exact hy
   .rw[(nr _ _).mem_iff,Tp,f,S7,Tt];constructor
    .rintro(rfl|⟨a,b⟩)
     .exact⟨d.1,.inr rfl⟩
     .exact⟨a,.inl b⟩
    .rintro⟨a,b|b⟩
     .exact .inr ⟨a,b⟩
     .exact .inl b
  .rw[SM d];refine⟨h1,λx=>?_⟩;rw[f,S7,Tt];constructor
   .rintro⟨a,b⟩;exact⟨a,.inl b⟩
   .rintro⟨a,b|rfl⟩
    .exact⟨a,b⟩
    .have j:c[i]∈jY c i:=Tl λh=>d ⟨a,h⟩;exact(f _).1 j
theorem vK{zs:List Int}(hs:zs.Pairwise (λa b=>aX a<=aX b))(c:∀x∈zs,cX x=true):∀j,j<=zs.length->(aM zs j).Pairwise (λa b=>aX a<aX b)∧∀x,x∈aM zs j↔x∈zs.take j
 |0,_=>⟨by simp[aM],λx=>by simp[aM]⟩
 |j+1,h=>by
  obtain⟨h1,g⟩:=vK hs c j (by omega);have l:zs.getD j 0=zs[j]:=by simp[show j<zs.length by omega]
  rw[aM,l,T4,SH (by omega),UG];have hp:=Tv.1 hs
  by_cases d:j=0∨zs[j]≠zs.getD (j -1) 0
  .rw[SN d];refine⟨Vz.2 ⟨h1,by simp,λy hy z hz=>?_⟩,λx=>by rw[S7,S7,g]⟩;rw[Tt]at hz;subst hz;obtain⟨k,hk,rfl⟩:=S6 ((g y).1 hy);rw[SU]at hk;rw[Ua];rcases d with rfl|d
   .omega
   .have f:zs.getD (j -1) 0=zs[j -1]:=by simp[show j -1<zs.length by omega]
    rw[f]at d;have n:aX zs[k]<=aX zs[j -1]:=by
     by_cases e:k=j -1
     .subst e;exact Vc _
     .exact hp k (j -1) (by omega) (by omega) (by omega)
    have o:aX zs[j -1]<=aX zs[j]:=hp (j -1) j (by omega) (by omega) (by omega);have a3:aX zs[j -1]≠aX zs[j]:=λe=>d (tp (c _ (SS _)) (c _ (SS _)) e.symm);omega
  .rw[SM d];refine⟨h1,λx=>?_⟩;rw[g,S7,Tt];refine⟨.inl,λhx=>hx.elim id λe=>?_⟩;have hj:j≠0:=λe=>d (.inl e);have f:zs.getD (j -1) 0=zs[j -1]:=by simp[show j -1<zs.length by omega]
   have i:zs[j]=zs[j -1]:=Tl λm=>d (.inr (by rw[f];exact m));rw[e,i];exact Ug.2 ⟨j -1,by omega,rfl⟩
theorem pF(c:List Int):(eJ c).Pairwise (λa b=>aX a<aX b)∧∀x,x∈eJ c↔cX x=true∧x∈c:=by
 have hs:((jy (cZ c)).map (·.1)).Pairwise (λa b=>aX a<=aX b):=by
  rw[UC];refine(WE (λa b d=>?_) (λa b=>?_) (cZ c)).imp λ{a b} h=>?_
  .simp only[tq,TN,Us];omega
  .simp only[tq,Uj,TN,Us];omega
  .simp only[tq,TN,Us]at h;omega
 have e:∀x,x∈(jy (cZ c)).map (·.1)↔cX x=true∧x∈c:=λx=>by
  unfold jy;rw[((Vd _ _).map _).mem_iff,lB,TE,And.comm]
 obtain⟨h1,f⟩:=vK hs (λx hx=>((e x).1 hx).1) _ (SQ _);refine⟨h1,λx=>?_⟩;have:=f x;rw[Tw]at this;exact this.trans (e x)
theorem zh{a b:List Int}(d:a.Pairwise (λx y=>aX x<aX y))(f:b.Pairwise (λx y=>aX x<aX y))(h:∀x,x∈a↔x∈b):a=b:=by
 have g:a.Nodup:=d.imp λ{x y} c e=>by rw[e]at c;omega
 have i:b.Nodup:=f.imp λ{x y} c e=>by rw[e]at c;omega
 exact List.Perm.eq_of_pairwise (le:=λx y=>aX x<aX y) (λx y _ _ h1 j=>by omega) d f ((List.perm_ext_iff_of_nodup g i).2 h)
theorem HZ(c:List Int):jY c c.length=eJ c:=by
 obtain⟨h1,a⟩:=zg c c.length (SQ _);obtain⟨b,d⟩:=pF c;refine zh h1 b λx=>?_;rw[a,d,Tw]
def lT(l:List Int):Nat->Nat
 |0=>0
 |i+1=>lT l i+if l.getD i 0∈l.take i then 1 else 0
theorem tt(l:List Int){i:Nat}:∀n,i<=n->lT l i<=lT l n
 |0,h=>by
  have:i=0:=by omega
  subst this;exact SQ _
 |n+1,h=>by
  by_cases e:i=n+1
  .subst e;exact SQ _
  .have:=tt (i:=i) l n (by omega);rw[lT];omega
theorem B0{α:Type}:∀(l:List (Int×α))(k:Int)(y:α),(pt l k y).length=l.length+if(lk l k).isNone=true then 1 else 0
 |[],k,y=>by simp[pt,lk]
 |(j,x)::r,k,y=>by
  have a:=B0 r k y;rw[pt,lk]
  by_cases e:j=k
  .rw[SN e,SN e];simp
  .rw[SM e,SM e,To,a,To];omega
theorem pG(l:List Int)(x:Int):∀n,n<=l.length->((lk (bS l n) x).isNone=true↔¬(cX x=true∧x∈l.take n))
 |0,_=>by simp[bS,lk]
 |n+1,h=>by
  have a:=pG l x n (by omega);have b:l.getD n 0=l[n]:=by simp[show n<l.length by omega]
  rw[bS,b,T4,SH (by omega),UG,S7,Tt]
  by_cases c:cX l[n]=true
  .rw[SN c,bJ]
   by_cases e:l[n]=x
   .rw[SN e];subst e;simp[c]
   .rw[SM e,a];have e':¬x=l[n]:=λh=>e h.symm;simp[e']
  .rw[SM c,a]
   by_cases e:l[n]=x
   .subst e;simp[c]
   .have e':¬x=l[n]:=λh=>e h.symm;simp[e']
theorem zi(l:List Int)(a:∀x∈l,cX x=true):∀n,n<=l.length->(bS l n).length+lT l n=n
 |0,_=>rfl
 |n+1,h=>by
  have d:=zi l a n (by omega);have c:l.getD n 0=l[n]:=by simp[show n<l.length by omega]
  have b:=a _ (SS (show n<l.length by omega));have hn:=pG l l[n] n (by omega);rw[bS,lT,c,SN b,B0]
  by_cases e:l[n]∈l.take n
  .rw[SN e,SM (λh=>hn.1 h ⟨b,e⟩)];omega
  .rw[SM e,SN (hn.2 λh=>e h.2)];omega
def iD(l:List Int)(m:Int):Int:=
 if m<0∨100000<m then 2 else if 1000<l.length then 3 else if(l.all λx=>sj x m)=false then 10 else if lT l l.length=0 then 0 else 21
theorem NM{x m:Int}(h:m<=100000)(hi:sj x m=true):cX x=true:=by
 unfold sj at hi;simp at hi;exact(a8 x).2 (by omega)
theorem oH(l:List Int)(m:Int)(q:l.length<=140737488355328):ak Tryz.prog 124 [.seq false 1 (ae l),ab m] (λr=>r=.pv (ab (iD l m))):=by
 refine ap aC Tryz.func124 ?_
 by_cases c1:m<0
 .simp[c1,iD]
 by_cases c2:100000<m
 .simp[c1,c2,iD]
 by_cases c3:1000<l.length
 .have b:1000<(l.length:Int):=by omega
  simp[c1,c2,c3,b,iD]
 have b:¬1000<(l.length:Int):=by omega
 have g:∀n,ay n m=if sj n m=true then 0 else 10:=λn=>by unfold ay;rw[SM (by omega)]
 simp[c1,c2,c3,b];refine aF.intro (S:=λ(i:Nat)=>⟨[(0,.pv (.seq false 1 (ae l))),(1,.pv (ab m)),(19,.pv (.seq false 1 (ae l))),(20,.pv (ab l.length)),(21,.pv (ab i))],[]⟩) (λi=>i<=l.length∧∀j (h:j<l.length),j<i->sj l[j] m=true) (λi=>l.length -i) 0 ?_ ⟨Te _,λj _ h=>by omega⟩ ?_
 .exact ai.to (by simp) rfl (by simp) (by simp) (by simp)
 .rintro i ⟨hi,ho⟩
  by_cases c:i<l.length
  .have o:=dZ i;simp[c];refine ah.intro (jx _ _) ?_;simp[g]
   by_cases d:sj l[i] m=true
   .simp[d];refine⟨i+1,by(try dsimp only);omega,⟨by omega,λj h1 p=>?_⟩,ai.to (by simp[o]) rfl (by simp) (by simp) (by simp)⟩
    by_cases e:j=i
    .subst e;exact d
    .exact ho j h1 (by omega)
   .have a:(l.all λx=>sj x m)=false:=by
     rw[←V4];intro h;exact d (TG.1 h _ (SS c))
    simp[d,iD,c1,c2,c3,a]
  .have:i=l.length:=by omega
   subst this;have a:(l.all λx=>sj x m)=true:=TG.2 λx hx=>by
    obtain⟨j,hj,rfl⟩:=S6 hx;exact ho j hj hj
   have k:=zi l (λx hx=>NM (by omega) (TG.1 a x hx)) l.length (SQ _);have f:(aG fI (bS l l.length)).length=(bS l l.length).length:=by unfold aG;simp
   simp;refine ah.intro (DN l (by omega)) ?_;simp[f]
   by_cases d:lT l l.length=0
   .have:¬(bS l l.length).length<l.length:=by omega
    simp[this,iD,c1,c2,c3,a,d]
   .have:(bS l l.length).length<l.length:=by omega
    simp[this,iD,c1,c2,c3,a,d]
theorem Fw(l:List Int):(eJ l).length<=l.length:=by
 rw[←HZ];exact vJ l l.length
end Go.AX