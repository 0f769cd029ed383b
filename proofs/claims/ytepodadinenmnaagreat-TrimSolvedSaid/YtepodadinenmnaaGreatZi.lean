/-
  Contracts: clause.Norm; and what follows.
-/
import Derived.Test.YtepodadinenmnaaGreatZg
import Derived.Test.YtepodadinenmnaaGreatZ0
import Derived.Test.YtepodadinenmnaaGreatZh
set_option linter.unusedSimpArgs false
namespace Go.AX
open Go.Proofs Go.Proofs.Tryz
abbrev Lit:={n:Int//dF n=true}
instance:Inhabited Lit:=⟨⟨1,rfl⟩⟩
def D8(a b:Lit):Int:=DY (bH a.1) (bH b.1)
theorem u7{a b:Int}(c:dF a=true)(d:dF b=true)(h:bH a=bH b):a=b:=by
 obtain⟨e,f,a3⟩:=(bO a).1 c;obtain⟨b1,b2,b3⟩:=(bO b).1 d;unfold bH gr at h;rw[Vt c,Vt d]at h;split at h<;>split at h<;>omega
theorem u9(a b:Lit):ltOf D8 a b=decide (bH a.1<bH b.1):=by
 unfold ltOf D8 DY;by_cases h:bH a.1<bH b.1;simp[h];by_cases c:bH a.1>bH b.1<;>simp[h,c]
theorem KR:Sort.SWO (ltOf D8)where
 irrefl x:=by rw[u9];simp
 trans x y z:=by simp only[u9,VI];omega
 ntrans x y z:=by simp only[u9,WX];omega
theorem KS(x y:Lit)(h1:ltOf D8 x y=false)(a:ltOf D8 y x=false):x=y:=by
 rw[u9]at h1 a;simp at h1 a;exact Subtype.ext (u7 x.2 y.2 (by omega))
theorem In(x:Int):aw prog 281 [ak x] (λr=>r=.pv (BL (!dF x))):=by
 refine aB aP func281 ?_;simp;refine ap.intro (aX _) ?_;simp[lS]
theorem Io(x y:Int):aw prog 283 [ak x,ak y] (λr=>r=.pv (ak (DY (bH x) (bH y)))):=by
 refine aB aP func283 ?_;simp;refine ap.intro (tg _) ?_;simp;refine ap.intro (tg _) ?_;simp;refine ap.intro (DZ _ _) ?_;simp
def dN:af->List Lit
 |[]=>[]
 |x::l=>if h:dF x=true then⟨x,h⟩::dN l else dN l
theorem mQ:∀l:af,(dN l).map (·.1)=l.filter dF
 |[]=>rfl
 |x::l=>by
  rw[dN];split;rename_i h;rw[VP,mQ l,Wl,Vt h];rename_i h;rw[mQ l,Wl,Vs h]
def lm(l:List Lit):List Lit:=l.mergeSort λx y=>!(ltOf D8) y x
def fO(l:af):af:=cY ((lm (dN l)).map (·.1))
theorem KT(l:List Lit)(a:l.length<=1000000):qP prog 282 1 (aU (l.map (·.1))) [.fn (.func 283) [] []] (λk rows=>k=none∧rows=aU ((lm l).map (·.1))):=
 Bn Tryz.sortF (λx:Lit=>x.1) D8 283 l a KR KS (enters_of func283 (by kernel_rfl) rfl) (by kernel_rfl) (λx y=>Io x.1 y.1)
theorem qP.asFn{P:aa}{f g:az}{e:Nat}{rows:aT}{R:Option Nat->aT->Prop}(h:qP P f e rows [.fn (.func g) [] []] R):qP P f e rows [.lit (.func (.func g) #[] #[])] R:=by
 have j:∀{G:Gh}{a:aG},ax G [.lit (.func (.func g) #[] #[])] a->ax G [.fn (.func g) [] []] a:=λ⟨v,r,h1,b,d⟩=>⟨v,r,h1,⟨#[],#[],b,rfl,rfl⟩,d⟩;exact⟨h.1,λhn w c cap arr T pre vs i a h1 b d k l m n=>h.2.1 hn w c cap arr T pre vs i a h1 b d k l (j m) n,λhn w p cap a h1=>h.2.2 hn w p cap a (j h1)⟩
theorem ge(k:Nat):∀l:af,bV k (aU l)
 |[]=>trivial
 |_::l=>⟨⟨trivial,trivial⟩,ge k l⟩
theorem iL(l:af):(aU l).length=l.length:=by unfold aU;simp
theorem zH(a b:af):aU (a++b)=aU a++aU b:=by unfold aU;simp
theorem ql(a b:af):(aU (a++b)).take a.length=aU a:=by rw[zH,Xw (iL a)]
theorem Ov(l:af):bq (λx=>!dF x) l=(dN l).map (·.1):=by
 rw[mQ];unfold bq;congr 1;funext x;simp
theorem Ow(l:af)(p:l.length<=1000000):aw prog 241 [.seq false 1 (am l)] (λr=>r=.own true 1 (am (fO l))):=by
 refine aB aP func241 ?_;have i:=(j8 l p 281 [] (λx=>!dF x) (λr=>rfl) rfl (λk=>trivial) trivial (λx _=>In x)).asFn;have c:=j7 (λx=>!dF x) l;have n:=Ov l;unfold Oq at i;rw[n]at i c;have d:(dN l).length<=1000000:=by rw[VA]at c;omega
 have q:=(KT (dN l) d).asFn;have e:(lm (dN l)).length=(dN l).length:=WD _;have h:=qk ((lm (dN l)).map (·.1)) (by rw[VA,e];exact d);have hcl:=iK ((lm (dN l)).map (·.1)) ((lm (dN l)).map (·.1)).length;unfold Qy at h;have j:cY ((lm (dN l)).map (·.1))=fO l:=rfl;have b:bc ((lm (dN l)).map (·.1)) ((lm (dN l)).map (·.1)).length=fO l:=rfl;rw[j]at h;rw[b]at hcl;have f:((lm (dN l)).map (·.1)).length=((dN l).map (·.1)).length:=by rw[VA,VA,e]
 generalize(lm (dN l)).map (·.1)=s at*;generalize(dN l).map (·.1)=g at*;generalize fO l=u at*;simp;refine ap.intro (dy l p) ?_;simp;refine ap.introX (cd.introS (o:=.slot 6) (lo:=0) (hi:=l.length) i (by simp) rfl rfl (by simp) (by simp) rfl (by simp;rw[VT (by simp[am])];rfl) (ge 0 l) (by simp) (by simp) ?_);rintro k a ⟨rfl,rfl⟩ _ _;have m:List.drop l.length (am l)=[]:=VS (by simp[am]);have t:=iL (g++List.replicate (l.length -g.length) 0);simp[m];refine ap.introX (cd.introS (o:=.slot 6) (lo:=0) (hi:=g.length) q (by simp) rfl rfl (by simp) (by simp) rfl (by simp;exact ql _ _) (ge 0 g) (by simp) (by simp) ?_);rintro k a ⟨rfl,rfl⟩ _ _;simp;refine ap.introX (cd.introS (o:=.slot 6) (lo:=0) (hi:=g.length) h (by simp) rfl rfl (by simp) (by simp) rfl (by simp;rw[Xw (by rw[iL,f])]) (ge 0 s) (by simp) (by simp) ?_);rintro k a ⟨rfl,rfl⟩ _ _;simp;rw[Wd (by rw[iL];simp),ql];rfl
def Bo:af->Int->Nat
 |[],_=>0
 |y::l,x=>if bH y<bH x then Bo l x+1 else 0
def Bp(l:af)(x:Int):af:=l.take (Bo l x)++x::l.drop (Bo l x)
theorem Ox:∀(l:af)(x:Int),Bo l x<=l.length
 |[],_=>Vu _
 |y::l,x=>by
  rw[Bo];have:=Ox l x;split;simp;omega;simp
theorem xK(y:Int)(l:af)(x:Int):Bp (y::l) x=if bH y<bH x then y::Bp l x else x::y::l:=by
 unfold Bp;rw[Bo];split;simp;simp
theorem oX:∀(l:af)(x:Int),(Bp l x).Perm (x::l)
 |[],x=>by simp[Bp,Bo]
 |y::l,x=>by
  rw[xK];split;exact((oX l x).cons y).trans (.swap x y l);exact .refl _
theorem th:∀(l:af)(x:Int),(∀y∈l,bH y≠bH x)->l.Pairwise (λa b=>bH a<bH b)->(Bp l x).Pairwise (λa b=>bH a<bH b)
 |[],x,_,_=>by simp[Bp,Bo]
 |y::l,x,hn,h=>by
  rw[xK];rw[XP]at h;split;rename_i c;rw[XP];refine⟨λz hz=>?_,th l x (λz hz=>hn z (VG _ hz)) h.2⟩;rcases VU.1 ((oX l x).mem_iff.1 hz)with rfl|hz;exact c;exact h.1 z hz;rename_i c;rw[XP,XP];have:=hn y VN;refine⟨λz hz=>?_,h⟩;rcases VU.1 hz with rfl|hz;omega;have:=h.1 z hz;omega
def lT(c:af):Nat->af
 |0=>[]
 |i+1=>if dF (c.getD i 0)=true∧c.getD i 0∉lT c i then Bp (lT c i) (c.getD i 0)else lT c i
theorem xL(c:af):∀i,(lT c i).length<=i
 |0=>Vu _
 |i+1=>by
  have:=xL c i;rw[lT];split;rw[(oX _ _).length_eq];simp;omega;omega
theorem Bq(c:af):∀i,i<=c.length->(lT c i).Pairwise (λa b=>bH a<bH b)∧∀x,x∈lT c i↔dF x=true∧x∈c.take i
 |0,_=>⟨by simp[lT],λx=>by simp[lT]⟩
 |i+1,h=>by
  obtain⟨h1,f⟩:=Bq c i (by omega);have g:c.getD i 0=c[i]:=by simp[show i<c.length by omega]
  rw[lT,g,Wj,Vq (by omega),W6];by_cases d:dF c[i]=true∧c[i]∉lT c i;rw[Vt d];refine⟨th _ _ (λy hy e=>d.2 ?_) h1,λx=>?_⟩;rw[←u7 ((f y).1 hy).1 d.1 e];exact hy;rw[(oX _ _).mem_iff,VU,f,VF,VY];constructor;rintro(rfl|⟨a,b⟩);exact⟨d.1,.inr rfl⟩;exact⟨a,.inl b⟩;rintro⟨a,b|b⟩;exact .inr ⟨a,b⟩;exact .inl b;rw[Vs d];refine⟨h1,λx=>?_⟩;rw[f,VF,VY];constructor;rintro⟨a,b⟩;exact⟨a,.inl b⟩;rintro⟨a,b|rfl⟩;exact⟨a,b⟩;have j:c[i]∈lT c i:=V0 λh=>d ⟨a,h⟩;exact(f _).1 j
theorem xM{zs:af}(hs:zs.Pairwise (λa b=>bH a<=bH b))(c:∀x∈zs,dF x=true):∀j,j<=zs.length->(bc zs j).Pairwise (λa b=>bH a<bH b)∧∀x,x∈bc zs j↔x∈zs.take j
 |0,_=>⟨by simp[bc],λx=>by simp[bc]⟩
 |j+1,h=>by
  obtain⟨h1,g⟩:=xM hs c j (by omega);have l:zs.getD j 0=zs[j]:=by simp[show j<zs.length by omega]
  rw[bc,l,Wj,Vq (by omega),W6];have hp:=V5.1 hs;by_cases d:j=0∨zs[j]≠zs.getD (j -1) 0;rw[Vt d];refine⟨Yt.2 ⟨h1,by simp,λy hy z hz=>?_⟩,λx=>by rw[VF,VF,g]⟩;rw[VY]at hz;subst hz;obtain⟨k,hk,rfl⟩:=VE ((g y).1 hy);rw[Vy]at hk;rw[WE];rcases d with rfl|d;omega;have f:zs.getD (j -1) 0=zs[j -1]:=by simp[show j -1<zs.length by omega]
  rw[f]at d;have n:bH zs[k]<=bH zs[j -1]:=by
   by_cases e:k=j -1;subst e;exact XF _;exact hp k (j -1) (by omega) (by omega) (by omega)
  have o:bH zs[j -1]<=bH zs[j]:=hp (j -1) j (by omega) (by omega) (by omega);have a3:bH zs[j -1]≠bH zs[j]:=λe=>d (u7 (c _ (Vx _)) (c _ (Vx _)) e.symm);omega;rw[Vs d];refine⟨h1,λx=>?_⟩;rw[g,VF,VY];refine⟨.inl,λhx=>hx.elim id λe=>?_⟩;have hj:j≠0:=λe=>d (.inl e);have f:zs.getD (j -1) 0=zs[j -1]:=by simp[show j -1<zs.length by omega]
  have i:zs[j]=zs[j -1]:=V0 λm=>d (.inr (by rw[f];exact m));rw[e,i];exact WO.2 ⟨j -1,by omega,rfl⟩
theorem rn(c:af):(fO c).Pairwise (λa b=>bH a<bH b)∧∀x,x∈fO c↔dF x=true∧x∈c:=by
 have hs:((lm (dN c)).map (·.1)).Pairwise (λa b=>bH a<=bH b):=by
  rw[Xe];refine(YS (λa b d=>?_) (λa b=>?_) (dN c)).imp λ{a b} h=>?_;simp only[u9,Wp,WX];omega;simp only[u9,WI,Wp,WX];omega;simp only[u9,Wp,WX]at h;omega
 have e:∀x,x∈(lm (dN c)).map (·.1)↔dF x=true∧x∈c:=λx=>by
  unfold lm;rw[((Xu _ _).map _).mem_iff,mQ,V9,And.comm]
 obtain⟨h1,f⟩:=xM hs (λx hx=>((e x).1 hx).1) _ (Vu _);refine⟨h1,λx=>?_⟩;have:=f x;rw[VX]at this;exact this.trans (e x)
theorem Br{a b:af}(d:a.Pairwise (λx y=>bH x<bH y))(f:b.Pairwise (λx y=>bH x<bH y))(h:∀x,x∈a↔x∈b):a=b:=by
 have g:a.Nodup:=d.imp λ{x y} c e=>by rw[e]at c;omega
 have i:b.Nodup:=f.imp λ{x y} c e=>by rw[e]at c;omega
 exact ZX (le:=λx y=>bH x<bH y) (λx y _ _ h1 j=>by omega) d f ((List.perm_ext_iff_of_nodup g i).2 h)
theorem KU(c:af):lT c c.length=fO c:=by
 obtain⟨h1,a⟩:=Bq c c.length (Vu _);obtain⟨b,d⟩:=rn c;refine Br h1 b λx=>?_;rw[a,d,VX]
def nm(l:af):Nat->Nat
 |0=>0
 |i+1=>nm l i+if l.getD i 0∈l.take i then 1 else 0
theorem vb(l:af){i:Nat}:∀n,i<=n->nm l i<=nm l n
 |0,h=>by
  have:i=0:=by omega
  subst this;exact Vu _
 |n+1,h=>by
  by_cases e:i=n+1;subst e;exact Vu _;have:=vb (i:=i) l n (by omega);rw[nm];omega
theorem D9{α:Type}:∀(l:List (Int×α))(k:Int)(y:α),(pt l k y).length=l.length+if(lk l k).isNone=true then 1 else 0
 |[],k,y=>by simp[pt,lk]
 |(j,x)::r,k,y=>by
  have a:=D9 r k y;rw[pt,lk];by_cases e:j=k;rw[Vt e,Vt e];simp;rw[Vs e,Vs e,VR,a,VR];omega
theorem ro(l:af)(x:Int):∀n,n<=l.length->((lk (cG l n) x).isNone=true↔¬(dF x=true∧x∈l.take n))
 |0,_=>by simp[cG,lk]
 |n+1,h=>by
  have a:=ro l x n (by omega);have b:l.getD n 0=l[n]:=by simp[show n<l.length by omega]
  rw[cG,b,Wj,Vq (by omega),W6,VF,VY];by_cases c:dF l[n]=true;rw[Vt c,cm];by_cases e:l[n]=x;rw[Vt e];subst e;simp[c];rw[Vs e,a];have e':¬x=l[n]:=λh=>e h.symm;simp[e'];rw[Vs c,a];by_cases e:l[n]=x;subst e;simp[c];have e':¬x=l[n]:=λh=>e h.symm;simp[e']
theorem Bt(l:af)(a:∀x∈l,dF x=true):∀n,n<=l.length->(cG l n).length+nm l n=n
 |0,_=>rfl
 |n+1,h=>by
  have d:=Bt l a n (by omega);have c:l.getD n 0=l[n]:=by simp[show n<l.length by omega]
  have b:=a _ (Vx (show n<l.length by omega));have hn:=ro l l[n] n (by omega);rw[cG,nm,c,Vt b,D9];by_cases e:l[n]∈l.take n;rw[Vt e,Vs (λh=>hn.1 h ⟨b,e⟩)];omega;rw[Vs e,Vt (hn.2 λh=>e h.2)];omega
def iM(l:af)(m:Int):Int:=
 if m<0∨100000<m then 2 else if 1000<l.length then 3 else if(l.all λx=>uY x m)=false then 10 else if nm l l.length=0 then 0 else 21
theorem QA{x m:Int}(h:m<=100000)(hi:uY x m=true):dF x=true:=by
 unfold uY at hi;simp at hi;exact(bO x).2 (by omega)
theorem qm(l:af)(m:Int)(q:l.length<=140737488355328):aw Tryz.prog 124 [.seq false 1 (am l),ak m] (λr=>r=.pv (ak (iM l m))):=by
 refine aB aP Tryz.func124 ?_;by_cases c1:m<0;simp[c1,iM];by_cases c2:100000<m;simp[c1,c2,iM];by_cases c3:1000<l.length;have b:1000<(l.length:Int):=by omega
 simp[c1,c2,c3,b,iM];have b:¬1000<(l.length:Int):=by omega
 have g:∀n,aQ n m=if uY n m=true then 0 else 10:=λn=>by unfold aQ;rw[Vs (by omega)]
 simp[c1,c2,c3,b];refine aM.intro (S:=λ(i:Nat)=>⟨[(0,.pv (.seq false 1 (am l))),(1,.pv (ak m)),(19,.pv (.seq false 1 (am l))),(20,.pv (ak l.length)),(21,.pv (ak i))],[]⟩) (λi=>i<=l.length∧∀j (h:j<l.length),j<i->uY l[j] m=true) (λi=>l.length -i) 0 ?_ ⟨VH _,λj _ h=>by omega⟩ ?_;exact av.to (by simp) rfl (by simp) (by simp) (by simp);rintro i ⟨hi,ho⟩;by_cases c:i<l.length;have o:=dU i;simp[c];refine ap.intro (ll _ _) ?_;simp[g];by_cases d:uY l[i] m=true;simp[d];refine⟨i+1,by(try dsimp only);omega,⟨by omega,λj h1 p=>?_⟩,av.to (by simp[o]) rfl (by simp) (by simp) (by simp)⟩;by_cases e:j=i;subst e;exact d;exact ho j h1 (by omega);have a:(l.all λx=>uY x m)=false:=by
  rw[←YA];intro h;exact d (Wa.1 h _ (Vx c))
 simp[d,iM,c1,c2,c3,a];have:i=l.length:=by omega
 subst this;have a:(l.all λx=>uY x m)=true:=Wa.2 λx hx=>by
  obtain⟨j,hj,rfl⟩:=VE hx;exact ho j hj hj
 have k:=Bt l (λx hx=>QA (by omega) (Wa.1 a x hx)) l.length (Vu _);have f:(aL fI (cG l l.length)).length=(cG l l.length).length:=by unfold aL;simp
 simp;refine ap.intro (Gv l (by omega)) ?_;simp[f];by_cases d:nm l l.length=0;have:¬(cG l l.length).length<l.length:=by omega
 simp[this,iM,c1,c2,c3,a,d];have:(cG l l.length).length<l.length:=by omega
 simp[this,iM,c1,c2,c3,a,d]
theorem Ip(l:af):(fO l).length<=l.length:=by
 rw[←KU];exact xL l l.length
end Go.AX
