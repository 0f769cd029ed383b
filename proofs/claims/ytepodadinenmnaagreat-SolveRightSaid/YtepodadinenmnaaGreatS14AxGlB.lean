/-
  Contracts: slices.DeleteFunc of rows.
-/
import Derived.Test.YtepodadinenmnaaGreatS14AxGlP
import Derived.Test.YtepodadinenmnaaGreatAxOw
namespace Go.AX
open Go.Proofs
set_option linter.unusedSimpArgs false
def pN(p:Gr->Bool)(l:List Gr):List Gr:=l.filter λx=>!p x
theorem tz(p:Gr->Bool)(l:List Gr){j:Nat}(h:j<l.length):pN p (l.take (j+1))=if p l[j]=true then pN p (l.take j)else pN p (l.take j)++[l[j]]:=by
 unfold pN;rw[T4,SH h,UG,Uv];simp only[TQ,W7];cases p l[j]<;>simp
theorem zw(p:Gr->Bool)(l:List Gr)(h:∀x∈l,p x=false):pN p l=l:=Uw.2 λx hx=>by rw[h x hx];rfl
def OU:Gr:=⟨0,0,0,false⟩
def SF(p:Gr->Bool)(zs:List Gr)(k:Option Nat)(rows:List (List PV)):Prop:=k=some (pN p zs).length∧rows=ea rL (pN p zs++List.replicate (zs.length -(pN p zs).length) OU)
def l9(pre:List Value)(zs:List Gr)(a:List Value):List SV:=j0 pre (zs.flatMap rL) a
theorem jC(x:Gr):(rL x).length=4:=rfl
theorem DV(x:Gr)(v:Value)(h:v∈rL x):v.oneCell'=true:=by
 simp[rL]at h;rcases h with rfl|rfl|rfl|rfl<;>rfl
theorem j7(zs:List Gr):(zs.flatMap rL).length=zs.length*4:=jB jC zs
theorem mK(pre:List Value)(zs:List Gr)(a:List Value):(l9 pre zs a).length=pre.length+zs.length*4+a.length:=by
 unfold l9;rw[rp,j7]
theorem nt(pre:List Value)(zs:List Gr)(a:List Value){i:Nat}(h:i<zs.length):List.take 4 (List.drop (pre.length+i*4) (l9 pre zs a))=(rL zs[i]).map λv=>SV.pv (.lit v):=by
 unfold l9 j0;have e:pre.length=(pre.map (λv=>SV.pv (PV.lit v))).length:=by simp
 rw[e,VB];have b:=j7 zs;rw[Un (by rw[SZ,b];omega),TV (by rw[TF,SZ,b];omega),←VY,←U3];congr 1;apply T7;intro t;rw[TR];split
 .rename_i ht;rw[T5,eM jC (by omega)];have c:(i*4+t)/4=i:=by omega
  have d:(i*4+t) %4=t:=by omega
  rw[c,d,SH h];rfl
 .rename_i ht;rw[Ty];rw[jC];omega
theorem fQ(pre:List Value)(zs:List Gr)(a:List Value){i t:Nat}(h:i<zs.length)(ht:t<4):(l9 pre zs a)[pre.length+i*4+t]?=((rL zs[i])[t]?).map λv=>SV.pv (.lit v):=by
 have:=Vk (λl=>l[t]?) (nt pre zs a h);simp only[TR,SN ht,T5,Tg]at this;exact this
theorem DW(pre:List Value)(zs:List Gr)(a:List Value){i:Nat}(h:i<zs.length):List.take 4 (List.drop (pre.length+i*4) (List.map l3 (l9 pre zs a)))=lE zs[i]:=by
 rw[←VY,←U3,nt pre zs a h];rfl
theorem B6(pre a:List Value)(zs:List Gr)(cp:Nat)(u:zs.length<=1000000)(g:Nat)(p:Gr->Bool)
 (h:∀x,ak Tryz.prog g [.agg (lE x)] (λr=>r=.pv (BL (p x)))):ax Tryz.prog 253 [.bsl 0 4 pre.length zs.length cp,.fn (.func g) [] []] [l9 pre zs a] (λr h'=>h'=[l9 pre zs a]∧r=.pv (ab (gp p zs))):=by
 refine gC [] [.tmp 4] aC Tryz.func253 ?_;simp;refine aF.intro (S:=λ(i:Nat)=>⟨[(0,.pv (.bsl 0 4 pre.length zs.length cp)),(1,.pv (.fn (.func g) [] [])),(7,.pv (ab zs.length)),(8,.pv (ab i))],[l9 pre zs a]⟩) (λi=>i<=zs.length∧∀j (hj:j<zs.length),j<i->p zs[j]=false) (λi=>zs.length -i) 0 ?_ ⟨Te _,λj _ h=>by omega⟩ ?_
 .exact ai.keep (by simp) (by simp)
 .intro i ⟨hi,ho⟩
  by_cases c:i<zs.length
  .have s:=dZ i;have hx:=h zs[i];have b:=fQ pre zs a c (t:=0) (by omega);have d:=fQ pre zs a c (t:=1) (by omega);have f:=fQ pre zs a c (t:=2) (by omega);have k:=fQ pre zs a c (t:=3) (by omega);have m:=mK pre zs a;have l:=nt pre zs a c;have o:=DW pre zs a c;simp[rL]at b d f k l;simp[c,b,d,f,k,l,o,m,lE];refine⟨by omega,?_⟩;simp only[lE]at hx;refine ah.intro hx ?_;cases n:p zs[i]
   .simp;refine⟨i+1,by dsimp only;omega,⟨by omega,λj hj q=>?_⟩,ai.keep (by simp[s]) (by simp)⟩
    by_cases e:j=i
    .subst e;exact n
    .exact ho j hj (by omega)
   .simp;rw[d9 c ho n]
  .simp[c];rw[cJ (λj hj=>ho j hj (by omega))]
theorem rq(pre:List Value)(zs:List Gr)(a:List Value){i n:Nat}{ys:List Gr}(hn:ys.length=n)(h:i+n<=zs.length):
 List.take (pre.length+i*4) (l9 pre zs a)++((ys.flatMap rL).map (λv=>SV.pv (.lit v))++List.drop (pre.length+i*4+n*4) (l9 pre zs a))=l9 pre (zs.take i++ys++zs.drop (i+n)) a:=by
 subst hn;unfold l9;have:=zt pre (zs.flatMap rL) a (i:=i*4) (ys:=ys.flatMap rL) (by rw[j7,j7];omega);rw[j7]at this;rw[this];congr 1;rw[V1,V1];have ht:∀k,(zs.flatMap rL).take (k*4)=(zs.take k).flatMap rL:=λk=>by
  apply T7;intro t;rw[TR,eM jC (by omega),eM jC (by omega),TR]
  by_cases c:t<k*4
  .rw[SN c,SN (by omega)]
  .rw[SM c,SM (by omega)];rfl
 have hd:∀k,(zs.flatMap rL).drop (k*4)=(zs.drop k).flatMap rL:=λk=>by
  apply T7;intro t;rw[T5,eM jC (by omega),eM jC (by omega),T5];have b:(k*4+t)/4=k+t/4:=by omega
  have d:(k*4+t) %4=t %4:=by omega
  rw[b,d]
 rw[ht,show i*4+ys.length*4=(i+ys.length)*4 by omega,hd]
theorem If(pre:List Value)(zs:List Gr)(a:List Value){i:Nat}(y:Gr)(h:i<zs.length):
 List.take (pre.length+i*4) (l9 pre zs a)++((lE y).map SV.pv++List.drop (pre.length+i*4+4) (l9 pre zs a))=l9 pre (zs.set i y) a:=by
 have:=rq pre zs a (i:=i) (n:=1) (ys:=[y]) rfl (by omega);simp only[WK,List.flatMap_nil,Ui,Nat.one_mul]at this;rw[show(lE y).map SV.pv=(rL y).map (λv=>SV.pv (.lit v))from rfl,this];congr 1;rw[VI,SN h];simp
theorem tA(k:Nat)(pre:List Value)(zs:List Gr)(a:List Value):cD k (l9 pre zs a):=B4 k pre _ a
set_option maxRecDepth 8000 in
theorem B7(zs:List Gr)(Y:zs.length<=1000000)(g:Nat)(p:Gr->Bool)
 (h:∀x,ak Tryz.prog g [.agg (lE x)] (λr=>r=.pv (BL (p x)))):qv Tryz.prog 187 4 (ea rL zs) [.fn (.func g) [] []] (SF p zs):=by
 have hI:=Fz zs Y g p h;refine qv.ofRows jC DV (by kernel_rfl) ⟨⟨trivial,trivial⟩,trivial⟩ ⟨⟨trivial,trivial⟩,trivial⟩ (λae pre b cp aa ad=>?_) (λhe q cp=>?_)
 .refine mB aC Tryz.func187 ?_;have P:=B6 pre b zs cp Y g p h;simp;refine am.intro P ?_;rintro _ _ ⟨rfl,rfl⟩
  by_cases c:∃i,∃h:i<zs.length,p zs[i]=true∧∀j (hj:j<zs.length),j<i->p zs[j]=false
  rotate_left
  .have u:∀j (hj:j<zs.length),p zs[j]=false:=by
    intro j
    induction j using Nat.strongRecOn with
    |ind j ih=>
     intro hj;cases e:p zs[j]
     .rfl
     .exact absurd ⟨j,hj,e,λk hk T=>ih k T hk⟩ c
   have hd:=zw p zs λx hx=>by
    obtain⟨j,hj,rfl⟩:=S6 hx;exact u j hj
   rw[cJ u];simp;exact⟨some zs.length,zs,⟨by rw[hd],by rw[hd];simp⟩,rfl,λm U=>by cases U;exact SQ _,rfl,rfl⟩
  obtain⟨A,G,H,u⟩:=c;rw[d9 G u H];have V:=dZ A;have J:pN p (zs.take A)=zs.take A:=zw p _ λx hx=>by
   obtain⟨j,hj,rfl⟩:=S6 hx;rw[SU]at hj;rw[Ua];exact u j (by omega) (by omega)
  simp;refine aF.intro (S:=λ(y:Nat×List Gr)=>⟨[(0,.pv (.bsl 0 4 pre.length zs.length cp)),(1,.pv (.fn (.func g) [] [])),(5,.pv (ab ((pN p (zs.take y.1)).length:Nat))),(6,.pv (ab y.1))],[l9 pre y.2 b]⟩)
   (λy=>y.1<=zs.length∧(pN p (zs.take y.1)).length<y.1∧y.2.length=zs.length∧y.2.take (pN p (zs.take y.1)).length=pN p (zs.take y.1)∧y.2.drop y.1=zs.drop y.1) (λy=>zs.length -y.1) (A+1,zs) ?_ ?_ ?_
  .refine ai.keep ?_ rfl;have:(pN p (zs.take (A+1))).length=A:=by rw[tz p zs G,SN H,J,SU];omega
   simp[V,this]
  .have:pN p (zs.take (A+1))=zs.take A:=by rw[tz p zs G,SN H,J]
   refine⟨by dsimp only;omega,?_,rfl,?_,rfl⟩
   .dsimp only;rw[this,SU];omega
   .dsimp only;rw[this,SU];congr 1;omega
  .rintro⟨j,a⟩ ⟨h1,X,M,I,N⟩;dsimp only at h1 X M I N
   by_cases O:j<zs.length
   .have Z:=dZ j;have Q:a[j]'(by omega)=zs[j]:=by
     have:=Vk (λl=>l[0]?) N;simp only[T5,VA]at this;rw[SH (by omega),SH O]at this;exact VC this
    have f:j<a.length:=by omega
    have B:=fQ pre a b f (t:=0) (by omega);have C:=fQ pre a b f (t:=1) (by omega);have D:=fQ pre a b f (t:=2) (by omega);have E:=fQ pre a b f (t:=3) (by omega);have F:=nt pre a b f;have K:=DW pre a b f;rw[Q]at B C D E F K;simp[rL]at B C D E F;have s:=mK pre a b;have hx:=h zs[j];simp only[lE]at hx;have d:=tz p zs O;simp[O,B,C,D,E,F,K,s,lE];refine⟨by omega,ah.intro hx ?_⟩;cases L:p zs[j]
    .rw[L]at d;simp only[TM,Uo]at d;have W:=dZ ((pN p (zs.take j)).length);have z:=If pre a b (i:=(pN p (zs.take j)).length) zs[j] (by omega);simp only[lE,Th,UL,TH,Tz]at z;simp[s];refine⟨by omega,by omega,(j+1,a.set (pN p (zs.take j)).length zs[j]),by(try dsimp only);omega,⟨by(try dsimp only);omega,?_,by(try dsimp only);rw[Ti];exact M,?_,?_⟩,ai.to ?_ (by simp[z]) (by simp) (by simp) (by simp[tA])⟩
     .dsimp only;rw[d,SX,TZ];omega
     .dsimp only;rw[d,SX,TZ,T4,Wv (SQ _),I,Tu (by omega)];rfl
     .dsimp only;rw[V0 (by omega)];have:=Vk (List.drop 1) N
      rwa [Ue,Ue]at this
     .simp[Z,W,d]
    .rw[L]at d;simp only[UO]at d;simp;refine⟨(j+1,a),by(try dsimp only);omega,⟨by(try dsimp only);omega,by dsimp only;rw[d];omega,M,by dsimp only;rw[d];exact I,?_⟩,ai.to (by simp[Z,d]) rfl (by simp) (by simp) (by simp[tA])⟩;dsimp only;have:=Vk (List.drop 1) N
     rwa [Ue,Ue]at this
   .have:j=zs.length:=by omega
    subst this;rw[Tw]at X I;have s:=mK pre a b;have o:=rq pre a b (i:=(pN p zs).length) (n:=zs.length -(pN p zs).length) (ys:=List.replicate (zs.length -(pN p zs).length) OU) (by simp) (by omega);have R:((List.replicate (zs.length -(pN p zs).length) OU).flatMap rL).map (λv=>SV.pv (.lit v))=(List.replicate (zs.length -(pN p zs).length) [SV.pv (PV.lit (Value.int IntKind.i64 0)),SV.pv (PV.lit (Value.int IntKind.i64 0)),SV.pv (PV.lit (Value.int IntKind.i64 0)),SV.pv (PV.lit (Value.bool false))]).flatten:=by
     rw[List.flatMap_def,Xn,U7,U7];rfl
    rw[R]at o;simp[M];refine⟨⟨by omega,by omega⟩,by omega,by omega,⟨by omega,by omega⟩,some (pN p zs).length,pN p zs++List.replicate (zs.length -(pN p zs).length) OU,⟨rfl,rfl⟩,by simp;omega,λm U=>by cases U;omega,rfl,?_⟩;rw[o,I,Tq (by omega),Ui];rfl
 .subst he;refine ap aC Tryz.func187 ?_;simp;refine ah.intro (hI.conv ⟨_,_,rfl,λw v hv=>⟨q,cp,hv,Te _,.inl rfl⟩,_,_,rfl,PV.as.refl _,rfl⟩) ?_;rw[cJ (λj hj=>by simp at hj)];simp;exact⟨some 0,⟨rfl,rfl⟩,.inr rfl,rfl⟩
end Go.AX