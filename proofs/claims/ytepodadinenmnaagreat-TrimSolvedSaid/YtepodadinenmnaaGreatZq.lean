/-
  Contracts: slices.DeleteFunc of rows.
-/
import Derived.Test.YtepodadinenmnaaGreatZp
set_option linter.unusedSimpArgs false
namespace Go.AX
open Go.Proofs Go.Proofs.Tryz
def ry(p:Gr->Bool)(l:List Gr):List Gr:=l.filter λx=>!p x
theorem vi(p:Gr->Bool)(l:List Gr){j:Nat}(h:j<l.length):ry p (l.take (j+1))=if p l[j]=true then ry p (l.take j)else ry p (l.take j)++[l[j]]:=by
 unfold ry;rw[Wj,Vq h,W6,WT];simp only[Wl,Zs];cases p l[j]<;>simp
theorem BE(p:Gr->Bool)(l:List Gr)(h:∀x∈l,p x=false):ry p l=l:=WU.2 λx hx=>by rw[h x hx];rfl
def RM:Gr:=⟨0,0,0,false⟩
def Vn(p:Gr->Bool)(zs:List Gr)(k:Option Nat)(rows:aT):Prop:=k=some (ry p zs).length∧rows=dW tN (ry p zs++List.replicate (zs.length -(ry p zs).length) RM)
def nA(pre:aG)(zs:List Gr)(a:aG):bj:=kQ pre (zs.flatMap tN) a
theorem lq(x:Gr):(tN x).length=4:=rfl
theorem GB(x:Gr)(v:an)(h:v∈tN x):v.oneCell'=true:=by
 simp[tN]at h;rcases h with rfl|rfl|rfl|rfl<;>rfl
theorem lV(zs:List Gr):(zs.flatMap tN).length=zs.length*4:=jb lq zs
theorem og(pre:aG)(zs:List Gr)(a:aG):(nA pre zs a).length=pre.length+zs.length*4+a.length:=by
 unfold nA;rw[od,lV]
theorem oZ(pre:aG)(zs:List Gr)(a:aG){i:Nat}(h:i<zs.length):List.take 4 (List.drop (pre.length+i*4) (nA pre zs a))=(tN zs[i]).map λv=>SV.pv (.lit v):=by
 unfold nA kQ;have e:pre.length=(pre.map (λv=>SV.pv (PV.lit v))).length:=by simp
 rw[e,Ya];have b:=lV zs;rw[WB (by rw[VA,b];omega),Wd (by rw[Wf,VA,b];omega),←Yj,←Xn];congr 1;apply Wv;intro t;rw[Wg];split;rename_i ht;rw[Wk,cT lq (by omega)];have c:(i*4+t)/4=i:=by omega
 have d:(i*4+t) %4=t:=by omega
 rw[c,d,Vq h];rfl;rename_i ht;rw[V4];rw[lq];omega
theorem gO(pre:aG)(zs:List Gr)(a:aG){i t:Nat}(h:i<zs.length)(ht:t<4):(nA pre zs a)[pre.length+i*4+t]?=((tN zs[i])[t]?).map λv=>SV.pv (.lit v):=by
 have:=Xp (λl=>l[t]?) (oZ pre zs a h);simp only[Wg,Vt ht,Wk,VO]at this;exact this
theorem GC(pre:aG)(zs:List Gr)(a:aG){i:Nat}(h:i<zs.length):List.take 4 (List.drop (pre.length+i*4) (List.map mr (nA pre zs a)))=mT zs[i]:=by
 rw[←Yj,←Xn,oZ pre zs a h];rfl
theorem Ee(pre a:aG)(zs:List Gr)(cp:Nat)(u:zs.length<=1000000)(g:Nat)(p:Gr->Bool)
 (h:∀x,aw prog g [.agg (mT x)] (λr=>r=.pv (BL (p x)))):aI prog 253 [.bsl 0 4 pre.length zs.length cp,.fn (.func g) [] []] [nA pre zs a] (λr h'=>h'=[nA pre zs a]∧r=.pv (ak (gD p zs))):=by
 refine ij [] [.tmp 4] aP func253 ?_;simp;refine aM.intro (S:=λ(i:Nat)=>⟨[(0,.pv (.bsl 0 4 pre.length zs.length cp)),(1,.pv (.fn (.func g) [] [])),(7,.pv (ak zs.length)),(8,.pv (ak i))],[nA pre zs a]⟩) (λi=>i<=zs.length∧∀j (hj:j<zs.length),j<i->p zs[j]=false) (λi=>zs.length -i) 0 ?_ ⟨VH _,λj _ h=>by omega⟩ ?_;exact av.keep (by simp) (by simp);intro i ⟨hi,ho⟩;by_cases c:i<zs.length;have s:=dU i;have hx:=h zs[i];have b:=gO pre zs a c (t:=0) (by omega);have d:=gO pre zs a c (t:=1) (by omega);have f:=gO pre zs a c (t:=2) (by omega);have k:=gO pre zs a c (t:=3) (by omega);have m:=og pre zs a;have l:=oZ pre zs a c;have o:=GC pre zs a c;simp[tN]at b d f k l;simp[c,b,d,f,k,l,o,m,mT];refine⟨by omega,?_⟩;simp only[mT]at hx;refine ap.intro hx ?_;cases n:p zs[i];simp;refine⟨i+1,by dsimp only;omega,⟨by omega,λj hj q=>?_⟩,av.keep (by simp[s]) (by simp)⟩;by_cases e:j=i;subst e;exact n;exact ho j hj (by omega);simp;rw[d0 c ho n];simp[c];rw[cw (λj hj=>ho j hj (by omega))]
theorem tm(pre:aG)(zs:List Gr)(a:aG){i n:Nat}{ys:List Gr}(hn:ys.length=n)(h:i+n<=zs.length):
 List.take (pre.length+i*4) (nA pre zs a)++((ys.flatMap tN).map (λv=>SV.pv (.lit v))++List.drop (pre.length+i*4+n*4) (nA pre zs a))=nA pre (zs.take i++ys++zs.drop (i+n)) a:=by
 subst hn;unfold nA;have:=ti pre (zs.flatMap tN) a (i:=i*4) (ys:=ys.flatMap tN) (by rw[lV,lV];omega);rw[lV]at this;rw[this];congr 1;rw[XU,XU];have ht:∀k,(zs.flatMap tN).take (k*4)=(zs.take k).flatMap tN:=λk=>by
  apply Wv;intro t;rw[Wg,cT lq (by omega),cT lq (by omega),Wg];by_cases c:t<k*4;rw[Vt c,Vt (by omega)];rw[Vs c,Vs (by omega)];rfl
 have hd:∀k,(zs.flatMap tN).drop (k*4)=(zs.drop k).flatMap tN:=λk=>by
  apply Wv;intro t;rw[Wk,cT lq (by omega),cT lq (by omega),Wk];have b:(k*4+t)/4=k+t/4:=by omega
  have d:(k*4+t) %4=t %4:=by omega
  rw[b,d]
 rw[ht,show i*4+ys.length*4=(i+ys.length)*4 by omega,hd]
theorem K2(pre:aG)(zs:List Gr)(a:aG){i:Nat}(y:Gr)(h:i<zs.length):
 List.take (pre.length+i*4) (nA pre zs a)++((mT y).map SV.pv++List.drop (pre.length+i*4+4) (nA pre zs a))=nA pre (zs.set i y) a:=by
 have:=tm pre zs a (i:=i) (n:=1) (ys:=[y]) rfl (by omega);simp only[Yi,Z4,WF,aay]at this;rw[show(mT y).map SV.pv=(tN y).map (λv=>SV.pv (.lit v))from rfl,this];congr 1;rw[XC,Vt h];simp
theorem vk(k:Nat)(pre:aG)(zs:List Gr)(a:aG):cA k (nA pre zs a):=vh k pre _ a
set_option maxRecDepth 8000 in
theorem Ef(zs:List Gr)(Y:zs.length<=1000000)(g:Nat)(p:Gr->Bool)
 (h:∀x,aw prog g [.agg (mT x)] (λr=>r=.pv (BL (p x)))):qP prog 187 4 (dW tN zs) [.fn (.func g) [] []] (Vn p zs):=by
 have hI:=Is zs Y g p h;refine qP.ofRows lq GB (by kernel_rfl) ⟨⟨trivial,trivial⟩,trivial⟩ ⟨⟨trivial,trivial⟩,trivial⟩ (λad pre b cp aa ab=>?_) (λhe q cp=>?_)
 .refine lg aP func187 ?_;have P:=Ee pre b zs cp Y g p h;simp;refine ay.intro P ?_;rintro _ _ ⟨rfl,rfl⟩;by_cases c:∃i,∃h:i<zs.length,p zs[i]=true∧∀j (hj:j<zs.length),j<i->p zs[j]=false;rotate_left;have u:∀j (hj:j<zs.length),p zs[j]=false:=by
   intro j
   induction j using Nat.strongRecOn with
   |ind j ih=>
    intro hj;cases e:p zs[j];rfl;exact absurd ⟨j,hj,e,λk hk T=>ih k T hk⟩ c
  have hd:=BE p zs λx hx=>by
   obtain⟨j,hj,rfl⟩:=VE hx;exact u j hj
  rw[cw u];simp;exact⟨some zs.length,zs,⟨by rw[hd],by rw[hd];simp⟩,rfl,λm U=>by cases U;exact Vu _,rfl,rfl⟩;obtain⟨A,G,H,u⟩:=c;rw[d0 G u H];have V:=dU A;have J:ry p (zs.take A)=zs.take A:=BE p _ λx hx=>by
   obtain⟨j,hj,rfl⟩:=VE hx;rw[Vy]at hj;rw[WE];exact u j (by omega) (by omega)
  simp;refine aM.intro (S:=λ(y:Nat×List Gr)=>⟨[(0,.pv (.bsl 0 4 pre.length zs.length cp)),(1,.pv (.fn (.func g) [] [])),(5,.pv (ak ((ry p (zs.take y.1)).length:Nat))),(6,.pv (ak y.1))],[nA pre y.2 b]⟩)
   (λy=>y.1<=zs.length∧(ry p (zs.take y.1)).length<y.1∧y.2.length=zs.length∧y.2.take (ry p (zs.take y.1)).length=ry p (zs.take y.1)∧y.2.drop y.1=zs.drop y.1) (λy=>zs.length -y.1) (A+1,zs) ?_ ?_ ?_
  refine av.keep ?_ rfl;have:(ry p (zs.take (A+1))).length=A:=by rw[vi p zs G,Vt H,J,Vy];omega
  simp[V,this];have:ry p (zs.take (A+1))=zs.take A:=by rw[vi p zs G,Vt H,J]
  refine⟨by dsimp only;omega,?_,rfl,?_,rfl⟩;dsimp only;rw[this,Vy];omega;dsimp only;rw[this,Vy];congr 1;omega;rintro⟨j,a⟩ ⟨h1,X,M,I,N⟩;dsimp only at h1 X M I N;by_cases O:j<zs.length;have Z:=dU j;have Q:a[j]'(by omega)=zs[j]:=by
   have:=Xp (λl=>l[0]?) N;simp only[Wk,Ye]at this;rw[Vq (by omega),Vq O]at this;exact Yb this
  have f:j<a.length:=by omega
  have B:=gO pre a b f (t:=0) (by omega);have C:=gO pre a b f (t:=1) (by omega);have D:=gO pre a b f (t:=2) (by omega);have E:=gO pre a b f (t:=3) (by omega);have F:=oZ pre a b f;have K:=GC pre a b f;rw[Q]at B C D E F K;simp[tN]at B C D E F;have s:=og pre a b;have hx:=h zs[j];simp only[mT]at hx;have d:=vi p zs O;simp[O,B,C,D,E,F,K,s,mT];refine⟨by omega,ap.intro hx ?_⟩;cases L:p zs[j];rw[L]at d;simp only[We,WM]at d;have W:=dU ((ry p (zs.take j)).length);have z:=K2 pre a b (i:=(ry p (zs.take j)).length) zs[j] (by omega);simp only[mT,VP,Xg,Wh,V8]at z;simp[s];refine⟨by omega,by omega,(j+1,a.set (ry p (zs.take j)).length zs[j]),by(try dsimp only);omega,⟨by(try dsimp only);omega,?_,by(try dsimp only);rw[VQ];exact M,?_,?_⟩,av.to ?_ (by simp[z]) (by simp) (by simp) (by simp[vk])⟩;dsimp only;rw[d,Vz,Wi];omega;dsimp only;rw[d,Vz,Wi,Wj,Yw (Vu _),I,VZ (by omega)];rfl;dsimp only;rw[Yh (by omega)];have:=Xp (List.drop 1) N
  rwa [Wx,Wx]at this
  simp[Z,W,d];rw[L]at d;simp only[Xl]at d;simp;refine⟨(j+1,a),by dsimp only;omega,⟨by dsimp only;omega,by dsimp only;rw[d];omega,M,by dsimp only;rw[d];exact I,?_⟩,av.to (by simp[Z,d]) rfl (by simp) (by simp) (by simp[vk])⟩;dsimp only;have:=Xp (List.drop 1) N
  rwa [Wx,Wx]at this
  have:j=zs.length:=by omega
  subst this;rw[VX]at X I;have s:=og pre a b;have o:=tm pre a b (i:=(ry p zs).length) (n:=zs.length -(ry p zs).length) (ys:=List.replicate (zs.length -(ry p zs).length) RM) (by simp) (by omega);have R:((List.replicate (zs.length -(ry p zs).length) RM).flatMap tN).map (λv=>SV.pv (.lit v))=(List.replicate (zs.length -(ry p zs).length) [SV.pv (PV.lit (Value.int IntKind.i64 0)),SV.pv (PV.lit (Value.int IntKind.i64 0)),SV.pv (PV.lit (Value.int IntKind.i64 0)),SV.pv (PV.lit (Value.bool false))]).flatten:=by
   rw[List.flatMap_def,ZE,Xq,Xq];rfl
  rw[R]at o;simp[M];refine⟨⟨by omega,by omega⟩,by omega,by omega,⟨by omega,by omega⟩,some (ry p zs).length,ry p zs++List.replicate (zs.length -(ry p zs).length) RM,⟨rfl,rfl⟩,by simp;omega,λm U=>by cases U;omega,rfl,?_⟩;rw[o,I,VS (by omega),WF];rfl
 subst he;refine aB aP func187 ?_;simp;refine ap.intro (hI.conv ⟨_,_,rfl,λw v hv=>⟨q,cp,hv,VH _,.inl rfl⟩,_,_,rfl,PV.as.refl _,rfl⟩) ?_;rw[cw (λj hj=>by simp at hj)];simp;exact⟨some 0,⟨rfl,rfl⟩,.inr rfl,rfl⟩
end Go.AX
