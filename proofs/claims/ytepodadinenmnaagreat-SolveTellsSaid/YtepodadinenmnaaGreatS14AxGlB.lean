/-
  Contracts: slices.DeleteFunc of rows.
-/
import Derived.Test.YtepodadinenmnaaGreatS14AxGlP
import Derived.Test.YtepodadinenmnaaGreatAxOw
namespace Go.AX
open Go.Proofs
set_option linter.unusedSimpArgs false
def pJ(p:Gr->Bool)(l:List Gr):List Gr:=l.filter λx=>!p x
theorem tu(p:Gr->Bool)(l:List Gr){j:Nat}(h:j<l.length):pJ p (l.take (j+1))=if p l[j]=true then pJ p (l.take j)else pJ p (l.take j)++[l[j]]:=by
 unfold pJ;rw[TW,SR h,UO,Uu];simp only[TO,Wd];cases p l[j]<;>simp
theorem zF(p:Gr->Bool)(l:List Gr)(h:∀x∈l,p x=false):pJ p l=l:=Uz.2 λx hx=>by rw[h x hx];rfl
def OY:Gr:=⟨0,0,0,false⟩
def SN(p:Gr->Bool)(zs:List Gr)(k:Option Nat)(rows:List (List PV)):Prop:=k=some (pJ p zs).length∧rows=eb rE (pJ p zs++List.replicate (zs.length -(pJ p zs).length) OY)
def ma(pre:List Value)(zs:List Gr)(a:List Value):List SV:=jX pre (zs.flatMap rE) a
theorem jw(x:Gr):(rE x).length=4:=rfl
theorem Eb(x:Gr)(v:Value)(h:v∈rE x):v.oneCell'=true:=by
 simp[rE]at h;rcases h with rfl|rfl|rfl|rfl<;>rfl
theorem jY(zs:List Gr):(zs.flatMap rE).length=zs.length*4:=ju jw zs
theorem mP(pre:List Value)(zs:List Gr)(a:List Value):(ma pre zs a).length=pre.length+zs.length*4+a.length:=by
 unfold ma;rw[rl,jY]
theorem nx(pre:List Value)(zs:List Gr)(a:List Value){i:Nat}(h:i<zs.length):List.take 4 (List.drop (pre.length+i*4) (ma pre zs a))=(rE zs[i]).map λv=>SV.pv (.lit v):=by
 unfold ma jX;have e:pre.length=(pre.map (λv=>SV.pv (PV.lit v))).length:=by simp
 rw[e,VG];have b:=jY zs;rw[Ua (by rw[S7,b];omega),Uy (by rw[TN,S7,b];omega),←VD,←UB];congr 1;apply Uf;intro t;rw[TY];split
 .rename_i ht;rw[Ub,eI jw (by omega)];have c:(i*4+t)/4=i:=by omega
  have d:(i*4+t) %4=t:=by omega
  rw[c,d,SR h];rfl
 .rename_i ht;rw[TL];rw[jw];omega
theorem fL(pre:List Value)(zs:List Gr)(a:List Value){i t:Nat}(h:i<zs.length)(ht:t<4):(ma pre zs a)[pre.length+i*4+t]?=((rE zs[i])[t]?).map λv=>SV.pv (.lit v):=by
 have:=Vm (λl=>l[t]?) (nx pre zs a h);simp only[TY,SX ht,Ub,Tm]at this;exact this
theorem Ec(pre:List Value)(zs:List Gr)(a:List Value){i:Nat}(h:i<zs.length):List.take 4 (List.drop (pre.length+i*4) (List.map l5 (ma pre zs a)))=lE zs[i]:=by
 rw[←VD,←UB,nx pre zs a h];rfl
theorem Cg(pre a:List Value)(zs:List Gr)(cp:Nat)(u:zs.length<=1000000)(g:Nat)(p:Gr->Bool)
 (h:∀x,aj Tryz.prog g [.agg (lE x)] (λr=>r=.pv (BL (p x)))):aA Tryz.prog 253 [.bsl 0 4 pre.length zs.length cp,.fn (.func g) [] []] [ma pre zs a] (λr h'=>h'=[ma pre zs a]∧r=.pv (ab (iP p zs))):=by
 refine gy [] [.tmp 4] aD Tryz.func253 ?_;simp;refine ax.intro (S:=λ(i:Nat)=>⟨[(0,.pv (.bsl 0 4 pre.length zs.length cp)),(1,.pv (.fn (.func g) [] [])),(7,.pv (ab zs.length)),(8,.pv (ab i))],[ma pre zs a]⟩) (λi=>i<=zs.length∧∀j (hj:j<zs.length),j<i->p zs[j]=false) (λi=>zs.length -i) 0 ?_ ⟨Tf _,λj _ h=>by omega⟩ ?_
 .exact ah.keep (by simp) (by simp)
 .intro i ⟨hi,ho⟩
  by_cases c:i<zs.length
  .have s:=dv i;have hx:=h zs[i];have b:=fL pre zs a c (t:=0) (by omega);have d:=fL pre zs a c (t:=1) (by omega);have f:=fL pre zs a c (t:=2) (by omega);have k:=fL pre zs a c (t:=3) (by omega);have m:=mP pre zs a;have l:=nx pre zs a c;have o:=Ec pre zs a c;simp[rE]at b d f k l;simp[c,b,d,f,k,l,o,m,lE];refine⟨by omega,?_⟩;simp only[lE]at hx;refine ai.intro hx ?_;cases n:p zs[i]
   .simp;refine⟨i+1,by dsimp only;omega,⟨by omega,λj hj q=>?_⟩,ah.keep (by simp[s]) (by simp)⟩
    by_cases e:j=i
    .subst e;exact n
    .exact ho j hj (by omega)
   .simp;rw[eU c ho n]
  .simp[c];rw[cM (λj hj=>ho j hj (by omega))]
theorem rm(pre:List Value)(zs:List Gr)(a:List Value){i n:Nat}{ys:List Gr}(hn:ys.length=n)(h:i+n<=zs.length):
 List.take (pre.length+i*4) (ma pre zs a)++((ys.flatMap rE).map (λv=>SV.pv (.lit v))++List.drop (pre.length+i*4+n*4) (ma pre zs a))=ma pre (zs.take i++ys++zs.drop (i+n)) a:=by
 subst hn;unfold ma;have:=zC pre (zs.flatMap rE) a (i:=i*4) (ys:=ys.flatMap rE) (by rw[jY,jY];omega);rw[jY]at this;rw[this];congr 1;rw[V4,V4];have ht:∀k,(zs.flatMap rE).take (k*4)=(zs.take k).flatMap rE:=λk=>by
  apply Uf;intro t;rw[TY,eI jw (by omega),eI jw (by omega),TY]
  by_cases c:t<k*4
  .rw[SX c,SX (by omega)]
  .rw[SU c,SU (by omega)];rfl
 have hd:∀k,(zs.flatMap rE).drop (k*4)=(zs.drop k).flatMap rE:=λk=>by
  apply Uf;intro t;rw[Ub,eI jw (by omega),eI jw (by omega),Ub];have b:(k*4+t)/4=k+t/4:=by omega
  have d:(k*4+t) %4=t %4:=by omega
  rw[b,d]
 rw[ht,show i*4+ys.length*4=(i+ys.length)*4 by omega,hd]
theorem IA(pre:List Value)(zs:List Gr)(a:List Value){i:Nat}(y:Gr)(h:i<zs.length):
 List.take (pre.length+i*4) (ma pre zs a)++((lE y).map SV.pv++List.drop (pre.length+i*4+4) (ma pre zs a))=ma pre (zs.set i y) a:=by
 have:=rm pre zs a (i:=i) (n:=1) (ys:=[y]) rfl (by omega);simp only[WL,List.flatMap_nil,Ut,Nat.one_mul]at this;rw[show(lE y).map SV.pv=(rE y).map (λv=>SV.pv (.lit v))from rfl,this];congr 1;rw[VO,SX h];simp
theorem tv(k:Nat)(pre:List Value)(zs:List Gr)(a:List Value):cG k (ma pre zs a):=Ce k pre _ a
set_option maxRecDepth 8000 in
theorem Ch(zs:List Gr)(Y:zs.length<=1000000)(g:Nat)(p:Gr->Bool)
 (h:∀x,aj Tryz.prog g [.agg (lE x)] (λr=>r=.pv (BL (p x)))):o8 Tryz.prog 187 4 (eb rE zs) [.fn (.func g) [] []] (SN p zs):=by
 have hI:=FT zs Y g p h;refine o8.ofRows jw Eb (by kernel_rfl) ⟨⟨trivial,trivial⟩,trivial⟩ ⟨⟨trivial,trivial⟩,trivial⟩ (λae pre b cp aa ad=>?_) (λhe q cp=>?_)
 .refine mF aD Tryz.func187 ?_;have P:=Cg pre b zs cp Y g p h;simp;refine am.intro P ?_;rintro _ _ ⟨rfl,rfl⟩
  by_cases c:∃i,∃h:i<zs.length,p zs[i]=true∧∀j (hj:j<zs.length),j<i->p zs[j]=false
  rotate_left
  .have u:∀j (hj:j<zs.length),p zs[j]=false:=by
    intro j
    induction j using Nat.strongRecOn with
    |ind j ih=>
     intro hj;cases e:p zs[j]
     .rfl
     .exact absurd ⟨j,hj,e,λk hk T=>ih k T hk⟩ c
   have hd:=zF p zs λx hx=>by
    obtain⟨j,hj,rfl⟩:=Tc hx;exact u j hj
   rw[cM u];simp;exact⟨some zs.length,zs,⟨by rw[hd],by rw[hd];simp⟩,rfl,λm U=>by cases U;exact SY _,rfl,rfl⟩
  obtain⟨A,G,H,u⟩:=c;rw[eU G u H];have V:=dv A;have J:pJ p (zs.take A)=zs.take A:=zF p _ λx hx=>by
   obtain⟨j,hj,rfl⟩:=Tc hx;rw[S6]at hj;rw[Uh];exact u j (by omega) (by omega)
  simp;refine ax.intro (S:=λ(y:Nat×List Gr)=>⟨[(0,.pv (.bsl 0 4 pre.length zs.length cp)),(1,.pv (.fn (.func g) [] [])),(5,.pv (ab ((pJ p (zs.take y.1)).length:Nat))),(6,.pv (ab y.1))],[ma pre y.2 b]⟩)
   (λy=>y.1<=zs.length∧(pJ p (zs.take y.1)).length<y.1∧y.2.length=zs.length∧y.2.take (pJ p (zs.take y.1)).length=pJ p (zs.take y.1)∧y.2.drop y.1=zs.drop y.1) (λy=>zs.length -y.1) (A+1,zs) ?_ ?_ ?_
  .refine ah.keep ?_ rfl;have:(pJ p (zs.take (A+1))).length=A:=by rw[tu p zs G,SX H,J,S6];omega
   simp[V,this]
  .have:pJ p (zs.take (A+1))=zs.take A:=by rw[tu p zs G,SX H,J]
   refine⟨by dsimp only;omega,?_,rfl,?_,rfl⟩
   .dsimp only;rw[this,S6];omega
   .dsimp only;rw[this,S6];congr 1;omega
  .rintro⟨j,a⟩ ⟨h1,X,M,I,N⟩;dsimp only at h1 X M I N
   by_cases O:j<zs.length
   .have Z:=dv j;have Q:a[j]'(by omega)=zs[j]:=by
     have:=Vm (λl=>l[0]?) N;simp only[Ub,VE]at this;rw[SR (by omega),SR O]at this;exact VH this
    have f:j<a.length:=by omega
    have B:=fL pre a b f (t:=0) (by omega);have C:=fL pre a b f (t:=1) (by omega);have D:=fL pre a b f (t:=2) (by omega);have E:=fL pre a b f (t:=3) (by omega);have F:=nx pre a b f;have K:=Ec pre a b f;rw[Q]at B C D E F K;simp[rE]at B C D E F;have s:=mP pre a b;have hx:=h zs[j];simp only[lE]at hx;have d:=tu p zs O;simp[O,B,C,D,E,F,K,s,lE];refine⟨by omega,ai.intro hx ?_⟩;cases L:p zs[j]
    .rw[L]at d;simp only[TM,Ul]at d;have W:=dv ((pJ p (zs.take j)).length);have z:=IA pre a b (i:=(pJ p (zs.take j)).length) zs[j] (by omega);simp only[lE,Tn,Vg,TP,TI]at z;simp[s];refine⟨by omega,by omega,(j+1,a.set (pJ p (zs.take j)).length zs[j]),by(try dsimp only);omega,⟨by(try dsimp only);omega,?_,by(try dsimp only);rw[Tt];exact M,?_,?_⟩,ah.to ?_ (by simp[z]) (by simp) (by simp) (by simp[tv])⟩
     .dsimp only;rw[d,Ta,Ue];omega
     .dsimp only;rw[d,Ta,Ue,TW,Ws (SY _),I,TH (by omega)];rfl
     .dsimp only;rw[V2 (by omega)];have:=Vm (List.drop 1) N
      rwa [Ui,Ui]at this
     .simp[Z,W,d]
    .rw[L]at d;simp only[UU]at d;simp;refine⟨(j+1,a),by(try dsimp only);omega,⟨by(try dsimp only);omega,by dsimp only;rw[d];omega,M,by dsimp only;rw[d];exact I,?_⟩,ah.to (by simp[Z,d]) rfl (by simp) (by simp) (by simp[tv])⟩;dsimp only;have:=Vm (List.drop 1) N
     rwa [Ui,Ui]at this
   .have:j=zs.length:=by omega
    subst this;rw[Tw]at X I;have s:=mP pre a b;have o:=rm pre a b (i:=(pJ p zs).length) (n:=zs.length -(pJ p zs).length) (ys:=List.replicate (zs.length -(pJ p zs).length) OY) (by simp) (by omega);have R:((List.replicate (zs.length -(pJ p zs).length) OY).flatMap rE).map (λv=>SV.pv (.lit v))=(List.replicate (zs.length -(pJ p zs).length) [SV.pv (PV.lit (Value.int IntKind.i64 0)),SV.pv (PV.lit (Value.int IntKind.i64 0)),SV.pv (PV.lit (Value.int IntKind.i64 0)),SV.pv (PV.lit (Value.bool false))]).flatten:=by
     rw[List.flatMap_def,Xs,Vh,Vh];rfl
    rw[R]at o;simp[M];refine⟨⟨by omega,by omega⟩,by omega,by omega,⟨by omega,by omega⟩,some (pJ p zs).length,pJ p zs++List.replicate (zs.length -(pJ p zs).length) OY,⟨rfl,rfl⟩,by simp;omega,λm U=>by cases U;omega,rfl,?_⟩;rw[o,I,Tq (by omega),Ut];rfl
 .subst he;refine ap aD Tryz.func187 ?_;simp;refine ai.intro (hI.conv ⟨_,_,rfl,λw v hv=>⟨q,cp,hv,Tf _,.inl rfl⟩,_,_,rfl,PV.as.refl _,rfl⟩) ?_;rw[cM (λj hj=>by simp at hj)];simp;exact⟨some 0,⟨rfl,rfl⟩,.inr rfl,rfl⟩
end Go.AX