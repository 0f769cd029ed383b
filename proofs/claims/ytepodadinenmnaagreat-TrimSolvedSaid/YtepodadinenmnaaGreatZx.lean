/-
  The library: a map's keys, sorted, whatever its values; a slice's values, sorted; and what follows.
-/
import Derived.Test.YtepodadinenmnaaGreatZ7
import Derived.Test.YtepodadinenmnaaGreatZ9
import Derived.Test.YtepodadinenmnaaGreatZw
set_option linter.unusedSimpArgs false
set_option maxRecDepth 16000
namespace Go.AX
section
open Go.Proofs Go.Proofs.Tryz Go.Maps Go.Shelf
def LP(_:an):Option (DataW Unit×List MemPlace):=some (.lit (.int .i64 0),[])
def k0(ks:af):aS:=ks.map λx=>(x,0)
def bM(l:af):af:=l.mergeSort λx y=>decide (x<=y)
theorem x9{β:Type}{f:β->PV}{G:Gh}:∀{a:List (Int×β)}{en:List MapEntry},cu G (aL f a) en->en.map (·.key)=(a.map (·.1)).map λx=>.int .i64 x
 |[],en,h=>by
  have:en=[]:=h;rw[this];rfl
 |q::a,en,⟨m,r,h1,b,d,c⟩=>by
  subst h1;rw[VP,VP,VP,x9 c,b]
section
variable {P : aa} {k : ah}
theorem LQ(hk:P.underlying k=some (.int .i64)):∀{en:List MapEntry}{ks:af},en.map (·.key)=ks.map (λx=>.int .i64 x)->(∀x∈ks,xD x)->
 en.map (WideElems.rg P k LP)=Ru (k0 ks)∧∀m∈en,∃y,WideElems.rd P k LP m=some y
 |[],ks,h,_=>by
  cases ks with
  |nil=>exact⟨rfl,λm e=>by cases e⟩
  |cons _ _=>cases h
 |m::en,ks,h,c=>by
  cases ks with
  |nil=>cases h
  |cons q ks=>
   rw[VP,VP]at h;injection h with h1 d;obtain⟨g,i⟩:=LQ hk d (λq f=>c q (VG _ f));have b:WideElems.rd P k LP m=some (.int .i64 q,.lit (.int .i64 0)):=by
    unfold WideElems.rd;rw[h1,keyOf_int_mk hk (c q VN)];simp[LP]
   refine⟨?_,λj a=>?_⟩;rw[VP,g,WideElems.rg_of b];rfl;rcases VU.1 a with rfl|a;exact⟨_,b⟩;exact i j a
theorem LS{β:Type}{f:β->PV}(hk:P.underlying k=some (.int .i64)){w:ab}{c:Nat}{en:Array MapEntry}{ck:Nat}{G:Gh}{a:List (Int×β)}(e:w.heap[c]?=some (.map en ck))(g:cu G (aL f a) en.toList)(b:MapKept.Stamped en ck)
 (i:∀q∈a,xD q.1) (m:a.length<=maxLen):w.ownsMap P k LP c a.length (Om (k0 (a.map (·.1)))):=by
 have d:=x9 g;have hn:en.size=a.length:=by
  have:=Xp List.length d;simpa using this
 obtain ⟨j, l⟩ := LQ hk d (λ x hx => by
  rw[VB]at hx;obtain⟨q,h,rfl⟩:=hx;exact i q h)
 exact⟨en,ck,e,⟨by omega,b,l⟩,by omega,by unfold Om;rw[j]⟩
end
theorem O1(ks:af):(k0 ks).map (·.1)=ks:=by
 unfold k0;rw[Wo];exact aax ks
theorem QR:cF prog (Tryz.sortedA_ren.t 24)=some (1,8):=by kernel_rfl
theorem rJ{β:Type}(f:β->PV)(j:Nat)(a:List (Int×β))(Z:∀q∈a,xD q.1)(J:a.length<=1000000)(A:∀args w,(callFunc j args).run prog w=.ok (.enter j args) w)
 (l:∀{H:Type}(d b nn:Nat)(z:DataW H){R:an->Option (DataW H×List MemPlace)}(w:ab),d<w.heap.size->w.cell? ⟨d,0,none⟩=some (.map (some b))->w.ownsMap prog (Tryz.sortedA_ren.t 26) R b nn z->SeqGives Fence.wide 2 prog j #[.pointer (some ⟨d,0,none⟩)] encZ (λss=>ss.Perm (intKeys z)) (Maps.size z) w):
 Ew prog 141 j (.amap false (aL f a)) (.own true 1 ((bM (a.map (·.1))).map λx=>[ak x])):=by
 refine⟨by kernel_rfl,λw d arr T v0 h1 L M=>?_⟩;have i:w.cell? ⟨d,0,none⟩=some v0:=by
  have:arr[0]?=some v0:=by rw[←Vw,L];rfl
  simp[World.cell?,h1,this]
 have D:=(VD.1 h1).1;have y:∀(S:af->Prop)(N:Nat),N<=1000000->(∀ss,S ss->ss.length<=N)->(∀ss,S ss->bM ss=bM (a.map (·.1)))->SeqGives Fence.wide 2 prog j #[.pointer (some ⟨d,0,none⟩)] encZ S N w->
  Calls prog 141 #[.func (.func j) #[] #[.pointer (some ⟨d,0,none⟩)]] w λe w'=>∃v g' o,e=.returned v∧PureEnd w w' g'∧aO g' w' (.own true 1 ((bM (a.map (·.1))).map λx=>[ak x])) v o∧(SV.own true 1 ((bM (a.map (·.1))).map λx=>[ak x])).inCell=true∧∀c,o=some c->w.heap.size<=c∧g'.I c=none:=by
  intro S N hN E F s;have K:=zx Tryz.sortedA QR Fence.wide 5 trivial trivial trivial trivial rfl (by omega) (Tryz.sortsA _) (enters_of func171 (by kernel_rfl) rfl) j #[.pointer (some ⟨d,0,none⟩)] trivial A S N (by unfold maxLen;omega) (by omega) w (i9.of s) E;refine((callsIn_wide (n:=5)).1 K).mono λe w' ⟨v,ss,X,V,g,m,Y,W⟩=>?_;have G:=F ss V;have J:ss.length=(bM (a.map (·.1))).length:=by rw[←G];unfold bM;rw[WD]
  unfold bM at G;rw[G]at g;obtain⟨g',o,B,C,Q,U⟩:=vM J g m W;exact⟨v,g',o,X,B,C,Q,U⟩
 obtain⟨c,en,ck,rfl,O,_,B,C⟩:=M;have p:=LS (P:=prog) (k:=Tryz.sortedA_ren.t 26) (by kernel_rfl) O B C Z (by unfold maxLen;omega);have u:Maps.size (Om (k0 (a.map (·.1))))=a.length:=by rw[KH];unfold k0;rw[VA,VA]
 have r:∀ss:af,ss.Perm (intKeys (Om (k0 (a.map (·.1)))))->ss.Perm (a.map (·.1)):=λss h=>by
  have:=h.trans (KG _)
  rwa [O1]at this
 refine y _ _ (by rw[u];omega) (λss h=>?_) (λss h=>?_) (l d c a.length (Om (k0 (a.map (·.1)))) w D i p);rw[(r ss h).length_eq,VA,u];exact Vu _;exact mergeSort_of_perm_i (r ss h)
theorem Ex{β:Type}(f:β->PV)(a:List (Int×β))(i:∀q∈a,xD q.1)(h:a.length<=1000000):
 Ew prog 141 312 (.amap false (aL f a)) (.own true 1 ((bM (a.map (·.1))).map λx=>[ak x])):=
 rJ f _ a i h (enters_of func312 (by kernel_rfl) rfl)
  (λ{_} c b j d {_} w h1 e g=>AnyZI.keys_gives (ρ:=Tryz.keysB_ren) {Tryz.keysB with} Fence.wide 2 trivial rfl (by omega) c b j d w h1 e g)
theorem qz{β:Type}(f:β->PV)(a:List (Int×β))(i:∀q∈a,xD q.1)(h:a.length<=1000000):
 Ew prog 141 229 (.amap false (aL f a)) (.own true 1 ((bM (a.map (·.1))).map λx=>[ak x])):=
 rJ f _ a i h (enters_of func229 (by kernel_rfl) rfl)
  (λ{_} c b j d {_} w h1 e g=>AnyZI.keys_gives (ρ:=Tryz.keysA_ren) {Tryz.keysA with} Fence.wide 2 trivial rfl (by omega) c b j d w h1 e g)
theorem LT(h:ao)(es:dw):aI prog 270 [.amap false es] h (λr h'=>h'=h++[[.pv (.amap false es)]]∧r=.pv (.fn (.func 312) [] [.ptr h.length 0])):=by
 refine aI.below (by kernel_rfl) λa=>?_;refine dh [] [.tmp 2] aP func270 ?_;simp
theorem LU(h:ao)(l:af):aI prog 142 [.seq false 1 (am l)] h (λr h'=>h'=h++[[.pv (.seq false 1 (am l))]]∧r=.pv (.fn (.func 218) [] [.ptr h.length 0])):=by
 refine aI.below (by kernel_rfl) λa=>?_;refine dh [] [.tmp 2] aP func142 ?_;simp
theorem Ey(l:af)(Y:l.length<=1000000):Ew prog 141 218 (.seq false 1 (am l)) (.own true 1 (am (bM l))):=by
 refine⟨by kernel_rfl,λw q arr T v0 h1 L M=>?_⟩;have m:w.cell? ⟨q,0,none⟩=some v0:=by
  have:arr[0]?=some v0:=by rw[←Vw,L];rfl
  simp[World.cell?,h1,this]
 have y:=(VD.1 h1).1;have t:i9 Fence.wide 2 prog 218 #[.pointer (some ⟨q,0,none⟩)] (λss=>ss=l) l.length w:=by
  intro n J W F _ V h0;have k:=(F.cell (p:=⟨q,0,none⟩) y).trans m;obtain⟨p,cap,rfl,G,f⟩:=M;by_cases i:l=[];subst i;exact(Ik Fence.wide 2 trivial rfl n q cap p J W k h0).mono λe D ⟨i,hj⟩=>⟨i,_,rfl,hj⟩;rcases f with f|⟨c,off,g,H,fz,vs,rfl,E,_,S,s⟩;unfold am at f;rw[Zj]at f;exact absurd f i;have C:=xE S;have u:c<w.heap.size:=(VD.1 E).1;have A:(am l).length=l.length:=by simp
  rw[A]at k;refine(KK Fence.wide 2 trivial rfl (by omega) n q w.heap.size c off cap l (by omega) u J (λpre x I a b=>(V pre x I a b).mono λe D ⟨a,b,_,d⟩=>⟨a,b,d⟩) W k (λj hj=>?_) h0).mono λe D ⟨i,hj⟩=>⟨i,_,rfl,hj⟩;rw[F.cell (p:=⟨c,off+j,none⟩) u];have z:w.heap[c]?=some (.cells g H fz):=E;obtain⟨tl,B⟩:=s;have:g[off+j]?=some (.int .i64 (l[j]?.getD 0)):=by
   rw[←Vw];have R:(g.toList.drop off)[j]?=g.toList[off+j]?:=Wk;rw[←R,←B,C,Vv (by rw[VA];exact hj),VO,Vq hj];rfl
  simp[World.cell?,z,this]
 have K:=zx Tryz.sortedA QR Fence.wide 5 trivial trivial trivial trivial rfl (by omega) (Tryz.sortsA _) (enters_of func171 (by kernel_rfl) rfl) 218 #[.pointer (some ⟨q,0,none⟩)] trivial (enters_of func218 (by kernel_rfl) rfl) (λss=>ss=l) l.length (by unfold maxLen;omega) (by omega) w t (λss h=>by rw[h];exact Vu _);refine((callsIn_wide (n:=5)).1 K).mono λe w' ⟨v,ss,i,U,f,r,X,u⟩=>?_;subst U;obtain⟨g',o,N,O,P,Q⟩:=vM (by rw[WD]) f r u;exact⟨v,g',o,i,N,O,P,Q⟩
end
open Go.Proofs Go.Proofs.Tryz
theorem IX(n:Int):aw prog 272 [ak n] (λr=>r=.pv (BL false)):=by
 refine aB aP func272 ?_;simp
theorem LV(a b:Int):aw prog 271 [ak a,ak b] (λr=>r=.pv (BL (decide (a<b)))):=by
 refine aB aP func271 ?_;simp;refine ap.intro (uV a) ?_;simp;refine bz.intro (r:=.pv (BL false)) (λh:False=>h.elim) ?_;simp
def RR(l:af)(x:Int):Nat:=l.countP λy=>decide (y<x)
theorem QS{l:af}{x:Int}{i:Nat}(hi:i<=l.length)(h1:∀k (_:k<l.length),k<i->l[k]<x)(c:∀k (_:k<l.length),i<=k->x<=l[k]):RR l x=i:=by
 unfold RR;rw[←Wz i l,List.countP_append];have a:(l.take i).countP (λy=>decide (y<x))=(l.take i).length:=aae.2 λy hy=>by
  obtain⟨k,hk,rfl⟩:=VE hy;rw[Vy]at hk;rw[WE];exact WP (h1 k (by omega) (by omega))
 have b:(l.drop i).countP (λy=>decide (y<x))=0:=ZO.2 λy hy=>by
  obtain⟨k,hk,rfl⟩:=VE hy;rw[Wf]at hk;rw[List.getElem_drop];have:=c (i+k) (by omega) (by omega);simp;omega
 rw[a,b,Vy];omega
def NY(l:af)(x:Int):Bool:=decide (l[RR l x]?=some x)
theorem QT(i j:Nat)(h:i+j<=4000000):bG ((IntKind.u64.wrap ((i:Int)+j)).fdiv (2^min 1 IntKind.u64.bits))=(((i+j)/2:Nat):Int):=by
 have a:IntKind.u64.wrap ((i:Int)+j)=((i+j:Nat):Int):=by
  rw[show((i:Int)+j)=((i+j:Nat):Int) by omega];have c:IntKind.u64.bits=64:=rfl;have hs:IntKind.u64.signed=false:=rfl;unfold IntKind.wrap;simp[c,hs];omega
 have b:(2:Int)^min 1 IntKind.u64.bits=2:=by decide
 rw[a,b,Int.fdiv_eq_ediv_of_nonneg _ (by decide)];have:(((i+j:Nat):Int)/2)=(((i+j)/2:Nat):Int):=by omega
 rw[this];exact aC (by omega) (by omega)
theorem Ez(l:af)(x:Int)(y:l.length<=1000000)(hs:l.Pairwise (·<=·)):aw prog 225 [.seq false 1 (am l),ak x] (λr=>r=.pv (.tup [ak (RR l x),BL (NY l x)])):=by
 refine sx [4,5] aP func225 (λ_ _=>results_tmp2 rfl _ _ _) ?_;have u:∀j k (hj:j<l.length)(hk:k<l.length),j<=k->l[j]<=l[k]:=λj k hj hk h=>by
  rcases Nat.lt_or_eq_of_le h with h|h;exact V5.1 hs j k hj hk h;subst h;exact XF _
 simp;refine aM.intro (S:=λ(p:Nat×Nat)=>⟨[(0,.pv (.seq false 1 (am l))),(1,.pv (ak x)),(6,.pv (ak l.length)),(7,.pv (ak p.1)),(8,.pv (ak p.2))],[]⟩) (λp=>p.1<=p.2∧p.2<=l.length∧(∀k (_:k<l.length),k<p.1->l[k]<x)∧∀k (_:k<l.length),p.2<=k->x<=l[k]) (λp=>p.2 -p.1) (0,l.length) ?_ ⟨VH _,Vu _,(λk _ h=>by omega),(λk h1 o=>by omega)⟩ ?_;exact av.keep (by simp) rfl;rintro⟨i,j⟩ ⟨s,hj,h1,o⟩;dsimp only at s hj h1 o;by_cases c:i<j;have t:bG ((i:Int)+j)=(i:Int)+j:=aC (by omega) (by omega);have n:=QT i j (by omega);generalize v:(i+j)/2=m at*;have g:m<l.length:=by omega
 have w:=dU m;simp[c,t,n,g];refine ap.intro (LV l[m] x) ?_;by_cases d:l[m]<x;simp[d];exact⟨(m+1,j),by dsimp only;omega,⟨by dsimp only;omega,hj,(λk hk f=>by have:=u k m hk g (by(try dsimp only at f);omega);omega),o⟩,av.keep (by simp[w]) (by simp)⟩;simp[d];exact⟨(i,m),by dsimp only;omega,⟨by dsimp only;omega,by(try dsimp only);omega,h1,(λk hk f=>by have:=u m k g hk (by(try dsimp only at f);omega);omega)⟩,av.keep (by simp) (by simp)⟩;have q:i=j:=by omega
 subst q;have a:=QS hj h1 o;simp;by_cases d:i<l.length;by_cases e:l[i]=x;have b:NY l x=true:=by unfold NY;rw[a,Vq d,e];simp
 simp[d,e,a,b];refine bz.intro (r:=.pv (BL false)) (λh:False=>h.elim) ?_;simp;refine bz.intro (r:=.pv (BL false)) (λh:False=>h.elim) ?_;simp[a,b];have b:NY l x=false:=by unfold NY;rw[a,Vq d];simpa using e
 simp[d,e,a,b];refine bz.intro (λ_=>IX _) ?_;simp;refine bz.intro (r:=.pv (BL false)) (λh:False=>h.elim) ?_;simp[a,b];have b:NY l x=false:=by unfold NY;rw[a,V4 (by omega)];rfl
 simp[d,a,b];refine bz.intro (r:=.pv (BL false)) (λh:False=>h.elim) ?_;simp;refine bz.intro (r:=.pv (BL false)) (λh:False=>h.elim) ?_;simp[a,b]
section
theorem IY(c:Ck):aw prog 78 [x7 c] (λr=>r=.pv (BL true)):=by
 refine aB aP func78 ?_;simp
def jg(c:Ck):af:=bM (c.m.map (·.1))
theorem O2(c:Ck)(e:∀q∈c.m,xD q.1)(a:c.m.length<=1000000):aw prog 223 [x7 c] (λr=>r=.own true 1 (am (jg c))):=by
 refine aB aP func223 ?_;have d:=IY c;have hk:=λh=>LT h (aL fD c.m);have hs:=Ex fD c.m e a;simp[bE];refine ap.intro d ?_;simp;refine ap.introM (hk _) ?_;rintro _ _ ⟨rfl,rfl⟩;simp;refine ap.introX (cd.ptr1 (b:=0) (y0:=.amap false (aL fD c.m)) hs (by simp) (by simp) rfl (by simp) (by simp) (by simp) (by simp) (by simp) ?_);simp[jg,am]
def dl{α:Type}:List (Int×α)->Int->List (Int×α)
 |[],_=>[]
 |(k,x)::r,n=>if k=n then r else(k,x)::dl r n
@[simp] theorem QU:∀(l:dV)(k:Int),jy k (aL fC l)=aL fC (dl l k)
 |[],k=>rfl
 |(j,x)::l,k=>by
  show(if j=k then aL fC l else(j,fC x)::jy k (aL fC l))=aL fC (if j=k then l else(j,x)::dl l k);rw[QU l k];split<;>rfl
def dropB(c:Ck)(ids:af):Bool:=decide ((cY (bM ids)).length<ids.length)||!gF c ids
def ki(c:Ck)(ids:af)(i:Nat):Ck:=⟨(ids.take i).foldl dl c.m,c.last,c.done⟩
def oq(c:Ck)(ids:af):Ck:=if dropB c ids=true then c else ki c ids ids.length
def rK(c:Ck)(ids:af):Int:=if dropB c ids=true then 20 else 0
theorem LW(h:ao)(b:Nat)(c:Ck)(K:h[b]?=some (iV c))(ids:af)(L:ids.length<=1000000):
 aI prog 80 [.ptr b 0,.seq false 1 (am ids)] h (λr h'=>h'=h.set b (iV (oq c ids))∧r=.pv (ak (rK c ids))):=by
 refine ea [] [.tmp 4] (h.set b (iV (oq c ids))) (by simp) (λR=>by rw[VQ];exact b9 (gE _ _) b R) aP func80 ?_;obtain⟨f,C⟩:=Vp.1 K;have T:=λh=>LU h ids;have hs:=Ey ids L;have j:(bM ids).length=ids.length:=by unfold bM;rw[WD]
 have O:=qk (bM ids) (by omega);have P:=BZ c ids L;have hcl:=iK (bM ids) (bM ids).length;simp;refine ap.introM (T _) ?_;rintro _ _ ⟨rfl,rfl⟩;simp;refine ap.introX (cd.ptr1 (b:=h.length) (y0:=.seq false 1 (am ids)) hs (by simp) (by simp) rfl (by simp) (by simp) (by simp) (by simp) (by simp) ?_);simp;refine ap.introX (cd.introS (o:=.slot 10) (lo:=0) (hi:=ids.length) O (by simp) rfl rfl (by simp[j]) (by simp) rfl (by simp;rw[VT (by simp[am,j])];rfl) (ge 0 _) (by simp) (by simp) ?_);rintro _ _ ⟨rfl,rfl⟩ k _;have p:dropB c ids=(decide ((cY (bM ids)).length<ids.length)||!gF c ids):=rfl;have v:(cY (bM ids)).length<=ids.length:=by rw[←j];exact hcl
 have a:oq c ids=if dropB c ids=true then c else ki c ids ids.length:=rfl;have d:rK c ids=if dropB c ids=true then 20 else 0:=rfl;generalize oq c ids=V at*;generalize rK c ids=W at*;generalize Q:aU (cY (bM ids)++List.replicate ((bM ids).length -(cY (bM ids)).length) 0)=Z at k;clear Q;generalize(cY (bM ids)).length=m at*;have e:Z.length=ids.length:=k;have l:min m ids.length=m:=WL v;have D:∀X:ao,(h++X)[b]?=some (iV c):=λX=>by rw[Vv f];exact K
 have N:∀X:ao,b<(h++X).length:=λX=>by rw[Vz];omega
 have g:h.set b (iV c)=h:=by rw[←C];exact Xs f
 by_cases c1:m<ids.length;have u:dropB c ids=true:=by rw[p];simp[c1]
 rw[Vt u]at a d;subst a d;have n:(m:Int)<(ids.length:Int):=by omega
 simp[e,j,l,c1,n];exact g.symm;have n:¬(m:Int)<(ids.length:Int):=by omega
 have F:∀X:ao,bE (h++X) 3 b 0=x7 c:=λX=>LL (D X) 2;simp[e,j,l,c1,n,F];refine ay.introP P ?_;by_cases c2:gF c ids=true;rotate_left;have u:dropB c ids=true:=by rw[p];simp[c2]
 rw[Vt u]at a d;subst a d;simp[c2];exact g.symm;have u:¬dropB c ids=true:=by rw[p];simp[c1,c2]
 rw[Vs u]at a d;subst a d;simp[c2];obtain⟨G,t⟩:∃G:Nat->ao,∀i,G i=h.set b (iV (ki c ids i))++[[.pv (.seq false 1 (am ids))]]:=⟨_,λ_=>rfl⟩;have y:h++[[.pv (.seq false 1 (am ids))]]=G 0:=by
  rw[t];show _=h.set b (iV c)++_;rw[g]
 have A:∀i,b<(G i).length:=λi=>by rw[t];simp;omega
 have z:∀i,(G i)[b]?=some [.omap true (aL fC (ki c ids i).m),.pv (ak c.last),.pv (BL c.done)]:=λi=>by
  rw[t,Vv (by simpa using f),VZ f];rfl
 have B:∀i,i<ids.length->(G i).set b [.omap true (aL fC (dl (ki c ids i).m (ids.getD i 0))),.pv (ak c.last),.pv (BL c.done)]=G (i+1):=λi hi=>by
  have E:(ki c ids (i+1)).m=dl (ki c ids i).m ids[i]:=bf dl c.m ids i hi;have q:ids.getD i 0=ids[i]:=by rw[Vr,Vq hi];rfl
  rw[t,t,XO _ _ (by simpa using f),YD];unfold iV;rw[E,q];rfl
 simp only[y];refine aM.intro (S:=λ(i:Nat)=>⟨[(0,.pv (.ptr b 0)),(1,.pv (.seq false 1 (am ids))),(23,.pv (.seq false 1 (am ids))),(24,.pv (ak ids.length)),(25,.pv (ak i))],G i⟩) (λi=>i<=ids.length) (λi=>ids.length -i) 0 ?_ (VH _) ?_;exact av.keep (by simp) rfl;intro i hi;have I:=A i;have H:=z i;by_cases s:i<ids.length;have U:=dU i;have x:=B i s;generalize(ki c ids i).m=M at*;have q:ids.getD i 0=ids[i]:=by rw[Vr,Vq s];rfl
 rw[q]at x;obtain⟨_,w⟩:=Vp.1 H;simp[s,w,I];exact⟨i+1,by(try dsimp only);omega,by(try dsimp only);omega,av.keep (by simp[U]) (by rw[x])⟩;have J:i=ids.length:=by omega
 subst J;simp;rw[t,Wd (by simp),VT (by simp)]
end
def fR(l:au):PV:=.seq true 1 (l.map aF)
@[simp] theorem U9(l:List (Int×au))(k:Int)(y:au):iz (aL fR l) k (.seq true 1 (y.map aF))=aL fR (pt l k y):=iG fR l k y
theorem ya(n:Nat):∀l:List (Int×au),fB n (aL fR l)
 |[]=>trivial
 |x::l=>⟨ga n _,ya n l⟩
def nr(c:Ck)(a:List (Int×au))(g:af):List (Int×au):=
 if NY (jg c) (bG (-(g.headD 0)))=true then pt a (RR (jg c) (bG (-(g.headD 0)))) (ct c g.tail)else a
def LY:Sch:=
 let E:Sch:=.fork [(6,.done)]
 .take 1 (.take 2 (.take 3 (.fork [(0,.fork [(4,.fork [(5,E)])]),(4,.fork [(0,.fork [(5,E)]),(5,.fork [(0,E)])])])))
theorem O3(h:ao)(c:Ck)(a:List (Int×au))(t u be:Nat)(x:Int)(l:af)(z:l.length<=1000000)
 (hi:h[t]?=some [.pv (.seq true 1 (am (jg c)))]) (ho:h[u]?=some [.pv (.fn (.func 221) [x7 c] [])]) (w:h[be]?=some [.omap true (aL fR a)]) (g:(jg c).length<=1000000) (j:(jg c).Pairwise (·<=·)):
 aI Tryz.prog 224 [.seq false 1 (am (x::l)),.ptr t 0,.ptr u 0,.ptr be 0] h (λr h'=>h'=h.set be [.omap true (aL fR (nr c a (x::l)))]∧r=.pv (.tup [])):=by
 refine ea [2] [] (h.set be [.omap true (aL fR (nr c a (x::l)))]) (by simp) (λy=>by rw[VQ];exact b9 (x:=[.omap true (aL fR (nr c a (x::l)))]) ⟨ya _ _,trivial⟩ be y) aP Tryz.func224 ?_;obtain⟨o,n⟩:=Vp.1 hi;obtain⟨e,f⟩:=Vp.1 ho;obtain⟨hle,b⟩:=Vp.1 w;have v:=Ez (jg c) (bG (-x)) g j;simp[n,f,b,o,e,hle];refine bW.intro v ?_;have m:nr c a (x::l)=if NY (jg c) (bG (-x))=true then pt a (RR (jg c) (bG (-x))) (ct c l)else a:=rfl;generalize nr c a (x::l)=F at*;have i:h.set be [.omap true (aL fR a)]=h:=by rw[←b];exact Xs hle
 cases d:NY (jg c) (bG (-x));rw[Vs (by simp[d])]at m;subst m;simp[d,i]
 .rw[Vt d]at m;subst m;have s:=(vK [] c l (by omega)).mono (R':=λr _=>r=.pv (.seq true 1 ((ct c l).map aF))) λ_ _ h=>h.2;have k:(List.take (l.length+1) (am (x::l))).tail=am l:=by
   simp[am];exact VT (by simp)
  simp[d,f,b,e,hle];refine bP.one LY (by kernel_rfl) ?_;simp[LY,d,f,b,e,hle,k];refine⟨by omega,?_,?_,?_⟩
  all_goals
   refine ap.introX (cd.pureM (p:=[]) (q:=[]) (zs:=[.seq false 1 (am l),.fn (.func 221) [x7 c] []]) s (by simp) rfl (by simp[nY]) (by simp) (by simp) ?_);simp[d,f,b,e,hle,k];exact VT (by simp)
section
theorem EA(l c:af)(p:Int)(hs:au)(b:l.length+c.length+hs.length<=1000000)(a:∀h∈hs,h.length<=1000000):aw prog 274 [.seq false 1 (am l),.seq false 1 (am c),ak p,.seq false 1 (hs.map aF)] (λr=>r=.pv (ak (Eu l c p hs))):=
 aI.pure ((IW [] l c p hs b a).mono λ_ _ h=>⟨_,h.2,rfl⟩)
theorem yc(c:af)(hs:au)(b:c.length+hs.length<=1000000)(a:∀h∈hs,h.length<=1000000):aw prog 153 [.seq false 1 (am c),.seq false 1 (hs.map aF)] (λr=>r=.pv (.tup [ak (pu c hs).1,ak (pu c hs).2])):=
 aI.pure ((LB [] c hs b a).mono λ_ _ h=>⟨_,h.2,rfl⟩)
def fS(l:au):PV:=.seq false 1 (l.map aF)
@[simp] theorem UM(l:List (Int×au))(k:Int):dJ (aL fS l) k=(lk l k).map fS:=fH fS l k
@[simp] theorem O4(r:Nat->Nat->PV):∀l:List (Int×au),nL r (aL fR l)=aL fS l
 |[]=>rfl
 |x::l=>by
  have:=O4 r l;show(x.1,jD r (fR x.2))::nL r (aL fR l)=(x.1,fS x.2)::aL fS l;rw[this];simp[fR,fS]
@[simp] theorem O5(r:Nat->Nat->PV):∀l:List (Int×au),nL r (aL fS l)=aL fS l
 |[]=>rfl
 |x::l=>by
  have:=O5 r l;show(x.1,jD r (fS x.2))::nL r (aL fS l)=(x.1,fS x.2)::aL fS l;rw[this];simp[fS]
def IZ(cs:au)(c l:af)(a:List (Int×au))(i:Int):Bool:=
 match lk a i with
 |none=>false
 |some h=>decide (Eu l (cs.getD i.toNat []) (c.headD 0) h=0)
theorem LZ(cs:au)(c l:af)(a:List (Int×au))(i:Nat)(hi:i<cs.length)(n:c≠[])(k:∀j h,lk a j=some h->l.length+(cs[i]).length+h.length<=1000000∧∀x∈h,x.length<=1000000):
 aw prog 273 [ak i,.iptr 1 [[.amap false (aL fS a)]] 0 0,.iptr 1 [[.seq false 1 (am l)]] 0 0,.iptr 1 [[.seq false 1 (cs.map aF)]] 0 0,.iptr 1 [[.seq false 1 (am c)]] 0 0] (λr=>r=.pv (BL (IZ cs c l a i))):=by
 refine aB aP func273 ?_;have b:IZ cs c l a i=match lk a i with
  |none=>false
  |some h=>decide (Eu l (cs.getD i []) (c.headD 0) h=0):=rfl
 have o:cs.getD i []=cs[i]:=by rw[Vr,Vq hi];rfl
 rw[o]at b;have d:=om cs hi;generalize cs[i]=f at*;obtain⟨x,c,rfl⟩:∃x c',c=x::c':=by
  cases c with
  |nil=>exact absurd rfl n
  |cons x c=>exact⟨x,c,rfl⟩
 cases e:lk a i with
 |none=>
  rw[e]at b;simp only at b;simp[e,hi,d,b];refine eh.intro (r:=.pv (ak 0)) (λh:False=>h.elim) ?_;simp
 |some h=>
  rw[e]at b;simp only[List.headD_cons]at b;have m:=EA l f x h (k _ _ e).1 (k _ _ e).2;simp[e,hi,d,fS];refine eh.intro (λ_=>m) ?_;by_cases g:Eu l f x h=0;simp[b,g];simp[b,g]
theorem B1:∀(hs:au)(l:af)(n:Nat),(gg l hs n).1.length<=l.length+hs.length
 |[],l,n=>by simp[gg]
 |h::hs,l,n=>by
  rw[gg];split;simp;split;have:=B1 hs (l++[(dz l h).1]) (n+1);simp at this⊢;omega;simp
theorem vN(cs:au)(p:Int):∀n x,x∈mY cs p n->∃k:Nat,k<n∧x=(k:Int)
 |0,x,h=>by cases h
 |n+1,x,h=>by
  rw[mY]at h;split at h;rcases VF.1 h with h|h;obtain⟨k,h1,a⟩:=vN cs p n x h;exact⟨k,by omega,a⟩;rw[VY]at h;exact⟨n,by omega,h⟩;obtain⟨k,h1,a⟩:=vN cs p n x h;exact⟨k,by omega,a⟩
def yd(f:Int->Bool):af->Nat->Int×Int
 |[],n=>(n,0)
 |i::l,n=>if f i=false then(i,24)else yd f l n
def B2(cs:au)(c:af)(ahead:au)(a:List (Int×au)):Int×Int:=
 if mW c≠0 then(-1,mW c)else if c=[]then(-1,11)else if(gg (iw c) ahead 0).2.2≠23 then(-1,(gg (iw c) ahead 0).2.2)
 else yd (IZ cs c (gg (iw c) ahead 0).1 a) (mY cs (c.headD 0) cs.length) (mY cs (c.headD 0) cs.length).length
theorem EB(cs:au)(c:af)(ahead:au)(a:List (Int×au))(hn:cs.length<=100000)(l:∀x∈cs,x.length<=100000)(I:c.length<=100000)(H:ahead.length<=100000)(q:∀x∈ahead,x.length<=100000)
 (B:∀j h,lk a j=some h->h.length<=100000∧∀x∈h,x.length<=100000):
 aw prog 226 [.seq false 1 (cs.map aF),.seq false 1 (am c),.seq false 1 (ahead.map aF),.amap false (aL fS a)] (λr=>r=.pv (.tup [ak (B2 cs c ahead a).1,ak (B2 cs c ahead a).2])):=by
 refine sx [8,9] aP func226 (λ_ _=>results_tmp2 rfl _ _ _) ?_;have p:=λg=>xX g c (by omega);have hle:=rH c c.length;have f:=λg=>sM g (iw c) ahead (by unfold iw;omega) (λx hx=>by have:=q x hx;omega);have m:=B1 ahead (iw c) 0;have u:Lv c=if mW c=0 then iw c else[]:=rfl;have d:B2 cs c ahead a=if mW c≠0 then(-1,mW c)else if c=[]then(-1,11)else if(gg (iw c) ahead 0).2.2≠23 then(-1,(gg (iw c) ahead 0).2.2)
  else yd (IZ cs c (gg (iw c) ahead 0).1 a) (mY cs (c.headD 0) cs.length) (mY cs (c.headD 0) cs.length).length:=rfl
 generalize B2 cs c ahead a=S at*;have D:(iw c).length<=c.length:=hle;generalize gg (iw c) ahead 0=F at*;obtain⟨L,fn,z⟩:=F;simp only at m d f;simp;refine ap.introM (p _) ?_;rintro _ _ ⟨rfl,rfl⟩;by_cases c1:mW c=0;rotate_left;rw[Vt c1]at d;subst d;simp[c1];rw[Vs (by simp[c1])]at d;rw[Vt c1]at u;rw[u];by_cases c2:c=[];rw[Vt c2]at d;subst d;subst c2;simp[c1];rw[Vs c2]at d;have w:c.length≠0:=λe=>c2 (WA.1 e);simp[c1,c2];refine ap.introM (f _) ?_;rintro _ _ ⟨rfl,rfl⟩;by_cases c3:z=23;rotate_left;rw[Vt c3]at d;subst d;simp[c3];rw[Vs (by simp[c3])]at d;obtain⟨x,c',rfl⟩:∃x c',c=x::c':=by
  cases c with
  |nil=>exact absurd rfl c2
  |cons x c=>exact⟨x,c,rfl⟩
 have o := LO cs x (by omega) (λ y hy => by have := l y hy; omega); have hcl := vL cs x cs.length; have s := vN cs x cs.length; simp only [List.headD_cons] at d; generalize A : mY cs x cs.length = X at *; clear A; simp [c3]; refine bW.intro (r := .own true 1 (am X)) o ?_; simp; refine aM.intro (S := λ (i : Nat) => ⟨[(11, .pv (.fn (.func 273) [] [.ptr 2 0, .ptr 3 0, .ptr 0 0, .ptr 1 0])), (12, .pv (.seq true 1 (am X))), (44, .pv (.seq true 1 (am X))), (45, .pv (ak X.length)), (46, .pv (ak i))], [[.pv (.seq false 1 (cs.map aF))], [.pv (.seq false 1 (am (x :: c')))], [.pv (.amap false (aL fS a))], [.pv (.seq true 1 (am L))]]⟩) (λ i => i <= X.length ∧ S = yd (IZ cs (x :: c') L a) (X.drop i) X.length) (λ i => X.length - i) 0 ?_ ⟨VH _, d⟩ ?_; exact av.keep (by simp) (by simp); rintro i ⟨hi, b⟩; by_cases h : i < X.length; have E := dU i; obtain ⟨k, hk, n⟩ := s _ (Vx h); rw [V3 h, yd, n] at b; have h1 := LZ cs (x :: c') L a k hk (by simp) (λ j C hj => by
  have:=B j C hj;have G:=l _ (Vx hk);exact⟨by omega,λy hy=>by have:=this.2 y hy;omega⟩)
 simp[h,n,bE];refine ay.introP h1 ?_;cases v:IZ cs (x::c') L a k;rw[Vt v]at b;subst b;simp;rw[Vs (by simp[v])]at b;simp;exact⟨i+1,by(try dsimp only);omega,⟨by(try dsimp only);omega,b⟩,av.keep (by simp[E]) (by simp)⟩;have t:i=X.length:=by omega
 subst t;rw[VS (Vu _),yd]at b;subst b;simp
end
theorem kj(l:af):(bM l).Pairwise (·<=·):=by
 have:=YS (le:=λx y:Int=>decide (x<=y)) (λa b c h1 d=>by simp at*;omega) (λa b=>by simp;omega) l;exact this.imp (λh=>by simpa using h)
def vO(c:Ck)(a:au):List (Int×au):=a.foldl (nr c) []
def sO(c:Ck)(lits hints:af):Int:=
 if(pu lits (ct c (rI hints).1)).2≠23∨lits=[]then(pu lits (ct c (rI hints).1)).2
 else if(B2 (ct c (jg c)) lits (ct c (rI hints).1) (vO c (rI hints).2)).2≠0 then 24 else 0
structure CkOk (c:Ck):Prop where
  n:c.m.length<=100000
  w:∀q∈c.m,xD q.1
  l:∀q∈c.m,q.2.length<=100000
theorem vP{α:Type}:∀{l:List (Int×α)}{k:Int}{x:α},lk l k=some x->(k,x)∈l
 |(j,y)::l,k,x,h=>by
  rw[lk]at h;split at h;rename_i e;subst e;injection h with h;subst h;exact VN;exact VG _ (vP h)
theorem rL{c:Ck}(h:CkOk c)(ids:af):(ct c ids).length=ids.length∧∀x∈ct c ids,x.length<=100000:=by
 refine⟨by unfold ct;simp,λx hx=>?_⟩;unfold ct at hx;rw[VB]at hx;obtain⟨id,_,rfl⟩:=hx;cases e:lk c.m id with
 |none=>simp
 |some y=>exact h.l _ (vP e)
theorem Ma{c:Ck}(h:CkOk c){b:List (Int×au)}{g:af}(e:g.length<=100000)(d:∀j r,lk b j=some r->r.length<=100000∧∀x∈r,x.length<=100000):
 ∀j r,lk (nr c b g) j=some r->r.length<=100000∧∀x∈r,x.length<=100000:=by
 intro j r a;unfold nr at a;split at a;rw[cm]at a;split at a;injection a with a;subst a;have:=rL h g.tail;exact⟨by rw[this.1,List.length_tail];omega,this.2⟩;exact d j r a;exact d j r a
theorem B3{c:Ck}(h:CkOk c):∀(b:au)(a:List (Int×au)),(∀g∈b,g.length<=100000)->(∀j r,lk a j=some r->r.length<=100000∧∀x∈r,x.length<=100000)->
 ∀j r,lk (b.foldl (nr c) a) j=some r->r.length<=100000∧∀x∈r,x.length<=100000
 |[],a,_,d=>d
 |g::b,a,e,d=>B3 h b _ (λx hx=>e x (VG _ hx)) (Ma h (e g VN) d)
theorem O6{x:af×au}{h:Int}(hx:∀g∈x.2,g≠[]):∀g∈(nC x h).2,g≠[]:=by
 intro g a;unfold nC at a;split at a;rcases VF.1 a with a|a;exact hx g a;rw[VY]at a;subst a;simp;split at a;exact hx g a;rcases VF.1 a with a|a;exact hx g (aaj _ a);rw[VY]at a;subst a;simp
theorem B4(hs:af):∀i,i<=hs.length->∀g∈(c9 hs i).2,g≠[]
 |0,_=>λg a=>by simp[c9]at a
 |i+1,h=>by
  rw[qx hs (by omega)];exact O6 (B4 hs i (by omega))
theorem av.frzC{k0:Nat}{st:St}{b k e:Nat}{nw:Bool}{rows:aT}(h:aj st (.cell b k)=.own nw e rows):av k0 st (setPos st (.cell b k) (.pv (.seq nw e rows))):=λg a w _ hs=>by
 obtain⟨g',t,_,_,_,s,_⟩:=hs.freeze (p:=.cell b k) (by rw[h];rfl);rw[h]at s;exact⟨g',t,s⟩
def Mb:Sch:=
 let E:Sch:=.fork [(6,.take 7 (.take 8 (.take 9 (.take 10 (.take 11 .done)))))]
 let T:Sch:=.fork [(2,E)]
 let U:Sch:=.fork [(2,.fork [(5,E)]),(5,T)]
 let A:Sch:=.fork [(1,U),(5,.fork [(1,T)])]
 let B:Sch:=.fork [(0,U),(5,.fork [(0,T)])]
 let C:Sch:=.fork [(0,.fork [(1,T)]),(1,.fork [(0,T)])]
 .take 3 (.take 4 (.fork [(0,A),(1,B),(5,C)]))
theorem Mc(c:Ck)(t:CkOk c)(lits hints:af)(T:lits.length<=100000)(X:hints.length<=100000):
 aw Tryz.prog 144 [x7 c,.seq false 1 (am lits),.seq false 1 (am hints)] (λr=>r=.pv (ak (sO c lits hints))):=by
 refine re [15] aP Tryz.func144 ?_;have u:=λg=>Es g hints (by omega);have f:sO c lits hints=if(pu lits (ct c (rI hints).1)).2≠23∨lits=[]then(pu lits (ct c (rI hints).1)).2
  else if(B2 (ct c (jg c)) lits (ct c (rI hints).1) (vO c (rI hints).2)).2≠0 then 24 else 0:=rfl
 have o:=jR hints hints.length (Vu _);have s:=B4 hints hints.length (Vu _);have z:rI hints=c9 hints hints.length:=rfl;rw[←z]at o s;generalize rI hints=sp at*;obtain⟨ahead,a⟩:=sp;simp only at o s f u;obtain⟨L,m⟩:=o;have v:=rL t ahead;have J:=rL t (jg c);have R:(jg c).length<=100000:=by unfold jg bM;rw[WD,VA];exact t.n
 have P:=(vK [] c ahead (by omega)).mono (R':=λr _=>r=.pv (.seq true 1 ((ct c ahead).map aF))) λ_ _ h=>h.2;have F:=(vK [] c (jg c) (by omega)).mono (R':=λr _=>r=.pv (.seq true 1 ((ct c (jg c)).map aF))) λ_ _ h=>h.2;have D:=yc lits (ct c ahead) (by omega) (λx hx=>by have:=v.2 x hx;omega);generalize sO c lits hints=S at*;simp;refine ap.introM (u _) ?_;rintro _ _ ⟨rfl,rfl⟩;simp;refine⟨rfl,ap.introX (cd.pureM (p:=[]) (q:=[]) (zs:=[.seq true 1 (am ahead),.fn (.func 221) [x7 c] []]) (P.args (by simp[bX,cr,jS])) (by simp) rfl (by simp[nY]) (by simp) (by simp) ?_)⟩;simp;refine ap.intro D ?_;generalize pu lits (ct c ahead)=sh at*;obtain⟨W,K⟩:=sh;simp only at f;by_cases c1:K=23;rotate_left;rw[Vt (.inl c1)]at f;subst f;simp[c1];by_cases c2:lits=[];rw[Vt (.inr c2)]at f;subst f;simp[c1,c2];rw[Vs (λe=>e.elim (λe=>e c1) c2)]at f;have M:=O2 c t.w (by have:=t.n;omega);simp[c1,c2];refine ap.intro M ?_;simp;obtain⟨E,A⟩:∃E:Nat->List (Int×au),∀i,E i=(a.take i).foldl (nr c) []:=⟨_,λ_=>rfl⟩;refine aM.intro (S:=λ(i:Nat)=>⟨[(1,.pv (.seq false 1 (am lits))),(9,.pv (.ptr 0 0)),(10,.pv (.seq true 1 ((ct c ahead).map aF))),(13,.pv (.ptr 1 0)),(14,.pv (.ptr 2 0)),(15,.pv (.fn (.func 224) [] [.ptr 1 0,.ptr 0 0,.ptr 2 0])),(48,.pv (.seq true 1 (a.map aF))),(49,.pv (ak a.length)),(50,.pv (ak i))],[[.pv (.fn (.func 221) [x7 c] [])],[.pv (.seq true 1 (am (jg c)))],[.omap true (aL fR (E i))]]⟩) (λi=>i<=a.length) (λi=>a.length -i) 0 ?_ (VH _) ?_;exact(av.frzC (b:=1) (k:=0) (e:=1) (nw:=true) (rows:=am (jg c)) (by simp)).trans (av.keep (by simp) (by simp[A,aL]));intro i hi;by_cases h:i<a.length;have V:=dU i;have y:=om a h;have C:E (i+1)=nr c (E i) a[i]:=by rw[A,A];exact bf (nr c) [] a i h
 have H:=s _ (Vx h);have G:=m _ (Vx h);generalize a[i]=g at*;obtain⟨x,l,rfl⟩:∃x l,g=x::l:=by
  cases g with
  |nil=>exact absurd rfl H
  |cons x c=>exact⟨x,c,rfl⟩
 simp only[VR]at G;have N:=O3 [[.pv (.fn (.func 221) [x7 c] [])],[.pv (.seq true 1 (am (jg c)))],[.omap true (aL fR (E i))]] c (E i) 1 0 2 x l (by omega) rfl rfl rfl (by omega) (kj _);simp[h,y];refine ay.intro N ?_;rintro _ _ ⟨rfl,rfl⟩;simp;exact⟨i+1,by(try dsimp only);omega,by(try dsimp only);omega,av.keep (by simp[V]) (by simp[C])⟩;have I:i=a.length:=by omega
 subst I;have B:E a.length=vO c a:=by rw[A,VX];rfl
 have O:=EB (ct c (jg c)) lits (ct c ahead) (vO c a) (by omega) J.2 T (by omega) v.2 (B3 t a [] (λg Q=>by have:=m g Q;omega) (λj r U=>by cases U));simp[B];refine bP.meet Mb ⟨[(19,.pv (ak (B2 (ct c (jg c)) lits (ct c ahead) (vO c a)).2))],[[.pv (.fn (.func 221) [x7 c] [])],[.pv (.seq true 1 (am (jg c)))],[.omap true (aL fR (vO c a))]]⟩ (by kernel_rfl) ?_ ?_
 .simp[Mb];and_intros
  all_goals
   refine ap.introX (cd.pureM (p:=[]) (q:=[]) (zs:=[.seq true 1 (am (jg c)),.fn (.func 221) [x7 c] []]) (F.args (by simp[bX,cr,jS])) (by simp) rfl (by simp[nY]) (by simp) (by simp) ?_);simp;refine ap.intro O ?_;simp;exact av.keep (by simp) (by simp)
 by_cases d:(B2 (ct c (jg c)) lits (ct c ahead) (vO c a)).2=0;rw[Vs (by simp[d])]at f;subst f;simp[d];rw[Vt d]at f;subst f;simp[d]
section
def vQ(c:Ck)(s:Stp):Ck×Int:=
 if s.id<=c.last then(c,21)else if gN s.lits=true then(c,11)else if gF c s.hints=false then(c,20)
 else if sO c s.lits s.hints≠0 then(c,sO c s.lits s.hints)else(px c s.id s.lits,0)
theorem O7(h:ao)(b:Nat)(c:Ck)(x:h[b]?=some (iV c))(y:CkOk c)(s:Stp)(z:s.lits.length<=100000)(t:s.hints.length<=100000):
 aI prog 81 [.ptr b 0,.agg (bd s)] h (λr h'=>h'=h.set b (iV (vQ c s).1)∧r=.pv (ak (vQ c s).2)):=by
 refine ea [] [.tmp 4] (h.set b (iV (vQ c s).1)) (by simp) (λt=>by rw[VQ];exact b9 (gE _ _) b t) aP func81 ?_;obtain⟨k,o⟩:=Vp.1 x;have a:h.set b (iV c)=h:=by rw[←o];exact Xs k
 obtain⟨G,n⟩:∃G:ao,G=h++[[.pv (ak s.kind),.pv (ak s.id),.pv (.seq false 1 (am s.lits)),.pv (.seq false 1 (am s.hints))]]:=⟨_,rfl⟩;have g:h.length<G.length:=by rw[n];simp
 have e:b<G.length:=by rw[n];simp;omega
 have i:G[h.length]=[.pv (ak s.kind),.pv (ak s.id),.pv (.seq false 1 (am s.lits)),.pv (.seq false 1 (am s.hints))]:=by simp[n]
 have f:G[b]=iV c:=by simp only[n];rw[V6 k,o]
 have l:G[b]?=some (iV c):=by rw[Vq e,f]
 have j:G.take h.length=h:=by rw[n];simp
 have p:bE G 3 b 0=x7 c:=LL l 2;have w:=zG s.lits (by omega);have q:=BZ c s.hints (by omega);have v:=Mc c y s.lits s.hints z t;have u:=GK G b c l s.id s.lits (by omega);have d:vQ c s=if s.id<=c.last then(c,21)else if gN s.lits=true then(c,11)else if gF c s.hints=false then(c,20)
  else if sO c s.lits s.hints≠0 then(c,sO c s.lits s.hints)else(px c s.id s.lits,0):=rfl
 generalize vQ c s=A at*;simp[bd,o,k,iV];rw[←n];by_cases c1:s.id<=c.last;have m:¬c.last<s.id:=by omega
 rw[Vt c1]at d;subst d;simp[e,f,i,g,iV,c1,m]
 first|exact a.symm|(rw[j];exact a.symm)
 have m:c.last<s.id:=by omega
 rw[Vs c1]at d;simp[e,f,i,g,iV,c1,m];refine ap.intro w ?_;by_cases c2:gN s.lits=true;rw[Vt c2]at d;subst d;simp[c2]
 first|exact a.symm|(rw[j];exact a.symm)
 rw[Vs c2]at d;simp[c2,e,f,i,g,p];refine ay.introP q ?_;cases c3:gF c s.hints;rw[Vt c3]at d;subst d;simp
 first|exact a.symm|(rw[j];exact a.symm)
 rw[Vs (by simp[c3])]at d;simp[e,f,i,g,p];refine ay.introP v ?_;by_cases c4:sO c s.lits s.hints=0;rotate_left;rw[Vt c4]at d;subst d;simp[c4]
 first|exact a.symm|(rw[j];exact a.symm)
 rw[Vs (by simp[c4])]at d;subst d;simp[c4,e,f,i,g,iV];refine ay.intro u ?_;rintro _ _ ⟨rfl,rfl⟩;simp;rw[n,XO _ _ k,Wd (by simp),VT (by simp)];rfl
def cB(c:Ck)(s:Stp):Ck×Int:=
 if vH [s]≠0 then(c,vH [s])else if s.kind=2 then(oq c s.hints,rK c s.hints)else vQ c s
theorem B5(h:ao)(b:Nat)(c:Ck)(w:h[b]?=some (iV c))(z:CkOk c)(s:Stp)(A:s.lits.length<=100000)(t:s.hints.length<=100000):
 aI prog 34 [.ptr b 0,.agg (bd s)] h (λr h'=>h'=h.set b (iV (cB c s).1)∧r=.pv (ak (cB c s).2)):=by
 refine ea [] [.tmp 4] (h.set b (iV (cB c s).1)) (by simp) (λt=>by rw[VQ];exact b9 (gE _ _) b t) aP func34 ?_;obtain⟨k,n⟩:=Vp.1 w;have e:h.set b (iV c)=h:=by rw[←n];exact Xs k
 obtain⟨G,f⟩:∃G:ao,G=h++[[.pv (ak s.kind),.pv (ak s.id),.pv (.seq false 1 (am s.lits)),.pv (.seq false 1 (am s.hints))]]:=⟨_,rfl⟩;have g:h.length<G.length:=by rw[f];simp
 have o:b<G.length:=by rw[f];simp;omega
 have i:G[h.length]=[.pv (ak s.kind),.pv (ak s.id),.pv (.seq false 1 (am s.lits)),.pv (.seq false 1 (am s.hints))]:=by simp[f]
 have p:G[b]=iV c:=by simp only[f];rw[V6 k,n]
 have a:G[b]?=some (iV c):=by rw[Vq o,p]
 have q:G.take h.length=h:=by rw[f];simp
 have v:=vI G b c a;have m:=IR [s] (λx hx=>by rw[VY]at hx;subst hx;omega);have u:=LW G b c a s.hints (by omega);have l:=O7 G b c a z s A t;have j:cB c s=if vH [s]≠0 then(c,vH [s])else if s.kind=2 then(oq c s.hints,rK c s.hints)else vQ c s:=rfl;have d:∀y,List.take h.length (G.set b y)=h.set b y:=λy=>by
  rw[f,XO _ _ k,Wd (by simp),VT (by simp)]
 generalize cB c s=S at*;generalize vH [s]=pe at*;generalize QP [s]=B at*;simp only[VP,Xg,bd]at m l;simp[bd];rw[←f];refine ay.intro v ?_;rintro _ _ ⟨rfl,rfl⟩;simp[g,i];refine ap.intro m ?_;by_cases c1:pe=0;rotate_left;rw[Vt c1]at j;subst j;simp[c1]
 first|exact e.symm|(rw[q];exact e.symm)
 rw[Vs (by simp[c1])]at j;by_cases c2:s.kind=2;rw[Vt c2]at j;subst j;simp[c1,c2,g,i];refine ay.intro u ?_;rintro _ _ ⟨rfl,rfl⟩;simp;exact d _;rw[Vs c2]at j;subst j;simp[c1,c2,g,i];refine ay.intro l ?_;rintro _ _ ⟨rfl,rfl⟩;simp;exact d _
end
section
def qA(c:Ck)(l:af):Ck:=px c (bG (c.last+1)) l
def cI(L:au)(i:Nat):Ck:=(L.take i).foldl qA ⟨[],0,false⟩
def jG(L:au):Ck:=cI L L.length
theorem GL(h:ao)(v:Int)(L:au)(o:∀c∈L,c.length<=1000000):
 aI prog 32 [.agg [ak v,.seq false 1 (L.map aF)]] h (λr h'=>if(d6 v L).2≠0 then∃x,h'=h++x∧r=.pv (.tup [.lit (.pointer none),ak (d6 v L).2])else h'=h++[[.pv (ak v),.pv (.seq false 1 (L.map aF))],iV (jG L)]∧r=.pv (.tup [.ptr (h.length+1) 0,ak 0])):=by
 refine dh [] [.tmp 2,.tmp 3] aP func32 ?_;have p:=z7 v L o;have hle:(d6 v L).2=0->L.length<=1000000:=λe=>V0 λhn=>by
  unfold d6 at e;split at e;cases e;rw[Vt (by omega)]at e;cases e
 generalize d6 v L=S at*;obtain⟨w,t⟩:=S;simp only at hle;simp;refine ap.intro p ?_;by_cases c1:t=0;rotate_left;simp[c1];subst c1;have q:=hle rfl;simp;obtain⟨G,a⟩:∃G:Nat->ao,∀i,G i=h++[[.pv (ak v),.pv (.seq false 1 (L.map aF))],iV (cI L i)]:=⟨_,λ_=>rfl⟩;have g:∀i,h.length+1<(G i).length:=λi=>by rw[a];simp
 have b:∀i,(G i)[h.length+1]?=some (iV (cI L i)):=λi=>by
  rw[a,VM (by omega)];simp
 have j:∀i,i<L.length->(G i).set (h.length+1) (iV (cI L (i+1)))=G (i+1):=λi hi=>by
  rw[a,a,XG _ _ (by omega)];simp
 refine aM.intro (S:=λ(i:Nat)=>⟨[(6,.pv (.ptr (h.length+1) 0)),(24,.pv (.seq false 1 (L.map aF))),(25,.pv (ak L.length)),(26,.pv (ak i))],G i⟩) (λi=>i<=L.length) (λi=>L.length -i) 0 ?_ (VH _) ?_;exact av.keep (by simp) (by rw[a];rfl);intro i hi;have k:=g i;obtain⟨_,d⟩:=Vp.1 (b i);by_cases c:i<L.length;have s:=dU i;have f:=om L c;have hn:cI L (i+1)=px (cI L i) (bG ((cI L i).last+1)) L[i]:=bf qA ⟨[],0,false⟩ L i c;have l:=j i c;have n:=GK (G i) (h.length+1) (cI L i) (b i) (bG ((cI L i).last+1)) L[i] (o _ (Vx c));rw[←hn]at n;generalize u:cI L i=K at*;simp[c,k,d,iV,f];refine ay.intro n ?_;rintro _ _ ⟨rfl,rfl⟩;simp;exact⟨i+1,by(try dsimp only);omega,by(try dsimp only);omega,av.keep (by simp[s]) (by rw[←l])⟩;have m:i=L.length:=by omega
 subst m;simp;exact a _
def jh:Ck->List Stp->Nat->Int×Int
 |c,[],i=>if c.done=true then((i:Int),0)else((i:Int),25)
 |c,s::ss,i=>if(cB c s).2≠0 then((i:Int),(cB c s).2)else jh (cB c s).1 ss (i+1)
def fc(v:Int)(L:au)(ss:List Stp):Int×Int:=if(d6 v L).2≠0 then(-1,(d6 v L).2)else jh (jG L) ss 0
def TJ(L:au)(ss:List Stp)(i:Nat):Ck:=(ss.take i).foldl (λc s=>(cB c s).1) (jG L)
theorem GM{α:Type}(l:List (Int×α))(k:Int)(y:α):(pt l k y).length<=l.length+1:=by
 rw[D9];split<;>omega
theorem ED{α:Type}{p:Int×α->Prop}:∀{l:List (Int×α)}{k:Int}{y:α},(∀q∈l,p q)->p (k,y)->∀q∈pt l k y,p q
 |[],k,y,_,b,q,a=>by
  rw[pt]at a;rw[VY]at a;subst a;exact b
 |(j,x)::l,k,y,h1,b,q,a=>by
  rw[pt]at a;split at a;rename_i e;rcases VU.1 a with rfl|a;exact e▸b;exact h1 q (VG _ a);rcases VU.1 a with rfl|a;exact h1 _ VN;exact ED (λq a=>h1 q (VG _ a)) b q a
theorem Md{α:Type}:∀(l:List (Int×α))(k:Int),∀q∈dl l k,q∈l
 |[],k,q,h=>h
 |(j,x)::l,k,q,h=>by
  rw[dl]at h;split at h;exact VG _ h;rcases VU.1 h with rfl|h;exact VN;exact VG _ (Md l k q h)
theorem Me{α:Type}:∀(l:List (Int×α))(k:Int),(dl l k).length<=l.length
 |[],k=>Vu _
 |(j,x)::l,k=>by
  rw[dl];split;simp;have:=Me l k;simp;omega
structure CkN (n:Nat) (c:Ck):Prop where
  n:c.m.length<=n
  w:∀q∈c.m,xD q.1
  l:∀q∈c.m,q.2.length<=100000
  t:0<=c.last∧c.last<=20000000
theorem CkN.ok{n:Nat}{c:Ck}(h:CkN n c)(hn:n<=100000):CkOk c:=⟨Wb h.n hn,h.w,h.l⟩
theorem EE{x:Int}(h1:0<=x)(c:x<=20000000):xD x:=by
 unfold xD;have a:IntKind.i64.min=-9223372036854775808:=by decide
 have b:IntKind.i64.max=9223372036854775807:=by decide
 simp only[Lit.wf,a,b,VC,VI];omega
theorem CkN.put{n:Nat}{c:Ck}(h:CkN n c){id:Int}{l:af}(oL:0<=id∧id<=20000000)(a:l.length<=100000):CkN (n+1) (px c id l):=
 ⟨Wb (GM _ _ _) (Nat.succ_le_succ h.n),ED h.w (EE oL.1 oL.2),ED h.l a,oL⟩
theorem vR{p:Int×af->Prop}:∀(ids:af)(m:dV),(∀q∈m,p q)->(∀q∈ids.foldl dl m,p q)∧(ids.foldl dl m).length<=m.length
 |[],m,h=>⟨h,Vu _⟩
 |id::ids,m,h=>by
  obtain⟨h1,a⟩:=vR ids (dl m id) (λq b=>h q (Md m id q b));exact⟨h1,Wb a (Me _ _)⟩
theorem CkN.drop{n:Nat}{c:Ck}(h:CkN n c)(ids:af):CkN n (oq c ids):=by
 unfold oq;split;exact h;unfold ki;obtain⟨h1,a⟩:=vR (p:=λq=>xD q.1) (ids.take ids.length) c.m h.w;obtain⟨b,_⟩:=vR (p:=λq=>q.2.length<=100000) (ids.take ids.length) c.m h.l;exact⟨Wb a h.n,h1,b,h.t⟩
theorem CkN.up{n m:Nat}{c:Ck}(h:CkN n c)(a:n<=m):CkN m c:=⟨Wb h.n a,h.w,h.l,h.t⟩
theorem rM(s:Stp):vH [s]=if g8 s=true then 0 else 2:=by
 unfold vH gD;cases a:g8 s;simp[List.findIdx?_cons,a];simp[List.findIdx?_cons,a]
theorem ui{s:Stp}(h:g8 s=true):(s.kind=1∨s.kind=2)∧0<=s.id∧s.id<=10000000:=by
 unfold g8 at h;split at h;simp only[VC,VI]at h;exact⟨.inl (by assumption),by omega,by omega⟩;split at h;simp only[VC,VI]at h;exact⟨.inr (by assumption),by omega,by omega⟩;cases h
theorem CkN.step{n:Nat}{c:Ck}(h:CkN n c){s:Stp}(a:s.lits.length<=100000):CkN (n+1) (cB c s).1:=by
 unfold cB;split;exact h.up (Xt n);rename_i hp;rw[rM]at hp;have b:g8 s=true:=V0 λhn=>hp (by rw[Vs hn];decide);obtain⟨_,h1,d⟩:=ui b;split;exact(h.drop s.hints).up (Xt n);unfold vQ;split;exact h.up (Xt n);split;exact h.up (Xt n);split;exact h.up (Xt n);split;exact h.up (Xt n);exact h.put ⟨h1,by omega⟩ a
theorem vS{L:au}(b:∀c∈L,c.length<=100000)(hn:L.length<=1000000):∀i,i<=L.length->CkN i (cI L i)∧(cI L i).last=(i:Int)
 |0,_=>⟨⟨Vu _,(λq a=>by cases a),(λq a=>by cases a),XF _,by show(0:Int)<=20000000;omega⟩,rfl⟩
 |i+1,h=>by
  obtain⟨h1,d⟩:=vS b hn i (by omega);have hs:cI L (i+1)=qA (cI L i) L[i]:=bf qA ⟨[],0,false⟩ L i (by omega);have e:=dU i;rw[hs];unfold qA;rw[d,e];exact⟨h1.put (by omega) (b _ (Vx (by omega))),rfl⟩
theorem B6{v:Int}{L:au}(h:(d6 v L).2=0):L.length<=1000000:=V0 λhn=>by
 unfold d6 at h;split at h;cases h;rw[Vt (by omega)]at h;cases h
theorem I4(v:Int)(L:au)(ss:List Stp)(hn:L.length+ss.length<=90000)(w:∀c∈L,c.length<=100000)(hs:∀s∈ss,s.lits.length<=100000∧s.hints.length<=100000):
 aw prog 37 [.agg [ak v,.seq false 1 (L.map aF)],.seq false 4 (ss.map bd)] (λr=>r=.pv (.tup [ak (fc v L ss).1,ak (fc v L ss).2])):=by
 refine sx [4,5] aP func37 (λ_ _=>results_tmp2 rfl _ _ _) ?_;have y:=λh=>GL h v L (λc A=>by have:=w c A;omega);have o:fc v L ss=if(d6 v L).2≠0 then(-1,(d6 v L).2)else jh (jG L) (ss.drop 0) 0:=rfl;generalize fc v L ss=C at*;simp;refine ap.introM (y _) ?_;intro r h' p;by_cases c1:(d6 v L).2=0;rotate_left;rw[Vt c1]at p o;subst o;obtain⟨x,rfl,rfl⟩:=p;simp[c1];rw[Vs (by simp[c1])]at p o;obtain⟨rfl,rfl⟩:=p;clear y;have n:=(vS w (B6 c1) L.length (Vu _)).1;simp;obtain⟨K,q⟩:∃K:Nat->Ck,∀i,K i=TJ L ss i:=⟨_,λ_=>rfl⟩;have e:jG L=K 0:=by rw[q];rfl
 rw[e];obtain⟨F,u⟩:∃F:bj,F=[.pv (ak v),.pv (.seq false 1 (L.map aF))]:=⟨_,rfl⟩;have g:∀k,cA k F:=λk=>by rw[u];exact⟨trivial,ga _ _,trivial⟩
 rw[←u];refine aM.intro (S:=λ(i:Nat)=>⟨[(1,.pv (.seq false 4 (ss.map bd))),(6,.pv (.ptr 2 0)),(18,.pv (.seq false 4 (ss.map bd))),(19,.pv (ak ss.length)),(20,.pv (ak i))],[F,F,iV (K i)]⟩) (λi=>i<=ss.length∧CkN (L.length+i) (K i)∧C=jh (K i) (ss.drop i) i) (λi=>ss.length -i) 0 ?_ ⟨VH _,by rw[←e];exact n,by rw[←e];exact o⟩ ?_;exact av.keep (by simp) (by simp);rintro i ⟨hi,l,a⟩;by_cases h:i<ss.length;have D:=dU i;have j:K (i+1)=(cB (K i) ss[i]).1:=by rw[q,q];exact bf (λc s=>(cB c s).1) (jG L) ss i h
 rw[V3 h,jh]at a;have f:=hs _ (Vx h);have b:=λX=>B5 [F,F,iV (K i),X] 2 (K i) rfl (l.ok (by omega)) ss[i] f.1 f.2;have m:=l.step (s:=ss[i]) f.1;rw[←j]at m a;generalize B:cB (K i) ss[i]=sd at*;have b:=b [.pv (ak ss[i].kind),.pv (ak ss[i].id),.pv (.seq false 1 (am ss[i].lits)),.pv (.seq false 1 (am ss[i].hints))];simp only[bd]at b;simp[h,bd];refine ay.intro b ?_;rintro _ _ ⟨rfl,rfl⟩;by_cases d:sd.2=0;rw[Vs (by simp[d])]at a;simp[d];exact⟨i+1,by(try dsimp only);omega,⟨by(try dsimp only);omega,by rw[←Xf];exact m,a⟩,av.to (by simp[D]) (by simp[j]) (by simp) (by simp) ⟨g _,g _,gE _ _,trivial⟩⟩;rw[Vt d]at a;subst a;simp[d];have t:i=ss.length:=by omega
 subst t;rw[VS (Vu _),jh]at a;have z:=BY [F,F,iV (K ss.length)] 2 (K ss.length) rfl;simp;refine ay.intro z ?_;rintro _ _ ⟨rfl,rfl⟩;cases d:(K ss.length).done;rw[Vs (by simp[d])]at a;subst a;simp;rw[Vt d]at a;subst a;simp
end
section
def qB(c:Ck)(s:Stp):Bool:=(s.hints.all λh=>(lk c.m h).isSome)&&decide ((pu s.lits (ct c s.hints)).2=0)
theorem I5(h:ao)(b:Nat)(c:Ck)(C:h[b]?=some (iV c))(D:CkOk c)(s:Stp)(E:s.lits.length<=100000)(u:s.hints.length<=100000):
 aI prog 90 [.ptr b 0,.agg (bd s)] h (λr h'=>h'=h∧r=.pv (BL (qB c s))):=by
 refine ea [] [.tmp 4] h (Vu _) (λu=>u) aP func90 ?_;obtain⟨A,K⟩:=Vp.1 C;obtain⟨G,j⟩:∃G:ao,G=h++[[.pv (ak s.kind),.pv (ak s.id),.pv (.seq false 1 (am s.lits)),.pv (.seq false 1 (am s.hints))]]:=⟨_,rfl⟩;have o:h.length<G.length:=by rw[j];simp
 have p:G[h.length]=[.pv (ak s.kind),.pv (ak s.id),.pv (.seq false 1 (am s.lits)),.pv (.seq false 1 (am s.hints))]:=by simp[j]
 have n:G[b]?=some (iV c):=by rw[j,Vv A,C]
 have f:G.take h.length=h:=by rw[j];simp
 have g:qB c s=((s.hints.all λh=>(lk c.m h).isSome)&&decide ((pu s.lits (ct c s.hints)).2=0)):=rfl;have B:=rL D s.hints;have y:=yc s.lits (ct c s.hints) (by omega) (λx hx=>by have:=B.2 x hx;omega);generalize qB c s=S at*;obtain⟨Q,q⟩:∃Q:Nat->au,∀i,Q i=(ct c s.hints).take i:=⟨_,λ_=>rfl⟩;have w:∀i,(Q i).length<=i:=λi=>by rw[q,Vy];omega
 simp[bd];rw[←j]
 try simp[o,p]
 refine aM.intro (S:=λ(i:Nat)=>⟨[(0,.pv (.ptr b 0)),(3,.pv (.ptr h.length 0)),(5,.own true 1 ((Q i).map aF)),(13,.pv (.seq false 1 (am s.hints))),(14,.pv (ak s.hints.length)),(15,.pv (ak i))],G⟩) (λi=>i<=s.hints.length∧∀k (_:k<s.hints.length),k<i->(lk c.m s.hints[k]).isSome=true) (λi=>s.hints.length -i) 0 ?_ ⟨VH _,λk _ h=>by omega⟩ ?_;exact(av.nilOwn (s:=5) 1 true (by simp)).trans (av.keep (by simp[q]) rfl);rintro i ⟨hi,ho⟩;by_cases d:i<s.hints.length
 .have L:=dU i;have H:=(Et G b c n s.hints[i] (λl E=>by have:=D.l _ (vP E);simp only at this;omega)).res (R':=λr h'=>h'=G∧r=.pv (.tup [.seq false 1 (am ((lk c.m s.hints[i]).getD [])),BL (lk c.m s.hints[i]).isSome])) λr h' u=>⟨_,.tup [.seq false 1 (am ((lk c.m s.hints[i]).getD [])),BL (lk c.m s.hints[i]).isSome],u.2,by simp[cr,bX],u.1,rfl⟩;have t:Q (i+1)=Q i++[(lk c.m s.hints[i]).getD []]:=by
   rw[q,q,Ws (by unfold ct;rw[VA];exact d)];simp[ct]
  have J:=w i;have a:(lk c.m s.hints[i]).isSome=true->∀k (_:k<s.hints.length),k<i+1->(lk c.m s.hints[k]).isSome=true:=λhx k h1 M=>by
   by_cases e:k=i;subst e;exact hx;exact ho k h1 (by omega)
  simp[d];refine ay.intro H ?_;rintro _ _ ⟨rfl,rfl⟩;cases e:lk c.m s.hints[i]with
  |none=>
   have I:S=false:=by
    rw[g];have:(s.hints.all λh=>(lk c.m h).isSome)=false:=List.all_eq_false.2 ⟨_,Vx d,by simp[e]⟩;rw[this];rfl
   rw[I];simp
   try first|exact f|trivial
  |some l=>
   rw[e]at t a;simp;refine⟨by omega,i+1,by(try dsimp only);omega,⟨by(try dsimp only);omega,a rfl⟩,av.keep (by simp[L,t,aF]) (by simp)⟩
 have z:i=s.hints.length:=by omega
 subst z;have F:(s.hints.all λh=>(lk c.m h).isSome)=true:=Wa.2 λx hx=>by
  obtain⟨k,hk,rfl⟩:=VE hx;exact ho k hk hk
 rw[F,Yd]at g;have v:Q s.hints.length=ct c s.hints:=by rw[q];exact VT (by unfold ct;simp)
 simp[v,o,p];refine ap.intro y ?_;by_cases e:(pu s.lits (ct c s.hints)).2=0;rw[WP e]at g;subst g;simp[e,f];rw[W7 e]at g;subst g;simp[e,f]
def ji:Ck->List Stp->Bool
 |c,[]=>c.done
 |c,s::ss=>if(s.kind=1∧qB c s=false)∨(cB c s).2≠0 then false else ji (cB c s).1 ss
def lF(v:Int)(L:au)(ss:List Stp):Bool:=if(d6 v L).2≠0 then false else ji (jG L) ss
theorem l4(v:Int)(L:au)(ss:List Stp)(hn:L.length+ss.length<=90000)(A:∀c∈L,c.length<=100000)(hs:∀s∈ss,s.lits.length<=100000∧s.hints.length<=100000):
 aw prog 42 [.agg [ak v,.seq false 1 (L.map aF)],.seq false 4 (ss.map bd)] (λr=>r=.pv (BL (lF v L ss))):=by
 refine aB aP func42 ?_;have B:=λh=>GL h v L (λc G=>by have:=A c G;omega);have t:lF v L ss=if(d6 v L).2≠0 then false else ji (jG L) (ss.drop 0):=rfl;generalize lF v L ss=C at*;simp;refine ap.introM (B _) ?_;intro r h' u;by_cases c1:(d6 v L).2=0;rotate_left;rw[Vt c1]at u t;subst t;obtain⟨x,rfl,rfl⟩:=u;simp[c1];rw[Vs (by simp[c1])]at u t;obtain⟨rfl,rfl⟩:=u;clear B;have q:=(vS A (B6 c1) L.length (Vu _)).1;simp;obtain⟨K,w⟩:∃K:Nat->Ck,∀i,K i=TJ L ss i:=⟨_,λ_=>rfl⟩;have m:jG L=K 0:=by rw[w];rfl
 rw[m];obtain⟨F,z⟩:∃F:bj,F=[.pv (ak v),.pv (.seq false 1 (L.map aF))]:=⟨_,rfl⟩;have f:∀k,cA k F:=λk=>by rw[z];exact⟨trivial,ga _ _,trivial⟩
 rw[←z];refine aM.intro (S:=λ(i:Nat)=>⟨[(1,.pv (.seq false 4 (ss.map bd))),(5,.pv (.ptr 2 0)),(16,.pv (.seq false 4 (ss.map bd))),(17,.pv (ak ss.length)),(18,.pv (ak i))],[F,F,iV (K i)]⟩) (λi=>i<=ss.length∧CkN (L.length+i) (K i)∧C=ji (K i) (ss.drop i)) (λi=>ss.length -i) 0 ?_ ⟨VH _,by rw[←m];exact q,by rw[←m];exact t⟩ ?_;exact av.keep (by simp) (by simp);rintro i ⟨hi,o,a⟩;by_cases h:i<ss.length;have D:=dU i;have n:K (i+1)=(cB (K i) ss[i]).1:=by rw[w,w];exact bf (λc s=>(cB c s).1) (jG L) ss i h
 rw[V3 h,ji]at a;have e:=hs _ (Vx h);have j:=B5 [F,F,iV (K i),[.pv (ak ss[i].kind),.pv (ak ss[i].id),.pv (.seq false 1 (am ss[i].lits)),.pv (.seq false 1 (am ss[i].hints))]] 2 (K i) rfl (o.ok (by omega)) ss[i] e.1 e.2;have g:=I5 [F,F,iV (K i),[.pv (ak ss[i].kind),.pv (ak ss[i].id),.pv (.seq false 1 (am ss[i].lits)),.pv (.seq false 1 (am ss[i].hints))]] 2 (K i) rfl (o.ok (by omega)) ss[i] e.1 e.2;have p:=o.step (s:=ss[i]) e.1;rw[←n]at p a;simp only[bd]at j g;generalize H:cB (K i) ss[i]=sd at*;generalize qB (K i) ss[i]=I at*;have b:sd.2=0->(i+1)<=ss.length∧CkN (L.length+(i+1)) (K (i+1)):=λ_=>⟨by omega,by rw[←Xf];exact p⟩;by_cases l:ss[i].kind=1;rw[l]at j g;cases I;rw[Vt (.inl ⟨l,rfl⟩)]at a;subst a;simp[h,bd,l];refine ay.intro g ?_;rintro _ _ ⟨rfl,rfl⟩;simp[l];simp[h,bd,l];refine ay.intro g ?_;rintro _ _ ⟨rfl,rfl⟩;simp[l];refine ay.intro j ?_;rintro _ _ ⟨rfl,rfl⟩;by_cases d:sd.2=0;rw[Vs (by simp[d])]at a;simp[d];exact⟨i+1,by(try dsimp only);omega,⟨(b d).1,(b d).2,a⟩,av.to (by simp[D]) (by simp[n]) (by simp) (by simp) ⟨f _,f _,gE _ _,trivial⟩⟩;rw[Vt (.inr d)]at a;subst a;simp[d];simp[h,bd,l];refine ay.intro j ?_;rintro _ _ ⟨rfl,rfl⟩;by_cases d:sd.2=0;rw[Vs (by simp[d,l])]at a;simp[d];exact⟨i+1,by(try dsimp only);omega,⟨(b d).1,(b d).2,a⟩,av.to (by simp[D]) (by simp[n]) (by simp) (by simp) ⟨f _,f _,gE _ _,trivial⟩⟩;rw[Vt (.inr d)]at a;subst a;simp[d];have y:i=ss.length:=by omega
 subst y;rw[VS (Vu _),ji]at a;have E:=BY [F,F,iV (K ss.length)] 2 (K ss.length) rfl;subst a;simp;refine ay.intro E ?_;rintro _ _ ⟨rfl,rfl⟩;simp
end
section
def l5:au->Nat->Option Int
 |[],_=>none
 |c::L,i=>if c=[]then some ((i+1:Nat):Int)else l5 L (i+1)
def pS:List Stp->Int
 |[]=>0
 |s::ss=>if s.kind=1∧s.lits=[]then s.id else pS ss
def fQ(L:au)(ss:List Stp):Int:=(l5 L 0).getD (pS ss)
theorem Mf(v:Int)(L:au)(ss:List Stp)(hn:L.length+ss.length<=90000):
 aw prog 276 [.agg [ak v,.seq false 1 (L.map aF)],.seq false 4 (ss.map bd)] (λr=>r=.pv (ak (fQ L ss))):=by
 refine aB aP func276 ?_;have p:fQ L ss=(l5 (L.drop 0) 0).getD (pS ss):=rfl;generalize fQ L ss=E at*;simp;refine aM.intro (S:=λ(i:Nat)=>⟨[(1,.pv (.seq false 4 (ss.map bd))),(2,.pv (.ptr 0 0)),(10,.pv (ak L.length)),(11,.pv (ak i))],[[.pv (ak v),.pv (.seq false 1 (L.map aF))]]⟩) (λi=>i<=L.length∧E=(l5 (L.drop i) i).getD (pS ss)) (λi=>L.length -i) 0 ?_ ⟨VH _,p⟩ ?_;exact av.keep (by simp) (by simp);rintro i ⟨hi,b⟩;by_cases h:i<L.length;have g:=dU i;have f:=om L h;have o:L[i]?=some L[i]:=Vq h;rw[V3 h,l5]at b;by_cases c:L[i]=[];rw[Vt c]at b;subst b;simp[h,f,o,c,aF,am,g];rw[Vs c]at b;have c':L[i].length≠0:=λe=>c (WA.1 e);simp[h,f,o,c,aF];exact⟨i+1,by(try dsimp only);omega,⟨by(try dsimp only);omega,b⟩,av.keep (by simp[g]) (by simp)⟩;have m:i=L.length:=by omega
 subst m;rw[VS (Vu _),l5,Option.getD_none]at b;simp;refine aM.intro (S:=λ(i:Nat)=>⟨[(24,.pv (.seq false 4 (ss.map bd))),(25,.pv (ak ss.length)),(26,.pv (ak i))],[[.pv (ak v),.pv (.seq false 1 (L.map aF))]]⟩) (λi=>i<=ss.length∧E=pS (ss.drop i)) (λi=>ss.length -i) 0 ?_ ⟨VH _,b⟩ ?_;exact av.keep (by simp) (by simp);rintro j ⟨hj,a⟩;by_cases d:j<ss.length;have g:=dU j;rw[V3 d,pS]at a;by_cases k:ss[j].kind=1;by_cases l:ss[j].lits=[];rw[Vt ⟨k,l⟩]at a;subst a;simp[d,bd,k,l,am];rw[Vs (λe=>l e.2)]at a;simp[d,bd,k,l];exact⟨j+1,by(try dsimp only);omega,⟨by(try dsimp only);omega,a⟩,av.to (by simp[g,bd]) rfl (by simp) (by simp) (by simp)⟩;rw[Vs (λe=>k e.1)]at a;simp[d,bd,k];exact⟨j+1,by(try dsimp only);omega,⟨by(try dsimp only);omega,a⟩,av.to (by simp[g,bd]) rfl (by simp) (by simp) (by simp)⟩;have n:j=ss.length:=by omega
 subst n;rw[VS (Vu _),pS]at a;subst a;simp
def kU(m:aS)(k:Int):aS:=pt m k (bG ((lk m k).getD 0+1))
def gn:Nat->aS
 |0=>[]
 |i+1=>kU (gn i) ((i+1:Nat):Int)
def pz(m:aS)(s:Stp):aS:=if s.kind=1 then kU m s.id else m
def O8(L:au)(ss:List Stp):aS:=ss.foldl pz (gn L.length)
theorem O9(v:Int)(L:au)(ss:List Stp)(hn:L.length+ss.length<=90000):
 aw prog 227 [.agg [ak v,.seq false 1 (L.map aF)],.seq false 4 (ss.map bd)] (λr=>r=.omap true (aL fI (O8 L ss))):=by
 refine aB aP func227 ?_;simp;obtain⟨F,s⟩:∃F:bj,F=[.pv (ak v),.pv (.seq false 1 (L.map aF))]:=⟨_,rfl⟩;have c:∀k,cA k F:=λk=>by rw[s];exact⟨trivial,ga _ _,trivial⟩
 rw[←s];obtain⟨A,f⟩:∃A:Nat->aS,∀i,A i=gn i:=⟨_,λ_=>rfl⟩;have t:∀(k:Nat)(m:aS),fB k (aL fI m):=λk m=>by simp
 refine aM.intro (S:=λ(i:Nat)=>⟨[(1,.pv (.seq false 4 (ss.map bd))),(5,.omap true (aL fI (A i))),(12,.pv (ak L.length)),(13,.pv (ak i))],[F]⟩) (λi=>i<=L.length) (λi=>L.length -i) 0 ?_ (VH _) ?_;exact av.keep (by simp[f,gn,aL]) (by simp);intro i hi;by_cases h:i<L.length;have e:=dU i;have n:A (i+1)=pt (A i) ((i+1:Nat):Int) (bG ((lk (A i) ((i+1:Nat):Int)).getD 0+1)):=by rw[f,f];rfl
 simp[h,e];exact⟨i+1,by(try dsimp only);omega,by(try dsimp only);omega,av.keep (by simp[e,n]) (by simp)⟩;have p:i=L.length:=by omega
 subst p;simp;obtain⟨B,g⟩:∃B:Nat->aS,∀i,B i=(ss.take i).foldl pz (gn L.length):=⟨_,λ_=>rfl⟩;refine aM.intro (S:=λ(i:Nat)=>⟨[(5,.omap true (aL fI (B i))),(22,.pv (.seq false 4 (ss.map bd))),(23,.pv (ak ss.length)),(24,.pv (ak i))],[F]⟩) (λi=>i<=ss.length) (λi=>ss.length -i) 0 ?_ (VH _) ?_;exact av.keep (by simp[f,g]) (by simp);intro j hj;by_cases d:j<ss.length;have e:=dU j;have b:B (j+1)=pz (B j) ss[j]:=by rw[g,g];exact bf pz _ ss j d
 by_cases l:ss[j].kind=1;have a:B (j+1)=pt (B j) ss[j].id (bG ((lk (B j) ss[j].id).getD 0+1)):=by rw[b];unfold pz;rw[Vt l];rfl
 simp[d,bd,l];exact⟨j+1,by(try dsimp only);omega,by(try dsimp only);omega,av.to (by simp[e,bd,a]) rfl (by simp) (by simp) ⟨c _,trivial⟩⟩;have a:B (j+1)=B j:=by rw[b];unfold pz;rw[Vs l]
 simp[d,bd,l];exact⟨j+1,by(try dsimp only);omega,by(try dsimp only);omega,av.to (by simp[e,bd,a]) rfl (by simp) (by simp) ⟨c _,trivial⟩⟩;have q:j=ss.length:=by omega
 subst q;have o:B ss.length=O8 L ss:=by rw[g,VX];rfl
 simp[o]
theorem I6(h:ao)(b:Nat)(m:aS)(C:h[b]?=some [.omap true (aL fI m)])(s:Stp)(z:s.hints.length<=100000):
 aI prog 277 [.agg (bd s),.ptr b 0] h (λr h'=>h'=h.set b [.omap true (aL fI (s.hints.foldl kU m))]∧r=.pv (.tup [])):=by
 refine ea [] [] (h.set b [.omap true (aL fI (s.hints.foldl kU m))]) (by simp) (λz=>by rw[VQ];exact b9 (x:=[.omap true (aL fI (s.hints.foldl kU m))]) ⟨by simp,trivial⟩ b z) aP func277 ?_;obtain⟨e,u⟩:=Vp.1 C;obtain⟨M,l⟩:∃M:Nat->aS,∀i,M i=(s.hints.take i).foldl kU m:=⟨_,λ_=>rfl⟩;obtain⟨G,a⟩:∃G:Nat->ao,∀i,G i=h.set b [.omap true (aL fI (M i))]++[[.pv (ak s.kind),.pv (ak s.id),.pv (.seq false 1 (am s.lits)),.pv (.seq false 1 (am s.hints))]]:=⟨_,λ_=>rfl⟩;have k:h.set b [.omap true (aL fI m)]=h:=by rw[←u];exact Xs e
 have n:h++[[.pv (ak s.kind),.pv (ak s.id),.pv (.seq false 1 (am s.lits)),.pv (.seq false 1 (am s.hints))]]=G 0:=by
  rw[a,l];show _=h.set b [.omap true (aL fI m)]++_;rw[k]
 have f:∀i,b<(G i).length:=λi=>by rw[a];simp;omega
 have c:∀i,h.length<(G i).length:=λi=>by rw[a];simp
 have g:∀i,(G i)[h.length]'(c i)=[.pv (ak s.kind),.pv (ak s.id),.pv (.seq false 1 (am s.lits)),.pv (.seq false 1 (am s.hints))]:=λi=>by
  simp only[a];rw[Xz (by simp)];simp
 have o:∀i,(G i)[b]'(f i)=[.omap true (aL fI (M i))]:=λi=>by
  simp only[a];rw[V6 (by simpa using e),YF]
 have p:∀i,(G i).set b [.omap true (aL fI (M (i+1)))]=G (i+1):=λi=>by
  rw[a,a,XO _ _ (by simpa using e),YD]
 simp[bd];rw[n];have A:=c 0;have B:=g 0
 try simp[A,B]
 refine aM.intro (S:=λ(i:Nat)=>⟨[(1,.pv (.ptr b 0)),(6,.pv (.seq false 1 (am s.hints))),(7,.pv (ak s.hints.length)),(8,.pv (ak i))],G i⟩) (λi=>i<=s.hints.length) (λi=>s.hints.length -i) 0 ?_ (VH _) ?_;exact av.keep (by simp) rfl;intro i hi;have w:=f i;have v:=o i;have j:=p i;by_cases d:i<s.hints.length;have D:=dU i;have t:M (i+1)=pt (M i) s.hints[i] (bG ((lk (M i) s.hints[i]).getD 0+1)):=by rw[l,l];exact bf kU m s.hints i d
 rw[t]at j;generalize M i=E at*;simp[d,w,v];exact⟨i+1,by(try dsimp only);omega,by(try dsimp only);omega,av.keep (by simp[D]) (by rw[←j])⟩;have y:i=s.hints.length:=by omega
 subst y;have q:M s.hints.length=s.hints.foldl kU m:=by rw[l,VX]
 simp;rw[a,q,Wd (by simp),VT (by simp)]
def EH(m:aS)(s:Stp):aS:=if s.kind=1∧0<(lk m s.id).getD 0 then s.hints.foldl kU m else m
def mZ(m:aS):List Stp->aS
 |[]=>m
 |s::ss=>EH (mZ m ss) s
def ot(L:au)(ss:List Stp):aS:=mZ [(fQ L ss,1)] ss
theorem Mg(v:Int)(L:au)(ss:List Stp)(hn:L.length+ss.length<=90000)(hs:∀s∈ss,s.lits.length<=100000∧s.hints.length<=100000):
 aw prog 228 [.agg [ak v,.seq false 1 (L.map aF)],.seq false 4 (ss.map bd)] (λr=>r=.omap true (aL fI (ot L ss))):=by
 refine aB aP func228 ?_;have q:=Mf v L ss hn;have g:ot L ss=mZ [(fQ L ss,1)] ss:=rfl;generalize ot L ss=o at*;generalize fQ L ss=E at*;simp;refine ap.intro q ?_;obtain⟨M,d⟩:∃M:Nat->aS,∀k,M k=mZ [(E,1)] (ss.drop k):=⟨_,λ_=>rfl⟩;have h:M ss.length=[(E,1)]:=by rw[d,VS (Vu _)];rfl
 have c:M 0=o:=by rw[d,g];rfl
 have m:bG ((ss.length:Int) -1)=(ss.length:Int) -1:=aC (by omega) (by omega);simp[m];obtain⟨F,n⟩:∃F:bj,F=[.pv (ak v),.pv (.seq false 1 (L.map aF))]:=⟨_,rfl⟩;have t:∀k,cA k F:=λk=>by rw[n];exact⟨trivial,ga _ _,trivial⟩
 rw[←n];refine aM.intro (S:=λ(k:Nat)=>⟨[(1,.pv (.seq false 4 (ss.map bd))),(5,.pv (.ptr 1 0)),(6,.pv (.fn (.func 277) [] [.ptr 1 0])),(7,.pv (ak ((k:Int) -1)))],[F,[.omap true (aL fI (M k))]]⟩) (λk=>k<=ss.length) (λk=>k) ss.length ?_ (Vu _) ?_;exact av.keep (by simp) (by simp[h,aL,fI]);intro k hk;cases k with
 |zero=>
  rw[←c];simp
 |succ j=>
  have e:(((j+1:Nat):Int) -1)=(j:Int):=by omega
  have hj:j<ss.length:=by omega
  have l:bG ((j:Int) -1)=(j:Int) -1:=aC (by omega) (by omega);have a:M j=EH (M (j+1)) ss[j]:=by rw[d,d,V3 hj];rfl
  have h1:=I6 [F,[.omap true (aL fI (M (j+1)))]] 1 (M (j+1)) rfl ss[j] (hs _ (Vx hj)).2;have i:ss[j]?=some ss[j]:=Vq hj;unfold EH at a;simp only[bd]at h1;generalize M (j+1)=p at*;by_cases b:ss[j].kind=1;by_cases f:0<(lk p ss[j].id).getD 0;rw[Vt ⟨b,f⟩]at a;rw[b]at h1;simp[e,hj,i,bd,b,f];refine ay.intro h1 ?_;rintro _ _ ⟨rfl,rfl⟩;simp;exact⟨j,by(try dsimp only);omega,by(try dsimp only);omega,av.keep (by simp[l,bd]) (by simp[a])⟩;rw[Vs (λe=>f e.2)]at a;simp[e,hj,i,bd,b,f];exact⟨j,by(try dsimp only);omega,by(try dsimp only);omega,av.keep (by simp[l,bd]) (by simp[a])⟩;rw[Vs (λe=>b e.1)]at a;simp[e,hj,i,bd,b];exact⟨j,by(try dsimp only);omega,by(try dsimp only);omega,av.keep (by simp[l,bd]) (by simp[a])⟩
def eI(v:Int)(L:au)(ss:List Stp):aS:=if lF v L ss=true then ot L ss else O8 L ss
theorem sP(v:Int)(L:au)(ss:List Stp)(hn:L.length+ss.length<=90000)(b:∀c∈L,c.length<=100000)(hs:∀s∈ss,s.lits.length<=100000∧s.hints.length<=100000):
 aw prog 146 [.agg [ak v,.seq false 1 (L.map aF)],.seq false 4 (ss.map bd)] (λr=>r=.pv (.tup [if(fc v L ss).2≠0 then .lit (.map none)else .amap true (aL fI (eI v L ss)),ak (fc v L ss).2])):=by
 refine iF [] [.tmp 4,.tmp 5] aP func146 ?_;have f:=I4 v L ss hn b hs;have h:=l4 v L ss hn b hs;have e:=O9 v L ss hn;have g:=Mg v L ss hn hs;have a:eI v L ss=if lF v L ss=true then ot L ss else O8 L ss:=rfl;generalize fc v L ss=C at*;obtain⟨c1,c2⟩:=C;simp only at*;generalize eI v L ss=N at*;simp;refine ap.intro f ?_;by_cases c:c2=0;rotate_left;simp[c];subst c;simp;refine ap.intro h ?_;cases d:lF v L ss;rw[Vs (by simp[d])]at a;subst a;simp;refine ap.intro e ?_;simp;rw[Vt d]at a;subst a;simp;refine ap.intro g ?_;simp
end
section
open Go.Proofs Go.Proofs.Tryz Go.Maps Go.Shelf
theorem qC(h:ao)(x:PV)(hx:(∃nw es,x=.amap nw es)∨x=.lit (.map none))(a:∀k,x.bel k):aI prog 147 [x] h (λr h'=>h'=h++[[.pv x]]∧r=.pv (.fn (.func 229) [] [.ptr h.length 0])):=by
 refine aI.below (by kernel_rfl) λb=>?_;refine dh [] [.tmp 2] aP func147 ?_;rcases hx with⟨nw,es,rfl⟩|rfl;simp;simp
theorem z8:Ew prog 141 229 (.lit (.map none)) (.own true 1 []):=by
 refine⟨by kernel_rfl,λw f arr T v0 h1 j k=>?_⟩;have x:v0=.map none:=k;subst x;have a:w.cell? ⟨f,0,none⟩=some (.map none):=by
  have:arr[0]?=some (.map none):=by rw[←Vw,j];rfl
  simp[World.cell?,h1,this]
 have g:=(VD.1 h1).1;have d:=AnyZI.keys_gives_nil (ρ:=Tryz.keysA_ren) {Tryz.keysA with} Fence.wide 2 trivial rfl f w g a;have i:=zx Tryz.sortedA QR Fence.wide 5 trivial trivial trivial trivial rfl (by omega) (Tryz.sortsA _) (enters_of func171 (by kernel_rfl) rfl) 229 #[.pointer (some ⟨f,0,none⟩)] trivial (enters_of func229 (by kernel_rfl) rfl) (λss=>ss=[]) 0 (by unfold maxLen;omega) (by omega) w (i9.of d) (λss h=>by rw[h];exact Vu _);refine((callsIn_wide (n:=5)).1 i).mono λe w' ⟨v,ss,t,r,c,b,u,s⟩=>?_;subst r;obtain⟨g',o,l,m,p,q⟩:=vM (zs:=[]) (n:=0) rfl (by simpa using c) b s;exact⟨v,g',o,t,l,m,p,q⟩
def gt(v:Int)(L:au)(ss:List Stp):af:=if(fc v L ss).2≠0 then[]else bM ((eI v L ss).map (·.1))
theorem ye(v:Int)(L:au)(ss:List Stp)(hn:L.length+ss.length<=90000)(e:∀c∈L,c.length<=100000)(hs:∀s∈ss,s.lits.length<=100000∧s.hints.length<=100000)(hk:(fc v L ss).2=0->(∀q∈eI v L ss,xD q.1)∧(eI v L ss).length<=1000000):
 aw prog 85 [.agg [ak v,.seq false 1 (L.map aF)],.seq false 4 (ss.map bd)] (λr=>r=.pv (.tup [.seq true 1 (am (gt v L ss)),ak (fc v L ss).2])):=by
 refine iF [] [.tmp 4,.tmp 5] aP func85 ?_;have d:=sP v L ss hn e hs;have a:gt v L ss=if(fc v L ss).2≠0 then[]else bM ((eI v L ss).map (·.1)):=rfl;generalize gt v L ss=D at*;generalize fc v L ss=C at*;obtain⟨c1,c2⟩:=C;simp only at*;simp;by_cases c:c2=0;rotate_left;rw[Vt c]at a d;subst a;refine ap.intro d ?_;simp;refine ap.introM (qC _ (.lit (.map none)) (.inr rfl) (λ_=>trivial)) ?_;rintro _ _ ⟨rfl,rfl⟩;simp;refine ap.introX (cd.ptr1 (b:=1) (y0:=.lit (.map none)) z8 (by simp) (by simp) rfl (by simp) (by simp) (by simp) (by simp) (by simp) ?_);simp[am];subst c;obtain⟨h,g⟩:=hk rfl;rw[Vs (by simp)]at a d;subst a;have f:=qz fI (eI v L ss) h g;refine ap.intro d ?_;simp;refine ap.introM (qC _ (.amap false (aL fI (eI v L ss))) (.inl ⟨_,_,rfl⟩) (λ_=>by simp)) ?_;rintro _ _ ⟨rfl,rfl⟩;simp;refine ap.introX (cd.ptr1 (b:=1) (y0:=.amap false (aL fI (eI v L ss))) f (by simp) (by simp) rfl (by simp) (by simp) (by simp) (by simp) (by simp) ?_);simp[am]
end
structure SL where
  k:Int
  id:Int
  p:Option Addr
  n:Nat
  c:Nat
  q:Option Addr
  m:Nat
  d:Nat
def pT(x:SL):aG:=[.int .i64 x.k,.int .i64 x.id,.slice x.p x.n x.c,.slice x.q x.m x.d]
def wU(x:SL):aD:=[ak x.k,ak x.id,.lit (.slice x.p x.n x.c),.lit (.slice x.q x.m x.d)]
@[simp] theorem QV(k:Nat)(l:List SL):bV k (l.map wU):=by
 induction l with
 |nil=>trivial
 |cons x xs a=>exact⟨⟨trivial,trivial,trivial,trivial,trivial⟩,a⟩
def rN(p:SL->Bool)(l:List SL):List SL:=l.filter λx=>!p x
theorem vT(p:SL->Bool)(l:List SL){j:Nat}(h:j<l.length):rN p (l.take (j+1))=if p l[j]=true then rN p (l.take j)else rN p (l.take j)++[l[j]]:=by
 unfold rN;rw[Wj,Vq h,W6,WT];simp only[Wl,Zs];cases p l[j]<;>simp
theorem B7(p:SL->Bool)(l:List SL)(h:∀x∈l,p x=false):rN p l=l:=WU.2 λx hx=>by rw[h x hx];rfl
def QW:SL:=⟨0,0,none,0,0,none,0,0⟩
theorem I7(l:List SL)(n:l.length<=1000000)(g:Nat)(cap:aD)(p:SL->Bool)(d:∀r,eG r cap=cap)(hp:gm cap=false)(b:∀k,b7 k cap)(ho:nQ cap)
 (h:∀x,aw prog g (.agg (wU x)::cap) (λr=>r=.pv (BL (p x)))):aw prog 137 [.seq false 4 (l.map wU),.fn (.func g) [] cap] (λr=>r=.pv (ak (gD p l))):=by
 refine aB aP func137 ?_;simp;refine aM.intro (S:=λ(i:Nat)=>⟨[(0,.pv (.seq false 4 (l.map wU))),(1,.pv (.fn (.func g) [] cap)),(7,.pv (ak l.length)),(8,.pv (ak i))],[]⟩) (λi=>i<=l.length∧∀j (hj:j<l.length),j<i->p l[j]=false) (λi=>l.length -i) 0 ?_ ⟨VH _,λj _ h=>by omega⟩ ?_;exact av.to (by simp) rfl (by simp) (by simp[b]) (by simp);intro i ⟨hi,ho⟩;by_cases c:i<l.length;have m:=dU i;have hx:=h l[i];simp[c,d,hp,b,wU]at hx⊢;refine ap.intro hx ?_;cases a:p l[i];simp;refine⟨i+1,by dsimp only;omega,⟨by omega,λj hj f=>?_⟩,av.to (by simp[m,wU]) rfl (by simp) (by simp[b]) (by simp)⟩;by_cases e:j=i;subst e;exact a;exact ho j hj (by omega);simp;rw[d0 c ho a];simp[c];rw[cw (λj hj=>ho j hj (by omega))]
def Vo(p:SL->Bool)(zs:List SL)(k:Option Nat)(rows:aT):Prop:=k=some (rN p zs).length∧rows=dW pT (rN p zs++List.replicate (zs.length -(rN p zs).length) QW)
def nD(pre:aG)(zs:List SL)(a:aG):bj:=kQ pre (zs.flatMap pT) a
theorem iW(x:SL):(pT x).length=4:=rfl
theorem uj(x:SL)(v:an)(h:v∈pT x):v.oneCell'=true:=by
 simp[pT]at h;rcases h with rfl|rfl|rfl|rfl<;>rfl
theorem l6(zs:List SL):(zs.flatMap pT).length=zs.length*4:=jb iW zs
theorem ou(pre:aG)(zs:List SL)(a:aG):(nD pre zs a).length=pre.length+zs.length*4+a.length:=by
 unfold nD;rw[od,l6]
theorem o8(pre:aG)(zs:List SL)(a:aG){i:Nat}(h:i<zs.length):List.take 4 (List.drop (pre.length+i*4) (nD pre zs a))=(pT zs[i]).map λv=>SV.pv (.lit v):=by
 unfold nD kQ;have e:pre.length=(pre.map (λv=>SV.pv (PV.lit v))).length:=by simp
 rw[e,Ya];have b:=l6 zs;rw[WB (by rw[VA,b];omega),Wd (by rw[Wf,VA,b];omega),←Yj,←Xn];congr 1;apply Wv;intro t;rw[Wg];split;rename_i ht;rw[Wk,cT iW (by omega)];have c:(i*4+t)/4=i:=by omega
 have d:(i*4+t) %4=t:=by omega
 rw[c,d,Vq h];rfl;rename_i ht;rw[V4];rw[iW];omega
theorem gR(pre:aG)(zs:List SL)(a:aG){i t:Nat}(h:i<zs.length)(ht:t<4):(nD pre zs a)[pre.length+i*4+t]?=((pT zs[i])[t]?).map λv=>SV.pv (.lit v):=by
 have:=Xp (λl=>l[t]?) (o8 pre zs a h);simp only[Wg,Vt ht,Wk,VO]at this;exact this
theorem GN(pre:aG)(zs:List SL)(a:aG){i:Nat}(h:i<zs.length):List.take 4 (List.drop (pre.length+i*4) (List.map mr (nD pre zs a)))=wU zs[i]:=by
 rw[←Yj,←Xn,o8 pre zs a h];rfl
theorem EK(pre a:aG)(zs:List SL)(cp:Nat)(y:zs.length<=1000000)(g:Nat)(cap:aD)(p:SL->Bool)(u:∀r,eG r cap=cap)(hp:gm cap=false)(s:∀k,b7 k cap)(ho:nQ cap)
 (h:∀x,aw prog g (.agg (wU x)::cap) (λr=>r=.pv (BL (p x)))):aI prog 137 [.bsl 0 4 pre.length zs.length cp,.fn (.func g) [] cap] [nD pre zs a] (λr h'=>h'=[nD pre zs a]∧r=.pv (ak (gD p zs))):=by
 refine ij [] [.tmp 4] aP func137 ?_;simp;refine aM.intro (S:=λ(i:Nat)=>⟨[(0,.pv (.bsl 0 4 pre.length zs.length cp)),(1,.pv (.fn (.func g) [] cap)),(7,.pv (ak zs.length)),(8,.pv (ak i))],[nD pre zs a]⟩) (λi=>i<=zs.length∧∀j (hj:j<zs.length),j<i->p zs[j]=false) (λi=>zs.length -i) 0 ?_ ⟨VH _,λj _ h=>by omega⟩ ?_;exact av.keep (by simp) (by simp);intro i ⟨hi,ho⟩;by_cases c:i<zs.length;have w:=dU i;have hx:=h zs[i];have b:=gR pre zs a c (t:=0) (by omega);have d:=gR pre zs a c (t:=1) (by omega);have f:=gR pre zs a c (t:=2) (by omega);have l:=gR pre zs a c (t:=3) (by omega);have n:=ou pre zs a;have m:=o8 pre zs a c;have q:=GN pre zs a c;simp[pT]at b d f l m;simp[c,u,hp,s,b,d,f,l,m,q,n,wU];refine⟨by omega,?_⟩;simp only[wU]at hx;refine ap.intro hx ?_;cases o:p zs[i];simp;refine⟨i+1,by dsimp only;omega,⟨by omega,λj hj v=>?_⟩,av.keep (by simp[w]) (by simp)⟩;by_cases e:j=i;subst e;exact o;exact ho j hj (by omega);simp;rw[d0 c ho o];simp[c];rw[cw (λj hj=>ho j hj (by omega))]
theorem tq(pre:aG)(zs:List SL)(a:aG){i n:Nat}{ys:List SL}(hn:ys.length=n)(h:i+n<=zs.length):
 List.take (pre.length+i*4) (nD pre zs a)++((ys.flatMap pT).map (λv=>SV.pv (.lit v))++List.drop (pre.length+i*4+n*4) (nD pre zs a))=nD pre (zs.take i++ys++zs.drop (i+n)) a:=by
 subst hn;unfold nD;have:=ti pre (zs.flatMap pT) a (i:=i*4) (ys:=ys.flatMap pT) (by rw[l6,l6];omega);rw[l6]at this;rw[this];congr 1;rw[XU,XU];have ht:∀k,(zs.flatMap pT).take (k*4)=(zs.take k).flatMap pT:=λk=>by
  apply Wv;intro t;rw[Wg,cT iW (by omega),cT iW (by omega),Wg];by_cases c:t<k*4;rw[Vt c,Vt (by omega)];rw[Vs c,Vs (by omega)];rfl
 have hd:∀k,(zs.flatMap pT).drop (k*4)=(zs.drop k).flatMap pT:=λk=>by
  apply Wv;intro t;rw[Wk,cT iW (by omega),cT iW (by omega),Wk];have b:(k*4+t)/4=k+t/4:=by omega
  have d:(k*4+t) %4=t %4:=by omega
  rw[b,d]
 rw[ht,show i*4+ys.length*4=(i+ys.length)*4 by omega,hd]
theorem Mh(pre:aG)(zs:List SL)(a:aG){i:Nat}(y:SL)(h:i<zs.length):
 List.take (pre.length+i*4) (nD pre zs a)++((wU y).map SV.pv++List.drop (pre.length+i*4+4) (nD pre zs a))=nD pre (zs.set i y) a:=by
 have:=tq pre zs a (i:=i) (n:=1) (ys:=[y]) rfl (by omega);simp only[Yi,Z4,WF,aay]at this;rw[show(wU y).map SV.pv=(pT y).map (λv=>SV.pv (.lit v))from rfl,this];congr 1;rw[XC,Vt h];simp
theorem vU(k:Nat)(pre:aG)(zs:List SL)(a:aG):cA k (nD pre zs a):=vh k pre _ a
theorem vV(zs:List SL)(hl:zs.length<=1000000)(g:Nat)(cap:aD)(p:SL->Bool)(P:∀r,eG r cap=cap)(hp:gm cap=false)(I:∀k,b7 k cap)(ho:nQ cap)
 (h:∀x,aw prog g (.agg (wU x)::cap) (λr=>r=.pv (BL (p x)))):qP prog 149 4 (dW pT zs) [.fn (.func g) [] cap] (Vo p zs):=by
 have hI:=I7 zs hl g cap p P hp I ho h;refine qP.ofRows iW uj (by kernel_rfl) ⟨⟨trivial,ho⟩,trivial⟩ ⟨⟨trivial,I 0⟩,trivial⟩ (λad pre b cp aa ab=>?_) (λhe q cp=>?_)
 .refine lg aP func149 ?_;have R:=EK pre b zs cp hl g cap p P hp I ho h;simp;refine ay.intro R ?_;rintro _ _ ⟨rfl,rfl⟩;by_cases c:∃i,∃h:i<zs.length,p zs[i]=true∧∀j (hj:j<zs.length),j<i->p zs[j]=false;rotate_left;have u:∀j (hj:j<zs.length),p zs[j]=false:=by
   intro j
   induction j using Nat.strongRecOn with
   |ind j ih=>
    intro hj;cases e:p zs[j];rfl;exact absurd ⟨j,hj,e,λk hk V=>ih k V hk⟩ c
  have hd:=B7 p zs λx hx=>by
   obtain⟨j,hj,rfl⟩:=VE hx;exact u j hj
  rw[cw u];simp;exact⟨some zs.length,zs,⟨by rw[hd],by rw[hd];simp⟩,rfl,λm W=>by cases W;exact Vu _,rfl,rfl⟩;obtain⟨A,G,H,u⟩:=c;rw[d0 G u H];have X:=dU A;have K:rN p (zs.take A)=zs.take A:=B7 p _ λx hx=>by
   obtain⟨j,hj,rfl⟩:=VE hx;rw[Vy]at hj;rw[WE];exact u j (by omega) (by omega)
  simp;refine aM.intro (S:=λ(y:Nat×List SL)=>⟨[(0,.pv (.bsl 0 4 pre.length zs.length cp)),(1,.pv (.fn (.func g) [] cap)),(5,.pv (ak ((rN p (zs.take y.1)).length:Nat))),(6,.pv (ak y.1))],[nD pre y.2 b]⟩)
   (λy=>y.1<=zs.length∧(rN p (zs.take y.1)).length<y.1∧y.2.length=zs.length∧y.2.take (rN p (zs.take y.1)).length=rN p (zs.take y.1)∧y.2.drop y.1=zs.drop y.1) (λy=>zs.length -y.1) (A+1,zs) ?_ ?_ ?_
  refine av.keep ?_ rfl;have:(rN p (zs.take (A+1))).length=A:=by rw[vT p zs G,Vt H,K,Vy];omega
  simp[X,this];have:rN p (zs.take (A+1))=zs.take A:=by rw[vT p zs G,Vt H,K]
  refine⟨by dsimp only;omega,?_,rfl,?_,rfl⟩;dsimp only;rw[this,Vy];omega;dsimp only;rw[this,Vy];congr 1;omega;rintro⟨j,a⟩ ⟨h1,Z,N,J,O⟩;dsimp only at h1 Z N J O;by_cases Q:j<zs.length;have hw:=dU j;have T:a[j]'(by omega)=zs[j]:=by
   have:=Xp (λl=>l[0]?) O;simp only[Wk,Ye]at this;rw[Vq (by omega),Vq Q]at this;exact Yb this
  have f:j<a.length:=by omega
  have B:=gR pre a b f (t:=0) (by omega);have C:=gR pre a b f (t:=1) (by omega);have D:=gR pre a b f (t:=2) (by omega);have E:=gR pre a b f (t:=3) (by omega);have F:=o8 pre a b f;have L:=GN pre a b f;rw[T]at B C D E F L;simp[pT]at B C D E F;have s:=ou pre a b;have hx:=h zs[j];simp only[wU]at hx;have d:=vT p zs Q;simp[Q,P,hp,I,B,C,D,E,F,L,s,wU];refine⟨by omega,ap.intro hx ?_⟩;cases M:p zs[j];rw[M]at d;simp only[We,WM]at d;have Y:=dU ((rN p (zs.take j)).length);have z:=Mh pre a b (i:=(rN p (zs.take j)).length) zs[j] (by omega);simp only[wU,VP,Xg,Wh,V8]at z;simp[s];refine⟨by omega,by omega,(j+1,a.set (rN p (zs.take j)).length zs[j]),by(try dsimp only);omega,⟨by(try dsimp only);omega,?_,by(try dsimp only);rw[VQ];exact N,?_,?_⟩,av.to ?_ (by simp[z]) (by simp) (by simp[I]) (by simp[vU])⟩;dsimp only;rw[d,Vz,Wi];omega;dsimp only;rw[d,Vz,Wi,Wj,Yw (Vu _),J,VZ (by omega)];rfl;dsimp only;rw[Yh (by omega)];have:=Xp (List.drop 1) O
  rwa [Wx,Wx]at this
  simp[hw,Y,d];rw[M]at d;simp only[Xl]at d;simp;refine⟨(j+1,a),by dsimp only;omega,⟨by dsimp only;omega,by dsimp only;rw[d];omega,N,by dsimp only;rw[d];exact J,?_⟩,av.to (by simp[hw,d]) rfl (by simp) (by simp[I]) (by simp[vU])⟩;dsimp only;have:=Xp (List.drop 1) O
  rwa [Wx,Wx]at this
  have:j=zs.length:=by omega
  subst this;rw[VX]at Z J;have s:=ou pre a b;have o:=tq pre a b (i:=(rN p zs).length) (n:=zs.length -(rN p zs).length) (ys:=List.replicate (zs.length -(rN p zs).length) QW) (by simp) (by omega);have U:((List.replicate (zs.length -(rN p zs).length) QW).flatMap pT).map (λv=>SV.pv (.lit v))=(List.replicate (zs.length -(rN p zs).length) [SV.pv (PV.lit (Value.int IntKind.i64 0)),SV.pv (PV.lit (Value.int IntKind.i64 0)),SV.pv (PV.lit (Value.slice none 0 0)),SV.pv (PV.lit (Value.slice none 0 0))]).flatten:=by
   rw[List.flatMap_def,ZE,Xq,Xq];rfl
  rw[U]at o;simp[N];refine⟨⟨by omega,by omega⟩,by omega,by omega,⟨by omega,by omega⟩,some (rN p zs).length,rN p zs++List.replicate (zs.length -(rN p zs).length) QW,⟨rfl,rfl⟩,by simp;omega,λm W=>by cases W;omega,rfl,?_⟩;rw[o,J,VS (by omega),WF];rfl
 subst he;refine aB aP func149 ?_;simp;refine ap.intro (hI.conv ⟨_,_,rfl,λw v hv=>⟨q,cp,hv,VH _,.inl rfl⟩,_,_,rfl,by rw[P];exact PV.as.refl _,rfl⟩) ?_ (by simp[hp]);rw[cw (λj hj=>by simp at hj)];simp;exact⟨some 0,⟨rfl,rfl⟩,.inr rfl,rfl⟩
section
def fT(x:Stp):aD:=[ak x.kind,ak x.id,.seq true 1 (am x.lits),.seq true 1 (am x.hints)]
@[simp] theorem ow(k:Nat)(l:List Stp):bV k (l.map fT):=by
 induction l with
 |nil=>trivial
 |cons x xs a=>exact⟨⟨trivial,trivial,br k _,br k _,trivial⟩,a⟩
@[simp] theorem RS(r:Nat->Nat->PV)(l:List Stp):mA r (l.map fT)=l.map bd:=by
 rw[cN,Wo];apply XE;intro x _;simp[fT,bd]
theorem l7(l:List Stp):Da (l.map fT):=by
 induction l with
 |nil=>trivial
 |cons x xs a=>exact⟨⟨trivial,trivial,by simp,by simp,trivial⟩,a⟩
def I8:List Stp->List SL->Prop
 |[],[]=>True
 |s::ss,z::zs=>s.kind=z.k∧s.id=z.id∧I8 ss zs
 |_,_=>False
theorem I8.len:∀{ss:List Stp}{zs:List SL},I8 ss zs->zs.length=ss.length
 |[],[],_=>rfl
 |s::ss,z::zs,⟨_,_,h⟩=>by rw[VR,VR,I8.len h]
theorem Qa{G:Gh}:∀{ss:List Stp}{vs:aG},aK G 4 (ss.map fT) vs->∃zs:List SL,vs=zs.flatMap pT∧I8 ss zs
 |[],vs,h=>⟨[],h,trivial⟩
 |s::ss,vs,⟨v,w,h1,r,k,l⟩=>by
  obtain⟨zs,i,j⟩:=Qa l;obtain⟨d,t,b1,c1,e,u,b2,c2,a3,r3,b3,⟨p,n,f,_,_⟩,a4,o,b4,⟨q,m,g,_,_⟩,c4⟩:=k;have c:o=[]:=c4;have a:d=.int .i64 s.kind:=c1;have b:e=.int .i64 s.id:=c2;subst c b4 b3 b2 b1 a b f g i h1;exact⟨⟨s.kind,s.id,p,_,n,q,_,m⟩::zs,rfl,rfl,rfl,j⟩
theorem EL{G:Gh}{p:Int->Int->Bool}:∀{ss:List Stp}{zs:List SL},I8 ss zs->aK G 4 (ss.map fT) (zs.flatMap pT)->aK G 4 ((ss.filter λs=>!p s.kind s.id).map fT) ((rN (λx=>p x.k x.id) zs).flatMap pT)∧(rN (λx=>p x.k x.id) zs).length=(ss.filter λs=>!p s.kind s.id).length
 |[],[],_,_=>⟨rfl,rfl⟩
 |s::ss,z::zs,⟨j,l,hk⟩,⟨f,m,h1,d,e,g⟩=>by
  rw[Yi]at h1;have i:pT z=f∧zs.flatMap pT=m:=by
   have h:(pT z).length=f.length:=by
    have:=e.length;rw[d.1]at this;rw[this];rfl
   exact List.append_inj h1 h
  obtain⟨rfl,rfl⟩:=i;obtain⟨b,c⟩:=EL (p:=p) hk g;unfold rN at b c⊢;have a:p z.k z.id=p s.kind s.id:=by rw[j,l]
  rw[Wl,Wl];cases hp:p s.kind s.id;simp only[a,hp,aam,Xl,VP,Yi,VR];exact⟨⟨pT z,_,rfl,d,e,b⟩,by rw[c]⟩;simp only[a,hp,aar,We,WM];exact⟨b,c⟩
theorem B8{α:Type}{enc:α->aG}{G:Gh}{e:Nat}:∀{zs:List α}{vs:aG},aK G e (dW enc zs) vs->vs=zs.flatMap enc
 |[],vs,h=>h
 |z::zs,vs,⟨m,n,h1,k,g,i⟩=>by
  have:∀{l:aG}{b:aG},ax G (l.map PV.lit) b->b=l:=by
   intro l
   induction l with
   |nil=>exactλh=>h
   |cons x l j=>
    rintro b ⟨v,r,c,d,f⟩;have a:v=x:=d;rw[c,a,j f]
  rw[h1,B8 i,this g];rfl
def QX:aD:=[ak 0,ak 0,.lit (.slice none 0 0),.lit (.slice none 0 0)]
theorem B9{G:Gh}{e:Nat}:∀{xs ys:aT}{a vs:aG},aK G e xs a->aK G e ys vs->aK G e (xs++ys) (a++vs)
 |[],ys,a,vs,h,k=>by
  have:a=[]:=h;subst this;exact k
 |x::xs,ys,a,vs,⟨f,g,h1,b,c,d⟩,k=>by
  subst h1;rw[VV];exact⟨f,g++vs,rfl,b,c,B9 d k⟩
theorem yf{G:Gh}:∀n,aK G 4 (List.replicate n QX) ((List.replicate n QW).flatMap pT)
 |0=>rfl
 |n+1=>by
  rw[Yv,Yv,Yi];exact⟨pT QW,_,rfl,⟨rfl,λv a=>uj QW v a⟩,⟨_,_,rfl,rfl,_,_,rfl,rfl,_,_,rfl,rfl,_,_,rfl,rfl,rfl⟩,yf n⟩
def tt(p:Int->Int->Bool)(ss:List Stp):List Stp:=ss.filter λs=>!p s.kind s.id
theorem Aa(ss:List Stp)(V:ss.length<=1000000)(g:Nat)(cap:aD)(p:Int->Int->Bool)(L:∀r,eG r cap=cap)(hp:gm cap=false)(K:∀k,b7 k cap)(ho:nQ cap)
 (h:∀x:SL,aw prog g (.agg (wU x)::cap) (λr=>r=.pv (BL (p x.k x.id)))):
 qP prog 149 4 (ss.map fT) [.fn (.func g) [] cap] (λk rows=>k=some (tt p ss).length∧rows=(tt p ss).map fT++List.replicate (ss.length -(tt p ss).length) QX):=by
 have U:(tt p ss).length<=ss.length:=WR _ _;refine⟨by kernel_rfl,λB w c b arr T pre vs F H h1 N O P J Q R=>?_,λt w q b H h1=>?_⟩;obtain⟨zs,rfl,z⟩:=Qa J;have v:=z.len;have f:=vV zs (by omega) g cap (λx=>p x.k x.id) L hp K ho h;have i:(dW pT zs).length=(ss.map fT).length:=by unfold dW;simp[v]
 have y : dW pT zs ≠ [] := λ e => B (by
  have:=Xp List.length e;rw[i]at this;exact WA.1 this)
 have j:=f.2.1 y w c b arr T pre (zs.flatMap pT) F H h1 N (by rw[i];exact O) (by rw[i];exact P) (ka iW uj _ zs) Q R;rw[i]at j;refine j.mono λe w' ⟨k,E,I,⟨l,n⟩,M,hk,t,d,m,a,o,u⟩=>?_;have D:=B8 (by have:=u (dZ w) (ka iW uj _ zs);rw[n]at this;exact this);obtain⟨_,s⟩:=EL (G:=oL w c) (p:=p) z J;refine⟨k,(tt p ss).map fT++List.replicate (ss.length -(tt p ss).length) QX,I,⟨by rw[l,s];rfl,rfl⟩,by simp;omega,hk,t,d,m,a,o,λG S=>?_⟩;obtain⟨A,_⟩:=EL (p:=p) z S;rw[D,XU];refine B9 A ?_;rw[s,v];exact yf _;have C:ss=[]:=Zj.1 t;subst C;have f:=vV [] (by simp) g cap (λx=>p x.k x.id) L hp K ho h;refine(f.2.2 rfl w q b H h1).mono λe w' ⟨k,⟨l,n⟩,hk,t,d,m,a⟩=>?_;exact⟨k,⟨by rw[l];rfl,rfl⟩,hk,t,d,m,a⟩
theorem EM(g:ao)(x:Stp)(l:List Stp)(a:l.length<=999999):aI prog 76 [.seq false 4 ((x::l).map bd)] g (λr g'=>g'=g∧r=.own true 4 ((x::l).map bd)):=by
 refine lg aP func76 ?_;simp;omega
def Ml:Sch:=
 let G:Sch:=.fork [(10,.fork [(11,.fork [(12,.fork [(13,.fork [(14,.fork [(15,.done)])])])])])]
 let F:Sch:=.fork [(9,G)]
 let E:Sch:=.fork [(6,F)]
 .take 0 (.take 1 (.take 2 (.take 3 (.take 4 (.take 7 (.fork [(5,.fork [(6,.fork [(8,F)]),(8,E)]),(8,.fork [(5,E)])]))))))
theorem EO(ss:List Stp)(u:ss≠[])(w:ss.length<=1000000)(hs:∀s∈ss,s.lits.length<=1000000∧s.hints.length<=1000000):aw prog 89 [.seq false 4 (ss.map bd)] (λr=>r=.own true 4 (ss.map fT)):=by
 refine re [5] aP func89 ?_;have v:∀g,aI prog 76 [.seq false 4 (ss.map bd)] g (λr g'=>g'=g∧r=.own true 4 (ss.map bd)):=λg=>by
  cases ss with
  |nil=>exact absurd rfl u
  |cons x l=>exact EM g x l (by simp at w;omega)
 obtain⟨Q,b⟩:∃Q:Nat->aT,∀i,Q i=(ss.take i).map fT++(ss.drop i).map bd:=⟨_,λ_=>rfl⟩;have f:Q 0=ss.map bd:=by rw[b];rfl
 have j:Q ss.length=ss.map fT:=by rw[b];simp
 have n:∀i,i<=ss.length->(Q i).length=ss.length:=λi hi=>by rw[b];simp;omega
 simp;refine ap.introM (v _) ?_;rintro _ _ ⟨rfl,rfl⟩;simp;refine aM.intro (S:=λ(i:Nat)=>⟨[(3,.own true 4 (Q i)),(8,.pv (.seq false 4 (ss.map bd))),(9,.pv (ak ss.length)),(10,.pv (ak i))],[]⟩) (λi=>i<=ss.length) (λi=>ss.length -i) 0 ?_ (VH _) ?_;exact av.keep (by simp[f]) rfl;intro i hi;have a:=n i hi;by_cases d:i<ss.length
 .have y:=dU i;have e:ss[i]?=some ss[i]:=Vq d;have c:=hs _ (Vx d);have p:=dy ss[i].lits c.1;have q:=dy ss[i].hints c.2;have m:(Q i)[i]'(by omega)=[ak ss[i].kind,ak ss[i].id,.seq false 1 (am ss[i].lits),.seq false 1 (am ss[i].hints)]:=by
   simp only[b];rw[Xz (by simp;omega)];simp[bd,WL hi]
  have o:(Q i).set i [ak ss[i].kind,ak ss[i].id,.seq true 1 (am ss[i].lits),.seq true 1 (am ss[i].hints)]=Q (i+1):=by
   rw[b,b,XG _ _ (by simp;omega),Ws d,V1,VV];congr 1;rw[VA,Vy,WL hi,Xr,V3 d];rfl
  have h:∀k,bV k (Q (i+1)):=λk=>by
   rw[b];exact(pJ k _ _).2 ⟨ow k _,BX k _⟩
  simp[d,e,bd,a];refine bP.one Ml (by kernel_rfl) ?_;simp[Ml,d,e,bd,a];and_intros
  all_goals
   refine ap.intro p ?_;simp[d,e,bd,a];refine ap.intro q ?_;simp[d,e,bd,a];exact⟨i+1,by(try dsimp only);omega,by(try dsimp only);omega,av.to (by simp[y,m,o,bd]) rfl (by simp) (by simp[h]) (by simp)⟩
 have t:i=ss.length:=by omega
 subst t;simp[j]
theorem yg(ss:List Stp)(c:ss.length<=1000000)(hs:∀s∈ss,s.lits.length<=1000000∧s.hints.length<=1000000):aw prog 89 [.seq false 4 (ss.map bd)] (λr=>r=.own true 4 (ss.map fT)):=by
 by_cases a:ss=[];subst a;have b:aw prog 76 [.seq false 4 []] (λr=>r=.own true 4 []):=by
  refine aw.own0 (R:=λr=>r=.own true 4 []∨r=.pv (.lit (.slice none 0 0))) ?_ (λr h=>h.imp id λh=>⟨h,true,4,rfl⟩);refine aB aP func76 ?_;simp
 refine re [5] aP func89 ?_;simp;refine ap.intro b ?_;simp;refine aM.intro (S:=λ(i:Nat)=>⟨[(3,.own true 4 []),(9,.pv (ak 0)),(10,.pv (ak 0))],[]⟩) (λi=>True) (λi=>0) 0 ?_ trivial ?_;exact av.keep (by simp) rfl;intro i _;simp;exact EO ss a c hs
def Mm(pl:Bool)(m:aS)(k id:Int):Bool:=pl&&(decide (k≠1)||decide ((lk m id).getD 0=0))
theorem Pa(pl:Bool)(m:aS)(x:SL):aw prog 148 [.agg (wU x),.iptr 1 [[BL pl]] 0 0,.iptr 1 [[.amap false (aL fI m)]] 0 0] (λr=>r=.pv (BL (Mm pl m x.k x.id))):=by
 refine aB aP func148 ?_;unfold Mm;cases pl;simp[wU];by_cases c:x.k=1;simp[wU,c];simp[wU,c]
def sQ(v:Int)(L:au)(ss:List Stp):List Stp:=tt (Mm (lF v L ss) (eI v L ss)) ss
theorem Ab(v:Int)(L:au)(ss:List Stp)(hn:L.length+ss.length<=90000)(d:∀c∈L,c.length<=100000)(hs:∀s∈ss,s.lits.length<=100000∧s.hints.length<=100000):
 aw prog 86 [.agg [ak v,.seq false 1 (L.map aF)],.seq false 4 (ss.map bd)] (λr=>r=.pv (.tup [if(fc v L ss).2≠0 then .lit (.slice none 0 0)else .seq true 4 ((sQ v L ss).map fT),ak (fc v L ss).2])):=by
 refine iF [] [.tmp 4,.tmp 5] aP func86 ?_;have a:=sP v L ss hn d hs;have f:=l4 v L ss hn d hs;have e:=yg ss (by omega) (λs h=>by have:=hs s h;omega);have g:sQ v L ss=tt (Mm (lF v L ss) (eI v L ss)) ss:=rfl;generalize sQ v L ss=T at*;generalize fc v L ss=C at*;obtain⟨c1,c2⟩:=C;simp only at*;simp;by_cases c:c2=0;rotate_left;rw[Vt c]at a;refine ap.intro a ?_;simp[c];subst c;rw[Vs (by simp)]at a;refine ap.intro a ?_;simp;refine ap.intro f ?_;simp;refine ap.intro e ?_ (by simp[l7]);have b:=Aa ss (by omega) 148 [.iptr 1 [[BL (lF v L ss)]] 0 0,.iptr 1 [[.amap false (aL fI (eI v L ss))]] 0 0] (Mm (lF v L ss) (eI v L ss)) (λr=>by simp) rfl (λk=>by simp) (by simp) (λx=>Pa _ _ x);rw[←g]at b;generalize T=T at*;simp;refine ap.introX (cd.introS (o:=.slot 24) (lo:=0) (hi:=ss.length) b (by simp) rfl rfl (by simp) (by simp) rfl (by simp;rw[VT (by simp)]) (by simp) (by simp) (by simp[bE]) ?_);rintro _ _ ⟨rfl,rfl⟩ _ i;simp
end
theorem eW(l:af):(aN l).length=l.length:=by unfold aN;simp
theorem EP(l:af)(sp:bj){i:Nat}(h:i<l.length):(aN l++sp)[i]?=some (.pv (ak l[i])):=by
 rw[Vv (by rw[eW];exact h)];unfold aN;rw[VO,Vq h];rfl
theorem EQ(l:af)(sp:bj){i:Nat}(y:Int)(h:i<l.length):(aN l++sp).take i++SV.pv (ak y)::(aN l++sp).drop (i+1)=aN (l.set i y)++sp:=by
 rw[Wd (by rw[eW];omega),WB (by rw[eW];omega)];unfold aN;rw[Zn,XC,Vt (by simpa using h)];simp
theorem Ca(l:af)(sp:bj){i n:Nat}(h:i+n<=l.length):(aN l++sp).take i++(List.replicate n (SV.pv (ak 0))++(aN l++sp).drop (i+n))=aN (l.take i++List.replicate n 0++l.drop (i+n))++sp:=by
 rw[Wd (by rw[eW];omega),WB (by rw[eW];omega)];unfold aN;simp[Xn,Yj]
theorem Ac(H:ao)(b:Nat)(zs:af)(sp:bj)(a:H[b]?=some (aN zs++sp))(n:Nat):tI (bE H (n+1) b 0) 1 zs.length=.seq false 1 (am zs):=by
 have e:H.getD b []=aN zs++sp:=by rw[Vr,a];rfl
 simp only[bE,tI,e,VA];rw[Vt ⟨trivial,by rw[Vz,eW];omega⟩];congr 1;unfold aN;simp only[V1,Wo];rw[YW,Xw (by simp),Wo];rfl
theorem o9(k:Nat){sp:bj}(h:cA k sp):∀l:af,cA k (aN l++sp)
 |[]=>h
 |_::l=>⟨trivial,o9 k h l⟩
theorem Cb(H:ao)(b b2 cp:Nat)(zs:af)(sp:bj)(hH:H[b]?=some (aN zs++sp))(ar:∀k,cA k sp)(hl:zs.length<=1000000)(aC:0<zs.length)(aB:zs.length<=cp)(g:Nat)(X:PV)(p:Int->Bool)(ai:∀r,jD r X=X)(aq:gm [X]=false)(ae:∀k,X.bel k)(ad:b2<H.length)
 (hX:∀a,bE (H.set b (aN a++sp)) 3 b2 0=X)
 (h:∀x∈zs,aw Tryz.prog g [ak x,X] (λr=>r=.pv (BL (p x)))):
 aI Tryz.prog 150 [.bsl b 1 0 zs.length cp,.fn (.func g) [] [.ptr b2 0]] H (λr h'=>h'=H.set b (aN (bq p zs++List.replicate (zs.length -(bq p zs).length) 0)++sp)∧r=.pv (.bsl b 1 0 (bq p zs).length cp)):=by
 refine aI.below (by kernel_rfl) λhh=>?_;refine lg aP Tryz.func150 ?_;have hI:=lQ zs hl g [X] p (λr=>by simp[ai]) aq (λk=>⟨ae k,trivial⟩) h;obtain⟨J,Y⟩:=Vp.1 hH;obtain⟨G,w⟩:∃G:af->ao,∀a,G a=H.set b (aN a++sp):=⟨_,λ_=>rfl⟩;have B:H=G zs:=by rw[w,←Y];exact(Xs J).symm
 have O:∀a,(G a).length=H.length:=λa=>by rw[w,VQ]
 have u:∀a,(G a)[b]?=some (aN a++sp):=λa=>by rw[w,VZ J]
 have N:∀a,bE (G a) 3 b2 0=X:=λa=>by rw[w];exact hX a
 have v:∀a d,(G a).set b (aN d++sp)=G d:=λa d=>by rw[w,w,YD]
 have aA:∀a:af,a.length=zs.length->tI (bE (G a) 3 b 0) 1 zs.length=.seq false 1 (am a):=λa hc=>by
  have:=Ac (G a) b a sp (u a) 2
  rwa [hc]at this
 have Z:tI (bE H 3 b 0) 1 zs.length=.seq false 1 (am zs):=Ac H b zs sp hH 2;have aa:bE H 3 b2 0=X:=by have:=N zs;rwa [←B]at this
 have ab:∀a,H.set b (aN a++sp)=G a:=λa=>(w a).symm;have az:∀a,er H.length (G a):=λa=>by
  rw[w];refine b9 ?_ b hh;exact o9 _ (ar _) a
 simp only[ab];obtain⟨L,m⟩:∃L:af->bj,∀a,L a=aN a++sp:=⟨_,λ_=>rfl⟩;have u:∀a,(G a)[b]?=some (L a):=λa=>by rw[m];exact u a
 have v:∀a d,(G a).set b (L d)=G d:=λa d=>by rw[m];exact v a d
 simp[Z,aa];refine ay.introP hI ?_;by_cases c:∃i,∃h:i<zs.length,p zs[i]=true∧∀j (hj:j<zs.length),j<i->p zs[j]=false;rotate_left;have t:∀j (hj:j<zs.length),p zs[j]=false:=by
  intro j
  induction j using Nat.strongRecOn with
  |ind j ih=>
   intro hj;cases e:p zs[j];rfl;exact absurd ⟨j,hj,e,λk hk an=>ih k an hk⟩ c
 have hd:=jQ p zs λx hx=>by
  obtain⟨j,hj,rfl⟩:=VE hx;exact t j hj
 rw[cw t];simp;rw[hd];simp;exact B;obtain⟨A,I,K,t⟩:=c;rw[d0 I t K];have au:=dU A;have P:bq p (zs.take A)=zs.take A:=jQ p _ λx hx=>by
  obtain⟨j,hj,rfl⟩:=VE hx;rw[Vy]at hj;rw[WE];exact t j (by omega) (by omega)
 simp;refine aM.intro (S:=λ(y:Nat×af)=>⟨[(0,.pv (.bsl b 1 0 zs.length cp)),(1,.pv (.fn (.func g) [] [.ptr b2 0])),(5,.pv (ak ((bq p (zs.take y.1)).length:Nat))),(6,.pv (ak y.1))],G y.2⟩)
  (λy=>y.1<=zs.length∧(bq p (zs.take y.1)).length<y.1∧y.2.length=zs.length∧y.2.take (bq p (zs.take y.1)).length=bq p (zs.take y.1)∧y.2.drop y.1=zs.drop y.1) (λy=>zs.length -y.1) (A+1,zs) ?_ ?_ ?_
 have:(bq p (zs.take (A+1))).length=A:=by rw[gd p zs I,Vt K,P,Vy];omega
 exact av.keep (by simp[au,this]) B;have:bq p (zs.take (A+1))=zs.take A:=by rw[gd p zs I,Vt K,P]
 refine⟨by dsimp only;omega,?_,rfl,?_,rfl⟩;dsimp only;rw[this,Vy];omega;dsimp only;rw[this,Vy];congr 1;omega;rintro⟨j,a⟩ ⟨h1,h2,V,M,W⟩;dsimp only at h1 h2 V M W;have E:b<(G a).length:=by rw[O];exact J
 have Q:b2<(G a).length:=by rw[O];exact ad
 obtain⟨_,C⟩:=Vp.1 (u a);have aj:=N a;have s:(L a).length=zs.length+sp.length:=by rw[m,Vz,eW,V]
 by_cases U:j<zs.length;have hw:=dU j;have ag:a[j]'(by omega)=zs[j]:=by
  have:=Xp (λl=>l[0]?) W;simp only[Wk,Ye]at this;rw[Vq (by omega),Vq U]at this;exact Yb this
 have q:=EP a sp (i:=j) (by omega);rw[ag,←m]at q;have R:j<zs.length+sp.length:=by omega
 have D:(L a)[j]'(by omega)=.pv (ak zs[j]):=by
  have:=Vp.1 q;exact this.2
 have hx:=h zs[j] (Vx U);have f:=gd p zs U;have z:=EQ a sp (i:=(bq p (zs.take j)).length) zs[j] (by omega);rw[←m,←m]at z;have F:=v a (a.set (bq p (zs.take j)).length zs[j]);simp[U,E,Q,C,q,D,R,aj,s];refine ay.introP hx ?_;cases T:p zs[j];rw[T]at f;simp only[We,WM]at f;have ax:=dU ((bq p (zs.take j)).length);simp[E,C,s];refine⟨by omega,by omega,(j+1,a.set (bq p (zs.take j)).length zs[j]),by(try dsimp only);omega,⟨by(try dsimp only);omega,?_,by(try dsimp only);rw[VQ];exact V,?_,?_⟩,av.keep (by simp[hw,ax,f]) (by dsimp only;rw[z];exact F)⟩;dsimp only;rw[f,Vz,Wi];omega;dsimp only;rw[f,Vz,Wi,Wj,Yw (Vu _),M,VZ (by omega)];rfl;dsimp only;rw[Yh (by omega)];have:=Xp (List.drop 1) W
 rwa [Wx,Wx]at this
 rw[T]at f;simp only[Xl]at f;simp;refine⟨(j+1,a),by dsimp only;omega,⟨by dsimp only;omega,by dsimp only;rw[f];omega,V,by dsimp only;rw[f];exact M,?_⟩,av.keep (by simp[hw,f]) rfl⟩;dsimp only;have:=Xp (List.drop 1) W
 rwa [Wx,Wx]at this
 have:j=zs.length:=by omega
 subst this;rw[VX]at h2 M;have o:=Ca a sp (i:=(bq p zs).length) (n:=zs.length -(bq p zs).length) (by omega);have ah:a.drop ((bq p zs).length+(zs.length -(bq p zs).length))=[]:=VS (by omega);rw[M,ah,WF,←m,←m]at o;have F:=v a (bq p zs++List.replicate (zs.length -(bq p zs).length) 0);simp[E,C,s];exact⟨⟨by omega,by omega⟩,by omega,by omega,⟨by omega,by omega⟩,by rw[←F,←o]⟩
section
open Go.Proofs Go.Proofs.Tryz Go.Maps Go.Shelf
theorem Cc(l:af):(List.map (List.map SV.pv∘λx=>[ak x]) l).flatten=aN l:=by
 induction l with
 |nil=>rfl
 |cons x xs a=>rw[VP,Yu,a];rfl
theorem ET(h:ao)(v:Int)(L:au)(ss:List Stp)(hn:L.length+ss.length<=90000)(f:∀c∈L,c.length<=100000)(hs:∀s∈ss,s.lits.length<=100000∧s.hints.length<=100000)(h0:(fc v L ss).2=0)(j:∀q∈eI v L ss,xD q.1)(i:(eI v L ss).length<=1000000)(a:gt v L ss≠[]):
 aI prog 85 [.agg [ak v,.seq false 1 (L.map aF)],.seq false 4 (ss.map bd)] h (λr h'=>∃cp M,(gt v L ss).length<=cp∧h'=h++[[.pv (ak v),.pv (.seq false 1 (L.map aF))],[.pv (.amap false M)],aN (gt v L ss)++List.replicate (cp -(gt v L ss).length) (.pv .bot)]∧r=.pv (.tup [.bsl (h.length+2) 1 0 (gt v L ss).length cp,ak 0])):=by
 refine aI.below (by kernel_rfl) λk=>?_;refine dh [2] [.tmp 4,.tmp 5] aP func85 ?_;have e:=sP v L ss hn f hs;have d:gt v L ss=if(fc v L ss).2≠0 then[]else bM ((eI v L ss).map (·.1)):=rfl;generalize gt v L ss=D at*;generalize fc v L ss=C at*;obtain⟨c1,c2⟩:=C;simp only at*;subst h0;simp;rw[Vs (by simp)]at d e;subst d;have g:=qz fI (eI v L ss) j i;refine ap.intro e ?_;simp;refine jF.blk [16] ?_;simp;refine ap.introM (qC _ (.amap false (aL fI (eI v L ss))) (.inl ⟨_,_,rfl⟩) (λ_=>by simp)) ?_;rintro _ _ ⟨rfl,rfl⟩;simp;refine ap.introX (cd.ptr1 (b:=h.length+1) (y0:=.amap false (aL fI (eI v L ss))) g (by simp) (by simp) rfl (by simp) (by simp) (by simp) (by simp) (by simp) ?_);simp[Cc,a]
theorem vW(k:Nat):∀n,cA k (List.replicate n (.pv .bot))
 |0=>trivial
 |n+1=>⟨trivial,vW k n⟩
theorem Ad(nw:Bool)(g:Nat)(cap:aD)(c:∀r,eG r cap=cap)(hp:gm cap=false)(b:∀k,b7 k cap):aw prog 150 [.seq nw 1 [],.fn (.func g) [] cap] (λr=>r=.pv (.seq nw 1 [])):=by
 refine aB aP func150 ?_;have a:=lQ [] (by simp) g cap (λ_=>false) c hp b (λx hx=>absurd hx Ys);simp[hp,c,b];have hi:gD (λ_:Int=>false) []=-1:=rfl;rw[hi]at a;simp only[am,Xg]at a;refine ap.intro a ?_;simp
theorem Mn(a:PV)(L:au)(id:Int):aw prog 151 [ak id,.iptr 2 [[a,.seq false 1 (L.map aF)]] 0 0] (λr=>r=.pv (BL (decide ((L.length:Int)<id)))):=by
 refine aB aP func151 ?_;simp
def jH(v:Int)(L:au)(ss:List Stp):af:=bq (λid=>decide ((L.length:Int)<id)) (gt v L ss)
theorem GO(v:Int)(L:au)(ss:List Stp)(hn:L.length+ss.length<=90000)(j:∀c∈L,c.length<=100000)(hs:∀s∈ss,s.lits.length<=100000∧s.hints.length<=100000)(hk:(fc v L ss).2=0->(∀q∈eI v L ss,xD q.1)∧(eI v L ss).length<=1000000∧gt v L ss≠[]∧(gt v L ss).length<=1000000):
 aI prog 87 [.agg [ak v,.seq false 1 (L.map aF)],.seq false 4 (ss.map bd)] [] (λr h'=>h'=[]∧r=.pv (.tup [.seq false 1 (am (jH v L ss)),ak (fc v L ss).2])):=by
 refine LC [] [.tmp 4,.tmp 5] aP func87 ?_;have a:jH v L ss=bq (λid=>decide ((L.length:Int)<id)) (gt v L ss):=rfl;generalize jH v L ss=C at*;simp;by_cases c:(fc v L ss).2=0;obtain⟨h1,m,i,n⟩:=hk c;have b:=λh=>ET h v L ss hn j hs c h1 m i;generalize gt v L ss=D at*;rw[c];refine ap.introM (b _) ?_;rintro _ _ ⟨cp,M,g,rfl,rfl⟩;simp;have e:=Cb [[.pv (ak v),.pv (.seq false 1 (L.map aF))],[.pv (ak v),.pv (.seq false 1 (L.map aF))],[.pv (.amap false M)],aN D++List.replicate (cp -D.length) (.pv .bot)] 3 0 cp D (List.replicate (cp -D.length) (.pv .bot)) rfl (λk=>vW k _) n (WJ.2 i) g 151 (.iptr 2 [[ak v,.seq false 1 (L.map aF)]] 0 0) (λid=>decide ((L.length:Int)<id)) (λr=>by simp) rfl (λk=>by simp) (by simp) (λl=>by simp[bE,frzC]) (λx _=>Mn _ L x);refine ay.intro e ?_ trivial;rintro _ _ ⟨rfl,rfl⟩;simp;exact⟨_,rfl,_,_,rfl,⟨rfl,VH _,C,[],List.replicate (D.length -C.length) (.pv (ak 0))++List.replicate (cp -D.length) (.pv .bot),rfl,by rw[a],by rw[a];simp[aN],rfl⟩,_,_,rfl,rfl,rfl⟩;have b:=ye v L ss hn j hs (λh=>absurd h c);have o:gt v L ss=[]:=Vt c;rw[o]at b a;have d:C=[]:=a;subst d;have f:=Ad false 151 [.iptr 2 [[ak v,.seq false 1 (L.map aF)]] 0 0] (λr=>by simp) rfl (λk=>by simp);refine ap.intro b ?_;simp[am,bE];refine ap.intro f ?_;simp;exact⟨_,rfl,_,_,rfl,⟨_,rfl,rfl⟩,_,_,rfl,rfl,rfl⟩
end
section
theorem GP(v:Int)(L:au)(o:L.length<=1000000)(j:∀c∈L,c.length<=1000000):aw Tryz.prog 66 [.agg [ak v,.seq false 1 (L.map aF)],.lit (.slice none 0 0)] (λr=>r=.pv (.agg [ak v,.seq true 1 (L.map f9)])):=by
 refine iF [] [.cell 4 _] aP Tryz.func66 ?_;obtain⟨M,a⟩:∃M:Nat->aT,∀i,M i=(L.take i).map f9:=⟨_,λ_=>rfl⟩;have d:M 0=[]:=by rw[a];rfl
 have e:M L.length=L.map f9:=by rw[a,VX]
 have g:∀i (c:i<L.length),M (i+1)=M i++[f9 L[i]]:=λi c=>by rw[a,a,Wj,Vq c,V1];rfl
 have f:∀i,(M i).length<=L.length:=λi=>by rw[a,VA,Vy];exact ZF _ _
 simp;refine aM.intro (S:=λ(i:Nat)=>⟨[(2,.pv (.ptr 0 0)),(4,.pv (.ptr 1 0)),(5,.pv (.ptr 2 0)),(1,.pv (.lit (.slice none 0 0))),(14,.pv (.seq false 1 (L.map aF))),(15,.pv (ak L.length)),(16,.pv (ak i))],[[.pv (ak v),.pv (.seq false 1 (L.map aF))],[.pv (ak 0),.pv (.lit (.slice none 0 0))],[.pv (ak v),.own true 1 (M i)]]⟩) (λi=>i<=L.length) (λi=>L.length -i) 0 ?_ (VH _) ?_;exact(av.nilCell (b:=2) (k:=1) (xs:=[.pv (ak v),.pv (.lit (.slice none 0 0))]) 1 true (by simp) (by simp)).trans (av.keep (by simp[d]) (by simp[d]));intro i hi;by_cases c:i<L.length;have n:=dU i;have l:=g i c;have h:=dy L[i] (j _ (Vx c));have m:=f i;simp[c,aF];refine bW.intro (by exact h) ?_;simp;exact⟨by omega,i+1,by(try dsimp only);omega,by(try dsimp only);omega,av.keep (by simp[n]) (by simp[l,f9])⟩;have:i=L.length:=by omega
 subst this;simp;refine aM.intro (S:=λ(_:Unit)=>⟨[(4,.pv (.ptr 1 0)),(5,.pv (.ptr 2 0)),(28,.pv (.lit (.slice none 0 0))),(29,.pv (ak 0)),(30,.pv (ak 0))],[[.pv (ak v),.pv (.seq false 1 (L.map aF))],[.pv (ak 0),.pv (.lit (.slice none 0 0))],[.pv (ak v),.own true 1 (M L.length)]]⟩) (λ_=>True) (λ_=>0) () ?_ trivial ?_;exact av.keep (by simp) rfl;intro _ _;simp[e]
end
def Pb(C:af):Nat->aS
 |0=>[]
 |i+1=>pt (Pb C i) (C.getD i 0) ((i+1:Nat):Int)
def Pc(C:af)(T:List Stp):Nat->aS
 |0=>Pb C C.length
 |j+1=>pt (Pc C T j) ((T.map (·.id)).getD j 0) ((C.length+j+1:Nat):Int)
def Mo(m:aS)(h:Int):Int:=(lk m h).getD 0
def EU(m:aS)(s:Stp):Stp:=⟨s.kind,Mo m s.id,s.lits,s.hints.map (Mo m)⟩
def wV(C:af)(T:List Stp):Nat->List Stp
 |0=>[]
 |j+1=>wV C T j++(T[j]?.toList.map (EU (Pc C T (j+1))))
def jB(L:au)(id:Int):af:=L.getD (id -1).toNat []
def EV(v:Int)(L:au)(ss:List Stp):PV:=
 if(fc v L ss).2≠0 then .tup [.agg [ak 0,.lit (.slice none 0 0)],.lit (.slice none 0 0),ak (fc v L ss).2]
 else if lF v L ss=false then .tup [.agg [ak v,.seq true 1 (L.map f9)],.seq true 4 (ss.map fT),ak 0]
 else .tup [.agg [ak v,.seq true 1 ((jH v L ss).map λid=>f9 (jB L id))],.seq true 4 ((wV (jH v L ss) (sQ v L ss) (sQ v L ss).length).map fT),ak 0]
theorem vX(C:af)(T:List Stp):∀j,j<=T.length->(wV C T j).length=j
 |0,_=>rfl
 |j+1,h=>by
  rw[wV,Vz,vX C T j (by omega),Vq (by omega)];rfl
theorem tu(v:Int)(L:au)(ss:List Stp)(hn:L.length+ss.length<=90000)(w:∀c∈L,c.length<=100000)(hs:∀s∈ss,s.lits.length<=100000∧s.hints.length<=100000)(hk:(fc v L ss).2=0->(∀q∈eI v L ss,xD q.1)∧(eI v L ss).length<=1000000∧gt v L ss≠[]∧(gt v L ss).length<=1000000)
 (hc:(fc v L ss).2=0->lF v L ss=true->∀id∈jH v L ss,1<=id∧id<=L.length):
 aw Tryz.prog 41 [.agg [ak v,.seq false 1 (L.map aF)],.seq false 4 (ss.map bd)] (λr=>r=.pv (EV v L ss)):=by
 refine iF [] [.cell 4 _,.tmp 5,.tmp 6] aP Tryz.func41 ?_;have Q:=GO v L ss hn w hs hk;have ay:=l4 v L ss hn w hs;have D:=Ab v L ss hn w hs;have U:=yg ss (by omega) (λs h=>by have:=hs s h;omega);have aA:=GP v L (by omega) (λs h=>by have:=w s h;omega);obtain⟨R,l⟩:∃R,R=EV v L ss:=⟨_,rfl⟩;rw[←l];unfold EV at l;generalize hT:sQ v L ss=T at*;have aN:T.length<=ss.length:=by rw[←hT];exact WR _ _
 have az:∀s∈T,s.lits.length<=100000∧s.hints.length<=100000:=λs h=>hs s (by rw[←hT]at h;exact(V9.1 h).1);have g:(fc v L ss).2=0->(jH v L ss).length<=1000000:=λh=>Wb (j7 _ _) (hk h).2.2.2;generalize jH v L ss=C at*;generalize lF v L ss=P at*;clear hk;generalize fc v L ss=E at*;obtain⟨c1,c2⟩:=E;simp only at*;simp;refine ap.introX (cd.pureM (p:=[]) (q:=[]) (zs:=[.agg [ak v,.seq false 1 (L.map aF)],.seq false 4 (ss.map bd)]) (y:=.tup [.seq false 1 (am C),ak c2]) (Q.mono λr h' ⟨_,e⟩=>e) (by simp) rfl (by simp[nY]) (by simp) (by simp) ?_);by_cases c:c2=0;rotate_left;rw[Vt c]at l;subst l;simp[c];subst c;rw[Vs (by simp)]at l D;simp;refine ap.intro ay ?_;cases P;rw[Vt rfl]at l;subst l;simp;refine ap.intro aA ?_;simp;refine ap.intro U ?_ (by simp[l7]);simp;rw[Vs (by simp)]at l;subst l;have hc:=hc rfl rfl;have g:=g rfl;obtain⟨F,hF⟩:∃F:bj,F=[.pv (ak v),.pv (.seq false 1 (L.map aF))]:=⟨_,rfl⟩;obtain⟨M,x⟩:∃M:Nat->aT,∀i,M i=(C.take i).map λid=>f9 (jB L id):=⟨_,λ_=>rfl⟩;have aa:M 0=[]:=by rw[x];rfl
 have B:M C.length=C.map λid=>f9 (jB L id):=by rw[x,VX]
 have ae:∀i (c:i<C.length),M (i+1)=M i++[f9 (jB L C[i])]:=λi c=>by rw[x,x,Wj,Vq c,V1];rfl
 have ad:∀i,i<=C.length->(M i).length=i:=λi hi=>by rw[x,VA,Vy];omega
 obtain⟨N,I⟩:∃N:Nat->aS,∀i,N i=Pb C i:=⟨_,λ_=>rfl⟩;have ag:N 0=[]:=by rw[I];rfl
 have ai:∀i (c:i<C.length),N (i+1)=pt (N i) C[i] ((i+1:Nat):Int):=λi c=>by rw[I,I,Pb,Vr,Vq c];rfl
 simp;refine aM.intro (S:=λ(i:Nat)=>⟨[(1,.pv (.seq false 4 (ss.map bd))),(2,.pv (.ptr 0 0)),(4,.pv (.ptr 1 0)),(9,.pv (.ptr 2 0)),(10,.omap true (aL fI (N i))),(7,.pv (.seq false 1 (am C))),(43,.pv (.seq false 1 (am C))),(44,.pv (ak C.length)),(45,.pv (ak i))],[[.pv (ak v),.pv (.seq false 1 (L.map aF))],[.pv (ak 0),.pv (.lit (.slice none 0 0))],[.pv (ak v),.own true 1 (M i)]]⟩) (λi=>i<=C.length) (λi=>C.length -i) 0 ?_ (VH _) ?_;exact(av.nilCell (b:=2) (k:=1) (xs:=[.pv (ak v),.pv (.lit (.slice none 0 0))]) 1 true (by simp) (by simp)).trans (av.keep (by simp[ag,aL]) (by simp[aa]));intro i hi;by_cases d:i<C.length;have hw:=dU i;obtain⟨q1,q2⟩:=hc _ (Vx d);have hq:C[i]?=some C[i]:=Vq d;obtain⟨e,he⟩:∃e:Nat,C[i]=((e+1:Nat):Int):=⟨C[i].toNat -1,by omega⟩;have oL:bG (C[i] -1)=(e:Int):=by rw[aC (by omega) (by omega)];omega
 have t:e<L.length:=by omega
 have H:L[e]?=some L[e]:=Vq t;have aI:jB L C[i]=L[e]:=by unfold jB;rw[he,Vr,show(((e+1:Nat):Int) -1).toNat=e by omega,H];rfl
 have g:=dy L[e] (by have:=w _ (Vx t);omega);have ab:=ae i d;have ah:=ai i d;have aG:=ad i hi;simp[d,oL,t,H,aF];refine bW.intro g ?_;simp;refine⟨by omega,i+1,by(try dsimp only);omega,by(try dsimp only);omega,av.keep (by simp[hw,ah,aG]) (by simp[ab,f9,aI])⟩;have:i=C.length:=by omega
 subst this;simp;refine ap.intro D ?_ (by simp[l7]);simp;obtain⟨Y,J⟩:∃Y:Nat->aS,∀j,Y j=Pc C T j:=⟨_,λ_=>rfl⟩;have aB:N C.length=Y 0:=by rw[I,J];rfl
 obtain⟨O,u⟩:∃O:Nat->aT,∀j,O j=(wV C T j).map fT:=⟨_,λ_=>rfl⟩;have aj:O 0=[]:=by rw[u];rfl
 have ar:∀j,j<=T.length->(O j).length=j:=λj hj=>by rw[u,VA,vX C T j hj]
 have aD:∀j (e:j<T.length),Y (j+1)=pt (Y j) T[j].id ((C.length+j+1:Nat):Int):=λj e=>by
  rw[J,J,Pc,Vr,VO,Vq e];rfl
 have ax:∀j (e:j<T.length),O (j+1)=O j++[fT (EU (Y (j+1)) T[j])]:=λj e=>by
  rw[u,u,wV,V1,Vq e,J];rfl
 have n:M C.length=C.map λid=>f9 (jB L id):=B;have A:bV 3 (M C.length):=by
  rw[B,show(λid=>f9 (jB L id))=f9∘jB L from rfl,←Wo];exact Bh _ _
 have an:∀j,bV 3 (O j):=λj=>by rw[u];exact ow _ _
 generalize M C.length=MC at n A;refine aM.intro (S:=λ(j:Nat)=>⟨[(4,.pv (.ptr 1 0)),(9,.pv (.ptr 2 0)),(10,.omap true (aL fI (Y j))),(7,.pv (.seq false 1 (am C))),(15,.own true 4 (O j)),(73,.pv (.seq true 4 (T.map fT))),(74,.pv (ak T.length)),(75,.pv (ak j))],[[.pv (ak v),.pv (.seq false 1 (L.map aF))],[.pv (ak 0),.pv (.lit (.slice none 0 0))],[.pv (ak v),.own true 1 MC]]⟩) (λj=>j<=T.length) (λj=>T.length -j) 0 ?_ (VH _) ?_;exact(av.nilOwn (s:=15) 4 true (by simp)).trans (av.keep (by simp[aj,aB]) (by simp));intro j hj;by_cases e:j<T.length;have hw:=dU j;obtain⟨z,hz⟩:∃z:Int,z=((C.length+j+1:Nat):Int):=⟨_,rfl⟩;have aJ:bG ((C.length:Int)+(j:Int)+1)=z:=by rw[hz,aC (by omega) (by omega)];omega
 have hq:T[j]?=some T[j]:=Vq e;have aK:=az _ (Vx e);have K:=dy T[j].lits (by omega);have o:=aD j e;have aq:=ax j e;have aQ:=ar j hj;rw[←hz]at o;have G:lk (Y (j+1)) T[j].id=some z:=by rw[o,cm,Vt rfl]
 simp[e,hq,fT,aJ,←o,G];refine bW.intro K ?_;simp;obtain⟨m,a⟩:∃m:Nat->af,∀k,m k=(T[j].hints.take k).map (Mo (Y (j+1))):=⟨_,λ_=>rfl⟩;have V:m 0=[]:=by rw[a];rfl
 have W:m T[j].hints.length=T[j].hints.map (Mo (Y (j+1))):=by rw[a,VX]
 have X:∀k (f:k<T[j].hints.length),am (m (k+1))=am (m k)++[[ak ((lk (Y (j+1)) T[j].hints[k]).getD 0)]]:=λk f=>by
  rw[a,a,Wj,Vq f,V1];unfold am;rw[V1];rfl
 have Z:∀k,k<=T[j].hints.length->(m k).length=k:=λk hk=>by rw[a,VA,Vy];omega
 refine aM.intro (S:=λ(k:Nat)=>⟨[(4,.pv (.ptr 1 0)),(9,.pv (.ptr 2 0)),(10,.omap true (aL fI (Y (j+1)))),(7,.pv (.seq false 1 (am C))),(15,.own true 4 (O j)),(73,.pv (.seq true 4 (T.map fT))),(74,.pv (ak T.length)),(75,.pv (ak j)),(18,.pv (.ptr 4 0)),(99,.pv (.seq true 1 (am T[j].hints))),(100,.pv (ak T[j].hints.length)),(101,.pv (ak k))],[[.pv (ak v),.pv (.seq false 1 (L.map aF))],[.pv (ak 0),.pv (.lit (.slice none 0 0))],[.pv (ak v),.own true 1 MC],[.pv (ak T[j].kind),.pv (ak T[j].id),.pv (.seq true 1 (am T[j].lits)),.pv (.seq true 1 (am T[j].hints))],[.pv (ak T[j].kind),.pv (ak z),.pv (.seq true 1 (am T[j].lits)),.own true 1 (am (m k))]]⟩) (λk=>k<=T[j].hints.length) (λk=>T[j].hints.length -k) 0 ?_ (VH _) ?_;exact(av.nilCell (b:=4) (k:=3) (xs:=[.pv (ak T[j].kind),.pv (ak z),.pv (.seq true 1 (am T[j].lits)),.pv (.lit (.slice none 0 0))]) 1 true (by simp) (by simp)).trans (av.keep (by simp) (by simp[V,am]));intro k hk;by_cases f:k<T[j].hints.length;have hwk:=dU k;have aH:T[j].hints[k]?=some T[j].hints[k]:=Vq f;have aE:=X k f;have aO:=Z k hk;simp[f,aH];exact⟨by omega,k+1,by(try dsimp only);omega,by(try dsimp only);omega,av.keep (by simp[hwk]) (by simp[aE])⟩;have:k=T[j].hints.length:=by omega
 subst this;simp;refine⟨by omega,j+1,by(try dsimp only);omega,by(try dsimp only);omega,av.to (by simp[hw,aq,W,EU,fT,Mo,G]) rfl (by simp) (by simp[an]) ⟨⟨trivial,ga _ _,trivial⟩,⟨trivial,trivial,trivial⟩,⟨trivial,A,trivial⟩,trivial⟩⟩;have:j=T.length:=by omega
 subst this;have ao:O T.length=(wV C T T.length).map fT:=u _;simp[ao,n]
def EW(cs:au):Bool:=decide (cs.length<=200)&&cs.all λc=>decide (c.length<=50)
theorem I9(v:Int)(cs:au):aw prog 39 [.agg [ak v,.seq false 1 (cs.map aF)]] (λr=>r=.pv (BL (EW cs))):=by
 refine aB aP func39 ?_;by_cases c:(200:Int)<cs.length;have:EW cs=false:=by unfold EW;rw[W7 (by omega),XJ]
 rw[this];simp[c];have c':cs.length<=200:=by omega
 have f:EW cs=cs.all λc=>decide (c.length<=50):=by unfold EW;rw[WP c',Yd]
 rw[f];simp[c];refine aM.intro (S:=λ(i:Nat)=>⟨[(1,.pv (.ptr 0 0)),(3,.pv (ak i))],[[.pv (ak v),.pv (.seq false 1 (cs.map aF))]]⟩) (λi=>i<=cs.length∧∀j (h:j<cs.length),j<i->cs[j].length<=50) (λi=>cs.length -i) 0 ?_ ⟨VH _,λj _ h=>by omega⟩ ?_;exact av.to (by simp) rfl (by simp) (by simp) (by simp);rintro i ⟨hi,hle⟩;by_cases a:i<cs.length;have d:=dU i;by_cases c5:(50:Int)<cs[i].length;have:(cs.all λc=>decide (c.length<=50))=false:=by
  rw[List.all_eq_false];exact⟨cs[i],Vx a,by simp;omega⟩
 rw[this];simp[a,aF,c5];simp[a,aF,c5];refine⟨i+1,by(try dsimp only);omega,⟨by(try dsimp only);omega,λj hj g=>?_⟩,av.to (by simp[d]) rfl (by simp) (by simp) (by simp)⟩;by_cases e:j=i;subst e;omega;exact hle j hj (by omega);have b:i=cs.length:=by omega
 subst b;have:(cs.all λc=>decide (c.length<=50))=true:=by
  rw[Wa];intro x hx;obtain⟨j,hj,rfl⟩:=VE hx;simpa using hle j hj hj
 rw[this];simp
theorem GQ(a b:Stp)(h1:a.kind=b.kind)(c:a.id=b.id)(d:a.lits=b.lits)(e:a.hints=b.hints):a=b:=by
 cases a;cases b;simp at*;exact⟨h1,c,d,e⟩
instance:DecidableEq Stp:=λa b=>decidable_of_iff (a.kind=b.kind∧a.id=b.id∧a.lits=b.lits∧a.hints=b.hints) ⟨λ⟨h1,h2,h3,h4⟩=>GQ a b h1 h2 h3 h4,λh=>by subst h;exact⟨rfl,rfl,rfl,rfl⟩⟩
theorem Ja(a b:List Stp)(v:a.length<=1000000)(o:∀s∈a,s.lits.length<=1000000∧s.hints.length<=1000000):aw prog 88 [.seq false 4 (a.map bd),.seq false 4 (b.map bd)] (λr=>r=.pv (BL (decide (a=b)))):=by
 refine aB aP func88 ?_;simp;refine⟨λh=>λe=>h (by rw[e]),λh=>?_⟩;have g:a.length=b.length:=by omega
 refine aM.intro (S:=λ(i:Nat)=>⟨[(0,.pv (.seq false 4 (a.map bd))),(1,.pv (.seq false 4 (b.map bd))),(5,.pv (ak i))],[]⟩) (λi=>i<=a.length∧∀j (h1:j<a.length),j<i->a[j]=b[j]'(g▸h1)) (λi=>a.length -i) 0 ?_ ?_ ?_;exact av.to (by simp) rfl (by simp) (by simp) (by simp);exact⟨by omega,λj _ hj=>by omega⟩;intro i ⟨hi,ho⟩;by_cases f:i<a.length;have p:=dU i;have l:i<b.length:=by omega
 have c:a[i]?=some a[i]:=Vq f;have d:b[i]?=some b[i]:=Vq l;have hs:=o _ (Vx f);have m:=lj a[i].lits b[i].lits (by omega);have n:=lj a[i].hints b[i].hints (by omega);simp[f,l,c,d,bd];refine eh.intro (λ_=>m) ?_;simp[f,l,c,d,bd];refine eh.intro (λ_=>n) ?_;simp[f,l,c,d,bd];refine⟨λk=>?_,λk=>?_⟩;rintro rfl;simp at k;intro q t u;refine⟨i+1,by(try dsimp only);omega,⟨by omega,λj h1 hj=>?_⟩,av.to (by simp[p,bd]) rfl (by simp) (by simp) (by simp)⟩;by_cases e:j=i;subst e;exact GQ _ _ k q t u;exact ho j h1 (by omega);simp[f];exact xH g λj h1=>ho j h1 (by omega)
theorem aw.wkF{P:aa}{f:az}{args:aD}{R R':SV->Prop}(h:aw P f args R)(j:∀r,R r->∃x y,r=.pv x∧(∀g v,Fit g x v->Fit g y v)∧R' (.pv y)):aw P f args R':=
 ⟨h.1,λw vs k=>(h.2 w vs k).mono λe w' ⟨v,r,g',o,h1,b,c,a,m,d⟩=>by
  obtain⟨x,y,rfl,l,i⟩:=j r b;exact⟨v,.pv y,g',o,h1,i,c,⟨a.1,l _ v a.2⟩,rfl,d⟩⟩
def L3:au:=[[1],[-1],[2]]
def S3:List Stp:=[⟨1,4,[2],[3]⟩,⟨1,5,[],[1,2]⟩]
theorem EX:aw Tryz.prog 84 [] (λr=>r=.pv (.tup [.agg [ak 2,.seq true 1 (L3.map f9)],.seq true 4 (S3.map fT)])):=by
 refine aw.wkF (R:=λr=>r=.pv (.tup [.agg [ak 2,.seq true 1 (L3.map f9)],.seq true 4 [[ak 1,ak 4,.seq true 1 (am [2]),.seq true 1 (am [3])],[ak 1,ak 5,.lit (.slice none 0 0),.seq true 1 (am [1,2])]]])) ?_ λr h=>⟨_,_,h,λg v i=>?_,rfl⟩;refine iF [] [.cell 0 _,.tmp 1] aP Tryz.func84 ?_;simp[L3,f9,am];obtain⟨vs,h1,f⟩:=i;obtain⟨l,j,a,b,m,k,c,d,e⟩:=f;exact⟨vs,h1,l,j,a,b,m,k,c,vf (by simp[OF,pq,bX,cr,S3,fT,am,ic]) d,e⟩
theorem Mp{l l':af}(h:l.Perm l')(hs:l'.Pairwise (·<=·)):bM l=l':=by
 refine ZX (le:=(·<=·)) (λa b _ _ h1 d=>Int.le_antisymm h1 d) ?_ hs ?_;have:=YS (le:=λx y:Int=>decide (x<=y)) (λa b c h1 d=>by simp at*;omega) (λa b=>by simp;omega) l;exact this.imp λh=>by simpa using h
 unfold bM;exact(Xu l _).trans h
theorem rO:fc 2 L3 S3=(2,0):=by decide+kernel
theorem GR:eI 2 L3 S3=[(5,1),(1,1),(2,1)]:=by decide+kernel
theorem GS:lF 2 L3 S3=true:=by decide+kernel
theorem Mq:fc 2 L3 []=(0,25):=by decide+kernel
theorem Mr:lF 2 L3 []=false:=by decide+kernel
theorem Ae:gt 2 L3 S3=[1,2,5]:=by
 unfold gt;rw[rO,GR,Vs (by simp)];exact Mp (by decide) (by decide)
theorem Af:jH 2 L3 S3=[1,2]:=by
 unfold jH;rw[Ae];decide+kernel
theorem GT:sQ 2 L3 S3=[⟨1,5,[],[1,2]⟩]:=by decide+kernel
theorem Pd:EV 2 L3 S3=.tup [.agg [ak 2,.seq true 1 ([[1],[-1]].map f9)],.seq true 4 ([(⟨1,3,[],[1,2]⟩:Stp)].map fT),ak 0]:=by
 unfold EV;rw[rO,GS,Af,GT];rfl
theorem aw.argsB{P:aa}{f:az}{xs ys:aD}{R:SV->Prop}(h:aw P f ys R)(b:BC xs ys):aw P f xs R:=
 ⟨h.1,λw vs a=>h.2 w vs (zQ b a)⟩
theorem aI.argsF{P:aa}{f:az}{xs ys:aD}{h:ao}{R:SV->ao->Prop}(b:aI P f ys h R)(e:∀g vs,ax g xs vs->ax g ys vs):aI P f xs h R:=
 ⟨b.1,λg st a w vs hs c d=>b.2 g st a w vs hs c (e _ _ d)⟩
set_option maxRecDepth 32000 in
theorem iP:aw Tryz.prog 40 [] (λr=>r=.pv (BL true)):=by
 refine aB aP Tryz.func40 ?_;have b:∀c∈L3,c.length<=100000:=by decide
 have f:∀s∈S3,s.lits.length<=100000∧s.hints.length<=100000:=by decide
 have i:∀s∈([]:List Stp),s.lits.length<=100000∧s.hints.length<=100000:=by simp
 have j:(fc 2 L3 S3).2=0->(∀q∈eI 2 L3 S3,xD q.1)∧(eI 2 L3 S3).length<=1000000∧gt 2 L3 S3≠[]∧(gt 2 L3 S3).length<=1000000:=λ_=>by
  rw[GR,Ae];refine⟨?_,by simp,by simp,by simp⟩;intro q w;simp at w;rcases w with rfl|rfl|rfl<;>rfl
 have t:=ye 2 L3 S3 (by decide) b f (λh=>⟨(j h).1,(j h).2.1⟩);have v:=Ab 2 L3 S3 (by decide) b f;have o:=GO 2 L3 S3 (by decide) b f j;have u:=tu 2 L3 S3 (by decide) b f j (λ_ _=>by rw[Af];decide);have d:=(Ab 2 L3 [] (by decide) b i).argsB (xs:=[.agg [ak 2,.seq false 1 (L3.map aF)],.lit (.slice none 0 0)]) (by simp[BC,OF,pq,bX,cr,ic,jS]);have k:=l4 2 L3 S3 (by decide) b f;have a:=(l4 2 L3 [] (by decide) b i).argsB (xs:=[.agg [ak 2,.seq false 1 (L3.map aF)],.lit (.slice none 0 0)]) (by simp[BC,OF,pq,bX,cr,ic,jS]);rw[rO,Ae]at t;rw[rO,GT]at v;rw[rO,Af]at o;rw[Pd]at u;rw[Mq]at d;rw[GS]at k;rw[Mr]at a;have l:=lj [1,2,5] [1,2,5] (by decide);have e:=lj [1,2] [1,2] (by decide);have m:=Ja [⟨1,5,[],[1,2]⟩] [⟨1,5,[],[1,2]⟩] (by decide) (by decide);rw[WP rfl]at l e m;simp[f9,aF,am,fT,bd,L3,S3]at t v o u d k a l e m;have p:aI Tryz.prog 87 ([]++([.agg [ak 2,.seq true 1 [[.seq true 1 [[ak 1]]],[.seq true 1 [[ak (-1)]]],[.seq true 1 [[ak 2]]]]],.seq true 4 [[ak 1,ak 4,.seq true 1 [[ak 2]],.seq true 1 [[ak 3]]],[ak 1,ak 5,.seq true 1 [],.seq true 1 [[ak 1],[ak 2]]]]]++[])) [] (λr _=>r=.pv (.tup [.seq false 1 [[ak 1],[ak 2]],ak 0])):=by
  refine aI.argsF (o.mono λr h' h=>h.2) λg vs H=>?_;obtain⟨P,I,y,⟨O,z,M,K,A,B,N,L,C,D,E⟩,Q,J,F,G,n⟩:=H;exact⟨P,I,y,⟨O,z,M,K,A,B,N,L,C,vf (by simp[OF,pq,bX,cr]) D,E⟩,Q,J,F,vf (by simp[OF,pq,bX,cr]) G,n⟩
 have x:=EX;simp[f9,am,fT,L3,S3]at x;simp;refine ap.intro x ?_;simp;refine ap.intro t ?_;simp;refine ap.intro v ?_;simp;refine ap.introX (cd.pureM p (by simp) rfl (by simp[nY]) (by simp) (by simp) ?_);simp;refine ap.intro u ?_;simp;refine ap.intro d ?_;simp
 first|refine ap.intro l ?_|refine bz.intro (λ_=>l) ?_
 simp
 first|refine ap.intro m ?_|refine bz.intro (λ_=>m) ?_
 simp
 first|refine ap.intro e ?_|refine bz.intro (λ_=>e) ?_
 simp
 first|refine ap.intro e ?_|refine bz.intro (λ_=>e) ?_
 simp
 first|refine ap.intro k ?_|refine bz.intro (λ_=>k) ?_
 simp
 first|refine ap.intro a ?_|refine bz.intro (λ_=>a) ?_
 simp
theorem vY{α:Type}:∀{l:List (Int×α)}{k:Int}{y:α},(∀q∈l,q.1≠k)->pt l k y=l++[(k,y)]
 |[],_,_,_=>rfl
 |(j,x)::l,k,y,h=>by
  rw[pt,Vs (h _ VN),vY λq a=>h q (VG _ a)];rfl
abbrev Ag{α:Type}(l:List (Int×α)):Prop:=l.Pairwise λp q=>p.1<q.1
theorem Ag.lk{α:Type}:∀{l:List (Int×α)},Ag l->∀{k:Int}{x:α},(k,x)∈l->lk l k=some x
 |(j,z)::l,h,k,x,a=>by
  replace h:=XP.1 h;rw[AX.lk];rcases VU.1 a with a|a;cases a;rw[Vt rfl];have:=h.1 _ a;simp only at this;rw[Vs (by omega)];exact Ag.lk h.2 a
theorem GU{α:Type}:∀(l:List (Int×α))(k:Int),(dl l k).Sublist l
 |[],_=>ZY _
 |(j,x)::l,k=>by
  rw[dl];split;exact List.sublist_cons_self _ _;exact(GU l k).cons_cons _
theorem lG{α:Type}:∀(ids:af)(m:List (Int×α)),(ids.foldl dl m).Sublist m
 |[],_=>ZY _
 |id::ids,m=>(lG ids (dl m id)).trans (GU m id)
structure CkG (c:Ck):Prop where
  rs:Ag c.m
  lo:∀q∈c.m,1<=q.1
  hi:∀q∈c.m,q.1<=c.last
  t:0<=c.last∧c.last<=20000000
theorem CkG.put{c:Ck}(h:CkG c){id:Int}{l:af}(h1:c.last<id)(d:id<=20000000):(px c id l).m=c.m++[(id,l)]∧CkG (px c id l):=by
 have e:pt c.m id l=c.m++[(id,l)]:=vY λq a=>by have:=h.hi q a;omega
 have ht:=h.t;have b:(px c id l).m=c.m++[(id,l)]:=e;refine⟨b,⟨?_,?_,?_,?_⟩⟩;rw[b,Ag,Yt];refine⟨h.rs,List.pairwise_singleton _ _,λq a p hp=>?_⟩;rw[VY]at hp;subst hp;have:=h.hi q a;simp only;omega;rw[b];intro q a;rcases VF.1 a with a|a;exact h.lo q a;rw[VY]at a;subst a;simp only;omega;rw[b];intro q a;show q.1<=id;rcases VF.1 a with a|a;have:=h.hi q a;omega;rw[VY]at a;subst a;exact XF _;exact⟨by show 0<=id;omega,d⟩
theorem CkG.drop{c:Ck}(h:CkG c)(ids:af):CkG ⟨ids.foldl dl c.m,c.last,c.done⟩:=by
 have hs:=lG ids c.m;exact⟨h.rs.sublist hs,λq a=>h.lo q (hs.subset a),λq a=>h.hi q (hs.subset a),h.t⟩
theorem CkG.new(L:au)(c:L.length<=100000):∀i,i<=L.length->CkG (cI L i)∧(cI L i).last=i
 |0,_=>⟨⟨List.Pairwise.nil,λq a=>absurd a Ys,λq a=>absurd a Ys,⟨XF _,by show(0:Int)<=20000000;omega⟩⟩,rfl⟩
 |i+1,hi=>by
  obtain⟨h1,b⟩:=CkG.new L c i (by omega);have hs:cI L (i+1)=qA (cI L i) L[i]:=bf qA _ L i (by omega);have d:bG ((cI L i).last+1)=((i+1:Nat):Int):=by rw[b,aC (by omega) (by omega)];omega
  rw[hs];unfold qA;rw[d];exact⟨(h1.put (by omega) (by omega)).2,rfl⟩
theorem Jb{s:Stp}(h:vH [s]=0):g8 s=true:=by
 rw[rM]at h;split at h;assumption;cases h
theorem kn{c:Ck}{s:Stp}(h:(cB c s).2=0):g8 s=true∧((s.kind=2∧dropB c s.hints=false∧cB c s=(⟨s.hints.foldl dl c.m,c.last,c.done⟩,0))∨
 (s.kind=1∧c.last<s.id∧gN s.lits=false∧gF c s.hints=true∧sO c s.lits s.hints=0∧cB c s=(px c s.id s.lits,0))):=by
 by_cases hp:vH [s]=0;rotate_left;unfold cB at h;rw[Vt hp]at h;exact absurd h hp;have g:=Jb hp;refine⟨g,?_⟩;by_cases b:s.kind=2;have e:cB c s=(oq c s.hints,rK c s.hints):=by unfold cB;rw[Vs (by simp[hp]),Vt b]
 rw[e]at h;have a:dropB c s.hints=false:=by
  cases a:dropB c s.hints;rfl;unfold rK at h;rw[Vt a]at h;cases h
 refine .inl ⟨b,a,?_⟩;rw[e];unfold oq rK ki;rw[Vs (by rw[a];simp),Vs (by rw[a];simp),VX];have e:cB c s=vQ c s:=by unfold cB;rw[Vs (by simp[hp]),Vs b]
 rw[e]at h⊢;have h1:=(ui g).1.resolve_right b;right;unfold vQ at h⊢;by_cases f:s.id<=c.last;rw[Vt f]at h;cases h;rw[Vs f]at h⊢;by_cases d:gN s.lits=true;rw[Vt d]at h;cases h;rw[Vs d]at h⊢;by_cases a3:gF c s.hints=false;rw[Vt a3]at h;cases h;rw[Vs a3]at h⊢;by_cases a4:sO c s.lits s.hints≠0;rw[Vt a4]at h;exact absurd h a4;rw[Vs a4];exact⟨h1,by omega,by simpa using d,by simpa using a3,by simpa using a4,rfl⟩
theorem Jc{c:Ck}{s:Stp}(h0:g8 s=true)(h1:s.kind=1)(e:c.last<s.id)(a:gN s.lits=false)(b:gF c s.hints=true)(d:sO c s.lits s.hints=0):cB c s=(px c s.id s.lits,0):=by
 unfold cB;rw[Vs (by rw[rM,Vt h0];simp),Vs (by omega)];unfold vQ;rw[Vs (by omega),Vs (by rw[a];simp),Vs (by rw[b];simp),Vs (by rw[d];simp)]
theorem m6{c:Ck}(b:CkG c){s:Stp}(h:(cB c s).2=0):CkG (cB c s).1∧c.last<=(cB c s).1.last:=by
 obtain⟨e,h|h⟩:=kn h;rw[h.2.2];exact⟨b.drop _,XF _⟩;obtain⟨_,a,_,_,_,d⟩:=h;rw[d];have:=(ui e).2.2;exact⟨(b.put a (by omega)).2,Int.le_of_lt a⟩
theorem EY{hs:af}(h:∀x∈hs,0<=x):rI hs=(hs,[]):=by
 have:∀i,i<=hs.length->c9 hs i=(hs.take i,[]):=by
  intro i
  induction i with
  |zero=>intro _;rfl
  |succ i a=>
   intro hi;rw[qx hs (by omega),a (by omega)];have:=h hs[i] (Vx _);unfold nC;rw[Vs (by omega),Vt rfl,Wj,Vq (by omega)];rfl
 unfold rI;rw[this _ (Vu _),VX]
theorem Ms{h:Int}(h1:1<=h)(a:h<=20000000):zZ h=h:=by
 unfold zZ;rw[aC (by omega) (by omega),Vs (by omega)]
theorem ox{c:Ck}(a:CkG c){s:Stp}(h:qB c s=true):∀x∈s.hints,∃y,(x,y)∈c.m∧1<=x∧x<=c.last:=by
 unfold qB at h;rw[VC,Wa]at h;intro x hx;obtain⟨y,hy⟩:=XV.1 (h.1 x hx);have:=vP hy;exact⟨y,this,a.lo _ this,a.hi _ this⟩
theorem m7{c:Ck}{s:Stp}{ss:List Stp}(h:ji c (s::ss)=true):(s.kind=1->qB c s=true)∧(cB c s).2=0∧ji (cB c s).1 ss=true:=by
 rw[ji]at h;split at h;cases h;rename_i hn;rw[aac]at hn;refine⟨λk=>?_,by simpa using hn.2,h⟩;cases e:qB c s;exact absurd ⟨k,e⟩ hn.1;rfl
theorem qD:∀{ss:List Stp}{c:Ck},CkG c->ji c ss=true->∀t∈ss,t.kind=1->c.last<t.id
 |s::ss,c,f,h,t,ht,hk=>by
  obtain⟨h1,a,e⟩:=m7 h;obtain⟨d,g2⟩:=m6 f a;rcases VU.1 ht with rfl|ht;rcases(kn a).2 with b|b;omega;exact b.2.1;have:=qD d e t ht hk;omega
def yh(m:aS)(k:Int):Prop:=0<(lk m k).getD 0
instance (m:aS) (k:Int):Decidable (yh m k):=by unfold yh;infer_instance
def tT(n:Nat)(m:aS):Prop:=∀k,0<=(lk m k).getD 0∧(lk m k).getD 0<=n
theorem Cd{m:aS}{n:Nat}(h:tT n m)(hn:n<=1000000000)(k x:Int):(lk (kU m k) x).getD 0=if k=x then(lk m k).getD 0+1 else(lk m x).getD 0:=by
 unfold kU;rw[cm];have:=h k;rw[aC (by omega) (by omega)];split<;>rfl
theorem Mt{m:aS}{n:Nat}(h:tT n m)(hn:n<=1000000000)(k:Int):tT (n+1) (kU m k):=λx=>by
 rw[Cd h hn];have:=h k;have:=h x;split<;>omega
theorem Ce:∀(hs:af){m:aS}{n:Nat},tT n m->n+hs.length<=1000000000->tT (n+hs.length) (hs.foldl kU m)∧∀x,yh (hs.foldl kU m) x↔(x∈hs∨yh m x)
 |[],m,n,h,_=>⟨h,λx=>by simp⟩
 |k::hs,m,n,h,hn=>by
  rw[VR]at hn;obtain⟨h1,b⟩:=Ce hs (Mt h (by omega) k) (by omega);rw[Yl];refine⟨by rw[VR];rwa [show n+1+hs.length=n+(hs.length+1)from(by omega)]at h1,λx=>?_⟩;rw[b,VU];have hx:yh (kU m k) x↔(x=k∨yh m x):=by
   unfold yh;rw[Cd h (by omega)];have:=h k;constructor;intro h0;split at h0;rename_i e;exact .inl e.symm;exact .inr h0;rintro(e|e);rw[Vt e.symm];omega;split;omega;exact e
  rw[hx];constructor;rintro(a|a|a);exact .inl (.inr a);exact .inl (.inl a);exact .inr a;rintro((a|a)|a);exact .inr (.inl a);exact .inl a;exact .inr (.inr a)
theorem Cf{m:aS}{n:Nat}(h:tT n m)(s:Stp)(hn:n+s.hints.length<=1000000000):tT (n+s.hints.length) (EH m s)∧∀x,yh (EH m s) x↔((s.kind=1∧yh m s.id∧x∈s.hints)∨yh m x):=by
 unfold EH;by_cases c:s.kind=1∧0<(lk m s.id).getD 0;rw[Vt c];obtain⟨h1,b⟩:=Ce s.hints h hn;refine⟨h1,λx=>?_⟩;rw[b];constructor;rintro(a|a);exact .inl ⟨c.1,c.2,a⟩;exact .inr a;rintro(a|a);exact .inl a.2.2;exact .inr a;rw[Vs c];refine⟨λk=>⟨(h k).1,by have:=(h k).2;omega⟩,λx=>?_⟩;constructor;exact .inr;rintro(a|a);exact absurd ⟨a.1,a.2.1⟩ c;exact a
def gT:List Stp->Nat
 |[]=>0
 |s::ss=>gT ss+s.hints.length
theorem Mu{ss:List Stp}{b:Nat}(h:∀s∈ss,s.hints.length<=b):gT ss<=ss.length*b:=by
 induction ss with
 |nil=>exact VH _
 |cons s ss a=>
  have h1:=a λt ht=>h t (VG _ ht);have c:=h s VN;rw[gT,VR,Xm];omega
theorem Cg{m:aS}{n:Nat}(h:tT n m):∀(ss:List Stp),n+gT ss<=1000000000->tT (n+gT ss) (mZ m ss)
 |[],_=>h
 |s::ss,hn=>by
  rw[gT]at hn⊢;have:=(Cf (Cg h ss (by omega)) s (by omega)).1
  rwa [Xf]at this
theorem yi{m:aS}{n:Nat}(h:tT n m)(s:Stp)(ss:List Stp)(hn:n+gT (s::ss)<=1000000000)(x:Int):yh (mZ m (s::ss)) x↔((s.kind=1∧yh (mZ m ss) s.id∧x∈s.hints)∨yh (mZ m ss) x):=by
 rw[gT]at hn;exact(Cf (Cg h ss (by omega)) s (by omega)).2 x
def Ord:List Stp->Prop
 |[]=>True
 |s::ss=>(∀t∈ss,t.kind=1->s.kind=1->t.id∉s.hints)∧(s.kind=1->s.id∉s.hints)∧Ord ss
theorem tv{m:aS}{n:Nat}(h:tT n m):∀(ss:List Stp),n+gT ss<=1000000000->Ord ss->∀s∈ss,s.kind=1->yh (mZ m ss) s.id->∀x∈s.hints,yh (mZ m ss) x
 |s::ss,hn,ho,t,ht,hk,a,x,hx=>by
  have b:n+gT ss<=1000000000:=by rw[gT]at hn;omega
  rw[yi h s ss hn]at a⊢;rcases VU.1 ht with rfl|ht;rcases a with a|a;exact absurd a.2.2 (ho.2.1 hk);exact .inl ⟨hk,a,hx⟩;rcases a with a|a;exact absurd a.2.2 (ho.1 t ht hk a.1);exact .inr (tv h ss b ho.2.2 t ht hk a x hx)
theorem yk:∀{ss:List Stp}{c:Ck},CkG c->ji c ss=true->Ord ss
 |[],_,_,_=>trivial
 |s::ss,c,a,h=>by
  obtain⟨h1,e,d⟩:=m7 h;obtain⟨b,g2⟩:=m6 a e;refine⟨λt ht hk hs hin=>?_,λhs hin=>?_,yk b d⟩;obtain⟨y,_,_,f⟩:=ox a (h1 hs) _ hin;have:=qD b d t ht hk;omega;obtain⟨y,_,_,f⟩:=ox a (h1 hs) _ hin;have:=qD a h s VN hs;omega
theorem qE(L:au):∀i,i<=L.length->((cI L i).done=true↔∃c∈L.take i,c=[])
 |0,_=>by
  constructor;intro h;cases h;rintro⟨c,b,_⟩;rw[Zb]at b;exact absurd b Ys
 |i+1,hi=>by
  have hs:cI L (i+1)=qA (cI L i) L[i]:=bf qA _ L i (by omega);have d:=qE L i (by omega);rw[hs];show((cI L i).done||decide (L[i].length=0))=true↔_;rw[Wj,Vq (by omega),WI,d,YC,WA];constructor;rintro(⟨c,h1,a⟩|h);exact⟨c,WG _ h1,a⟩;exact⟨_,Xi _ (by simp),h⟩;rintro⟨c,h1,a⟩;rcases VF.1 h1 with h1|h1;exact .inl ⟨c,h1,a⟩;simp at h1;subst h1;exact .inr a
theorem v7:∀(L:au)(i:Nat),l5 L i=none↔∀c∈L,c≠[]
 |[],i=>by simp[l5]
 |c::L,i=>by
  rw[l5];by_cases h:c=[];rw[Vt h];simp[h];rw[Vs h,v7 L];simp[h]
theorem tw:∀{ss:List Stp},(∃s∈ss,s.kind=1∧s.lits=[])->∃s∈ss,s.kind=1∧s.lits=[]∧s.id=pS ss
 |s::ss,⟨t,ht,h1,b⟩=>by
  by_cases c:s.kind=1∧s.lits=[];exact⟨s,VN,c.1,c.2,by rw[pS,Vt c]⟩;have a:t∈ss:=by
   rcases VU.1 ht with rfl|ht;exact absurd ⟨h1,b⟩ c;exact ht
  obtain⟨u,d,e,f,g⟩:=tw ⟨t,a,h1,b⟩;exact⟨u,VG _ d,e,f,by rw[pS,Vs c];exact g⟩
theorem Cl(k:Int):tT 1 [(k,1)]:=λx=>by
 rw[lk,lk];split;exact⟨by decide,by decide⟩;exact⟨XF _,by show(0:Int)<=1;decide⟩
theorem Pf(k:Int):yh [(k,1)] k:=by unfold yh lk;rw[Vt rfl];decide
def QZ(L:au)(ss:List Stp)(x:Int):Prop:=yh (ot L ss) x
instance (L:au) (ss:List Stp) (x:Int):Decidable (QZ L ss x):=by unfold QZ;infer_instance
theorem yn{v:Int}{L:au}{ss:List Stp}(h:(fc v L ss).2=0):(d6 v L).2=0∧fc v L ss=jh (jG L) ss 0:=by
 unfold fc at h⊢;split at h;rename_i hn;exact absurd h hn;rename_i hn;exact⟨by simpa using hn,Vs hn⟩
section
variable {v : Int} {L : au} {ss : List Stp} (hn : 1 + gT ss <= 1000000000)
include hn
theorem yo:QZ L ss (fQ L ss):=by
 have:∀l:List Stp,1+gT l<=1000000000->yh (mZ [(fQ L ss,1)] l) (fQ L ss):=by
  intro l
  induction l with
  |nil=>intro _;exact Pf _
  |cons s l a=>intro h;exact(yi (Cl _) s l h _).2 (.inr (a (by rw[gT]at h;omega)))
 exact this ss hn
end
theorem l8{α:Type}:∀(l:List (Int×α))(k:Int)(y:α)(x:Int),x∈(pt l k y).map (·.1)↔x=k∨x∈l.map (·.1)
 |[],k,y,x=>by simp[pt]
 |(j,z)::l,k,y,x=>by
  rw[pt];by_cases c:j=k;rw[Vt c];subst c;simp;rw[Vs c,VP,VU,l8 l k y x,VP,VU];constructor;rintro(h|h|h);exact .inr (.inl h);exact .inl h;exact .inr (.inr h);rintro(h|h|h);exact .inr (.inl h);exact .inl h;exact .inr (.inr h)
theorem gU{α:Type}:∀(l:List (Int×α))(k:Int)(y:α),(l.map (·.1)).Nodup->((pt l k y).map (·.1)).Nodup
 |[],k,y,_=>by simp[pt]
 |(j,z)::l,k,y,h=>by
  rw[VP,Xj]at h;rw[pt];by_cases c:j=k;rw[Vt c,VP,Xj];subst c;exact h;rw[Vs c,VP,Xj,l8];exact⟨λa=>a.elim c h.1,gU l k y h.2⟩
abbrev qQ{α:Type}(m:List (Int×α)):af:=m.map (·.1)
theorem v8(m:aS)(k x:Int):x∈qQ (kU m k)↔x=k∨x∈qQ m:=l8 _ _ _ _
theorem Cm:∀(hs:af)(m:aS),((qQ m).Nodup->(qQ (hs.foldl kU m)).Nodup)∧(hs.foldl kU m).length<=m.length+hs.length∧∀x,x∈qQ (hs.foldl kU m)↔(x∈hs∨x∈qQ m)
 |[],m=>⟨id,Vu _,λx=>by simp⟩
 |k::hs,m=>by
  obtain⟨h1,c,b⟩:=Cm hs (kU m k);rw[Yl];refine⟨λh=>h1 (gU _ _ _ h),?_,λx=>?_⟩;have:(kU m k).length<=m.length+1:=GM _ _ _;rw[VR];omega;rw[b,v8,VU];constructor;rintro(a|a|a);exact .inl (.inr a);exact .inl (.inl a);exact .inr a;rintro((a|a)|a);exact .inr (.inl a);exact .inl a;exact .inr (.inr a)
theorem Cn(m:aS):∀ss:List Stp,((qQ m).Nodup->(qQ (mZ m ss)).Nodup)∧(mZ m ss).length<=m.length+gT ss∧(∀x∈qQ (mZ m ss),x∈qQ m∨∃s∈ss,s.kind=1∧x∈s.hints)∧∀x∈qQ m,x∈qQ (mZ m ss)
 |[]=>⟨id,Vu _,λx h=>.inl h,λx h=>h⟩
 |s::ss=>by
  obtain⟨h1,f,a,b⟩:=Cn m ss;rw[mZ,gT];unfold EH;by_cases c:s.kind=1∧0<(lk (mZ m ss) s.id).getD 0;rw[Vt c];obtain⟨e,g,d⟩:=Cm s.hints (mZ m ss);refine⟨λh=>e (h1 h),by omega,λx hx=>?_,λx hx=>(d x).2 (.inr (b x hx))⟩;rcases(d x).1 hx with hx|hx;exact .inr ⟨s,VN,c.1,hx⟩;rcases a x hx with h|⟨t,ht,h⟩;exact .inl h;exact .inr ⟨t,VG _ ht,h⟩;rw[Vs c];refine⟨h1,by omega,λx hx=>?_,b⟩;rcases a x hx with h|⟨t,ht,h⟩;exact .inl h;exact .inr ⟨t,VG _ ht,h⟩
theorem wb:∀n:Nat,(qQ (gn n)).Nodup∧(gn n).length<=n∧∀x,x∈qQ (gn n)↔(1<=x∧x<=n)
 |0=>⟨by simp[gn],Vu _,λx=>by simp[gn];omega⟩
 |n+1=>by
  obtain⟨h1,b,a⟩:=wb n;rw[gn];refine⟨gU _ _ _ h1,?_,λx=>?_⟩;have:(kU (gn n) ((n+1:Nat):Int)).length<=(gn n).length+1:=GM _ _ _;omega;rw[v8,a];omega
theorem Co:∀(ss:List Stp)(m:aS),((qQ m).Nodup->(qQ (ss.foldl pz m)).Nodup)∧(ss.foldl pz m).length<=m.length+ss.length∧∀x,x∈qQ (ss.foldl pz m)↔(x∈qQ m∨∃s∈ss,s.kind=1∧x=s.id)
 |[],m=>⟨id,Vu _,λx=>by simp⟩
 |s::ss,m=>by
  obtain⟨h1,b,a⟩:=Co ss (pz m s);rw[Yl];have hk:((qQ m).Nodup->(qQ (pz m s)).Nodup)∧(pz m s).length<=m.length+1∧∀x,x∈qQ (pz m s)↔(x∈qQ m∨(s.kind=1∧x=s.id)):=by
   unfold pz;by_cases c:s.kind=1;rw[Vt c];refine⟨λh=>gU _ _ _ h,GM _ _ _,λx=>?_⟩;rw[v8];constructor;rintro(h|h);exact .inr ⟨c,h⟩;exact .inl h;rintro(h|h);exact .inr h;exact .inl h.2;rw[Vs c];exact⟨id,Xt _,λx=>⟨.inl,λh=>h.resolve_right λh=>c h.1⟩⟩
  refine⟨λh=>h1 (hk.1 h),by rw[VR];have:=hk.2.1;omega,λx=>?_⟩;rw[a,hk.2.2];constructor;rintro((h|h)|⟨t,ht,h⟩);exact .inl h;exact .inr ⟨s,VN,h⟩;exact .inr ⟨t,VG _ ht,h⟩;rintro(h|⟨t,ht,h⟩);exact .inl (.inl h);rcases VU.1 ht with rfl|ht;exact .inl (.inr h);exact .inr ⟨t,ht,h⟩
theorem wc{c:Ck}{s:Stp}{ss:List Stp}{i:Nat}(h:(jh c (s::ss) i).2=0):(cB c s).2=0∧(jh (cB c s).1 ss (i+1)).2=0:=by
 rw[jh]at h;split at h;rename_i hn;exact absurd h hn;rename_i hn;exact⟨by simpa using hn,h⟩
theorem yp:∀{ss:List Stp}{c:Ck}{i:Nat},(jh c ss i).2=0->∀s∈ss,g8 s=true
 |s::ss,c,i,h,t,ht=>by
  obtain⟨h1,a⟩:=wc h;rcases VU.1 ht with rfl|ht;exact(kn h1).1;exact yp a t ht
theorem qF:∀{ss:List Stp}{c:Ck}{i:Nat},(jh c ss i).2=0->c.done=true∨∃s∈ss,s.kind=1∧s.lits=[]
 |[],c,i,h=>by
  rw[jh]at h;split at h;exact .inl (by assumption);cases h
 |s::ss,c,i,h=>by
  obtain⟨f,g⟩:=wc h;rcases qF g with b|⟨t,ht,j⟩;rcases(kn f).2 with d|d;rw[d.2.2]at b;exact .inl b;rw[d.2.2.2.2.2]at b;have a:(c.done||decide (s.lits.length=0))=true:=b;rw[WI,YC,WA]at a;rcases a with e|e;exact .inl e;exact .inr ⟨s,VN,d.1,e⟩;exact .inr ⟨t,VG _ ht,j⟩
theorem Cp{s:Stp}(h:g8 s=true)(hk:s.kind=1):1<=s.id∧s.id<=10000000:=by
 unfold g8 at h;rw[Vt hk]at h;simp only[VC,VI]at h;exact⟨h.1,h.2.1⟩
theorem tx:∀{ss:List Stp}{c:Ck},CkG c->ji c ss=true->∀t∈ss,t.kind=1->∀x∈t.hints,1<=x∧x<=20000000
 |s::ss,c,d,h,t,ht,hk,x,hx=>by
  obtain⟨h1,f,g⟩:=m7 h;obtain⟨e,_⟩:=m6 d f;rcases VU.1 ht with rfl|ht;obtain⟨y,_,a,b⟩:=ox d (h1 hk) x hx;have:=d.t;omega;exact tx e g t ht hk x hx
theorem wd:∀{L:au}{i:Nat}{x:Int},l5 L i=some x->∃k:Nat,k<L.length∧x=((i+k+1:Nat):Int)∧L[k]?=some []
 |c::L,i,x,h=>by
  rw[l5]at h;split at h;rename_i e;cases h;exact⟨0,by simp,rfl,by simp[e]⟩;obtain⟨k,h1,a,b⟩:=wd h;exact⟨k+1,by simp;omega,by rw[a];congr 1;omega,by simpa using b⟩
theorem yr{L:au}{ss:List Stp}{i:Nat}(h:(jh (jG L) ss i).2=0):(∃k:Nat,k<L.length∧fQ L ss=((k+1:Nat):Int)∧L[k]?=some [])∨(l5 L 0=none∧∃s∈ss,s.kind=1∧s.lits=[]∧s.id=fQ L ss):=by
 unfold fQ;cases e:l5 L 0 with
 |some x=>
  obtain⟨k,h1,d,f⟩:=wd e;exact .inl ⟨k,h1,by rw[V7,d];congr 1;omega,f⟩
 |none=>
  right;refine⟨rfl,?_⟩;have hd:¬(jG L).done=true:=λhd=>by
   obtain⟨c,a,b⟩:=(qE L L.length (Vu _)).1 hd;rw[VX]at a;exact(v7 L 0).1 e c a b
  exact tw ((qF h).resolve_left hd)
theorem pc{l:af}{x:Int}:x∈bM l↔x∈l:=by
 unfold bM;exact(Xu l _).mem_iff
structure NeedOk (v:Int) (L:au) (ss:List Stp):Prop where
  w:∀q∈eI v L ss,xD q.1
  n:(eI v L ss).length<=1000000
  ne:gt v L ss≠[]
  len:(gt v L ss).length<=1000000
  mem:∀x,x∈gt v L ss↔x∈qQ (eI v L ss)
  one:∀x∈gt v L ss,1<=x∧x<=20000000
  srt:(gt v L ss).Pairwise (·<·)
theorem GX{v:Int}{L:au}{ss:List Stp}(z:L.length<=100000)(hs:ss.length<=100000)(hn:1+gT ss<=1000000)(h:(fc v L ss).2=0):NeedOk v L ss:=by
 obtain⟨h1,r⟩:=yn h;rw[r]at h;have d:=yp h;have key:(qQ (eI v L ss)).Nodup∧(eI v L ss).length<=1000000∧(∀x∈qQ (eI v L ss),1<=x∧x<=20000000)∧qQ (eI v L ss)≠[]:=by
  unfold eI;cases hp:lF v L ss;rw[Vs (by simp)];obtain⟨m,p,a3⟩:=wb L.length;obtain⟨b1,b2,b3⟩:=Co ss (gn L.length);refine⟨b1 m,by show(ss.foldl pz (gn L.length)).length<=_;omega,λx hx=>?_,?_⟩;rcases(b3 x).1 hx with hx|⟨s,f,k,rfl⟩;have:=(a3 x).1 hx;omega;have:=Cp (d s f) k;omega;obtain⟨y,hy⟩:∃y,y∈qQ (ss.foldl pz (gn L.length)):=by
   rcases qF h with hd|⟨s,f,k,_⟩;obtain⟨c,t,_⟩:=(qE L L.length (Vu _)).1 hd;rw[VX]at t;have:=WJ.2 (ZT t);exact⟨1,(b3 1).2 (.inl ((a3 1).2 (by omega)))⟩;exact⟨s.id,(b3 _).2 (.inr ⟨s,f,k,rfl⟩)⟩
  exact ZT hy;rw[Vt rfl];have o:ji (jG L) ss=true:=by unfold lF at hp;rw[Vs (by simp[h1])]at hp;exact hp
  have A:=(CkG.new L z L.length (Vu _)).1;obtain⟨m,p,a3,a4⟩:=Cn [(fQ L ss,1)] ss;have w:1<=fQ L ss∧fQ L ss<=20000000:=by
   rcases yr h with⟨k,i,g,_⟩|⟨_,s,i,g,_,j⟩;omega;have:=Cp (d s i) g;omega
  refine⟨m (by simp),by simp only[Wi]at p;show(mZ _ ss).length<=_;omega,λx hx=>?_,ZT (a4 (fQ L ss) (by simp))⟩;rcases a3 x hx with hx|⟨s,i,g,j⟩;simp at hx;subst hx;exact w;exact tx A o s i g x j
 obtain⟨i,g,j,C⟩:=key;have l:gt v L ss=bM (qQ (eI v L ss)):=by unfold gt;rw[r,Vs (by rw[h];simp)]
 have u:∀x,x∈gt v L ss↔x∈qQ (eI v L ss):=λx=>by rw[l];exact pc
 refine⟨λq B=>?_,g,?_,?_,u,λx hx=>j x ((u x).1 hx),?_⟩;obtain⟨a,b⟩:=j q.1 (WV B);exact EE (by omega) b;rw[l];intro e;obtain⟨x,hx⟩:=ZV _ C;rw[←pc,e]at hx;exact absurd hx Ys;rw[l];unfold bM;rw[WD,VA];exact g;rw[l];have n:(bM (qQ (eI v L ss))).Nodup:=by
  unfold bM;exact(Xu _ _).nodup_iff.2 i
 exact(aaf.2 ⟨kj _,n⟩).imp λ⟨a,b⟩=>by omega
theorem MB{v:Int}{L:au}{ss:List Stp}(h:NeedOk v L ss):(jH v L ss).Pairwise (·<·)∧(∀x,x∈jH v L ss↔(x∈gt v L ss∧x<=L.length))∧∀x∈jH v L ss,1<=x∧x<=L.length:=by
 have a:∀x,x∈jH v L ss↔(x∈gt v L ss∧x<=L.length):=λx=>by
  unfold jH bq;rw[V9];simp
 exact⟨aak _ h.srt,a,λx hx=>⟨(h.one x ((a x).1 hx).1).1,((a x).1 hx).2⟩⟩
theorem GZ(L:au)(b:L.length<=100000):∀n,n<=L.length->(∀i (h:i<L.length),i<n->(((i+1:Nat):Int),L[i])∈(cI L n).m)∧∀q∈(cI L n).m,∃i,∃h:i<L.length,q=(((i+1:Nat):Int),L[i])
 |0,_=>⟨λi _ h=>absurd h (XD i),λq a=>absurd a Ys⟩
 |n+1,hn=>by
  obtain⟨h1,d⟩:=GZ L b n (by omega);obtain⟨c,g2⟩:=CkG.new L b n (by omega);have hs:cI L (n+1)=qA (cI L n) L[n]:=bf qA _ L n (by omega);have g:bG ((cI L n).last+1)=((n+1:Nat):Int):=by rw[g2,aC (by omega) (by omega)];omega
  have f:(cI L (n+1)).m=(cI L n).m++[(((n+1:Nat):Int),L[n])]:=by
   rw[hs];unfold qA;rw[g];exact(c.put (by omega) (by omega)).1
  rw[f];refine⟨λi h hi=>?_,λq a=>?_⟩;by_cases e:i=n;subst e;exact Xi _ (by simp);exact WG _ (h1 i h (by omega));rcases VF.1 a with a|a;exact d q a;rw[VY]at a;exact⟨n,by omega,a⟩
theorem JG{c:af}(h:mW c=0):∀x∈c,dF x=true:=by
 unfold mW at h;split at h;cases h;rename_i a;intro x hx;rw[YA]at a;have:=Xo.1 a x hx;simp only[VI]at this;cases ho:dF x;have h0:0<=bH x:=by omega
 rw[il,ho]at h0;cases h0;rfl
theorem qO{v:Int}:∀{L:au}{i:Nat},(km v L i).2=0↔∀c∈L,iM c v=0∧gN c=false
 |[],i=>by simp[km]
 |c::L,i=>by
  rw[km];by_cases h:iM c v≠0;rw[Vt h];exact⟨λe=>absurd e h,λe=>absurd (e c VN).1 h⟩;rw[Vs h];have h0:iM c v=0:=by simpa using h
  by_cases a:gN c=true;rw[Vt a];refine⟨λe=>absurd e (by show¬((11:Int)=0);decide),λe=>?_⟩;have:=(e c VN).2;rw[a]at this;cases this;rw[Vs a,qO];have b:gN c=false:=by simpa using a
  simp[h0,b]
theorem C7:∀(C:af)(lo hi:Int),C.Pairwise (·<·)->(∀x∈C,lo<=x∧x<=hi)->(C.length:Int)<=hi -lo+1∨C=[]
 |[],_,_,_,_=>.inr rfl
 |x::C,lo,hi,hp,a=>by
  rw[XP]at hp;left;have hx:=a x VN;rw[VR];rcases C7 C (x+1) hi hp.2 (λy hy=>⟨by have:=hp.1 y hy;omega,(a y (VG _ hy)).2⟩)with h|h;omega;subst h;simp;omega
theorem NU{v:Int}{L G:au}(a:∀c∈G,c∈L)(hn:G.length<=1000000)(h:(d6 v L).2=0):(d6 v G).2=0:=by
 unfold d6 at h⊢;split at h;cases h;rename_i h1;rw[Vs h1];split at h;cases h;rw[Vs (by omega)];exact qO.2 λc b=>qO.1 h c (a c b)
end Go.AX
