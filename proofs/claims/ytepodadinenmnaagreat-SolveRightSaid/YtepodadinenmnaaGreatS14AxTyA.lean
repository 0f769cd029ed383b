/-
  The library: a map's keys, sorted, whatever its values; a slice's values, sorted; and what follows.
-/
import Derived.Test.YtepodadinenmnaaGreatS14AxEvG
import Derived.Test.YtepodadinenmnaaGreatS14AxTmL
import Derived.Test.YtepodadinenmnaaGreatS14AxTmQ
import Derived.Test.YtepodadinenmnaaGreatAxR
import Derived.Test.YtepodadinenmnaaGreatAxOw
import Derived.Test.YtepodadinenmnaaGreatAxDl
namespace Go.AX
set_option maxRecDepth 16000
open Go.Proofs Go.Maps Go.Shelf
set_option linter.unusedSimpArgs false
def I0(_:Value):Option (DataW Unit×List MemPlace):=some (.lit (.int .i64 0),[])
def k0(ks:List Int):List (Int×Int):=ks.map λx=>(x,0)
def bD(l:List Int):List Int:=l.mergeSort λx y=>decide (x<=y)
theorem wb{β:Type}{f:β->PV}{G:Gh}:∀{a:List (Int×β)}{en:List MapEntry},bG G (aG f a) en->en.map (·.key)=(a.map (·.1)).map λx=>.int .i64 x
 |[],en,h=>by
  have:en=[]:=h;rw[this];rfl
 |q::a,en,⟨m,r,h1,b,d,c⟩=>by
  subst h1;rw[Th,Th,Th,wb c,b]
section
variable {P : Program} {k : TypeId}
theorem I4(hk:P.underlying k=some (.int .i64)):∀{en:List MapEntry}{ks:List Int},en.map (·.key)=ks.map (λx=>.int .i64 x)->(∀x∈ks,DB x)->
 en.map (WideElems.rg P k I0)=OE (k0 ks)∧∀m∈en,∃y,WideElems.rd P k I0 m=some y
 |[],ks,h,_=>by
  cases ks with
  |nil=>exact⟨rfl,λm e=>by cases e⟩
  |cons _ _=>cases h
 |m::en,ks,h,c=>by
  cases ks with
  |nil=>cases h
  |cons q ks=>
   rw[Th,Th]at h;injection h with h1 d;obtain⟨g,i⟩:=I4 hk d (λq f=>c q (Tf _ f));have b:WideElems.rd P k I0 m=some (.int .i64 q,.lit (.int .i64 0)):=by
    unfold WideElems.rd;rw[h1,keyOf_int_mk hk (c q Tj)];simp[I0]
   refine⟨?_,λj a=>?_⟩
   .rw[Th,g,WideElems.rg_of b];rfl
   .rcases Tp.1 a with rfl|a
    .exact⟨_,b⟩
    .exact i j a
theorem I5{β:Type}{f:β->PV}(hk:P.underlying k=some (.int .i64)){w:World}{c:Nat}{en:Array MapEntry}{ck:Nat}{G:Gh}{a:List (Int×β)}(e:w.heap[c]?=some (.map en ck))(g:bG G (aG f a) en.toList)(b:MapKept.Stamped en ck)
 (i:∀q∈a,DB q.1) (m:a.length<=maxLen):w.ownsMap P k I0 c a.length (Lh (k0 (a.map (·.1)))):=by
 have d:=wb g;have hn:en.size=a.length:=by
  have:=Vk List.length d;simpa using this
 obtain ⟨j, l⟩ := I4 hk d (λ x hx => by
  rw[SY]at hx;obtain⟨q,h,rfl⟩:=hx;exact i q h)
 exact⟨en,ck,e,⟨by omega,b,l⟩,by omega,by unfold Lh;rw[j]⟩
end
theorem LZ(ks:List Int):(k0 ks).map (·.1)=ks:=by
 unfold k0;rw[TT];exact XP ks
theorem QN:bQ Tryz.prog (Tryz.sortedA_ren.t 24)=some (1,8):=by kernel_rfl
theorem pX{β:Type}(f:β->PV)(j:Nat)(a:List (Int×β))(Z:∀q∈a,DB q.1)(J:a.length<=1000000)(A:∀args w,(callFunc j args).run Tryz.prog w=.ok (.enter j args) w)
 (l:∀{H:Type}(d b nn:Nat)(z:DataW H){R:Value->Option (DataW H×List MemPlace)}(w:World),d<w.heap.size->w.cell? ⟨d,0,none⟩=some (.map (some b))->w.ownsMap Tryz.prog (Tryz.sortedA_ren.t 26) R b nn z->SeqGives Fence.wide 2 Tryz.prog j #[.pointer (some ⟨d,0,none⟩)] encZ (λss=>ss.Perm (intKeys z)) (Maps.size z) w):
 F3 Tryz.prog 141 j (.amap false (aG f a)) (.own true 1 ((bD (a.map (·.1))).map λx=>[ab x])):=by
 refine⟨by kernel_rfl,λw d arr T v0 h1 L M=>?_⟩;have i:w.cell? ⟨d,0,none⟩=some v0:=by
  have:arr[0]?=some v0:=by rw[←SR,L];rfl
  simp[World.cell?,h1,this]
 have D:=(S5.1 h1).1;have y:∀(S:List Int->Prop)(N:Nat),N<=1000000->(∀ss,S ss->ss.length<=N)->(∀ss,S ss->bD ss=bD (a.map (·.1)))->SeqGives Fence.wide 2 Tryz.prog j #[.pointer (some ⟨d,0,none⟩)] encZ S N w->
  Calls Tryz.prog 141 #[.func (.func j) #[] #[.pointer (some ⟨d,0,none⟩)]] w λe w'=>∃v g' o,e=.returned v∧PureEnd w w' g'∧az g' w' (.own true 1 ((bD (a.map (·.1))).map λx=>[ab x])) v o∧(SV.own true 1 ((bD (a.map (·.1))).map λx=>[ab x])).inCell=true∧∀c,o=some c->w.heap.size<=c∧g'.I c=none:=by
  intro S N hN E F s;have K:=DD Tryz.sortedA QN Fence.wide 5 trivial trivial trivial trivial rfl (by omega) (Tryz.sortsA _) (enters_of Tryz.func171 (by kernel_rfl) rfl) j #[.pointer (some ⟨d,0,none⟩)] trivial A S N (by unfold maxLen;omega) (by omega) w (iY.of s) E;refine((callsIn_wide (n:=5)).1 K).mono λe w' ⟨v,ss,X,V,g,m,Y,W⟩=>?_;have G:=F ss V;have J:ss.length=(bD (a.map (·.1))).length:=by rw[←G];unfold bD;rw[T9]
  unfold bD at G;rw[G]at g;obtain⟨g',o,B,C,Q,U⟩:=zS J g m W;exact⟨v,g',o,X,B,C,Q,U⟩
 obtain⟨c,en,ck,rfl,O,_,B,C⟩:=M
 .have p:=I5 (P:=Tryz.prog) (k:=Tryz.sortedA_ren.t 26) (by kernel_rfl) O B C Z (by unfold maxLen;omega);have u:Maps.size (Lh (k0 (a.map (·.1))))=a.length:=by rw[HK];unfold k0;rw[SZ,SZ]
  have r:∀ss:List Int,ss.Perm (intKeys (Lh (k0 (a.map (·.1)))))->ss.Perm (a.map (·.1)):=λss h=>by
   have:=h.trans (HJ _)
   rwa [LZ]at this
  refine y _ _ (by rw[u];omega) (λss h=>?_) (λss h=>?_) (l d c a.length (Lh (k0 (a.map (·.1)))) w D i p)
  .rw[(r ss h).length_eq,SZ,u];exact SQ _
  .exact mergeSort_of_perm_i (r ss h)
theorem Cm{β:Type}(f:β->PV)(a:List (Int×β))(i:∀q∈a,DB q.1)(h:a.length<=1000000):
 F3 Tryz.prog 141 312 (.amap false (aG f a)) (.own true 1 ((bD (a.map (·.1))).map λx=>[ab x])):=
 pX f _ a i h (enters_of Tryz.func312 (by kernel_rfl) rfl)
  (λ{_} c b j d {_} w h1 e g=>AnyZI.keys_gives (ρ:=Tryz.keysB_ren) {Tryz.keysB with} Fence.wide 2 trivial rfl (by omega) c b j d w h1 e g)
theorem Cn{β:Type}(f:β->PV)(a:List (Int×β))(i:∀q∈a,DB q.1)(h:a.length<=1000000):
 F3 Tryz.prog 141 229 (.amap false (aG f a)) (.own true 1 ((bD (a.map (·.1))).map λx=>[ab x])):=
 pX f _ a i h (enters_of Tryz.func229 (by kernel_rfl) rfl)
  (λ{_} c b j d {_} w h1 e g=>AnyZI.keys_gives (ρ:=Tryz.keysA_ren) {Tryz.keysA with} Fence.wide 2 trivial rfl (by omega) c b j d w h1 e g)
theorem I6(h:List (List SV))(es:List (Int×PV)):ax Tryz.prog 270 [.amap false es] h (λr h'=>h'=h++[[.pv (.amap false es)]]∧r=.pv (.fn (.func 312) [] [.ptr h.length 0])):=by
 refine ax.below (by kernel_rfl) λa=>?_;refine cI [] [.tmp 2] aC Tryz.func270 ?_;simp
theorem I7(h:List (List SV))(l:List Int):ax Tryz.prog 142 [.seq false 1 (ae l)] h (λr h'=>h'=h++[[.pv (.seq false 1 (ae l))]]∧r=.pv (.fn (.func 218) [] [.ptr h.length 0])):=by
 refine ax.below (by kernel_rfl) λa=>?_;refine cI [] [.tmp 2] aC Tryz.func142 ?_;simp
theorem Co(l:List Int)(Y:l.length<=1000000):F3 Tryz.prog 141 218 (.seq false 1 (ae l)) (.own true 1 (ae (bD l))):=by
 refine⟨by kernel_rfl,λw q arr T v0 h1 L M=>?_⟩;have m:w.cell? ⟨q,0,none⟩=some v0:=by
  have:arr[0]?=some v0:=by rw[←SR,L];rfl
  simp[World.cell?,h1,this]
 have y:=(S5.1 h1).1;have t:iY Fence.wide 2 Tryz.prog 218 #[.pointer (some ⟨q,0,none⟩)] (λss=>ss=l) l.length w:=by
  intro n J W F _ V h0;have k:=(F.cell (p:=⟨q,0,none⟩) y).trans m;obtain⟨p,cap,rfl,G,f⟩:=M
  by_cases i:l=[]
  .subst i;exact(Fq Fence.wide 2 trivial rfl n q cap p J W k h0).mono λe D ⟨i,hj⟩=>⟨i,_,rfl,hj⟩
  .rcases f with f|⟨c,off,g,H,fz,vs,rfl,E,_,S,s⟩
   .unfold ae at f;rw[W6]at f;exact absurd f i
   .have C:=vD S;have u:c<w.heap.size:=(S5.1 E).1;have A:(ae l).length=l.length:=by simp
    rw[A]at k;refine(HN Fence.wide 2 trivial rfl (by omega) n q w.heap.size c off cap l (by omega) u J (λpre x I a b=>(V pre x I a b).mono λe D ⟨a,b,_,d⟩=>⟨a,b,d⟩) W k (λj hj=>?_) h0).mono λe D ⟨i,hj⟩=>⟨i,_,rfl,hj⟩;rw[F.cell (p:=⟨c,off+j,none⟩) u];have z:w.heap[c]?=some (.cells g H fz):=E;obtain⟨tl,B⟩:=s;have:g[off+j]?=some (.int .i64 (l[j]?.getD 0)):=by
     rw[←SR];have R:(g.toList.drop off)[j]?=g.toList[off+j]?:=T5;rw[←R,←B,C,SO (by rw[SZ];exact hj),Tg,SH hj];rfl
    simp[World.cell?,z,this]
 have K:=DD Tryz.sortedA QN Fence.wide 5 trivial trivial trivial trivial rfl (by omega) (Tryz.sortsA _) (enters_of Tryz.func171 (by kernel_rfl) rfl) 218 #[.pointer (some ⟨q,0,none⟩)] trivial (enters_of Tryz.func218 (by kernel_rfl) rfl) (λss=>ss=l) l.length (by unfold maxLen;omega) (by omega) w t (λss h=>by rw[h];exact SQ _);refine((callsIn_wide (n:=5)).1 K).mono λe w' ⟨v,ss,i,U,f,r,X,u⟩=>?_;subst U;obtain⟨g',o,N,O,P,Q⟩:=zS (by rw[T9]) f r u;exact⟨v,g',o,i,N,O,P,Q⟩
end Go.AX
namespace Go.AX
open Go.Proofs
set_option linter.unusedSimpArgs false
theorem F4(n:Int):ak Tryz.prog 272 [ab n] (λr=>r=.pv (BL false)):=by
 refine ap aC Tryz.func272 ?_;simp
theorem I8(a b:Int):ak Tryz.prog 271 [ab a,ab b] (λr=>r=.pv (BL (decide (a<b)))):=by
 refine ap aC Tryz.func271 ?_;simp;refine ah.intro (tg a) ?_;simp;refine aV.intro (r:=.pv (BL false)) (λh:False=>h.elim) ?_;simp
def OZ(l:List Int)(x:Int):Nat:=l.countP λy=>decide (y<x)
theorem N3{l:List Int}{x:Int}{i:Nat}(hi:i<=l.length)(h1:∀k (_:k<l.length),k<i->l[k]<x)(c:∀k (_:k<l.length),i<=k->x<=l[k]):OZ l x=i:=by
 unfold OZ;rw[←TY i l,List.countP_append];have a:(l.take i).countP (λy=>decide (y<x))=(l.take i).length:=Xx.2 λy hy=>by
  obtain⟨k,hk,rfl⟩:=S6 hy;rw[SU]at hk;rw[Ua];exact Uq (h1 k (by omega) (by omega))
 have b:(l.drop i).countP (λy=>decide (y<x))=0:=W9.2 λy hy=>by
  obtain⟨k,hk,rfl⟩:=S6 hy;rw[TF]at hk;rw[List.getElem_drop];have:=c (i+k) (by omega) (by omega);simp;omega
 rw[a,b,SU];omega
def KS(l:List Int)(x:Int):Bool:=decide (l[OZ l x]?=some x)
theorem N4(i j:Nat)(h:i+j<=4000000):aY ((IntKind.u64.wrap ((i:Int)+j)).fdiv (2^min 1 IntKind.u64.bits))=(((i+j)/2:Nat):Int):=by
 have a:IntKind.u64.wrap ((i:Int)+j)=((i+j:Nat):Int):=by
  rw[show((i:Int)+j)=((i+j:Nat):Int) by omega];have c:IntKind.u64.bits=64:=rfl;have hs:IntKind.u64.signed=false:=rfl;unfold IntKind.wrap;simp[c,hs];omega
 have b:(2:Int)^min 1 IntKind.u64.bits=2:=by decide
 rw[a,b,Xa _ (by decide)];have:(((i+j:Nat):Int)/2)=(((i+j)/2:Nat):Int):=by omega
 rw[this];exact ao (by omega) (by omega)
set_option maxRecDepth 16000 in
theorem Cp(l:List Int)(x:Int)(y:l.length<=1000000)(hs:l.Pairwise (·<=·)):ak Tryz.prog 225 [.seq false 1 (ae l),ab x] (λr=>r=.pv (.tup [ab (OZ l x),BL (KS l x)])):=by
 refine oB [4,5] aC Tryz.func225 (λ_ _=>results_tmp2 rfl _ _ _) ?_;have u:∀j k (hj:j<l.length)(hk:k<l.length),j<=k->l[j]<=l[k]:=λj k hj hk h=>by
  rcases Nat.lt_or_eq_of_le h with h|h
  .exact Tv.1 hs j k hj hk h
  .subst h;exact Vc _
 simp;refine aF.intro (S:=λ(p:Nat×Nat)=>⟨[(0,.pv (.seq false 1 (ae l))),(1,.pv (ab x)),(6,.pv (ab l.length)),(7,.pv (ab p.1)),(8,.pv (ab p.2))],[]⟩) (λp=>p.1<=p.2∧p.2<=l.length∧(∀k (_:k<l.length),k<p.1->l[k]<x)∧∀k (_:k<l.length),p.2<=k->x<=l[k]) (λp=>p.2 -p.1) (0,l.length) ?_ ⟨Te _,SQ _,(λk _ h=>by omega),(λk h1 o=>by omega)⟩ ?_
 .exact ai.keep (by simp) rfl
 rintro⟨i,j⟩ ⟨s,hj,h1,o⟩;dsimp only at s hj h1 o
 by_cases c:i<j
 .have t:aY ((i:Int)+j)=(i:Int)+j:=ao (by omega) (by omega);have n:=N4 i j (by omega);generalize v:(i+j)/2=m at*;have g:m<l.length:=by omega
  have w:=dZ m;simp[c,t,n,g];refine ah.intro (I8 l[m] x) ?_
  by_cases d:l[m]<x
  .simp[d];exact⟨(m+1,j),by(try dsimp only);omega,⟨by(try dsimp only);omega,hj,(λk hk f=>by have:=u k m hk g (by(try dsimp only at f);omega);omega),o⟩,ai.keep (by simp[w]) (by simp)⟩
  .simp[d];exact⟨(i,m),by(try dsimp only);omega,⟨by(try dsimp only);omega,by(try dsimp only);omega,h1,(λk hk f=>by have:=u m k g hk (by(try dsimp only at f);omega);omega)⟩,ai.keep (by simp) (by simp)⟩
 .have q:i=j:=by omega
  subst q;have a:=N3 hj h1 o;simp
  by_cases d:i<l.length
  .by_cases e:l[i]=x
   .have b:KS l x=true:=by unfold KS;rw[a,SH d,e];simp
    simp[d,e,a,b];refine aV.intro (r:=.pv (BL false)) (λh:False=>h.elim) ?_;simp;refine aV.intro (r:=.pv (BL false)) (λh:False=>h.elim) ?_;simp[a,b]
   .have b:KS l x=false:=by unfold KS;rw[a,SH d];simpa using e
    simp[d,e,a,b];refine aV.intro (λ_=>F4 _) ?_;simp;refine aV.intro (r:=.pv (BL false)) (λh:False=>h.elim) ?_;simp[a,b]
  .have b:KS l x=false:=by unfold KS;rw[a,Ty (by omega)];rfl
   simp[d,a,b];refine aV.intro (r:=.pv (BL false)) (λh:False=>h.elim) ?_;simp;refine aV.intro (r:=.pv (BL false)) (λh:False=>h.elim) ?_;simp[a,b]
end Go.AX
namespace Go.AX
set_option maxRecDepth 16000
open Go.Proofs
set_option linter.unusedSimpArgs false
theorem F5(c:Ck):ak Tryz.prog 78 [v7 c] (λr=>r=.pv (BL true)):=by
 refine ap aC Tryz.func78 ?_;simp
def ib(c:Ck):List Int:=bD (c.m.map (·.1))
theorem Ma(c:Ck)(e:∀q∈c.m,DB q.1)(a:c.m.length<=1000000):ak Tryz.prog 223 [v7 c] (λr=>r=.own true 1 (ae (ib c))):=by
 refine ap aC Tryz.func223 ?_;have d:=F5 c;have hk:=λh=>I6 h (aG fD c.m);have hs:=Cm fD c.m e a;simp[aZ];refine ah.intro d ?_;simp;refine ah.introM (hk _) ?_;rintro _ _ ⟨rfl,rfl⟩;simp;refine ah.introX (bU.ptr1 (b:=0) (y0:=.amap false (aG fD c.m)) hs (by simp) (by simp) rfl (by simp) (by simp) (by simp) (by simp) (by simp) ?_);simp[ib,ae]
def dl{α:Type}:List (Int×α)->Int->List (Int×α)
 |[],_=>[]
 |(k,x)::r,n=>if k=n then r else(k,x)::dl r n
@[simp] theorem N5:∀(l:List (Int×List Int))(k:Int),iz k (aG fC l)=aG fC (dl l k)
 |[],k=>rfl
 |(j,x)::l,k=>by
  show(if j=k then aG fC l else(j,fC x)::iz k (aG fC l))=aG fC (if j=k then l else(j,x)::dl l k);rw[N5 l k];split<;>rfl
def dropB(c:Ck)(ids:List Int):Bool:=decide ((cq (bD ids)).length<ids.length)||!gJ c ids
def jM(c:Ck)(ids:List Int)(i:Nat):Ck:=⟨(ids.take i).foldl dl c.m,c.last,c.done⟩
def pY(c:Ck)(ids:List Int):Ck:=if dropB c ids=true then c else jM c ids ids.length
def wc(c:Ck)(ids:List Int):Int:=if dropB c ids=true then 20 else 0
theorem I9(h:List (List SV))(b:Nat)(c:Ck)(K:h[b]?=some (jj c))(ids:List Int)(L:ids.length<=1000000):
 ax Tryz.prog 80 [.ptr b 0,.seq false 1 (ae ids)] h (λr h'=>h'=h.set b (jj (pY c ids))∧r=.pv (ab (wc c ids))):=by
 refine dR [] [.tmp 4] (h.set b (jj (pY c ids))) (by simp) (λR=>by rw[Ti];exact bP (jd _ _) b R) aC Tryz.func80 ?_;obtain⟨f,C⟩:=SG.1 K;have T:=λh=>I7 h ids;have hs:=Co ids L;have j:(bD ids).length=ids.length:=by unfold bD;rw[T9]
 have O:=oF (bD ids) (by omega);have P:=zQ c ids L;have hcl:=gF (bD ids) (bD ids).length;simp;refine ah.introM (T _) ?_;rintro _ _ ⟨rfl,rfl⟩;simp;refine ah.introX (bU.ptr1 (b:=h.length) (y0:=.seq false 1 (ae ids)) hs (by simp) (by simp) rfl (by simp) (by simp) (by simp) (by simp) (by simp) ?_);simp;refine ah.introX (bU.introS (o:=.slot 10) (lo:=0) (hi:=ids.length) O (by simp) rfl rfl (by simp[j]) (by simp) rfl (by simp;rw[Tm (by simp[ae,j])];rfl) (eW 0 _) (by simp) (by simp) ?_);rintro _ _ ⟨rfl,rfl⟩ k _;have p:dropB c ids=(decide ((cq (bD ids)).length<ids.length)||!gJ c ids):=rfl;have v:(cq (bD ids)).length<=ids.length:=by rw[←j];exact hcl
 have a:pY c ids=if dropB c ids=true then c else jM c ids ids.length:=rfl;have d:wc c ids=if dropB c ids=true then 20 else 0:=rfl;generalize pY c ids=V at*;generalize wc c ids=W at*;generalize Q:aB (cq (bD ids)++List.replicate ((bD ids).length -(cq (bD ids)).length) 0)=Z at k;clear Q;generalize(cq (bD ids)).length=m at*;have e:Z.length=ids.length:=k;have l:min m ids.length=m:=Ud v;have D:∀X:List (List SV),(h++X)[b]?=some (jj c):=λX=>by rw[SO f];exact K
 have N:∀X:List (List SV),b<(h++X).length:=λX=>by rw[SX];omega
 have g:h.set b (jj c)=h:=by rw[←C];exact Vg f
 by_cases c1:m<ids.length
 .have u:dropB c ids=true:=by rw[p];simp[c1]
  rw[SN u]at a d;subst a d;have n:(m:Int)<(ids.length:Int):=by omega
  simp[e,j,l,c1,n];exact g.symm
 have n:¬(m:Int)<(ids.length:Int):=by omega
 have F:∀X:List (List SV),aZ (h++X) 3 b 0=v7 c:=λX=>IX (D X) 2;simp[e,j,l,c1,n,F];refine am.introP P ?_
 by_cases c2:gJ c ids=true
 rotate_left
 .have u:dropB c ids=true:=by rw[p];simp[c2]
  rw[SN u]at a d;subst a d;simp[c2];exact g.symm
 have u:¬dropB c ids=true:=by rw[p];simp[c1,c2]
 rw[SM u]at a d;subst a d;simp[c2];obtain⟨G,t⟩:∃G:Nat->List (List SV),∀i,G i=h.set b (jj (jM c ids i))++[[.pv (.seq false 1 (ae ids))]]:=⟨_,λ_=>rfl⟩;have y:h++[[.pv (.seq false 1 (ae ids))]]=G 0:=by
  rw[t];show _=h.set b (jj c)++_;rw[g]
 have A:∀i,b<(G i).length:=λi=>by rw[t];simp;omega
 have z:∀i,(G i)[b]?=some [.omap true (aG fC (jM c ids i).m),.pv (ab c.last),.pv (BL c.done)]:=λi=>by
  rw[t,SO (by simpa using f),Tu f];rfl
 have B:∀i,i<ids.length->(G i).set b [.omap true (aG fC (dl (jM c ids i).m (ids.getD i 0))),.pv (ab c.last),.pv (BL c.done)]=G (i+1):=λi hi=>by
  have E:(jM c ids (i+1)).m=dl (jM c ids i).m ids[i]:=bd dl c.m ids i hi;have q:ids.getD i 0=ids[i]:=by rw[SI,SH hi];rfl
  rw[t,t,Vo _ _ (by simpa using f),Wb];unfold jj;rw[E,q];rfl
 simp only[y];refine aF.intro (S:=λ(i:Nat)=>⟨[(0,.pv (.ptr b 0)),(1,.pv (.seq false 1 (ae ids))),(23,.pv (.seq false 1 (ae ids))),(24,.pv (ab ids.length)),(25,.pv (ab i))],G i⟩) (λi=>i<=ids.length) (λi=>ids.length -i) 0 ?_ (Te _) ?_
 .exact ai.keep (by simp) rfl
 intro i hi;have I:=A i;have H:=z i
 by_cases s:i<ids.length
 .have U:=dZ i;have x:=B i s;generalize(jM c ids i).m=M at*;have q:ids.getD i 0=ids[i]:=by rw[SI,SH s];rfl
  rw[q]at x;obtain⟨_,w⟩:=SG.1 H;simp[s,w,I];exact⟨i+1,by(try dsimp only);omega,by(try dsimp only);omega,ai.keep (by simp[U]) (by rw[x])⟩
 .have J:i=ids.length:=by omega
  subst J;simp;rw[t,TV (by simp),Tm (by simp)]
end Go.AX
namespace Go.AX
open Go.Proofs
set_option linter.unusedSimpArgs false
def fR(l:List (List Int)):PV:=.seq true 1 (l.map aw)
@[simp] theorem Sg(l:List (Int×List (List Int)))(k:Int)(y:List (List Int)):gr (aG fR l) k (.seq true 1 (y.map aw))=aG fR (pt l k y):=gA fR l k y
theorem wd(n:Nat):∀l:List (Int×List (List Int)),fj n (aG fR l)
 |[]=>trivial
 |x::l=>⟨pC n _,wd n l⟩
def lW(c:Ck)(a:List (Int×List (List Int)))(g:List Int):List (Int×List (List Int)):=
 if KS (ib c) (aY (-(g.headD 0)))=true then pt a (OZ (ib c) (aY (-(g.headD 0)))) (cM c g.tail)else a
def Ja:Sch:=
 let E:Sch:=.fork [(6,.done)]
 .take 1 (.take 2 (.take 3 (.fork [(0,.fork [(4,.fork [(5,E)])]),(4,.fork [(0,.fork [(5,E)]),(5,.fork [(0,E)])])])))
set_option maxRecDepth 16000 in
theorem Mb(h:List (List SV))(c:Ck)(a:List (Int×List (List Int)))(t u be:Nat)(x:Int)(l:List Int)(z:l.length<=1000000)
 (hi:h[t]?=some [.pv (.seq true 1 (ae (ib c)))]) (ho:h[u]?=some [.pv (.fn (.func 221) [v7 c] [])]) (w:h[be]?=some [.omap true (aG fR a)]) (g:(ib c).length<=1000000) (j:(ib c).Pairwise (·<=·)):
 ax Tryz.prog 224 [.seq false 1 (ae (x::l)),.ptr t 0,.ptr u 0,.ptr be 0] h (λr h'=>h'=h.set be [.omap true (aG fR (lW c a (x::l)))]∧r=.pv (.tup [])):=by
 refine dR [2] [] (h.set be [.omap true (aG fR (lW c a (x::l)))]) (by simp) (λy=>by rw[Ti];exact bP (x:=[.omap true (aG fR (lW c a (x::l)))]) ⟨wd _ _,trivial⟩ be y) aC Tryz.func224 ?_;obtain⟨o,n⟩:=SG.1 hi;obtain⟨e,f⟩:=SG.1 ho;obtain⟨hle,b⟩:=SG.1 w;have v:=Cp (ib c) (aY (-x)) g j;simp[n,f,b,o,e,hle];refine bE.intro v ?_;have m:lW c a (x::l)=if KS (ib c) (aY (-x))=true then pt a (OZ (ib c) (aY (-x))) (cM c l)else a:=rfl;generalize lW c a (x::l)=F at*;have i:h.set be [.omap true (aG fR a)]=h:=by rw[←b];exact Vg hle
 cases d:KS (ib c) (aY (-x))
 .rw[SM (by simp[d])]at m;subst m;simp[d,i]
 .rw[SN d]at m;subst m;have s:=(tV [] c l (by omega)).mono (R':=λr _=>r=.pv (.seq true 1 ((cM c l).map aw))) λ_ _ h=>h.2;have k:(List.take (l.length+1) (ae (x::l))).tail=ae l:=by
   simp[ae];exact Tm (by simp)
  simp[d,f,b,e,hle];refine bc.one Ja (by kernel_rfl) ?_;simp[Ja,d,f,b,e,hle,k];refine⟨by omega,?_,?_,?_⟩
  all_goals
   refine ah.introX (bU.pureM (p:=[]) (q:=[]) (zs:=[.seq false 1 (ae l),.fn (.func 221) [v7 c] []]) s (by simp) rfl (by simp[qC]) (by simp) (by simp) ?_);simp[d,f,b,e,hle,k];exact Tm (by simp)
end Go.AX
namespace Go.AX
set_option maxRecDepth 16000
open Go.Proofs
set_option linter.unusedSimpArgs false
theorem Cq(l c:List Int)(p:Int)(hs:List (List Int))(b:l.length+c.length+hs.length<=1000000)(a:∀h∈hs,h.length<=1000000):ak Tryz.prog 274 [.seq false 1 (ae l),.seq false 1 (ae c),ab p,.seq false 1 (hs.map aw)] (λr=>r=.pv (ab (Cl l c p hs))):=
 ax.pure ((F2 [] l c p hs b a).mono λ_ _ h=>⟨_,h.2,rfl⟩)
theorem F6(c:List Int)(hs:List (List Int))(b:c.length+hs.length<=1000000)(a:∀h∈hs,h.length<=1000000):ak Tryz.prog 153 [.seq false 1 (ae c),.seq false 1 (hs.map aw)] (λr=>r=.pv (.tup [ab (rQ c hs).1,ab (rQ c hs).2])):=
 ax.pure ((IR [] c hs b a).mono λ_ _ h=>⟨_,h.2,rfl⟩)
def fS(l:List (List Int)):PV:=.seq false 1 (l.map aw)
@[simp] theorem RS(l:List (Int×List (List Int)))(k:Int):df (aG fS l) k=(lk l k).map fS:=fL fS l k
@[simp] theorem Mc(r:Nat->Nat->PV):∀l:List (Int×List (List Int)),mq r (aG fR l)=aG fS l
 |[]=>rfl
 |x::l=>by
  have:=Mc r l;show(x.1,iR r (fR x.2))::mq r (aG fR l)=(x.1,fS x.2)::aG fS l;rw[this];simp[fR,fS]
@[simp] theorem Md(r:Nat->Nat->PV):∀l:List (Int×List (List Int)),mq r (aG fS l)=aG fS l
 |[]=>rfl
 |x::l=>by
  have:=Md r l;show(x.1,iR r (fS x.2))::mq r (aG fS l)=(x.1,fS x.2)::aG fS l;rw[this];simp[fS]
def F7(cs:List (List Int))(c l:List Int)(a:List (Int×List (List Int)))(i:Int):Bool:=
 match lk a i with
 |none=>false
 |some h=>decide (Cl l (cs.getD i.toNat []) (c.headD 0) h=0)
theorem Jb(cs:List (List Int))(c l:List Int)(a:List (Int×List (List Int)))(i:Nat)(hi:i<cs.length)(n:c≠[])(k:∀j h,lk a j=some h->l.length+(cs[i]).length+h.length<=1000000∧∀x∈h,x.length<=1000000):
 ak Tryz.prog 273 [ab i,.iptr 1 [[.amap false (aG fS a)]] 0 0,.iptr 1 [[.seq false 1 (ae l)]] 0 0,.iptr 1 [[.seq false 1 (cs.map aw)]] 0 0,.iptr 1 [[.seq false 1 (ae c)]] 0 0] (λr=>r=.pv (BL (F7 cs c l a i))):=by
 refine ap aC Tryz.func273 ?_;have b:F7 cs c l a i=match lk a i with
  |none=>false
  |some h=>decide (Cl l (cs.getD i []) (c.headD 0) h=0):=rfl
 have o:cs.getD i []=cs[i]:=by rw[SI,SH hi];rfl
 rw[o]at b;have d:=pU cs hi;generalize cs[i]=f at*;obtain⟨x,c,rfl⟩:∃x c',c=x::c':=by
  cases c with
  |nil=>exact absurd rfl n
  |cons x c=>exact⟨x,c,rfl⟩
 cases e:lk a i with
 |none=>
  rw[e]at b;simp only at b;simp[e,hi,d,b];refine dI.intro (r:=.pv (ab 0)) (λh:False=>h.elim) ?_;simp
 |some h=>
  rw[e]at b;simp only[List.headD_cons]at b;have m:=Cq l f x h (k _ _ e).1 (k _ _ e).2;simp[e,hi,d,fS];refine dI.intro (λ_=>m) ?_
  by_cases g:Cl l f x h=0
  .simp[b,g]
  .simp[b,g]
theorem zT:∀(hs:List (List Int))(l:List Int)(n:Nat),(eX l hs n).1.length<=l.length+hs.length
 |[],l,n=>by simp[eX]
 |h::hs,l,n=>by
  rw[eX];split
  .simp
  .split
   .have:=zT hs (l++[(cK l h).1]) (n+1);simp at this⊢;omega
   .simp
theorem tX(cs:List (List Int))(p:Int):∀n x,x∈lJ cs p n->∃k:Nat,k<n∧x=(k:Int)
 |0,x,h=>by cases h
 |n+1,x,h=>by
  rw[lJ]at h;split at h
  .rcases S7.1 h with h|h
   .obtain⟨k,h1,a⟩:=tX cs p n x h;exact⟨k,by omega,a⟩
   .rw[Tt]at h;exact⟨n,by omega,h⟩
  .obtain⟨k,h1,a⟩:=tX cs p n x h;exact⟨k,by omega,a⟩
def we(f:Int->Bool):List Int->Nat->Int×Int
 |[],n=>(n,0)
 |i::l,n=>if f i=false then(i,24)else we f l n
def zU(cs:List (List Int))(c:List Int)(ahead:List (List Int))(a:List (Int×List (List Int))):Int×Int:=
 if mN c≠0 then(-1,mN c)else if c=[]then(-1,11)else if(eX (gq c) ahead 0).2.2≠23 then(-1,(eX (gq c) ahead 0).2.2)
 else we (F7 cs c (eX (gq c) ahead 0).1 a) (lJ cs (c.headD 0) cs.length) (lJ cs (c.headD 0) cs.length).length
theorem Cr(cs:List (List Int))(c:List Int)(ahead:List (List Int))(a:List (Int×List (List Int)))(hn:cs.length<=100000)(l:∀x∈cs,x.length<=100000)(I:c.length<=100000)(H:ahead.length<=100000)(q:∀x∈ahead,x.length<=100000)
 (B:∀j h,lk a j=some h->h.length<=100000∧∀x∈h,x.length<=100000):
 ak Tryz.prog 226 [.seq false 1 (cs.map aw),.seq false 1 (ae c),.seq false 1 (ahead.map aw),.amap false (aG fS a)] (λr=>r=.pv (.tup [ab (zU cs c ahead a).1,ab (zU cs c ahead a).2])):=by
 refine oB [8,9] aC Tryz.func226 (λ_ _=>results_tmp2 rfl _ _ _) ?_;have p:=λg=>vV g c (by omega);have hle:=pV c c.length;have f:=λg=>qP g (gq c) ahead (by unfold gq;omega) (λx hx=>by have:=q x hx;omega);have m:=zT ahead (gq c) 0;have u:IK c=if mN c=0 then gq c else[]:=rfl;have d:zU cs c ahead a=if mN c≠0 then(-1,mN c)else if c=[]then(-1,11)else if(eX (gq c) ahead 0).2.2≠23 then(-1,(eX (gq c) ahead 0).2.2)
  else we (F7 cs c (eX (gq c) ahead 0).1 a) (lJ cs (c.headD 0) cs.length) (lJ cs (c.headD 0) cs.length).length:=rfl
 generalize zU cs c ahead a=S at*;have D:(gq c).length<=c.length:=hle;generalize eX (gq c) ahead 0=F at*;obtain⟨L,fn,z⟩:=F;simp only at m d f;simp;refine ah.introM (p _) ?_;rintro _ _ ⟨rfl,rfl⟩
 by_cases c1:mN c=0
 rotate_left
 .rw[SN c1]at d;subst d;simp[c1]
 rw[SM (by simp[c1])]at d;rw[SN c1]at u;rw[u]
 by_cases c2:c=[]
 .rw[SN c2]at d;subst d;subst c2;simp[c1]
 rw[SM c2]at d;have w:c.length≠0:=λe=>c2 (Uh.1 e);simp[c1,c2];refine ah.introM (f _) ?_;rintro _ _ ⟨rfl,rfl⟩
 by_cases c3:z=23
 rotate_left
 .rw[SN c3]at d;subst d;simp[c3]
 rw[SM (by simp[c3])]at d;obtain⟨x,c',rfl⟩:∃x c',c=x::c':=by
  cases c with
  |nil=>exact absurd rfl c2
  |cons x c=>exact⟨x,c,rfl⟩
 have o:=IZ cs x (by omega) (λy hy=>by have:=l y hy;omega);have hcl:=tW cs x cs.length;have s:=tX cs x cs.length;simp only[List.headD_cons]at d;generalize A:lJ cs x cs.length=X at*;clear A;simp[c3];refine bE.intro (r:=.own true 1 (ae X)) o ?_;simp;refine aF.intro (S:=λ(i:Nat)=>⟨[(11,.pv (.fn (.func 273) [] [.ptr 2 0,.ptr 3 0,.ptr 0 0,.ptr 1 0])),(12,.pv (.seq true 1 (ae X))),(44,.pv (.seq true 1 (ae X))),(45,.pv (ab X.length)),(46,.pv (ab i))],[[.pv (.seq false 1 (cs.map aw))],[.pv (.seq false 1 (ae (x::c')))],[.pv (.amap false (aG fS a))],[.pv (.seq true 1 (ae L))]]⟩) (λi=>i<=X.length∧S=we (F7 cs (x::c') L a) (X.drop i) X.length) (λi=>X.length -i) 0 ?_ ⟨Te _,d⟩ ?_
 .exact ai.keep (by simp) (by simp)
 rintro i ⟨hi,b⟩
 by_cases h:i<X.length
 .have E := dZ i; obtain ⟨k, hk, n⟩ := s _ (SS h); rw [TJ h, we, n] at b; have h1 := Jb cs (x :: c') L a k hk (by simp) (λ j C hj => by
   have:=B j C hj;have G:=l _ (SS hk);exact⟨by omega,λy hy=>by have:=this.2 y hy;omega⟩)
  simp[h,n,aZ];refine am.introP h1 ?_;cases v:F7 cs (x::c') L a k
  .rw[SN v]at b;subst b;simp
  .rw[SM (by simp[v])]at b;simp;exact⟨i+1,by(try dsimp only);omega,⟨by(try dsimp only);omega,b⟩,ai.keep (by simp[E]) (by simp)⟩
 .have t:i=X.length:=by omega
  subst t;rw[Tq (SQ _),we]at b;subst b;simp
end Go.AX
namespace Go.AX
open Go.Proofs
set_option linter.unusedSimpArgs false
theorem mO(l:List Int):(bD l).Pairwise (·<=·):=by
 have:=WE (le:=λx y:Int=>decide (x<=y)) (λa b c h1 d=>by simp at*;omega) (λa b=>by simp;omega) l;exact this.imp (λh=>by simpa using h)
def tY(c:Ck)(a:List (List Int)):List (Int×List (List Int)):=a.foldl (lW c) []
def tZ(c:Ck)(lits hints:List Int):Int:=
 if(rQ lits (cM c (pW hints).1)).2≠23∨lits=[]then(rQ lits (cM c (pW hints).1)).2
 else if(zU (cM c (ib c)) lits (cM c (pW hints).1) (tY c (pW hints).2)).2≠0 then 24 else 0
structure CkOk (c:Ck):Prop where
  n:c.m.length<=100000
  w:∀q∈c.m,DB q.1
  l:∀q∈c.m,q.2.length<=100000
theorem Nd{α:Type}:∀{l:List (Int×α)}{k:Int}{x:α},lk l k=some x->(k,x)∈l
 |(j,y)::l,k,x,h=>by
  rw[lk]at h;split at h
  .rename_i e;subst e;injection h with h;subst h;exact Tj
  .exact Tf _ (Nd h)
theorem t6{c:Ck}(h:CkOk c)(ids:List Int):(cM c ids).length=ids.length∧∀x∈cM c ids,x.length<=100000:=by
 refine⟨by unfold cM;simp,λx hx=>?_⟩;unfold cM at hx;rw[SY]at hx;obtain⟨id,_,rfl⟩:=hx;cases e:lk c.m id with
 |none=>simp
 |some y=>exact h.l _ (Nd e)
theorem Jc{c:Ck}(h:CkOk c){b:List (Int×List (List Int))}{g:List Int}(e:g.length<=100000)(d:∀j r,lk b j=some r->r.length<=100000∧∀x∈r,x.length<=100000):
 ∀j r,lk (lW c b g) j=some r->r.length<=100000∧∀x∈r,x.length<=100000:=by
 intro j r a;unfold lW at a;split at a
 .rw[bJ]at a;split at a
  .injection a with a;subst a;have:=t6 h g.tail;exact⟨by rw[this.1,List.length_tail];omega,this.2⟩
  .exact d j r a
 .exact d j r a
theorem zV{c:Ck}(h:CkOk c):∀(b:List (List Int))(a:List (Int×List (List Int))),(∀g∈b,g.length<=100000)->(∀j r,lk a j=some r->r.length<=100000∧∀x∈r,x.length<=100000)->
 ∀j r,lk (b.foldl (lW c) a) j=some r->r.length<=100000∧∀x∈r,x.length<=100000
 |[],a,_,d=>d
 |g::b,a,e,d=>zV h b _ (λx hx=>e x (Tf _ hx)) (Jc h (e g Tj) d)
theorem Me{x:List Int×List (List Int)}{h:Int}(hx:∀g∈x.2,g≠[]):∀g∈(mc x h).2,g≠[]:=by
 intro g a;unfold mc at a;split at a
 .rcases S7.1 a with a|a
  .exact hx g a
  .rw[Tt]at a;subst a;simp
 .split at a
  .exact hx g a
  .rcases S7.1 a with a|a
   .exact hx g (XB _ a)
   .rw[Tt]at a;subst a;simp
theorem zW(hs:List Int):∀i,i<=hs.length->∀g∈(ct hs i).2,g≠[]
 |0,_=>λg a=>by simp[ct]at a
 |i+1,h=>by
  rw[oU hs (by omega)];exact Me (zW hs i (by omega))
theorem ai.frzC{k0:Nat}{st:St}{b k e:Nat}{nw:Bool}{rows:List (List PV)}(h:aa st (.cell b k)=.own nw e rows):ai k0 st (setPos st (.cell b k) (.pv (.seq nw e rows))):=λg a w _ hs=>by
 obtain⟨g',t,_,_,_,s,_⟩:=hs.freeze (p:=.cell b k) (by rw[h];rfl);rw[h]at s;exact⟨g',t,s⟩
def Jd:Sch:=
 let E:Sch:=.fork [(6,.take 7 (.take 8 (.take 9 (.take 10 (.take 11 .done)))))]
 let T:Sch:=.fork [(2,E)]
 let U:Sch:=.fork [(2,.fork [(5,E)]),(5,T)]
 let A:Sch:=.fork [(1,U),(5,.fork [(1,T)])]
 let B:Sch:=.fork [(0,U),(5,.fork [(0,T)])]
 let C:Sch:=.fork [(0,.fork [(1,T)]),(1,.fork [(0,T)])]
 .take 3 (.take 4 (.fork [(0,A),(1,B),(5,C)]))
set_option maxRecDepth 16000 in
theorem Je(c:Ck)(t:CkOk c)(lits hints:List Int)(T:lits.length<=100000)(X:hints.length<=100000):
 ak Tryz.prog 144 [v7 c,.seq false 1 (ae lits),.seq false 1 (ae hints)] (λr=>r=.pv (ab (tZ c lits hints))):=by
 refine xg [15] aC Tryz.func144 ?_;have u:=λg=>Ci g hints (by omega);have f:tZ c lits hints=if(rQ lits (cM c (pW hints).1)).2≠23∨lits=[]then(rQ lits (cM c (pW hints).1)).2
  else if(zU (cM c (ib c)) lits (cM c (pW hints).1) (tY c (pW hints).2)).2≠0 then 24 else 0:=rfl
 have o:=iN hints hints.length (SQ _);have s:=zW hints hints.length (SQ _);have z:pW hints=ct hints hints.length:=rfl;rw[←z]at o s;generalize pW hints=sp at*;obtain⟨ahead,a⟩:=sp;simp only at o s f u;obtain⟨L,m⟩:=o;have v:=t6 t ahead;have J:=t6 t (ib c);have R:(ib c).length<=100000:=by unfold ib bD;rw[T9,SZ];exact t.n
 have P:=(tV [] c ahead (by omega)).mono (R':=λr _=>r=.pv (.seq true 1 ((cM c ahead).map aw))) λ_ _ h=>h.2;have F:=(tV [] c (ib c) (by omega)).mono (R':=λr _=>r=.pv (.seq true 1 ((cM c (ib c)).map aw))) λ_ _ h=>h.2;have D:=F6 lits (cM c ahead) (by omega) (λx hx=>by have:=v.2 x hx;omega);generalize tZ c lits hints=S at*;simp;refine ah.introM (u _) ?_;rintro _ _ ⟨rfl,rfl⟩;simp;refine⟨rfl,ah.introX (bU.pureM (p:=[]) (q:=[]) (zs:=[.seq true 1 (ae ahead),.fn (.func 221) [v7 c] []]) (P.args (by simp[bK,bO,ny])) (by simp) rfl (by simp[qC]) (by simp) (by simp) ?_)⟩;simp;refine ah.intro D ?_;generalize rQ lits (cM c ahead)=sh at*;obtain⟨W,K⟩:=sh;simp only at f
 by_cases c1:K=23
 rotate_left
 .rw[SN (.inl c1)]at f;subst f;simp[c1]
 by_cases c2:lits=[]
 .rw[SN (.inr c2)]at f;subst f;simp[c1,c2]
 rw[SM (λe=>e.elim (λe=>e c1) c2)]at f;have M:=Ma c t.w (by have:=t.n;omega);simp[c1,c2];refine ah.intro M ?_;simp;obtain⟨E,A⟩:∃E:Nat->List (Int×List (List Int)),∀i,E i=(a.take i).foldl (lW c) []:=⟨_,λ_=>rfl⟩;refine aF.intro (S:=λ(i:Nat)=>⟨[(1,.pv (.seq false 1 (ae lits))),(9,.pv (.ptr 0 0)),(10,.pv (.seq true 1 ((cM c ahead).map aw))),(13,.pv (.ptr 1 0)),(14,.pv (.ptr 2 0)),(15,.pv (.fn (.func 224) [] [.ptr 1 0,.ptr 0 0,.ptr 2 0])),(48,.pv (.seq true 1 (a.map aw))),(49,.pv (ab a.length)),(50,.pv (ab i))],[[.pv (.fn (.func 221) [v7 c] [])],[.pv (.seq true 1 (ae (ib c)))],[.omap true (aG fR (E i))]]⟩) (λi=>i<=a.length) (λi=>a.length -i) 0 ?_ (Te _) ?_
 .exact(ai.frzC (b:=1) (k:=0) (e:=1) (nw:=true) (rows:=ae (ib c)) (by simp)).trans (ai.keep (by simp) (by simp[A,aG]))
 intro i hi
 by_cases h:i<a.length
 .have V:=dZ i;have y:=pU a h;have C:E (i+1)=lW c (E i) a[i]:=by rw[A,A];exact bd (lW c) [] a i h
  have H:=s _ (SS h);have G:=m _ (SS h);generalize a[i]=g at*;obtain⟨x,l,rfl⟩:∃x l,g=x::l:=by
   cases g with
   |nil=>exact absurd rfl H
   |cons x c=>exact⟨x,c,rfl⟩
  simp only[To]at G;have N:=Mb [[.pv (.fn (.func 221) [v7 c] [])],[.pv (.seq true 1 (ae (ib c)))],[.omap true (aG fR (E i))]] c (E i) 1 0 2 x l (by omega) rfl rfl rfl (by omega) (mO _);simp[h,y];refine am.intro N ?_;rintro _ _ ⟨rfl,rfl⟩;simp;exact⟨i+1,by(try dsimp only);omega,by(try dsimp only);omega,ai.keep (by simp[V]) (by simp[C])⟩
 .have I:i=a.length:=by omega
  subst I;have B:E a.length=tY c a:=by rw[A,Tw];rfl
  have O:=Cr (cM c (ib c)) lits (cM c ahead) (tY c a) (by omega) J.2 T (by omega) v.2 (zV t a [] (λg Q=>by have:=m g Q;omega) (λj r U=>by cases U));simp[B];refine bc.meet Jd ⟨[(19,.pv (ab (zU (cM c (ib c)) lits (cM c ahead) (tY c a)).2))],[[.pv (.fn (.func 221) [v7 c] [])],[.pv (.seq true 1 (ae (ib c)))],[.omap true (aG fR (tY c a))]]⟩ (by kernel_rfl) ?_ ?_
  .simp[Jd];and_intros
   all_goals
    refine ah.introX (bU.pureM (p:=[]) (q:=[]) (zs:=[.seq true 1 (ae (ib c)),.fn (.func 221) [v7 c] []]) (F.args (by simp[bK,bO,ny])) (by simp) rfl (by simp[qC]) (by simp) (by simp) ?_);simp;refine ah.intro O ?_;simp;exact ai.keep (by simp) (by simp)
  .by_cases d:(zU (cM c (ib c)) lits (cM c ahead) (tY c a)).2=0
   .rw[SM (by simp[d])]at f;subst f;simp[d]
   .rw[SN d]at f;subst f;simp[d]
end Go.AX
namespace Go.AX
set_option maxRecDepth 16000
open Go.Proofs
set_option linter.unusedSimpArgs false
def xR(c:Ck)(s:Stp):Ck×Int:=
 if s.id<=c.last then(c,21)else if i8 s.lits=true then(c,11)else if gJ c s.hints=false then(c,20)
 else if tZ c s.lits s.hints≠0 then(c,tZ c s.lits s.hints)else(oV c s.id s.lits,0)
theorem Mf(h:List (List SV))(b:Nat)(c:Ck)(x:h[b]?=some (jj c))(y:CkOk c)(s:Stp)(z:s.lits.length<=100000)(t:s.hints.length<=100000):
 ax Tryz.prog 81 [.ptr b 0,.agg (dq s)] h (λr h'=>h'=h.set b (jj (xR c s).1)∧r=.pv (ab (xR c s).2)):=by
 refine dR [] [.tmp 4] (h.set b (jj (xR c s).1)) (by simp) (λt=>by rw[Ti];exact bP (jd _ _) b t) aC Tryz.func81 ?_;obtain⟨k,o⟩:=SG.1 x;have a:h.set b (jj c)=h:=by rw[←o];exact Vg k
 obtain⟨G,n⟩:∃G:List (List SV),G=h++[[.pv (ab s.kind),.pv (ab s.id),.pv (.seq false 1 (ae s.lits)),.pv (.seq false 1 (ae s.hints))]]:=⟨_,rfl⟩;have g:h.length<G.length:=by rw[n];simp
 have e:b<G.length:=by rw[n];simp;omega
 have i:G[h.length]=[.pv (ab s.kind),.pv (ab s.id),.pv (.seq false 1 (ae s.lits)),.pv (.seq false 1 (ae s.hints))]:=by simp[n]
 have f:G[b]=jj c:=by simp only[n];rw[TB k,o]
 have l:G[b]?=some (jj c):=by rw[SH e,f]
 have j:G.take h.length=h:=by rw[n];simp
 have p:aZ G 3 b 0=v7 c:=IX l 2;have w:=xw s.lits (by omega);have q:=zQ c s.hints (by omega);have v:=Je c y s.lits s.hints z t;have u:=D6 G b c l s.id s.lits (by omega);have d:xR c s=if s.id<=c.last then(c,21)else if i8 s.lits=true then(c,11)else if gJ c s.hints=false then(c,20)
  else if tZ c s.lits s.hints≠0 then(c,tZ c s.lits s.hints)else(oV c s.id s.lits,0):=rfl
 generalize xR c s=A at*;simp[dq,o,k,jj];rw[←n]
 by_cases c1:s.id<=c.last
 .have m:¬c.last<s.id:=by omega
  rw[SN c1]at d;subst d;simp[e,f,i,g,jj,c1,m]
  first|exact a.symm|(rw[j];exact a.symm)
 have m:c.last<s.id:=by omega
 rw[SM c1]at d;simp[e,f,i,g,jj,c1,m];refine ah.intro w ?_
 by_cases c2:i8 s.lits=true
 .rw[SN c2]at d;subst d;simp[c2]
  first|exact a.symm|(rw[j];exact a.symm)
 rw[SM c2]at d;simp[c2,e,f,i,g,p];refine am.introP q ?_;cases c3:gJ c s.hints
 .rw[SN c3]at d;subst d;simp
  first|exact a.symm|(rw[j];exact a.symm)
 rw[SM (by simp[c3])]at d;simp[e,f,i,g,p];refine am.introP v ?_
 by_cases c4:tZ c s.lits s.hints=0
 rotate_left
 .rw[SN c4]at d;subst d;simp[c4]
  first|exact a.symm|(rw[j];exact a.symm)
 rw[SM (by simp[c4])]at d;subst d;simp[c4,e,f,i,g,jj];refine am.intro u ?_;rintro _ _ ⟨rfl,rfl⟩;simp;rw[n,Vo _ _ k,TV (by simp),Tm (by simp)];rfl
def fc(c:Ck)(s:Stp):Ck×Int:=
 if xO [s]≠0 then(c,xO [s])else if s.kind=2 then(pY c s.hints,wc c s.hints)else xR c s
theorem Jg(h:List (List SV))(b:Nat)(c:Ck)(w:h[b]?=some (jj c))(z:CkOk c)(s:Stp)(A:s.lits.length<=100000)(t:s.hints.length<=100000):
 ax Tryz.prog 34 [.ptr b 0,.agg (dq s)] h (λr h'=>h'=h.set b (jj (fc c s).1)∧r=.pv (ab (fc c s).2)):=by
 refine dR [] [.tmp 4] (h.set b (jj (fc c s).1)) (by simp) (λt=>by rw[Ti];exact bP (jd _ _) b t) aC Tryz.func34 ?_;obtain⟨k,n⟩:=SG.1 w;have e:h.set b (jj c)=h:=by rw[←n];exact Vg k
 obtain⟨G,f⟩:∃G:List (List SV),G=h++[[.pv (ab s.kind),.pv (ab s.id),.pv (.seq false 1 (ae s.lits)),.pv (.seq false 1 (ae s.hints))]]:=⟨_,rfl⟩;have g:h.length<G.length:=by rw[f];simp
 have o:b<G.length:=by rw[f];simp;omega
 have i:G[h.length]=[.pv (ab s.kind),.pv (ab s.id),.pv (.seq false 1 (ae s.lits)),.pv (.seq false 1 (ae s.hints))]:=by simp[f]
 have p:G[b]=jj c:=by simp only[f];rw[TB k,n]
 have a:G[b]?=some (jj c):=by rw[SH o,p]
 have q:G.take h.length=h:=by rw[f];simp
 have v:=zP G b c a;have m:=FX [s] (λx hx=>by rw[Tt]at hx;subst hx;omega);have u:=I9 G b c a s.hints (by omega);have l:=Mf G b c a z s A t;have j:fc c s=if xO [s]≠0 then(c,xO [s])else if s.kind=2 then(pY c s.hints,wc c s.hints)else xR c s:=rfl;have d:∀y,List.take h.length (G.set b y)=h.set b y:=λy=>by
  rw[f,Vo _ _ k,TV (by simp),Tm (by simp)]
 generalize fc c s=S at*;generalize xO [s]=pe at*;generalize N1 [s]=B at*;simp only[Th,UL,dq]at m l;simp[dq];rw[←f];refine am.intro v ?_;rintro _ _ ⟨rfl,rfl⟩;simp[g,i];refine ah.intro m ?_
 by_cases c1:pe=0
 rotate_left
 .rw[SN c1]at j;subst j;simp[c1]
  first|exact e.symm|(rw[q];exact e.symm)
 rw[SM (by simp[c1])]at j
 by_cases c2:s.kind=2
 .rw[SN c2]at j;subst j;simp[c1,c2,g,i];refine am.intro u ?_;rintro _ _ ⟨rfl,rfl⟩;simp;exact d _
 .rw[SM c2]at j;subst j;simp[c1,c2,g,i];refine am.intro l ?_;rintro _ _ ⟨rfl,rfl⟩;simp;exact d _
end Go.AX
namespace Go.AX
set_option maxRecDepth 16000
open Go.Proofs
set_option linter.unusedSimpArgs false
def uS(c:Ck)(l:List Int):Ck:=oV c (aY (c.last+1)) l
def dr(L:List (List Int))(i:Nat):Ck:=(L.take i).foldl uS ⟨[],0,false⟩
def t7(L:List (List Int)):Ck:=dr L L.length
theorem Mg(h:List (List SV))(v:Int)(L:List (List Int))(o:∀c∈L,c.length<=1000000):
 ax Tryz.prog 32 [.agg [ab v,.seq false 1 (L.map aw)]] h (λr h'=>if(d7 v L).2≠0 then∃x,h'=h++x∧r=.pv (.tup [.lit (.pointer none),ab (d7 v L).2])else h'=h++[[.pv (ab v),.pv (.seq false 1 (L.map aw))],jj (t7 L)]∧r=.pv (.tup [.ptr (h.length+1) 0,ab 0])):=by
 refine cI [] [.tmp 2,.tmp 3] aC Tryz.func32 ?_;have p:=xQ v L o;have hle:(d7 v L).2=0->L.length<=1000000:=λe=>Tl λhn=>by
  unfold d7 at e;split at e
  .cases e
  .rw[SN (by omega)]at e;cases e
 generalize d7 v L=S at*;obtain⟨w,t⟩:=S;simp only at hle;simp;refine ah.intro p ?_
 by_cases c1:t=0
 rotate_left
 .simp[c1]
 subst c1;have q:=hle rfl;simp;obtain⟨G,a⟩:∃G:Nat->List (List SV),∀i,G i=h++[[.pv (ab v),.pv (.seq false 1 (L.map aw))],jj (dr L i)]:=⟨_,λ_=>rfl⟩;have g:∀i,h.length+1<(G i).length:=λi=>by rw[a];simp
 have b:∀i,(G i)[h.length+1]?=some (jj (dr L i)):=λi=>by
  rw[a,Td (by omega)];simp
 have j:∀i,i<L.length->(G i).set (h.length+1) (jj (dr L (i+1)))=G (i+1):=λi hi=>by
  rw[a,a,Vj _ _ (by omega)];simp
 refine aF.intro (S:=λ(i:Nat)=>⟨[(6,.pv (.ptr (h.length+1) 0)),(24,.pv (.seq false 1 (L.map aw))),(25,.pv (ab L.length)),(26,.pv (ab i))],G i⟩) (λi=>i<=L.length) (λi=>L.length -i) 0 ?_ (Te _) ?_
 .exact ai.keep (by simp) (by rw[a];rfl)
 intro i hi;have k:=g i;obtain⟨_,d⟩:=SG.1 (b i)
 by_cases c:i<L.length
 .have s:=dZ i;have f:=pU L c;have hn:dr L (i+1)=oV (dr L i) (aY ((dr L i).last+1)) L[i]:=bd uS ⟨[],0,false⟩ L i c;have l:=j i c;have n:=D6 (G i) (h.length+1) (dr L i) (b i) (aY ((dr L i).last+1)) L[i] (o _ (SS c));rw[←hn]at n;generalize u:dr L i=K at*;simp[c,k,d,jj,f];refine am.intro n ?_;rintro _ _ ⟨rfl,rfl⟩;simp;exact⟨i+1,by(try dsimp only);omega,by(try dsimp only);omega,ai.keep (by simp[s]) (by rw[←l])⟩
 .have m:i=L.length:=by omega
  subst m;simp;exact a _
def pZ:Ck->List Stp->Nat->Int×Int
 |c,[],i=>if c.done=true then((i:Int),0)else((i:Int),25)
 |c,s::ss,i=>if(fc c s).2≠0 then((i:Int),(fc c s).2)else pZ (fc c s).1 ss (i+1)
def F9(v:Int)(L:List (List Int))(ss:List Stp):Int×Int:=if(d7 v L).2≠0 then(-1,(d7 v L).2)else pZ (t7 L) ss 0
def Si(L:List (List Int))(ss:List Stp)(i:Nat):Ck:=(ss.take i).foldl (λc s=>(fc c s).1) (t7 L)
theorem QO{α:Type}(l:List (Int×α))(k:Int)(y:α):(pt l k y).length<=l.length+1:=by
 rw[B0];split<;>omega
theorem Ct{α:Type}{p:Int×α->Prop}:∀{l:List (Int×α)}{k:Int}{y:α},(∀q∈l,p q)->p (k,y)->∀q∈pt l k y,p q
 |[],k,y,_,b,q,a=>by
  rw[pt]at a;rw[Tt]at a;subst a;exact b
 |(j,x)::l,k,y,h1,b,q,a=>by
  rw[pt]at a;split at a
  .rename_i e;rcases Tp.1 a with rfl|a
   .exact e▸b
   .exact h1 q (Tf _ a)
  .rcases Tp.1 a with rfl|a
   .exact h1 _ Tj
   .exact Ct (λq a=>h1 q (Tf _ a)) b q a
theorem Jh{α:Type}:∀(l:List (Int×α))(k:Int),∀q∈dl l k,q∈l
 |[],k,q,h=>h
 |(j,x)::l,k,q,h=>by
  rw[dl]at h;split at h
  .exact Tf _ h
  .rcases Tp.1 h with rfl|h
   .exact Tj
   .exact Tf _ (Jh l k q h)
theorem Ji{α:Type}:∀(l:List (Int×α))(k:Int),(dl l k).length<=l.length
 |[],k=>SQ _
 |(j,x)::l,k=>by
  rw[dl];split
  .simp
  .have:=Ji l k;simp;omega
structure CkN (n:Nat) (c:Ck):Prop where
  n:c.m.length<=n
  w:∀q∈c.m,DB q.1
  l:∀q∈c.m,q.2.length<=100000
  t:0<=c.last∧c.last<=20000000
theorem CkN.ok{n:Nat}{c:Ck}(h:CkN n c)(hn:n<=100000):CkOk c:=⟨TD h.n hn,h.w,h.l⟩
theorem Jj{x:Int}(h1:0<=x)(c:x<=20000000):DB x:=by
 unfold DB;have a:IntKind.i64.min=-9223372036854775808:=by decide
 have b:IntKind.i64.max=9223372036854775807:=by decide
 simp only[Lit.wf,a,b,S4,S9];omega
theorem CkN.put{n:Nat}{c:Ck}(h:CkN n c){id:Int}{l:List Int}(pd:0<=id∧id<=20000000)(a:l.length<=100000):CkN (n+1) (oV c id l):=
 ⟨TD (QO _ _ _) (Nat.succ_le_succ h.n),Ct h.w (Jj pd.1 pd.2),Ct h.l a,pd⟩
theorem t8{p:Int×List Int->Prop}:∀(ids:List Int)(m:List (Int×List Int)),(∀q∈m,p q)->(∀q∈ids.foldl dl m,p q)∧(ids.foldl dl m).length<=m.length
 |[],m,h=>⟨h,SQ _⟩
 |id::ids,m,h=>by
  obtain⟨h1,a⟩:=t8 ids (dl m id) (λq b=>h q (Jh m id q b));exact⟨h1,TD a (Ji _ _)⟩
theorem CkN.drop{n:Nat}{c:Ck}(h:CkN n c)(ids:List Int):CkN n (pY c ids):=by
 unfold pY;split
 .exact h
 .unfold jM;obtain⟨h1,a⟩:=t8 (p:=λq=>DB q.1) (ids.take ids.length) c.m h.w;obtain⟨b,_⟩:=t8 (p:=λq=>q.2.length<=100000) (ids.take ids.length) c.m h.l;exact⟨TD a h.n,h1,b,h.t⟩
theorem CkN.up{n m:Nat}{c:Ck}(h:CkN n c)(a:n<=m):CkN m c:=⟨TD h.n a,h.w,h.l,h.t⟩
theorem ua(s:Stp):xO [s]=if ir s=true then 0 else 2:=by
 unfold xO gp;cases a:ir s
 .simp[List.findIdx?_cons,a]
 .simp[List.findIdx?_cons,a]
theorem Mh{s:Stp}(h:ir s=true):(s.kind=1∨s.kind=2)∧0<=s.id∧s.id<=10000000:=by
 unfold ir at h;split at h
 .simp only[S4,S9]at h;exact⟨.inl (by assumption),by omega,by omega⟩
 .split at h
  .simp only[S4,S9]at h;exact⟨.inr (by assumption),by omega,by omega⟩
  .cases h
theorem CkN.step{n:Nat}{c:Ck}(h:CkN n c){s:Stp}(a:s.lits.length<=100000):CkN (n+1) (fc c s).1:=by
 unfold fc;split
 .exact h.up (UX n)
 .rename_i hp;rw[ua]at hp;have b:ir s=true:=Tl λhn=>hp (by rw[SM hn];decide);obtain⟨_,h1,d⟩:=Mh b;split
  .exact(h.drop s.hints).up (UX n)
  .unfold xR;split
   .exact h.up (UX n)
   .split
    .exact h.up (UX n)
    .split
     .exact h.up (UX n)
     .split
      .exact h.up (UX n)
      .exact h.put ⟨h1,by omega⟩ a
theorem zX{L:List (List Int)}(b:∀c∈L,c.length<=100000)(hn:L.length<=1000000):∀i,i<=L.length->CkN i (dr L i)∧(dr L i).last=(i:Int)
 |0,_=>⟨⟨SQ _,(λq a=>by cases a),(λq a=>by cases a),Vc _,by show(0:Int)<=20000000;omega⟩,rfl⟩
 |i+1,h=>by
  obtain⟨h1,d⟩:=zX b hn i (by omega);have hs:dr L (i+1)=uS (dr L i) L[i]:=bd uS ⟨[],0,false⟩ L i (by omega);have e:=dZ i;rw[hs];unfold uS;rw[d,e];exact⟨h1.put (by omega) (b _ (SS (by omega))),rfl⟩
theorem Jk{v:Int}{L:List (List Int)}(h:(d7 v L).2=0):L.length<=1000000:=Tl λhn=>by
 unfold d7 at h;split at h
 .cases h
 .rw[SN (by omega)]at h;cases h
theorem Ga(v:Int)(L:List (List Int))(ss:List Stp)(hn:L.length+ss.length<=90000)(w:∀c∈L,c.length<=100000)(hs:∀s∈ss,s.lits.length<=100000∧s.hints.length<=100000):
 ak Tryz.prog 37 [.agg [ab v,.seq false 1 (L.map aw)],.seq false 4 (ss.map dq)] (λr=>r=.pv (.tup [ab (F9 v L ss).1,ab (F9 v L ss).2])):=by
 refine oB [4,5] aC Tryz.func37 (λ_ _=>results_tmp2 rfl _ _ _) ?_;have y:=λh=>Mg h v L (λc A=>by have:=w c A;omega);have o:F9 v L ss=if(d7 v L).2≠0 then(-1,(d7 v L).2)else pZ (t7 L) (ss.drop 0) 0:=rfl;generalize F9 v L ss=C at*;simp;refine ah.introM (y _) ?_;intro r h' p
 by_cases c1:(d7 v L).2=0
 rotate_left
 .rw[SN c1]at p o;subst o;obtain⟨x,rfl,rfl⟩:=p;simp[c1]
 rw[SM (by simp[c1])]at p o;obtain⟨rfl,rfl⟩:=p;clear y;have n:=(zX w (Jk c1) L.length (SQ _)).1;simp;obtain⟨K,q⟩:∃K:Nat->Ck,∀i,K i=Si L ss i:=⟨_,λ_=>rfl⟩;have e:t7 L=K 0:=by rw[q];rfl
 rw[e];obtain⟨F,u⟩:∃F:List SV,F=[.pv (ab v),.pv (.seq false 1 (L.map aw))]:=⟨_,rfl⟩;have g:∀k,cD k F:=λk=>by rw[u];exact⟨trivial,pC _ _,trivial⟩
 rw[←u];refine aF.intro (S:=λ(i:Nat)=>⟨[(1,.pv (.seq false 4 (ss.map dq))),(6,.pv (.ptr 2 0)),(18,.pv (.seq false 4 (ss.map dq))),(19,.pv (ab ss.length)),(20,.pv (ab i))],[F,F,jj (K i)]⟩) (λi=>i<=ss.length∧CkN (L.length+i) (K i)∧C=pZ (K i) (ss.drop i) i) (λi=>ss.length -i) 0 ?_ ⟨Te _,by rw[←e];exact n,by rw[←e];exact o⟩ ?_
 .exact ai.keep (by simp) (by simp)
 rintro i ⟨hi,l,a⟩
 by_cases h:i<ss.length
 .have D:=dZ i;have j:K (i+1)=(fc (K i) ss[i]).1:=by rw[q,q];exact bd (λc s=>(fc c s).1) (t7 L) ss i h
  rw[TJ h,pZ]at a;have f:=hs _ (SS h);have b:=λX=>Jg [F,F,jj (K i),X] 2 (K i) rfl (l.ok (by omega)) ss[i] f.1 f.2;have m:=l.step (s:=ss[i]) f.1;rw[←j]at m a;generalize B:fc (K i) ss[i]=sd at*;have b:=b [.pv (ab ss[i].kind),.pv (ab ss[i].id),.pv (.seq false 1 (ae ss[i].lits)),.pv (.seq false 1 (ae ss[i].hints))];simp only[dq]at b;simp[h,dq];refine am.intro b ?_;rintro _ _ ⟨rfl,rfl⟩
  by_cases d:sd.2=0
  .rw[SM (by simp[d])]at a;simp[d];exact⟨i+1,by(try dsimp only);omega,⟨by(try dsimp only);omega,by rw[←UN];exact m,a⟩,ai.to (by simp[D]) (by simp[j]) (by simp) (by simp) ⟨g _,g _,jd _ _,trivial⟩⟩
  .rw[SN d]at a;subst a;simp[d]
 .have t:i=ss.length:=by omega
  subst t;rw[Tq (SQ _),pZ]at a;have z:=IW [F,F,jj (K ss.length)] 2 (K ss.length) rfl;simp;refine am.intro z ?_;rintro _ _ ⟨rfl,rfl⟩;cases d:(K ss.length).done
  .rw[SM (by simp[d])]at a;subst a;simp
  .rw[SN d]at a;subst a;simp
end Go.AX
namespace Go.AX
open Go.Proofs
set_option linter.unusedSimpArgs false
def Nf:List (List Int)->Nat->Option Int
 |[],_=>none
 |c::L,i=>if c=[]then some ((i+1:Nat):Int)else Nf L (i+1)
def Ng:List Stp->Int
 |[]=>0
 |s::ss=>if s.kind=1∧s.lits=[]then s.id else Ng ss
def N6(L:List (List Int))(ss:List Stp):Int:=(Nf L 0).getD (Ng ss)
def Sj(m:List (Int×Int))(k:Int):List (Int×Int):=pt m k (aY ((lk m k).getD 0+1))
def Sk(m:List (Int×Int))(s:Stp):List (Int×Int):=if s.kind=1∧0<(lk m s.id).getD 0 then s.hints.foldl Sj m else m
def QP(m:List (Int×Int)):List Stp->List (Int×Int)
 |[]=>m
 |s::ss=>Sk (QP m ss) s
def N7(L:List (List Int))(ss:List Stp):List (Int×Int):=QP [(N6 L ss,1)] ss
def zY(x:Stp):List PV:=[ab x.kind,ab x.id,.seq true 1 (ae x.lits),.seq true 1 (ae x.hints)]
@[simp] theorem zZ(k:Nat)(l:List Stp):bL k (l.map zY):=by
 induction l with
 |nil=>trivial
 |cons x xs a=>exact⟨⟨trivial,trivial,aT k _,aT k _,trivial⟩,a⟩
@[simp] theorem O0(r:Nat->Nat->PV)(l:List Stp):l4 r (l.map zY)=l.map dq:=by
 rw[cm,TT];apply Vb;intro x _;simp[zY,dq]
theorem ub(l:List Stp):A3 (l.map zY):=by
 induction l with
 |nil=>trivial
 |cons x xs a=>exact⟨⟨trivial,trivial,by simp,by simp,trivial⟩,a⟩
theorem oW(l:List Int):(aN l).length=l.length:=by unfold aN;simp
theorem Mi(H:List (List SV))(b:Nat)(zs:List Int)(sp:List SV)(a:H[b]?=some (aN zs++sp))(n:Nat):uL (aZ H (n+1) b 0) 1 zs.length=.seq false 1 (ae zs):=by
 have e:H.getD b []=aN zs++sp:=by rw[SI,a];rfl
 simp only[aZ,uL,e,SZ];rw[SN ⟨trivial,by rw[SX,oW];omega⟩];congr 1;unfold aN;simp only[TA,TT];rw[V6,UR (by simp),TT];rfl
theorem qR(k:Nat){sp:List SV}(h:cD k sp):∀l:List Int,cD k (aN l++sp)
 |[]=>h
 |_::l=>⟨trivial,qR k h l⟩
set_option maxRecDepth 16000 in
theorem Mj(v:Int)(L:List (List Int))(o:L.length<=1000000)(j:∀c∈L,c.length<=1000000):ak Tryz.prog 66 [.agg [ab v,.seq false 1 (L.map aw)],.lit (.slice none 0 0)] (λr=>r=.pv (.agg [ab v,.seq true 1 (L.map pB)])):=by
 refine iX [] [.cell 4 _] aC Tryz.func66 ?_;obtain⟨M,a⟩:∃M:Nat->List (List PV),∀i,M i=(L.take i).map pB:=⟨_,λ_=>rfl⟩;have d:M 0=[]:=by rw[a];rfl
 have e:M L.length=L.map pB:=by rw[a,Tw]
 have g:∀i (c:i<L.length),M (i+1)=M i++[pB L[i]]:=λi c=>by rw[a,a,T4,SH c,TA];rfl
 have f:∀i,(M i).length<=L.length:=λi=>by rw[a,SZ,SU];exact WR _ _
 simp;refine aF.intro (S:=λ(i:Nat)=>⟨[(2,.pv (.ptr 0 0)),(4,.pv (.ptr 1 0)),(5,.pv (.ptr 2 0)),(1,.pv (.lit (.slice none 0 0))),(14,.pv (.seq false 1 (L.map aw))),(15,.pv (ab L.length)),(16,.pv (ab i))],[[.pv (ab v),.pv (.seq false 1 (L.map aw))],[.pv (ab 0),.pv (.lit (.slice none 0 0))],[.pv (ab v),.own true 1 (M i)]]⟩) (λi=>i<=L.length) (λi=>L.length -i) 0 ?_ (Te _) ?_
 .exact(ai.nilCell (b:=2) (k:=1) (xs:=[.pv (ab v),.pv (.lit (.slice none 0 0))]) 1 true (by simp) (by simp)).trans (ai.keep (by simp[d]) (by simp[d]))
 intro i hi
 by_cases c:i<L.length
 .have n:=dZ i;have l:=g i c;have h:=eI L[i] (j _ (SS c));have m:=f i;simp[c,aw];refine bE.intro (by exact h) ?_;simp;exact⟨by omega,i+1,by(try dsimp only);omega,by(try dsimp only);omega,ai.keep (by simp[n]) (by simp[l,pB])⟩
 .have:i=L.length:=by omega
  subst this;simp;refine aF.intro (S:=λ(_:Unit)=>⟨[(4,.pv (.ptr 1 0)),(5,.pv (.ptr 2 0)),(28,.pv (.lit (.slice none 0 0))),(29,.pv (ab 0)),(30,.pv (ab 0))],[[.pv (ab v),.pv (.seq false 1 (L.map aw))],[.pv (ab 0),.pv (.lit (.slice none 0 0))],[.pv (ab v),.own true 1 (M L.length)]]⟩) (λ_=>True) (λ_=>0) () ?_ trivial ?_
  .exact ai.keep (by simp) rfl
  intro _ _;simp[e]
def z7(cs:List (List Int)):Bool:=decide (cs.length<=200)&&cs.all λc=>decide (c.length<=50)
theorem Gb(v:Int)(cs:List (List Int)):ak Tryz.prog 39 [.agg [ab v,.seq false 1 (cs.map aw)]] (λr=>r=.pv (BL (z7 cs))):=by
 refine ap aC Tryz.func39 ?_
 by_cases c:(200:Int)<cs.length
 .have:z7 cs=false:=by unfold z7;rw[UH (by omega),U1]
  rw[this];simp[c]
 have c':cs.length<=200:=by omega
 have f:z7 cs=cs.all λc=>decide (c.length<=50):=by unfold z7;rw[Uq c',Vs]
 rw[f];simp[c];refine aF.intro (S:=λ(i:Nat)=>⟨[(1,.pv (.ptr 0 0)),(3,.pv (ab i))],[[.pv (ab v),.pv (.seq false 1 (cs.map aw))]]⟩) (λi=>i<=cs.length∧∀j (h:j<cs.length),j<i->cs[j].length<=50) (λi=>cs.length -i) 0 ?_ ⟨Te _,λj _ h=>by omega⟩ ?_
 .exact ai.to (by simp) rfl (by simp) (by simp) (by simp)
 rintro i ⟨hi,hle⟩
 by_cases a:i<cs.length
 .have d:=dZ i
  by_cases c5:(50:Int)<cs[i].length
  .have:(cs.all λc=>decide (c.length<=50))=false:=by
    rw[List.all_eq_false];exact⟨cs[i],SS a,by simp;omega⟩
   rw[this];simp[a,aw,c5]
  .simp[a,aw,c5];refine⟨i+1,by(try dsimp only);omega,⟨by(try dsimp only);omega,λj hj g=>?_⟩,ai.to (by simp[d]) rfl (by simp) (by simp) (by simp)⟩
   by_cases e:j=i
   .subst e;omega
   .exact hle j hj (by omega)
 .have b:i=cs.length:=by omega
  subst b;have:(cs.all λc=>decide (c.length<=50))=true:=by
   rw[TG];intro x hx;obtain⟨j,hj,rfl⟩:=S6 hx;simpa using hle j hj hj
  rw[this];simp
theorem Ml(a b:Stp)(h1:a.kind=b.kind)(c:a.id=b.id)(d:a.lits=b.lits)(e:a.hints=b.hints):a=b:=by
 cases a;cases b;simp at*;exact⟨h1,c,d,e⟩
instance:DecidableEq Stp:=λa b=>decidable_of_iff (a.kind=b.kind∧a.id=b.id∧a.lits=b.lits∧a.hints=b.hints) ⟨λ⟨h1,h2,h3,h4⟩=>Ml a b h1 h2 h3 h4,λh=>by subst h;exact⟨rfl,rfl,rfl,rfl⟩⟩
theorem uc{α:Type}:∀{l:List (Int×α)}{k:Int}{y:α},(∀q∈l,q.1≠k)->pt l k y=l++[(k,y)]
 |[],_,_,_=>rfl
 |(j,x)::l,k,y,h=>by
  rw[pt,SM (h _ Tj),uc λq a=>h q (Tf _ a)];rfl
abbrev xS{α:Type}(l:List (Int×α)):Prop:=l.Pairwise λp q=>p.1<q.1
theorem xS.lk{α:Type}:∀{l:List (Int×α)},xS l->∀{k:Int}{x:α},(k,x)∈l->lk l k=some x
 |(j,z)::l,h,k,x,a=>by
  replace h:=Vm.1 h;rw[AX.lk];rcases Tp.1 a with a|a
  .cases a;rw[SN rfl]
  .have:=h.1 _ a;simp only at this;rw[SM (by omega)];exact xS.lk h.2 a
theorem D7{α:Type}:∀(l:List (Int×α))(k:Int),(dl l k).Sublist l
 |[],_=>Xh _
 |(j,x)::l,k=>by
  rw[dl];split
  .exact List.sublist_cons_self _ _
  .exact(D7 l k).cons_cons _
theorem nZ{α:Type}:∀(ids:List Int)(m:List (Int×α)),(ids.foldl dl m).Sublist m
 |[],_=>Xh _
 |id::ids,m=>(nZ ids (dl m id)).trans (D7 m id)
structure CkG (c:Ck):Prop where
  rs:xS c.m
  lo:∀q∈c.m,1<=q.1
  hi:∀q∈c.m,q.1<=c.last
  t:0<=c.last∧c.last<=20000000
theorem CkG.put{c:Ck}(h:CkG c){id:Int}{l:List Int}(h1:c.last<id)(d:id<=20000000):(oV c id l).m=c.m++[(id,l)]∧CkG (oV c id l):=by
 have e:pt c.m id l=c.m++[(id,l)]:=uc λq a=>by have:=h.hi q a;omega
 have ht:=h.t;have b:(oV c id l).m=c.m++[(id,l)]:=e;refine⟨b,⟨?_,?_,?_,?_⟩⟩
 .rw[b,xS,Vz];refine⟨h.rs,List.pairwise_singleton _ _,λq a p hp=>?_⟩;rw[Tt]at hp;subst hp;have:=h.hi q a;simp only;omega
 .rw[b];intro q a;rcases S7.1 a with a|a
  .exact h.lo q a
  .rw[Tt]at a;subst a;simp only;omega
 .rw[b];intro q a;show q.1<=id;rcases S7.1 a with a|a
  .have:=h.hi q a;omega
  .rw[Tt]at a;subst a;exact Vc _
 .exact⟨by show 0<=id;omega,d⟩
theorem CkG.drop{c:Ck}(h:CkG c)(ids:List Int):CkG ⟨ids.foldl dl c.m,c.last,c.done⟩:=by
 have hs:=nZ ids c.m;exact⟨h.rs.sublist hs,λq a=>h.lo q (hs.subset a),λq a=>h.hi q (hs.subset a),h.t⟩
theorem CkG.new(L:List (List Int))(c:L.length<=100000):∀i,i<=L.length->CkG (dr L i)∧(dr L i).last=i
 |0,_=>⟨⟨List.Pairwise.nil,λq a=>absurd a Xq,λq a=>absurd a Xq,⟨Vc _,by show(0:Int)<=20000000;omega⟩⟩,rfl⟩
 |i+1,hi=>by
  obtain⟨h1,b⟩:=CkG.new L c i (by omega);have hs:dr L (i+1)=uS (dr L i) L[i]:=bd uS _ L i (by omega);have d:aY ((dr L i).last+1)=((i+1:Nat):Int):=by rw[b,ao (by omega) (by omega)];omega
  rw[hs];unfold uS;rw[d];exact⟨(h1.put (by omega) (by omega)).2,rfl⟩
theorem Gc{c:Ck}{s:Stp}(h0:ir s=true)(h1:s.kind=1)(e:c.last<s.id)(a:i8 s.lits=false)(b:gJ c s.hints=true)(d:tZ c s.lits s.hints=0):fc c s=(oV c s.id s.lits,0):=by
 unfold fc;rw[SM (by rw[ua,SN h0];simp),SM (by omega)];unfold xR;rw[SM (by omega),SM (by rw[a];simp),SM (by rw[b];simp),SM (by rw[d];simp)]
theorem Cu{hs:List Int}(h:∀x∈hs,0<=x):pW hs=(hs,[]):=by
 have:∀i,i<=hs.length->ct hs i=(hs.take i,[]):=by
  intro i
  induction i with
  |zero=>intro _;rfl
  |succ i a=>
   intro hi;rw[oU hs (by omega),a (by omega)];have:=h hs[i] (SS _);unfold mc;rw[SM (by omega),SN rfl,T4,SH (by omega)];rfl
 unfold pW;rw[this _ (SQ _),Tw]
theorem Jl{h:Int}(h1:1<=h)(a:h<=20000000):xP h=h:=by
 unfold xP;rw[ao (by omega) (by omega),SM (by omega)]
/-! ### What is marked -/
def Sl(m:List (Int×Int))(k:Int):Prop:=0<(lk m k).getD 0
instance (m:List (Int×Int)) (k:Int):Decidable (Sl m k):=by unfold Sl;infer_instance
def Nh:List Stp->Nat
 |[]=>0
 |s::ss=>Nh ss+s.hints.length
/-! ### The replay -/
def Sz(L:List (List Int))(ss:List Stp)(x:Int):Prop:=Sl (N7 L ss) x
instance (L:List (List Int)) (ss:List Stp) (x:Int):Decidable (Sz L ss x):=by unfold Sz;infer_instance
section
variable {v : Int} {L : List (List Int)} {ss : List Stp} (hn : 1 + Nh ss <= 1000000000)
include hn
end
theorem mR{α:Type}:∀(l:List (Int×α))(k:Int)(y:α)(x:Int),x∈(pt l k y).map (·.1)↔x=k∨x∈l.map (·.1)
 |[],k,y,x=>by simp[pt]
 |(j,z)::l,k,y,x=>by
  rw[pt]
  by_cases c:j=k
  .rw[SN c];subst c;simp
  .rw[SM c,Th,Tp,mR l k y x,Th,Tp];constructor
   .rintro(h|h|h)
    .exact .inr (.inl h)
    .exact .inl h
    .exact .inr (.inr h)
   .rintro(h|h|h)
    .exact .inr (.inl h)
    .exact .inl h
    .exact .inr (.inr h)
theorem kh{α:Type}:∀(l:List (Int×α))(k:Int)(y:α),(l.map (·.1)).Nodup->((pt l k y).map (·.1)).Nodup
 |[],k,y,_=>by simp[pt]
 |(j,z)::l,k,y,h=>by
  rw[Th,UE]at h;rw[pt]
  by_cases c:j=k
  .rw[SN c,Th,UE];subst c;exact h
  .rw[SM c,Th,UE,mR];exact⟨λa=>a.elim c h.1,kh l k y h.2⟩
theorem wm{l:List Int}{x:Int}:x∈bD l↔x∈l:=by
 unfold bD;exact(Vd l _).mem_iff
structure CkM (n:Nat) (c:Ck):Prop where
  n:c.m.length<=n
  w:∀q∈c.m,DB q.1
  l:∀q∈c.m,q.2.length<=100000
theorem CkM.ok{n:Nat}{c:Ck}(h:CkM n c)(hn:n<=100000):CkOk c:=⟨TD h.n hn,h.w,h.l⟩
theorem wo{zs:List Int}(hs:zs.Pairwise (·<=·)):∀j,j<=zs.length->(aM zs j).Pairwise (·<·)∧∀x,x∈aM zs j↔x∈zs.take j
 |0,_=>⟨by simp[aM],λx=>by simp[aM]⟩
 |j+1,h=>by
  obtain⟨h1,b⟩:=wo hs j (by omega);have f:zs.getD j 0=zs[j]:=by simp[show j<zs.length by omega]
  rw[aM,f,T4,SH (by omega),UG];have hp:=Tv.1 hs
  by_cases d:j=0∨zs[j]≠zs.getD (j -1) 0
  .rw[SN d];refine⟨Vz.2 ⟨h1,by simp,λy hy z hz=>?_⟩,λx=>by rw[S7,S7,b]⟩;rw[Tt]at hz;subst hz;obtain⟨k,hk,rfl⟩:=S6 ((b y).1 hy);rw[SU]at hk;rw[Ua];rcases d with rfl|d
   .omega
   .have a:zs.getD (j -1) 0=zs[j -1]:=by simp[show j -1<zs.length by omega]
    rw[a]at d;have i:zs[k]<=zs[j -1]:=by
     by_cases e:k=j -1
     .subst e;exact Vc _
     .exact hp k (j -1) (by omega) (by omega) (by omega)
    have l:zs[j -1]<=zs[j]:=hp (j -1) j (by omega) (by omega) (by omega);omega
  .rw[SM d];refine⟨h1,λx=>?_⟩;rw[b,S7,Tt];refine⟨.inl,λhx=>hx.elim id λe=>?_⟩;have hj:j≠0:=λe=>d (.inl e);have a:zs.getD (j -1) 0=zs[j -1]:=by simp[show j -1<zs.length by omega]
   have c:zs[j]=zs[j -1]:=Tl λg=>d (.inr (by rw[a];exact g));rw[e,c];exact Ug.2 ⟨j -1,by omega,rfl⟩
theorem rv{zs:List Int}:∀j,j<=zs.length->(aM zs j).length=j->aM zs j=zs.take j
 |0,_,_=>by simp[aM]
 |j+1,h,a=>by
  have b:zs.getD j 0=zs[j]:=by simp[show j<zs.length by omega]
  have:=gF zs j;rw[aM]at a⊢
  by_cases d:j=0∨zs.getD j 0≠zs.getD (j -1) 0
  .rw[SN d]at a⊢;rw[SX,TZ]at a;rw[rv j (by omega) (by omega),b,T4,SH (by omega)];rfl
  .rw[SM d]at a;omega
theorem oa{zs:List Int}(hs:zs.Pairwise (·<·)):∀j,j<=zs.length->(aM zs j).length=j
 |0,_=>rfl
 |j+1,h=>by
  have c:=oa hs j (by omega);have b:zs.getD j 0=zs[j]:=by simp[show j<zs.length by omega]
  rw[aM,SN,SX,c]
  .rfl
  .by_cases e:j=0
   .exact .inl e
   .right;have a:zs.getD (j -1) 0=zs[j -1]:=by simp[show j -1<zs.length by omega]
    have:=Tv.1 hs (j -1) j (by omega) (by omega) (by omega);rw[b,a];omega
theorem CA(ids:List Int):¬(cq (bD ids)).length<ids.length↔ids.Nodup:=by
 have hp:(bD ids).Perm ids:=Vd _ _;have e:=hp.length_eq;have hs:=mO ids;constructor
 .intro h;have h1:=gF (bD ids) (bD ids).length;unfold cq at h;have d:=rv (zs:=bD ids) _ (SQ _) (by omega);have c:=(wo hs _ (SQ _)).1;rw[d,Tw]at c;exact hp.nodup_iff.1 (c.imp λh=>by omega)
 .intro h;have hn:=hp.nodup_iff.2 h;have:=oa ((List.pairwise_and_iff.2 ⟨hs,hn⟩).imp λ⟨a,b⟩=>by omega) _ (SQ (bD ids).length);unfold cq;omega
theorem Jx{c:Ck}{ids:List Int}(hi:∀x∈ids,1<=x∧x<=20000000):dropB c ids=false↔(ids.Nodup∧∀x∈ids,(lk c.m x).isSome=true):=by
 unfold dropB gJ;rw[VK,Us,CA,Bool.not_eq_false',TG];refine and_congr_right λ_=>forall_congr' λx=>forall_congr' λhx=>?_;rw[Jl (hi x hx).1 (hi x hx).2]
end Go.AX