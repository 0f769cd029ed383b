/-
  The library: a map's keys, sorted, whatever its values; a slice's values, sorted.
  The library: slices.BinarySearch of numbers.
  Contracts: lrat.Checker: its numbers; what is dropped.
  Contracts: lrat: a group of hints is noted.
  Contracts: rat.Show.
  Contracts: lrat.Checker: may a clause be added?
  Contracts: lrat.Checker: a step.
  Contracts: lrat.New, lrat.Check.
  Contracts: trim: what is needed.
  Contracts: trim.copied, trim.Trim.
  Contracts: slices.DeleteFunc of a block's numbers.
  Contracts: watches: what they hold; made, look, shrunk.
  Watches: how they lie in memory, told as plain data.
  Contracts: watches: forget.
  Contracts: watches: fresh.
-/
import Derived.Test.YtepodadinenmnaaGreatS14AxEvG
import Derived.Test.YtepodadinenmnaaGreatS14AxTmL
import Derived.Test.YtepodadinenmnaaGreatS14AxTmQ
import Derived.Test.YtepodadinenmnaaGreatAxR
import Derived.Test.YtepodadinenmnaaGreatAxIs
import Derived.Test.YtepodadinenmnaaGreatAxAg
import Derived.Test.YtepodadinenmnaaGreatS14AxDkQ
import Derived.Test.YtepodadinenmnaaGreatAxTb
import Derived.Test.YtepodadinenmnaaGreatAxBt
namespace Go.AX
set_option maxRecDepth 16000
open Go.Proofs Go.Maps Go.Shelf
set_option linter.unusedSimpArgs false
def GY(_:Value):Option (DataW Unit×List MemPlace):=some (.lit (.int .i64 0),[])
def k0(ks:List Int):List (Int×Int):=ks.map λx=>(x,0)
def bK(l:List Int):List Int:=l.mergeSort λx y=>decide (x<=y)
theorem uJ{β:Type}{f:β->PV}{G:Gh}:∀{a:List (Int×β)}{en:List MapEntry},bz G (aC f a) en->en.map (·.key)=(a.map (·.1)).map λx=>.int .i64 x
 |[],en,h=>by
  have:en=[]:=h;rw[this];rfl
 |q::a,en,⟨m,r,h1,b,d,c⟩=>by
  subst h1;rw[Qw,Qw,Qw,uJ c,b]
section
variable {P : Program} {k : TypeId}
theorem GZ(hk:P.underlying k=some (.int .i64)):∀{en:List MapEntry}{ks:List Int},en.map (·.key)=ks.map (λx=>.int .i64 x)->(∀x∈ks,B7 x)->
 en.map (WideElems.rg P k GY)=Mu (k0 ks)∧∀m∈en,∃y,WideElems.rd P k GY m=some y
 |[],ks,h,_=>by
  cases ks with
  |nil=>exact⟨rfl,λm e=>by cases e⟩
  |cons _ _=>cases h
 |m::en,ks,h,c=>by
  cases ks with
  |nil=>cases h
  |cons q ks=>
   rw[Qw,Qw]at h;injection h with h1 d;obtain⟨g,i⟩:=GZ hk d (λq f=>c q (Qr _ f));have b:WideElems.rd P k GY m=some (.int .i64 q,.lit (.int .i64 0)):=by
    unfold WideElems.rd;rw[h1,keyOf_int_mk hk (c q Qy)];simp[GY]
   refine⟨?_,λj a=>?_⟩
   .rw[Qw,g,WideElems.rg_of b];rfl
   .rcases QC.1 a with rfl|a
    .exact⟨_,b⟩
    .exact i j a
theorem G0{β:Type}{f:β->PV}(hk:P.underlying k=some (.int .i64)){w:World}{c:Nat}{en:Array MapEntry}{ck:Nat}{G:Gh}{a:List (Int×β)}(e:w.heap[c]?=some (.map en ck))(g:bz G (aC f a) en.toList)(b:MapKept.Stamped en ck)
 (i:∀q∈a,B7 q.1) (m:a.length<=maxLen):w.ownsMap P k GY c a.length (Jg (k0 (a.map (·.1)))):=by
 have d:=uJ g;have hn:en.size=a.length:=by
  have:=SK List.length d;simpa using this
 obtain ⟨j, l⟩ := GZ hk d (λ x hx => by
  rw[Qk]at hx;obtain⟨q,h,rfl⟩:=hx;exact i q h)
 exact⟨en,ck,e,⟨by omega,b,l⟩,by omega,by unfold Jg;rw[j]⟩
end
theorem JR(ks:List Int):(k0 ks).map (·.1)=ks:=by
 unfold k0;rw[Ra];exact List.map_id ks
theorem Ox:bH Tryz.prog (Tryz.sortedA_ren.t 24)=some (1,8):=by kernel_rfl
theorem oX{β:Type}(f:β->PV)(j:Nat)(a:List (Int×β))(Z:∀q∈a,B7 q.1)(J:a.length<=1000000)(A:∀args w,(callFunc j args).run Tryz.prog w=.ok (.enter j args) w)
 (l:∀{H:Type}(d b nn:Nat)(z:DataW H){R:Value->Option (DataW H×List MemPlace)}(w:World),d<w.heap.size->w.cell? ⟨d,0,none⟩=some (.map (some b))->w.ownsMap Tryz.prog (Tryz.sortedA_ren.t 26) R b nn z->SeqGives Fence.wide 2 Tryz.prog j #[.pointer (some ⟨d,0,none⟩)] encZ (λss=>ss.Perm (intKeys z)) (Maps.size z) w):
 D6 Tryz.prog 141 j (.amap false (aC f a)) (.own true 1 ((bK (a.map (·.1))).map λx=>[af x])):=by
 refine⟨by kernel_rfl,λw d arr T v0 h1 L M=>?_⟩;have i:w.cell? ⟨d,0,none⟩=some v0:=by
  have:arr[0]?=some v0:=by rw[←Qf,L];rfl
  simp[World.cell?,h1,this]
 have D:=(Qi.1 h1).1;have y:∀(S:List Int->Prop)(N:Nat),N<=1000000->(∀ss,S ss->ss.length<=N)->(∀ss,S ss->bK ss=bK (a.map (·.1)))->SeqGives Fence.wide 2 Tryz.prog j #[.pointer (some ⟨d,0,none⟩)] encZ S N w->
  Calls Tryz.prog 141 #[.func (.func j) #[] #[.pointer (some ⟨d,0,none⟩)]] w λe w'=>∃v g' o,e=.returned v∧PureEnd w w' g'∧aw g' w' (.own true 1 ((bK (a.map (·.1))).map λx=>[af x])) v o∧(SV.own true 1 ((bK (a.map (·.1))).map λx=>[af x])).inCell=true∧∀c,o=some c->w.heap.size<=c∧g'.I c=none:=by
  intro S N hN E F s;have K:=B8 Tryz.sortedA Ox Fence.wide 5 trivial trivial trivial trivial rfl (by omega) (Tryz.sortsA _) (enters_of Tryz.func171 (by kernel_rfl) rfl) j #[.pointer (some ⟨d,0,none⟩)] trivial A S N (by unfold maxLen;omega) (by omega) w (iH.of s) E;refine((callsIn_wide (n:=5)).1 K).mono λe w' ⟨v,ss,X,V,g,m,Y,W⟩=>?_;have G:=F ss V;have J:ss.length=(bK (a.map (·.1))).length:=by rw[←G];unfold bK;rw[Rn]
  unfold bK at G;rw[G]at g;obtain⟨g',o,B,C,Q,U⟩:=yo J g m W;exact⟨v,g',o,X,B,C,Q,U⟩
 obtain⟨c,en,ck,rfl,O,_,B,C⟩:=M
 .have p:=G0 (P:=Tryz.prog) (k:=Tryz.sortedA_ren.t 26) (by kernel_rfl) O B C Z (by unfold maxLen;omega);have u:Maps.size (Jg (k0 (a.map (·.1))))=a.length:=by rw[FU];unfold k0;rw[Ql,Ql]
  have r:∀ss:List Int,ss.Perm (intKeys (Jg (k0 (a.map (·.1)))))->ss.Perm (a.map (·.1)):=λss h=>by
   have:=h.trans (FT _)
   rwa [JR]at this
  refine y _ _ (by rw[u];omega) (λss h=>?_) (λss h=>?_) (l d c a.length (Jg (k0 (a.map (·.1)))) w D i p)
  .rw[(r ss h).length_eq,Ql,u];exact Qc _
  .exact mergeSort_of_perm_i (r ss h)
theorem AO{β:Type}(f:β->PV)(a:List (Int×β))(i:∀q∈a,B7 q.1)(h:a.length<=1000000):
 D6 Tryz.prog 141 312 (.amap false (aC f a)) (.own true 1 ((bK (a.map (·.1))).map λx=>[af x])):=
 oX f _ a i h (enters_of Tryz.func312 (by kernel_rfl) rfl)
  (λ{_} c b j d {_} w h1 e g=>AnyZI.keys_gives (ρ:=Tryz.keysB_ren) {Tryz.keysB with} Fence.wide 2 trivial rfl (by omega) c b j d w h1 e g)
theorem AP{β:Type}(f:β->PV)(a:List (Int×β))(i:∀q∈a,B7 q.1)(h:a.length<=1000000):
 D6 Tryz.prog 141 229 (.amap false (aC f a)) (.own true 1 ((bK (a.map (·.1))).map λx=>[af x])):=
 oX f _ a i h (enters_of Tryz.func229 (by kernel_rfl) rfl)
  (λ{_} c b j d {_} w h1 e g=>AnyZI.keys_gives (ρ:=Tryz.keysA_ren) {Tryz.keysA with} Fence.wide 2 trivial rfl (by omega) c b j d w h1 e g)
theorem G6(h:List (List SV))(es:List (Int×PV)):ay Tryz.prog 270 [.amap false es] h (λr h'=>h'=h++[[.pv (.amap false es)]]∧r=.pv (.fn (.func 312) [] [.ptr h.length 0])):=by
 refine ay.below (by kernel_rfl) λa=>?_;refine cY [] [.tmp 2] aD Tryz.func270 ?_;simp
theorem G8(h:List (List SV))(l:List Int):ay Tryz.prog 142 [.seq false 1 (ab l)] h (λr h'=>h'=h++[[.pv (.seq false 1 (ab l))]]∧r=.pv (.fn (.func 218) [] [.ptr h.length 0])):=by
 refine ay.below (by kernel_rfl) λa=>?_;refine cY [] [.tmp 2] aD Tryz.func142 ?_;simp
theorem AR(l:List Int)(Y:l.length<=1000000):D6 Tryz.prog 141 218 (.seq false 1 (ab l)) (.own true 1 (ab (bK l))):=by
 refine⟨by kernel_rfl,λw q arr T v0 h1 L M=>?_⟩;have m:w.cell? ⟨q,0,none⟩=some v0:=by
  have:arr[0]?=some v0:=by rw[←Qf,L];rfl
  simp[World.cell?,h1,this]
 have y:=(Qi.1 h1).1;have t:iH Fence.wide 2 Tryz.prog 218 #[.pointer (some ⟨q,0,none⟩)] (λss=>ss=l) l.length w:=by
  intro n J W F _ V h0;have k:=(F.cell (p:=⟨q,0,none⟩) y).trans m;obtain⟨p,cap,rfl,G,f⟩:=M
  by_cases i:l=[]
  .subst i;exact(Dq Fence.wide 2 trivial rfl n q cap p J W k h0).mono λe D ⟨i,hj⟩=>⟨i,_,rfl,hj⟩
  .rcases f with f|⟨c,off,g,H,fz,vs,rfl,E,_,S,s⟩
   .unfold ab at f;rw[Un]at f;exact absurd f i
   .have C:=uk S;have u:c<w.heap.size:=(Qi.1 E).1;have A:(ab l).length=l.length:=by simp
    rw[A]at k;refine(FX Fence.wide 2 trivial rfl (by omega) n q w.heap.size c off cap l (by omega) u J (λpre x I a b=>(V pre x I a b).mono λe D ⟨a,b,_,d⟩=>⟨a,b,d⟩) W k (λj hj=>?_) h0).mono λe D ⟨i,hj⟩=>⟨i,_,rfl,hj⟩;rw[F.cell (p:=⟨c,off+j,none⟩) u];have z:w.heap[c]?=some (.cells g H fz):=E;obtain⟨tl,B⟩:=s;have:g[off+j]?=some (.int .i64 (l[j]?.getD 0)):=by
     rw[←Qf];have R:(g.toList.drop off)[j]?=g.toList[off+j]?:=Rp;rw[←R,←B,C,Qd (by rw[Ql];exact hj),Qu,P8 hj];rfl
    simp[World.cell?,z,this]
 have K:=B8 Tryz.sortedA Ox Fence.wide 5 trivial trivial trivial trivial rfl (by omega) (Tryz.sortsA _) (enters_of Tryz.func171 (by kernel_rfl) rfl) 218 #[.pointer (some ⟨q,0,none⟩)] trivial (enters_of Tryz.func218 (by kernel_rfl) rfl) (λss=>ss=l) l.length (by unfold maxLen;omega) (by omega) w t (λss h=>by rw[h];exact Qc _);refine((callsIn_wide (n:=5)).1 K).mono λe w' ⟨v,ss,i,U,f,r,X,u⟩=>?_;subst U;obtain⟨g',o,N,O,P,Q⟩:=yo (by rw[Rn]) f r u;exact⟨v,g',o,i,N,O,P,Q⟩
end Go.AX
namespace Go.AX
open Go.Proofs
set_option linter.unusedSimpArgs false
theorem D7(n:Int):am Tryz.prog 272 [af n] (λr=>r=.pv (BL false)):=by
 refine ao aD Tryz.func272 ?_;simp
theorem G9(a b:Int):am Tryz.prog 271 [af a,af b] (λr=>r=.pv (BL (decide (a<b)))):=by
 refine ao aD Tryz.func271 ?_;simp;refine ah.intro (rI a) ?_;simp;refine aO.intro (r:=.pv (BL false)) (λh:False=>h.elim) ?_;simp
def MO(l:List Int)(x:Int):Nat:=l.countP λy=>decide (y<x)
theorem LC{l:List Int}{x:Int}{i:Nat}(hi:i<=l.length)(h1:∀k (_:k<l.length),k<i->l[k]<x)(c:∀k (_:k<l.length),i<=k->x<=l[k]):MO l x=i:=by
 unfold MO;rw[←Q7 i l,List.countP_append];have a:(l.take i).countP (λy=>decide (y<x))=(l.take i).length:=UR.2 λy hy=>by
  obtain⟨k,hk,rfl⟩:=Qm hy;rw[Qg]at hk;rw[Rr];exact Sn (h1 k (by omega) (by omega))
 have b:(l.drop i).countP (λy=>decide (y<x))=0:=Ur.2 λy hy=>by
  obtain⟨k,hk,rfl⟩:=Qm hy;rw[QS]at hk;rw[List.getElem_drop];have:=c (i+k) (by omega) (by omega);simp;omega
 rw[a,b,Qg];omega
def IP(l:List Int)(x:Int):Bool:=decide (l[MO l x]?=some x)
theorem LD(i j:Nat)(h:i+j<=4000000):aX ((IntKind.u64.wrap ((i:Int)+j)).fdiv (2^min 1 IntKind.u64.bits))=(((i+j)/2:Nat):Int):=by
 have a:IntKind.u64.wrap ((i:Int)+j)=((i+j:Nat):Int):=by
  rw[show((i:Int)+j)=((i+j:Nat):Int) by omega];have c:IntKind.u64.bits=64:=rfl;have hs:IntKind.u64.signed=false:=rfl;unfold IntKind.wrap;simp[c,hs];omega
 have b:(2:Int)^min 1 IntKind.u64.bits=2:=by decide
 rw[a,b,Int.fdiv_eq_ediv_of_nonneg _ (by decide)];have:(((i+j:Nat):Int)/2)=(((i+j)/2:Nat):Int):=by omega
 rw[this];exact aq (by omega) (by omega)
set_option maxRecDepth 16000 in
theorem AS(l:List Int)(x:Int)(y:l.length<=1000000)(hs:l.Pairwise (·<=·)):am Tryz.prog 225 [.seq false 1 (ab l),af x] (λr=>r=.pv (.tup [af (MO l x),BL (IP l x)])):=by
 refine nE [4,5] aD Tryz.func225 (λ_ _=>results_tmp2 rfl _ _ _) ?_;have u:∀j k (hj:j<l.length)(hk:k<l.length),j<=k->l[j]<=l[k]:=λj k hj hk h=>by
  rcases Nat.lt_or_eq_of_le h with h|h
  .exact QV.1 hs j k hj hk h
  .subst h;exact Ss _
 simp;refine aH.intro (S:=λ(p:Nat×Nat)=>⟨[(0,.pv (.seq false 1 (ab l))),(1,.pv (af x)),(6,.pv (af l.length)),(7,.pv (af p.1)),(8,.pv (af p.2))],[]⟩) (λp=>p.1<=p.2∧p.2<=l.length∧(∀k (_:k<l.length),k<p.1->l[k]<x)∧∀k (_:k<l.length),p.2<=k->x<=l[k]) (λp=>p.2 -p.1) (0,l.length) ?_ ⟨Qq _,Qc _,(λk _ h=>by omega),(λk h1 o=>by omega)⟩ ?_
 .exact ai.keep (by simp) rfl
 rintro⟨i,j⟩ ⟨s,hj,h1,o⟩;dsimp only at s hj h1 o
 by_cases c:i<j
 .have t:aX ((i:Int)+j)=(i:Int)+j:=aq (by omega) (by omega);have n:=LD i j (by omega);generalize v:(i+j)/2=m at*;have g:m<l.length:=by omega
  have w:=eq m;simp[c,t,n,g];refine ah.intro (G9 l[m] x) ?_
  by_cases d:l[m]<x
  .simp[d];exact⟨(m+1,j),by(try dsimp only);omega,⟨by(try dsimp only);omega,hj,(λk hk f=>by have:=u k m hk g (by(try dsimp only at f);omega);omega),o⟩,ai.keep (by simp[w]) (by simp)⟩
  .simp[d];exact⟨(i,m),by(try dsimp only);omega,⟨by(try dsimp only);omega,by(try dsimp only);omega,h1,(λk hk f=>by have:=u m k g hk (by(try dsimp only at f);omega);omega)⟩,ai.keep (by simp) (by simp)⟩
 .have q:i=j:=by omega
  subst q;have a:=LC hj h1 o;simp
  by_cases d:i<l.length
  .by_cases e:l[i]=x
   .have b:IP l x=true:=by unfold IP;rw[a,P8 d,e];simp
    simp[d,e,a,b];refine aO.intro (r:=.pv (BL false)) (λh:False=>h.elim) ?_;simp;refine aO.intro (r:=.pv (BL false)) (λh:False=>h.elim) ?_;simp[a,b]
   .have b:IP l x=false:=by unfold IP;rw[a,P8 d];simpa using e
    simp[d,e,a,b];refine aO.intro (λ_=>D7 _) ?_;simp;refine aO.intro (r:=.pv (BL false)) (λh:False=>h.elim) ?_;simp[a,b]
  .have b:IP l x=false:=by unfold IP;rw[a,QH (by omega)];rfl
   simp[d,a,b];refine aO.intro (r:=.pv (BL false)) (λh:False=>h.elim) ?_;simp;refine aO.intro (r:=.pv (BL false)) (λh:False=>h.elim) ?_;simp[a,b]
end Go.AX
namespace Go.AX
set_option maxRecDepth 16000
open Go.Proofs
set_option linter.unusedSimpArgs false
theorem D8(c:Ck):am Tryz.prog 78 [uH c] (λr=>r=.pv (BL true)):=by
 refine ao aD Tryz.func78 ?_;simp
def gM(c:Ck):List Int:=bK (c.m.map (·.1))
theorem JS(c:Ck)(e:∀q∈c.m,B7 q.1)(a:c.m.length<=1000000):am Tryz.prog 223 [uH c] (λr=>r=.own true 1 (ab (gM c))):=by
 refine ao aD Tryz.func223 ?_;have d:=D8 c;have hk:=λh=>G6 h (aC fD c.m);have hs:=AO fD c.m e a;simp[a8];refine ah.intro d ?_;simp;refine ah.introM (hk _) ?_;rintro _ _ ⟨rfl,rfl⟩;simp;refine ah.introX (cd.ptr1 (b:=0) (y0:=.amap false (aC fD c.m)) hs (by simp) (by simp) rfl (by simp) (by simp) (by simp) (by simp) (by simp) ?_);simp[gM,ab]
def dl{α:Type}:List (Int×α)->Int->List (Int×α)
 |[],_=>[]
 |(k,x)::r,n=>if k=n then r else(k,x)::dl r n
@[simp] theorem LE:∀(l:List (Int×List Int))(k:Int),gX k (aC fC l)=aC fC (dl l k)
 |[],k=>rfl
 |(j,x)::l,k=>by
  show(if j=k then aC fC l else(j,fC x)::gX k (aC fC l))=aC fC (if j=k then l else(j,x)::dl l k);rw[LE l k];split<;>rfl
def dropB(c:Ck)(ids:List Int):Bool:=decide ((cH (bK ids)).length<ids.length)||!gU c ids
def kZ(c:Ck)(ids:List Int)(i:Nat):Ck:=⟨(ids.take i).foldl dl c.m,c.last,c.done⟩
def ql(c:Ck)(ids:List Int):Ck:=if dropB c ids=true then c else kZ c ids ids.length
def yp(c:Ck)(ids:List Int):Int:=if dropB c ids=true then 20 else 0
theorem Ha(h:List (List SV))(b:Nat)(c:Ck)(L:h[b]?=some (io c))(ids:List Int)(N:ids.length<=1000000):
 ay Tryz.prog 80 [.ptr b 0,.seq false 1 (ab ids)] h (λr h'=>h'=h.set b (io (ql c ids))∧r=.pv (af (yp c ids))):=by
 refine dY [] [.tmp 4] (h.set b (io (ql c ids))) (by simp) (λT=>by rw[Qz];exact bX (kX _ _) b T) aD Tryz.func80 ?_;obtain⟨f,C⟩:=P7.1 L;have U:=λh=>G8 h ids;have hs:=AR ids N;have j:(bK ids).length=ids.length:=by unfold bK;rw[Rn]
 have P:=nJ (bK ids) (by omega);have Q:=ym c ids N;have E:=kr (bK ids) (bK ids).length;simp;refine ah.introM (U _) ?_;rintro _ _ ⟨rfl,rfl⟩;simp;refine ah.introX (cd.ptr1 (b:=h.length) (y0:=.seq false 1 (ab ids)) hs (by simp) (by simp) rfl (by simp) (by simp) (by simp) (by simp) (by simp) ?_);simp;refine ah.introX (cd.introS (o:=.slot 10) (lo:=0) (hi:=ids.length) P (by simp) rfl rfl (by simp[j]) (by simp) rfl (by simp;rw[QM (by simp[ab,j])];rfl) (eK 0 _) (by simp) (by simp) ?_);rintro _ _ ⟨rfl,rfl⟩ k _;have p:dropB c ids=(decide ((cH (bK ids)).length<ids.length)||!gU c ids):=rfl;have v:(cH (bK ids)).length<=ids.length:=by rw[←j];exact E
 have a:ql c ids=if dropB c ids=true then c else kZ c ids ids.length:=rfl;have d:yp c ids=if dropB c ids=true then 20 else 0:=rfl;generalize ql c ids=W at*;generalize yp c ids=Y at*;generalize R:aB (cH (bK ids)++List.replicate ((bK ids).length -(cH (bK ids)).length) 0)=Z at k;clear R;generalize(cH (bK ids)).length=m at*;have e:Z.length=ids.length:=k;have l:min m ids.length=m:=Rz v;have D:∀X:List (List SV),(h++X)[b]?=some (io c):=λX=>by rw[Qd f];exact L
 have O:∀X:List (List SV),b<(h++X).length:=λX=>by rw[Qh];omega
 have g:h.set b (io c)=h:=by rw[←C];exact SC f
 by_cases c1:m<ids.length
 .have u:dropB c ids=true:=by rw[p];simp[c1]
  rw[Qb u]at a d;subst a d;have n:(m:Int)<(ids.length:Int):=by omega
  simp[e,j,l,c1,n];exact g.symm
 have n:¬(m:Int)<(ids.length:Int):=by omega
 have H:∀X:List (List SV),a8 (h++X) 3 b 0=uH c:=λX=>GV (D X) 2;simp[e,j,l,c1,n,H];refine ak.introP Q ?_
 by_cases c2:gU c ids=true
 rotate_left
 .have u:dropB c ids=true:=by rw[p];simp[c2]
  rw[Qb u]at a d;subst a d;simp[c2];exact g.symm
 have u:¬dropB c ids=true:=by rw[p];simp[c1,c2]
 rw[Qa u]at a d;subst a d;simp[c2];obtain⟨G,t⟩:∃G:Nat->List (List SV),∀i,G i=h.set b (io (kZ c ids i))++[[.pv (.seq false 1 (ab ids))]]:=⟨_,λ_=>rfl⟩;have y:h++[[.pv (.seq false 1 (ab ids))]]=G 0:=by
  rw[t];show _=h.set b (io c)++_;rw[g]
 have A:∀i,b<(G i).length:=λi=>by rw[t];simp;omega
 have z:∀i,(G i)[b]?=some [.omap true (aC fC (kZ c ids i).m),.pv (af c.last),.pv (BL c.done)]:=λi=>by
  rw[t,Qd (by simpa using f),Q0 f];rfl
 have B:∀i,i<ids.length->(G i).set b [.omap true (aC fC (dl (kZ c ids i).m (ids.getD i 0))),.pv (af c.last),.pv (BL c.done)]=G (i+1):=λi hi=>by
  have F:(kZ c ids (i+1)).m=dl (kZ c ids i).m ids[i]:=bs dl c.m ids i hi;have q:ids.getD i 0=ids[i]:=by rw[P9,P8 hi];rfl
  rw[t,t,Su _ _ (by simpa using f),TO];unfold io;rw[F,q];rfl
 simp only[y];refine aH.intro (S:=λ(i:Nat)=>⟨[(0,.pv (.ptr b 0)),(1,.pv (.seq false 1 (ab ids))),(23,.pv (.seq false 1 (ab ids))),(24,.pv (af ids.length)),(25,.pv (af i))],G i⟩) (λi=>i<=ids.length) (λi=>ids.length -i) 0 ?_ (Qq _) ?_
 .exact ai.keep (by simp) rfl
 intro i hi;have J:=A i;have I:=z i
 by_cases s:i<ids.length
 .have V:=eq i;have x:=B i s;generalize(kZ c ids i).m=M at*;have q:ids.getD i 0=ids[i]:=by rw[P9,P8 s];rfl
  rw[q]at x;obtain⟨_,w⟩:=P7.1 I;simp[s,w,J];exact⟨i+1,by(try dsimp only);omega,by(try dsimp only);omega,ai.keep (by simp[V]) (by rw[x])⟩
 .have K:i=ids.length:=by omega
  subst K;simp;rw[t,Rg (by simp),QM (by simp)]
end Go.AX
namespace Go.AX
open Go.Proofs
set_option linter.unusedSimpArgs false
def fR(l:List (List Int)):PV:=.seq true 1 (l.map az)
@[simp] theorem PP(l:List (Int×List (List Int)))(k:Int)(y:List (List Int)):fY (aC fR l) k (.seq true 1 (y.map az))=aC fR (pt l k y):=ge fR l k y
theorem uK(n:Nat):∀l:List (Int×List (List Int)),eU n (aC fR l)
 |[]=>trivial
 |x::l=>⟨vV n _,uK n l⟩
def lq(c:Ck)(a:List (Int×List (List Int)))(g:List Int):List (Int×List (List Int)):=
 if IP (gM c) (aX (-(g.headD 0)))=true then pt a (MO (gM c) (aX (-(g.headD 0)))) (cJ c g.tail)else a
def Hb:Sch:=
 let E:Sch:=.fork [(6,.done)]
 .take 1 (.take 2 (.take 3 (.fork [(0,.fork [(4,.fork [(5,E)])]),(4,.fork [(0,.fork [(5,E)]),(5,.fork [(0,E)])])])))
set_option maxRecDepth 16000 in
theorem JT(h:List (List SV))(c:Ck)(a:List (Int×List (List Int)))(t u be:Nat)(x:Int)(l:List Int)(z:l.length<=1000000)
 (hi:h[t]?=some [.pv (.seq true 1 (ab (gM c)))]) (ho:h[u]?=some [.pv (.fn (.func 221) [uH c] [])]) (w:h[be]?=some [.omap true (aC fR a)]) (g:(gM c).length<=1000000) (j:(gM c).Pairwise (·<=·)):
 ay Tryz.prog 224 [.seq false 1 (ab (x::l)),.ptr t 0,.ptr u 0,.ptr be 0] h (λr h'=>h'=h.set be [.omap true (aC fR (lq c a (x::l)))]∧r=.pv (.tup [])):=by
 refine dY [2] [] (h.set be [.omap true (aC fR (lq c a (x::l)))]) (by simp) (λy=>by rw[Qz];exact bX (x:=[.omap true (aC fR (lq c a (x::l)))]) ⟨uK _ _,trivial⟩ be y) aD Tryz.func224 ?_;obtain⟨o,n⟩:=P7.1 hi;obtain⟨e,f⟩:=P7.1 ho;obtain⟨hle,b⟩:=P7.1 w;have v:=AS (gM c) (aX (-x)) g j;simp[n,f,b,o,e,hle];refine br.intro v ?_;have m:lq c a (x::l)=if IP (gM c) (aX (-x))=true then pt a (MO (gM c) (aX (-x))) (cJ c l)else a:=rfl;generalize lq c a (x::l)=F at*;have i:h.set be [.omap true (aC fR a)]=h:=by rw[←b];exact SC hle
 cases d:IP (gM c) (aX (-x))
 .rw[Qa (by simp[d])]at m;subst m;simp[d,i]
 .rw[Qb d]at m;subst m;have s:=(sr [] c l (by omega)).mono (R':=λr _=>r=.pv (.seq true 1 ((cJ c l).map az))) λ_ _ h=>h.2;have k:(List.take (l.length+1) (ab (x::l))).tail=ab l:=by
   simp[ab];exact QM (by simp)
  simp[d,f,b,e,hle];refine bd.one Hb (by kernel_rfl) ?_;simp[Hb,d,f,b,e,hle,k];refine⟨by omega,?_,?_,?_⟩
  all_goals
   refine ah.introX (cd.pureM (p:=[]) (q:=[]) (zs:=[.seq false 1 (ab l),.fn (.func 221) [uH c] []]) s (by simp) rfl (by simp[pF]) (by simp) (by simp) ?_);simp[d,f,b,e,hle,k];exact QM (by simp)
end Go.AX
namespace Go.AX
set_option maxRecDepth 16000
open Go.Proofs
set_option linter.unusedSimpArgs false
theorem AT(l c:List Int)(p:Int)(hs:List (List Int))(b:l.length+c.length+hs.length<=1000000)(a:∀h∈hs,h.length<=1000000):am Tryz.prog 274 [.seq false 1 (ab l),.seq false 1 (ab c),af p,.seq false 1 (hs.map az)] (λr=>r=.pv (af (AN l c p hs))):=
 ay.pure ((D5 [] l c p hs b a).mono λ_ _ h=>⟨_,h.2,rfl⟩)
theorem D9(c:List Int)(hs:List (List Int))(b:c.length+hs.length<=1000000)(a:∀h∈hs,h.length<=1000000):am Tryz.prog 153 [.seq false 1 (ab c),.seq false 1 (hs.map az)] (λr=>r=.pv (.tup [af (qE c hs).1,af (qE c hs).2])):=
 ay.pure ((GP [] c hs b a).mono λ_ _ h=>⟨_,h.2,rfl⟩)
def fS(l:List (List Int)):PV:=.seq false 1 (l.map az)
@[simp] theorem Pt(l:List (Int×List (List Int)))(k:Int):c9 (aC fS l) k=(lk l k).map fS:=fq fS l k
@[simp] theorem JU(r:Nat->Nat->PV):∀l:List (Int×List (List Int)),lO r (aC fR l)=aC fS l
 |[]=>rfl
 |x::l=>by
  have:=JU r l;show(x.1,iu r (fR x.2))::lO r (aC fR l)=(x.1,fS x.2)::aC fS l;rw[this];simp[fR,fS]
@[simp] theorem JV(r:Nat->Nat->PV):∀l:List (Int×List (List Int)),lO r (aC fS l)=aC fS l
 |[]=>rfl
 |x::l=>by
  have:=JV r l;show(x.1,iu r (fS x.2))::lO r (aC fS l)=(x.1,fS x.2)::aC fS l;rw[this];simp[fS]
def Ea(cs:List (List Int))(c l:List Int)(a:List (Int×List (List Int)))(i:Int):Bool:=
 match lk a i with
 |none=>false
 |some h=>decide (AN l (cs.getD i.toNat []) (c.headD 0) h=0)
theorem Hc(cs:List (List Int))(c l:List Int)(a:List (Int×List (List Int)))(i:Nat)(hi:i<cs.length)(o:c≠[])(k:∀j h,lk a j=some h->l.length+(cs[i]).length+h.length<=1000000∧∀x∈h,x.length<=1000000):
 am Tryz.prog 273 [af i,.iptr 1 [[.amap false (aC fS a)]] 0 0,.iptr 1 [[.seq false 1 (ab l)]] 0 0,.iptr 1 [[.seq false 1 (cs.map az)]] 0 0,.iptr 1 [[.seq false 1 (ab c)]] 0 0] (λr=>r=.pv (BL (Ea cs c l a i))):=by
 refine ao aD Tryz.func273 ?_;have b:Ea cs c l a i=match lk a i with
  |none=>false
  |some h=>decide (AN l (cs.getD i []) (c.headD 0) h=0):=rfl
 have p:cs.getD i []=cs[i]:=by rw[P9,P8 hi];rfl
 rw[p]at b;have d:=oU cs hi;generalize cs[i]=f at*;obtain⟨x,c,rfl⟩:∃x m,c=x::m:=by
  cases c with
  |nil=>exact absurd rfl o
  |cons x c=>exact⟨x,c,rfl⟩
 cases e:lk a i with
 |none=>
  rw[e]at b;simp only at b;simp[e,hi,d,b];refine dG.intro (r:=.pv (af 0)) (λh:False=>h.elim) ?_;simp
 |some h=>
  rw[e]at b;simp only[List.headD_cons]at b;have n:=AT l f x h (k _ _ e).1 (k _ _ e).2;simp[e,hi,d,fS];refine dG.intro (λ_=>n) ?_
  by_cases g:AN l f x h=0
  .simp[b,g]
  .simp[b,g]
theorem yr:∀(hs:List (List Int))(l:List Int)(n:Nat),(eM l hs n).1.length<=l.length+hs.length
 |[],l,n=>by simp[eM]
 |h::hs,l,n=>by
  rw[eM];split
  .simp
  .split
   .have:=yr hs (l++[(cM l h).1]) (n+1);simp at this⊢;omega
   .simp
theorem sx(cs:List (List Int))(p:Int):∀n x,x∈kY cs p n->∃k:Nat,k<n∧x=(k:Int)
 |0,x,h=>by cases h
 |n+1,x,h=>by
  rw[kY]at h;split at h
  .rcases Qn.1 h with h|h
   .obtain⟨k,h1,a⟩:=sx cs p n x h;exact⟨k,by omega,a⟩
   .rw[QI]at h;exact⟨n,by omega,h⟩
  .obtain⟨k,h1,a⟩:=sx cs p n x h;exact⟨k,by omega,a⟩
def uL(f:Int->Bool):List Int->Nat->Int×Int
 |[],n=>(n,0)
 |i::l,n=>if f i=false then(i,24)else uL f l n
def yt(cs:List (List Int))(c:List Int)(ahead:List (List Int))(a:List (Int×List (List Int))):Int×Int:=
 if ma c≠0 then(-1,ma c)else if c=[]then(-1,11)else if(eM (fX c) ahead 0).2.2≠23 then(-1,(eM (fX c) ahead 0).2.2)
 else uL (Ea cs c (eM (fX c) ahead 0).1 a) (kY cs (c.headD 0) cs.length) (kY cs (c.headD 0) cs.length).length
theorem AU(cs:List (List Int))(c:List Int)(ahead:List (List Int))(a:List (Int×List (List Int)))(hn:cs.length<=100000)(m:∀x∈cs,x.length<=100000)(K:c.length<=100000)(J:ahead.length<=100000)(s:∀x∈ahead,x.length<=100000)
 (D:∀j h,lk a j=some h->h.length<=100000∧∀x∈h,x.length<=100000):
 am Tryz.prog 226 [.seq false 1 (cs.map az),.seq false 1 (ab c),.seq false 1 (ahead.map az),.amap false (aC fS a)] (λr=>r=.pv (.tup [af (yt cs c ahead a).1,af (yt cs c ahead a).2])):=by
 refine nE [8,9] aD Tryz.func226 (λ_ _=>results_tmp2 rfl _ _ _) ?_;have q:=λg=>uB g c (by omega);have hle:=oV c c.length;have l:=λg=>pS g (fX c) ahead (by unfold fX;omega) (λx hx=>by have:=s x hx;omega);have n:=yr ahead (fX c) 0;have v:GJ c=if ma c=0 then fX c else[]:=rfl;have d:yt cs c ahead a=if ma c≠0 then(-1,ma c)else if c=[]then(-1,11)else if(eM (fX c) ahead 0).2.2≠23 then(-1,(eM (fX c) ahead 0).2.2)
  else uL (Ea cs c (eM (fX c) ahead 0).1 a) (kY cs (c.headD 0) cs.length) (kY cs (c.headD 0) cs.length).length:=rfl
 generalize yt cs c ahead a=S at*;have G:(fX c).length<=c.length:=hle;generalize eM (fX c) ahead 0=F at*;obtain⟨L,fn,A⟩:=F;simp only at n d l;simp;refine ah.introM (q _) ?_;rintro _ _ ⟨rfl,rfl⟩
 by_cases c1:ma c=0
 rotate_left
 .rw[Qb c1]at d;subst d;simp[c1]
 rw[Qa (by simp[c1])]at d;rw[Qb c1]at v;rw[v]
 by_cases c2:c=[]
 .rw[Qb c2]at d;subst d;subst c2;simp[c1]
 rw[Qa c2]at d;have z:c.length≠0:=λe=>c2 (Rj.1 e);simp[c1,c2];refine ah.introM (l _) ?_;rintro _ _ ⟨rfl,rfl⟩
 by_cases c3:A=23
 rotate_left
 .rw[Qb c3]at d;subst d;simp[c3]
 rw[Qa (by simp[c3])]at d;obtain⟨x,f,rfl⟩:∃x f,c=x::f:=by
  cases c with
  |nil=>exact absurd rfl c2
  |cons x c=>exact⟨x,c,rfl⟩
 have p:=GX cs x (by omega) (λy hy=>by have:=m y hy;omega);have C:=su cs x cs.length;have t:=sx cs x cs.length;simp only[List.headD_cons]at d;generalize B:kY cs x cs.length=X at*;clear B;simp[c3];refine br.intro (r:=.own true 1 (ab X)) p ?_;simp;refine aH.intro (S:=λ(i:Nat)=>⟨[(11,.pv (.fn (.func 273) [] [.ptr 2 0,.ptr 3 0,.ptr 0 0,.ptr 1 0])),(12,.pv (.seq true 1 (ab X))),(44,.pv (.seq true 1 (ab X))),(45,.pv (af X.length)),(46,.pv (af i))],[[.pv (.seq false 1 (cs.map az))],[.pv (.seq false 1 (ab (x::f)))],[.pv (.amap false (aC fS a))],[.pv (.seq true 1 (ab L))]]⟩) (λi=>i<=X.length∧S=uL (Ea cs (x::f) L a) (X.drop i) X.length) (λi=>X.length -i) 0 ?_ ⟨Qq _,d⟩ ?_
 .exact ai.keep (by simp) (by simp)
 rintro i ⟨hi,b⟩
 by_cases h:i<X.length
 .have H := eq i; obtain ⟨k, hk, o⟩ := t _ (Qe h); rw [QU h, uL, o] at b; have h1 := Hc cs (x :: f) L a k hk (by simp) (λ j E hj => by
   have:=D j E hj;have I:=m _ (Qe hk);exact⟨by omega,λy hy=>by have:=this.2 y hy;omega⟩)
  simp[h,o,a8];refine ak.introP h1 ?_;cases w:Ea cs (x::f) L a k
  .rw[Qb w]at b;subst b;simp
  .rw[Qa (by simp[w])]at b;simp;exact⟨i+1,by(try dsimp only);omega,⟨by(try dsimp only);omega,b⟩,ai.keep (by simp[H]) (by simp)⟩
 .have u:i=X.length:=by omega
  subst u;rw[QK (Qc _),uL]at b;subst b;simp
end Go.AX
namespace Go.AX
open Go.Proofs
set_option linter.unusedSimpArgs false
theorem sy(l:List Int):(bK l).Pairwise (·<=·):=by
 have:=TV (le:=λx y:Int=>decide (x<=y)) (λa b c h1 d=>by simp at*;omega) (λa b=>by simp;omega) l;exact this.imp (λh=>by simpa using h)
def sA(c:Ck)(a:List (List Int)):List (Int×List (List Int)):=a.foldl (lq c) []
def sB(c:Ck)(lits hints:List Int):Int:=
 if(qE lits (cJ c (oW hints).1)).2≠23∨lits=[]then(qE lits (cJ c (oW hints).1)).2
 else if(yt (cJ c (gM c)) lits (cJ c (oW hints).1) (sA c (oW hints).2)).2≠0 then 24 else 0
structure CkOk (c:Ck):Prop where
  n:c.m.length<=100000
  w:∀q∈c.m,B7 q.1
  l:∀q∈c.m,q.2.length<=100000
theorem KJ{α:Type}:∀{l:List (Int×α)}{k:Int}{x:α},lk l k=some x->(k,x)∈l
 |(j,y)::l,k,x,h=>by
  rw[lk]at h;split at h
  .rename_i e;subst e;injection h with h;subst h;exact Qy
  .exact Qr _ (KJ h)
theorem sC{c:Ck}(h:CkOk c)(ids:List Int):(cJ c ids).length=ids.length∧∀x∈cJ c ids,x.length<=100000:=by
 refine⟨by unfold cJ;simp,λx hx=>?_⟩;unfold cJ at hx;rw[Qk]at hx;obtain⟨id,_,rfl⟩:=hx;cases e:lk c.m id with
 |none=>simp
 |some y=>exact h.l _ (KJ e)
theorem He{c:Ck}(h:CkOk c){b:List (Int×List (List Int))}{g:List Int}(e:g.length<=100000)(d:∀j r,lk b j=some r->r.length<=100000∧∀x∈r,x.length<=100000):
 ∀j r,lk (lq c b g) j=some r->r.length<=100000∧∀x∈r,x.length<=100000:=by
 intro j r a;unfold lq at a;split at a
 .rw[bD]at a;split at a
  .injection a with a;subst a;have:=sC h g.tail;exact⟨by rw[this.1,List.length_tail];omega,this.2⟩
  .exact d j r a
 .exact d j r a
theorem yu{c:Ck}(h:CkOk c):∀(b:List (List Int))(a:List (Int×List (List Int))),(∀g∈b,g.length<=100000)->(∀j r,lk a j=some r->r.length<=100000∧∀x∈r,x.length<=100000)->
 ∀j r,lk (b.foldl (lq c) a) j=some r->r.length<=100000∧∀x∈r,x.length<=100000
 |[],a,_,d=>d
 |g::b,a,e,d=>yu h b _ (λx hx=>e x (Qr _ hx)) (He h (e g Qy) d)
theorem JW{x:List Int×List (List Int)}{h:Int}(hx:∀g∈x.2,g≠[]):∀g∈(lF x h).2,g≠[]:=by
 intro g a;unfold lF at a;split at a
 .rcases Qn.1 a with a|a
  .exact hx g a
  .rw[QI]at a;subst a;simp
 .split at a
  .exact hx g a
  .rcases Qn.1 a with a|a
   .exact hx g (UV _ a)
   .rw[QI]at a;subst a;simp
theorem yv(hs:List Int):∀i,i<=hs.length->∀g∈(cm hs i).2,g≠[]
 |0,_=>λg a=>by simp[cm]at a
 |i+1,h=>by
  rw[nV hs (by omega)];exact JW (yv hs i (by omega))
theorem ai.frzC{k0:Nat}{st:St}{b k e:Nat}{nw:Bool}{rows:List (List PV)}(h:aa st (.cell b k)=.own nw e rows):ai k0 st (setPos st (.cell b k) (.pv (.seq nw e rows))):=λg a w _ hs=>by
 obtain⟨g',t,_,_,_,s,_⟩:=hs.freeze (p:=.cell b k) (by rw[h];rfl);rw[h]at s;exact⟨g',t,s⟩
def Hf:Sch:=
 let E:Sch:=.fork [(6,.take 7 (.take 8 (.take 9 (.take 10 (.take 11 .done)))))]
 let T:Sch:=.fork [(2,E)]
 let U:Sch:=.fork [(2,.fork [(5,E)]),(5,T)]
 let A:Sch:=.fork [(1,U),(5,.fork [(1,T)])]
 let B:Sch:=.fork [(0,U),(5,.fork [(0,T)])]
 let C:Sch:=.fork [(0,.fork [(1,T)]),(1,.fork [(0,T)])]
 .take 3 (.take 4 (.fork [(0,A),(1,B),(5,C)]))
set_option maxRecDepth 16000 in
theorem Hg(c:Ck)(t:CkOk c)(lits hints:List Int)(T:lits.length<=100000)(X:hints.length<=100000):
 am Tryz.prog 144 [uH c,.seq false 1 (ab lits),.seq false 1 (ab hints)] (λr=>r=.pv (af (sB c lits hints))):=by
 refine vK [15] aD Tryz.func144 ?_;have u:=λg=>AK g hints (by omega);have f:sB c lits hints=if(qE lits (cJ c (oW hints).1)).2≠23∨lits=[]then(qE lits (cJ c (oW hints).1)).2
  else if(yt (cJ c (gM c)) lits (cJ c (oW hints).1) (sA c (oW hints).2)).2≠0 then 24 else 0:=rfl
 have o:=im hints hints.length (Qc _);have s:=yv hints hints.length (Qc _);have z:oW hints=cm hints hints.length:=rfl;rw[←z]at o s;generalize oW hints=sp at*;obtain⟨ahead,a⟩:=sp;simp only at o s f u;obtain⟨L,m⟩:=o;have v:=sC t ahead;have J:=sC t (gM c);have R:(gM c).length<=100000:=by unfold gM bK;rw[Rn,Ql];exact t.n
 have P:=(sr [] c ahead (by omega)).mono (R':=λr _=>r=.pv (.seq true 1 ((cJ c ahead).map az))) λ_ _ h=>h.2;have F:=(sr [] c (gM c) (by omega)).mono (R':=λr _=>r=.pv (.seq true 1 ((cJ c (gM c)).map az))) λ_ _ h=>h.2;have D:=D9 lits (cJ c ahead) (by omega) (λx hx=>by have:=v.2 x hx;omega);generalize sB c lits hints=S at*;simp;refine ah.introM (u _) ?_;rintro _ _ ⟨rfl,rfl⟩;simp;refine⟨rfl,ah.introX (cd.pureM (p:=[]) (q:=[]) (zs:=[.seq true 1 (ab ahead),.fn (.func 221) [uH c] []]) (P.args (by simp[bG,bI,mK])) (by simp) rfl (by simp[pF]) (by simp) (by simp) ?_)⟩;simp;refine ah.intro D ?_;generalize qE lits (cJ c ahead)=sh at*;obtain⟨W,K⟩:=sh;simp only at f
 by_cases c1:K=23
 rotate_left
 .rw[Qb (.inl c1)]at f;subst f;simp[c1]
 by_cases c2:lits=[]
 .rw[Qb (.inr c2)]at f;subst f;simp[c1,c2]
 rw[Qa (λe=>e.elim (λe=>e c1) c2)]at f;have M:=JS c t.w (by have:=t.n;omega);simp[c1,c2];refine ah.intro M ?_;simp;obtain⟨E,A⟩:∃E:Nat->List (Int×List (List Int)),∀i,E i=(a.take i).foldl (lq c) []:=⟨_,λ_=>rfl⟩;refine aH.intro (S:=λ(i:Nat)=>⟨[(1,.pv (.seq false 1 (ab lits))),(9,.pv (.ptr 0 0)),(10,.pv (.seq true 1 ((cJ c ahead).map az))),(13,.pv (.ptr 1 0)),(14,.pv (.ptr 2 0)),(15,.pv (.fn (.func 224) [] [.ptr 1 0,.ptr 0 0,.ptr 2 0])),(48,.pv (.seq true 1 (a.map az))),(49,.pv (af a.length)),(50,.pv (af i))],[[.pv (.fn (.func 221) [uH c] [])],[.pv (.seq true 1 (ab (gM c)))],[.omap true (aC fR (E i))]]⟩) (λi=>i<=a.length) (λi=>a.length -i) 0 ?_ (Qq _) ?_
 .exact(ai.frzC (b:=1) (k:=0) (e:=1) (nw:=true) (rows:=ab (gM c)) (by simp)).trans (ai.keep (by simp) (by simp[A,aC]))
 intro i hi
 by_cases h:i<a.length
 .have V:=eq i;have y:=oU a h;have C:E (i+1)=lq c (E i) a[i]:=by rw[A,A];exact bs (lq c) [] a i h
  have H:=s _ (Qe h);have G:=m _ (Qe h);generalize a[i]=g at*;obtain⟨x,l,rfl⟩:∃x l,g=x::l:=by
   cases g with
   |nil=>exact absurd rfl H
   |cons x c=>exact⟨x,c,rfl⟩
  simp only[QA]at G;have N:=JT [[.pv (.fn (.func 221) [uH c] [])],[.pv (.seq true 1 (ab (gM c)))],[.omap true (aC fR (E i))]] c (E i) 1 0 2 x l (by omega) rfl rfl rfl (by omega) (sy _);simp[h,y];refine ak.intro N ?_;rintro _ _ ⟨rfl,rfl⟩;simp;exact⟨i+1,by(try dsimp only);omega,by(try dsimp only);omega,ai.keep (by simp[V]) (by simp[C])⟩
 .have I:i=a.length:=by omega
  subst I;have B:E a.length=sA c a:=by rw[A,QO];rfl
  have O:=AU (cJ c (gM c)) lits (cJ c ahead) (sA c a) (by omega) J.2 T (by omega) v.2 (yu t a [] (λg Q=>by have:=m g Q;omega) (λj r U=>by cases U));simp[B];refine bd.meet Hf ⟨[(19,.pv (af (yt (cJ c (gM c)) lits (cJ c ahead) (sA c a)).2))],[[.pv (.fn (.func 221) [uH c] [])],[.pv (.seq true 1 (ab (gM c)))],[.omap true (aC fR (sA c a))]]⟩ (by kernel_rfl) ?_ ?_
  .simp[Hf];and_intros
   all_goals
    refine ah.introX (cd.pureM (p:=[]) (q:=[]) (zs:=[.seq true 1 (ab (gM c)),.fn (.func 221) [uH c] []]) (F.args (by simp[bG,bI,mK])) (by simp) rfl (by simp[pF]) (by simp) (by simp) ?_);simp;refine ah.intro O ?_;simp;exact ai.keep (by simp) (by simp)
  .by_cases d:(yt (cJ c (gM c)) lits (cJ c ahead) (sA c a)).2=0
   .rw[Qa (by simp[d])]at f;subst f;simp[d]
   .rw[Qb d]at f;subst f;simp[d]
end Go.AX
namespace Go.AX
set_option maxRecDepth 16000
open Go.Proofs
set_option linter.unusedSimpArgs false
def wz(c:Ck)(s:Stp):Ck×Int:=
 if s.id<=c.last then(c,21)else if iK s.lits=true then(c,11)else if gU c s.hints=false then(c,20)
 else if sB c s.lits s.hints≠0 then(c,sB c s.lits s.hints)else(nW c s.id s.lits,0)
theorem JX(h:List (List SV))(b:Nat)(c:Ck)(x:h[b]?=some (io c))(y:CkOk c)(s:Stp)(z:s.lits.length<=100000)(t:s.hints.length<=100000):
 ay Tryz.prog 81 [.ptr b 0,.agg (dF s)] h (λr h'=>h'=h.set b (io (wz c s).1)∧r=.pv (af (wz c s).2)):=by
 refine dY [] [.tmp 4] (h.set b (io (wz c s).1)) (by simp) (λt=>by rw[Qz];exact bX (kX _ _) b t) aD Tryz.func81 ?_;obtain⟨k,o⟩:=P7.1 x;have a:h.set b (io c)=h:=by rw[←o];exact SC k
 obtain⟨G,n⟩:∃G:List (List SV),G=h++[[.pv (af s.kind),.pv (af s.id),.pv (.seq false 1 (ab s.lits)),.pv (.seq false 1 (ab s.hints))]]:=⟨_,rfl⟩;have g:h.length<G.length:=by rw[n];simp
 have e:b<G.length:=by rw[n];simp;omega
 have i:G[h.length]=[.pv (af s.kind),.pv (af s.id),.pv (.seq false 1 (ab s.lits)),.pv (.seq false 1 (ab s.hints))]:=by simp[n]
 have f:G[b]=io c:=by simp only[n];rw[QN k,o]
 have l:G[b]?=some (io c):=by rw[P8 e,f]
 have j:G.take h.length=h:=by rw[n];simp
 have p:a8 G 3 b 0=uH c:=GV l 2;have w:=v6 s.lits (by omega);have q:=ym c s.hints (by omega);have v:=Hg c y s.lits s.hints z t;have u:=Cu G b c l s.id s.lits (by omega);have d:wz c s=if s.id<=c.last then(c,21)else if iK s.lits=true then(c,11)else if gU c s.hints=false then(c,20)
  else if sB c s.lits s.hints≠0 then(c,sB c s.lits s.hints)else(nW c s.id s.lits,0):=rfl
 generalize wz c s=A at*;simp[dF,o,k,io];rw[←n]
 by_cases c1:s.id<=c.last
 .have m:¬c.last<s.id:=by omega
  rw[Qb c1]at d;subst d;simp[e,f,i,g,io,c1,m]
  first|exact a.symm|(rw[j];exact a.symm)
 have m:c.last<s.id:=by omega
 rw[Qa c1]at d;simp[e,f,i,g,io,c1,m];refine ah.intro w ?_
 by_cases c2:iK s.lits=true
 .rw[Qb c2]at d;subst d;simp[c2]
  first|exact a.symm|(rw[j];exact a.symm)
 rw[Qa c2]at d;simp[c2,e,f,i,g,p];refine ak.introP q ?_;cases c3:gU c s.hints
 .rw[Qb c3]at d;subst d;simp
  first|exact a.symm|(rw[j];exact a.symm)
 rw[Qa (by simp[c3])]at d;simp[e,f,i,g,p];refine ak.introP v ?_
 by_cases c4:sB c s.lits s.hints=0
 rotate_left
 .rw[Qb c4]at d;subst d;simp[c4]
  first|exact a.symm|(rw[j];exact a.symm)
 rw[Qa (by simp[c4])]at d;subst d;simp[c4,e,f,i,g,io];refine ak.intro u ?_;rintro _ _ ⟨rfl,rfl⟩;simp;rw[n,Su _ _ k,Rg (by simp),QM (by simp)];rfl
def jf(c:Ck)(s:Stp):Ck×Int:=
 if ww [s]≠0 then(c,ww [s])else if s.kind=2 then(ql c s.hints,yp c s.hints)else wz c s
theorem Hh(h:List (List SV))(b:Nat)(c:Ck)(w:h[b]?=some (io c))(z:CkOk c)(s:Stp)(A:s.lits.length<=100000)(t:s.hints.length<=100000):
 ay Tryz.prog 34 [.ptr b 0,.agg (dF s)] h (λr h'=>h'=h.set b (io (jf c s).1)∧r=.pv (af (jf c s).2)):=by
 refine dY [] [.tmp 4] (h.set b (io (jf c s).1)) (by simp) (λt=>by rw[Qz];exact bX (kX _ _) b t) aD Tryz.func34 ?_;obtain⟨k,n⟩:=P7.1 w;have e:h.set b (io c)=h:=by rw[←n];exact SC k
 obtain⟨G,f⟩:∃G:List (List SV),G=h++[[.pv (af s.kind),.pv (af s.id),.pv (.seq false 1 (ab s.lits)),.pv (.seq false 1 (ab s.hints))]]:=⟨_,rfl⟩;have g:h.length<G.length:=by rw[f];simp
 have o:b<G.length:=by rw[f];simp;omega
 have i:G[h.length]=[.pv (af s.kind),.pv (af s.id),.pv (.seq false 1 (ab s.lits)),.pv (.seq false 1 (ab s.hints))]:=by simp[f]
 have p:G[b]=io c:=by simp only[f];rw[QN k,n]
 have a:G[b]?=some (io c):=by rw[P8 o,p]
 have q:G.take h.length=h:=by rw[f];simp
 have v:=yl G b c a;have m:=DW [s] (λx hx=>by rw[QI]at hx;subst hx;omega);have u:=Ha G b c a s.hints (by omega);have l:=JX G b c a z s A t;have j:jf c s=if ww [s]≠0 then(c,ww [s])else if s.kind=2 then(ql c s.hints,yp c s.hints)else wz c s:=rfl;have d:∀y,List.take h.length (G.set b y)=h.set b y:=λy=>by
  rw[f,Su _ _ k,Rg (by simp),QM (by simp)]
 generalize jf c s=S at*;generalize ww [s]=B at*;generalize LA [s]=C at*;simp only[Qw,R1,dF]at m l;simp[dF];rw[←f];refine ak.intro v ?_;rintro _ _ ⟨rfl,rfl⟩;simp[g,i];refine ah.intro m ?_
 by_cases c1:B=0
 rotate_left
 .rw[Qb c1]at j;subst j;simp[c1]
  first|exact e.symm|(rw[q];exact e.symm)
 rw[Qa (by simp[c1])]at j
 by_cases c2:s.kind=2
 .rw[Qb c2]at j;subst j;simp[c1,c2,g,i];refine ak.intro u ?_;rintro _ _ ⟨rfl,rfl⟩;simp;exact d _
 .rw[Qa c2]at j;subst j;simp[c1,c2,g,i];refine ak.intro l ?_;rintro _ _ ⟨rfl,rfl⟩;simp;exact d _
end Go.AX
namespace Go.AX
open Go.Proofs
set_option linter.unusedSimpArgs false
def tE(c:Ck)(l:List Int):Ck:=nW c (aX (c.last+1)) l
def dg(L:List (List Int))(i:Nat):Ck:=(L.take i).foldl tE ⟨[],0,false⟩
def Ec(L:List (List Int)):Ck:=dg L L.length
set_option maxRecDepth 16000 in
theorem JY(h:List (List SV))(v:Int)(L:List (List Int))(o:∀c∈L,c.length<=1000000):
 ay Tryz.prog 32 [.agg [af v,.seq false 1 (L.map az)]] h (λr h'=>if(lG v L).2≠0 then∃x,h'=h++x∧r=.pv (.tup [.lit (.pointer none),af (lG v L).2])else h'=h++[[.pv (af v),.pv (.seq false 1 (L.map az))],io (Ec L)]∧r=.pv (.tup [.ptr (h.length+1) 0,af 0])):=by
 refine cY [] [.tmp 2,.tmp 3] aD Tryz.func32 ?_;have p:=wy v L o;have hle:(lG v L).2=0->L.length<=1000000:=λe=>QJ λhn=>by
  unfold lG at e;split at e
  .cases e
  .rw[Qb (by omega)]at e;cases e
 generalize lG v L=S at*;obtain⟨w,t⟩:=S;simp only at hle;simp;refine ah.intro p ?_
 by_cases c1:t=0
 rotate_left
 .simp[c1]
 subst c1;have q:=hle rfl;simp;obtain⟨G,a⟩:∃G:Nat->List (List SV),∀i,G i=h++[[.pv (af v),.pv (.seq false 1 (L.map az))],io (dg L i)]:=⟨_,λ_=>rfl⟩;have g:∀i,h.length+1<(G i).length:=λi=>by rw[a];simp
 have b:∀i,(G i)[h.length+1]?=some (io (dg L i)):=λi=>by
  rw[a,Qp (by omega)];simp
 have j:∀i,i<L.length->(G i).set (h.length+1) (io (dg L (i+1)))=G (i+1):=λi hi=>by
  rw[a,a,Sm _ _ (by omega)];simp
 refine aH.intro (S:=λ(i:Nat)=>⟨[(6,.pv (.ptr (h.length+1) 0)),(24,.pv (.seq false 1 (L.map az))),(25,.pv (af L.length)),(26,.pv (af i))],G i⟩) (λi=>i<=L.length) (λi=>L.length -i) 0 ?_ (Qq _) ?_
 .exact ai.keep (by simp) (by rw[a];rfl)
 intro i hi;have k:=g i;obtain⟨_,d⟩:=P7.1 (b i)
 by_cases c:i<L.length
 .have s:=eq i;have f:=oU L c;have hn:dg L (i+1)=nW (dg L i) (aX ((dg L i).last+1)) L[i]:=bs tE ⟨[],0,false⟩ L i c;have l:=j i c;have n:=Cu (G i) (h.length+1) (dg L i) (b i) (aX ((dg L i).last+1)) L[i] (o _ (Qe c));rw[←hn]at n;generalize u:dg L i=K at*;simp[c,k,d,io,f];refine ak.intro n ?_;rintro _ _ ⟨rfl,rfl⟩;simp;exact⟨i+1,by(try dsimp only);omega,by(try dsimp only);omega,ai.keep (by simp[s]) (by rw[←l])⟩
 .have m:i=L.length:=by omega
  subst m;simp;exact a _
theorem Oy{α:Type}(l:List (Int×α))(k:Int)(y:α):(pt l k y).length<=l.length+1:=by
 rw[At];split<;>omega
theorem AW{α:Type}{p:Int×α->Prop}:∀{l:List (Int×α)}{k:Int}{y:α},(∀q∈l,p q)->p (k,y)->∀q∈pt l k y,p q
 |[],k,y,_,b,q,a=>by
  rw[pt]at a;rw[QI]at a;subst a;exact b
 |(j,x)::l,k,y,h1,b,q,a=>by
  rw[pt]at a;split at a
  .rename_i e;rcases QC.1 a with rfl|a
   .exact e▸b
   .exact h1 q (Qr _ a)
  .rcases QC.1 a with rfl|a
   .exact h1 _ Qy
   .exact AW (λq a=>h1 q (Qr _ a)) b q a
theorem Hj{α:Type}:∀(l:List (Int×α))(k:Int),∀q∈dl l k,q∈l
 |[],k,q,h=>h
 |(j,x)::l,k,q,h=>by
  rw[dl]at h;split at h
  .exact Qr _ h
  .rcases QC.1 h with rfl|h
   .exact Qy
   .exact Qr _ (Hj l k q h)
theorem KK{α:Type}:∀(l:List (Int×α))(k:Int),(dl l k).length<=l.length
 |[],k=>Qc _
 |(j,x)::l,k=>by
  rw[dl];split
  .simp
  .have:=KK l k;simp;omega
structure CkN (n:Nat) (c:Ck):Prop where
  n:c.m.length<=n
  w:∀q∈c.m,B7 q.1
  l:∀q∈c.m,q.2.length<=100000
  t:0<=c.last∧c.last<=20000000
theorem CkN.ok{n:Nat}{c:Ck}(h:CkN n c)(hn:n<=100000):CkOk c:=⟨QP h.n hn,h.w,h.l⟩
theorem Hk{x:Int}(h1:0<=x)(c:x<=20000000):B7 x:=by
 unfold B7;have a:IntKind.i64.min=-9223372036854775808:=by decide
 have b:IntKind.i64.max=9223372036854775807:=by decide
 simp only[Lit.wf,a,b,Qj,Qs];omega
theorem CkN.put{n:Nat}{c:Ck}(h:CkN n c){id:Int}{l:List Int}(oi:0<=id∧id<=20000000)(a:l.length<=100000):CkN (n+1) (nW c id l):=
 ⟨QP (Oy _ _ _) (Nat.succ_le_succ h.n),AW h.w (Hk oi.1 oi.2),AW h.l a,oi⟩
theorem sD{p:Int×List Int->Prop}:∀(ids:List Int)(m:List (Int×List Int)),(∀q∈m,p q)->(∀q∈ids.foldl dl m,p q)∧(ids.foldl dl m).length<=m.length
 |[],m,h=>⟨h,Qc _⟩
 |id::ids,m,h=>by
  obtain⟨h1,a⟩:=sD ids (dl m id) (λq b=>h q (Hj m id q b));exact⟨h1,QP a (KK _ _)⟩
theorem CkN.drop{n:Nat}{c:Ck}(h:CkN n c)(ids:List Int):CkN n (ql c ids):=by
 unfold ql;split
 .exact h
 .unfold kZ;obtain⟨h1,a⟩:=sD (p:=λq=>B7 q.1) (ids.take ids.length) c.m h.w;obtain⟨b,_⟩:=sD (p:=λq=>q.2.length<=100000) (ids.take ids.length) c.m h.l;exact⟨QP a h.n,h1,b,h.t⟩
theorem CkN.up{n m:Nat}{c:Ck}(h:CkN n c)(a:n<=m):CkN m c:=⟨QP h.n a,h.w,h.l,h.t⟩
theorem yx(s:Stp):ww [s]=if jr s=true then 0 else 2:=by
 unfold ww gG;cases a:jr s
 .simp[List.findIdx?_cons,a]
 .simp[List.findIdx?_cons,a]
theorem JZ{s:Stp}(h:jr s=true):(s.kind=1∨s.kind=2)∧0<=s.id∧s.id<=10000000:=by
 unfold jr at h;split at h
 .simp only[Qj,Qs]at h;exact⟨.inl (by assumption),by omega,by omega⟩
 .split at h
  .simp only[Qj,Qs]at h;exact⟨.inr (by assumption),by omega,by omega⟩
  .cases h
theorem CkN.step{n:Nat}{c:Ck}(h:CkN n c){s:Stp}(a:s.lits.length<=100000):CkN (n+1) (jf c s).1:=by
 unfold jf;split
 .exact h.up (RO n)
 .rename_i hp;rw[yx]at hp;have b:jr s=true:=QJ λhn=>hp (by rw[Qa hn];decide);obtain⟨_,h1,d⟩:=JZ b;split
  .exact(h.drop s.hints).up (RO n)
  .unfold wz;split
   .exact h.up (RO n)
   .split
    .exact h.up (RO n)
    .split
     .exact h.up (RO n)
     .split
      .exact h.up (RO n)
      .exact h.put ⟨h1,by omega⟩ a
theorem yy{L:List (List Int)}(b:∀c∈L,c.length<=100000)(hn:L.length<=1000000):∀i,i<=L.length->CkN i (dg L i)∧(dg L i).last=(i:Int)
 |0,_=>⟨⟨Qc _,(λq a=>by cases a),(λq a=>by cases a),Ss _,by show(0:Int)<=20000000;omega⟩,rfl⟩
 |i+1,h=>by
  obtain⟨h1,d⟩:=yy b hn i (by omega);have hs:dg L (i+1)=tE (dg L i) L[i]:=bs tE ⟨[],0,false⟩ L i (by omega);have e:=eq i;rw[hs];unfold tE;rw[d,e];exact⟨h1.put (by omega) (b _ (Qe (by omega))),rfl⟩
def KL:List (List Int)->Nat->Option Int
 |[],_=>none
 |c::L,i=>if c=[]then some ((i+1:Nat):Int)else KL L (i+1)
def KM:List Stp->Int
 |[]=>0
 |s::ss=>if s.kind=1∧s.lits=[]then s.id else KM ss
def LJ(L:List (List Int))(ss:List Stp):Int:=(KL L 0).getD (KM ss)
def PQ(m:List (Int×Int))(k:Int):List (Int×Int):=pt m k (aX ((lk m k).getD 0+1))
def PR(m:List (Int×Int))(s:Stp):List (Int×Int):=if s.kind=1∧0<(lk m s.id).getD 0 then s.hints.foldl PQ m else m
def Oz(m:List (Int×Int)):List Stp->List (Int×Int)
 |[]=>m
 |s::ss=>PR (Oz m ss) s
def LK(L:List (List Int))(ss:List Stp):List (Int×Int):=Oz [(LJ L ss,1)] ss
def qF(x:Stp):List PV:=[af x.kind,af x.id,.seq true 1 (ab x.lits),.seq true 1 (ab x.hints)]
@[simp] theorem yz(k:Nat)(l:List Stp):bQ k (l.map qF):=by
 induction l with
 |nil=>trivial
 |cons x xs a=>exact⟨⟨trivial,trivial,aS k _,aS k _,trivial⟩,a⟩
@[simp] theorem MP(r:Nat->Nat->PV)(l:List Stp):lz r (l.map qF)=l.map dF:=by
 rw[cb,Ra];apply Sw;intro x _;simp[qF,dF]
theorem nX(l:List Int):(aL l).length=l.length:=by unfold aL;simp
theorem J3(H:List (List SV))(b:Nat)(zs:List Int)(sp:List SV)(a:H[b]?=some (aL zs++sp))(n:Nat):tv (a8 H (n+1) b 0) 1 zs.length=.seq false 1 (ab zs):=by
 have e:H.getD b []=aL zs++sp:=by rw[P9,a];rfl
 simp only[a8,tv,e,Ql];rw[Qb ⟨trivial,by rw[Qh,nX];omega⟩];congr 1;unfold aL;simp only[QT,Ra];rw[To,R4 (by simp),Ra];rfl
theorem pU(k:Nat){sp:List SV}(h:cT k sp):∀l:List Int,cT k (aL l++sp)
 |[]=>h
 |_::l=>⟨trivial,pU k h l⟩
end Go.AX
namespace Go.AX
set_option maxRecDepth 16000
open Go.Proofs
set_option linter.unusedSimpArgs false
structure By where
  b:Nat
  n:Nat
  cp:Nat
def EP(x:By):PV:=.bsl x.b 1 0 x.n x.cp
def uM(b:Nat):PV:=.ptr b 0
structure Wt where
  prs:List (Int×Nat)
  byl:List (Int×By)
  late:List (Int×Int)
  head:Int
  seen:List Int
def cB(ba bt:Nat)(W:Wt):List SV:=[.pv (.ptr ba 0),.pv (.ptr bt 0),.omap true (aC uM W.prs),.omap true (aC EP W.byl),.omap true (aC fI W.late),.pv (af W.head),.own true 1 (ab W.seen)]
def jg(lits:List Int)(x y:Int):List SV:=[.pv (.seq false 1 (ab lits)),.pv (af x),.pv (af y)]
theorem yA(h:List (List SV))(b ba bt:Nat)(W:Wt)(d:h[b]?=some (cB ba bt W)):ay Tryz.prog 154 [.ptr b 0] h (λr h'=>h'=h∧r=.pv (BL true)):=by
 refine gh [] [.tmp 2] aD Tryz.func154 ?_;obtain⟨c,a⟩:=P7.1 d;simp[a,c,cB]
def eD(T:Tr)(lits:List Int):List Int:=lits.filter λl=>decide (cv T l=1)||decide (cv T l=0)
def lu(T:Tr)(lits:List Int):Bool:=lits.any λl=>decide (cv T l=1)
theorem AY(T:Tr)(lits:List Int){i:Nat}(h:i<lits.length):eD T (lits.take (i+1))=if cv T lits[i]=1∨cv T lits[i]=0 then eD T (lits.take i)++[lits[i]]else eD T (lits.take i):=by
 unfold eD;rw[Rl,P8 h,R3,RK,Q9,UQ]
 by_cases c:cv T lits[i]=1∨cv T lits[i]=0
 .rw[Qb c,Qb (by simpa using c)]
 .rw[Qa c,Qa (by simpa using c),Rx]
theorem AZ(T:Tr)(lits:List Int){i:Nat}(h:i<lits.length):lu T (lits.take (i+1))=(lu T (lits.take i)||decide (cv T lits[i]=1)):=by
 unfold lu;rw[Rl,P8 h,R3,List.any_append];simp
theorem uN(T:Tr)(lits:List Int):(eD T lits).length<=lits.length:=R6 _ _
theorem Hl(h:List (List SV))(bw ba bt p:Nat)(W:Wt)(T:Tr)(lits:List Int)(x y:Int)(J:h[bw]?=some (cB ba bt W))(ht:h[bt]?=some (gi T))(hp:h[p]?=some (jg lits x y))(K:T.ok)(Q:lits.length<=1000000):
 ay Tryz.prog 280 [.ptr bw 0,.ptr p 0] h (λr h'=>h'=h∧r=.pv (.agg [BL (lu T lits),.seq true 1 (ab (eD T lits))])):=by
 refine fh [] [.cell 4 _] aD Tryz.func280 ?_;obtain⟨P,U⟩:=P7.1 J;obtain⟨O,R⟩:=P7.1 hp;obtain⟨G,e⟩:∃G:SV->SV->List (List SV),∀u v,G u v=h++[[.pv (BL false),.pv (.lit (.slice none 0 0))],[u,v]]:=⟨_,λ_ _=>rfl⟩;have w:∀u v,(G u v)[bw]?=some (cB ba bt W):=λu v=>by rw[e,Qd P,J]
 have s:∀u v,(G u v)[p]?=some (jg lits x y):=λu v=>by rw[e,Qd O,hp]
 have B:∀u v,(G u v)[bt]?=some (gi T):=λu v=>by rw[e,Qd (P7.1 ht).1,ht]
 have g:∀u v,(G u v)[h.length+1]?=some [u,v]:=λu v=>by rw[e];simp
 have t:∀u v,bw<(G u v).length:=λu v=>(P7.1 (w u v)).1;have C:∀u v,(G u v)[bw]'(t u v)=cB ba bt W:=λu v=>(P7.1 (w u v)).2;have q:∀u v,p<(G u v).length:=λu v=>(P7.1 (s u v)).1;have A:∀u v,(G u v)[p]'(q u v)=jg lits x y:=λu v=>(P7.1 (s u v)).2;have a:∀u v,h.length+1<(G u v).length:=λu v=>(P7.1 (g u v)).1;have f:∀u v,(G u v)[h.length+1]'(a u v)=[u,v]:=λu v=>(P7.1 (g u v)).2;have F:∀u v n,a8 (G u v) (n+1) bt 0=bE T:=λu v n=>cG (B u v) n;have j:∀u v D E,(G u v).set (h.length+1) [D,E]=G D E:=λu v D E=>by rw[e,e];simp
 have N:=λl=>fw T l K;simp;rw[←e];simp[t,C,cB,q,A,jg,F];obtain⟨H,c⟩:∃H:Nat->List (List SV),∀i,H i=G (.pv (BL (lu T (lits.take i)))) (.own true 1 (ab (eD T (lits.take i)))):=⟨_,λ_=>rfl⟩;have h1:∀i,h.length+1<(H i).length:=λi=>by rw[c];exact a _ _
 have I:∀i,(H i)[h.length+1]'(h1 i)=[.pv (BL (lu T (lits.take i))),.own true 1 (ab (eD T (lits.take i)))]:=λi=>by simp only[c];exact f _ _
 have hz:∀i n,a8 (H i) (n+1) bt 0=bE T:=λi n=>by rw[c];exact F _ _ n
 have hs:∀i u v,(H i).set (h.length+1) [u,v]=G u v:=λi u v=>by rw[c];exact j _ _ _ _
 refine aH.intro (S:=λ(i:Nat)=>⟨[(4,.pv (.ptr h.length 0)),(5,.pv (.ptr (h.length+1) 0)),(6,.pv (.fn (.func 103) [.ptr bt 0] [])),(17,.pv (.seq false 1 (ab lits))),(18,.pv (af lits.length)),(19,.pv (af i))],H i⟩) (λi=>i<=lits.length) (λi=>lits.length -i) 0 ?_ (Qq _) ?_
 .refine(ai.nilCell (b:=h.length+1) (k:=1) (xs:=[.pv (BL false),.pv (.lit (.slice none 0 0))]) 1 true (by simp;exact g _ _) (by simp)).trans (ai.keep (by simp) ?_);simp[c,j,lu,eD,ab]
 intro i hi
 by_cases d:i<lits.length
 .have m:aX ((i:Int)+1)=((i+1:Nat):Int):=by rw[aq (by omega) (by omega)];omega
  have M:lits[i]?=some lits[i]:=P8 d;have ho:=AY T lits d;have z:=AZ T lits d;have L:(eD T (lits.take i)).length<=i:=QP (uN _ _) (by rw[Qg];omega);simp[d,M,hz];refine ak.introP (N lits[i]) ?_
  by_cases o:cv T lits[i]=1
  .rw[Qb (.inl o)]at ho;rw[Sn o,Ux]at z;simp[o,h1,I,hs,a,f,j];refine⟨by omega,i+1,by(try dsimp only);omega,by(try dsimp only);omega,ai.keep (by simp[m]) ?_⟩;simp[c,j,ho,z,ab]
  .rw[RX o,Uf]at z
   by_cases v0:cv T lits[i]=0
   .rw[Qb (.inr v0)]at ho;simp[v0,h1,I,hs,a,f,j];refine⟨by omega,i+1,by(try dsimp only);omega,by(try dsimp only);omega,ai.keep (by simp[m]) ?_⟩;simp[c,j,ho,z,ab]
   .rw[Qa (λh=>h.elim o v0)]at ho;simp[v0,o];refine⟨i+1,by(try dsimp only);omega,by(try dsimp only);omega,ai.keep (by simp[m]) ?_⟩;simp[c,j,ho,z,ab]
 .have:i=lits.length:=by omega
  subst this;simp only[c,e];simp[bI,bG,frzC]
def ia:List Int->List Int->Nat
 |x::a,y::b=>if x=y then ia a b+1 else 0
 |_,_=>0
def Hm(W:Wt)(now:List Int):Wt:=⟨W.prs,W.byl,W.late,if(ia W.seen now:Int)<W.head then(ia W.seen now:Int)else W.head,W.seen⟩
theorem A0(h:List (List SV))(bw ba bt:Nat)(W:Wt)(now:List Int)(l:h[bw]?=some (cB ba bt W))(m:now.length<=1000000)(hs:W.seen.length<=1000000):
 ay Tryz.prog 155 [.ptr bw 0,.seq false 1 (ab now)] h (λr h'=>h'=h.set bw (cB ba bt (Hm W now))∧r=.pv (.tup [])):=by
 refine cY [] [] aD Tryz.func155 ?_;obtain⟨c,d⟩:=P7.1 l;have j:ia W.seen now=0+ia (W.seen.drop 0) (now.drop 0):=by simp
 unfold Hm;generalize ia W.seen now=P at*;simp;refine aH.intro (S:=λ(k:Nat)=>⟨[(0,.pv (.ptr bw 0)),(1,.pv (.seq false 1 (ab now))),(4,.pv (af k))],h⟩) (λk=>k<=W.seen.length∧k<=now.length∧P=k+ia (W.seen.drop k) (now.drop k)) (λk=>W.seen.length -k) 0 ?_ ⟨Qq _,Qq _,j⟩ ?_
 .exact ai.keep (by simp) rfl
 rintro k ⟨n,o,hk⟩;have f:aX ((k:Int)+1)=((k+1:Nat):Int):=by rw[aq (by omega) (by omega)];omega
 by_cases a:k<W.seen.length
 .have g:W.seen[k]?=some W.seen[k]:=P8 a
  by_cases b:k<now.length
  .have i:now[k]?=some now[k]:=P8 b;rw[QU a,QU b,ia]at hk
   by_cases e:W.seen[k]=now[k]
   .rw[Qb e]at hk;simp[c,d,cB,a,b,g,i,e];exact⟨k+1,by(try dsimp only);omega,⟨by(try dsimp only);omega,by(try dsimp only);omega,by(try dsimp only);omega⟩,ai.keep (by simp[f]) rfl⟩
   .rw[Qa e]at hk;have:P=k:=by omega
    subst this;simp[c,d,cB,a,b,g,i,e]
  .have:P=k:=by rw[QK (show now.length<=k by omega)]at hk;cases hd:W.seen.drop k<;>rw[hd]at hk<;>simpa[ia]using hk
   subst this;simp[c,d,cB,a,b,g]
 .have:P=k:=by rw[QK (show W.seen.length<=k by omega)]at hk;simpa[ia]using hk
  subst this;simp[c,d,cB,a]
end Go.AX
namespace Go.AX
open Go.Proofs
set_option linter.unusedSimpArgs false
structure Pr where
  lits:List Int
  x:Int
  y:Int
structure WS where
  prs:List (Int×Pr)
  byl:List (Int×List Int)
  late:List (Int×Int)
  head:Int
  seen:List Int
def oY(p:Pr):List SV:=jg p.lits p.x p.y
def OA(h:List (List SV))(e:By)(zs:List Int):Prop:=∃sp,h[e.b]?=some (aL zs++sp)∧(∀k,cT k sp)∧zs.length=e.n∧e.n<=e.cp∧e.cp<=e.n+sp.length
structure LayW (h:List (List SV)) (bw ba bt:Nat) (mp:List (Int×Nat)) (mb:List (Int×By)) (A:Ar) (T:Tr) (S:WS):Prop where
  w:h[bw]?=some (cB ba bt ⟨mp,mb,S.late,S.head,S.seen⟩)
  a:h[ba]?=some (l6 A)
  t:h[bt]?=some (gi T)
  wa:bw≠ba
  wt:bw≠bt
  at':ba≠bt
  keys:mp.map (·.1)=S.prs.map (·.1)
  pr:∀k b,lk mp k=some b->∃p,lk S.prs k=some p∧h[b]?=some (oY p)∧b≠bw∧b≠ba∧b≠bt
  pinj:∀k k' b,lk mp k=some b->lk mp k'=some b->k=k'
  by':∀l e,lk mb l=some e->∃zs,lk S.byl l=some zs∧OA h e zs∧e.b≠bw∧e.b≠ba∧e.b≠bt
  byn:∀l,lk mb l=none->lk S.byl l=none
  binj:∀l l' e e',lk mb l=some e->lk mb l'=some e'->e.b=e'.b->l=l'
  pb:∀k b l e,lk mp k=some b->lk mb l=some e->b≠e.b
def aR(bw bt:Nat)(mp:List (Int×Nat))(mb:List (Int×By))(b:Nat):Prop:=b=bw∨b=bt∨(∃k,lk mp k=some b)∨∃l e,lk mb l=some e∧e.b=b
structure Ext (h h':List (List SV)) (D D':Nat->Prop):Prop where
  len:h.length<=h'.length
  same:∀b,b<h.length->¬D b->h'[b]?=h[b]?
  sub:∀b,b<h.length->D' b->D b
theorem Ext.refl(h:List (List SV))(D:Nat->Prop):Ext h h D D:=⟨Qc _,λ_ _ _=>rfl,λ_ _ h=>h⟩
theorem Ext.trans{h1 f g:List (List SV)}{c d e:Nat->Prop}(a:Ext h1 f c d)(b:Ext f g d e):Ext h1 g c e:=
 ⟨QP a.len b.len,λk hk hn=>by rw[b.same k (Rk hk a.len) λhd=>hn (a.sub k hk hd),a.same k hk hn],λk hk hd=>a.sub k hk (b.sub k (Rk hk a.len) hd)⟩
theorem Ext.app(h g:List (List SV))(D:Nat->Prop):Ext h (h++g) D D:=
 ⟨by simp,λb a _=>Qd a,λ_ _ h=>h⟩
theorem Ext.set{h:List (List SV)}{D:Nat->Prop}(b:Nat)(x:List SV)(hd:D b):Ext h (h.set b x) D D:=
 ⟨by simp,λk hk hn=>Qt (λe:b=k=>hn (e▸hd)),λ_ _ h=>h⟩
theorem Ext.dom{h h':List (List SV)}{D D' c:Nat->Prop}(a:Ext h h' D D')(hs:∀b,b<h.length->c b->D b):Ext h h' D c:=⟨a.len,a.same,hs⟩
section
variable {h : List (List SV)} {bw ba bt : Nat} {mp : List (Int × Nat)} {mb : List (Int × By)} {A : Ar} {T : Tr} {S : WS}
theorem LayW.some_p(L:LayW h bw ba bt mp mb A T S){k:Int}{p:Pr}(hp:lk S.prs k=some p):∃b,lk mp k=some b∧h[b]?=some (oY p)∧b≠bw∧b≠ba∧b≠bt:=by
 have:∀(a:List (Int×Nat))(c:List (Int×Pr)),a.map (·.1)=c.map (·.1)->(lk c k).isSome=true->(lk a k).isSome=true:=by
  intro a
  induction a with
  |nil=>intro c h1 d;cases c with|nil=>exact d|cons _ _=>simp at h1
  |cons u a f=>
   intro c h1 d;cases c with
   |nil=>simp at h1
   |cons w c=>
    simp only[Qw,Sp]at h1;rw[lk]at d⊢;rw[h1.1];split
    .rfl
    .rename_i hn;rw[Qa hn]at d;exact f c h1.2 d
 obtain⟨b,e⟩:=S8.1 (this mp S.prs L.keys (by rw[hp];rfl));obtain⟨g,h1,d⟩:=L.pr k b e;rw[hp]at h1;cases h1
 exact⟨b,e,d⟩
theorem LayW.some_b(L:LayW h bw ba bt mp mb A T S){l:Int}{zs:List Int}(hz:lk S.byl l=some zs):∃e,lk mb l=some e∧OA h e zs∧e.b≠bw∧e.b≠ba∧e.b≠bt:=by
 cases a:lk mb l with
 |none=>rw[L.byn l a]at hz;cases hz
 |some e=>
  obtain⟨d,h1,c⟩:=L.by' l e a
  rw[hz]at h1;cases h1
  exact⟨e,rfl,c⟩
theorem LayW.app(L:LayW h bw ba bt mp mb A T S)(g:List (List SV)):LayW (h++g) bw ba bt mp mb A T S:=by
  have up:∀{b:Nat}{x:List SV},h[b]?=some x->(h++g)[b]?=some x:=λhx=>by rw[Qd (P7.1 hx).1,hx]
  exact { w := up L.w, a := up L.a, t := up L.t, wa := L.wa, wt := L.wt, at' := L.at', keys := L.keys, pinj := L.pinj, byn := L.byn, binj := L.binj, pb := L.pb
          pr:=λk b hb=>by obtain⟨p,h1,h2,h3⟩:=L.pr k b hb;exact⟨p,h1,up h2,h3⟩
          by':=λl e he=>by
            obtain⟨zs,h1,⟨sp,h2,h3⟩,h4⟩:=L.by' l e he
            exact⟨zs,h1,⟨sp,up h2,h3⟩,h4⟩}
theorem LayW.setW(L:LayW h bw ba bt mp mb A T S)(late:List (Int×Int))(head:Int)(seen:List Int):LayW (h.set bw (cB ba bt ⟨mp,mb,late,head,seen⟩)) bw ba bt mp mb A T ⟨S.prs,S.byl,late,head,seen⟩:=by
  have hl:=(P7.1 L.w).1
  have up:∀{b:Nat}{x:List SV},b≠bw->h[b]?=some x->(h.set bw (cB ba bt ⟨mp,mb,late,head,seen⟩))[b]?=some x:=λhn hx=>by rw[Qt (λe=>hn e.symm),hx]
  exact { w := Q0 hl, a := up L.wa.symm L.a, t := up L.wt.symm L.t, wa := L.wa, wt := L.wt, at' := L.at', keys := L.keys, pinj := L.pinj, byn := L.byn, binj := L.binj, pb := L.pb
          pr:=λk b hb=>by obtain⟨p,h1,h2,h3⟩:=L.pr k b hb;exact⟨p,h1,up h3.1 h2,h3⟩
          by':=λl e he=>by
            obtain⟨zs,h1,⟨sp,h2,h3⟩,h4⟩:=L.by' l e he
            exact⟨zs,h1,⟨sp,up h4.1 h2,h3⟩,h4⟩}
theorem LayW.setT(L:LayW h bw ba bt mp mb A T S)(T':Tr):LayW (h.set bt (gi T')) bw ba bt mp mb A T' S:=by
  have hl:=(P7.1 L.t).1
  have up:∀{b:Nat}{x:List SV},b≠bt->h[b]?=some x->(h.set bt (gi T'))[b]?=some x:=λhn hx=>by rw[Qt (λe=>hn e.symm),hx]
  exact { w := up L.wt L.w, a := up L.at' L.a, t := Q0 hl, wa := L.wa, wt := L.wt, at' := L.at', keys := L.keys, pinj := L.pinj, byn := L.byn, binj := L.binj, pb := L.pb
          pr:=λk b hb=>by obtain⟨p,h1,h2,h3⟩:=L.pr k b hb;exact⟨p,h1,up h3.2.2 h2,h3⟩
          by':=λl e he=>by
            obtain⟨zs,h1,⟨sp,h2,h3⟩,h4⟩:=L.by' l e he
            exact⟨zs,h1,⟨sp,up h4.2.2 h2,h3⟩,h4⟩}
theorem yB{α β:Type}:∀(a:List (Int×α))(c:List (Int×β))(k:Int)(x:α)(y:β),a.map (·.1)=c.map (·.1)->(pt a k x).map (·.1)=(pt c k y).map (·.1)
 |[],[],_,_,_,_=>rfl
 |[],_::_,_,_,_,h=>by simp at h
 |_::_,[],_,_,_,h=>by simp at h
 |u::a,w::c,k,x,y,h=>by
  obtain⟨d,e⟩:=u;obtain⟨f,g⟩:=w;simp only[Qw,Sp]at h;obtain⟨h1,b⟩:=h;subst h1;rw[pt,pt];split
  .simp[b]
  .simp only[Qw];rw[yB a c k x y b]
theorem LayW.setP(L:LayW h bw ba bt mp mb A T S){k:Int}{b:Nat}(hb:lk mp k=some b)(p:Pr)(hkeep:mp.map (·.1)=(pt S.prs k p).map (·.1)):LayW (h.set b (oY p)) bw ba bt mp mb A T ⟨pt S.prs k p,S.byl,S.late,S.head,S.seen⟩:=by
  obtain⟨p0,q1,q2,q3,q4,q5⟩:=L.pr k b hb
  have hl:=(P7.1 q2).1
  have up:∀{c:Nat}{x:List SV},c≠b->h[c]?=some x->(h.set b (oY p))[c]?=some x:=λhn hx=>by rw[Qt (λe=>hn e.symm),hx]
  exact { w := up q3.symm L.w, a := up q4.symm L.a, t := up q5.symm L.t, wa := L.wa, wt := L.wt, at' := L.at', keys := hkeep, pinj := L.pinj, byn := L.byn, binj := L.binj, pb := L.pb
          pr:=λk' b' hb'=>by
            obtain⟨p1,h1,h2,h3⟩:=L.pr k' b' hb'
            show∃p_1,lk (pt S.prs k p) k'=some p_1∧_
            rw[bD]
            by_cases e:k=k'
            · subst e
              rw[hb]at hb'
              cases hb'
              exact⟨p,Qb rfl,Q0 hl,h3⟩
            · exact⟨p1,by rw[Qa e];exact h1,up (λe2=>e (L.pinj k k' b hb (e2▸hb'))) h2,h3⟩
          by':=λl e he=>by
            obtain⟨zs,h1,⟨sp,h2,h3⟩,h4⟩:=L.by' l e he
            exact⟨zs,h1,⟨sp,up (L.pb k b l e hb he).symm h2,h3⟩,h4⟩}
theorem LayW.setB(L:LayW h bw ba bt mp mb A T S){l:Int}{e:By}(he:lk mb l=some e)(zs:List Int)(sp:List SV)(hsp:∀k,cT k sp)(n:Nat)(hn:zs.length=n)(h1:n<=e.cp)(h2:e.cp<=n+sp.length):
    LayW ((h.set e.b (aL zs++sp)).set bw (cB ba bt ⟨mp,pt mb l ⟨e.b,n,e.cp⟩,S.late,S.head,S.seen⟩)) bw ba bt mp (pt mb l ⟨e.b,n,e.cp⟩) A T ⟨S.prs,pt S.byl l zs,S.late,S.head,S.seen⟩:=by
  obtain⟨z0,q1,⟨sp0,q2,_⟩,q3,q4,q5⟩:=L.by' l e he
  have hl:=(P7.1 q2).1
  have hwl:=(P7.1 L.w).1
  have up:∀{c:Nat}{x:List SV},c≠bw->c≠e.b->h[c]?=some x->((h.set e.b (aL zs++sp)).set bw (cB ba bt ⟨mp,pt mb l ⟨e.b,n,e.cp⟩,S.late,S.head,S.seen⟩))[c]?=some x:=λn1 n2 hx=>by
    rw[Qt (λe=>n1 e.symm),Qt (λe=>n2 e.symm),hx]
  have self:((h.set e.b (aL zs++sp)).set bw (cB ba bt ⟨mp,pt mb l ⟨e.b,n,e.cp⟩,S.late,S.head,S.seen⟩))[e.b]?=some (aL zs++sp):=by
    rw[Qt (λe=>q3 e.symm),Q0 hl]
  exact { w := Q0 (by simpa using hwl), a := up L.wa.symm q4.symm L.a, t := up L.wt.symm q5.symm L.t, wa := L.wa, wt := L.wt, at' := L.at', keys := L.keys, pinj := L.pinj
          pr:=λk b hb=>by obtain⟨p,a1,a2,a3⟩:=L.pr k b hb;exact⟨p,a1,up a3.1 (L.pb k b l e hb he) a2,a3⟩
          by':=λl' e' he'=>by
            rw[bD]at he'
            show∃zs_1,lk (pt S.byl l zs) l'=some zs_1∧_
            rw[bD]
            by_cases c:l=l'
            · rw[Qb c]at he'
              cases he'
              exact⟨zs,Qb c,⟨sp,self,hsp,hn,h1,h2⟩,q3,q4,q5⟩
            · rw[Qa c]at he'
              obtain⟨z1,a1,⟨sp1,a2,a3⟩,a4⟩:=L.by' l' e' he'
              exact⟨z1,by rw[Qa c];exact a1,⟨sp1,up a4.1 (λe2=>c (L.binj l' l e' e he' he e2).symm) a2,a3⟩,a4⟩
          byn:=λl' hn'=>by
            rw[bD]at hn'
            show lk (pt S.byl l zs) l'=none
            rw[bD]
            by_cases c:l=l'
            · rw[Qb c]at hn';cases hn'
            · rw[Qa c]at hn'⊢;exact L.byn l' hn'
          binj:=λl1 l2 e1 e2 h1' h2' hb=>by
            rw[bD]at h1' h2'
            by_cases c1:l=l1
            · by_cases c2:l=l2
              · exact c1.symm.trans c2
              · rw[Qb c1]at h1';rw[Qa c2]at h2';cases h1'
                exact absurd (L.binj l l2 e e2 he h2' hb) c2
            · rw[Qa c1]at h1'
              by_cases c2:l=l2
              · rw[Qb c2]at h2';cases h2'
                exact absurd (L.binj l1 l e1 e h1' he hb).symm c1
              · rw[Qa c2]at h2'
                exact L.binj l1 l2 e1 e2 h1' h2' hb
          pb:=λk b l' e' hb he'=>by
            rw[bD]at he'
            by_cases c:l=l'
            · rw[Qb c]at he';cases he';exact L.pb k b l e hb he
            · rw[Qa c]at he';exact L.pb k b l' e' hb he'}
theorem LayW.newB(L:LayW h bw ba bt mp mb A T S)(l:Int)(zs:List Int)(sp:List SV)(hsp:∀k,cT k sp)(n cp:Nat)(hn:zs.length=n)(h1:n<=cp)(h2:cp<=n+sp.length):
    LayW ((h++[aL zs++sp]).set bw (cB ba bt ⟨mp,pt mb l ⟨h.length,n,cp⟩,S.late,S.head,S.seen⟩)) bw ba bt mp (pt mb l ⟨h.length,n,cp⟩) A T ⟨S.prs,pt S.byl l zs,S.late,S.head,S.seen⟩:=by
  have hwl:=(P7.1 L.w).1
  have lt:∀{b:Nat}{x:List SV},h[b]?=some x->b<h.length:=λhx=>(P7.1 hx).1
  have up:∀{c:Nat}{x:List SV},c≠bw->h[c]?=some x->((h++[aL zs++sp]).set bw (cB ba bt ⟨mp,pt mb l ⟨h.length,n,cp⟩,S.late,S.head,S.seen⟩))[c]?=some x:=λn1 hx=>by
    rw[Qt (λe=>n1 e.symm),Qd (lt hx),hx]
  have self:((h++[aL zs++sp]).set bw (cB ba bt ⟨mp,pt mb l ⟨h.length,n,cp⟩,S.late,S.head,S.seen⟩))[h.length]?=some (aL zs++sp):=by
    rw[Qt (by omega)];simp
  exact { w := Q0 (by simp; omega), a := up L.wa.symm L.a, t := up L.wt.symm L.t, wa := L.wa, wt := L.wt, at' := L.at', keys := L.keys, pinj := L.pinj
          pr:=λk b hb=>by obtain⟨p,a1,a2,a3⟩:=L.pr k b hb;exact⟨p,a1,up a3.1 a2,a3⟩
          by':=λl' e' he'=>by
            rw[bD]at he'
            show∃zs_1,lk (pt S.byl l zs) l'=some zs_1∧_
            rw[bD]
            by_cases c:l=l'
            · rw[Qb c]at he'
              cases he'
              exact⟨zs,Qb c,⟨sp,self,hsp,hn,h1,h2⟩,Ti hwl,Ti (lt L.a),Ti (lt L.t)⟩
            · rw[Qa c]at he'
              obtain⟨z1,a1,⟨sp1,a2,a3⟩,a4⟩:=L.by' l' e' he'
              exact⟨z1,by rw[Qa c];exact a1,⟨sp1,up a4.1 a2,a3⟩,a4⟩
          byn:=λl' hn'=>by
            rw[bD]at hn'
            show lk (pt S.byl l zs) l'=none
            rw[bD]
            by_cases c:l=l'
            · rw[Qb c]at hn';cases hn'
            · rw[Qa c]at hn'⊢;exact L.byn l' hn'
          binj:=λl1 l2 e1 e2 h1' h2' hb=>by
            have old:∀l' e',lk mb l'=some e'->e'.b<h.length:=λl' e' he'=>by obtain⟨_,_,⟨_,a2,_⟩,_⟩:=L.by' l' e' he';exact lt a2
            rw[bD]at h1' h2'
            by_cases c1:l=l1
            · by_cases c2:l=l2
              · exact c1.symm.trans c2
              · rw[Qb c1]at h1';rw[Qa c2]at h2';cases h1'
                have:=old l2 e2 h2'
                simp only at hb
                omega
            · rw[Qa c1]at h1'
              by_cases c2:l=l2
              · rw[Qb c2]at h2';cases h2'
                have:=old l1 e1 h1'
                simp only at hb
                omega
              · rw[Qa c2]at h2'
                exact L.binj l1 l2 e1 e2 h1' h2' hb
          pb:=λk b l' e' hb he'=>by
            rw[bD]at he'
            by_cases c:l=l'
            · rw[Qb c]at he';cases he'
              obtain⟨_,_,a2,_⟩:=L.pr k b hb
              exact Uu (lt a2)
            · rw[Qa c]at he';exact L.pb k b l' e' hb he'}
end
@[simp] theorem OB(l:List (Int×Nat))(k:Int):c9 (aC uM l) k=(lk l k).map uM:=fq uM l k
@[simp] theorem Pu(l:List (Int×Nat))(k:Int)(b:Nat):fY (aC uM l) k (.ptr b 0)=aC uM (pt l k b):=ge uM l k b
@[simp] theorem OC(l:List (Int×By))(k:Int):c9 (aC EP l) k=(lk l k).map EP:=fq EP l k
@[simp] theorem Pv(l:List (Int×By))(k:Int)(b n cp:Nat):fY (aC EP l) k (.bsl b 1 0 n cp)=aC EP (pt l k ⟨b,n,cp⟩):=ge EP l k ⟨b,n,cp⟩
theorem J4(x v:Int):am Tryz.prog 256 [af x,.iptr 1 [[af v]] 0 0] (λr=>r=.pv (BL (decide (x=v)))):=by
 refine ao aD Tryz.func256 ?_;simp
def fk(byl:List (Int×List Int))(k l:Int):List (Int×List Int):=if l=0 then byl else pt byl l (bc (λx=>decide (x=k)) ((lk byl l).getD []))
def md(S:WS)(k:Int)(p:Pr):WS:=⟨pt S.prs k ⟨p.lits,0,0⟩,fk (fk S.byl k p.x) k p.y,S.late,S.head,S.seen⟩
def Ho:Sch:=
 let b:Sch:=.fork [(8,.done)]
 let a:Sch:=.fork [(5,.take 6 (.take 7 b))]
 let c:Sch:=.fork [(4,a)]
 let d:Sch:=.fork [(3,a)]
 let e:Sch:=.fork [(3,c),(4,d)]
 .take 0 (.take 1 (.take 2 (.take 9 e)))
def Hp:Sch:=
 let g:Sch:=.fork [(13,.done)]
 let b:Sch:=.fork [(12,g)]
 let h:Sch:=.fork [(11,b)]
 let f:Sch:=.fork [(10,b)]
 let i:Sch:=.fork [(10,h),(11,f)]
 let j:Sch:=.fork [(8,f)]
 let l:Sch:=.fork [(8,i),(11,j)]
 let m:Sch:=.fork [(3,g)]
 let k:Sch:=.fork [(3,b),(12,m)]
 let n:Sch:=.fork [(3,h),(11,k)]
 let a:Sch:=.fork [(3,f),(10,k)]
 let c:Sch:=.fork [(3,i),(10,n),(11,a)]
 let d:Sch:=.fork [(3,j),(8,a)]
 let e:Sch:=.fork [(3,l),(8,c),(11,d)]
 .take 0 (.take 1 (.take 2 (.take 4 (.take 5 (.take 6 (.take 7 (.take 9 e)))))))
def Hq:Sch:=
 let b:Sch:=.fork [(9,.done)]
 let f:Sch:=.fork [(6,.take 7 (.take 8 b))]
 let a:Sch:=.fork [(5,.take 7 (.take 8 b))]
 let c:Sch:=.fork [(5,f),(6,a)]
 let d:Sch:=.fork [(4,a)]
 let g:Sch:=.fork [(4,c),(6,d)]
 let e:Sch:=.fork [(3,a)]
 let h:Sch:=.fork [(3,c),(6,e)]
 let i:Sch:=.fork [(3,d),(4,e)]
 let j:Sch:=.fork [(3,g),(4,h),(6,i)]
 .take 0 (.take 1 (.take 2 j))
def A1(S:WS)(k:Int)(p:Pr):Nat->List (Int×List Int)
 |0=>S.byl
 |1=>fk S.byl k p.x
 |_=>fk (fk S.byl k p.x) k p.y
set_option maxRecDepth 16000 in
theorem A2(h:List (List SV))(bw ba bt:Nat)(mp:List (Int×Nat))(mb:List (Int×By))(A:Ar)(T:Tr)(S:WS)(L:LayW h bw ba bt mp mb A T S)(k:Int)(p:Pr)(hp:lk S.prs k=some p)
 (hx:p.x≠0->∃zs,lk S.byl p.x=some zs∧zs≠[]) (hy:p.y≠0->∃zs,lk (fk S.byl k p.x) p.y=some zs∧zs≠[]) (hz:∀l zs,lk S.byl l=some zs->zs.length<=1000000):
 ay Tryz.prog 195 [.ptr bw 0,af k] h (λr h'=>r=.pv (.tup [])∧∃mb',LayW h' bw ba bt mp mb' A T (md S k p)∧Ext h h' (aR bw bt mp mb) (aR bw bt mp mb')):=by
 refine cY [1,5,7] [] aD Tryz.func195 ?_;obtain⟨b,E,q1,q2,q3,q4⟩:=L.some_p hp;obtain⟨G,D⟩:∃G,G=h++[[SV.pv (af k)]]:=⟨_,rfl⟩;have L0:LayW G bw ba bt mp mb A T S:=by rw[D];exact L.app _
 have I:G[h.length]?=some [.pv (af k)]:=by rw[D];simp
 have aa:G[b]?=some (oY p):=by rw[D,Qd (P7.1 q1).1,q1]
 obtain⟨w1,w2⟩:=P7.1 L0.w;obtain⟨k1,k2⟩:=P7.1 I;obtain⟨b1,b2⟩:=P7.1 aa;simp;rw[←D];have ae:h.length≠bw:=Ti (P7.1 L.w).1;have old:∀l e,lk mb l=some e->e.b<h.length:=λl e v=>by obtain⟨_,_,⟨_,a2,_⟩,_⟩:=L.by' l e v;exact(P7.1 a2).1
 refine bd.meet Ho ⟨[(0,.pv (.ptr bw 0)),(3,.pv (.ptr h.length 0)),(14,.pv (.agg [af p.x,af p.y])),(15,.pv (af 0))],G⟩ (by kernel_rfl) ?_ ?_
 .simp[Ho,w1,w2,cB,k1,k2,b1,b2,oY,jg,E,uM];and_intros
  all_goals exact ai.keep (by simp) rfl
 simp;refine aH.intro (S:=λ(x:Nat×List (List SV)×List (Int×By))=>⟨[(0,.pv (.ptr bw 0)),(3,.pv (.ptr h.length 0)),(14,.pv (.agg [af p.x,af p.y])),(15,.pv (af x.1))],x.2.1⟩)
  (λx=>x.1<=2∧LayW x.2.1 bw ba bt mp x.2.2 A T ⟨S.prs,A1 S k p x.1,S.late,S.head,S.seen⟩∧x.2.1[h.length]?=some [.pv (af k)]∧Ext G x.2.1 (aR bw bt mp mb) (aR bw bt mp x.2.2)∧(∀l e,lk x.2.2 l=some e->e.b<h.length)∧∀l zs,lk (A1 S k p x.1) l=some zs->zs.length<=1000000)
  (λx=>2 -x.1) (0,G,mb) ?_ ⟨Qq _,L0,I,Ext.refl _ _,old,hz⟩ ?_
 .exact ai.keep (by simp) rfl
 rintro⟨i,H,mb'⟩ ⟨hi,s,j,P,f,o⟩;dsimp only at hi s j P f o;obtain⟨v1,v2⟩:=P7.1 s.w;obtain⟨j1,j2⟩:=P7.1 j
 by_cases d:i<2
 .obtain⟨l,B⟩:∃l,l=if i=0 then p.x else p.y:=⟨_,rfl⟩;have F:[af p.x,af p.y][i]?=some (af l):=by
   have:i=0∨i=1:=by omega
   rcases this with rfl|rfl
   .rw[B];rfl
   .rw[B];rfl
  have g:∀hh:i<[af p.x,af p.y].length,[af p.x,af p.y][i]'hh=af l:=λhh=>by
   have:=P7.1 F;exact this.2
  have d':(i:Int)<2:=by omega
  have M:aX ((i:Int)+1)=((i+1:Nat):Int):=by rw[aq (by omega) (by omega)];omega
  have a:A1 S k p (i+1)=fk (A1 S k p i) k l:=by
   have:i=0∨i=1:=by omega
   rcases this with rfl|rfl
   .rw[B];rfl
   .rw[B];rfl
  by_cases l0:l=0
  .simp[d,d',g,l0];rw[l0]at a;refine⟨(i+1,H,mb'),by(try dsimp only);omega,⟨by(try dsimp only);omega,?_,j,P,f,?_⟩,ai.keep (by simp[M]) rfl⟩
   .dsimp only;rw[a];exact s
   .dsimp only;rw[a];exact o
  .have ad:∃zs,lk (A1 S k p i) l=some zs∧zs≠[]:=by
    have:i=0∨i=1:=by omega
    rcases this with rfl|rfl
    .have e:l=p.x:=B;rw[e]at l0⊢;exact hx l0
    .have e:l=p.y:=B;rw[e]at l0⊢;exact hy l0
   obtain⟨zs,n,O⟩:=ad;obtain⟨e,v,⟨sp,e1,e2,e3,e4,e5⟩,e6,e7,e8⟩:=s.some_b n;have N:zs.length<=1000000:=o l zs n;have J:0<zs.length:=Ru.2 O;have C:(bc (λx=>decide (x=k)) zs).length<=zs.length:=jD _ _;have V:=iI zs N 256 [.iptr 1 [[af k]] 0 0] (λx=>decide (x=k)) (λr=>by simp) rfl (λm=>by simp) (by simp) (λx _=>J4 x k);have ah:e.b<H.length:=(P7.1 e1).1;have t:h.length≠e.b:=Ti (f l e v);obtain⟨Z,hZ⟩:∃Z,Z=bc (λx=>decide (x=k)) zs:=⟨_,rfl⟩;rw[←hZ]at C;unfold Jj at V;rw[←hZ]at V;obtain⟨X,hX⟩:∃X:List SV,X=(Z++List.replicate (zs.length -Z.length) 0).map (λz=>SV.pv (.lit (.int .i64 z)))++sp:=⟨_,rfl⟩;have K:A1 S k p (i+1)=pt (A1 S k p i) l Z:=by
    rw[a];unfold fk;rw[Qa l0,n,QF,hZ]
   have Y:X=aL Z++((List.replicate (zs.length -Z.length) 0).map (λz=>SV.pv (.lit (.int .i64 z)))++sp):=by
    rw[hX,QT,QD];rfl
   have LN:=s.setB v Z ((List.replicate (zs.length -Z.length) 0).map (λz=>SV.pv (.lit (.int .i64 z)))++sp) (λm=>pU m (e2 m) _) Z.length rfl (by omega) (by simp;omega);rw[←Y]at LN;simp[d,d',g,l0];refine bd.meet Hp ⟨[(0,.pv (.ptr bw 0)),(3,.pv (.ptr h.length 0)),(14,.pv (.agg [af p.x,af p.y])),(15,.pv (af i))],(H.set e.b X).set bw (cB ba bt ⟨mp,pt mb' l ⟨e.b,Z.length,e.cp⟩,S.late,S.head,S.seen⟩)⟩ (by kernel_rfl) ?_ ?_
   .simp[Hp,v1,v2,cB,j1,j2,v,EP];and_intros
    all_goals
     refine ak.introX (cd.introT (b:=e.b) (b2:=h.length) (zs:=zs) (sp:=sp) (cp:=e.cp) V (by simp) (by simp) rfl (by simp) (by simp[e3]) (by simp) (by simp) e1 j t J N ?_);rintro _ _ ⟨rfl,rfl⟩;refine⟨_,_,rfl,rfl,by simp;omega,C,?_⟩;rw[←hX];simp[v1,v2,cB,e6,e6.symm,aJ];exact ai.keep (by simp) rfl
   .simp;refine⟨(i+1,_,pt mb' l ⟨e.b,Z.length,e.cp⟩),by(try dsimp only);omega,⟨by(try dsimp only);omega,?_,?_,?_,?_,?_⟩,ai.keep (by simp[M]) rfl⟩
    .dsimp only;rw[K];exact LN
    .dsimp only;rw[Qt (λq=>ae q.symm),Qt (λq=>t q.symm)];exact j
    .dsimp only;refine P.trans (((Ext.set e.b X (.inr (.inr (.inr ⟨l,e,v,rfl⟩)))).trans (Ext.set bw _ (.inl rfl))).dom ?_);rintro c _ (q|q|q|⟨l',e',q,rfl⟩)
     .exact .inl q
     .exact .inr (.inl q)
     .exact .inr (.inr (.inl q))
     .rw[bD]at q;split at q
      .cases q;exact .inr (.inr (.inr ⟨l,e,v,rfl⟩))
      .exact .inr (.inr (.inr ⟨l',e',q,rfl⟩))
    .intro l' e' q;dsimp only at q;rw[bD]at q;split at q
     .cases q;exact f l e v
     .exact f l' e' q
    .intro l' ag q;dsimp only at q;rw[K,bD]at q;split at q
     .cases q;omega
     .exact o l' ag q
 .have:i=2:=by omega
  subst this;obtain⟨R,r1,r2,r3,r4,r5⟩:=s.pr k b E;have ab:R=p:=by rw[hp]at r1;cases r1;rfl
  subst ab; obtain ⟨c1, c2⟩ := P7.1 r2; have LF := s.setP E ⟨R.lits, 0, 0⟩ (by
   have:∀(l:List (Int×Pr))(q:Pr),lk l k=some q->(pt l k ⟨R.lits,0,0⟩).map (·.1)=l.map (·.1):=by
    intro l q Q
    induction l with
    |nil=>cases Q
    |cons u l ih=>
     obtain⟨u1,u2⟩:=u;rw[pt];rw[lk]at Q;split
     .rename_i U;simp only[Qw,U]
     .rename_i U;rw[Qa U]at Q;simp only[Qw];rw[ih Q]
   exact s.keys.trans (this _ _ hp).symm)
  have W:Ext h (H.set b (oY ⟨R.lits,0,0⟩)) (aR bw bt mp mb) (aR bw bt mp mb'):=by
   have a1:Ext h G (aR bw bt mp mb) (aR bw bt mp mb):=by rw[D];exact Ext.app _ _ _
   exact(a1.trans P).trans (Ext.set b _ (.inr (.inr (.inl ⟨k,E⟩))))
  simp;refine bd.one Hq (by kernel_rfl) ?_;simp[Hq,v1,v2,cB,j1,j2,c1,c2,oY,jg,E,uM];exact⟨mb',LF,W⟩
def Hr:Sch:=
 let e:Sch:=.fork [(12,.done)]
 let a:Sch:=.fork [(9,.take 10 (.take 11 e))]
 let b:Sch:=.fork [(8,a)]
 let f:Sch:=.fork [(6,.take 7 b)]
 let c:Sch:=.fork [(4,a)]
 let d:Sch:=.fork [(4,b),(8,c)]
 let g:Sch:=.fork [(4,f),(6,.take 7 d)]
 let h:Sch:=.fork [(2,.take 3 c)]
 let i:Sch:=.fork [(2,.take 3 d),(8,h)]
 let j:Sch:=.fork [(2,.take 3 g),(6,.take 7 i)]
 .take 0 (.take 1 (.take 5 j))
def wA:Sch:=
 let g:Sch:=.fork [(14,.done)]
 let b:Sch:=.fork [(13,g)]
 let h:Sch:=.fork [(12,b)]
 let f:Sch:=.fork [(10,b)]
 let i:Sch:=.fork [(10,h),(12,f)]
 let j:Sch:=.fork [(8,f)]
 let l:Sch:=.fork [(8,i),(12,j)]
 let m:Sch:=.fork [(3,g)]
 let k:Sch:=.fork [(3,b),(13,m)]
 let n:Sch:=.fork [(3,h),(12,k)]
 let a:Sch:=.fork [(3,f),(10,k)]
 let c:Sch:=.fork [(3,i),(10,n),(12,a)]
 let d:Sch:=.fork [(3,j),(8,a)]
 let e:Sch:=.fork [(3,l),(8,c),(12,d)]
 .take 0 (.take 1 (.take 2 (.take 4 (.take 5 (.take 6 (.take 7 (.take 9 (.take 11 e))))))))
def Cv:Sch:=
 let a:Sch:=.fork [(9,.done)]
 let b:Sch:=.fork [(7,a)]
 let c:Sch:=.fork [(5,.take 6 b)]
 let d:Sch:=.fork [(3,a)]
 let e:Sch:=.fork [(3,b),(7,d)]
 let f:Sch:=.fork [(3,c),(5,.take 6 e)]
 .take 0 (.take 1 (.take 2 (.take 4 (.take 8 f))))
def gp(byl:List (Int×List Int))(k l:Int):List (Int×List Int):=pt byl l ((lk byl l).getD []++[k])
def jt(S:WS)(T:Tr)(k:Int)(p:Pr):WS:=
 if 2<=(eD T p.lits).length then⟨pt S.prs k ⟨p.lits,(eD T p.lits).getD 0 0,(eD T p.lits).getD 1 0⟩,gp (gp S.byl k ((eD T p.lits).getD 0 0)) k ((eD T p.lits).getD 1 0),dl S.late k,S.head,S.seen⟩else S
def lH(T:Tr)(k:Int)(p:Pr):Tr:=
 if(eD T p.lits).length=1∧lu T p.lits=false then kn T ((eD T p.lits).getD 0 0) k else T
def mf(T:Tr)(p:Pr):Bool:=decide ((eD T p.lits).length=0)
@[simp] theorem LL:∀(l:List (Int×Int))(k:Int),gX k (aC fI l)=aC fI (dl l k)
 |[],k=>rfl
 |(j,x)::l,k=>by
  show(if j=k then aC fI l else(j,fI x)::gX k (aC fI l))=aC fI (if j=k then l else(j,x)::dl l k);rw[LL l k];split<;>rfl
theorem iO{α:Type}{k:Int}(y:α):∀{l:List (Int×α)}{q:α},lk l k=some q->(pt l k y).map (·.1)=l.map (·.1)
 |[],_,h=>by cases h
 |(b,c)::l,q,h=>by
  rw[pt];rw[lk]at h;split
  .rename_i a;simp only[Qw,a]
  .rename_i a;rw[Qa a]at h;simp only[Qw];rw[iO y h]
theorem gN(k:Nat):∀n:Nat,cT k (List.replicate n (SV.pv .bot))
 |0=>trivial
 |n+1=>⟨trivial,gN k n⟩
def pV(byl:List (Int×List Int))(k x y:Int):Nat->List (Int×List Int)
 |0=>byl
 |1=>gp byl k x
 |_=>gp (gp byl k x) k y
set_option maxRecDepth 16000 in
theorem uO(h:List (List SV))(bw ba bt:Nat)(mp:List (Int×Nat))(mb:List (Int×By))(A:Ar)(T:Tr)(S:WS)(L:LayW h bw ba bt mp mb A T S)(k:Int)(p:Pr)(hp:lk S.prs k=some p)(hT:T.ok)(ag:T.lits.length<=1000000)(M:p.lits.length<=1000000)
 (hz:∀l zs,lk S.byl l=some zs->zs.length<=1000000):
 ay Tryz.prog 233 [.ptr bw 0,af k] h (λr h'=>r=.pv (BL (mf T p))∧∃mb',LayW h' bw ba bt mp mb' A (lH T k p) (jt S T k p)∧Ext h h' (aR bw bt mp mb) (aR bw bt mp mb')):=by
 refine cY [6,10,14] [.tmp 4] aD Tryz.func233 ?_;obtain⟨b,hb,q1,q2,q3,q4⟩:=L.some_p hp;have ae:=Hl h bw ba bt b ⟨mp,mb,S.late,S.head,S.seen⟩ T p.lits p.x p.y L.w L.t q1 hT M;obtain⟨w1,w2⟩:=P7.1 L.w;obtain⟨b1,b2⟩:=P7.1 q1;have aA:=uN T p.lits;unfold jt lH mf;generalize eD T p.lits=O at*;generalize lu T p.lits=Hd at*;simp[w1,w2,cB,hb,uM];refine ak.intro ae ?_;rintro _ h2 ⟨e,rfl⟩;rw[e];clear e h2;obtain⟨G,E⟩:∃G,G=h++[[SV.pv (BL Hd),SV.pv (PV.seq true 1 (ab O))]]:=⟨_,rfl⟩;have L0:LayW G bw ba bt mp mb A T S:=by rw[E];exact L.app _
 have E0:Ext h G (aR bw bt mp mb) (aR bw bt mp mb):=by rw[E];exact Ext.app _ _ _
 have ar:G[h.length]?=some [SV.pv (BL Hd),SV.pv (PV.seq true 1 (ab O))]:=by rw[E];simp
 have an:G[b]?=some (oY p):=by rw[E,Qd b1,q1]
 obtain⟨g1,g2⟩:=P7.1 L0.w;obtain⟨f1,f2⟩:=P7.1 ar;obtain⟨c1,c2⟩:=P7.1 an;have az:b≠h.length:=Uu b1;have aB:bw≠h.length:=Uu w1;rcases O with _|⟨f,_|⟨g,O'⟩⟩
 .simp;rw[←E];exact⟨mb,L0,E0⟩
 .simp;rw[←E];cases Hd
  .simp;have kI:=uo G bt T L0.t f k hT ag;refine bd.one Cv (by kernel_rfl) ?_;simp[Cv,g1,g2,cB,f1,f2];and_intros
   all_goals
    refine ak.intro kI ?_;rintro _ _ ⟨rfl,rfl⟩;simp;exact⟨mb,L0.setT _,E0.trans (Ext.set bt _ (.inr (.inl rfl)))⟩
  .simp;exact⟨mb,L0,E0⟩
 .have X:¬((O'.length:Int)+1+1=0):=by omega
  have J:(2:Int)<=(O'.length:Int)+1+1:=by omega
  have K:¬(O'.length+1+1=1):=by omega
  simp[X,J,K];rw[←E];have L1:=L0.setP hb ⟨p.lits,f,g⟩ (L0.keys.trans (iO _ hp).symm);have E1:Ext h (G.set b (oY ⟨p.lits,f,g⟩)) (aR bw bt mp mb) (aR bw bt mp mb):=E0.trans (Ext.set b _ (.inr (.inr (.inl ⟨k,hb⟩))));have V:b<(G.set b (oY ⟨p.lits,f,g⟩)).length:=by simpa using c1
  have aj:(G.set b (oY ⟨p.lits,f,g⟩))[b]'V=jg p.lits f g:=by simp[oY]
  refine bd.meet Hr ⟨[(0,.pv (.ptr bw 0)),(1,.pv (af k)),(5,.pv (.ptr b 0)),(6,.pv (.ptr h.length 0))],G.set b (oY ⟨p.lits,f,g⟩)⟩ (by kernel_rfl) ?_ ?_
  .simp[Hr,f1,f2,c1,c2,oY,jg];and_intros
   all_goals first|omega|exact ai.keep (by simp) rfl
  generalize G.set b (oY ⟨p.lits,f,g⟩)=G1 at*;simp[V,aj,jg];refine aH.intro (S:=λ(x:Nat×List (List SV)×List (Int×By))=>⟨[(0,.pv (.ptr bw 0)),(1,.pv (af k)),(43,.pv (.agg [af f,af g])),(44,.pv (af x.1))],x.2.1⟩)
   (λx=>x.1<=2∧LayW x.2.1 bw ba bt mp x.2.2 A T ⟨pt S.prs k ⟨p.lits,f,g⟩,pV S.byl k f g x.1,S.late,S.head,S.seen⟩∧Ext G1 x.2.1 (aR bw bt mp mb) (aR bw bt mp x.2.2)∧∀l zs,lk (pV S.byl k f g x.1) l=some zs->zs.length<=1000000+x.1)
   (λx=>2 -x.1) (0,G1,mb) ?_ ⟨Qq _,L1,Ext.refl _ _,hz⟩ ?_
  .exact ai.keep (by simp) rfl
  rintro⟨i,H,mb'⟩ ⟨hi,v,hE,D⟩;dsimp only at hi v hE D;obtain⟨N,v2⟩:=P7.1 v.w
  by_cases d:i<2
  .obtain⟨l,M⟩:∃l,l=if i=0 then f else g:=⟨_,rfl⟩;have W:[af f,af g][i]?=some (af l):=by
    have:i=0∨i=1:=by omega
    rcases this with rfl|rfl
    .rw[M];rfl
    .rw[M];rfl
   have F:∀hh:i<[af f,af g].length,[af f,af g][i]'hh=af l:=λhh=>(P7.1 W).2;have d':(i:Int)<2:=by omega
   have au:aX ((i:Int)+1)=((i+1:Nat):Int):=by rw[aq (by omega) (by omega)];omega
   have o:pV S.byl k f g (i+1)=gp (pV S.byl k f g i) k l:=by
    have:i=0∨i=1:=by omega
    rcases this with rfl|rfl
    .rw[M];rfl
    .rw[M];rfl
   simp[d,d',F];refine bd.blk [60] wA (λx:List (List SV)×List (Int×By)=>⟨[(0,.pv (.ptr bw 0)),(1,.pv (af k)),(43,.pv (.agg [af f,af g])),(44,.pv (af i))],x.1⟩)
    (λx=>LayW x.1 bw ba bt mp x.2 A T ⟨pt S.prs k ⟨p.lits,f,g⟩,pV S.byl k f g (i+1),S.late,S.head,S.seen⟩∧Ext H x.1 (aR bw bt mp mb') (aR bw bt mp x.2)) (by kernel_rfl) ?_ ?_
   .have hA:∀x,(H++[x])[bw]?=some (cB ba bt ⟨mp,mb',S.late,S.head,S.seen⟩):=λx=>by rw[Qd N];exact v.w
    have dom:∀e',(∀c,c<H.length->e'.b=c->∃l0 e0,lk mb' l0=some e0∧e0.b=c)->∀c,c<H.length->aR bw bt mp (pt mb' l e') c->aR bw bt mp mb' c:=λe' ao c s q=>by
     rcases q with q|q|q|⟨l',e2,q,q2⟩
     .exact .inl q
     .exact .inr (.inl q)
     .exact .inr (.inr (.inl q))
     .rw[bD]at q;split at q
      .cases q;exact .inr (.inr (.inr (ao c s q2)))
      .exact .inr (.inr (.inr ⟨l',e2,q,q2⟩))
    cases j:lk mb' l with
    |none=>
     have ah:=v.byn l j;have C:pV S.byl k f g (i+1)=pt (pV S.byl k f g i) l [k]:=by
      rw[o];unfold gp;rw[ah];rfl
     have LN:∀cap,1<=cap->LayW (H.set bw (cB ba bt ⟨mp,pt mb' l ⟨H.length,1,cap⟩,S.late,S.head,S.seen⟩)++[SV.pv (af k)::List.replicate (cap -1) (SV.pv .bot)]) bw ba bt mp (pt mb' l ⟨H.length,1,cap⟩) A T ⟨pt S.prs k ⟨p.lits,f,g⟩,pV S.byl k f g (i+1),S.late,S.head,S.seen⟩:=λcap s=>by
      have:=v.newB l [k] (List.replicate (cap -1) (SV.pv .bot)) (λm=>gN m _) 1 cap rfl s (by simp;omega);rw[C];rw[Su _ _ N]at this;exact this
     have EN:∀cap x y,Ext H (H.set bw x++[y]) (aR bw bt mp mb') (aR bw bt mp (pt mb' l ⟨H.length,1,cap⟩)):=λcap x y=>by
      refine(((Ext.set bw x (.inl rfl)).trans (Ext.app _ [y] _)).dom (dom _ λc s e=>?_));simp only at e;omega
     simp[wA,N,v2,cB,j,hA];and_intros
     all_goals
      intro cap s;exact⟨_,⟨pt mb' l ⟨H.length,1,cap⟩,LN cap s,EN cap _ _⟩,ai.keep (by simp) rfl⟩
    |some e=>
     obtain⟨zs,aa,⟨sp,e1,e2,e3,e4,e5⟩,e6,e7,e8⟩:=v.by' l e j
     obtain⟨u1,u2⟩:=P7.1 e1;have ad:¬bw=e.b:=λq=>e6 q.symm;have C:pV S.byl k f g (i+1)=pt (pV S.byl k f g i) l (zs++[k]):=by
      rw[o];unfold gp;rw[aa];rfl
     have I:(aL zs).length=e.n:=by rw[nX];exact e3
     have aC:e.n<=1000000+i:=by rw[←e3];exact D l zs aa
     have P:∀m (s0:List SV),cT m s0->cT m (s0.drop 1):=λm s0 Z=>by cases s0 with|nil=>exact Z|cons _ _=>exact Z.2
     have ax:(aL zs++sp).length=e.n+sp.length:=by rw[Qh,I]
     have B:(aL zs++sp).take e.n=aL zs:=R4 I;have U:(aL zs++sp).take e.n=(zs.map λz=>PV.lit (.int .i64 z)).map SV.pv:=by rw[B];unfold aL;rw[Ra];rfl
     have u:∀R:List SV,aL (zs++[k])++R=aL zs++SV.pv (af k)::R:=λR=>by unfold aL;rw[QT,QD];rfl
     have Q:(aL zs++sp).drop (e.n+1)=sp.drop 1:=by rw[←I,Ub];simp
     have LR:e.n+1<=e.cp->LayW ((H.set e.b (List.take e.n (aL zs++sp)++SV.pv (af k)::List.drop (e.n+1) (aL zs++sp))).set bw (cB ba bt ⟨mp,pt mb' l ⟨e.b,e.n+1,e.cp⟩,S.late,S.head,S.seen⟩)) bw ba bt mp (pt mb' l ⟨e.b,e.n+1,e.cp⟩) A T ⟨pt S.prs k ⟨p.lits,f,g⟩,pV S.byl k f g (i+1),S.late,S.head,S.seen⟩:=λhr=>by
      rw[B,Q,←u,C];exact v.setB j (zs++[k]) (sp.drop 1) (λm=>P m sp (e2 m)) (e.n+1) (by simp;omega) hr (by rw[QS];omega)
     have LG:∀a,e.n+1<=a->LayW (H.set bw (cB ba bt ⟨mp,pt mb' l ⟨H.length,e.n+1,a⟩,S.late,S.head,S.seen⟩)++[(zs.map λz=>PV.lit (.int .i64 z)).map SV.pv++SV.pv (af k)::List.replicate (a -(e.n+1)) (SV.pv .bot)]) bw ba bt mp (pt mb' l ⟨H.length,e.n+1,a⟩) A T ⟨pt S.prs k ⟨p.lits,f,g⟩,pV S.byl k f g (i+1),S.late,S.head,S.seen⟩:=λa s=>by
      have:=v.newB l (zs++[k]) (List.replicate (a -(e.n+1)) (SV.pv .bot)) (λm=>gN m _) (e.n+1) a (by simp;omega) s (by simp;omega);rw[C,←U,B];rw[Su _ _ N,u]at this;exact this
     have ER:∀x y,Ext H ((H.set e.b x).set bw y) (aR bw bt mp mb') (aR bw bt mp (pt mb' l ⟨e.b,e.n+1,e.cp⟩)):=λx y=>by
      refine(((Ext.set e.b x (.inr (.inr (.inr ⟨l,e,j,rfl⟩)))).trans (Ext.set bw y (.inl rfl))).dom (dom _ λc s q=>?_));exact⟨l,e,j,q⟩
     have EG:∀a x y,Ext H (H.set bw x++[y]) (aR bw bt mp mb') (aR bw bt mp (pt mb' l ⟨H.length,e.n+1,a⟩)):=λa x y=>by
      refine(((Ext.set bw x (.inl rfl)).trans (Ext.app _ [y] _)).dom (dom _ λc s q=>?_));simp only at q;omega
     clear B Q u;generalize hY:aL zs++sp=Y at*;simp[wA,N,v2,cB,j,EP,u1,u2,hA,e6,ad];and_intros
     all_goals first
      |omega
      |(refine⟨_,U,by simpa using e3,λhr=>⟨_,⟨_,LR hr,ER _ _⟩,ai.keep (by simp) rfl⟩,λhn a s=>⟨_,⟨_,LG a s,EG a _ _⟩,ai.keep (by simp) rfl⟩⟩)
   .rintro⟨H2,av⟩ ⟨LN,EN⟩;simp;refine⟨(i+1,H2,av),by(try dsimp only);omega,⟨by(try dsimp only);omega,LN,hE.trans EN,λl' aw q=>?_⟩,ai.keep (by simp[au]) rfl⟩;dsimp only at q⊢;rw[o]at q;unfold gp at q;rw[bD]at q;split at q
    .cases q
     rw[Qh,Ri];cases hq:lk (pV S.byl k f g i) l with
     |none=>simp only[Option.getD_none,List.length_nil];omega
     |some z0=>have:=D l z0 hq;simp only[QF];omega
    .have:=D l' aw q;omega
  .have:i=2:=by omega
   subst this;simp[N,v2,cB];exact⟨mb',v.setW (dl S.late k) S.head S.seen,(E1.trans hE).trans (Ext.set bw _ (.inl rfl))⟩
end Go.AX