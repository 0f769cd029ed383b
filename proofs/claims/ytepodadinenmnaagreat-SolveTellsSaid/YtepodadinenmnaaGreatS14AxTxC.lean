/-
  The library: a map's keys, sorted, whatever its values; a slice's values, sorted; and what follows.
-/
import Derived.Test.YtepodadinenmnaaGreatS14AxEvG
import Derived.Test.YtepodadinenmnaaGreatS14AxTmL
import Derived.Test.YtepodadinenmnaaGreatS14AxTmQ
import Derived.Test.YtepodadinenmnaaGreatAxR
import Derived.Test.YtepodadinenmnaaGreatAxOw
set_option linter.unusedSimpArgs false
namespace Go.AX
open Go.Proofs Go.Maps Go.Shelf
def Jc(_:Value):Option (DataW Unit×List MemPlace):=some (.lit (.int .i64 0),[])
def k0(ks:List Int):List (Int×Int):=ks.map λx=>(x,0)
def cD(l:List Int):List Int:=l.mergeSort λx y=>decide (x<=y)
theorem v7{β:Type}{f:β->PV}{G:Gh}:∀{a:List (Int×β)}{en:List MapEntry},bD G (aZ f a) en->en.map (·.key)=(a.map (·.1)).map λx=>.int .i64 x
 |[],en,h=>by
  have:en=[]:=h;rw[this];rfl
 |q::a,en,⟨m,r,h1,b,d,c⟩=>by
  subst h1;rw[Tn,Tn,Tn,v7 c,b]
section
variable {P : Program} {k : TypeId}
theorem Jd(hk:P.underlying k=some (.int .i64)):∀{en:List MapEntry}{ks:List Int},en.map (·.key)=ks.map (λx=>.int .i64 x)->(∀x∈ks,GZ x)->
 en.map (WideElems.rg P k Jc)=OI (k0 ks)∧∀m∈en,∃y,WideElems.rd P k Jc m=some y
 |[],ks,h,_=>by
  cases ks with
  |nil=>exact⟨rfl,λm e=>by cases e⟩
  |cons _ _=>cases h
 |m::en,ks,h,c=>by
  cases ks with
  |nil=>cases h
  |cons q ks=>
   rw[Tn,Tn]at h;injection h with h1 d;obtain⟨g,i⟩:=Jd hk d (λq f=>c q (Tl _ f));have b:WideElems.rd P k Jc m=some (.int .i64 q,.lit (.int .i64 0)):=by
    unfold WideElems.rd;rw[h1,keyOf_int_mk hk (c q To)];simp[Jc]
   refine⟨?_,λj a=>?_⟩
   .rw[Tn,g,WideElems.rg_of b];rfl
   .rcases Tx.1 a with rfl|a
    .exact⟨_,b⟩
    .exact i j a
theorem Je{β:Type}{f:β->PV}(hk:P.underlying k=some (.int .i64)){w:World}{c:Nat}{en:Array MapEntry}{ck:Nat}{G:Gh}{a:List (Int×β)}(e:w.heap[c]?=some (.map en ck))(g:bD G (aZ f a) en.toList)(b:MapKept.Stamped en ck)
 (i:∀q∈a,GZ q.1) (m:a.length<=maxLen):w.ownsMap P k Jc c a.length (Lp (k0 (a.map (·.1)))):=by
 have d:=v7 g;have hn:en.size=a.length:=by
  have:=Vm List.length d;simpa using this
 obtain ⟨j, l⟩ := Jd hk d (λ x hx => by
  rw[S8]at hx;obtain⟨q,h,rfl⟩:=hx;exact i q h)
 exact⟨en,ck,e,⟨by omega,b,l⟩,by omega,by unfold Lp;rw[j]⟩
end
theorem Me(ks:List Int):(k0 ks).map (·.1)=ks:=by
 unfold k0;rw[TX];exact XV ks
theorem Sq:bM Tryz.prog (Tryz.sortedA_ren.t 24)=some (1,8):=by kernel_rfl
theorem xR{β:Type}(f:β->PV)(j:Nat)(a:List (Int×β))(Z:∀q∈a,GZ q.1)(J:a.length<=1000000)(A:∀args w,(callFunc j args).run Tryz.prog w=.ok (.enter j args) w)
 (l:∀{H:Type}(d b nn:Nat)(z:DataW H){R:Value->Option (DataW H×List MemPlace)}(w:World),d<w.heap.size->w.cell? ⟨d,0,none⟩=some (.map (some b))->w.ownsMap Tryz.prog (Tryz.sortedA_ren.t 26) R b nn z->SeqGives Fence.wide 2 Tryz.prog j #[.pointer (some ⟨d,0,none⟩)] encZ (λss=>ss.Perm (intKeys z)) (Maps.size z) w):
 N6 Tryz.prog 141 j (.amap false (aZ f a)) (.own true 1 ((cD (a.map (·.1))).map λx=>[ab x])):=by
 refine⟨by kernel_rfl,λw d arr T v0 h1 L M=>?_⟩;have i:w.cell? ⟨d,0,none⟩=some v0:=by
  have:arr[0]?=some v0:=by rw[←S4,L];rfl
  simp[World.cell?,h1,this]
 have D:=(Td.1 h1).1;have y:∀(S:List Int->Prop)(N:Nat),N<=1000000->(∀ss,S ss->ss.length<=N)->(∀ss,S ss->cD ss=cD (a.map (·.1)))->SeqGives Fence.wide 2 Tryz.prog j #[.pointer (some ⟨d,0,none⟩)] encZ S N w->
  Calls Tryz.prog 141 #[.func (.func j) #[] #[.pointer (some ⟨d,0,none⟩)]] w λe w'=>∃v g' o,e=.returned v∧PureEnd w w' g'∧az g' w' (.own true 1 ((cD (a.map (·.1))).map λx=>[ab x])) v o∧(SV.own true 1 ((cD (a.map (·.1))).map λx=>[ab x])).inCell=true∧∀c,o=some c->w.heap.size<=c∧g'.I c=none:=by
  intro S N hN E F s;have K:=Lq Tryz.sortedA Sq Fence.wide 5 trivial trivial trivial trivial rfl (by omega) (Tryz.sortsA _) (enters_of Tryz.func171 (by kernel_rfl) rfl) j #[.pointer (some ⟨d,0,none⟩)] trivial A S N (by unfold maxLen;omega) (by omega) w (jR.of s) E;refine((callsIn_wide (n:=5)).1 K).mono λe w' ⟨v,ss,X,V,g,m,Y,W⟩=>?_;have G:=F ss V;have J:ss.length=(cD (a.map (·.1))).length:=by rw[←G];unfold cD;rw[Ur]
  unfold cD at G;rw[G]at g;obtain⟨g',o,B,C,Q,U⟩:=Jb J g m W;exact⟨v,g',o,X,B,C,Q,U⟩
 obtain⟨c,en,ck,rfl,O,_,B,C⟩:=M
 .have p:=Je (P:=Tryz.prog) (k:=Tryz.sortedA_ren.t 26) (by kernel_rfl) O B C Z (by unfold maxLen;omega);have u:Maps.size (Lp (k0 (a.map (·.1))))=a.length:=by rw[Id];unfold k0;rw[S7,S7]
  have r:∀ss:List Int,ss.Perm (intKeys (Lp (k0 (a.map (·.1)))))->ss.Perm (a.map (·.1)):=λss h=>by
   have:=h.trans (Ic _)
   rwa [Me]at this
  refine y _ _ (by rw[u];omega) (λss h=>?_) (λss h=>?_) (l d c a.length (Lp (k0 (a.map (·.1)))) w D i p)
  .rw[(r ss h).length_eq,S7,u];exact SY _
  .exact mergeSort_of_perm_i (r ss h)
theorem Cy{β:Type}(f:β->PV)(a:List (Int×β))(i:∀q∈a,GZ q.1)(h:a.length<=1000000):
 N6 Tryz.prog 141 229 (.amap false (aZ f a)) (.own true 1 ((cD (a.map (·.1))).map λx=>[ab x])):=
 xR f _ a i h (enters_of Tryz.func229 (by kernel_rfl) rfl)
  (λ{_} c b j d {_} w h1 e g=>AnyZI.keys_gives (ρ:=Tryz.keysA_ren) {Tryz.keysA with} Fence.wide 2 trivial rfl (by omega) c b j d w h1 e g)
end Go.AX
namespace Go.AX
open Go.Proofs
def N7(l:List Int)(x:Int):Nat:=l.countP λy=>decide (y<x)
theorem N8{l:List Int}{x:Int}{i:Nat}(hi:i<=l.length)(h1:∀k (_:k<l.length),k<i->l[k]<x)(c:∀k (_:k<l.length),i<=k->x<=l[k]):N7 l x=i:=by
 unfold N7;rw[←T7 i l,List.countP_append];have a:(l.take i).countP (λy=>decide (y<x))=(l.take i).length:=XC.2 λy hy=>by
  obtain⟨k,hk,rfl⟩:=Tc hy;rw[S6]at hk;rw[Uh];exact Uv (h1 k (by omega) (by omega))
 have b:(l.drop i).countP (λy=>decide (y<x))=0:=Xc.2 λy hy=>by
  obtain⟨k,hk,rfl⟩:=Tc hy;rw[TN]at hk;rw[List.getElem_drop];have:=c (i+k) (by omega) (by omega);simp;omega
 rw[a,b,S6];omega
def O3(l:List Int)(x:Int):Bool:=decide (l[N7 l x]?=some x)
def Mf(c:Ck):List Int:=cD (c.m.map (·.1))
def dl{α:Type}:List (Int×α)->Int->List (Int×α)
 |[],_=>[]
 |(k,x)::r,n=>if k=n then r else(k,x)::dl r n
def dropB(c:Ck)(ids:List Int):Bool:=decide ((cJ (cD ids)).length<ids.length)||!jK c ids
def tN(c:Ck)(ids:List Int)(i:Nat):Ck:=⟨(ids.take i).foldl dl c.m,c.last,c.done⟩
def tO(c:Ck)(ids:List Int):Ck:=if dropB c ids=true then c else tN c ids ids.length
def v8(c:Ck)(ids:List Int):Int:=if dropB c ids=true then 20 else 0
def Jg(c:Ck)(a:List (Int×List (List Int)))(g:List Int):List (Int×List (List Int)):=
 if O3 (Mf c) (aX (-(g.headD 0)))=true then pt a (N7 (Mf c) (aX (-(g.headD 0)))) (bZ c g.tail)else a
def fS(l:List (List Int)):PV:=.seq false 1 (l.map aq)
@[simp] theorem Mg(r:Nat->Nat->PV):∀l:List (Int×List (List Int)),sF r (aZ fS l)=aZ fS l
 |[]=>rfl
 |x::l=>by
  have:=Mg r l;show(x.1,la r (fS x.2))::sF r (aZ fS l)=(x.1,fS x.2)::aZ fS l;rw[this];simp[fS]
def xS(cs:List (List Int))(c l:List Int)(a:List (Int×List (List Int)))(i:Int):Bool:=
 match lk a i with
 |none=>false
 |some h=>decide (Cx l (cs.getD i.toNat []) (c.headD 0) h=0)
theorem zX:∀(hs:List (List Int))(l:List Int)(n:Nat),(eV l hs n).1.length<=l.length+hs.length
 |[],l,n=>by simp[eV]
 |h::hs,l,n=>by
  rw[eV];split
  .simp
  .split
   .have:=zX hs (l++[(cY l h).1]) (n+1);simp at this⊢;omega
   .simp
theorem tP(cs:List (List Int))(p:Int):∀n x,x∈lJ cs p n->∃k:Nat,k<n∧x=(k:Int)
 |0,x,h=>by cases h
 |n+1,x,h=>by
  rw[lJ]at h;split at h
  .rcases Te.1 h with h|h
   .obtain⟨k,h1,a⟩:=tP cs p n x h;exact⟨k,by omega,a⟩
   .rw[TA]at h;exact⟨n,by omega,h⟩
  .obtain⟨k,h1,a⟩:=tP cs p n x h;exact⟨k,by omega,a⟩
def wb(f:Int->Bool):List Int->Nat->Int×Int
 |[],n=>(n,0)
 |i::l,n=>if f i=false then(i,24)else wb f l n
def xT(cs:List (List Int))(c:List Int)(ahead:List (List Int))(a:List (Int×List (List Int))):Int×Int:=
 if mf c≠0 then(-1,mf c)else if c=[]then(-1,11)else if(eV (gm c) ahead 0).2.2≠23 then(-1,(eV (gm c) ahead 0).2.2)
 else wb (xS cs c (eV (gm c) ahead 0).1 a) (lJ cs (c.headD 0) cs.length) (lJ cs (c.headD 0) cs.length).length
theorem tQ(l:List Int):(cD l).Pairwise (·<=·):=by
 have:=V3 (le:=λx y:Int=>decide (x<=y)) (λa b c h1 d=>by simp at*;omega) (λa b=>by simp;omega) l;exact this.imp (λh=>by simpa using h)
def Jh(c:Ck)(a:List (List Int)):List (Int×List (List Int)):=a.foldl (Jg c) []
def xU(c:Ck)(lits hints:List Int):Int:=
 if(rJ lits (bZ c (kb hints).1)).2≠23∨lits=[]then(rJ lits (bZ c (kb hints).1)).2
 else if(xT (bZ c (Mf c)) lits (bZ c (kb hints).1) (Jh c (kb hints).2)).2≠0 then 24 else 0
structure CkOk (c:Ck):Prop where
  n:c.m.length<=100000
  w:∀q∈c.m,GZ q.1
  l:∀q∈c.m,q.2.length<=100000
theorem Nh{α:Type}:∀{l:List (Int×α)}{k:Int}{x:α},lk l k=some x->(k,x)∈l
 |(j,y)::l,k,x,h=>by
  rw[lk]at h;split at h
  .rename_i e;subst e;injection h with h;subst h;exact To
  .exact Tl _ (Nh h)
theorem tR{c:Ck}(h:CkOk c)(ids:List Int):(bZ c ids).length=ids.length∧∀x∈bZ c ids,x.length<=100000:=by
 refine⟨by unfold bZ;simp,λx hx=>?_⟩;unfold bZ at hx;rw[S8]at hx;obtain⟨id,_,rfl⟩:=hx;cases e:lk c.m id with
 |none=>simp
 |some y=>exact h.l _ (Nh e)
theorem Mh{x:List Int×List (List Int)}{h:Int}(hx:∀g∈x.2,g≠[]):∀g∈(qD x h).2,g≠[]:=by
 intro g a;unfold qD at a;split at a
 .rcases Te.1 a with a|a
  .exact hx g a
  .rw[TA]at a;subst a;simp
 .split at a
  .exact hx g a
  .rcases Te.1 a with a|a
   .exact hx g (XF _ a)
   .rw[TA]at a;subst a;simp
theorem zY(hs:List Int):∀i,i<=hs.length->∀g∈(eJ hs i).2,g≠[]
 |0,_=>λg a=>by simp[eJ]at a
 |i+1,h=>by
  rw[gE hs (by omega)];exact Mh (zY hs i (by omega))
theorem ah.frzC{k0:Nat}{st:St}{b k e:Nat}{nw:Bool}{rows:List (List PV)}(h:aa st (.cell b k)=.own nw e rows):ah k0 st (setPos st (.cell b k) (.pv (.seq nw e rows))):=λg a w _ hs=>by
 obtain⟨g',t,_,_,_,s,_⟩:=hs.freeze (p:=.cell b k) (by rw[h];rfl);rw[h]at s;exact⟨g',t,s⟩
def Ji(c:Ck)(s:Stp):Ck×Int:=
 if s.id<=c.last then(c,21)else if eY s.lits=true then(c,11)else if jK c s.hints=false then(c,20)
 else if xU c s.lits s.hints≠0 then(c,xU c s.lits s.hints)else(qE c s.id s.lits,0)
def dY(c:Ck)(s:Stp):Ck×Int:=
 if zV [s]≠0 then(c,zV [s])else if s.kind=2 then(tO c s.hints,v8 c s.hints)else Ji c s
def xV(c:Ck)(l:List Int):Ck:=qE c (aX (c.last+1)) l
def dM(L:List (List Int))(i:Nat):Ck:=(L.take i).foldl xV ⟨[],0,false⟩
def lK(L:List (List Int)):Ck:=dM L L.length
def tU:Ck->List Stp->Nat->Int×Int
 |c,[],i=>if c.done=true then((i:Int),0)else((i:Int),25)
 |c,s::ss,i=>if(dY c s).2≠0 then((i:Int),(dY c s).2)else tU (dY c s).1 ss (i+1)
def Mi(v:Int)(L:List (List Int))(ss:List Stp):Int×Int:=if(cH v L).2≠0 then(-1,(cH v L).2)else tU (lK L) ss 0
theorem QW{α:Type}(l:List (Int×α))(k:Int)(y:α):(pt l k y).length<=l.length+1:=by
 rw[B9];split<;>omega
theorem Cz{α:Type}{p:Int×α->Prop}:∀{l:List (Int×α)}{k:Int}{y:α},(∀q∈l,p q)->p (k,y)->∀q∈pt l k y,p q
 |[],k,y,_,b,q,a=>by
  rw[pt]at a;rw[TA]at a;subst a;exact b
 |(j,x)::l,k,y,h1,b,q,a=>by
  rw[pt]at a;split at a
  .rename_i e;rcases Tx.1 a with rfl|a
   .exact e▸b
   .exact h1 q (Tl _ a)
  .rcases Tx.1 a with rfl|a
   .exact h1 _ To
   .exact Cz (λq a=>h1 q (Tl _ a)) b q a
theorem Jj{α:Type}:∀(l:List (Int×α))(k:Int),∀q∈dl l k,q∈l
 |[],k,q,h=>h
 |(j,x)::l,k,q,h=>by
  rw[dl]at h;split at h
  .exact Tl _ h
  .rcases Tx.1 h with rfl|h
   .exact To
   .exact Tl _ (Jj l k q h)
theorem Jk{α:Type}:∀(l:List (Int×α))(k:Int),(dl l k).length<=l.length
 |[],k=>SY _
 |(j,x)::l,k=>by
  rw[dl];split
  .simp
  .have:=Jk l k;simp;omega
structure CkN (n:Nat) (c:Ck):Prop where
  n:c.m.length<=n
  w:∀q∈c.m,GZ q.1
  l:∀q∈c.m,q.2.length<=100000
  t:0<=c.last∧c.last<=20000000
theorem CkN.ok{n:Nat}{c:Ck}(h:CkN n c)(hn:n<=100000):CkOk c:=⟨TD h.n hn,h.w,h.l⟩
theorem xW{x:Int}(h1:0<=x)(c:x<=20000000):GZ x:=by
 unfold GZ;have a:IntKind.i64.min=-9223372036854775808:=by decide
 have b:IntKind.i64.max=9223372036854775807:=by decide
 simp only[Lit.wf,a,b,S9,Th];omega
theorem CkN.put{n:Nat}{c:Ck}(h:CkN n c){id:Int}{l:List Int}(nh:0<=id∧id<=20000000)(a:l.length<=100000):CkN (n+1) (qE c id l):=
 ⟨TD (QW _ _ _) (Nat.succ_le_succ h.n),Cz h.w (xW nh.1 nh.2),Cz h.l a,nh⟩
theorem tV{p:Int×List Int->Prop}:∀(ids:List Int)(m:List (Int×List Int)),(∀q∈m,p q)->(∀q∈ids.foldl dl m,p q)∧(ids.foldl dl m).length<=m.length
 |[],m,h=>⟨h,SY _⟩
 |id::ids,m,h=>by
  obtain⟨h1,a⟩:=tV ids (dl m id) (λq b=>h q (Jj m id q b));exact⟨h1,TD a (Jk _ _)⟩
theorem CkN.drop{n:Nat}{c:Ck}(h:CkN n c)(ids:List Int):CkN n (tO c ids):=by
 unfold tO;split
 .exact h
 .unfold tN;obtain⟨h1,a⟩:=tV (p:=λq=>GZ q.1) (ids.take ids.length) c.m h.w;obtain⟨b,_⟩:=tV (p:=λq=>q.2.length<=100000) (ids.take ids.length) c.m h.l;exact⟨TD a h.n,h1,b,h.t⟩
theorem mS(s:Stp):zV [s]=if fQ s=true then 0 else 2:=by
 unfold zV iP;cases a:fQ s
 .simp[List.findIdx?_cons,a]
 .simp[List.findIdx?_cons,a]
theorem se{s:Stp}(h:fQ s=true):(s.kind=1∨s.kind=2)∧0<=s.id∧s.id<=10000000:=by
 unfold fQ at h;split at h
 .simp only[S9,Th]at h;exact⟨.inl (by assumption),by omega,by omega⟩
 .split at h
  .simp only[S9,Th]at h;exact⟨.inr (by assumption),by omega,by omega⟩
  .cases h
def Ni:List (List Int)->Nat->Option Int
 |[],_=>none
 |c::L,i=>if c=[]then some ((i+1:Nat):Int)else Ni L (i+1)
def Nj:List Stp->Int
 |[]=>0
 |s::ss=>if s.kind=1∧s.lits=[]then s.id else Nj ss
def N9(L:List (List Int))(ss:List Stp):Int:=(Ni L 0).getD (Nj ss)
def Sr(m:List (Int×Int))(k:Int):List (Int×Int):=pt m k (aX ((lk m k).getD 0+1))
def Ss(m:List (Int×Int))(s:Stp):List (Int×Int):=if s.kind=1∧0<(lk m s.id).getD 0 then s.hints.foldl Sr m else m
def QX(m:List (Int×Int)):List Stp->List (Int×Int)
 |[]=>m
 |s::ss=>Ss (QX m ss) s
def Oa(L:List (List Int))(ss:List Stp):List (Int×Int):=QX [(N9 L ss,1)] ss
end Go.AX
namespace Go.AX
set_option maxRecDepth 16000
open Go.Proofs
def dE(q:Int×List Int):List PV:=[ab q.1,.seq false 1 (ae q.2)]
abbrev rK(nw:Bool)(c:Ck):PV:=.agg [.seq nw 2 (c.m.map dE),ab c.last,BL c.done]
@[simp] theorem Nk(k:Nat)(l:List (Int×List Int)):bI k (l.map dE):=by
 induction l with
 |nil=>trivial
 |cons x xs a=>exact⟨⟨trivial,aU k _,trivial⟩,a⟩
@[simp] theorem O4(r:Nat->Nat->PV)(l:List (Int×List Int)):jN r (l.map dE)=l.map dE:=by
 rw[bP,TX];apply UW;intro x _;simp[dE]
theorem tW{α:Type}{l:List (Int×α)}{id:Int}:∀{i:Nat},i<=l.length->(∀k (_:k<l.length),k<i->l[k].1≠id)->lk l id=lk (l.drop i) id
 |0,_,_=>rfl
 |i+1,h,ho=>by
  rw[tW (i:=i) (by omega) (λk h1 a=>ho k h1 (by omega)),TG (show i<l.length by omega)];have:=ho i (by omega) (by omega);rw[show l[i]=(l[i].1,l[i].2)from rfl,lk,SU this]
theorem Jl{α:Type}{l:List (Int×α)}{id:Int}{i:Nat}(h:i<l.length)(ho:∀k (_:k<l.length),k<i->l[k].1≠id)(a:l[i].1=id):lk l id=some l[i].2:=by
 rw[tW (XQ h) ho,TG h,show l[i]=(l[i].1,l[i].2)from rfl,lk,SX a]
theorem Jm{α:Type}{l:List (Int×α)}{id:Int}(ho:∀k (_:k<l.length),l[k].1≠id):lk l id=none:=by
 rw[tW (SY _) (λk h _=>ho k h),Tq (SY _)];rfl
theorem tX(g:List (List SV))(c:Ck)(id:Int)(w:c.m.length<=100000):aA Tryz.prog 257 [rK false c,ab id] g (λr g'=>g'=g∧r=.pv (.tup [.seq false 1 (ae ((lk c.m id).getD [])),BL (lk c.m id).isSome])):=by
 refine aA.below (by kernel_rfl) λv=>?_;refine d7 [] [.tmp 4,.tmp 5] aD Tryz.func257 ?_;obtain⟨G,j⟩:∃G:List (List SV),G=g++[[.pv (.seq false 2 (c.m.map dE)),.pv (ab c.last),.pv (BL c.done)]]:=⟨_,rfl⟩;have a:g.length<G.length:=by rw[j];simp
 have b:G[g.length]=[.pv (.seq false 2 (c.m.map dE)),.pv (ab c.last),.pv (BL c.done)]:=by simp[j]
 have f:G.take g.length=g:=by rw[j];simp
 have n:∀x:Option (List Int),lk c.m id=x->(lk c.m id).getD []=x.getD []∧(lk c.m id).isSome=x.isSome:=λx h=>by rw[h];exact⟨rfl,rfl⟩
 generalize(lk c.m id).getD []=s at*;generalize(lk c.m id).isSome=t at*;simp;rw[←j];refine ax.intro (S:=λ(i:Nat)=>⟨[(1,.pv (ab id)),(2,.pv (.ptr g.length 0)),(6,.pv (ab i))],G⟩) (λi=>i<=c.m.length∧∀k (_:k<c.m.length),k<i->c.m[k].1≠id) (λi=>c.m.length -i) 0 ?_ ⟨Tf _,λk _ h=>by omega⟩ ?_
 .exact ah.keep (by simp) rfl
 rintro i ⟨hi,ho⟩
 by_cases d:i<c.m.length
 .have q:=dv i;have o:c.m[i]?=some c.m[i]:=SR d
  by_cases e:c.m[i].1=id
  .obtain⟨rfl,rfl⟩:=n _ (Jl d ho e);simp[d,a,b,o,dE,e,bB,bc]
   try exact f
  .simp[d,a,b,o,dE,e];refine⟨i+1,by(try dsimp only);omega,⟨by(try dsimp only);omega,λk h1 u=>?_⟩,ah.keep (by simp[q]) (by simp)⟩
   by_cases p:k=i
   .subst p;exact e
   .exact ho k h1 (by omega)
 .have l:i=c.m.length:=by omega
  subst l;obtain⟨rfl,rfl⟩:=n _ (Jm (λk h=>ho k h h));simp[a,b,bB,bc,ae]
  try exact f
def dx(c:Ck):List Int:=c.m.map (·.1)
theorem Mj(c:Ck)(o:c.m.length<=100000):aj Tryz.prog 262 [rK false c] (λr=>r=.own true 1 (ae (dx c))):=by
 refine ap aD Tryz.func262 ?_;obtain⟨Q,a⟩:∃Q:Nat->List (List PV),∀i,Q i=ae ((c.m.take i).map (·.1)):=⟨_,λ_=>rfl⟩;have b:Q 0=[]:=by rw[a];rfl
 have e:Q c.m.length=ae (dx c):=by rw[a,Tw];rfl
 have g:∀i (h:i<c.m.length),Q (i+1)=Q i++[[ab c.m[i].1]]:=λi h=>by
  rw[a,a,TW,SR h,Tu];unfold ae;rw[Tu];rfl
 have f:∀i,(Q i).length<=c.m.length:=λi=>by rw[a];simp[ae];omega
 simp;refine ax.intro (S:=λ(i:Nat)=>⟨[(1,.pv (.ptr 0 0)),(3,.own true 1 (Q i)),(4,.pv (ab i))],[[.pv (.seq false 2 (c.m.map dE)),.pv (ab c.last),.pv (BL c.done)]]⟩) (λi=>i<=c.m.length) (λi=>c.m.length -i) 0 ?_ (Tf _) ?_
 .exact(ah.nilOwn (s:=3) 1 true (by simp)).trans (ah.keep (by simp[b]) (by simp))
 intro i hi;have l:=f i
 by_cases d:i<c.m.length
 .have n:=dv i;have k:c.m[i]?=some c.m[i]:=SR d;have j:=g i d;simp[d,k,dE];exact⟨by omega,i+1,by(try dsimp only);omega,by(try dsimp only);omega,ah.keep (by simp[n,j]) (by simp[dE])⟩
 .have:i=c.m.length:=by omega
  subst this;simp[e]
theorem Jn(n:Int):aj Tryz.prog 258 [ab n] (λr=>r=.pv (ab (if n<0 then aX (-n)else n))):=by
 refine ap aD Tryz.func258 ?_
 by_cases c:n<0
 .simp[c]
 .simp[c]
end Go.AX
namespace Go.AX
set_option maxRecDepth 16000
open Go.Proofs
def qI(n:Int):Int:=if n<0 then aX (-n)else n
def mT(c:Ck)(ids:List Int):Bool:=ids.all λid=>(lk c.m (qI id)).isSome
def xX:Sch:=
 let a:Sch:=.fork [(6,.take 7 (.take 8 (.take 9 (.take 10 (.take 11 .done)))))]
 let b:Sch:=.fork [(5,a)]
 let c:Sch:=.fork [(4,b)]
 let d:Sch:=.fork [(0,a)]
 let e:Sch:=.fork [(0,b),(5,d)]
 let f:Sch:=.fork [(0,c),(4,e)]
 .take 1 (.take 2 (.take 3 f))
theorem Gi(c:Ck)(ids:List Int)(u:c.m.length<=100000)(hi:ids.length<=1000000):aj Tryz.prog 198 [rK false c,.seq false 1 (ae ids)] (λr=>r=.pv (BL (mT c ids))):=by
 refine r8 [4] aD Tryz.func198 ?_;have l:mT c ids=ids.all λid=>(lk c.m (qI id)).isSome:=rfl;generalize mT c ids=T at*;simp;refine ax.intro (S:=λ(i:Nat)=>⟨[(1,.pv (.seq false 1 (ae ids))),(2,.pv (.ptr 0 0)),(5,.pv (ab i))],[[.pv (.seq false 2 (c.m.map dE)),.pv (ab c.last),.pv (BL c.done)]]⟩) (λi=>i<=ids.length∧∀k (_:k<ids.length),k<i->(lk c.m (qI ids[k])).isSome=true) (λi=>ids.length -i) 0 ?_ ⟨Tf _,λk _ h=>by omega⟩ ?_
 .exact ah.keep (by simp) (by simp)
 rintro i ⟨t,ho⟩
 by_cases d:i<ids.length
 .have v:=dv i;have a:ids[i]?=some ids[i]:=SR d;have f:=(tX [] c (qI ids[i]) u).mono (R':=λr _=>r=.pv (.tup [.seq false 1 (ae ((lk c.m (qI ids[i])).getD [])),BL (lk c.m (qI ids[i])).isSome])) λ_ _ h=>h.2;have s:=Jn ids[i];have b:aj Tryz.prog 258 [ab ids[i]] (λr=>r=.pv (ab (qI ids[i]))):=s;generalize o:(lk c.m (qI ids[i])).getD []=w at*;cases e:(lk c.m (qI ids[i])).isSome
  .have g:T=false:=by
    rw[l,List.all_eq_false];exact⟨ids[i],S5 d,by rw[e];simp⟩
   rw[e]at f;subst g;simp[d,a];refine aT.one xX (by kernel_rfl) ?_;simp[xX,d,a];refine⟨?_,?_,?_⟩
   all_goals
    refine ai.intro b ?_;simp[d,a];refine ai.introX (bE.pureM (p:=[]) (q:=[]) (zs:=[rK false c,ab (qI ids[i])]) f (by simp) rfl (by simp[fw]) (by simp) (by simp) ?_);simp
  .rw[e]at f;simp[d,a];refine aT.one xX (by kernel_rfl) ?_;simp[xX,d,a];refine⟨?_,?_,?_⟩
   all_goals
    refine ai.intro b ?_;simp[d,a];refine ai.introX (bE.pureM (p:=[]) (q:=[]) (zs:=[rK false c,ab (qI ids[i])]) f (by simp) rfl (by simp[fw]) (by simp) (by simp) ?_);simp;refine⟨i+1,by(try dsimp only);omega,⟨by(try dsimp only);omega,λk h1 y=>?_⟩,ah.keep (by simp[v]) (by simp)⟩
    by_cases n:k=i
    .subst n;exact e
    .exact ho k h1 (by omega)
 .have:i=ids.length:=by omega
  subst this;have j:T=true:=by
   rw[l,TE];intro x hx;obtain⟨k,hk,rfl⟩:=Tc hx;exact ho k hk hk
  subst j;simp
def qJ:Sch:=
 let a:Sch:=.fork [(5,.take 6 (.take 7 (.take 8 (.take 9 (.take 10 .done)))))]
 let b:Sch:=.fork [(4,a)]
 let c:Sch:=.fork [(0,a)]
 let d:Sch:=.fork [(0,b),(4,c)]
 .take 1 (.take 2 (.take 3 d))
theorem tY(g:List (List SV))(c:Ck)(ids:List Int)(y:c.m.length<=100000)(hi:ids.length<=1000000):aA Tryz.prog 261 [rK false c,.seq false 1 (ae ids)] g (λr g'=>g'=g∧r=.pv (.seq true 1 ((bZ c ids).map aq))):=by
 refine aA.below (by kernel_rfl) λC=>?_;refine d7 [5] [.tmp 4] aD Tryz.func261 ?_;obtain⟨G,j⟩:∃G:List (List SV),G=g++[[.pv (.seq false 2 (c.m.map dE)),.pv (ab c.last),.pv (BL c.done)]]:=⟨_,rfl⟩;have a:g.length<G.length:=by rw[j];simp
 have b:G[g.length]=[.pv (.seq false 2 (c.m.map dE)),.pv (ab c.last),.pv (BL c.done)]:=by simp[j]
 have k:G.take g.length=g:=by rw[j];simp
 obtain⟨Q,f⟩:∃Q:Nat->List (List PV),∀i,Q i=(bZ c (ids.take i)).map aq:=⟨_,λ_=>rfl⟩;have l:Q 0=[]:=by rw[f];rfl
 have n:Q ids.length=(bZ c ids).map aq:=by rw[f,Tw]
 have t:∀i (h:i<ids.length),Q (i+1)=Q i++[[.seq false 1 (ae ((lk c.m ids[i]).getD []))]]:=λi h=>by
  rw[f,f,TW,SR h];unfold bZ;rw[Tu,Tu];rfl
 have o:∀i,(Q i).length<=ids.length:=λi=>by rw[f];simp[bZ];omega
 simp;rw[←j];refine ax.intro (S:=λ(i:Nat)=>⟨[(1,.pv (.seq false 1 (ae ids))),(2,.pv (.ptr g.length 0)),(5,.own true 1 (Q i)),(6,.pv (ab i))],G⟩) (λi=>i<=ids.length) (λi=>ids.length -i) 0 ?_ (Tf _) ?_
 .exact(ah.nilOwn (s:=5) 1 true (by simp)).trans (ah.keep (by simp[l]) (by simp))
 intro i x;have z:=o i
 by_cases d:i<ids.length
 .have A:=dv i;have v:ids[i]?=some ids[i]:=SR d;have u:=t i d;have w:=(tX [] c ids[i] y).mono (R':=λr _=>r=.pv (.tup [.seq false 1 (ae ((lk c.m ids[i]).getD [])),BL (lk c.m ids[i]).isSome])) λ_ _ h=>h.2;generalize(lk c.m ids[i]).getD []=B at*;generalize(lk c.m ids[i]).isSome=e at*;simp[d,v,a,b];refine aT.one qJ (by kernel_rfl) ?_;simp[qJ,d,v,a,b];refine⟨?_,?_⟩
  all_goals
   refine ai.introX (bE.pureM (p:=[]) (q:=[]) (zs:=[rK false c,ab ids[i]]) w (by simp) rfl (by simp[fw]) (by simp) (by simp) ?_);simp;refine⟨by omega,i+1,by(try dsimp only);omega,by(try dsimp only);omega,ah.keep (by simp[A,u]) rfl⟩
 .have:i=ids.length:=by omega
  subst this;simp[n,k,bB]
end Go.AX
namespace Go.AX
open Go.Proofs
def zZ(m:List (Int×List Int))(id:Int):List (Int×List Int):=m.filter λq=>decide (q.1≠id)
def dZ:List (Int×List Int)->List Int->List (Int×List Int)×Int
 |m,[]=>(m,0)
 |m,id::ids=>if(lk m id).isSome=false then(m,20)else dZ (zZ m id) ids
set_option maxRecDepth 16000 in
theorem Jo(c:Ck)(ids:List Int)(F:c.m.length<=100000)(hi:ids.length<=1000000):aA Tryz.prog 197 [rK false c,.seq false 1 (ae ids)] [] (λr g'=>g'=[]∧r=.pv (.tup [rK false ⟨(dZ c.m ids).1,c.last,c.done⟩,ab (dZ c.m ids).2])):=by
 refine d7 [4] [.cell 4 _,.tmp 5] aD Tryz.func197 ?_;have C:dZ c.m ids=dZ c.m (ids.drop 0):=rfl;generalize dZ c.m ids=D at*;simp;refine ax.intro (S:=λ(x:Nat×List (Int×List Int)×Bool)=>⟨[(1,.pv (.seq false 1 (ae ids))),(2,.pv (.ptr 0 0)),(4,.pv (.ptr 1 0)),(6,.pv (ab x.1))],[[.pv (.seq x.2.2 2 (x.2.1.map dE)),.pv (ab c.last),.pv (BL c.done)],[.pv (.lit (.slice none 0 0)),.pv (ab 0),.pv (BL false)]]⟩) (λx=>x.1<=ids.length∧x.2.1.length<=100000∧D=dZ x.2.1 (ids.drop x.1)) (λx=>ids.length -x.1) (0,c.m,false) ?_ ⟨Tf _,F,C⟩ ?_
 .exact ah.keep (by simp) (by simp)
 rintro⟨i,m,nw⟩ ⟨A,B,a⟩;dsimp only at A B a
 by_cases d:i<ids.length
 .have G:=dv i;have l:ids[i]?=some ids[i]:=SR d;rw[TG d,dZ]at a;have u:=((tX [] ⟨m,c.last,c.done⟩ ids[i] B).args (xs:=[rK nw ⟨m,c.last,c.done⟩,ab ids[i]]) (by simp[bc,bB])).mono (R':=λr _=>r=.pv (.tup [.seq false 1 (ae ((lk m ids[i]).getD [])),BL (lk m ids[i]).isSome])) λ_ _ h=>h.2;generalize(lk m ids[i]).getD []=I at*;cases e:(lk m ids[i]).isSome
  .rw[SX e]at a;rw[e]at u;subst a;simp[d,l];refine aT.one qJ (by kernel_rfl) ?_;simp[qJ,d,l];refine⟨?_,?_⟩
   all_goals
    refine ai.introX (bE.pureM (p:=[]) (q:=[]) (zs:=[rK nw ⟨m,c.last,c.done⟩,ab ids[i]]) u (by simp) rfl (by simp[fw]) (by simp) (by simp) ?_);simp[bB,bc]
  .rw[SU (by rw[e];simp)]at a;rw[e]at u;obtain⟨W,n⟩:∃W:Nat->List (List PV),∀j,W j=(zZ (m.take j) ids[i]).map dE:=⟨_,λ_=>rfl⟩;have v:W 0=[]:=by rw[n];rfl
   have w:W m.length=(zZ m ids[i]).map dE:=by rw[n,Tw]
   have z:∀j (h:j<m.length),W (j+1)=if m[j].1=ids[i]then W j else W j++[dE m[j]]:=λj h=>by
    rw[n,n,TW,SR h];unfold zZ;rw[Uu,Tu];show _++List.map dE (List.filter _ [m[j]])=_;rw[TO,Wd]
    by_cases e:m[j].1=ids[i]
    .rw[SX e];simp[e]
    .rw[SU e];simp[e]
   have y:∀j,(W j).length<=m.length:=λj=>by
    rw[n,S7];exact TD (Uq _ _) (by rw[S6];exact WX _ _)
   simp[d,l];refine aT.one qJ (by kernel_rfl) ?_;simp[qJ,d,l];refine⟨?_,?_⟩
   all_goals
    refine ai.introX (bE.pureM (p:=[]) (q:=[]) (zs:=[rK nw ⟨m,c.last,c.done⟩,ab ids[i]]) u (by simp) rfl (by simp[fw]) (by simp) (by simp) ?_);simp;refine ax.intro (S:=λ(j:Nat)=>⟨[(1,.pv (.seq false 1 (ae ids))),(2,.pv (.ptr 0 0)),(4,.pv (.ptr 1 0)),(6,.pv (ab i)),(9,.own true 2 (W j)),(10,.pv (ab j))],[[.pv (.seq nw 2 (m.map dE)),.pv (ab c.last),.pv (BL c.done)],[.pv (.lit (.slice none 0 0)),.pv (ab 0),.pv (BL false)]]⟩) (λj=>j<=m.length) (λj=>m.length -j) 0 ?_ (Tf _) ?_
    .exact(ah.nilOwn (s:=9) 2 true (by simp)).trans (ah.keep (by simp[v]) (by simp))
    intro j hj;have H:=y j
    by_cases f:j<m.length
    .have t:=dv j;have o:m[j]?=some m[j]:=SR f;have g:=z j f
     by_cases k:m[j].1=ids[i]
     .rw[SX k]at g;simp[f,d,o,l,dE,k];refine⟨j+1,by(try dsimp only);omega,by(try dsimp only);omega,ah.keep (by simp[t,g]) (by simp[dE])⟩
     .rw[SU k]at g;simp[f,d,o,l,dE,k];refine⟨by omega,j+1,by(try dsimp only);omega,by(try dsimp only);omega,ah.keep (by simp[t,g,dE]) (by simp[dE])⟩
    .have:j=m.length:=by omega
     subst this;simp;have E:(zZ m ids[i]).length<=m.length:=Uq _ _;refine⟨(i+1,zZ m ids[i],true),by(try dsimp only);omega,⟨by(try dsimp only);omega,by(try dsimp only);omega,a⟩,(ah.frzC (b:=0) (k:=0) (e:=2) (nw:=true) (rows:=W m.length) (by simp)).trans (ah.keep (by simp[G]) (by simp[w]))⟩
 .have:i=ids.length:=by omega
  subst this;rw[Tq (SY _),dZ]at a;subst a;simp[bB,bc]
def z7(e:Int×List (List Int)):List PV:=[ab e.1,.seq false 1 (e.2.map aq)]
def CA(E:List (Int×List (List Int))):List (Int×List (List Int)):=E.foldl (λm e=>pt m e.1 e.2) []
def QY(cs:List (List Int))(c l:List Int)(i:Int)(ok:Bool)(e:Int×List (List Int)):Bool:=if e.1=i then decide (Cx l (cs.getD i.toNat []) (c.headD 0) e.2=0)else ok
theorem Jp(cs:List (List Int))(c l:List Int)(i:Int):∀(E:List (Int×List (List Int)))(m:List (Int×List (List Int))),E.foldl (QY cs c l i) (xS cs c l m i)=xS cs c l (E.foldl (λm e=>pt m e.1 e.2) m) i
 |[],m=>rfl
 |e::E,m=>by
  rw[Vw,Vw,←Jp cs c l i E];congr 1;unfold QY xS;rw[bJ]
  by_cases h:e.1=i
  .rw[SX h,SX h]
  .rw[SU h,SU h]
theorem Ml(cs:List (List Int))(c l:List Int)(i:Int)(E:List (Int×List (List Int))):E.foldl (QY cs c l i) false=xS cs c l (CA E) i:=Jp cs c l i E []
set_option maxRecDepth 16000 in
theorem z8(cs:List (List Int))(c:List Int)(ahead:List (List Int))(E:List (Int×List (List Int)))(hn:cs.length<=100000)(o:∀x∈cs,x.length<=100000)(Z:c.length<=100000)(Y:ahead.length<=100000)(D:∀x∈ahead,x.length<=100000)
 (T:∀e∈E,e.2.length<=100000∧∀x∈e.2,x.length<=100000) (W:E.length<=10000000):
 aj Tryz.prog 263 [.seq false 1 (cs.map aq),.seq false 1 (ae c),.seq false 1 (ahead.map aq),.seq false 2 (E.map z7)] (λr=>r=.pv (.tup [ab (xT cs c ahead (CA E)).1,ab (xT cs c ahead (CA E)).2])):=by
 refine mC [8,9] aD Tryz.func263 (λ_ _=>results_tmp2 rfl _ _ _) ?_;have C:=pR c (by omega);have hle:=pQ c c.length;have n:=λg=>lI g (gm c) ahead (by unfold gm;omega) (λx hx=>by have:=D x hx;omega);have p:=zX ahead (gm c) 0;have K:Ge c=if mf c=0 then gm c else[]:=rfl;have d:xT cs c ahead (CA E)=if mf c≠0 then(-1,mf c)else if c=[]then(-1,11)else if(eV (gm c) ahead 0).2.2≠23 then(-1,(eV (gm c) ahead 0).2.2)
  else wb (xS cs c (eV (gm c) ahead 0).1 (CA E)) (lJ cs (c.headD 0) cs.length) (lJ cs (c.headD 0) cs.length).length:=rfl
 generalize xT cs c ahead (CA E)=S at*;have U:(gm c).length<=c.length:=hle;generalize eV (gm c) ahead 0=F at*;obtain⟨L,fn,P⟩:=F;simp only at p d n;simp;refine ai.intro C ?_
 by_cases c1:mf c=0
 rotate_left
 .rw[SX c1]at d;subst d;simp[c1]
 rw[SU (by simp[c1])]at d;rw[SX c1]at K;rw[K]
 by_cases c2:c=[]
 .rw[SX c2]at d;subst d;subst c2;simp[c1]
 rw[SU c2]at d;have N:c.length≠0:=λe=>c2 (UM.1 e);simp[c1,c2];refine ai.introM (n _) ?_;rintro _ _ ⟨rfl,rfl⟩
 by_cases c3:P=23
 rotate_left
 .rw[SX c3]at d;subst d;simp[c3]
 rw[SU (by simp[c3])]at d;obtain⟨x,c',rfl⟩:∃x c',c=x::c':=by
  cases c with
  |nil=>exact absurd rfl c2
  |cons x c=>exact⟨x,c,rfl⟩
 have v:=xQ cs x (by omega) (λy hy=>by have:=o y hy;omega);have hcl:=tM cs x cs.length;have G:=tP cs x cs.length;simp only[List.headD_cons]at d;generalize Q:lJ cs x cs.length=X at*;clear Q;simp[c3];refine ai.intro v ?_;simp;refine ax.intro (S:=λ(i:Nat)=>⟨[(0,.pv (.seq false 1 (cs.map aq))),(1,.pv (.seq false 1 (ae (x::c')))),(3,.pv (.seq false 2 (E.map z7))),(10,.pv (.seq false 1 (ae L))),(12,.own true 1 (ae X)),(13,.pv (ab i))],[]⟩) (λi=>i<=X.length∧S=wb (xS cs (x::c') L (CA E)) (X.drop i) X.length) (λi=>X.length -i) 0 ?_ ⟨Tf _,d⟩ ?_
 .exact ah.keep (by simp) (by simp)
 rintro i ⟨hi,a⟩
 by_cases h:i<X.length
 .have V:=dv i;obtain⟨k,hk,b⟩:=G _ (S5 h);have m:X[i]?=some (k:Int):=by rw[SR h,b]
  rw[TG h,wb,b]at a;have s:cs[k]?=some cs[k]:=SR hk;have R:=o _ (S5 hk);have I:cs.getD ((k:Int)).toNat []=cs[k]:=by rw[Uc,SS,s];rfl
  obtain⟨O,u⟩:∃O:Nat->Bool,∀j,O j=(E.take j).foldl (QY cs (x::c') L k) false:=⟨_,λ_=>rfl⟩;have w:O 0=false:=by rw[u];rfl
  have z:O E.length=xS cs (x::c') L (CA E) k:=by rw[u,Tw];exact Ml _ _ _ _ _
  have A:∀j (e:j<E.length),O (j+1)=if E[j].1=(k:Int)then decide (Cx L cs[k] x E[j].2=0)else O j:=λj e=>by
   rw[u,u,bL _ _ E j e];unfold QY;rw[I];rfl
  simp[h,b];refine ax.intro (S:=λ(j:Nat)=>⟨[(0,.pv (.seq false 1 (cs.map aq))),(1,.pv (.seq false 1 (ae (x::c')))),(3,.pv (.seq false 2 (E.map z7))),(10,.pv (.seq false 1 (ae L))),(12,.own true 1 (ae X)),(13,.pv (ab i)),(14,.pv (BL (O j))),(15,.pv (ab j))],[]⟩) (λj=>j<=E.length) (λj=>E.length -j) 0 ?_ (Tf _) ?_
  .exact ah.keep (by simp[w]) (by simp)
  intro j hj
  by_cases e:j<E.length
  .have t:=dv j;have q:E[j]?=some E[j]:=SR e;have H:=T _ (S5 e);have l:=A j e;have B:aj Tryz.prog 311 [.seq false 1 (ae L),.seq false 1 (ae cs[k]),ab x,.seq false 1 (E[j].2.map aq)] (λr=>r=.pv (ab (Cx L cs[k] x E[j].2))):=
    aA.pure ((uP [] L cs[k] x E[j].2 (by simp only[Ty]at*;omega) (λy hy=>by have:=H.2 y hy;omega)).mono λ_ _ h=>⟨_,h.2,rfl⟩)
   by_cases f:E[j].1=(k:Int)
   .rw[SX f]at l;simp[e,h,m,q,s,hk,b,z7,f,aq];refine bz.intro B ?_;simp;refine⟨j+1,by(try dsimp only);omega,by(try dsimp only);omega,ah.keep (by simp[t,l]) (by simp)⟩
   .rw[SU f]at l;simp[e,h,m,q,b,z7,f];refine⟨j+1,by(try dsimp only);omega,by(try dsimp only);omega,ah.keep (by simp[t,l,z7]) (by simp)⟩
  .have:j=E.length:=by omega
   subst this;rw[z];cases M:xS cs (x::c') L (CA E) k
   .rw[SX M]at a;subst a;simp[h,m,b]
   .rw[SU (by simp[M])]at a;simp;exact⟨i+1,by(try dsimp only);omega,⟨by(try dsimp only);omega,a⟩,ah.keep (by simp[V]) (by simp)⟩
 .have J:i=X.length:=by omega
  subst J;rw[Tq (SY _),wb]at a;subst a;simp
set_option maxRecDepth 16000 in
theorem Aa(s:Stp)(q:s.lits.length<=100000)(p:s.hints.length<=100000):aj Tryz.prog 35 [.seq false 4 [dX s]] (λr=>r=.pv (.tup [ab (if fQ s=true then 1 else 0),ab (if fQ s=true then 0 else 2)])):=by
 refine mC [2,3] aD Tryz.func35 (λ_ _=>results_tmp2 rfl _ _ _) ?_;have k:=nT s.lits 100000 (by omega);have g:=pS s.hints (-10000000) (by omega);have j:=pS s.hints 1 (by omega);have l:fQ s=(((((decide (s.kind=1)&&decide (1<=s.id))&&decide (s.id<=10000000))&&decide (fj s.lits 100000=0))&&gp s.hints (-10000000))||((((decide (s.kind=2)&&decide (0<=s.id))&&decide (s.id<=10000000))&&decide (s.lits.length=0))&&gp s.hints 1)):=by
  unfold fQ
  by_cases b:s.kind=1
  .rw[SX b];simp[b];simp only[XI]
  .rw[SU b]
   by_cases e:s.kind=2
   .rw[SX e];simp[e];simp only[XI]
   .rw[SU e];simp[b,e]
 generalize fQ s=M at*;simp;refine ax.intro (S:=λ(i:Nat)=>⟨[(0,.pv (.seq false 4 [dX s])),(4,.pv (ab i))],[]⟩) (λi=>i<=1∧(i=1->M=true)) (λi=>1 -i) 0 ?_ ⟨Tf _,λh=>by cases h⟩ ?_
 .exact ah.keep (by simp) (by simp)
 rintro i ⟨hi,ho⟩
 by_cases d:i=1
 .have:=ho d;subst d this;simp
 .have:i=0:=by omega
  subst this;simp[dX];refine bf.intro (λ_=>k) ?_;simp;refine bf.intro (λ_=>g) ?_;simp;refine bf.intro (λ_=>j) ?_;simp;have c:M=false↔(((((¬s.kind=1∨s.id<1)∨10000000<s.id)∨¬fj s.lits 100000=0)∨gp s.hints (-10000000)=false)∧((((¬s.kind=2∨s.id<0)∨10000000<s.id)∨¬s.lits=[])∨gp s.hints 1=false)):=by
   rw[l,Vp];simp only[Bool.and_eq_false_iff,Un,Int.not_le,UM]
  refine⟨λh1 a=>c.2 ⟨h1,a⟩,λh=>?_⟩;have f:M=true:=by
   cases m:M
   .obtain⟨h1,a⟩:=c.1 m;obtain⟨⟨⟨⟨b,e⟩,t⟩,n⟩,o⟩:=h h1;rcases a with(((a|a)|a)|a)|a
    .exact absurd b a
    .omega
    .omega
    .exact absurd n a
    .rw[o]at a;cases a
   .rfl
  exact⟨1,by(try dsimp only);omega,⟨SY _,λ_=>f⟩,ah.to (by simp[show aX 1=1 from ao (by omega) (by omega),dX]) rfl (by simp) (by simp) (by simp)⟩
end Go.AX