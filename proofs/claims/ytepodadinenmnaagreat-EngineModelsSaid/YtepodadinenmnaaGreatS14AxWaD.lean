/-
  The library: a map's keys, sorted, whatever its values; a slice's values, sorted.
  The library: slices.BinarySearch of numbers.
  Contracts: lrat.Checker: its numbers; what is dropped.
  Contracts: lrat: a group of hints is noted.
  Contracts: rat.Show.
  Contracts: lrat.Checker: may a clause be added?
  Contracts: lrat.Checker: a step.
  Contracts: lrat.New, lrat.Check.
  Contracts: trim: what is needed.
  Contracts: trim.copied, trim.Trim.
  Contracts: slices.DeleteFunc of a block's numbers.
  Contracts: watches: what they hold; made, look, shrunk.
  Watches: how they lie in memory, told as plain data.
  Contracts: watches: forget.
  Contracts: watches: fresh.
-/
import Derived.Test.YtepodadinenmnaaGreatS14AxEvG
import Derived.Test.YtepodadinenmnaaGreatS14AxTmL
import Derived.Test.YtepodadinenmnaaGreatS14AxTmQ
import Derived.Test.YtepodadinenmnaaGreatAxR
import Derived.Test.YtepodadinenmnaaGreatAxIs
import Derived.Test.YtepodadinenmnaaGreatAxAg
import Derived.Test.YtepodadinenmnaaGreatS14AxDkQ
import Derived.Test.YtepodadinenmnaaGreatAxTb
import Derived.Test.YtepodadinenmnaaGreatAxBt
namespace Go.AX
open Go.Proofs Go.Maps Go.Shelf
set_option linter.unusedSimpArgs false
def In(_:Value):Option (DataW Unit×List MemPlace):=some (.lit (.int .i64 0),[])
def k0(ks:List Int):List (Int×Int):=ks.map λx=>(x,0)
def cL(l:List Int):List Int:=l.mergeSort λx y=>decide (x<=y)
theorem vy{β:Type}{f:β->PV}{G:Gh}:∀{a:List (Int×β)}{en:List MapEntry},bE G (a8 f a) en->en.map (·.key)=(a.map (·.1)).map λx=>.int .i64 x
 |[],en,h=>by
  have:en=[]:=h;rw[this];rfl
 |q::a,en,⟨m,r,h1,b,d,c⟩=>by
  subst h1;rw[R4,R4,R4,vy c,b]
section
variable {P : Program} {k : TypeId}
theorem Io(hk:P.underlying k=some (.int .i64)):∀{en:List MapEntry}{ks:List Int},en.map (·.key)=ks.map (λx=>.int .i64 x)->(∀x∈ks,Gg x)->
 en.map (WideElems.rg P k In)=NL (k0 ks)∧∀m∈en,∃y,WideElems.rd P k In m=some y
 |[],ks,h,_=>by
  cases ks with
  |nil=>exact⟨rfl,λm e=>by cases e⟩
  |cons _ _=>cases h
 |m::en,ks,h,c=>by
  cases ks with
  |nil=>cases h
  |cons q ks=>
   rw[R4,R4]at h;injection h with h1 d;obtain⟨g,i⟩:=Io hk d (λq f=>c q (RZ _ f));have b:WideElems.rd P k In m=some (.int .i64 q,.lit (.int .i64 0)):=by
    unfold WideElems.rd;rw[h1,keyOf_int_mk hk (c q R2)];simp[In]
   refine⟨?_,λj a=>?_⟩
   .rw[R4,g,WideElems.rg_of b];rfl
   .rcases R9.1 a with rfl|a
    .exact⟨_,b⟩
    .exact i j a
theorem Ip{β:Type}{f:β->PV}(hk:P.underlying k=some (.int .i64)){w:World}{c:Nat}{en:Array MapEntry}{ck:Nat}{G:Gh}{a:List (Int×β)}(e:w.heap[c]?=some (.map en ck))(g:bE G (a8 f a) en.toList)(b:MapKept.Stamped en ck)
 (i:∀q∈a,Gg q.1) (m:a.length<=maxLen):w.ownsMap P k In c a.length (KF (k0 (a.map (·.1)))):=by
 have d:=vy g;have hn:en.size=a.length:=by
  have:=Ul List.length d;simpa using this
 obtain ⟨j, l⟩ := Io hk d (λ x hx => by
  rw[RO]at hx;obtain⟨q,h,rfl⟩:=hx;exact i q h)
 exact⟨en,ck,e,⟨by omega,b,l⟩,by omega,by unfold KF;rw[j]⟩
end
theorem Lb(ks:List Int):(k0 ks).map (·.1)=ks:=by
 unfold k0;rw[SJ];exact List.map_id ks
theorem Rk:bL Tryz.prog (Tryz.sortedA_ren.t 24)=some (1,8):=by kernel_rfl
theorem xm{β:Type}(f:β->PV)(j:Nat)(a:List (Int×β))(Z:∀q∈a,Gg q.1)(J:a.length<=1000000)(A:∀args w,(callFunc j args).run Tryz.prog w=.ok (.enter j args) w)
 (l:∀{H:Type}(d b nn:Nat)(z:DataW H){R:Value->Option (DataW H×List MemPlace)}(w:World),d<w.heap.size->w.cell? ⟨d,0,none⟩=some (.map (some b))->w.ownsMap Tryz.prog (Tryz.sortedA_ren.t 26) R b nn z->SeqGives Fence.wide 2 Tryz.prog j #[.pointer (some ⟨d,0,none⟩)] encZ (λss=>ss.Perm (intKeys z)) (Maps.size z) w):
 M8 Tryz.prog 141 j (.amap false (a8 f a)) (.own true 1 ((cL (a.map (·.1))).map λx=>[ae x])):=by
 refine⟨by kernel_rfl,λw d arr T v0 h1 L M=>?_⟩;have i:w.cell? ⟨d,0,none⟩=some v0:=by
  have:arr[0]?=some v0:=by rw[←RM,L];rfl
  simp[World.cell?,h1,this]
 have D:=(RV.1 h1).1;have y:∀(S:List Int->Prop)(N:Nat),N<=1000000->(∀ss,S ss->ss.length<=N)->(∀ss,S ss->cL ss=cL (a.map (·.1)))->SeqGives Fence.wide 2 Tryz.prog j #[.pointer (some ⟨d,0,none⟩)] encZ S N w->
  Calls Tryz.prog 141 #[.func (.func j) #[] #[.pointer (some ⟨d,0,none⟩)]] w λe w'=>∃v g' o,e=.returned v∧PureEnd w w' g'∧aA g' w' (.own true 1 ((cL (a.map (·.1))).map λx=>[ae x])) v o∧(SV.own true 1 ((cL (a.map (·.1))).map λx=>[ae x])).inCell=true∧∀c,o=some c->w.heap.size<=c∧g'.I c=none:=by
  intro S N hN E F s;have K:=KG Tryz.sortedA Rk Fence.wide 5 trivial trivial trivial trivial rfl (by omega) (Tryz.sortsA _) (enters_of Tryz.func171 (by kernel_rfl) rfl) j #[.pointer (some ⟨d,0,none⟩)] trivial A S N (by unfold maxLen;omega) (by omega) w (jQ.of s) E;refine((callsIn_wide (n:=5)).1 K).mono λe w' ⟨v,ss,X,V,g,m,Y,W⟩=>?_;have G:=F ss V;have J:ss.length=(cL (a.map (·.1))).length:=by rw[←G];unfold cL;rw[Tj]
  unfold cL at G;rw[G]at g;obtain⟨g',o,B,C,Q,U⟩:=Im J g m W;exact⟨v,g',o,X,B,C,Q,U⟩
 obtain⟨c,en,ck,rfl,O,_,B,C⟩:=M
 .have p:=Ip (P:=Tryz.prog) (k:=Tryz.sortedA_ren.t 26) (by kernel_rfl) O B C Z (by unfold maxLen;omega);have u:Maps.size (KF (k0 (a.map (·.1))))=a.length:=by rw[Hm];unfold k0;rw[RR,RR]
  have r:∀ss:List Int,ss.Perm (intKeys (KF (k0 (a.map (·.1)))))->ss.Perm (a.map (·.1)):=λss h=>by
   have:=h.trans (Hl _)
   rwa [Lb]at this
  refine y _ _ (by rw[u];omega) (λss h=>?_) (λss h=>?_) (l d c a.length (KF (k0 (a.map (·.1)))) w D i p)
  .rw[(r ss h).length_eq,RR,u];exact RJ _
  .exact mergeSort_of_perm_i (r ss h)
theorem B2{β:Type}(f:β->PV)(a:List (Int×β))(i:∀q∈a,Gg q.1)(h:a.length<=1000000):
 M8 Tryz.prog 141 229 (.amap false (a8 f a)) (.own true 1 ((cL (a.map (·.1))).map λx=>[ae x])):=
 xm f _ a i h (enters_of Tryz.func229 (by kernel_rfl) rfl)
  (λ{_} c b j d {_} w h1 e g=>AnyZI.keys_gives (ρ:=Tryz.keysA_ren) {Tryz.keysA with} Fence.wide 2 trivial rfl (by omega) c b j d w h1 e g)
end Go.AX
namespace Go.AX
open Go.Proofs
set_option linter.unusedSimpArgs false
def M9(l:List Int)(x:Int):Nat:=l.countP λy=>decide (y<x)
theorem Na{l:List Int}{x:Int}{i:Nat}(hi:i<=l.length)(h1:∀k (_:k<l.length),k<i->l[k]<x)(c:∀k (_:k<l.length),i<=k->x<=l[k]):M9 l x=i:=by
 unfold M9;rw[←SI i l,List.countP_append];have a:(l.take i).countP (λy=>decide (y<x))=(l.take i).length:=Wh.2 λy hy=>by
  obtain⟨k,hk,rfl⟩:=RU hy;rw[RN]at hk;rw[S7];exact Tk (h1 k (by omega) (by omega))
 have b:(l.drop i).countP (λy=>decide (y<x))=0:=VT.2 λy hy=>by
  obtain⟨k,hk,rfl⟩:=RU hy;rw[Sv]at hk;rw[List.getElem_drop];have:=c (i+k) (by omega) (by omega);simp;omega
 rw[a,b,RN];omega
def N7(l:List Int)(x:Int):Bool:=decide (l[M9 l x]?=some x)
def Lc(c:Ck):List Int:=cL (c.m.map (·.1))
def dl{α:Type}:List (Int×α)->Int->List (Int×α)
 |[],_=>[]
 |(k,x)::r,n=>if k=n then r else(k,x)::dl r n
def dropB(c:Ck)(ids:List Int):Bool:=decide ((cT (cL ids)).length<ids.length)||!jJ c ids
def xn(c:Ck)(ids:List Int)(i:Nat):Ck:=⟨(ids.take i).foldl dl c.m,c.last,c.done⟩
def vz(c:Ck)(ids:List Int):Ck:=if dropB c ids=true then c else xn c ids ids.length
def zu(c:Ck)(ids:List Int):Int:=if dropB c ids=true then 20 else 0
def Iq(c:Ck)(a:List (Int×List (List Int)))(g:List Int):List (Int×List (List Int)):=
 if N7 (Lc c) (aR (-(g.headD 0)))=true then pt a (M9 (Lc c) (aR (-(g.headD 0)))) (bZ c g.tail)else a
def fS(l:List (List Int)):PV:=.seq false 1 (l.map an)
@[simp] theorem Ld(r:Nat->Nat->PV):∀l:List (Int×List (List Int)),sa r (a8 fS l)=a8 fS l
 |[]=>rfl
 |x::l=>by
  have:=Ld r l;show(x.1,kz r (fS x.2))::sa r (a8 fS l)=(x.1,fS x.2)::a8 fS l;rw[this];simp[fS]
def xo(cs:List (List Int))(c l:List Int)(a:List (Int×List (List Int)))(i:Int):Bool:=
 match lk a i with
 |none=>false
 |some h=>decide (B1 l (cs.getD i.toNat []) (c.headD 0) h=0)
theorem zw:∀(hs:List (List Int))(l:List Int)(n:Nat),(fk l hs n).1.length<=l.length+hs.length
 |[],l,n=>by simp[fk]
 |h::hs,l,n=>by
  rw[fk];split
  .simp
  .split
   .have:=zw hs (l++[(bD l h).1]) (n+1);simp at this⊢;omega
   .simp
theorem tt(cs:List (List Int))(p:Int):∀n x,x∈lC cs p n->∃k:Nat,k<n∧x=(k:Int)
 |0,x,h=>by cases h
 |n+1,x,h=>by
  rw[lC]at h;split at h
  .rcases RS.1 h with h|h
   .obtain⟨k,h1,a⟩:=tt cs p n x h;exact⟨k,by omega,a⟩
   .rw[Sp]at h;exact⟨n,by omega,h⟩
  .obtain⟨k,h1,a⟩:=tt cs p n x h;exact⟨k,by omega,a⟩
def vA(f:Int->Bool):List Int->Nat->Int×Int
 |[],n=>(n,0)
 |i::l,n=>if f i=false then(i,24)else vA f l n
def xp(cs:List (List Int))(c:List Int)(ahead:List (List Int))(a:List (Int×List (List Int))):Int×Int:=
 if l3 c≠0 then(-1,l3 c)else if c=[]then(-1,11)else if(fk (gm c) ahead 0).2.2≠23 then(-1,(fk (gm c) ahead 0).2.2)
 else vA (xo cs c (fk (gm c) ahead 0).1 a) (lC cs (c.headD 0) cs.length) (lC cs (c.headD 0) cs.length).length
theorem tu(l:List Int):(cL l).Pairwise (·<=·):=by
 have:=UR (le:=λx y:Int=>decide (x<=y)) (λa b c h1 d=>by simp at*;omega) (λa b=>by simp;omega) l;exact this.imp (λh=>by simpa using h)
def Ir(c:Ck)(a:List (List Int)):List (Int×List (List Int)):=a.foldl (Iq c) []
def xq(c:Ck)(lits hints:List Int):Int:=
 if(rk lits (bZ c (j8 hints).1)).2≠23∨lits=[]then(rk lits (bZ c (j8 hints).1)).2
 else if(xp (bZ c (Lc c)) lits (bZ c (j8 hints).1) (Ir c (j8 hints).2)).2≠0 then 24 else 0
structure CkOk (c:Ck):Prop where
  n:c.m.length<=100000
  w:∀q∈c.m,Gg q.1
  l:∀q∈c.m,q.2.length<=100000
theorem Mf{α:Type}:∀{l:List (Int×α)}{k:Int}{x:α},lk l k=some x->(k,x)∈l
 |(j,y)::l,k,x,h=>by
  rw[lk]at h;split at h
  .rename_i e;subst e;injection h with h;subst h;exact R2
  .exact RZ _ (Mf h)
theorem tv{c:Ck}(h:CkOk c)(ids:List Int):(bZ c ids).length=ids.length∧∀x∈bZ c ids,x.length<=100000:=by
 refine⟨by unfold bZ;simp,λx hx=>?_⟩;unfold bZ at hx;rw[RO]at hx;obtain⟨id,_,rfl⟩:=hx;cases e:lk c.m id with
 |none=>simp
 |some y=>exact h.l _ (Mf e)
theorem Le{x:List Int×List (List Int)}{h:Int}(hx:∀g∈x.2,g≠[]):∀g∈(qk x h).2,g≠[]:=by
 intro g a;unfold qk at a;split at a
 .rcases RS.1 a with a|a
  .exact hx g a
  .rw[Sp]at a;subst a;simp
 .split at a
  .exact hx g a
  .rcases RS.1 a with a|a
   .exact hx g (Wk _ a)
   .rw[Sp]at a;subst a;simp
theorem zx(hs:List Int):∀i,i<=hs.length->∀g∈(eW hs i).2,g≠[]
 |0,_=>λg a=>by simp[eW]at a
 |i+1,h=>by
  rw[gC hs (by omega)];exact Le (zx hs i (by omega))
theorem af.frzC{k0:Nat}{st:St}{b k e:Nat}{nw:Bool}{rows:List (List PV)}(h:ab st (.cell b k)=.own nw e rows):af k0 st (setPos st (.cell b k) (.pv (.seq nw e rows))):=λg a w _ hs=>by
 obtain⟨g',t,_,_,_,s,_⟩:=hs.freeze (p:=.cell b k) (by rw[h];rfl);rw[h]at s;exact⟨g',t,s⟩
def Fy(c:Ck)(s:Stp):Ck×Int:=
 if s.id<=c.last then(c,21)else if fl s.lits=true then(c,11)else if jJ c s.hints=false then(c,20)
 else if xq c s.lits s.hints≠0 then(c,xq c s.lits s.hints)else(ql c s.id s.lits,0)
def eY(c:Ck)(s:Stp):Ck×Int:=
 if zr [s]≠0 then(c,zr [s])else if s.kind=2 then(vz c s.hints,zu c s.hints)else Fy c s
def xt(c:Ck)(l:List Int):Ck:=ql c (aR (c.last+1)) l
def d8(L:List (List Int))(i:Nat):Ck:=(L.take i).foldl xt ⟨[],0,false⟩
def de(L:List (List Int)):Ck:=d8 L L.length
theorem PQ{α:Type}(l:List (Int×α))(k:Int)(y:α):(pt l k y).length<=l.length+1:=by
 rw[BF];split<;>omega
theorem B3{α:Type}{p:Int×α->Prop}:∀{l:List (Int×α)}{k:Int}{y:α},(∀q∈l,p q)->p (k,y)->∀q∈pt l k y,p q
 |[],k,y,_,b,q,a=>by
  rw[pt]at a;rw[Sp]at a;subst a;exact b
 |(j,x)::l,k,y,h1,b,q,a=>by
  rw[pt]at a;split at a
  .rename_i e;rcases R9.1 a with rfl|a
   .exact e▸b
   .exact h1 q (RZ _ a)
  .rcases R9.1 a with rfl|a
   .exact h1 _ R2
   .exact B3 (λq a=>h1 q (RZ _ a)) b q a
theorem Is{α:Type}:∀(l:List (Int×α))(k:Int),∀q∈dl l k,q∈l
 |[],k,q,h=>h
 |(j,x)::l,k,q,h=>by
  rw[dl]at h;split at h
  .exact RZ _ h
  .rcases R9.1 h with rfl|h
   .exact R2
   .exact RZ _ (Is l k q h)
theorem Mg{α:Type}:∀(l:List (Int×α))(k:Int),(dl l k).length<=l.length
 |[],k=>RJ _
 |(j,x)::l,k=>by
  rw[dl];split
  .simp
  .have:=Mg l k;simp;omega
structure CkN (n:Nat) (c:Ck):Prop where
  n:c.m.length<=n
  w:∀q∈c.m,Gg q.1
  l:∀q∈c.m,q.2.length<=100000
  t:0<=c.last∧c.last<=20000000
theorem CkN.ok{n:Nat}{c:Ck}(h:CkN n c)(hn:n<=100000):CkOk c:=⟨Sn h.n hn,h.w,h.l⟩
theorem B4{x:Int}(h1:0<=x)(c:x<=20000000):Gg x:=by
 unfold Gg;have a:IntKind.i64.min=-9223372036854775808:=by decide
 have b:IntKind.i64.max=9223372036854775807:=by decide
 simp only[Lit.wf,a,b,RQ,R0];omega
theorem CkN.put{n:Nat}{c:Ck}(h:CkN n c){id:Int}{l:List Int}(oM:0<=id∧id<=20000000)(a:l.length<=100000):CkN (n+1) (ql c id l):=
 ⟨Sn (PQ _ _ _) (Nat.succ_le_succ h.n),B3 h.w (B4 oM.1 oM.2),B3 h.l a,oM⟩
theorem tx{p:Int×List Int->Prop}:∀(ids:List Int)(m:List (Int×List Int)),(∀q∈m,p q)->(∀q∈ids.foldl dl m,p q)∧(ids.foldl dl m).length<=m.length
 |[],m,h=>⟨h,RJ _⟩
 |id::ids,m,h=>by
  obtain⟨h1,a⟩:=tx ids (dl m id) (λq b=>h q (Is m id q b));exact⟨h1,Sn a (Mg _ _)⟩
theorem CkN.drop{n:Nat}{c:Ck}(h:CkN n c)(ids:List Int):CkN n (vz c ids):=by
 unfold vz;split
 .exact h
 .unfold xn;obtain⟨h1,a⟩:=tx (p:=λq=>Gg q.1) (ids.take ids.length) c.m h.w;obtain⟨b,_⟩:=tx (p:=λq=>q.2.length<=100000) (ids.take ids.length) c.m h.l;exact⟨Sn a h.n,h1,b,h.t⟩
theorem CkN.up{n m:Nat}{c:Ck}(h:CkN n c)(a:n<=m):CkN m c:=⟨Sn h.n a,h.w,h.l,h.t⟩
theorem mG(s:Stp):zr [s]=if iR s=true then 0 else 2:=by
 unfold zr iH;cases a:iR s
 .simp[List.findIdx?_cons,a]
 .simp[List.findIdx?_cons,a]
theorem rM{s:Stp}(h:iR s=true):(s.kind=1∨s.kind=2)∧0<=s.id∧s.id<=10000000:=by
 unfold iR at h;split at h
 .simp only[RQ,R0]at h;exact⟨.inl (by assumption),by omega,by omega⟩
 .split at h
  .simp only[RQ,R0]at h;exact⟨.inr (by assumption),by omega,by omega⟩
  .cases h
theorem CkN.step{n:Nat}{c:Ck}(h:CkN n c){s:Stp}(a:s.lits.length<=100000):CkN (n+1) (eY c s).1:=by
 unfold eY;split
 .exact h.up (TF n)
 .rename_i hp;rw[mG]at hp;have b:iR s=true:=R6 λhn=>hp (by rw[RH hn];decide);obtain⟨_,h1,d⟩:=rM b;split
  .exact(h.drop s.hints).up (TF n)
  .unfold Fy;split
   .exact h.up (TF n)
   .split
    .exact h.up (TF n)
    .split
     .exact h.up (TF n)
     .split
      .exact h.up (TF n)
      .exact h.put ⟨h1,by omega⟩ a
def Mh:List (List Int)->Nat->Option Int
 |[],_=>none
 |c::L,i=>if c=[]then some ((i+1:Nat):Int)else Mh L (i+1)
def Mi:List Stp->Int
 |[]=>0
 |s::ss=>if s.kind=1∧s.lits=[]then s.id else Mi ss
def Nb(L:List (List Int))(ss:List Stp):Int:=(Mh L 0).getD (Mi ss)
def Rl(m:List (Int×Int))(k:Int):List (Int×Int):=pt m k (aR ((lk m k).getD 0+1))
def Rm(m:List (Int×Int))(s:Stp):List (Int×Int):=if s.kind=1∧0<(lk m s.id).getD 0 then s.hints.foldl Rl m else m
def PR(m:List (Int×Int)):List Stp->List (Int×Int)
 |[]=>m
 |s::ss=>Rm (PR m ss) s
def Nc(L:List (List Int))(ss:List Stp):List (Int×Int):=PR [(Nb L ss,1)] ss
def l4(x:Stp):List PV:=[ae x.kind,ae x.id,.seq true 1 (aa x.lits),.seq true 1 (aa x.hints)]
@[simp] theorem zy(k:Nat)(l:List Stp):bX k (l.map l4):=by
 induction l with
 |nil=>trivial
 |cons x xs a=>exact⟨⟨trivial,trivial,bc k _,bc k _,trivial⟩,a⟩
theorem oB(l:List Int):(aM l).length=l.length:=by unfold aM;simp
theorem Lf(H:List (List SV))(b:Nat)(zs:List Int)(sp:List SV)(a:H[b]?=some (aM zs++sp))(n:Nat):ui (bG H (n+1) b 0) 1 zs.length=.seq false 1 (aa zs):=by
 have e:H.getD b []=aM zs++sp:=by rw[RG,a];rfl
 simp only[bG,ui,e,RR];rw[RI ⟨trivial,by rw[RP,oB];omega⟩];congr 1;unfold aM;simp only[Sb,SJ];rw[UT,TU (by simp),SJ];rfl
theorem qp(k:Nat){sp:List SV}(h:cX k sp):∀l:List Int,cX k (aM l++sp)
 |[]=>h
 |_::l=>⟨trivial,qp k h l⟩
end Go.AX
namespace Go.AX
set_option maxRecDepth 16000
open Go.Proofs
set_option linter.unusedSimpArgs false
structure By where
  b:Nat
  n:Nat
  cp:Nat
def Gl(x:By):PV:=.bsl x.b 1 0 x.n x.cp
def vD(b:Nat):PV:=.ptr b 0
structure Wt where
  prs:List (Int×Nat)
  byl:List (Int×By)
  late:List (Int×Int)
  head:Int
  seen:List Int
def cB(ba bt:Nat)(W:Wt):List SV:=[.pv (.ptr ba 0),.pv (.ptr bt 0),.omap true (a8 vD W.prs),.omap true (a8 Gl W.byl),.omap true (a8 fI W.late),.pv (ae W.head),.own true 1 (aa W.seen)]
def jC(lits:List Int)(x y:Int):List SV:=[.pv (.seq false 1 (aa lits)),.pv (ae x),.pv (ae y)]
theorem zA(h:List (List SV))(b ba bt:Nat)(W:Wt)(d:h[b]?=some (cB ba bt W)):aB Tryz.prog 154 [.ptr b 0] h (λr h'=>h'=h∧r=.pv (BL true)):=by
 refine fD [] [.tmp 2] aE Tryz.func154 ?_;obtain⟨c,a⟩:=RE.1 d;simp[a,c,cB]
def eZ(T:Tr)(lits:List Int):List Int:=lits.filter λl=>decide (cu T l=1)||decide (cu T l=0)
def lQ(T:Tr)(lits:List Int):Bool:=lits.any λl=>decide (cu T l=1)
theorem B5(T:Tr)(lits:List Int){i:Nat}(h:i<lits.length):eZ T (lits.take (i+1))=if cu T lits[i]=1∨cu T lits[i]=0 then eZ T (lits.take i)++[lits[i]]else eZ T (lits.take i):=by
 unfold eZ;rw[SA,RF h,Ty,S5,Sz,U0]
 by_cases c:cu T lits[i]=1∨cu T lits[i]=0
 .rw[RI c,RI (by simpa using c)]
 .rw[RH c,RH (by simpa using c),Tc]
theorem B6(T:Tr)(lits:List Int){i:Nat}(h:i<lits.length):lQ T (lits.take (i+1))=(lQ T (lits.take i)||decide (cu T lits[i]=1)):=by
 unfold lQ;rw[SA,RF h,Ty,List.any_append];simp
theorem vE(T:Tr)(lits:List Int):(eZ T lits).length<=lits.length:=Ta _ _
theorem It(h:List (List SV))(bw ba bt bp:Nat)(W:Wt)(T:Tr)(lits:List Int)(x y:Int)(I:h[bw]?=some (cB ba bt W))(ht:h[bt]?=some (gv T))(hp:h[bp]?=some (jC lits x y))(J:T.ok)(P:lits.length<=1000000):
 aB Tryz.prog 280 [.ptr bw 0,.ptr bp 0] h (λr h'=>h'=h∧r=.pv (.agg [BL (lQ T lits),.seq true 1 (aa (eZ T lits))])):=by
 refine dV [] [.cell 4 _] aE Tryz.func280 ?_;obtain⟨O,R⟩:=RE.1 I;obtain⟨N,Q⟩:=RE.1 hp;obtain⟨G,e⟩:∃G:SV->SV->List (List SV),∀u v,G u v=h++[[.pv (BL false),.pv (.lit (.slice none 0 0))],[u,v]]:=⟨_,λ_ _=>rfl⟩;have t:∀u v,(G u v)[bw]?=some (cB ba bt W):=λu v=>by rw[e,RL O,I]
 have q:∀u v,(G u v)[bp]?=some (jC lits x y):=λu v=>by rw[e,RL N,hp]
 have A:∀u v,(G u v)[bt]?=some (gv T):=λu v=>by rw[e,RL (RE.1 ht).1,ht]
 have g:∀u v,(G u v)[h.length+1]?=some [u,v]:=λu v=>by rw[e];simp
 have s:∀u v,bw<(G u v).length:=λu v=>(RE.1 (t u v)).1;have B:∀u v,(G u v)[bw]'(s u v)=cB ba bt W:=λu v=>(RE.1 (t u v)).2;have p:∀u v,bp<(G u v).length:=λu v=>(RE.1 (q u v)).1;have z:∀u v,(G u v)[bp]'(p u v)=jC lits x y:=λu v=>(RE.1 (q u v)).2;have a:∀u v,h.length+1<(G u v).length:=λu v=>(RE.1 (g u v)).1;have f:∀u v,(G u v)[h.length+1]'(a u v)=[u,v]:=λu v=>(RE.1 (g u v)).2;have E:∀u v n,bG (G u v) (n+1) bt 0=bM T:=λu v n=>cI (A u v) n;have j:∀u v C D,(G u v).set (h.length+1) [C,D]=G C D:=λu v C D=>by rw[e,e];simp
 have M:=λl=>fO T l J;simp;rw[←e];simp[s,B,cB,p,z,jC,E];obtain⟨H,c⟩:∃H:Nat->List (List SV),∀i,H i=G (.pv (BL (lQ T (lits.take i)))) (.own true 1 (aa (eZ T (lits.take i)))):=⟨_,λ_=>rfl⟩;have h1:∀i,h.length+1<(H i).length:=λi=>by rw[c];exact a _ _
 have F:∀i,(H i)[h.length+1]'(h1 i)=[.pv (BL (lQ T (lits.take i))),.own true 1 (aa (eZ T (lits.take i)))]:=λi=>by simp only[c];exact f _ _
 have hz:∀i n,bG (H i) (n+1) bt 0=bM T:=λi n=>by rw[c];exact E _ _ n
 have hs:∀i u v,(H i).set (h.length+1) [u,v]=G u v:=λi u v=>by rw[c];exact j _ _ _ _
 refine av.intro (S:=λ(i:Nat)=>⟨[(4,.pv (.ptr h.length 0)),(5,.pv (.ptr (h.length+1) 0)),(6,.pv (.fn (.func 103) [.ptr bt 0] [])),(17,.pv (.seq false 1 (aa lits))),(18,.pv (ae lits.length)),(19,.pv (ae i))],H i⟩) (λi=>i<=lits.length) (λi=>lits.length -i) 0 ?_ (RW _) ?_
 .refine(af.nilCell (b:=h.length+1) (k:=1) (xs:=[.pv (BL false),.pv (.lit (.slice none 0 0))]) 1 true (by simp;exact g _ _) (by simp)).trans (af.keep (by simp) ?_);simp[c,j,lQ,eZ,aa]
 intro i hi
 by_cases d:i<lits.length
 .have m:aR ((i:Int)+1)=((i+1:Nat):Int):=by rw[ap (by omega) (by omega)];omega
  have L:lits[i]?=some lits[i]:=RF d;have ho:=B5 T lits d;have w:=B6 T lits d;have K:(eZ T (lits.take i)).length<=i:=Sn (vE _ _) (by rw[RN];omega);simp[d,L,hz];refine aj.introP (M lits[i]) ?_
  by_cases o:cu T lits[i]=1
  .rw[RI (.inl o)]at ho;rw[Tk o,Vl]at w;simp[o,h1,F,hs,a,f,j];refine⟨by omega,i+1,by(try dsimp only);omega,by(try dsimp only);omega,af.keep (by simp[m]) ?_⟩;simp[c,j,ho,w,aa]
  .rw[TB o,U3]at w
   by_cases v0:cu T lits[i]=0
   .rw[RI (.inr v0)]at ho;simp[v0,h1,F,hs,a,f,j];refine⟨by omega,i+1,by(try dsimp only);omega,by(try dsimp only);omega,af.keep (by simp[m]) ?_⟩;simp[c,j,ho,w,aa]
   .rw[RH (λh=>h.elim o v0)]at ho;simp[v0,o];refine⟨i+1,by(try dsimp only);omega,by(try dsimp only);omega,af.keep (by simp[m]) ?_⟩;simp[c,j,ho,w,aa]
 .have:i=lits.length:=by omega
  subst this;simp only[c,e];simp[bu,bd,frzC]
def io:List Int->List Int->Nat
 |x::a,y::b=>if x=y then io a b+1 else 0
 |_,_=>0
def Iu(W:Wt)(now:List Int):Wt:=⟨W.prs,W.byl,W.late,if(io W.seen now:Int)<W.head then(io W.seen now:Int)else W.head,W.seen⟩
theorem B7(h:List (List SV))(bw ba bt:Nat)(W:Wt)(now:List Int)(l:h[bw]?=some (cB ba bt W))(m:now.length<=1000000)(hs:W.seen.length<=1000000):
 aB Tryz.prog 155 [.ptr bw 0,.seq false 1 (aa now)] h (λr h'=>h'=h.set bw (cB ba bt (Iu W now))∧r=.pv (.tup [])):=by
 refine cR [] [] aE Tryz.func155 ?_;obtain⟨c,d⟩:=RE.1 l;have j:io W.seen now=0+io (W.seen.drop 0) (now.drop 0):=by simp
 unfold Iu;generalize io W.seen now=P at*;simp;refine av.intro (S:=λ(k:Nat)=>⟨[(0,.pv (.ptr bw 0)),(1,.pv (.seq false 1 (aa now))),(4,.pv (ae k))],h⟩) (λk=>k<=W.seen.length∧k<=now.length∧P=k+io (W.seen.drop k) (now.drop k)) (λk=>W.seen.length -k) 0 ?_ ⟨RW _,RW _,j⟩ ?_
 .exact af.keep (by simp) rfl
 rintro k ⟨n,o,hk⟩;have f:aR ((k:Int)+1)=((k+1:Nat):Int):=by rw[ap (by omega) (by omega)];omega
 by_cases a:k<W.seen.length
 .have g:W.seen[k]?=some W.seen[k]:=RF a
  by_cases b:k<now.length
  .have i:now[k]?=some now[k]:=RF b;rw[Sk a,Sk b,io]at hk
   by_cases e:W.seen[k]=now[k]
   .rw[RI e]at hk;simp[c,d,cB,a,b,g,i,e];exact⟨k+1,by(try dsimp only);omega,⟨by(try dsimp only);omega,by(try dsimp only);omega,by(try dsimp only);omega⟩,af.keep (by simp[f]) rfl⟩
   .rw[RH e]at hk;have:P=k:=by omega
    subst this;simp[c,d,cB,a,b,g,i,e]
  .have:P=k:=by rw[Sc (show now.length<=k by omega)]at hk;cases hd:W.seen.drop k<;>rw[hd]at hk<;>simpa[io]using hk
   subst this;simp[c,d,cB,a,b,g]
 .have:P=k:=by rw[Sc (show W.seen.length<=k by omega)]at hk;simpa[io]using hk
  subst this;simp[c,d,cB,a]
end Go.AX
namespace Go.AX
open Go.Proofs
set_option linter.unusedSimpArgs false
structure Pr where
  lits:List Int
  x:Int
  y:Int
structure WS where
  prs:List (Int×Pr)
  byl:List (Int×List Int)
  late:List (Int×Int)
  head:Int
  seen:List Int
def pB(p:Pr):List SV:=jC p.lits p.x p.y
def PT(h:List (List SV))(e:By)(zs:List Int):Prop:=∃sp,h[e.b]?=some (aM zs++sp)∧(∀k,cX k sp)∧zs.length=e.n∧e.n<=e.cp∧e.cp<=e.n+sp.length
structure LayW (h:List (List SV)) (bw ba bt:Nat) (mp:List (Int×Nat)) (mb:List (Int×By)) (A:Ar) (T:Tr) (S:WS):Prop where
  w:h[bw]?=some (cB ba bt ⟨mp,mb,S.late,S.head,S.seen⟩)
  a:h[ba]?=some (mD A)
  t:h[bt]?=some (gv T)
  wa:bw≠ba
  wt:bw≠bt
  at':ba≠bt
  keys:mp.map (·.1)=S.prs.map (·.1)
  pr:∀k b,lk mp k=some b->∃p,lk S.prs k=some p∧h[b]?=some (pB p)∧b≠bw∧b≠ba∧b≠bt
  pinj:∀k k' b,lk mp k=some b->lk mp k'=some b->k=k'
  by':∀l e,lk mb l=some e->∃zs,lk S.byl l=some zs∧PT h e zs∧e.b≠bw∧e.b≠ba∧e.b≠bt
  byn:∀l,lk mb l=none->lk S.byl l=none
  binj:∀l l' e e',lk mb l=some e->lk mb l'=some e'->e.b=e'.b->l=l'
  pb:∀k b l e,lk mp k=some b->lk mb l=some e->b≠e.b
def aU(bw bt:Nat)(mp:List (Int×Nat))(mb:List (Int×By))(b:Nat):Prop:=b=bw∨b=bt∨(∃k,lk mp k=some b)∨∃l e,lk mb l=some e∧e.b=b
structure Ext (h h':List (List SV)) (D D':Nat->Prop):Prop where
  len:h.length<=h'.length
  same:∀b,b<h.length->¬D b->h'[b]?=h[b]?
  sub:∀b,b<h.length->D' b->D b
theorem Ext.refl(h:List (List SV))(D:Nat->Prop):Ext h h D D:=⟨RJ _,λ_ _ _=>rfl,λ_ _ h=>h⟩
theorem Ext.trans{h1 f g:List (List SV)}{c d e:Nat->Prop}(a:Ext h1 f c d)(b:Ext f g d e):Ext h1 g c e:=
 ⟨Sn a.len b.len,λk hk hn=>by rw[b.same k (SZ hk a.len) λhd=>hn (a.sub k hk hd),a.same k hk hn],λk hk hd=>a.sub k hk (b.sub k (SZ hk a.len) hd)⟩
theorem Ext.app(h g:List (List SV))(D:Nat->Prop):Ext h (h++g) D D:=
 ⟨by simp,λb a _=>RL a,λ_ _ h=>h⟩
theorem Ext.set{h:List (List SV)}{D:Nat->Prop}(b:Nat)(x:List SV)(hd:D b):Ext h (h.set b x) D D:=
 ⟨by simp,λk hk hn=>RY (λe:b=k=>hn (e▸hd)),λ_ _ h=>h⟩
theorem Ext.dom{h h':List (List SV)}{D D' c:Nat->Prop}(a:Ext h h' D D')(hs:∀b,b<h.length->c b->D b):Ext h h' D c:=⟨a.len,a.same,hs⟩
section
variable {h : List (List SV)} {bw ba bt : Nat} {mp : List (Int × Nat)} {mb : List (Int × By)} {A : Ar} {T : Tr} {S : WS}
theorem LayW.some_p(L:LayW h bw ba bt mp mb A T S){k:Int}{p:Pr}(hp:lk S.prs k=some p):∃b,lk mp k=some b∧h[b]?=some (pB p)∧b≠bw∧b≠ba∧b≠bt:=by
 have:∀(a:List (Int×Nat))(c:List (Int×Pr)),a.map (·.1)=c.map (·.1)->(lk c k).isSome=true->(lk a k).isSome=true:=by
  intro a
  induction a with
  |nil=>intro c h1 d;cases c with|nil=>exact d|cons _ _=>simp at h1
  |cons u a f=>
   intro c h1 d;cases c with
   |nil=>simp at h1
   |cons w c=>
    simp only[R4,Uc]at h1;rw[lk]at d⊢;rw[h1.1];split
    .rfl
    .rename_i hn;rw[RH hn]at d;exact f c h1.2 d
 obtain⟨b,e⟩:=UL.1 (this mp S.prs L.keys (by rw[hp];rfl));obtain⟨g,h1,d⟩:=L.pr k b e;rw[hp]at h1;cases h1
 exact⟨b,e,d⟩
theorem LayW.some_b(L:LayW h bw ba bt mp mb A T S){l:Int}{zs:List Int}(hz:lk S.byl l=some zs):∃e,lk mb l=some e∧PT h e zs∧e.b≠bw∧e.b≠ba∧e.b≠bt:=by
 cases a:lk mb l with
 |none=>rw[L.byn l a]at hz;cases hz
 |some e=>
  obtain⟨d,h1,c⟩:=L.by' l e a
  rw[hz]at h1;cases h1
  exact⟨e,rfl,c⟩
theorem LayW.app(L:LayW h bw ba bt mp mb A T S)(g:List (List SV)):LayW (h++g) bw ba bt mp mb A T S:=by
  have up:∀{b:Nat}{x:List SV},h[b]?=some x->(h++g)[b]?=some x:=λhx=>by rw[RL (RE.1 hx).1,hx]
  exact { w := up L.w, a := up L.a, t := up L.t, wa := L.wa, wt := L.wt, at' := L.at', keys := L.keys, pinj := L.pinj, byn := L.byn, binj := L.binj, pb := L.pb
          pr:=λk b hb=>by obtain⟨p,h1,h2,h3⟩:=L.pr k b hb;exact⟨p,h1,up h2,h3⟩
          by':=λl e he=>by
            obtain⟨zs,h1,⟨sp,h2,h3⟩,h4⟩:=L.by' l e he
            exact⟨zs,h1,⟨sp,up h2,h3⟩,h4⟩}
theorem LayW.setW(L:LayW h bw ba bt mp mb A T S)(late:List (Int×Int))(head:Int)(seen:List Int):LayW (h.set bw (cB ba bt ⟨mp,mb,late,head,seen⟩)) bw ba bt mp mb A T ⟨S.prs,S.byl,late,head,seen⟩:=by
  have hl:=(RE.1 L.w).1
  have up:∀{b:Nat}{x:List SV},b≠bw->h[b]?=some x->(h.set bw (cB ba bt ⟨mp,mb,late,head,seen⟩))[b]?=some x:=λhn hx=>by rw[RY (λe=>hn e.symm),hx]
  exact { w := Su hl, a := up L.wa.symm L.a, t := up L.wt.symm L.t, wa := L.wa, wt := L.wt, at' := L.at', keys := L.keys, pinj := L.pinj, byn := L.byn, binj := L.binj, pb := L.pb
          pr:=λk b hb=>by obtain⟨p,h1,h2,h3⟩:=L.pr k b hb;exact⟨p,h1,up h3.1 h2,h3⟩
          by':=λl e he=>by
            obtain⟨zs,h1,⟨sp,h2,h3⟩,h4⟩:=L.by' l e he
            exact⟨zs,h1,⟨sp,up h4.1 h2,h3⟩,h4⟩}
theorem LayW.setT(L:LayW h bw ba bt mp mb A T S)(T':Tr):LayW (h.set bt (gv T')) bw ba bt mp mb A T' S:=by
  have hl:=(RE.1 L.t).1
  have up:∀{b:Nat}{x:List SV},b≠bt->h[b]?=some x->(h.set bt (gv T'))[b]?=some x:=λhn hx=>by rw[RY (λe=>hn e.symm),hx]
  exact { w := up L.wt L.w, a := up L.at' L.a, t := Su hl, wa := L.wa, wt := L.wt, at' := L.at', keys := L.keys, pinj := L.pinj, byn := L.byn, binj := L.binj, pb := L.pb
          pr:=λk b hb=>by obtain⟨p,h1,h2,h3⟩:=L.pr k b hb;exact⟨p,h1,up h3.2.2 h2,h3⟩
          by':=λl e he=>by
            obtain⟨zs,h1,⟨sp,h2,h3⟩,h4⟩:=L.by' l e he
            exact⟨zs,h1,⟨sp,up h4.2.2 h2,h3⟩,h4⟩}
theorem zB{α β:Type}:∀(a:List (Int×α))(c:List (Int×β))(k:Int)(x:α)(y:β),a.map (·.1)=c.map (·.1)->(pt a k x).map (·.1)=(pt c k y).map (·.1)
 |[],[],_,_,_,_=>rfl
 |[],_::_,_,_,_,h=>by simp at h
 |_::_,[],_,_,_,h=>by simp at h
 |u::a,w::c,k,x,y,h=>by
  obtain⟨d,e⟩:=u;obtain⟨f,g⟩:=w;simp only[R4,Uc]at h;obtain⟨h1,b⟩:=h;subst h1;rw[pt,pt];split
  .simp[b]
  .simp only[R4];rw[zB a c k x y b]
theorem LayW.setP(L:LayW h bw ba bt mp mb A T S){k:Int}{b:Nat}(hb:lk mp k=some b)(p:Pr)(hkeep:mp.map (·.1)=(pt S.prs k p).map (·.1)):LayW (h.set b (pB p)) bw ba bt mp mb A T ⟨pt S.prs k p,S.byl,S.late,S.head,S.seen⟩:=by
  obtain⟨p0,q1,q2,q3,q4,q5⟩:=L.pr k b hb
  have hl:=(RE.1 q2).1
  have up:∀{c:Nat}{x:List SV},c≠b->h[c]?=some x->(h.set b (pB p))[c]?=some x:=λhn hx=>by rw[RY (λe=>hn e.symm),hx]
  exact { w := up q3.symm L.w, a := up q4.symm L.a, t := up q5.symm L.t, wa := L.wa, wt := L.wt, at' := L.at', keys := hkeep, pinj := L.pinj, byn := L.byn, binj := L.binj, pb := L.pb
          pr:=λk' b' hb'=>by
            obtain⟨p1,h1,h2,h3⟩:=L.pr k' b' hb'
            show∃p_1,lk (pt S.prs k p) k'=some p_1∧_
            rw[bK]
            by_cases e:k=k'
            · subst e
              rw[hb]at hb'
              cases hb'
              exact⟨p,RI rfl,Su hl,h3⟩
            · exact⟨p1,by rw[RH e];exact h1,up (λe2=>e (L.pinj k k' b hb (e2▸hb'))) h2,h3⟩
          by':=λl e he=>by
            obtain⟨zs,h1,⟨sp,h2,h3⟩,h4⟩:=L.by' l e he
            exact⟨zs,h1,⟨sp,up (L.pb k b l e hb he).symm h2,h3⟩,h4⟩}
theorem LayW.setB(L:LayW h bw ba bt mp mb A T S){l:Int}{e:By}(he:lk mb l=some e)(zs:List Int)(sp:List SV)(hsp:∀k,cX k sp)(n:Nat)(hn:zs.length=n)(h1:n<=e.cp)(h2:e.cp<=n+sp.length):
    LayW ((h.set e.b (aM zs++sp)).set bw (cB ba bt ⟨mp,pt mb l ⟨e.b,n,e.cp⟩,S.late,S.head,S.seen⟩)) bw ba bt mp (pt mb l ⟨e.b,n,e.cp⟩) A T ⟨S.prs,pt S.byl l zs,S.late,S.head,S.seen⟩:=by
  obtain⟨z0,q1,⟨sp0,q2,_⟩,q3,q4,q5⟩:=L.by' l e he
  have hl:=(RE.1 q2).1
  have hwl:=(RE.1 L.w).1
  have up:∀{c:Nat}{x:List SV},c≠bw->c≠e.b->h[c]?=some x->((h.set e.b (aM zs++sp)).set bw (cB ba bt ⟨mp,pt mb l ⟨e.b,n,e.cp⟩,S.late,S.head,S.seen⟩))[c]?=some x:=λn1 n2 hx=>by
    rw[RY (λe=>n1 e.symm),RY (λe=>n2 e.symm),hx]
  have self:((h.set e.b (aM zs++sp)).set bw (cB ba bt ⟨mp,pt mb l ⟨e.b,n,e.cp⟩,S.late,S.head,S.seen⟩))[e.b]?=some (aM zs++sp):=by
    rw[RY (λe=>q3 e.symm),Su hl]
  exact { w := Su (by simpa using hwl), a := up L.wa.symm q4.symm L.a, t := up L.wt.symm q5.symm L.t, wa := L.wa, wt := L.wt, at' := L.at', keys := L.keys, pinj := L.pinj
          pr:=λk b hb=>by obtain⟨p,a1,a2,a3⟩:=L.pr k b hb;exact⟨p,a1,up a3.1 (L.pb k b l e hb he) a2,a3⟩
          by':=λl' e' he'=>by
            rw[bK]at he'
            show∃zs_1,lk (pt S.byl l zs) l'=some zs_1∧_
            rw[bK]
            by_cases c:l=l'
            · rw[RI c]at he'
              cases he'
              exact⟨zs,RI c,⟨sp,self,hsp,hn,h1,h2⟩,q3,q4,q5⟩
            · rw[RH c]at he'
              obtain⟨z1,a1,⟨sp1,a2,a3⟩,a4⟩:=L.by' l' e' he'
              exact⟨z1,by rw[RH c];exact a1,⟨sp1,up a4.1 (λe2=>c (L.binj l' l e' e he' he e2).symm) a2,a3⟩,a4⟩
          byn:=λl' hn'=>by
            rw[bK]at hn'
            show lk (pt S.byl l zs) l'=none
            rw[bK]
            by_cases c:l=l'
            · rw[RI c]at hn';cases hn'
            · rw[RH c]at hn'⊢;exact L.byn l' hn'
          binj:=λl1 l2 e1 e2 h1' h2' hb=>by
            rw[bK]at h1' h2'
            by_cases c1:l=l1
            · by_cases c2:l=l2
              · exact c1.symm.trans c2
              · rw[RI c1]at h1';rw[RH c2]at h2';cases h1'
                exact absurd (L.binj l l2 e e2 he h2' hb) c2
            · rw[RH c1]at h1'
              by_cases c2:l=l2
              · rw[RI c2]at h2';cases h2'
                exact absurd (L.binj l1 l e1 e h1' he hb).symm c1
              · rw[RH c2]at h2'
                exact L.binj l1 l2 e1 e2 h1' h2' hb
          pb:=λk b l' e' hb he'=>by
            rw[bK]at he'
            by_cases c:l=l'
            · rw[RI c]at he';cases he';exact L.pb k b l e hb he
            · rw[RH c]at he';exact L.pb k b l' e' hb he'}
theorem LayW.newB(L:LayW h bw ba bt mp mb A T S)(l:Int)(zs:List Int)(sp:List SV)(hsp:∀k,cX k sp)(n cp:Nat)(hn:zs.length=n)(h1:n<=cp)(h2:cp<=n+sp.length):
    LayW ((h++[aM zs++sp]).set bw (cB ba bt ⟨mp,pt mb l ⟨h.length,n,cp⟩,S.late,S.head,S.seen⟩)) bw ba bt mp (pt mb l ⟨h.length,n,cp⟩) A T ⟨S.prs,pt S.byl l zs,S.late,S.head,S.seen⟩:=by
  have hwl:=(RE.1 L.w).1
  have lt:∀{b:Nat}{x:List SV},h[b]?=some x->b<h.length:=λhx=>(RE.1 hx).1
  have up:∀{c:Nat}{x:List SV},c≠bw->h[c]?=some x->((h++[aM zs++sp]).set bw (cB ba bt ⟨mp,pt mb l ⟨h.length,n,cp⟩,S.late,S.head,S.seen⟩))[c]?=some x:=λn1 hx=>by
    rw[RY (λe=>n1 e.symm),RL (lt hx),hx]
  have self:((h++[aM zs++sp]).set bw (cB ba bt ⟨mp,pt mb l ⟨h.length,n,cp⟩,S.late,S.head,S.seen⟩))[h.length]?=some (aM zs++sp):=by
    rw[RY (by omega)];simp
  exact { w := Su (by simp; omega), a := up L.wa.symm L.a, t := up L.wt.symm L.t, wa := L.wa, wt := L.wt, at' := L.at', keys := L.keys, pinj := L.pinj
          pr:=λk b hb=>by obtain⟨p,a1,a2,a3⟩:=L.pr k b hb;exact⟨p,a1,up a3.1 a2,a3⟩
          by':=λl' e' he'=>by
            rw[bK]at he'
            show∃zs_1,lk (pt S.byl l zs) l'=some zs_1∧_
            rw[bK]
            by_cases c:l=l'
            · rw[RI c]at he'
              cases he'
              exact⟨zs,RI c,⟨sp,self,hsp,hn,h1,h2⟩,UP hwl,UP (lt L.a),UP (lt L.t)⟩
            · rw[RH c]at he'
              obtain⟨z1,a1,⟨sp1,a2,a3⟩,a4⟩:=L.by' l' e' he'
              exact⟨z1,by rw[RH c];exact a1,⟨sp1,up a4.1 a2,a3⟩,a4⟩
          byn:=λl' hn'=>by
            rw[bK]at hn'
            show lk (pt S.byl l zs) l'=none
            rw[bK]
            by_cases c:l=l'
            · rw[RI c]at hn';cases hn'
            · rw[RH c]at hn'⊢;exact L.byn l' hn'
          binj:=λl1 l2 e1 e2 h1' h2' hb=>by
            have old:∀l' e',lk mb l'=some e'->e'.b<h.length:=λl' e' he'=>by obtain⟨_,_,⟨_,a2,_⟩,_⟩:=L.by' l' e' he';exact lt a2
            rw[bK]at h1' h2'
            by_cases c1:l=l1
            · by_cases c2:l=l2
              · exact c1.symm.trans c2
              · rw[RI c1]at h1';rw[RH c2]at h2';cases h1'
                have:=old l2 e2 h2'
                simp only at hb
                omega
            · rw[RH c1]at h1'
              by_cases c2:l=l2
              · rw[RI c2]at h2';cases h2'
                have:=old l1 e1 h1'
                simp only at hb
                omega
              · rw[RH c2]at h2'
                exact L.binj l1 l2 e1 e2 h1' h2' hb
          pb:=λk b l' e' hb he'=>by
            rw[bK]at he'
            by_cases c:l=l'
            · rw[RI c]at he';cases he'
              obtain⟨_,_,a2,_⟩:=L.pr k b hb
              exact VW (lt a2)
            · rw[RH c]at he';exact L.pb k b l' e' hb he'}
end
@[simp] theorem PU(l:List (Int×Nat))(k:Int):dF (a8 vD l) k=(lk l k).map vD:=jn vD l k
@[simp] theorem QY(l:List (Int×Nat))(k:Int)(b:Nat):ic (a8 vD l) k (.ptr b 0)=a8 vD (pt l k b):=lj vD l k b
@[simp] theorem PW(l:List (Int×By))(k:Int):dF (a8 Gl l) k=(lk l k).map Gl:=jn Gl l k
@[simp] theorem QZ(l:List (Int×By))(k:Int)(b n cp:Nat):ic (a8 Gl l) k (.bsl b 1 0 n cp)=a8 Gl (pt l k ⟨b,n,cp⟩):=lj Gl l k ⟨b,n,cp⟩
theorem Lg(x v:Int):am Tryz.prog 256 [ae x,.iptr 1 [[ae v]] 0 0] (λr=>r=.pv (BL (decide (x=v)))):=by
 refine aq aE Tryz.func256 ?_;simp
def fH(byl:List (Int×List Int))(k l:Int):List (Int×List Int):=if l=0 then byl else pt byl l (bk (λx=>decide (x=k)) ((lk byl l).getD []))
def mH(S:WS)(k:Int)(p:Pr):WS:=⟨pt S.prs k ⟨p.lits,0,0⟩,fH (fH S.byl k p.x) k p.y,S.late,S.head,S.seen⟩
def Iv:Sch:=
 let b:Sch:=.fork [(8,.done)]
 let a:Sch:=.fork [(5,.take 6 (.take 7 b))]
 let c:Sch:=.fork [(4,a)]
 let d:Sch:=.fork [(3,a)]
 let e:Sch:=.fork [(3,c),(4,d)]
 .take 0 (.take 1 (.take 2 (.take 9 e)))
def Iw:Sch:=
 let g:Sch:=.fork [(13,.done)]
 let b:Sch:=.fork [(12,g)]
 let h:Sch:=.fork [(11,b)]
 let f:Sch:=.fork [(10,b)]
 let i:Sch:=.fork [(10,h),(11,f)]
 let j:Sch:=.fork [(8,f)]
 let l:Sch:=.fork [(8,i),(11,j)]
 let m:Sch:=.fork [(3,g)]
 let k:Sch:=.fork [(3,b),(12,m)]
 let n:Sch:=.fork [(3,h),(11,k)]
 let a:Sch:=.fork [(3,f),(10,k)]
 let c:Sch:=.fork [(3,i),(10,n),(11,a)]
 let d:Sch:=.fork [(3,j),(8,a)]
 let e:Sch:=.fork [(3,l),(8,c),(11,d)]
 .take 0 (.take 1 (.take 2 (.take 4 (.take 5 (.take 6 (.take 7 (.take 9 e)))))))
def Ix:Sch:=
 let b:Sch:=.fork [(9,.done)]
 let f:Sch:=.fork [(6,.take 7 (.take 8 b))]
 let a:Sch:=.fork [(5,.take 7 (.take 8 b))]
 let c:Sch:=.fork [(5,f),(6,a)]
 let d:Sch:=.fork [(4,a)]
 let g:Sch:=.fork [(4,c),(6,d)]
 let e:Sch:=.fork [(3,a)]
 let h:Sch:=.fork [(3,c),(6,e)]
 let i:Sch:=.fork [(3,d),(4,e)]
 let j:Sch:=.fork [(3,g),(4,h),(6,i)]
 .take 0 (.take 1 (.take 2 j))
def B8(S:WS)(k:Int)(p:Pr):Nat->List (Int×List Int)
 |0=>S.byl
 |1=>fH S.byl k p.x
 |_=>fH (fH S.byl k p.x) k p.y
set_option maxRecDepth 16000 in
theorem B9(h:List (List SV))(bw ba bt:Nat)(mp:List (Int×Nat))(mb:List (Int×By))(A:Ar)(T:Tr)(S:WS)(L:LayW h bw ba bt mp mb A T S)(k:Int)(p:Pr)(hp:lk S.prs k=some p)
 (hx:p.x≠0->∃zs,lk S.byl p.x=some zs∧zs≠[]) (hy:p.y≠0->∃zs,lk (fH S.byl k p.x) p.y=some zs∧zs≠[]) (hz:∀l zs,lk S.byl l=some zs->zs.length<=1000000):
 aB Tryz.prog 195 [.ptr bw 0,ae k] h (λr h'=>r=.pv (.tup [])∧∃mb',LayW h' bw ba bt mp mb' A T (mH S k p)∧Ext h h' (aU bw bt mp mb) (aU bw bt mp mb')):=by
 refine cR [1,5,7] [] aE Tryz.func195 ?_;obtain⟨b,E,q1,q2,q3,q4⟩:=L.some_p hp;obtain⟨G,D⟩:∃G,G=h++[[SV.pv (ae k)]]:=⟨_,rfl⟩;have L0:LayW G bw ba bt mp mb A T S:=by rw[D];exact L.app _
 have I:G[h.length]?=some [.pv (ae k)]:=by rw[D];simp
 have aa:G[b]?=some (pB p):=by rw[D,RL (RE.1 q1).1,q1]
 obtain⟨w1,w2⟩:=RE.1 L0.w;obtain⟨k1,k2⟩:=RE.1 I;obtain⟨b1,b2⟩:=RE.1 aa;simp;rw[←D];have ag:h.length≠bw:=UP (RE.1 L.w).1;have old:∀l e,lk mb l=some e->e.b<h.length:=λl e v=>by obtain⟨_,_,⟨_,a2,_⟩,_⟩:=L.by' l e v;exact(RE.1 a2).1
 refine aQ.meet Iv ⟨[(0,.pv (.ptr bw 0)),(3,.pv (.ptr h.length 0)),(14,.pv (.agg [ae p.x,ae p.y])),(15,.pv (ae 0))],G⟩ (by kernel_rfl) ?_ ?_
 .simp[Iv,w1,w2,cB,k1,k2,b1,b2,pB,jC,E,vD];and_intros
  all_goals exact af.keep (by simp) rfl
 simp;refine av.intro (S:=λ(x:Nat×List (List SV)×List (Int×By))=>⟨[(0,.pv (.ptr bw 0)),(3,.pv (.ptr h.length 0)),(14,.pv (.agg [ae p.x,ae p.y])),(15,.pv (ae x.1))],x.2.1⟩)
  (λx=>x.1<=2∧LayW x.2.1 bw ba bt mp x.2.2 A T ⟨S.prs,B8 S k p x.1,S.late,S.head,S.seen⟩∧x.2.1[h.length]?=some [.pv (ae k)]∧Ext G x.2.1 (aU bw bt mp mb) (aU bw bt mp x.2.2)∧(∀l e,lk x.2.2 l=some e->e.b<h.length)∧∀l zs,lk (B8 S k p x.1) l=some zs->zs.length<=1000000)
  (λx=>2 -x.1) (0,G,mb) ?_ ⟨RW _,L0,I,Ext.refl _ _,old,hz⟩ ?_
 .exact af.keep (by simp) rfl
 rintro⟨i,H,mb'⟩ ⟨hi,s,j,P,f,o⟩;dsimp only at hi s j P f o;obtain⟨v1,v2⟩:=RE.1 s.w;obtain⟨j1,j2⟩:=RE.1 j
 by_cases d:i<2
 .obtain⟨l,B⟩:∃l,l=if i=0 then p.x else p.y:=⟨_,rfl⟩;have F:[ae p.x,ae p.y][i]?=some (ae l):=by
   have:i=0∨i=1:=by omega
   rcases this with rfl|rfl
   .rw[B];rfl
   .rw[B];rfl
  have g:∀hh:i<[ae p.x,ae p.y].length,[ae p.x,ae p.y][i]'hh=ae l:=λhh=>by
   have:=RE.1 F;exact this.2
  have d':(i:Int)<2:=by omega
  have M:aR ((i:Int)+1)=((i+1:Nat):Int):=by rw[ap (by omega) (by omega)];omega
  have a:B8 S k p (i+1)=fH (B8 S k p i) k l:=by
   have:i=0∨i=1:=by omega
   rcases this with rfl|rfl
   .rw[B];rfl
   .rw[B];rfl
  by_cases l0:l=0
  .simp[d,d',g,l0];rw[l0]at a;refine⟨(i+1,H,mb'),by(try dsimp only);omega,⟨by(try dsimp only);omega,?_,j,P,f,?_⟩,af.keep (by simp[M]) rfl⟩
   .dsimp only;rw[a];exact s
   .dsimp only;rw[a];exact o
  .have ad:∃zs,lk (B8 S k p i) l=some zs∧zs≠[]:=by
    have:i=0∨i=1:=by omega
    rcases this with rfl|rfl
    .have e:l=p.x:=B;rw[e]at l0⊢;exact hx l0
    .have e:l=p.y:=B;rw[e]at l0⊢;exact hy l0
   obtain⟨zs,n,O⟩:=ad;obtain⟨e,v,⟨sp,e1,e2,e3,e4,e5⟩,e6,e7,e8⟩:=s.some_b n;have N:zs.length<=1000000:=o l zs n;have J:0<zs.length:=To.2 O;have C:(bk (λx=>decide (x=k)) zs).length<=zs.length:=jS _ _;have V:=iJ zs N 256 [.iptr 1 [[ae k]] 0 0] (λx=>decide (x=k)) (λr=>by simp) rfl (λm=>by simp) (by simp) (λx _=>Lg x k);have ai:e.b<H.length:=(RE.1 e1).1;have t:h.length≠e.b:=UP (f l e v);obtain⟨Z,hZ⟩:∃Z,Z=bk (λx=>decide (x=k)) zs:=⟨_,rfl⟩;rw[←hZ]at C;unfold KK at V;rw[←hZ]at V;obtain⟨X,hX⟩:∃X:List SV,X=(Z++List.replicate (zs.length -Z.length) 0).map (λz=>SV.pv (.lit (.int .i64 z)))++sp:=⟨_,rfl⟩;have K:B8 S k p (i+1)=pt (B8 S k p i) l Z:=by
    rw[a];unfold fH;rw[RH l0,n,Sm,hZ]
   have Y:X=aM Z++((List.replicate (zs.length -Z.length) 0).map (λz=>SV.pv (.lit (.int .i64 z)))++sp):=by
    rw[hX,Sb,Si];rfl
   have LN:=s.setB v Z ((List.replicate (zs.length -Z.length) 0).map (λz=>SV.pv (.lit (.int .i64 z)))++sp) (λm=>qp m (e2 m) _) Z.length rfl (by omega) (by simp;omega);rw[←Y]at LN;simp[d,d',g,l0];refine aQ.meet Iw ⟨[(0,.pv (.ptr bw 0)),(3,.pv (.ptr h.length 0)),(14,.pv (.agg [ae p.x,ae p.y])),(15,.pv (ae i))],(H.set e.b X).set bw (cB ba bt ⟨mp,pt mb' l ⟨e.b,Z.length,e.cp⟩,S.late,S.head,S.seen⟩)⟩ (by kernel_rfl) ?_ ?_
   .simp[Iw,v1,v2,cB,j1,j2,v,Gl];and_intros
    all_goals
     refine aj.introX (bC.introT (b:=e.b) (b2:=h.length) (zs:=zs) (sp:=sp) (cp:=e.cp) V (by simp) (by simp) rfl (by simp) (by simp[e3]) (by simp) (by simp) e1 j t J N ?_);rintro _ _ ⟨rfl,rfl⟩;refine⟨_,_,rfl,rfl,by simp;omega,C,?_⟩;rw[←hX];simp[v1,v2,cB,e6,e6.symm,aI];exact af.keep (by simp) rfl
   .simp;refine⟨(i+1,_,pt mb' l ⟨e.b,Z.length,e.cp⟩),by(try dsimp only);omega,⟨by(try dsimp only);omega,?_,?_,?_,?_,?_⟩,af.keep (by simp[M]) rfl⟩
    .dsimp only;rw[K];exact LN
    .dsimp only;rw[RY (λq=>ag q.symm),RY (λq=>t q.symm)];exact j
    .dsimp only;refine P.trans (((Ext.set e.b X (.inr (.inr (.inr ⟨l,e,v,rfl⟩)))).trans (Ext.set bw _ (.inl rfl))).dom ?_);rintro c _ (q|q|q|⟨l',e',q,rfl⟩)
     .exact .inl q
     .exact .inr (.inl q)
     .exact .inr (.inr (.inl q))
     .rw[bK]at q;split at q
      .cases q;exact .inr (.inr (.inr ⟨l,e,v,rfl⟩))
      .exact .inr (.inr (.inr ⟨l',e',q,rfl⟩))
    .intro l' e' q;dsimp only at q;rw[bK]at q;split at q
     .cases q;exact f l e v
     .exact f l' e' q
    .intro l' ah q;dsimp only at q;rw[K,bK]at q;split at q
     .cases q;omega
     .exact o l' ah q
 .have:i=2:=by omega
  subst this;obtain⟨R,r1,r2,r3,r4,r5⟩:=s.pr k b E;have ab:R=p:=by rw[hp]at r1;cases r1;rfl
  subst ab; obtain ⟨c1, c2⟩ := RE.1 r2; have LF := s.setP E ⟨R.lits, 0, 0⟩ (by
   have:∀(l:List (Int×Pr))(q:Pr),lk l k=some q->(pt l k ⟨R.lits,0,0⟩).map (·.1)=l.map (·.1):=by
    intro l q Q
    induction l with
    |nil=>cases Q
    |cons u l ih=>
     obtain⟨u1,u2⟩:=u;rw[pt];rw[lk]at Q;split
     .rename_i U;simp only[R4,U]
     .rename_i U;rw[RH U]at Q;simp only[R4];rw[ih Q]
   exact s.keys.trans (this _ _ hp).symm)
  have W:Ext h (H.set b (pB ⟨R.lits,0,0⟩)) (aU bw bt mp mb) (aU bw bt mp mb'):=by
   have a1:Ext h G (aU bw bt mp mb) (aU bw bt mp mb):=by rw[D];exact Ext.app _ _ _
   exact(a1.trans P).trans (Ext.set b _ (.inr (.inr (.inl ⟨k,E⟩))))
  simp;refine aQ.one Ix (by kernel_rfl) ?_;simp[Ix,v1,v2,cB,j1,j2,c1,c2,pB,jC,E,vD];exact⟨mb',LF,W⟩
def Iy:Sch:=
 let e:Sch:=.fork [(12,.done)]
 let a:Sch:=.fork [(9,.take 10 (.take 11 e))]
 let b:Sch:=.fork [(8,a)]
 let f:Sch:=.fork [(6,.take 7 b)]
 let c:Sch:=.fork [(4,a)]
 let d:Sch:=.fork [(4,b),(8,c)]
 let g:Sch:=.fork [(4,f),(6,.take 7 d)]
 let h:Sch:=.fork [(2,.take 3 c)]
 let i:Sch:=.fork [(2,.take 3 d),(8,h)]
 let j:Sch:=.fork [(2,.take 3 g),(6,.take 7 i)]
 .take 0 (.take 1 (.take 5 j))
def xu:Sch:=
 let g:Sch:=.fork [(14,.done)]
 let b:Sch:=.fork [(13,g)]
 let h:Sch:=.fork [(12,b)]
 let f:Sch:=.fork [(10,b)]
 let i:Sch:=.fork [(10,h),(12,f)]
 let j:Sch:=.fork [(8,f)]
 let l:Sch:=.fork [(8,i),(12,j)]
 let m:Sch:=.fork [(3,g)]
 let k:Sch:=.fork [(3,b),(13,m)]
 let n:Sch:=.fork [(3,h),(12,k)]
 let a:Sch:=.fork [(3,f),(10,k)]
 let c:Sch:=.fork [(3,i),(10,n),(12,a)]
 let d:Sch:=.fork [(3,j),(8,a)]
 let e:Sch:=.fork [(3,l),(8,c),(12,d)]
 .take 0 (.take 1 (.take 2 (.take 4 (.take 5 (.take 6 (.take 7 (.take 9 (.take 11 e))))))))
def DG:Sch:=
 let a:Sch:=.fork [(9,.done)]
 let b:Sch:=.fork [(7,a)]
 let c:Sch:=.fork [(5,.take 6 b)]
 let d:Sch:=.fork [(3,a)]
 let e:Sch:=.fork [(3,b),(7,d)]
 let f:Sch:=.fork [(3,c),(5,.take 6 e)]
 .take 0 (.take 1 (.take 2 (.take 4 (.take 8 f))))
def gE(byl:List (Int×List Int))(k l:Int):List (Int×List Int):=pt byl l ((lk byl l).getD []++[k])
def jK(S:WS)(T:Tr)(k:Int)(p:Pr):WS:=
 if 2<=(eZ T p.lits).length then⟨pt S.prs k ⟨p.lits,(eZ T p.lits).getD 0 0,(eZ T p.lits).getD 1 0⟩,gE (gE S.byl k ((eZ T p.lits).getD 0 0)) k ((eZ T p.lits).getD 1 0),dl S.late k,S.head,S.seen⟩else S
def l5(T:Tr)(k:Int)(p:Pr):Tr:=
 if(eZ T p.lits).length=1∧lQ T p.lits=false then jb T ((eZ T p.lits).getD 0 0) k else T
def mI(T:Tr)(p:Pr):Bool:=decide ((eZ T p.lits).length=0)
@[simp] theorem Nd:∀(l:List (Int×Int))(k:Int),jg k (a8 fI l)=a8 fI (dl l k)
 |[],k=>rfl
 |(j,x)::l,k=>by
  show(if j=k then a8 fI l else(j,fI x)::jg k (a8 fI l))=a8 fI (if j=k then l else(j,x)::dl l k);rw[Nd l k];split<;>rfl
theorem iS{α:Type}{k:Int}(y:α):∀{l:List (Int×α)}{q:α},lk l k=some q->(pt l k y).map (·.1)=l.map (·.1)
 |[],_,h=>by cases h
 |(b,c)::l,q,h=>by
  rw[pt];rw[lk]at h;split
  .rename_i a;simp only[R4,a]
  .rename_i a;rw[RH a]at h;simp only[R4];rw[iS y h]
theorem gT(k:Nat):∀n:Nat,cX k (List.replicate n (SV.pv .bot))
 |0=>trivial
 |n+1=>⟨trivial,gT k n⟩
def qr(byl:List (Int×List Int))(k x y:Int):Nat->List (Int×List Int)
 |0=>byl
 |1=>gE byl k x
 |_=>gE (gE byl k x) k y
set_option maxRecDepth 16000 in
theorem vF(h:List (List SV))(bw ba bt:Nat)(mp:List (Int×Nat))(mb:List (Int×By))(A:Ar)(T:Tr)(S:WS)(L:LayW h bw ba bt mp mb A T S)(k:Int)(p:Pr)(hp:lk S.prs k=some p)(hT:T.ok)(ah:T.lits.length<=1000000)(M:p.lits.length<=1000000)
 (hz:∀l zs,lk S.byl l=some zs->zs.length<=1000000):
 aB Tryz.prog 233 [.ptr bw 0,ae k] h (λr h'=>r=.pv (BL (mI T p))∧∃mb',LayW h' bw ba bt mp mb' A (l5 T k p) (jK S T k p)∧Ext h h' (aU bw bt mp mb) (aU bw bt mp mb')):=by
 refine cR [6,10,14] [.tmp 4] aE Tryz.func233 ?_;obtain⟨b,hb,q1,q2,q3,q4⟩:=L.some_p hp;have ag:=It h bw ba bt b ⟨mp,mb,S.late,S.head,S.seen⟩ T p.lits p.x p.y L.w L.t q1 hT M;obtain⟨w1,w2⟩:=RE.1 L.w;obtain⟨b1,b2⟩:=RE.1 q1;have az:=vE T p.lits;unfold jK l5 mI;generalize eZ T p.lits=O at*;generalize lQ T p.lits=Hd at*;simp[w1,w2,cB,hb,vD];refine aj.intro ag ?_;rintro _ h2 ⟨e,rfl⟩;rw[e];clear e h2;obtain⟨G,E⟩:∃G,G=h++[[SV.pv (BL Hd),SV.pv (PV.seq true 1 (aa O))]]:=⟨_,rfl⟩;have L0:LayW G bw ba bt mp mb A T S:=by rw[E];exact L.app _
 have E0:Ext h G (aU bw bt mp mb) (aU bw bt mp mb):=by rw[E];exact Ext.app _ _ _
 have aq:G[h.length]?=some [SV.pv (BL Hd),SV.pv (PV.seq true 1 (aa O))]:=by rw[E];simp
 have an:G[b]?=some (pB p):=by rw[E,RL b1,q1]
 obtain⟨g1,g2⟩:=RE.1 L0.w;obtain⟨f1,f2⟩:=RE.1 aq;obtain⟨c1,c2⟩:=RE.1 an;have ay:b≠h.length:=VW b1;have aA:bw≠h.length:=VW w1;rcases O with _|⟨f,_|⟨g,O'⟩⟩
 .simp;rw[←E];exact⟨mb,L0,E0⟩
 .simp;rw[←E];cases Hd
  .simp;have kI:=vd G bt T L0.t f k hT ah;refine aQ.one DG (by kernel_rfl) ?_;simp[DG,g1,g2,cB,f1,f2];and_intros
   all_goals
    refine aj.intro kI ?_;rintro _ _ ⟨rfl,rfl⟩;simp;exact⟨mb,L0.setT _,E0.trans (Ext.set bt _ (.inr (.inl rfl)))⟩
  .simp;exact⟨mb,L0,E0⟩
 .have X:¬((O'.length:Int)+1+1=0):=by omega
  have J:(2:Int)<=(O'.length:Int)+1+1:=by omega
  have K:¬(O'.length+1+1=1):=by omega
  simp[X,J,K];rw[←E];have L1:=L0.setP hb ⟨p.lits,f,g⟩ (L0.keys.trans (iS _ hp).symm);have E1:Ext h (G.set b (pB ⟨p.lits,f,g⟩)) (aU bw bt mp mb) (aU bw bt mp mb):=E0.trans (Ext.set b _ (.inr (.inr (.inl ⟨k,hb⟩))));have V:b<(G.set b (pB ⟨p.lits,f,g⟩)).length:=by simpa using c1
  have ak:(G.set b (pB ⟨p.lits,f,g⟩))[b]'V=jC p.lits f g:=by simp[pB]
  refine aQ.meet Iy ⟨[(0,.pv (.ptr bw 0)),(1,.pv (ae k)),(5,.pv (.ptr b 0)),(6,.pv (.ptr h.length 0))],G.set b (pB ⟨p.lits,f,g⟩)⟩ (by kernel_rfl) ?_ ?_
  .simp[Iy,f1,f2,c1,c2,pB,jC];and_intros
   all_goals first|omega|exact af.keep (by simp) rfl
  generalize G.set b (pB ⟨p.lits,f,g⟩)=G1 at*;simp[V,ak,jC];refine av.intro (S:=λ(x:Nat×List (List SV)×List (Int×By))=>⟨[(0,.pv (.ptr bw 0)),(1,.pv (ae k)),(43,.pv (.agg [ae f,ae g])),(44,.pv (ae x.1))],x.2.1⟩)
   (λx=>x.1<=2∧LayW x.2.1 bw ba bt mp x.2.2 A T ⟨pt S.prs k ⟨p.lits,f,g⟩,qr S.byl k f g x.1,S.late,S.head,S.seen⟩∧Ext G1 x.2.1 (aU bw bt mp mb) (aU bw bt mp x.2.2)∧∀l zs,lk (qr S.byl k f g x.1) l=some zs->zs.length<=1000000+x.1)
   (λx=>2 -x.1) (0,G1,mb) ?_ ⟨RW _,L1,Ext.refl _ _,hz⟩ ?_
  .exact af.keep (by simp) rfl
  rintro⟨i,H,mb'⟩ ⟨hi,v,hE,D⟩;dsimp only at hi v hE D;obtain⟨N,v2⟩:=RE.1 v.w
  by_cases d:i<2
  .obtain⟨l,M⟩:∃l,l=if i=0 then f else g:=⟨_,rfl⟩;have W:[ae f,ae g][i]?=some (ae l):=by
    have:i=0∨i=1:=by omega
    rcases this with rfl|rfl
    .rw[M];rfl
    .rw[M];rfl
   have F:∀hh:i<[ae f,ae g].length,[ae f,ae g][i]'hh=ae l:=λhh=>(RE.1 W).2;have d':(i:Int)<2:=by omega
   have ar:aR ((i:Int)+1)=((i+1:Nat):Int):=by rw[ap (by omega) (by omega)];omega
   have o:qr S.byl k f g (i+1)=gE (qr S.byl k f g i) k l:=by
    have:i=0∨i=1:=by omega
    rcases this with rfl|rfl
    .rw[M];rfl
    .rw[M];rfl
   simp[d,d',F];refine aQ.blk [60] xu (λx:List (List SV)×List (Int×By)=>⟨[(0,.pv (.ptr bw 0)),(1,.pv (ae k)),(43,.pv (.agg [ae f,ae g])),(44,.pv (ae i))],x.1⟩)
    (λx=>LayW x.1 bw ba bt mp x.2 A T ⟨pt S.prs k ⟨p.lits,f,g⟩,qr S.byl k f g (i+1),S.late,S.head,S.seen⟩∧Ext H x.1 (aU bw bt mp mb') (aU bw bt mp x.2)) (by kernel_rfl) ?_ ?_
   .have hA:∀x,(H++[x])[bw]?=some (cB ba bt ⟨mp,mb',S.late,S.head,S.seen⟩):=λx=>by rw[RL N];exact v.w
    have dom:∀e',(∀c,c<H.length->e'.b=c->∃l0 e0,lk mb' l0=some e0∧e0.b=c)->∀c,c<H.length->aU bw bt mp (pt mb' l e') c->aU bw bt mp mb' c:=λe' ao c s q=>by
     rcases q with q|q|q|⟨l',e2,q,q2⟩
     .exact .inl q
     .exact .inr (.inl q)
     .exact .inr (.inr (.inl q))
     .rw[bK]at q;split at q
      .cases q;exact .inr (.inr (.inr (ao c s q2)))
      .exact .inr (.inr (.inr ⟨l',e2,q,q2⟩))
    cases j:lk mb' l with
    |none=>
     have ai:=v.byn l j;have C:qr S.byl k f g (i+1)=pt (qr S.byl k f g i) l [k]:=by
      rw[o];unfold gE;rw[ai];rfl
     have LN:∀cap,1<=cap->LayW (H.set bw (cB ba bt ⟨mp,pt mb' l ⟨H.length,1,cap⟩,S.late,S.head,S.seen⟩)++[SV.pv (ae k)::List.replicate (cap -1) (SV.pv .bot)]) bw ba bt mp (pt mb' l ⟨H.length,1,cap⟩) A T ⟨pt S.prs k ⟨p.lits,f,g⟩,qr S.byl k f g (i+1),S.late,S.head,S.seen⟩:=λcap s=>by
      have:=v.newB l [k] (List.replicate (cap -1) (SV.pv .bot)) (λm=>gT m _) 1 cap rfl s (by simp;omega);rw[C];rw[U7 _ _ N]at this;exact this
     have EN:∀cap x y,Ext H (H.set bw x++[y]) (aU bw bt mp mb') (aU bw bt mp (pt mb' l ⟨H.length,1,cap⟩)):=λcap x y=>by
      refine(((Ext.set bw x (.inl rfl)).trans (Ext.app _ [y] _)).dom (dom _ λc s e=>?_));simp only at e;omega
     simp[xu,N,v2,cB,j,hA];and_intros
     all_goals
      intro cap s;exact⟨_,⟨pt mb' l ⟨H.length,1,cap⟩,LN cap s,EN cap _ _⟩,af.keep (by simp) rfl⟩
    |some e=>
     obtain⟨zs,ab,⟨sp,e1,e2,e3,e4,e5⟩,e6,e7,e8⟩:=v.by' l e j
     obtain⟨u1,u2⟩:=RE.1 e1;have ad:¬bw=e.b:=λq=>e6 q.symm;have C:qr S.byl k f g (i+1)=pt (qr S.byl k f g i) l (zs++[k]):=by
      rw[o];unfold gE;rw[ab];rfl
     have I:(aM zs).length=e.n:=by rw[oB];exact e3
     have aC:e.n<=1000000+i:=by rw[←e3];exact D l zs ab
     have P:∀m (s0:List SV),cX m s0->cX m (s0.drop 1):=λm s0 Z=>by cases s0 with|nil=>exact Z|cons _ _=>exact Z.2
     have ax:(aM zs++sp).length=e.n+sp.length:=by rw[RP,I]
     have B:(aM zs++sp).take e.n=aM zs:=TU I;have U:(aM zs++sp).take e.n=(zs.map λz=>PV.lit (.int .i64 z)).map SV.pv:=by rw[B];unfold aM;rw[SJ];rfl
     have u:∀R:List SV,aM (zs++[k])++R=aM zs++SV.pv (ae k)::R:=λR=>by unfold aM;rw[Sb,Si];rfl
     have Q:(aM zs++sp).drop (e.n+1)=sp.drop 1:=by rw[←I,V9];simp
     have LR:e.n+1<=e.cp->LayW ((H.set e.b (List.take e.n (aM zs++sp)++SV.pv (ae k)::List.drop (e.n+1) (aM zs++sp))).set bw (cB ba bt ⟨mp,pt mb' l ⟨e.b,e.n+1,e.cp⟩,S.late,S.head,S.seen⟩)) bw ba bt mp (pt mb' l ⟨e.b,e.n+1,e.cp⟩) A T ⟨pt S.prs k ⟨p.lits,f,g⟩,qr S.byl k f g (i+1),S.late,S.head,S.seen⟩:=λhr=>by
      rw[B,Q,←u,C];exact v.setB j (zs++[k]) (sp.drop 1) (λm=>P m sp (e2 m)) (e.n+1) (by simp;omega) hr (by rw[Sv];omega)
     have LG:∀a,e.n+1<=a->LayW (H.set bw (cB ba bt ⟨mp,pt mb' l ⟨H.length,e.n+1,a⟩,S.late,S.head,S.seen⟩)++[(zs.map λz=>PV.lit (.int .i64 z)).map SV.pv++SV.pv (ae k)::List.replicate (a -(e.n+1)) (SV.pv .bot)]) bw ba bt mp (pt mb' l ⟨H.length,e.n+1,a⟩) A T ⟨pt S.prs k ⟨p.lits,f,g⟩,qr S.byl k f g (i+1),S.late,S.head,S.seen⟩:=λa s=>by
      have:=v.newB l (zs++[k]) (List.replicate (a -(e.n+1)) (SV.pv .bot)) (λm=>gT m _) (e.n+1) a (by simp;omega) s (by simp;omega);rw[C,←U,B];rw[U7 _ _ N,u]at this;exact this
     have ER:∀x y,Ext H ((H.set e.b x).set bw y) (aU bw bt mp mb') (aU bw bt mp (pt mb' l ⟨e.b,e.n+1,e.cp⟩)):=λx y=>by
      refine(((Ext.set e.b x (.inr (.inr (.inr ⟨l,e,j,rfl⟩)))).trans (Ext.set bw y (.inl rfl))).dom (dom _ λc s q=>?_));exact⟨l,e,j,q⟩
     have EG:∀a x y,Ext H (H.set bw x++[y]) (aU bw bt mp mb') (aU bw bt mp (pt mb' l ⟨H.length,e.n+1,a⟩)):=λa x y=>by
      refine(((Ext.set bw x (.inl rfl)).trans (Ext.app _ [y] _)).dom (dom _ λc s q=>?_));simp only at q;omega
     clear B Q u;generalize hY:aM zs++sp=Y at*;simp[xu,N,v2,cB,j,Gl,u1,u2,hA,e6,ad];and_intros
     all_goals first
      |omega
      |(refine⟨_,U,by simpa using e3,λhr=>⟨_,⟨_,LR hr,ER _ _⟩,af.keep (by simp) rfl⟩,λhn a s=>⟨_,⟨_,LG a s,EG a _ _⟩,af.keep (by simp) rfl⟩⟩)
   .rintro⟨H2,au⟩ ⟨LN,EN⟩;simp;refine⟨(i+1,H2,au),by(try dsimp only);omega,⟨by(try dsimp only);omega,LN,hE.trans EN,λl' aw q=>?_⟩,af.keep (by simp[ar]) rfl⟩;dsimp only at q⊢;rw[o]at q;unfold gE at q;rw[bK]at q;split at q
    .cases q
     rw[RP,S9];cases hq:lk (qr S.byl k f g i) l with
     |none=>simp only[Option.getD_none,List.length_nil];omega
     |some z0=>have:=D l z0 hq;simp only[Sm];omega
    .have:=D l' aw q;omega
  .have:i=2:=by omega
   subst this;simp[N,v2,cB];exact⟨mb',v.setW (dl S.late k) S.head S.seen,(E1.trans hE).trans (Ext.set bw _ (.inl rfl))⟩
end Go.AX