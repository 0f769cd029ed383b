/-
  The library: a map's keys, sorted, whatever its values; a slice's values, sorted.
  The library: slices.BinarySearch of numbers.
  Contracts: lrat.Checker: its numbers; what is dropped.
  Contracts: lrat: a group of hints is noted.
  Contracts: rat.Show.
  Contracts: lrat.Checker: may a clause be added?
  Contracts: lrat.Checker: a step.
  Contracts: lrat.New, lrat.Check.
  Contracts: trim: what is needed.
  Contracts: trim.copied, trim.Trim.
  Contracts: slices.DeleteFunc of a block's numbers.
  Contracts: cnf.With.
  Contracts: replevinlaw10.Few, replevinlaw43.few, three; replevinref10.Same.
  Plain facts: checkers, and what is left of a plain proof.
  Plain facts: what is left of a proof is accepted, and is left as it is.
  Plain facts: what is needed, and the core.
-/
import Derived.Test.YtepodadinenmnaaGreatS14AxEvG
import Derived.Test.YtepodadinenmnaaGreatS14AxTmL
import Derived.Test.YtepodadinenmnaaGreatS14AxTmQ
import Derived.Test.YtepodadinenmnaaGreatAxR
import Derived.Test.YtepodadinenmnaaGreatAxIs
import Derived.Test.YtepodadinenmnaaGreatAxAg
namespace Go.AX
open Go.Proofs Go.Maps Go.Shelf
set_option linter.unusedSimpArgs false
def Ep(_:Value):Option (DataW Unit×List MemPlace):=some (.lit (.int .i64 0),[])
def k0(ks:List Int):List (Int×Int):=ks.map λx=>(x,0)
def dE(l:List Int):List Int:=l.mergeSort λx y=>decide (x<=y)
theorem td{β:Type}{f:β->PV}{G:Gh}:∀{a:List (Int×β)}{en:List MapEntry},bn G (aS f a) en->en.map (·.key)=(a.map (·.1)).map λx=>.int .i64 x
 |[],en,h=>by
  have:en=[]:=h;rw[this];rfl
 |q::a,en,⟨m,r,h1,b,d,c⟩=>by
  subst h1;rw[Ow,Ow,Ow,td c,b]
section
variable {P : Program} {k : TypeId}
theorem Eq(hk:P.underlying k=some (.int .i64)):∀{en:List MapEntry}{ks:List Int},en.map (·.key)=ks.map (λx=>.int .i64 x)->(∀x∈ks,CC x)->
 en.map (WideElems.rg P k Ep)=JK (k0 ks)∧∀m∈en,∃y,WideElems.rd P k Ep m=some y
 |[],ks,h,_=>by
  cases ks with
  |nil=>exact⟨rfl,λm e=>by cases e⟩
  |cons _ _=>cases h
 |m::en,ks,h,c=>by
  cases ks with
  |nil=>cases h
  |cons q ks=>
   rw[Ow,Ow]at h;injection h with h1 d;obtain⟨g,i⟩:=Eq hk d (λq f=>c q (Ou _ f));have b:WideElems.rd P k Ep m=some (.int .i64 q,.lit (.int .i64 0)):=by
    unfold WideElems.rd;rw[h1,keyOf_int_mk hk (c q OA)];simp[Ep]
   refine⟨?_,λj a=>?_⟩
   .rw[Ow,g,WideElems.rg_of b];rfl
   .rcases OB.1 a with rfl|a
    .exact⟨_,b⟩
    .exact i j a
theorem Er{β:Type}{f:β->PV}(hk:P.underlying k=some (.int .i64)){w:World}{c:Nat}{en:Array MapEntry}{ck:Nat}{G:Gh}{a:List (Int×β)}(e:w.heap[c]?=some (.map en ck))(g:bn G (aS f a) en.toList)(b:MapKept.Stamped en ck)
 (i:∀q∈a,CC q.1) (m:a.length<=maxLen):w.ownsMap P k Ep c a.length (GD (k0 (a.map (·.1)))):=by
 have d:=td g;have hn:en.size=a.length:=by
  have:=QH List.length d;simpa using this
 obtain ⟨j, l⟩ := Eq hk d (λ x hx => by
  rw[Of]at hx;obtain⟨q,h,rfl⟩:=hx;exact i q h)
 exact⟨en,ck,e,⟨by omega,b,l⟩,by omega,by unfold GD;rw[j]⟩
end
theorem Hh(ks:List Int):(k0 ks).map (·.1)=ks:=by
 unfold k0;rw[Pa];exact List.map_id ks
theorem NA:bJ Tryz.prog (Tryz.sortedA_ren.t 24)=some (1,8):=by kernel_rfl
theorem uK{β:Type}(f:β->PV)(j:Nat)(a:List (Int×β))(Z:∀q∈a,CC q.1)(J:a.length<=1000000)(A:∀args w,(callFunc j args).run Tryz.prog w=.ok (.enter j args) w)
 (l:∀{H:Type}(d b nn:Nat)(z:DataW H){R:Value->Option (DataW H×List MemPlace)}(w:World),d<w.heap.size->w.cell? ⟨d,0,none⟩=some (.map (some b))->w.ownsMap Tryz.prog (Tryz.sortedA_ren.t 26) R b nn z->SeqGives Fence.wide 2 Tryz.prog j #[.pointer (some ⟨d,0,none⟩)] encZ (λss=>ss.Perm (intKeys z)) (Maps.size z) w):
 Ja Tryz.prog 141 j (.amap false (aS f a)) (.own true 1 ((dE (a.map (·.1))).map λx=>[ae x])):=by
 refine⟨by kernel_rfl,λw d arr T v0 h1 L M=>?_⟩;have i:w.cell? ⟨d,0,none⟩=some v0:=by
  have:arr[0]?=some v0:=by rw[←Ob,L];rfl
  simp[World.cell?,h1,this]
 have D:=(Oh.1 h1).1;have y:∀(S:List Int->Prop)(N:Nat),N<=1000000->(∀ss,S ss->ss.length<=N)->(∀ss,S ss->dE ss=dE (a.map (·.1)))->SeqGives Fence.wide 2 Tryz.prog j #[.pointer (some ⟨d,0,none⟩)] encZ S N w->
  Calls Tryz.prog 141 #[.func (.func j) #[] #[.pointer (some ⟨d,0,none⟩)]] w λe w'=>∃v g' o,e=.returned v∧PureEnd w w' g'∧aw g' w' (.own true 1 ((dE (a.map (·.1))).map λx=>[ae x])) v o∧(SV.own true 1 ((dE (a.map (·.1))).map λx=>[ae x])).inCell=true∧∀c,o=some c->w.heap.size<=c∧g'.I c=none:=by
  intro S N hN E F s;have K:=GE Tryz.sortedA NA Fence.wide 5 trivial trivial trivial trivial rfl (by omega) (Tryz.sortsA _) (enters_of Tryz.func171 (by kernel_rfl) rfl) j #[.pointer (some ⟨d,0,none⟩)] trivial A S N (by unfold maxLen;omega) (by omega) w (iU.of s) E;refine((callsIn_wide (n:=5)).1 K).mono λe w' ⟨v,ss,X,V,g,m,Y,W⟩=>?_;have G:=F ss V;have J:ss.length=(dE (a.map (·.1))).length:=by rw[←G];unfold dE;rw[Pw]
  unfold dE at G;rw[G]at g;obtain⟨g',o,B,C,Q,U⟩:=Eo J g m W;exact⟨v,g',o,X,B,C,Q,U⟩
 obtain⟨c,en,ck,rfl,O,_,B,C⟩:=M
 .have p:=Er (P:=Tryz.prog) (k:=Tryz.sortedA_ren.t 26) (by kernel_rfl) O B C Z (by unfold maxLen;omega);have u:Maps.size (GD (k0 (a.map (·.1))))=a.length:=by rw[Dy];unfold k0;rw[Oj,Oj]
  have r:∀ss:List Int,ss.Perm (intKeys (GD (k0 (a.map (·.1)))))->ss.Perm (a.map (·.1)):=λss h=>by
   have:=h.trans (Dx _)
   rwa [Hh]at this
  refine y _ _ (by rw[u];omega) (λss h=>?_) (λss h=>?_) (l d c a.length (GD (k0 (a.map (·.1)))) w D i p)
  .rw[(r ss h).length_eq,Oj,u];exact Oc _
  .exact mergeSort_of_perm_i (r ss h)
theorem yL{β:Type}(f:β->PV)(a:List (Int×β))(i:∀q∈a,CC q.1)(h:a.length<=1000000):
 Ja Tryz.prog 141 229 (.amap false (aS f a)) (.own true 1 ((dE (a.map (·.1))).map λx=>[ae x])):=
 uK f _ a i h (enters_of Tryz.func229 (by kernel_rfl) rfl)
  (λ{_} c b j d {_} w h1 e g=>AnyZI.keys_gives (ρ:=Tryz.keysA_ren) {Tryz.keysA with} Fence.wide 2 trivial rfl (by omega) c b j d w h1 e g)
end Go.AX
namespace Go.AX
open Go.Proofs
set_option linter.unusedSimpArgs false
def NX(l:List Int)(x:Int):Nat:=l.countP λy=>decide (y<x)
def N4(l:List Int)(x:Int):Bool:=decide (l[NX l x]?=some x)
def Jb(c:Ck):List Int:=dE (c.m.map (·.1))
def dl{α:Type}:List (Int×α)->Int->List (Int×α)
 |[],_=>[]
 |(k,x)::r,n=>if k=n then r else(k,x)::dl r n
def dropB(c:Ck)(ids:List Int):Bool:=decide ((cT (dE ids)).length<ids.length)||!Em c ids
def Es(c:Ck)(ids:List Int)(i:Nat):Ck:=⟨(ids.take i).foldl dl c.m,c.last,c.done⟩
def Et(c:Ck)(ids:List Int):Ck:=if dropB c ids=true then c else Es c ids ids.length
def LS(c:Ck)(ids:List Int):Int:=if dropB c ids=true then 20 else 0
def LT(c:Ck)(a:List (Int×List (List Int)))(g:List Int):List (Int×List (List Int)):=
 if N4 (Jb c) (a8 (-(g.headD 0)))=true then pt a (NX (Jb c) (a8 (-(g.headD 0)))) (wD c g.tail)else a
def fS(l:List (List Int)):PV:=.seq false 1 (l.map aK)
@[simp] theorem Hj(r:Nat->Nat->PV):∀l:List (Int×List (List Int)),qd r (aS fS l)=aS fS l
 |[]=>rfl
 |x::l=>by
  have:=Hj r l;show(x.1,jr r (fS x.2))::qd r (aS fS l)=(x.1,fS x.2)::aS fS l;rw[this];simp[fS]
def NB(cs:List (List Int))(c l:List Int)(a:List (Int×List (List Int)))(i:Int):Bool:=
 match lk a i with
 |none=>false
 |some h=>decide (Nz l (cs.getD i.toNat []) (c.headD 0) h=0)
def Ig(f:Int->Bool):List Int->Nat->Int×Int
 |[],n=>(n,0)
 |i::l,n=>if f i=false then(i,24)else Ig f l n
def NC(cs:List (List Int))(c:List Int)(ahead:List (List Int))(a:List (Int×List (List Int))):Int×Int:=
 if Hc c≠0 then(-1,Hc c)else if c=[]then(-1,11)else if(kh (oJ c) ahead 0).2.2≠23 then(-1,(kh (oJ c) ahead 0).2.2)
 else Ig (NB cs c (kh (oJ c) ahead 0).1 a) (Hg cs (c.headD 0) cs.length) (Hg cs (c.headD 0) cs.length).length
def LU(c:Ck)(a:List (List Int)):List (Int×List (List Int)):=a.foldl (LT c) []
def LV(c:Ck)(lits hints:List Int):Int:=
 if(LL lits (wD c (Hf hints).1)).2≠23∨lits=[]then(LL lits (wD c (Hf hints).1)).2
 else if(NC (wD c (Jb c)) lits (wD c (Hf hints).1) (LU c (Hf hints).2)).2≠0 then 24 else 0
structure CkOk (c:Ck):Prop where
  n:c.m.length<=100000
  w:∀q∈c.m,CC q.1
  l:∀q∈c.m,q.2.length<=100000
theorem ai.frzC{k0:Nat}{st:St}{b k e:Nat}{nw:Bool}{rows:List (List PV)}(h:aa st (.cell b k)=.own nw e rows):ai k0 st (setPos st (.cell b k) (.pv (.seq nw e rows))):=λg a w _ hs=>by
 obtain⟨g',t,_,_,_,s,_⟩:=hs.freeze (p:=.cell b k) (by rw[h];rfl);rw[h]at s;exact⟨g',t,s⟩
def ND(c:Ck)(s:Stp):Ck×Int:=
 if s.id<=c.last then(c,21)else if o7 s.lits=true then(c,11)else if Em c s.hints=false then(c,20)
 else if LV c s.lits s.hints≠0 then(c,LV c s.lits s.hints)else(B5 c s.id s.lits,0)
def Ih(c:Ck)(s:Stp):Ck×Int:=
 if LQ [s]≠0 then(c,LQ [s])else if s.kind=2 then(Et c s.hints,LS c s.hints)else ND c s
def NE(c:Ck)(l:List Int):Ck:=B5 c (a8 (c.last+1)) l
def LW(L:List (List Int))(i:Nat):Ck:=(L.take i).foldl NE ⟨[],0,false⟩
def NF(L:List (List Int)):Ck:=LW L L.length
theorem LY{α:Type}(l:List (Int×α))(k:Int)(y:α):(pt l k y).length<=l.length+1:=by
 rw[yt];split<;>omega
theorem yN{α:Type}{p:Int×α->Prop}:∀{l:List (Int×α)}{k:Int}{y:α},(∀q∈l,p q)->p (k,y)->∀q∈pt l k y,p q
 |[],k,y,_,b,q,a=>by
  rw[pt]at a;rw[O7]at a;subst a;exact b
 |(j,x)::l,k,y,h1,b,q,a=>by
  rw[pt]at a;split at a
  .rename_i e;rcases OB.1 a with rfl|a
   .exact e▸b
   .exact h1 q (Ou _ a)
  .rcases OB.1 a with rfl|a
   .exact h1 _ OA
   .exact yN (λq a=>h1 q (Ou _ a)) b q a
theorem Eu{α:Type}:∀(l:List (Int×α))(k:Int),∀q∈dl l k,q∈l
 |[],k,q,h=>h
 |(j,x)::l,k,q,h=>by
  rw[dl]at h;split at h
  .exact Ou _ h
  .rcases OB.1 h with rfl|h
   .exact OA
   .exact Ou _ (Eu l k q h)
theorem Ii{α:Type}:∀(l:List (Int×α))(k:Int),(dl l k).length<=l.length
 |[],k=>Oc _
 |(j,x)::l,k=>by
  rw[dl];split
  .simp
  .have:=Ii l k;simp;omega
structure CkN (n:Nat) (c:Ck):Prop where
  n:c.m.length<=n
  w:∀q∈c.m,CC q.1
  l:∀q∈c.m,q.2.length<=100000
  t:0<=c.last∧c.last<=20000000
theorem CkN.ok{n:Nat}{c:Ck}(h:CkN n c)(hn:n<=100000):CkOk c:=⟨OM h.n hn,h.w,h.l⟩
theorem Ew{x:Int}(h1:0<=x)(c:x<=20000000):CC x:=by
 unfold CC;have a:IntKind.i64.min=-9223372036854775808:=by decide
 have b:IntKind.i64.max=9223372036854775807:=by decide
 simp only[Lit.wf,a,b,Og,Ov];omega
theorem CkN.put{n:Nat}{c:Ck}(h:CkN n c){id:Int}{l:List Int}(qj:0<=id∧id<=20000000)(a:l.length<=100000):CkN (n+1) (B5 c id l):=
 ⟨OM (LY _ _ _) (Nat.succ_le_succ h.n),yN h.w (Ew qj.1 qj.2),yN h.l a,qj⟩
theorem ra{p:Int×List Int->Prop}:∀(ids:List Int)(m:List (Int×List Int)),(∀q∈m,p q)->(∀q∈ids.foldl dl m,p q)∧(ids.foldl dl m).length<=m.length
 |[],m,h=>⟨h,Oc _⟩
 |id::ids,m,h=>by
  obtain⟨h1,a⟩:=ra ids (dl m id) (λq b=>h q (Eu m id q b));exact⟨h1,OM a (Ii _ _)⟩
theorem CkN.drop{n:Nat}{c:Ck}(h:CkN n c)(ids:List Int):CkN n (Et c ids):=by
 unfold Et;split
 .exact h
 .unfold Es;obtain⟨h1,a⟩:=ra (p:=λq=>CC q.1) (ids.take ids.length) c.m h.w;obtain⟨b,_⟩:=ra (p:=λq=>q.2.length<=100000) (ids.take ids.length) c.m h.l;exact⟨OM a h.n,h1,b,h.t⟩
def Ij:List (List Int)->Nat->Option Int
 |[],_=>none
 |c::L,i=>if c=[]then some ((i+1:Nat):Int)else Ij L (i+1)
def Ik:List Stp->Int
 |[]=>0
 |s::ss=>if s.kind=1∧s.lits=[]then s.id else Ik ss
def Jc(L:List (List Int))(ss:List Stp):Int:=(Ij L 0).getD (Ik ss)
def NG(m:List (Int×Int))(k:Int):List (Int×Int):=pt m k (a8 ((lk m k).getD 0+1))
def NH(m:List (Int×Int))(s:Stp):List (Int×Int):=if s.kind=1∧0<(lk m s.id).getD 0 then s.hints.foldl NG m else m
def LZ(m:List (Int×Int)):List Stp->List (Int×Int)
 |[]=>m
 |s::ss=>NH (LZ m ss) s
def Jd(L:List (List Int))(ss:List Stp):List (Int×Int):=LZ [(Jc L ss,1)] ss
def B7(x:Stp):List PV:=[ae x.kind,ae x.id,.seq true 1 (af x.lits),.seq true 1 (af x.hints)]
@[simp] theorem wE(k:Nat)(l:List Stp):bS k (l.map B7):=by
 induction l with
 |nil=>trivial
 |cons x xs a=>exact⟨⟨trivial,trivial,bd k _,bd k _,trivial⟩,a⟩
theorem re(l:List Stp):zK (l.map B7):=by
 induction l with
 |nil=>trivial
 |cons x xs a=>exact⟨⟨trivial,trivial,by simp,by simp,trivial⟩,a⟩
theorem m9(l:List Int):(aH l).length=l.length:=by unfold aH;simp
theorem Hk(H:List (List SV))(b:Nat)(zs:List Int)(sp:List SV)(a:H[b]?=some (aH zs++sp))(n:Nat):rP (br H (n+1) b 0) 1 zs.length=.seq false 1 (af zs):=by
 have e:H.getD b []=aH zs++sp:=by rw[N7,a];rfl
 simp only[br,rP,e,Oj];rw[N9 ⟨trivial,by rw[Oi,m9];omega⟩];congr 1;unfold aH;simp only[OJ,Pa];rw[Q4,P4 (by simp),Pa];rfl
theorem oL(k:Nat){sp:List SV}(h:cM k sp):∀l:List Int,cM k (aH l++sp)
 |[]=>h
 |_::l=>⟨trivial,oL k h l⟩
set_option maxRecDepth 16000 in
theorem Hl(v:Int)(L:List (List Int))(o:L.length<=1000000)(j:∀c∈L,c.length<=1000000):an Tryz.prog 66 [.agg [ae v,.seq false 1 (L.map aK)],.lit (.slice none 0 0)] (λr=>r=.pv (.agg [ae v,.seq true 1 (L.map nC)])):=by
 refine iL [] [.cell 4 _] aG Tryz.func66 ?_;obtain⟨M,a⟩:∃M:Nat->List (List PV),∀i,M i=(L.take i).map nC:=⟨_,λ_=>rfl⟩;have d:M 0=[]:=by rw[a];rfl
 have e:M L.length=L.map nC:=by rw[a,OT]
 have g:∀i (c:i<L.length),M (i+1)=M i++[nC L[i]]:=λi c=>by rw[a,a,Pj,N6 c,OJ];rfl
 have f:∀i,(M i).length<=L.length:=λi=>by rw[a,Oj,Oe];exact Sr _ _
 simp;refine aJ.intro (S:=λ(i:Nat)=>⟨[(2,.pv (.ptr 0 0)),(4,.pv (.ptr 1 0)),(5,.pv (.ptr 2 0)),(1,.pv (.lit (.slice none 0 0))),(14,.pv (.seq false 1 (L.map aK))),(15,.pv (ae L.length)),(16,.pv (ae i))],[[.pv (ae v),.pv (.seq false 1 (L.map aK))],[.pv (ae 0),.pv (.lit (.slice none 0 0))],[.pv (ae v),.own true 1 (M i)]]⟩) (λi=>i<=L.length) (λi=>L.length -i) 0 ?_ (Oz _) ?_
 .exact(ai.nilCell (b:=2) (k:=1) (xs:=[.pv (ae v),.pv (.lit (.slice none 0 0))]) 1 true (by simp) (by simp)).trans (ai.keep (by simp[d]) (by simp[d]))
 intro i hi
 by_cases c:i<L.length
 .have n:=fQ i;have l:=g i c;have h:=gP L[i] (j _ (Od c));have m:=f i;simp[c,aK];refine bA.intro (by exact h) ?_;simp;exact⟨by omega,i+1,by(try dsimp only);omega,by(try dsimp only);omega,ai.keep (by simp[n]) (by simp[l,nC])⟩
 .have:i=L.length:=by omega
  subst this;simp;refine aJ.intro (S:=λ(_:Unit)=>⟨[(4,.pv (.ptr 1 0)),(5,.pv (.ptr 2 0)),(28,.pv (.lit (.slice none 0 0))),(29,.pv (ae 0)),(30,.pv (ae 0))],[[.pv (ae v),.pv (.seq false 1 (L.map aK))],[.pv (ae 0),.pv (.lit (.slice none 0 0))],[.pv (ae v),.own true 1 (M L.length)]]⟩) (λ_=>True) (λ_=>0) () ?_ trivial ?_
  .exact ai.keep (by simp) rfl
  intro _ _;simp[e]
def wF(cs:List (List Int)):Bool:=decide (cs.length<=200)&&cs.all λc=>decide (c.length<=50)
theorem B8(v:Int)(cs:List (List Int)):an Tryz.prog 39 [.agg [ae v,.seq false 1 (cs.map aK)]] (λr=>r=.pv (BL (wF cs))):=by
 refine ax aG Tryz.func39 ?_
 by_cases c:(200:Int)<cs.length
 .have:wF cs=false:=by unfold wF;rw[PE (by omega),P7]
  rw[this];simp[c]
 have c':cs.length<=200:=by omega
 have f:wF cs=cs.all λc=>decide (c.length<=50):=by unfold wF;rw[PG c',Q2]
 rw[f];simp[c];refine aJ.intro (S:=λ(i:Nat)=>⟨[(1,.pv (.ptr 0 0)),(3,.pv (ae i))],[[.pv (ae v),.pv (.seq false 1 (cs.map aK))]]⟩) (λi=>i<=cs.length∧∀j (h:j<cs.length),j<i->cs[j].length<=50) (λi=>cs.length -i) 0 ?_ ⟨Oz _,λj _ h=>by omega⟩ ?_
 .exact ai.to (by simp) rfl (by simp) (by simp) (by simp)
 rintro i ⟨hi,hle⟩
 by_cases a:i<cs.length
 .have d:=fQ i
  by_cases c5:(50:Int)<cs[i].length
  .have:(cs.all λc=>decide (c.length<=50))=false:=by
    rw[List.all_eq_false];exact⟨cs[i],Od a,by simp;omega⟩
   rw[this];simp[a,aK,c5]
  .simp[a,aK,c5];refine⟨i+1,by(try dsimp only);omega,⟨by(try dsimp only);omega,λj hj g=>?_⟩,ai.to (by simp[d]) rfl (by simp) (by simp) (by simp)⟩
   by_cases e:j=i
   .subst e;omega
   .exact hle j hj (by omega)
 .have b:i=cs.length:=by omega
  subst b;have:(cs.all λc=>decide (c.length<=50))=true:=by
   rw[OP];intro x hx;obtain⟨j,hj,rfl⟩:=Oo hx;simpa using hle j hj hj
  rw[this];simp
theorem Hm(a b:Stp)(h1:a.kind=b.kind)(c:a.id=b.id)(d:a.lits=b.lits)(e:a.hints=b.hints):a=b:=by
 cases a;cases b;simp at*;exact⟨h1,c,d,e⟩
instance:DecidableEq Stp:=λa b=>decidable_of_iff (a.kind=b.kind∧a.id=b.id∧a.lits=b.lits∧a.hints=b.hints) ⟨λ⟨h1,h2,h3,h4⟩=>Hm a b h1 h2 h3 h4,λh=>by subst h;exact⟨rfl,rfl,rfl,rfl⟩⟩
theorem rf{α:Type}:∀{l:List (Int×α)}{k:Int}{y:α},(∀q∈l,q.1≠k)->pt l k y=l++[(k,y)]
 |[],_,_,_=>rfl
 |(j,x)::l,k,y,h=>by
  rw[pt,N8 (h _ OA),rf λq a=>h q (Ou _ a)];rfl
abbrev Ex{α:Type}(l:List (Int×α)):Prop:=l.Pairwise λp q=>p.1<q.1
theorem Ex.lk{α:Type}:∀{l:List (Int×α)},Ex l->∀{k:Int}{x:α},(k,x)∈l->lk l k=some x
 |(j,z)::l,h,k,x,a=>by
  replace h:=QJ.1 h;rw[AX.lk];rcases OB.1 a with a|a
  .cases a;rw[N9 rfl]
  .have:=h.1 _ a;simp only at this;rw[N8 (by omega)];exact Ex.lk h.2 a
theorem AA{α:Type}:∀(l:List (Int×α))(k:Int),(dl l k).Sublist l
 |[],_=>Sk _
 |(j,x)::l,k=>by
  rw[dl];split
  .exact List.sublist_cons_self _ _
  .exact(AA l k).cons_cons _
theorem mA{α:Type}:∀(ids:List Int)(m:List (Int×α)),(ids.foldl dl m).Sublist m
 |[],_=>Sk _
 |id::ids,m=>(mA ids (dl m id)).trans (AA m id)
structure CkG (c:Ck):Prop where
  rs:Ex c.m
  lo:∀q∈c.m,1<=q.1
  hi:∀q∈c.m,q.1<=c.last
  t:0<=c.last∧c.last<=20000000
theorem CkG.put{c:Ck}(h:CkG c){id:Int}{l:List Int}(h1:c.last<id)(d:id<=20000000):(B5 c id l).m=c.m++[(id,l)]∧CkG (B5 c id l):=by
 have e:pt c.m id l=c.m++[(id,l)]:=rf λq a=>by have:=h.hi q a;omega
 have ht:=h.t;have b:(B5 c id l).m=c.m++[(id,l)]:=e;refine⟨b,⟨?_,?_,?_,?_⟩⟩
 .rw[b,Ex,QN];refine⟨h.rs,List.pairwise_singleton _ _,λq a p hp=>?_⟩;rw[O7]at hp;subst hp;have:=h.hi q a;simp only;omega
 .rw[b];intro q a;rcases Om.1 a with a|a
  .exact h.lo q a
  .rw[O7]at a;subst a;simp only;omega
 .rw[b];intro q a;show q.1<=id;rcases Om.1 a with a|a
  .have:=h.hi q a;omega
  .rw[O7]at a;subst a;exact Qx _
 .exact⟨by show 0<=id;omega,d⟩
theorem CkG.drop{c:Ck}(h:CkG c)(ids:List Int):CkG ⟨ids.foldl dl c.m,c.last,c.done⟩:=by
 have hs:=mA ids c.m;exact⟨h.rs.sublist hs,λq a=>h.lo q (hs.subset a),λq a=>h.hi q (hs.subset a),h.t⟩
/-! ### What is marked -/
def NJ(m:List (Int×Int))(k:Int):Prop:=0<(lk m k).getD 0
instance (m:List (Int×Int)) (k:Int):Decidable (NJ m k):=by unfold NJ;infer_instance
def Il:List Stp->Nat
 |[]=>0
 |s::ss=>Il ss+s.hints.length
/-! ### The replay -/
def NY(L:List (List Int))(ss:List Stp)(x:Int):Prop:=NJ (Jd L ss) x
instance (L:List (List Int)) (ss:List Stp) (x:Int):Decidable (NY L ss x):=by unfold NY;infer_instance
section
variable {v : Int} {L : List (List Int)} {ss : List Stp} (hn : 1 + Il ss <= 1000000000)
include hn
end
theorem lw{α:Type}:∀(l:List (Int×α))(k:Int)(y:α)(x:Int),x∈(pt l k y).map (·.1)↔x=k∨x∈l.map (·.1)
 |[],k,y,x=>by simp[pt]
 |(j,z)::l,k,y,x=>by
  rw[pt]
  by_cases c:j=k
  .rw[N9 c];subst c;simp
  .rw[N8 c,Ow,OB,lw l k y x,Ow,OB];constructor
   .rintro(h|h|h)
    .exact .inr (.inl h)
    .exact .inl h
    .exact .inr (.inr h)
   .rintro(h|h|h)
    .exact .inr (.inl h)
    .exact .inl h
    .exact .inr (.inr h)
theorem ja{α:Type}:∀(l:List (Int×α))(k:Int)(y:α),(l.map (·.1)).Nodup->((pt l k y).map (·.1)).Nodup
 |[],k,y,_=>by simp[pt]
 |(j,z)::l,k,y,h=>by
  rw[Ow,PC]at h;rw[pt]
  by_cases c:j=k
  .rw[N9 c,Ow,PC];subst c;exact h
  .rw[N8 c,Ow,PC,lw];exact⟨λa=>a.elim c h.1,ja l k y h.2⟩
theorem ti{l:List Int}{x:Int}:x∈dE l↔x∈l:=by
 unfold dE;exact(Rs l _).mem_iff
end Go.AX