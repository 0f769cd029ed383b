/-
  AX, part MK: a map's keys, sorted; what is deleted of a map; and what follows.
-/
import Derived.Test.YtepodadinenmnaaGreatZ3
import Derived.Shelf.SlIterI.Sorted
import Derived.ProofKit
namespace Go.AX
def P4(P:aa)(f a:az):Prop:=
 aV P f=true∧∃T,∀mb w,Calls P f #[.map mb] w (λe w'=>e=.returned (.func (.func a) #[] #[.pointer (some ⟨w.heap.size,0,none⟩)])∧w'=w.alloc (.cells #[.map mb] T))
theorem mL{P:aa}{st:St}{g:Gh}{a:Act}{w:ab}(h:Sim g st a w)(o:ai)(x:ae)(args:Array ae)(e:Array ah)(f:az)(p q:aD)
 (ho:o.op=.call {callee:=.value x,args:=args,argTypes:=e}) (j:gc st x) (i:b8 st x=some (f,p,q)) (b:aV P f=true):
 ∃u v:Array an,ax g p u.toList∧ax g q v.toList∧(execOp a.eval o).run P w=.ok (.enter f (u.toList++(args.toList.map a.eval++v.toList)).toArray) w:=by
 obtain⟨u,v,hx,k,l⟩:=fZ h j i;refine⟨u,v,k,l,?_⟩;have c:(u.toList++(args.toList.map a.eval++v.toList)).toArray=u++args.map a.eval++v:=by
  apply WW;simp
 rw[c];unfold aV at b;split at b
 case h_2=>cases b
 rename_i fn d;simp only[VC,Wp]at b;simp only[execOp,ho,resolve,hx,Deferred.ofValue,invoke,callFunc,bD,bN,bK,run_program,d,b.1,b.2,We,WM]
section
open Go.Proofs Go.RowKit Go.Maps Go.Sort Go.Shelf
variable {P : aa} {ρ : Ren}
def i9(F:Fence)(n:Nat)(P:aa)(g:Nat)(c:Array an)(S:af->Prop)(N:Nat)(w:ab):Prop:=
 ∀(l:Nat)(J:af->ab->Prop)(W:ab),Below w.heap.size w W->AbidesFrom W.heap.size J->
  (∀pre x b,J pre b->pre.length<N->YieldAt F (n -1) P l #[encZ x] b λe a=>e=.returned (.bool true)∧J (pre++[x]) a∧KeepsWalks b a∧Below w.heap.size b a)->
  J [] W->CallsIn F n P g (#[.func (.yield l) #[] #[]]++c) W λe a=>(∃v,e=.returned v)∧∃xs,S xs∧J xs a
theorem i9.of{F:Fence}{n:Nat}{g:Nat}{d:Array an}{S:af->Prop}{N:Nat}{w:ab}(h:SeqGives F n P g d encZ S N w):i9 F n P g d S N w:=λl J W k j m h0=>
 h l J W k j (λpre x f h1 i=>(m pre x f h1 i).mono λe o ⟨a,b,c,_⟩=>⟨a,b,c⟩) h0
theorem Ij{B:Nat}{a b c:ab}(h:Below B a b)(k:Below B a c)(hk:KeepsWalks b c):Below B b c:=
 ⟨k.os.trans h.os.symm,k.tape.trans h.tape.symm,k.output.trans h.output.symm,hk.1,λj hj=>(k.block j hj).trans (h.block j hj).symm⟩
def jA(w:ab)(v:an):Prop:=∀c,v.ownBlock=some c->∀arr T fz,w.heap[c]?=some (.cells arr T fz)->∀u∈arr.toList,u.oneCell'=true
theorem jA.kept{w w':ab}{v:an}(h:jA w v)(hk:∀c,v.ownBlock=some c->w'.heap[c]?=w.heap[c]?):jA w' v:=λc a arr T fz b=>h c a arr T fz ((hk c a).symm.trans b)
theorem sA(G:Gh):∀zs:af,aK G 1 (zs.map λx=>[.lit (.int .i64 x)]) (zs.map encZ)
 |[]=>rfl
 |z::zs=>⟨[encZ z],zs.map encZ,rfl,⟨rfl,λv a=>by simp at a;subst a;rfl⟩,⟨_,_,rfl,rfl,rfl⟩,sA G zs⟩
theorem xE{G:Gh}:∀{zs:af}{vs:aG},aK G 1 (zs.map λx=>[.lit (.int .i64 x)]) vs->vs=zs.map encZ
 |[],vs,h=>h
 |z::zs,vs,⟨k,l,h1,j,g,i⟩=>by
  obtain⟨a,r,d,e,f⟩:=g;have b:a=encZ z:=e;have c:r=[]:=f;subst c b d;rw[h1,xE i];rfl
def U2(B:Nat)(w:ab):Gh:={dZ w with I:=λ_=>none,B:=B}
theorem Bd{G:Gh}{w:ab}{base:Nat}{e:ah}{v:an}{ss:af}(h:w.ownsRow base e 1 v ss.length (ss.map encZ))(h1:jA w v)(f:G.B<=base):aO G w (.own true 1 (ss.map λx=>[.lit (.int .i64 x)])) v v.ownBlock:=by
 obtain⟨_,⟨rfl,hz⟩|⟨d,cap,b,rfl,a,c,g,i,r3,j⟩⟩:=h;have:ss=[]:=Xx hz;subst this;exact .inl ⟨rfl,rfl,rfl⟩;exact .inr ⟨d,rfl,cap,b,e,ss.map encZ,by simp,c,r3,⟨by simpa using g,i,h1 d rfl b e (0,0) c⟩,sA G ss,by rw[←j];exact Ze _ _,λ_=>Wb f a⟩
theorem po{F:Fence}{n:Nat}(w:ab){ops:Array ai}{rest:List ai}{o:ai}{a:Act}{Q:Exit->Act->ab->Prop}
 (hg:o.guard=none) (s x:ae) (t:ah) (l:o.op=Op.call {callee:=Callee.builtin Builtin.append,args:=#[s,x],argTypes:=#[t,t]})
 (base:Nat) (e:ah) (i:TypeInfo) (z:an) (bytes:Nat) (h1:P.underlying t=some (.slice e)) (V:P.info? e=some i) (W:i.zero=some z) (X:i.size=1) (Y:i.bytes=bytes) (Z:z.cells.size=1) (N:cF P t=some (1,8))
 (v:an) (ss:af) (y:Int) (hs:a.eval s=v) (d:w.ownsRow base e 1 v ss.length (ss.map encZ)) (C:jA w v) (A:Addr) (c:Nat) (hx:a.eval x=.slice (some A) 1 c)
 (R:∀j u,[encZ y][j]?=some u->w.cell? (A.add j)=some u) (b1:ss.length+1<=maxLen) (b2:(ss.length+1)*bytes<=140737488355328) (H:(ss.length+1)*8<=140737488355328) (b3:base<=w.heap.size)
 (hK:∀r w',w'.ownsRow base e 1 r (ss.length+1) (ss.map encZ++[encZ y])->jA w' r->w.grownBy w' v.ownBlock->wpListIn F n P ops Q rest (a.put o.dst r) w'):
 wpListIn F n P ops Q (o::rest) a w:=by
 refine wpListIn_plain hg λK J=>?_;obtain⟨r,w',f,r1,r2,r3⟩:=run_append_own (P:=P) w base t o.type e i z 1 bytes h1 V W X Y Z (by decide) v ss.length (ss.map encZ) d A 1 c [encZ y] rfl R (by simp[Value.oneCell',encZ]) b1 b2 b3;have hf:=Bd (G:=U2 base w) d C (Vu _);obtain⟨D,E,o2,m,_,_,M,_,_⟩:=mz (P:=P) (g:=U2 base w) (w:=w) (t:=t) (ty:=o.type) N (by decide) (xr:=[[.lit (.int .i64 y)]]) b3 hf (q:=some A) (k:=c) (news:=[encZ y]) (sA _ [y]) (.inr ⟨A,rfl,R⟩) (by simpa using H);have he:D=r∧E=w':=by
  have:Result.ok D E=Result.ok r w':=m.symm.trans f;injection this with I B;exact⟨I,B⟩
 obtain⟨rfl,rfl⟩:=he;have h:jA E D:=by
  intro S b arr T fz p;rcases M with⟨_,_,B⟩|⟨c1,_,cap,O,T1,vs,I,B,_,U,_⟩;rw[B]at b;cases b;rw[I]at b;have:c1=S:=by injection b
  subst this;rw[B]at p;injection p with p;injection p with p _ _;subst p;exact U.2.2
 unfold Oper.wpIn;refine⟨?_,?_⟩;simp[Oper.about,l,resolve,Target.leads,bN];rw[Oper.semAt_plain F _ _ (by rw[l];intro c L;cases L)];simp[execOp,l,resolve,invoke,builtin,hs,hx,f,Result.andThen];exact J _ _ (hK D E r1 h r2)
def Be(ρ:Ren)(a:ab)(fn:az)(sv:an)(Bs l D:Nat)(ss:af)(W:ab):Prop:=
 AnyZI.ApAt ρ a fn sv Bs l D ss W∧∀v,W.heap[Bs]?=some (.cells #[v] (ρ.t 24) (0,0))->jA W v
theorem zu(ρ:Ren)(j:ab)(fn:az)(sv:an)(Bs l D B:Nat)(t:j.heap.size<=B):AbidesFrom B (Be ρ j fn sv Bs l D):=λs W m row h f d=>by
 refine⟨AnyZI.ap_abides ρ j fn sv Bs l D B t s W m row h.1 f d,λv x=>?_⟩;have b:∀r,row=some r->∃o:Obj,W.heap[r]?=some o∧o.isWalk=true:=λr e=>(d r e).2;obtain⟨u,i,w,_⟩:=h.1.box;have e:=(grownBy_keeps f b i rfl).trans i;have e:=e.symm.trans x;injection e with e;have p:=Xp (λa:Array an=>a.toList) (Obj.cells.inj e).1;have:u=v:=by simpa using p
 subst this;refine(h.2 u i).kept λc k=>?_;obtain⟨_,⟨rfl,_⟩|⟨q,cap,n,rfl,_,g,_⟩⟩:=w;cases k;have:q=c:=by injection k
 subst this;exact grownBy_keeps f b g rfl
set_option maxRecDepth 100000 in
set_option maxHeartbeats 2000000 in
theorem DW(L:SlLaysZI.n11 P ρ)(hsl:cF P (ρ.t 24)=some (1,8))(F:Fence)(m:Nat)(w0:ab)(fn:az)(hfn:F.fn fn)(sv:an)(Bs l D:Nat)(hBl:Bs≠l)(hDl:D≠l)(hDB:D≠Bs)(h0B:w0.heap.size<=Bs)(h0l:w0.heap.size<=l)
    (N:Nat) (hN:N<=maxLen) (hNb:N*8<=140737488355328) (ss:af) (x:Int) (W:ab) (h:Be ρ w0 fn sv Bs l D ss W) (hlen:ss.length<N):
    YieldAt F m P l #[encZ x] W λe W'=>e=.returned (.bool true)∧Be ρ w0 fn sv Bs l D (ss++[x]) W'∧KeepsWalks W W':=by
  have mixed:=L.mixed;have t0:=L.t0;have a0:=L.a0;have z0:=L.z0;have v0:=L.v0;have t24:=L.t24;have a24:=L.a24;have z24:=L.z24;have v24:=L.v24;have t26:=L.t26;have a26:=L.a26;have z26:=L.z26;have v26:=L.v26;have t28:=L.t28;have a28:=L.a28;have z28:=L.z28;have v28:=L.v28
  have hne:ρ.t 24≠ρ.t 26:=λe=>by have h:=L.t24;rw[e,L.t26]at h;cases h
  have u0:=cq L.t0;have u24:=cq L.t24;have u26:=cq L.t26;have u28:=cq L.t28
  obtain⟨i0,hi,hz0,hz1,hz2⟩:=info_parts L.i26
  obtain⟨h,hone⟩:=h
  obtain⟨v,hv,hrow,_⟩:=h.box
  have hone:=hone v hv
  refine⟨fn,#[.slice none 0 0,sv,.pointer (some ⟨Bs,0,none⟩),undef,.slice none 0 0,undef,sv,encZ x,undef,undef,undef,undef,undef],AnyZI.apAssign ρ,AnyZI.apBody ρ,by simpa[AnyZI.apRec]using run_yield (P:=P) (args:=#[encZ x]) h.L rfl,roundIn_of_wpIn hfn ?_⟩
  have hl:l<W.heap.size:=(VD.1 h.L).1
  have hbr:=run_beginRound (P:=P) h.L rfl
  obtain⟨W2,hW2⟩:∃W2,W.putObj l (.loop {AnyZI.apRec ρ fn sv Bs D .ready none with state:=.busy})=W2:=⟨_,rfl⟩
  rw[hW2]at hbr
  have hg2:W.grownBy W2 (some l):=by rw[←hW2];exact grownBy_putObj_a _ _ _
  have hk2:KeepsWalks W W2:=by rw[←hW2];exact KeepsWalks.putObj _ h.L rfl
  have hv2:W2.heap[Bs]?=some (.cells #[v] (ρ.t 24) (0,0)):=by rw[←hW2];exact(World.putObj_heap_other hBl).trans hv
  have hK2:W2.heap[D]?=some (.deferred (some [])):=by rw[←hW2];exact(World.putObj_heap_other hDl).trans h.K
  have hL2:W2.heap[l]?=some (.loop {AnyZI.apRec ρ fn sv Bs D .ready none with state:=.busy}):=by rw[←hW2];exact World.putObj_heap_same hl
  have hrow2:W2.ownsRow w0.heap.size (ρ.t 26) 1 v ss.length (ss.map encZ):=hrow.kept hg2 (ownsRow_ne_a hrow h.L (λcur e=>by first|cases e|exact hne (Obj.cells.inj e).2.1))
  have hb2:Below w0.heap.size w0 W2:=h.below.grown hg2 h.below.size (λk e=>by cases e;exact h0l)
  have hone2:jA (W2.alloc (.cells #[encZ x] (ρ.t 26))) v:=hone.kept λc hc=>by
    obtain⟨_,⟨rfl,_⟩|⟨gb,cap,cur,rfl,_,hgb,_⟩⟩:=hrow
    · cases hc
    · have:gb=c:=by injection hc
      subst this
      have hgl:=(VD.1 hgb).1
      have hne:gb≠l:=λe=>by rw[e,h.L]at hgb;cases hgb
      have e1:W2.heap[gb]?=W.heap[gb]?:=by rw[←hW2];exact World.putObj_heap_other hne
      rw[←e1]
      exact Below.heap_alloc _ _ gb (by have:=hk2.1;omega)
  obtain⟨hc2,hf2⟩:=cell_of_box_a hv2
  have hBlt:Bs<W2.heap.size:=(VD.1 hv2).1
  have hl2:l<W2.heap.size:=(VD.1 hL2).1
  have hDlt:D<W2.heap.size:=(VD.1 hK2).1
  have ne_of:∀{j:Nat}{o:Obj},W2.heap[j]?=some o->(∀cur,o≠.cells cur (ρ.t 26) (0,0))->some j≠v.ownBlock:=λhj hno=>by
    rcases ownsRow_ne_a hrow2 hj hno with e|e
    · rw[e];simp
    · exactλe'=>e e'.symm
  clear hW2
  clear hone
  unfold AnyZI.apAssign
  gi_wp2_with gi_round_op_a
  unfold AnyZI.apBody
  gi_wp2_with (first
    | (gi_at_builtin; refine po _ rfl _ _ (ρ.t 24) rfl w0.heap.size (ρ.t 26) i0 (.int .i64 0) 8 L.t24 hi hz0 hz1 hz2 rfl hsl _ ss x rfl (hrow2.alloc _) hone2 ⟨W2.heap.size, 0, none⟩ 1 rfl (cell_one_new _ _ _) (by omega) (by omega) (by omega) (by have := hb2.size; simp; omega) ?_; intro v' w3 hown' hone3 hg3
       have hv3:w3.heap[Bs]?=some (.cells #[v] (ρ.t 24) (0,0)):=(hg3.block Bs (by simp;omega) (ne_of hv2 (λcur e=>by first|cases e|exact hne (Obj.cells.inj e).2.1))).trans ((Below.heap_alloc _ _ Bs hBlt).trans hv2)
       obtain⟨hc3,hf3⟩:=cell_of_box_a hv3
       obtain⟨g',cap',cur',rfl,hbase',hgb',hr1,hr2,hr3,hr4⟩:∃g' cap' cur',v'=.slice (some ⟨g',0,none⟩) (ss.length+1) cap'∧w0.heap.size<=g'∧w3.heap[g']?=some (.cells cur' (ρ.t 26) (0,0))∧ss.length+1<=cap'∧cap'<=maxLen∧cur'.size=cap'*1∧cur'.toList.take ((ss.length+1)*1)=ss.map encZ++[encZ x]:=by
         rcases hown'.2 with⟨_,h0⟩|h'
         · exact absurd h0 (by omega)
         · exact h'
       go_frame)
    |gi_round_op_a)
  have hg3':(W2.alloc (.cells #[encZ x] (ρ.t 26))).grownBy w3 v.ownBlock:=hg3
  have hL3:w3.heap[l]?=some (.loop {AnyZI.apRec ρ fn sv Bs D .ready none with state:=.busy}):=(hg3'.block l (by simp;omega) (ne_of hL2 (λcur e=>by first|cases e|exact hne (Obj.cells.inj e).2.1))).trans ((Below.heap_alloc _ _ l hl2).trans hL2)
  have hK3:w3.heap[D]?=some (.deferred (some [])):=(hg3'.block D (by simp;omega) (ne_of hK2 (λcur e=>by first|cases e|exact hne (Obj.cells.inj e).2.1))).trans ((Below.heap_alloc _ _ D hDlt).trans hK2)
  have hgB:g'≠Bs:=λe=>by rw[e,hv3]at hgb';injection hgb' with e1;exact hne (Obj.cells.inj e1).2.1
  have hgl:g'≠l:=λe=>by rw[e,hL3]at hgb';cases hgb'
  obtain⟨w4,hw4⟩:∃w4,w3.setCell ⟨Bs,0,none⟩ (.slice (some ⟨g',0,none⟩) (ss.length+1) cap')=w4:=⟨_,rfl⟩
  rw[hw4]
  have hg4:w3.grownBy w4 (some Bs):=by rw[←hw4];exact grownBy_setCell0_a _ _ _
  have hv4:w4.heap[Bs]?=some (.cells #[.slice (some ⟨g',0,none⟩) (ss.length+1) cap'] (ρ.t 24) (0,0)):=by rw[←hw4];exact heap_setCell_box_a _ hv3
  have hL4:w4.heap[l]?=some (.loop {AnyZI.apRec ρ fn sv Bs D .ready none with state:=.busy}):=(hg4.block l (VD.1 hL3).1 (λe=>hBl (by cases e;rfl))).trans hL3
  have hK4:w4.heap[D]?=some (.deferred (some [])):=(hg4.block D (VD.1 hK3).1 (λe=>hDB (by cases e;rfl))).trans hK3
  have hG4:w4.heap[g']?=w3.heap[g']?:=hg4.block g' (VD.1 hgb').1 (λe=>hgB (by cases e;rfl))
  have hrow4:=hown'.kept hg4 (ownsRow_ne_a hown' hv3 (λcur e=>by first|cases e|exact hne (Obj.cells.inj e).2.1))
  have hl4:l<w4.heap.size:=(VD.1 hL4).1
  have hb3:Below w0.heap.size w0 w3:=(hb2.alloc hb2.size _).grown hg3' (by have:=hb2.size;simp;omega) (λk e=>(hrow2.lt k e).1)
  have hb4:Below w0.heap.size w0 w4:=hb3.grown hg4 hb3.size (λk e=>by cases e;exact h0B)
  have hk4:KeepsWalks W w4:=((hk2.trans (KeepsWalks.alloc _ _)).trans (KeepsWalks.of_grownBy hg3' (ownsRow_not_walk_a (hrow2.alloc _)))).trans (by rw[←hw4];exact KeepsWalks.setCell _ _ _)
  clear hw4
  have hv5:∀o',(w4.putObj l o').heap[Bs]?=some (.cells #[.slice (some ⟨g',0,none⟩) (ss.length+1) cap'] (ρ.t 24) (0,0)):=λo'=>(World.putObj_heap_other hBl).trans hv4
  have hone5:∀o',jA (w4.putObj l o') (.slice (some ⟨g',0,none⟩) (ss.length+1) cap'):=λo'=>hone3.kept λc hc=>by
    have:g'=c:=by injection hc
    subst this
    exact(World.putObj_heap_other hgl).trans hG4
  refine⟨_,_,run_endRound none hL4,rfl,⟨⟨⟨_,hv5 _,?_,by simp⟩,World.putObj_heap_same hl4,(World.putObj_heap_other hDl).trans hK4,hb4.grown (grownBy_putObj_a _ _ _) hb4.size (λk e=>by cases e;exact h0l)⟩,λu hu=>?_⟩,hk4.trans (KeepsWalks.putObj _ hL4 rfl)⟩
  · have:=hrow4.kept (grownBy_putObj_a w4 l (.loop {{AnyZI.apRec ρ fn sv Bs D .ready none with state:=.busy}with state:=if(none:Option Code).isNone then .ready else .done,pending:=none})) (ownsRow_ne_a hrow4 hL4 (λcur e=>by first|cases e|exact hne (Obj.cells.inj e).2.1))
    simpa using this
  · have e:=(hv5 _).symm.trans hu
    injection e with e
    have e2:=(Obj.cells.inj e).1
    have:u=.slice (some ⟨g',0,none⟩) (ss.length+1) cap':=by
      have:=Xp (λa:Array an=>a.toList) e2
      simpa using this.symm
    subst this
    exact hone5 _
set_option maxRecDepth 100000 in
set_option maxHeartbeats 2000000 in
theorem DX(L:SlLaysZI.n11 P ρ)(hsl:cF P (ρ.t 24)=some (1,8))(F:Fence)(n:Nat)(h11:F.fn (ρ.f 11))(hro:F.round=none)(hn:2<=n)(g:Nat)(lb:Array an)(hFg:F.fn g)(eg:∀args w,(callFunc g args).run P w=.ok (.enter g args) w)
    (S:af->Prop) (N:Nat) (hN:N<=maxLen) (hNb:N*8<=140737488355328) (w:ab) (hseq:i9 F (n -1) P g lb S N w):
    CallsIn F n P (ρ.f 11) #[.slice none 0 0,.func (.func g) #[] lb] w λe w'=>∃(v:an)(ss:af),e=.returned v∧S ss∧w'.ownsRow w.heap.size (ρ.t 26) 1 v ss.length (ss.map encZ)∧jA w' v∧(v=.slice none 0 0↔ss=[])∧Below w.heap.size w w':=by
  have h1:1<=n:=by omega
  have mixed:=L.mixed;have t0:=L.t0;have a0:=L.a0;have z0:=L.z0;have v0:=L.v0;have t24:=L.t24;have a24:=L.a24;have z24:=L.z24;have v24:=L.v24;have t26:=L.t26;have a26:=L.a26;have z26:=L.z26;have v26:=L.v26;have t28:=L.t28;have a28:=L.a28;have z28:=L.z28;have v28:=L.v28
  have hne:ρ.t 24≠ρ.t 26:=λe=>by have h:=L.t24;rw[e,L.t26]at h;cases h
  have u0:=cq L.t0;have u24:=cq L.t24;have u26:=cq L.t26;have u28:=cq L.t28
  obtain⟨_,_,FG⟩:=L.f11
  refine callsIn_of_wp_marks FG rfl h11 ?_ hro
  simp only[SlBodyZ.n11_ntmps ρ,Ww,VR,List.length_nil,Nat.reduceAdd,Nat.reduceSub,YH,YI,Y6,YR,V8,Wh]
  gi_wp2
  refine wpIn_rangeFunc ?_
  intro fn hfn
  rw[hro]
  obtain⟨W0,hW0⟩:∃W0,w.alloc (.cells #[.slice none 0 0] (ρ.t 24))=W0:=⟨_,rfl⟩
  have hs0:W0.heap.size=w.heap.size+1:=by rw[←hW0];simp
  have hv0:W0.heap[w.heap.size]?=some (.cells #[.slice none 0 0] (ρ.t 24) (0,0)):=by rw[←hW0];exact World.alloc_heap_new w _
  have hb0:Below w.heap.size w W0:=by rw[←hW0];exact(Below.refl _ w).alloc (Vu _) _
  rw[hW0]
  obtain⟨W1,hW1⟩:∃W1,(W0.alloc (.deferred (some []))).alloc (.loop (AnyZI.apRec ρ fn (.func (.func g) #[] lb) w.heap.size W0.heap.size .ready none))=W1:=⟨_,rfl⟩
  have hold:∀k,k<W0.heap.size->W1.heap[k]?=W0.heap[k]?:=λk hk=>by
    rw[←hW1];exact(Below.heap_alloc _ _ k (by simp;omega)).trans (Below.heap_alloc _ _ k hk)
  have hb1:Below w.heap.size w W1:=by rw[←hW1];exact(hb0.alloc hb0.size _).alloc (by have:=hb0.size;simp;omega) _
  have hv1:=(hold w.heap.size (by omega)).trans hv0
  have hM:Be ρ w fn (.func (.func g) #[] lb) w.heap.size (W0.heap.size+1) W0.heap.size [] W1:=
    ⟨⟨⟨_,(hold w.heap.size (by omega)).trans hv0,⟨rfl,.inl ⟨rfl,rfl⟩⟩,by simp⟩,
     by rw[←hW1];have:=World.alloc_heap_new (W0.alloc (.deferred (some []))) (.loop (AnyZI.apRec ρ fn (.func (.func g) #[] lb) w.heap.size W0.heap.size .ready none));rwa [World.size_alloc]at this,
     by rw[←hW1];exact(Below.heap_alloc _ _ _ (by simp)).trans (World.alloc_heap_new W0 _),hb1⟩,λu hu c hc=>by
      have e:=hv1.symm.trans hu
      injection e with e
      have e2:=Xp (λa:Array an=>a.toList) (Obj.cells.inj e).1
      have:u=.slice none 0 0:=by simpa using e2.symm
      rw[this]at hc
      cases hc⟩
  refine⟨W0.heap.size+1,[{target:=.collected W0.heap.size,args:=#[]}],W1,{target:=.fn (.func g) lb,args:=#[.func (.yield (W0.heap.size+1)) #[] #[]]},W1,g,
    #[.func (.yield (W0.heap.size+1)) #[] #[]]++lb,W1,?_,?_,?_,?_,λ_=>h1,?_⟩
  · rw[←hW1];exact run_enterLoop_outer _ _ _ _ _
  · simp[resolve,go_sem]
  · intro f' hf';simp[Target.leads]at hf';subst hf';exact hFg
  · simp[invoke,go_sem,eg]
  · refine (hseq (W0.heap.size + 1) (Be ρ w fn (.func (.func g) #[] lb) w.heap.size (W0.heap.size + 1) W0.heap.size) W1 hb1 (zu ρ _ _ _ _ _ _ _ hb1.size)
      (λ pre x W hJ hl => (DW { L with } hsl F (n - 1 - 1) w fn hfn _ w.heap.size (W0.heap.size + 1) W0.heap.size (by omega) (by omega) (by omega) (Vu _) (by omega) N hN hNb pre x W hJ hl).mono
        λe W' ⟨he,h2,h3⟩=>⟨he,h2,h3,Ij hJ.1.below h2.1.below h3⟩) hM).mono ?_
    rintro e W2 ⟨⟨v0,rfl⟩,ss,hS,h2,hone⟩
    obtain⟨v,hv,hrow,hnil⟩:=h2.box
    have hone:=hone v hv
    have hend:=run_endLoop (P:=P) h2.L (by simp[AnyZI.apRec])
    obtain⟨W3,hW3⟩:∃W3,W2.putObj (W0.heap.size+1) (.loop {AnyZI.apRec ρ fn (.func (.func g) #[] lb) w.heap.size W0.heap.size .ready none with state:=.exhausted})=W3:=⟨_,rfl⟩
    rw[hW3]at hend
    have hg3:W2.grownBy W3 (some (W0.heap.size+1)):=by rw[←hW3];exact grownBy_putObj_a _ _ _
    have hv3:W3.heap[w.heap.size]?=some (.cells #[v] (ρ.t 24) (0,0)):=by rw[←hW3];exact(World.putObj_heap_other (by omega)).trans hv
    have hK3:W3.heap[W0.heap.size]?=some (.deferred (some [])):=by rw[←hW3];exact(World.putObj_heap_other (by omega)).trans h2.K
    have hrow3:=hrow.kept hg3 (ownsRow_ne_a hrow h2.L (λcur e=>by first|cases e|exact hne (Obj.cells.inj e).2.1))
    have hb3:Below w.heap.size w W3:=h2.below.grown hg3 h2.below.size (λk e=>by cases e;omega)
    obtain⟨hc3,hf3⟩:=cell_of_box_a hv3
    have hone3:∀o',jA (W3.putObj W0.heap.size o') v:=λo'=>hone.kept λc hc=>by
      have hvc:v.ownBlock=some c:=hc
      obtain⟨_,⟨rfl,_⟩|⟨gb,cap,cur,rfl,_,hgb,_⟩⟩:=hrow
      · cases hc
      · have:gb=c:=by injection hc
        subst this
        have n1:gb≠W0.heap.size+1:=λe=>by rw[e,h2.L]at hgb;cases hgb
        have n2:gb≠W0.heap.size:=λe=>by rw[e,h2.K]at hgb;cases hgb
        rw[World.putObj_heap_other n2,←hW3,World.putObj_heap_other n1]
    clear hW3
    clear hone
    refine⟨none,W3,hend,?_⟩
    gi_wp2
    rw[←hs0]
    refine⟨by simp,.inl ⟨_,_,rfl,run_takeDeferred hK3,?_⟩⟩
    exact⟨_,results_tmp rfl _ _ _,v,ss,rfl,hS,hrow3.kept (grownBy_putObj_a _ _ _) (ownsRow_ne_a hrow3 hK3 (λcur e=>by first|cases e|exact hne (Obj.cells.inj e).2.1)),hone3 _,hnil,hb3.grown (grownBy_putObj_a _ _ _) hb3.size (λk e=>by cases e;omega)⟩
set_option maxHeartbeats 1000000 in
theorem KJ(L:SlLaysZI.n8 P ρ)(hsl:cF P (ρ.t 24)=some (1,8))(F:Fence)(n:Nat)(h8:F.fn (ρ.f 8))(h11:F.fn (ρ.f 11))(hro:F.round=none)(hn:3<=n)(g:Nat)(lb:Array an)(hFg:F.fn g)(eg:∀args w,(callFunc g args).run P w=.ok (.enter g args) w)
 (S:af->Prop) (N:Nat) (hN:N<=maxLen) (hNb:N*8<=140737488355328) (w:ab) (hseq:i9 F (n -1 -1) P g lb S N w):
 CallsIn F n P (ρ.f 8) #[.func (.func g) #[] lb] w λe w'=>∃(v:an)(ss:af),e=.returned v∧S ss∧w'.ownsRow w.heap.size (ρ.t 26) 1 v ss.length (ss.map encZ)∧jA w' v∧(v=.slice none 0 0↔ss=[])∧Below w.heap.size w w':=by
 have h1:1<=n:=by omega
 have e11:∀args w,(callFunc (ρ.f 11) args).run P w=.ok (.enter (ρ.f 11) args) w:=L.f11.enters rfl;have mixed:=L.mixed;have t0:=L.t0;have a0:=L.a0;have z0:=L.z0;have v0:=L.v0;have t24:=L.t24;have a24:=L.a24;have z24:=L.z24;have v24:=L.v24;have t26:=L.t26;have a26:=L.a26;have z26:=L.z26;have v26:=L.v26;have t28:=L.t28;have a28:=L.a28;have z28:=L.z28;have v28:=L.v28;have u0:=cq L.t0;have u24:=cq L.t24;have u26:=cq L.t26;have u28:=cq L.t28;obtain⟨_,_,FG⟩:=L.f8;refine callsIn_of_wp FG rfl h8 ?_ hro;simp only[SlBodyZ.n8_ntmps ρ,Ww,VR,List.length_nil,Nat.reduceAdd,Nat.reduceSub,YH,YI,Y6,YR,V8,Wh]
 gi_wp2_with (gi_at_fn (ρ.f 11);refine(DX {L with} hsl F (n -1) h11 hro (by omega) g lb hFg eg S N hN hNb _ hseq).mono ?_;rintro e w' ⟨v,ss,rfl,hS,hrow,hone,hnil,hb⟩)
 go_ret
 exact⟨v,ss,rfl,hS,hrow,hone,hnil,hb⟩
theorem zw{w:ab}{g n k cap:Nat}{e:ah}{i:Array Obj}{b:Array an}{ts:af}(d:w.heap[g]?=some (.cells b e (0,0)))(h1:∀u∈b.toList,u.oneCell'=true):
 jA (grow (putRow encZ (Sort.ahead w n) g 0 ts.toArray) i) (.slice (some ⟨g,0,none⟩) k cap):=by
 intro c f arr T fz a;have:g=c:=by injection f
 subst this;rw[heap_sorted_i _ d]at a;injection a with a;have a:=(Obj.cells.inj a).1;subst a;intro u h;obtain⟨k,hk,rfl⟩:=VE h;simp only[putCells,Array.getElem_toList,Array.getElem_mapIdx];split;rfl;exact h1 _ (YJ _)
set_option maxRecDepth 100000 in
set_option maxHeartbeats 2000000 in
theorem zx(L:SlLaysZI.n6 P ρ)(hsl:cF P (ρ.t 24)=some (1,8))(F:Fence)(n:Nat)(h6:F.fn (ρ.f 6))(h8:F.fn (ρ.f 8))(h9:F.fn (ρ.f 9))(h11:F.fn (ρ.f 11))(hro:F.round=none)(hn:4<=n)(hsort:AnyZI.SortsIn P ρ F (n -1))(e9:∀args w,(callFunc (ρ.f 9) args).run P w=.ok (.enter (ρ.f 9) args) w)(g:Nat)(lb:Array an)(hFg:F.fn g)(eg:∀args w,(callFunc g args).run P w=.ok (.enter g args) w)
 (S:af->Prop) (N:Nat) (hN:N<=maxLen) (hNb:N*8<=140737488355328) (w:ab) (hseq:i9 F (n -1 -1 -1) P g lb S N w) (hS:∀ss,S ss->ss.length<=N):
 CallsIn F n P (ρ.f 6) #[.func (.func g) #[] lb] w λe w'=>∃(v:an)(ss:af),e=.returned v∧S ss∧
  w'.ownsRow w.heap.size (ρ.t 26) 1 v ss.length ((ss.mergeSort (λx y=>decide (x<=y))).map encZ)∧jA w' v∧(v=.slice none 0 0↔ss=[])∧Below w.heap.size w w':=by
 have h1:1<=n:=by omega
 have e8:∀args w,(callFunc (ρ.f 8) args).run P w=.ok (.enter (ρ.f 8) args) w:=L.f8.enters rfl;have mixed:=L.mixed;have t0:=L.t0;have a0:=L.a0;have z0:=L.z0;have v0:=L.v0;have t24:=L.t24;have a24:=L.a24;have z24:=L.z24;have v24:=L.v24;have t26:=L.t26;have a26:=L.a26;have z26:=L.z26;have v26:=L.v26;have t28:=L.t28;have a28:=L.a28;have z28:=L.z28;have v28:=L.v28;have u0:=cq L.t0;have u24:=cq L.t24;have u26:=cq L.t26;have u28:=cq L.t28;obtain⟨_,_,FG⟩:=L.f6;refine callsIn_of_wp FG rfl h6 ?_ hro;simp only[SlBodyZ.n6_ntmps ρ,Ww,VR,List.length_nil,Nat.reduceAdd,Nat.reduceSub,YH,YI,Y6,YR,V8,Wh]
 gi_wp2_with (gi_at_fn (ρ.f 8);refine(KJ {L with} hsl F (n -1) h8 h11 hro (by omega) g lb hFg eg S N hN hNb _ hseq).mono ?_;rintro e W ⟨v,ss,rfl,hSs,hrow,hone,hnil,hb⟩)
 rcases hrow.2 with⟨rfl,hz⟩|⟨gb,cap,cur,rfl,hbase,hgb,r1,r2,r3,r4⟩;have hss:ss=[]:=Xx hz;subst hss
 gi_wp2_with (gi_at_fn (ρ.f 9);refine(hsort.2 none 0 W).mono ?_;rintro e w' ⟨rfl,rfl⟩)
 go_ret
 exact⟨.slice none 0 0,[],rfl,hSs,by simpa using hrow,(λc hc=>by cases hc),by simp,hb⟩;have hH:Holds encZ W gb 0 ss.toArray:=holds_of_block_i hgb (by simpa using r4);have hgl:gb<W.heap.size:=(VD.1 hgb).1;have hsz:ss.length<4611686018427387904:=by have:=hS ss hSs;omega
 have cS:=hsort.1 gb 0 cap ss W hH hgl hsz
 gi_wp2_with (gi_at_fn (ρ.f 9);refine cS.mono ?_;rintro e w' ⟨rfl,nn,os,rfl⟩)
 go_ret
 exact⟨_,ss,rfl,hSs,ownsRow_sorted_i (by simp) hbase hgb r1 r2 r3,zw hgb (hone gb rfl cur _ _ hgb),hnil,hb.grown (grownBy_sorted_i _) hb.size (λj hj=>by cases hj;exact hbase)⟩
end
open Go.Proofs
def Ew(P:aa)(f b:az)(x:PV)(r:SV):Prop:=
 aV P f=true∧∀(w:ab)(a:Nat)(arr:Array an)(T:ah)(v0:an),w.heap[a]?=some (.cells arr T (0,0))->arr.toList=[v0]->Fit (dZ w) x v0->
  Calls P f #[.func (.func b) #[] #[.pointer (some ⟨a,0,none⟩)]] w λe w'=>∃v g' o,e=.returned v∧PureEnd w w' g'∧aO g' w' r v o∧r.inCell=true∧∀c,o=some c->w.heap.size<=c∧g'.I c=none
theorem cd.ptr1{P:aa}{st:St}{x:ae}{args:Array ae}{d:Option Tmp}{K:St->Prop}{f S:az}{a0:ae}{b:Nat}{y0 y:PV}{r:SV}(t:Ew P f S y r)
 (hg:gc st x) (B:b8 st x=some (f,[],[])) (Z:args.toList=[a0]) (hm:mv st a0=.pv (.fn (.func S) [] [.ptr b 0])) (E:gc st a0) (A:st.h[b]?=some [.pv y0]) (hy:jD (λ_ _=>.bot) y0=y) (hn:r.nwS)
 (Y:K (jE d r st)):cd P st x args d K:=by
 intro o R ho C g a w h hd K' Q n;obtain⟨k,t⟩:=t;obtain⟨u,v,hu,hv,j⟩:=mL h o x args R f [] [] ho hg B k;have N:u.toList=[]:=hu;have O:v.toList=[]:=hv;rw[N,O,Z]at j;obtain⟨m,_⟩:=bm h a0 E;rw[hm]at m;obtain⟨_,p1,q1,D,H,J⟩:=m;obtain⟨z,r1,L,⟨ab,hz⟩,hr⟩:=J;have q:p1=#[]:=by apply WW;exact H
 have s:q1=#[.pointer (some ⟨g.μ b,0,none⟩)]:=by
  apply WW;rw[L,hz];have:r1=[]:=hr;rw[this]
 obtain⟨bl,hb⟩:=h.own;obtain⟨arr,T,h1,⟨U,_⟩,V⟩:=hb.blocks b _ A;have p:=(V 0 _ rfl).2;have l:arr.toList=[arr.getD 0 undef]:=by
  have W:arr.size=1:=by simpa using U
  apply Wv;intro i;cases i with
  |zero=>simp[W,Array.getD]
  |succ i=>rw[V4 (by simp;omega)];rfl
 have M:Fit (dZ w) y (arr.getD 0 undef):=by
  rw[←hy];exact Fit.frz (r:=λ_ _=>.bot) (λc o B=>h.I c o B) (λ_ _ _=>trivial) y0 _ p.2
 unfold Oper.wp;rw[j,Oper.upon_enter];simp only[VP,Xg,WF,V8];rw[D,q,s];refine(t w (g.μ b) arr T _ h1 l M).mono λe w' ⟨v,g',o',he,X,hf,F,G⟩=>?_;subst he;obtain⟨g2,t2,s2⟩:=h.result (d:=d) hd X hf F G hn;rw[C];exact n _ g2 _ _ Y t2 s2
theorem vM{w w':ab}{e:ah}{v:an}{zs:af}{n:Nat}(hn:n=zs.length)(d:w'.ownsRow w.heap.size e 1 v n (zs.map encZ))(h1:jA w' v)(a:RowKit.Below w.heap.size w w'):
 ∃g' o,PureEnd w w' g'∧aO g' w' (.own true 1 (zs.map λx=>[.lit (.int .i64 x)])) v o∧(SV.own true 1 (zs.map λx=>[PV.lit (.int .i64 x)])).inCell=true∧∀c,o=some c->w.heap.size<=c∧g'.I c=none:=by
 subst hn;refine⟨U2 w.heap.size w,v.ownBlock,⟨rfl,by unfold cH;rw[a.os,a.tape,a.output],a.block,a.size,λc o b=>by cases b⟩,Bd d h1 (Vu _),rfl,λc b=>⟨(d.lt c b).1,rfl⟩⟩
section
open Go.ChangeShapes Go.WideShapes Go.ChangeAt Go.RowKit
section
variable {H : Type} {enc : ah × an -> H} {P : aa}
def wG(P:aa)(ts:List ah):Bool:=ts.all λt=>P.readableRec t&&decide (t<P.types.size)
theorem pY(j:laidOutB P=true){W f:ab}(i:Below W.heap.size W f):∀{ts:List ah}{vs:aG}{g:List (DataW H)}{ps:List MemPlace},wG P ts=true->
 DataW.TrodAll enc P W 0 (λ_=>true) true ts vs g ps->(∀x∈ps,x.block<W.heap.size)->DataW.TrodAll enc P f 0 (λb=>decide (b<W.heap.size)) true ts vs g ps
 |[],_,_,_,_,h,_=>by
  obtain⟨rfl,rfl,rfl⟩:=trodAll_nil h;rfl
 |t::ts,_,_,_,e,h,c=>by
  obtain⟨v,m,d,k,a,b,rfl,rfl,rfl,h1,l⟩:=trodAll_cons h;simp only[wG,List.all_cons,VC,YC]at e;exact⟨a,b,Below.trod j e.1.1 e.1.2 h1 i (λx hx=>c x (WG _ hx)),pY j i (ts:=ts) (by simp only[wG];exact e.2) l (λx hx=>c x (Xi _ hx)),rfl⟩
theorem PureEnd.below{w w':ab}{g:Gh}(h:PureEnd w w' g):Below w.heap.size w w':=by
 have a:=h.env;simp only[cH,W8]at a;exact⟨a.1,a.2.1,a.2.2,h.size,h.keep⟩
theorem NL{f:Func}{s:ChangeSpec}{t:ah}(m:laidOutB P=true)(i:wG P f.params.toList=true)(n:f.resultTypes=#[t]) (ht:P.underlying t=some .bool) {W j:ab} {args:Array an} {b c:List (DataW H)} {a:List MemPlace}
 (o:s.vars=[]) (hs:s.fn H (b++c)={results:=[.lit (.bool true)],args:=b}) (d:DataW.Whole enc P f.params.toList s.vars false W args.toList b c a) (l:Below W.heap.size W j):
 s.post enc P f false true false false W args (.bool true) j:=by
 have g:=d.lt;have e:=d;obtain⟨p,q,h1,k,rfl,r,u⟩:=d;refine⟨b,c,p++q,[],p,q,e,?_,?_,?_,l.frame _,λh=>by cases h⟩;rw[n,hs];exact trodAll_mk1 (shut_bool ht true);rw[hs];exact pY m l i h1 (λx hx=>by simpa using g x (WG _ hx));rw[hs];rw[o]at k⊢;obtain⟨rfl,rfl⟩:=trodVars_none k;rfl
end
end
end Go.AX
