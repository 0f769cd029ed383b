/-
  Contracts: engines: a literal decided.
  Contracts: engines: a model.
  Contracts: what a conflict teaches, of more variables.
-/
import Derived.Test.YtepodadinenmnaaGreatS14AxEgF
import Derived.Test.YtepodadinenmnaaGreatS14AxEgD
import Derived.Test.YtepodadinenmnaaGreatS14AxRnX
import Derived.Test.YtepodadinenmnaaGreatS14AxDfD
namespace Go.AX
open Go.Proofs
set_option linter.unusedSimpArgs false
section
variable {h : List (List SV)} {be bt ba bw bh : Nat} {mp : List (Int × Nat)} {mb : List (Int × By)} {E : ES}
def AV(n:Nat)(E E':ES)(b:Bool):Prop:=
  ((E.over=true∨E.calm=false)∧E'=E∧b=false)∨
  (E.over = false ∧ E.calm = true ∧ ∃ q, HpG n 1000000000000 q ∧
    ((b = true ∧ ∃ x, eW E.T x = 0 ∧ E' = { E with T := jw E.T x, calm := false, q := q } ∧ ∀ v ∈ E.q.row, v ∈ q.row ∨ v ∈ E.T.lits.map ab ∨ v = ab x) ∨
     (b=false∧E'={E with q:=q}∧q.row=[]∧∀v∈E.q.row,v∈E.T.lits.map ab)))
set_option maxRecDepth 16000 in
theorem zc(L:LayE h be bt ba bw bh mp mb E){n:Nat}(hT:TOk n E.T)(g:HpG n 1000000000000 E.q)(hp:E.ph.length=n+1):
 aE Tryz.prog 46 [.ptr be 0] h (fun r h'=>∃E' b,r=.pv (BL b)∧AV n E E' b∧LayE h' be bt ba bw bh mp mb E'∧Ext h h' (d9 be bt ba bw bh mp mb) (d9 be bt ba bw bh mp mb)):=by
 refine dh [] [.tmp 2] aG Tryz.func46 (by kernel_rfl) rfl rfl (by kernel_rfl) (Nat.le_of_ble_eq_true rfl) ?_;have hf:=hT.few;have hn:=hT.hn;have hD:AV n E=fun E' b=>((E.over=true∨E.calm=false)∧E'=E∧b=false)∨(E.over=false∧E.calm=true∧∃q,HpG n 1000000000000 q∧((b=true∧∃x,eW E.T x=0∧E'={E with T:=jw E.T x,calm:=false,q:=q}∧∀v∈E.q.row,v∈q.row∨v∈E.T.lits.map ab∨v=ab x)∨(b=false∧E'={E with q:=q}∧q.row=[]∧∀v∈E.q.row,v∈E.T.lits.map ab))):=rfl;generalize AV n E=DT at*;obtain⟨hlt,hb'⟩:=List.getElem?_eq_some_iff.1 L.e;simp;refine ak.intro (dv L.e) (by simp) ?_;rintro _ h ⟨rfl,rfl⟩
 by_cases ho:E.over=true∨E.calm=false
 ·have hno:DT E false:=by rw[hD];exact .inl ⟨ho,rfl,rfl⟩
  rcases ho with ho|ho
  ·simp[hb',hlt,bI,ho];exact⟨E,hno,L,Ext.refl _ _⟩
  ·cases ho2:E.over<;>simp[hb',hlt,bI,ho,ho2]<;>exact⟨E,hno,L,Ext.refl _ _⟩
 have ho1:E.over=false:=by cases e:E.over<;>simp_all
 have ho2:E.calm=true:=by cases e:E.calm<;>simp_all
 simp[hb',hlt,bI,ho1,ho2];refine aH.intro (S:=fun(x:List (List SV)×HS)=>⟨[(0,.pv (.ptr be 0)),(2,.pv (BL false))],x.1⟩)
  (fun x=>LayE x.1 be bt ba bw bh mp mb {E with q:=x.2}∧Ext h x.1 (d9 be bt ba bw bh mp mb) (d9 be bt ba bw bh mp mb)∧HpG n 1000000000000 x.2∧∀v∈E.q.row,v∈x.2.row∨v∈E.T.lits.map ab) (fun x=>x.2.row.length) (h,E.q) ?_ ⟨L,Ext.refl _ _,g,fun v hv=>.inl hv⟩ ?_
 ·exact aj.keep (by simp) rfl
 clear L hlt hb' g;rintro⟨H,q⟩ ⟨LH,XH,GH,hin⟩;dsimp only at LH XH GH hin;obtain⟨hlt,hb'⟩:=List.getElem?_eq_some_iff.1 LH.e;have hz:=fL (q:=q) LH.q 2;have hhl:=LH.lt.2;have kL:=AD q (by rw[GH.sl];omega);simp[hb',hlt,bI,hz];refine ak.introP kL (by simp[hhl]) (by simp) ?_
 by_cases c:q.row=[]
 ·simp[c];refine⟨{E with q:=q},?_,LH,XH⟩;rw[hD];exact .inr ⟨ho1,ho2,q,GH,.inr ⟨rfl,rfl,c,fun v hv=>(hin v hv).resolve_left (by rw[c];simp)⟩⟩
 have c':0<q.row.length:=List.length_pos_iff.2 c;have hpk:bM q≠0:=fun e=>c (GH.peek_zero.1 e);have hpm:=GH.peek_mem hpk;obtain⟨u,hu⟩:∃u:Nat,bM q=u:=⟨(bM q).toNat,by have:=GH.inr _ hpm;omega⟩;have hur:=GH.inr _ hpm;rw[hu]at hur;obtain⟨t1,_,t3,t4,_⟩:=B3 GH;have t4:=t4 hpk;have kT:=Fd H bh q LH.q GH hn;rw[t3]at kT;have L2:=LH.heap (ep q).1;have X2:=XH.trans (Ext.set bh (ap (ep q).1) (.inr (.inl rfl)));generalize(ep q).1=q2 at*;rw[hu]at kT t4;have hin2:∀v∈E.q.row,v∈q2.row∨v∈E.T.lits.map ab∨v=u:=fun v hv=>by
  rcases hin v hv with e|e
  ·rcases List.mem_cons.1 (t4.subset e)with e|e
   ·exact .inr (.inr e)
   ·exact .inl e
  ·exact .inr (.inl e)
 have hlen2:q2.row.length<q.row.length:=by have:=t4.length_eq;simp at this;omega
 have hul:u<E.ph.length:=by omega
 simp[c',hb',hlt,bI];refine ak.intro kT (by simp) ?_;rintro _ _ ⟨rfl,rfl⟩;clear hlt hb' hz kL;generalize H.set bh (ap q2)=H2 at*;obtain⟨hlt,hb'⟩:=List.getElem?_eq_some_iff.1 L2.e;have hok:da u=true:=(bj _).2 (by omega);have kM:=ET u E.ph[u];have hmk:EQ u E.ph[u]=if E.ph[u]=true then(u:Int)else-u:=by unfold EQ;rw[if_neg (by simp[hok];omega)]
 have hx:∃x:Int,EQ u E.ph[u]=x∧ax x n=0∧ab x=u:=by
  have e1:ax (u:Int) n=0:=(cV (by omega)).2 (by omega);have e2:=(bQ hn e1).2.2.2.2.2.1;have e3:ab (u:Int)=u:=by rw[e2];unfold eF;rw[if_neg (by omega)]
  rw[hmk];split
  ·exact⟨_,rfl,e1,e3⟩
  ·exact⟨_,rfl,oV hn e1,by rw[dt];exact e3⟩
 obtain⟨x,hx1,hx2,hx3⟩:=hx;rw[hx1]at kM;simp[hb',hlt,bI,hul];refine am.intro kM (by simp) ?_;have hz2:=cu L2.w.t 2;have ht:=(List.getElem?_eq_some_iff.1 L2.w.t).1;have kV:=eQ E.T x hT.okT;simp[hb',hlt,bI,hz2];refine ak.introP kV (by simp[ht]) (by simp) ?_
 by_cases d:bV E.T x=0
 ·have hm:eW E.T x=0:=(hT.may x).2 ⟨hx2,(hT.val0 hx2).1 d⟩;have L3:=L2.eng {E with q:=q2,calm:=false} rfl rfl rfl rfl;have X3:=X2.trans (Ext.set be (bI bt ba bw bh {E with q:=q2,calm:=false}) (.inl rfl));generalize hH3:H2.set be (bI bt ba bw bh {E with q:=q2,calm:=false})=H3 at*;simp only[bI]at hH3;have kD:=yh H3 bt E.T L3.w.t x hT.okT (by omega) (by have:=hT.deep;omega);rw[hm]at kD;have L4:=L3.trail (jw E.T x);have X4:=X3.trans (Ext.set bt (fB (jw E.T x)) (.inr (.inr (.inr (.inr (.inl rfl))))));simp[d,hb',hlt,bI,hH3];clear hlt hb';obtain⟨hlt,hb'⟩:=List.getElem?_eq_some_iff.1 L3.e;simp[hb',hlt,bI];refine ak.intro kD (by simp) ?_;rintro _ _ ⟨rfl,rfl⟩;simp;refine⟨_,?_,L4,X4⟩;rw[hD];exact .inr ⟨ho1,ho2,q2,t1,.inl ⟨rfl,x,hm,rfl,by rw[hx3];exact hin2⟩⟩
 ·have hml:(u:Int)∈E.T.lits.map ab:=by
   have:=mt (hT.val0 hx2).2 d
   by_cases e:x∈E.T.lits
   ·exact hx3▸List.mem_map_of_mem e
   ·by_cases e2:-x∈E.T.lits
    ·have:=List.mem_map_of_mem (f:=ab) e2
     rwa [dt,hx3]at this
    ·exact absurd ⟨e,e2⟩ this
  simp[d];exact⟨(H2,q2),hlen2,⟨L2,X2,t1,fun v hv=>by have:=(hin2 v hv).imp id fun e=>e.elim id fun e=>e▸hml;simpa using this⟩,aj.keep (by simp) rfl⟩
end
def lX(l:List Int)(n:Nat):List Bool:=(List.range n).map fun(i:Nat)=>decide ((i:Int)+1∈l)
def uY(l:List Int)(n i:Nat):List Bool:=lX l i++List.replicate (n -i) false
theorem FH(l:List Int)(n i:Nat)(h:i≤n):(uY l n i).length=n:=by unfold uY lX;simp;omega
theorem FJ(l:List Int)(n i:Nat)(h:i<n):(uY l n i).set i (decide ((i:Int)+1∈l))=uY l n (i+1):=by
 unfold uY lX;have e:n -i=(n -(i+1))+1:=by omega
 rw[e,List.replicate_succ,List.set_append_right _ _ (by simp)];simp[List.range_succ]
theorem FK(l:List Int)(n:Nat):uY l n n=lX l n:=by unfold uY;simp
theorem FL(l:List Int)(x:Int):(GQ l x=1)=(x∈l):=by
 unfold GQ;split
 ·rename_i h;simp[h]
 ·rename_i h;split<;>simp[h]
set_option maxRecDepth 16000 in
theorem Cp(l:List Int)(n:Nat)(hl:l.length≤1000000)(hn:n≤100000):ao Tryz.prog 57 [.seq false 1 (af l),ae n] (fun r=>r=.pv (.seq true 1 (cF (lX l n)))):=by
 refine ao.wk (R:=fun r=>∃x,r=.pv x∧cz x (.seq true 1 (cF (lX l n)))) ?_ (fun r ⟨x,e,h⟩=>⟨x,_,e,h,rfl⟩);refine kU [] [.tmp 4] aG Tryz.func57 (by kernel_rfl) rfl rfl (by kernel_rfl) (Nat.le_of_ble_eq_true rfl) ?_;have hv:=fun h=>BW h l hl;have c1:¬(n:Int)<0:=by omega
 have c2:¬(100000:Int)<n:=by omega
 simp[c1,c2];refine am.introM (hv _) (by simp) ?_;rintro _ _ ⟨rfl,rfl⟩;simp[yz];refine⟨by omega,?_⟩;refine aH.intro (S:=fun(i:Nat)=>⟨[(5,.pv (yz 0)),(6,.own true 1 (cF (uY l n i))),(19,.pv (ae n)),(20,.pv (ae i))],[[.omap true (aT fI (cv l l.length))]]⟩) (fun i=>i≤n) (fun i=>n -i) 0 ?_ (Nat.zero_le _) ?_
 ·exact aj.keep (by simp[yz,uY,lX,cF]) rfl
 intro i hi;have hfl:=FH l n i hi
 by_cases c:i<n
 ·have hw:aM ((i:Int)+1)=((i+1:Nat):Int):=by rw[ah (by omega) (by omega)];omega
  have hs:=FJ l n i c;have hva:=yA l ((i:Int)+1);have h1:=FL l ((i:Int)+1);simp[c,hw,yz,bq];refine ak.introP hva (by simp) (by simp) ?_;simp[hfl,c,h1,vX,hs];exact⟨i+1,by(try dsimp only);omega,by(try dsimp only);omega,aj.keep (by simp[hw,yz,hs]) rfl⟩
 ·have hie:i=n:=by omega
  subst hie;simp[FK,cz,cI]
section
variable {h : List (List SV)} {be bt ba bw bh : Nat} {mp : List (Int × Nat)} {mb : List (Int × By)} {E : ES}
def Cq(E:ES)(n:Nat):Bool:=!E.over&&(decide (E.con<0)&&(decide (E.T.lits.length=n)&&decide (∀c∈E.cs,cD c (lX E.T.lits n)=true)))
set_option maxRecDepth 16000 in
theorem Cr(L:LayE h be bt ba bw bh mp mb E){n:Nat}(hT:TOk n E.T)(hv:E.vars=n)(hl:E.cs.length≤1000000)(hc:∀c∈E.cs,c.length≤1000000):
 aE Tryz.prog 15 [.ptr be 0] h (fun r h'=>h'=h∧r=.pv (.tup [if Cq E n=true then .seq true 1 (cF (lX E.T.lits n))else .lit (.slice none 0 0),BL (Cq E n)])):=by
 refine lc [] [.tmp 2,.tmp 3] aG Tryz.func15 (by kernel_rfl) rfl rfl (by kernel_rfl) (Nat.le_of_ble_eq_true rfl) ?_;have hf:=hT.few;have hn:=hT.hn;have hM:Cq E n=(!E.over&&(decide (E.con<0)&&(decide (E.T.lits.length=n)&&decide (∀c∈E.cs,cD c (lX E.T.lits n)=true)))):=rfl;generalize Cq E n=M at*;obtain⟨hlt,hb'⟩:=List.getElem?_eq_some_iff.1 L.e;have hz:=cu L.w.t 2;have ht:=(List.getElem?_eq_some_iff.1 L.w.t).1;have kO:=wG E.T (by rw[hT.len];omega) (by omega);have kL:=er E.T (by omega);have kM:=Cp E.T.lits n (by omega) hn;have kH:=FF E.vars E.cs (lX E.T.lits n) (by omega) hc;simp;refine ak.intro (dv L.e) (by simp) ?_;rintro _ h ⟨rfl,rfl⟩;cases ho:E.over
 rotate_left
 ·have hM:M=false:=by rw[hM,ho];rfl
  subst hM;simp[hb',hlt,bI,ho,cz,cI]
 by_cases c1:0≤E.con
 ·have hM:M=false:=by rw[hM,decide_eq_false (by omega:¬E.con<0)];simp
  subst hM;simp[hb',hlt,bI,ho,c1,cz,cI]
 have c1':E.con<0:=by omega
 rw[ho,decide_eq_true c1']at hM;simp[hb',hlt,bI,ho,c1,hz];rw[hT.len]at kO;refine ak.introP kO (by simp[ht]) (by simp) ?_
 by_cases c2:E.T.lits.length=n
 rotate_left
 ·have c2':E.T.lits.length<n:=by omega
  have c3':¬n≤E.T.lits.length:=by omega
  have hM:M=false:=by rw[hM,decide_eq_false c2];simp
  subst hM;simp[c2',c3',cz,cI]
 rw[decide_eq_true c2]at hM;have c2':¬E.T.lits.length<n:=by omega
 have c3':n≤E.T.lits.length:=by omega
 simp[c2',c3',hb',hlt,bI,ho,c1,hz];refine bs.intro kL (by simp) ?_;simp[hb',hlt,bI,hv];refine bs.intro kM (by simp) ?_;simp[hb',hlt,bI,hv];rw[hv]at kH;have hml:(lX E.T.lits n).length=n:=by simp[lX]
 rw[hml,decide_eq_true rfl]at kH;refine am.intro kH (by simp) ?_
 by_cases d:∀c∈E.cs,cD c (lX E.T.lits n)=true
 ·rw[decide_eq_true d]at hM;subst hM;simp[d,cz,cI];exact d
 ·rw[decide_eq_false d]at hM;subst hM;simp[d,cz,cI]
end
theorem oI(A:Ar)(T:Tr){B:Nat}(hB:∀q,(aq A q).length≤B)(all:List Int):∀(n:Nat)(p:PS),(cA A T all n p).lits.length≤p.lits.length+n*B
 |0,p=>by simp[cA]
 |n+1,p=>by
  rw[cA,Nat.succ_mul];split
  ·omega
  split
  ·have h:=oI A T hB all n (mS A T p (all.getD n 0));have h1:=iW T (ab (all.getD n 0)) (aq A (dq T (ab (all.getD n 0))).1.rea) ⟨pt p.seen (ab (all.getD n 0)) 0,p.lits,p.many -1⟩;have h2:=hB (dq T (ab (all.getD n 0))).1.rea;have h3:mS A T p (all.getD n 0)=c9 T (ab (all.getD n 0)) (aq A (dq T (ab (all.getD n 0))).1.rea) ⟨pt p.seen (ab (all.getD n 0)) 0,p.lits,p.many -1⟩:=rfl;rw[h3]at h⊢;dsimp only at h1;omega
  ·have h:=oI A T hB all n p;omega
set_option maxRecDepth 16000 in
theorem zd(A:Ar)(T:Tr)(con:Int)(ht:T.ok)(h0:A.hd≠[])(hk:jC A)(hl:A.row.length≤1000000)(hB:∀q,(aq A q).length≤1000)(hT:T.lits.length≤400):
 ao Tryz.prog 92 [jY A,bu T,ae con] (fun r=>r=.pv (.tup [.seq true 1 (af (oA A T con)),ae (jE A T con)])):=by
 refine ao.wk (R:=fun r=>∃x,r=.pv x∧cz x (.tup [.seq true 1 (af (oA A T con)),ae (jE A T con)])) ?_ (fun r ⟨x,e,h⟩=>⟨x,_,e,h,rfl⟩);refine kU [] [.tmp 6,.tmp 7] aG Tryz.func92 (by kernel_rfl) rfl rfl (by kernel_rfl) (Nat.le_of_ble_eq_true rfl) ?_;have hId:=uF A h0 hk (by omega) con;have hL:=iU A h0 hk (by omega) con;have hcl:=eU A hk con;have hfl:=BQ T (aq A con) ht (by omega);have htk:=BU A T con 0 ht h0 hk (by omega);have hbg:c9 T 0 (aq A con) ⟨[],[],0⟩=gh A T con:=rfl;rw[hbg]at htk;have hble:=iW T 0 (aq A con) ⟨[],[],0⟩;rw[hbg]at hble;dsimp only[List.length_nil]at hble;have hlt:=er T (by omega);have hw:=D7 A T (gh A T con) T.lits ht h0 hk (by omega) (by omega) (by omega) (by omega);have hfd:fin A T T.lits (gh A T con)=⟨(cA A T T.lits T.lits.length (gh A T con)).seen,pj T T.lits (cA A T T.lits T.lits.length (gh A T con)),(cA A T T.lits T.lits.length (gh A T con)).many⟩:=rfl;have hE:jE A T con=if lh A con=0 then 20 else if mV T (aq A con)=false then 30 else 0:=rfl;have hR:oA A T con=if jE A T con=0 then cZ A T con else[]:=rfl;have hS:cZ A T con=DY T (pj T T.lits (cA A T T.lits T.lits.length (gh A T con))):=rfl;have hend:(pj T T.lits (cA A T T.lits T.lits.length (gh A T con))).length≤1000000:=by
  have q1:=wu T T.lits (cA A T T.lits T.lits.length (gh A T con)) T.lits.length (Nat.le_refl _);rw[sT]at q1;have q2:=oI A T hB T.lits T.lits.length (gh A T con);have q3:=hB con;omega
 generalize oA A T con=R at*;generalize jE A T con=E at*;generalize cZ A T con=S at*;generalize aq A con=c at*;rw[hfd]at hw;generalize cA A T T.lits T.lits.length (gh A T con)=W at*;generalize gh A T con=B at*;simp;refine am.intro hId (by simp) ?_
 by_cases c1:lh A con=0
 ·rw[if_pos c1]at hE;subst hE;rw[if_neg (by omega)]at hR;subst hR;simp[c1,cz,cI,af]
 rw[if_neg c1]at hE;simp[c1];refine am.intro hL (by simp) ?_;simp;refine am.intro hfl (by simp) ?_;cases c2:mV T c
 ·rw[if_pos c2]at hE;subst hE;rw[if_neg (by omega)]at hR;subst hR;simp[c2,cz,cI,af]
 rw[if_neg (by simp[c2])]at hE;subst hE;rw[if_pos rfl]at hR;subst hR;simp[c2];simp only[IF,gZ]at htk hw;refine ak.intro htk (by simp) ?_;rintro _ _ ⟨rfl,rfl⟩;simp;refine am.intro hlt (by simp) ?_;simp;refine ak.intro (hw.args (xs:=[.ptr 0 0,.seq true 1 (af T.lits)]) (by simp[cI,cz])) (by simp) ?_;rintro _ _ ⟨rfl,rfl⟩;have hf:=BT T (pj T T.lits W) ht hend;rw[←hS]at hf;simp;refine am.intro hf (by simp) ?_;simp[cz,cI]
end Go.AX