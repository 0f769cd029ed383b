/-
  Contracts: watches: lates, Attached.
  Contracts: watches: fails.
  Contracts: watches: Propagate.
-/
import Derived.Test.YtepodadinenmnaaGreatS14AxWaD
import Derived.Test.YtepodadinenmnaaGreatRows
import Derived.Test.YtepodadinenmnaaGreatAxKs
import Derived.Test.YtepodadinenmnaaGreatS14AxTtA
import Derived.Test.YtepodadinenmnaaGreatAxTb
namespace Go.AX
open Go.Proofs Go.Maps Go.Shelf
set_option linter.unusedSimpArgs false
theorem q7{α:Type}(f:α→PV):∀l:List (Int×α),Ap (aT f l)=aT (fun _=>PV.bot) l
 |[]=>rfl
 |(k,x)::l=>by
  show(k,PV.bot)::Ap (aT f l)=(k,PV.bot)::aT (fun _=>PV.bot) l;rw[q7 f l]
def gi:List Int→WS→Tr→WS×Tr×Int
 |[],S,T=>(S,T,-1)
 |k::ks,S,T=>match lk S.prs k with
  |some p=>if ll T p=true then(S,T,k)else gi ks (iJ S T k p) (j0 T k p)
  |none=>(S,T,-1)
set_option maxRecDepth 16000 in
theorem BZ(h:List (List SV))(bw ba bt:Nat)(mp:List (Int×Nat))(mb:List (Int×By))(A:Ar)(T:Tr)(S:WS)(L:LayW h bw ba bt mp mb A T S)(Ks:List Int)(hKs:dQ (S.late.map (·.1))=Ks)(J:Nat→WS→Tr→Prop)(hJ0:J 0 S T)(hkw:∀q∈S.late,Cv q.1)(hll:S.late.length≤1000000)
 (hB:∀i S' T',J i S' T'→∀(hi:i<Ks.length),T'.ok∧T'.lits.length≤1000000∧(∀l zs,lk S'.byl l=some zs→zs.length≤1000000)∧∃p,lk S'.prs Ks[i]=some p∧p.lits.length≤1000000)
 (hJ:∀i S' T' p,J i S' T'→∀(hi:i<Ks.length),lk S'.prs Ks[i]=some p→ll T' p=false→J (i+1) (iJ S' T' Ks[i] p) (j0 T' Ks[i] p)):
 aE Tryz.prog 156 [.ptr bw 0] h (fun r h'=>r=.pv (ae (gi Ks S T).2.2)∧∃mb',LayW h' bw ba bt mp mb' A (gi Ks S T).2.1 (gi Ks S T).1∧Ext h h' (aP bw bt mp mb) (aP bw bt mp mb')):=by
 refine dh [1] [.tmp 2] aG Tryz.func156 (by kernel_rfl) rfl rfl (by kernel_rfl) (Nat.le_of_ble_eq_true rfl) ?_;obtain⟨w1,w2⟩:=List.getElem?_eq_some_iff.1 L.w;have hS:=yE (fun _:Int=>PV.bot) S.late hkw hll;have hKl:Ks.length≤1000000:=by rw[←hKs];unfold dQ;rw[List.length_mergeSort,List.length_map];exact hll
 have hL0:gi Ks S T=gi (Ks.drop 0) S T:=rfl;rw[hKs]at hS;generalize gi Ks S T=Z at*;simp;refine jW.keys [_,_,_,_] [_,_] _ _ _ _ 229 _ _ _ _ _ (af Ks) rfl rfl rfl rfl rfl rfl rfl ?_;simp[w1,w2,b9];rw[q7];refine⟨Dr,hS,?_⟩;refine aH.intro (S:=fun(x:Nat×List (List SV)×List (Int×By)×WS×Tr)=>⟨[(0,.pv (.ptr bw 0)),(10,.own true 1 (af Ks)),(11,.pv (ae Ks.length)),(12,.pv (ae x.1))],x.2.1⟩)
  (fun x=>x.1≤Ks.length∧LayW x.2.1 bw ba bt mp x.2.2.1 A x.2.2.2.2 x.2.2.2.1∧J x.1 x.2.2.2.1 x.2.2.2.2∧Ext h x.2.1 (aP bw bt mp mb) (aP bw bt mp x.2.2.1)∧Z=gi (Ks.drop x.1) x.2.2.2.1 x.2.2.2.2)
  (fun x=>Ks.length -x.1) (0,h,mb,S,T) ?_ ⟨Nat.zero_le _,L,hJ0,Ext.refl _ _,hL0⟩ ?_
 ·exact aj.keep (by simp) rfl
 rintro⟨i,H,mb',S',T'⟩ ⟨hi,LH,hJ',hE,hZ⟩;dsimp only at hi LH hJ' hE hZ
 by_cases d:i<Ks.length
 ·have hw':aM ((i:Int)+1)=((i+1:Nat):Int):=by rw[ah (by omega) (by omega)];omega
  have hq:Ks[i]?=some Ks[i]:=List.getElem?_eq_getElem d;obtain⟨b1,b2,b3,p,hp,hpl⟩:=hB i S' T' hJ' d;have kF:=td H bw ba bt mp mb' A T' S' LH Ks[i] p hp b1 b2 hpl b3;rw[List.drop_eq_getElem_cons d,gi,hp]at hZ;simp only at hZ;simp[d,hq];refine ak.intro kF (by simp) ?_;rintro _ H2 ⟨rfl,mb2,L2,E2⟩;cases hf:ll T' p
  ·rw[if_neg (by rw[hf];simp)]at hZ;simp[hf];exact⟨(i+1,H2,mb2,iJ S' T' Ks[i] p,j0 T' Ks[i] p),by(try dsimp only);omega,⟨by(try dsimp only);omega,L2,hJ i S' T' p hJ' d hp hf,hE.trans E2,hZ⟩,aj.keep (by simp[hw']) rfl⟩
  ·rw[if_pos hf]at hZ;subst hZ;have hS2:iJ S' T' Ks[i] p=S':=by
    unfold ll at hf;unfold iJ;rw[if_neg (by have:=of_decide_eq_true hf;omega)]
   have hT2:j0 T' Ks[i] p=T':=by
    unfold ll at hf;unfold j0;rw[if_neg (by have:=of_decide_eq_true hf;omega)]
   rw[hS2,hT2]at L2;simp[hf];exact⟨mb2,L2,hE.trans E2⟩
 ·have:i=Ks.length:=by omega
  subst this;rw[List.drop_eq_nil_of_le (Nat.le_refl _),gi]at hZ;subst hZ;simp;exact⟨mb',LH,hE⟩
end Go.AX
namespace Go.AX
open Go.Proofs
set_option linter.unusedSimpArgs false
def uK:Sch:=
 let s0:Sch:=.fork [(6,.take 7 .done)]
 let s1:Sch:=.fork [(5,s0)]
 let s2:Sch:=.fork [(4,s1)]
 let s3:Sch:=.fork [(3,s1)]
 let s4:Sch:=.fork [(3,s2),(4,s3)]
 let s5:Sch:=.fork [(0,.take 1 (.take 2 s3))]
 let s6:Sch:=.fork [(0,.take 1 (.take 2 s4)),(4,s5)]
 s6
def Et:Sch:=
 let s0:Sch:=.fork [(5,.take 6 .done)]
 let s1:Sch:=.fork [(4,s0)]
 let s2:Sch:=.fork [(3,s0)]
 let s3:Sch:=.fork [(3,s1),(4,s2)]
 let s4:Sch:=.fork [(0,.take 1 (.take 2 s2))]
 let s5:Sch:=.fork [(0,.take 1 (.take 2 s3)),(4,s4)]
 s5
def Eu:Sch:=
 let s0:Sch:=.fork [(5,.take 6 .done)]
 let s1:Sch:=.fork [(4,s0)]
 .take 0 (.take 1 (.take 2 (.take 3 s1)))
def As:Sch:=
 let s0:Sch:=.fork [(7,.done)]
 let s1:Sch:=.fork [(5,.take 6 s0)]
 let s2:Sch:=.fork [(4,s1)]
 let s3:Sch:=.fork [(3,s1)]
 let s4:Sch:=.fork [(3,s2),(4,s3)]
 let s5:Sch:=.fork [(0,.take 1 (.take 2 s3))]
 let s6:Sch:=.fork [(0,.take 1 (.take 2 s4)),(4,s5)]
 s6
def IL(T:Tr)(l other x:Int):Bool:=decide (x≠l)&&(decide (x≠other)&&decide (0≤bV T x))
set_option maxRecDepth 16000 in
theorem Ew(h:List (List SV))(bw ba bt nb:Nat)(W:Wt)(T:Tr)(hw:h[bw]?=some (b9 ba bt W))(ht:h[bt]?=some (fB T))(hT:T.ok)(l:Int)(h0:h[nb]?=some [.pv (.ptr bw 0)])(h1:h[nb+1]?=some [.pv (ae l)])(x other:Int):
 aE Tryz.prog 234 [ae x,ae other,.ptr (nb+1) 0,.ptr nb 0] h (fun r h'=>h'=h∧r=.pv (BL (IL T l other x))):=by
 refine lc [] [.tmp 6] aG Tryz.func234 (by kernel_rfl) rfl rfl (by kernel_rfl) (Nat.le_of_ble_eq_true rfl) ?_;obtain⟨w1,w2⟩:=List.getElem?_eq_some_iff.1 hw;obtain⟨a1,a2⟩:=List.getElem?_eq_some_iff.1 h0;obtain⟨b1,b2⟩:=List.getElem?_eq_some_iff.1 h1;have hv:=eQ T x hT;have hz:=cu ht 2;unfold IL
 by_cases c1:x=l
 ·simp[w1,w2,b9,a1,a2,b1,b2,c1]
 by_cases c2:x=other
 ·have c3:¬other=l:=fun e=>c1 (c2.trans e);simp[w1,w2,b9,a1,a2,b1,b2,c1,c2,c3]
 simp[w1,w2,b9,a1,a2,b1,b2,c1,c2,hz];refine ak.introP hv (by simp[c1,c2]) (by simp) ?_;simp[c1,c2]
theorem Ex(x v:Int):ao Tryz.prog 236 [ae x,.iptr 1 [[ae v]] 0 0] (fun r=>r=.pv (BL (decide (x=v)))):=by
 refine aw aG Tryz.func236 (by kernel_rfl) rfl rfl (by kernel_rfl) (Nat.le_of_ble_eq_true rfl) ?_;simp
def nJ(l:Int)(p:Pr):Int:=if p.x=l then p.y else p.x
def lp(T:Tr)(l:Int)(p:Pr):Option Int:=p.lits.find? (IL T l (nJ l p))
def ib(l:Int)(p:Pr)(x:Int):Pr:=if p.x=l then⟨p.lits,x,p.y⟩else⟨p.lits,p.x,x⟩
def pq(S:WS)(k l:Int)(p:Pr)(x:Int):WS:=⟨pt S.prs k (ib l p x),fH (eI S.byl k l) k x,S.late,S.head,S.seen⟩
def jT(S:WS)(k:Int):WS:=⟨S.prs,S.byl,pt S.late k (aM ((lk S.late k).getD 0+1)),S.head,S.seen⟩
def nK(p:Pr):Pr:=⟨p.lits,0,0⟩
def mX(S:WS)(T:Tr)(l k:Int)(p:Pr):WS:=match lp T l p with
 |some x=>pq S k l p x
 |none=>iJ (jT (lj S k p) k) T k (nK p)
def nL(T:Tr)(l k:Int)(p:Pr):Tr:=match lp T l p with
 |some _=>T
 |none=>j0 T k (nK p)
def oE(T:Tr)(l:Int)(p:Pr):Bool:=match lp T l p with
 |some _=>false
 |none=>ll T (nK p)
def f9(l:Int):List Int→WS→Tr→WS×Tr×Int
 |[],S,T=>(S,T,-1)
 |k::ks,S,T=>match lk S.prs k with
  |some p=>if oE T l p=true then(mX S T l k p,nL T l k p,k)else f9 l ks (mX S T l k p) (nL T l k p)
  |none=>(S,T,-1)
structure StepOk (S:WS) (T:Tr) (l k:Int) (p:Pr):Prop where
  hp:lk S.prs k=some p
  l0:l≠0
  two:p.x=l∨p.y=l
  lits:p.lits.length≤1000000
  byl:∃zs,lk S.byl l=some zs∧zs≠[]
  hx:p.x≠0→∃zs,lk S.byl p.x=some zs∧zs≠[]
  hy:p.y≠0→∃zs,lk (eI S.byl k p.x) p.y=some zs∧zs≠[]
  hz:∀l zs,lk S.byl l=some zs→zs.length≤1000000
  ok:T.ok
  tl:T.lits.length≤1000000
theorem q8{byl:List (Int×List Int)}{k l:Int}{n:Nat}(h:∀l zs,lk byl l=some zs→zs.length≤n):∀m zs,lk (eI byl k l) m=some zs→zs.length≤n:=fun m zs hm=>by
 unfold eI at hm;split at hm
 ·exact h m zs hm
 ·rw[bz]at hm;split at hm
  ·cases hm
   refine Nat.le_trans (iO _ _) ?_;cases hq:lk byl l with
   |none=>exact Nat.zero_le _
   |some z=>exact h l z hq
  ·exact h m zs hm
def tf(a m:Nat)(zs:List Int)(i:Nat)(x:Int):List (Nat×SV):=[(2,.pv (.ptr a 0)),(3,.pv (.ptr (a+1) 0)),(5,.own true 1 (af zs)),(6,.pv (.fn (.func 234) [] [.ptr (a+1) 0,.ptr a 0])),(8,.pv (.ptr m 0)),(13,.pv (ae x)),(22,.al (.slot 5)),(23,.pv (ae zs.length)),(24,.pv (ae i))]
theorem Lh:(∀x:By,Cw x=.bsl x.b 1 0 x.n x.cp)∧(∀(ba bt:Nat)(W:Wt),b9 ba bt W=[.pv (.ptr ba 0),.pv (.ptr bt 0),.omap true (aT tb W.prs),.omap true (aT Cw W.byl),.omap true (aT fI W.late),.pv (ae W.head),.own true 1 (af W.seen)])∧(∀(a m:Nat)(zs:List Int)(i:Nat)(x:Int),tf a m zs i x=[(2,.pv (.ptr a 0)),(3,.pv (.ptr (a+1) 0)),(5,.own true 1 (af zs)),(6,.pv (.fn (.func 234) [] [.ptr (a+1) 0,.ptr a 0])),(8,.pv (.ptr m 0)),(13,.pv (ae x)),(22,.al (.slot 5)),(23,.pv (ae zs.length)),(24,.pv (ae i))])∧(∀b k n s:Nat,aC b k n (.slot s)=false)∧∀b k n b' k':Nat,aC b k n (.cell b' k')=(b==b'&&decide (k≤k')&&decide (k'<k+n)):=⟨fun _=>rfl,fun _ _ _=>rfl,fun _ _ _ _ _=>rfl,fun _ _ _ _=>rfl,fun _ _ _ _ _=>rfl⟩
set_option maxRecDepth 32000 in
set_option maxHeartbeats 8000000 in
theorem B0(h:List (List SV))(bw ba bt:Nat)(mp:List (Int×Nat))(mb:List (Int×By))(A:Ar)(T:Tr)(S:WS)(L:LayW h bw ba bt mp mb A T S)(l:Int)(zs:List Int)(hzs:lk S.byl l=some zs)(hzl:zs.length≤1000000)(J:Nat→WS→Tr→Prop)(hJ0:J 0 S T)
    (hJ:∀i S' T',J i S' T'→∀(hi:i<zs.length),∃p,StepOk S' T' l zs[i] p∧(oE T' l p=false→J (i+1) (mX S' T' l zs[i] p) (nL T' l zs[i] p))):
    aE Tryz.prog 157 [.ptr bw 0,ae l] h (fun r h'=>r=.pv (ae (f9 l zs S T).2.2)∧∃mb',LayW h' bw ba bt mp mb' A (f9 l zs S T).2.1 (f9 l zs S T).1∧Ext h h' (aP bw bt mp mb) (aP bw bt mp mb')):=by
  refine dh [1,6,7,14,15,18] [.tmp 4] aG Tryz.func157 (by kernel_rfl) rfl rfl (by kernel_rfl) (Nat.le_of_ble_eq_true rfl) ?_
  obtain⟨e,he,⟨sp,e1,e2,e3,e4,e5⟩,e6,e7,e8⟩:=L.some_b hzs
  obtain⟨G,hG⟩:∃G,G=h++[[SV.pv (.ptr bw 0)],[SV.pv (ae l)]]:=⟨_,rfl⟩
  have L0:LayW G bw ba bt mp mb A T S:=by rw[hG];exact L.app _
  have E0:Ext h G (aP bw bt mp mb) (aP bw bt mp mb):=by rw[hG];exact Ext.app _ _ _
  have n0?:G[h.length]?=some [.pv (.ptr bw 0)]:=by rw[hG];simp
  have n1?:G[h.length+1]?=some [.pv (ae l)]:=by rw[hG];simp
  have hout:∀b,h.length≤b→¬aP bw bt mp mb b:=fun b hb hd=>by
    have lt:∀{c:Nat}{x:List SV},h[c]?=some x→c<h.length:=fun hx=>(List.getElem?_eq_some_iff.1 hx).1
    rcases hd with q|q|⟨k,q⟩|⟨l',e',q,rfl⟩
    · have:=lt L.w;omega
    · have:=lt L.t;omega
    · obtain⟨_,_,a2,_⟩:=L.pr k b q;have:=lt a2;omega
    · obtain⟨_,_,⟨_,a2,_⟩,_⟩:=L.by' l' e' q;have:=lt a2;omega
  obtain⟨w1,w2⟩:=List.getElem?_eq_some_iff.1 L0.w
  obtain⟨a1,a2⟩:=List.getElem?_eq_some_iff.1 n0?
  obtain⟨b1,b2⟩:=List.getElem?_eq_some_iff.1 n1?
  have hcl:=gL zs hzl
  have heG:G[e.b]?=some (aF zs++sp):=by rw[hG,List.getElem?_append_left (List.getElem?_eq_some_iff.1 e1).1,e1]
  have hfz:rM (bq G 3 e.b 0) 1 e.n=.seq false 1 (af zs):=by rw[←e3];exact GU G e.b zs sp heG 2
  have hF0:f9 l zs S T=f9 l (zs.drop 0) S T:=rfl
  generalize f9 l zs S T=Z at*
  simp
  rw[←hG]
  refine aY.meet uK ⟨[(2,.pv (.ptr h.length 0)),(3,.pv (.ptr (h.length+1) 0)),(5,.own true 1 (af zs))],G⟩ (by kernel_rfl) ?_ ?_
  · simp[uK,w1,w2,b9,a1,a2,b1,b2,he,Cw,hfz]
    and_intros
    all_goals
      refine ak.introP hcl (by simp) (by simp) ?_
      simp
      exact aj.keep (by simp) rfl
  simp
  refine aH.intro (S:=fun(x:Nat×List (List SV)×List (Int×By)×WS×Tr)=>⟨[(2,.pv (.ptr h.length 0)),(3,.pv (.ptr (h.length+1) 0)),(5,.own true 1 (af zs)),(6,.pv (.fn (.func 234) [] [.ptr (h.length+1) 0,.ptr h.length 0])),(22,.al (.slot 5)),(23,.pv (ae zs.length)),(24,.pv (ae x.1))],x.2.1⟩)
    (fun x=>x.1≤zs.length∧LayW x.2.1 bw ba bt mp x.2.2.1 A x.2.2.2.2 x.2.2.2.1∧J x.1 x.2.2.2.1 x.2.2.2.2∧Ext G x.2.1 (aP bw bt mp mb) (aP bw bt mp x.2.2.1)∧Z=f9 l (zs.drop x.1) x.2.2.2.1 x.2.2.2.2)
    (fun x=>zs.length -x.1) (0,G,mb,S,T) ?_ ⟨Nat.zero_le _,L0,hJ0,Ext.refl _ _,hF0⟩ ?_
  · exact aj.keep (by simp) rfl
  rintro⟨i,H,mb',S',T'⟩ ⟨hi,LH,hJ',hE,hZ⟩
  dsimp only at hi LH hJ' hE hZ
  have hGl:G.length=h.length+2:=by rw[hG];simp
  have m0?:H[h.length]?=some [.pv (.ptr bw 0)]:=by rw[hE.same h.length (by omega) (hout _ (Nat.le_refl _)),n0?]
  have m1?:H[h.length+1]?=some [.pv (ae l)]:=by rw[hE.same (h.length+1) (by omega) (hout _ (by omega)),n1?]
  have hou2:∀b,h.length≤b→b<G.length→¬aP bw bt mp mb' b:=fun b hb hb2 hd=>hout b hb (hE.sub b hb2 hd)
  by_cases d:i<zs.length
  rotate_left
  · have:i=zs.length:=by omega
    subst this
    rw[List.drop_eq_nil_of_le (Nat.le_refl _),f9]at hZ
    subst hZ
    simp
    exact⟨mb',LH,E0.trans hE⟩
  have hw':aM ((i:Int)+1)=((i+1:Nat):Int):=by rw[ah (by omega) (by omega)];omega
  have hq:zs[i]?=some zs[i]:=List.getElem?_eq_getElem d
  obtain⟨p,hS,hJn⟩:=hJ i S' T' hJ' d
  rw[List.drop_eq_getElem_cons d,f9,hS.hp]at hZ
  simp only at hZ
  obtain⟨k,hkk⟩:∃k,zs[i]=k:=⟨_,rfl⟩
  rw[hkk]at hS hJn hZ hq
  obtain⟨b,hb,q1,q2,q3,q4⟩:=LH.some_p hS.hp
  -- the number is boxed
  obtain⟨G2,hG2⟩:∃G2,G2=H++[[SV.pv (ae k)]]:=⟨_,rfl⟩
  have L2:LayW G2 bw ba bt mp mb' A T' S':=by rw[hG2];exact LH.app _
  have E2:Ext H G2 (aP bw bt mp mb') (aP bw bt mp mb'):=by rw[hG2];exact Ext.app _ _ _
  have lt:∀{c:Nat}{x:List SV},H[c]?=some x→c<H.length:=fun hx=>(List.getElem?_eq_some_iff.1 hx).1
  have up:∀{c:Nat}{x:List SV},H[c]?=some x→G2[c]?=some x:=fun hx=>by rw[hG2,List.getElem?_append_left (lt hx),hx]
  have hk?:G2[H.length]?=some [.pv (ae k)]:=by rw[hG2];simp
  have p0?:=up m0?
  have p1?:=up m1?
  have pb?:=up q1
  have houk:¬aP bw bt mp mb' H.length:=fun hd=>by
    rcases hd with q|q|⟨k',q⟩|⟨l',e',q,qe⟩
    · have:=lt LH.w;omega
    · have:=lt LH.t;omega
    · obtain⟨_,_,a2,_⟩:=LH.pr k' _ q;have:=lt a2;omega
    · obtain⟨_,_,⟨_,a2,_⟩,_⟩:=LH.by' l' e' q;have:=lt a2;omega
  obtain⟨w3,w4⟩:=List.getElem?_eq_some_iff.1 L2.w
  obtain⟨c1,c2⟩:=List.getElem?_eq_some_iff.1 p0?
  obtain⟨d1,d2⟩:=List.getElem?_eq_some_iff.1 p1?
  obtain⟨f1,f2⟩:=List.getElem?_eq_some_iff.1 hk?
  obtain⟨g1,g2⟩:=List.getElem?_eq_some_iff.1 pb?
  obtain⟨kx,hkx⟩:∃kx:Nat,kx=if p.x=l then 0 else 1:=⟨_,rfl⟩
  have hpos:ye [p.x,p.y] l=(kx:Int):=by
    unfold ye
    by_cases c:p.x=l
    · rw[hkx,if_pos c]
      exact fO (i:=0) (by simp) (fun j hj h=>by omega) (by simp[c])
    · rw[hkx,if_neg c]
      exact fO (i:=1) (by simp) (fun j hj h=>by cases(show j=0 by omega);simp[c]) (by simp[hS.two.resolve_left c])
  have hIx:=vU [p.x,p.y] l (by simp)
  rw[hpos]at hIx
  have hfz2:rM (bq G2 3 b 1) 1 2=.seq false 1 (af [p.x,p.y]):=by
    have e0:G2.getD b []=nI p:=by rw[List.getD_eq_getElem?_getD,pb?];rfl
    simp only[bq,e0,nI,iA]
    simp[rM,frzC,af]
  simp[d,hkk]
  rw[←hG2]
  refine aY.meet Et ⟨[(2,.pv (.ptr h.length 0)),(3,.pv (.ptr (h.length+1) 0)),(5,.own true 1 (af zs)),(6,.pv (.fn (.func 234) [] [.ptr (h.length+1) 0,.ptr h.length 0])),(22,.al (.slot 5)),(23,.pv (ae zs.length)),(24,.pv (ae i)),(8,.pv (.ptr H.length 0)),(9,.pv (.ptr b 0))],G2⟩ (by kernel_rfl) ?_ ?_
  · simp[Et,w3,w4,b9,c1,c2,d1,d2,f1,f2,hb,tb]
    and_intros
    all_goals exact aj.keep (by simp) rfl
  simp
  refine aY.arr [] Eu (fun _:Unit=>⟨[(2,.pv (.ptr h.length 0)),(3,.pv (.ptr (h.length+1) 0)),(5,.own true 1 (af zs)),(6,.pv (.fn (.func 234) [] [.ptr (h.length+1) 0,.ptr h.length 0])),(22,.al (.slot 5)),(23,.pv (ae zs.length)),(24,.pv (ae i)),(8,.pv (.ptr H.length 0)),(9,.pv (.ptr b 0)),(10,.pv (ae kx))],G2⟩) (fun _=>True) (by kernel_rfl) ?_ ?_
  · simp[Eu,w3,w4,b9,c1,c2,d1,d2,f1,f2,g1,g2,nI,iA,hfz2]
    refine ak.introP hIx (by simp) (by simp) ?_
    simp
    exact aj.keep (by simp) rfl
  rintro _ _
  have hkl:kx≤1:=by rw[hkx];split<;>omega
  have hw1:aM (1 -(kx:Int))=((1 -kx:Nat):Int):=by rw[ah (by omega) (by omega)];omega
  have hx1:((1 -kx:Nat):Int)<2:=by omega
  have hx2:1+(1 -kx)<3:=by omega
  have hcell:∀hh:1+(1 -kx)<[SV.pv (.seq false 1 (af p.lits)),SV.pv (ae p.x),SV.pv (ae p.y)].length,[SV.pv (.seq false 1 (af p.lits)),SV.pv (ae p.x),SV.pv (ae p.y)][1+(1 -kx)]'hh=SV.pv (ae (nJ l p)):=fun hh=>by
    unfold nJ
    by_cases c:p.x=l
    · rw[if_pos c]at hkx
      subst hkx
      rw[if_pos c];rfl
    · rw[if_neg c]at hkx
      subst hkx
      rw[if_neg c];rfl
  simp[hw1,hx1,hx2,g1,g2,nI,iA,hcell]
  have kO:=fun x=>Ew G2 bw ba bt h.length ⟨mp,mb',S'.late,S'.head,S'.seen⟩ T' L2.w L2.t hS.ok l p0? p1? x (nJ l p)
  have hpk:lp T' l p=(p.lits.drop 0).find? (IL T' l (nJ l p)):=rfl
  refine aH.intro (S:=fun(j:Nat)=>⟨[(2,.pv (.ptr h.length 0)),(3,.pv (.ptr (h.length+1) 0)),(5,.own true 1 (af zs)),(6,.pv (.fn (.func 234) [] [.ptr (h.length+1) 0,.ptr h.length 0])),(22,.al (.slot 5)),(23,.pv (ae zs.length)),(24,.pv (ae i)),(8,.pv (.ptr H.length 0)),(9,.pv (.ptr b 0)),(10,.pv (ae kx)),(11,.pv (ae (nJ l p))),(50,.pv (.seq false 1 (af p.lits))),(51,.pv (ae p.lits.length)),(52,.pv (ae j))],G2⟩)
    (fun j=>j≤p.lits.length∧lp T' l p=(p.lits.drop j).find? (IL T' l (nJ l p))) (fun j=>p.lits.length -j) 0 ?_ ⟨Nat.zero_le _,hpk⟩ ?_
  · exact aj.keep (by simp) rfl
  rintro j ⟨hj,hpj⟩
  have hlits:=hS.lits
  by_cases dj:j<p.lits.length
  · have hwj:aM ((j:Int)+1)=((j+1:Nat):Int):=by rw[ah (by omega) (by omega)];omega
    have hqj:p.lits[j]?=some p.lits[j]:=List.getElem?_eq_getElem dj
    rw[List.drop_eq_getElem_cons dj,List.find?_cons]at hpj
    simp[dj,hqj]
    refine ak.intro (kO p.lits[j]) (by simp) ?_
    rintro _ H3 ⟨e3',rfl⟩
    rw[e3']
    clear e3' H3
    cases ho:IL T' l (nJ l p) p.lits[j]
    · rw[ho]at hpj
      simp only at hpj
      simp
      exact⟨j+1,by(try dsimp only);omega,⟨by(try dsimp only);omega,hpj⟩,aj.keep (by simp[hwj]) rfl⟩
    · rw[ho]at hpj
      simp only at hpj
      have hk2:(kx:Int)<2:=by omega
      have hk3:kx+1≤2:=by omega
      simp[hk2,hk3,g1,g2,nI,iA]
      refine⟨by omega,?_⟩
      have hset:List.take (1+kx) [SV.pv (PV.seq false 1 (af p.lits)),SV.pv (ae p.x),SV.pv (ae p.y)]++SV.pv (ae p.lits[j])::List.drop (1+kx) [SV.pv (ae p.x),SV.pv (ae p.y)]=nI (ib l p p.lits[j]):=by
        unfold ib
        by_cases c:p.x=l
        · rw[if_pos c]at hkx
          subst hkx
          rw[if_pos c];rfl
        · rw[if_neg c]at hkx
          subst hkx
          rw[if_neg c];rfl
      rw[hset]
      clear hset
      have eS:mX S' T' l k p=pq S' k l p p.lits[j]:=by unfold mX;rw[hpj]
      have eT:nL T' l k p=T':=by unfold nL;rw[hpj]
      have eB:oE T' l p=false:=by unfold oE;rw[hpj]
      rw[if_neg (by rw[eB];simp)]at hZ
      have hJn:=hJn eB
      rw[eS,eT]at hZ hJn
      generalize p.lits[j]=x at*
      have L6:=L2.setP hb (ib l p x) (L2.keys.trans (gT _ hS.hp).symm)
      have E6:=Ext.set (h:=G2) (D:=aP bw bt mp mb') b (nI (ib l p x)) (.inr (.inr (.inl ⟨k,hb⟩)))
      have n2:¬aP bw bt mp mb' h.length:=hou2 _ (Nat.le_refl _) (by omega)
      have n3:¬aP bw bt mp mb' (h.length+1):=hou2 _ (by omega) (by omega)
      generalize hH6:G2.set b (nI (ib l p x))=H6 at*
      have h60?:H6[h.length]?=some [.pv (.ptr bw 0)]:=by rw[E6.same h.length c1 n2,p0?]
      have h61?:H6[h.length+1]?=some [.pv (ae l)]:=by rw[E6.same (h.length+1) d1 n3,p1?]
      have hk6?:H6[H.length]?=some [.pv (ae k)]:=by rw[E6.same H.length f1 houk,hk?]
      obtain⟨h6a,h6b⟩:=List.getElem?_eq_some_iff.1 L6.w
      obtain⟨h6c,h6d⟩:=List.getElem?_eq_some_iff.1 h60?
      obtain⟨h6e,h6f⟩:=List.getElem?_eq_some_iff.1 h61?
      obtain⟨h6g,h6h⟩:=List.getElem?_eq_some_iff.1 hk6?
      obtain⟨z9,hz9,hz9n⟩:=hS.byl
      obtain⟨ey,hey,⟨sp9,ey1,ey2,ey3,ey4,ey5⟩,ey6,ey7,ey8⟩:=L6.some_b (show lk S'.byl l=some z9 from hz9)
      have hzl9:z9.length≤1000000:=hS.hz l z9 hz9
      have hpos9:0<z9.length:=List.length_pos_iff.2 hz9n
      have hdey:aP bw bt mp mb' ey.b:=.inr (.inr (.inr ⟨l,ey,hey,rfl⟩))
      have hbox:H.length≠ey.b:=fun q=>houk (q▸hdey)
      have hb0n:ey.b≠h.length:=fun q=>n2 (q▸hdey)
      have hb1n:ey.b≠h.length+1:=fun q=>n3 (q▸hdey)
      have hD9:=gM z9 hzl9 236 [.iptr 1 [[ae k]] 0 0] (fun q=>decide (q=k)) (fun r=>by simp) rfl (fun m=>by simp) (by simp) (fun q _=>Ex q k)
      have hDl9:(aU (fun q=>decide (q=k)) z9).length≤z9.length:=iO _ _
      obtain⟨Z9,hZ9⟩:∃Z9,Z9=aU (fun q=>decide (q=k)) z9:=⟨_,rfl⟩
      unfold Gt at hD9
      rw[←hZ9]at hD9 hDl9
      obtain⟨X9,hX9⟩:∃X:List SV,X=(Z9++List.replicate (z9.length -Z9.length) 0).map (fun z=>SV.pv (.lit (.int .i64 z)))++sp9:=⟨_,rfl⟩
      have hXc:X9=aF Z9++((List.replicate (z9.length -Z9.length) 0).map (fun z=>SV.pv (.lit (.int .i64 z)))++sp9):=by
        rw[hX9,List.map_append,List.append_assoc];rfl
      have L7:=L6.setB hey Z9 ((List.replicate (z9.length -Z9.length) 0).map (fun z=>SV.pv (.lit (.int .i64 z)))++sp9) (fun m=>oC m (ey2 m) _) Z9.length rfl (by omega) (by simp;omega)
      rw[←hXc]at L7
      have E7:Ext H6 ((H6.set ey.b X9).set bw (b9 ba bt ⟨mp,pt mb' l ⟨ey.b,Z9.length,ey.cp⟩,S'.late,S'.head,S'.seen⟩)) (aP bw bt mp mb') (aP bw bt mp (pt mb' l ⟨ey.b,Z9.length,ey.cp⟩)):=by
        refine(((Ext.set ey.b X9 hdey).trans (Ext.set bw _ (.inl rfl))).dom ?_)
        rintro c _ (q|q|q|⟨l',e',q,rfl⟩)
        · exact .inl q
        · exact .inr (.inl q)
        · exact .inr (.inr (.inl q))
        · rw[bz]at q
          split at q
          · cases q;exact hdey
          · exact .inr (.inr (.inr ⟨l',e',q,rfl⟩))
      obtain⟨H7a,hH7a⟩:∃H7a,H7a=H6.set ey.b X9:=⟨_,rfl⟩
      rw[←hH7a]at L7 E7
      have h7w?:H7a[bw]?=some (b9 ba bt ⟨mp,mb',S'.late,S'.head,S'.seen⟩):=by rw[hH7a,List.getElem?_set_ne ey6];exact L6.w
      have h70?:H7a[h.length]?=some [.pv (.ptr bw 0)]:=by rw[hH7a,List.getElem?_set_ne hb0n,h60?]
      have h71?:H7a[h.length+1]?=some [.pv (ae l)]:=by rw[hH7a,List.getElem?_set_ne hb1n,h61?]
      have h7k?:H7a[H.length]?=some [.pv (ae k)]:=by rw[hH7a,List.getElem?_set_ne hbox.symm,hk6?]
      obtain⟨h7a,h7b⟩:=List.getElem?_eq_some_iff.1 h7w?
      obtain⟨h7c,h7d⟩:=List.getElem?_eq_some_iff.1 h70?
      obtain⟨h7e,h7f⟩:=List.getElem?_eq_some_iff.1 h71?
      obtain⟨h7g,h7h⟩:=List.getElem?_eq_some_iff.1 h7k?
      have fF:=And.intro Lh (And.intro h6a (And.intro h6b (And.intro h6c (And.intro h6d (And.intro h6e (And.intro h6f (And.intro h6g (And.intro h6h (And.intro h7a (And.intro h7b (And.intro h7c (And.intro h7d (And.intro h7e (And.intro h7f (And.intro h7g (And.intro h7h (And.intro hey (And.intro ey6 ey6.symm))))))))))))))))))
      refine aY.tab [] ⟨[some (66,.pv (.ptr bw 0)),some (67,.pv (.ptr bw 0)),some (68,.pv (.ptr bw 3)),some (69,.al (.cell bw 3)),some (70,.pv (ae l)),some (71,.pv (.ptr bw 0)),some (72,.pv (.ptr bw 0)),some (73,.pv (.ptr bw 3)),some (74,.al (.cell bw 3)),some (75,.pv (ae l)),some (76,.pv (.bsl ey.b 1 0 ey.n ey.cp)),some (77,.pv (.fn (.func 236) [] [.ptr H.length 0])),some (78,.pv (.bsl ey.b 1 0 Z9.length ey.cp)),none],[(2,.pv (.ptr h.length 0)),(3,.pv (.ptr (h.length+1) 0)),(5,.own true 1 (af zs)),(6,.pv (.fn (.func 234) [] [.ptr (h.length+1) 0,.ptr h.length 0])),(8,.pv (.ptr H.length 0)),(13,.pv (ae x)),(22,.al (.slot 5)),(23,.pv (ae zs.length)),(24,.pv (ae i))],[[],[0],[1],[2],[],[],[5],[6],[7],[],[8,9],[],[10,11],[3,4,12]],[12,13],[[0,1],[0,1],[0,1],[0,1],[0,1],[0,1],[0,1],[0],[0],[0],[0],[0],[0],[1]],[],fun|0=>H6|1=>H7a|_=>H7a.set bw (b9 ba bt ⟨mp,pt mb' l ⟨ey.b,Z9.length,ey.cp⟩,S'.late,S'.head,S'.seen⟩)⟩ ⟨[(2,.pv (.ptr h.length 0)),(3,.pv (.ptr (h.length+1) 0)),(5,.own true 1 (af zs)),(6,.pv (.fn (.func 234) [] [.ptr (h.length+1) 0,.ptr h.length 0])),(8,.pv (.ptr H.length 0)),(13,.pv (ae x)),(22,.al (.slot 5)),(23,.pv (ae zs.length)),(24,.pv (ae i))],H7a.set bw (b9 ba bt ⟨mp,pt mb' l ⟨ey.b,Z9.length,ey.cp⟩,S'.late,S'.head,S'.seen⟩)⟩ (by kernel_rfl) (by simp[tf,aZ]) rfl ?_ (fun t h1 h2=>?_) ?_
      · simp only[Tb.steps,FV,Tb.lvA,Tb.dpA,ym,sR,List.getD_cons_zero,List.getD_cons_succ,cB,d5,ma,iI,eC,eq,Gc,gF,jp,List.getElem?_cons_zero,List.getElem?_cons_succ,Option.bind_some,Bool.or_false,Bool.false_or,Bool.or_true,Bool.true_or,Bool.false_and,Bool.true_and,Bool.false_eq_true,if_false]
        and_intros
        all_goals first|trivial|(intro t h1 h2;simp only[tf,aZ,List.cons_append,List.nil_append]at h1;simp[fF,tf,h1,h2,Tb.postL,Tb.wth,uw,sR,aZ,bK]<;>and_intros<;>first|omega|(intro e;simp[fF,tf,e]))|(intro t h1 h2;simp only[tf,aZ,List.cons_append,List.nil_append]at h1;simp[fF,tf,h1,h2,Tb.postL,Tb.wth,uw,sR,aZ,bK])
        · refine ak.introX (dg.introT (b:=ey.b) (b2:=H.length) (zs:=z9) (sp:=sp9) (cp:=ey.cp) hD9 (by simp[h1,h2]) (by simp[h1,h2]) rfl (by simp[h1,h2]) (by simp[ey3,h1,h2]) (by simp[h1,h2]) (by simp[h1,h2]) ey1 hk6? hbox hpos9 hzl9 ?_)
          rintro _ _ ⟨rfl,rfl⟩
          refine⟨_,_,rfl,rfl,by simp;omega,hDl9,?_⟩
          rw[←hX9,←hH7a]
          simp[fF,tf,ey6,ey6.symm,aC,h1,h2,Tb.postL,Tb.wth,uw,sR,aZ,bK]<;>and_intros<;>(intro e;simp[fF,aC,e])
      · simp only[tf,aZ,List.cons_append,List.nil_append]at h1 h2;simp[FW]at h2;exact aj.keep (by simp[tf,h1,h2]) rfl
      have hfb:eI S'.byl k l=pt S'.byl l Z9:=by unfold eI;rw[if_neg hS.l0,hz9,Option.getD_some,hZ9]
      have h8n?:(H7a.set bw (b9 ba bt ⟨mp,pt mb' l ⟨ey.b,Z9.length,ey.cp⟩,S'.late,S'.head,S'.seen⟩))[h.length]?=some [.pv (.ptr bw 0)]:=by rw[List.getElem?_set_ne (fun q=>n2 (.inl q.symm)),h70?]
      have h8k?:(H7a.set bw (b9 ba bt ⟨mp,pt mb' l ⟨ey.b,Z9.length,ey.cp⟩,S'.late,S'.head,S'.seen⟩))[H.length]?=some [.pv (ae k)]:=by rw[List.getElem?_set_ne (fun q=>houk (.inl q.symm)),h7k?]
      rw[←hfb]at L7
      have hzB:=q8 (k:=k) (l:=l) hS.hz
      clear fF h7a h7b h7c h7d h7e h7f h7g h7h h7w? h70? h71? h7k? hH7a hD9 hX9 hXc
      generalize pt mb' l ⟨ey.b,Z9.length,ey.cp⟩=mb7 at*
      generalize H7a.set bw (b9 ba bt ⟨mp,mb7,S'.late,S'.head,S'.seen⟩)=H7 at*
      have n7:¬aP bw bt mp mb7 h.length:=fun q=>n2 (E6.sub _ c1 (E7.sub _ h6c q))
      have nk7:¬aP bw bt mp mb7 H.length:=fun q=>houk (E6.sub _ f1 (E7.sub _ h6g q))
      obtain⟨h8a,h8b⟩:=List.getElem?_eq_some_iff.1 L7.w
      obtain⟨h8c,h8d⟩:=List.getElem?_eq_some_iff.1 h8n?
      obtain⟨h8e,h8f⟩:=List.getElem?_eq_some_iff.1 h8k?
      obtain⟨JE,hJE⟩:∃JE:List (List SV)→List (Int×By)→Prop,∀Y m,JE Y m↔(LayW Y bw ba bt mp m A T' (pq S' k l p x)∧Ext H7 Y (aP bw bt mp mb7) (aP bw bt mp m)):=⟨_,fun _ _=>Iff.rfl⟩
      have dom:∀e',(∀c,c<H7.length→e'.b=c→∃l0 e0,lk mb7 l0=some e0∧e0.b=c)→∀c,c<H7.length→aP bw bt mp (pt mb7 x e') c→aP bw bt mp mb7 c:=fun e' he' c hc q=>by
        rcases q with q|q|q|⟨l',e2,q,q2⟩
        · exact .inl q
        · exact .inr (.inl q)
        · exact .inr (.inr (.inl q))
        · rw[bz]at q
          split at q
          · cases q;exact .inr (.inr (.inr (he' c hc q2)))
          · exact .inr (.inr (.inr ⟨l',e2,q,q2⟩))
      have hfin:∀(x2:List (List SV)×List (Int×By)),JE x2.1 x2.2→LayW x2.1 bw ba bt mp x2.2 A T' (pq S' k l p x)∧Ext G x2.1 (aP bw bt mp mb) (aP bw bt mp x2.2):=fun x2 hj=>by
        obtain⟨j1,j2⟩:=(hJE _ _).1 hj
        exact⟨j1,(hE.trans E2).trans ((E6.trans E7).trans j2)⟩
      simp
      cases hl2:lk mb7 x with
      |none=>
        have hb0:=L7.byn x hl2
        have hst:pq S' k l p x=⟨pt S'.prs k (ib l p x),pt (eI S'.byl k l) x [k],S'.late,S'.head,S'.seen⟩:=by
          unfold pq fH
          rw[show lk (eI S'.byl k l) x=none from hb0];rfl
        have hnew:∀cap,1≤cap→(H7++[SV.pv (ae k)::List.replicate (cap -1) (SV.pv .bot)])[bw]?=some (b9 ba bt ⟨mp,mb7,S'.late,S'.head,S'.seen⟩)∧(H7++[SV.pv (ae k)::List.replicate (cap -1) (SV.pv .bot)])[h.length]?=some [.pv (.ptr bw 0)]∧JE ((H7++[SV.pv (ae k)::List.replicate (cap -1) (SV.pv .bot)]).set bw (b9 ba bt ⟨mp,pt mb7 x ⟨H7.length,1,cap⟩,S'.late,S'.head,S'.seen⟩)) (pt mb7 x ⟨H7.length,1,cap⟩):=fun cap hc=>by
          refine⟨by rw[List.getElem?_append_left h8a];exact L7.w,by rw[List.getElem?_append_left h8c,h8n?],(hJE _ _).2 ⟨?_,?_⟩⟩
          · rw[hst]
            exact L7.newB x [k] (List.replicate (cap -1) (SV.pv .bot)) (fun m=>fZ m _) 1 cap rfl hc (by simp;omega)
          · refine(((Ext.app H7 [SV.pv (ae k)::List.replicate (cap -1) (SV.pv .bot)] _).trans (Ext.set bw _ (.inl rfl))).dom (dom _ fun c hc e=>?_))
            simp only at e;omega
        have fG:=And.intro Lh (And.intro h8a (And.intro h8b (And.intro h8c (And.intro h8d (And.intro h8e (And.intro h8f hl2))))))
        refine aY.tab2 [92] ⟨[some (79,.pv (.ptr bw 0)),some (80,.pv (.ptr bw 0)),some (81,.pv (.ptr bw 3)),some (82,.al (.cell bw 3)),some (83,.pv (ae x)),some (84,.pv (.ptr bw 0)),some (85,.pv (.ptr bw 0)),some (86,.pv (.ptr bw 3)),some (87,.al (.cell bw 3)),some (88,.pv (ae x)),some (89,.pv (.lit (.slice none 0 0))),some (90,.pv (ae k)),some (91,.own true 1 [[ae k]]),none,none],[(2,.pv (.ptr h.length 0)),(3,.pv (.ptr (h.length+1) 0)),(5,.own true 1 (af zs)),(6,.pv (.fn (.func 234) [] [.ptr (h.length+1) 0,.ptr h.length 0])),(8,.pv (.ptr H.length 0)),(13,.pv (ae x)),(22,.al (.slot 5)),(23,.pv (ae zs.length)),(24,.pv (ae i))],[[],[0],[1],[2],[],[],[5],[6],[7],[],[8,9],[],[11],[10,12],[3,4,13]],[13,14],[[0,1],[0,1],[0,1],[0,1],[0,1],[0,1],[0,1],[0],[0],[0],[0],[0],[0],[0],[1]],[(13,91)],fun _=>H7⟩ (fun q:List (List SV)×By=>[some (79,.pv (.ptr bw 0)),some (80,.pv (.ptr bw 0)),some (81,.pv (.ptr bw 3)),some (82,.al (.cell bw 3)),some (83,.pv (ae x)),some (84,.pv (.ptr bw 0)),some (85,.pv (.ptr bw 0)),some (86,.pv (.ptr bw 3)),some (87,.al (.cell bw 3)),some (88,.pv (ae x)),some (89,.pv (.lit (.slice none 0 0))),some (90,.pv (ae k)),some (91,.own true 1 [[ae k]]),some (92,.pv (.bsl q.2.b 1 0 q.2.n q.2.cp)),none]) (fun q:List (List SV)×By=>fun|1=>q.1|_=>q.1.set bw (b9 ba bt ⟨mp,pt mb7 x q.2,S'.late,S'.head,S'.seen⟩)) (fun q:List (List SV)×By=>q.1[bw]?=some (b9 ba bt ⟨mp,mb7,S'.late,S'.head,S'.seen⟩)∧q.1[h.length]?=some [.pv (.ptr bw 0)]∧JE (q.1.set bw (b9 ba bt ⟨mp,pt mb7 x q.2,S'.late,S'.head,S'.seen⟩)) (pt mb7 x q.2)) 13 0 [13,14] (by kernel_rfl) (fun _=>by kernel_rfl) rfl (by kernel_rfl) (fun _=>by simp[K3]) (by simp[aZ]) rfl ?_ ?_
        · simp only[Tb.steps2,FV,Tb.lvA,Tb.dpA,ym,sR,List.getD_cons_zero,List.getD_cons_succ,cB,d5,ma,iI,eC,eq,Gc,gF,jp,List.getElem?_cons_zero,List.getElem?_cons_succ,Option.bind_some,Bool.or_false,Bool.false_or,Bool.or_true,Bool.true_or,Bool.false_and,Bool.true_and,Bool.false_eq_true,if_false]
          simp only[Nat.reduceLeDiff,Nat.reduceEqDiff,Nat.reduceAdd,if_true,if_false,Nat.le_refl,Nat.zero_le]
          and_intros
          all_goals first|trivial|(intro t h1 h2;simp only[aZ,List.cons_append,List.nil_append]at h1;simp[fG,tf,h1,h2,Tb.postL,Tb.wth,uw,sR,aZ,bK]<;>and_intros<;>first|omega|(intro e;simp[fG,tf,e]))|(rintro t h1 q hy h2;simp only[aZ,List.cons_append,List.nil_append]at h1;obtain⟨yw,yb,yj⟩:=hy;obtain⟨yw1,yw2⟩:=List.getElem?_eq_some_iff.1 yw;obtain⟨yb1,yb2⟩:=List.getElem?_eq_some_iff.1 yb;simp[Lh,tf,yw1,yw2,yb1,yb2,h1,h2,Tb.postL,Tb.wth,uw,sR,aZ,bK]<;>and_intros<;>first|omega|(intro e;simp[fG,tf,e]))|skip
          · intro t h1 h2;simp only[aZ,List.cons_append,List.nil_append]at h1
            simp[-Prod.exists,fG,tf,h1,h2]
            intro cap hc
            refine⟨(_,⟨H7.length,1,cap⟩),hnew cap hc,?_⟩
            simp[fG,h1,h2,Tb.postL,Tb.wth,uw,sR,aZ,bK]<;>and_intros<;>(intro e;simp[fG,e])
        · rintro q hy t h1 h2
          simp only[aZ,List.cons_append,List.nil_append]at h1;simp[FW]at h2
          obtain⟨x2,hx2⟩:∃x2:List (List SV)×List (Int×By),x2=(q.1.set bw (b9 ba bt ⟨mp,pt mb7 x q.2,S'.late,S'.head,S'.seen⟩),pt mb7 x q.2):=⟨_,rfl⟩
          refine⟨_,aj.keep (t1:=[(2,.pv (.ptr h.length 0)),(3,.pv (.ptr (h.length+1) 0)),(5,.own true 1 (af zs)),(6,.pv (.fn (.func 234) [] [.ptr (h.length+1) 0,.ptr h.length 0])),(8,.pv (.ptr H.length 0)),(13,.pv (ae x)),(22,.al (.slot 5)),(23,.pv (ae zs.length)),(24,.pv (ae i))]) (h1:=x2.1) (by simp[h1,h2]) (by rw[hx2];rfl),?_⟩
          have hj2:JE x2.1 x2.2:=by rw[hx2];exact hy.2.2
          obtain⟨j1,j2⟩:=hfin x2 hj2
          simp
          exact⟨(i+1,x2.1,x2.2,pq S' k l p x,T'),by(try dsimp only);omega,⟨by(try dsimp only);omega,j1,hJn,j2,hZ⟩,aj.keep (by simp[hw']) rfl⟩
      |some e2=>
        obtain⟨zq,hzq,⟨sp2,e21,e22,e23,e24,e25⟩,n2e,e27,e28⟩:=L7.by' x e2 hl2
        obtain⟨v2a,v2b⟩:=List.getElem?_eq_some_iff.1 e21
        have hst:pq S' k l p x=⟨pt S'.prs k (ib l p x),pt (eI S'.byl k l) x (zq++[k]),S'.late,S'.head,S'.seen⟩:=by
          unfold pq fH
          rw[show lk (eI S'.byl k l) x=some zq from hzq];rfl
        have hil:(aF zq).length=e2.n:=by rw[mW];exact e23
        have hzn:e2.n≤1000000:=by rw[←e23];exact hzB x zq hzq
        have hde:aP bw bt mp mb7 e2.b:=.inr (.inr (.inr ⟨x,e2,hl2,rfl⟩))
        have n70:e2.b≠h.length:=fun q=>n7 (q▸hde)
        have belD:∀m (s0:List SV),cP m s0→cP m (s0.drop 1):=fun m s0 hs0=>by cases s0 with|nil=>exact hs0|cons _ _=>exact hs0.2
        have hYl:(aF zq++sp2).length=e2.n+sp2.length:=by rw[List.length_append,hil]
        have hT1:(aF zq++sp2).take e2.n=aF zq:=List.take_left' hil
        have hT2:(aF zq++sp2).take e2.n=(zq.map fun z=>PV.lit (.int .i64 z)).map SV.pv:=by rw[hT1];unfold aF;rw[List.map_map];rfl
        have hcat:∀R:List SV,aF (zq++[k])++R=aF zq++SV.pv (ae k)::R:=fun R=>by unfold aF;rw[List.map_append,List.append_assoc];rfl
        have hD1:(aF zq++sp2).drop (e2.n+1)=sp2.drop 1:=by rw[←hil,List.drop_append];simp
        have hroom:e2.n+1≤e2.cp→(H7.set e2.b (List.take e2.n (aF zq++sp2)++SV.pv (ae k)::List.drop (e2.n+1) (aF zq++sp2)))[bw]?=some (b9 ba bt ⟨mp,mb7,S'.late,S'.head,S'.seen⟩)∧(H7.set e2.b (List.take e2.n (aF zq++sp2)++SV.pv (ae k)::List.drop (e2.n+1) (aF zq++sp2)))[h.length]?=some [.pv (.ptr bw 0)]∧
            JE ((H7.set e2.b (List.take e2.n (aF zq++sp2)++SV.pv (ae k)::List.drop (e2.n+1) (aF zq++sp2))).set bw (b9 ba bt ⟨mp,pt mb7 x ⟨e2.b,e2.n+1,e2.cp⟩,S'.late,S'.head,S'.seen⟩)) (pt mb7 x ⟨e2.b,e2.n+1,e2.cp⟩):=fun hr=>by
          refine⟨by rw[List.getElem?_set_ne n2e];exact L7.w,by rw[List.getElem?_set_ne n70,h8n?],(hJE _ _).2 ⟨?_,?_⟩⟩
          · rw[hT1,hD1,←hcat,hst]
            exact L7.setB hl2 (zq++[k]) (sp2.drop 1) (fun m=>belD m sp2 (e22 m)) (e2.n+1) (by simp;omega) hr (by rw[List.length_drop];omega)
          · refine(((Ext.set e2.b _ hde).trans (Ext.set bw _ (.inl rfl))).dom (dom _ fun c hc q=>?_))
            exact⟨x,e2,hl2,q⟩
        have hgrow:∀cap,e2.n+1≤cap→(H7++[(zq.map fun z=>PV.lit (.int .i64 z)).map SV.pv++SV.pv (ae k)::List.replicate (cap -(e2.n+1)) (SV.pv .bot)])[bw]?=some (b9 ba bt ⟨mp,mb7,S'.late,S'.head,S'.seen⟩)∧(H7++[(zq.map fun z=>PV.lit (.int .i64 z)).map SV.pv++SV.pv (ae k)::List.replicate (cap -(e2.n+1)) (SV.pv .bot)])[h.length]?=some [.pv (.ptr bw 0)]∧
            JE ((H7++[(zq.map fun z=>PV.lit (.int .i64 z)).map SV.pv++SV.pv (ae k)::List.replicate (cap -(e2.n+1)) (SV.pv .bot)]).set bw (b9 ba bt ⟨mp,pt mb7 x ⟨H7.length,e2.n+1,cap⟩,S'.late,S'.head,S'.seen⟩)) (pt mb7 x ⟨H7.length,e2.n+1,cap⟩):=fun cap hc=>by
          refine⟨by rw[List.getElem?_append_left h8a];exact L7.w,by rw[List.getElem?_append_left h8c,h8n?],(hJE _ _).2 ⟨?_,?_⟩⟩
          · rw[hst,←hT2,hT1,←hcat]
            exact L7.newB x (zq++[k]) (List.replicate (cap -(e2.n+1)) (SV.pv .bot)) (fun m=>fZ m _) (e2.n+1) cap (by simp;omega) hc (by simp;omega)
          · refine(((Ext.app H7 _ _).trans (Ext.set bw _ (.inl rfl))).dom (dom _ fun c hc q=>?_))
            simp only at q;omega
        clear hT1 hD1 hcat
        generalize hYc:aF zq++sp2=Yc at*
        have fG:=And.intro Lh (And.intro h8a (And.intro h8b (And.intro h8c (And.intro h8d (And.intro h8e (And.intro h8f (And.intro hl2 (And.intro v2a (And.intro v2b (And.intro n2e n2e.symm))))))))))
        refine aY.tab2 [92] ⟨[some (79,.pv (.ptr bw 0)),some (80,.pv (.ptr bw 0)),some (81,.pv (.ptr bw 3)),some (82,.al (.cell bw 3)),some (83,.pv (ae x)),some (84,.pv (.ptr bw 0)),some (85,.pv (.ptr bw 0)),some (86,.pv (.ptr bw 3)),some (87,.al (.cell bw 3)),some (88,.pv (ae x)),some (89,.pv (.bsl e2.b 1 0 e2.n e2.cp)),some (90,.pv (ae k)),some (91,.own true 1 [[ae k]]),none,none],[(2,.pv (.ptr h.length 0)),(3,.pv (.ptr (h.length+1) 0)),(5,.own true 1 (af zs)),(6,.pv (.fn (.func 234) [] [.ptr (h.length+1) 0,.ptr h.length 0])),(8,.pv (.ptr H.length 0)),(13,.pv (ae x)),(22,.al (.slot 5)),(23,.pv (ae zs.length)),(24,.pv (ae i))],[[],[0],[1],[2],[],[],[5],[6],[7],[],[8,9],[],[11],[10,12],[3,4,13]],[13,14],[[0,1],[0,1],[0,1],[0,1],[0,1],[0,1],[0,1],[0],[0],[0],[0],[0],[0],[0],[1]],[(13,91)],fun _=>H7⟩ (fun q:List (List SV)×By=>[some (79,.pv (.ptr bw 0)),some (80,.pv (.ptr bw 0)),some (81,.pv (.ptr bw 3)),some (82,.al (.cell bw 3)),some (83,.pv (ae x)),some (84,.pv (.ptr bw 0)),some (85,.pv (.ptr bw 0)),some (86,.pv (.ptr bw 3)),some (87,.al (.cell bw 3)),some (88,.pv (ae x)),some (89,.pv (.bsl e2.b 1 0 e2.n e2.cp)),some (90,.pv (ae k)),some (91,.own true 1 [[ae k]]),some (92,.pv (.bsl q.2.b 1 0 q.2.n q.2.cp)),none]) (fun q:List (List SV)×By=>fun|1=>q.1|_=>q.1.set bw (b9 ba bt ⟨mp,pt mb7 x q.2,S'.late,S'.head,S'.seen⟩)) (fun q:List (List SV)×By=>q.1[bw]?=some (b9 ba bt ⟨mp,mb7,S'.late,S'.head,S'.seen⟩)∧q.1[h.length]?=some [.pv (.ptr bw 0)]∧JE (q.1.set bw (b9 ba bt ⟨mp,pt mb7 x q.2,S'.late,S'.head,S'.seen⟩)) (pt mb7 x q.2)) 13 0 [13,14] (by kernel_rfl) (fun _=>by kernel_rfl) rfl (by kernel_rfl) (fun _=>by simp[K3]) (by simp[aZ]) rfl ?_ ?_
        · simp only[Tb.steps2,FV,Tb.lvA,Tb.dpA,ym,sR,List.getD_cons_zero,List.getD_cons_succ,cB,d5,ma,iI,eC,eq,Gc,gF,jp,List.getElem?_cons_zero,List.getElem?_cons_succ,Option.bind_some,Bool.or_false,Bool.false_or,Bool.or_true,Bool.true_or,Bool.false_and,Bool.true_and,Bool.false_eq_true,if_false]
          simp only[Nat.reduceLeDiff,Nat.reduceEqDiff,Nat.reduceAdd,if_true,if_false,Nat.le_refl,Nat.zero_le]
          and_intros
          all_goals first|trivial|(intro t h1 h2;simp only[aZ,List.cons_append,List.nil_append]at h1;simp[fG,tf,h1,h2,Tb.postL,Tb.wth,uw,sR,aZ,bK]<;>and_intros<;>first|omega|(intro e;simp[fG,tf,e]))|(rintro t h1 q hy h2;simp only[aZ,List.cons_append,List.nil_append]at h1;obtain⟨yw,yb,yj⟩:=hy;obtain⟨yw1,yw2⟩:=List.getElem?_eq_some_iff.1 yw;obtain⟨yb1,yb2⟩:=List.getElem?_eq_some_iff.1 yb;simp[Lh,tf,yw1,yw2,yb1,yb2,h1,h2,Tb.postL,Tb.wth,uw,sR,aZ,bK]<;>and_intros<;>first|omega|(intro e;simp[fG,tf,e]))|skip
          · intro t h1 h2;simp only[aZ,List.cons_append,List.nil_append]at h1
            simp[-Prod.exists,fG,tf,h1,h2]
            refine⟨by omega,by omega,_,hT2,by simpa using e23,fun hr=>?_,fun hn cap hc=>?_⟩
            · refine⟨(_,⟨e2.b,e2.n+1,e2.cp⟩),hroom hr,?_⟩
              simp[fG,h1,h2,Tb.postL,Tb.wth,uw,sR,aZ,bK]<;>and_intros<;>(intro e;simp[fG,e])
            · refine⟨(_,⟨H7.length,e2.n+1,cap⟩),hgrow cap hc,?_⟩
              simp[fG,h1,h2,Tb.postL,Tb.wth,uw,sR,aZ,bK]<;>and_intros<;>(intro e;simp[fG,e])
        · rintro q hy t h1 h2
          simp only[aZ,List.cons_append,List.nil_append]at h1;simp[FW]at h2
          obtain⟨x2,hx2⟩:∃x2:List (List SV)×List (Int×By),x2=(q.1.set bw (b9 ba bt ⟨mp,pt mb7 x q.2,S'.late,S'.head,S'.seen⟩),pt mb7 x q.2):=⟨_,rfl⟩
          refine⟨_,aj.keep (t1:=[(2,.pv (.ptr h.length 0)),(3,.pv (.ptr (h.length+1) 0)),(5,.own true 1 (af zs)),(6,.pv (.fn (.func 234) [] [.ptr (h.length+1) 0,.ptr h.length 0])),(8,.pv (.ptr H.length 0)),(13,.pv (ae x)),(22,.al (.slot 5)),(23,.pv (ae zs.length)),(24,.pv (ae i))]) (h1:=x2.1) (by simp[h1,h2]) (by rw[hx2];rfl),?_⟩
          have hj2:JE x2.1 x2.2:=by rw[hx2];exact hy.2.2
          obtain⟨j1,j2⟩:=hfin x2 hj2
          simp
          exact⟨(i+1,x2.1,x2.2,pq S' k l p x,T'),by(try dsimp only);omega,⟨by(try dsimp only);omega,j1,hJn,j2,hZ⟩,aj.keep (by simp[hw']) rfl⟩
  · have:j=p.lits.length:=by omega
    subst this
    rw[List.drop_eq_nil_of_le (Nat.le_refl _),List.find?_nil]at hpj
    have kF:=yL G2 bw ba bt mp mb' A T' S' L2 k p hS.hp hS.hx hS.hy hS.hz
    have eS:mX S' T' l k p=iJ (jT (lj S' k p) k) T' k (nK p):=by unfold mX;rw[hpj]
    have eT:nL T' l k p=j0 T' k (nK p):=by unfold nL;rw[hpj]
    have eB:oE T' l p=ll T' (nK p):=by unfold oE;rw[hpj]
    simp[f1,f2,c1,c2]
    refine ak.intro kF (by simp) ?_
    rintro _ H3 ⟨rfl,mb3,L3,E3⟩
    have hl2:H.length<G2.length:=f1
    have n2:¬aP bw bt mp mb' h.length:=hou2 _ (Nat.le_refl _) (by omega)
    have n3:¬aP bw bt mp mb' (h.length+1):=hou2 _ (by omega) (by omega)
    have r0?:H3[h.length]?=some [.pv (.ptr bw 0)]:=by rw[E3.same h.length c1 n2,p0?]
    have rk?:H3[H.length]?=some [.pv (ae k)]:=by rw[E3.same H.length f1 houk,hk?]
    obtain⟨s1,s2⟩:=List.getElem?_eq_some_iff.1 L3.w
    obtain⟨t1,t2⟩:=List.getElem?_eq_some_iff.1 r0?
    obtain⟨u1,u2⟩:=List.getElem?_eq_some_iff.1 rk?
    have L4:=L3.setW (pt S'.late k (aM ((lk S'.late k).getD 0+1))) S'.head S'.seen
    have E4:=Ext.set (h:=H3) (D:=aP bw bt mp mb3) bw (b9 ba bt ⟨mp,mb3,pt S'.late k (aM ((lk S'.late k).getD 0+1)),S'.head,S'.seen⟩) (.inl rfl)
    have x0?:(H3.set bw (b9 ba bt ⟨mp,mb3,pt S'.late k (aM ((lk S'.late k).getD 0+1)),S'.head,S'.seen⟩))[h.length]?=some [.pv (.ptr bw 0)]:=by
      rw[List.getElem?_set_ne (fun q=>n2 (.inl q.symm)),r0?]
    have xk?:(H3.set bw (b9 ba bt ⟨mp,mb3,pt S'.late k (aM ((lk S'.late k).getD 0+1)),S'.head,S'.seen⟩))[H.length]?=some [.pv (ae k)]:=by
      rw[List.getElem?_set_ne (fun q=>houk (.inl q.symm)),rk?]
    simp
    refine aY.meet As ⟨[(2,.pv (.ptr h.length 0)),(3,.pv (.ptr (h.length+1) 0)),(5,.own true 1 (af zs)),(6,.pv (.fn (.func 234) [] [.ptr (h.length+1) 0,.ptr h.length 0])),(22,.al (.slot 5)),(23,.pv (ae zs.length)),(24,.pv (ae i)),(8,.pv (.ptr H.length 0))],H3.set bw (b9 ba bt ⟨mp,mb3,pt S'.late k (aM ((lk S'.late k).getD 0+1)),S'.head,S'.seen⟩)⟩ (by kernel_rfl) ?_ ?_
    · simp[As,s1,s2,b9,t1,t2,u1,u2,lj]
      and_intros
      all_goals exact aj.keep (by simp) (by simp[b9])
    generalize H3.set bw (b9 ba bt ⟨mp,mb3,pt S'.late k (aM ((lk S'.late k).getD 0+1)),S'.head,S'.seen⟩)=H4 at*
    obtain⟨y1,y2⟩:=List.getElem?_eq_some_iff.1 x0?
    obtain⟨z1,z2⟩:=List.getElem?_eq_some_iff.1 xk?
    have hp4:lk (lj S' k p).prs k=some (nK p):=by
      show lk (pt S'.prs k _) k=_
      rw[bz,if_pos rfl];rfl
    have kR:=td H4 bw ba bt mp mb3 A T' (jT (lj S' k p) k) L4 k (nK p) hp4 hS.ok hS.tl hS.lits (q8 (q8 hS.hz))
    simp[y1,y2,z1,z2]
    refine ak.intro kR (by simp) ?_
    rintro _ H5 ⟨rfl,mb5,L5,E5⟩
    rw[←eS,←eT]at L5
    rw[←eB]
    have E35:Ext G2 H5 (aP bw bt mp mb') (aP bw bt mp mb5):=(E3.trans E4).trans E5
    cases hb5:oE T' l p
    · rw[if_neg (by rw[hb5];simp)]at hZ
      simp
      exact⟨(i+1,H5,mb5,mX S' T' l k p,nL T' l k p),by(try dsimp only);omega,⟨by(try dsimp only);omega,L5,hJn hb5,(hE.trans E2).trans E35,hZ⟩,aj.keep (by simp[hw']) rfl⟩
    · rw[if_pos hb5]at hZ
      subst hZ
      have hk5:H5[H.length]?=some [.pv (ae k)]:=by
        rw[E35.same H.length f1 houk,hk?]
      obtain⟨o1,o2⟩:=List.getElem?_eq_some_iff.1 hk5
      simp[o1,o2]
      exact⟨mb5,L5,E0.trans ((hE.trans E2).trans E35)⟩
def eX(S:WS)(T:Tr)(l:Int):WS×Tr×Int:=match lk S.byl l with
 |some zs=>f9 l zs S T
 |none=>(S,T,-1)
def IM(S:WS):WS:=⟨S.prs,S.byl,S.late,aM (S.head+1),S.seen⟩
def du(T:Tr)(S:WS):Int:=aM (-(T.lits.getD S.head.toNat 0))
def jF:Nat→WS→Tr→WS×Tr×Int
 |0,S,T=>(S,T,-1)
 |n+1,S,T=>if S.head<T.lits.length then(if 0≤(eX S T (du T S)).2.2 then eX S T (du T S)else jF n (IM (eX S T (du T S)).1) (eX S T (du T S)).2.1)else(S,T,-1)
def b8(S:WS)(now:List Int):WS:=⟨S.prs,S.byl,S.late,if(gq S.seen now:Int)<S.head then(gq S.seen now:Int)else S.head,S.seen⟩
def eY(S:WS)(T:Tr):WS×Tr×Int:=gi (dQ (S.late.map (·.1))) S T
def gr(S:WS)(T:Tr):WS×Tr×Int:=if 0≤(eY (b8 S T.lits) T).2.2 then eY (b8 S T.lits) T else jF 1000001 (eY (b8 S T.lits) T).1 (eY (b8 S T.lits) T).2.1
def fJ(S:WS)(T:Tr):WS×Tr×Int:=(⟨(gr S T).1.prs,(gr S T).1.byl,(gr S T).1.late,(gr S T).1.head,(gr S T).2.1.lits⟩,(gr S T).2.1,(gr S T).2.2)
theorem yM(h:List (List SV))(bw ba bt:Nat)(mp:List (Int×Nat))(mb:List (Int×By))(A:Ar)(T:Tr)(S:WS)(L:LayW h bw ba bt mp mb A T S)(l:Int)(hzs:lk S.byl l=none):
 aE Tryz.prog 157 [.ptr bw 0,ae l] h (fun r h'=>r=.pv (ae (-1))∧∃mb',LayW h' bw ba bt mp mb' A T S∧Ext h h' (aP bw bt mp mb) (aP bw bt mp mb')):=by
 refine dh [1,6,7,14,15,18] [.tmp 4] aG Tryz.func157 (by kernel_rfl) rfl rfl (by kernel_rfl) (Nat.le_of_ble_eq_true rfl) ?_;have hmb:lk mb l=none:=by
  cases hq:lk mb l with
  |none=>rfl
  |some e=>obtain⟨zs,h1,_⟩:=L.by' l e hq;rw[hzs]at h1;cases h1
 obtain⟨G,hG⟩:∃G,G=h++[[SV.pv (.ptr bw 0)],[SV.pv (ae l)]]:=⟨_,rfl⟩;have L0:LayW G bw ba bt mp mb A T S:=by rw[hG];exact L.app _
 have E0:Ext h G (aP bw bt mp mb) (aP bw bt mp mb):=by rw[hG];exact Ext.app _ _ _
 have n0?:G[h.length]?=some [.pv (.ptr bw 0)]:=by rw[hG];simp
 have n1?:G[h.length+1]?=some [.pv (ae l)]:=by rw[hG];simp
 obtain⟨w1,w2⟩:=List.getElem?_eq_some_iff.1 L0.w;obtain⟨a1,a2⟩:=List.getElem?_eq_some_iff.1 n0?;obtain⟨b1,b2⟩:=List.getElem?_eq_some_iff.1 n1?;simp;rw[←hG];refine aY.meet uK ⟨[(2,.pv (.ptr h.length 0)),(3,.pv (.ptr (h.length+1) 0)),(5,.pv (.lit (.slice none 0 0)))],G⟩ (by kernel_rfl) ?_ ?_
 ·simp[uK,w1,w2,b9,a1,a2,b1,b2,hmb];and_intros
  all_goals
   refine am.intro yD (by simp) ?_;simp;exact aj.keep (by simp) rfl
 simp;refine aH.intro (S:=fun _:Unit=>⟨[(2,.pv (.ptr h.length 0)),(3,.pv (.ptr (h.length+1) 0)),(23,.pv (ae 0)),(24,.pv (ae 0))],G⟩) (fun _=>True) (fun _=>0) () ?_ trivial ?_
 ·exact aj.keep (by simp) rfl
 rintro _ _;simp;exact⟨mb,L0,E0⟩
structure ProOk (J:WS→Tr→Prop):Prop where
  ok:∀S T,J S T→T.ok∧T.lits.length≤1000000∧0≤S.head∧S.head≤T.lits.length
  step:∀S T,J S T→S.head<T.lits.length→∀zs,lk S.byl (du T S)=some zs→zs.length≤1000000∧∃Jf:Nat→WS→Tr→Prop,Jf 0 S T∧∀i S' T',Jf i S' T'→∀(hi:i<zs.length),∃p,StepOk S' T' (du T S) zs[i] p∧(oE T' (du T S) p=false→Jf (i+1) (mX S' T' (du T S) zs[i] p) (nL T' (du T S) zs[i] p))
  len:∀S T,J S T→S.head<T.lits.length→(eX S T (du T S)).2.1.lits.length≤1000000
  next:∀S T,J S T→S.head<T.lits.length→¬0≤(eX S T (du T S)).2.2→(eX S T (du T S)).2.2=-1∧J (IM (eX S T (du T S)).1) (eX S T (du T S)).2.1∧(eX S T (du T S)).1.head=S.head∧T.lits<+:(eX S T (du T S)).2.1.lits
set_option maxRecDepth 16000 in
theorem rT(h:List (List SV))(bw ba bt:Nat)(mp:List (Int×Nat))(mb:List (Int×By))(A:Ar)(T:Tr)(S:WS)(L:LayW h bw ba bt mp mb A T S)(hTl:T.lits.length≤1000000)(hsl:S.seen.length≤1000000)
 (Ks:List Int) (hKs:dQ (S.late.map (·.1))=Ks) (J1:Nat→WS→Tr→Prop) (hJ0:J1 0 (b8 S T.lits) T) (hkw:∀q∈S.late,Cv q.1) (hll:S.late.length≤1000000)
 (hB:∀i S' T',J1 i S' T'→∀(hi:i<Ks.length),T'.ok∧T'.lits.length≤1000000∧(∀l zs,lk S'.byl l=some zs→zs.length≤1000000)∧∃p,lk S'.prs Ks[i]=some p∧p.lits.length≤1000000)
 (hJ:∀i S' T' p,J1 i S' T'→∀(hi:i<Ks.length),lk S'.prs Ks[i]=some p→ll T' p=false→J1 (i+1) (iJ S' T' Ks[i] p) (j0 T' Ks[i] p))
 (hLl:(eY (b8 S T.lits) T).2.1.lits.length≤1000000) (J:WS→Tr→Prop) (hP:ProOk J) (hJP:¬0≤(eY (b8 S T.lits) T).2.2→(eY (b8 S T.lits) T).2.2=-1∧J (eY (b8 S T.lits) T).1 (eY (b8 S T.lits) T).2.1):
 aE Tryz.prog 91 [.ptr bw 0] h (fun r h'=>r=.pv (ae (fJ S T).2.2)∧∃mb',LayW h' bw ba bt mp mb' A (fJ S T).2.1 (fJ S T).1∧Ext h h' (aP bw bt mp mb) (aP bw bt mp mb')):=by
 refine dh [] [.tmp 2] aG Tryz.func91 (by kernel_rfl) rfl rfl (by kernel_rfl) (Nat.le_of_ble_eq_true rfl) ?_;obtain⟨w1,w2⟩:=List.getElem?_eq_some_iff.1 L.w;have hz:=cu L.t 2;have kM:=wB h bw ba bt _ L.w;have kL:=er T hTl;have kS:=yJ h bw ba bt ⟨mp,mb,S.late,S.head,S.seen⟩ T.lits L.w hTl hsl;have L1:=L.setW S.late (if(gq S.seen T.lits:Int)<S.head then(gq S.seen T.lits:Int)else S.head) S.seen;have E1:=Ext.set (h:=h) (D:=aP bw bt mp mb) bw (b9 ba bt (Em ⟨mp,mb,S.late,S.head,S.seen⟩ T.lits)) (.inl rfl);simp;refine ak.intro kM (by simp) ?_;rintro _ h2 ⟨e,rfl⟩;rw[e];clear e h2;simp[w1,w2,b9,hz];refine ak.introP kL (by simp) (by simp) ?_;simp;refine ak.intro (kS.args (xs:=[.ptr bw 0,.seq true 1 (af T.lits)]) (by simp[cI,cz])) (by simp) ?_;rintro _ H1 ⟨rfl,rfl⟩;have L1':LayW (h.set bw (b9 ba bt (Em ⟨mp,mb,S.late,S.head,S.seen⟩ T.lits))) bw ba bt mp mb A T (b8 S T.lits):=L1;have kLa:=BZ _ bw ba bt mp mb A T (b8 S T.lits) L1' Ks hKs J1 hJ0 hkw hll hB hJ;generalize h.set bw (b9 ba bt (Em ⟨mp,mb,S.late,S.head,S.seen⟩ T.lits))=H1 at*;have hMid:gr S T=if 0≤(eY (b8 S T.lits) T).2.2 then eY (b8 S T.lits) T else jF 1000001 (eY (b8 S T.lits) T).1 (eY (b8 S T.lits) T).2.1:=rfl;have hPr:fJ S T=(⟨(gr S T).1.prs,(gr S T).1.byl,(gr S T).1.late,(gr S T).1.head,(gr S T).2.1.lits⟩,(gr S T).2.1,(gr S T).2.2):=rfl;have hLd:gi Ks (b8 S T.lits) T=eY (b8 S T.lits) T:=by unfold eY;rw[←hKs];rfl
 rw[hLd]at kLa;generalize eY (b8 S T.lits) T=V at*;generalize gr S T=M at*;generalize fJ S T=Q at*;obtain⟨S2,T2,k2⟩:=V;simp only at*;simp;refine ak.intro kLa (by simp) ?_;rintro _ H2 ⟨rfl,mb2,L2,E2⟩;have kL2:=er T2 hLl;have hz2:=cu L2.t 2;obtain⟨v1,v2⟩:=List.getElem?_eq_some_iff.1 L2.w;simp[v1,v2,b9,hz2];refine ak.introP kL2 (by simp) (by simp) ?_;simp;refine aH.intro (S:=fun(x:List (List SV)×List (Int×By)×WS×Tr×Int×List Int×Nat)=>⟨[(0,.pv (.ptr bw 0)),(3,.pv (ae x.2.2.2.2.1)),(4,.own true 1 (af x.2.2.2.2.2.1))],x.1⟩)
  (fun x => LayW x.1 bw ba bt mp x.2.1 A x.2.2.2.1 x.2.2.1 ∧ Ext h x.1 (aP bw bt mp mb) (aP bw bt mp x.2.1) ∧ x.2.2.2.1.lits.length ≤ 1000000 ∧
   ((0≤x.2.2.2.2.1∧M=(x.2.2.1,x.2.2.2.1,x.2.2.2.2.1))∨(¬0≤x.2.2.2.2.1∧x.2.2.2.2.1=-1∧J x.2.2.1 x.2.2.2.1∧x.2.2.2.2.2.1<+:x.2.2.2.1.lits∧(x.2.2.1.head<x.2.2.2.2.2.1.length∨x.2.2.2.2.2.1=x.2.2.2.1.lits)∧M=jF x.2.2.2.2.2.2 x.2.2.1 x.2.2.2.1∧1000001≤x.2.2.1.head+x.2.2.2.2.2.2)))
  (fun x=>x.2.2.2.2.2.2) (H2,mb2,S2,T2,k2,T2.lits,1000001) ?_ ?_ ?_
 ·exact aj.keep (by simp) rfl
 ·refine⟨L2,E1.trans E2,hLl,?_⟩
  by_cases c:0≤k2
  ·rw[if_pos c]at hMid;exact .inl ⟨c,hMid⟩
  ·rw[if_neg c]at hMid;have hj:=hJP c;have hh:=(hP.ok _ _ hj.2).2.2.1;exact .inr ⟨c,hj.1,hj.2,List.prefix_refl _,.inr rfl,hMid,by simp only;omega⟩
 rintro⟨H,mb',S',T',kc,now,n⟩ ⟨LH,hE,hTl',hcase⟩;dsimp only at LH hE hTl' hcase;obtain⟨u1,u2⟩:=List.getElem?_eq_some_iff.1 LH.w;have hzH:=cu LH.t 2;have kL3:=er T' hTl';have kPost:∀(M1:M=(S',T',kc)),(LayW (H.set bw (b9 ba bt ⟨mp,mb',S'.late,S'.head,T'.lits⟩)) bw ba bt mp mb' A Q.2.1 Q.1)∧Ext h (H.set bw (b9 ba bt ⟨mp,mb',S'.late,S'.head,T'.lits⟩)) (aP bw bt mp mb) (aP bw bt mp mb')∧Q.2.2=kc:=fun M1=>by
  rw[hPr,M1];exact⟨LH.setW S'.late S'.head T'.lits,hE.trans (Ext.set bw _ (.inl rfl)),rfl⟩
 rcases hcase with⟨hc,hM⟩|⟨hc,hc1,hj,hpre,hlt,hM,hn⟩
 ·have hc':¬kc<0:=by omega
  obtain⟨g1,g2,g3⟩:=kPost hM;simp[hc'];simp[u1,u2,b9,hzH];refine ak.introP kL3 (by simp) (by simp) ?_;simp[u1,u2,b9];exact⟨g3.symm,mb',g1,g2⟩
 ·have hc':kc<0:=by omega
  obtain⟨q1,q2,q3,q4⟩:=hP.ok _ _ hj;obtain⟨hd,hhd⟩:∃k:Nat,S'.head=k:=⟨S'.head.toNat,by omega⟩
  by_cases d:hd<now.length
  ·have dT:hd<T'.lits.length:=Nat.lt_of_lt_of_le d hpre.length_le;have hq:now[hd]?=some T'.lits[hd]:=by
    obtain⟨t,ht⟩:=hpre;rw[←List.getElem?_eq_getElem dT,←ht,List.getElem?_append_left d]
   have hlt2:S'.head<T'.lits.length:=by omega
   have hqe:now[hd]=T'.lits[hd]:=by rw[List.getElem?_eq_getElem d]at hq;exact Option.some.inj hq
   have hneg:aM (-now[hd])=du T' S':=by rw[hqe];simp[du,hhd,List.getElem?_eq_getElem dT]
   have kF:aE Tryz.prog 157 [.ptr bw 0,ae (du T' S')] H (fun r h'=>r=.pv (ae (eX S' T' (du T' S')).2.2)∧∃mb'',LayW h' bw ba bt mp mb'' A (eX S' T' (du T' S')).2.1 (eX S' T' (du T' S')).1∧Ext H h' (aP bw bt mp mb') (aP bw bt mp mb'')):=by
    cases hb:lk S'.byl (du T' S')with
    |none=>
     simp only[eX,hb];exact yM H bw ba bt mp mb' A T' S' LH _ hb
    |some zs=>
     obtain⟨z1,Jf,z2,z3⟩:=hP.step S' T' hj hlt2 zs hb;simp only[eX,hb];exact B0 H bw ba bt mp mb' A T' S' LH _ zs hb z1 Jf z2 z3
   have hFl:=hP.len S' T' hj hlt2;have hFn:=hP.next S' T' hj hlt2;cases n with
   |zero=>omega
   |succ n=>
   rw[jF,if_pos hlt2]at hM;generalize eX S' T' (du T' S')=V at*;generalize du T' S'=l at*;obtain⟨S3,T3,k3⟩:=V;simp only at hM hFl hFn kF;clear kL kL2 kM kS kLa hB hJ hMid hLd L1 L1' hz hz2 w1 w2 v1 v2;simp[hc',u1,u2,b9,hhd,d,hneg];refine ak.intro kF (by simp) ?_;rintro _ H3 ⟨rfl,mb3,L3,E3⟩;obtain⟨t1,t2⟩:=List.getElem?_eq_some_iff.1 L3.w;have hz3:=cu L3.t 2;have kL4:=er T3 hFl
   by_cases c3:0≤k3
   ·rw[if_pos c3]at hM;simp[c3,t1,t2,b9,hz3];refine ak.introP kL4 (by simp) (by simp) ?_;simp[t1,t2,b9];have:=L3.setW S3.late S3.head T3.lits;rw[hPr,hM];exact⟨rfl,mb3,this,(hE.trans E3).trans (Ext.set bw _ (.inl rfl))⟩
   ·rw[if_neg c3]at hM;obtain⟨r1,r2,r3,r4⟩:=hFn c3;obtain⟨b1,b2,b3,b4⟩:=hP.ok _ _ r2;have c3':¬0≤k3:=c3;have L4:=L3.setW S3.late (aM (S3.head+1)) S3.seen;have E4:Ext h (H3.set bw (b9 ba bt ⟨mp,mb3,S3.late,aM (S3.head+1),S3.seen⟩)) (aP bw bt mp mb) (aP bw bt mp mb3):=(hE.trans E3).trans (Ext.set bw _ (.inl rfl));have hw':aM ((hd:Int)+1)=((hd+1:Nat):Int):=by rw[ah (by omega) (by omega)];omega
    have hh3:S3.head=hd:=r3.trans hhd;rw[hh3,hw']at L4 E4;have hz4:bq (H3.set bw (b9 ba bt ⟨mp,mb3,S3.late,((hd+1:Nat):Int),S3.seen⟩)) (2+1) bt 0=bu T3:=cu L4.t 2;have hup:IM S3=⟨S3.prs,S3.byl,S3.late,((hd+1:Nat):Int),S3.seen⟩:=by unfold IM;rw[hh3,hw']
    rw[hup]at hM r2;clear kF
    by_cases dn:hd+1=now.length
    ·rw[dn]at L4 E4 hz4 hM r2;simp only[b9]at hz4;simp[c3,t1,t2,b9,hz3,hh3,hw',dn,hz4];refine ak.introP kL4 (by simp) (by simp) ?_;simp;exact⟨(_,mb3,⟨S3.prs,S3.byl,S3.late,(now.length:Int),S3.seen⟩,T3,k3,T3.lits,n),Nat.lt_succ_self n,⟨L4,E4,hFl,.inr ⟨by simp only;omega,r1,r2,List.prefix_refl _,.inr rfl,hM,by simp only;omega⟩⟩,aj.keep (by simp) rfl⟩
    ·have hw2:¬((hd:Int)+1=now.length):=by omega
     simp[c3,t1,t2,b9,hz3,hh3,hw',hw2];exact⟨(_,mb3,⟨S3.prs,S3.byl,S3.late,((hd+1:Nat):Int),S3.seen⟩,T3,k3,now,n),Nat.lt_succ_self n,⟨L4,E4,hFl,.inr ⟨by simp only;omega,r1,r2,hpre.trans r4,.inl (by simp only;omega),hM,by simp only;omega⟩⟩,aj.keep (by simp) rfl⟩
  ·have hnl:¬S'.head<T'.lits.length:=by
    rcases hlt with h1|h1
    ·omega
    ·rw[←h1];omega
   have hM':M=(S',T',-1):=by
    rw[hM];cases n with
    |zero=>rfl
    |succ n=>rw[jF,if_neg hnl]
   obtain⟨g1,g2,g3⟩:=kPost (by rw[hM',hc1]);clear kL kL2 kM kS kLa hB hJ hMid hLd L1 L1' hz hz2 w1 w2 v1 v2;simp[hc',u1,u2,b9,hhd,d];simp[u1,u2,b9,hzH];refine ak.introP kL3 (by simp) (by simp) ?_;simp[u1,u2,b9];exact⟨g3.symm,mb',g1,g2⟩
end Go.AX