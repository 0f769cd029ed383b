/-
  Contracts: watches: fails.
  Contracts: watches: Propagate.
-/
import Derived.Test.YthfhellfmbllhaaGreatS12AxWaE
import Derived.Test.YthfhellfmbllhaaGreatAxAs
namespace Go.AX
open Go.Proofs
set_option linter.unusedSimpArgs false
def fa1Sch:Sch:=
 let s0:Sch:=.fork [(6,.take 7 .done)]
 let s1:Sch:=.fork [(5,s0)]
 let s2:Sch:=.fork [(4,s1)]
 let s3:Sch:=.fork [(3,s1)]
 let s4:Sch:=.fork [(3,s2),(4,s3)]
 let s5:Sch:=.fork [(0,.take 1 (.take 2 s3))]
 let s6:Sch:=.fork [(0,.take 1 (.take 2 s4)),(4,s5)]
 s6
def fa6Sch:Sch:=
 let s0:Sch:=.fork [(5,.take 6 .done)]
 let s1:Sch:=.fork [(4,s0)]
 let s2:Sch:=.fork [(3,s0)]
 let s3:Sch:=.fork [(3,s1),(4,s2)]
 let s4:Sch:=.fork [(0,.take 1 (.take 2 s2))]
 let s5:Sch:=.fork [(0,.take 1 (.take 2 s3)),(4,s4)]
 s5
def fa7Sch:Sch:=
 let s0:Sch:=.fork [(5,.take 6 .done)]
 let s1:Sch:=.fork [(4,s0)]
 .take 0 (.take 1 (.take 2 (.take 3 s1)))
def fa18Sch:Sch:=
 let s0:Sch:=.fork [(7,.done)]
 let s1:Sch:=.fork [(5,.take 6 s0)]
 let s2:Sch:=.fork [(4,s1)]
 let s3:Sch:=.fork [(3,s1)]
 let s4:Sch:=.fork [(3,s2),(4,s3)]
 let s5:Sch:=.fork [(0,.take 1 (.take 2 s3))]
 let s6:Sch:=.fork [(0,.take 1 (.take 2 s4)),(4,s5)]
 s6
def opB (T:Tr) (l other x:Int):Bool:=decide (x≠l)&&(decide (x≠other)&&decide (0≤valT T x))
set_option maxRecDepth 16000 in
theorem wopen_ok (h:List (List SV)) (bw ba bt nb:Nat) (W:Wt) (T:Tr) (hw:h[bw]?=some (wtB ba bt W)) (ht:h[bt]?=some (trB T)) (hT:T.ok) (l:Int) (h0:h[nb]?=some [.pv (.ptr bw 0)]) (h1:h[nb+1]?=some [.pv (I64 l)]) (x other:Int):
 AMut Tryz.prog 137 [I64 x,I64 other,.ptr (nb+1) 0,.ptr nb 0] h (fun r h'=>h'=h∧r=.pv (BL (opB T l other x))):=by
 refine amutXW [] [.tmp 6] hmo Tryz.func137 (by kernel_rfl) rfl rfl (by kernel_rfl) (Nat.le_of_ble_eq_true rfl) ?_;obtain⟨w1,w2⟩:=List.getElem?_eq_some_iff.1 hw;obtain⟨a1,a2⟩:=List.getElem?_eq_some_iff.1 h0;obtain⟨b1,b2⟩:=List.getElem?_eq_some_iff.1 h1;have hv:=tvalue_ok T x hT;have hz:=frz_tr0 ht 2;unfold opB
 by_cases c1:x=l
 ·simp[w1,w2,wtB,a1,a2,b1,b2,c1]
 by_cases c2:x=other
 ·have c3:¬other=l:=fun e=>c1 (c2.trans e);simp[w1,w2,wtB,a1,a2,b1,b2,c1,c2,c3]
 simp[w1,w2,wtB,a1,a2,b1,b2,c1,c2,hz];refine CallB.introP hv (by simp[c1,c2]) (by simp) ?_;simp[c1,c2]
theorem isAt2_ok (x v:Int):APure Tryz.prog 140 [I64 x,.iptr 1 [[I64 v]] 0 0] (fun r=>r=.pv (BL (decide (x=v)))):=by
 refine apure1 hmo Tryz.func140 (by kernel_rfl) rfl rfl (by kernel_rfl) (Nat.le_of_ble_eq_true rfl) ?_;simp
def othS (l:Int) (p:Pr):Int:=if p.x=l then p.y else p.x
def pick14 (T:Tr) (l:Int) (p:Pr):Option Int:=p.lits.find? (opB T l (othS l p))
def movP (l:Int) (p:Pr) (x:Int):Pr:=if p.x=l then⟨p.lits,x,p.y⟩else⟨p.lits,p.x,x⟩
def movS (S:WS) (k l:Int) (p:Pr) (x:Int):WS:=⟨pt S.prs k (movP l p x),addB (forB S.byl k l) k x,S.late,S.head,S.seen⟩
def lateS (S:WS) (k:Int):WS:=⟨S.prs,S.byl,pt S.late k (w64 ((lk S.late k).getD 0+1)),S.head,S.seen⟩
def zerP (p:Pr):Pr:=⟨p.lits,0,0⟩
def wstS (S:WS) (T:Tr) (l k:Int) (p:Pr):WS:=match pick14 T l p with
 |some x=>movS S k l p x
 |none=>freS (lateS (forS S k p) k) T k (zerP p)
def wstT (T:Tr) (l k:Int) (p:Pr):Tr:=match pick14 T l p with
 |some _=>T
 |none=>freT T k (zerP p)
def wstB (T:Tr) (l:Int) (p:Pr):Bool:=match pick14 T l p with
 |some _=>false
 |none=>freB T (zerP p)
def faiF (l:Int):List Int→WS→Tr→WS×Tr×Int
 |[],S,T=>(S,T,-1)
 |k::ks,S,T=>match lk S.prs k with
  |some p=>if wstB T l p=true then(wstS S T l k p,wstT T l k p,k)else faiF l ks (wstS S T l k p) (wstT T l k p)
  |none=>(S,T,-1)
structure StepOk (S:WS) (T:Tr) (l k:Int) (p:Pr):Prop where
  hp:lk S.prs k=some p
  l0:l≠0
  two:p.x=l∨p.y=l
  lits:p.lits.length≤1000000
  byl:∃zs,lk S.byl l=some zs∧zs≠[]
  hx:p.x≠0→∃zs,lk S.byl p.x=some zs∧zs≠[]
  hy:p.y≠0→∃zs,lk (forB S.byl k p.x) p.y=some zs∧zs≠[]
  hz:∀l zs,lk S.byl l=some zs→zs.length≤1000000
  ok:T.ok
  tl:T.lits.length≤1000000
theorem forB_len {byl:List (Int×List Int)} {k l:Int} {n:Nat} (h:∀l zs,lk byl l=some zs→zs.length≤n):∀m zs,lk (forB byl k l) m=some zs→zs.length≤n:=fun m zs hm=>by
 unfold forB at hm;split at hm
 ·exact h m zs hm
 ·rw[lk_pt]at hm;split at hm
  ·cases hm
   refine Nat.le_trans (delS_len _ _) ?_;cases hq:lk byl l with
   |none=>exact Nat.zero_le _
   |some z=>exact h l z hq
  ·exact h m zs hm
def faB (a m:Nat) (zs:List Int) (i:Nat) (x:Int):List (Nat×SV):=[(2,.pv (.ptr a 0)),(3,.pv (.ptr (a+1) 0)),(5,.own true 1 (irow zs)),(6,.pv (.fn (.func 137) [] [.ptr (a+1) 0,.ptr a 0])),(8,.pv (.ptr m 0)),(13,.pv (I64 x)),(22,.al (.slot 5)),(23,.pv (I64 zs.length)),(24,.pv (I64 i))]
theorem waU:(∀x:By,byV x=.bsl x.b 1 0 x.n x.cp)∧(∀(ba bt:Nat) (W:Wt),wtB ba bt W=[.pv (.ptr ba 0),.pv (.ptr bt 0),.omap true (mapE prV W.prs),.omap true (mapE byV W.byl),.omap true (mapE fI W.late),.pv (I64 W.head),.own true 1 (irow W.seen)])∧(∀(a m:Nat) (zs:List Int) (i:Nat) (x:Int),faB a m zs i x=[(2,.pv (.ptr a 0)),(3,.pv (.ptr (a+1) 0)),(5,.own true 1 (irow zs)),(6,.pv (.fn (.func 137) [] [.ptr (a+1) 0,.ptr a 0])),(8,.pv (.ptr m 0)),(13,.pv (I64 x)),(22,.al (.slot 5)),(23,.pv (I64 zs.length)),(24,.pv (I64 i))])∧(∀b k n s:Nat,qCells b k n (.slot s)=false)∧∀b k n b' k':Nat,qCells b k n (.cell b' k')=(b==b'&&decide (k≤k')&&decide (k'<k+n)):=⟨fun _=>rfl,fun _ _ _=>rfl,fun _ _ _ _ _=>rfl,fun _ _ _ _=>rfl,fun _ _ _ _ _=>rfl⟩
set_option maxRecDepth 32000 in
set_option maxHeartbeats 8000000 in
theorem wfails_ok (h:List (List SV)) (bw ba bt:Nat) (mp:List (Int×Nat)) (mb:List (Int×By)) (A:Ar) (T:Tr) (S:WS) (L:LayW h bw ba bt mp mb A T S) (l:Int) (zs:List Int) (hzs:lk S.byl l=some zs) (hzl:zs.length≤1000000) (J:Nat→WS→Tr→Prop) (hJ0:J 0 S T)
    (hJ:∀i S' T',J i S' T'→∀(hi:i<zs.length),∃p,StepOk S' T' l zs[i] p∧(wstB T' l p=false→J (i+1) (wstS S' T' l zs[i] p) (wstT T' l zs[i] p))):
    AMut Tryz.prog 90 [.ptr bw 0,I64 l] h (fun r h'=>r=.pv (I64 (faiF l zs S T).2.2)∧∃mb',LayW h' bw ba bt mp mb' A (faiF l zs S T).2.1 (faiF l zs S T).1∧Ext h h' (DomW bw bt mp mb) (DomW bw bt mp mb')):=by
  refine amutX [1,6,7,14,15,18] [.tmp 4] hmo Tryz.func90 (by kernel_rfl) rfl rfl (by kernel_rfl) (Nat.le_of_ble_eq_true rfl) ?_
  obtain⟨e,he,⟨sp,e1,e2,e3,e4,e5⟩,e6,e7,e8⟩:=L.some_b hzs
  obtain⟨G,hG⟩:∃G,G=h++[[SV.pv (.ptr bw 0)],[SV.pv (I64 l)]]:=⟨_,rfl⟩
  have L0:LayW G bw ba bt mp mb A T S:=by rw[hG];exact L.app _
  have E0:Ext h G (DomW bw bt mp mb) (DomW bw bt mp mb):=by rw[hG];exact Ext.app _ _ _
  have n0?:G[h.length]?=some [.pv (.ptr bw 0)]:=by rw[hG];simp
  have n1?:G[h.length+1]?=some [.pv (I64 l)]:=by rw[hG];simp
  have hout:∀b,h.length≤b→¬DomW bw bt mp mb b:=fun b hb hd=>by
    have lt:∀{c:Nat} {x:List SV},h[c]?=some x→c<h.length:=fun hx=>(List.getElem?_eq_some_iff.1 hx).1
    rcases hd with q|q|⟨k,q⟩|⟨l',e',q,rfl⟩
    · have:=lt L.w;omega
    · have:=lt L.t;omega
    · obtain⟨_,_,a2,_⟩:=L.pr k b q;have:=lt a2;omega
    · obtain⟨_,_,⟨_,a2,_⟩,_⟩:=L.by' l' e' q;have:=lt a2;omega
  obtain⟨w1,w2⟩:=List.getElem?_eq_some_iff.1 L0.w
  obtain⟨a1,a2⟩:=List.getElem?_eq_some_iff.1 n0?
  obtain⟨b1,b2⟩:=List.getElem?_eq_some_iff.1 n1?
  have hcl:=clone_ok zs hzl
  have heG:G[e.b]?=some (icells zs++sp):=by rw[hG,List.getElem?_append_left (List.getElem?_eq_some_iff.1 e1).1,e1]
  have hfz:frzB (frzP G 3 e.b 0) 1 e.n=.seq false 1 (irow zs):=by rw[←e3];exact frzB_ic G e.b zs sp heG 2
  have hF0:faiF l zs S T=faiF l (zs.drop 0) S T:=rfl
  generalize faiF l zs S T=Z at*
  simp
  rw[←hG]
  refine AAnyD.meet fa1Sch ⟨[(2,.pv (.ptr h.length 0)),(3,.pv (.ptr (h.length+1) 0)),(5,.own true 1 (irow zs))],G⟩ (by kernel_rfl) ?_ ?_
  · simp[fa1Sch,w1,w2,wtB,a1,a2,b1,b2,he,byV,hfz]
    and_intros
    all_goals
      refine CallB.introP hcl (by simp) (by simp) ?_
      simp
      exact Weak.keep (by simp) rfl
  simp
  refine ALoop.intro (S:=fun(x:Nat×List (List SV)×List (Int×By)×WS×Tr)=>⟨[(2,.pv (.ptr h.length 0)),(3,.pv (.ptr (h.length+1) 0)),(5,.own true 1 (irow zs)),(6,.pv (.fn (.func 137) [] [.ptr (h.length+1) 0,.ptr h.length 0])),(22,.al (.slot 5)),(23,.pv (I64 zs.length)),(24,.pv (I64 x.1))],x.2.1⟩)
    (fun x=>x.1≤zs.length∧LayW x.2.1 bw ba bt mp x.2.2.1 A x.2.2.2.2 x.2.2.2.1∧J x.1 x.2.2.2.1 x.2.2.2.2∧Ext G x.2.1 (DomW bw bt mp mb) (DomW bw bt mp x.2.2.1)∧Z=faiF l (zs.drop x.1) x.2.2.2.1 x.2.2.2.2)
    (fun x=>zs.length -x.1) (0,G,mb,S,T) ?_ ⟨Nat.zero_le _,L0,hJ0,Ext.refl _ _,hF0⟩ ?_
  · exact Weak.keep (by simp) rfl
  rintro⟨i,H,mb',S',T'⟩ ⟨hi,LH,hJ',hE,hZ⟩
  dsimp only at hi LH hJ' hE hZ
  have hGl:G.length=h.length+2:=by rw[hG];simp
  have m0?:H[h.length]?=some [.pv (.ptr bw 0)]:=by rw[hE.same h.length (by omega) (hout _ (Nat.le_refl _)),n0?]
  have m1?:H[h.length+1]?=some [.pv (I64 l)]:=by rw[hE.same (h.length+1) (by omega) (hout _ (by omega)),n1?]
  have hou2:∀b,h.length≤b→b<G.length→¬DomW bw bt mp mb' b:=fun b hb hb2 hd=>hout b hb (hE.sub b hb2 hd)
  by_cases d:i<zs.length
  rotate_left
  · have:i=zs.length:=by omega
    subst this
    rw[List.drop_eq_nil_of_le (Nat.le_refl _),faiF]at hZ
    subst hZ
    simp
    exact⟨mb',LH,E0.trans hE⟩
  have hw':w64 ((i:Int)+1)=((i+1:Nat):Int):=by rw[w64_id (by omega) (by omega)];omega
  have hq:zs[i]?=some zs[i]:=List.getElem?_eq_getElem d
  obtain⟨p,hS,hJn⟩:=hJ i S' T' hJ' d
  rw[List.drop_eq_getElem_cons d,faiF,hS.hp]at hZ
  simp only at hZ
  obtain⟨k,hkk⟩:∃k,zs[i]=k:=⟨_,rfl⟩
  rw[hkk]at hS hJn hZ hq
  obtain⟨b,hb,q1,q2,q3,q4⟩:=LH.some_p hS.hp
  -- the number is boxed
  obtain⟨G2,hG2⟩:∃G2,G2=H++[[SV.pv (I64 k)]]:=⟨_,rfl⟩
  have L2:LayW G2 bw ba bt mp mb' A T' S':=by rw[hG2];exact LH.app _
  have E2:Ext H G2 (DomW bw bt mp mb') (DomW bw bt mp mb'):=by rw[hG2];exact Ext.app _ _ _
  have lt:∀{c:Nat} {x:List SV},H[c]?=some x→c<H.length:=fun hx=>(List.getElem?_eq_some_iff.1 hx).1
  have up:∀{c:Nat} {x:List SV},H[c]?=some x→G2[c]?=some x:=fun hx=>by rw[hG2,List.getElem?_append_left (lt hx),hx]
  have hk?:G2[H.length]?=some [.pv (I64 k)]:=by rw[hG2];simp
  have p0?:=up m0?
  have p1?:=up m1?
  have pb?:=up q1
  have houk:¬DomW bw bt mp mb' H.length:=fun hd=>by
    rcases hd with q|q|⟨k',q⟩|⟨l',e',q,qe⟩
    · have:=lt LH.w;omega
    · have:=lt LH.t;omega
    · obtain⟨_,_,a2,_⟩:=LH.pr k' _ q;have:=lt a2;omega
    · obtain⟨_,_,⟨_,a2,_⟩,_⟩:=LH.by' l' e' q;have:=lt a2;omega
  obtain⟨w3,w4⟩:=List.getElem?_eq_some_iff.1 L2.w
  obtain⟨c1,c2⟩:=List.getElem?_eq_some_iff.1 p0?
  obtain⟨d1,d2⟩:=List.getElem?_eq_some_iff.1 p1?
  obtain⟨f1,f2⟩:=List.getElem?_eq_some_iff.1 hk?
  obtain⟨g1,g2⟩:=List.getElem?_eq_some_iff.1 pb?
  obtain⟨kx,hkx⟩:∃kx:Nat,kx=if p.x=l then 0 else 1:=⟨_,rfl⟩
  have hpos:posS [p.x,p.y] l=(kx:Int):=by
    unfold posS
    by_cases c:p.x=l
    · rw[hkx,if_pos c]
      exact idxS_at (i:=0) (by simp) (fun j hj h=>by omega) (by simp[c])
    · rw[hkx,if_neg c]
      exact idxS_at (i := 1) (by simp) (fun j hj h => by have : j = 0 := by omega
                                                         subst this;simp[c]) (by simp[hS.two.resolve_left c])
  have hIx:=index_ok [p.x,p.y] l (by simp)
  rw[hpos]at hIx
  have hfz2:frzB (frzP G2 3 b 1) 1 2=.seq false 1 (irow [p.x,p.y]):=by
    have e0:G2.getD b []=prB p:=by rw[List.getD_eq_getElem?_getD,pb?];rfl
    simp only[frzP,e0,prB,pairB]
    simp[frzB,frzC,irow]
  simp[d,hkk]
  rw[←hG2]
  refine AAnyD.meet fa6Sch ⟨[(2,.pv (.ptr h.length 0)),(3,.pv (.ptr (h.length+1) 0)),(5,.own true 1 (irow zs)),(6,.pv (.fn (.func 137) [] [.ptr (h.length+1) 0,.ptr h.length 0])),(22,.al (.slot 5)),(23,.pv (I64 zs.length)),(24,.pv (I64 i)),(8,.pv (.ptr H.length 0)),(9,.pv (.ptr b 0))],G2⟩ (by kernel_rfl) ?_ ?_
  · simp[fa6Sch,w3,w4,wtB,c1,c2,d1,d2,f1,f2,hb,prV]
    and_intros
    all_goals exact Weak.keep (by simp) rfl
  simp
  refine AAnyD.arr [] fa7Sch (fun _:Unit=>⟨[(2,.pv (.ptr h.length 0)),(3,.pv (.ptr (h.length+1) 0)),(5,.own true 1 (irow zs)),(6,.pv (.fn (.func 137) [] [.ptr (h.length+1) 0,.ptr h.length 0])),(22,.al (.slot 5)),(23,.pv (I64 zs.length)),(24,.pv (I64 i)),(8,.pv (.ptr H.length 0)),(9,.pv (.ptr b 0)),(10,.pv (I64 kx))],G2⟩) (fun _=>True) (by kernel_rfl) ?_ ?_
  · simp[fa7Sch,w3,w4,wtB,c1,c2,d1,d2,f1,f2,g1,g2,prB,pairB,hfz2]
    refine CallB.introP hIx (by simp) (by simp) ?_
    simp
    exact Weak.keep (by simp) rfl
  rintro _ _
  have hkl:kx≤1:=by rw[hkx];split<;>omega
  have hw1:w64 (1 -(kx:Int))=((1 -kx:Nat):Int):=by rw[w64_id (by omega) (by omega)];omega
  have hx1:((1 -kx:Nat):Int)<2:=by omega
  have hx2:1+(1 -kx)<3:=by omega
  have hcell:∀hh:1+(1 -kx)<[SV.pv (.seq false 1 (irow p.lits)),SV.pv (I64 p.x),SV.pv (I64 p.y)].length,[SV.pv (.seq false 1 (irow p.lits)),SV.pv (I64 p.x),SV.pv (I64 p.y)][1+(1 -kx)]'hh=SV.pv (I64 (othS l p)):=fun hh=>by
    unfold othS
    by_cases c:p.x=l
    · rw[if_pos c]at hkx
      subst hkx
      rw[if_pos c];rfl
    · rw[if_neg c]at hkx
      subst hkx
      rw[if_neg c];rfl
  simp[hw1,hx1,hx2,g1,g2,prB,pairB,hcell]
  have kO:=fun x=>wopen_ok G2 bw ba bt h.length ⟨mp,mb',S'.late,S'.head,S'.seen⟩ T' L2.w L2.t hS.ok l p0? p1? x (othS l p)
  have hpk:pick14 T' l p=(p.lits.drop 0).find? (opB T' l (othS l p)):=rfl
  refine ALoop.intro (S:=fun(j:Nat)=>⟨[(2,.pv (.ptr h.length 0)),(3,.pv (.ptr (h.length+1) 0)),(5,.own true 1 (irow zs)),(6,.pv (.fn (.func 137) [] [.ptr (h.length+1) 0,.ptr h.length 0])),(22,.al (.slot 5)),(23,.pv (I64 zs.length)),(24,.pv (I64 i)),(8,.pv (.ptr H.length 0)),(9,.pv (.ptr b 0)),(10,.pv (I64 kx)),(11,.pv (I64 (othS l p))),(50,.pv (.seq false 1 (irow p.lits))),(51,.pv (I64 p.lits.length)),(52,.pv (I64 j))],G2⟩)
    (fun j=>j≤p.lits.length∧pick14 T' l p=(p.lits.drop j).find? (opB T' l (othS l p))) (fun j=>p.lits.length -j) 0 ?_ ⟨Nat.zero_le _,hpk⟩ ?_
  · exact Weak.keep (by simp) rfl
  rintro j ⟨hj,hpj⟩
  have hlits:=hS.lits
  by_cases dj:j<p.lits.length
  · have hwj:w64 ((j:Int)+1)=((j+1:Nat):Int):=by rw[w64_id (by omega) (by omega)];omega
    have hqj:p.lits[j]?=some p.lits[j]:=List.getElem?_eq_getElem dj
    rw[List.drop_eq_getElem_cons dj,List.find?_cons]at hpj
    simp[dj,hqj]
    refine CallB.intro (kO p.lits[j]) (by simp) ?_
    rintro _ H3 ⟨e3',rfl⟩
    rw[e3']
    clear e3' H3
    cases ho:opB T' l (othS l p) p.lits[j]
    · rw[ho]at hpj
      simp only at hpj
      simp
      exact⟨j+1,by(try dsimp only);omega,⟨by(try dsimp only);omega,hpj⟩,Weak.keep (by simp[hwj]) rfl⟩
    · rw[ho]at hpj
      simp only at hpj
      have hk2:(kx:Int)<2:=by omega
      have hk3:kx+1≤2:=by omega
      simp[hk2,hk3,g1,g2,prB,pairB]
      refine⟨by omega,?_⟩
      have hset:List.take (1+kx) [SV.pv (PV.seq false 1 (irow p.lits)),SV.pv (I64 p.x),SV.pv (I64 p.y)]++SV.pv (I64 p.lits[j])::List.drop (1+kx) [SV.pv (I64 p.x),SV.pv (I64 p.y)]=prB (movP l p p.lits[j]):=by
        unfold movP
        by_cases c:p.x=l
        · rw[if_pos c]at hkx
          subst hkx
          rw[if_pos c];rfl
        · rw[if_neg c]at hkx
          subst hkx
          rw[if_neg c];rfl
      rw[hset]
      clear hset
      have eS:wstS S' T' l k p=movS S' k l p p.lits[j]:=by unfold wstS;rw[hpj]
      have eT:wstT T' l k p=T':=by unfold wstT;rw[hpj]
      have eB:wstB T' l p=false:=by unfold wstB;rw[hpj]
      rw[if_neg (by rw[eB];simp)]at hZ
      have hJn:=hJn eB
      rw[eS,eT]at hZ hJn
      generalize p.lits[j]=x at*
      have L6:=L2.setP hb (movP l p x) (L2.keys.trans (pt_keepW _ hS.hp).symm)
      have E6:=Ext.set (h:=G2) (D:=DomW bw bt mp mb') b (prB (movP l p x)) (.inr (.inr (.inl ⟨k,hb⟩)))
      have n2:¬DomW bw bt mp mb' h.length:=hou2 _ (Nat.le_refl _) (by omega)
      have n3:¬DomW bw bt mp mb' (h.length+1):=hou2 _ (by omega) (by omega)
      generalize hH6:G2.set b (prB (movP l p x))=H6 at*
      have h60?:H6[h.length]?=some [.pv (.ptr bw 0)]:=by rw[E6.same h.length c1 n2,p0?]
      have h61?:H6[h.length+1]?=some [.pv (I64 l)]:=by rw[E6.same (h.length+1) d1 n3,p1?]
      have hk6?:H6[H.length]?=some [.pv (I64 k)]:=by rw[E6.same H.length f1 houk,hk?]
      obtain⟨h6a,h6b⟩:=List.getElem?_eq_some_iff.1 L6.w
      obtain⟨h6c,h6d⟩:=List.getElem?_eq_some_iff.1 h60?
      obtain⟨h6e,h6f⟩:=List.getElem?_eq_some_iff.1 h61?
      obtain⟨h6g,h6h⟩:=List.getElem?_eq_some_iff.1 hk6?
      obtain⟨z9,hz9,hz9n⟩:=hS.byl
      obtain⟨ey,hey,⟨sp9,ey1,ey2,ey3,ey4,ey5⟩,ey6,ey7,ey8⟩:=L6.some_b (show lk S'.byl l=some z9 from hz9)
      have hzl9:z9.length≤1000000:=hS.hz l z9 hz9
      have hpos9:0<z9.length:=List.length_pos_iff.2 hz9n
      have hdey:DomW bw bt mp mb' ey.b:=.inr (.inr (.inr ⟨l,ey,hey,rfl⟩))
      have hbox:H.length≠ey.b:=fun q=>houk (q▸hdey)
      have hb0n:ey.b≠h.length:=fun q=>n2 (q▸hdey)
      have hb1n:ey.b≠h.length+1:=fun q=>n3 (q▸hdey)
      have hD9:=deleteF_ok z9 hzl9 140 [.iptr 1 [[I64 k]] 0 0] (fun q=>decide (q=k)) (fun r=>by simp) rfl (fun m=>by simp) (by simp) (fun q _=>isAt2_ok q k)
      have hDl9:(delS (fun q=>decide (q=k)) z9).length≤z9.length:=delS_len _ _
      obtain⟨Z9,hZ9⟩:∃Z9,Z9=delS (fun q=>decide (q=k)) z9:=⟨_,rfl⟩
      unfold delR at hD9
      rw[←hZ9]at hD9 hDl9
      obtain⟨X9,hX9⟩:∃X:List SV,X=(Z9++List.replicate (z9.length -Z9.length) 0).map (fun z=>SV.pv (.lit (.int .i64 z)))++sp9:=⟨_,rfl⟩
      have hXc:X9=icells Z9++((List.replicate (z9.length -Z9.length) 0).map (fun z=>SV.pv (.lit (.int .i64 z)))++sp9):=by
        rw[hX9,List.map_append,List.append_assoc];rfl
      have L7:=L6.setB hey Z9 ((List.replicate (z9.length -Z9.length) 0).map (fun z=>SV.pv (.lit (.int .i64 z)))++sp9) (fun m=>belowC_ic m (ey2 m) _) Z9.length rfl (by omega) (by simp;omega)
      rw[←hXc]at L7
      have E7:Ext H6 ((H6.set ey.b X9).set bw (wtB ba bt ⟨mp,pt mb' l ⟨ey.b,Z9.length,ey.cp⟩,S'.late,S'.head,S'.seen⟩)) (DomW bw bt mp mb') (DomW bw bt mp (pt mb' l ⟨ey.b,Z9.length,ey.cp⟩)):=by
        refine(((Ext.set ey.b X9 hdey).trans (Ext.set bw _ (.inl rfl))).dom ?_)
        rintro c _ (q|q|q|⟨l',e',q,rfl⟩)
        · exact .inl q
        · exact .inr (.inl q)
        · exact .inr (.inr (.inl q))
        · rw[lk_pt]at q
          split at q
          · cases q;exact hdey
          · exact .inr (.inr (.inr ⟨l',e',q,rfl⟩))
      obtain⟨H7a,hH7a⟩:∃H7a,H7a=H6.set ey.b X9:=⟨_,rfl⟩
      rw[←hH7a]at L7 E7
      have h7w?:H7a[bw]?=some (wtB ba bt ⟨mp,mb',S'.late,S'.head,S'.seen⟩):=by rw[hH7a,List.getElem?_set_ne ey6];exact L6.w
      have h70?:H7a[h.length]?=some [.pv (.ptr bw 0)]:=by rw[hH7a,List.getElem?_set_ne hb0n,h60?]
      have h71?:H7a[h.length+1]?=some [.pv (I64 l)]:=by rw[hH7a,List.getElem?_set_ne hb1n,h61?]
      have h7k?:H7a[H.length]?=some [.pv (I64 k)]:=by rw[hH7a,List.getElem?_set_ne hbox.symm,hk6?]
      obtain⟨h7a,h7b⟩:=List.getElem?_eq_some_iff.1 h7w?
      obtain⟨h7c,h7d⟩:=List.getElem?_eq_some_iff.1 h70?
      obtain⟨h7e,h7f⟩:=List.getElem?_eq_some_iff.1 h71?
      obtain⟨h7g,h7h⟩:=List.getElem?_eq_some_iff.1 h7k?
      have fF:=And.intro waU (And.intro h6a (And.intro h6b (And.intro h6c (And.intro h6d (And.intro h6e (And.intro h6f (And.intro h6g (And.intro h6h (And.intro h7a (And.intro h7b (And.intro h7c (And.intro h7d (And.intro h7e (And.intro h7f (And.intro h7g (And.intro h7h (And.intro hey (And.intro ey6 ey6.symm))))))))))))))))))
      refine AAnyD.dagE [] (fun _:Unit=>⟨[(2,.pv (.ptr h.length 0)),(3,.pv (.ptr (h.length+1) 0)),(5,.own true 1 (irow zs)),(6,.pv (.fn (.func 137) [] [.ptr (h.length+1) 0,.ptr h.length 0])),(8,.pv (.ptr H.length 0)),(13,.pv (I64 x)),(22,.al (.slot 5)),(23,.pv (I64 zs.length)),(24,.pv (I64 i))],H7a.set bw (wtB ba bt ⟨mp,pt mb' l ⟨ey.b,Z9.length,ey.cp⟩,S'.late,S'.head,S'.seen⟩)⟩) (fun _=>True) 14 (bvA 14 0) (by kernel_rfl) (fun stp stM hstp hstM C hC=>?_) ?_
      · have oe0:=hstM 0
        have oe1:=hstp 1
        have oe2:=hstp 2
        have oe3:=hstM 3
        have oe4:=hstM 4
        have oe5:=hstM 5
        have oe6:=hstp 6
        have oe7:=hstp 7
        have oe8:=hstM 8
        have oe9:=hstM 9
        have oe10:=hstM 10
        have oe11:=hstM 11
        have oe12:=hstM 12
        have oe13:=hstM 13
        simp only[AStepMI,AStepM,blkOf,cutOfB,AStepI,AStep,AEx,gslot,boxedIn,List.getElem?_cons_zero,List.getElem?_cons_succ,Option.bind_some,Bool.or_false,Bool.false_or,Bool.or_true,Bool.true_or,Bool.false_and,Bool.true_and,Bool.false_eq_true,if_false]at oe0 oe1 oe2 oe3 oe4 oe5 oe6 oe7 oe8 oe9 oe10 oe11 oe12 oe13
        clear hstp hstM
        have d0:C 0 (bvA 14 16383) ⟨faB h.length H.length zs i x++[],H7a.set bw (wtB ba bt ⟨mp,pt mb' l ⟨ey.b,Z9.length,ey.cp⟩,S'.late,S'.head,S'.seen⟩)⟩:=by
         refine hC.done _ _ _ ?_ ?_
         ·kernel_rfl
         exact⟨(),trivial,Weak.keep (by simp[faB]) rfl⟩
        have d1:C 1 (bvA 14 8191) ⟨faB h.length H.length zs i x++[(69,.al (.cell bw 3)),(70,.pv (I64 l)),(78,.pv (.bsl ey.b 1 0 Z9.length ey.cp))],H7a⟩:=by
         refine hC.fork [(13,(bvA 14 16383))] ?_ ⟨?_,trivial⟩
         ·kernel_rfl
         ·simp[oe13,fF]
          refine hC.kp d0 ?_ ?_<;>simp[fF]
        have d2:C 2 (bvA 14 4095) ⟨faB h.length H.length zs i x++[(69,.al (.cell bw 3)),(70,.pv (I64 l)),(76,.pv (.bsl ey.b 1 0 ey.n ey.cp)),(77,.pv (.fn (.func 140) [] [.ptr H.length 0]))],H6⟩:=by
         refine hC.fork [(12,(bvA 14 8191))] ?_ ⟨?_,trivial⟩
         ·kernel_rfl
         ·simp[oe12,fF]
          refine CallB.introX (CallX.introT (b:=ey.b) (b2:=H.length) (zs:=z9) (sp:=sp9) (cp:=ey.cp) hD9 (by simp) (by simp) rfl (by simp) (by simp[ey3]) (by simp) (by simp) ey1 hk6? hbox hpos9 hzl9 ?_)
          rintro _ _ ⟨rfl,rfl⟩
          refine⟨_,_,rfl,rfl,by simp;omega,hDl9,?_⟩
          rw[←hX9,←hH7a]
          simp[ey6,ey6.symm,qCells,faB]
          refine hC.kp d1 ?_ ?_<;>simp[fF]
        have d3:C 3 (bvA 14 2047) ⟨faB h.length H.length zs i x++[(69,.al (.cell bw 3)),(70,.pv (I64 l)),(76,.pv (.bsl ey.b 1 0 ey.n ey.cp))],H6⟩:=by
         refine hC.fork [(11,(bvA 14 4095))] ?_ ⟨?_,trivial⟩
         ·kernel_rfl
         ·simp[oe11,fF]
          refine hC.kp d2 ?_ ?_<;>simp[fF]
        have d4:C 3 (bvA 14 3071) ⟨faB h.length H.length zs i x++[(69,.al (.cell bw 3)),(70,.pv (I64 l)),(74,.al (.cell bw 3)),(75,.pv (I64 l)),(77,.pv (.fn (.func 140) [] [.ptr H.length 0]))],H6⟩:=by
         refine hC.fork [(10,(bvA 14 4095))] ?_ ⟨?_,trivial⟩
         ·kernel_rfl
         ·simp[oe10,fF]
          refine hC.kp d2 ?_ ?_<;>simp[fF]
        have d5:C 4 (bvA 14 1023) ⟨faB h.length H.length zs i x++[(69,.al (.cell bw 3)),(70,.pv (I64 l)),(74,.al (.cell bw 3)),(75,.pv (I64 l))],H6⟩:=by
         refine hC.fork [(10,(bvA 14 2047)),(11,(bvA 14 3071))] ?_ ⟨?_,?_,trivial⟩
         ·kernel_rfl
         ·simp[oe10,fF]
          refine hC.kp d3 ?_ ?_<;>simp[fF]
         ·simp[oe11,fF]
          refine hC.kp d4 ?_ ?_<;>simp[fF]
        have d6:C 4 (bvA 14 2559) ⟨faB h.length H.length zs i x++[(69,.al (.cell bw 3)),(70,.pv (I64 l)),(74,.al (.cell bw 3)),(77,.pv (.fn (.func 140) [] [.ptr H.length 0]))],H6⟩:=by
         refine hC.fork [(9,(bvA 14 3071))] ?_ ⟨?_,trivial⟩
         ·kernel_rfl
         ·simp[oe9,fF]
          refine hC.kp d4 ?_ ?_<;>simp[fF]
        have d7:C 5 (bvA 14 511) ⟨faB h.length H.length zs i x++[(69,.al (.cell bw 3)),(70,.pv (I64 l)),(74,.al (.cell bw 3))],H6⟩:=by
         refine hC.fork [(9,(bvA 14 1023)),(11,(bvA 14 2559))] ?_ ⟨?_,?_,trivial⟩
         ·kernel_rfl
         ·simp[oe9,fF]
          refine hC.kp d5 ?_ ?_<;>simp[fF]
         ·simp[oe11,fF]
          refine hC.kp d6 ?_ ?_<;>simp[fF]
        have d8:C 4 (bvA 14 2815) ⟨faB h.length H.length zs i x++[(69,.al (.cell bw 3)),(70,.pv (I64 l)),(73,.pv (.ptr bw 3)),(75,.pv (I64 l)),(77,.pv (.fn (.func 140) [] [.ptr H.length 0]))],H6⟩:=by
         refine hC.fork [(8,(bvA 14 3071))] ?_ ⟨?_,trivial⟩
         ·kernel_rfl
         ·simp[oe8,fF]
          refine hC.kp d4 ?_ ?_<;>simp[fF]
        have d9:C 5 (bvA 14 767) ⟨faB h.length H.length zs i x++[(69,.al (.cell bw 3)),(70,.pv (I64 l)),(73,.pv (.ptr bw 3)),(75,.pv (I64 l))],H6⟩:=by
         refine hC.fork [(8,(bvA 14 1023)),(11,(bvA 14 2815))] ?_ ⟨?_,?_,trivial⟩
         ·kernel_rfl
         ·simp[oe8,fF]
          refine hC.kp d5 ?_ ?_<;>simp[fF]
         ·simp[oe11,fF]
          refine hC.kp d8 ?_ ?_<;>simp[fF]
        have d10:C 5 (bvA 14 2303) ⟨faB h.length H.length zs i x++[(69,.al (.cell bw 3)),(70,.pv (I64 l)),(73,.pv (.ptr bw 3)),(77,.pv (.fn (.func 140) [] [.ptr H.length 0]))],H6⟩:=by
         refine hC.fork [(8,(bvA 14 2559)),(9,(bvA 14 2815))] ?_ ⟨?_,?_,trivial⟩
         ·kernel_rfl
         ·simp[oe8,fF]
          refine hC.kp d6 ?_ ?_<;>simp[fF]
         ·simp[oe9,fF]
          refine hC.kp d8 ?_ ?_<;>simp[fF]
        have d11:C 6 (bvA 14 255) ⟨faB h.length H.length zs i x++[(69,.al (.cell bw 3)),(70,.pv (I64 l)),(73,.pv (.ptr bw 3))],H6⟩:=by
         refine hC.fork [(8,(bvA 14 511)),(9,(bvA 14 767)),(11,(bvA 14 2303))] ?_ ⟨?_,?_,?_,trivial⟩
         ·kernel_rfl
         ·simp[oe8,fF]
          refine hC.kp d7 ?_ ?_<;>simp[fF]
         ·simp[oe9,fF]
          refine hC.kp d9 ?_ ?_<;>simp[fF]
         ·simp[oe11,fF]
          refine hC.kp d10 ?_ ?_<;>simp[fF]
        have d12:C 7 (bvA 14 2591) ⟨faB h.length H.length zs i x++[(69,.al (.cell bw 3)),(70,.pv (I64 l)),(75,.pv (I64 l)),(77,.pv (.fn (.func 140) [] [.ptr H.length 0]))],H6⟩:=by
         refine hC.fork [(5,(bvA 14 2623))] ?_ ⟨?_,trivial⟩
         ·kernel_rfl
         ·simp[oe5,fF]
          refine hC.take 6 (bvA 14 2687) ?_ ?_
          ·kernel_rfl
          simp[oe6,fF]
          refine hC.take 7 (bvA 14 2815) ?_ ?_
          ·kernel_rfl
          simp[oe7,fF]
          refine hC.kp d8 ?_ ?_<;>simp[fF]
        have d13:C 8 (bvA 14 543) ⟨faB h.length H.length zs i x++[(69,.al (.cell bw 3)),(70,.pv (I64 l)),(75,.pv (I64 l))],H6⟩:=by
         refine hC.fork [(5,(bvA 14 575)),(11,(bvA 14 2591))] ?_ ⟨?_,?_,trivial⟩
         ·kernel_rfl
         ·simp[oe5,fF]
          refine hC.take 6 (bvA 14 639) ?_ ?_
          ·kernel_rfl
          simp[oe6,fF]
          refine hC.take 7 (bvA 14 767) ?_ ?_
          ·kernel_rfl
          simp[oe7,fF]
          refine hC.kp d9 ?_ ?_<;>simp[fF]
         ·simp[oe11,fF]
          refine hC.kp d12 ?_ ?_<;>simp[fF]
        have d14:C 8 (bvA 14 2079) ⟨faB h.length H.length zs i x++[(69,.al (.cell bw 3)),(70,.pv (I64 l)),(77,.pv (.fn (.func 140) [] [.ptr H.length 0]))],H6⟩:=by
         refine hC.fork [(5,(bvA 14 2111)),(9,(bvA 14 2591))] ?_ ⟨?_,?_,trivial⟩
         ·kernel_rfl
         ·simp[oe5,fF]
          refine hC.take 6 (bvA 14 2175) ?_ ?_
          ·kernel_rfl
          simp[oe6,fF]
          refine hC.take 7 (bvA 14 2303) ?_ ?_
          ·kernel_rfl
          simp[oe7,fF]
          refine hC.kp d10 ?_ ?_<;>simp[fF]
         ·simp[oe9,fF]
          refine hC.kp d12 ?_ ?_<;>simp[fF]
        have d15:C 9 (bvA 14 31) ⟨faB h.length H.length zs i x++[(69,.al (.cell bw 3)),(70,.pv (I64 l))],H6⟩:=by
         refine hC.fork [(5,(bvA 14 63)),(9,(bvA 14 543)),(11,(bvA 14 2079))] ?_ ⟨?_,?_,?_,trivial⟩
         ·kernel_rfl
         ·simp[oe5,fF]
          refine hC.take 6 (bvA 14 127) ?_ ?_
          ·kernel_rfl
          simp[oe6,fF]
          refine hC.take 7 (bvA 14 255) ?_ ?_
          ·kernel_rfl
          simp[oe7,fF]
          refine hC.kp d11 ?_ ?_<;>simp[fF]
         ·simp[oe9,fF]
          refine hC.kp d13 ?_ ?_<;>simp[fF]
         ·simp[oe11,fF]
          refine hC.kp d14 ?_ ?_<;>simp[fF]
        have d16:C 2 (bvA 14 8175) ⟨faB h.length H.length zs i x++[(69,.al (.cell bw 3)),(78,.pv (.bsl ey.b 1 0 Z9.length ey.cp))],H7a⟩:=by
         refine hC.fork [(4,(bvA 14 8191))] ?_ ⟨?_,trivial⟩
         ·kernel_rfl
         ·simp[oe4,fF]
          refine hC.kp d1 ?_ ?_<;>simp[fF]
        have d17:C 3 (bvA 14 4079) ⟨faB h.length H.length zs i x++[(69,.al (.cell bw 3)),(76,.pv (.bsl ey.b 1 0 ey.n ey.cp)),(77,.pv (.fn (.func 140) [] [.ptr H.length 0]))],H6⟩:=by
         refine hC.fork [(4,(bvA 14 4095)),(12,(bvA 14 8175))] ?_ ⟨?_,?_,trivial⟩
         ·kernel_rfl
         ·simp[oe4,fF]
          refine hC.kp d2 ?_ ?_<;>simp[fF]
         ·simp[oe12,fF]
          refine CallB.introX (CallX.introT (b:=ey.b) (b2:=H.length) (zs:=z9) (sp:=sp9) (cp:=ey.cp) hD9 (by simp) (by simp) rfl (by simp) (by simp[ey3]) (by simp) (by simp) ey1 hk6? hbox hpos9 hzl9 ?_)
          rintro _ _ ⟨rfl,rfl⟩
          refine⟨_,_,rfl,rfl,by simp;omega,hDl9,?_⟩
          rw[←hX9,←hH7a]
          simp[ey6,ey6.symm,qCells,faB]
          refine hC.kp d16 ?_ ?_<;>simp[fF]
        have d18:C 4 (bvA 14 2031) ⟨faB h.length H.length zs i x++[(69,.al (.cell bw 3)),(76,.pv (.bsl ey.b 1 0 ey.n ey.cp))],H6⟩:=by
         refine hC.fork [(4,(bvA 14 2047)),(11,(bvA 14 4079))] ?_ ⟨?_,?_,trivial⟩
         ·kernel_rfl
         ·simp[oe4,fF]
          refine hC.kp d3 ?_ ?_<;>simp[fF]
         ·simp[oe11,fF]
          refine hC.kp d17 ?_ ?_<;>simp[fF]
        have d19:C 4 (bvA 14 3055) ⟨faB h.length H.length zs i x++[(69,.al (.cell bw 3)),(74,.al (.cell bw 3)),(75,.pv (I64 l)),(77,.pv (.fn (.func 140) [] [.ptr H.length 0]))],H6⟩:=by
         refine hC.fork [(4,(bvA 14 3071)),(10,(bvA 14 4079))] ?_ ⟨?_,?_,trivial⟩
         ·kernel_rfl
         ·simp[oe4,fF]
          refine hC.kp d4 ?_ ?_<;>simp[fF]
         ·simp[oe10,fF]
          refine hC.kp d17 ?_ ?_<;>simp[fF]
        have d20:C 5 (bvA 14 1007) ⟨faB h.length H.length zs i x++[(69,.al (.cell bw 3)),(74,.al (.cell bw 3)),(75,.pv (I64 l))],H6⟩:=by
         refine hC.fork [(4,(bvA 14 1023)),(10,(bvA 14 2031)),(11,(bvA 14 3055))] ?_ ⟨?_,?_,?_,trivial⟩
         ·kernel_rfl
         ·simp[oe4,fF]
          refine hC.kp d5 ?_ ?_<;>simp[fF]
         ·simp[oe10,fF]
          refine hC.kp d18 ?_ ?_<;>simp[fF]
         ·simp[oe11,fF]
          refine hC.kp d19 ?_ ?_<;>simp[fF]
        have d21:C 5 (bvA 14 2543) ⟨faB h.length H.length zs i x++[(69,.al (.cell bw 3)),(74,.al (.cell bw 3)),(77,.pv (.fn (.func 140) [] [.ptr H.length 0]))],H6⟩:=by
         refine hC.fork [(4,(bvA 14 2559)),(9,(bvA 14 3055))] ?_ ⟨?_,?_,trivial⟩
         ·kernel_rfl
         ·simp[oe4,fF]
          refine hC.kp d6 ?_ ?_<;>simp[fF]
         ·simp[oe9,fF]
          refine hC.kp d19 ?_ ?_<;>simp[fF]
        have d22:C 6 (bvA 14 495) ⟨faB h.length H.length zs i x++[(69,.al (.cell bw 3)),(74,.al (.cell bw 3))],H6⟩:=by
         refine hC.fork [(4,(bvA 14 511)),(9,(bvA 14 1007)),(11,(bvA 14 2543))] ?_ ⟨?_,?_,?_,trivial⟩
         ·kernel_rfl
         ·simp[oe4,fF]
          refine hC.kp d7 ?_ ?_<;>simp[fF]
         ·simp[oe9,fF]
          refine hC.kp d20 ?_ ?_<;>simp[fF]
         ·simp[oe11,fF]
          refine hC.kp d21 ?_ ?_<;>simp[fF]
        have d23:C 5 (bvA 14 2799) ⟨faB h.length H.length zs i x++[(69,.al (.cell bw 3)),(73,.pv (.ptr bw 3)),(75,.pv (I64 l)),(77,.pv (.fn (.func 140) [] [.ptr H.length 0]))],H6⟩:=by
         refine hC.fork [(4,(bvA 14 2815)),(8,(bvA 14 3055))] ?_ ⟨?_,?_,trivial⟩
         ·kernel_rfl
         ·simp[oe4,fF]
          refine hC.kp d8 ?_ ?_<;>simp[fF]
         ·simp[oe8,fF]
          refine hC.kp d19 ?_ ?_<;>simp[fF]
        have d24:C 6 (bvA 14 751) ⟨faB h.length H.length zs i x++[(69,.al (.cell bw 3)),(73,.pv (.ptr bw 3)),(75,.pv (I64 l))],H6⟩:=by
         refine hC.fork [(4,(bvA 14 767)),(8,(bvA 14 1007)),(11,(bvA 14 2799))] ?_ ⟨?_,?_,?_,trivial⟩
         ·kernel_rfl
         ·simp[oe4,fF]
          refine hC.kp d9 ?_ ?_<;>simp[fF]
         ·simp[oe8,fF]
          refine hC.kp d20 ?_ ?_<;>simp[fF]
         ·simp[oe11,fF]
          refine hC.kp d23 ?_ ?_<;>simp[fF]
        have d25:C 6 (bvA 14 2287) ⟨faB h.length H.length zs i x++[(69,.al (.cell bw 3)),(73,.pv (.ptr bw 3)),(77,.pv (.fn (.func 140) [] [.ptr H.length 0]))],H6⟩:=by
         refine hC.fork [(4,(bvA 14 2303)),(8,(bvA 14 2543)),(9,(bvA 14 2799))] ?_ ⟨?_,?_,?_,trivial⟩
         ·kernel_rfl
         ·simp[oe4,fF]
          refine hC.kp d10 ?_ ?_<;>simp[fF]
         ·simp[oe8,fF]
          refine hC.kp d21 ?_ ?_<;>simp[fF]
         ·simp[oe9,fF]
          refine hC.kp d23 ?_ ?_<;>simp[fF]
        have d26:C 7 (bvA 14 239) ⟨faB h.length H.length zs i x++[(69,.al (.cell bw 3)),(73,.pv (.ptr bw 3))],H6⟩:=by
         refine hC.fork [(4,(bvA 14 255)),(8,(bvA 14 495)),(9,(bvA 14 751)),(11,(bvA 14 2287))] ?_ ⟨?_,?_,?_,?_,trivial⟩
         ·kernel_rfl
         ·simp[oe4,fF]
          refine hC.kp d11 ?_ ?_<;>simp[fF]
         ·simp[oe8,fF]
          refine hC.kp d22 ?_ ?_<;>simp[fF]
         ·simp[oe9,fF]
          refine hC.kp d24 ?_ ?_<;>simp[fF]
         ·simp[oe11,fF]
          refine hC.kp d25 ?_ ?_<;>simp[fF]
        have d27:C 8 (bvA 14 2575) ⟨faB h.length H.length zs i x++[(69,.al (.cell bw 3)),(75,.pv (I64 l)),(77,.pv (.fn (.func 140) [] [.ptr H.length 0]))],H6⟩:=by
         refine hC.fork [(4,(bvA 14 2591)),(5,(bvA 14 2607))] ?_ ⟨?_,?_,trivial⟩
         ·kernel_rfl
         ·simp[oe4,fF]
          refine hC.kp d12 ?_ ?_<;>simp[fF]
         ·simp[oe5,fF]
          refine hC.take 6 (bvA 14 2671) ?_ ?_
          ·kernel_rfl
          simp[oe6,fF]
          refine hC.take 7 (bvA 14 2799) ?_ ?_
          ·kernel_rfl
          simp[oe7,fF]
          refine hC.kp d23 ?_ ?_<;>simp[fF]
        have d28:C 9 (bvA 14 527) ⟨faB h.length H.length zs i x++[(69,.al (.cell bw 3)),(75,.pv (I64 l))],H6⟩:=by
         refine hC.fork [(4,(bvA 14 543)),(5,(bvA 14 559)),(11,(bvA 14 2575))] ?_ ⟨?_,?_,?_,trivial⟩
         ·kernel_rfl
         ·simp[oe4,fF]
          refine hC.kp d13 ?_ ?_<;>simp[fF]
         ·simp[oe5,fF]
          refine hC.take 6 (bvA 14 623) ?_ ?_
          ·kernel_rfl
          simp[oe6,fF]
          refine hC.take 7 (bvA 14 751) ?_ ?_
          ·kernel_rfl
          simp[oe7,fF]
          refine hC.kp d24 ?_ ?_<;>simp[fF]
         ·simp[oe11,fF]
          refine hC.kp d27 ?_ ?_<;>simp[fF]
        have d29:C 9 (bvA 14 2063) ⟨faB h.length H.length zs i x++[(69,.al (.cell bw 3)),(77,.pv (.fn (.func 140) [] [.ptr H.length 0]))],H6⟩:=by
         refine hC.fork [(4,(bvA 14 2079)),(5,(bvA 14 2095)),(9,(bvA 14 2575))] ?_ ⟨?_,?_,?_,trivial⟩
         ·kernel_rfl
         ·simp[oe4,fF]
          refine hC.kp d14 ?_ ?_<;>simp[fF]
         ·simp[oe5,fF]
          refine hC.take 6 (bvA 14 2159) ?_ ?_
          ·kernel_rfl
          simp[oe6,fF]
          refine hC.take 7 (bvA 14 2287) ?_ ?_
          ·kernel_rfl
          simp[oe7,fF]
          refine hC.kp d25 ?_ ?_<;>simp[fF]
         ·simp[oe9,fF]
          refine hC.kp d27 ?_ ?_<;>simp[fF]
        have d30:C 10 (bvA 14 15) ⟨faB h.length H.length zs i x++[(69,.al (.cell bw 3))],H6⟩:=by
         refine hC.fork [(4,(bvA 14 31)),(5,(bvA 14 47)),(9,(bvA 14 527)),(11,(bvA 14 2063))] ?_ ⟨?_,?_,?_,?_,trivial⟩
         ·kernel_rfl
         ·simp[oe4,fF]
          refine hC.kp d15 ?_ ?_<;>simp[fF]
         ·simp[oe5,fF]
          refine hC.take 6 (bvA 14 111) ?_ ?_
          ·kernel_rfl
          simp[oe6,fF]
          refine hC.take 7 (bvA 14 239) ?_ ?_
          ·kernel_rfl
          simp[oe7,fF]
          refine hC.kp d26 ?_ ?_<;>simp[fF]
         ·simp[oe9,fF]
          refine hC.kp d28 ?_ ?_<;>simp[fF]
         ·simp[oe11,fF]
          refine hC.kp d29 ?_ ?_<;>simp[fF]
        have d31:C 2 (bvA 14 8183) ⟨faB h.length H.length zs i x++[(68,.pv (.ptr bw 3)),(70,.pv (I64 l)),(78,.pv (.bsl ey.b 1 0 Z9.length ey.cp))],H7a⟩:=by
         refine hC.fork [(3,(bvA 14 8191))] ?_ ⟨?_,trivial⟩
         ·kernel_rfl
         ·simp[oe3,fF]
          refine hC.kp d1 ?_ ?_<;>simp[fF]
        have d32:C 3 (bvA 14 4087) ⟨faB h.length H.length zs i x++[(68,.pv (.ptr bw 3)),(70,.pv (I64 l)),(76,.pv (.bsl ey.b 1 0 ey.n ey.cp)),(77,.pv (.fn (.func 140) [] [.ptr H.length 0]))],H6⟩:=by
         refine hC.fork [(3,(bvA 14 4095)),(12,(bvA 14 8183))] ?_ ⟨?_,?_,trivial⟩
         ·kernel_rfl
         ·simp[oe3,fF]
          refine hC.kp d2 ?_ ?_<;>simp[fF]
         ·simp[oe12,fF]
          refine CallB.introX (CallX.introT (b:=ey.b) (b2:=H.length) (zs:=z9) (sp:=sp9) (cp:=ey.cp) hD9 (by simp) (by simp) rfl (by simp) (by simp[ey3]) (by simp) (by simp) ey1 hk6? hbox hpos9 hzl9 ?_)
          rintro _ _ ⟨rfl,rfl⟩
          refine⟨_,_,rfl,rfl,by simp;omega,hDl9,?_⟩
          rw[←hX9,←hH7a]
          simp[ey6,ey6.symm,qCells,faB]
          refine hC.kp d31 ?_ ?_<;>simp[fF]
        have d33:C 4 (bvA 14 2039) ⟨faB h.length H.length zs i x++[(68,.pv (.ptr bw 3)),(70,.pv (I64 l)),(76,.pv (.bsl ey.b 1 0 ey.n ey.cp))],H6⟩:=by
         refine hC.fork [(3,(bvA 14 2047)),(11,(bvA 14 4087))] ?_ ⟨?_,?_,trivial⟩
         ·kernel_rfl
         ·simp[oe3,fF]
          refine hC.kp d3 ?_ ?_<;>simp[fF]
         ·simp[oe11,fF]
          refine hC.kp d32 ?_ ?_<;>simp[fF]
        have d34:C 4 (bvA 14 3063) ⟨faB h.length H.length zs i x++[(68,.pv (.ptr bw 3)),(70,.pv (I64 l)),(74,.al (.cell bw 3)),(75,.pv (I64 l)),(77,.pv (.fn (.func 140) [] [.ptr H.length 0]))],H6⟩:=by
         refine hC.fork [(3,(bvA 14 3071)),(10,(bvA 14 4087))] ?_ ⟨?_,?_,trivial⟩
         ·kernel_rfl
         ·simp[oe3,fF]
          refine hC.kp d4 ?_ ?_<;>simp[fF]
         ·simp[oe10,fF]
          refine hC.kp d32 ?_ ?_<;>simp[fF]
        have d35:C 5 (bvA 14 1015) ⟨faB h.length H.length zs i x++[(68,.pv (.ptr bw 3)),(70,.pv (I64 l)),(74,.al (.cell bw 3)),(75,.pv (I64 l))],H6⟩:=by
         refine hC.fork [(3,(bvA 14 1023)),(10,(bvA 14 2039)),(11,(bvA 14 3063))] ?_ ⟨?_,?_,?_,trivial⟩
         ·kernel_rfl
         ·simp[oe3,fF]
          refine hC.kp d5 ?_ ?_<;>simp[fF]
         ·simp[oe10,fF]
          refine hC.kp d33 ?_ ?_<;>simp[fF]
         ·simp[oe11,fF]
          refine hC.kp d34 ?_ ?_<;>simp[fF]
        have d36:C 5 (bvA 14 2551) ⟨faB h.length H.length zs i x++[(68,.pv (.ptr bw 3)),(70,.pv (I64 l)),(74,.al (.cell bw 3)),(77,.pv (.fn (.func 140) [] [.ptr H.length 0]))],H6⟩:=by
         refine hC.fork [(3,(bvA 14 2559)),(9,(bvA 14 3063))] ?_ ⟨?_,?_,trivial⟩
         ·kernel_rfl
         ·simp[oe3,fF]
          refine hC.kp d6 ?_ ?_<;>simp[fF]
         ·simp[oe9,fF]
          refine hC.kp d34 ?_ ?_<;>simp[fF]
        have d37:C 6 (bvA 14 503) ⟨faB h.length H.length zs i x++[(68,.pv (.ptr bw 3)),(70,.pv (I64 l)),(74,.al (.cell bw 3))],H6⟩:=by
         refine hC.fork [(3,(bvA 14 511)),(9,(bvA 14 1015)),(11,(bvA 14 2551))] ?_ ⟨?_,?_,?_,trivial⟩
         ·kernel_rfl
         ·simp[oe3,fF]
          refine hC.kp d7 ?_ ?_<;>simp[fF]
         ·simp[oe9,fF]
          refine hC.kp d35 ?_ ?_<;>simp[fF]
         ·simp[oe11,fF]
          refine hC.kp d36 ?_ ?_<;>simp[fF]
        have d38:C 5 (bvA 14 2807) ⟨faB h.length H.length zs i x++[(68,.pv (.ptr bw 3)),(70,.pv (I64 l)),(73,.pv (.ptr bw 3)),(75,.pv (I64 l)),(77,.pv (.fn (.func 140) [] [.ptr H.length 0]))],H6⟩:=by
         refine hC.fork [(3,(bvA 14 2815)),(8,(bvA 14 3063))] ?_ ⟨?_,?_,trivial⟩
         ·kernel_rfl
         ·simp[oe3,fF]
          refine hC.kp d8 ?_ ?_<;>simp[fF]
         ·simp[oe8,fF]
          refine hC.kp d34 ?_ ?_<;>simp[fF]
        have d39:C 6 (bvA 14 759) ⟨faB h.length H.length zs i x++[(68,.pv (.ptr bw 3)),(70,.pv (I64 l)),(73,.pv (.ptr bw 3)),(75,.pv (I64 l))],H6⟩:=by
         refine hC.fork [(3,(bvA 14 767)),(8,(bvA 14 1015)),(11,(bvA 14 2807))] ?_ ⟨?_,?_,?_,trivial⟩
         ·kernel_rfl
         ·simp[oe3,fF]
          refine hC.kp d9 ?_ ?_<;>simp[fF]
         ·simp[oe8,fF]
          refine hC.kp d35 ?_ ?_<;>simp[fF]
         ·simp[oe11,fF]
          refine hC.kp d38 ?_ ?_<;>simp[fF]
        have d40:C 6 (bvA 14 2295) ⟨faB h.length H.length zs i x++[(68,.pv (.ptr bw 3)),(70,.pv (I64 l)),(73,.pv (.ptr bw 3)),(77,.pv (.fn (.func 140) [] [.ptr H.length 0]))],H6⟩:=by
         refine hC.fork [(3,(bvA 14 2303)),(8,(bvA 14 2551)),(9,(bvA 14 2807))] ?_ ⟨?_,?_,?_,trivial⟩
         ·kernel_rfl
         ·simp[oe3,fF]
          refine hC.kp d10 ?_ ?_<;>simp[fF]
         ·simp[oe8,fF]
          refine hC.kp d36 ?_ ?_<;>simp[fF]
         ·simp[oe9,fF]
          refine hC.kp d38 ?_ ?_<;>simp[fF]
        have d41:C 7 (bvA 14 247) ⟨faB h.length H.length zs i x++[(68,.pv (.ptr bw 3)),(70,.pv (I64 l)),(73,.pv (.ptr bw 3))],H6⟩:=by
         refine hC.fork [(3,(bvA 14 255)),(8,(bvA 14 503)),(9,(bvA 14 759)),(11,(bvA 14 2295))] ?_ ⟨?_,?_,?_,?_,trivial⟩
         ·kernel_rfl
         ·simp[oe3,fF]
          refine hC.kp d11 ?_ ?_<;>simp[fF]
         ·simp[oe8,fF]
          refine hC.kp d37 ?_ ?_<;>simp[fF]
         ·simp[oe9,fF]
          refine hC.kp d39 ?_ ?_<;>simp[fF]
         ·simp[oe11,fF]
          refine hC.kp d40 ?_ ?_<;>simp[fF]
        have d42:C 8 (bvA 14 2583) ⟨faB h.length H.length zs i x++[(68,.pv (.ptr bw 3)),(70,.pv (I64 l)),(75,.pv (I64 l)),(77,.pv (.fn (.func 140) [] [.ptr H.length 0]))],H6⟩:=by
         refine hC.fork [(3,(bvA 14 2591)),(5,(bvA 14 2615))] ?_ ⟨?_,?_,trivial⟩
         ·kernel_rfl
         ·simp[oe3,fF]
          refine hC.kp d12 ?_ ?_<;>simp[fF]
         ·simp[oe5,fF]
          refine hC.take 6 (bvA 14 2679) ?_ ?_
          ·kernel_rfl
          simp[oe6,fF]
          refine hC.take 7 (bvA 14 2807) ?_ ?_
          ·kernel_rfl
          simp[oe7,fF]
          refine hC.kp d38 ?_ ?_<;>simp[fF]
        have d43:C 9 (bvA 14 535) ⟨faB h.length H.length zs i x++[(68,.pv (.ptr bw 3)),(70,.pv (I64 l)),(75,.pv (I64 l))],H6⟩:=by
         refine hC.fork [(3,(bvA 14 543)),(5,(bvA 14 567)),(11,(bvA 14 2583))] ?_ ⟨?_,?_,?_,trivial⟩
         ·kernel_rfl
         ·simp[oe3,fF]
          refine hC.kp d13 ?_ ?_<;>simp[fF]
         ·simp[oe5,fF]
          refine hC.take 6 (bvA 14 631) ?_ ?_
          ·kernel_rfl
          simp[oe6,fF]
          refine hC.take 7 (bvA 14 759) ?_ ?_
          ·kernel_rfl
          simp[oe7,fF]
          refine hC.kp d39 ?_ ?_<;>simp[fF]
         ·simp[oe11,fF]
          refine hC.kp d42 ?_ ?_<;>simp[fF]
        have d44:C 9 (bvA 14 2071) ⟨faB h.length H.length zs i x++[(68,.pv (.ptr bw 3)),(70,.pv (I64 l)),(77,.pv (.fn (.func 140) [] [.ptr H.length 0]))],H6⟩:=by
         refine hC.fork [(3,(bvA 14 2079)),(5,(bvA 14 2103)),(9,(bvA 14 2583))] ?_ ⟨?_,?_,?_,trivial⟩
         ·kernel_rfl
         ·simp[oe3,fF]
          refine hC.kp d14 ?_ ?_<;>simp[fF]
         ·simp[oe5,fF]
          refine hC.take 6 (bvA 14 2167) ?_ ?_
          ·kernel_rfl
          simp[oe6,fF]
          refine hC.take 7 (bvA 14 2295) ?_ ?_
          ·kernel_rfl
          simp[oe7,fF]
          refine hC.kp d40 ?_ ?_<;>simp[fF]
         ·simp[oe9,fF]
          refine hC.kp d42 ?_ ?_<;>simp[fF]
        have d45:C 10 (bvA 14 23) ⟨faB h.length H.length zs i x++[(68,.pv (.ptr bw 3)),(70,.pv (I64 l))],H6⟩:=by
         refine hC.fork [(3,(bvA 14 31)),(5,(bvA 14 55)),(9,(bvA 14 535)),(11,(bvA 14 2071))] ?_ ⟨?_,?_,?_,?_,trivial⟩
         ·kernel_rfl
         ·simp[oe3,fF]
          refine hC.kp d15 ?_ ?_<;>simp[fF]
         ·simp[oe5,fF]
          refine hC.take 6 (bvA 14 119) ?_ ?_
          ·kernel_rfl
          simp[oe6,fF]
          refine hC.take 7 (bvA 14 247) ?_ ?_
          ·kernel_rfl
          simp[oe7,fF]
          refine hC.kp d41 ?_ ?_<;>simp[fF]
         ·simp[oe9,fF]
          refine hC.kp d43 ?_ ?_<;>simp[fF]
         ·simp[oe11,fF]
          refine hC.kp d44 ?_ ?_<;>simp[fF]
        have d46:C 3 (bvA 14 8167) ⟨faB h.length H.length zs i x++[(68,.pv (.ptr bw 3)),(78,.pv (.bsl ey.b 1 0 Z9.length ey.cp))],H7a⟩:=by
         refine hC.fork [(3,(bvA 14 8175)),(4,(bvA 14 8183))] ?_ ⟨?_,?_,trivial⟩
         ·kernel_rfl
         ·simp[oe3,fF]
          refine hC.kp d16 ?_ ?_<;>simp[fF]
         ·simp[oe4,fF]
          refine hC.kp d31 ?_ ?_<;>simp[fF]
        have d47:C 4 (bvA 14 4071) ⟨faB h.length H.length zs i x++[(68,.pv (.ptr bw 3)),(76,.pv (.bsl ey.b 1 0 ey.n ey.cp)),(77,.pv (.fn (.func 140) [] [.ptr H.length 0]))],H6⟩:=by
         refine hC.fork [(3,(bvA 14 4079)),(4,(bvA 14 4087)),(12,(bvA 14 8167))] ?_ ⟨?_,?_,?_,trivial⟩
         ·kernel_rfl
         ·simp[oe3,fF]
          refine hC.kp d17 ?_ ?_<;>simp[fF]
         ·simp[oe4,fF]
          refine hC.kp d32 ?_ ?_<;>simp[fF]
         ·simp[oe12,fF]
          refine CallB.introX (CallX.introT (b:=ey.b) (b2:=H.length) (zs:=z9) (sp:=sp9) (cp:=ey.cp) hD9 (by simp) (by simp) rfl (by simp) (by simp[ey3]) (by simp) (by simp) ey1 hk6? hbox hpos9 hzl9 ?_)
          rintro _ _ ⟨rfl,rfl⟩
          refine⟨_,_,rfl,rfl,by simp;omega,hDl9,?_⟩
          rw[←hX9,←hH7a]
          simp[ey6,ey6.symm,qCells,faB]
          refine hC.kp d46 ?_ ?_<;>simp[fF]
        have d48:C 5 (bvA 14 2023) ⟨faB h.length H.length zs i x++[(68,.pv (.ptr bw 3)),(76,.pv (.bsl ey.b 1 0 ey.n ey.cp))],H6⟩:=by
         refine hC.fork [(3,(bvA 14 2031)),(4,(bvA 14 2039)),(11,(bvA 14 4071))] ?_ ⟨?_,?_,?_,trivial⟩
         ·kernel_rfl
         ·simp[oe3,fF]
          refine hC.kp d18 ?_ ?_<;>simp[fF]
         ·simp[oe4,fF]
          refine hC.kp d33 ?_ ?_<;>simp[fF]
         ·simp[oe11,fF]
          refine hC.kp d47 ?_ ?_<;>simp[fF]
        have d49:C 5 (bvA 14 3047) ⟨faB h.length H.length zs i x++[(68,.pv (.ptr bw 3)),(74,.al (.cell bw 3)),(75,.pv (I64 l)),(77,.pv (.fn (.func 140) [] [.ptr H.length 0]))],H6⟩:=by
         refine hC.fork [(3,(bvA 14 3055)),(4,(bvA 14 3063)),(10,(bvA 14 4071))] ?_ ⟨?_,?_,?_,trivial⟩
         ·kernel_rfl
         ·simp[oe3,fF]
          refine hC.kp d19 ?_ ?_<;>simp[fF]
         ·simp[oe4,fF]
          refine hC.kp d34 ?_ ?_<;>simp[fF]
         ·simp[oe10,fF]
          refine hC.kp d47 ?_ ?_<;>simp[fF]
        have d50:C 6 (bvA 14 999) ⟨faB h.length H.length zs i x++[(68,.pv (.ptr bw 3)),(74,.al (.cell bw 3)),(75,.pv (I64 l))],H6⟩:=by
         refine hC.fork [(3,(bvA 14 1007)),(4,(bvA 14 1015)),(10,(bvA 14 2023)),(11,(bvA 14 3047))] ?_ ⟨?_,?_,?_,?_,trivial⟩
         ·kernel_rfl
         ·simp[oe3,fF]
          refine hC.kp d20 ?_ ?_<;>simp[fF]
         ·simp[oe4,fF]
          refine hC.kp d35 ?_ ?_<;>simp[fF]
         ·simp[oe10,fF]
          refine hC.kp d48 ?_ ?_<;>simp[fF]
         ·simp[oe11,fF]
          refine hC.kp d49 ?_ ?_<;>simp[fF]
        have d51:C 6 (bvA 14 2535) ⟨faB h.length H.length zs i x++[(68,.pv (.ptr bw 3)),(74,.al (.cell bw 3)),(77,.pv (.fn (.func 140) [] [.ptr H.length 0]))],H6⟩:=by
         refine hC.fork [(3,(bvA 14 2543)),(4,(bvA 14 2551)),(9,(bvA 14 3047))] ?_ ⟨?_,?_,?_,trivial⟩
         ·kernel_rfl
         ·simp[oe3,fF]
          refine hC.kp d21 ?_ ?_<;>simp[fF]
         ·simp[oe4,fF]
          refine hC.kp d36 ?_ ?_<;>simp[fF]
         ·simp[oe9,fF]
          refine hC.kp d49 ?_ ?_<;>simp[fF]
        have d52:C 7 (bvA 14 487) ⟨faB h.length H.length zs i x++[(68,.pv (.ptr bw 3)),(74,.al (.cell bw 3))],H6⟩:=by
         refine hC.fork [(3,(bvA 14 495)),(4,(bvA 14 503)),(9,(bvA 14 999)),(11,(bvA 14 2535))] ?_ ⟨?_,?_,?_,?_,trivial⟩
         ·kernel_rfl
         ·simp[oe3,fF]
          refine hC.kp d22 ?_ ?_<;>simp[fF]
         ·simp[oe4,fF]
          refine hC.kp d37 ?_ ?_<;>simp[fF]
         ·simp[oe9,fF]
          refine hC.kp d50 ?_ ?_<;>simp[fF]
         ·simp[oe11,fF]
          refine hC.kp d51 ?_ ?_<;>simp[fF]
        have d53:C 6 (bvA 14 2791) ⟨faB h.length H.length zs i x++[(68,.pv (.ptr bw 3)),(73,.pv (.ptr bw 3)),(75,.pv (I64 l)),(77,.pv (.fn (.func 140) [] [.ptr H.length 0]))],H6⟩:=by
         refine hC.fork [(3,(bvA 14 2799)),(4,(bvA 14 2807)),(8,(bvA 14 3047))] ?_ ⟨?_,?_,?_,trivial⟩
         ·kernel_rfl
         ·simp[oe3,fF]
          refine hC.kp d23 ?_ ?_<;>simp[fF]
         ·simp[oe4,fF]
          refine hC.kp d38 ?_ ?_<;>simp[fF]
         ·simp[oe8,fF]
          refine hC.kp d49 ?_ ?_<;>simp[fF]
        have d54:C 7 (bvA 14 743) ⟨faB h.length H.length zs i x++[(68,.pv (.ptr bw 3)),(73,.pv (.ptr bw 3)),(75,.pv (I64 l))],H6⟩:=by
         refine hC.fork [(3,(bvA 14 751)),(4,(bvA 14 759)),(8,(bvA 14 999)),(11,(bvA 14 2791))] ?_ ⟨?_,?_,?_,?_,trivial⟩
         ·kernel_rfl
         ·simp[oe3,fF]
          refine hC.kp d24 ?_ ?_<;>simp[fF]
         ·simp[oe4,fF]
          refine hC.kp d39 ?_ ?_<;>simp[fF]
         ·simp[oe8,fF]
          refine hC.kp d50 ?_ ?_<;>simp[fF]
         ·simp[oe11,fF]
          refine hC.kp d53 ?_ ?_<;>simp[fF]
        have d55:C 7 (bvA 14 2279) ⟨faB h.length H.length zs i x++[(68,.pv (.ptr bw 3)),(73,.pv (.ptr bw 3)),(77,.pv (.fn (.func 140) [] [.ptr H.length 0]))],H6⟩:=by
         refine hC.fork [(3,(bvA 14 2287)),(4,(bvA 14 2295)),(8,(bvA 14 2535)),(9,(bvA 14 2791))] ?_ ⟨?_,?_,?_,?_,trivial⟩
         ·kernel_rfl
         ·simp[oe3,fF]
          refine hC.kp d25 ?_ ?_<;>simp[fF]
         ·simp[oe4,fF]
          refine hC.kp d40 ?_ ?_<;>simp[fF]
         ·simp[oe8,fF]
          refine hC.kp d51 ?_ ?_<;>simp[fF]
         ·simp[oe9,fF]
          refine hC.kp d53 ?_ ?_<;>simp[fF]
        have d56:C 8 (bvA 14 231) ⟨faB h.length H.length zs i x++[(68,.pv (.ptr bw 3)),(73,.pv (.ptr bw 3))],H6⟩:=by
         refine hC.fork [(3,(bvA 14 239)),(4,(bvA 14 247)),(8,(bvA 14 487)),(9,(bvA 14 743)),(11,(bvA 14 2279))] ?_ ⟨?_,?_,?_,?_,?_,trivial⟩
         ·kernel_rfl
         ·simp[oe3,fF]
          refine hC.kp d26 ?_ ?_<;>simp[fF]
         ·simp[oe4,fF]
          refine hC.kp d41 ?_ ?_<;>simp[fF]
         ·simp[oe8,fF]
          refine hC.kp d52 ?_ ?_<;>simp[fF]
         ·simp[oe9,fF]
          refine hC.kp d54 ?_ ?_<;>simp[fF]
         ·simp[oe11,fF]
          refine hC.kp d55 ?_ ?_<;>simp[fF]
        have d57:C 9 (bvA 14 2567) ⟨faB h.length H.length zs i x++[(68,.pv (.ptr bw 3)),(75,.pv (I64 l)),(77,.pv (.fn (.func 140) [] [.ptr H.length 0]))],H6⟩:=by
         refine hC.fork [(3,(bvA 14 2575)),(4,(bvA 14 2583)),(5,(bvA 14 2599))] ?_ ⟨?_,?_,?_,trivial⟩
         ·kernel_rfl
         ·simp[oe3,fF]
          refine hC.kp d27 ?_ ?_<;>simp[fF]
         ·simp[oe4,fF]
          refine hC.kp d42 ?_ ?_<;>simp[fF]
         ·simp[oe5,fF]
          refine hC.take 6 (bvA 14 2663) ?_ ?_
          ·kernel_rfl
          simp[oe6,fF]
          refine hC.take 7 (bvA 14 2791) ?_ ?_
          ·kernel_rfl
          simp[oe7,fF]
          refine hC.kp d53 ?_ ?_<;>simp[fF]
        have d58:C 10 (bvA 14 519) ⟨faB h.length H.length zs i x++[(68,.pv (.ptr bw 3)),(75,.pv (I64 l))],H6⟩:=by
         refine hC.fork [(3,(bvA 14 527)),(4,(bvA 14 535)),(5,(bvA 14 551)),(11,(bvA 14 2567))] ?_ ⟨?_,?_,?_,?_,trivial⟩
         ·kernel_rfl
         ·simp[oe3,fF]
          refine hC.kp d28 ?_ ?_<;>simp[fF]
         ·simp[oe4,fF]
          refine hC.kp d43 ?_ ?_<;>simp[fF]
         ·simp[oe5,fF]
          refine hC.take 6 (bvA 14 615) ?_ ?_
          ·kernel_rfl
          simp[oe6,fF]
          refine hC.take 7 (bvA 14 743) ?_ ?_
          ·kernel_rfl
          simp[oe7,fF]
          refine hC.kp d54 ?_ ?_<;>simp[fF]
         ·simp[oe11,fF]
          refine hC.kp d57 ?_ ?_<;>simp[fF]
        have d59:C 10 (bvA 14 2055) ⟨faB h.length H.length zs i x++[(68,.pv (.ptr bw 3)),(77,.pv (.fn (.func 140) [] [.ptr H.length 0]))],H6⟩:=by
         refine hC.fork [(3,(bvA 14 2063)),(4,(bvA 14 2071)),(5,(bvA 14 2087)),(9,(bvA 14 2567))] ?_ ⟨?_,?_,?_,?_,trivial⟩
         ·kernel_rfl
         ·simp[oe3,fF]
          refine hC.kp d29 ?_ ?_<;>simp[fF]
         ·simp[oe4,fF]
          refine hC.kp d44 ?_ ?_<;>simp[fF]
         ·simp[oe5,fF]
          refine hC.take 6 (bvA 14 2151) ?_ ?_
          ·kernel_rfl
          simp[oe6,fF]
          refine hC.take 7 (bvA 14 2279) ?_ ?_
          ·kernel_rfl
          simp[oe7,fF]
          refine hC.kp d55 ?_ ?_<;>simp[fF]
         ·simp[oe9,fF]
          refine hC.kp d57 ?_ ?_<;>simp[fF]
        have d60:C 11 (bvA 14 7) ⟨faB h.length H.length zs i x++[(68,.pv (.ptr bw 3))],H6⟩:=by
         refine hC.fork [(3,(bvA 14 15)),(4,(bvA 14 23)),(5,(bvA 14 39)),(9,(bvA 14 519)),(11,(bvA 14 2055))] ?_ ⟨?_,?_,?_,?_,?_,trivial⟩
         ·kernel_rfl
         ·simp[oe3,fF]
          refine hC.kp d30 ?_ ?_<;>simp[fF]
         ·simp[oe4,fF]
          refine hC.kp d45 ?_ ?_<;>simp[fF]
         ·simp[oe5,fF]
          refine hC.take 6 (bvA 14 103) ?_ ?_
          ·kernel_rfl
          simp[oe6,fF]
          refine hC.take 7 (bvA 14 231) ?_ ?_
          ·kernel_rfl
          simp[oe7,fF]
          refine hC.kp d56 ?_ ?_<;>simp[fF]
         ·simp[oe9,fF]
          refine hC.kp d58 ?_ ?_<;>simp[fF]
         ·simp[oe11,fF]
          refine hC.kp d59 ?_ ?_<;>simp[fF]
        have d61:C 5 (bvA 14 8176) ⟨faB h.length H.length zs i x++[(70,.pv (I64 l)),(78,.pv (.bsl ey.b 1 0 Z9.length ey.cp))],H7a⟩:=by
         refine hC.fork [(0,(bvA 14 8177))] ?_ ⟨?_,trivial⟩
         ·kernel_rfl
         ·simp[oe0,fF]
          refine hC.take 1 (bvA 14 8179) ?_ ?_
          ·kernel_rfl
          simp[oe1,fF]
          refine hC.take 2 (bvA 14 8183) ?_ ?_
          ·kernel_rfl
          simp[oe2,fF]
          refine hC.kp d31 ?_ ?_<;>simp[fF]
        have d62:C 6 (bvA 14 4080) ⟨faB h.length H.length zs i x++[(70,.pv (I64 l)),(76,.pv (.bsl ey.b 1 0 ey.n ey.cp)),(77,.pv (.fn (.func 140) [] [.ptr H.length 0]))],H6⟩:=by
         refine hC.fork [(0,(bvA 14 4081)),(12,(bvA 14 8176))] ?_ ⟨?_,?_,trivial⟩
         ·kernel_rfl
         ·simp[oe0,fF]
          refine hC.take 1 (bvA 14 4083) ?_ ?_
          ·kernel_rfl
          simp[oe1,fF]
          refine hC.take 2 (bvA 14 4087) ?_ ?_
          ·kernel_rfl
          simp[oe2,fF]
          refine hC.kp d32 ?_ ?_<;>simp[fF]
         ·simp[oe12,fF]
          refine CallB.introX (CallX.introT (b:=ey.b) (b2:=H.length) (zs:=z9) (sp:=sp9) (cp:=ey.cp) hD9 (by simp) (by simp) rfl (by simp) (by simp[ey3]) (by simp) (by simp) ey1 hk6? hbox hpos9 hzl9 ?_)
          rintro _ _ ⟨rfl,rfl⟩
          refine⟨_,_,rfl,rfl,by simp;omega,hDl9,?_⟩
          rw[←hX9,←hH7a]
          simp[ey6,ey6.symm,qCells,faB]
          refine hC.kp d61 ?_ ?_<;>simp[fF]
        have d63:C 7 (bvA 14 2032) ⟨faB h.length H.length zs i x++[(70,.pv (I64 l)),(76,.pv (.bsl ey.b 1 0 ey.n ey.cp))],H6⟩:=by
         refine hC.fork [(0,(bvA 14 2033)),(11,(bvA 14 4080))] ?_ ⟨?_,?_,trivial⟩
         ·kernel_rfl
         ·simp[oe0,fF]
          refine hC.take 1 (bvA 14 2035) ?_ ?_
          ·kernel_rfl
          simp[oe1,fF]
          refine hC.take 2 (bvA 14 2039) ?_ ?_
          ·kernel_rfl
          simp[oe2,fF]
          refine hC.kp d33 ?_ ?_<;>simp[fF]
         ·simp[oe11,fF]
          refine hC.kp d62 ?_ ?_<;>simp[fF]
        have d64:C 7 (bvA 14 3056) ⟨faB h.length H.length zs i x++[(70,.pv (I64 l)),(74,.al (.cell bw 3)),(75,.pv (I64 l)),(77,.pv (.fn (.func 140) [] [.ptr H.length 0]))],H6⟩:=by
         refine hC.fork [(0,(bvA 14 3057)),(10,(bvA 14 4080))] ?_ ⟨?_,?_,trivial⟩
         ·kernel_rfl
         ·simp[oe0,fF]
          refine hC.take 1 (bvA 14 3059) ?_ ?_
          ·kernel_rfl
          simp[oe1,fF]
          refine hC.take 2 (bvA 14 3063) ?_ ?_
          ·kernel_rfl
          simp[oe2,fF]
          refine hC.kp d34 ?_ ?_<;>simp[fF]
         ·simp[oe10,fF]
          refine hC.kp d62 ?_ ?_<;>simp[fF]
        have d65:C 8 (bvA 14 1008) ⟨faB h.length H.length zs i x++[(70,.pv (I64 l)),(74,.al (.cell bw 3)),(75,.pv (I64 l))],H6⟩:=by
         refine hC.fork [(0,(bvA 14 1009)),(10,(bvA 14 2032)),(11,(bvA 14 3056))] ?_ ⟨?_,?_,?_,trivial⟩
         ·kernel_rfl
         ·simp[oe0,fF]
          refine hC.take 1 (bvA 14 1011) ?_ ?_
          ·kernel_rfl
          simp[oe1,fF]
          refine hC.take 2 (bvA 14 1015) ?_ ?_
          ·kernel_rfl
          simp[oe2,fF]
          refine hC.kp d35 ?_ ?_<;>simp[fF]
         ·simp[oe10,fF]
          refine hC.kp d63 ?_ ?_<;>simp[fF]
         ·simp[oe11,fF]
          refine hC.kp d64 ?_ ?_<;>simp[fF]
        have d66:C 8 (bvA 14 2544) ⟨faB h.length H.length zs i x++[(70,.pv (I64 l)),(74,.al (.cell bw 3)),(77,.pv (.fn (.func 140) [] [.ptr H.length 0]))],H6⟩:=by
         refine hC.fork [(0,(bvA 14 2545)),(9,(bvA 14 3056))] ?_ ⟨?_,?_,trivial⟩
         ·kernel_rfl
         ·simp[oe0,fF]
          refine hC.take 1 (bvA 14 2547) ?_ ?_
          ·kernel_rfl
          simp[oe1,fF]
          refine hC.take 2 (bvA 14 2551) ?_ ?_
          ·kernel_rfl
          simp[oe2,fF]
          refine hC.kp d36 ?_ ?_<;>simp[fF]
         ·simp[oe9,fF]
          refine hC.kp d64 ?_ ?_<;>simp[fF]
        have d67:C 9 (bvA 14 496) ⟨faB h.length H.length zs i x++[(70,.pv (I64 l)),(74,.al (.cell bw 3))],H6⟩:=by
         refine hC.fork [(0,(bvA 14 497)),(9,(bvA 14 1008)),(11,(bvA 14 2544))] ?_ ⟨?_,?_,?_,trivial⟩
         ·kernel_rfl
         ·simp[oe0,fF]
          refine hC.take 1 (bvA 14 499) ?_ ?_
          ·kernel_rfl
          simp[oe1,fF]
          refine hC.take 2 (bvA 14 503) ?_ ?_
          ·kernel_rfl
          simp[oe2,fF]
          refine hC.kp d37 ?_ ?_<;>simp[fF]
         ·simp[oe9,fF]
          refine hC.kp d65 ?_ ?_<;>simp[fF]
         ·simp[oe11,fF]
          refine hC.kp d66 ?_ ?_<;>simp[fF]
        have d68:C 8 (bvA 14 2800) ⟨faB h.length H.length zs i x++[(70,.pv (I64 l)),(73,.pv (.ptr bw 3)),(75,.pv (I64 l)),(77,.pv (.fn (.func 140) [] [.ptr H.length 0]))],H6⟩:=by
         refine hC.fork [(0,(bvA 14 2801)),(8,(bvA 14 3056))] ?_ ⟨?_,?_,trivial⟩
         ·kernel_rfl
         ·simp[oe0,fF]
          refine hC.take 1 (bvA 14 2803) ?_ ?_
          ·kernel_rfl
          simp[oe1,fF]
          refine hC.take 2 (bvA 14 2807) ?_ ?_
          ·kernel_rfl
          simp[oe2,fF]
          refine hC.kp d38 ?_ ?_<;>simp[fF]
         ·simp[oe8,fF]
          refine hC.kp d64 ?_ ?_<;>simp[fF]
        have d69:C 9 (bvA 14 752) ⟨faB h.length H.length zs i x++[(70,.pv (I64 l)),(73,.pv (.ptr bw 3)),(75,.pv (I64 l))],H6⟩:=by
         refine hC.fork [(0,(bvA 14 753)),(8,(bvA 14 1008)),(11,(bvA 14 2800))] ?_ ⟨?_,?_,?_,trivial⟩
         ·kernel_rfl
         ·simp[oe0,fF]
          refine hC.take 1 (bvA 14 755) ?_ ?_
          ·kernel_rfl
          simp[oe1,fF]
          refine hC.take 2 (bvA 14 759) ?_ ?_
          ·kernel_rfl
          simp[oe2,fF]
          refine hC.kp d39 ?_ ?_<;>simp[fF]
         ·simp[oe8,fF]
          refine hC.kp d65 ?_ ?_<;>simp[fF]
         ·simp[oe11,fF]
          refine hC.kp d68 ?_ ?_<;>simp[fF]
        have d70:C 9 (bvA 14 2288) ⟨faB h.length H.length zs i x++[(70,.pv (I64 l)),(73,.pv (.ptr bw 3)),(77,.pv (.fn (.func 140) [] [.ptr H.length 0]))],H6⟩:=by
         refine hC.fork [(0,(bvA 14 2289)),(8,(bvA 14 2544)),(9,(bvA 14 2800))] ?_ ⟨?_,?_,?_,trivial⟩
         ·kernel_rfl
         ·simp[oe0,fF]
          refine hC.take 1 (bvA 14 2291) ?_ ?_
          ·kernel_rfl
          simp[oe1,fF]
          refine hC.take 2 (bvA 14 2295) ?_ ?_
          ·kernel_rfl
          simp[oe2,fF]
          refine hC.kp d40 ?_ ?_<;>simp[fF]
         ·simp[oe8,fF]
          refine hC.kp d66 ?_ ?_<;>simp[fF]
         ·simp[oe9,fF]
          refine hC.kp d68 ?_ ?_<;>simp[fF]
        have d71:C 10 (bvA 14 240) ⟨faB h.length H.length zs i x++[(70,.pv (I64 l)),(73,.pv (.ptr bw 3))],H6⟩:=by
         refine hC.fork [(0,(bvA 14 241)),(8,(bvA 14 496)),(9,(bvA 14 752)),(11,(bvA 14 2288))] ?_ ⟨?_,?_,?_,?_,trivial⟩
         ·kernel_rfl
         ·simp[oe0,fF]
          refine hC.take 1 (bvA 14 243) ?_ ?_
          ·kernel_rfl
          simp[oe1,fF]
          refine hC.take 2 (bvA 14 247) ?_ ?_
          ·kernel_rfl
          simp[oe2,fF]
          refine hC.kp d41 ?_ ?_<;>simp[fF]
         ·simp[oe8,fF]
          refine hC.kp d67 ?_ ?_<;>simp[fF]
         ·simp[oe9,fF]
          refine hC.kp d69 ?_ ?_<;>simp[fF]
         ·simp[oe11,fF]
          refine hC.kp d70 ?_ ?_<;>simp[fF]
        have d72:C 11 (bvA 14 2576) ⟨faB h.length H.length zs i x++[(70,.pv (I64 l)),(75,.pv (I64 l)),(77,.pv (.fn (.func 140) [] [.ptr H.length 0]))],H6⟩:=by
         refine hC.fork [(0,(bvA 14 2577)),(5,(bvA 14 2608))] ?_ ⟨?_,?_,trivial⟩
         ·kernel_rfl
         ·simp[oe0,fF]
          refine hC.take 1 (bvA 14 2579) ?_ ?_
          ·kernel_rfl
          simp[oe1,fF]
          refine hC.take 2 (bvA 14 2583) ?_ ?_
          ·kernel_rfl
          simp[oe2,fF]
          refine hC.kp d42 ?_ ?_<;>simp[fF]
         ·simp[oe5,fF]
          refine hC.take 6 (bvA 14 2672) ?_ ?_
          ·kernel_rfl
          simp[oe6,fF]
          refine hC.take 7 (bvA 14 2800) ?_ ?_
          ·kernel_rfl
          simp[oe7,fF]
          refine hC.kp d68 ?_ ?_<;>simp[fF]
        have d73:C 12 (bvA 14 528) ⟨faB h.length H.length zs i x++[(70,.pv (I64 l)),(75,.pv (I64 l))],H6⟩:=by
         refine hC.fork [(0,(bvA 14 529)),(5,(bvA 14 560)),(11,(bvA 14 2576))] ?_ ⟨?_,?_,?_,trivial⟩
         ·kernel_rfl
         ·simp[oe0,fF]
          refine hC.take 1 (bvA 14 531) ?_ ?_
          ·kernel_rfl
          simp[oe1,fF]
          refine hC.take 2 (bvA 14 535) ?_ ?_
          ·kernel_rfl
          simp[oe2,fF]
          refine hC.kp d43 ?_ ?_<;>simp[fF]
         ·simp[oe5,fF]
          refine hC.take 6 (bvA 14 624) ?_ ?_
          ·kernel_rfl
          simp[oe6,fF]
          refine hC.take 7 (bvA 14 752) ?_ ?_
          ·kernel_rfl
          simp[oe7,fF]
          refine hC.kp d69 ?_ ?_<;>simp[fF]
         ·simp[oe11,fF]
          refine hC.kp d72 ?_ ?_<;>simp[fF]
        have d74:C 12 (bvA 14 2064) ⟨faB h.length H.length zs i x++[(70,.pv (I64 l)),(77,.pv (.fn (.func 140) [] [.ptr H.length 0]))],H6⟩:=by
         refine hC.fork [(0,(bvA 14 2065)),(5,(bvA 14 2096)),(9,(bvA 14 2576))] ?_ ⟨?_,?_,?_,trivial⟩
         ·kernel_rfl
         ·simp[oe0,fF]
          refine hC.take 1 (bvA 14 2067) ?_ ?_
          ·kernel_rfl
          simp[oe1,fF]
          refine hC.take 2 (bvA 14 2071) ?_ ?_
          ·kernel_rfl
          simp[oe2,fF]
          refine hC.kp d44 ?_ ?_<;>simp[fF]
         ·simp[oe5,fF]
          refine hC.take 6 (bvA 14 2160) ?_ ?_
          ·kernel_rfl
          simp[oe6,fF]
          refine hC.take 7 (bvA 14 2288) ?_ ?_
          ·kernel_rfl
          simp[oe7,fF]
          refine hC.kp d70 ?_ ?_<;>simp[fF]
         ·simp[oe9,fF]
          refine hC.kp d72 ?_ ?_<;>simp[fF]
        have d75:C 13 (bvA 14 16) ⟨faB h.length H.length zs i x++[(70,.pv (I64 l))],H6⟩:=by
         refine hC.fork [(0,(bvA 14 17)),(5,(bvA 14 48)),(9,(bvA 14 528)),(11,(bvA 14 2064))] ?_ ⟨?_,?_,?_,?_,trivial⟩
         ·kernel_rfl
         ·simp[oe0,fF]
          refine hC.take 1 (bvA 14 19) ?_ ?_
          ·kernel_rfl
          simp[oe1,fF]
          refine hC.take 2 (bvA 14 23) ?_ ?_
          ·kernel_rfl
          simp[oe2,fF]
          refine hC.kp d45 ?_ ?_<;>simp[fF]
         ·simp[oe5,fF]
          refine hC.take 6 (bvA 14 112) ?_ ?_
          ·kernel_rfl
          simp[oe6,fF]
          refine hC.take 7 (bvA 14 240) ?_ ?_
          ·kernel_rfl
          simp[oe7,fF]
          refine hC.kp d71 ?_ ?_<;>simp[fF]
         ·simp[oe9,fF]
          refine hC.kp d73 ?_ ?_<;>simp[fF]
         ·simp[oe11,fF]
          refine hC.kp d74 ?_ ?_<;>simp[fF]
        have d76:C 6 (bvA 14 8160) ⟨faB h.length H.length zs i x++[(78,.pv (.bsl ey.b 1 0 Z9.length ey.cp))],H7a⟩:=by
         refine hC.fork [(0,(bvA 14 8161)),(4,(bvA 14 8176))] ?_ ⟨?_,?_,trivial⟩
         ·kernel_rfl
         ·simp[oe0,fF]
          refine hC.take 1 (bvA 14 8163) ?_ ?_
          ·kernel_rfl
          simp[oe1,fF]
          refine hC.take 2 (bvA 14 8167) ?_ ?_
          ·kernel_rfl
          simp[oe2,fF]
          refine hC.kp d46 ?_ ?_<;>simp[fF]
         ·simp[oe4,fF]
          refine hC.kp d61 ?_ ?_<;>simp[fF]
        have d77:C 7 (bvA 14 4064) ⟨faB h.length H.length zs i x++[(76,.pv (.bsl ey.b 1 0 ey.n ey.cp)),(77,.pv (.fn (.func 140) [] [.ptr H.length 0]))],H6⟩:=by
         refine hC.fork [(0,(bvA 14 4065)),(4,(bvA 14 4080)),(12,(bvA 14 8160))] ?_ ⟨?_,?_,?_,trivial⟩
         ·kernel_rfl
         ·simp[oe0,fF]
          refine hC.take 1 (bvA 14 4067) ?_ ?_
          ·kernel_rfl
          simp[oe1,fF]
          refine hC.take 2 (bvA 14 4071) ?_ ?_
          ·kernel_rfl
          simp[oe2,fF]
          refine hC.kp d47 ?_ ?_<;>simp[fF]
         ·simp[oe4,fF]
          refine hC.kp d62 ?_ ?_<;>simp[fF]
         ·simp[oe12,fF]
          refine CallB.introX (CallX.introT (b:=ey.b) (b2:=H.length) (zs:=z9) (sp:=sp9) (cp:=ey.cp) hD9 (by simp) (by simp) rfl (by simp) (by simp[ey3]) (by simp) (by simp) ey1 hk6? hbox hpos9 hzl9 ?_)
          rintro _ _ ⟨rfl,rfl⟩
          refine⟨_,_,rfl,rfl,by simp;omega,hDl9,?_⟩
          rw[←hX9,←hH7a]
          simp[ey6,ey6.symm,qCells,faB]
          refine hC.kp d76 ?_ ?_<;>simp[fF]
        have d78:C 8 (bvA 14 2016) ⟨faB h.length H.length zs i x++[(76,.pv (.bsl ey.b 1 0 ey.n ey.cp))],H6⟩:=by
         refine hC.fork [(0,(bvA 14 2017)),(4,(bvA 14 2032)),(11,(bvA 14 4064))] ?_ ⟨?_,?_,?_,trivial⟩
         ·kernel_rfl
         ·simp[oe0,fF]
          refine hC.take 1 (bvA 14 2019) ?_ ?_
          ·kernel_rfl
          simp[oe1,fF]
          refine hC.take 2 (bvA 14 2023) ?_ ?_
          ·kernel_rfl
          simp[oe2,fF]
          refine hC.kp d48 ?_ ?_<;>simp[fF]
         ·simp[oe4,fF]
          refine hC.kp d63 ?_ ?_<;>simp[fF]
         ·simp[oe11,fF]
          refine hC.kp d77 ?_ ?_<;>simp[fF]
        have d79:C 8 (bvA 14 3040) ⟨faB h.length H.length zs i x++[(74,.al (.cell bw 3)),(75,.pv (I64 l)),(77,.pv (.fn (.func 140) [] [.ptr H.length 0]))],H6⟩:=by
         refine hC.fork [(0,(bvA 14 3041)),(4,(bvA 14 3056)),(10,(bvA 14 4064))] ?_ ⟨?_,?_,?_,trivial⟩
         ·kernel_rfl
         ·simp[oe0,fF]
          refine hC.take 1 (bvA 14 3043) ?_ ?_
          ·kernel_rfl
          simp[oe1,fF]
          refine hC.take 2 (bvA 14 3047) ?_ ?_
          ·kernel_rfl
          simp[oe2,fF]
          refine hC.kp d49 ?_ ?_<;>simp[fF]
         ·simp[oe4,fF]
          refine hC.kp d64 ?_ ?_<;>simp[fF]
         ·simp[oe10,fF]
          refine hC.kp d77 ?_ ?_<;>simp[fF]
        have d80:C 9 (bvA 14 992) ⟨faB h.length H.length zs i x++[(74,.al (.cell bw 3)),(75,.pv (I64 l))],H6⟩:=by
         refine hC.fork [(0,(bvA 14 993)),(4,(bvA 14 1008)),(10,(bvA 14 2016)),(11,(bvA 14 3040))] ?_ ⟨?_,?_,?_,?_,trivial⟩
         ·kernel_rfl
         ·simp[oe0,fF]
          refine hC.take 1 (bvA 14 995) ?_ ?_
          ·kernel_rfl
          simp[oe1,fF]
          refine hC.take 2 (bvA 14 999) ?_ ?_
          ·kernel_rfl
          simp[oe2,fF]
          refine hC.kp d50 ?_ ?_<;>simp[fF]
         ·simp[oe4,fF]
          refine hC.kp d65 ?_ ?_<;>simp[fF]
         ·simp[oe10,fF]
          refine hC.kp d78 ?_ ?_<;>simp[fF]
         ·simp[oe11,fF]
          refine hC.kp d79 ?_ ?_<;>simp[fF]
        have d81:C 9 (bvA 14 2528) ⟨faB h.length H.length zs i x++[(74,.al (.cell bw 3)),(77,.pv (.fn (.func 140) [] [.ptr H.length 0]))],H6⟩:=by
         refine hC.fork [(0,(bvA 14 2529)),(4,(bvA 14 2544)),(9,(bvA 14 3040))] ?_ ⟨?_,?_,?_,trivial⟩
         ·kernel_rfl
         ·simp[oe0,fF]
          refine hC.take 1 (bvA 14 2531) ?_ ?_
          ·kernel_rfl
          simp[oe1,fF]
          refine hC.take 2 (bvA 14 2535) ?_ ?_
          ·kernel_rfl
          simp[oe2,fF]
          refine hC.kp d51 ?_ ?_<;>simp[fF]
         ·simp[oe4,fF]
          refine hC.kp d66 ?_ ?_<;>simp[fF]
         ·simp[oe9,fF]
          refine hC.kp d79 ?_ ?_<;>simp[fF]
        have d82:C 10 (bvA 14 480) ⟨faB h.length H.length zs i x++[(74,.al (.cell bw 3))],H6⟩:=by
         refine hC.fork [(0,(bvA 14 481)),(4,(bvA 14 496)),(9,(bvA 14 992)),(11,(bvA 14 2528))] ?_ ⟨?_,?_,?_,?_,trivial⟩
         ·kernel_rfl
         ·simp[oe0,fF]
          refine hC.take 1 (bvA 14 483) ?_ ?_
          ·kernel_rfl
          simp[oe1,fF]
          refine hC.take 2 (bvA 14 487) ?_ ?_
          ·kernel_rfl
          simp[oe2,fF]
          refine hC.kp d52 ?_ ?_<;>simp[fF]
         ·simp[oe4,fF]
          refine hC.kp d67 ?_ ?_<;>simp[fF]
         ·simp[oe9,fF]
          refine hC.kp d80 ?_ ?_<;>simp[fF]
         ·simp[oe11,fF]
          refine hC.kp d81 ?_ ?_<;>simp[fF]
        have d83:C 9 (bvA 14 2784) ⟨faB h.length H.length zs i x++[(73,.pv (.ptr bw 3)),(75,.pv (I64 l)),(77,.pv (.fn (.func 140) [] [.ptr H.length 0]))],H6⟩:=by
         refine hC.fork [(0,(bvA 14 2785)),(4,(bvA 14 2800)),(8,(bvA 14 3040))] ?_ ⟨?_,?_,?_,trivial⟩
         ·kernel_rfl
         ·simp[oe0,fF]
          refine hC.take 1 (bvA 14 2787) ?_ ?_
          ·kernel_rfl
          simp[oe1,fF]
          refine hC.take 2 (bvA 14 2791) ?_ ?_
          ·kernel_rfl
          simp[oe2,fF]
          refine hC.kp d53 ?_ ?_<;>simp[fF]
         ·simp[oe4,fF]
          refine hC.kp d68 ?_ ?_<;>simp[fF]
         ·simp[oe8,fF]
          refine hC.kp d79 ?_ ?_<;>simp[fF]
        have d84:C 10 (bvA 14 736) ⟨faB h.length H.length zs i x++[(73,.pv (.ptr bw 3)),(75,.pv (I64 l))],H6⟩:=by
         refine hC.fork [(0,(bvA 14 737)),(4,(bvA 14 752)),(8,(bvA 14 992)),(11,(bvA 14 2784))] ?_ ⟨?_,?_,?_,?_,trivial⟩
         ·kernel_rfl
         ·simp[oe0,fF]
          refine hC.take 1 (bvA 14 739) ?_ ?_
          ·kernel_rfl
          simp[oe1,fF]
          refine hC.take 2 (bvA 14 743) ?_ ?_
          ·kernel_rfl
          simp[oe2,fF]
          refine hC.kp d54 ?_ ?_<;>simp[fF]
         ·simp[oe4,fF]
          refine hC.kp d69 ?_ ?_<;>simp[fF]
         ·simp[oe8,fF]
          refine hC.kp d80 ?_ ?_<;>simp[fF]
         ·simp[oe11,fF]
          refine hC.kp d83 ?_ ?_<;>simp[fF]
        have d85:C 10 (bvA 14 2272) ⟨faB h.length H.length zs i x++[(73,.pv (.ptr bw 3)),(77,.pv (.fn (.func 140) [] [.ptr H.length 0]))],H6⟩:=by
         refine hC.fork [(0,(bvA 14 2273)),(4,(bvA 14 2288)),(8,(bvA 14 2528)),(9,(bvA 14 2784))] ?_ ⟨?_,?_,?_,?_,trivial⟩
         ·kernel_rfl
         ·simp[oe0,fF]
          refine hC.take 1 (bvA 14 2275) ?_ ?_
          ·kernel_rfl
          simp[oe1,fF]
          refine hC.take 2 (bvA 14 2279) ?_ ?_
          ·kernel_rfl
          simp[oe2,fF]
          refine hC.kp d55 ?_ ?_<;>simp[fF]
         ·simp[oe4,fF]
          refine hC.kp d70 ?_ ?_<;>simp[fF]
         ·simp[oe8,fF]
          refine hC.kp d81 ?_ ?_<;>simp[fF]
         ·simp[oe9,fF]
          refine hC.kp d83 ?_ ?_<;>simp[fF]
        have d86:C 11 (bvA 14 224) ⟨faB h.length H.length zs i x++[(73,.pv (.ptr bw 3))],H6⟩:=by
         refine hC.fork [(0,(bvA 14 225)),(4,(bvA 14 240)),(8,(bvA 14 480)),(9,(bvA 14 736)),(11,(bvA 14 2272))] ?_ ⟨?_,?_,?_,?_,?_,trivial⟩
         ·kernel_rfl
         ·simp[oe0,fF]
          refine hC.take 1 (bvA 14 227) ?_ ?_
          ·kernel_rfl
          simp[oe1,fF]
          refine hC.take 2 (bvA 14 231) ?_ ?_
          ·kernel_rfl
          simp[oe2,fF]
          refine hC.kp d56 ?_ ?_<;>simp[fF]
         ·simp[oe4,fF]
          refine hC.kp d71 ?_ ?_<;>simp[fF]
         ·simp[oe8,fF]
          refine hC.kp d82 ?_ ?_<;>simp[fF]
         ·simp[oe9,fF]
          refine hC.kp d84 ?_ ?_<;>simp[fF]
         ·simp[oe11,fF]
          refine hC.kp d85 ?_ ?_<;>simp[fF]
        have d87:C 12 (bvA 14 2560) ⟨faB h.length H.length zs i x++[(75,.pv (I64 l)),(77,.pv (.fn (.func 140) [] [.ptr H.length 0]))],H6⟩:=by
         refine hC.fork [(0,(bvA 14 2561)),(4,(bvA 14 2576)),(5,(bvA 14 2592))] ?_ ⟨?_,?_,?_,trivial⟩
         ·kernel_rfl
         ·simp[oe0,fF]
          refine hC.take 1 (bvA 14 2563) ?_ ?_
          ·kernel_rfl
          simp[oe1,fF]
          refine hC.take 2 (bvA 14 2567) ?_ ?_
          ·kernel_rfl
          simp[oe2,fF]
          refine hC.kp d57 ?_ ?_<;>simp[fF]
         ·simp[oe4,fF]
          refine hC.kp d72 ?_ ?_<;>simp[fF]
         ·simp[oe5,fF]
          refine hC.take 6 (bvA 14 2656) ?_ ?_
          ·kernel_rfl
          simp[oe6,fF]
          refine hC.take 7 (bvA 14 2784) ?_ ?_
          ·kernel_rfl
          simp[oe7,fF]
          refine hC.kp d83 ?_ ?_<;>simp[fF]
        have d88:C 13 (bvA 14 512) ⟨faB h.length H.length zs i x++[(75,.pv (I64 l))],H6⟩:=by
         refine hC.fork [(0,(bvA 14 513)),(4,(bvA 14 528)),(5,(bvA 14 544)),(11,(bvA 14 2560))] ?_ ⟨?_,?_,?_,?_,trivial⟩
         ·kernel_rfl
         ·simp[oe0,fF]
          refine hC.take 1 (bvA 14 515) ?_ ?_
          ·kernel_rfl
          simp[oe1,fF]
          refine hC.take 2 (bvA 14 519) ?_ ?_
          ·kernel_rfl
          simp[oe2,fF]
          refine hC.kp d58 ?_ ?_<;>simp[fF]
         ·simp[oe4,fF]
          refine hC.kp d73 ?_ ?_<;>simp[fF]
         ·simp[oe5,fF]
          refine hC.take 6 (bvA 14 608) ?_ ?_
          ·kernel_rfl
          simp[oe6,fF]
          refine hC.take 7 (bvA 14 736) ?_ ?_
          ·kernel_rfl
          simp[oe7,fF]
          refine hC.kp d84 ?_ ?_<;>simp[fF]
         ·simp[oe11,fF]
          refine hC.kp d87 ?_ ?_<;>simp[fF]
        have d89:C 13 (bvA 14 2048) ⟨faB h.length H.length zs i x++[(77,.pv (.fn (.func 140) [] [.ptr H.length 0]))],H6⟩:=by
         refine hC.fork [(0,(bvA 14 2049)),(4,(bvA 14 2064)),(5,(bvA 14 2080)),(9,(bvA 14 2560))] ?_ ⟨?_,?_,?_,?_,trivial⟩
         ·kernel_rfl
         ·simp[oe0,fF]
          refine hC.take 1 (bvA 14 2051) ?_ ?_
          ·kernel_rfl
          simp[oe1,fF]
          refine hC.take 2 (bvA 14 2055) ?_ ?_
          ·kernel_rfl
          simp[oe2,fF]
          refine hC.kp d59 ?_ ?_<;>simp[fF]
         ·simp[oe4,fF]
          refine hC.kp d74 ?_ ?_<;>simp[fF]
         ·simp[oe5,fF]
          refine hC.take 6 (bvA 14 2144) ?_ ?_
          ·kernel_rfl
          simp[oe6,fF]
          refine hC.take 7 (bvA 14 2272) ?_ ?_
          ·kernel_rfl
          simp[oe7,fF]
          refine hC.kp d85 ?_ ?_<;>simp[fF]
         ·simp[oe9,fF]
          refine hC.kp d87 ?_ ?_<;>simp[fF]
        have d90:C 14 (bvA 14 0) ⟨faB h.length H.length zs i x++[],H6⟩:=by
         refine hC.fork [(0,(bvA 14 1)),(4,(bvA 14 16)),(5,(bvA 14 32)),(9,(bvA 14 512)),(11,(bvA 14 2048))] ?_ ⟨?_,?_,?_,?_,?_,trivial⟩
         ·kernel_rfl
         ·simp[oe0,fF]
          refine hC.take 1 (bvA 14 3) ?_ ?_
          ·kernel_rfl
          simp[oe1,fF]
          refine hC.take 2 (bvA 14 7) ?_ ?_
          ·kernel_rfl
          simp[oe2,fF]
          refine hC.kp d60 ?_ ?_<;>simp[fF]
         ·simp[oe4,fF]
          refine hC.kp d75 ?_ ?_<;>simp[fF]
         ·simp[oe5,fF]
          refine hC.take 6 (bvA 14 96) ?_ ?_
          ·kernel_rfl
          simp[oe6,fF]
          refine hC.take 7 (bvA 14 224) ?_ ?_
          ·kernel_rfl
          simp[oe7,fF]
          refine hC.kp d86 ?_ ?_<;>simp[fF]
         ·simp[oe9,fF]
          refine hC.kp d88 ?_ ?_<;>simp[fF]
         ·simp[oe11,fF]
          refine hC.kp d89 ?_ ?_<;>simp[fF]
        refine hC.kp d90 ?_ ?_<;>simp[fF]
      rintro _ _
      have hfb:forB S'.byl k l=pt S'.byl l Z9:=by unfold forB;rw[if_neg hS.l0,hz9,Option.getD_some,hZ9]
      have h8n?:(H7a.set bw (wtB ba bt ⟨mp,pt mb' l ⟨ey.b,Z9.length,ey.cp⟩,S'.late,S'.head,S'.seen⟩))[h.length]?=some [.pv (.ptr bw 0)]:=by rw[List.getElem?_set_ne (fun q=>n2 (.inl q.symm)),h70?]
      have h8k?:(H7a.set bw (wtB ba bt ⟨mp,pt mb' l ⟨ey.b,Z9.length,ey.cp⟩,S'.late,S'.head,S'.seen⟩))[H.length]?=some [.pv (I64 k)]:=by rw[List.getElem?_set_ne (fun q=>houk (.inl q.symm)),h7k?]
      rw[←hfb]at L7
      have hzB:=forB_len (k:=k) (l:=l) hS.hz
      clear fF h7a h7b h7c h7d h7e h7f h7g h7h h7w? h70? h71? h7k? hH7a hD9 hX9 hXc
      generalize pt mb' l ⟨ey.b,Z9.length,ey.cp⟩=mb7 at*
      generalize H7a.set bw (wtB ba bt ⟨mp,mb7,S'.late,S'.head,S'.seen⟩)=H7 at*
      have n7:¬DomW bw bt mp mb7 h.length:=fun q=>n2 (E6.sub _ c1 (E7.sub _ h6c q))
      have nk7:¬DomW bw bt mp mb7 H.length:=fun q=>houk (E6.sub _ f1 (E7.sub _ h6g q))
      obtain⟨h8a,h8b⟩:=List.getElem?_eq_some_iff.1 L7.w
      obtain⟨h8c,h8d⟩:=List.getElem?_eq_some_iff.1 h8n?
      obtain⟨h8e,h8f⟩:=List.getElem?_eq_some_iff.1 h8k?
      obtain⟨JE,hJE⟩:∃JE:List (List SV)→List (Int×By)→Prop,∀Y m,JE Y m↔(LayW Y bw ba bt mp m A T' (movS S' k l p x)∧Ext H7 Y (DomW bw bt mp mb7) (DomW bw bt mp m)):=⟨_,fun _ _=>Iff.rfl⟩
      have dom:∀e',(∀c,c<H7.length→e'.b=c→∃l0 e0,lk mb7 l0=some e0∧e0.b=c)→∀c,c<H7.length→DomW bw bt mp (pt mb7 x e') c→DomW bw bt mp mb7 c:=fun e' he' c hc q=>by
        rcases q with q|q|q|⟨l',e2,q,q2⟩
        · exact .inl q
        · exact .inr (.inl q)
        · exact .inr (.inr (.inl q))
        · rw[lk_pt]at q
          split at q
          · cases q;exact .inr (.inr (.inr (he' c hc q2)))
          · exact .inr (.inr (.inr ⟨l',e2,q,q2⟩))
      have hfin:∀(x2:List (List SV)×List (Int×By)),JE x2.1 x2.2→LayW x2.1 bw ba bt mp x2.2 A T' (movS S' k l p x)∧Ext G x2.1 (DomW bw bt mp mb) (DomW bw bt mp x2.2):=fun x2 hj=>by
        obtain⟨j1,j2⟩:=(hJE _ _).1 hj
        exact⟨j1,(hE.trans E2).trans ((E6.trans E7).trans j2)⟩
      simp
      cases hl2:lk mb7 x with
      |none=>
        have hb0:=L7.byn x hl2
        have hst:movS S' k l p x=⟨pt S'.prs k (movP l p x),pt (forB S'.byl k l) x [k],S'.late,S'.head,S'.seen⟩:=by
          unfold movS addB
          rw[show lk (forB S'.byl k l) x=none from hb0];rfl
        have hnew:∀cap,1≤cap→(H7++[SV.pv (I64 k)::List.replicate (cap -1) (SV.pv .bot)])[bw]?=some (wtB ba bt ⟨mp,mb7,S'.late,S'.head,S'.seen⟩)∧(H7++[SV.pv (I64 k)::List.replicate (cap -1) (SV.pv .bot)])[h.length]?=some [.pv (.ptr bw 0)]∧JE ((H7++[SV.pv (I64 k)::List.replicate (cap -1) (SV.pv .bot)]).set bw (wtB ba bt ⟨mp,pt mb7 x ⟨H7.length,1,cap⟩,S'.late,S'.head,S'.seen⟩)) (pt mb7 x ⟨H7.length,1,cap⟩):=fun cap hc=>by
          refine⟨by rw[List.getElem?_append_left h8a];exact L7.w,by rw[List.getElem?_append_left h8c,h8n?],(hJE _ _).2 ⟨?_,?_⟩⟩
          · rw[hst]
            exact L7.newB x [k] (List.replicate (cap -1) (SV.pv .bot)) (fun m=>belowC_repW m _) 1 cap rfl hc (by simp;omega)
          · refine(((Ext.app H7 [SV.pv (I64 k)::List.replicate (cap -1) (SV.pv .bot)] _).trans (Ext.set bw _ (.inl rfl))).dom (dom _ fun c hc e=>?_))
            simp only at e;omega
        have fG:=And.intro waU (And.intro h8a (And.intro h8b (And.intro h8c (And.intro h8d (And.intro h8e (And.intro h8f hl2))))))
        refine AAnyD.dagE [92] (fun x2:List (List SV)×List (Int×By)=>⟨[(2,.pv (.ptr h.length 0)),(3,.pv (.ptr (h.length+1) 0)),(5,.own true 1 (irow zs)),(6,.pv (.fn (.func 137) [] [.ptr (h.length+1) 0,.ptr h.length 0])),(8,.pv (.ptr H.length 0)),(13,.pv (I64 x)),(22,.al (.slot 5)),(23,.pv (I64 zs.length)),(24,.pv (I64 i))],x2.1⟩) (fun x2=>JE x2.1 x2.2) 15 (bvA 15 0) (by kernel_rfl) (fun stp stM hstp hstM C hC=>?_) ?_
        · have oe0:=hstM 0
          have oe1:=hstp 1
          have oe2:=hstp 2
          have oe3:=hstM 3
          have oe4:=hstp 4
          have oe5:=hstM 5
          have oe6:=hstp 6
          have oe7:=hstp 7
          have oe8:=hstM 8
          have oe9:=hstp 9
          have oe10:=hstM 10
          have oe11:=hstM 11
          have oe12:=hstM 12
          have oe13:=hstM 13
          have oe14:=hstM 14
          simp only[AStepMI,AStepM,blkOf,cutOfB,AStepI,AStep,AEx,gslot,boxedIn,List.getElem?_cons_zero,List.getElem?_cons_succ,Option.bind_some,Bool.or_false,Bool.false_or,Bool.or_true,Bool.true_or,Bool.false_and,Bool.true_and,Bool.false_eq_true,if_false]at oe0 oe1 oe2 oe3 oe4 oe5 oe6 oe7 oe8 oe9 oe10 oe11 oe12 oe13 oe14
          clear hstp hstM
          have d0:∀(Y:List (List SV)) (y:By) (hY:Y[bw]?=some (wtB ba bt ⟨mp,mb7,S'.late,S'.head,S'.seen⟩)∧Y[h.length]?=some [.pv (.ptr bw 0)]∧JE (Y.set bw (wtB ba bt ⟨mp,pt mb7 x y,S'.late,S'.head,S'.seen⟩)) (pt mb7 x y)),C 0 (bvA 15 32767) ⟨faB h.length H.length zs i x++[],Y.set bw (wtB ba bt ⟨mp,pt mb7 x y,S'.late,S'.head,S'.seen⟩)⟩:=by
           intro Y y hY
           have fU:=waU
           have hY2:=hY
           obtain⟨yw,yb,yj⟩:=hY2
           obtain⟨yw1,yw2⟩:=List.getElem?_eq_some_iff.1 yw
           obtain⟨yb1,yb2⟩:=List.getElem?_eq_some_iff.1 yb
           refine hC.done _ _ _ ?_ ?_
           ·kernel_rfl
           exact⟨(Y.set bw (wtB ba bt ⟨mp,pt mb7 x y,S'.late,S'.head,S'.seen⟩),pt mb7 x y),yj,Weak.keep (by simp[faB]) rfl⟩
          have d1:∀(Y:List (List SV)) (y:By) (hY:Y[bw]?=some (wtB ba bt ⟨mp,mb7,S'.late,S'.head,S'.seen⟩)∧Y[h.length]?=some [.pv (.ptr bw 0)]∧JE (Y.set bw (wtB ba bt ⟨mp,pt mb7 x y,S'.late,S'.head,S'.seen⟩)) (pt mb7 x y)),C 1 (bvA 15 16383) ⟨faB h.length H.length zs i x++[(82,.al (.cell bw 3)),(83,.pv (I64 x)),(92,.pv (.bsl y.b 1 0 y.n y.cp))],Y⟩:=by
           intro Y y hY
           have fU:=waU
           have hY2:=hY
           obtain⟨yw,yb,yj⟩:=hY2
           obtain⟨yw1,yw2⟩:=List.getElem?_eq_some_iff.1 yw
           obtain⟨yb1,yb2⟩:=List.getElem?_eq_some_iff.1 yb
           refine hC.fork [(14,(bvA 15 32767))] ?_ ⟨?_,trivial⟩
           ·kernel_rfl
           ·simp[oe14,yw1,yw2,yb1,yb2,fU]
            refine hC.kp (d0 Y y hY) ?_ ?_<;>simp[yw1,yw2,yb1,yb2,fU]
          have d2:C 2 (bvA 15 8191) ⟨faB h.length H.length zs i x++[(82,.al (.cell bw 3)),(83,.pv (I64 x)),(89,.pv (.lit (.slice none 0 0))),(91,.own true 1 [[I64 k]])],H7⟩:=by
           refine hC.fork [(13,(bvA 15 16383))] ?_ ⟨?_,trivial⟩
           ·kernel_rfl
           ·simp[oe13,fG]
            intro cap hc
            refine hC.weak (d1 _ ⟨H7.length,1,cap⟩ (hnew cap hc)) (Weak.keep ?_ ?_)<;>simp[faB]
          have d3:C 3 (bvA 15 4095) ⟨faB h.length H.length zs i x++[(82,.al (.cell bw 3)),(83,.pv (I64 x)),(89,.pv (.lit (.slice none 0 0))),(90,.pv (I64 k))],H7⟩:=by
           refine hC.fork [(12,(bvA 15 8191))] ?_ ⟨?_,trivial⟩
           ·kernel_rfl
           ·simp[oe12,fG]
            refine hC.kp d2 ?_ ?_<;>simp[fG]
          have d4:C 4 (bvA 15 2047) ⟨faB h.length H.length zs i x++[(82,.al (.cell bw 3)),(83,.pv (I64 x)),(89,.pv (.lit (.slice none 0 0)))],H7⟩:=by
           refine hC.fork [(11,(bvA 15 4095))] ?_ ⟨?_,trivial⟩
           ·kernel_rfl
           ·simp[oe11,fG]
            refine hC.kp d3 ?_ ?_<;>simp[fG]
          have d5:C 3 (bvA 15 7167) ⟨faB h.length H.length zs i x++[(82,.al (.cell bw 3)),(83,.pv (I64 x)),(87,.al (.cell bw 3)),(88,.pv (I64 x)),(91,.own true 1 [[I64 k]])],H7⟩:=by
           refine hC.fork [(10,(bvA 15 8191))] ?_ ⟨?_,trivial⟩
           ·kernel_rfl
           ·simp[oe10,fG]
            refine hC.kp d2 ?_ ?_<;>simp[fG]
          have d6:C 4 (bvA 15 3071) ⟨faB h.length H.length zs i x++[(82,.al (.cell bw 3)),(83,.pv (I64 x)),(87,.al (.cell bw 3)),(88,.pv (I64 x)),(90,.pv (I64 k))],H7⟩:=by
           refine hC.fork [(10,(bvA 15 4095)),(12,(bvA 15 7167))] ?_ ⟨?_,?_,trivial⟩
           ·kernel_rfl
           ·simp[oe10,fG]
            refine hC.kp d3 ?_ ?_<;>simp[fG]
           ·simp[oe12,fG]
            refine hC.kp d5 ?_ ?_<;>simp[fG]
          have d7:C 5 (bvA 15 1023) ⟨faB h.length H.length zs i x++[(82,.al (.cell bw 3)),(83,.pv (I64 x)),(87,.al (.cell bw 3)),(88,.pv (I64 x))],H7⟩:=by
           refine hC.fork [(10,(bvA 15 2047)),(11,(bvA 15 3071))] ?_ ⟨?_,?_,trivial⟩
           ·kernel_rfl
           ·simp[oe10,fG]
            refine hC.kp d4 ?_ ?_<;>simp[fG]
           ·simp[oe11,fG]
            refine hC.kp d6 ?_ ?_<;>simp[fG]
          have d8:C 4 (bvA 15 6911) ⟨faB h.length H.length zs i x++[(82,.al (.cell bw 3)),(83,.pv (I64 x)),(86,.pv (.ptr bw 3)),(88,.pv (I64 x)),(91,.own true 1 [[I64 k]])],H7⟩:=by
           refine hC.fork [(8,(bvA 15 7167))] ?_ ⟨?_,trivial⟩
           ·kernel_rfl
           ·simp[oe8,fG]
            refine hC.kp d5 ?_ ?_<;>simp[fG]
          have d9:C 5 (bvA 15 2815) ⟨faB h.length H.length zs i x++[(82,.al (.cell bw 3)),(83,.pv (I64 x)),(86,.pv (.ptr bw 3)),(88,.pv (I64 x)),(90,.pv (I64 k))],H7⟩:=by
           refine hC.fork [(8,(bvA 15 3071)),(12,(bvA 15 6911))] ?_ ⟨?_,?_,trivial⟩
           ·kernel_rfl
           ·simp[oe8,fG]
            refine hC.kp d6 ?_ ?_<;>simp[fG]
           ·simp[oe12,fG]
            refine hC.kp d8 ?_ ?_<;>simp[fG]
          have d10:C 6 (bvA 15 767) ⟨faB h.length H.length zs i x++[(82,.al (.cell bw 3)),(83,.pv (I64 x)),(86,.pv (.ptr bw 3)),(88,.pv (I64 x))],H7⟩:=by
           refine hC.fork [(8,(bvA 15 1023)),(11,(bvA 15 2815))] ?_ ⟨?_,?_,trivial⟩
           ·kernel_rfl
           ·simp[oe8,fG]
            refine hC.kp d7 ?_ ?_<;>simp[fG]
           ·simp[oe11,fG]
            refine hC.kp d9 ?_ ?_<;>simp[fG]
          have d11:C 7 (bvA 15 6687) ⟨faB h.length H.length zs i x++[(82,.al (.cell bw 3)),(83,.pv (I64 x)),(88,.pv (I64 x)),(91,.own true 1 [[I64 k]])],H7⟩:=by
           refine hC.fork [(5,(bvA 15 6719))] ?_ ⟨?_,trivial⟩
           ·kernel_rfl
           ·simp[oe5,fG]
            refine hC.take 6 (bvA 15 6783) ?_ ?_
            ·kernel_rfl
            simp[oe6,fG]
            refine hC.take 7 (bvA 15 6911) ?_ ?_
            ·kernel_rfl
            simp[oe7,fG]
            refine hC.kp d8 ?_ ?_<;>simp[fG]
          have d12:C 8 (bvA 15 2591) ⟨faB h.length H.length zs i x++[(82,.al (.cell bw 3)),(83,.pv (I64 x)),(88,.pv (I64 x)),(90,.pv (I64 k))],H7⟩:=by
           refine hC.fork [(5,(bvA 15 2623)),(12,(bvA 15 6687))] ?_ ⟨?_,?_,trivial⟩
           ·kernel_rfl
           ·simp[oe5,fG]
            refine hC.take 6 (bvA 15 2687) ?_ ?_
            ·kernel_rfl
            simp[oe6,fG]
            refine hC.take 7 (bvA 15 2815) ?_ ?_
            ·kernel_rfl
            simp[oe7,fG]
            refine hC.kp d9 ?_ ?_<;>simp[fG]
           ·simp[oe12,fG]
            refine hC.kp d11 ?_ ?_<;>simp[fG]
          have d13:C 9 (bvA 15 543) ⟨faB h.length H.length zs i x++[(82,.al (.cell bw 3)),(83,.pv (I64 x)),(88,.pv (I64 x))],H7⟩:=by
           refine hC.fork [(5,(bvA 15 575)),(11,(bvA 15 2591))] ?_ ⟨?_,?_,trivial⟩
           ·kernel_rfl
           ·simp[oe5,fG]
            refine hC.take 6 (bvA 15 639) ?_ ?_
            ·kernel_rfl
            simp[oe6,fG]
            refine hC.take 7 (bvA 15 767) ?_ ?_
            ·kernel_rfl
            simp[oe7,fG]
            refine hC.kp d10 ?_ ?_<;>simp[fG]
           ·simp[oe11,fG]
            refine hC.kp d12 ?_ ?_<;>simp[fG]
          have d14:∀(Y:List (List SV)) (y:By) (hY:Y[bw]?=some (wtB ba bt ⟨mp,mb7,S'.late,S'.head,S'.seen⟩)∧Y[h.length]?=some [.pv (.ptr bw 0)]∧JE (Y.set bw (wtB ba bt ⟨mp,pt mb7 x y,S'.late,S'.head,S'.seen⟩)) (pt mb7 x y)),C 2 (bvA 15 16375) ⟨faB h.length H.length zs i x++[(81,.pv (.ptr bw 3)),(83,.pv (I64 x)),(92,.pv (.bsl y.b 1 0 y.n y.cp))],Y⟩:=by
           intro Y y hY
           have fU:=waU
           have hY2:=hY
           obtain⟨yw,yb,yj⟩:=hY2
           obtain⟨yw1,yw2⟩:=List.getElem?_eq_some_iff.1 yw
           obtain⟨yb1,yb2⟩:=List.getElem?_eq_some_iff.1 yb
           refine hC.fork [(3,(bvA 15 16383))] ?_ ⟨?_,trivial⟩
           ·kernel_rfl
           ·simp[oe3,yw1,yw2,yb1,yb2,fU]
            refine hC.kp (d1 Y y hY) ?_ ?_<;>simp[yw1,yw2,yb1,yb2,fU]
          have d15:C 3 (bvA 15 8183) ⟨faB h.length H.length zs i x++[(81,.pv (.ptr bw 3)),(83,.pv (I64 x)),(89,.pv (.lit (.slice none 0 0))),(91,.own true 1 [[I64 k]])],H7⟩:=by
           refine hC.fork [(3,(bvA 15 8191)),(13,(bvA 15 16375))] ?_ ⟨?_,?_,trivial⟩
           ·kernel_rfl
           ·simp[oe3,fG]
            refine hC.kp d2 ?_ ?_<;>simp[fG]
           ·simp[oe13,fG]
            intro cap hc
            refine hC.weak (d14 _ ⟨H7.length,1,cap⟩ (hnew cap hc)) (Weak.keep ?_ ?_)<;>simp[faB]
          have d16:C 4 (bvA 15 4087) ⟨faB h.length H.length zs i x++[(81,.pv (.ptr bw 3)),(83,.pv (I64 x)),(89,.pv (.lit (.slice none 0 0))),(90,.pv (I64 k))],H7⟩:=by
           refine hC.fork [(3,(bvA 15 4095)),(12,(bvA 15 8183))] ?_ ⟨?_,?_,trivial⟩
           ·kernel_rfl
           ·simp[oe3,fG]
            refine hC.kp d3 ?_ ?_<;>simp[fG]
           ·simp[oe12,fG]
            refine hC.kp d15 ?_ ?_<;>simp[fG]
          have d17:C 5 (bvA 15 2039) ⟨faB h.length H.length zs i x++[(81,.pv (.ptr bw 3)),(83,.pv (I64 x)),(89,.pv (.lit (.slice none 0 0)))],H7⟩:=by
           refine hC.fork [(3,(bvA 15 2047)),(11,(bvA 15 4087))] ?_ ⟨?_,?_,trivial⟩
           ·kernel_rfl
           ·simp[oe3,fG]
            refine hC.kp d4 ?_ ?_<;>simp[fG]
           ·simp[oe11,fG]
            refine hC.kp d16 ?_ ?_<;>simp[fG]
          have d18:C 4 (bvA 15 7159) ⟨faB h.length H.length zs i x++[(81,.pv (.ptr bw 3)),(83,.pv (I64 x)),(87,.al (.cell bw 3)),(88,.pv (I64 x)),(91,.own true 1 [[I64 k]])],H7⟩:=by
           refine hC.fork [(3,(bvA 15 7167)),(10,(bvA 15 8183))] ?_ ⟨?_,?_,trivial⟩
           ·kernel_rfl
           ·simp[oe3,fG]
            refine hC.kp d5 ?_ ?_<;>simp[fG]
           ·simp[oe10,fG]
            refine hC.kp d15 ?_ ?_<;>simp[fG]
          have d19:C 5 (bvA 15 3063) ⟨faB h.length H.length zs i x++[(81,.pv (.ptr bw 3)),(83,.pv (I64 x)),(87,.al (.cell bw 3)),(88,.pv (I64 x)),(90,.pv (I64 k))],H7⟩:=by
           refine hC.fork [(3,(bvA 15 3071)),(10,(bvA 15 4087)),(12,(bvA 15 7159))] ?_ ⟨?_,?_,?_,trivial⟩
           ·kernel_rfl
           ·simp[oe3,fG]
            refine hC.kp d6 ?_ ?_<;>simp[fG]
           ·simp[oe10,fG]
            refine hC.kp d16 ?_ ?_<;>simp[fG]
           ·simp[oe12,fG]
            refine hC.kp d18 ?_ ?_<;>simp[fG]
          have d20:C 6 (bvA 15 1015) ⟨faB h.length H.length zs i x++[(81,.pv (.ptr bw 3)),(83,.pv (I64 x)),(87,.al (.cell bw 3)),(88,.pv (I64 x))],H7⟩:=by
           refine hC.fork [(3,(bvA 15 1023)),(10,(bvA 15 2039)),(11,(bvA 15 3063))] ?_ ⟨?_,?_,?_,trivial⟩
           ·kernel_rfl
           ·simp[oe3,fG]
            refine hC.kp d7 ?_ ?_<;>simp[fG]
           ·simp[oe10,fG]
            refine hC.kp d17 ?_ ?_<;>simp[fG]
           ·simp[oe11,fG]
            refine hC.kp d19 ?_ ?_<;>simp[fG]
          have d21:C 5 (bvA 15 6903) ⟨faB h.length H.length zs i x++[(81,.pv (.ptr bw 3)),(83,.pv (I64 x)),(86,.pv (.ptr bw 3)),(88,.pv (I64 x)),(91,.own true 1 [[I64 k]])],H7⟩:=by
           refine hC.fork [(3,(bvA 15 6911)),(8,(bvA 15 7159))] ?_ ⟨?_,?_,trivial⟩
           ·kernel_rfl
           ·simp[oe3,fG]
            refine hC.kp d8 ?_ ?_<;>simp[fG]
           ·simp[oe8,fG]
            refine hC.kp d18 ?_ ?_<;>simp[fG]
          have d22:C 6 (bvA 15 2807) ⟨faB h.length H.length zs i x++[(81,.pv (.ptr bw 3)),(83,.pv (I64 x)),(86,.pv (.ptr bw 3)),(88,.pv (I64 x)),(90,.pv (I64 k))],H7⟩:=by
           refine hC.fork [(3,(bvA 15 2815)),(8,(bvA 15 3063)),(12,(bvA 15 6903))] ?_ ⟨?_,?_,?_,trivial⟩
           ·kernel_rfl
           ·simp[oe3,fG]
            refine hC.kp d9 ?_ ?_<;>simp[fG]
           ·simp[oe8,fG]
            refine hC.kp d19 ?_ ?_<;>simp[fG]
           ·simp[oe12,fG]
            refine hC.kp d21 ?_ ?_<;>simp[fG]
          have d23:C 7 (bvA 15 759) ⟨faB h.length H.length zs i x++[(81,.pv (.ptr bw 3)),(83,.pv (I64 x)),(86,.pv (.ptr bw 3)),(88,.pv (I64 x))],H7⟩:=by
           refine hC.fork [(3,(bvA 15 767)),(8,(bvA 15 1015)),(11,(bvA 15 2807))] ?_ ⟨?_,?_,?_,trivial⟩
           ·kernel_rfl
           ·simp[oe3,fG]
            refine hC.kp d10 ?_ ?_<;>simp[fG]
           ·simp[oe8,fG]
            refine hC.kp d20 ?_ ?_<;>simp[fG]
           ·simp[oe11,fG]
            refine hC.kp d22 ?_ ?_<;>simp[fG]
          have d24:C 8 (bvA 15 6679) ⟨faB h.length H.length zs i x++[(81,.pv (.ptr bw 3)),(83,.pv (I64 x)),(88,.pv (I64 x)),(91,.own true 1 [[I64 k]])],H7⟩:=by
           refine hC.fork [(3,(bvA 15 6687)),(5,(bvA 15 6711))] ?_ ⟨?_,?_,trivial⟩
           ·kernel_rfl
           ·simp[oe3,fG]
            refine hC.kp d11 ?_ ?_<;>simp[fG]
           ·simp[oe5,fG]
            refine hC.take 6 (bvA 15 6775) ?_ ?_
            ·kernel_rfl
            simp[oe6,fG]
            refine hC.take 7 (bvA 15 6903) ?_ ?_
            ·kernel_rfl
            simp[oe7,fG]
            refine hC.kp d21 ?_ ?_<;>simp[fG]
          have d25:C 9 (bvA 15 2583) ⟨faB h.length H.length zs i x++[(81,.pv (.ptr bw 3)),(83,.pv (I64 x)),(88,.pv (I64 x)),(90,.pv (I64 k))],H7⟩:=by
           refine hC.fork [(3,(bvA 15 2591)),(5,(bvA 15 2615)),(12,(bvA 15 6679))] ?_ ⟨?_,?_,?_,trivial⟩
           ·kernel_rfl
           ·simp[oe3,fG]
            refine hC.kp d12 ?_ ?_<;>simp[fG]
           ·simp[oe5,fG]
            refine hC.take 6 (bvA 15 2679) ?_ ?_
            ·kernel_rfl
            simp[oe6,fG]
            refine hC.take 7 (bvA 15 2807) ?_ ?_
            ·kernel_rfl
            simp[oe7,fG]
            refine hC.kp d22 ?_ ?_<;>simp[fG]
           ·simp[oe12,fG]
            refine hC.kp d24 ?_ ?_<;>simp[fG]
          have d26:C 10 (bvA 15 535) ⟨faB h.length H.length zs i x++[(81,.pv (.ptr bw 3)),(83,.pv (I64 x)),(88,.pv (I64 x))],H7⟩:=by
           refine hC.fork [(3,(bvA 15 543)),(5,(bvA 15 567)),(11,(bvA 15 2583))] ?_ ⟨?_,?_,?_,trivial⟩
           ·kernel_rfl
           ·simp[oe3,fG]
            refine hC.kp d13 ?_ ?_<;>simp[fG]
           ·simp[oe5,fG]
            refine hC.take 6 (bvA 15 631) ?_ ?_
            ·kernel_rfl
            simp[oe6,fG]
            refine hC.take 7 (bvA 15 759) ?_ ?_
            ·kernel_rfl
            simp[oe7,fG]
            refine hC.kp d23 ?_ ?_<;>simp[fG]
           ·simp[oe11,fG]
            refine hC.kp d25 ?_ ?_<;>simp[fG]
          have d27:∀(Y:List (List SV)) (y:By) (hY:Y[bw]?=some (wtB ba bt ⟨mp,mb7,S'.late,S'.head,S'.seen⟩)∧Y[h.length]?=some [.pv (.ptr bw 0)]∧JE (Y.set bw (wtB ba bt ⟨mp,pt mb7 x y,S'.late,S'.head,S'.seen⟩)) (pt mb7 x y)),C 5 (bvA 15 16368) ⟨faB h.length H.length zs i x++[(83,.pv (I64 x)),(92,.pv (.bsl y.b 1 0 y.n y.cp))],Y⟩:=by
           intro Y y hY
           have fU:=waU
           have hY2:=hY
           obtain⟨yw,yb,yj⟩:=hY2
           obtain⟨yw1,yw2⟩:=List.getElem?_eq_some_iff.1 yw
           obtain⟨yb1,yb2⟩:=List.getElem?_eq_some_iff.1 yb
           refine hC.fork [(0,(bvA 15 16369))] ?_ ⟨?_,trivial⟩
           ·kernel_rfl
           ·simp[oe0,yw1,yw2,yb1,yb2,fU]
            refine hC.take 1 (bvA 15 16371) ?_ ?_
            ·kernel_rfl
            simp[oe1,yw1,yw2,yb1,yb2,fU]
            refine hC.take 2 (bvA 15 16375) ?_ ?_
            ·kernel_rfl
            simp[oe2,yw1,yw2,yb1,yb2,fU]
            refine hC.kp (d14 Y y hY) ?_ ?_<;>simp[yw1,yw2,yb1,yb2,fU]
          have d28:C 6 (bvA 15 8176) ⟨faB h.length H.length zs i x++[(83,.pv (I64 x)),(89,.pv (.lit (.slice none 0 0))),(91,.own true 1 [[I64 k]])],H7⟩:=by
           refine hC.fork [(0,(bvA 15 8177)),(13,(bvA 15 16368))] ?_ ⟨?_,?_,trivial⟩
           ·kernel_rfl
           ·simp[oe0,fG]
            refine hC.take 1 (bvA 15 8179) ?_ ?_
            ·kernel_rfl
            simp[oe1,fG]
            refine hC.take 2 (bvA 15 8183) ?_ ?_
            ·kernel_rfl
            simp[oe2,fG]
            refine hC.kp d15 ?_ ?_<;>simp[fG]
           ·simp[oe13,fG]
            intro cap hc
            refine hC.weak (d27 _ ⟨H7.length,1,cap⟩ (hnew cap hc)) (Weak.keep ?_ ?_)<;>simp[faB]
          have d29:C 7 (bvA 15 4080) ⟨faB h.length H.length zs i x++[(83,.pv (I64 x)),(89,.pv (.lit (.slice none 0 0))),(90,.pv (I64 k))],H7⟩:=by
           refine hC.fork [(0,(bvA 15 4081)),(12,(bvA 15 8176))] ?_ ⟨?_,?_,trivial⟩
           ·kernel_rfl
           ·simp[oe0,fG]
            refine hC.take 1 (bvA 15 4083) ?_ ?_
            ·kernel_rfl
            simp[oe1,fG]
            refine hC.take 2 (bvA 15 4087) ?_ ?_
            ·kernel_rfl
            simp[oe2,fG]
            refine hC.kp d16 ?_ ?_<;>simp[fG]
           ·simp[oe12,fG]
            refine hC.kp d28 ?_ ?_<;>simp[fG]
          have d30:C 8 (bvA 15 2032) ⟨faB h.length H.length zs i x++[(83,.pv (I64 x)),(89,.pv (.lit (.slice none 0 0)))],H7⟩:=by
           refine hC.fork [(0,(bvA 15 2033)),(11,(bvA 15 4080))] ?_ ⟨?_,?_,trivial⟩
           ·kernel_rfl
           ·simp[oe0,fG]
            refine hC.take 1 (bvA 15 2035) ?_ ?_
            ·kernel_rfl
            simp[oe1,fG]
            refine hC.take 2 (bvA 15 2039) ?_ ?_
            ·kernel_rfl
            simp[oe2,fG]
            refine hC.kp d17 ?_ ?_<;>simp[fG]
           ·simp[oe11,fG]
            refine hC.kp d29 ?_ ?_<;>simp[fG]
          have d31:C 7 (bvA 15 7152) ⟨faB h.length H.length zs i x++[(83,.pv (I64 x)),(87,.al (.cell bw 3)),(88,.pv (I64 x)),(91,.own true 1 [[I64 k]])],H7⟩:=by
           refine hC.fork [(0,(bvA 15 7153)),(10,(bvA 15 8176))] ?_ ⟨?_,?_,trivial⟩
           ·kernel_rfl
           ·simp[oe0,fG]
            refine hC.take 1 (bvA 15 7155) ?_ ?_
            ·kernel_rfl
            simp[oe1,fG]
            refine hC.take 2 (bvA 15 7159) ?_ ?_
            ·kernel_rfl
            simp[oe2,fG]
            refine hC.kp d18 ?_ ?_<;>simp[fG]
           ·simp[oe10,fG]
            refine hC.kp d28 ?_ ?_<;>simp[fG]
          have d32:C 8 (bvA 15 3056) ⟨faB h.length H.length zs i x++[(83,.pv (I64 x)),(87,.al (.cell bw 3)),(88,.pv (I64 x)),(90,.pv (I64 k))],H7⟩:=by
           refine hC.fork [(0,(bvA 15 3057)),(10,(bvA 15 4080)),(12,(bvA 15 7152))] ?_ ⟨?_,?_,?_,trivial⟩
           ·kernel_rfl
           ·simp[oe0,fG]
            refine hC.take 1 (bvA 15 3059) ?_ ?_
            ·kernel_rfl
            simp[oe1,fG]
            refine hC.take 2 (bvA 15 3063) ?_ ?_
            ·kernel_rfl
            simp[oe2,fG]
            refine hC.kp d19 ?_ ?_<;>simp[fG]
           ·simp[oe10,fG]
            refine hC.kp d29 ?_ ?_<;>simp[fG]
           ·simp[oe12,fG]
            refine hC.kp d31 ?_ ?_<;>simp[fG]
          have d33:C 9 (bvA 15 1008) ⟨faB h.length H.length zs i x++[(83,.pv (I64 x)),(87,.al (.cell bw 3)),(88,.pv (I64 x))],H7⟩:=by
           refine hC.fork [(0,(bvA 15 1009)),(10,(bvA 15 2032)),(11,(bvA 15 3056))] ?_ ⟨?_,?_,?_,trivial⟩
           ·kernel_rfl
           ·simp[oe0,fG]
            refine hC.take 1 (bvA 15 1011) ?_ ?_
            ·kernel_rfl
            simp[oe1,fG]
            refine hC.take 2 (bvA 15 1015) ?_ ?_
            ·kernel_rfl
            simp[oe2,fG]
            refine hC.kp d20 ?_ ?_<;>simp[fG]
           ·simp[oe10,fG]
            refine hC.kp d30 ?_ ?_<;>simp[fG]
           ·simp[oe11,fG]
            refine hC.kp d32 ?_ ?_<;>simp[fG]
          have d34:C 8 (bvA 15 6896) ⟨faB h.length H.length zs i x++[(83,.pv (I64 x)),(86,.pv (.ptr bw 3)),(88,.pv (I64 x)),(91,.own true 1 [[I64 k]])],H7⟩:=by
           refine hC.fork [(0,(bvA 15 6897)),(8,(bvA 15 7152))] ?_ ⟨?_,?_,trivial⟩
           ·kernel_rfl
           ·simp[oe0,fG]
            refine hC.take 1 (bvA 15 6899) ?_ ?_
            ·kernel_rfl
            simp[oe1,fG]
            refine hC.take 2 (bvA 15 6903) ?_ ?_
            ·kernel_rfl
            simp[oe2,fG]
            refine hC.kp d21 ?_ ?_<;>simp[fG]
           ·simp[oe8,fG]
            refine hC.kp d31 ?_ ?_<;>simp[fG]
          have d35:C 9 (bvA 15 2800) ⟨faB h.length H.length zs i x++[(83,.pv (I64 x)),(86,.pv (.ptr bw 3)),(88,.pv (I64 x)),(90,.pv (I64 k))],H7⟩:=by
           refine hC.fork [(0,(bvA 15 2801)),(8,(bvA 15 3056)),(12,(bvA 15 6896))] ?_ ⟨?_,?_,?_,trivial⟩
           ·kernel_rfl
           ·simp[oe0,fG]
            refine hC.take 1 (bvA 15 2803) ?_ ?_
            ·kernel_rfl
            simp[oe1,fG]
            refine hC.take 2 (bvA 15 2807) ?_ ?_
            ·kernel_rfl
            simp[oe2,fG]
            refine hC.kp d22 ?_ ?_<;>simp[fG]
           ·simp[oe8,fG]
            refine hC.kp d32 ?_ ?_<;>simp[fG]
           ·simp[oe12,fG]
            refine hC.kp d34 ?_ ?_<;>simp[fG]
          have d36:C 10 (bvA 15 752) ⟨faB h.length H.length zs i x++[(83,.pv (I64 x)),(86,.pv (.ptr bw 3)),(88,.pv (I64 x))],H7⟩:=by
           refine hC.fork [(0,(bvA 15 753)),(8,(bvA 15 1008)),(11,(bvA 15 2800))] ?_ ⟨?_,?_,?_,trivial⟩
           ·kernel_rfl
           ·simp[oe0,fG]
            refine hC.take 1 (bvA 15 755) ?_ ?_
            ·kernel_rfl
            simp[oe1,fG]
            refine hC.take 2 (bvA 15 759) ?_ ?_
            ·kernel_rfl
            simp[oe2,fG]
            refine hC.kp d23 ?_ ?_<;>simp[fG]
           ·simp[oe8,fG]
            refine hC.kp d33 ?_ ?_<;>simp[fG]
           ·simp[oe11,fG]
            refine hC.kp d35 ?_ ?_<;>simp[fG]
          have d37:C 11 (bvA 15 6672) ⟨faB h.length H.length zs i x++[(83,.pv (I64 x)),(88,.pv (I64 x)),(91,.own true 1 [[I64 k]])],H7⟩:=by
           refine hC.fork [(0,(bvA 15 6673)),(5,(bvA 15 6704))] ?_ ⟨?_,?_,trivial⟩
           ·kernel_rfl
           ·simp[oe0,fG]
            refine hC.take 1 (bvA 15 6675) ?_ ?_
            ·kernel_rfl
            simp[oe1,fG]
            refine hC.take 2 (bvA 15 6679) ?_ ?_
            ·kernel_rfl
            simp[oe2,fG]
            refine hC.kp d24 ?_ ?_<;>simp[fG]
           ·simp[oe5,fG]
            refine hC.take 6 (bvA 15 6768) ?_ ?_
            ·kernel_rfl
            simp[oe6,fG]
            refine hC.take 7 (bvA 15 6896) ?_ ?_
            ·kernel_rfl
            simp[oe7,fG]
            refine hC.kp d34 ?_ ?_<;>simp[fG]
          have d38:C 12 (bvA 15 2576) ⟨faB h.length H.length zs i x++[(83,.pv (I64 x)),(88,.pv (I64 x)),(90,.pv (I64 k))],H7⟩:=by
           refine hC.fork [(0,(bvA 15 2577)),(5,(bvA 15 2608)),(12,(bvA 15 6672))] ?_ ⟨?_,?_,?_,trivial⟩
           ·kernel_rfl
           ·simp[oe0,fG]
            refine hC.take 1 (bvA 15 2579) ?_ ?_
            ·kernel_rfl
            simp[oe1,fG]
            refine hC.take 2 (bvA 15 2583) ?_ ?_
            ·kernel_rfl
            simp[oe2,fG]
            refine hC.kp d25 ?_ ?_<;>simp[fG]
           ·simp[oe5,fG]
            refine hC.take 6 (bvA 15 2672) ?_ ?_
            ·kernel_rfl
            simp[oe6,fG]
            refine hC.take 7 (bvA 15 2800) ?_ ?_
            ·kernel_rfl
            simp[oe7,fG]
            refine hC.kp d35 ?_ ?_<;>simp[fG]
           ·simp[oe12,fG]
            refine hC.kp d37 ?_ ?_<;>simp[fG]
          have d39:C 13 (bvA 15 528) ⟨faB h.length H.length zs i x++[(83,.pv (I64 x)),(88,.pv (I64 x))],H7⟩:=by
           refine hC.fork [(0,(bvA 15 529)),(5,(bvA 15 560)),(11,(bvA 15 2576))] ?_ ⟨?_,?_,?_,trivial⟩
           ·kernel_rfl
           ·simp[oe0,fG]
            refine hC.take 1 (bvA 15 531) ?_ ?_
            ·kernel_rfl
            simp[oe1,fG]
            refine hC.take 2 (bvA 15 535) ?_ ?_
            ·kernel_rfl
            simp[oe2,fG]
            refine hC.kp d26 ?_ ?_<;>simp[fG]
           ·simp[oe5,fG]
            refine hC.take 6 (bvA 15 624) ?_ ?_
            ·kernel_rfl
            simp[oe6,fG]
            refine hC.take 7 (bvA 15 752) ?_ ?_
            ·kernel_rfl
            simp[oe7,fG]
            refine hC.kp d36 ?_ ?_<;>simp[fG]
           ·simp[oe11,fG]
            refine hC.kp d38 ?_ ?_<;>simp[fG]
          refine hC.take 4 (bvA 15 16) ?_ ?_
          ·kernel_rfl
          simp[oe4,fG]
          refine hC.take 9 (bvA 15 528) ?_ ?_
          ·kernel_rfl
          simp[oe9,fG]
          refine hC.kp d39 ?_ ?_<;>simp[fG]
        rintro x2 hj2
        obtain⟨j1,j2⟩:=hfin x2 hj2
        simp
        exact⟨(i+1,x2.1,x2.2,movS S' k l p x,T'),by(try dsimp only);omega,⟨by(try dsimp only);omega,j1,hJn,j2,hZ⟩,Weak.keep (by simp[hw']) rfl⟩
      |some e2=>
        obtain⟨zq,hzq,⟨sp2,e21,e22,e23,e24,e25⟩,n2e,e27,e28⟩:=L7.by' x e2 hl2
        obtain⟨v2a,v2b⟩:=List.getElem?_eq_some_iff.1 e21
        have hst:movS S' k l p x=⟨pt S'.prs k (movP l p x),pt (forB S'.byl k l) x (zq++[k]),S'.late,S'.head,S'.seen⟩:=by
          unfold movS addB
          rw[show lk (forB S'.byl k l) x=some zq from hzq];rfl
        have hil:(icells zq).length=e2.n:=by rw[icells_len];exact e23
        have hzn:e2.n≤1000000:=by rw[←e23];exact hzB x zq hzq
        have hde:DomW bw bt mp mb7 e2.b:=.inr (.inr (.inr ⟨x,e2,hl2,rfl⟩))
        have n70:e2.b≠h.length:=fun q=>n7 (q▸hde)
        have belD:∀m (s0:List SV),belowC m s0→belowC m (s0.drop 1):=fun m s0 hs0=>by cases s0 with|nil=>exact hs0|cons _ _=>exact hs0.2
        have hYl:(icells zq++sp2).length=e2.n+sp2.length:=by rw[List.length_append,hil]
        have hT1:(icells zq++sp2).take e2.n=icells zq:=List.take_left' hil
        have hT2:(icells zq++sp2).take e2.n=(zq.map fun z=>PV.lit (.int .i64 z)).map SV.pv:=by rw[hT1];unfold icells;rw[List.map_map];rfl
        have hcat:∀R:List SV,icells (zq++[k])++R=icells zq++SV.pv (I64 k)::R:=fun R=>by unfold icells;rw[List.map_append,List.append_assoc];rfl
        have hD1:(icells zq++sp2).drop (e2.n+1)=sp2.drop 1:=by rw[←hil,List.drop_append];simp
        have hroom:e2.n+1≤e2.cp→(H7.set e2.b (List.take e2.n (icells zq++sp2)++SV.pv (I64 k)::List.drop (e2.n+1) (icells zq++sp2)))[bw]?=some (wtB ba bt ⟨mp,mb7,S'.late,S'.head,S'.seen⟩)∧(H7.set e2.b (List.take e2.n (icells zq++sp2)++SV.pv (I64 k)::List.drop (e2.n+1) (icells zq++sp2)))[h.length]?=some [.pv (.ptr bw 0)]∧
            JE ((H7.set e2.b (List.take e2.n (icells zq++sp2)++SV.pv (I64 k)::List.drop (e2.n+1) (icells zq++sp2))).set bw (wtB ba bt ⟨mp,pt mb7 x ⟨e2.b,e2.n+1,e2.cp⟩,S'.late,S'.head,S'.seen⟩)) (pt mb7 x ⟨e2.b,e2.n+1,e2.cp⟩):=fun hr=>by
          refine⟨by rw[List.getElem?_set_ne n2e];exact L7.w,by rw[List.getElem?_set_ne n70,h8n?],(hJE _ _).2 ⟨?_,?_⟩⟩
          · rw[hT1,hD1,←hcat,hst]
            exact L7.setB hl2 (zq++[k]) (sp2.drop 1) (fun m=>belD m sp2 (e22 m)) (e2.n+1) (by simp;omega) hr (by rw[List.length_drop];omega)
          · refine(((Ext.set e2.b _ hde).trans (Ext.set bw _ (.inl rfl))).dom (dom _ fun c hc q=>?_))
            exact⟨x,e2,hl2,q⟩
        have hgrow:∀cap,e2.n+1≤cap→(H7++[(zq.map fun z=>PV.lit (.int .i64 z)).map SV.pv++SV.pv (I64 k)::List.replicate (cap -(e2.n+1)) (SV.pv .bot)])[bw]?=some (wtB ba bt ⟨mp,mb7,S'.late,S'.head,S'.seen⟩)∧(H7++[(zq.map fun z=>PV.lit (.int .i64 z)).map SV.pv++SV.pv (I64 k)::List.replicate (cap -(e2.n+1)) (SV.pv .bot)])[h.length]?=some [.pv (.ptr bw 0)]∧
            JE ((H7++[(zq.map fun z=>PV.lit (.int .i64 z)).map SV.pv++SV.pv (I64 k)::List.replicate (cap -(e2.n+1)) (SV.pv .bot)]).set bw (wtB ba bt ⟨mp,pt mb7 x ⟨H7.length,e2.n+1,cap⟩,S'.late,S'.head,S'.seen⟩)) (pt mb7 x ⟨H7.length,e2.n+1,cap⟩):=fun cap hc=>by
          refine⟨by rw[List.getElem?_append_left h8a];exact L7.w,by rw[List.getElem?_append_left h8c,h8n?],(hJE _ _).2 ⟨?_,?_⟩⟩
          · rw[hst,←hT2,hT1,←hcat]
            exact L7.newB x (zq++[k]) (List.replicate (cap -(e2.n+1)) (SV.pv .bot)) (fun m=>belowC_repW m _) (e2.n+1) cap (by simp;omega) hc (by simp;omega)
          · refine(((Ext.app H7 _ _).trans (Ext.set bw _ (.inl rfl))).dom (dom _ fun c hc q=>?_))
            simp only at q;omega
        clear hT1 hD1 hcat
        generalize hYc:icells zq++sp2=Yc at*
        have fG:=And.intro waU (And.intro h8a (And.intro h8b (And.intro h8c (And.intro h8d (And.intro h8e (And.intro h8f (And.intro hl2 (And.intro v2a (And.intro v2b (And.intro n2e n2e.symm))))))))))
        refine AAnyD.dagE [92] (fun x2:List (List SV)×List (Int×By)=>⟨[(2,.pv (.ptr h.length 0)),(3,.pv (.ptr (h.length+1) 0)),(5,.own true 1 (irow zs)),(6,.pv (.fn (.func 137) [] [.ptr (h.length+1) 0,.ptr h.length 0])),(8,.pv (.ptr H.length 0)),(13,.pv (I64 x)),(22,.al (.slot 5)),(23,.pv (I64 zs.length)),(24,.pv (I64 i))],x2.1⟩) (fun x2=>JE x2.1 x2.2) 15 (bvA 15 0) (by kernel_rfl) (fun stp stM hstp hstM C hC=>?_) ?_
        · have oe0:=hstM 0
          have oe1:=hstp 1
          have oe2:=hstp 2
          have oe3:=hstM 3
          have oe4:=hstp 4
          have oe5:=hstM 5
          have oe6:=hstp 6
          have oe7:=hstp 7
          have oe8:=hstM 8
          have oe9:=hstp 9
          have oe10:=hstM 10
          have oe11:=hstM 11
          have oe12:=hstM 12
          have oe13:=hstM 13
          have oe14:=hstM 14
          simp only[AStepMI,AStepM,blkOf,cutOfB,AStepI,AStep,AEx,gslot,boxedIn,List.getElem?_cons_zero,List.getElem?_cons_succ,Option.bind_some,Bool.or_false,Bool.false_or,Bool.or_true,Bool.true_or,Bool.false_and,Bool.true_and,Bool.false_eq_true,if_false]at oe0 oe1 oe2 oe3 oe4 oe5 oe6 oe7 oe8 oe9 oe10 oe11 oe12 oe13 oe14
          clear hstp hstM
          have d0:∀(Y:List (List SV)) (y:By) (hY:Y[bw]?=some (wtB ba bt ⟨mp,mb7,S'.late,S'.head,S'.seen⟩)∧Y[h.length]?=some [.pv (.ptr bw 0)]∧JE (Y.set bw (wtB ba bt ⟨mp,pt mb7 x y,S'.late,S'.head,S'.seen⟩)) (pt mb7 x y)),C 0 (bvA 15 32767) ⟨faB h.length H.length zs i x++[],Y.set bw (wtB ba bt ⟨mp,pt mb7 x y,S'.late,S'.head,S'.seen⟩)⟩:=by
           intro Y y hY
           have fU:=waU
           have hY2:=hY
           obtain⟨yw,yb,yj⟩:=hY2
           obtain⟨yw1,yw2⟩:=List.getElem?_eq_some_iff.1 yw
           obtain⟨yb1,yb2⟩:=List.getElem?_eq_some_iff.1 yb
           refine hC.done _ _ _ ?_ ?_
           ·kernel_rfl
           exact⟨(Y.set bw (wtB ba bt ⟨mp,pt mb7 x y,S'.late,S'.head,S'.seen⟩),pt mb7 x y),yj,Weak.keep (by simp[faB]) rfl⟩
          have d1:∀(Y:List (List SV)) (y:By) (hY:Y[bw]?=some (wtB ba bt ⟨mp,mb7,S'.late,S'.head,S'.seen⟩)∧Y[h.length]?=some [.pv (.ptr bw 0)]∧JE (Y.set bw (wtB ba bt ⟨mp,pt mb7 x y,S'.late,S'.head,S'.seen⟩)) (pt mb7 x y)),C 1 (bvA 15 16383) ⟨faB h.length H.length zs i x++[(82,.al (.cell bw 3)),(83,.pv (I64 x)),(92,.pv (.bsl y.b 1 0 y.n y.cp))],Y⟩:=by
           intro Y y hY
           have fU:=waU
           have hY2:=hY
           obtain⟨yw,yb,yj⟩:=hY2
           obtain⟨yw1,yw2⟩:=List.getElem?_eq_some_iff.1 yw
           obtain⟨yb1,yb2⟩:=List.getElem?_eq_some_iff.1 yb
           refine hC.fork [(14,(bvA 15 32767))] ?_ ⟨?_,trivial⟩
           ·kernel_rfl
           ·simp[oe14,yw1,yw2,yb1,yb2,fU]
            refine hC.kp (d0 Y y hY) ?_ ?_<;>simp[yw1,yw2,yb1,yb2,fU]
          have d2:C 2 (bvA 15 8191) ⟨faB h.length H.length zs i x++[(82,.al (.cell bw 3)),(83,.pv (I64 x)),(89,.pv (.bsl e2.b 1 0 e2.n e2.cp)),(91,.own true 1 [[I64 k]])],H7⟩:=by
           refine hC.fork [(13,(bvA 15 16383))] ?_ ⟨?_,trivial⟩
           ·kernel_rfl
           ·simp[oe13,fG]
            first|omega|skip
            refine⟨by omega,by omega,_,hT2,by simpa using e23,fun hr=>?_,fun hn cap hc=>?_⟩
            · refine hC.weak (d1 _ ⟨e2.b,e2.n+1,e2.cp⟩ (hroom hr)) (Weak.keep ?_ ?_)<;>simp[faB]
            · refine hC.weak (d1 _ ⟨H7.length,e2.n+1,cap⟩ (hgrow cap hc)) (Weak.keep ?_ ?_)<;>simp[faB]
          have d3:C 3 (bvA 15 4095) ⟨faB h.length H.length zs i x++[(82,.al (.cell bw 3)),(83,.pv (I64 x)),(89,.pv (.bsl e2.b 1 0 e2.n e2.cp)),(90,.pv (I64 k))],H7⟩:=by
           refine hC.fork [(12,(bvA 15 8191))] ?_ ⟨?_,trivial⟩
           ·kernel_rfl
           ·simp[oe12,fG]
            refine hC.kp d2 ?_ ?_<;>simp[fG]
          have d4:C 4 (bvA 15 2047) ⟨faB h.length H.length zs i x++[(82,.al (.cell bw 3)),(83,.pv (I64 x)),(89,.pv (.bsl e2.b 1 0 e2.n e2.cp))],H7⟩:=by
           refine hC.fork [(11,(bvA 15 4095))] ?_ ⟨?_,trivial⟩
           ·kernel_rfl
           ·simp[oe11,fG]
            refine hC.kp d3 ?_ ?_<;>simp[fG]
          have d5:C 3 (bvA 15 7167) ⟨faB h.length H.length zs i x++[(82,.al (.cell bw 3)),(83,.pv (I64 x)),(87,.al (.cell bw 3)),(88,.pv (I64 x)),(91,.own true 1 [[I64 k]])],H7⟩:=by
           refine hC.fork [(10,(bvA 15 8191))] ?_ ⟨?_,trivial⟩
           ·kernel_rfl
           ·simp[oe10,fG]
            refine hC.kp d2 ?_ ?_<;>simp[fG]
          have d6:C 4 (bvA 15 3071) ⟨faB h.length H.length zs i x++[(82,.al (.cell bw 3)),(83,.pv (I64 x)),(87,.al (.cell bw 3)),(88,.pv (I64 x)),(90,.pv (I64 k))],H7⟩:=by
           refine hC.fork [(10,(bvA 15 4095)),(12,(bvA 15 7167))] ?_ ⟨?_,?_,trivial⟩
           ·kernel_rfl
           ·simp[oe10,fG]
            refine hC.kp d3 ?_ ?_<;>simp[fG]
           ·simp[oe12,fG]
            refine hC.kp d5 ?_ ?_<;>simp[fG]
          have d7:C 5 (bvA 15 1023) ⟨faB h.length H.length zs i x++[(82,.al (.cell bw 3)),(83,.pv (I64 x)),(87,.al (.cell bw 3)),(88,.pv (I64 x))],H7⟩:=by
           refine hC.fork [(10,(bvA 15 2047)),(11,(bvA 15 3071))] ?_ ⟨?_,?_,trivial⟩
           ·kernel_rfl
           ·simp[oe10,fG]
            refine hC.kp d4 ?_ ?_<;>simp[fG]
           ·simp[oe11,fG]
            refine hC.kp d6 ?_ ?_<;>simp[fG]
          have d8:C 4 (bvA 15 6911) ⟨faB h.length H.length zs i x++[(82,.al (.cell bw 3)),(83,.pv (I64 x)),(86,.pv (.ptr bw 3)),(88,.pv (I64 x)),(91,.own true 1 [[I64 k]])],H7⟩:=by
           refine hC.fork [(8,(bvA 15 7167))] ?_ ⟨?_,trivial⟩
           ·kernel_rfl
           ·simp[oe8,fG]
            refine hC.kp d5 ?_ ?_<;>simp[fG]
          have d9:C 5 (bvA 15 2815) ⟨faB h.length H.length zs i x++[(82,.al (.cell bw 3)),(83,.pv (I64 x)),(86,.pv (.ptr bw 3)),(88,.pv (I64 x)),(90,.pv (I64 k))],H7⟩:=by
           refine hC.fork [(8,(bvA 15 3071)),(12,(bvA 15 6911))] ?_ ⟨?_,?_,trivial⟩
           ·kernel_rfl
           ·simp[oe8,fG]
            refine hC.kp d6 ?_ ?_<;>simp[fG]
           ·simp[oe12,fG]
            refine hC.kp d8 ?_ ?_<;>simp[fG]
          have d10:C 6 (bvA 15 767) ⟨faB h.length H.length zs i x++[(82,.al (.cell bw 3)),(83,.pv (I64 x)),(86,.pv (.ptr bw 3)),(88,.pv (I64 x))],H7⟩:=by
           refine hC.fork [(8,(bvA 15 1023)),(11,(bvA 15 2815))] ?_ ⟨?_,?_,trivial⟩
           ·kernel_rfl
           ·simp[oe8,fG]
            refine hC.kp d7 ?_ ?_<;>simp[fG]
           ·simp[oe11,fG]
            refine hC.kp d9 ?_ ?_<;>simp[fG]
          have d11:C 7 (bvA 15 6687) ⟨faB h.length H.length zs i x++[(82,.al (.cell bw 3)),(83,.pv (I64 x)),(88,.pv (I64 x)),(91,.own true 1 [[I64 k]])],H7⟩:=by
           refine hC.fork [(5,(bvA 15 6719))] ?_ ⟨?_,trivial⟩
           ·kernel_rfl
           ·simp[oe5,fG]
            refine hC.take 6 (bvA 15 6783) ?_ ?_
            ·kernel_rfl
            simp[oe6,fG]
            refine hC.take 7 (bvA 15 6911) ?_ ?_
            ·kernel_rfl
            simp[oe7,fG]
            refine hC.kp d8 ?_ ?_<;>simp[fG]
          have d12:C 8 (bvA 15 2591) ⟨faB h.length H.length zs i x++[(82,.al (.cell bw 3)),(83,.pv (I64 x)),(88,.pv (I64 x)),(90,.pv (I64 k))],H7⟩:=by
           refine hC.fork [(5,(bvA 15 2623)),(12,(bvA 15 6687))] ?_ ⟨?_,?_,trivial⟩
           ·kernel_rfl
           ·simp[oe5,fG]
            refine hC.take 6 (bvA 15 2687) ?_ ?_
            ·kernel_rfl
            simp[oe6,fG]
            refine hC.take 7 (bvA 15 2815) ?_ ?_
            ·kernel_rfl
            simp[oe7,fG]
            refine hC.kp d9 ?_ ?_<;>simp[fG]
           ·simp[oe12,fG]
            refine hC.kp d11 ?_ ?_<;>simp[fG]
          have d13:C 9 (bvA 15 543) ⟨faB h.length H.length zs i x++[(82,.al (.cell bw 3)),(83,.pv (I64 x)),(88,.pv (I64 x))],H7⟩:=by
           refine hC.fork [(5,(bvA 15 575)),(11,(bvA 15 2591))] ?_ ⟨?_,?_,trivial⟩
           ·kernel_rfl
           ·simp[oe5,fG]
            refine hC.take 6 (bvA 15 639) ?_ ?_
            ·kernel_rfl
            simp[oe6,fG]
            refine hC.take 7 (bvA 15 767) ?_ ?_
            ·kernel_rfl
            simp[oe7,fG]
            refine hC.kp d10 ?_ ?_<;>simp[fG]
           ·simp[oe11,fG]
            refine hC.kp d12 ?_ ?_<;>simp[fG]
          have d14:∀(Y:List (List SV)) (y:By) (hY:Y[bw]?=some (wtB ba bt ⟨mp,mb7,S'.late,S'.head,S'.seen⟩)∧Y[h.length]?=some [.pv (.ptr bw 0)]∧JE (Y.set bw (wtB ba bt ⟨mp,pt mb7 x y,S'.late,S'.head,S'.seen⟩)) (pt mb7 x y)),C 2 (bvA 15 16375) ⟨faB h.length H.length zs i x++[(81,.pv (.ptr bw 3)),(83,.pv (I64 x)),(92,.pv (.bsl y.b 1 0 y.n y.cp))],Y⟩:=by
           intro Y y hY
           have fU:=waU
           have hY2:=hY
           obtain⟨yw,yb,yj⟩:=hY2
           obtain⟨yw1,yw2⟩:=List.getElem?_eq_some_iff.1 yw
           obtain⟨yb1,yb2⟩:=List.getElem?_eq_some_iff.1 yb
           refine hC.fork [(3,(bvA 15 16383))] ?_ ⟨?_,trivial⟩
           ·kernel_rfl
           ·simp[oe3,yw1,yw2,yb1,yb2,fU]
            refine hC.kp (d1 Y y hY) ?_ ?_<;>simp[yw1,yw2,yb1,yb2,fU]
          have d15:C 3 (bvA 15 8183) ⟨faB h.length H.length zs i x++[(81,.pv (.ptr bw 3)),(83,.pv (I64 x)),(89,.pv (.bsl e2.b 1 0 e2.n e2.cp)),(91,.own true 1 [[I64 k]])],H7⟩:=by
           refine hC.fork [(3,(bvA 15 8191)),(13,(bvA 15 16375))] ?_ ⟨?_,?_,trivial⟩
           ·kernel_rfl
           ·simp[oe3,fG]
            refine hC.kp d2 ?_ ?_<;>simp[fG]
           ·simp[oe13,fG]
            first|omega|skip
            refine⟨by omega,by omega,_,hT2,by simpa using e23,fun hr=>?_,fun hn cap hc=>?_⟩
            · refine hC.weak (d14 _ ⟨e2.b,e2.n+1,e2.cp⟩ (hroom hr)) (Weak.keep ?_ ?_)<;>simp[faB]
            · refine hC.weak (d14 _ ⟨H7.length,e2.n+1,cap⟩ (hgrow cap hc)) (Weak.keep ?_ ?_)<;>simp[faB]
          have d16:C 4 (bvA 15 4087) ⟨faB h.length H.length zs i x++[(81,.pv (.ptr bw 3)),(83,.pv (I64 x)),(89,.pv (.bsl e2.b 1 0 e2.n e2.cp)),(90,.pv (I64 k))],H7⟩:=by
           refine hC.fork [(3,(bvA 15 4095)),(12,(bvA 15 8183))] ?_ ⟨?_,?_,trivial⟩
           ·kernel_rfl
           ·simp[oe3,fG]
            refine hC.kp d3 ?_ ?_<;>simp[fG]
           ·simp[oe12,fG]
            refine hC.kp d15 ?_ ?_<;>simp[fG]
          have d17:C 5 (bvA 15 2039) ⟨faB h.length H.length zs i x++[(81,.pv (.ptr bw 3)),(83,.pv (I64 x)),(89,.pv (.bsl e2.b 1 0 e2.n e2.cp))],H7⟩:=by
           refine hC.fork [(3,(bvA 15 2047)),(11,(bvA 15 4087))] ?_ ⟨?_,?_,trivial⟩
           ·kernel_rfl
           ·simp[oe3,fG]
            refine hC.kp d4 ?_ ?_<;>simp[fG]
           ·simp[oe11,fG]
            refine hC.kp d16 ?_ ?_<;>simp[fG]
          have d18:C 4 (bvA 15 7159) ⟨faB h.length H.length zs i x++[(81,.pv (.ptr bw 3)),(83,.pv (I64 x)),(87,.al (.cell bw 3)),(88,.pv (I64 x)),(91,.own true 1 [[I64 k]])],H7⟩:=by
           refine hC.fork [(3,(bvA 15 7167)),(10,(bvA 15 8183))] ?_ ⟨?_,?_,trivial⟩
           ·kernel_rfl
           ·simp[oe3,fG]
            refine hC.kp d5 ?_ ?_<;>simp[fG]
           ·simp[oe10,fG]
            refine hC.kp d15 ?_ ?_<;>simp[fG]
          have d19:C 5 (bvA 15 3063) ⟨faB h.length H.length zs i x++[(81,.pv (.ptr bw 3)),(83,.pv (I64 x)),(87,.al (.cell bw 3)),(88,.pv (I64 x)),(90,.pv (I64 k))],H7⟩:=by
           refine hC.fork [(3,(bvA 15 3071)),(10,(bvA 15 4087)),(12,(bvA 15 7159))] ?_ ⟨?_,?_,?_,trivial⟩
           ·kernel_rfl
           ·simp[oe3,fG]
            refine hC.kp d6 ?_ ?_<;>simp[fG]
           ·simp[oe10,fG]
            refine hC.kp d16 ?_ ?_<;>simp[fG]
           ·simp[oe12,fG]
            refine hC.kp d18 ?_ ?_<;>simp[fG]
          have d20:C 6 (bvA 15 1015) ⟨faB h.length H.length zs i x++[(81,.pv (.ptr bw 3)),(83,.pv (I64 x)),(87,.al (.cell bw 3)),(88,.pv (I64 x))],H7⟩:=by
           refine hC.fork [(3,(bvA 15 1023)),(10,(bvA 15 2039)),(11,(bvA 15 3063))] ?_ ⟨?_,?_,?_,trivial⟩
           ·kernel_rfl
           ·simp[oe3,fG]
            refine hC.kp d7 ?_ ?_<;>simp[fG]
           ·simp[oe10,fG]
            refine hC.kp d17 ?_ ?_<;>simp[fG]
           ·simp[oe11,fG]
            refine hC.kp d19 ?_ ?_<;>simp[fG]
          have d21:C 5 (bvA 15 6903) ⟨faB h.length H.length zs i x++[(81,.pv (.ptr bw 3)),(83,.pv (I64 x)),(86,.pv (.ptr bw 3)),(88,.pv (I64 x)),(91,.own true 1 [[I64 k]])],H7⟩:=by
           refine hC.fork [(3,(bvA 15 6911)),(8,(bvA 15 7159))] ?_ ⟨?_,?_,trivial⟩
           ·kernel_rfl
           ·simp[oe3,fG]
            refine hC.kp d8 ?_ ?_<;>simp[fG]
           ·simp[oe8,fG]
            refine hC.kp d18 ?_ ?_<;>simp[fG]
          have d22:C 6 (bvA 15 2807) ⟨faB h.length H.length zs i x++[(81,.pv (.ptr bw 3)),(83,.pv (I64 x)),(86,.pv (.ptr bw 3)),(88,.pv (I64 x)),(90,.pv (I64 k))],H7⟩:=by
           refine hC.fork [(3,(bvA 15 2815)),(8,(bvA 15 3063)),(12,(bvA 15 6903))] ?_ ⟨?_,?_,?_,trivial⟩
           ·kernel_rfl
           ·simp[oe3,fG]
            refine hC.kp d9 ?_ ?_<;>simp[fG]
           ·simp[oe8,fG]
            refine hC.kp d19 ?_ ?_<;>simp[fG]
           ·simp[oe12,fG]
            refine hC.kp d21 ?_ ?_<;>simp[fG]
          have d23:C 7 (bvA 15 759) ⟨faB h.length H.length zs i x++[(81,.pv (.ptr bw 3)),(83,.pv (I64 x)),(86,.pv (.ptr bw 3)),(88,.pv (I64 x))],H7⟩:=by
           refine hC.fork [(3,(bvA 15 767)),(8,(bvA 15 1015)),(11,(bvA 15 2807))] ?_ ⟨?_,?_,?_,trivial⟩
           ·kernel_rfl
           ·simp[oe3,fG]
            refine hC.kp d10 ?_ ?_<;>simp[fG]
           ·simp[oe8,fG]
            refine hC.kp d20 ?_ ?_<;>simp[fG]
           ·simp[oe11,fG]
            refine hC.kp d22 ?_ ?_<;>simp[fG]
          have d24:C 8 (bvA 15 6679) ⟨faB h.length H.length zs i x++[(81,.pv (.ptr bw 3)),(83,.pv (I64 x)),(88,.pv (I64 x)),(91,.own true 1 [[I64 k]])],H7⟩:=by
           refine hC.fork [(3,(bvA 15 6687)),(5,(bvA 15 6711))] ?_ ⟨?_,?_,trivial⟩
           ·kernel_rfl
           ·simp[oe3,fG]
            refine hC.kp d11 ?_ ?_<;>simp[fG]
           ·simp[oe5,fG]
            refine hC.take 6 (bvA 15 6775) ?_ ?_
            ·kernel_rfl
            simp[oe6,fG]
            refine hC.take 7 (bvA 15 6903) ?_ ?_
            ·kernel_rfl
            simp[oe7,fG]
            refine hC.kp d21 ?_ ?_<;>simp[fG]
          have d25:C 9 (bvA 15 2583) ⟨faB h.length H.length zs i x++[(81,.pv (.ptr bw 3)),(83,.pv (I64 x)),(88,.pv (I64 x)),(90,.pv (I64 k))],H7⟩:=by
           refine hC.fork [(3,(bvA 15 2591)),(5,(bvA 15 2615)),(12,(bvA 15 6679))] ?_ ⟨?_,?_,?_,trivial⟩
           ·kernel_rfl
           ·simp[oe3,fG]
            refine hC.kp d12 ?_ ?_<;>simp[fG]
           ·simp[oe5,fG]
            refine hC.take 6 (bvA 15 2679) ?_ ?_
            ·kernel_rfl
            simp[oe6,fG]
            refine hC.take 7 (bvA 15 2807) ?_ ?_
            ·kernel_rfl
            simp[oe7,fG]
            refine hC.kp d22 ?_ ?_<;>simp[fG]
           ·simp[oe12,fG]
            refine hC.kp d24 ?_ ?_<;>simp[fG]
          have d26:C 10 (bvA 15 535) ⟨faB h.length H.length zs i x++[(81,.pv (.ptr bw 3)),(83,.pv (I64 x)),(88,.pv (I64 x))],H7⟩:=by
           refine hC.fork [(3,(bvA 15 543)),(5,(bvA 15 567)),(11,(bvA 15 2583))] ?_ ⟨?_,?_,?_,trivial⟩
           ·kernel_rfl
           ·simp[oe3,fG]
            refine hC.kp d13 ?_ ?_<;>simp[fG]
           ·simp[oe5,fG]
            refine hC.take 6 (bvA 15 631) ?_ ?_
            ·kernel_rfl
            simp[oe6,fG]
            refine hC.take 7 (bvA 15 759) ?_ ?_
            ·kernel_rfl
            simp[oe7,fG]
            refine hC.kp d23 ?_ ?_<;>simp[fG]
           ·simp[oe11,fG]
            refine hC.kp d25 ?_ ?_<;>simp[fG]
          have d27:∀(Y:List (List SV)) (y:By) (hY:Y[bw]?=some (wtB ba bt ⟨mp,mb7,S'.late,S'.head,S'.seen⟩)∧Y[h.length]?=some [.pv (.ptr bw 0)]∧JE (Y.set bw (wtB ba bt ⟨mp,pt mb7 x y,S'.late,S'.head,S'.seen⟩)) (pt mb7 x y)),C 5 (bvA 15 16368) ⟨faB h.length H.length zs i x++[(83,.pv (I64 x)),(92,.pv (.bsl y.b 1 0 y.n y.cp))],Y⟩:=by
           intro Y y hY
           have fU:=waU
           have hY2:=hY
           obtain⟨yw,yb,yj⟩:=hY2
           obtain⟨yw1,yw2⟩:=List.getElem?_eq_some_iff.1 yw
           obtain⟨yb1,yb2⟩:=List.getElem?_eq_some_iff.1 yb
           refine hC.fork [(0,(bvA 15 16369))] ?_ ⟨?_,trivial⟩
           ·kernel_rfl
           ·simp[oe0,yw1,yw2,yb1,yb2,fU]
            refine hC.take 1 (bvA 15 16371) ?_ ?_
            ·kernel_rfl
            simp[oe1,yw1,yw2,yb1,yb2,fU]
            refine hC.take 2 (bvA 15 16375) ?_ ?_
            ·kernel_rfl
            simp[oe2,yw1,yw2,yb1,yb2,fU]
            refine hC.kp (d14 Y y hY) ?_ ?_<;>simp[yw1,yw2,yb1,yb2,fU]
          have d28:C 6 (bvA 15 8176) ⟨faB h.length H.length zs i x++[(83,.pv (I64 x)),(89,.pv (.bsl e2.b 1 0 e2.n e2.cp)),(91,.own true 1 [[I64 k]])],H7⟩:=by
           refine hC.fork [(0,(bvA 15 8177)),(13,(bvA 15 16368))] ?_ ⟨?_,?_,trivial⟩
           ·kernel_rfl
           ·simp[oe0,fG]
            refine hC.take 1 (bvA 15 8179) ?_ ?_
            ·kernel_rfl
            simp[oe1,fG]
            refine hC.take 2 (bvA 15 8183) ?_ ?_
            ·kernel_rfl
            simp[oe2,fG]
            refine hC.kp d15 ?_ ?_<;>simp[fG]
           ·simp[oe13,fG]
            first|omega|skip
            refine⟨by omega,by omega,_,hT2,by simpa using e23,fun hr=>?_,fun hn cap hc=>?_⟩
            · refine hC.weak (d27 _ ⟨e2.b,e2.n+1,e2.cp⟩ (hroom hr)) (Weak.keep ?_ ?_)<;>simp[faB]
            · refine hC.weak (d27 _ ⟨H7.length,e2.n+1,cap⟩ (hgrow cap hc)) (Weak.keep ?_ ?_)<;>simp[faB]
          have d29:C 7 (bvA 15 4080) ⟨faB h.length H.length zs i x++[(83,.pv (I64 x)),(89,.pv (.bsl e2.b 1 0 e2.n e2.cp)),(90,.pv (I64 k))],H7⟩:=by
           refine hC.fork [(0,(bvA 15 4081)),(12,(bvA 15 8176))] ?_ ⟨?_,?_,trivial⟩
           ·kernel_rfl
           ·simp[oe0,fG]
            refine hC.take 1 (bvA 15 4083) ?_ ?_
            ·kernel_rfl
            simp[oe1,fG]
            refine hC.take 2 (bvA 15 4087) ?_ ?_
            ·kernel_rfl
            simp[oe2,fG]
            refine hC.kp d16 ?_ ?_<;>simp[fG]
           ·simp[oe12,fG]
            refine hC.kp d28 ?_ ?_<;>simp[fG]
          have d30:C 8 (bvA 15 2032) ⟨faB h.length H.length zs i x++[(83,.pv (I64 x)),(89,.pv (.bsl e2.b 1 0 e2.n e2.cp))],H7⟩:=by
           refine hC.fork [(0,(bvA 15 2033)),(11,(bvA 15 4080))] ?_ ⟨?_,?_,trivial⟩
           ·kernel_rfl
           ·simp[oe0,fG]
            refine hC.take 1 (bvA 15 2035) ?_ ?_
            ·kernel_rfl
            simp[oe1,fG]
            refine hC.take 2 (bvA 15 2039) ?_ ?_
            ·kernel_rfl
            simp[oe2,fG]
            refine hC.kp d17 ?_ ?_<;>simp[fG]
           ·simp[oe11,fG]
            refine hC.kp d29 ?_ ?_<;>simp[fG]
          have d31:C 7 (bvA 15 7152) ⟨faB h.length H.length zs i x++[(83,.pv (I64 x)),(87,.al (.cell bw 3)),(88,.pv (I64 x)),(91,.own true 1 [[I64 k]])],H7⟩:=by
           refine hC.fork [(0,(bvA 15 7153)),(10,(bvA 15 8176))] ?_ ⟨?_,?_,trivial⟩
           ·kernel_rfl
           ·simp[oe0,fG]
            refine hC.take 1 (bvA 15 7155) ?_ ?_
            ·kernel_rfl
            simp[oe1,fG]
            refine hC.take 2 (bvA 15 7159) ?_ ?_
            ·kernel_rfl
            simp[oe2,fG]
            refine hC.kp d18 ?_ ?_<;>simp[fG]
           ·simp[oe10,fG]
            refine hC.kp d28 ?_ ?_<;>simp[fG]
          have d32:C 8 (bvA 15 3056) ⟨faB h.length H.length zs i x++[(83,.pv (I64 x)),(87,.al (.cell bw 3)),(88,.pv (I64 x)),(90,.pv (I64 k))],H7⟩:=by
           refine hC.fork [(0,(bvA 15 3057)),(10,(bvA 15 4080)),(12,(bvA 15 7152))] ?_ ⟨?_,?_,?_,trivial⟩
           ·kernel_rfl
           ·simp[oe0,fG]
            refine hC.take 1 (bvA 15 3059) ?_ ?_
            ·kernel_rfl
            simp[oe1,fG]
            refine hC.take 2 (bvA 15 3063) ?_ ?_
            ·kernel_rfl
            simp[oe2,fG]
            refine hC.kp d19 ?_ ?_<;>simp[fG]
           ·simp[oe10,fG]
            refine hC.kp d29 ?_ ?_<;>simp[fG]
           ·simp[oe12,fG]
            refine hC.kp d31 ?_ ?_<;>simp[fG]
          have d33:C 9 (bvA 15 1008) ⟨faB h.length H.length zs i x++[(83,.pv (I64 x)),(87,.al (.cell bw 3)),(88,.pv (I64 x))],H7⟩:=by
           refine hC.fork [(0,(bvA 15 1009)),(10,(bvA 15 2032)),(11,(bvA 15 3056))] ?_ ⟨?_,?_,?_,trivial⟩
           ·kernel_rfl
           ·simp[oe0,fG]
            refine hC.take 1 (bvA 15 1011) ?_ ?_
            ·kernel_rfl
            simp[oe1,fG]
            refine hC.take 2 (bvA 15 1015) ?_ ?_
            ·kernel_rfl
            simp[oe2,fG]
            refine hC.kp d20 ?_ ?_<;>simp[fG]
           ·simp[oe10,fG]
            refine hC.kp d30 ?_ ?_<;>simp[fG]
           ·simp[oe11,fG]
            refine hC.kp d32 ?_ ?_<;>simp[fG]
          have d34:C 8 (bvA 15 6896) ⟨faB h.length H.length zs i x++[(83,.pv (I64 x)),(86,.pv (.ptr bw 3)),(88,.pv (I64 x)),(91,.own true 1 [[I64 k]])],H7⟩:=by
           refine hC.fork [(0,(bvA 15 6897)),(8,(bvA 15 7152))] ?_ ⟨?_,?_,trivial⟩
           ·kernel_rfl
           ·simp[oe0,fG]
            refine hC.take 1 (bvA 15 6899) ?_ ?_
            ·kernel_rfl
            simp[oe1,fG]
            refine hC.take 2 (bvA 15 6903) ?_ ?_
            ·kernel_rfl
            simp[oe2,fG]
            refine hC.kp d21 ?_ ?_<;>simp[fG]
           ·simp[oe8,fG]
            refine hC.kp d31 ?_ ?_<;>simp[fG]
          have d35:C 9 (bvA 15 2800) ⟨faB h.length H.length zs i x++[(83,.pv (I64 x)),(86,.pv (.ptr bw 3)),(88,.pv (I64 x)),(90,.pv (I64 k))],H7⟩:=by
           refine hC.fork [(0,(bvA 15 2801)),(8,(bvA 15 3056)),(12,(bvA 15 6896))] ?_ ⟨?_,?_,?_,trivial⟩
           ·kernel_rfl
           ·simp[oe0,fG]
            refine hC.take 1 (bvA 15 2803) ?_ ?_
            ·kernel_rfl
            simp[oe1,fG]
            refine hC.take 2 (bvA 15 2807) ?_ ?_
            ·kernel_rfl
            simp[oe2,fG]
            refine hC.kp d22 ?_ ?_<;>simp[fG]
           ·simp[oe8,fG]
            refine hC.kp d32 ?_ ?_<;>simp[fG]
           ·simp[oe12,fG]
            refine hC.kp d34 ?_ ?_<;>simp[fG]
          have d36:C 10 (bvA 15 752) ⟨faB h.length H.length zs i x++[(83,.pv (I64 x)),(86,.pv (.ptr bw 3)),(88,.pv (I64 x))],H7⟩:=by
           refine hC.fork [(0,(bvA 15 753)),(8,(bvA 15 1008)),(11,(bvA 15 2800))] ?_ ⟨?_,?_,?_,trivial⟩
           ·kernel_rfl
           ·simp[oe0,fG]
            refine hC.take 1 (bvA 15 755) ?_ ?_
            ·kernel_rfl
            simp[oe1,fG]
            refine hC.take 2 (bvA 15 759) ?_ ?_
            ·kernel_rfl
            simp[oe2,fG]
            refine hC.kp d23 ?_ ?_<;>simp[fG]
           ·simp[oe8,fG]
            refine hC.kp d33 ?_ ?_<;>simp[fG]
           ·simp[oe11,fG]
            refine hC.kp d35 ?_ ?_<;>simp[fG]
          have d37:C 11 (bvA 15 6672) ⟨faB h.length H.length zs i x++[(83,.pv (I64 x)),(88,.pv (I64 x)),(91,.own true 1 [[I64 k]])],H7⟩:=by
           refine hC.fork [(0,(bvA 15 6673)),(5,(bvA 15 6704))] ?_ ⟨?_,?_,trivial⟩
           ·kernel_rfl
           ·simp[oe0,fG]
            refine hC.take 1 (bvA 15 6675) ?_ ?_
            ·kernel_rfl
            simp[oe1,fG]
            refine hC.take 2 (bvA 15 6679) ?_ ?_
            ·kernel_rfl
            simp[oe2,fG]
            refine hC.kp d24 ?_ ?_<;>simp[fG]
           ·simp[oe5,fG]
            refine hC.take 6 (bvA 15 6768) ?_ ?_
            ·kernel_rfl
            simp[oe6,fG]
            refine hC.take 7 (bvA 15 6896) ?_ ?_
            ·kernel_rfl
            simp[oe7,fG]
            refine hC.kp d34 ?_ ?_<;>simp[fG]
          have d38:C 12 (bvA 15 2576) ⟨faB h.length H.length zs i x++[(83,.pv (I64 x)),(88,.pv (I64 x)),(90,.pv (I64 k))],H7⟩:=by
           refine hC.fork [(0,(bvA 15 2577)),(5,(bvA 15 2608)),(12,(bvA 15 6672))] ?_ ⟨?_,?_,?_,trivial⟩
           ·kernel_rfl
           ·simp[oe0,fG]
            refine hC.take 1 (bvA 15 2579) ?_ ?_
            ·kernel_rfl
            simp[oe1,fG]
            refine hC.take 2 (bvA 15 2583) ?_ ?_
            ·kernel_rfl
            simp[oe2,fG]
            refine hC.kp d25 ?_ ?_<;>simp[fG]
           ·simp[oe5,fG]
            refine hC.take 6 (bvA 15 2672) ?_ ?_
            ·kernel_rfl
            simp[oe6,fG]
            refine hC.take 7 (bvA 15 2800) ?_ ?_
            ·kernel_rfl
            simp[oe7,fG]
            refine hC.kp d35 ?_ ?_<;>simp[fG]
           ·simp[oe12,fG]
            refine hC.kp d37 ?_ ?_<;>simp[fG]
          have d39:C 13 (bvA 15 528) ⟨faB h.length H.length zs i x++[(83,.pv (I64 x)),(88,.pv (I64 x))],H7⟩:=by
           refine hC.fork [(0,(bvA 15 529)),(5,(bvA 15 560)),(11,(bvA 15 2576))] ?_ ⟨?_,?_,?_,trivial⟩
           ·kernel_rfl
           ·simp[oe0,fG]
            refine hC.take 1 (bvA 15 531) ?_ ?_
            ·kernel_rfl
            simp[oe1,fG]
            refine hC.take 2 (bvA 15 535) ?_ ?_
            ·kernel_rfl
            simp[oe2,fG]
            refine hC.kp d26 ?_ ?_<;>simp[fG]
           ·simp[oe5,fG]
            refine hC.take 6 (bvA 15 624) ?_ ?_
            ·kernel_rfl
            simp[oe6,fG]
            refine hC.take 7 (bvA 15 752) ?_ ?_
            ·kernel_rfl
            simp[oe7,fG]
            refine hC.kp d36 ?_ ?_<;>simp[fG]
           ·simp[oe11,fG]
            refine hC.kp d38 ?_ ?_<;>simp[fG]
          refine hC.take 4 (bvA 15 16) ?_ ?_
          ·kernel_rfl
          simp[oe4,fG]
          refine hC.take 9 (bvA 15 528) ?_ ?_
          ·kernel_rfl
          simp[oe9,fG]
          refine hC.kp d39 ?_ ?_<;>simp[fG]
        rintro x2 hj2
        obtain⟨j1,j2⟩:=hfin x2 hj2
        simp
        exact⟨(i+1,x2.1,x2.2,movS S' k l p x,T'),by(try dsimp only);omega,⟨by(try dsimp only);omega,j1,hJn,j2,hZ⟩,Weak.keep (by simp[hw']) rfl⟩
  · have:j=p.lits.length:=by omega
    subst this
    rw[List.drop_eq_nil_of_le (Nat.le_refl _),List.find?_nil]at hpj
    have kF:=wforget_ok G2 bw ba bt mp mb' A T' S' L2 k p hS.hp hS.hx hS.hy hS.hz
    have eS:wstS S' T' l k p=freS (lateS (forS S' k p) k) T' k (zerP p):=by unfold wstS;rw[hpj]
    have eT:wstT T' l k p=freT T' k (zerP p):=by unfold wstT;rw[hpj]
    have eB:wstB T' l p=freB T' (zerP p):=by unfold wstB;rw[hpj]
    simp[f1,f2,c1,c2]
    refine CallB.intro kF (by simp) ?_
    rintro _ H3 ⟨rfl,mb3,L3,E3⟩
    have hl2:H.length<G2.length:=f1
    have n2:¬DomW bw bt mp mb' h.length:=hou2 _ (Nat.le_refl _) (by omega)
    have n3:¬DomW bw bt mp mb' (h.length+1):=hou2 _ (by omega) (by omega)
    have r0?:H3[h.length]?=some [.pv (.ptr bw 0)]:=by rw[E3.same h.length c1 n2,p0?]
    have rk?:H3[H.length]?=some [.pv (I64 k)]:=by rw[E3.same H.length f1 houk,hk?]
    obtain⟨s1,s2⟩:=List.getElem?_eq_some_iff.1 L3.w
    obtain⟨t1,t2⟩:=List.getElem?_eq_some_iff.1 r0?
    obtain⟨u1,u2⟩:=List.getElem?_eq_some_iff.1 rk?
    have L4:=L3.setW (pt S'.late k (w64 ((lk S'.late k).getD 0+1))) S'.head S'.seen
    have E4:=Ext.set (h:=H3) (D:=DomW bw bt mp mb3) bw (wtB ba bt ⟨mp,mb3,pt S'.late k (w64 ((lk S'.late k).getD 0+1)),S'.head,S'.seen⟩) (.inl rfl)
    have x0?:(H3.set bw (wtB ba bt ⟨mp,mb3,pt S'.late k (w64 ((lk S'.late k).getD 0+1)),S'.head,S'.seen⟩))[h.length]?=some [.pv (.ptr bw 0)]:=by
      rw[List.getElem?_set_ne (fun q=>n2 (.inl q.symm)),r0?]
    have xk?:(H3.set bw (wtB ba bt ⟨mp,mb3,pt S'.late k (w64 ((lk S'.late k).getD 0+1)),S'.head,S'.seen⟩))[H.length]?=some [.pv (I64 k)]:=by
      rw[List.getElem?_set_ne (fun q=>houk (.inl q.symm)),rk?]
    simp
    refine AAnyD.meet fa18Sch ⟨[(2,.pv (.ptr h.length 0)),(3,.pv (.ptr (h.length+1) 0)),(5,.own true 1 (irow zs)),(6,.pv (.fn (.func 137) [] [.ptr (h.length+1) 0,.ptr h.length 0])),(22,.al (.slot 5)),(23,.pv (I64 zs.length)),(24,.pv (I64 i)),(8,.pv (.ptr H.length 0))],H3.set bw (wtB ba bt ⟨mp,mb3,pt S'.late k (w64 ((lk S'.late k).getD 0+1)),S'.head,S'.seen⟩)⟩ (by kernel_rfl) ?_ ?_
    · simp[fa18Sch,s1,s2,wtB,t1,t2,u1,u2,forS]
      and_intros
      all_goals exact Weak.keep (by simp) (by simp[wtB])
    generalize H3.set bw (wtB ba bt ⟨mp,mb3,pt S'.late k (w64 ((lk S'.late k).getD 0+1)),S'.head,S'.seen⟩)=H4 at*
    obtain⟨y1,y2⟩:=List.getElem?_eq_some_iff.1 x0?
    obtain⟨z1,z2⟩:=List.getElem?_eq_some_iff.1 xk?
    have hp4:lk (forS S' k p).prs k=some (zerP p):=by
      show lk (pt S'.prs k _) k=_
      rw[lk_pt,if_pos rfl];rfl
    have kR:=wfresh_ok H4 bw ba bt mp mb3 A T' (lateS (forS S' k p) k) L4 k (zerP p) hp4 hS.ok hS.tl hS.lits (forB_len (forB_len hS.hz))
    simp[y1,y2,z1,z2]
    refine CallB.intro kR (by simp) ?_
    rintro _ H5 ⟨rfl,mb5,L5,E5⟩
    rw[←eS,←eT]at L5
    rw[←eB]
    have E35:Ext G2 H5 (DomW bw bt mp mb') (DomW bw bt mp mb5):=(E3.trans E4).trans E5
    cases hb5:wstB T' l p
    · rw[if_neg (by rw[hb5];simp)]at hZ
      simp
      exact⟨(i+1,H5,mb5,wstS S' T' l k p,wstT T' l k p),by(try dsimp only);omega,⟨by(try dsimp only);omega,L5,hJn hb5,(hE.trans E2).trans E35,hZ⟩,Weak.keep (by simp[hw']) rfl⟩
    · rw[if_pos hb5]at hZ
      subst hZ
      have hk5:H5[H.length]?=some [.pv (I64 k)]:=by
        rw[E35.same H.length f1 houk,hk?]
      obtain⟨o1,o2⟩:=List.getElem?_eq_some_iff.1 hk5
      simp[o1,o2]
      exact⟨mb5,L5,E0.trans ((hE.trans E2).trans E35)⟩
def faiS (S:WS) (T:Tr) (l:Int):WS×Tr×Int:=match lk S.byl l with
 |some zs=>faiF l zs S T
 |none=>(S,T,-1)
def upH (S:WS):WS:=⟨S.prs,S.byl,S.late,w64 (S.head+1),S.seen⟩
def negL (T:Tr) (S:WS):Int:=w64 (-(T.lits.getD S.head.toNat 0))
def proF:Nat→WS→Tr→WS×Tr×Int
 |0,S,T=>(S,T,-1)
 |n+1,S,T=>if S.head<T.lits.length then(if 0≤(faiS S T (negL T S)).2.2 then faiS S T (negL T S)else proF n (upH (faiS S T (negL T S)).1) (faiS S T (negL T S)).2.1)else(S,T,-1)
def shrS (S:WS) (now:List Int):WS:=⟨S.prs,S.byl,S.late,if(preN S.seen now:Int)<S.head then(preN S.seen now:Int)else S.head,S.seen⟩
def lasS (S:WS) (T:Tr):WS×Tr×Int:=latF (sortZ (S.late.map (·.1))) S T
def midS (S:WS) (T:Tr):WS×Tr×Int:=if 0≤(lasS (shrS S T.lits) T).2.2 then lasS (shrS S T.lits) T else proF 1000001 (lasS (shrS S T.lits) T).1 (lasS (shrS S T.lits) T).2.1
def prpS (S:WS) (T:Tr):WS×Tr×Int:=(⟨(midS S T).1.prs,(midS S T).1.byl,(midS S T).1.late,(midS S T).1.head,(midS S T).2.1.lits⟩,(midS S T).2.1,(midS S T).2.2)
theorem wfailsN_ok (h:List (List SV)) (bw ba bt:Nat) (mp:List (Int×Nat)) (mb:List (Int×By)) (A:Ar) (T:Tr) (S:WS) (L:LayW h bw ba bt mp mb A T S) (l:Int) (hzs:lk S.byl l=none):
 AMut Tryz.prog 90 [.ptr bw 0,I64 l] h (fun r h'=>r=.pv (I64 (-1))∧∃mb',LayW h' bw ba bt mp mb' A T S∧Ext h h' (DomW bw bt mp mb) (DomW bw bt mp mb')):=by
 refine amutX [1,6,7,14,15,18] [.tmp 4] hmo Tryz.func90 (by kernel_rfl) rfl rfl (by kernel_rfl) (Nat.le_of_ble_eq_true rfl) ?_;have hmb:lk mb l=none:=by
  cases hq:lk mb l with
  |none=>rfl
  |some e=>obtain⟨zs,h1,_⟩:=L.by' l e hq;rw[hzs]at h1;cases h1
 obtain⟨G,hG⟩:∃G,G=h++[[SV.pv (.ptr bw 0)],[SV.pv (I64 l)]]:=⟨_,rfl⟩;have L0:LayW G bw ba bt mp mb A T S:=by rw[hG];exact L.app _
 have E0:Ext h G (DomW bw bt mp mb) (DomW bw bt mp mb):=by rw[hG];exact Ext.app _ _ _
 have n0?:G[h.length]?=some [.pv (.ptr bw 0)]:=by rw[hG];simp
 have n1?:G[h.length+1]?=some [.pv (I64 l)]:=by rw[hG];simp
 obtain⟨w1,w2⟩:=List.getElem?_eq_some_iff.1 L0.w;obtain⟨a1,a2⟩:=List.getElem?_eq_some_iff.1 n0?;obtain⟨b1,b2⟩:=List.getElem?_eq_some_iff.1 n1?;simp;rw[←hG];refine AAnyD.meet fa1Sch ⟨[(2,.pv (.ptr h.length 0)),(3,.pv (.ptr (h.length+1) 0)),(5,.pv (.lit (.slice none 0 0)))],G⟩ (by kernel_rfl) ?_ ?_
 ·simp[fa1Sch,w1,w2,wtB,a1,a2,b1,b2,hmb];and_intros
  all_goals
   refine CallK.intro cloneN2_ok (by simp) ?_;simp;exact Weak.keep (by simp) rfl
 simp;refine ALoop.intro (S:=fun _:Unit=>⟨[(2,.pv (.ptr h.length 0)),(3,.pv (.ptr (h.length+1) 0)),(23,.pv (I64 0)),(24,.pv (I64 0))],G⟩) (fun _=>True) (fun _=>0) () ?_ trivial ?_
 ·exact Weak.keep (by simp) rfl
 rintro _ _;simp;exact⟨mb,L0,E0⟩
structure ProOk (J:WS→Tr→Prop):Prop where
  ok:∀S T,J S T→T.ok∧T.lits.length≤1000000∧0≤S.head∧S.head≤T.lits.length
  step:∀S T,J S T→S.head<T.lits.length→∀zs,lk S.byl (negL T S)=some zs→zs.length≤1000000∧∃Jf:Nat→WS→Tr→Prop,Jf 0 S T∧∀i S' T',Jf i S' T'→∀(hi:i<zs.length),∃p,StepOk S' T' (negL T S) zs[i] p∧(wstB T' (negL T S) p=false→Jf (i+1) (wstS S' T' (negL T S) zs[i] p) (wstT T' (negL T S) zs[i] p))
  len:∀S T,J S T→S.head<T.lits.length→(faiS S T (negL T S)).2.1.lits.length≤1000000
  next:∀S T,J S T→S.head<T.lits.length→¬0≤(faiS S T (negL T S)).2.2→(faiS S T (negL T S)).2.2=-1∧J (upH (faiS S T (negL T S)).1) (faiS S T (negL T S)).2.1∧(faiS S T (negL T S)).1.head=S.head∧T.lits<+:(faiS S T (negL T S)).2.1.lits
set_option maxRecDepth 16000 in
theorem wpropagate_ok (h:List (List SV)) (bw ba bt:Nat) (mp:List (Int×Nat)) (mb:List (Int×By)) (A:Ar) (T:Tr) (S:WS) (L:LayW h bw ba bt mp mb A T S) (hTl:T.lits.length≤1000000) (hsl:S.seen.length≤1000000)
 (Ks:List Int) (hKs:sortZ (S.late.map (·.1))=Ks) (J1:Nat→WS→Tr→Prop) (hJ0:J1 0 (shrS S T.lits) T) (hkw:∀q∈S.late,wfI q.1) (hll:S.late.length≤1000000)
 (hB:∀i S' T',J1 i S' T'→∀(hi:i<Ks.length),T'.ok∧T'.lits.length≤1000000∧(∀l zs,lk S'.byl l=some zs→zs.length≤1000000)∧∃p,lk S'.prs Ks[i]=some p∧p.lits.length≤1000000)
 (hJ:∀i S' T' p,J1 i S' T'→∀(hi:i<Ks.length),lk S'.prs Ks[i]=some p→freB T' p=false→J1 (i+1) (freS S' T' Ks[i] p) (freT T' Ks[i] p))
 (hLl:(lasS (shrS S T.lits) T).2.1.lits.length≤1000000) (J:WS→Tr→Prop) (hP:ProOk J) (hJP:¬0≤(lasS (shrS S T.lits) T).2.2→(lasS (shrS S T.lits) T).2.2=-1∧J (lasS (shrS S T.lits) T).1 (lasS (shrS S T.lits) T).2.1):
 AMut Tryz.prog 33 [.ptr bw 0] h (fun r h'=>r=.pv (I64 (prpS S T).2.2)∧∃mb',LayW h' bw ba bt mp mb' A (prpS S T).2.1 (prpS S T).1∧Ext h h' (DomW bw bt mp mb) (DomW bw bt mp mb')):=by
 refine amutX [] [.tmp 2] hmo Tryz.func33 (by kernel_rfl) rfl rfl (by kernel_rfl) (Nat.le_of_ble_eq_true rfl) ?_;obtain⟨w1,w2⟩:=List.getElem?_eq_some_iff.1 L.w;have hz:=frz_tr0 L.t 2;have kM:=wmade_ok h bw ba bt _ L.w;have kL:=tlits_ok T hTl;have kS:=wshrunk_ok h bw ba bt ⟨mp,mb,S.late,S.head,S.seen⟩ T.lits L.w hTl hsl;have L1:=L.setW S.late (if(preN S.seen T.lits:Int)<S.head then(preN S.seen T.lits:Int)else S.head) S.seen;have E1:=Ext.set (h:=h) (D:=DomW bw bt mp mb) bw (wtB ba bt (shrW ⟨mp,mb,S.late,S.head,S.seen⟩ T.lits)) (.inl rfl);simp;refine CallB.intro kM (by simp) ?_;rintro _ h2 ⟨e,rfl⟩;rw[e];clear e h2;simp[w1,w2,wtB,hz];refine CallB.introP kL (by simp) (by simp) ?_;simp;refine CallB.intro (kS.args (xs:=[.ptr bw 0,.seq true 1 (irow T.lits)]) (by simp[wkPL,wkP])) (by simp) ?_;rintro _ H1 ⟨rfl,rfl⟩;have L1':LayW (h.set bw (wtB ba bt (shrW ⟨mp,mb,S.late,S.head,S.seen⟩ T.lits))) bw ba bt mp mb A T (shrS S T.lits):=L1;have kLa:=wlates_ok _ bw ba bt mp mb A T (shrS S T.lits) L1' Ks hKs J1 hJ0 hkw hll hB hJ;generalize h.set bw (wtB ba bt (shrW ⟨mp,mb,S.late,S.head,S.seen⟩ T.lits))=H1 at*;have hMid:midS S T=if 0≤(lasS (shrS S T.lits) T).2.2 then lasS (shrS S T.lits) T else proF 1000001 (lasS (shrS S T.lits) T).1 (lasS (shrS S T.lits) T).2.1:=rfl;have hPr:prpS S T=(⟨(midS S T).1.prs,(midS S T).1.byl,(midS S T).1.late,(midS S T).1.head,(midS S T).2.1.lits⟩,(midS S T).2.1,(midS S T).2.2):=rfl;have hLd:latF Ks (shrS S T.lits) T=lasS (shrS S T.lits) T:=by unfold lasS;rw[←hKs];rfl
 rw[hLd]at kLa;generalize lasS (shrS S T.lits) T=V at*;generalize midS S T=M at*;generalize prpS S T=Q at*;obtain⟨S2,T2,k2⟩:=V;simp only at*;simp;refine CallB.intro kLa (by simp) ?_;rintro _ H2 ⟨rfl,mb2,L2,E2⟩;have kL2:=tlits_ok T2 hLl;have hz2:=frz_tr0 L2.t 2;obtain⟨v1,v2⟩:=List.getElem?_eq_some_iff.1 L2.w;simp[v1,v2,wtB,hz2];refine CallB.introP kL2 (by simp) (by simp) ?_;simp;refine ALoop.intro (S:=fun(x:List (List SV)×List (Int×By)×WS×Tr×Int×List Int×Nat)=>⟨[(0,.pv (.ptr bw 0)),(3,.pv (I64 x.2.2.2.2.1)),(4,.own true 1 (irow x.2.2.2.2.2.1))],x.1⟩)
  (fun x => LayW x.1 bw ba bt mp x.2.1 A x.2.2.2.1 x.2.2.1 ∧ Ext h x.1 (DomW bw bt mp mb) (DomW bw bt mp x.2.1) ∧ x.2.2.2.1.lits.length ≤ 1000000 ∧
   ((0≤x.2.2.2.2.1∧M=(x.2.2.1,x.2.2.2.1,x.2.2.2.2.1))∨(¬0≤x.2.2.2.2.1∧x.2.2.2.2.1=-1∧J x.2.2.1 x.2.2.2.1∧x.2.2.2.2.2.1<+:x.2.2.2.1.lits∧(x.2.2.1.head<x.2.2.2.2.2.1.length∨x.2.2.2.2.2.1=x.2.2.2.1.lits)∧M=proF x.2.2.2.2.2.2 x.2.2.1 x.2.2.2.1∧1000001≤x.2.2.1.head+x.2.2.2.2.2.2)))
  (fun x=>x.2.2.2.2.2.2) (H2,mb2,S2,T2,k2,T2.lits,1000001) ?_ ?_ ?_
 ·exact Weak.keep (by simp) rfl
 ·refine⟨L2,E1.trans E2,hLl,?_⟩
  by_cases c:0≤k2
  ·rw[if_pos c]at hMid;exact .inl ⟨c,hMid⟩
  ·rw[if_neg c]at hMid;have hj:=hJP c;have hh:=(hP.ok _ _ hj.2).2.2.1;exact .inr ⟨c,hj.1,hj.2,List.prefix_refl _,.inr rfl,hMid,by simp only;omega⟩
 rintro⟨H,mb',S',T',kc,now,n⟩ ⟨LH,hE,hTl',hcase⟩;dsimp only at LH hE hTl' hcase;obtain⟨u1,u2⟩:=List.getElem?_eq_some_iff.1 LH.w;have hzH:=frz_tr0 LH.t 2;have kL3:=tlits_ok T' hTl';have kPost:∀(M1:M=(S',T',kc)),(LayW (H.set bw (wtB ba bt ⟨mp,mb',S'.late,S'.head,T'.lits⟩)) bw ba bt mp mb' A Q.2.1 Q.1)∧Ext h (H.set bw (wtB ba bt ⟨mp,mb',S'.late,S'.head,T'.lits⟩)) (DomW bw bt mp mb) (DomW bw bt mp mb')∧Q.2.2=kc:=fun M1=>by
  rw[hPr,M1];exact⟨LH.setW S'.late S'.head T'.lits,hE.trans (Ext.set bw _ (.inl rfl)),rfl⟩
 rcases hcase with⟨hc,hM⟩|⟨hc,hc1,hj,hpre,hlt,hM,hn⟩
 ·have hc':¬kc<0:=by omega
  obtain⟨g1,g2,g3⟩:=kPost hM;simp[hc'];simp[u1,u2,wtB,hzH];refine CallB.introP kL3 (by simp) (by simp) ?_;simp[u1,u2,wtB];exact⟨g3.symm,mb',g1,g2⟩
 ·have hc':kc<0:=by omega
  obtain⟨q1,q2,q3,q4⟩:=hP.ok _ _ hj;obtain⟨hd,hhd⟩:∃k:Nat,S'.head=k:=⟨S'.head.toNat,by omega⟩
  by_cases d:hd<now.length
  ·have dT:hd<T'.lits.length:=Nat.lt_of_lt_of_le d hpre.length_le;have hq:now[hd]?=some T'.lits[hd]:=by
    obtain⟨t,ht⟩:=hpre;rw[←List.getElem?_eq_getElem dT,←ht,List.getElem?_append_left d]
   have hlt2:S'.head<T'.lits.length:=by omega
   have hqe:now[hd]=T'.lits[hd]:=by rw[List.getElem?_eq_getElem d]at hq;exact Option.some.inj hq
   have hneg:w64 (-now[hd])=negL T' S':=by rw[hqe];simp[negL,hhd,List.getElem?_eq_getElem dT]
   have kF:AMut Tryz.prog 90 [.ptr bw 0,I64 (negL T' S')] H (fun r h'=>r=.pv (I64 (faiS S' T' (negL T' S')).2.2)∧∃mb'',LayW h' bw ba bt mp mb'' A (faiS S' T' (negL T' S')).2.1 (faiS S' T' (negL T' S')).1∧Ext H h' (DomW bw bt mp mb') (DomW bw bt mp mb'')):=by
    cases hb:lk S'.byl (negL T' S')with
    |none=>
     simp only[faiS,hb];exact wfailsN_ok H bw ba bt mp mb' A T' S' LH _ hb
    |some zs=>
     obtain⟨z1,Jf,z2,z3⟩:=hP.step S' T' hj hlt2 zs hb;simp only[faiS,hb];exact wfails_ok H bw ba bt mp mb' A T' S' LH _ zs hb z1 Jf z2 z3
   have hFl:=hP.len S' T' hj hlt2;have hFn:=hP.next S' T' hj hlt2;cases n with
   |zero=>omega
   |succ n=>
   rw[proF,if_pos hlt2]at hM;generalize faiS S' T' (negL T' S')=V at*;generalize negL T' S'=l at*;obtain⟨S3,T3,k3⟩:=V;simp only at hM hFl hFn kF;clear kL kL2 kM kS kLa hB hJ hMid hLd L1 L1' hz hz2 w1 w2 v1 v2;simp[hc',u1,u2,wtB,hhd,d,hneg];refine CallB.intro kF (by simp) ?_;rintro _ H3 ⟨rfl,mb3,L3,E3⟩;obtain⟨t1,t2⟩:=List.getElem?_eq_some_iff.1 L3.w;have hz3:=frz_tr0 L3.t 2;have kL4:=tlits_ok T3 hFl
   by_cases c3:0≤k3
   ·rw[if_pos c3]at hM;simp[c3,t1,t2,wtB,hz3];refine CallB.introP kL4 (by simp) (by simp) ?_;simp[t1,t2,wtB];have:=L3.setW S3.late S3.head T3.lits;rw[hPr,hM];exact⟨rfl,mb3,this,(hE.trans E3).trans (Ext.set bw _ (.inl rfl))⟩
   ·rw[if_neg c3]at hM;obtain⟨r1,r2,r3,r4⟩:=hFn c3;obtain⟨b1,b2,b3,b4⟩:=hP.ok _ _ r2;have c3':¬0≤k3:=c3;have L4:=L3.setW S3.late (w64 (S3.head+1)) S3.seen;have E4:Ext h (H3.set bw (wtB ba bt ⟨mp,mb3,S3.late,w64 (S3.head+1),S3.seen⟩)) (DomW bw bt mp mb) (DomW bw bt mp mb3):=(hE.trans E3).trans (Ext.set bw _ (.inl rfl));have hw':w64 ((hd:Int)+1)=((hd+1:Nat):Int):=by rw[w64_id (by omega) (by omega)];omega
    have hh3:S3.head=hd:=r3.trans hhd;rw[hh3,hw']at L4 E4;have hz4:frzP (H3.set bw (wtB ba bt ⟨mp,mb3,S3.late,((hd+1:Nat):Int),S3.seen⟩)) (2+1) bt 0=trP T3:=frz_tr0 L4.t 2;have hup:upH S3=⟨S3.prs,S3.byl,S3.late,((hd+1:Nat):Int),S3.seen⟩:=by unfold upH;rw[hh3,hw']
    rw[hup]at hM r2;clear kF
    by_cases dn:hd+1=now.length
    ·rw[dn]at L4 E4 hz4 hM r2;simp only[wtB]at hz4;simp[c3,t1,t2,wtB,hz3,hh3,hw',dn,hz4];refine CallB.introP kL4 (by simp) (by simp) ?_;simp;exact⟨(_,mb3,⟨S3.prs,S3.byl,S3.late,(now.length:Int),S3.seen⟩,T3,k3,T3.lits,n),Nat.lt_succ_self n,⟨L4,E4,hFl,.inr ⟨by simp only;omega,r1,r2,List.prefix_refl _,.inr rfl,hM,by simp only;omega⟩⟩,Weak.keep (by simp) rfl⟩
    ·have hw2:¬((hd:Int)+1=now.length):=by omega
     simp[c3,t1,t2,wtB,hz3,hh3,hw',hw2];exact⟨(_,mb3,⟨S3.prs,S3.byl,S3.late,((hd+1:Nat):Int),S3.seen⟩,T3,k3,now,n),Nat.lt_succ_self n,⟨L4,E4,hFl,.inr ⟨by simp only;omega,r1,r2,hpre.trans r4,.inl (by simp only;omega),hM,by simp only;omega⟩⟩,Weak.keep (by simp) rfl⟩
  ·have hnl:¬S'.head<T'.lits.length:=by
    rcases hlt with h1|h1
    ·omega
    ·rw[←h1];omega
   have hM':M=(S',T',-1):=by
    rw[hM];cases n with
    |zero=>rfl
    |succ n=>rw[proF,if_neg hnl]
   obtain⟨g1,g2,g3⟩:=kPost (by rw[hM',hc1]);clear kL kL2 kM kS kLa hB hJ hMid hLd L1 L1' hz hz2 w1 w2 v1 v2;simp[hc',u1,u2,wtB,hhd,d];simp[u1,u2,wtB,hzH];refine CallB.introP kL3 (by simp) (by simp) ?_;simp[u1,u2,wtB];exact⟨g3.symm,mb',g1,g2⟩
end Go.AX