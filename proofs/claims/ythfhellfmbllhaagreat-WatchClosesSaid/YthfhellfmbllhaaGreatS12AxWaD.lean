/-
  Contracts: watches: forget.
  Contracts: watches: fresh.
-/
import Derived.Test.YthfhellfmbllhaaGreatS12AxWaB
import Derived.Test.YthfhellfmbllhaaGreatAxBt
namespace Go.AX
open Go.Proofs
set_option linter.unusedSimpArgs false
@[simp] theorem look_prV (l:List (Int×Nat)) (k:Int):amLook (mapE prV l) k=(lk l k).map prV:=amLook_mapE prV l k
@[simp] theorem put_prV (l:List (Int×Nat)) (k:Int) (b:Nat):amPut (mapE prV l) k (.ptr b 0)=mapE prV (pt l k b):=amPut_mapE prV l k b
@[simp] theorem look_byV (l:List (Int×By)) (k:Int):amLook (mapE byV l) k=(lk l k).map byV:=amLook_mapE byV l k
@[simp] theorem put_byV (l:List (Int×By)) (k:Int) (b n cp:Nat):amPut (mapE byV l) k (.bsl b 1 0 n cp)=mapE byV (pt l k ⟨b,n,cp⟩):=amPut_mapE byV l k ⟨b,n,cp⟩
theorem isAt_ok (x v:Int):APure Tryz.prog 142 [I64 x,.iptr 1 [[I64 v]] 0 0] (fun r=>r=.pv (BL (decide (x=v)))):=by
 refine apure1 hmo Tryz.func142 (by kernel_rfl) rfl rfl (by kernel_rfl) (Nat.le_of_ble_eq_true rfl) ?_;simp
def forB (byl:List (Int×List Int)) (k l:Int):List (Int×List Int):=if l=0 then byl else pt byl l (delS (fun x=>decide (x=k)) ((lk byl l).getD []))
def forS (S:WS) (k:Int) (p:Pr):WS:=⟨pt S.prs k ⟨p.lits,0,0⟩,forB (forB S.byl k p.x) k p.y,S.late,S.head,S.seen⟩
def fg1Sch:Sch:=
 let s0:Sch:=.fork [(8,.done)]
 let s1:Sch:=.fork [(5,.take 6 (.take 7 s0))]
 let s2:Sch:=.fork [(4,s1)]
 let s3:Sch:=.fork [(3,s1)]
 let s4:Sch:=.fork [(3,s2),(4,s3)]
 .take 0 (.take 1 (.take 2 (.take 9 s4)))
def fg5Sch:Sch:=
 let s0:Sch:=.fork [(13,.done)]
 let s1:Sch:=.fork [(12,s0)]
 let s2:Sch:=.fork [(11,s1)]
 let s3:Sch:=.fork [(10,s1)]
 let s4:Sch:=.fork [(10,s2),(11,s3)]
 let s5:Sch:=.fork [(8,s3)]
 let s6:Sch:=.fork [(8,s4),(11,s5)]
 let s7:Sch:=.fork [(3,s0)]
 let s8:Sch:=.fork [(3,s1),(12,s7)]
 let s9:Sch:=.fork [(3,s2),(11,s8)]
 let s10:Sch:=.fork [(3,s3),(10,s8)]
 let s11:Sch:=.fork [(3,s4),(10,s9),(11,s10)]
 let s12:Sch:=.fork [(3,s5),(8,s10)]
 let s13:Sch:=.fork [(3,s6),(8,s11),(11,s12)]
 .take 0 (.take 1 (.take 2 (.take 4 (.take 5 (.take 6 (.take 7 (.take 9 s13)))))))
def fg7Sch:Sch:=
 let s0:Sch:=.fork [(9,.done)]
 let s1:Sch:=.fork [(6,.take 7 (.take 8 s0))]
 let s2:Sch:=.fork [(5,.take 7 (.take 8 s0))]
 let s3:Sch:=.fork [(5,s1),(6,s2)]
 let s4:Sch:=.fork [(4,s2)]
 let s5:Sch:=.fork [(4,s3),(6,s4)]
 let s6:Sch:=.fork [(3,s2)]
 let s7:Sch:=.fork [(3,s3),(6,s6)]
 let s8:Sch:=.fork [(3,s4),(4,s6)]
 let s9:Sch:=.fork [(3,s5),(4,s7),(6,s8)]
 .take 0 (.take 1 (.take 2 s9))
def forT (S:WS) (k:Int) (p:Pr):Nat→List (Int×List Int)
 |0=>S.byl
 |1=>forB S.byl k p.x
 |_=>forB (forB S.byl k p.x) k p.y
set_option maxRecDepth 16000 in
theorem wforget_ok (h:List (List SV)) (bw ba bt:Nat) (mp:List (Int×Nat)) (mb:List (Int×By)) (A:Ar) (T:Tr) (S:WS) (L:LayW h bw ba bt mp mb A T S) (k:Int) (p:Pr) (hp:lk S.prs k=some p)
 (hx:p.x≠0→∃zs,lk S.byl p.x=some zs∧zs≠[]) (hy:p.y≠0→∃zs,lk (forB S.byl k p.x) p.y=some zs∧zs≠[]) (hz:∀l zs,lk S.byl l=some zs→zs.length≤1000000):
 AMut Tryz.prog 94 [.ptr bw 0,I64 k] h (fun r h'=>r=.pv (.tup [])∧∃mb',LayW h' bw ba bt mp mb' A T (forS S k p)∧Ext h h' (DomW bw bt mp mb) (DomW bw bt mp mb')):=by
 refine amutX [1,5,7] [] hmo Tryz.func94 (by kernel_rfl) rfl rfl (by kernel_rfl) (Nat.le_of_ble_eq_true rfl) ?_;obtain⟨b,hb,q1,q2,q3,q4⟩:=L.some_p hp;obtain⟨G,hG⟩:∃G,G=h++[[SV.pv (I64 k)]]:=⟨_,rfl⟩;have L0:LayW G bw ba bt mp mb A T S:=by rw[hG];exact L.app _
 have hk?:G[h.length]?=some [.pv (I64 k)]:=by rw[hG];simp
 have hb?:G[b]?=some (prB p):=by rw[hG,List.getElem?_append_left (List.getElem?_eq_some_iff.1 q1).1,q1]
 obtain⟨w1,w2⟩:=List.getElem?_eq_some_iff.1 L0.w;obtain⟨k1,k2⟩:=List.getElem?_eq_some_iff.1 hk?;obtain⟨b1,b2⟩:=List.getElem?_eq_some_iff.1 hb?;simp;rw[←hG];have kne:h.length≠bw:=Nat.ne_of_gt (List.getElem?_eq_some_iff.1 L.w).1;have old:∀l e,lk mb l=some e→e.b<h.length:=fun l e he=>by obtain⟨_,_,⟨_,a2,_⟩,_⟩:=L.by' l e he;exact(List.getElem?_eq_some_iff.1 a2).1
 refine AAnyD.meet fg1Sch ⟨[(0,.pv (.ptr bw 0)),(3,.pv (.ptr h.length 0)),(14,.pv (.agg [I64 p.x,I64 p.y])),(15,.pv (I64 0))],G⟩ (by kernel_rfl) ?_ ?_
 ·simp[fg1Sch,w1,w2,wtB,k1,k2,b1,b2,prB,pairB,hb,prV];and_intros
  all_goals exact Weak.keep (by simp) rfl
 simp;refine ALoop.intro (S:=fun(x:Nat×List (List SV)×List (Int×By))=>⟨[(0,.pv (.ptr bw 0)),(3,.pv (.ptr h.length 0)),(14,.pv (.agg [I64 p.x,I64 p.y])),(15,.pv (I64 x.1))],x.2.1⟩)
  (fun x=>x.1≤2∧LayW x.2.1 bw ba bt mp x.2.2 A T ⟨S.prs,forT S k p x.1,S.late,S.head,S.seen⟩∧x.2.1[h.length]?=some [.pv (I64 k)]∧Ext G x.2.1 (DomW bw bt mp mb) (DomW bw bt mp x.2.2)∧(∀l e,lk x.2.2 l=some e→e.b<h.length)∧∀l zs,lk (forT S k p x.1) l=some zs→zs.length≤1000000)
  (fun x=>2 -x.1) (0,G,mb) ?_ ⟨Nat.zero_le _,L0,hk?,Ext.refl _ _,old,hz⟩ ?_
 ·exact Weak.keep (by simp) rfl
 rintro⟨i,H,mb'⟩ ⟨hi,LH,hkH,hE,hold,hzs⟩;dsimp only at hi LH hkH hE hold hzs;obtain⟨v1,v2⟩:=List.getElem?_eq_some_iff.1 LH.w;obtain⟨j1,j2⟩:=List.getElem?_eq_some_iff.1 hkH
 by_cases d:i<2
 ·obtain⟨l,hl⟩:∃l,l=if i=0 then p.x else p.y:=⟨_,rfl⟩;have hidx:[I64 p.x,I64 p.y][i]?=some (I64 l):=by
   have:i=0∨i=1:=by omega
   rcases this with rfl|rfl
   ·rw[hl];rfl
   ·rw[hl];rfl
  have hidx':∀hh:i<[I64 p.x,I64 p.y].length,[I64 p.x,I64 p.y][i]'hh=I64 l:=fun hh=>by
   have:=List.getElem?_eq_some_iff.1 hidx;exact this.2
  have d':(i:Int)<2:=by omega
  have hw':w64 ((i:Int)+1)=((i+1:Nat):Int):=by rw[w64_id (by omega) (by omega)];omega
  have hstep:forT S k p (i+1)=forB (forT S k p i) k l:=by
   have:i=0∨i=1:=by omega
   rcases this with rfl|rfl
   ·rw[hl];rfl
   ·rw[hl];rfl
  by_cases l0:l=0
  ·simp[d,d',hidx',l0];rw[l0]at hstep;refine⟨(i+1,H,mb'),by(try dsimp only);omega,⟨by(try dsimp only);omega,?_,hkH,hE,hold,?_⟩,Weak.keep (by simp[hw']) rfl⟩
   ·dsimp only;rw[hstep];exact LH
   ·dsimp only;rw[hstep];exact hzs
  ·have hzz:∃zs,lk (forT S k p i) l=some zs∧zs≠[]:=by
    have:i=0∨i=1:=by omega
    rcases this with rfl|rfl
    ·have e:l=p.x:=hl;rw[e]at l0⊢;exact hx l0
    ·have e:l=p.y:=hl;rw[e]at l0⊢;exact hy l0
   obtain⟨zs,hzs1,hzne⟩:=hzz;obtain⟨e,he,⟨sp,e1,e2,e3,e4,e5⟩,e6,e7,e8⟩:=LH.some_b hzs1;have hzl:zs.length≤1000000:=hzs l zs hzs1;have hpos:0<zs.length:=List.length_pos_iff.2 hzne;have hDl:(delS (fun x=>decide (x=k)) zs).length≤zs.length:=delS_len _ _;have hD:=deleteF_ok zs hzl 142 [.iptr 1 [[I64 k]] 0 0] (fun x=>decide (x=k)) (fun r=>by simp) rfl (fun m=>by simp) (by simp) (fun x _=>isAt_ok x k);have he1:e.b<H.length:=(List.getElem?_eq_some_iff.1 e1).1;have hbox:h.length≠e.b:=Nat.ne_of_gt (hold l e he);obtain⟨Z,hZ⟩:∃Z,Z=delS (fun x=>decide (x=k)) zs:=⟨_,rfl⟩;rw[←hZ]at hDl;unfold delR at hD;rw[←hZ]at hD;obtain⟨X,hX⟩:∃X:List SV,X=(Z++List.replicate (zs.length -Z.length) 0).map (fun z=>SV.pv (.lit (.int .i64 z)))++sp:=⟨_,rfl⟩;have hst:forT S k p (i+1)=pt (forT S k p i) l Z:=by
    rw[hstep];unfold forB;rw[if_neg l0,hzs1,Option.getD_some,hZ]
   have hXc:X=icells Z++((List.replicate (zs.length -Z.length) 0).map (fun z=>SV.pv (.lit (.int .i64 z)))++sp):=by
    rw[hX,List.map_append,List.append_assoc];rfl
   have LN:=LH.setB he Z ((List.replicate (zs.length -Z.length) 0).map (fun z=>SV.pv (.lit (.int .i64 z)))++sp) (fun m=>belowC_ic m (e2 m) _) Z.length rfl (by omega) (by simp;omega);rw[←hXc]at LN;simp[d,d',hidx',l0];refine AAnyD.meet fg5Sch ⟨[(0,.pv (.ptr bw 0)),(3,.pv (.ptr h.length 0)),(14,.pv (.agg [I64 p.x,I64 p.y])),(15,.pv (I64 i))],(H.set e.b X).set bw (wtB ba bt ⟨mp,pt mb' l ⟨e.b,Z.length,e.cp⟩,S.late,S.head,S.seen⟩)⟩ (by kernel_rfl) ?_ ?_
   ·simp[fg5Sch,v1,v2,wtB,j1,j2,he,byV];and_intros
    all_goals
     refine CallB.introX (CallX.introT (b:=e.b) (b2:=h.length) (zs:=zs) (sp:=sp) (cp:=e.cp) hD (by simp) (by simp) rfl (by simp) (by simp[e3]) (by simp) (by simp) e1 hkH hbox hpos hzl ?_);rintro _ _ ⟨rfl,rfl⟩;refine⟨_,_,rfl,rfl,by simp;omega,hDl,?_⟩;rw[←hX];simp[v1,v2,wtB,e6,e6.symm,qCells];exact Weak.keep (by simp) rfl
   ·simp;refine⟨(i+1,_,pt mb' l ⟨e.b,Z.length,e.cp⟩),by(try dsimp only);omega,⟨by(try dsimp only);omega,?_,?_,?_,?_,?_⟩,Weak.keep (by simp[hw']) rfl⟩
    ·dsimp only;rw[hst];exact LN
    ·dsimp only;rw[List.getElem?_set_ne (fun q=>kne q.symm),List.getElem?_set_ne (fun q=>hbox q.symm)];exact hkH
    ·dsimp only;refine hE.trans (((Ext.set e.b X (.inr (.inr (.inr ⟨l,e,he,rfl⟩)))).trans (Ext.set bw _ (.inl rfl))).dom ?_);rintro c _ (q|q|q|⟨l',e',q,rfl⟩)
     ·exact .inl q
     ·exact .inr (.inl q)
     ·exact .inr (.inr (.inl q))
     ·rw[lk_pt]at q;split at q
      ·cases q;exact .inr (.inr (.inr ⟨l,e,he,rfl⟩))
      ·exact .inr (.inr (.inr ⟨l',e',q,rfl⟩))
    ·intro l' e' q;dsimp only at q;rw[lk_pt]at q;split at q
     ·cases q;exact hold l e he
     ·exact hold l' e' q
    ·intro l' zs' q;dsimp only at q;rw[hst,lk_pt]at q;split at q
     ·cases q;omega
     ·exact hzs l' zs' q
 ·have:i=2:=by omega
  subst this;obtain⟨p',r1,r2,r3,r4,r5⟩:=LH.pr k b hb;have hpe:p'=p:=by rw[hp]at r1;cases r1;rfl
  subst hpe; obtain ⟨c1, c2⟩ := List.getElem?_eq_some_iff.1 r2; have LF := LH.setP hb ⟨p'.lits, 0, 0⟩ (by
   have:∀(l:List (Int×Pr)) (q:Pr),lk l k=some q→(pt l k ⟨p'.lits,0,0⟩).map (·.1)=l.map (·.1):=by
    intro l q hq
    induction l with
    |nil=>cases hq
    |cons u l ih=>
     obtain⟨u1,u2⟩:=u;rw[pt];rw[lk]at hq;split
     ·rename_i e0;simp only[List.map_cons,e0]
     ·rename_i e0;rw[if_neg e0]at hq;simp only[List.map_cons];rw[ih hq]
   exact LH.keys.trans (this _ _ hp).symm)
  have hE2:Ext h (H.set b (prB ⟨p'.lits,0,0⟩)) (DomW bw bt mp mb) (DomW bw bt mp mb'):=by
   have a1:Ext h G (DomW bw bt mp mb) (DomW bw bt mp mb):=by rw[hG];exact Ext.app _ _ _
   exact(a1.trans hE).trans (Ext.set b _ (.inr (.inr (.inl ⟨k,hb⟩))))
  simp;refine AAnyD.one fg7Sch (by kernel_rfl) ?_;simp[fg7Sch,v1,v2,wtB,j1,j2,c1,c2,prB,pairB,hb,prV];exact⟨mb',LF,hE2⟩
def fr6Sch:Sch:=
 let s0:Sch:=.fork [(12,.done)]
 let s1:Sch:=.fork [(9,.take 10 (.take 11 s0))]
 let s2:Sch:=.fork [(8,s1)]
 let s3:Sch:=.fork [(6,.take 7 s2)]
 let s4:Sch:=.fork [(4,s1)]
 let s5:Sch:=.fork [(4,s2),(8,s4)]
 let s6:Sch:=.fork [(4,s3),(6,.take 7 s5)]
 let s7:Sch:=.fork [(2,.take 3 s4)]
 let s8:Sch:=.fork [(2,.take 3 s5),(8,s7)]
 let s9:Sch:=.fork [(2,.take 3 s6),(6,.take 7 s8)]
 .take 0 (.take 1 (.take 5 s9))
def fr10Sch:Sch:=
 let s0:Sch:=.fork [(14,.done)]
 let s1:Sch:=.fork [(13,s0)]
 let s2:Sch:=.fork [(12,s1)]
 let s3:Sch:=.fork [(10,s1)]
 let s4:Sch:=.fork [(10,s2),(12,s3)]
 let s5:Sch:=.fork [(8,s3)]
 let s6:Sch:=.fork [(8,s4),(12,s5)]
 let s7:Sch:=.fork [(3,s0)]
 let s8:Sch:=.fork [(3,s1),(13,s7)]
 let s9:Sch:=.fork [(3,s2),(12,s8)]
 let s10:Sch:=.fork [(3,s3),(10,s8)]
 let s11:Sch:=.fork [(3,s4),(10,s9),(12,s10)]
 let s12:Sch:=.fork [(3,s5),(8,s10)]
 let s13:Sch:=.fork [(3,s6),(8,s11),(12,s12)]
 .take 0 (.take 1 (.take 2 (.take 4 (.take 5 (.take 6 (.take 7 (.take 9 (.take 11 s13))))))))
def fr14Sch:Sch:=
 let s0:Sch:=.fork [(9,.done)]
 let s1:Sch:=.fork [(7,s0)]
 let s2:Sch:=.fork [(5,.take 6 s1)]
 let s3:Sch:=.fork [(3,s0)]
 let s4:Sch:=.fork [(3,s1),(7,s3)]
 let s5:Sch:=.fork [(3,s2),(5,.take 6 s4)]
 .take 0 (.take 1 (.take 2 (.take 4 (.take 8 s5))))
def addB (byl:List (Int×List Int)) (k l:Int):List (Int×List Int):=pt byl l ((lk byl l).getD []++[k])
def freS (S:WS) (T:Tr) (k:Int) (p:Pr):WS:=
 if 2≤(opn14 T p.lits).length then⟨pt S.prs k ⟨p.lits,(opn14 T p.lits).getD 0 0,(opn14 T p.lits).getD 1 0⟩,addB (addB S.byl k ((opn14 T p.lits).getD 0 0)) k ((opn14 T p.lits).getD 1 0),dl S.late k,S.head,S.seen⟩else S
def freT (T:Tr) (k:Int) (p:Pr):Tr:=
 if(opn14 T p.lits).length=1∧hld14 T p.lits=false then impT T ((opn14 T p.lits).getD 0 0) k else T
def freB (T:Tr) (p:Pr):Bool:=decide ((opn14 T p.lits).length=0)
@[simp] theorem del_fI:∀(l:List (Int×Int)) (k:Int),amDel k (mapE fI l)=mapE fI (dl l k)
 |[],k=>rfl
 |(j,x)::l,k=>by
  show(if j=k then mapE fI l else(j,fI x)::amDel k (mapE fI l))=mapE fI (if j=k then l else(j,x)::dl l k);rw[del_fI l k];split<;>rfl
theorem pt_keepW {α:Type} {k:Int} (y:α):∀{l:List (Int×α)} {q:α},lk l k=some q→(pt l k y).map (·.1)=l.map (·.1)
 |[],_,h=>by cases h
 |(u1,u2)::l,q,h=>by
  rw[pt];rw[lk]at h;split
  ·rename_i e0;simp only[List.map_cons,e0]
  ·rename_i e0;rw[if_neg e0]at h;simp only[List.map_cons];rw[pt_keepW y h]
theorem belowC_repW (k:Nat):∀n:Nat,belowC k (List.replicate n (SV.pv .bot))
 |0=>trivial
 |n+1=>⟨trivial,belowC_repW k n⟩
def addT (byl:List (Int×List Int)) (k x y:Int):Nat→List (Int×List Int)
 |0=>byl
 |1=>addB byl k x
 |_=>addB (addB byl k x) k y
set_option maxRecDepth 16000 in
theorem wfresh_ok (h:List (List SV)) (bw ba bt:Nat) (mp:List (Int×Nat)) (mb:List (Int×By)) (A:Ar) (T:Tr) (S:WS) (L:LayW h bw ba bt mp mb A T S) (k:Int) (p:Pr) (hp:lk S.prs k=some p) (hT:T.ok) (hTl:T.lits.length≤1000000) (hl:p.lits.length≤1000000)
 (hz:∀l zs,lk S.byl l=some zs→zs.length≤1000000):
 AMut Tryz.prog 136 [.ptr bw 0,I64 k] h (fun r h'=>r=.pv (BL (freB T p))∧∃mb',LayW h' bw ba bt mp mb' A (freT T k p) (freS S T k p)∧Ext h h' (DomW bw bt mp mb) (DomW bw bt mp mb')):=by
 refine amutX [6,10,14] [.tmp 4] hmo Tryz.func136 (by kernel_rfl) rfl rfl (by kernel_rfl) (Nat.le_of_ble_eq_true rfl) ?_;obtain⟨b,hb,q1,q2,q3,q4⟩:=L.some_p hp;have hLk:=wlook_ok h bw ba bt b ⟨mp,mb,S.late,S.head,S.seen⟩ T p.lits p.x p.y L.w L.t q1 hT hl;obtain⟨w1,w2⟩:=List.getElem?_eq_some_iff.1 L.w;obtain⟨b1,b2⟩:=List.getElem?_eq_some_iff.1 q1;have hol:=opn14_len T p.lits;unfold freS freT freB;generalize opn14 T p.lits=O at*;generalize hld14 T p.lits=Hd at*;simp[w1,w2,wtB,hb,prV];refine CallB.intro hLk (by simp) ?_;rintro _ h2 ⟨e,rfl⟩;rw[e];clear e h2;obtain⟨G,hG⟩:∃G,G=h++[[SV.pv (BL Hd),SV.pv (PV.seq true 1 (irow O))]]:=⟨_,rfl⟩;have L0:LayW G bw ba bt mp mb A T S:=by rw[hG];exact L.app _
 have E0:Ext h G (DomW bw bt mp mb) (DomW bw bt mp mb):=by rw[hG];exact Ext.app _ _ _
 have hf?:G[h.length]?=some [SV.pv (BL Hd),SV.pv (PV.seq true 1 (irow O))]:=by rw[hG];simp
 have hb?:G[b]?=some (prB p):=by rw[hG,List.getElem?_append_left b1,q1]
 obtain⟨g1,g2⟩:=List.getElem?_eq_some_iff.1 L0.w;obtain⟨f1,f2⟩:=List.getElem?_eq_some_iff.1 hf?;obtain⟨c1,c2⟩:=List.getElem?_eq_some_iff.1 hb?;have hbf:b≠h.length:=Nat.ne_of_lt b1;have hwf:bw≠h.length:=Nat.ne_of_lt w1;rcases O with _|⟨o0,_|⟨o1,O'⟩⟩
 ·simp;rw[←hG];exact⟨mb,L0,E0⟩
 ·simp;rw[←hG];cases Hd
  ·simp;have kI:=timply_ok G bt T L0.t o0 k hT hTl;refine AAnyD.one fr14Sch (by kernel_rfl) ?_;simp[fr14Sch,g1,g2,wtB,f1,f2];and_intros
   all_goals
    refine CallB.intro kI (by simp) ?_;rintro _ _ ⟨rfl,rfl⟩;simp;exact⟨mb,L0.setT _,E0.trans (Ext.set bt _ (.inr (.inl rfl)))⟩
  ·simp;exact⟨mb,L0,E0⟩
 ·have hlen:¬((O'.length:Int)+1+1=0):=by omega
  have hlen2:(2:Int)≤(O'.length:Int)+1+1:=by omega
  have hlen3:¬(O'.length+1+1=1):=by omega
  simp[hlen,hlen2,hlen3];rw[←hG];have L1:=L0.setP hb ⟨p.lits,o0,o1⟩ (L0.keys.trans (pt_keepW _ hp).symm);have E1:Ext h (G.set b (prB ⟨p.lits,o0,o1⟩)) (DomW bw bt mp mb) (DomW bw bt mp mb):=E0.trans (Ext.set b _ (.inr (.inr (.inl ⟨k,hb⟩))));have hb1:b<(G.set b (prB ⟨p.lits,o0,o1⟩)).length:=by simpa using c1
  have hb2:(G.set b (prB ⟨p.lits,o0,o1⟩))[b]'hb1=pairB p.lits o0 o1:=by simp[prB]
  refine AAnyD.meet fr6Sch ⟨[(0,.pv (.ptr bw 0)),(1,.pv (I64 k)),(5,.pv (.ptr b 0)),(6,.pv (.ptr h.length 0))],G.set b (prB ⟨p.lits,o0,o1⟩)⟩ (by kernel_rfl) ?_ ?_
  ·simp[fr6Sch,f1,f2,c1,c2,prB,pairB];and_intros
   all_goals first|omega|exact Weak.keep (by simp) rfl
  generalize G.set b (prB ⟨p.lits,o0,o1⟩)=G1 at*;simp[hb1,hb2,pairB];refine ALoop.intro (S:=fun(x:Nat×List (List SV)×List (Int×By))=>⟨[(0,.pv (.ptr bw 0)),(1,.pv (I64 k)),(43,.pv (.agg [I64 o0,I64 o1])),(44,.pv (I64 x.1))],x.2.1⟩)
   (fun x=>x.1≤2∧LayW x.2.1 bw ba bt mp x.2.2 A T ⟨pt S.prs k ⟨p.lits,o0,o1⟩,addT S.byl k o0 o1 x.1,S.late,S.head,S.seen⟩∧Ext G1 x.2.1 (DomW bw bt mp mb) (DomW bw bt mp x.2.2)∧∀l zs,lk (addT S.byl k o0 o1 x.1) l=some zs→zs.length≤1000000+x.1)
   (fun x=>2 -x.1) (0,G1,mb) ?_ ⟨Nat.zero_le _,L1,Ext.refl _ _,hz⟩ ?_
  ·exact Weak.keep (by simp) rfl
  rintro⟨i,H,mb'⟩ ⟨hi,LH,hE,hzs⟩;dsimp only at hi LH hE hzs;obtain⟨v1,v2⟩:=List.getElem?_eq_some_iff.1 LH.w
  by_cases d:i<2
  ·obtain⟨l,hl⟩:∃l,l=if i=0 then o0 else o1:=⟨_,rfl⟩;have hidx:[I64 o0,I64 o1][i]?=some (I64 l):=by
    have:i=0∨i=1:=by omega
    rcases this with rfl|rfl
    ·rw[hl];rfl
    ·rw[hl];rfl
   have hidx':∀hh:i<[I64 o0,I64 o1].length,[I64 o0,I64 o1][i]'hh=I64 l:=fun hh=>(List.getElem?_eq_some_iff.1 hidx).2;have d':(i:Int)<2:=by omega
   have hw':w64 ((i:Int)+1)=((i+1:Nat):Int):=by rw[w64_id (by omega) (by omega)];omega
   have hstep:addT S.byl k o0 o1 (i+1)=addB (addT S.byl k o0 o1 i) k l:=by
    have:i=0∨i=1:=by omega
    rcases this with rfl|rfl
    ·rw[hl];rfl
    ·rw[hl];rfl
   simp[d,d',hidx'];refine AAnyD.blk [60] fr10Sch (fun x:List (List SV)×List (Int×By)=>⟨[(0,.pv (.ptr bw 0)),(1,.pv (I64 k)),(43,.pv (.agg [I64 o0,I64 o1])),(44,.pv (I64 i))],x.1⟩)
    (fun x=>LayW x.1 bw ba bt mp x.2 A T ⟨pt S.prs k ⟨p.lits,o0,o1⟩,addT S.byl k o0 o1 (i+1),S.late,S.head,S.seen⟩∧Ext H x.1 (DomW bw bt mp mb') (DomW bw bt mp x.2)) (by kernel_rfl) ?_ ?_
   ·have hA:∀x,(H++[x])[bw]?=some (wtB ba bt ⟨mp,mb',S.late,S.head,S.seen⟩):=fun x=>by rw[List.getElem?_append_left v1];exact LH.w
    have dom:∀e',(∀c,c<H.length→e'.b=c→∃l0 e0,lk mb' l0=some e0∧e0.b=c)→∀c,c<H.length→DomW bw bt mp (pt mb' l e') c→DomW bw bt mp mb' c:=fun e' he' c hc q=>by
     rcases q with q|q|q|⟨l',e2,q,q2⟩
     ·exact .inl q
     ·exact .inr (.inl q)
     ·exact .inr (.inr (.inl q))
     ·rw[lk_pt]at q;split at q
      ·cases q;exact .inr (.inr (.inr (he' c hc q2)))
      ·exact .inr (.inr (.inr ⟨l',e2,q,q2⟩))
    cases hlk:lk mb' l with
    |none=>
     have hb0:=LH.byn l hlk;have hst:addT S.byl k o0 o1 (i+1)=pt (addT S.byl k o0 o1 i) l [k]:=by
      rw[hstep];unfold addB;rw[hb0];rfl
     have LN:∀cap,1≤cap→LayW (H.set bw (wtB ba bt ⟨mp,pt mb' l ⟨H.length,1,cap⟩,S.late,S.head,S.seen⟩)++[SV.pv (I64 k)::List.replicate (cap -1) (SV.pv .bot)]) bw ba bt mp (pt mb' l ⟨H.length,1,cap⟩) A T ⟨pt S.prs k ⟨p.lits,o0,o1⟩,addT S.byl k o0 o1 (i+1),S.late,S.head,S.seen⟩:=fun cap hc=>by
      have:=LH.newB l [k] (List.replicate (cap -1) (SV.pv .bot)) (fun m=>belowC_repW m _) 1 cap rfl hc (by simp;omega);rw[hst];rw[List.set_append_left _ _ v1]at this;exact this
     have EN:∀cap x y,Ext H (H.set bw x++[y]) (DomW bw bt mp mb') (DomW bw bt mp (pt mb' l ⟨H.length,1,cap⟩)):=fun cap x y=>by
      refine(((Ext.set bw x (.inl rfl)).trans (Ext.app _ [y] _)).dom (dom _ fun c hc e=>?_));simp only at e;omega
     simp[fr10Sch,v1,v2,wtB,hlk,hA];and_intros
     all_goals
      intro cap hc;exact⟨_,⟨pt mb' l ⟨H.length,1,cap⟩,LN cap hc,EN cap _ _⟩,Weak.keep (by simp) rfl⟩
    |some e=>
     obtain⟨zs,hz1,⟨sp,e1,e2,e3,e4,e5⟩,e6,e7,e8⟩:=LH.by' l e hlk
     obtain⟨u1,u2⟩:=List.getElem?_eq_some_iff.1 e1;have e6':¬bw=e.b:=fun q=>e6 q.symm;have hst:addT S.byl k o0 o1 (i+1)=pt (addT S.byl k o0 o1 i) l (zs++[k]):=by
      rw[hstep];unfold addB;rw[hz1];rfl
     have hil:(icells zs).length=e.n:=by rw[icells_len];exact e3
     have hzn:e.n≤1000000+i:=by rw[←e3];exact hzs l zs hz1
     have belD:∀m (s0:List SV),belowC m s0→belowC m (s0.drop 1):=fun m s0 hs0=>by cases s0 with|nil=>exact hs0|cons _ _=>exact hs0.2
     have hYl:(icells zs++sp).length=e.n+sp.length:=by rw[List.length_append,hil]
     have hT1:(icells zs++sp).take e.n=icells zs:=List.take_left' hil;have hT2:(icells zs++sp).take e.n=(zs.map fun z=>PV.lit (.int .i64 z)).map SV.pv:=by rw[hT1];unfold icells;rw[List.map_map];rfl
     have hcat:∀R:List SV,icells (zs++[k])++R=icells zs++SV.pv (I64 k)::R:=fun R=>by unfold icells;rw[List.map_append,List.append_assoc];rfl
     have hD1:(icells zs++sp).drop (e.n+1)=sp.drop 1:=by rw[←hil,List.drop_append];simp
     have LR:e.n+1≤e.cp→LayW ((H.set e.b (List.take e.n (icells zs++sp)++SV.pv (I64 k)::List.drop (e.n+1) (icells zs++sp))).set bw (wtB ba bt ⟨mp,pt mb' l ⟨e.b,e.n+1,e.cp⟩,S.late,S.head,S.seen⟩)) bw ba bt mp (pt mb' l ⟨e.b,e.n+1,e.cp⟩) A T ⟨pt S.prs k ⟨p.lits,o0,o1⟩,addT S.byl k o0 o1 (i+1),S.late,S.head,S.seen⟩:=fun hr=>by
      rw[hT1,hD1,←hcat,hst];exact LH.setB hlk (zs++[k]) (sp.drop 1) (fun m=>belD m sp (e2 m)) (e.n+1) (by simp;omega) hr (by rw[List.length_drop];omega)
     have LG:∀cap',e.n+1≤cap'→LayW (H.set bw (wtB ba bt ⟨mp,pt mb' l ⟨H.length,e.n+1,cap'⟩,S.late,S.head,S.seen⟩)++[(zs.map fun z=>PV.lit (.int .i64 z)).map SV.pv++SV.pv (I64 k)::List.replicate (cap' -(e.n+1)) (SV.pv .bot)]) bw ba bt mp (pt mb' l ⟨H.length,e.n+1,cap'⟩) A T ⟨pt S.prs k ⟨p.lits,o0,o1⟩,addT S.byl k o0 o1 (i+1),S.late,S.head,S.seen⟩:=fun cap' hc=>by
      have:=LH.newB l (zs++[k]) (List.replicate (cap' -(e.n+1)) (SV.pv .bot)) (fun m=>belowC_repW m _) (e.n+1) cap' (by simp;omega) hc (by simp;omega);rw[hst,←hT2,hT1];rw[List.set_append_left _ _ v1,hcat]at this;exact this
     have ER:∀x y,Ext H ((H.set e.b x).set bw y) (DomW bw bt mp mb') (DomW bw bt mp (pt mb' l ⟨e.b,e.n+1,e.cp⟩)):=fun x y=>by
      refine(((Ext.set e.b x (.inr (.inr (.inr ⟨l,e,hlk,rfl⟩)))).trans (Ext.set bw y (.inl rfl))).dom (dom _ fun c hc q=>?_));exact⟨l,e,hlk,q⟩
     have EG:∀cap' x y,Ext H (H.set bw x++[y]) (DomW bw bt mp mb') (DomW bw bt mp (pt mb' l ⟨H.length,e.n+1,cap'⟩)):=fun cap' x y=>by
      refine(((Ext.set bw x (.inl rfl)).trans (Ext.app _ [y] _)).dom (dom _ fun c hc q=>?_));simp only at q;omega
     clear hT1 hD1 hcat;generalize hY:icells zs++sp=Y at*;simp[fr10Sch,v1,v2,wtB,hlk,byV,u1,u2,hA,e6,e6'];and_intros
     all_goals first
      |omega
      |(refine⟨_,hT2,by simpa using e3,fun hr=>⟨_,⟨_,LR hr,ER _ _⟩,Weak.keep (by simp) rfl⟩,fun hn cap' hc=>⟨_,⟨_,LG cap' hc,EG cap' _ _⟩,Weak.keep (by simp) rfl⟩⟩)
   ·rintro⟨H2,mb2⟩ ⟨LN,EN⟩;simp;refine⟨(i+1,H2,mb2),by(try dsimp only);omega,⟨by(try dsimp only);omega,LN,hE.trans EN,fun l' zs' q=>?_⟩,Weak.keep (by simp[hw']) rfl⟩;dsimp only at q⊢;rw[hstep]at q;unfold addB at q;rw[lk_pt]at q;split at q
    ·cases q
     rw[List.length_append,List.length_singleton];cases hq:lk (addT S.byl k o0 o1 i) l with
     |none=>simp only[Option.getD_none,List.length_nil];omega
     |some z0=>have:=hzs l z0 hq;simp only[Option.getD_some];omega
    ·have:=hzs l' zs' q;omega
  ·have:i=2:=by omega
   subst this;simp[v1,v2,wtB];exact⟨mb',LH.setW (dl S.late k) S.head S.seen,(E1.trans hE).trans (Ext.set bw _ (.inl rfl))⟩
end Go.AX