/-
  Contracts: watches: made anew, Attach, Detach, Attached.
  Contracts: the document's watches: Attach, Detach.
  Contracts: a desk with clauses, of six variables, and a watch.
  Contracts: a desk with clauses: places; a clause is attached, or detached.
  A watch to which clauses are attached, and detached, goes with the document (plain law).
  A watch of two clauses, step by step: what awake sees (plain law).
  Contracts: awake.
  The law's contract: WatchPlays.
-/
import Derived.Test.YthfhellfmbllhaaGreatS12AxWaG
import Derived.Test.YthfhellfmbllhaaGreatS12AxRnS
import Derived.Test.YthfhellfmbllhaaGreatS12AxTxG
import Derived.Test.YthfhellfmbllhaaGreatS12AxTtA
import Derived.Test.YthfhellfmbllhaaGreatS12AxDkQ
import Derived.Test.YthfhellfmbllhaaGreatAxBe
import Derived.Test.YthfhellfmbllhaaGreatAxAf
import Derived.Test.YthfhellfmbllhaaGreatAxIs
import Derived.Test.YthfhellfmbllhaaGreatAxPt
import Derived.Test.YthfhellfmbllhaaGreatS12AxGlI
namespace Go.AX
open Go.Proofs
set_option linter.unusedSimpArgs false
theorem topen_ok (T:Tr) (hm:T.marks.length≤1000000) (hl:T.lits.length≤1000000):APure Tryz.prog 84 [trP T] (fun r=>r=.pv (I64 ((T.marks.length:Int) -1 -T.lits.length))):=by
 refine apure1 hmo Tryz.func84 (by kernel_rfl) rfl rfl (by kernel_rfl) (Nat.le_of_ble_eq_true rfl) ?_;have hi:=tis_ok T;have w1:w64 ((T.marks.length:Int) -1)=(T.marks.length:Int) -1:=w64_id (by omega) (by omega);have w2:w64 ((T.marks.length:Int) -1 -T.lits.length)=(T.marks.length:Int) -1 -T.lits.length:=w64_id (by omega) (by omega);simp only[trP,trR]at hi;simp[trP,trR];refine CallK.intro hi (by simp) ?_;simp[w1,w2]
theorem vchk_ok (x v:Int):APure Tryz.prog 86 [I64 x,.iptr 1 [[I64 v]] 0 0] (fun r=>r=.pv (BL (!decide (litChk x v=0)))):=by
 refine apure1 hmo Tryz.func86 (by kernel_rfl) rfl rfl (by kernel_rfl) (Nat.le_of_ble_eq_true rfl) ?_;simp;refine CallK.intro (litCheck_ok x v) (by simp) ?_
 by_cases c:litChk x v=0
 ·simp[c]
 ·simp[c]
theorem aid_ok (h:List (List SV)) (b:Nat) (A:Ar) (hb:h[b]?=some (arB A)) (hk:ArOk A) (hl:A.row.length≤1000000) (q:Int):AMut Tryz.prog 82 [.ptr b 0,I64 q] h (fun r h'=>h'=h∧r=.pv (I64 (idA A q))):=by
 refine amutXP [] [.tmp 4] hmo Tryz.func82 (by kernel_rfl) rfl rfl (by kernel_rfl) (Nat.le_of_ble_eq_true rfl) ?_;obtain⟨hlt,hb'⟩:=List.getElem?_eq_some_iff.1 hb;unfold idA;simp;refine CallB.intro (ais_ok h b A hb q) (by simp) ?_;rintro _ _ ⟨rfl,rfl⟩
 by_cases c:isA A q=true
 ·obtain⟨p,n,rfl,ha⟩:=hk q c;have hp:p<A.row.length:=by have:=ha.len;omega
  simp[hb',hlt,arB,c,hp]
 ·have c':isA A q=false:=by simpa using c
  simp[c']
theorem alitsW_ok (h:List (List SV)) (b:Nat) (A:Ar) (hb:h[b]?=some (arB A)) (hk:ArOk A) (hl:A.row.length≤1000000) (q:Int) (hi:isA A q=true):
 AMut Tryz.prog 83 [.ptr b 0,I64 q] h (fun r h'=>h'=h∧r=.pv (.seq false 1 (irow (litsA A q)))):=by
 obtain⟨p,n,rfl,ha⟩:=hk q hi;have e:litsA A (p:Int)=partA' A p n:=by
  unfold litsA;rw[if_pos hi];have h1:p+1<A.row.length:=by have:=ha.len;omega
  have h2:A.row.getD ((p:Int).toNat+1) 0=(n:Int):=by rw[←ha.num];rfl
  rw[h2];rfl
 rw[e];exact alits_ok h b A hb p n hi ha hl
theorem wnew_ok (h:List (List SV)) (ba bt:Nat):AMut Tryz.prog 31 [.ptr ba 0,.ptr bt 0] h (fun r h'=>h'=h++[[.pv (.ptr ba 0),.pv (.ptr bt 0),.omap true [],.omap true [],.omap true [],.pv (I64 0),.pv (.lit (.slice none 0 0))]]∧r=.pv (.ptr h.length 0)):=by
 refine amutX [] [.tmp 4] hmo Tryz.func31 (by kernel_rfl) rfl rfl (by kernel_rfl) (Nat.le_of_ble_eq_true rfl) ?_;simp
theorem wnewN_ok (h:List (List SV)) (bt:Nat):AMut Tryz.prog 31 [.lit (.pointer none),.ptr bt 0] h (fun r h'=>h'=h∧r=.pv (.lit (.pointer none))):=by
 refine amutX [] [.tmp 4] hmo Tryz.func31 (by kernel_rfl) rfl rfl (by kernel_rfl) (Nat.le_of_ble_eq_true rfl) ?_;simp
@[simp] theorem del_prV:∀(l:List (Int×Nat)) (k:Int),amDel k (mapE prV l)=mapE prV (dl l k)
 |[],k=>rfl
 |(j,x)::l,k=>by
  show(if j=k then mapE prV l else(j,prV x)::amDel k (mapE prV l))=mapE prV (if j=k then l else(j,x)::dl l k);rw[del_prV l k];split<;>rfl
theorem dl_keysW {α β:Type}:∀(a:List (Int×α)) (c:List (Int×β)) (k:Int),a.map (·.1)=c.map (·.1)→(dl a k).map (·.1)=(dl c k).map (·.1)
 |[],[],_,_=>rfl
 |[],_::_,_,h=>by simp at h
 |_::_,[],_,h=>by simp at h
 |u::a,w::c,k,h=>by
  obtain⟨u1,u2⟩:=u;obtain⟨w1,w2⟩:=w;simp only[List.map_cons,List.cons.injEq]at h;obtain⟨h1,h2⟩:=h;subst h1;show(if u1=k then a else(u1,u2)::dl a k).map (·.1)=(if u1=k then c else(u1,w2)::dl c k).map (·.1)
  by_cases e:u1=k
  ·rw[if_pos e,if_pos e];exact h2
  ·rw[if_neg e,if_neg e,List.map_cons,List.map_cons,dl_keysW a c k h2]
theorem lk_none_of {α:Type}:∀{l:List (Int×α)} {k:Int},k∉l.map (·.1)→lk l k=none
 |[],_,_=>rfl
 |(j,x)::l,k,h=>by
  simp only[List.map_cons,List.mem_cons,not_or]at h;rw[lk,if_neg (fun e=>h.1 e.symm)];exact lk_none_of h.2
theorem lk_dlN {α:Type}:∀{l:List (Int×α)},(l.map (·.1)).Nodup→∀k x:Int,lk (dl l k) x=if x=k then none else lk l x
 |[],_,k,x=>by show none=_;split<;>rfl
 |(j,y)::l,h,k,x=>by
  simp only[List.map_cons,List.nodup_cons]at h;show lk (if j=k then l else(j,y)::dl l k) x=if x=k then none else if j=x then some y else lk l x
  by_cases e:j=k
  ·rw[if_pos e]
   by_cases c:x=k
   ·rw[if_pos c,c,←e];exact lk_none_of h.1
   ·rw[if_neg c,if_neg (fun e2=>c (e2.symm.trans e))]
  ·rw[if_neg e,lk,lk_dlN h.2 k x]
   by_cases c:x=k
   ·rw[if_pos c,if_pos c,if_neg (fun e2=>e (e2.trans c))]
   ·rw[if_neg c,if_neg c]
section
variable {h : List (List SV)} {bw ba bt : Nat} {mp : List (Int × Nat)} {mb : List (Int × By)} {A : Ar} {T : Tr} {S : WS}
theorem LayW.newP (L:LayW h bw ba bt mp mb A T S) (k:Int) (p:Pr) (late:List (Int×Int)):
    LayW ((h++[prB p]).set bw (wtB ba bt ⟨pt mp k h.length,mb,late,S.head,S.seen⟩)) bw ba bt (pt mp k h.length) mb A T ⟨pt S.prs k p,S.byl,late,S.head,S.seen⟩:=by
  have hwl:=(List.getElem?_eq_some_iff.1 L.w).1
  have lt:∀{b:Nat} {x:List SV},h[b]?=some x→b<h.length:=fun hx=>(List.getElem?_eq_some_iff.1 hx).1
  have up:∀{c:Nat} {x:List SV},c≠bw→h[c]?=some x→((h++[prB p]).set bw (wtB ba bt ⟨pt mp k h.length,mb,late,S.head,S.seen⟩))[c]?=some x:=fun n1 hx=>by
    rw[List.getElem?_set_ne (fun e=>n1 e.symm),List.getElem?_append_left (lt hx),hx]
  have self:((h++[prB p]).set bw (wtB ba bt ⟨pt mp k h.length,mb,late,S.head,S.seen⟩))[h.length]?=some (prB p):=by
    rw[List.getElem?_set_ne (by omega)];simp
  have old:∀k' b,lk mp k'=some b→b<h.length:=fun k' b hb=>by obtain⟨_,_,a2,_⟩:=L.pr k' b hb;exact lt a2
  exact { w := List.getElem?_set_self (by simp; omega), a := up L.wa.symm L.a, t := up L.wt.symm L.t, wa := L.wa, wt := L.wt, at' := L.at', keys := pt_keysW _ _ _ _ _ L.keys, byn := L.byn, binj := L.binj
          pr:=fun k' b hb=>by
            rw[lk_pt]at hb
            show∃p',lk (pt S.prs k p) k'=some p'∧_
            rw[lk_pt]
            by_cases c:k=k'
            · rw[if_pos c]at hb;cases hb
              exact⟨p,if_pos c,self,Nat.ne_of_gt hwl,Nat.ne_of_gt (lt L.a),Nat.ne_of_gt (lt L.t)⟩
            · rw[if_neg c]at hb
              obtain⟨p',a1,a2,a3⟩:=L.pr k' b hb
              exact⟨p',by rw[if_neg c];exact a1,up a3.1 a2,a3⟩
          by':=fun l e he=>by
            obtain⟨zs,a1,⟨sp,a2,a3⟩,a4⟩:=L.by' l e he
            exact⟨zs,a1,⟨sp,up a4.1 a2,a3⟩,a4⟩
          pinj:=fun k1 k2 b h1 h2=>by
            rw[lk_pt]at h1 h2
            by_cases c1:k=k1
            · by_cases c2:k=k2
              · exact c1.symm.trans c2
              · rw[if_pos c1]at h1;rw[if_neg c2]at h2;cases h1
                have:=old k2 _ h2;omega
            · rw[if_neg c1]at h1
              by_cases c2:k=k2
              · rw[if_pos c2]at h2;cases h2
                have:=old k1 _ h1;omega
              · rw[if_neg c2]at h2
                exact L.pinj k1 k2 b h1 h2
          pb:=fun k' b l e hb he=>by
            rw[lk_pt]at hb
            by_cases c:k=k'
            · rw[if_pos c]at hb;cases hb
              obtain⟨_,_,⟨_,a2,_⟩,_⟩:=L.by' l e he
              exact Nat.ne_of_gt (lt a2)
            · rw[if_neg c]at hb;exact L.pb k' b l e hb he}
theorem LayW.delP (L:LayW h bw ba bt mp mb A T S) (hn:(S.prs.map (·.1)).Nodup) (k:Int) (late:List (Int×Int)):
    LayW (h.set bw (wtB ba bt ⟨dl mp k,mb,late,S.head,S.seen⟩)) bw ba bt (dl mp k) mb A T ⟨dl S.prs k,S.byl,late,S.head,S.seen⟩:=by
  have hl:=(List.getElem?_eq_some_iff.1 L.w).1
  have hn':(mp.map (·.1)).Nodup:=by rw[L.keys];exact hn
  have up:∀{b:Nat} {x:List SV},b≠bw→h[b]?=some x→(h.set bw (wtB ba bt ⟨dl mp k,mb,late,S.head,S.seen⟩))[b]?=some x:=fun hn hx=>by rw[List.getElem?_set_ne (fun e=>hn e.symm),hx]
  have sub:∀{k' b},lk (dl mp k) k'=some b→k'≠k∧lk mp k'=some b:=fun{k' b} hb=>by
    rw[lk_dlN hn']at hb
    by_cases c:k'=k
    · rw[if_pos c]at hb;cases hb
    · rw[if_neg c]at hb;exact⟨c,hb⟩
  exact { w := List.getElem?_set_self hl, a := up L.wa.symm L.a, t := up L.wt.symm L.t, wa := L.wa, wt := L.wt, at' := L.at', keys := dl_keysW _ _ _ L.keys, byn := L.byn, binj := L.binj
          pr:=fun k' b hb=>by
            obtain⟨c,hb⟩:=sub hb
            obtain⟨p,h1,h2,h3⟩:=L.pr k' b hb
            exact⟨p,by show lk (dl S.prs k) k'=_;rw[lk_dlN hn,if_neg c];exact h1,up h3.1 h2,h3⟩
          by':=fun l e he=>by
            obtain⟨zs,h1,⟨sp,h2,h3⟩,h4⟩:=L.by' l e he
            exact⟨zs,h1,⟨sp,up h4.1 h2,h3⟩,h4⟩
          pinj:=fun k1 k2 b h1 h2=>L.pinj k1 k2 b (sub h1).2 (sub h2).2
          pb:=fun k' b l e hb he=>L.pb k' b l e (sub hb).2 he}
end
def attE (A:Ar) (T:Tr) (S:WS) (k:Int):Int:=if idA A k=0 then 20 else if(lk S.prs k).isSome=true then 21 else if(litsA A k).any (fun l=>!decide (litChk l ((T.marks.length:Int) -1)=0))=true then 10 else 0
def attS (A:Ar) (T:Tr) (S:WS) (k:Int):WS:=if attE A T S k=0 then⟨pt S.prs k ⟨litsA A k,0,0⟩,S.byl,pt S.late k (w64 ((lk S.late k).getD 0+1)),S.head,S.seen⟩else S
def at8Sch:Sch:=
 let s0:Sch:=.fork [(13,.done)]
 let s1:Sch:=.fork [(12,s0)]
 let s2:Sch:=.fork [(9,.take 10 (.take 11 s0))]
 let s3:Sch:=.fork [(9,.take 10 (.take 11 s1)),(12,s2)]
 let s4:Sch:=.fork [(8,s2)]
 let s5:Sch:=.fork [(8,s3),(12,s4)]
 let s6:Sch:=.fork [(4,s2)]
 let s7:Sch:=.fork [(4,s3),(12,s6)]
 let s8:Sch:=.fork [(4,s4),(8,s6)]
 let s9:Sch:=.fork [(4,s5),(8,s7),(12,s8)]
 let s10:Sch:=.fork [(3,s6)]
 let s11:Sch:=.fork [(3,s7),(12,s10)]
 let s12:Sch:=.fork [(3,s8),(8,s10)]
 let s13:Sch:=.fork [(3,s9),(8,s11),(12,s12)]
 .take 0 (.take 1 (.take 2 (.take 5 (.take 6 (.take 7 s13)))))
set_option maxRecDepth 16000 in
theorem wattach_ok (h:List (List SV)) (bw ba bt:Nat) (mp:List (Int×Nat)) (mb:List (Int×By)) (A:Ar) (T:Tr) (S:WS) (L:LayW h bw ba bt mp mb A T S) (hk:ArOk A) (hl:A.row.length≤1000000) (hm:T.marks.length≤1000000) (hTl:T.lits.length≤1000000) (k:Int):
 AMut Tryz.prog 32 [.ptr bw 0,I64 k] h (fun r h'=>r=.pv (I64 (attE A T S k))∧∃mp',LayW h' bw ba bt mp' mb A T (attS A T S k)∧Ext h h' (DomW bw bt mp mb) (DomW bw bt mp' mb)):=by
 refine amutX [8] [.tmp 4] hmo Tryz.func32 (by kernel_rfl) rfl rfl (by kernel_rfl) (Nat.le_of_ble_eq_true rfl) ?_;obtain⟨w1,w2⟩:=List.getElem?_eq_some_iff.1 L.w;have kM:=wmade_ok h bw ba bt _ L.w;have kI:=aid_ok h ba A L.a hk hl k;simp;refine CallB.intro kM (by simp) ?_;rintro _ h2 ⟨e,rfl⟩;rw[e];clear e h2;simp[w1,w2,wtB];refine CallB.intro kI (by simp) ?_;rintro _ h2 ⟨e,rfl⟩;rw[e];clear e h2
 by_cases c1:idA A k=0
 ·have eE:attE A T S k=20:=by unfold attE;rw[if_pos c1]
  have eS:attS A T S k=S:=by unfold attS;rw[eE];rfl
  rw[eE,eS];simp[c1];exact⟨mp,L,Ext.refl _ _⟩
 have hisA:isA A k=true:=by
  unfold idA at c1
  by_cases c:isA A k=true
  ·exact c
  ·rw[if_neg c]at c1;exact absurd rfl c1
 cases hp:lk mp k with
 |some b=>
  obtain⟨p,hp1,_⟩:=L.pr k b hp;have eE:attE A T S k=21:=by unfold attE;rw[if_neg c1,hp1];rfl
  have eS:attS A T S k=S:=by unfold attS;rw[eE];rfl
  rw[eE,eS];simp[c1,w1,w2,wtB,hp,prV];exact⟨mp,L,Ext.refl _ _⟩
 |none=>
 have hpn:lk S.prs k=none:=by
  cases hq:lk S.prs k with
  |none=>rfl
  |some p=>obtain⟨b,hb,_⟩:=L.some_p hq;rw[hp]at hb;cases hb
 have kL:=alitsW_ok h ba A L.a hk hl k hisA;simp[c1,w1,w2,wtB,hp,prV];refine CallB.intro kL (by simp) ?_;rintro _ h2 ⟨e,rfl⟩;rw[e];clear e h2;simp;obtain⟨G,hG⟩:∃G,G=h++[[SV.pv (I64 ((T.marks.length:Int) -1))]]:=⟨_,rfl⟩;have L0:LayW G bw ba bt mp mb A T S:=by rw[hG];exact L.app _
 have E0:Ext h G (DomW bw bt mp mb) (DomW bw bt mp mb):=by rw[hG];exact Ext.app _ _ _
 have hz:=frz_tr0 L.t 2;have hz2:=fun x=>frz_tr0 (L.app [x]).t 2;have kO:=topen_ok T hm hTl;have kT:=tlits_ok T hTl;have ew:w64 ((T.marks.length:Int) -1)=(T.marks.length:Int) -1:=w64_id (by omega) (by omega);obtain⟨g1,g2⟩:=List.getElem?_eq_some_iff.1 L0.w;have a1:∀x,(h++[x])[bw]?=some (wtB ba bt ⟨mp,mb,S.late,S.head,S.seen⟩):=fun x=>(L.app [x]).w;refine AAnyD.meet at8Sch ⟨[(0,.pv (.ptr bw 0)),(1,.pv (I64 k)),(5,.pv (.seq false 1 (irow (litsA A k)))),(6,.pv (.ptr h.length 0))],G⟩ (by kernel_rfl) ?_ ?_
 ·simp[at8Sch,w1,w2,wtB,hz,a1,hz2]
  repeat' first
   |refine And.intro ?_ ?_
   |(refine CallB.introP kO (by simp) (by simp) ?_;simp[w1,w2,wtB,hz,a1,hz2,ew])
   |(refine CallB.introP kT (by simp) (by simp) ?_;simp[w1,w2,wtB,hz,a1,hz2,ew])
   |exact Weak.keep (by simp) (by rw[hG])
 have kC:=containsF_ok (litsA A k) (by have:=litsA_len A hk k;omega) 86 [.iptr 1 [[I64 ((T.marks.length:Int) -1)]] 0 0] (fun l=>!decide (litChk l ((T.marks.length:Int) -1)=0)) (fun r=>by simp) rfl (fun m=>by simp) (fun x _=>vchk_ok x _);have n1:h.length<G.length:=by rw[hG];simp
 have n2:G[h.length]'n1=[.pv (I64 ((T.marks.length:Int) -1))]:=by simp[hG]
 generalize hany:(litsA A k).any (fun l=>!decide (litChk l ((T.marks.length:Int) -1)=0))=B at kC;have hf:∀n,frzP G (n+1) h.length 0=.iptr 1 [[I64 ((T.marks.length:Int) -1)]] 0 0:=fun n=>by simp[frzP,n1,n2,frzC]
 have hA:attE A T S k=if B=true then 10 else 0:=by unfold attE;rw[if_neg c1,hpn,hany];rfl
 have hS':attS A T S k=if attE A T S k=0 then⟨pt S.prs k ⟨litsA A k,0,0⟩,S.byl,pt S.late k (w64 ((lk S.late k).getD 0+1)),S.head,S.seen⟩else S:=rfl;rw[hA]at hS'⊢;generalize attS A T S k=S2 at*;simp[hf];refine CallK.intro kC (by simp) ?_;cases B
 ·have e0:(if false=true then(10:Int)else 0)=0:=rfl;rw[e0]at hS'⊢;rw[if_pos rfl]at hS';subst hS';have L1:=L0.newP k ⟨litsA A k,0,0⟩ (pt S.late k (w64 ((lk S.late k).getD 0+1)));have E1:Ext h ((G++[prB ⟨litsA A k,0,0⟩]).set bw (wtB ba bt ⟨pt mp k G.length,mb,pt S.late k (w64 ((lk S.late k).getD 0+1)),S.head,S.seen⟩)) (DomW bw bt mp mb) (DomW bw bt (pt mp k G.length) mb):=
   ((E0.trans (Ext.app G _ _)).trans (Ext.set bw _ (.inl rfl))).dom fun b hb hd=>by
    rcases hd with h1|h1|⟨k',h1⟩|h1
    ·exact .inl h1
    ·exact .inr (.inl h1)
    ·rw[lk_pt]at h1
     by_cases c:k=k'
     ·rw[if_pos c]at h1;cases h1;have:=E0.len;omega
     ·rw[if_neg c]at h1;exact .inr (.inr (.inl ⟨k',h1⟩))
    ·exact .inr (.inr (.inr h1))
  have hgl:G.length=h.length+1:=by rw[hG];simp
  have b1:∀x,(G++[x])[bw]?=some (wtB ba bt ⟨mp,mb,S.late,S.head,S.seen⟩):=fun x=>(L0.app [x]).w;have b2:∀x y,(G.set bw y++[x])[bw]?=some y:=fun x y=>by rw[List.getElem?_append_left (by simpa using g1),List.getElem?_set_self g1]
  rw[List.set_append_left _ _ g1]at L1 E1;simp[g1,g2,wtB,b1,b2];exact⟨_,L1,E1⟩
 ·have e0:(if true=true then(10:Int)else 0)=10:=rfl;rw[e0]at hS'⊢;rw[if_neg (by omega)]at hS';subst hS';simp;exact⟨mp,L0,E0⟩
def detE (S:WS) (k:Int):Int:=if(lk S.prs k).isSome=true then 0 else 20
def detS (S:WS) (k:Int):WS:=match lk S.prs k with
 |some p=>⟨dl (forS S k p).prs k,(forS S k p).byl,dl S.late k,S.head,S.seen⟩
 |none=>S
set_option maxRecDepth 16000 in
theorem wdetach_ok (h:List (List SV)) (bw ba bt:Nat) (mp:List (Int×Nat)) (mb:List (Int×By)) (A:Ar) (T:Tr) (S:WS) (L:LayW h bw ba bt mp mb A T S) (hn:(S.prs.map (·.1)).Nodup) (k:Int)
 (hx:∀p,lk S.prs k=some p→(p.x≠0→∃zs,lk S.byl p.x=some zs∧zs≠[])∧(p.y≠0→∃zs,lk (forB S.byl k p.x) p.y=some zs∧zs≠[])) (hz:∀l zs,lk S.byl l=some zs→zs.length≤1000000):
 AMut Tryz.prog 36 [.ptr bw 0,I64 k] h (fun r h'=>r=.pv (I64 (detE S k))∧∃mp' mb',LayW h' bw ba bt mp' mb' A T (detS S k)∧Ext h h' (DomW bw bt mp mb) (DomW bw bt mp' mb')):=by
 refine amutX [] [.tmp 4] hmo Tryz.func36 (by kernel_rfl) rfl rfl (by kernel_rfl) (Nat.le_of_ble_eq_true rfl) ?_;obtain⟨w1,w2⟩:=List.getElem?_eq_some_iff.1 L.w;have kM:=wmade_ok h bw ba bt _ L.w;simp;refine CallB.intro kM (by simp) ?_;rintro _ h2 ⟨e,rfl⟩;rw[e];clear e h2;cases hp:lk S.prs k with
 |none=>
  have hm:lk mp k=none:=by
   cases hq:lk mp k with
   |none=>rfl
   |some b=>obtain⟨p,h1,_⟩:=L.pr k b hq;rw[hp]at h1;cases h1
  simp[w1,w2,wtB,hm,detE,detS,hp];exact⟨mp,mb,L,Ext.refl _ _⟩
 |some p=>
  obtain⟨b,hb,_⟩:=L.some_p hp;obtain⟨hx1,hx2⟩:=hx p hp;have kF:=wforget_ok h bw ba bt mp mb A T S L k p hp hx1 hx2 hz;simp[w1,w2,wtB,hb,prV,detE,detS,hp];refine CallB.intro kF (by simp) ?_;rintro _ H1 ⟨rfl,mb1,L1,E1⟩;obtain⟨v1,v2⟩:=List.getElem?_eq_some_iff.1 L1.w;have hn1:((forS S k p).prs.map (·.1)).Nodup:=by show((pt S.prs k _).map (·.1)).Nodup;rw[pt_keepW _ hp];exact hn
  have L2:=L1.delP hn1 k (dl S.late k);have E2:Ext h (H1.set bw (wtB ba bt ⟨dl mp k,mb1,dl S.late k,(forS S k p).head,(forS S k p).seen⟩)) (DomW bw bt mp mb) (DomW bw bt (dl mp k) mb1):=
   (E1.trans (Ext.set bw _ (.inl rfl))).dom fun c hc hd=>by
    have key:∀k' c,lk (dl mp k) k'=some c→∃k'',lk mp k''=some c:=fun k' c h1=>by
     have hn2:(mp.map (·.1)).Nodup:=by rw[L.keys];exact hn
     rw[lk_dlN hn2]at h1
     by_cases e:k'=k
     ·rw[if_pos e]at h1;cases h1
     ·rw[if_neg e]at h1;exact⟨k',h1⟩
    rcases hd with h1|h1|⟨k',h1⟩|⟨l,e,h1,h2⟩
    ·exact .inl h1
    ·exact .inr (.inl h1)
    ·exact .inr (.inr (.inl (key k' c h1)))
    ·exact E1.sub c hc (.inr (.inr (.inr ⟨l,e,h1,h2⟩)))
  have e0:(forS S k p).late=S.late:=rfl;simp[v1,v2,wtB,e0];exact⟨_,_,L2,E2⟩
def remW (l:List Int) (k:Int):List Int:=l.filter fun x=>decide (x≠k)
theorem remW_take (l:List Int) (k:Int) {i:Nat} (h:i<l.length):remW (l.take (i+1)) k=if l[i]=k then remW (l.take i) k else remW (l.take i) k++[l[i]]:=by
 unfold remW;rw[List.take_add_one,List.getElem?_eq_getElem h,Option.toList_some,List.filter_append,List.filter_cons,List.filter_nil]
 by_cases c:l[i]=k
 ·rw[if_pos c,if_neg (by simpa using c),List.append_nil]
 ·rw[if_neg c,if_pos (by simpa using c)]
theorem remW_len (l:List Int) (k:Int):(remW l k).length≤l.length:=List.length_filter_le _ _
def rdetL (l:List Int) (k:Int):List Int:=if k∈l then remW l k else l
def rdetE (l:List Int) (k:Int):Int:=if k∈l then 0 else 20
set_option maxRecDepth 16000 in
theorem rdetach_ok (h:List (List SV)) (l:List Int) (k:Int) (hl:l.length≤1000000):AMut Tryz.prog 42 [.seq false 1 (irow l),I64 k] h (fun r h'=>h'=h∧r=.pv (.tup [.seq false 1 (irow (rdetL l k)),I64 (rdetE l k)])):=by
 refine amutXW [] [.tmp 4,.tmp 5] hmo Tryz.func42 (by kernel_rfl) rfl rfl (by kernel_rfl) (Nat.le_of_ble_eq_true rfl) ?_;have kH:=refHas_ok l k (by omega);simp;refine CallK.intro kH (by simp) ?_;unfold rdetL rdetE
 by_cases c:k∈l
 rotate_left
 ·simp[c,wkPL,wkP]
 simp[c];refine ALoop.intro (S:=fun(i:Nat)=>⟨[(0,.pv (.seq false 1 (irow l))),(1,.pv (I64 k)),(6,.own true 1 (irow (remW (l.take i) k))),(7,.pv (I64 i))],h⟩) (fun i=>i≤l.length) (fun i=>l.length -i) 0 ?_ (Nat.zero_le _) ?_
 ·refine(Weak.nilOwn (s:=6) 1 true (by simp)).trans (Weak.keep (by simp[remW,irow]) rfl)
 intro i hi
 by_cases d:i<l.length
 ·have hw':w64 ((i:Int)+1)=((i+1:Nat):Int):=by rw[w64_id (by omega) (by omega)];omega
  have hq:l[i]?=some l[i]:=List.getElem?_eq_getElem d;have ho:=remW_take l k d;have hol:(remW (l.take i) k).length≤i:=Nat.le_trans (remW_len _ _) (by rw[List.length_take];omega)
  by_cases e:l[i]=k
  ·rw[if_pos e]at ho;simp[d,hq,e];exact⟨i+1,by(try dsimp only);omega,by(try dsimp only);omega,Weak.keep (by simp[hw',ho]) rfl⟩
  ·rw[if_neg e]at ho;simp[d,hq,e];exact⟨by omega,i+1,by(try dsimp only);omega,by(try dsimp only);omega,Weak.keep (by simp[hw',ho,irow]) rfl⟩
 ·have:i=l.length:=by omega
  subst this;simp[wkPL,wkP]
def insF (k:Int) (p:List Int×Bool) (x:Int):List Int×Bool:=if k<x∧p.2=false then(p.1++[k]++[x],true)else(p.1++[x],p.2)
def insT (l:List Int) (k:Int) (i:Nat):List Int×Bool:=(l.take i).foldl (insF k) ([],false)
def insW (l:List Int) (k:Int):List Int:=if(insT l k l.length).2=true then(insT l k l.length).1 else(insT l k l.length).1++[k]
theorem insT_succ (l:List Int) (k:Int) {i:Nat} (h:i<l.length):insT l k (i+1)=insF k (insT l k i) l[i]:=foldl_take_succ _ _ _ _ h
theorem insT_len (l:List Int) (k:Int):∀i,i≤l.length→(insT l k i).1.length≤2*i
 |0,_=>by simp[insT]
 |i+1,h=>by
  have:=insT_len l k i (by omega);rw[insT_succ l k (by omega),insF];split<;>simp<;>omega
def rattE (a:RA) (v:Int) (l:List Int) (k:Int):Int:=
 if findA a k<0 then 20 else if k∈l then 21 else if(a.rows.getD (findA a k).toNat default).lits.any (fun x=>!decide (litChk x v=0))=true then 10 else 0
def rattL (a:RA) (v:Int) (l:List Int) (k:Int):List Int:=if rattE a v l k=0 then insW l k else l
set_option maxRecDepth 16000 in
theorem rattach_ok (h:List (List SV)) (a:RA) (t:RT) (l:List Int) (k:Int) (ha:a.rows.length≤1000000) (hr:∀x∈a.rows,x.lits.length≤1000000) (hl:l.length≤1000000):
 AMut Tryz.prog 40 [raV a,rtV t,.seq false 1 (irow l),I64 k] h (fun r h'=>h'=h∧r=.pv (.tup [.seq false 1 (irow (rattL a t.vars l k)),I64 (rattE a t.vars l k)])):=by
 refine amutXW [] [.tmp 8,.tmp 9] hmo Tryz.func40 (by kernel_rfl) rfl rfl (by kernel_rfl) (Nat.le_of_ble_eq_true rfl) ?_;have kH:=refHas_ok l k (by omega);have kF:=refFind_ok a k ha;have hE:rattE a t.vars l k=if findA a k<0 then 20 else if k∈l then 21 else if(a.rows.getD (findA a k).toNat default).lits.any (fun x=>!decide (litChk x t.vars=0))=true then 10 else 0:=rfl;have hL:rattL a t.vars l k=if rattE a t.vars l k=0 then insW l k else l:=rfl;generalize rattE a t.vars l k=E at*;generalize rattL a t.vars l k=R at*;simp only[raV]at kF;simp[raV,rtV];refine CallK.intro kF (by simp) ?_
 by_cases c1:findA a k<0
 ·rw[if_pos c1]at hE;subst hE;rw[if_neg (by omega)]at hL;subst hL;simp[c1,wkPL,wkP]
 rw[if_neg c1]at hE;obtain⟨p,hp⟩:∃p:Nat,findA a k=p:=⟨(findA a k).toNat,by omega⟩;have hpl:p<a.rows.length:=by
  unfold findA idxS at hp;cases h:a.rows.findIdx? (fun x=>decide (x.at'=k))with
  |none=>rw[h]at hp;have hp:(-1:Int)=p:=hp;omega
  |some i=>
   rw[h]at hp;rw[List.findIdx?_eq_some_iff_getElem]at h;obtain⟨h1,_⟩:=h;have hp:(i:Int)=p:=hp;omega
 rw[hp]at hE c1;have hrow:a.rows.getD ((p:Int).toNat) default=a.rows[p]:=by simp[List.getD_eq_getElem?_getD,List.getElem?_eq_getElem hpl]
 rw[hrow]at hE;have hrl:=hr _ (List.getElem_mem hpl);generalize hcs:a.rows[p].lits=cs at*;simp[hp];refine CallK.intro kH (by simp) ?_
 by_cases c2:k∈l
 ·rw[if_pos c2]at hE;subst hE;rw[if_neg (by omega)]at hL;subst hL;simp[c2,wkPL,wkP]
 rw[if_neg c2]at hE;simp[c2];obtain⟨G,hG⟩:∃G,G=h++[[SV.pv (.seq false 5 (a.rows.map roR)),SV.pv (I64 a.size)],[SV.pv (I64 t.vars),SV.pv (.seq false 3 (t.rows.map enR)),SV.pv (I64 t.dep)]]:=⟨_,rfl⟩;have hGt:List.take h.length G=h:=by rw[hG];simp
 have g1:h.length<G.length:=by rw[hG];simp
 have g2:G[h.length]'g1=[SV.pv (.seq false 5 (a.rows.map roR)),SV.pv (I64 a.size)]:=by simp[hG]
 have g3:h.length+1<G.length:=by rw[hG];simp
 have g4:G[h.length+1]'g3=[SV.pv (I64 t.vars),SV.pv (.seq false 3 (t.rows.map enR)),SV.pv (I64 t.dep)]:=by simp[hG]
 refine ALoop.intro (S:=fun(i:Nat)=>⟨[(2,.pv (.seq false 1 (irow l))),(3,.pv (I64 k)),(4,.pv (.ptr h.length 0)),(5,.pv (.ptr (h.length+1) 0)),(10,.pv (I64 p)),(11,.pv (I64 i))],G⟩) (fun i=>i≤cs.length∧∀j (hj:j<cs.length),j<i→litChk cs[j] t.vars=0) (fun i=>cs.length -i) 0 ?_ ⟨Nat.zero_le _,fun j _ h=>absurd h (Nat.not_lt_zero _)⟩ ?_
 ·exact Weak.keep (by simp) (by simp[hG])
 rintro i ⟨hi,ho⟩
 by_cases d:i<cs.length
 ·have hw':w64 ((i:Int)+1)=((i+1:Nat):Int):=by rw[w64_id (by omega) (by omega)];omega
  simp[g1,g2,g3,g4,d,hpl,roR,hcs];refine CallQ0.intro (refLitChk_ok cs[i] t.vars) (by simp) ?_
  by_cases e:litChk cs[i] t.vars=0
  ·simp[e];refine⟨i+1,by(try dsimp only);omega,⟨by(try dsimp only);omega,fun j hj hji=>?_⟩,Weak.keep (by simp[hw']) rfl⟩
   by_cases e2:j=i
   ·subst e2;exact e
   ·exact ho j hj (by omega)
  ·have hany:cs.any (fun x=>!decide (litChk x t.vars=0))=true:=List.any_eq_true.2 ⟨_,List.getElem_mem d,by simp[e]⟩;rw[if_pos hany]at hE;subst hE;rw[if_neg (by omega)]at hL;subst hL;simp[e,wkPL,wkP,hGt]
 ·have hie:i=cs.length:=by omega
  subst hie;have hany:¬cs.any (fun x=>!decide (litChk x t.vars=0))=true:=fun h=>by
   obtain⟨x,hx,h2⟩:=List.any_eq_true.1 h;obtain⟨j,hj,rfl⟩:=List.getElem_of_mem hx;rw[ho j hj hj]at h2;exact absurd h2 (by simp)
  rw[if_neg hany]at hE;subst hE;rw[if_pos rfl]at hL;subst hL;simp[g1,g2,g3,g4,hpl,roR,hcs];refine ALoop.intro (S:=fun(i:Nat)=>⟨[(2,.pv (.seq false 1 (irow l))),(3,.pv (I64 k)),(12,.own true 1 (irow (insT l k i).1)),(13,.pv (BL (insT l k i).2)),(14,.pv (I64 i))],G⟩) (fun i=>i≤l.length) (fun i=>l.length -i) 0 ?_ (Nat.zero_le _) ?_
  ·exact(Weak.nilOwn (s:=12) 1 true (by simp)).trans (Weak.keep (by simp[insT,irow]) rfl)
  intro i hi;have hlen:=insT_len l k i hi
  by_cases d:i<l.length
  ·have hw':w64 ((i:Int)+1)=((i+1:Nat):Int):=by rw[w64_id (by omega) (by omega)];omega
   have hs:=insT_succ l k d;unfold insF at hs;generalize insT l k i=Y at*;obtain⟨o,b⟩:=Y;simp only at hlen hs;have ho1:(o.length+1)*8≤140737488355328:=by omega
   have ho2:(o.length+1+1)*8≤140737488355328:=by omega
   by_cases e:k<l[i]
   ·cases b
    ·rw[if_pos ⟨e,rfl⟩]at hs;simp[d,e];refine⟨by omega,by omega,i+1,by(try dsimp only);omega,by(try dsimp only);omega,Weak.keep (by simp[hw',hs,irow]) rfl⟩
    ·rw[if_neg (fun h=>by simp at h)]at hs;simp[d,e];refine⟨by omega,i+1,by(try dsimp only);omega,by(try dsimp only);omega,Weak.keep (by simp[hw',hs,irow]) rfl⟩
   ·rw[if_neg (fun h=>e h.1)]at hs;simp[d,e];refine⟨by omega,i+1,by(try dsimp only);omega,by(try dsimp only);omega,Weak.keep (by simp[hw',hs,irow]) rfl⟩
  ·have hie:i=l.length:=by omega
   subst hie;unfold insW;generalize insT l k l.length=Y at*;obtain⟨o,b⟩:=Y;simp only at hlen;cases b
   ·simp[wkPL,wkP,hGt];exact⟨by omega,by simp[irow]⟩
   ·simp[wkPL,wkP,hGt]
theorem ASem.to {P:Program} {k0:Nat} {ops:Array Oper} {K:St→Prop} {st:St} (st1:St) (hw:Weak k0 st st1) (h:ASem P k0 ops K st1):ASem P k0 ops K st:=
 ASem.weak (ι:=Unit) (fun _=>st1) (fun g a w h0 hs=>by obtain⟨g',t,s'⟩:=hw g a w h0 hs;exact⟨g',(),t,s'⟩) fun _=>h
structure PJ where
  A:Ar
  a:RA
  ats:List Int
def putJ1 (x:PJ) (c:List Int) (id:Int):PJ:=⟨putAr x.A id c,putRA x.a id c,if putEA id c=0 then x.ats++[putQA x.a id c]else x.ats⟩
def putJ (cs:List (List Int)):Nat→PJ
 |0=>⟨⟨[],[]⟩,⟨[],0⟩,[]⟩
 |i+1=>putJ1 (putJ cs i) (cs.getD i []) ((i+1:Nat):Int)
theorem putJ_L (cs:List (List Int)):∀i,(putJ cs i).A=(putL cs i).A∧(putJ cs i).a=(putL cs i).a
 |0=>⟨rfl,rfl⟩
 |i+1=>by
  obtain⟨h1,h2⟩:=putJ_L cs i;rw[putJ,putL,putJ1,putK,h1,h2];exact⟨rfl,rfl⟩
theorem putJ_len (cs:List (List Int)):∀i,(putJ cs i).ats.length≤i
 |0=>Nat.le_refl _
 |i+1=>by
  have:=putJ_len cs i;rw[putJ,putJ1];dsimp only;split
  ·simp;omega
  ·omega
structure DW where
  A:Ar
  T:Tr
  S:WS
  a:RA
  t:RT
  on:List Int
  ats:List Int
def dwB (ba bt bw:Nat) (D:DW):List SV:=[.pv (.ptr ba 0),.pv (.ptr bt 0),.pv (.ptr bw 0),.pv (.seq false 5 (D.a.rows.map roR)),.pv (I64 D.a.size),.pv (I64 D.t.vars),.pv (.seq false 3 (D.t.rows.map enR)),.pv (I64 D.t.dep),.pv (.seq false 1 (irow D.on)),.pv (.seq false 1 (irow D.ats)),.pv (BL true)]
def dwA (ba bt bw:Nat) (D:DW):PV:=.agg [.ptr ba 0,.ptr bt 0,.ptr bw 0,.seq false 5 (D.a.rows.map roR),I64 D.a.size,I64 D.t.vars,.seq false 3 (D.t.rows.map enR),I64 D.t.dep,.seq false 1 (irow D.on),.seq true 1 (irow D.ats),BL true]
def begW (cs:List (List Int)):DW:=⟨(putJ cs cs.length).A,newT 6,⟨[],[],[],0,[]⟩,(putJ cs cs.length).a,⟨6,[],0⟩,[],(putJ cs cs.length).ats⟩
def bg10Sch:Sch:=
 let s0:Sch:=.fork [(8,.take 9 (.take 10 (.take 11 (.take 12 (.take 13 .done)))))]
 let s1:Sch:=.fork [(7,s0)]
 let s2:Sch:=.fork [(1,s0)]
 let s3:Sch:=.fork [(1,s1),(7,s2)]
 .take 0 (.take 2 (.take 3 (.take 4 (.take 5 (.take 6 s3)))))
def bg11Sch:Sch:=
 let s0:Sch:=.fork [(14,.take 15 (.take 16 .done))]
 let s1:Sch:=.fork [(13,s0)]
 let s2:Sch:=.fork [(8,.take 9 (.take 10 (.take 11 (.take 12 s0))))]
 let s3:Sch:=.fork [(8,.take 9 (.take 10 (.take 11 (.take 12 s1)))),(13,s2)]
 let s4:Sch:=.fork [(7,s2)]
 let s5:Sch:=.fork [(7,s3),(13,s4)]
 let s6:Sch:=.fork [(1,s2)]
 let s7:Sch:=.fork [(1,s3),(13,s6)]
 let s8:Sch:=.fork [(1,s4),(7,s6)]
 let s9:Sch:=.fork [(1,s5),(7,s7),(13,s8)]
 .take 0 (.take 2 (.take 3 (.take 4 (.take 5 (.take 6 s9)))))
def zW:List SV:=[.pv (.lit (.pointer none)),.pv (.lit (.pointer none)),.pv (.lit (.pointer none)),.pv (.lit (.slice none 0 0)),.pv (.lit (.int .i64 0)),.pv (.lit (.int .i64 0)),.pv (.lit (.slice none 0 0)),.pv (.lit (.int .i64 0)),.pv (.lit (.slice none 0 0)),.pv (.lit (.slice none 0 0)),.pv (.lit (.bool false))]
def bgB (ba bt:Nat) (x:PJ):List SV:=[.pv (.ptr ba 0),.pv (.ptr bt 0),.pv (.lit (.pointer none)),.pv (.seq false 5 (x.a.rows.map roR)),.pv (I64 x.a.size),.pv (I64 6),.pv (.seq false 3 []),.pv (I64 0),.pv (.seq false 1 []),.own true 1 (irow x.ats),.pv (BL true)]
def bgH (h:List (List SV)) (x:PJ):List (List SV):=h++[zW,arB x.A,bgB (h.length+1) (h.length+3) x,trB (newT 6)]
def bgT (h:List (List SV)) (cs:List (List Int)) (y:Nat):List (Nat×SV):=
 [(0,.pv (.seq false 1 (cs.map crowF))),(2,.pv (.ptr h.length 0)),(3,.pv (.ptr (h.length+2) 0)),(4,.pv (.ptr (h.length+3) 0)),(6,.pv (I64 y))]
theorem belowH_bgH {h:List (List SV)} (hh:belowH h.length h) (x:PJ):belowH (h.length+4) (bgH h x):=
 belowH_app (belowH_up (by omega) _ hh) ⟨⟨trivial,trivial,trivial,trivial,trivial,trivial,trivial,trivial,trivial,trivial,trivial,trivial⟩,belowC_arB _ _,⟨by show _<_;omega,by show _<_;omega,trivial,belowR_roR _ _,trivial,trivial,trivial,trivial,trivial,belowR_irow _ _,trivial,trivial⟩,belowC_trB _ _,trivial⟩
theorem bgH_len (h:List (List SV)) (x:PJ):(bgH h x).length=h.length+4:=by simp[bgH]
theorem Weak.bg4 {k0:Nat} {t t1:List (Nat×SV)} {h:List (List SV)} {a b c d e:List SV} {x:PJ} (hh:belowH h.length h) (hk:k0≤h.length) (ht:wkL t t1) (hd:[a,b,c,d]=[zW,arB x.A,bgB (h.length+1) (h.length+3) x,trB (newT 6)]) (hb:belowT (h.length+4) t1):Weak k0 ⟨t,h++[a,b,c,d,e]⟩ ⟨t1,bgH h x⟩:=by
 refine Weak.to ht ?_ (by rw[bgH_len];omega) (by rw[bgH_len];exact hb) (by rw[bgH_len];exact belowH_bgH hh x);rw[bgH_len,bgH,←hd,List.take_append,List.take_of_length_le (by omega)];have:h.length+4 -h.length=4:=by omega
 rw[this];rfl
theorem belowT_bgT (h:List (List SV)) (cs:List (List Int)) (y:Nat):belowT (h.length+4) (bgT h cs y):=by
 refine⟨belowR_crowF _ _,?_,?_,?_,trivial,trivial⟩
 ·show _<_;omega
 ·show _<_;omega
 ·show _<_;omega
set_option maxRecDepth 16000 in
set_option maxHeartbeats 400000 in
theorem wbegun_ok (h:List (List SV)) (cs:List (List Int)) (hc:fewC cs):
 AMut Tryz.prog 8 [.seq false 1 (cs.map crowF)] h (fun r h' => (∃ x y, h' = h ++ [x, arB (begW cs).A, y, trB (begW cs).T, wtB (h.length + 1) (h.length + 3) ⟨[], [], [], 0, []⟩]) ∧
  r=.pv (dwA (h.length+1) (h.length+3) (h.length+4) (begW cs))):=by
 refine AMut.below (by kernel_rfl) fun hh=>?_;refine amutX [10,11,18] [.cell 2 _] hmo Tryz.func8 (by kernel_rfl) rfl rfl (by kernel_rfl) (Nat.le_of_ble_eq_true rfl) ?_;simp;refine CallK.introM (anew_ok _) (by simp) ?_;rintro _ _ ⟨rfl,rfl⟩;simp;refine CallK.introM (tnew_ok _ 6 (by omega)) (by simp) ?_;rintro _ _ ⟨rfl,rfl⟩;simp;refine CallK.introM (rfNew_ok _) (by simp) ?_;rintro _ _ ⟨rfl,rfl⟩;simp[rtV];refine ALoop.intro (S:=fun(y:Nat)=>⟨bgT h cs y,bgH h (putJ cs y)⟩) (fun y=>y≤cs.length) (fun y=>cs.length -y) 0 ?_ (Nat.zero_le _) ?_
 ·refine(Weak.keep (t1:=[(0,.pv (.seq false 1 (cs.map crowF))),(2,.pv (.ptr h.length 0)),(3,.pv (.ptr (h.length+2) 0)),(4,.pv (.ptr (h.length+3) 0)),(6,.pv (I64 0))]) (by simp) rfl).trans ?_;refine(Weak.nilCell (b:=h.length+1) (k:=0) (xs:=arZ) 1 true (by simp) (by simp[arZ])).trans ?_;refine(Weak.nilCell (b:=h.length+2) (k:=9) (xs:=[.pv (.ptr (h.length+1) 0),.pv (.ptr (h.length+3) 0),.pv (.lit (.pointer none)),.pv (.lit (.slice none 0 0)),.pv (.lit (.int .i64 0)),.pv (I64 6),.pv (.seq false 3 []),.pv (I64 0),.pv (.lit (.slice none 0 0)),.pv (.lit (.slice none 0 0)),.pv (.lit (.bool true))]) 1 true (by simp) (by simp)).trans ?_;refine(Weak.nilCell (b:=h.length+3) (k:=1) (xs:=[.own true 4 (List.map mkR (newT 6).marks),.pv (.lit (.slice none 0 0)),.pv (.lit (.slice none 0 0)),.pv (BL true)]) 1 true (by simp) (by simp)).trans ?_;refine(Weak.nilCell (b:=h.length+3) (k:=2) (xs:=[.own true 4 (List.map mkR (newT 6).marks),.own true 1 [],.pv (.lit (.slice none 0 0)),.pv (BL true)]) 1 true (by simp) (by simp)).trans ?_;refine Weak.le ?_ ?_
  ·simp[bgT]
  ·simp[bgH,arZ];refine wkHs_app h ?_;simp[zW,bgB,arB,trB,putJ,irow,newT,mapE]
 intro y hy
 by_cases c:y<cs.length
 ·have hok:=putL_ok hc y hy;have hcl:=hc.2 _ (List.getElem_mem c);have hc1:=hc.1;have hce:cs.getD y []=cs[y]:=by rw[List.getD_eq_getElem?_getD,List.getElem?_eq_getElem (by omega)];rfl
  have hnx:putJ cs (y+1)=putJ1 (putJ cs y) cs[y] ((y+1:Nat):Int):=by rw[←hce];rfl
  have hw:w64 ((y:Int)+1)=((y+1:Nat):Int):=by rw[w64_id (by omega) (by omega)];omega
  have hlen:=hok.len;have hrl:=hok.rlen;have hsz:=hok.rel.size;have hal:=putJ_len cs y;obtain⟨hJ1,hJ2⟩:=putJ_L cs y;rw[←hJ1]at hlen hsz;rw[←hJ2]at hrl hsz;have hid:((y+1:Nat):Int)=(y:Int)+1:=by omega
  rw[hid]at hnx;clear hJ1 hJ2;have hap:=fun h' b hb=>aput_ok h' b (putJ cs y).A hb ((y:Int)+1) cs[y] (by omega) (by omega);have hrp:=fun h'=>raPut_ok h' (putJ cs y).a ((y:Int)+1) cs[y] (by omega) (by omega);generalize putJ cs y=x at*;generalize hcc:cs[y]=cy at*;obtain⟨E,hE⟩:∃E,putEA ((y:Int)+1) cy=E:=⟨_,rfl⟩;simp[bgT,c];refine AAnyD.meet bg10Sch ⟨[(0,.pv (.seq false 1 (cs.map crowF))),(2,.pv (.ptr h.length 0)),(3,.pv (.ptr (h.length+2) 0)),(4,.pv (.ptr (h.length+3) 0)),(6,.pv (I64 y)),(7,.pv (I64 (if E=0 then x.A.row.length else 0))),(8,.pv (I64 E))],bgH h ⟨putAr x.A ((y:Int)+1) cy,x.a,x.ats⟩⟩ (by kernel_rfl) ?_ ?_
  ·simp[bg10Sch,bgH,bgB,c,crowF,hcc,hw];have hb0:(bgH h x)[h.length+1]?=some (arB x.A):=by simp[bgH]
   have ha:=hap _ _ hb0;simp[bgH,bgB]at ha;and_intros
   all_goals
    refine CallB.intro ha (by trivial) ?_;rintro _ _ ⟨rfl,rfl⟩;simp[hE];exact Weak.keep (by simp) rfl
  ·simp[bgH,bgB];refine AAnyD.meet bg11Sch ⟨[(0,.pv (.seq false 1 (cs.map crowF))),(2,.pv (.ptr h.length 0)),(3,.pv (.ptr (h.length+2) 0)),(4,.pv (.ptr (h.length+3) 0)),(6,.pv (I64 y)),(7,.pv (I64 (if E=0 then x.A.row.length else 0))),(8,.pv (I64 E)),(9,.pv (.ptr (h.length+4) 0)),(10,.pv (I64 (putQA x.a ((y:Int)+1) cy))),(11,.pv (I64 E))],bgH h ⟨putAr x.A ((y:Int)+1) cy,x.a,x.ats⟩++[[.pv (.seq false 5 ((putRA x.a ((y:Int)+1) cy).rows.map roR)),.pv (I64 (putRA x.a ((y:Int)+1) cy).size)]]⟩ (by kernel_rfl) ?_ ?_
   ·simp[bg11Sch,bgH,bgB,c,crowF,hcc,hw];and_intros
    all_goals
     refine CallK.introM (hrp _) ?_ ?_
     ·simp
     rintro _ _ ⟨rfl,rfl⟩;simp[hE,raV];exact Weak.keep (by simp) rfl
   ·have hq:putQA x.a ((y:Int)+1) cy=if E=0 then(x.A.row.length:Int)else 0:=by unfold putQA;rw[hE,hsz]
    have hnA:(putJ cs (y+1)).A=putAr x.A ((y:Int)+1) cy:=by rw[hnx];rfl
    have hna:(putJ cs (y+1)).a=putRA x.a ((y:Int)+1) cy:=by rw[hnx];rfl
    by_cases e0:E=0
    ·subst e0;rw[if_pos rfl]at hq;have hnt:(putJ cs (y+1)).ats=x.ats++[(x.A.row.length:Int)]:=by rw[hnx,←hq];exact if_pos hE
     simp[bgH,bgB,hq,c,crowF,hcc];refine⟨by omega,?_⟩;exact⟨y+1,by dsimp only;omega,by dsimp only;omega,Weak.bg4 hh (Nat.le_refl _) (by simp[hw]) (by simp[bgB,hnA,hna,hnt,irow]) (belowT_bgT h cs _)⟩
    ·rw[if_neg e0]at hq;have hnt:(putJ cs (y+1)).ats=x.ats:=by rw[hnx];exact if_neg (fun h=>e0 (hE▸h))
     simp[bgH,bgB,hq,c,crowF,hcc,e0];exact⟨y+1,by dsimp only;omega,by dsimp only;omega,Weak.bg4 hh (Nat.le_refl _) (by simp[hw]) (by simp[bgB,hnA,hna,hnt]) (belowT_bgT h cs _)⟩
 ·have hye:y=cs.length:=by omega
  subst hye;have hB:begW cs=⟨(putJ cs cs.length).A,newT 6,⟨[],[],[],0,[]⟩,(putJ cs cs.length).a,⟨6,[],0⟩,[],(putJ cs cs.length).ats⟩:=rfl;generalize begW cs=D at*;generalize putJ cs cs.length=x at*;subst hB;simp[bgT,bgH,bgB];refine CallB.intro (wnew_ok _ _ _) (by simp) ?_;rintro _ _ ⟨rfl,rfl⟩;simp;refine ASem.to ⟨[(2,.pv (.ptr h.length 0)),(3,.pv (.ptr (h.length+2) 0))],h++[zW,arB x.A,[.pv (.ptr (h.length+1) 0),.pv (.ptr (h.length+3) 0),.pv (.ptr (h.length+4) 0),.pv (.seq false 5 (x.a.rows.map roR)),.pv (I64 x.a.size),.pv (I64 6),.pv (.seq false 3 []),.pv (I64 0),.pv (.seq false 1 []),.own true 1 (irow x.ats),.pv (BL true)],trB (newT 6),wtB (h.length+1) (h.length+3) ⟨[],[],[],0,[]⟩]⟩ ?_ (ASem.ops ?_)
  ·refine(Weak.keep (t1:=[(2,.pv (.ptr h.length 0)),(3,.pv (.ptr (h.length+2) 0))]) (by simp) rfl).trans ?_;refine(Weak.nilCell (b:=h.length+4) (k:=6) 1 true (xs:=[.pv (.ptr (h.length+1) 0),.pv (.ptr (h.length+3) 0),.omap true [],.omap true [],.omap true [],.pv (I64 0),.pv (.lit (.slice none 0 0))]) (by simp) (by simp)).trans ?_;refine Weak.le ?_ ?_
   ·simp
   ·simp[wtB,irow,mapE];refine wkHs_app h ?_;simp[wkCs_refl]
  simp[zW];rfl
def plaW (ats:List Int) (n:Int):Int:=if 0≤n∧n<ats.length then ats.getD n.toNat 0 else n
def dwC (H:List (List SV)) (m ba bt bw:Nat) (D:DW):PV:=.agg [frzP H (m+1) ba 0,frzP H (m+1) bt 0,frzP H (m+1) bw 0,.seq false 5 (D.a.rows.map roR),I64 D.a.size,I64 D.t.vars,.seq false 3 (D.t.rows.map enR),I64 D.t.dep,.seq false 1 (irow D.on),.seq false 1 (irow D.ats),BL true]
theorem wplace_ok (H:List (List SV)) (m ba bt bw:Nat) (D:DW) (n:Int) (hl:D.ats.length≤1000000):
 APure Tryz.prog 41 [dwC H m ba bt bw D,I64 n] (fun r=>r=.pv (I64 (plaW D.ats n))):=by
 refine apure1 hmo Tryz.func41 (by kernel_rfl) rfl rfl (by kernel_rfl) (Nat.le_of_ble_eq_true rfl) ?_;unfold dwC;have hP:plaW D.ats n=if 0≤n∧n<D.ats.length then D.ats.getD n.toNat 0 else n:=rfl;generalize plaW D.ats n=R at*;simp only[frzP]
 by_cases c:0≤n∧n<D.ats.length
 ·rw[if_pos c]at hP;obtain⟨k,rfl⟩:∃k:Nat,n=k:=⟨n.toNat,by omega⟩;have hk:k<D.ats.length:=by omega
  have hP':R=D.ats[k]:=by rw[hP];simp[List.getD_eq_getElem?_getD,List.getElem?_eq_getElem hk]
  simp[c.1,hk,hP']
 ·rw[if_neg c]at hP;subst hP
  by_cases c1:0≤R
  ·have c2:¬R<D.ats.length:=fun h=>c ⟨c1,h⟩;simp[c1,c2]
  ·simp[c1]
def DomD (bd bw bt:Nat) (mp:List (Int×Nat)) (mb:List (Int×By)) (b:Nat):Prop:=b=bd∨DomW bw bt mp mb b
structure LayD (h:List (List SV)) (bd ba bt bw:Nat) (mp:List (Int×Nat)) (mb:List (Int×By)) (D:DW):Prop where
  lay:LayW h bw ba bt mp mb D.A D.T D.S
  d:h[bd]?=some (dwB ba bt bw D)
  nd:¬DomW bw bt mp mb bd
  na:bd≠ba
theorem LayW.other {h:List (List SV)} {bw ba bt:Nat} {mp:List (Int×Nat)} {mb:List (Int×By)} {A:Ar} {T:Tr} {S:WS} (L:LayW h bw ba bt mp mb A T S) (b:Nat) (x:List SV) (hd:¬DomW bw bt mp mb b) (ha:b≠ba):LayW (h.set b x) bw ba bt mp mb A T S:=by
  have up:∀{c:Nat} {y:List SV},b≠c→h[c]?=some y→(h.set b x)[c]?=some y:=fun hn hx=>by rw[List.getElem?_set_ne hn,hx]
  exact { w := up (fun e => hd (.inl e)) L.w, a := up ha L.a, t := up (fun e => hd (.inr (.inl e))) L.t, wa := L.wa, wt := L.wt, at' := L.at', keys := L.keys, pinj := L.pinj, byn := L.byn, binj := L.binj, pb := L.pb
          pr:=fun k c hc=>by obtain⟨p,h1,h2,h3⟩:=L.pr k c hc;exact⟨p,h1,up (fun e=>hd (.inr (.inr (.inl ⟨k,e▸hc⟩)))) h2,h3⟩
          by':=fun l e he=>by
            obtain⟨zs,h1,⟨sp,h2,h3⟩,h4⟩:=L.by' l e he
            exact⟨zs,h1,⟨sp,up (fun e2=>hd (.inr (.inr (.inr ⟨l,e,he,e2.symm⟩)))) h2,h3⟩,h4⟩}
theorem Ext.wide {h h':List (List SV)} {D D':Nat→Prop} (e:Ext h h' D D') (bd:Nat):Ext h h' (fun b=>b=bd∨D b) (fun b=>b=bd∨D' b):=
 ⟨e.len,fun b hb hn=>e.same b hb fun hd=>hn (.inr hd),fun b hb hd=>hd.imp id (e.sub b hb)⟩
def dw6Sch:Sch:=
 let s0:Sch:=.fork [(10,.take 12 (.take 13 .done))]
 let s1:Sch:=.fork [(9,s0)]
 let s2:Sch:=.fork [(8,s1)]
 let s3:Sch:=.fork [(6,s1)]
 let s4:Sch:=.fork [(6,s2),(8,s3)]
 let s5:Sch:=.fork [(3,s0)]
 let s6:Sch:=.fork [(3,s1),(9,s5)]
 let s7:Sch:=.fork [(3,s2),(8,s6)]
 let s8:Sch:=.fork [(3,s3),(6,s6)]
 let s9:Sch:=.fork [(3,s4),(6,s7),(8,s8)]
 .take 0 (.take 1 (.take 2 (.take 4 (.take 5 (.take 7 (.take 11 s9))))))
set_option maxRecDepth 16000 in
theorem wdoA_ok (h:List (List SV)) (bd ba bt bw:Nat) (mp:List (Int×Nat)) (mb:List (Int×By)) (D:DW) (L:LayD h bd ba bt bw mp mb D) (n:Int) (hk:ArOk D.A) (hl:D.A.row.length≤1000000) (hm:D.T.marks.length≤1000000) (hTl:D.T.lits.length≤1000000)
    (ha:D.a.rows.length≤1000000) (hr:∀x∈D.a.rows,x.lits.length≤1000000) (hon:D.on.length≤1000000) (hat:D.ats.length≤1000000):
    AMut Tryz.prog 9 [.ptr bd 0,.agg [I64 0,I64 n]] h (fun r h'=>r=.pv (BL (decide (attE D.A D.T D.S (plaW D.ats n)=rattE D.a D.t.vars D.on (plaW D.ats n))))∧∃mp',LayD h' bd ba bt bw mp' mb ⟨D.A,D.T,attS D.A D.T D.S (plaW D.ats n),D.a,D.t,rattL D.a D.t.vars D.on (plaW D.ats n),D.ats⟩∧Ext h h' (DomD bd bw bt mp mb) (DomD bd bw bt mp' mb)):=by
  refine amutX [4,6] [.tmp 4] hmo Tryz.func9 (by kernel_rfl) rfl rfl (by kernel_rfl) (Nat.le_of_ble_eq_true rfl) ?_
  obtain⟨d1,d2⟩:=List.getElem?_eq_some_iff.1 L.d
  have kP:=fun H=>wplace_ok H 2 ba bt bw D n hat
  have kR:=fun H=>rattach_ok H D.a D.t D.on (plaW D.ats n) ha hr hon
  obtain⟨G,hG⟩:∃G,G=h++[[SV.pv (I64 0),SV.pv (I64 n)]]:=⟨_,rfl⟩
  simp
  rw[←hG]
  have g1:bd<G.length:=by rw[hG];simp;omega
  have g2:G[bd]'g1=dwB ba bt bw D:=by simp only[hG];rw[List.getElem_append_left d1,d2]
  have b1:h.length<G.length:=by rw[hG];simp
  have b2:G[h.length]'b1=[SV.pv (I64 0),SV.pv (I64 n)]:=by simp[hG]
  generalize hk0:plaW D.ats n=k at*
  generalize rattE D.a D.t.vars D.on k=RE at*
  generalize rattL D.a D.t.vars D.on k=RL at*
  refine AAnyD.dagE [] (fun _:Unit=>⟨[(0,.pv (.ptr bd 0)),(3,.pv (.ptr h.length 0)),(5,.pv (.seq false 1 (irow RL))),(6,.pv (I64 RE))],G⟩) (fun _=>True) 24 (bvA 24 0) (by kernel_rfl) (fun stp stM hstp hstM C hC=>?_) ?_
  · have oe0:=hstp 0
    have oe1:=hstp 1
    have oe2:=hstp 2
    have oe3:=hstM 3
    have oe4:=hstp 4
    have oe5:=hstp 5
    have oe6:=hstp 6
    have oe7:=hstM 7
    have oe8:=hstp 8
    have oe9:=hstp 9
    have oe10:=hstp 10
    have oe11:=hstM 11
    have oe12:=hstp 12
    have oe13:=hstp 13
    have oe14:=hstM 14
    have oe15:=hstp 15
    have oe16:=hstM 16
    have oe17:=hstM 17
    have oe18:=hstM 18
    have oe19:=hstp 19
    have oe20:=hstp 20
    have oe21:=hstp 21
    have oe22:=hstp 22
    have oe23:=hstp 23
    simp only[AStepMI,AStepM,blkOf,cutOfB,AStepI,AStep,AEx,gslot,boxedIn,List.getElem?_cons_zero,List.getElem?_cons_succ,Option.bind_some,Bool.or_false,Bool.false_or,Bool.or_true,Bool.true_or,Bool.false_and,Bool.true_and,Bool.false_eq_true,if_false]at oe0 oe1 oe2 oe3 oe4 oe5 oe6 oe7 oe8 oe9 oe10 oe11 oe12 oe13 oe14 oe15 oe16 oe17 oe18 oe19 oe20 oe21 oe22 oe23
    clear hstp hstM
    have d0:C 0 (bvA 24 16777215) ⟨[(0,.pv (.ptr bd 0)),(3,.pv (.ptr h.length 0)),(5,.pv (.seq false 1 (irow RL))),(6,.pv (I64 RE))],G⟩:=by
     refine hC.done _ _ _ ?_ ?_
     ·kernel_rfl
     exact⟨(),trivial,Weak.keep (by simp) rfl⟩
    have d1:C 6 (bvA 24 262143) ⟨[(0,.pv (.ptr bd 0)),(3,.pv (.ptr h.length 0)),(19,.pv (.agg [.seq false 5 (D.a.rows.map roR),I64 D.a.size])),(23,.pv (.agg [I64 D.t.vars,.seq false 3 (D.t.rows.map enR),I64 D.t.dep])),(27,.pv (.seq false 1 (irow D.on))),(33,.pv (I64 k))],G⟩:=by
     refine hC.fork [(18,(bvA 24 524287))] ?_ ⟨?_,trivial⟩
     ·kernel_rfl
     ·simp[oe18,g1,g2,b1,b2,dwB]
      refine CallK.introM (kR _) (by simp[raV,rtV]) ?_
      rintro _ _ ⟨rfl,rfl⟩
      refine hC.take 19 (bvA 24 1048575) ?_ ?_
      ·kernel_rfl
      simp[oe19,g1,g2,b1,b2,dwB]
      refine hC.take 20 (bvA 24 2097151) ?_ ?_
      ·kernel_rfl
      simp[oe20,g1,g2,b1,b2,dwB]
      refine hC.take 21 (bvA 24 4194303) ?_ ?_
      ·kernel_rfl
      simp[oe21,g1,g2,b1,b2,dwB]
      refine hC.take 22 (bvA 24 8388607) ?_ ?_
      ·kernel_rfl
      simp[oe22,g1,g2,b1,b2,dwB]
      refine hC.take 23 (bvA 24 16777215) ?_ ?_
      ·kernel_rfl
      simp[oe23,g1,g2,b1,b2,dwB]
      refine hC.kp d0 ?_ ?_<;>simp[g1,g2,b1,b2,dwB]
    have d2:C 7 (bvA 24 131071) ⟨[(0,.pv (.ptr bd 0)),(3,.pv (.ptr h.length 0)),(19,.pv (.agg [.seq false 5 (D.a.rows.map roR),I64 D.a.size])),(23,.pv (.agg [I64 D.t.vars,.seq false 3 (D.t.rows.map enR),I64 D.t.dep])),(27,.pv (.seq false 1 (irow D.on))),(30,.pv (.agg [.ptr ba 0,.ptr bt 0,.ptr bw 0,.seq false 5 (D.a.rows.map roR),I64 D.a.size,I64 D.t.vars,.seq false 3 (D.t.rows.map enR),I64 D.t.dep,.seq false 1 (irow D.on),.seq false 1 (irow D.ats),BL true])),(32,.pv (I64 n))],G⟩:=by
     refine hC.fork [(17,(bvA 24 262143))] ?_ ⟨?_,trivial⟩
     ·kernel_rfl
     ·simp[oe17,g1,g2,b1,b2,dwB]
      refine CallK.intro (kP G) (by simp) ?_
      refine hC.kp d1 ?_ ?_<;>simp[g1,g2,b1,b2,dwB]
    have d3:C 8 (bvA 24 65535) ⟨[(0,.pv (.ptr bd 0)),(3,.pv (.ptr h.length 0)),(19,.pv (.agg [.seq false 5 (D.a.rows.map roR),I64 D.a.size])),(23,.pv (.agg [I64 D.t.vars,.seq false 3 (D.t.rows.map enR),I64 D.t.dep])),(27,.pv (.seq false 1 (irow D.on))),(30,.pv (.agg [.ptr ba 0,.ptr bt 0,.ptr bw 0,.seq false 5 (D.a.rows.map roR),I64 D.a.size,I64 D.t.vars,.seq false 3 (D.t.rows.map enR),I64 D.t.dep,.seq false 1 (irow D.on),.seq false 1 (irow D.ats),BL true])),(31,.pv (.ptr h.length 1))],G⟩:=by
     refine hC.fork [(16,(bvA 24 131071))] ?_ ⟨?_,trivial⟩
     ·kernel_rfl
     ·simp[oe16,g1,g2,b1,b2,dwB]
      refine hC.kp d2 ?_ ?_<;>simp[g1,g2,b1,b2,dwB]
    have d4:C 8 (bvA 24 114687) ⟨[(0,.pv (.ptr bd 0)),(3,.pv (.ptr h.length 0)),(19,.pv (.agg [.seq false 5 (D.a.rows.map roR),I64 D.a.size])),(23,.pv (.agg [I64 D.t.vars,.seq false 3 (D.t.rows.map enR),I64 D.t.dep])),(27,.pv (.seq false 1 (irow D.on))),(29,.pv (.ptr bd 0)),(32,.pv (I64 n))],G⟩:=by
     refine hC.fork [(14,(bvA 24 131071))] ?_ ⟨?_,trivial⟩
     ·kernel_rfl
     ·simp[oe14,g1,g2,b1,b2,dwB]
      refine hC.kp d2 ?_ ?_<;>simp[g1,g2,b1,b2,dwB]
    have d5:C 9 (bvA 24 49151) ⟨[(0,.pv (.ptr bd 0)),(3,.pv (.ptr h.length 0)),(19,.pv (.agg [.seq false 5 (D.a.rows.map roR),I64 D.a.size])),(23,.pv (.agg [I64 D.t.vars,.seq false 3 (D.t.rows.map enR),I64 D.t.dep])),(27,.pv (.seq false 1 (irow D.on))),(29,.pv (.ptr bd 0)),(31,.pv (.ptr h.length 1))],G⟩:=by
     refine hC.fork [(14,(bvA 24 65535)),(16,(bvA 24 114687))] ?_ ⟨?_,?_,trivial⟩
     ·kernel_rfl
     ·simp[oe14,g1,g2,b1,b2,dwB]
      refine hC.kp d3 ?_ ?_<;>simp[g1,g2,b1,b2,dwB]
     ·simp[oe16,g1,g2,b1,b2,dwB]
      refine hC.kp d4 ?_ ?_<;>simp[g1,g2,b1,b2,dwB]
    have d6:C 7 (bvA 24 260095) ⟨[(0,.pv (.ptr bd 0)),(3,.pv (.ptr h.length 0)),(19,.pv (.agg [.seq false 5 (D.a.rows.map roR),I64 D.a.size])),(23,.pv (.agg [I64 D.t.vars,.seq false 3 (D.t.rows.map enR),I64 D.t.dep])),(26,.pv (.ptr bd 8)),(33,.pv (I64 k))],G⟩:=by
     refine hC.fork [(11,(bvA 24 262143))] ?_ ⟨?_,trivial⟩
     ·kernel_rfl
     ·simp[oe11,g1,g2,b1,b2,dwB]
      refine hC.kp d1 ?_ ?_<;>simp[g1,g2,b1,b2,dwB]
    have d7:C 8 (bvA 24 129023) ⟨[(0,.pv (.ptr bd 0)),(3,.pv (.ptr h.length 0)),(19,.pv (.agg [.seq false 5 (D.a.rows.map roR),I64 D.a.size])),(23,.pv (.agg [I64 D.t.vars,.seq false 3 (D.t.rows.map enR),I64 D.t.dep])),(26,.pv (.ptr bd 8)),(30,.pv (.agg [.ptr ba 0,.ptr bt 0,.ptr bw 0,.seq false 5 (D.a.rows.map roR),I64 D.a.size,I64 D.t.vars,.seq false 3 (D.t.rows.map enR),I64 D.t.dep,.seq false 1 (irow D.on),.seq false 1 (irow D.ats),BL true])),(32,.pv (I64 n))],G⟩:=by
     refine hC.fork [(11,(bvA 24 131071)),(17,(bvA 24 260095))] ?_ ⟨?_,?_,trivial⟩
     ·kernel_rfl
     ·simp[oe11,g1,g2,b1,b2,dwB]
      refine hC.kp d2 ?_ ?_<;>simp[g1,g2,b1,b2,dwB]
     ·simp[oe17,g1,g2,b1,b2,dwB]
      refine CallK.intro (kP G) (by simp) ?_
      refine hC.kp d6 ?_ ?_<;>simp[g1,g2,b1,b2,dwB]
    have d8:C 9 (bvA 24 63487) ⟨[(0,.pv (.ptr bd 0)),(3,.pv (.ptr h.length 0)),(19,.pv (.agg [.seq false 5 (D.a.rows.map roR),I64 D.a.size])),(23,.pv (.agg [I64 D.t.vars,.seq false 3 (D.t.rows.map enR),I64 D.t.dep])),(26,.pv (.ptr bd 8)),(30,.pv (.agg [.ptr ba 0,.ptr bt 0,.ptr bw 0,.seq false 5 (D.a.rows.map roR),I64 D.a.size,I64 D.t.vars,.seq false 3 (D.t.rows.map enR),I64 D.t.dep,.seq false 1 (irow D.on),.seq false 1 (irow D.ats),BL true])),(31,.pv (.ptr h.length 1))],G⟩:=by
     refine hC.fork [(11,(bvA 24 65535)),(16,(bvA 24 129023))] ?_ ⟨?_,?_,trivial⟩
     ·kernel_rfl
     ·simp[oe11,g1,g2,b1,b2,dwB]
      refine hC.kp d3 ?_ ?_<;>simp[g1,g2,b1,b2,dwB]
     ·simp[oe16,g1,g2,b1,b2,dwB]
      refine hC.kp d7 ?_ ?_<;>simp[g1,g2,b1,b2,dwB]
    have d9:C 9 (bvA 24 112639) ⟨[(0,.pv (.ptr bd 0)),(3,.pv (.ptr h.length 0)),(19,.pv (.agg [.seq false 5 (D.a.rows.map roR),I64 D.a.size])),(23,.pv (.agg [I64 D.t.vars,.seq false 3 (D.t.rows.map enR),I64 D.t.dep])),(26,.pv (.ptr bd 8)),(29,.pv (.ptr bd 0)),(32,.pv (I64 n))],G⟩:=by
     refine hC.fork [(11,(bvA 24 114687)),(14,(bvA 24 129023))] ?_ ⟨?_,?_,trivial⟩
     ·kernel_rfl
     ·simp[oe11,g1,g2,b1,b2,dwB]
      refine hC.kp d4 ?_ ?_<;>simp[g1,g2,b1,b2,dwB]
     ·simp[oe14,g1,g2,b1,b2,dwB]
      refine hC.kp d7 ?_ ?_<;>simp[g1,g2,b1,b2,dwB]
    have d10:C 10 (bvA 24 47103) ⟨[(0,.pv (.ptr bd 0)),(3,.pv (.ptr h.length 0)),(19,.pv (.agg [.seq false 5 (D.a.rows.map roR),I64 D.a.size])),(23,.pv (.agg [I64 D.t.vars,.seq false 3 (D.t.rows.map enR),I64 D.t.dep])),(26,.pv (.ptr bd 8)),(29,.pv (.ptr bd 0)),(31,.pv (.ptr h.length 1))],G⟩:=by
     refine hC.fork [(11,(bvA 24 49151)),(14,(bvA 24 63487)),(16,(bvA 24 112639))] ?_ ⟨?_,?_,?_,trivial⟩
     ·kernel_rfl
     ·simp[oe11,g1,g2,b1,b2,dwB]
      refine hC.kp d5 ?_ ?_<;>simp[g1,g2,b1,b2,dwB]
     ·simp[oe14,g1,g2,b1,b2,dwB]
      refine hC.kp d8 ?_ ?_<;>simp[g1,g2,b1,b2,dwB]
     ·simp[oe16,g1,g2,b1,b2,dwB]
      refine hC.kp d9 ?_ ?_<;>simp[g1,g2,b1,b2,dwB]
    have d11:C 7 (bvA 24 262015) ⟨[(0,.pv (.ptr bd 0)),(3,.pv (.ptr h.length 0)),(19,.pv (.agg [.seq false 5 (D.a.rows.map roR),I64 D.a.size])),(22,.pv (.ptr bd 5)),(27,.pv (.seq false 1 (irow D.on))),(33,.pv (I64 k))],G⟩:=by
     refine hC.fork [(7,(bvA 24 262143))] ?_ ⟨?_,trivial⟩
     ·kernel_rfl
     ·simp[oe7,g1,g2,b1,b2,dwB]
      refine hC.kp d1 ?_ ?_<;>simp[g1,g2,b1,b2,dwB]
    have d12:C 8 (bvA 24 130943) ⟨[(0,.pv (.ptr bd 0)),(3,.pv (.ptr h.length 0)),(19,.pv (.agg [.seq false 5 (D.a.rows.map roR),I64 D.a.size])),(22,.pv (.ptr bd 5)),(27,.pv (.seq false 1 (irow D.on))),(30,.pv (.agg [.ptr ba 0,.ptr bt 0,.ptr bw 0,.seq false 5 (D.a.rows.map roR),I64 D.a.size,I64 D.t.vars,.seq false 3 (D.t.rows.map enR),I64 D.t.dep,.seq false 1 (irow D.on),.seq false 1 (irow D.ats),BL true])),(32,.pv (I64 n))],G⟩:=by
     refine hC.fork [(7,(bvA 24 131071)),(17,(bvA 24 262015))] ?_ ⟨?_,?_,trivial⟩
     ·kernel_rfl
     ·simp[oe7,g1,g2,b1,b2,dwB]
      refine hC.kp d2 ?_ ?_<;>simp[g1,g2,b1,b2,dwB]
     ·simp[oe17,g1,g2,b1,b2,dwB]
      refine CallK.intro (kP G) (by simp) ?_
      refine hC.kp d11 ?_ ?_<;>simp[g1,g2,b1,b2,dwB]
    have d13:C 9 (bvA 24 65407) ⟨[(0,.pv (.ptr bd 0)),(3,.pv (.ptr h.length 0)),(19,.pv (.agg [.seq false 5 (D.a.rows.map roR),I64 D.a.size])),(22,.pv (.ptr bd 5)),(27,.pv (.seq false 1 (irow D.on))),(30,.pv (.agg [.ptr ba 0,.ptr bt 0,.ptr bw 0,.seq false 5 (D.a.rows.map roR),I64 D.a.size,I64 D.t.vars,.seq false 3 (D.t.rows.map enR),I64 D.t.dep,.seq false 1 (irow D.on),.seq false 1 (irow D.ats),BL true])),(31,.pv (.ptr h.length 1))],G⟩:=by
     refine hC.fork [(7,(bvA 24 65535)),(16,(bvA 24 130943))] ?_ ⟨?_,?_,trivial⟩
     ·kernel_rfl
     ·simp[oe7,g1,g2,b1,b2,dwB]
      refine hC.kp d3 ?_ ?_<;>simp[g1,g2,b1,b2,dwB]
     ·simp[oe16,g1,g2,b1,b2,dwB]
      refine hC.kp d12 ?_ ?_<;>simp[g1,g2,b1,b2,dwB]
    have d14:C 9 (bvA 24 114559) ⟨[(0,.pv (.ptr bd 0)),(3,.pv (.ptr h.length 0)),(19,.pv (.agg [.seq false 5 (D.a.rows.map roR),I64 D.a.size])),(22,.pv (.ptr bd 5)),(27,.pv (.seq false 1 (irow D.on))),(29,.pv (.ptr bd 0)),(32,.pv (I64 n))],G⟩:=by
     refine hC.fork [(7,(bvA 24 114687)),(14,(bvA 24 130943))] ?_ ⟨?_,?_,trivial⟩
     ·kernel_rfl
     ·simp[oe7,g1,g2,b1,b2,dwB]
      refine hC.kp d4 ?_ ?_<;>simp[g1,g2,b1,b2,dwB]
     ·simp[oe14,g1,g2,b1,b2,dwB]
      refine hC.kp d12 ?_ ?_<;>simp[g1,g2,b1,b2,dwB]
    have d15:C 10 (bvA 24 49023) ⟨[(0,.pv (.ptr bd 0)),(3,.pv (.ptr h.length 0)),(19,.pv (.agg [.seq false 5 (D.a.rows.map roR),I64 D.a.size])),(22,.pv (.ptr bd 5)),(27,.pv (.seq false 1 (irow D.on))),(29,.pv (.ptr bd 0)),(31,.pv (.ptr h.length 1))],G⟩:=by
     refine hC.fork [(7,(bvA 24 49151)),(14,(bvA 24 65407)),(16,(bvA 24 114559))] ?_ ⟨?_,?_,?_,trivial⟩
     ·kernel_rfl
     ·simp[oe7,g1,g2,b1,b2,dwB]
      refine hC.kp d5 ?_ ?_<;>simp[g1,g2,b1,b2,dwB]
     ·simp[oe14,g1,g2,b1,b2,dwB]
      refine hC.kp d13 ?_ ?_<;>simp[g1,g2,b1,b2,dwB]
     ·simp[oe16,g1,g2,b1,b2,dwB]
      refine hC.kp d14 ?_ ?_<;>simp[g1,g2,b1,b2,dwB]
    have d16:C 8 (bvA 24 259967) ⟨[(0,.pv (.ptr bd 0)),(3,.pv (.ptr h.length 0)),(19,.pv (.agg [.seq false 5 (D.a.rows.map roR),I64 D.a.size])),(22,.pv (.ptr bd 5)),(26,.pv (.ptr bd 8)),(33,.pv (I64 k))],G⟩:=by
     refine hC.fork [(7,(bvA 24 260095)),(11,(bvA 24 262015))] ?_ ⟨?_,?_,trivial⟩
     ·kernel_rfl
     ·simp[oe7,g1,g2,b1,b2,dwB]
      refine hC.kp d6 ?_ ?_<;>simp[g1,g2,b1,b2,dwB]
     ·simp[oe11,g1,g2,b1,b2,dwB]
      refine hC.kp d11 ?_ ?_<;>simp[g1,g2,b1,b2,dwB]
    have d17:C 9 (bvA 24 128895) ⟨[(0,.pv (.ptr bd 0)),(3,.pv (.ptr h.length 0)),(19,.pv (.agg [.seq false 5 (D.a.rows.map roR),I64 D.a.size])),(22,.pv (.ptr bd 5)),(26,.pv (.ptr bd 8)),(30,.pv (.agg [.ptr ba 0,.ptr bt 0,.ptr bw 0,.seq false 5 (D.a.rows.map roR),I64 D.a.size,I64 D.t.vars,.seq false 3 (D.t.rows.map enR),I64 D.t.dep,.seq false 1 (irow D.on),.seq false 1 (irow D.ats),BL true])),(32,.pv (I64 n))],G⟩:=by
     refine hC.fork [(7,(bvA 24 129023)),(11,(bvA 24 130943)),(17,(bvA 24 259967))] ?_ ⟨?_,?_,?_,trivial⟩
     ·kernel_rfl
     ·simp[oe7,g1,g2,b1,b2,dwB]
      refine hC.kp d7 ?_ ?_<;>simp[g1,g2,b1,b2,dwB]
     ·simp[oe11,g1,g2,b1,b2,dwB]
      refine hC.kp d12 ?_ ?_<;>simp[g1,g2,b1,b2,dwB]
     ·simp[oe17,g1,g2,b1,b2,dwB]
      refine CallK.intro (kP G) (by simp) ?_
      refine hC.kp d16 ?_ ?_<;>simp[g1,g2,b1,b2,dwB]
    have d18:C 10 (bvA 24 63359) ⟨[(0,.pv (.ptr bd 0)),(3,.pv (.ptr h.length 0)),(19,.pv (.agg [.seq false 5 (D.a.rows.map roR),I64 D.a.size])),(22,.pv (.ptr bd 5)),(26,.pv (.ptr bd 8)),(30,.pv (.agg [.ptr ba 0,.ptr bt 0,.ptr bw 0,.seq false 5 (D.a.rows.map roR),I64 D.a.size,I64 D.t.vars,.seq false 3 (D.t.rows.map enR),I64 D.t.dep,.seq false 1 (irow D.on),.seq false 1 (irow D.ats),BL true])),(31,.pv (.ptr h.length 1))],G⟩:=by
     refine hC.fork [(7,(bvA 24 63487)),(11,(bvA 24 65407)),(16,(bvA 24 128895))] ?_ ⟨?_,?_,?_,trivial⟩
     ·kernel_rfl
     ·simp[oe7,g1,g2,b1,b2,dwB]
      refine hC.kp d8 ?_ ?_<;>simp[g1,g2,b1,b2,dwB]
     ·simp[oe11,g1,g2,b1,b2,dwB]
      refine hC.kp d13 ?_ ?_<;>simp[g1,g2,b1,b2,dwB]
     ·simp[oe16,g1,g2,b1,b2,dwB]
      refine hC.kp d17 ?_ ?_<;>simp[g1,g2,b1,b2,dwB]
    have d19:C 10 (bvA 24 112511) ⟨[(0,.pv (.ptr bd 0)),(3,.pv (.ptr h.length 0)),(19,.pv (.agg [.seq false 5 (D.a.rows.map roR),I64 D.a.size])),(22,.pv (.ptr bd 5)),(26,.pv (.ptr bd 8)),(29,.pv (.ptr bd 0)),(32,.pv (I64 n))],G⟩:=by
     refine hC.fork [(7,(bvA 24 112639)),(11,(bvA 24 114559)),(14,(bvA 24 128895))] ?_ ⟨?_,?_,?_,trivial⟩
     ·kernel_rfl
     ·simp[oe7,g1,g2,b1,b2,dwB]
      refine hC.kp d9 ?_ ?_<;>simp[g1,g2,b1,b2,dwB]
     ·simp[oe11,g1,g2,b1,b2,dwB]
      refine hC.kp d14 ?_ ?_<;>simp[g1,g2,b1,b2,dwB]
     ·simp[oe14,g1,g2,b1,b2,dwB]
      refine hC.kp d17 ?_ ?_<;>simp[g1,g2,b1,b2,dwB]
    have d20:C 11 (bvA 24 46975) ⟨[(0,.pv (.ptr bd 0)),(3,.pv (.ptr h.length 0)),(19,.pv (.agg [.seq false 5 (D.a.rows.map roR),I64 D.a.size])),(22,.pv (.ptr bd 5)),(26,.pv (.ptr bd 8)),(29,.pv (.ptr bd 0)),(31,.pv (.ptr h.length 1))],G⟩:=by
     refine hC.fork [(7,(bvA 24 47103)),(11,(bvA 24 49023)),(14,(bvA 24 63359)),(16,(bvA 24 112511))] ?_ ⟨?_,?_,?_,?_,trivial⟩
     ·kernel_rfl
     ·simp[oe7,g1,g2,b1,b2,dwB]
      refine hC.kp d10 ?_ ?_<;>simp[g1,g2,b1,b2,dwB]
     ·simp[oe11,g1,g2,b1,b2,dwB]
      refine hC.kp d15 ?_ ?_<;>simp[g1,g2,b1,b2,dwB]
     ·simp[oe14,g1,g2,b1,b2,dwB]
      refine hC.kp d18 ?_ ?_<;>simp[g1,g2,b1,b2,dwB]
     ·simp[oe16,g1,g2,b1,b2,dwB]
      refine hC.kp d19 ?_ ?_<;>simp[g1,g2,b1,b2,dwB]
    have d21:C 7 (bvA 24 262135) ⟨[(0,.pv (.ptr bd 0)),(3,.pv (.ptr h.length 0)),(18,.pv (.ptr bd 3)),(23,.pv (.agg [I64 D.t.vars,.seq false 3 (D.t.rows.map enR),I64 D.t.dep])),(27,.pv (.seq false 1 (irow D.on))),(33,.pv (I64 k))],G⟩:=by
     refine hC.fork [(3,(bvA 24 262143))] ?_ ⟨?_,trivial⟩
     ·kernel_rfl
     ·simp[oe3,g1,g2,b1,b2,dwB]
      refine hC.kp d1 ?_ ?_<;>simp[g1,g2,b1,b2,dwB]
    have d22:C 8 (bvA 24 131063) ⟨[(0,.pv (.ptr bd 0)),(3,.pv (.ptr h.length 0)),(18,.pv (.ptr bd 3)),(23,.pv (.agg [I64 D.t.vars,.seq false 3 (D.t.rows.map enR),I64 D.t.dep])),(27,.pv (.seq false 1 (irow D.on))),(30,.pv (.agg [.ptr ba 0,.ptr bt 0,.ptr bw 0,.seq false 5 (D.a.rows.map roR),I64 D.a.size,I64 D.t.vars,.seq false 3 (D.t.rows.map enR),I64 D.t.dep,.seq false 1 (irow D.on),.seq false 1 (irow D.ats),BL true])),(32,.pv (I64 n))],G⟩:=by
     refine hC.fork [(3,(bvA 24 131071)),(17,(bvA 24 262135))] ?_ ⟨?_,?_,trivial⟩
     ·kernel_rfl
     ·simp[oe3,g1,g2,b1,b2,dwB]
      refine hC.kp d2 ?_ ?_<;>simp[g1,g2,b1,b2,dwB]
     ·simp[oe17,g1,g2,b1,b2,dwB]
      refine CallK.intro (kP G) (by simp) ?_
      refine hC.kp d21 ?_ ?_<;>simp[g1,g2,b1,b2,dwB]
    have d23:C 9 (bvA 24 65527) ⟨[(0,.pv (.ptr bd 0)),(3,.pv (.ptr h.length 0)),(18,.pv (.ptr bd 3)),(23,.pv (.agg [I64 D.t.vars,.seq false 3 (D.t.rows.map enR),I64 D.t.dep])),(27,.pv (.seq false 1 (irow D.on))),(30,.pv (.agg [.ptr ba 0,.ptr bt 0,.ptr bw 0,.seq false 5 (D.a.rows.map roR),I64 D.a.size,I64 D.t.vars,.seq false 3 (D.t.rows.map enR),I64 D.t.dep,.seq false 1 (irow D.on),.seq false 1 (irow D.ats),BL true])),(31,.pv (.ptr h.length 1))],G⟩:=by
     refine hC.fork [(3,(bvA 24 65535)),(16,(bvA 24 131063))] ?_ ⟨?_,?_,trivial⟩
     ·kernel_rfl
     ·simp[oe3,g1,g2,b1,b2,dwB]
      refine hC.kp d3 ?_ ?_<;>simp[g1,g2,b1,b2,dwB]
     ·simp[oe16,g1,g2,b1,b2,dwB]
      refine hC.kp d22 ?_ ?_<;>simp[g1,g2,b1,b2,dwB]
    have d24:C 9 (bvA 24 114679) ⟨[(0,.pv (.ptr bd 0)),(3,.pv (.ptr h.length 0)),(18,.pv (.ptr bd 3)),(23,.pv (.agg [I64 D.t.vars,.seq false 3 (D.t.rows.map enR),I64 D.t.dep])),(27,.pv (.seq false 1 (irow D.on))),(29,.pv (.ptr bd 0)),(32,.pv (I64 n))],G⟩:=by
     refine hC.fork [(3,(bvA 24 114687)),(14,(bvA 24 131063))] ?_ ⟨?_,?_,trivial⟩
     ·kernel_rfl
     ·simp[oe3,g1,g2,b1,b2,dwB]
      refine hC.kp d4 ?_ ?_<;>simp[g1,g2,b1,b2,dwB]
     ·simp[oe14,g1,g2,b1,b2,dwB]
      refine hC.kp d22 ?_ ?_<;>simp[g1,g2,b1,b2,dwB]
    have d25:C 10 (bvA 24 49143) ⟨[(0,.pv (.ptr bd 0)),(3,.pv (.ptr h.length 0)),(18,.pv (.ptr bd 3)),(23,.pv (.agg [I64 D.t.vars,.seq false 3 (D.t.rows.map enR),I64 D.t.dep])),(27,.pv (.seq false 1 (irow D.on))),(29,.pv (.ptr bd 0)),(31,.pv (.ptr h.length 1))],G⟩:=by
     refine hC.fork [(3,(bvA 24 49151)),(14,(bvA 24 65527)),(16,(bvA 24 114679))] ?_ ⟨?_,?_,?_,trivial⟩
     ·kernel_rfl
     ·simp[oe3,g1,g2,b1,b2,dwB]
      refine hC.kp d5 ?_ ?_<;>simp[g1,g2,b1,b2,dwB]
     ·simp[oe14,g1,g2,b1,b2,dwB]
      refine hC.kp d23 ?_ ?_<;>simp[g1,g2,b1,b2,dwB]
     ·simp[oe16,g1,g2,b1,b2,dwB]
      refine hC.kp d24 ?_ ?_<;>simp[g1,g2,b1,b2,dwB]
    have d26:C 8 (bvA 24 260087) ⟨[(0,.pv (.ptr bd 0)),(3,.pv (.ptr h.length 0)),(18,.pv (.ptr bd 3)),(23,.pv (.agg [I64 D.t.vars,.seq false 3 (D.t.rows.map enR),I64 D.t.dep])),(26,.pv (.ptr bd 8)),(33,.pv (I64 k))],G⟩:=by
     refine hC.fork [(3,(bvA 24 260095)),(11,(bvA 24 262135))] ?_ ⟨?_,?_,trivial⟩
     ·kernel_rfl
     ·simp[oe3,g1,g2,b1,b2,dwB]
      refine hC.kp d6 ?_ ?_<;>simp[g1,g2,b1,b2,dwB]
     ·simp[oe11,g1,g2,b1,b2,dwB]
      refine hC.kp d21 ?_ ?_<;>simp[g1,g2,b1,b2,dwB]
    have d27:C 9 (bvA 24 129015) ⟨[(0,.pv (.ptr bd 0)),(3,.pv (.ptr h.length 0)),(18,.pv (.ptr bd 3)),(23,.pv (.agg [I64 D.t.vars,.seq false 3 (D.t.rows.map enR),I64 D.t.dep])),(26,.pv (.ptr bd 8)),(30,.pv (.agg [.ptr ba 0,.ptr bt 0,.ptr bw 0,.seq false 5 (D.a.rows.map roR),I64 D.a.size,I64 D.t.vars,.seq false 3 (D.t.rows.map enR),I64 D.t.dep,.seq false 1 (irow D.on),.seq false 1 (irow D.ats),BL true])),(32,.pv (I64 n))],G⟩:=by
     refine hC.fork [(3,(bvA 24 129023)),(11,(bvA 24 131063)),(17,(bvA 24 260087))] ?_ ⟨?_,?_,?_,trivial⟩
     ·kernel_rfl
     ·simp[oe3,g1,g2,b1,b2,dwB]
      refine hC.kp d7 ?_ ?_<;>simp[g1,g2,b1,b2,dwB]
     ·simp[oe11,g1,g2,b1,b2,dwB]
      refine hC.kp d22 ?_ ?_<;>simp[g1,g2,b1,b2,dwB]
     ·simp[oe17,g1,g2,b1,b2,dwB]
      refine CallK.intro (kP G) (by simp) ?_
      refine hC.kp d26 ?_ ?_<;>simp[g1,g2,b1,b2,dwB]
    have d28:C 10 (bvA 24 63479) ⟨[(0,.pv (.ptr bd 0)),(3,.pv (.ptr h.length 0)),(18,.pv (.ptr bd 3)),(23,.pv (.agg [I64 D.t.vars,.seq false 3 (D.t.rows.map enR),I64 D.t.dep])),(26,.pv (.ptr bd 8)),(30,.pv (.agg [.ptr ba 0,.ptr bt 0,.ptr bw 0,.seq false 5 (D.a.rows.map roR),I64 D.a.size,I64 D.t.vars,.seq false 3 (D.t.rows.map enR),I64 D.t.dep,.seq false 1 (irow D.on),.seq false 1 (irow D.ats),BL true])),(31,.pv (.ptr h.length 1))],G⟩:=by
     refine hC.fork [(3,(bvA 24 63487)),(11,(bvA 24 65527)),(16,(bvA 24 129015))] ?_ ⟨?_,?_,?_,trivial⟩
     ·kernel_rfl
     ·simp[oe3,g1,g2,b1,b2,dwB]
      refine hC.kp d8 ?_ ?_<;>simp[g1,g2,b1,b2,dwB]
     ·simp[oe11,g1,g2,b1,b2,dwB]
      refine hC.kp d23 ?_ ?_<;>simp[g1,g2,b1,b2,dwB]
     ·simp[oe16,g1,g2,b1,b2,dwB]
      refine hC.kp d27 ?_ ?_<;>simp[g1,g2,b1,b2,dwB]
    have d29:C 10 (bvA 24 112631) ⟨[(0,.pv (.ptr bd 0)),(3,.pv (.ptr h.length 0)),(18,.pv (.ptr bd 3)),(23,.pv (.agg [I64 D.t.vars,.seq false 3 (D.t.rows.map enR),I64 D.t.dep])),(26,.pv (.ptr bd 8)),(29,.pv (.ptr bd 0)),(32,.pv (I64 n))],G⟩:=by
     refine hC.fork [(3,(bvA 24 112639)),(11,(bvA 24 114679)),(14,(bvA 24 129015))] ?_ ⟨?_,?_,?_,trivial⟩
     ·kernel_rfl
     ·simp[oe3,g1,g2,b1,b2,dwB]
      refine hC.kp d9 ?_ ?_<;>simp[g1,g2,b1,b2,dwB]
     ·simp[oe11,g1,g2,b1,b2,dwB]
      refine hC.kp d24 ?_ ?_<;>simp[g1,g2,b1,b2,dwB]
     ·simp[oe14,g1,g2,b1,b2,dwB]
      refine hC.kp d27 ?_ ?_<;>simp[g1,g2,b1,b2,dwB]
    have d30:C 11 (bvA 24 47095) ⟨[(0,.pv (.ptr bd 0)),(3,.pv (.ptr h.length 0)),(18,.pv (.ptr bd 3)),(23,.pv (.agg [I64 D.t.vars,.seq false 3 (D.t.rows.map enR),I64 D.t.dep])),(26,.pv (.ptr bd 8)),(29,.pv (.ptr bd 0)),(31,.pv (.ptr h.length 1))],G⟩:=by
     refine hC.fork [(3,(bvA 24 47103)),(11,(bvA 24 49143)),(14,(bvA 24 63479)),(16,(bvA 24 112631))] ?_ ⟨?_,?_,?_,?_,trivial⟩
     ·kernel_rfl
     ·simp[oe3,g1,g2,b1,b2,dwB]
      refine hC.kp d10 ?_ ?_<;>simp[g1,g2,b1,b2,dwB]
     ·simp[oe11,g1,g2,b1,b2,dwB]
      refine hC.kp d25 ?_ ?_<;>simp[g1,g2,b1,b2,dwB]
     ·simp[oe14,g1,g2,b1,b2,dwB]
      refine hC.kp d28 ?_ ?_<;>simp[g1,g2,b1,b2,dwB]
     ·simp[oe16,g1,g2,b1,b2,dwB]
      refine hC.kp d29 ?_ ?_<;>simp[g1,g2,b1,b2,dwB]
    have d31:C 8 (bvA 24 262007) ⟨[(0,.pv (.ptr bd 0)),(3,.pv (.ptr h.length 0)),(18,.pv (.ptr bd 3)),(22,.pv (.ptr bd 5)),(27,.pv (.seq false 1 (irow D.on))),(33,.pv (I64 k))],G⟩:=by
     refine hC.fork [(3,(bvA 24 262015)),(7,(bvA 24 262135))] ?_ ⟨?_,?_,trivial⟩
     ·kernel_rfl
     ·simp[oe3,g1,g2,b1,b2,dwB]
      refine hC.kp d11 ?_ ?_<;>simp[g1,g2,b1,b2,dwB]
     ·simp[oe7,g1,g2,b1,b2,dwB]
      refine hC.kp d21 ?_ ?_<;>simp[g1,g2,b1,b2,dwB]
    have d32:C 9 (bvA 24 130935) ⟨[(0,.pv (.ptr bd 0)),(3,.pv (.ptr h.length 0)),(18,.pv (.ptr bd 3)),(22,.pv (.ptr bd 5)),(27,.pv (.seq false 1 (irow D.on))),(30,.pv (.agg [.ptr ba 0,.ptr bt 0,.ptr bw 0,.seq false 5 (D.a.rows.map roR),I64 D.a.size,I64 D.t.vars,.seq false 3 (D.t.rows.map enR),I64 D.t.dep,.seq false 1 (irow D.on),.seq false 1 (irow D.ats),BL true])),(32,.pv (I64 n))],G⟩:=by
     refine hC.fork [(3,(bvA 24 130943)),(7,(bvA 24 131063)),(17,(bvA 24 262007))] ?_ ⟨?_,?_,?_,trivial⟩
     ·kernel_rfl
     ·simp[oe3,g1,g2,b1,b2,dwB]
      refine hC.kp d12 ?_ ?_<;>simp[g1,g2,b1,b2,dwB]
     ·simp[oe7,g1,g2,b1,b2,dwB]
      refine hC.kp d22 ?_ ?_<;>simp[g1,g2,b1,b2,dwB]
     ·simp[oe17,g1,g2,b1,b2,dwB]
      refine CallK.intro (kP G) (by simp) ?_
      refine hC.kp d31 ?_ ?_<;>simp[g1,g2,b1,b2,dwB]
    have d33:C 10 (bvA 24 65399) ⟨[(0,.pv (.ptr bd 0)),(3,.pv (.ptr h.length 0)),(18,.pv (.ptr bd 3)),(22,.pv (.ptr bd 5)),(27,.pv (.seq false 1 (irow D.on))),(30,.pv (.agg [.ptr ba 0,.ptr bt 0,.ptr bw 0,.seq false 5 (D.a.rows.map roR),I64 D.a.size,I64 D.t.vars,.seq false 3 (D.t.rows.map enR),I64 D.t.dep,.seq false 1 (irow D.on),.seq false 1 (irow D.ats),BL true])),(31,.pv (.ptr h.length 1))],G⟩:=by
     refine hC.fork [(3,(bvA 24 65407)),(7,(bvA 24 65527)),(16,(bvA 24 130935))] ?_ ⟨?_,?_,?_,trivial⟩
     ·kernel_rfl
     ·simp[oe3,g1,g2,b1,b2,dwB]
      refine hC.kp d13 ?_ ?_<;>simp[g1,g2,b1,b2,dwB]
     ·simp[oe7,g1,g2,b1,b2,dwB]
      refine hC.kp d23 ?_ ?_<;>simp[g1,g2,b1,b2,dwB]
     ·simp[oe16,g1,g2,b1,b2,dwB]
      refine hC.kp d32 ?_ ?_<;>simp[g1,g2,b1,b2,dwB]
    have d34:C 10 (bvA 24 114551) ⟨[(0,.pv (.ptr bd 0)),(3,.pv (.ptr h.length 0)),(18,.pv (.ptr bd 3)),(22,.pv (.ptr bd 5)),(27,.pv (.seq false 1 (irow D.on))),(29,.pv (.ptr bd 0)),(32,.pv (I64 n))],G⟩:=by
     refine hC.fork [(3,(bvA 24 114559)),(7,(bvA 24 114679)),(14,(bvA 24 130935))] ?_ ⟨?_,?_,?_,trivial⟩
     ·kernel_rfl
     ·simp[oe3,g1,g2,b1,b2,dwB]
      refine hC.kp d14 ?_ ?_<;>simp[g1,g2,b1,b2,dwB]
     ·simp[oe7,g1,g2,b1,b2,dwB]
      refine hC.kp d24 ?_ ?_<;>simp[g1,g2,b1,b2,dwB]
     ·simp[oe14,g1,g2,b1,b2,dwB]
      refine hC.kp d32 ?_ ?_<;>simp[g1,g2,b1,b2,dwB]
    have d35:C 11 (bvA 24 49015) ⟨[(0,.pv (.ptr bd 0)),(3,.pv (.ptr h.length 0)),(18,.pv (.ptr bd 3)),(22,.pv (.ptr bd 5)),(27,.pv (.seq false 1 (irow D.on))),(29,.pv (.ptr bd 0)),(31,.pv (.ptr h.length 1))],G⟩:=by
     refine hC.fork [(3,(bvA 24 49023)),(7,(bvA 24 49143)),(14,(bvA 24 65399)),(16,(bvA 24 114551))] ?_ ⟨?_,?_,?_,?_,trivial⟩
     ·kernel_rfl
     ·simp[oe3,g1,g2,b1,b2,dwB]
      refine hC.kp d15 ?_ ?_<;>simp[g1,g2,b1,b2,dwB]
     ·simp[oe7,g1,g2,b1,b2,dwB]
      refine hC.kp d25 ?_ ?_<;>simp[g1,g2,b1,b2,dwB]
     ·simp[oe14,g1,g2,b1,b2,dwB]
      refine hC.kp d33 ?_ ?_<;>simp[g1,g2,b1,b2,dwB]
     ·simp[oe16,g1,g2,b1,b2,dwB]
      refine hC.kp d34 ?_ ?_<;>simp[g1,g2,b1,b2,dwB]
    have d36:C 9 (bvA 24 259959) ⟨[(0,.pv (.ptr bd 0)),(3,.pv (.ptr h.length 0)),(18,.pv (.ptr bd 3)),(22,.pv (.ptr bd 5)),(26,.pv (.ptr bd 8)),(33,.pv (I64 k))],G⟩:=by
     refine hC.fork [(3,(bvA 24 259967)),(7,(bvA 24 260087)),(11,(bvA 24 262007))] ?_ ⟨?_,?_,?_,trivial⟩
     ·kernel_rfl
     ·simp[oe3,g1,g2,b1,b2,dwB]
      refine hC.kp d16 ?_ ?_<;>simp[g1,g2,b1,b2,dwB]
     ·simp[oe7,g1,g2,b1,b2,dwB]
      refine hC.kp d26 ?_ ?_<;>simp[g1,g2,b1,b2,dwB]
     ·simp[oe11,g1,g2,b1,b2,dwB]
      refine hC.kp d31 ?_ ?_<;>simp[g1,g2,b1,b2,dwB]
    have d37:C 10 (bvA 24 128887) ⟨[(0,.pv (.ptr bd 0)),(3,.pv (.ptr h.length 0)),(18,.pv (.ptr bd 3)),(22,.pv (.ptr bd 5)),(26,.pv (.ptr bd 8)),(30,.pv (.agg [.ptr ba 0,.ptr bt 0,.ptr bw 0,.seq false 5 (D.a.rows.map roR),I64 D.a.size,I64 D.t.vars,.seq false 3 (D.t.rows.map enR),I64 D.t.dep,.seq false 1 (irow D.on),.seq false 1 (irow D.ats),BL true])),(32,.pv (I64 n))],G⟩:=by
     refine hC.fork [(3,(bvA 24 128895)),(7,(bvA 24 129015)),(11,(bvA 24 130935)),(17,(bvA 24 259959))] ?_ ⟨?_,?_,?_,?_,trivial⟩
     ·kernel_rfl
     ·simp[oe3,g1,g2,b1,b2,dwB]
      refine hC.kp d17 ?_ ?_<;>simp[g1,g2,b1,b2,dwB]
     ·simp[oe7,g1,g2,b1,b2,dwB]
      refine hC.kp d27 ?_ ?_<;>simp[g1,g2,b1,b2,dwB]
     ·simp[oe11,g1,g2,b1,b2,dwB]
      refine hC.kp d32 ?_ ?_<;>simp[g1,g2,b1,b2,dwB]
     ·simp[oe17,g1,g2,b1,b2,dwB]
      refine CallK.intro (kP G) (by simp) ?_
      refine hC.kp d36 ?_ ?_<;>simp[g1,g2,b1,b2,dwB]
    have d38:C 11 (bvA 24 63351) ⟨[(0,.pv (.ptr bd 0)),(3,.pv (.ptr h.length 0)),(18,.pv (.ptr bd 3)),(22,.pv (.ptr bd 5)),(26,.pv (.ptr bd 8)),(30,.pv (.agg [.ptr ba 0,.ptr bt 0,.ptr bw 0,.seq false 5 (D.a.rows.map roR),I64 D.a.size,I64 D.t.vars,.seq false 3 (D.t.rows.map enR),I64 D.t.dep,.seq false 1 (irow D.on),.seq false 1 (irow D.ats),BL true])),(31,.pv (.ptr h.length 1))],G⟩:=by
     refine hC.fork [(3,(bvA 24 63359)),(7,(bvA 24 63479)),(11,(bvA 24 65399)),(16,(bvA 24 128887))] ?_ ⟨?_,?_,?_,?_,trivial⟩
     ·kernel_rfl
     ·simp[oe3,g1,g2,b1,b2,dwB]
      refine hC.kp d18 ?_ ?_<;>simp[g1,g2,b1,b2,dwB]
     ·simp[oe7,g1,g2,b1,b2,dwB]
      refine hC.kp d28 ?_ ?_<;>simp[g1,g2,b1,b2,dwB]
     ·simp[oe11,g1,g2,b1,b2,dwB]
      refine hC.kp d33 ?_ ?_<;>simp[g1,g2,b1,b2,dwB]
     ·simp[oe16,g1,g2,b1,b2,dwB]
      refine hC.kp d37 ?_ ?_<;>simp[g1,g2,b1,b2,dwB]
    have d39:C 11 (bvA 24 112503) ⟨[(0,.pv (.ptr bd 0)),(3,.pv (.ptr h.length 0)),(18,.pv (.ptr bd 3)),(22,.pv (.ptr bd 5)),(26,.pv (.ptr bd 8)),(29,.pv (.ptr bd 0)),(32,.pv (I64 n))],G⟩:=by
     refine hC.fork [(3,(bvA 24 112511)),(7,(bvA 24 112631)),(11,(bvA 24 114551)),(14,(bvA 24 128887))] ?_ ⟨?_,?_,?_,?_,trivial⟩
     ·kernel_rfl
     ·simp[oe3,g1,g2,b1,b2,dwB]
      refine hC.kp d19 ?_ ?_<;>simp[g1,g2,b1,b2,dwB]
     ·simp[oe7,g1,g2,b1,b2,dwB]
      refine hC.kp d29 ?_ ?_<;>simp[g1,g2,b1,b2,dwB]
     ·simp[oe11,g1,g2,b1,b2,dwB]
      refine hC.kp d34 ?_ ?_<;>simp[g1,g2,b1,b2,dwB]
     ·simp[oe14,g1,g2,b1,b2,dwB]
      refine hC.kp d37 ?_ ?_<;>simp[g1,g2,b1,b2,dwB]
    have d40:C 12 (bvA 24 46967) ⟨[(0,.pv (.ptr bd 0)),(3,.pv (.ptr h.length 0)),(18,.pv (.ptr bd 3)),(22,.pv (.ptr bd 5)),(26,.pv (.ptr bd 8)),(29,.pv (.ptr bd 0)),(31,.pv (.ptr h.length 1))],G⟩:=by
     refine hC.fork [(3,(bvA 24 46975)),(7,(bvA 24 47095)),(11,(bvA 24 49015)),(14,(bvA 24 63351)),(16,(bvA 24 112503))] ?_ ⟨?_,?_,?_,?_,?_,trivial⟩
     ·kernel_rfl
     ·simp[oe3,g1,g2,b1,b2,dwB]
      refine hC.kp d20 ?_ ?_<;>simp[g1,g2,b1,b2,dwB]
     ·simp[oe7,g1,g2,b1,b2,dwB]
      refine hC.kp d30 ?_ ?_<;>simp[g1,g2,b1,b2,dwB]
     ·simp[oe11,g1,g2,b1,b2,dwB]
      refine hC.kp d35 ?_ ?_<;>simp[g1,g2,b1,b2,dwB]
     ·simp[oe14,g1,g2,b1,b2,dwB]
      refine hC.kp d38 ?_ ?_<;>simp[g1,g2,b1,b2,dwB]
     ·simp[oe16,g1,g2,b1,b2,dwB]
      refine hC.kp d39 ?_ ?_<;>simp[g1,g2,b1,b2,dwB]
    refine hC.take 0 (bvA 24 1) ?_ ?_
    ·kernel_rfl
    simp[oe0,g1,g2,b1,b2,dwB]
    refine hC.take 1 (bvA 24 3) ?_ ?_
    ·kernel_rfl
    simp[oe1,g1,g2,b1,b2,dwB]
    refine hC.take 2 (bvA 24 7) ?_ ?_
    ·kernel_rfl
    simp[oe2,g1,g2,b1,b2,dwB]
    refine hC.take 4 (bvA 24 23) ?_ ?_
    ·kernel_rfl
    simp[oe4,g1,g2,b1,b2,dwB]
    refine hC.take 5 (bvA 24 55) ?_ ?_
    ·kernel_rfl
    simp[oe5,g1,g2,b1,b2,dwB]
    refine hC.take 6 (bvA 24 119) ?_ ?_
    ·kernel_rfl
    simp[oe6,g1,g2,b1,b2,dwB]
    refine hC.take 8 (bvA 24 375) ?_ ?_
    ·kernel_rfl
    simp[oe8,g1,g2,b1,b2,dwB]
    refine hC.take 9 (bvA 24 887) ?_ ?_
    ·kernel_rfl
    simp[oe9,g1,g2,b1,b2,dwB]
    refine hC.take 10 (bvA 24 1911) ?_ ?_
    ·kernel_rfl
    simp[oe10,g1,g2,b1,b2,dwB]
    refine hC.take 12 (bvA 24 6007) ?_ ?_
    ·kernel_rfl
    simp[oe12,g1,g2,b1,b2,dwB]
    refine hC.take 13 (bvA 24 14199) ?_ ?_
    ·kernel_rfl
    simp[oe13,g1,g2,b1,b2,dwB]
    refine hC.take 15 (bvA 24 46967) ?_ ?_
    ·kernel_rfl
    simp[oe15,g1,g2,b1,b2,dwB]
    refine hC.kp d40 ?_ ?_<;>simp[g1,g2,b1,b2,dwB]
  rintro _ _
  obtain⟨G2,hG2⟩:∃G2,G2=G.set bd (dwB ba bt bw ⟨D.A,D.T,D.S,D.a,D.t,RL,D.ats⟩):=⟨_,rfl⟩
  simp[g1,g2,dwB]
  simp only[dwB]at hG2
  rw[←hG2]
  have L0:LayW G bw ba bt mp mb D.A D.T D.S:=by rw[hG];exact L.lay.app _
  have L2:LayW G2 bw ba bt mp mb D.A D.T D.S:=by rw[hG2];exact L0.other _ _ L.nd L.na
  have E2:Ext h G2 (DomD bd bw bt mp mb) (DomD bd bw bt mp mb):=by rw[hG2,hG];exact(Ext.app _ _ _).trans (Ext.set bd _ (.inl rfl))
  have g3:bd<G2.length:=by rw[hG2];simpa using g1
  have g4:G2[bd]'g3=dwB ba bt bw ⟨D.A,D.T,D.S,D.a,D.t,RL,D.ats⟩:=by simp[hG2,dwB]
  have hne:bd≠h.length:=by omega
  have g5:h.length<G2.length:=by rw[hG2];simpa using b1
  have g6:G2[h.length]'g5=[SV.pv (I64 0),SV.pv (I64 n)]:=by
    simp only[hG2]
    rw[List.getElem_set_ne hne,b2]
  have kP2:∀(H:List (List SV)),APure Tryz.prog 41 [dwC H 2 ba bt bw ⟨D.A,D.T,D.S,D.a,D.t,RL,D.ats⟩,I64 n] fun r=>r=SV.pv (I64 k):=fun H=>by
    rw[←hk0];exact wplace_ok H 2 ba bt bw ⟨D.A,D.T,D.S,D.a,D.t,RL,D.ats⟩ n hat
  have kA:=wattach_ok G2 bw ba bt mp mb D.A D.T D.S L2 hk hl hm hTl k
  refine AAnyD.one dw6Sch (by kernel_rfl) ?_
  simp[dw6Sch,g3,g4,g5,g6,dwB]
  and_intros
  all_goals
    refine CallK.intro (kP2 _) (by simp) ?_
    simp[g3,g4,g5,g6,dwB]
  all_goals try and_intros
  all_goals
    refine CallB.intro kA (by simp) ?_
    rintro _ H3 ⟨rfl,mp3,L3,E3⟩
    simp
    have g7:H3[bd]?=some (dwB ba bt bw ⟨D.A,D.T,D.S,D.a,D.t,RL,D.ats⟩):=by
      rw[E3.same bd g3 L.nd,List.getElem?_eq_getElem g3,g4]
    refine⟨mp3,⟨L3,g7,fun hd=>L.nd (E3.sub bd g3 hd),L.na⟩,E2.trans (E3.wide bd)⟩
def dw8Sch:Sch:=
 let s0:Sch:=.fork [(10,.take 11 (.take 12 (.take 13 (.take 14 (.take 15 .done)))))]
 let s1:Sch:=.fork [(9,s0)]
 let s2:Sch:=.fork [(8,s1)]
 let s3:Sch:=.fork [(6,s1)]
 let s4:Sch:=.fork [(6,s2),(8,s3)]
 let s5:Sch:=.fork [(3,s0)]
 let s6:Sch:=.fork [(3,s1),(9,s5)]
 let s7:Sch:=.fork [(3,s2),(8,s6)]
 let s8:Sch:=.fork [(3,s3),(6,s6)]
 let s9:Sch:=.fork [(3,s4),(6,s7),(8,s8)]
 .take 0 (.take 1 (.take 2 (.take 4 (.take 5 (.take 7 s9)))))
def dw10Sch:Sch:=
 let s0:Sch:=.fork [(10,.take 12 (.take 13 .done))]
 let s1:Sch:=.fork [(9,s0)]
 let s2:Sch:=.fork [(8,s1)]
 let s3:Sch:=.fork [(6,s1)]
 let s4:Sch:=.fork [(6,s2),(8,s3)]
 let s5:Sch:=.fork [(3,s0)]
 let s6:Sch:=.fork [(3,s1),(9,s5)]
 let s7:Sch:=.fork [(3,s2),(8,s6)]
 let s8:Sch:=.fork [(3,s3),(6,s6)]
 let s9:Sch:=.fork [(3,s4),(6,s7),(8,s8)]
 .take 0 (.take 1 (.take 2 (.take 4 (.take 5 (.take 7 (.take 11 s9))))))
set_option maxRecDepth 16000 in
theorem wdoD_ok (h:List (List SV)) (bd ba bt bw:Nat) (mp:List (Int×Nat)) (mb:List (Int×By)) (D:DW) (L:LayD h bd ba bt bw mp mb D) (n:Int) (hon:D.on.length≤1000000) (hat:D.ats.length≤1000000) (hn:(D.S.prs.map (·.1)).Nodup)
 (hx:∀p,lk D.S.prs (plaW D.ats n)=some p→(p.x≠0→∃zs,lk D.S.byl p.x=some zs∧zs≠[])∧(p.y≠0→∃zs,lk (forB D.S.byl (plaW D.ats n) p.x) p.y=some zs∧zs≠[])) (hz:∀l zs,lk D.S.byl l=some zs→zs.length≤1000000):
 AMut Tryz.prog 9 [.ptr bd 0,.agg [I64 1,I64 n]] h (fun r h'=>r=.pv (BL (decide (detE D.S (plaW D.ats n)=rdetE D.on (plaW D.ats n))))∧∃mp' mb',LayD h' bd ba bt bw mp' mb' ⟨D.A,D.T,detS D.S (plaW D.ats n),D.a,D.t,rdetL D.on (plaW D.ats n),D.ats⟩∧Ext h h' (DomD bd bw bt mp mb) (DomD bd bw bt mp' mb')):=by
 refine amutX [8,10] [.tmp 4] hmo Tryz.func9 (by kernel_rfl) rfl rfl (by kernel_rfl) (Nat.le_of_ble_eq_true rfl) ?_;obtain⟨d1,d2⟩:=List.getElem?_eq_some_iff.1 L.d;have kP:=fun H=>wplace_ok H 2 ba bt bw D n hat;have kR:=fun H=>rdetach_ok H D.on (plaW D.ats n) hon;obtain⟨G,hG⟩:∃G,G=h++[[SV.pv (I64 1),SV.pv (I64 n)]]:=⟨_,rfl⟩;simp;rw[←hG];have g1:bd<G.length:=by rw[hG];simp;omega
 have g2:G[bd]'g1=dwB ba bt bw D:=by simp only[hG];rw[List.getElem_append_left d1,d2]
 have b1:h.length<G.length:=by rw[hG];simp
 have b2:G[h.length]'b1=[SV.pv (I64 1),SV.pv (I64 n)]:=by simp[hG]
 generalize hk0:plaW D.ats n=k at*;generalize rdetE D.on k=RE at*;generalize rdetL D.on k=RL at*;refine AAnyD.meet dw8Sch ⟨[(0,.pv (.ptr bd 0)),(3,.pv (.ptr h.length 0)),(7,.pv (.seq false 1 (irow RL))),(8,.pv (I64 RE))],G⟩ (by kernel_rfl) ?_ ?_
 ·simp[dw8Sch,g1,g2,b1,b2,dwB];and_intros
  all_goals
   refine CallK.intro (kP _) (by simp) ?_;simp[g1,g2,b1,b2,dwB]
  all_goals try and_intros
  all_goals
   refine CallK.introM (kR _) (by simp) ?_;rintro _ _ ⟨rfl,rfl⟩;simp;exact Weak.keep (by simp) rfl
 obtain⟨G2,hG2⟩:∃G2,G2=G.set bd (dwB ba bt bw ⟨D.A,D.T,D.S,D.a,D.t,RL,D.ats⟩):=⟨_,rfl⟩;simp[g1,g2,dwB];simp only[dwB]at hG2;rw[←hG2];have L0:LayW G bw ba bt mp mb D.A D.T D.S:=by rw[hG];exact L.lay.app _
 have L2:LayW G2 bw ba bt mp mb D.A D.T D.S:=by rw[hG2];exact L0.other _ _ L.nd L.na
 have E2:Ext h G2 (DomD bd bw bt mp mb) (DomD bd bw bt mp mb):=by rw[hG2,hG];exact(Ext.app _ _ _).trans (Ext.set bd _ (.inl rfl))
 have g3:bd<G2.length:=by rw[hG2];simpa using g1
 have g4:G2[bd]'g3=dwB ba bt bw ⟨D.A,D.T,D.S,D.a,D.t,RL,D.ats⟩:=by simp[hG2,dwB]
 have hne:bd≠h.length:=by omega
 have g5:h.length<G2.length:=by rw[hG2];simpa using b1
 have g6:G2[h.length]'g5=[SV.pv (I64 1),SV.pv (I64 n)]:=by
  simp only[hG2];rw[List.getElem_set_ne hne,b2]
 have kP2:∀(H:List (List SV)),APure Tryz.prog 41 [dwC H 2 ba bt bw ⟨D.A,D.T,D.S,D.a,D.t,RL,D.ats⟩,I64 n] fun r=>r=SV.pv (I64 k):=fun H=>by
  rw[←hk0];exact wplace_ok H 2 ba bt bw ⟨D.A,D.T,D.S,D.a,D.t,RL,D.ats⟩ n hat
 have kA:=wdetach_ok G2 bw ba bt mp mb D.A D.T D.S L2 hn k hx hz;refine AAnyD.one dw10Sch (by kernel_rfl) ?_;simp[dw10Sch,g3,g4,g5,g6,dwB];and_intros
 all_goals
  refine CallK.intro (kP2 _) (by simp) ?_;simp[g3,g4,g5,g6,dwB]
 all_goals try and_intros
 all_goals
  refine CallB.intro kA (by simp) ?_;rintro _ H3 ⟨rfl,mp3,mb3,L3,E3⟩;simp;have g7:H3[bd]?=some (dwB ba bt bw ⟨D.A,D.T,D.S,D.a,D.t,RL,D.ats⟩):=by
   rw[E3.same bd g3 L.nd,List.getElem?_eq_getElem g3,g4]
  refine⟨mp3,mb3,⟨L3,g7,fun hd=>L.nd (E3.sub bd g3 hd),L.na⟩,E2.trans (E3.wide bd)⟩
theorem sortZ_of {l l':List Int} (h:l.Perm l') (hs:l'.Pairwise (·≤·)):sortZ l=l':=by
 refine List.Perm.eq_of_pairwise (le:=(·≤·)) (fun a b _ _ h1 h2=>Int.le_antisymm h1 h2) (sortZ_pairwise l) hs ?_;unfold sortZ;exact(List.mergeSort_perm l _).trans h
theorem RelA.arok {A:Ar} {a:RA} (h:RelA A a):ArOk A:=fun q hq=>by
 obtain⟨x,hx,e⟩:=h.is q hq;obtain⟨p,e1,e2,_⟩:=h.rows x hx;exact⟨p,x.lits.length,by rw[←e,e1],e2⟩
theorem mem_keys {α:Type}:∀{l:List (Int×α)} {k:Int},(lk l k).isSome=true↔k∈l.map (·.1)
 |[],k=>by simp[lk]
 |(j,x)::l,k=>by
  rw[lk,List.map_cons,List.mem_cons]
  by_cases e:j=k
  ·rw[if_pos e];simp[e]
  ·rw[if_neg e,mem_keys];constructor
   ·exact fun h=>.inr h
   ·rintro(h|h)
    ·exact absurd h.symm e
    ·exact h
def insR (k:Int):List Int→List Int
 |[]=>[k]
 |x::xs=>if k<x then k::x::xs else x::insR k xs
theorem insF_true (k:Int):∀(l o:List Int),l.foldl (insF k) (o,true)=(o++l,true)
 |[],o=>by simp
 |x::l,o=>by
  have e:insF k (o,true) x=(o++[x],true):=by unfold insF;rw[if_neg (by simp)]
  rw[List.foldl_cons,e,insF_true k l,List.append_assoc];rfl
theorem insF_false (k:Int):∀(l o:List Int),(if(l.foldl (insF k) (o,false)).2=true then(l.foldl (insF k) (o,false)).1 else(l.foldl (insF k) (o,false)).1++[k])=o++insR k l
 |[],o=>by simp[insR]
 |x::l,o=>by
  rw[List.foldl_cons,insR]
  by_cases c:k<x
  ·have e:insF k (o,false) x=(o++[k]++[x],true):=by unfold insF;rw[if_pos ⟨c,rfl⟩]
   rw[e,insF_true,if_pos c];simp
  ·have e:insF k (o,false) x=(o++[x],false):=by unfold insF;rw[if_neg (fun h=>c h.1)]
   rw[e,insF_false k l,if_neg c,List.append_assoc];rfl
theorem insW_is (l:List Int) (k:Int):insW l k=insR k l:=by
 unfold insW insT;rw[List.take_length];have:=insF_false k l [];rw[List.nil_append]at this;exact this
theorem insR_perm (k:Int):∀l:List Int,(insR k l).Perm (k::l)
 |[]=>List.Perm.refl _
 |x::l=>by
  rw[insR];split
  ·exact List.Perm.refl _
  ·exact((insR_perm k l).cons x).trans (List.Perm.swap k x l)
theorem insR_rise (k:Int):∀{l:List Int},l.Pairwise (·≤·)→(insR k l).Pairwise (·≤·)
 |[],_=>by simp[insR]
 |x::l,h=>by
  rw[insR];have h':=List.pairwise_cons.1 h;split
  ·rename_i c;refine List.pairwise_cons.2 ⟨fun y hy=>?_,h⟩;rcases List.mem_cons.1 hy with rfl|hy
   ·omega
   ·have:=h'.1 y hy;omega
  ·rename_i c;refine List.pairwise_cons.2 ⟨fun y hy=>?_,insR_rise k h'.2⟩;rcases List.mem_cons.1 ((insR_perm k l).mem_iff.1 hy)with rfl|hy
   ·omega
   ·exact h'.1 y hy
theorem dl_erase {α:Type}:∀(l:List (Int×α)) (k:Int),(dl l k).map (·.1)=(l.map (·.1)).erase k
 |[],_=>rfl
 |(j,x)::l,k=>by
  rw[dl,List.map_cons,List.erase_cons]
  by_cases e:j=k
  ·rw[if_pos e,if_pos (by simpa using e)]
  ·rw[if_neg e,if_neg (by simpa using e),List.map_cons,dl_erase l k]
theorem remW_erase {l:List Int} (h:l.Nodup) (k:Int):remW l k=l.erase k:=by
 rw[h.erase_eq_filter];unfold remW;congr 1;funext x
 by_cases e:x=k<;>simp[e]
theorem sortZ_erase (l:List Int) (k:Int):sortZ (l.erase k)=(sortZ l).erase k:=by
 refine sortZ_of ?_ ((sortZ_pairwise l).sublist List.erase_sublist);refine List.Perm.erase k ?_;unfold sortZ;exact(List.mergeSort_perm l _).symm
theorem sortZ_nodup {l:List Int} (h:l.Nodup):(sortZ l).Nodup:=by
 unfold sortZ;exact(List.mergeSort_perm l _).nodup_iff.2 h
structure RelP (A:Ar) (a:RA):Prop extends RelA A a where
  pos:∀x∈a.rows,1≤x.id
theorem RelP.id0 {A:Ar} {a:RA} (h:RelP A a) (q:Int):idA A q=0↔isA A q=false:=by
 unfold idA;cases hq:isA A q
 ·simp
 ·obtain⟨x,hx,e⟩:=h.is q hq;obtain⟨p,e1,_,_,_,e5⟩:=h.rows x hx;have:=h.pos x hx;have hp:q.toNat=p:=by omega
  rw[if_pos rfl,hp,e5];constructor
  ·intro h0;omega
  ·intro h0;cases h0
theorem att_same {A:Ar} {a:RA} (h:RelP A a) {T:Tr} {v:Int} (hv:(T.marks.length:Int) -1=v) {S:WS} {on:List Int} (hon:sortZ (S.prs.map (·.1))=on) (k:Int):attE A T S k=rattE a v on k:=by
 unfold attE rattE;have hm:(lk S.prs k).isSome=true↔k∈on:=by rw[mem_keys,←hon,mem_sortZ]
 rw[hv];cases hq:isA A k
 ·rw[if_pos ((h.id0 k).2 hq),if_pos ((findA_is h.toRelA k).2 hq)]
 ·obtain⟨f1,f2⟩:=(findA_is h.toRelA k).1 hq;have hne:¬idA A k=0:=fun e=>by rw[h.id0 k]at e;rw[hq]at e;cases e
  rw[if_neg hne,if_neg (show¬findA a k<0 by omega)];have f2':(a.rows.getD (findA a k).toNat default).lits=litsA A k:=by
   rw[←f2];unfold litsD;simp[f1]
  rw[f2']
  by_cases c:k∈on
  ·rw[if_pos c,if_pos (hm.2 c)]
  ·rw[if_neg c,if_neg (fun e=>c (hm.1 e))]
structure PlayOk (D:DW):Prop where
  rel:RelP D.A D.a
  len:(D.T.marks.length:Int) -1=D.t.vars
  on:sortZ (D.S.prs.map (·.1))=D.on
  nd:(D.S.prs.map (·.1)).Nodup
  zer:∀k p,lk D.S.prs k=some p→p.x=0∧p.y=0
  byl:D.S.byl=[]
theorem PlayOk.att {D:DW} (h:PlayOk D) (k:Int):attE D.A D.T D.S k=rattE D.a D.t.vars D.on k:=att_same h.rel h.len h.on k
theorem PlayOk.det {D:DW} (h:PlayOk D) (k:Int):detE D.S k=rdetE D.on k:=by
 unfold detE rdetE;have hm:(lk D.S.prs k).isSome=true↔k∈D.on:=by rw[mem_keys,←h.on,mem_sortZ]
 by_cases c:k∈D.on
 ·rw[if_pos c,if_pos (hm.2 c)]
 ·rw[if_neg c,if_neg (fun e=>c (hm.1 e))]
theorem putJ_relP {cs:List (List Int)} (hc:fewC cs):∀i,i≤cs.length→RelP (putJ cs i).A (putJ cs i).a
 |0,_=>⟨relA_new,by simp[putJ]⟩
 |i+1,hi=>by
  have ih:=putJ_relP hc i (by omega);have hok:=putL_ok hc (i+1) hi;obtain⟨e1,e2⟩:=putJ_L cs (i+1);refine⟨by rw[e1,e2];exact hok.rel,?_⟩;intro x hx;rw[putJ,putJ1]at hx;have hx:x∈(putRA (putJ cs i).a ((i+1:Nat):Int) (cs.getD i [])).rows:=hx;unfold putRA at hx;split at hx
  ·rcases List.mem_append.1 hx with hx|hx
   ·exact ih.pos x hx
   ·simp at hx;rw[hx];simp only;omega
  ·exact ih.pos x hx
theorem begW_play {cs:List (List Int)} (hc:fewC cs):PlayOk (begW cs)where
 rel:=putJ_relP hc _ (Nat.le_refl _)
 len:=rfl
 on:=sortZ_of (List.Perm.refl _) List.Pairwise.nil
 nd:=by simp[begW]
 zer:=fun k p hp=>by cases hp
 byl:=rfl
deriving instance DecidableEq for Pr
deriving instance DecidableEq for WS
deriving instance DecidableEq for Mk
deriving instance DecidableEq for Tr
deriving instance DecidableEq for Ar
def a14A1:Ar:=putAr ⟨[],[]⟩ 1 [1,2]
def a14A:Ar:=putAr a14A1 2 [-1,3]
def a14T0:Tr:=newT 3
def a14T1:Tr:=decT a14T0 (-2)
def a14T2:Tr:=impT a14T1 1 0
def a14T3:Tr:=impT a14T2 3 5
def a14S0:WS:=⟨[],[],[],0,[]⟩
def a14S1:WS:=⟨[(0,⟨[1,2],0,0⟩)],[],[(0,1)],0,[]⟩
def a14S2:WS:=⟨[(0,⟨[1,2],0,0⟩),(5,⟨[-1,3],0,0⟩)],[],[(0,1),(5,1)],0,[]⟩
def a14S3:WS:=⟨[(0,⟨[1,2],1,2⟩),(5,⟨[-1,3],0,0⟩)],[(1,[0]),(2,[0])],[(5,1)],0,[]⟩
def a14S4:WS:=⟨[(0,⟨[1,2],1,2⟩),(5,⟨[-1,3],-1,3⟩)],[(1,[0]),(2,[0]),(-1,[5]),(3,[5])],[],0,[]⟩
def a14S5:WS:=⟨[(0,⟨[1,2],0,0⟩),(5,⟨[-1,3],-1,3⟩)],[(1,[]),(2,[]),(-1,[5]),(3,[5])],[(0,1)],0,[]⟩
def a14S6:WS:=⟨[(0,⟨[1,2],0,0⟩),(5,⟨[-1,3],0,0⟩)],[(1,[]),(2,[]),(-1,[]),(3,[])],[(0,1),(5,1)],1,[]⟩
def wsH (S:WS) (n:Int):WS:=⟨S.prs,S.byl,S.late,n,S.seen⟩
theorem a14_A:a14A=⟨[1,2,0,1,2,2,2,0,-1,3],[(0,1),(5,2)]⟩:=by decide+kernel
theorem a14_put1:putEA 1 [1,2]=0∧putEA 2 [-1,3]=0∧a14A1.row.length=5:=by decide+kernel
theorem a14_att1:attE a14A a14T0 a14S0 0=0∧attS a14A a14T0 a14S0 0=a14S1:=by decide+kernel
theorem a14_att2:attE a14A a14T0 a14S1 5=0∧attS a14A a14T0 a14S1 5=a14S2:=by decide+kernel
theorem a14_att3:attE a14A a14T0 a14S2 0=21∧attS a14A a14T0 a14S2 0=a14S2:=by decide+kernel
theorem a14_att4:attE a14A a14T0 a14S2 99=20∧attS a14A a14T0 a14S2 99=a14S2:=by decide+kernel
theorem a14_sort:sortZ (a14S2.late.map (·.1))=[0,5]:=sortZ_of (List.Perm.refl _) (by simp[a14S2])
theorem a14_fre1:freB a14T0 ⟨[1,2],0,0⟩=false∧freS a14S2 a14T0 0 ⟨[1,2],0,0⟩=a14S3∧freT a14T0 0 ⟨[1,2],0,0⟩=a14T0:=by decide+kernel
theorem a14_fre2:freB a14T0 ⟨[-1,3],0,0⟩=false∧freS a14S3 a14T0 5 ⟨[-1,3],0,0⟩=a14S4∧freT a14T0 5 ⟨[-1,3],0,0⟩=a14T0:=by decide+kernel
theorem a14_fai1:faiS a14S4 a14T1 2=(a14S5,a14T2,-1):=by decide+kernel
theorem a14_fai2:faiS (wsH a14S5 1) a14T2 (-1)=(a14S6,a14T3,-1):=by decide+kernel
theorem a14_fai3:faiS (wsH a14S6 2) a14T3 (-3)=(wsH a14S6 2,a14T3,-1):=by decide+kernel
theorem a14_lits:a14T0.lits=[]∧a14T1.lits=[-2]∧a14T2.lits=[-2,1]∧a14T3.lits=[-2,1,3]:=by decide+kernel
theorem a14_neg:negL a14T1 a14S4=2∧negL a14T2 (wsH a14S5 1)=-1∧negL a14T3 (wsH a14S6 2)=-3:=by decide+kernel
theorem a14_up:upH a14S5=wsH a14S5 1∧upH a14S6=wsH a14S6 2∧upH (wsH a14S6 2)=wsH a14S6 3:=by decide+kernel
theorem lk_bound {l:List (Int×List Int)} {n:Nat} (h:∀q∈l,q.2.length≤n):∀k zs,lk l k=some zs→zs.length≤n:=fun k zs hz=>h _ (lk_in hz)
def a14J (S:WS) (T:Tr):Prop:=(S=a14S4∧T=a14T1)∨(S=wsH a14S5 1∧T=a14T2)∨(S=wsH a14S6 2∧T=a14T3)∨(S=wsH a14S6 3∧T=a14T3)
theorem a14_ok:a14T0.ok∧a14T1.ok∧a14T2.ok∧a14T3.ok:=by
 refine⟨⟨?_,?_⟩,⟨?_,?_⟩,⟨?_,?_⟩,⟨?_,?_⟩⟩<;>decide+kernel
theorem a14_one {S:WS} {T:Tr} {l k:Int} {p:Pr} (h:StepOk S T l k p):∃Jf:Nat→WS→Tr→Prop,Jf 0 S T∧∀i S' T',Jf i S' T'→∀(hi:i<[k].length),∃p,StepOk S' T' l [k][i] p∧(wstB T' l p=false→Jf (i+1) (wstS S' T' l [k][i] p) (wstT T' l [k][i] p)):=by
 refine⟨fun i S' T'=>i=0→S'=S∧T'=T,fun _=>⟨rfl,rfl⟩,fun i S' T' hq hi=>?_⟩;have h0:i=0:=by simpa using hi
 subst h0;obtain⟨rfl,rfl⟩:=hq rfl;exact⟨p,h,fun _ h=>by cases h⟩
theorem a14_st1:StepOk a14S4 a14T1 2 0 ⟨[1,2],1,2⟩where
 hp:=by decide+kernel
 l0:=by decide
 two:=.inr rfl
 lits:=by decide
 byl:=⟨[0],by decide+kernel,by decide⟩
 hx:=fun _=>⟨[0],by decide+kernel,by decide⟩
 hy:=fun _=>⟨[0],by decide+kernel,by decide⟩
 hz:=lk_bound (by simp[a14S4])
 ok:=a14_ok.2.1
 tl:=by decide+kernel
theorem a14_st2:StepOk (wsH a14S5 1) a14T2 (-1) 5 ⟨[-1,3],-1,3⟩where
 hp:=by decide+kernel
 l0:=by decide
 two:=.inl rfl
 lits:=by decide
 byl:=⟨[5],by decide+kernel,by decide⟩
 hx:=fun _=>⟨[5],by decide+kernel,by decide⟩
 hy:=fun _=>⟨[5],by decide+kernel,by decide⟩
 hz:=lk_bound (by simp[wsH,a14S5])
 ok:=a14_ok.2.2.1
 tl:=by decide+kernel
theorem a14_lk1:lk a14S4.byl 2=some [0]∧lk (wsH a14S5 1).byl (-1)=some [5]∧lk (wsH a14S6 2).byl (-3)=none:=by decide+kernel
theorem a14_pro:ProOk a14J where
 ok:=by
  rintro S T (⟨rfl,rfl⟩|⟨rfl,rfl⟩|⟨rfl,rfl⟩|⟨rfl,rfl⟩)
  ·exact⟨a14_ok.2.1,by decide+kernel,by decide+kernel,by decide+kernel⟩
  ·exact⟨a14_ok.2.2.1,by decide+kernel,by decide+kernel,by decide+kernel⟩
  ·exact⟨a14_ok.2.2.2,by decide+kernel,by decide+kernel,by decide+kernel⟩
  ·exact⟨a14_ok.2.2.2,by decide+kernel,by decide+kernel,by decide+kernel⟩
 step:=by
  rintro S T (⟨rfl,rfl⟩|⟨rfl,rfl⟩|⟨rfl,rfl⟩|⟨rfl,rfl⟩) hlt zs hzs
  ·rw[a14_neg.1]at hzs⊢;rw[a14_lk1.1]at hzs;cases hzs
   exact⟨by decide,a14_one a14_st1⟩
  ·rw[a14_neg.2.1]at hzs⊢;rw[a14_lk1.2.1]at hzs;cases hzs
   exact⟨by decide,a14_one a14_st2⟩
  ·rw[a14_neg.2.2]at hzs;rw[a14_lk1.2.2]at hzs;cases hzs
  ·exact absurd hlt (by decide+kernel)
 len:=by
  rintro S T (⟨rfl,rfl⟩|⟨rfl,rfl⟩|⟨rfl,rfl⟩|⟨rfl,rfl⟩) hlt
  ·rw[a14_neg.1,a14_fai1];decide+kernel
  ·rw[a14_neg.2.1,a14_fai2];decide+kernel
  ·rw[a14_neg.2.2,a14_fai3];decide+kernel
  ·exact absurd hlt (by decide+kernel)
 next:=by
  rintro S T (⟨rfl,rfl⟩|⟨rfl,rfl⟩|⟨rfl,rfl⟩|⟨rfl,rfl⟩) hlt _
  ·rw[a14_neg.1,a14_fai1];exact⟨rfl,.inr (.inl ⟨a14_up.1,rfl⟩),rfl,by decide+kernel⟩
  ·rw[a14_neg.2.1,a14_fai2];exact⟨rfl,.inr (.inr (.inl ⟨a14_up.2.1,rfl⟩)),rfl,by decide+kernel⟩
  ·rw[a14_neg.2.2,a14_fai3];exact⟨rfl,.inr (.inr (.inr ⟨a14_up.2.2,rfl⟩)),rfl,by decide+kernel⟩
  ·exact absurd hlt (by decide+kernel)
theorem proF_step (n:Nat) (S:WS) (T:Tr) (l:Int) (S':WS) (T':Tr) (k:Int) (h:S.head<T.lits.length) (hl:negL T S=l) (hf:faiS S T l=(S',T',k)) (hk:k<0):proF (n+1) S T=proF n (upH S') T':=by
 rw[proF,if_pos h,hl,hf];simp only;rw[if_neg (by omega)]
theorem proF_end (n:Nat) (S:WS) (T:Tr) (h:¬S.head<T.lits.length):proF n S T=(S,T,-1):=by
 cases n with
 |zero=>rfl
 |succ n=>rw[proF,if_neg h]
theorem a14_las1:lasS (shrS a14S2 a14T0.lits) a14T0=(a14S4,a14T0,-1):=by
 have e:shrS a14S2 a14T0.lits=a14S2:=by decide+kernel
 rw[e,lasS,a14_sort];have f1:=a14_fre1;have f2:=a14_fre2;rw[latF,show lk a14S2.prs 0=some ⟨[1,2],0,0⟩ by decide+kernel];simp only;rw[if_neg (by rw[f1.1];simp),f1.2.1,f1.2.2,latF,show lk a14S3.prs 5=some ⟨[-1,3],0,0⟩ by decide+kernel];simp only;rw[if_neg (by rw[f2.1];simp),f2.2.1,f2.2.2,latF]
theorem a14_prp1:prpS a14S2 a14T0=(a14S4,a14T0,-1):=by
 have m:midS a14S2 a14T0=(a14S4,a14T0,-1):=by
  unfold midS;rw[a14_las1];simp only;rw[if_neg (by omega),proF_end _ _ _ (by decide+kernel)]
 unfold prpS;rw[m];rfl
def a14S7:WS:=⟨a14S6.prs,a14S6.byl,a14S6.late,3,[-2,1,3]⟩
theorem a14_las2:lasS (shrS a14S4 a14T1.lits) a14T1=(a14S4,a14T1,-1):=by
 have e:shrS a14S4 a14T1.lits=a14S4:=by decide+kernel
 rw[e,lasS,show sortZ (a14S4.late.map (·.1))=[]from sortZ_of (List.Perm.refl _) List.Pairwise.nil,latF]
theorem a14_prp2:prpS a14S4 a14T1=(a14S7,a14T3,-1):=by
 have m:midS a14S4 a14T1=(wsH a14S6 3,a14T3,-1):=by
  unfold midS;rw[a14_las2];simp only;rw[if_neg (by omega),show(1000001:Nat)=1000000+1 from rfl,proF_step _ _ _ _ _ _ _ (by decide+kernel) a14_neg.1 a14_fai1 (by omega),a14_up.1,
   show(1000000:Nat)=999999+1 from rfl,proF_step _ _ _ _ _ _ _ (by decide+kernel) a14_neg.2.1 a14_fai2 (by omega),a14_up.2.1,
   show(999999:Nat)=999998+1 from rfl,proF_step _ _ _ _ _ _ _ (by decide+kernel) a14_neg.2.2 a14_fai3 (by omega),a14_up.2.2,proF_end _ _ _ (by decide+kernel)]
 unfold prpS;rw[m];decide+kernel
theorem a14_det:detE a14S7 0=0∧(detS a14S7 0).prs.map (·.1)=[5]:=by decide+kernel
theorem aw14P1_ok (h:List (List SV)) (bw ba bt:Nat) (mp:List (Int×Nat)) (mb:List (Int×By)) (L:LayW h bw ba bt mp mb a14A a14T0 a14S2):
 AMut Tryz.prog 33 [.ptr bw 0] h (fun r h'=>r=.pv (I64 (-1))∧∃mb',LayW h' bw ba bt mp mb' a14A a14T0 a14S4∧Ext h h' (DomW bw bt mp mb) (DomW bw bt mp mb')):=by
 have e:shrS a14S2 a14T0.lits=a14S2:=by decide+kernel
 have:=wpropagate_ok h bw ba bt mp mb a14A a14T0 a14S2 L (by decide+kernel) (by decide+kernel) [0,5] a14_sort
  (fun i S T=>(i=0∧S=a14S2∧T=a14T0)∨(i=1∧S=a14S3∧T=a14T0)∨2≤i) (.inl ⟨rfl,e,rfl⟩) (fun q hq=>by simp[a14S2]at hq;rcases hq with rfl|rfl<;>rfl) (by decide+kernel) ?_ ?_ ?_ (fun S T=>S=a14S4∧T=a14T0) ?_ ?_
 ·rw[a14_prp1]at this;exact this
 ·rintro i S T (⟨rfl,rfl,rfl⟩|⟨rfl,rfl,rfl⟩|h2) hi
  ·exact⟨a14_ok.1,by decide+kernel,lk_bound (by simp[a14S2]),⟨[1,2],0,0⟩,by show lk a14S2.prs 0=_;decide+kernel,by decide⟩
  ·exact⟨a14_ok.1,by decide+kernel,lk_bound (by simp[a14S3]),⟨[-1,3],0,0⟩,by show lk a14S3.prs 5=_;decide+kernel,by decide⟩
  ·simp at hi;omega
 ·rintro i S T p (⟨rfl,rfl,rfl⟩|⟨rfl,rfl,rfl⟩|h2) hi hp _
  ·have hp:lk a14S2.prs 0=some p:=hp;rw[show lk a14S2.prs 0=some ⟨[1,2],0,0⟩ by decide+kernel]at hp;cases hp
   exact .inr (.inl ⟨rfl,a14_fre1.2.1,a14_fre1.2.2⟩)
  ·exact .inr (.inr (Nat.le_refl _))
  ·simp at hi;omega
 ·rw[a14_las1];decide+kernel
 ·constructor
  ·rintro S T ⟨rfl,rfl⟩;exact⟨a14_ok.1,by decide+kernel,by decide+kernel,by decide+kernel⟩
  ·rintro S T ⟨rfl,rfl⟩ hlt;exact absurd hlt (by decide+kernel)
  ·rintro S T ⟨rfl,rfl⟩ hlt;exact absurd hlt (by decide+kernel)
  ·rintro S T ⟨rfl,rfl⟩ hlt;exact absurd hlt (by decide+kernel)
 ·intro _;rw[a14_las1];exact⟨rfl,rfl,rfl⟩
theorem aw14P2_ok (h:List (List SV)) (bw ba bt:Nat) (mp:List (Int×Nat)) (mb:List (Int×By)) (L:LayW h bw ba bt mp mb a14A a14T1 a14S4):
 AMut Tryz.prog 33 [.ptr bw 0] h (fun r h'=>r=.pv (I64 (-1))∧∃mb',LayW h' bw ba bt mp mb' a14A a14T3 a14S7∧Ext h h' (DomW bw bt mp mb) (DomW bw bt mp mb')):=by
 have e:shrS a14S4 a14T1.lits=a14S4:=by decide+kernel
 have:=wpropagate_ok h bw ba bt mp mb a14A a14T1 a14S4 L (by decide+kernel) (by decide+kernel) [] (sortZ_of (List.Perm.refl _) List.Pairwise.nil)
  (fun _ _ _=>True) trivial (by simp[a14S4]) (by decide+kernel) (fun _ _ _ _ hi=>absurd hi (Nat.not_lt_zero _)) (fun _ _ _ _ _ hi=>absurd hi (Nat.not_lt_zero _)) ?_ a14J a14_pro ?_
 ·rw[a14_prp2]at this;exact this
 ·rw[a14_las2];decide+kernel
 ·intro _;rw[a14_las2];exact⟨rfl,.inl ⟨rfl,rfl⟩⟩
theorem wpropN_ok:APure Tryz.prog 33 [.lit (.pointer none)] (fun r=>r=.pv (I64 (-1))):=by
 refine apure1 hmo Tryz.func33 (by kernel_rfl) rfl rfl (by kernel_rfl) (Nat.le_of_ble_eq_true rfl) ?_;simp;refine CallK.intro wmadeN_ok (by simp) ?_;simp
theorem wattN_ok (k:Int):APure Tryz.prog 32 [.lit (.pointer none),I64 k] (fun r=>r=.pv (I64 1)):=by
 refine apure1B [8] hmo Tryz.func32 (by kernel_rfl) rfl rfl (by kernel_rfl) (Nat.le_of_ble_eq_true rfl) ?_;simp;refine CallK.intro wmadeN_ok (by simp) ?_;simp
set_option maxRecDepth 16000 in
set_option maxHeartbeats 1000000 in
theorem w14Awake_ok:APure Tryz.prog 7 [] (fun r=>r=.pv (BL true)):=by
 refine apure1B [5,8] hmo Tryz.func7 (by kernel_rfl) rfl rfl (by kernel_rfl) (Nat.le_of_ble_eq_true rfl) ?_;simp;refine CallK.introM (anew_ok _) (by simp) ?_;rintro _ _ ⟨rfl,rfl⟩;simp;refine CallK.introM (tnew_ok _ 3 (by omega)) (by simp) ?_;rintro _ _ ⟨rfl,rfl⟩;simp;have hbA0:([arB ⟨[],[]⟩,trB (newT 3)]:List (List SV))[0]?=some (arB ⟨[],[]⟩):=rfl;have hbA1:([arB a14A1,trB (newT 3)]:List (List SV))[0]?=some (arB a14A1):=rfl;have kp1:=aput_ok _ 0 ⟨[],[]⟩ hbA0 1 [1,2] (by simp) (by simp);have kp2:=aput_ok _ 0 a14A1 hbA1 2 [-1,3] (by simp) (by decide+kernel);obtain⟨q1,q2,q3⟩:=a14_put1;rw[q1]at kp1;rw[q2,q3]at kp2;simp only[List.set_cons_zero]at kp1 kp2;rw[show putAr ⟨[],[]⟩ 1 [1,2]=a14A1 from rfl]at kp1;rw[show putAr a14A1 2 [-1,3]=a14A from rfl]at kp2;refine ASem.to ⟨[(1,.pv (.ptr 0 0)),(2,.pv (.ptr 1 0))],[arB ⟨[],[]⟩,trB (newT 3)]⟩ ?_ (ASem.ops ?_)
 ·refine(Weak.keep (t1:=[(1,.pv (.ptr 0 0)),(2,.pv (.ptr 1 0))]) (by simp) rfl).trans ?_;refine(Weak.nilCell (b:=0) (k:=0) (xs:=arZ) 1 true (by simp) (by simp[arZ])).trans ?_;refine(Weak.nilCell (b:=1) (k:=1) (xs:=[.own true 4 (List.map mkR (newT 3).marks),.pv (.lit (.slice none 0 0)),.pv (.lit (.slice none 0 0)),.pv (BL true)]) 1 true (by simp) (by simp)).trans ?_;refine(Weak.nilCell (b:=1) (k:=2) (xs:=[.own true 4 (List.map mkR (newT 3).marks),.own true 1 [],.pv (.lit (.slice none 0 0)),.pv (BL true)]) 1 true (by simp) (by simp)).trans ?_;refine Weak.le ?_ ?_
  ·simp
  ·simp[arZ,arB,trB,irow,newT,mapE]
 simp;refine CallB.intro (kp1.args (xs:=[.ptr 0 0,I64 1,.seq true 1 (irow [1,2]),BL false]) (by simp[wkPL,wkP])) (by simp) ?_;rintro _ _ ⟨rfl,rfl⟩;simp;refine CallB.intro (kp2.args (xs:=[.ptr 0 0,I64 2,.seq true 1 (irow [-1,3]),BL false]) (by simp[wkPL,wkP])) (by simp) ?_;rintro _ _ ⟨rfl,rfl⟩;simp;refine CallB.intro (wnew_ok _ 0 1) (by simp) ?_;rintro _ _ ⟨rfl,rfl⟩;simp;obtain⟨G,hG⟩:∃G,G=[arB a14A,trB a14T0,wtB 0 1 ⟨[],[],[],0,[]⟩]:=⟨_,rfl⟩;refine ASem.to ⟨[(1,.pv (.ptr 0 0)),(2,.pv (.ptr 1 0)),(4,.pv (I64 0)),(6,.pv (I64 5)),(8,.pv (.ptr 2 0))],G⟩ ?_ (ASem.ops ?_)
 ·refine(Weak.keep (t1:=[(1,.pv (.ptr 0 0)),(2,.pv (.ptr 1 0)),(4,.pv (I64 0)),(6,.pv (I64 5)),(8,.pv (.ptr 2 0))]) (by simp) rfl).trans ?_;refine(Weak.nilCell (b:=2) (k:=6) 1 true (xs:=[.pv (.ptr 0 0),.pv (.ptr 1 0),.omap true [],.omap true [],.omap true [],.pv (I64 0),.pv (.lit (.slice none 0 0))]) (by simp) (by simp)).trans ?_;refine Weak.le ?_ ?_
  ·simp
  ·rw[hG];simp[wtB,irow,mapE,wkCs_refl,a14T0]
 have L0:LayW G 2 0 1 [] [] a14A a14T0 a14S0:=by
  subst hG;exact{w:=rfl,a:=rfl,t:=rfl,wa:=by omega,wt:=by omega,at':=by omega,keys:=rfl,pr:=(fun k b hb=>by cases hb),pinj:=(fun k k' b hb=>by cases hb),by':=(fun l e he=>by cases he),byn:=(fun l _=>rfl),binj:=(fun l l' e e' he=>by cases he),pb:=(fun k b l e hb=>by cases hb)}
 clear hG;have hok:ArOk a14A:=by
  rw[a14_A];intro q hq;have hlk:(lk [((0:Int),(1:Int)),(5,2)] q).isSome=true:=by
   cases hx:lk [((0:Int),(1:Int)),(5,2)] q with
   |some _=>rfl
   |none=>unfold isA at hq;simp[hx]at hq
  have:q=0∨q=5:=by simpa using mem_keys.1 hlk
  rcases this with rfl|rfl
  ·exact⟨0,2,rfl,by simp,rfl⟩
  ·exact⟨5,2,rfl,by simp,rfl⟩
 have hrl:a14A.row.length≤1000000:=by decide+kernel
 have hml:a14T0.marks.length≤1000000:=by decide+kernel
 have htl:a14T0.lits.length≤1000000:=by decide+kernel
 have katt:=fun H mp S (L:LayW H 2 0 1 mp [] a14A a14T0 S) k=>wattach_ok H 2 0 1 mp [] a14A a14T0 S L hok hrl hml htl k;simp;refine CallB.intro (wnewN_ok _ 1) (by simp) ?_;rintro _ h2 ⟨e,rfl⟩;rw[e];clear e h2;simp;have k1:=katt G [] a14S0 L0 0;rw[a14_att1.1,a14_att1.2]at k1;refine CallB.intro k1 (by simp) ?_;rintro _ G1 ⟨rfl,mp1,L1,-⟩;have k2:=katt G1 mp1 a14S1 L1 5;rw[a14_att2.1,a14_att2.2]at k2;simp;refine CallB.intro k2 (by simp) ?_;rintro _ G2 ⟨rfl,mp2,L2,-⟩;have k3:=katt G2 mp2 a14S2 L2 0;rw[a14_att3.1,a14_att3.2]at k3;simp;refine CallB.intro k3 (by simp) ?_;rintro _ G3 ⟨rfl,mp3,L3,-⟩;have k4:=katt G3 mp3 a14S2 L3 99;rw[a14_att4.1,a14_att4.2]at k4;simp;refine CallB.intro k4 (by simp) ?_;rintro _ G4 ⟨rfl,mp4,L4,-⟩;simp;refine CallB.intro (aw14P1_ok G4 2 0 1 mp4 [] L4) (by simp) ?_;rintro _ G5 ⟨rfl,mb5,L5,-⟩;simp;refine CallB.intro (tdecide_ok G5 1 a14T0 L5.t (-2) a14_ok.1 htl (by decide+kernel)) (by simp) ?_;rintro _ G6 ⟨hG6,rfl⟩;have L6:LayW G6 2 0 1 mp4 mb5 a14A a14T1 a14S4:=by rw[hG6];exact L5.setT a14T1
 clear hG6; simp; refine CallB.intro (aw14P2_ok G6 2 0 1 mp4 mb5 L6) (by simp) ?_; rintro _ G7 ⟨rfl, mb7, L7, -⟩; have hz7 := frz_tr0 L7.t 2; have kL := tlits_ok a14T3 (by decide +kernel); rw [a14_lits.2.2.2] at kL; simp [hz7]; refine CallB.introP kL (by simp) (by simp) ?_; have kD := wdetach_ok G7 2 0 1 mp4 mb7 a14A a14T3 a14S7 L7 (by decide +kernel) 0 (fun p hp => by
  rw[show lk a14S7.prs 0=some ⟨[1,2],0,0⟩ by decide+kernel]at hp;cases hp
  exact⟨fun e=>absurd rfl e,fun e=>absurd rfl e⟩) (lk_bound (by simp[a14S7,a14S6]))
 rw[a14_det.1]at kD;simp;refine CallB.intro kD (by simp) ?_;rintro _ G8 ⟨rfl,mp8,mb8,L8,-⟩;have hkeys:mp8.map (·.1)=[5]:=by rw[L8.keys,a14_det.2]
 have kA := wattached_ok G8 2 0 1 _ L8.w (fun q hq => by
  have:q.1∈mp8.map (·.1):=List.mem_map.2 ⟨q,hq,rfl⟩;rw[hkeys]at this;simp at this;rw[this];rfl) (by have:=congrArg List.length hkeys;simp at this;show mp8.length≤_;omega)
 rw[show sortZ ((Wt.prs ⟨mp8,mb8,(detS a14S7 0).late,(detS a14S7 0).head,(detS a14S7 0).seen⟩).map (·.1))=[5]from by show sortZ (mp8.map (·.1))=[5];rw[hkeys];exact sortZ_of (List.Perm.refl _) (by simp)]at kA;have hz8:=frz_tr0 L8.t 2;have kr1:=treason_ok a14T3 1 a14_ok.2.2.2;have kr3:=treason_ok a14T3 3 a14_ok.2.2.2;rw[show(ofT a14T3 1).1.rea=0 by decide+kernel]at kr1;rw[show(ofT a14T3 3).1.rea=5 by decide+kernel]at kr3;have ks1:=sameInts_ok [-2,1,3] [-2,1,3] (by simp);have ks2:=sameInts_ok [5] [5] (by simp);simp;refine CallG.intro (fun _=>ks1) (by simp) ?_;simp[hz8];refine CallB.introP kr1 (by simp) (by simp) ?_;simp[hz8];refine CallB.introP kr3 (by simp) (by simp) ?_;simp;refine CallB.intro kA (by simp) ?_;rintro _ h2 ⟨e,rfl⟩;rw[e];clear e h2;simp;refine CallG.intro (fun _=>ks2) (by simp) ?_;simp;refine CallG.intro (fun _=>wpropN_ok) (by simp) ?_;simp;refine CallG.intro (fun _=>wattN_ok 1) (by simp) ?_;simp
def few14 (cs:List (List Int)) (l:List (Int×Int)):Bool:=few8 cs []&&decide (cs.length≤30)&&decide (l.length≤60)
theorem few14_few {cs:List (List Int)} {l:List (Int×Int)} (h:few14 cs l=true):fewC cs∧cs.length≤30∧l.length≤60:=by
 unfold few14 few8 few4 at h;simp only[Bool.and_eq_true,decide_eq_true_eq,List.all_eq_true]at h;exact⟨⟨by omega,fun x hx=>by have:=h.1.1.1.1.2 x hx;omega⟩,by omega,by omega⟩
def actR (x:Int×Int):List PV:=[I64 x.1,I64 x.2]
@[simp] theorem frzR_actR (r:Nat→Nat→PV) (l:List (Int×Int)):frzR r (l.map actR)=l.map actR:=by
 induction l with
 |nil=>rfl
 |cons x xs ih=>simp only[List.map_cons,frzR,ih];rfl
theorem begW_lay (x y:List SV) (cs:List (List Int)):LayD [x,arB (begW cs).A,y,trB (begW cs).T,wtB 1 3 ⟨[],[],[],0,[]⟩,dwB 1 3 4 (begW cs)] 5 1 3 4 [] [] (begW cs)where
 lay:={w:=rfl,a:=rfl,t:=rfl,wa:=by omega,wt:=by omega,at':=by omega,keys:=rfl,pr:=(fun k b hb=>by cases hb),pinj:=(fun k k' b hb=>by cases hb),by':=(fun l e he=>by cases he),byn:=(fun l _=>rfl),binj:=(fun l l' e e' he=>by cases he),pb:=(fun k b l e hb=>by cases hb)}
 d:=rfl
 nd:=fun hd=>by
  rcases hd with h|h|⟨_,h⟩|⟨_,_,h,_⟩
  ·cases h
  ·cases h
  ·cases h
  ·cases h
 na:=by omega
structure SmallD (D:DW):Prop where
  row:D.A.row.length≤1000000
  marks:D.T.marks.length≤1000000
  lits:D.T.lits.length≤1000000
  rows:D.a.rows.length≤1000000
  len:∀x∈D.a.rows,x.lits.length≤1000000
  ats:D.ats.length≤1000000
theorem begW_small {cs:List (List Int)} (hc:fewC cs):SmallD (begW cs):=by
 have hok:=putL_ok hc cs.length (Nat.le_refl _);obtain⟨e1,e2⟩:=putJ_L cs cs.length;have hl:=hok.len;have hr:=hok.rlen;have h5:=hc.1;have hrow:(putJ cs cs.length).A.row.length≤1000000:=by rw[e1];omega
 have hrel:=putJ_relP hc cs.length (Nat.le_refl _);refine⟨hrow,by show(newT 6).marks.length≤_;decide,by show(newT 6).lits.length≤_;decide,by show(putJ cs cs.length).a.rows.length≤_;rw[e2];omega,fun x hx=>?_,by show(putJ cs cs.length).ats.length≤_;have:=putJ_len cs cs.length;omega⟩;obtain⟨p,_,h2,_⟩:=hrel.rows x hx;have:=h2.len;omega
theorem insW_len (l:List Int) (k:Int):(insW l k).length=l.length+1:=by rw[insW_is];exact(insR_perm k l).length_eq
theorem rattL_len (a:RA) (v:Int) (l:List Int) (k:Int):(rattL a v l k).length≤l.length+1:=by
 unfold rattL;split
 ·rw[insW_len];exact Nat.le_refl _
 ·omega
theorem rdetL_len (l:List Int) (k:Int):(rdetL l k).length≤l.length+1:=by
 unfold rdetL;split
 ·have:=remW_len l k;omega
 ·omega
theorem LayD.att {h:List (List SV)} {bd ba bt bw:Nat} {mp:List (Int×Nat)} {mb:List (Int×By)} {D:DW} (L:LayD h bd ba bt bw mp mb D) (hP:PlayOk D) (hw:∀k∈D.on,wfI k) (hl:D.on.length≤1000000):
 AMut Tryz.prog 11 [.ptr bw 0] h (fun r h'=>h'=h∧r=.pv (.seq true 1 (irow D.on))):=by
 have hk:mp.map (·.1)=D.S.prs.map (·.1):=L.lay.keys;have hp:(mp.map (·.1)).Perm D.on:=by
  rw[hk,←hP.on];unfold sortZ;exact(List.mergeSort_perm _ _).symm
 have:=wattached_ok h bw ba bt _ L.lay.w (fun q hq=>hw _ (hp.mem_iff.1 (List.mem_map.2 ⟨q,hq,rfl⟩))) (by have:=hp.length_eq;simp at this;show mp.length≤_;omega);rw[show sortZ ((Wt.prs ⟨mp,mb,D.S.late,D.S.head,D.S.seen⟩).map (·.1))=D.on from by show sortZ (mp.map (·.1))=_;rw[hk];exact hP.on]at this;exact this
theorem LayD.app {h:List (List SV)} {bd ba bt bw:Nat} {mp:List (Int×Nat)} {mb:List (Int×By)} {D:DW} (L:LayD h bd ba bt bw mp mb D) (g:List (List SV)):LayD (h++g) bd ba bt bw mp mb D:=
 ⟨L.lay.app g,by rw[List.getElem?_append_left (List.getElem?_eq_some_iff.1 L.d).1,L.d],L.nd,L.na⟩
end Go.AX