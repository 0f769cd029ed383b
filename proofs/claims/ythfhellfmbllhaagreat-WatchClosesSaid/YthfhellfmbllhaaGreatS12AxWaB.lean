/-
  Contracts: watches: what they hold; made, look, shrunk.
  Watches: how they lie in memory, told as plain data.
-/
import Derived.Test.YthfhellfmbllhaaGreatS12AxTtA
import Derived.Test.YthfhellfmbllhaaGreatS12AxArA
import Derived.Test.YthfhellfmbllhaaGreatAxAs
namespace Go.AX
open Go.Proofs
set_option linter.unusedSimpArgs false
structure By where
  b:Nat
  n:Nat
  cp:Nat
def byV (x:By):PV:=.bsl x.b 1 0 x.n x.cp
def prV (b:Nat):PV:=.ptr b 0
structure Wt where
  prs:List (Int×Nat)
  byl:List (Int×By)
  late:List (Int×Int)
  head:Int
  seen:List Int
def wtB (ba bt:Nat) (W:Wt):List SV:=[.pv (.ptr ba 0),.pv (.ptr bt 0),.omap true (mapE prV W.prs),.omap true (mapE byV W.byl),.omap true (mapE fI W.late),.pv (I64 W.head),.own true 1 (irow W.seen)]
def pairB (lits:List Int) (x y:Int):List SV:=[.pv (.seq false 1 (irow lits)),.pv (I64 x),.pv (I64 y)]
theorem wmade_ok (h:List (List SV)) (b ba bt:Nat) (W:Wt) (hb:h[b]?=some (wtB ba bt W)):AMut Tryz.prog 44 [.ptr b 0] h (fun r h'=>h'=h∧r=.pv (BL true)):=by
 refine amutXP [] [.tmp 2] hmo Tryz.func44 (by kernel_rfl) rfl rfl (by kernel_rfl) (Nat.le_of_ble_eq_true rfl) ?_;obtain⟨hlt,hb'⟩:=List.getElem?_eq_some_iff.1 hb;simp[hb',hlt,wtB]
theorem wmadeN_ok:APure Tryz.prog 44 [.lit (.pointer none)] (fun r=>r=.pv (BL false)):=by
 refine apure1 hmo Tryz.func44 (by kernel_rfl) rfl rfl (by kernel_rfl) (Nat.le_of_ble_eq_true rfl) ?_;simp
def opn14 (T:Tr) (lits:List Int):List Int:=lits.filter fun l=>decide (valT T l=1)||decide (valT T l=0)
def hld14 (T:Tr) (lits:List Int):Bool:=lits.any fun l=>decide (valT T l=1)
theorem opn14_take (T:Tr) (lits:List Int) {i:Nat} (h:i<lits.length):opn14 T (lits.take (i+1))=if valT T lits[i]=1∨valT T lits[i]=0 then opn14 T (lits.take i)++[lits[i]]else opn14 T (lits.take i):=by
 unfold opn14;rw[List.take_add_one,List.getElem?_eq_getElem h,Option.toList_some,List.filter_append,List.filter_cons,List.filter_nil]
 by_cases c:valT T lits[i]=1∨valT T lits[i]=0
 ·rw[if_pos c,if_pos (by simpa using c)]
 ·rw[if_neg c,if_neg (by simpa using c),List.append_nil]
theorem hld14_take (T:Tr) (lits:List Int) {i:Nat} (h:i<lits.length):hld14 T (lits.take (i+1))=(hld14 T (lits.take i)||decide (valT T lits[i]=1)):=by
 unfold hld14;rw[List.take_add_one,List.getElem?_eq_getElem h,Option.toList_some,List.any_append];simp
theorem opn14_len (T:Tr) (lits:List Int):(opn14 T lits).length≤lits.length:=List.length_filter_le _ _
set_option maxRecDepth 16000 in
theorem wlook_ok (h:List (List SV)) (bw ba bt bp:Nat) (W:Wt) (T:Tr) (lits:List Int) (x y:Int) (hw:h[bw]?=some (wtB ba bt W)) (ht:h[bt]?=some (trB T)) (hp:h[bp]?=some (pairB lits x y)) (hT:T.ok) (hl:lits.length≤1000000):
 AMut Tryz.prog 169 [.ptr bw 0,.ptr bp 0] h (fun r h'=>h'=h∧r=.pv (.agg [BL (hld14 T lits),.seq true 1 (irow (opn14 T lits))])):=by
 refine amutXW [] [.cell 4 _] hmo Tryz.func169 (by kernel_rfl) rfl rfl (by kernel_rfl) (Nat.le_of_ble_eq_true rfl) ?_;obtain⟨w1,w2⟩:=List.getElem?_eq_some_iff.1 hw;obtain⟨p1,p2⟩:=List.getElem?_eq_some_iff.1 hp;obtain⟨G,hG⟩:∃G:SV→SV→List (List SV),∀u v,G u v=h++[[.pv (BL false),.pv (.lit (.slice none 0 0))],[u,v]]:=⟨_,fun _ _=>rfl⟩;have gw?:∀u v,(G u v)[bw]?=some (wtB ba bt W):=fun u v=>by rw[hG,List.getElem?_append_left w1,hw]
 have gp?:∀u v,(G u v)[bp]?=some (pairB lits x y):=fun u v=>by rw[hG,List.getElem?_append_left p1,hp]
 have gt?:∀u v,(G u v)[bt]?=some (trB T):=fun u v=>by rw[hG,List.getElem?_append_left (List.getElem?_eq_some_iff.1 ht).1,ht]
 have gf?:∀u v,(G u v)[h.length+1]?=some [u,v]:=fun u v=>by rw[hG];simp
 have gw1:∀u v,bw<(G u v).length:=fun u v=>(List.getElem?_eq_some_iff.1 (gw? u v)).1;have gw2:∀u v,(G u v)[bw]'(gw1 u v)=wtB ba bt W:=fun u v=>(List.getElem?_eq_some_iff.1 (gw? u v)).2;have gp1:∀u v,bp<(G u v).length:=fun u v=>(List.getElem?_eq_some_iff.1 (gp? u v)).1;have gp2:∀u v,(G u v)[bp]'(gp1 u v)=pairB lits x y:=fun u v=>(List.getElem?_eq_some_iff.1 (gp? u v)).2;have gf1:∀u v,h.length+1<(G u v).length:=fun u v=>(List.getElem?_eq_some_iff.1 (gf? u v)).1;have gf2:∀u v,(G u v)[h.length+1]'(gf1 u v)=[u,v]:=fun u v=>(List.getElem?_eq_some_iff.1 (gf? u v)).2;have gz:∀u v n,frzP (G u v) (n+1) bt 0=trP T:=fun u v n=>frz_tr0 (gt? u v) n;have gs:∀u v u' v',(G u v).set (h.length+1) [u',v']=G u' v':=fun u v u' v'=>by rw[hG,hG];simp
 have hv:=fun l=>tvalue_ok T l hT;simp;rw[←hG];simp[gw1,gw2,wtB,gp1,gp2,pairB,gz];obtain⟨H,hH⟩:∃H:Nat→List (List SV),∀i,H i=G (.pv (BL (hld14 T (lits.take i)))) (.own true 1 (irow (opn14 T (lits.take i)))):=⟨_,fun _=>rfl⟩;have h1:∀i,h.length+1<(H i).length:=fun i=>by rw[hH];exact gf1 _ _
 have h2:∀i,(H i)[h.length+1]'(h1 i)=[.pv (BL (hld14 T (lits.take i))),.own true 1 (irow (opn14 T (lits.take i)))]:=fun i=>by simp only[hH];exact gf2 _ _
 have hz:∀i n,frzP (H i) (n+1) bt 0=trP T:=fun i n=>by rw[hH];exact gz _ _ n
 have hs:∀i u v,(H i).set (h.length+1) [u,v]=G u v:=fun i u v=>by rw[hH];exact gs _ _ _ _
 refine ALoop.intro (S:=fun(i:Nat)=>⟨[(4,.pv (.ptr h.length 0)),(5,.pv (.ptr (h.length+1) 0)),(6,.pv (.fn (.func 138) [.ptr bt 0] [])),(17,.pv (.seq false 1 (irow lits))),(18,.pv (I64 lits.length)),(19,.pv (I64 i))],H i⟩) (fun i=>i≤lits.length) (fun i=>lits.length -i) 0 ?_ (Nat.zero_le _) ?_
 ·refine(Weak.nilCell (b:=h.length+1) (k:=1) (xs:=[.pv (BL false),.pv (.lit (.slice none 0 0))]) 1 true (by simp;exact gf? _ _) (by simp)).trans (Weak.keep (by simp) ?_);simp[hH,gs,hld14,opn14,irow]
 intro i hi
 by_cases d:i<lits.length
 ·have hw':w64 ((i:Int)+1)=((i+1:Nat):Int):=by rw[w64_id (by omega) (by omega)];omega
  have hq:lits[i]?=some lits[i]:=List.getElem?_eq_getElem d;have ho:=opn14_take T lits d;have hh:=hld14_take T lits d;have hol:(opn14 T (lits.take i)).length≤i:=Nat.le_trans (opn14_len _ _) (by rw[List.length_take];omega);simp[d,hq,hz];refine CallB.introP (hv lits[i]) (by simp) (by simp) ?_
  by_cases v1:valT T lits[i]=1
  ·rw[if_pos (.inl v1)]at ho;rw[decide_eq_true v1,Bool.or_true]at hh;simp[v1,h1,h2,hs,gf1,gf2,gs];refine⟨by omega,i+1,by(try dsimp only);omega,by(try dsimp only);omega,Weak.keep (by simp[hw']) ?_⟩;simp[hH,gs,ho,hh,irow]
  ·rw[decide_eq_false v1,Bool.or_false]at hh
   by_cases v0:valT T lits[i]=0
   ·rw[if_pos (.inr v0)]at ho;simp[v0,h1,h2,hs,gf1,gf2,gs];refine⟨by omega,i+1,by(try dsimp only);omega,by(try dsimp only);omega,Weak.keep (by simp[hw']) ?_⟩;simp[hH,gs,ho,hh,irow]
   ·rw[if_neg (fun h=>h.elim v1 v0)]at ho;simp[v0,v1];refine⟨i+1,by(try dsimp only);omega,by(try dsimp only);omega,Weak.keep (by simp[hw']) ?_⟩;simp[hH,gs,ho,hh,irow]
 ·have:i=lits.length:=by omega
  subst this;simp only[hH,hG];simp[wkP,wkPL,frzC]
def preN:List Int→List Int→Nat
 |x::a,y::b=>if x=y then preN a b+1 else 0
 |_,_=>0
def shrW (W:Wt) (now:List Int):Wt:=⟨W.prs,W.byl,W.late,if(preN W.seen now:Int)<W.head then(preN W.seen now:Int)else W.head,W.seen⟩
set_option maxRecDepth 16000 in
theorem wshrunk_ok (h:List (List SV)) (bw ba bt:Nat) (W:Wt) (now:List Int) (hw:h[bw]?=some (wtB ba bt W)) (hl:now.length≤1000000) (hs:W.seen.length≤1000000):
 AMut Tryz.prog 88 [.ptr bw 0,.seq false 1 (irow now)] h (fun r h'=>h'=h.set bw (wtB ba bt (shrW W now))∧r=.pv (.tup [])):=by
 refine amutX [] [] hmo Tryz.func88 (by kernel_rfl) rfl rfl (by kernel_rfl) (Nat.le_of_ble_eq_true rfl) ?_;obtain⟨w1,w2⟩:=List.getElem?_eq_some_iff.1 hw;have hP:preN W.seen now=0+preN (W.seen.drop 0) (now.drop 0):=by simp
 unfold shrW;generalize preN W.seen now=P at*;simp;refine ALoop.intro (S:=fun(k:Nat)=>⟨[(0,.pv (.ptr bw 0)),(1,.pv (.seq false 1 (irow now))),(4,.pv (I64 k))],h⟩) (fun k=>k≤W.seen.length∧k≤now.length∧P=k+preN (W.seen.drop k) (now.drop k)) (fun k=>W.seen.length -k) 0 ?_ ⟨Nat.zero_le _,Nat.zero_le _,hP⟩ ?_
 ·exact Weak.keep (by simp) rfl
 rintro k ⟨k1,k2,hk⟩;have hw':w64 ((k:Int)+1)=((k+1:Nat):Int):=by rw[w64_id (by omega) (by omega)];omega
 by_cases d1:k<W.seen.length
 ·have q1:W.seen[k]?=some W.seen[k]:=List.getElem?_eq_getElem d1
  by_cases d2:k<now.length
  ·have q2:now[k]?=some now[k]:=List.getElem?_eq_getElem d2;rw[List.drop_eq_getElem_cons d1,List.drop_eq_getElem_cons d2,preN]at hk
   by_cases e:W.seen[k]=now[k]
   ·rw[if_pos e]at hk;simp[w1,w2,wtB,d1,d2,q1,q2,e];exact⟨k+1,by(try dsimp only);omega,⟨by(try dsimp only);omega,by(try dsimp only);omega,by(try dsimp only);omega⟩,Weak.keep (by simp[hw']) rfl⟩
   ·rw[if_neg e]at hk;have:P=k:=by omega
    subst this;simp[w1,w2,wtB,d1,d2,q1,q2,e]
  ·have:P=k:=by rw[List.drop_eq_nil_of_le (show now.length≤k by omega)]at hk;cases hd:W.seen.drop k<;>rw[hd]at hk<;>simpa[preN]using hk
   subst this;simp[w1,w2,wtB,d1,d2,q1]
 ·have:P=k:=by rw[List.drop_eq_nil_of_le (show W.seen.length≤k by omega)]at hk;simpa[preN]using hk
  subst this;simp[w1,w2,wtB,d1]
structure Pr where
  lits:List Int
  x:Int
  y:Int
structure WS where
  prs:List (Int×Pr)
  byl:List (Int×List Int)
  late:List (Int×Int)
  head:Int
  seen:List Int
def prB (p:Pr):List SV:=pairB p.lits p.x p.y
def ByOk (h:List (List SV)) (e:By) (zs:List Int):Prop:=∃sp,h[e.b]?=some (icells zs++sp)∧(∀k,belowC k sp)∧zs.length=e.n∧e.n≤e.cp∧e.cp≤e.n+sp.length
structure LayW (h:List (List SV)) (bw ba bt:Nat) (mp:List (Int×Nat)) (mb:List (Int×By)) (A:Ar) (T:Tr) (S:WS):Prop where
  w:h[bw]?=some (wtB ba bt ⟨mp,mb,S.late,S.head,S.seen⟩)
  a:h[ba]?=some (arB A)
  t:h[bt]?=some (trB T)
  wa:bw≠ba
  wt:bw≠bt
  at':ba≠bt
  keys:mp.map (·.1)=S.prs.map (·.1)
  pr:∀k b,lk mp k=some b→∃p,lk S.prs k=some p∧h[b]?=some (prB p)∧b≠bw∧b≠ba∧b≠bt
  pinj:∀k k' b,lk mp k=some b→lk mp k'=some b→k=k'
  by':∀l e,lk mb l=some e→∃zs,lk S.byl l=some zs∧ByOk h e zs∧e.b≠bw∧e.b≠ba∧e.b≠bt
  byn:∀l,lk mb l=none→lk S.byl l=none
  binj:∀l l' e e',lk mb l=some e→lk mb l'=some e'→e.b=e'.b→l=l'
  pb:∀k b l e,lk mp k=some b→lk mb l=some e→b≠e.b
def DomW (bw bt:Nat) (mp:List (Int×Nat)) (mb:List (Int×By)) (b:Nat):Prop:=b=bw∨b=bt∨(∃k,lk mp k=some b)∨∃l e,lk mb l=some e∧e.b=b
structure Ext (h h':List (List SV)) (D D':Nat→Prop):Prop where
  len:h.length≤h'.length
  same:∀b,b<h.length→¬D b→h'[b]?=h[b]?
  sub:∀b,b<h.length→D' b→D b
theorem Ext.refl (h:List (List SV)) (D:Nat→Prop):Ext h h D D:=⟨Nat.le_refl _,fun _ _ _=>rfl,fun _ _ h=>h⟩
theorem Ext.trans {h1 h2 h3:List (List SV)} {D1 D2 D3:Nat→Prop} (a:Ext h1 h2 D1 D2) (b:Ext h2 h3 D2 D3):Ext h1 h3 D1 D3:=
 ⟨Nat.le_trans a.len b.len,fun k hk hn=>by rw[b.same k (Nat.lt_of_lt_of_le hk a.len) fun hd=>hn (a.sub k hk hd),a.same k hk hn],fun k hk hd=>a.sub k hk (b.sub k (Nat.lt_of_lt_of_le hk a.len) hd)⟩
theorem Ext.app (h g:List (List SV)) (D:Nat→Prop):Ext h (h++g) D D:=
 ⟨by simp,fun b hb _=>List.getElem?_append_left hb,fun _ _ h=>h⟩
theorem Ext.set {h:List (List SV)} {D:Nat→Prop} (b:Nat) (x:List SV) (hd:D b):Ext h (h.set b x) D D:=
 ⟨by simp,fun k hk hn=>List.getElem?_set_ne (fun e:b=k=>hn (e▸hd)),fun _ _ h=>h⟩
theorem Ext.dom {h h':List (List SV)} {D D' D2:Nat→Prop} (a:Ext h h' D D') (hs:∀b,b<h.length→D2 b→D b):Ext h h' D D2:=⟨a.len,a.same,hs⟩
section
variable {h : List (List SV)} {bw ba bt : Nat} {mp : List (Int × Nat)} {mb : List (Int × By)} {A : Ar} {T : Tr} {S : WS}
theorem LayW.some_p (L:LayW h bw ba bt mp mb A T S) {k:Int} {p:Pr} (hp:lk S.prs k=some p):∃b,lk mp k=some b∧h[b]?=some (prB p)∧b≠bw∧b≠ba∧b≠bt:=by
 have:∀(a:List (Int×Nat)) (c:List (Int×Pr)),a.map (·.1)=c.map (·.1)→(lk c k).isSome=true→(lk a k).isSome=true:=by
  intro a
  induction a with
  |nil=>intro c h1 h2;cases c with|nil=>exact h2|cons _ _=>simp at h1
  |cons u a ih=>
   intro c h1 h2;cases c with
   |nil=>simp at h1
   |cons w c=>
    simp only[List.map_cons,List.cons.injEq]at h1;rw[lk]at h2⊢;rw[h1.1];split
    ·rfl
    ·rename_i hn;rw[if_neg hn]at h2;exact ih c h1.2 h2
 obtain⟨b,hb⟩:=Option.isSome_iff_exists.1 (this mp S.prs L.keys (by rw[hp];rfl));obtain⟨p',h1,h2⟩:=L.pr k b hb;rw[hp]at h1;cases h1
 exact⟨b,hb,h2⟩
theorem LayW.some_b (L:LayW h bw ba bt mp mb A T S) {l:Int} {zs:List Int} (hz:lk S.byl l=some zs):∃e,lk mb l=some e∧ByOk h e zs∧e.b≠bw∧e.b≠ba∧e.b≠bt:=by
 cases hm:lk mb l with
 |none=>rw[L.byn l hm]at hz;cases hz
 |some e=>
  obtain⟨zs',h1,h2⟩:=L.by' l e hm
  rw[hz]at h1;cases h1
  exact⟨e,rfl,h2⟩
theorem LayW.app (L:LayW h bw ba bt mp mb A T S) (g:List (List SV)):LayW (h++g) bw ba bt mp mb A T S:=by
  have up:∀{b:Nat} {x:List SV},h[b]?=some x→(h++g)[b]?=some x:=fun hx=>by rw[List.getElem?_append_left (List.getElem?_eq_some_iff.1 hx).1,hx]
  exact { w := up L.w, a := up L.a, t := up L.t, wa := L.wa, wt := L.wt, at' := L.at', keys := L.keys, pinj := L.pinj, byn := L.byn, binj := L.binj, pb := L.pb
          pr:=fun k b hb=>by obtain⟨p,h1,h2,h3⟩:=L.pr k b hb;exact⟨p,h1,up h2,h3⟩
          by':=fun l e he=>by
            obtain⟨zs,h1,⟨sp,h2,h3⟩,h4⟩:=L.by' l e he
            exact⟨zs,h1,⟨sp,up h2,h3⟩,h4⟩}
theorem LayW.setW (L:LayW h bw ba bt mp mb A T S) (late:List (Int×Int)) (head:Int) (seen:List Int):LayW (h.set bw (wtB ba bt ⟨mp,mb,late,head,seen⟩)) bw ba bt mp mb A T ⟨S.prs,S.byl,late,head,seen⟩:=by
  have hl:=(List.getElem?_eq_some_iff.1 L.w).1
  have up:∀{b:Nat} {x:List SV},b≠bw→h[b]?=some x→(h.set bw (wtB ba bt ⟨mp,mb,late,head,seen⟩))[b]?=some x:=fun hn hx=>by rw[List.getElem?_set_ne (fun e=>hn e.symm),hx]
  exact { w := List.getElem?_set_self hl, a := up L.wa.symm L.a, t := up L.wt.symm L.t, wa := L.wa, wt := L.wt, at' := L.at', keys := L.keys, pinj := L.pinj, byn := L.byn, binj := L.binj, pb := L.pb
          pr:=fun k b hb=>by obtain⟨p,h1,h2,h3⟩:=L.pr k b hb;exact⟨p,h1,up h3.1 h2,h3⟩
          by':=fun l e he=>by
            obtain⟨zs,h1,⟨sp,h2,h3⟩,h4⟩:=L.by' l e he
            exact⟨zs,h1,⟨sp,up h4.1 h2,h3⟩,h4⟩}
theorem LayW.setT (L:LayW h bw ba bt mp mb A T S) (T':Tr):LayW (h.set bt (trB T')) bw ba bt mp mb A T' S:=by
  have hl:=(List.getElem?_eq_some_iff.1 L.t).1
  have up:∀{b:Nat} {x:List SV},b≠bt→h[b]?=some x→(h.set bt (trB T'))[b]?=some x:=fun hn hx=>by rw[List.getElem?_set_ne (fun e=>hn e.symm),hx]
  exact { w := up L.wt L.w, a := up L.at' L.a, t := List.getElem?_set_self hl, wa := L.wa, wt := L.wt, at' := L.at', keys := L.keys, pinj := L.pinj, byn := L.byn, binj := L.binj, pb := L.pb
          pr:=fun k b hb=>by obtain⟨p,h1,h2,h3⟩:=L.pr k b hb;exact⟨p,h1,up h3.2.2 h2,h3⟩
          by':=fun l e he=>by
            obtain⟨zs,h1,⟨sp,h2,h3⟩,h4⟩:=L.by' l e he
            exact⟨zs,h1,⟨sp,up h4.2.2 h2,h3⟩,h4⟩}
theorem pt_keysW {α β:Type}:∀(a:List (Int×α)) (c:List (Int×β)) (k:Int) (x:α) (y:β),a.map (·.1)=c.map (·.1)→(pt a k x).map (·.1)=(pt c k y).map (·.1)
 |[],[],_,_,_,_=>rfl
 |[],_::_,_,_,_,h=>by simp at h
 |_::_,[],_,_,_,h=>by simp at h
 |u::a,w::c,k,x,y,h=>by
  obtain⟨u1,u2⟩:=u;obtain⟨w1,w2⟩:=w;simp only[List.map_cons,List.cons.injEq]at h;obtain⟨h1,h2⟩:=h;subst h1;rw[pt,pt];split
  ·simp[h2]
  ·simp only[List.map_cons];rw[pt_keysW a c k x y h2]
theorem LayW.setP (L:LayW h bw ba bt mp mb A T S) {k:Int} {b:Nat} (hb:lk mp k=some b) (p:Pr) (hkeep:mp.map (·.1)=(pt S.prs k p).map (·.1)):LayW (h.set b (prB p)) bw ba bt mp mb A T ⟨pt S.prs k p,S.byl,S.late,S.head,S.seen⟩:=by
  obtain⟨p0,q1,q2,q3,q4,q5⟩:=L.pr k b hb
  have hl:=(List.getElem?_eq_some_iff.1 q2).1
  have up:∀{c:Nat} {x:List SV},c≠b→h[c]?=some x→(h.set b (prB p))[c]?=some x:=fun hn hx=>by rw[List.getElem?_set_ne (fun e=>hn e.symm),hx]
  exact { w := up q3.symm L.w, a := up q4.symm L.a, t := up q5.symm L.t, wa := L.wa, wt := L.wt, at' := L.at', keys := hkeep, pinj := L.pinj, byn := L.byn, binj := L.binj, pb := L.pb
          pr:=fun k' b' hb'=>by
            obtain⟨p1,h1,h2,h3⟩:=L.pr k' b' hb'
            show∃p_1,lk (pt S.prs k p) k'=some p_1∧_
            rw[lk_pt]
            by_cases e:k=k'
            · subst e
              rw[hb]at hb'
              cases hb'
              exact⟨p,if_pos rfl,List.getElem?_set_self hl,h3⟩
            · exact⟨p1,by rw[if_neg e];exact h1,up (fun e2=>e (L.pinj k k' b hb (e2▸hb'))) h2,h3⟩
          by':=fun l e he=>by
            obtain⟨zs,h1,⟨sp,h2,h3⟩,h4⟩:=L.by' l e he
            exact⟨zs,h1,⟨sp,up (L.pb k b l e hb he).symm h2,h3⟩,h4⟩}
theorem LayW.setB (L:LayW h bw ba bt mp mb A T S) {l:Int} {e:By} (he:lk mb l=some e) (zs:List Int) (sp:List SV) (hsp:∀k,belowC k sp) (n:Nat) (hn:zs.length=n) (h1:n≤e.cp) (h2:e.cp≤n+sp.length):
    LayW ((h.set e.b (icells zs++sp)).set bw (wtB ba bt ⟨mp,pt mb l ⟨e.b,n,e.cp⟩,S.late,S.head,S.seen⟩)) bw ba bt mp (pt mb l ⟨e.b,n,e.cp⟩) A T ⟨S.prs,pt S.byl l zs,S.late,S.head,S.seen⟩:=by
  obtain⟨z0,q1,⟨sp0,q2,_⟩,q3,q4,q5⟩:=L.by' l e he
  have hl:=(List.getElem?_eq_some_iff.1 q2).1
  have hwl:=(List.getElem?_eq_some_iff.1 L.w).1
  have up:∀{c:Nat} {x:List SV},c≠bw→c≠e.b→h[c]?=some x→((h.set e.b (icells zs++sp)).set bw (wtB ba bt ⟨mp,pt mb l ⟨e.b,n,e.cp⟩,S.late,S.head,S.seen⟩))[c]?=some x:=fun n1 n2 hx=>by
    rw[List.getElem?_set_ne (fun e=>n1 e.symm),List.getElem?_set_ne (fun e=>n2 e.symm),hx]
  have self:((h.set e.b (icells zs++sp)).set bw (wtB ba bt ⟨mp,pt mb l ⟨e.b,n,e.cp⟩,S.late,S.head,S.seen⟩))[e.b]?=some (icells zs++sp):=by
    rw[List.getElem?_set_ne (fun e=>q3 e.symm),List.getElem?_set_self hl]
  exact { w := List.getElem?_set_self (by simpa using hwl), a := up L.wa.symm q4.symm L.a, t := up L.wt.symm q5.symm L.t, wa := L.wa, wt := L.wt, at' := L.at', keys := L.keys, pinj := L.pinj
          pr:=fun k b hb=>by obtain⟨p,a1,a2,a3⟩:=L.pr k b hb;exact⟨p,a1,up a3.1 (L.pb k b l e hb he) a2,a3⟩
          by':=fun l' e' he'=>by
            rw[lk_pt]at he'
            show∃zs_1,lk (pt S.byl l zs) l'=some zs_1∧_
            rw[lk_pt]
            by_cases c:l=l'
            · rw[if_pos c]at he'
              cases he'
              exact⟨zs,if_pos c,⟨sp,self,hsp,hn,h1,h2⟩,q3,q4,q5⟩
            · rw[if_neg c]at he'
              obtain⟨z1,a1,⟨sp1,a2,a3⟩,a4⟩:=L.by' l' e' he'
              exact⟨z1,by rw[if_neg c];exact a1,⟨sp1,up a4.1 (fun e2=>c (L.binj l' l e' e he' he e2).symm) a2,a3⟩,a4⟩
          byn:=fun l' hn'=>by
            rw[lk_pt]at hn'
            show lk (pt S.byl l zs) l'=none
            rw[lk_pt]
            by_cases c:l=l'
            · rw[if_pos c]at hn';cases hn'
            · rw[if_neg c]at hn'⊢;exact L.byn l' hn'
          binj:=fun l1 l2 e1 e2 h1' h2' hb=>by
            rw[lk_pt]at h1' h2'
            by_cases c1:l=l1
            · by_cases c2:l=l2
              · exact c1.symm.trans c2
              · rw[if_pos c1]at h1';rw[if_neg c2]at h2';cases h1'
                exact absurd (L.binj l l2 e e2 he h2' hb) c2
            · rw[if_neg c1]at h1'
              by_cases c2:l=l2
              · rw[if_pos c2]at h2';cases h2'
                exact absurd (L.binj l1 l e1 e h1' he hb).symm c1
              · rw[if_neg c2]at h2'
                exact L.binj l1 l2 e1 e2 h1' h2' hb
          pb:=fun k b l' e' hb he'=>by
            rw[lk_pt]at he'
            by_cases c:l=l'
            · rw[if_pos c]at he';cases he';exact L.pb k b l e hb he
            · rw[if_neg c]at he';exact L.pb k b l' e' hb he'}
theorem LayW.newB (L:LayW h bw ba bt mp mb A T S) (l:Int) (zs:List Int) (sp:List SV) (hsp:∀k,belowC k sp) (n cp:Nat) (hn:zs.length=n) (h1:n≤cp) (h2:cp≤n+sp.length):
    LayW ((h++[icells zs++sp]).set bw (wtB ba bt ⟨mp,pt mb l ⟨h.length,n,cp⟩,S.late,S.head,S.seen⟩)) bw ba bt mp (pt mb l ⟨h.length,n,cp⟩) A T ⟨S.prs,pt S.byl l zs,S.late,S.head,S.seen⟩:=by
  have hwl:=(List.getElem?_eq_some_iff.1 L.w).1
  have lt:∀{b:Nat} {x:List SV},h[b]?=some x→b<h.length:=fun hx=>(List.getElem?_eq_some_iff.1 hx).1
  have up:∀{c:Nat} {x:List SV},c≠bw→h[c]?=some x→((h++[icells zs++sp]).set bw (wtB ba bt ⟨mp,pt mb l ⟨h.length,n,cp⟩,S.late,S.head,S.seen⟩))[c]?=some x:=fun n1 hx=>by
    rw[List.getElem?_set_ne (fun e=>n1 e.symm),List.getElem?_append_left (lt hx),hx]
  have self:((h++[icells zs++sp]).set bw (wtB ba bt ⟨mp,pt mb l ⟨h.length,n,cp⟩,S.late,S.head,S.seen⟩))[h.length]?=some (icells zs++sp):=by
    rw[List.getElem?_set_ne (by omega)];simp
  exact { w := List.getElem?_set_self (by simp; omega), a := up L.wa.symm L.a, t := up L.wt.symm L.t, wa := L.wa, wt := L.wt, at' := L.at', keys := L.keys, pinj := L.pinj
          pr:=fun k b hb=>by obtain⟨p,a1,a2,a3⟩:=L.pr k b hb;exact⟨p,a1,up a3.1 a2,a3⟩
          by':=fun l' e' he'=>by
            rw[lk_pt]at he'
            show∃zs_1,lk (pt S.byl l zs) l'=some zs_1∧_
            rw[lk_pt]
            by_cases c:l=l'
            · rw[if_pos c]at he'
              cases he'
              exact⟨zs,if_pos c,⟨sp,self,hsp,hn,h1,h2⟩,Nat.ne_of_gt hwl,Nat.ne_of_gt (lt L.a),Nat.ne_of_gt (lt L.t)⟩
            · rw[if_neg c]at he'
              obtain⟨z1,a1,⟨sp1,a2,a3⟩,a4⟩:=L.by' l' e' he'
              exact⟨z1,by rw[if_neg c];exact a1,⟨sp1,up a4.1 a2,a3⟩,a4⟩
          byn:=fun l' hn'=>by
            rw[lk_pt]at hn'
            show lk (pt S.byl l zs) l'=none
            rw[lk_pt]
            by_cases c:l=l'
            · rw[if_pos c]at hn';cases hn'
            · rw[if_neg c]at hn'⊢;exact L.byn l' hn'
          binj:=fun l1 l2 e1 e2 h1' h2' hb=>by
            have old:∀l' e',lk mb l'=some e'→e'.b<h.length:=fun l' e' he'=>by obtain⟨_,_,⟨_,a2,_⟩,_⟩:=L.by' l' e' he';exact lt a2
            rw[lk_pt]at h1' h2'
            by_cases c1:l=l1
            · by_cases c2:l=l2
              · exact c1.symm.trans c2
              · rw[if_pos c1]at h1';rw[if_neg c2]at h2';cases h1'
                have:=old l2 e2 h2'
                simp only at hb
                omega
            · rw[if_neg c1]at h1'
              by_cases c2:l=l2
              · rw[if_pos c2]at h2';cases h2'
                have:=old l1 e1 h1'
                simp only at hb
                omega
              · rw[if_neg c2]at h2'
                exact L.binj l1 l2 e1 e2 h1' h2' hb
          pb:=fun k b l' e' hb he'=>by
            rw[lk_pt]at he'
            by_cases c:l=l'
            · rw[if_pos c]at he';cases he'
              obtain⟨_,_,a2,_⟩:=L.pr k b hb
              exact Nat.ne_of_lt (lt a2)
            · rw[if_neg c]at he';exact L.pb k b l' e' hb he'}
end
end Go.AX