/-
  Contracts: watches: made anew, Attach, Detach, Attached.
  Contracts: a desk with clauses, of six variables, and a watch.
  Contracts: a desk with clauses: places; a clause is attached, or detached.
  A watch to which clauses are attached, and detached, goes with the document (plain law).
  Trails of any number of variables, told plainly (plain law).
  Watches: what always holds of them (plain law).
  Watches: what Propagate brings about (plain law).
  Watches: Propagate closes what is attached under units, or tells a conflict (plain law, and the call).
  What follows by units does not hang on the order (plain law).
  Contracts: a desk with clauses and a watch: a literal is decided, or taken back.
  Contracts: arenas whose clauses may be learnt, and dropped; literals made; models.
  Desks of any number of variables: what a conflict teaches, and what is left of it (plain law).
-/
import Derived.Test.YtepodadinenmnaaGreatS14AxWaG
import Derived.Test.YtepodadinenmnaaGreatS14AxRnX
import Derived.Test.YtepodadinenmnaaGreatS14AxTxG
import Derived.Test.YtepodadinenmnaaGreatS14AxTtA
import Derived.Test.YtepodadinenmnaaGreatS14AxDkQ
import Derived.Test.YtepodadinenmnaaGreatAxBM
import Derived.Test.YtepodadinenmnaaGreatAxTb
import Derived.Test.YtepodadinenmnaaGreatAxR
import Derived.Test.YtepodadinenmnaaGreatS14AxWaD
namespace Go.AX
open Go.Proofs
set_option linter.unusedSimpArgs false
theorem wG(T:Tr)(hm:T.marks.length≤1000000)(hl:T.lits.length≤1000000):ao Tryz.prog 56 [bu T] (fun r=>r=.pv (ae ((T.marks.length:Int) -1 -T.lits.length))):=by
 refine aw aG Tryz.func56 (by kernel_rfl) rfl rfl (by kernel_rfl) (Nat.le_of_ble_eq_true rfl) ?_;have hi:=ld T;have w1:aM ((T.marks.length:Int) -1)=(T.marks.length:Int) -1:=ah (by omega) (by omega);have w2:aM ((T.marks.length:Int) -1 -T.lits.length)=(T.marks.length:Int) -1 -T.lits.length:=ah (by omega) (by omega);simp only[bu,cJ]at hi;simp[bu,cJ];refine am.intro hi (by simp) ?_;simp[w1,w2]
theorem GY(x v:Int):ao Tryz.prog 208 [ae x,.iptr 1 [[ae v]] 0 0] (fun r=>r=.pv (BL (!decide (ax x v=0)))):=by
 refine aw aG Tryz.func208 (by kernel_rfl) rfl rfl (by kernel_rfl) (Nat.le_of_ble_eq_true rfl) ?_;simp;refine am.intro (iu x v) (by simp) ?_
 by_cases c:ax x v=0
 ·simp[c]
 ·simp[c]
theorem Ey(h:List (List SV))(b:Nat)(A:Ar)(hb:h[b]?=some (lf A))(hk:jC A)(hl:A.row.length≤1000000)(q:Int):aE Tryz.prog 158 [.ptr b 0,ae q] h (fun r h'=>h'=h∧r=.pv (ae (lh A q))):=by
 refine fA [] [.tmp 4] aG Tryz.func158 (by kernel_rfl) rfl rfl (by kernel_rfl) (Nat.le_of_ble_eq_true rfl) ?_;obtain⟨hlt,hb'⟩:=List.getElem?_eq_some_iff.1 hb;unfold lh;simp;refine ak.intro (yo h b A hb q) (by simp) ?_;rintro _ _ ⟨rfl,rfl⟩
 by_cases c:isA A q=true
 ·obtain⟨p,n,rfl,ha⟩:=hk q c;have hp:p<A.row.length:=by have:=ha.len;omega
  simp[hb',hlt,lf,c,hp]
 ·have c':isA A q=false:=by simpa using c
  simp[c']
theorem tg(h:List (List SV))(b:Nat)(A:Ar)(hb:h[b]?=some (lf A))(hk:jC A)(hl:A.row.length≤1000000)(q:Int)(hi:isA A q=true):
 aE Tryz.prog 160 [.ptr b 0,ae q] h (fun r h'=>h'=h∧r=.pv (.seq false 1 (af (aq A q)))):=by
 obtain⟨p,n,rfl,ha⟩:=hk q hi;have e:aq A (p:Int)=dr A p n:=by
  unfold aq;rw[if_pos hi];have h1:p+1<A.row.length:=by have:=ha.len;omega
  have h2:A.row.getD ((p:Int).toNat+1) 0=(n:Int):=by rw[←ha.num];rfl
  rw[h2];rfl
 rw[e];exact DH h b A hb p n hi ha hl
theorem GZ(h:List (List SV))(ba bt:Nat):aE Tryz.prog 67 [.ptr ba 0,.ptr bt 0] h (fun r h'=>h'=h++[[.pv (.ptr ba 0),.pv (.ptr bt 0),.omap true [],.omap true [],.omap true [],.pv (ae 0),.pv (.lit (.slice none 0 0))]]∧r=.pv (.ptr h.length 0)):=by
 refine dh [] [.tmp 4] aG Tryz.func67 (by kernel_rfl) rfl rfl (by kernel_rfl) (Nat.le_of_ble_eq_true rfl) ?_;simp
@[simp] theorem G0:∀(l:List (Int×Nat))(k:Int),ij k (aT tb l)=aT tb (dl l k)
 |[],k=>rfl
 |(j,x)::l,k=>by
  show(if j=k then aT tb l else(j,tb x)::ij k (aT tb l))=aT tb (if j=k then l else(j,x)::dl l k);rw[G0 l k];split<;>rfl
theorem q9{α:Type}:∀{l:List (Int×α)}{k:Int},k∉l.map (·.1)→lk l k=none
 |[],_,_=>rfl
 |(j,x)::l,k,h=>by
  simp only[List.map_cons,List.mem_cons,not_or]at h;rw[lk,if_neg (fun e=>h.1 e.symm)];exact q9 h.2
theorem Ez{α:Type}:∀{l:List (Int×α)},(l.map (·.1)).Nodup→∀k x:Int,lk (dl l k) x=if x=k then none else lk l x
 |[],_,k,x=>by show none=_;split<;>rfl
 |(j,y)::l,h,k,x=>by
  simp only[List.map_cons,List.nodup_cons]at h;show lk (if j=k then l else(j,y)::dl l k) x=if x=k then none else if j=x then some y else lk l x
  by_cases e:j=k
  ·rw[if_pos e]
   by_cases c:x=k
   ·rw[if_pos c,c,←e];exact q9 h.1
   ·rw[if_neg c,if_neg (fun e2=>c (e2.symm.trans e))]
  ·rw[if_neg e,lk,Ez h.2 k x]
   by_cases c:x=k
   ·rw[if_pos c,if_pos c,if_neg (fun e2=>e (e2.trans c))]
   ·rw[if_neg c,if_neg c]
section
variable {h : List (List SV)} {bw ba bt : Nat} {mp : List (Int × Nat)} {mb : List (Int × By)} {A : Ar} {T : Tr} {S : WS}
theorem LayW.newP(L:LayW h bw ba bt mp mb A T S)(k:Int)(p:Pr)(late:List (Int×Int)):
    LayW ((h++[nI p]).set bw (b9 ba bt ⟨pt mp k h.length,mb,late,S.head,S.seen⟩)) bw ba bt (pt mp k h.length) mb A T ⟨pt S.prs k p,S.byl,late,S.head,S.seen⟩:=by
  have hwl:=(List.getElem?_eq_some_iff.1 L.w).1
  have lt:∀{b:Nat}{x:List SV},h[b]?=some x→b<h.length:=fun hx=>(List.getElem?_eq_some_iff.1 hx).1
  have up:∀{c:Nat}{x:List SV},c≠bw→h[c]?=some x→((h++[nI p]).set bw (b9 ba bt ⟨pt mp k h.length,mb,late,S.head,S.seen⟩))[c]?=some x:=fun n1 hx=>by
    rw[List.getElem?_set_ne (fun e=>n1 e.symm),List.getElem?_append_left (lt hx),hx]
  have self:((h++[nI p]).set bw (b9 ba bt ⟨pt mp k h.length,mb,late,S.head,S.seen⟩))[h.length]?=some (nI p):=by
    rw[List.getElem?_set_ne (by omega)];simp
  have old:∀k' b,lk mp k'=some b→b<h.length:=fun k' b hb=>by obtain⟨_,_,a2,_⟩:=L.pr k' b hb;exact lt a2
  exact { w := List.getElem?_set_self (by simp; omega), a := up L.wa.symm L.a, t := up L.wt.symm L.t, wa := L.wa, wt := L.wt, at' := L.at', keys := wC _ _ _ _ _ L.keys, byn := L.byn, binj := L.binj
          pr:=fun k' b hb=>by
            rw[bz]at hb
            show∃p',lk (pt S.prs k p) k'=some p'∧_
            rw[bz]
            by_cases c:k=k'
            · rw[if_pos c]at hb;cases hb
              exact⟨p,if_pos c,self,Nat.ne_of_gt hwl,Nat.ne_of_gt (lt L.a),Nat.ne_of_gt (lt L.t)⟩
            · rw[if_neg c]at hb
              obtain⟨p',a1,a2,a3⟩:=L.pr k' b hb
              exact⟨p',by rw[if_neg c];exact a1,up a3.1 a2,a3⟩
          by':=fun l e he=>by
            obtain⟨zs,a1,⟨sp,a2,a3⟩,a4⟩:=L.by' l e he
            exact⟨zs,a1,⟨sp,up a4.1 a2,a3⟩,a4⟩
          pinj:=fun k1 k2 b h1 h2=>by
            rw[bz]at h1 h2
            by_cases c1:k=k1
            · by_cases c2:k=k2
              · exact c1.symm.trans c2
              · rw[if_pos c1]at h1;rw[if_neg c2]at h2;cases h1
                have:=old k2 _ h2;omega
            · rw[if_neg c1]at h1
              by_cases c2:k=k2
              · rw[if_pos c2]at h2;cases h2
                have:=old k1 _ h1;omega
              · rw[if_neg c2]at h2
                exact L.pinj k1 k2 b h1 h2
          pb:=fun k' b l e hb he=>by
            rw[bz]at hb
            by_cases c:k=k'
            · rw[if_pos c]at hb;cases hb
              obtain⟨_,_,⟨_,a2,_⟩,_⟩:=L.by' l e he
              exact Nat.ne_of_gt (lt a2)
            · rw[if_neg c]at hb;exact L.pb k' b l e hb he}
end
def nM(A:Ar)(T:Tr)(S:WS)(k:Int):Int:=if lh A k=0 then 20 else if(lk S.prs k).isSome=true then 21 else if(aq A k).any (fun l=>!decide (ax l ((T.marks.length:Int) -1)=0))=true then 10 else 0
def mY(A:Ar)(T:Tr)(S:WS)(k:Int):WS:=if nM A T S k=0 then⟨pt S.prs k ⟨aq A k,0,0⟩,S.byl,pt S.late k (aM ((lk S.late k).getD 0+1)),S.head,S.seen⟩else S
def EA:Sch:=
 let s0:Sch:=.fork [(13,.done)]
 let s1:Sch:=.fork [(12,s0)]
 let s2:Sch:=.fork [(9,.take 10 (.take 11 s0))]
 let s3:Sch:=.fork [(9,.take 10 (.take 11 s1)),(12,s2)]
 let s4:Sch:=.fork [(8,s2)]
 let s5:Sch:=.fork [(8,s3),(12,s4)]
 let s6:Sch:=.fork [(4,s2)]
 let s7:Sch:=.fork [(4,s3),(12,s6)]
 let s8:Sch:=.fork [(4,s4),(8,s6)]
 let s9:Sch:=.fork [(4,s5),(8,s7),(12,s8)]
 let s10:Sch:=.fork [(3,s6)]
 let s11:Sch:=.fork [(3,s7),(12,s10)]
 let s12:Sch:=.fork [(3,s8),(8,s10)]
 let s13:Sch:=.fork [(3,s9),(8,s11),(12,s12)]
 .take 0 (.take 1 (.take 2 (.take 5 (.take 6 (.take 7 s13)))))
set_option maxRecDepth 16000 in
theorem yN(h:List (List SV))(bw ba bt:Nat)(mp:List (Int×Nat))(mb:List (Int×By))(A:Ar)(T:Tr)(S:WS)(L:LayW h bw ba bt mp mb A T S)(hk:jC A)(hl:A.row.length≤1000000)(hm:T.marks.length≤1000000)(hTl:T.lits.length≤1000000)(k:Int):
 aE Tryz.prog 128 [.ptr bw 0,ae k] h (fun r h'=>r=.pv (ae (nM A T S k))∧∃mp',LayW h' bw ba bt mp' mb A T (mY A T S k)∧Ext h h' (aP bw bt mp mb) (aP bw bt mp' mb)):=by
 refine dh [8] [.tmp 4] aG Tryz.func128 (by kernel_rfl) rfl rfl (by kernel_rfl) (Nat.le_of_ble_eq_true rfl) ?_;obtain⟨w1,w2⟩:=List.getElem?_eq_some_iff.1 L.w;have kM:=wB h bw ba bt _ L.w;have kI:=Ey h ba A L.a hk hl k;simp;refine ak.intro kM (by simp) ?_;rintro _ h2 ⟨e,rfl⟩;rw[e];clear e h2;simp[w1,w2,b9];refine ak.intro kI (by simp) ?_;rintro _ h2 ⟨e,rfl⟩;rw[e];clear e h2
 by_cases c1:lh A k=0
 ·have eE:nM A T S k=20:=by unfold nM;rw[if_pos c1]
  have eS:mY A T S k=S:=by unfold mY;rw[eE];rfl
  rw[eE,eS];simp[c1];exact⟨mp,L,Ext.refl _ _⟩
 have hisA:isA A k=true:=by
  unfold lh at c1
  by_cases c:isA A k=true
  ·exact c
  ·rw[if_neg c]at c1;exact absurd rfl c1
 cases hp:lk mp k with
 |some b=>
  obtain⟨p,hp1,_⟩:=L.pr k b hp;have eE:nM A T S k=21:=by unfold nM;rw[if_neg c1,hp1];rfl
  have eS:mY A T S k=S:=by unfold mY;rw[eE];rfl
  rw[eE,eS];simp[c1,w1,w2,b9,hp,tb];exact⟨mp,L,Ext.refl _ _⟩
 |none=>
 have hpn:lk S.prs k=none:=by
  cases hq:lk S.prs k with
  |none=>rfl
  |some p=>obtain⟨b,hb,_⟩:=L.some_p hq;rw[hp]at hb;cases hb
 have kL:=tg h ba A L.a hk hl k hisA;simp[c1,w1,w2,b9,hp,tb];refine ak.intro kL (by simp) ?_;rintro _ h2 ⟨e,rfl⟩;rw[e];clear e h2;simp;obtain⟨G,hG⟩:∃G,G=h++[[SV.pv (ae ((T.marks.length:Int) -1))]]:=⟨_,rfl⟩;have L0:LayW G bw ba bt mp mb A T S:=by rw[hG];exact L.app _
 have E0:Ext h G (aP bw bt mp mb) (aP bw bt mp mb):=by rw[hG];exact Ext.app _ _ _
 have hz:=cu L.t 2;have hz2:=fun x=>cu (L.app [x]).t 2;have kO:=wG T hm hTl;have kT:=er T hTl;have ew:aM ((T.marks.length:Int) -1)=(T.marks.length:Int) -1:=ah (by omega) (by omega);obtain⟨g1,g2⟩:=List.getElem?_eq_some_iff.1 L0.w;have a1:∀x,(h++[x])[bw]?=some (b9 ba bt ⟨mp,mb,S.late,S.head,S.seen⟩):=fun x=>(L.app [x]).w;refine aY.meet EA ⟨[(0,.pv (.ptr bw 0)),(1,.pv (ae k)),(5,.pv (.seq false 1 (af (aq A k)))),(6,.pv (.ptr h.length 0))],G⟩ (by kernel_rfl) ?_ ?_
 ·simp[EA,w1,w2,b9,hz,a1,hz2]
  repeat' first
   |refine And.intro ?_ ?_
   |(refine ak.introP kO (by simp) (by simp) ?_;simp[w1,w2,b9,hz,a1,hz2,ew])
   |(refine ak.introP kT (by simp) (by simp) ?_;simp[w1,w2,b9,hz,a1,hz2,ew])
   |exact aj.keep (by simp) (by rw[hG])
 have kC:=ff (aq A k) (by have:=eU A hk k;omega) 208 [.iptr 1 [[ae ((T.marks.length:Int) -1)]] 0 0] (fun l=>!decide (ax l ((T.marks.length:Int) -1)=0)) (fun r=>by simp) rfl (fun m=>by simp) (fun x _=>GY x _);have n1:h.length<G.length:=by rw[hG];simp
 have n2:G[h.length]'n1=[.pv (ae ((T.marks.length:Int) -1))]:=by simp[hG]
 generalize hany:(aq A k).any (fun l=>!decide (ax l ((T.marks.length:Int) -1)=0))=B at kC;have hf:∀n,bq G (n+1) h.length 0=.iptr 1 [[ae ((T.marks.length:Int) -1)]] 0 0:=fun n=>by simp[bq,n1,n2,frzC]
 have hA:nM A T S k=if B=true then 10 else 0:=by unfold nM;rw[if_neg c1,hpn,hany];rfl
 have hS':mY A T S k=if nM A T S k=0 then⟨pt S.prs k ⟨aq A k,0,0⟩,S.byl,pt S.late k (aM ((lk S.late k).getD 0+1)),S.head,S.seen⟩else S:=rfl;rw[hA]at hS'⊢;generalize mY A T S k=S2 at*;simp[hf];refine am.intro kC (by simp) ?_;cases B
 ·have e0:(if false=true then(10:Int)else 0)=0:=rfl;rw[e0]at hS'⊢;rw[if_pos rfl]at hS';subst hS';have L1:=L0.newP k ⟨aq A k,0,0⟩ (pt S.late k (aM ((lk S.late k).getD 0+1)));have E1:Ext h ((G++[nI ⟨aq A k,0,0⟩]).set bw (b9 ba bt ⟨pt mp k G.length,mb,pt S.late k (aM ((lk S.late k).getD 0+1)),S.head,S.seen⟩)) (aP bw bt mp mb) (aP bw bt (pt mp k G.length) mb):=
   ((E0.trans (Ext.app G _ _)).trans (Ext.set bw _ (.inl rfl))).dom fun b hb hd=>by
    rcases hd with h1|h1|⟨k',h1⟩|h1
    ·exact .inl h1
    ·exact .inr (.inl h1)
    ·rw[bz]at h1
     by_cases c:k=k'
     ·rw[if_pos c]at h1;cases h1;have:=E0.len;omega
     ·rw[if_neg c]at h1;exact .inr (.inr (.inl ⟨k',h1⟩))
    ·exact .inr (.inr (.inr h1))
  have hgl:G.length=h.length+1:=by rw[hG];simp
  have b1:∀x,(G++[x])[bw]?=some (b9 ba bt ⟨mp,mb,S.late,S.head,S.seen⟩):=fun x=>(L0.app [x]).w;have b2:∀x y,(G.set bw y++[x])[bw]?=some y:=fun x y=>by rw[List.getElem?_append_left (by simpa using g1),List.getElem?_set_self g1]
  rw[List.set_append_left _ _ g1]at L1 E1;simp[g1,g2,b9,b1,b2];exact⟨_,L1,E1⟩
 ·have e0:(if true=true then(10:Int)else 0)=10:=rfl;rw[e0]at hS'⊢;rw[if_neg (by omega)]at hS';subst hS';simp;exact⟨mp,L0,E0⟩
theorem jW.to{P:Program}{k0:Nat}{ops:Array Oper}{K:St→Prop}{st:St}(st1:St)(hw:aj k0 st st1)(h:jW P k0 ops K st1):jW P k0 ops K st:=
 jW.weak (ι:=Unit) (fun _=>st1) (fun g a w h0 hs=>by obtain⟨g',t,s'⟩:=hw g a w h0 hs;exact⟨g',(),t,s'⟩) fun _=>h
theorem LayW.other{h:List (List SV)}{bw ba bt:Nat}{mp:List (Int×Nat)}{mb:List (Int×By)}{A:Ar}{T:Tr}{S:WS}(L:LayW h bw ba bt mp mb A T S)(b:Nat)(x:List SV)(hd:¬aP bw bt mp mb b)(ha:b≠ba):LayW (h.set b x) bw ba bt mp mb A T S:=by
  have up:∀{c:Nat}{y:List SV},b≠c→h[c]?=some y→(h.set b x)[c]?=some y:=fun hn hx=>by rw[List.getElem?_set_ne hn,hx]
  exact { w := up (fun e => hd (.inl e)) L.w, a := up ha L.a, t := up (fun e => hd (.inr (.inl e))) L.t, wa := L.wa, wt := L.wt, at' := L.at', keys := L.keys, pinj := L.pinj, byn := L.byn, binj := L.binj, pb := L.pb
          pr:=fun k c hc=>by obtain⟨p,h1,h2,h3⟩:=L.pr k c hc;exact⟨p,h1,up (fun e=>hd (.inr (.inr (.inl ⟨k,e▸hc⟩)))) h2,h3⟩
          by':=fun l e he=>by
            obtain⟨zs,h1,⟨sp,h2,h3⟩,h4⟩:=L.by' l e he
            exact⟨zs,h1,⟨sp,up (fun e2=>hd (.inr (.inr (.inr ⟨l,e,he,e2.symm⟩)))) h2,h3⟩,h4⟩}
theorem mem_keys{α:Type}:∀{l:List (Int×α)}{k:Int},(lk l k).isSome=true↔k∈l.map (·.1)
 |[],k=>by simp[lk]
 |(j,x)::l,k=>by
  rw[lk,List.map_cons,List.mem_cons]
  by_cases e:j=k
  ·rw[if_pos e];simp[e]
  ·rw[if_neg e,mem_keys];constructor
   ·exact fun h=>.inr h
   ·rintro(h|h)
    ·exact absurd h.symm e
    ·exact h
theorem ra{α:Type}:∀(l:List (Int×α))(k:Int),(dl l k).map (·.1)=(l.map (·.1)).erase k
 |[],_=>rfl
 |(j,x)::l,k=>by
  rw[dl,List.map_cons,List.erase_cons]
  by_cases e:j=k
  ·rw[if_pos e,if_pos (by simpa using e)]
  ·rw[if_neg e,if_neg (by simpa using e),List.map_cons,ra l k]
theorem wH{l:List Int}(h:l.Nodup):(dQ l).Nodup:=by
 unfold dQ;exact(List.mergeSort_perm l _).nodup_iff.2 h
theorem bQ{n:Nat}(hn:n≤100000){l:Int}(h:ax l n=0):l≠0∧-(n:Int)≤l∧l≤n∧1≤ab l∧ab l≤n∧ab l=eF l∧0≤bi l∧aM (-l)=-l:=by
 obtain⟨a,b,c⟩:=(cV (by omega)).1 h;obtain⟨d,e,f,g⟩:=nx (by omega) h;exact⟨a,b,c,d,e,g,by rw[uo];exact f,ah (by omega) (by omega)⟩
theorem oV{n:Nat}(hn:n≤100000){l:Int}(h:ax l n=0):ax (-l) n=0:=by
 obtain⟨a,b,c⟩:=(cV (by omega)).1 h;exact(cV (by omega)).2 ⟨by omega,by omega,by omega⟩
theorem nN{n:Nat}(hn:n≤100000){x y:Int}(hx:ax x n=0)(hy:ax y n=0):ab x=ab y↔x=y∨x=-y:=by
 obtain⟨_,_,_,_,_,e1,_⟩:=bQ hn hx;obtain⟨_,_,_,_,_,e2,_⟩:=bQ hn hy;rw[e1,e2];unfold eF;constructor
 ·intro h;split at h<;>split at h<;>omega
 ·intro h;split<;>split<;>omega
def lq(beg:List Int)(i:Nat):Int:=((beg.filter fun b=>decide (b≤(i:Int))).length:Nat)
def wI(l:Int):Int:=if l<0 then-1 else 1
structure TMk (n:Nat) (T:Tr):Prop where
  hn:n≤100000
  len:T.marks.length=n+1
  chk:∀y∈T.lits,ax y n=0
  nd:(T.lits.map ab).Nodup
  mark:∀i (hi:i<T.lits.length),(br T (ab T.lits[i])).v=wI T.lits[i]∧(br T (ab T.lits[i])).lev=lq T.beg i∧(br T (ab T.lits[i])).pla=i
  free:∀v:Int,v∉T.lits.map ab→(br T v).v=0
structure TOk (n:Nat) (T:Tr):Prop extends TMk n T where
  bnd:∀b∈T.beg,0≤b∧b<T.lits.length
  rise:T.beg.Pairwise (·<·)
section
variable {n : Nat} {T : Tr}
theorem TMk.okT(h:TMk n T):T.ok:=⟨by rw[h.len];omega,by rw[h.len];have:=h.hn;omega⟩
theorem TMk.vars(h:TMk n T):(T.marks.length:Int) -1=n:=by rw[h.len];omega
theorem TMk.few(h:TMk n T):T.lits.length≤n:=by
 have h1:((T.lits.map ab).map Int.toNat).Nodup:=by
  refine List.pairwise_map.2 (h.nd.imp_of_mem ?_);intro a b ha hb hne e;obtain⟨x,hx,rfl⟩:=List.mem_map.1 ha;obtain⟨y,hy,rfl⟩:=List.mem_map.1 hb;have:=(bQ h.hn (h.chk x hx)).2.2.2.1;have:=(bQ h.hn (h.chk y hy)).2.2.2.1;exact hne (by omega)
 have h2:(T.lits.map ab).map Int.toNat⊆List.range' 1 n:=by
  intro v hv;obtain⟨a,ha,rfl⟩:=List.mem_map.1 hv;obtain⟨x,hx,rfl⟩:=List.mem_map.1 ha;obtain⟨_,_,_,p,q,_⟩:=bQ h.hn (h.chk x hx);rw[List.mem_range'_1];omega
 have:=(eG _ _ h1 h2);simpa using this
theorem TMk.inj(h:TMk n T){i j:Nat}(hi:i<T.lits.length)(hj:j<T.lits.length)(e:ab T.lits[i]=ab T.lits[j]):i=j:=by
 have hp:=List.pairwise_iff_getElem.1 (List.pairwise_map.1 h.nd);rcases Nat.lt_trichotomy i j with c|c|c
 ·exact absurd e (hp i j hi hj c)
 ·exact c
 ·exact absurd e.symm (hp j i hj hi c)
theorem TMk.one(h:TMk n T){y:Int}(hy:y∈T.lits)(hy2:-y∈T.lits):False:=by
 obtain⟨i,hi,e1⟩:=List.getElem_of_mem hy;obtain⟨j,hj,e2⟩:=List.getElem_of_mem hy2;have hv:ab T.lits[i]=ab T.lits[j]:=by rw[e1,e2,dt]
 have hij:i=j:=h.inj hi hj hv;subst hij;have:=(bQ h.hn (h.chk y hy)).1;omega
theorem TMk.val(h:TMk n T){l:Int}(hl:ax l n=0):bV T l=if l∈T.lits then 1 else if-l∈T.lits then-1 else 0:=by
 unfold bV;rw[h.vars,if_neg (by simp[hl])];have w1:aM (-1)=-1:=by decide
 have w2:aM (- -1)=1:=by decide
 have w3:aM (-0)=0:=by decide
 have l0:=(bQ h.hn hl).1
 by_cases c:l∈T.lits
 ·obtain⟨i,hi,e⟩:=List.getElem_of_mem c;have hm:=(h.mark i hi).1;rw[e]at hm;rw[if_pos c,hm];unfold wI
  by_cases d:l<0
  ·rw[if_pos d,if_pos d,w2]
  ·rw[if_neg d,if_neg d]
 rw[if_neg c]
 by_cases c2:-l∈T.lits
 ·obtain⟨i,hi,e⟩:=List.getElem_of_mem c2;have hm:=(h.mark i hi).1;rw[e,dt]at hm;rw[if_pos c2,hm];unfold wI
  by_cases d:l<0
  ·rw[if_pos d,if_neg (by omega),w1]
  ·rw[if_neg d,if_pos (by omega)]
 ·rw[if_neg c2,h.free]
  ·split
   ·exact w3
   ·rfl
  ·intro hm;obtain⟨x,hx,e⟩:=List.mem_map.1 hm;rcases(nN h.hn (h.chk x hx) hl).1 e with rfl|rfl
   ·exact c hx
   ·exact c2 hx
theorem TMk.val1(h:TMk n T){l:Int}(hl:ax l n=0):bV T l=1↔l∈T.lits:=by
 rw[h.val hl];split
 ·simp_all
 ·split<;>simp_all
theorem TMk.valm(h:TMk n T){l:Int}(hl:ax l n=0):bV T l=-1↔-l∈T.lits:=by
 rw[h.val hl];split
 ·rename_i c;simp;intro c2;exact h.one c c2
 ·split<;>simp_all
theorem TMk.val0(h:TMk n T){l:Int}(hl:ax l n=0):bV T l=0↔l∉T.lits∧-l∉T.lits:=by
 rw[h.val hl];split
 ·simp_all
 ·split<;>simp_all
theorem TMk.may(h:TMk n T)(l:Int):eW T l=0↔ax l n=0∧l∉T.lits∧-l∉T.lits:=by
 unfold eW;rw[h.vars]
 by_cases c:ax l n=0
 ·rw[if_neg (by simp[c])];have hv:=h.val c;have e:(br T (ab l)).v=0↔bV T l=0:=by
   unfold bV;rw[h.vars,if_neg (by simp[c])]
   by_cases d:l<0
   ·rw[if_pos d];constructor
    ·intro e;rw[e];decide
    ·intro e;have hb:-1≤(br T (ab l)).v∧(br T (ab l)).v≤1:=by
      by_cases m:ab l∈T.lits.map ab
      ·obtain⟨x,hx,e1⟩:=List.mem_map.1 m;obtain⟨i,hi,rfl⟩:=List.getElem_of_mem hx;rw[←e1,(h.mark i hi).1];unfold wI;split<;>omega
      ·rw[h.free _ m];omega
     rw[ah (by omega) (by omega)]at e;omega
   ·rw[if_neg d]
  rw[←h.val0 c,←e]
  by_cases d:(br T (ab l)).v=0
  ·simp[c,d]
  ·simp[c,d]
 ·rw[if_pos c];simp[c]
theorem TOk.new(hn:n≤100000):TOk n (iP n)where
 hn:=hn
 len:=by simp[iP]
 chk:=by simp[iP]
 nd:=by simp[iP]
 mark:=fun i hi=>absurd hi (by simp[iP])
 free:=fun v _=>by
  unfold br iP;rw[List.getD_eq_getElem?_getD];simp only[List.getElem?_replicate];split<;>rfl
 bnd:=by simp[iP]
 rise:=by simp[iP]
theorem EB{beg:List Int}{i:Nat}(h:∀b∈beg,b≤i):lq beg i=beg.length:=by
 unfold lq;rw[List.filter_eq_self.2 (fun b hb=>by simpa using h b hb)]
theorem iZ(T:Tr)(l rea:Int)(h1:1≤ab l)(h2:ab l<T.marks.length)(v:Int)(hv:0≤v):br (fW T l rea) v=if v=ab l then⟨wI l,T.beg.length,rea,T.lits.length⟩else br T v:=by
 unfold br fW;simp only[List.getD_eq_getElem?_getD,List.getElem?_set]
 by_cases c:v=ab l
 ·subst c;rw[if_pos rfl,if_pos rfl,if_pos (by omega)];rfl
 ·rw[if_neg (by omega),if_neg c]
theorem TMk.put(h:TMk n T){l:Int}(hm:eW T l=0)(rea:Int)(hb:∀b∈T.beg,b≤T.lits.length):TMk n (fW T l rea):=by
 obtain⟨m1,m2,m3⟩:=(h.may l).1 hm;obtain⟨_,_,_,v1,v2,_⟩:=bQ h.hn m1;have hlt:ab l<T.marks.length:=by rw[h.len];omega
 have hnew:ab l∉T.lits.map ab:=fun hv=>by
  obtain⟨x,hx,e⟩:=List.mem_map.1 hv;rcases(nN h.hn (h.chk x hx) m1).1 e with rfl|rfl
  ·exact m2 hx
  ·exact m3 hx
 have hpos:∀y∈T.lits,0≤ab y:=fun y hy=>by have:=(bQ h.hn (h.chk y hy)).2.2.2.1;omega
 refine⟨h.hn,by simp[fW,h.len],?_,?_,?_,?_⟩
 ·intro y hy;rcases List.mem_append.1 hy with hy|hy
  ·exact h.chk y hy
  ·simp at hy;subst hy;exact m1
 ·show((T.lits++[l]).map ab).Nodup;rw[List.map_append,List.nodup_append];refine⟨h.nd,by simp,fun a ha b hb e=>?_⟩;simp at hb;subst hb;subst e;exact hnew ha
 ·have key:∀i (hi:i<(T.lits++[l]).length),(br (fW T l rea) (ab (T.lits++[l])[i])).v=wI (T.lits++[l])[i]∧(br (fW T l rea) (ab (T.lits++[l])[i])).lev=lq T.beg i∧(br (fW T l rea) (ab (T.lits++[l])[i])).pla=i:=by
   intro i hi;have hi':=hi;rw[List.length_append]at hi';simp only[List.length_cons,List.length_nil]at hi'
   by_cases c:i<T.lits.length
   ·rw[List.getElem_append_left c,iZ T l rea v1 hlt _ (hpos _ (List.getElem_mem c)),if_neg (fun e:ab T.lits[i]=ab l=>hnew (e▸List.mem_map_of_mem (List.getElem_mem c)))];exact h.mark i c
   ·have:i=T.lits.length:=by omega
    subst this;rw[List.getElem_append_right (Nat.le_refl _)];simp only[Nat.sub_self,List.getElem_cons_zero];rw[iZ T l rea v1 hlt _ (by omega),if_pos rfl];exact⟨rfl,(EB hb).symm,rfl⟩
  exact key
 ·intro v hv;have hv':v∉(T.lits++[l]).map ab:=hv;rw[List.map_append,List.mem_append,not_or]at hv';simp only[List.map_cons,List.map_nil,List.mem_singleton]at hv'
  by_cases c:0≤v
  ·rw[iZ T l rea v1 hlt v c,if_neg hv'.2];exact h.free v hv'.1
  ·have h0:=h.free 0 (fun e=>by obtain⟨x,hx,e⟩:=List.mem_map.1 e;have:=(bQ h.hn (h.chk x hx)).2.2.2.1;omega);have e:∀T':Tr,br T' v=br T' 0:=fun T'=>by unfold br;rw[show v.toNat=(0:Int).toNat by omega]
   rw[e,iZ T l rea v1 hlt 0 (by omega),if_neg (by omega)];exact h0
theorem TOk.imp(h:TOk n T){l:Int}(hm:eW T l=0)(rea:Int):TOk n (fW T l rea):=
 {h.toTMk.put hm rea (fun b hb=>by have:=(h.bnd b hb).2;omega)with
  bnd:=fun b hb=>by have:=h.bnd b hb;show 0≤b∧b<((T.lits++[l]).length:Int);simp;omega
  rise:=h.rise}
theorem TMk.beg(h:TMk n T)(hb:∀b∈T.beg,b<T.lits.length):TMk n (ou T)where
 hn:=h.hn
 len:=h.len
 chk:=h.chk
 nd:=h.nd
 mark:=fun i hi=>by
  obtain⟨a,b,c⟩:=h.mark i hi;refine⟨a,b.trans ?_,c⟩;have hi':i<T.lits.length:=hi;unfold lq ou;simp only[List.filter_append];rw[List.filter_cons,if_neg (by simp;omega)];simp
 free:=h.free
theorem TOk.dec(h:TOk n T)(l:Int):TOk n (jw T l):=by
 unfold jw;split
 ·rename_i c;have h1:=h.toTMk.beg (fun b hb=>(h.bnd b hb).2);have hbm:∀b∈(ou T).beg,0≤b∧b≤T.lits.length:=fun b hb=>by
   rcases List.mem_append.1 hb with hb|hb
   ·have:=h.bnd b hb;omega
   ·simp at hb;omega
  exact{h1.put (l:=l) c (-1) (fun b hb=>(hbm b hb).2)with
   bnd:=fun b hb=>by have:=hbm b hb;show 0≤b∧b<((T.lits++[l]).length:Int);simp;omega
   rise:=by
    show(T.beg++[(T.lits.length:Int)]).Pairwise (·<·);rw[List.pairwise_append];refine⟨h.rise,by simp,fun a ha b hb=>?_⟩;simp at hb;have:=(h.bnd a ha).2;omega}
 ·exact h
theorem TMk.pop(h:TMk n T){m:Nat}(hm:T.lits.length=m+1):TMk n (jG T):=by
 have hlast:T.lits.getD (T.lits.length -1) 0=T.lits[m]:=by
  have e:T.lits.length -1=m:=by omega
  rw[e,List.getD_eq_getElem?_getD,List.getElem?_eq_getElem (by omega),Option.getD_some]
 have hml:m<T.lits.length:=by omega
 obtain⟨_,_,_,v1,v2,_⟩:=bQ h.hn (h.chk _ (List.getElem_mem hml));have hmk:∀v:Int,0≤v→br (jG T) v=if v=ab T.lits[m]then⟨0,0,0,0⟩else br T v:=fun v hv=>by
  unfold br jG;rw[hlast];simp only[List.getD_eq_getElem?_getD,List.getElem?_set]
  by_cases c:v=ab T.lits[m]
  ·subst c;rw[if_pos rfl,if_pos rfl,if_pos (by rw[h.len];omega)];rfl
  ·rw[if_neg (by omega),if_neg c]
 have hl:(jG T).lits=T.lits.take m:=by unfold jG;rw[hm];rfl
 have hpos:∀y∈T.lits,0≤ab y:=fun y hy=>by have:=(bQ h.hn (h.chk y hy)).2.2.2.1;omega
 refine⟨h.hn,by simp[jG,h.len],?_,?_,?_,?_⟩
 ·intro y hy;rw[hl]at hy;exact h.chk y (List.mem_of_mem_take hy)
 ·rw[hl];exact h.nd.sublist ((List.take_sublist m T.lits).map ab)
 ·intro i hi;have hi':i<m:=by rw[hl,List.length_take]at hi;omega
  have he:(jG T).lits[i]=T.lits[i]'(by omega):=by simp only[hl];exact List.getElem_take
  rw[he,hmk _ (hpos _ (List.getElem_mem _)),if_neg (fun e=>by have:=h.inj (by omega) hml e;omega)];exact h.mark i (by omega)
 ·intro v hv;rw[hl]at hv;have key:∀v:Int,0≤v→v∉(T.lits.take m).map ab→(br (jG T) v).v=0:=fun v c hv=>by
   rw[hmk v c];split
   ·rfl
   ·rename_i hne;refine h.free v fun hx=>?_;obtain⟨x,hx2,e⟩:=List.mem_map.1 hx;subst e;obtain⟨i,hi,e⟩:=List.getElem_of_mem hx2;subst e
    by_cases q:i=m
    ·subst q;exact hne rfl
    ·exact hv (List.mem_map.2 ⟨T.lits[i],by rw[List.mem_take_iff_getElem];exact⟨i,by omega,rfl⟩,rfl⟩)
  by_cases c:0≤v
  ·exact key v c hv
  ·have e:br (jG T) v=br (jG T) 0:=by unfold br;rw[show v.toNat=(0:Int).toNat by omega]
   rw[e];refine key 0 (by omega) fun hx=>?_;obtain⟨x,hx,e⟩:=List.mem_map.1 hx;have:=(bQ h.hn (h.chk x (List.mem_of_mem_take hx))).2.2.2.1;omega
theorem TMk.popN(h:TMk n T):∀j,j≤T.lits.length→TMk n (popN T j)
 |0,_=>h
 |j+1,hj=>by
  have ih:=TMk.popN h j (by omega);rw[Go.AX.popN];refine ih.pop (m:=T.lits.length -j -1) ?_;rw[dJ,List.length_take];omega
theorem TOk.back(h:TOk n T){k:Nat}(hk:k<T.beg.length):TOk n (bZ T k)∧(bZ T k).lits=T.lits.take (T.beg[k]).toNat∧(bZ T k).beg=T.beg.take k:=by
 have hbg:T.beg.getD k 0=T.beg[k]:=by rw[List.getD_eq_getElem?_getD,List.getElem?_eq_getElem hk];rfl
 obtain⟨b1,b2⟩:=h.bnd _ (List.getElem_mem hk);have hl:(bZ T k).lits=T.lits.take (T.beg[k]).toNat:=by
  unfold bZ;rw[hbg,dJ];congr 1;omega
 have hP:=h.toTMk.popN (T.lits.length -(T.beg[k]).toNat) (by omega);have hPl:(Go.AX.popN T (T.lits.length -(T.beg[k]).toNat)).lits=T.lits.take (T.beg[k]).toNat:=by rw[dJ];congr 1;omega
 have hmk:∀v,br (bZ T k) v=br (Go.AX.popN T (T.lits.length -(T.beg[k]).toNat)) v:=fun v=>by unfold br bZ;rw[hbg]
 have hr:=List.pairwise_iff_getElem.1 h.rise;have hbk:∀b∈T.beg.take k,0≤b∧b<T.beg[k]:=fun b hb=>by
  obtain⟨i,hi,rfl⟩:=List.mem_take_iff_getElem.1 hb;exact⟨(h.bnd _ (List.getElem_mem _)).1,hr i k (by omega) hk (by omega)⟩
 have hlen:(bZ T k).lits.length=(T.beg[k]).toNat:=by rw[hl,List.length_take];omega
 refine⟨{hn:=h.hn,len:=?_,chk:=?_,nd:=?_,mark:=?_,free:=?_,bnd:=?_,rise:=?_},hl,rfl⟩
 ·unfold bZ;rw[hbg];exact hP.len
 ·intro y hy;rw[hl]at hy;exact h.chk y (List.mem_of_mem_take hy)
 ·rw[hl];exact h.nd.sublist ((List.take_sublist _ T.lits).map ab)
 ·intro i hi;have hi':i<(Go.AX.popN T (T.lits.length -(T.beg[k]).toNat)).lits.length:=by rw[hPl,←hl];exact hi
  have he:(bZ T k).lits[i]=(Go.AX.popN T (T.lits.length -(T.beg[k]).toNat)).lits[i]:=by simp only[hl,hPl]
  rw[hmk,he];obtain⟨m1,m2,m3⟩:=hP.mark i hi';refine⟨m1,m2.trans ?_,m3⟩;rw[rb];unfold lq;congr 1;rw[←List.take_append_drop k T.beg,List.filter_append];have:((T.beg.take k++T.beg.drop k).take k)=T.beg.take k:=by rw[List.take_append_drop]
  show _=((bZ T k).beg.filter _).length;have hb:(bZ T k).beg=T.beg.take k:=rfl;rw[hb];have hd:(T.beg.drop k).filter (fun b=>decide (b≤(i:Int)))=[]:=by
   rw[List.filter_eq_nil_iff];intro b hb;obtain⟨j,hj,rfl⟩:=List.mem_drop_iff_getElem.1 hb;have:T.beg[k]≤T.beg[k+j]:=by
    by_cases c:j=0
    ·subst c;exact Int.le_refl _
    ·exact Int.le_of_lt (hr k (k+j) hk (by omega) (by omega))
   rw[hlen]at hi;simp;omega
  rw[hd,List.append_nil]
 ·intro v hv;rw[hmk];refine hP.free v ?_;rw[hPl,←hl];exact hv
 ·intro b hb;have:=hbk b hb;rw[hlen];omega
 ·exact h.rise.sublist (List.take_sublist _ _)
end
def bF(byl:List (Int×List Int))(l:Int):List Int:=(lk byl l).getD []
theorem Au{byl:List (Int×List Int)}{l:Int}{zs:List Int}(h:lk byl l=some zs):bF byl l=zs:=by unfold bF;rw[h];rfl
theorem Li{byl:List (Int×List Int)}{l k:Int}(h:k∈bF byl l):∃zs,lk byl l=some zs∧k∈zs:=by
 unfold bF at h;cases hq:lk byl l with
 |none=>rw[hq]at h;cases h
 |some zs=>rw[hq]at h;exact⟨zs,rfl,h⟩
theorem iB(byl:List (Int×List Int))(k l m:Int):bF (eI byl k l) m=if l≠0∧m=l then aU (fun x=>decide (x=k)) (bF byl l)else bF byl m:=by
 unfold bF eI
 by_cases c:l=0
 ·rw[if_pos c,if_neg (fun h=>h.1 c)]
 ·rw[if_neg c,bz]
  by_cases d:m=l
  ·rw[if_pos d.symm,if_pos ⟨c,d⟩];rfl
  ·rw[if_neg (fun e=>d e.symm),if_neg (fun h=>d h.2)]
theorem EC{k j:Int}{l:List Int}:j∈aU (fun x=>decide (x=k)) l↔j∈l∧j≠k:=by
 unfold aU;rw[List.mem_filter];simp
theorem nO{byl:List (Int×List Int)}{k l m j:Int}:j∈bF (eI byl k l) m↔j∈bF byl m∧¬(l≠0∧m=l∧j=k):=by
 rw[iB]
 by_cases c:l≠0∧m=l
 ·rw[if_pos c,EC,c.2];constructor
  ·exact fun h=>⟨h.1,fun q=>h.2 q.2.2⟩
  ·exact fun h=>⟨h.1,fun q=>h.2 ⟨c.1,rfl,q⟩⟩
 ·rw[if_neg c];exact⟨fun h=>⟨h,fun q=>c ⟨q.1,q.2.1⟩⟩,fun h=>h.1⟩
theorem uL{byl:List (Int×List Int)}(h:∀l,(bF byl l).Nodup)(k l m:Int):(bF (eI byl k l) m).Nodup:=by
 rw[iB];split
 ·exact(h l).sublist List.filter_sublist
 ·exact h m
theorem lP(byl:List (Int×List Int))(k l m:Int):bF (fH byl k l) m=if m=l then bF byl l++[k]else bF byl m:=by
 unfold bF fH;rw[bz]
 by_cases d:m=l
 ·rw[if_pos d,if_pos d.symm];rfl
 ·rw[if_neg d,if_neg (fun e=>d e.symm)]
theorem nP{byl:List (Int×List Int)}{k l m j:Int}:j∈bF (fH byl k l) m↔j∈bF byl m∨(m=l∧j=k):=by
 rw[lP]
 by_cases d:m=l
 ·rw[if_pos d,d];simp
 ·rw[if_neg d];simp[d]
theorem uM{byl:List (Int×List Int)}(h:∀l,(bF byl l).Nodup){k l:Int}(hk:k∉bF byl l)(m:Int):(bF (fH byl k l) m).Nodup:=by
 rw[lP];split
 ·rw[List.nodup_append];refine⟨h l,by simp,fun a ha b hb e=>?_⟩;simp at hb;subst hb;subst e;exact hk ha
 ·exact h m
structure Wch (n:Nat) (S:WS):Prop where
  nd:(S.prs.map (·.1)).Nodup
  lits:∀k p,lk S.prs k=some p→(0≤k∧k≤20000000)∧p.lits.Nodup∧p.lits.length≤1000∧∀y∈p.lits,ax y n=0
  lnd:(S.late.map (·.1)).Nodup
  lpr:∀k∈S.late.map (·.1),∃p,lk S.prs k=some p
  two:∀k p,lk S.prs k=some p→(k∈S.late.map (·.1)∧p.x=0∧p.y=0)∨(k∉S.late.map (·.1)∧p.x≠p.y∧p.x∈p.lits∧p.y∈p.lits)
  bnd:∀l,(bF S.byl l).Nodup
  mem:∀l k,k∈bF S.byl l↔l≠0∧∃p,lk S.prs k=some p∧(p.x=l∨p.y=l)
theorem oF{α:Type}{l:List (Int×α)}{k:Int}{x:α}(h:lk l k=some x):k∈l.map (·.1):=mem_keys.1 (by rw[h];rfl)
theorem pQ{α:Type}{l:List (Int×α)}(h:(l.map (·.1)).Nodup)(k x:Int):x∈(dl l k).map (·.1)↔x∈l.map (·.1)∧x≠k:=by
 rw[ra,h.mem_erase_iff];exact⟨fun q=>⟨q.2,q.1⟩,fun q=>⟨q.2,q.1⟩⟩
theorem HN{α:Type}{l:List (Int×α)}(h:(l.map (·.1)).Nodup)(k:Int):((dl l k).map (·.1)).Nodup:=by rw[ra];exact h.erase k
section
variable {n : Nat} {S : WS}
theorem Wch.pos(h:Wch n S){k:Int}{p:Pr}(hp:lk S.prs k=some p)(hk:k∉S.late.map (·.1)):p.x≠0∧p.y≠0∧p.x≠p.y∧p.x∈p.lits∧p.y∈p.lits:=by
 rcases h.two k p hp with⟨a,_⟩|⟨_,a,b,c⟩
 ·exact absurd a hk
 ·have hl:=(h.lits k p hp).2.2.2;have z:∀y∈p.lits,y≠0:=fun y hy e=>by
   have:=hl y hy;rw[e]at this;unfold ax rK at this;split at this
   ·omega
   ·simp at this
  exact⟨z _ b,z _ c,a,b,c⟩
theorem Wch.zer(h:Wch n S){k:Int}{p:Pr}(hp:lk S.prs k=some p)(hk:k∈S.late.map (·.1)):p.x=0∧p.y=0:=by
 rcases h.two k p hp with⟨_,a⟩|⟨a,_⟩
 ·exact a
 ·exact absurd hk a
theorem Wch.nby(h:Wch n S){k:Int}{p:Pr}(hp:lk S.prs k=some p)(hk:k∈S.late.map (·.1))(l:Int):k∉bF S.byl l:=fun hb=>by
 obtain⟨l0,q,hq,e⟩:=(h.mem l k).1 hb;rw[hp]at hq;cases hq
 obtain⟨z1,z2⟩:=h.zer hp hk;rw[z1,z2]at e;omega
theorem Wch.entry(h:Wch n S){k:Int}{p:Pr}(hp:lk S.prs k=some p){l:Int}(l0:l≠0)(hl:p.x=l∨p.y=l):∃zs,lk S.byl l=some zs∧k∈zs:=Li ((h.mem l k).2 ⟨l0,p,hp,hl⟩)
theorem Wch.hz(h:Wch n S)(hf:S.prs.length≤1000000):∀l zs,lk S.byl l=some zs→zs.length≤1000000:=fun l zs hz=>by
 have e:=Au hz;have h1:=h.bnd l;rw[e]at h1;have h2:zs⊆S.prs.map (·.1):=fun k hk=>by
  obtain⟨_,p,hp,_⟩:=(h.mem l k).1 (by rw[e];exact hk);exact oF hp
 have:=(eG _ _ h1 h2);rw[List.length_map]at this;omega
theorem dL{α:Type}{l:List (Int×α)}{k j:Int}{y:α}(hj:j≠k):lk (pt l k y) j=lk l j:=by rw[bz,if_neg (fun e=>hj e.symm)]
theorem dD{α:Type}{l:List (Int×α)}{k:Int}{y:α}:lk (pt l k y) k=some y:=by rw[bz,if_pos rfl]
theorem Wch.toLate(h:Wch n S){k:Int}{p:Pr}(hp:lk S.prs k=some p)(hk:k∉S.late.map (·.1))(v:Int):Wch n ⟨(lj S k p).prs,(lj S k p).byl,pt S.late k v,S.head,S.seen⟩:=by
 obtain⟨x0,y0,hxy,hx,hy⟩:=h.pos hp hk;have hkeys:(pt S.prs k ⟨p.lits,0,0⟩).map (·.1)=S.prs.map (·.1):=gT _ hp;have hlk:∀j,j∈(pt S.late k v).map (·.1)↔j=k∨j∈S.late.map (·.1):=fun j=>lm _ _ _ _;refine⟨?_,?_,?_,?_,?_,?_,?_⟩
 ·show((pt S.prs k _).map (·.1)).Nodup;rw[hkeys];exact h.nd
 ·intro j q hq;have hq:lk (pt S.prs k ⟨p.lits,0,0⟩) j=some q:=hq
  by_cases e:j=k
  ·subst e;rw[dD]at hq;cases hq;exact h.lits j p hp
  ·rw[dL e]at hq;exact h.lits j q hq
 ·exact iY _ _ _ h.lnd
 ·intro j hj;show∃q,lk (pt S.prs k ⟨p.lits,0,0⟩) j=some q
  by_cases e:j=k
  ·subst e;exact⟨_,dD⟩
  ·rw[dL e];rcases(hlk j).1 hj with c|c
   ·exact absurd c e
   ·exact h.lpr j c
 ·intro j q hq;have hq:lk (pt S.prs k ⟨p.lits,0,0⟩) j=some q:=hq;show(j∈(pt S.late k v).map (·.1)∧_)∨(j∉(pt S.late k v).map (·.1)∧_);rw[hlk]
  by_cases e:j=k
  ·subst e;rw[dD]at hq;cases hq;exact .inl ⟨.inl rfl,rfl,rfl⟩
  ·rw[dL e]at hq;rcases h.two j q hq with⟨a,b⟩|⟨a,b⟩
   ·exact .inl ⟨.inr a,b⟩
   ·exact .inr ⟨fun c=>c.elim e a,b⟩
 ·exact fun m=>uL (fun m=>uL h.bnd k p.x m) k p.y m
 ·intro m j;show j∈bF (eI (eI S.byl k p.x) k p.y) m↔m≠0∧∃q,lk (pt S.prs k ⟨p.lits,0,0⟩) j=some q∧_;rw[nO,nO,h.mem]
  by_cases e:j=k
  ·subst e;rw[dD];constructor
   ·rintro⟨⟨⟨m0,q,hq,c⟩,d1⟩,d2⟩;rw[hp]at hq;cases hq
    rcases c with c|c
    ·exact absurd ⟨x0,c.symm,rfl⟩ d1
    ·exact absurd ⟨y0,c.symm,rfl⟩ d2
   ·rintro⟨m0,q,hq,c⟩;cases hq
    simp at c;exact absurd c.symm m0
  ·rw[dL e];exact⟨fun q=>q.1.1,fun q=>⟨⟨q,fun z=>e z.2.2⟩,fun z=>e z.2.2⟩⟩
theorem Wch.watch(h:Wch n S){k:Int}{p:Pr}(hp:lk S.prs k=some p)(hk:k∈S.late.map (·.1)){a b:Int}(hab:a≠b)(ha:a∈p.lits)(hb:b∈p.lits):Wch n ⟨pt S.prs k ⟨p.lits,a,b⟩,fH (fH S.byl k a) k b,dl S.late k,S.head,S.seen⟩:=by
 have hkeys:(pt S.prs k ⟨p.lits,a,b⟩).map (·.1)=S.prs.map (·.1):=gT _ hp;have hlk:∀j,j∈(dl S.late k).map (·.1)↔j∈S.late.map (·.1)∧j≠k:=fun j=>pQ h.lnd k j;have hz:∀y∈p.lits,y≠0:=fun y hy e=>by
  have:=(h.lits k p hp).2.2.2 y hy;rw[e]at this;unfold ax rK at this;split at this
  ·omega
  ·simp at this
 refine⟨?_,?_,?_,?_,?_,?_,?_⟩
 ·show((pt S.prs k _).map (·.1)).Nodup;rw[hkeys];exact h.nd
 ·intro j q hq;have hq:lk (pt S.prs k ⟨p.lits,a,b⟩) j=some q:=hq
  by_cases e:j=k
  ·subst e;rw[dD]at hq;cases hq;exact h.lits j p hp
  ·rw[dL e]at hq;exact h.lits j q hq
 ·exact HN h.lnd k
 ·intro j hj;obtain⟨h1,h2⟩:=(hlk j).1 hj;show∃q,lk (pt S.prs k ⟨p.lits,a,b⟩) j=some q;rw[dL h2];exact h.lpr j h1
 ·intro j q hq;have hq:lk (pt S.prs k ⟨p.lits,a,b⟩) j=some q:=hq;show(j∈(dl S.late k).map (·.1)∧_)∨(j∉(dl S.late k).map (·.1)∧_);rw[hlk]
  by_cases e:j=k
  ·subst e;rw[dD]at hq;cases hq;exact .inr ⟨fun c=>c.2 rfl,hab,ha,hb⟩
  ·rw[dL e]at hq;rcases h.two j q hq with⟨c,d⟩|⟨c,d⟩
   ·exact .inl ⟨⟨c,e⟩,d⟩
   ·exact .inr ⟨fun z=>c z.1,d⟩
 ·intro m;refine uM (fun m=>uM h.bnd (h.nby hp hk a) m) ?_ m;rw[nP];rintro(c|c)
  ·exact h.nby hp hk b c
  ·exact hab c.1.symm
 ·intro m j;show j∈bF (fH (fH S.byl k a) k b) m↔m≠0∧∃q,lk (pt S.prs k ⟨p.lits,a,b⟩) j=some q∧_;rw[nP,nP]
  by_cases e:j=k
  ·subst e;rw[dD];constructor
   ·rintro((c|c)|c)
    ·exact absurd c (h.nby hp hk m)
    ·rw[c.1];exact⟨hz a ha,_,rfl,.inl rfl⟩
    ·rw[c.1];exact⟨hz b hb,_,rfl,.inr rfl⟩
   ·rintro⟨m0,q,hq,c⟩;cases hq
    rcases c with c|c
    ·exact .inl (.inr ⟨c.symm,rfl⟩)
    ·exact .inr ⟨c.symm,rfl⟩
  ·rw[dL e,h.mem];constructor
   ·rintro((c|c)|c)
    ·exact c
    ·exact absurd c.2 e
    ·exact absurd c.2 e
   ·exact fun c=>.inl (.inl c)
theorem Wch.move(h:Wch n S){k l x:Int}{p:Pr}(hp:lk S.prs k=some p)(l0:l≠0)(hl:p.x=l∨p.y=l)(hx:x∈p.lits)(h1:x≠l)(h2:x≠nJ l p):Wch n (pq S k l p x):=by
 have hk:k∉S.late.map (·.1):=fun hk=>by
  obtain⟨z1,z2⟩:=h.zer hp hk;rw[z1,z2]at hl;omega
 obtain⟨x0,y0,hxy,hpx,hpy⟩:=h.pos hp hk;have hz:x≠0:=fun e=>by
  have:=(h.lits k p hp).2.2.2 x hx;rw[e]at this;unfold ax rK at this;split at this
  ·omega
  ·simp at this
 have hkeys:∀q:Pr,(pt S.prs k q).map (·.1)=S.prs.map (·.1):=fun q=>gT _ hp;have hM:(ib l p x).lits=p.lits∧(ib l p x).x≠(ib l p x).y∧(ib l p x).x∈p.lits∧(ib l p x).y∈p.lits∧∀m,((ib l p x).x=m∨(ib l p x).y=m)↔(x=m∨(m≠l∧(p.x=m∨p.y=m))):=by
  unfold ib;unfold nJ at h2
  by_cases c:p.x=l
  ·rw[if_pos c]at h2⊢;refine⟨rfl,h2,hx,hpy,fun m=>?_⟩;show(x=m∨p.y=m)↔_;constructor
   ·rintro(e|e)
    ·exact .inl e
    ·exact .inr ⟨fun q=>hxy (by rw[c,e,q]),.inr e⟩
   ·rintro(e|⟨e1,e|e⟩)
    ·exact .inl e
    ·exact absurd (e.symm.trans c) e1
    ·exact .inr e
  ·rw[if_neg c]at h2⊢;have hy:p.y=l:=hl.elim (fun e=>absurd e c) id;refine⟨rfl,fun e=>h2 e.symm,hpx,hx,fun m=>?_⟩;show(p.x=m∨x=m)↔_;constructor
   ·rintro(e|e)
    ·exact .inr ⟨fun q=>c (e.trans q),.inl e⟩
    ·exact .inl e
   ·rintro(e|⟨e1,e|e⟩)
    ·exact .inr e
    ·exact .inl e
    ·exact absurd (e.symm.trans hy) e1
 obtain⟨m1,m2,m3,m4,m5⟩:=hM;refine⟨?_,?_,h.lnd,?_,?_,?_,?_⟩
 ·show((pt S.prs k _).map (·.1)).Nodup;rw[hkeys];exact h.nd
 ·intro j q hq;have hq:lk (pt S.prs k (ib l p x)) j=some q:=hq
  by_cases e:j=k
  ·subst e;rw[dD]at hq;cases hq;rw[m1];exact h.lits j p hp
  ·rw[dL e]at hq;exact h.lits j q hq
 ·intro j hj;show∃q,lk (pt S.prs k (ib l p x)) j=some q
  by_cases e:j=k
  ·subst e;exact⟨_,dD⟩
  ·rw[dL e];exact h.lpr j hj
 ·intro j q hq;have hq:lk (pt S.prs k (ib l p x)) j=some q:=hq
  by_cases e:j=k
  ·subst e;rw[dD]at hq;cases hq;rw[m1];exact .inr ⟨hk,m2,m3,m4⟩
  ·rw[dL e]at hq;exact h.two j q hq
 ·intro m;refine uM (fun m=>uL h.bnd k l m) ?_ m;rw[nO,h.mem];rintro⟨⟨_,q,hq,c⟩,_⟩;rw[hp]at hq;cases hq
  unfold nJ at h2
  by_cases d:p.x=l
  ·rw[if_pos d]at h2;rcases c with c|c
   ·exact h1 (c.symm.trans d)
   ·exact h2 c.symm
  ·rw[if_neg d]at h2;rcases c with c|c
   ·exact h2 c.symm
   ·exact h1 (c.symm.trans (hl.elim (fun e=>absurd e d) id))
 ·intro m j;show j∈bF (fH (eI S.byl k l) k x) m↔m≠0∧∃q,lk (pt S.prs k (ib l p x)) j=some q∧_;rw[nP,nO,h.mem]
  by_cases e:j=k
  ·subst e;rw[dD];constructor
   ·rintro(⟨⟨m0,q,hq,c⟩,d⟩|⟨c,_⟩)
    ·rw[hp]at hq;cases hq
     exact⟨m0,_,rfl,(m5 m).2 (.inr ⟨fun z=>d ⟨l0,z,rfl⟩,c⟩)⟩
    ·rw[c];exact⟨hz,_,rfl,(m5 x).2 (.inl rfl)⟩
   ·rintro⟨m0,q,hq,c⟩;cases hq
    rcases(m5 m).1 c with c|⟨c1,c2⟩
    ·exact .inr ⟨c.symm,rfl⟩
    ·exact .inl ⟨⟨m0,p,hp,c2⟩,fun z=>c1 z.2.1⟩
  ·rw[dL e];constructor
   ·rintro(⟨c,_⟩|⟨_,c⟩)
    ·exact c
    ·exact absurd c e
   ·exact fun c=>.inl ⟨c,fun z=>e z.2.2⟩
theorem Wch.put(h:Wch n S){k:Int}(hk:k∉S.prs.map (·.1))(k0:0≤k∧k≤20000000){lits:List Int}(hn:lits.Nodup)(hl:lits.length≤1000)(hc:∀y∈lits,ax y n=0)(v:Int):Wch n ⟨pt S.prs k ⟨lits,0,0⟩,S.byl,pt S.late k v,S.head,S.seen⟩:=by
 have hno:lk S.prs k=none:=by
  cases hq:lk S.prs k with
  |none=>rfl
  |some p=>exact absurd (oF hq) hk
 have hlk:∀j,j∈(pt S.late k v).map (·.1)↔j=k∨j∈S.late.map (·.1):=fun j=>lm _ _ _ _;refine⟨iY _ _ _ h.nd,?_,iY _ _ _ h.lnd,?_,?_,h.bnd,?_⟩
 ·intro j q hq;have hq:lk (pt S.prs k ⟨lits,0,0⟩) j=some q:=hq
  by_cases e:j=k
  ·subst e;rw[dD]at hq;cases hq;exact⟨k0,hn,hl,hc⟩
  ·rw[dL e]at hq;exact h.lits j q hq
 ·intro j hj;show∃q,lk (pt S.prs k ⟨lits,0,0⟩) j=some q
  by_cases e:j=k
  ·subst e;exact⟨_,dD⟩
  ·rw[dL e];rcases(hlk j).1 hj with c|c
   ·exact absurd c e
   ·exact h.lpr j c
 ·intro j q hq;have hq:lk (pt S.prs k ⟨lits,0,0⟩) j=some q:=hq;show(j∈(pt S.late k v).map (·.1)∧_)∨(j∉(pt S.late k v).map (·.1)∧_);rw[hlk]
  by_cases e:j=k
  ·subst e;rw[dD]at hq;cases hq;exact .inl ⟨.inl rfl,rfl,rfl⟩
  ·rw[dL e]at hq;rcases h.two j q hq with⟨a,b⟩|⟨a,b⟩
   ·exact .inl ⟨.inr a,b⟩
   ·exact .inr ⟨fun c=>c.elim e a,b⟩
 ·intro m j;show j∈bF S.byl m↔m≠0∧∃q,lk (pt S.prs k ⟨lits,0,0⟩) j=some q∧_;rw[h.mem]
  by_cases e:j=k
  ·subst e;rw[dD,hno];constructor
   ·rintro⟨_,q,hq,_⟩;cases hq
   ·rintro⟨m0,q,hq,c⟩;cases hq
    simp at c;exact absurd c.symm m0
  ·rw[dL e]
end
inductive Grow (C:Int→List Int→Prop) (n:Nat) (T0:Tr):Tr→Prop
  |refl:Grow C n T0 T0
  |step {T:Tr} {k o:Int} {c:List Int}:Grow C n T0 T→C k c→o∈c→eW T o=0→0≤k→(∀y∈c,y≠o→-y∈T.lits)→Grow C n T0 (fW T o k)
theorem Grow.trans{C:Int→List Int→Prop}{n:Nat}{T0 T1 T2:Tr}(a:Grow C n T0 T1)(b:Grow C n T1 T2):Grow C n T0 T2:=by
 induction b with
 |refl=>exact a
 |step _ h1 h2 h3 h4 h5 ih=>exact .step ih h1 h2 h3 h4 h5
theorem Grow.mono{C C':Int→List Int→Prop}{n:Nat}{T0 T1:Tr}(h:∀k c,C k c→C' k c)(a:Grow C n T0 T1):Grow C' n T0 T1:=by
 induction a with
 |refl=>exact .refl
 |step _ h1 h2 h3 h4 h5 ih=>exact .step ih (h _ _ h1) h2 h3 h4 h5
theorem Grow.pre{C:Int→List Int→Prop}{n:Nat}{T0 T1:Tr}(a:Grow C n T0 T1):T0.lits<+:T1.lits∧T1.beg=T0.beg:=by
 induction a with
 |refl=>exact⟨List.prefix_refl _,rfl⟩
 |step _ h1 h2 h3 h4 h5 ih=>exact⟨ih.1.trans (List.prefix_append _ _),ih.2⟩
def CW(S:WS)(k:Int)(c:List Int):Prop:=∃p,lk S.prs k=some p∧p.lits=c
structure SameL (S S':WS):Prop where
  keys:S'.prs.map (·.1)=S.prs.map (·.1)
  lits:∀k c,CW S' k c↔CW S k c
theorem SameL.refl(S:WS):SameL S S:=⟨rfl,fun _ _=>Iff.rfl⟩
theorem SameL.trans{S S' S2:WS}(a:SameL S S')(b:SameL S' S2):SameL S S2:=⟨b.keys.trans a.keys,fun k c=>(b.lits k c).trans (a.lits k c)⟩
theorem SameL.pt{S:WS}{k:Int}{p q:Pr}(hp:lk S.prs k=some p)(hq:q.lits=p.lits)(byl:List (Int×List Int))(late:List (Int×Int))(hd:Int)(sn:List Int):SameL S ⟨Go.AX.pt S.prs k q,byl,late,hd,sn⟩where
 keys:=gT _ hp
 lits:=fun j c=>by
  unfold CW;show(∃p',lk (Go.AX.pt S.prs k q) j=some p'∧_)↔_
  by_cases e:j=k
  ·subst e;rw[dD,hp];constructor
   ·rintro⟨_,a,b⟩;cases a;exact⟨p,rfl,hq▸b⟩
   ·rintro⟨_,a,b⟩;cases a;exact⟨q,rfl,hq.trans b⟩
  ·rw[dL e]
structure Pro (n:Nat) (S0:WS) (T0:Tr) (S:WS) (T:Tr):Prop where
  wch:Wch n S
  tok:TOk n T
  same:SameL S0 S
  grow:Grow (CW S0) n T0 T
  head:S.head=S0.head
  seen:S.seen=S0.seen
def ml(S:WS)(P:List Int):Prop:=∀y∈P,bF S.byl (-y)=[]
def lr(S:WS)(T:Tr)(k:Int):Prop:=∀p,lk S.prs k=some p→∃x∈p.lits,x∈T.lits
theorem lr.up{S S':WS}{T T':Tr}{k:Int}(h:lr S T k)(hs:SameL S S')(hT:∀x∈T.lits,x∈T'.lits):lr S' T' k:=fun p hp=>by
 obtain⟨q,hq,e⟩:=(hs.lits k p.lits).1 ⟨p,hp,rfl⟩;obtain⟨x,hx,hx2⟩:=h q hq;exact⟨x,e▸hx,hT x hx2⟩
section
variable {n : Nat}
theorem rh{T:Tr}(hT:TMk n T){lits:List Int}(hl:∀y∈lits,ax y n=0){x:Int}:x∈d6 T lits↔x∈lits∧-x∉T.lits:=by
 unfold d6;rw[List.mem_filter];constructor
 ·rintro⟨a,b⟩;refine⟨a,fun c=>?_⟩;have:=(hT.valm (hl x a)).2 c;simp[this]at b
 ·rintro⟨a,b⟩;refine⟨a,?_⟩;have h1:=hT.val (hl x a);rw[if_neg b]at h1;split at h1<;>simp[h1]
theorem ED{T:Tr}{lits:List Int}(h:lits.Nodup):(d6 T lits).Nodup:=h.sublist List.filter_sublist
theorem EE{T:Tr}(hT:TMk n T){lits:List Int}(hl:∀y∈lits,ax y n=0):jS T lits=true↔∃x∈lits,x∈T.lits:=by
 unfold jS;rw[List.any_eq_true];constructor
 ·rintro⟨x,hx,e⟩;exact⟨x,hx,(hT.val1 (hl x hx)).1 (by simpa using e)⟩
 ·rintro⟨x,hx,e⟩;exact⟨x,hx,by simpa using(hT.val1 (hl x hx)).2 e⟩
theorem Av{T:Tr}(hT:TMk n T){p:Pr}(hl:∀y∈p.lits,ax y n=0):ll T p=true↔∀y∈p.lits,-y∈T.lits:=by
 unfold ll;rw[decide_eq_true_eq,List.length_eq_zero_iff,List.eq_nil_iff_forall_not_mem];constructor
 ·intro h y hy;apply Classical.byContradiction;intro hc;exact h y ((rh hT hl).2 ⟨hy,hc⟩)
 ·intro h y hy;obtain⟨a,b⟩:=(rh hT hl).1 hy;exact b (h y a)
theorem Pro.fresh{S0 S:WS}{T0 T:Tr}(h:Pro n S0 T0 S T){k:Int}{p:Pr}(hp:lk S.prs k=some p)(hk:k∈S.late.map (·.1))(hb:ll T p=false):
 Pro n S0 T0 (iJ S T k p) (j0 T k p)∧(∀j,j∈(iJ S T k p).late.map (·.1)→j∈S.late.map (·.1))∧(∀j,j∈S.late.map (·.1)→j≠k→j∈(iJ S T k p).late.map (·.1))∧(k∈(iJ S T k p).late.map (·.1)→lr (iJ S T k p) (j0 T k p) k)∧SameL S (iJ S T k p)∧Grow (CW S0) n T (j0 T k p)∧
 (∀y,y∈T.lits→bF (iJ S T k p).byl (-y)=bF S.byl (-y)):=by
 obtain⟨k0,hnd,hlen,hl⟩:=h.wch.lits k p hp;have hin:=fun x=>rh (x:=x) h.tok.toTMk hl;have hO:=ED (T:=T) hnd;have hH:=EE h.tok.toTMk hl;unfold iJ j0;unfold ll at hb;generalize d6 T p.lits=O at*;rcases O with _|⟨a,_|⟨b,O⟩⟩
 ·simp at hb
 ·rw[if_neg (by simp)];obtain⟨a1,a2⟩:=(hin a).1 (List.mem_cons_self ..);cases hd:jS T p.lits
  ·rw[if_pos ⟨rfl,rfl⟩];have hna:a∉T.lits:=fun e=>by rw[hH.2 ⟨a,a1,e⟩]at hd;cases hd
   have hm:eW T a=0:=(h.tok.may a).2 ⟨hl a a1,hna,a2⟩;have hI:jx T a k=fW T a k:=by
    have hE:yg T a k=0:=by
     unfold yg;rw[if_neg (by simp[hm]),if_neg (by omega)]
    unfold jx;rw[if_pos hE]
   have hc:CW S0 k p.lits:=(h.same.lits _ _).1 ⟨p,hp,rfl⟩;have ho:∀y∈p.lits,y≠a→-y∈T.lits:=fun y hy hne=>by
    apply Classical.byContradiction;intro hc;have:=(hin y).2 ⟨hy,hc⟩;simp at this;exact hne this
   rw[List.getD_cons_zero,hI];have hg:Grow (CW S0) n T (fW T a k):=.step .refl hc a1 hm k0.1 ho;refine⟨⟨h.wch,h.tok.imp hm k,h.same,h.grow.trans hg,h.head,h.seen⟩,fun _ hj=>hj,fun _ hj _=>hj,fun _=>?_,SameL.refl _,hg,fun _ _=>rfl⟩;intro q hq;rw[hp]at hq;cases hq
   exact⟨a,a1,List.mem_append_right _ (by simp)⟩
  ·rw[if_neg (by simp)];refine⟨h,fun _ hj=>hj,fun _ hj _=>hj,fun _=>?_,SameL.refl _,.refl,fun _ _=>rfl⟩;intro q hq;rw[hp]at hq;cases hq
   exact hH.1 hd
 ·rw[if_pos (by simp),if_neg (by simp)];simp only[List.getD_cons_zero,List.getD_cons_succ];obtain⟨a1,a2⟩:=(hin a).1 (List.mem_cons_self ..);obtain⟨b1,b2⟩:=(hin b).1 (by simp);have hab:a≠b:=fun e=>by
   rw[List.nodup_cons]at hO;exact hO.1 (by rw[e];simp)
  have hW:=h.wch.watch hp hk hab a1 b1;have hS:SameL S ⟨pt S.prs k ⟨p.lits,a,b⟩,fH (fH S.byl k a) k b,dl S.late k,S.head,S.seen⟩:=SameL.pt (q:=⟨p.lits,a,b⟩) hp rfl _ _ _ _;refine⟨⟨hW,h.tok,h.same.trans hS,h.grow,h.head,h.seen⟩,fun j hj=>((pQ h.wch.lnd k j).1 hj).1,fun j hj hne=>(pQ h.wch.lnd k j).2 ⟨hj,hne⟩,fun hj=>absurd rfl ((pQ h.wch.lnd k k).1 hj).2,hS,.refl,fun y hy=>?_⟩;show bF (fH (fH S.byl k a) k b) (-y)=_;rw[lP,if_neg (fun e=>b2 (by rw[←e,Int.neg_neg];exact hy)),lP,if_neg (fun e=>a2 (by rw[←e,Int.neg_neg];exact hy))]
structure JL (n:Nat) (S0:WS) (T0:Tr) (P:List Int) (ks:List Int) (S:WS) (T:Tr):Prop extends Pro n S0 T0 S T where
  clr:ml S P
  sub':∀y∈P,y∈T.lits
  knd:ks.Nodup
  kin:∀k∈ks,k∈S.late.map (·.1)
  all:∀k∈S.late.map (·.1),k∈ks∨lr S T k
theorem JL.step{S0 S:WS}{T0 T:Tr}{P ks:List Int}{k:Int}(h:JL n S0 T0 P (k::ks) S T){p:Pr}(hp:lk S.prs k=some p)(hb:ll T p=false):JL n S0 T0 P ks (iJ S T k p) (j0 T k p):=by
 obtain⟨f1,f2,f3,f4,f5,f6,f7⟩:=h.toPro.fresh hp (h.kin k (List.mem_cons_self ..)) hb;have hn:=List.nodup_cons.1 h.knd;exact{f1 with
  clr:=fun y hy=>by rw[f7 y (h.sub' y hy)];exact h.clr y hy
  sub':=fun y hy=>f6.pre.1.subset (h.sub' y hy)
  knd:=hn.2
  kin:=fun j hj=>f3 j (h.kin j (List.mem_cons_of_mem _ hj)) fun e=>hn.1 (e▸hj)
  all:=fun j hj=>by
   rcases h.all j (f2 j hj)with c|c
   ·rcases List.mem_cons.1 c with rfl|c
    ·exact .inr (f4 hj)
    ·exact .inl c
   ·exact .inr (c.up f5 fun x hx=>f6.pre.1.subset hx)}
def oW(S:WS)(T:Tr)(k:Int):Prop:=0≤k∧∃p,lk S.prs k=some p∧∀y∈p.lits,-y∈T.lits
theorem Aw{S0:WS}{T0:Tr}{P:List Int}:∀{ks:List Int}{S:WS}{T:Tr},JL n S0 T0 P ks S T→
 ((gi ks S T).2.2=-1∧JL n S0 T0 P [] (gi ks S T).1 (gi ks S T).2.1)∨(0≤(gi ks S T).2.2∧Pro n S0 T0 (gi ks S T).1 (gi ks S T).2.1∧ml (gi ks S T).1 P∧(∀y∈P,y∈(gi ks S T).2.1.lits)∧oW (gi ks S T).1 (gi ks S T).2.1 (gi ks S T).2.2)
 |[],S,T,h=>.inl ⟨rfl,h⟩
 |k::ks,S,T,h=>by
  obtain⟨p,hp⟩:=h.wch.lpr k (h.kin k (List.mem_cons_self ..));obtain⟨k0,_,_,hl⟩:=h.wch.lits k p hp;rw[gi,hp];simp only;cases hb:ll T p
  ·rw[if_neg (by simp)];exact Aw (h.step hp hb)
  ·rw[if_pos rfl];exact .inr ⟨k0.1,h.toPro,h.clr,h.sub',k0.1,p,hp,(Av h.tok.toTMk hl).1 hb⟩
structure JF (n:Nat) (S0:WS) (T0:Tr) (P:List Int) (l:Int) (zs:List Int) (S:WS) (T:Tr):Prop extends Pro n S0 T0 S T where
  clr:ml S P
  sub':∀y∈P,y∈T.lits
  by':bF S.byl l=zs
  fail:-l∈T.lits
  held:∀k∈S.late.map (·.1),lr S T k
theorem JF.look{S0 S:WS}{T0 T:Tr}{P zs:List Int}{l k:Int}(h:JF n S0 T0 P l (k::zs) S T):∃p,lk S.prs k=some p∧l≠0∧(p.x=l∨p.y=l)∧k∉S.late.map (·.1):=by
 have hk:k∈bF S.byl l:=by rw[h.by'];exact List.mem_cons_self ..
 obtain⟨l0,p,hp,hl⟩:=(h.wch.mem l k).1 hk;exact⟨p,hp,l0,hl,fun hc=>h.wch.nby hp hc l hk⟩
theorem oG{k:Int}{zs:List Int}(h:(k::zs).Nodup):aU (fun x=>decide (x=k)) (k::zs)=zs:=by
 have hn:=List.nodup_cons.1 h;unfold aU;rw[List.filter_cons,if_neg (by simp),List.filter_eq_self];intro x hx;have:x≠k:=fun e=>hn.1 (e▸hx);simp[this]
theorem ga{byl:List (Int×List Int)}{k l m:Int}(h:bF byl m=[]):bF (eI byl k l) m=[]:=by
 rw[iB];split
 ·rename_i c;rw[←c.2,h];rfl
 ·exact h
theorem G6{l:Int}{p:Pr}(hxy:p.x≠p.y)(hl:p.x=l∨p.y=l):(p.x=l∧nJ l p=p.y∧p.y≠l)∨(p.y=l∧nJ l p=p.x∧p.x≠l):=by
 unfold nJ
 by_cases c:p.x=l
 ·rw[if_pos c];exact .inl ⟨c,rfl,fun e=>hxy (c.trans e.symm)⟩
 ·rw[if_neg c];exact .inr ⟨hl.elim (fun e=>absurd e c) id,rfl,c⟩
theorem JF.step{S0 S:WS}{T0 T:Tr}{P zs:List Int}{l k:Int}(h:JF n S0 T0 P l (k::zs) S T){p:Pr}(hp:lk S.prs k=some p)(hb:oE T l p=false):JF n S0 T0 P l zs (mX S T l k p) (nL T l k p):=by
  obtain⟨q,hq,l0,hl,hk⟩:=h.look
  rw[hp]at hq
  cases hq
  obtain⟨x0,y0,hxy,hpx,hpy⟩:=h.wch.pos hp hk
  obtain⟨k0,hnd,hlen,hchk⟩:=h.wch.lits k p hp
  have hnz:(k::zs).Nodup:=by rw[←h.by'];exact h.wch.bnd l
  unfold mX nL
  unfold oE at hb
  cases hpk:lp T l p with
  |some x=>
    unfold lp at hpk
    have hx:=List.mem_of_find?_eq_some hpk
    have ho:=List.find?_some hpk
    unfold IL at ho
    simp only[Bool.and_eq_true,decide_eq_true_eq]at ho
    obtain⟨o1,o2,o3⟩:=ho
    have hW:=h.wch.move hp l0 hl hx o1 o2
    have hM:(ib l p x).lits=p.lits:=by unfold ib;split<;>rfl
    have hS:SameL S (pq S k l p x):=SameL.pt hp hM _ _ _ _
    have hnx:-x∉T.lits:=fun e=>by
      have:=(h.tok.valm (hchk x hx)).2 e
      omega
    exact { wch := hW, tok := h.tok, same := h.same.trans hS, grow := h.grow, head := h.head, seen := h.seen
            clr:=fun y hy=>by
              show bF (fH (eI S.byl k l) k x) (-y)=[]
              rw[lP,if_neg (fun e=>hnx (by rw[←e,Int.neg_neg];exact h.sub' y hy))]
              exact ga (h.clr y hy)
            sub':=h.sub'
            by':=by
              show bF (fH (eI S.byl k l) k x) l=zs
              rw[lP,if_neg (fun e=>o1 e.symm),iB,if_pos ⟨l0,rfl⟩,h.by',oG hnz]
            fail:=h.fail
            held:=fun j hj=>(h.held j hj).up hS fun _ hx=>hx}
  |none=>
    rw[hpk]at hb
    simp only at hb⊢
    have hL:=h.wch.toLate hp hk (aM ((lk S.late k).getD 0+1))
    have hS1:SameL S (jT (lj S k p) k):=SameL.pt (q:=⟨p.lits,0,0⟩) hp rfl _ _ _ _
    have hP1:Pro n S0 T0 (jT (lj S k p) k) T:=⟨hL,h.tok,h.same.trans hS1,h.grow,h.head,h.seen⟩
    have hlk:∀j,j∈(jT (lj S k p) k).late.map (·.1)↔j=k∨j∈S.late.map (·.1):=fun j=>lm _ _ _ _
    have hp1:lk (jT (lj S k p) k).prs k=some (nK p):=dD
    obtain⟨f1,f2,f3,f4,f5,f6,f7⟩:=hP1.fresh hp1 ((hlk k).2 (.inl rfl)) hb
    have hby:bF (jT (lj S k p) k).byl l=zs:=by
      show bF (eI (eI S.byl k p.x) k p.y) l=zs
      rcases G6 hxy hl with⟨c,_,d⟩|⟨c,_,d⟩
      · rw[iB,if_neg (fun e=>d e.2.symm),iB,if_pos ⟨x0,c.symm⟩,c,h.by',oG hnz]
      · rw[iB,if_pos ⟨y0,c.symm⟩,c,iB,if_neg (fun e=>d e.2.symm),h.by',oG hnz]
    have hsub:∀y∈T.lits,y∈(j0 T k (nK p)).lits:=fun y hy=>f6.pre.1.subset hy
    exact{f1 with
      clr:=fun y hy=>by
        rw[f7 y (h.sub' y hy)]
        exact ga (ga (h.clr y hy))
      sub':=fun y hy=>hsub y (h.sub' y hy)
      by':=by
        have:=f7 (-l) h.fail
        rw[Int.neg_neg]at this
        rw[this];exact hby
      fail:=hsub _ h.fail
      held:=fun j hj=>by
        rcases(hlk j).1 (f2 j hj)with rfl|c
        · exact f4 hj
        · exact((h.held j c).up (hS1.trans f5) hsub)}
theorem JF.bad{S0 S:WS}{T0 T:Tr}{P zs:List Int}{l k:Int}(h:JF n S0 T0 P l (k::zs) S T){p:Pr}(hp:lk S.prs k=some p)(hb:oE T l p=true):
 Pro n S0 T0 (mX S T l k p) (nL T l k p)∧ml (mX S T l k p) P∧nL T l k p=T∧oW (mX S T l k p) T k:=by
 obtain⟨q,hq,l0,hl,hk⟩:=h.look;rw[hp]at hq;cases hq
 obtain⟨k0,hnd,hlen,hchk⟩:=h.wch.lits k p hp;unfold mX nL;unfold oE at hb;cases hpk:lp T l p with
 |some x=>rw[hpk]at hb;cases hb
 |none=>
  rw[hpk]at hb;simp only at hb⊢;have hO:=hb;unfold ll at hO;rw[decide_eq_true_eq]at hO;have e1:iJ (jT (lj S k p) k) T k (nK p)=jT (lj S k p) k:=by unfold iJ;rw[if_neg (by omega)]
  have e2:j0 T k (nK p)=T:=by unfold j0;rw[if_neg (by omega)]
  rw[e1,e2];have hL:=h.wch.toLate hp hk (aM ((lk S.late k).getD 0+1));have hS1:SameL S (jT (lj S k p) k):=SameL.pt (q:=⟨p.lits,0,0⟩) hp rfl _ _ _ _;have hp1:lk (jT (lj S k p) k).prs k=some (nK p):=dD;exact⟨⟨hL,h.tok,h.same.trans hS1,h.grow,h.head,h.seen⟩,fun y hy=>ga (ga (h.clr y hy)),rfl,k0.1,_,hp1,(Av (p:=nK p) h.tok.toTMk hchk).1 hb⟩
theorem Ax{S0:WS}{T0:Tr}{P:List Int}{l:Int}:∀{zs:List Int}{S:WS}{T:Tr},JF n S0 T0 P l zs S T→
 ((f9 l zs S T).2.2=-1∧JF n S0 T0 P l [] (f9 l zs S T).1 (f9 l zs S T).2.1)∨(0≤(f9 l zs S T).2.2∧Pro n S0 T0 (f9 l zs S T).1 (f9 l zs S T).2.1∧ml (f9 l zs S T).1 P∧(∀y∈P,y∈(f9 l zs S T).2.1.lits)∧oW (f9 l zs S T).1 (f9 l zs S T).2.1 (f9 l zs S T).2.2)
 |[],S,T,h=>.inl ⟨rfl,h⟩
 |k::zs,S,T,h=>by
  obtain⟨p,hp,_⟩:=h.look;rw[f9,hp];simp only;cases hb:oE T l p
  ·rw[if_neg (by simp)];exact Ax (h.step hp hb)
  ·rw[if_pos rfl];obtain⟨b1,b2,b3,b4⟩:=h.bad hp hb;exact .inr ⟨b4.1,b1,b2,fun y hy=>by rw[b3];exact h.sub' y hy,by rw[b3];exact b4⟩
end
structure JC (n:Nat) (S0:WS) (T0:Tr) (S:WS) (T:Tr):Prop where
  wch:Wch n S
  tok:TOk n T
  same:SameL S0 S
  grow:Grow (CW S0) n T0 T
  seen:S.seen=S0.seen
  h0:0≤S.head
  h1:S.head≤T.lits.length
  clr:ml S (T.lits.take S.head.toNat)
structure JP (n:Nat) (S0:WS) (T0:Tr) (S:WS) (T:Tr):Prop extends JC n S0 T0 S T where
  held:∀k∈S.late.map (·.1),lr S T k
section
variable {n : Nat} {S0 : WS} {T0 : Tr}
theorem CW.same{S S':WS}(h:SameL S S'){n:Nat}{T T':Tr}(g:Grow (CW S') n T T'):Grow (CW S) n T T':=g.mono fun k c hc=>(h.lits k c).1 hc
theorem SameL.len{S S':WS}(h:SameL S S'):S'.prs.length=S.prs.length:=by
 have:=congrArg List.length h.keys;simpa using this
theorem rk{l l':List Int}(h:l<+:l'){k:Nat}(hk:k≤l.length):l'.take k=l.take k:=by
 obtain⟨t,rfl⟩:=h;exact List.take_append_of_le_length hk
theorem JP.neg{S:WS}{T:Tr}(h:JP n S0 T0 S T)(hd:S.head<T.lits.length):∃i:Nat,∃hi:i<T.lits.length,S.head=i∧du T S=-T.lits[i]:=by
 have h0:=h.h0;refine⟨S.head.toNat,by omega,by omega,?_⟩;have hi:S.head.toNat<T.lits.length:=by omega
 unfold du;rw[List.getD_eq_getElem?_getD,List.getElem?_eq_getElem hi,Option.getD_some];exact(bQ h.tok.hn (h.tok.chk _ (List.getElem_mem hi))).2.2.2.2.2.2.2
theorem JP.begin{S:WS}{T:Tr}(h:JP n S0 T0 S T){i:Nat}(hi:i<T.lits.length)(hh:S.head=i):JF n S T (T.lits.take i) (-T.lits[i]) (bF S.byl (-T.lits[i])) S T:=
  { wch := h.wch, tok := h.tok, same := SameL.refl _, grow := .refl, head := rfl, seen := rfl
    clr:=by have:=h.clr;rw[hh]at this;exact this
    sub':=fun y hy=>List.mem_of_mem_take hy
    by':=rfl
    fail:=by rw[Int.neg_neg];exact List.getElem_mem hi
    held:=h.held}
theorem G8(S:WS)(T:Tr)(l:Int):eX S T l=f9 l (bF S.byl l) S T:=by
 unfold eX bF;cases lk S.byl l with
 |none=>rfl
 |some zs=>rfl
theorem EH{S:WS}{i:Nat}(h:S.head=i)(hi:i<1000000):IM S=⟨S.prs,S.byl,S.late,((i+1:Nat):Int),S.seen⟩:=by
 unfold IM;rw[h,ah (by omega) (by omega)];rfl
theorem JP.go{S:WS}{T:Tr}(h:JP n S0 T0 S T)(hd:S.head<T.lits.length):
    ((eX S T (du T S)).2.2=-1∧JP n S0 T0 (IM (eX S T (du T S)).1) (eX S T (du T S)).2.1∧(eX S T (du T S)).1.head=S.head∧T.lits<+:(eX S T (du T S)).2.1.lits)∨
    (0≤(eX S T (du T S)).2.2∧JC n S0 T0 (eX S T (du T S)).1 (eX S T (du T S)).2.1∧oW (eX S T (du T S)).1 (eX S T (du T S)).2.1 (eX S T (du T S)).2.2):=by
  obtain⟨i,hi,hh,hn⟩:=h.neg hd
  have hfew:=h.tok.few
  have hn5:=h.tok.hn
  rw[hn,G8]
  rcases Ax (h.begin hi hh)with⟨r1,r2⟩|⟨r1,r2,r3,r4,r5⟩
  · left
    generalize f9 (-T.lits[i]) (bF S.byl (-T.lits[i])) S T=R at*
    have hpre:=r2.grow.pre.1
    have hhd:R.1.head=i:=r2.head.trans hh
    rw[EH hhd (by omega)]
    refine⟨r1,?_,r2.head,hpre⟩
    have hle:=hpre.length_le
    exact { wch := ⟨r2.wch.nd, r2.wch.lits, r2.wch.lnd, r2.wch.lpr, r2.wch.two, r2.wch.bnd, r2.wch.mem⟩
            tok:=r2.tok,same:=h.same.trans ⟨r2.same.keys,r2.same.lits⟩,grow:=h.grow.trans (CW.same h.same r2.grow),seen:=r2.seen.trans h.seen
            h0:=by show(0:Int)≤((i+1:Nat):Int);omega
            h1:=by show((i+1:Nat):Int)≤_;omega
            clr:=by
              show ml _ (R.2.1.lits.take ((i+1:Nat):Int).toNat)
              rw[show((i+1:Nat):Int).toNat=i+1 by omega,rk hpre (by omega),List.take_add_one,List.getElem?_eq_getElem hi]
              intro y hy
              rcases List.mem_append.1 hy with hy|hy
              · exact r2.clr y hy
              · simp at hy;rw[hy];exact r2.by'
            held:=r2.held}
  · right
    generalize f9 (-T.lits[i]) (bF S.byl (-T.lits[i])) S T=R at*
    have hpre:=r2.grow.pre.1
    have hle:=hpre.length_le
    refine⟨r1,?_,r5⟩
    have hhd:R.1.head=i:=r2.head.trans hh
    exact { wch := r2.wch, tok := r2.tok, same := h.same.trans r2.same, grow := h.grow.trans (CW.same h.same r2.grow), seen := r2.seen.trans h.seen
            h0:=by omega,h1:=by omega
            clr:=by rw[hhd,show(i:Int).toNat=i by omega,rk hpre (by omega)];exact r3}
theorem Ay:∀{m:Nat}{S:WS}{T:Tr},JP n S0 T0 S T→1000001≤S.head+m→
 ((jF m S T).2.2=-1∧JP n S0 T0 (jF m S T).1 (jF m S T).2.1∧(jF m S T).1.head=(jF m S T).2.1.lits.length)∨
 (0≤(jF m S T).2.2∧JC n S0 T0 (jF m S T).1 (jF m S T).2.1∧oW (jF m S T).1 (jF m S T).2.1 (jF m S T).2.2)
 |0,S,T,h,hm=>by
  have:=h.h1;have:=h.tok.few;have:=h.tok.hn;omega
 |m+1,S,T,h,hm=>by
  rw[jF]
  by_cases hd:S.head<T.lits.length
  ·rw[if_pos hd];rcases h.go hd with⟨r1,r2,r3,r4⟩|⟨r1,r2,r3⟩
   ·rw[if_neg (by omega)];refine Ay r2 ?_;obtain⟨i,hi,hh,_⟩:=h.neg hd;have:=h.tok.few;have:=h.tok.hn;rw[EH (r3.trans hh) (by omega)];show 1000001≤((i+1:Nat):Int)+m;omega
   ·rw[if_pos r1];exact .inr ⟨r1,r2,r3⟩
  ·rw[if_neg hd];have:=h.h1;exact .inl ⟨rfl,h,by show S.head=T.lits.length;omega⟩
theorem JF.stepOk{P zs:List Int}{l k:Int}{S:WS}{T:Tr}(h:JF n S0 T0 P l (k::zs) S T)(hf:S.prs.length≤1000000):∃p,StepOk S T l k p:=by
 obtain⟨p,hp,l0,hl,hk⟩:=h.look;obtain⟨x0,y0,hxy,hpx,hpy⟩:=h.wch.pos hp hk;have hne:∀m:Int,m≠0→(p.x=m∨p.y=m)→∃zs,lk S.byl m=some zs∧zs≠[]:=fun m m0 hm=>by
  obtain⟨zs,e,hz⟩:=h.wch.entry hp m0 hm;exact⟨zs,e,fun q=>by rw[q]at hz;cases hz⟩
 have:=h.tok.few;have:=h.tok.hn;refine⟨p,hp,l0,hl,by have:=(h.wch.lits k p hp).2.2.1;omega,hne l l0 hl,fun _=>hne _ x0 (.inl rfl),fun _=>?_,h.wch.hz hf,h.tok.okT,by omega⟩;obtain⟨zs,e,hz⟩:=hne _ y0 (.inr rfl);refine⟨zs,?_,hz⟩;unfold eI;rw[if_neg x0,bz,if_neg hxy];exact e
theorem Lj(hf:S0.prs.length≤1000000):ProOk (JP n S0 T0)where
 ok:=fun S T h=>by
  have:=h.tok.few;have:=h.tok.hn;exact⟨h.tok.okT,by omega,h.h0,h.h1⟩
 step:=fun S T h hd zs hzs=>by
  obtain⟨i,hi,hh,hn⟩:=h.neg hd;have hfS:S.prs.length≤1000000:=by rw[h.same.len];exact hf
  refine⟨h.wch.hz hfS _ _ hzs,fun j S' T'=>JF n S T (T.lits.take i) (du T S) (zs.drop j) S' T',?_,fun j S' T' hj hjl=>?_⟩
  ·show JF n S T (T.lits.take i) (du T S) zs S T;rw[←Au hzs,hn];exact h.begin hi hh
  ·have hj:JF n S T (T.lits.take i) (du T S) (zs.drop j) S' T':=hj;rw[List.drop_eq_getElem_cons hjl]at hj;obtain⟨p,hS⟩:=hj.stepOk (by rw[hj.same.len];exact hfS);exact⟨p,hS,fun hb=>hj.step hS.hp hb⟩
 len:=fun S T h hd=>by
  have hn5:=h.tok.hn;rcases h.go hd with⟨_,r,_⟩|⟨_,r,_⟩
  ·have:=r.tok.few;omega
  ·have:=r.tok.few;omega
 next:=fun S T h hd hk=>by
  rcases h.go hd with r|⟨r,_⟩
  ·exact r
  ·exact absurd r hk
end
structure WOk (n:Nat) (S:WS):Prop extends Wch n S where
  few:S.prs.length≤1000000
  h0:0≤S.head
  h1:S.head≤S.seen.length
  sl:S.seen.length≤1000000
  clr:ml S (S.seen.take S.head.toNat)
structure PrpOk (n:Nat) (S:WS) (T:Tr) (R:WS×Tr×Int):Prop where
  ok:WOk n R.1
  tok:TOk n R.2.1
  same:SameL S R.1
  grow:Grow (CW S) n T R.2.1
  seen:R.1.seen=R.2.1.lits
  res:(R.2.2=-1∧∀k p,lk R.1.prs k=some p→(∃x∈p.lits,x∈R.2.1.lits)∨∃x y,x∈p.lits∧y∈p.lits∧x≠y∧-x∉R.2.1.lits∧-y∉R.2.1.lits)∨oW R.1 R.2.1 R.2.2
theorem Az:∀(a b:List Int),gq a b≤a.length∧gq a b≤b.length
 |[],_=>⟨Nat.zero_le _,Nat.zero_le _⟩
 |_::_,[]=>⟨Nat.zero_le _,Nat.zero_le _⟩
 |x::a,y::b=>by
  rw[gq];have:=Az a b;simp only[List.length_cons];split<;>omega
theorem th:∀(a b:List Int)(k:Nat),k≤gq a b→a.take k=b.take k
 |a,b,0,_=>by simp
 |[],_,k+1,h=>by rw[gq]at h;omega;intros;simp_all
 |_::_,[],k+1,h=>by rw[gq]at h;omega;intros;simp_all
 |x::a,y::b,k+1,h=>by
  rw[gq]at h;split at h
  ·rename_i e;rw[List.take_succ_cons,List.take_succ_cons,e,th a b k (by omega)]
  ·omega
section
variable {n : Nat} {S : WS} {T : Tr}
theorem WOk.shr(h:WOk n S)(hT:TOk n T):JC n (b8 S T.lits) T (b8 S T.lits) T:=by
 obtain⟨p1,p2⟩:=Az S.seen T.lits;have hh0:=h.h0;have e:(b8 S T.lits).head=if(gq S.seen T.lits:Int)<S.head then(gq S.seen T.lits:Int)else S.head:=rfl;have a0:0≤(b8 S T.lits).head:=by rw[e];split<;>omega
 have a1:(b8 S T.lits).head≤gq S.seen T.lits:=by rw[e];split<;>omega
 have a2:(b8 S T.lits).head≤S.head:=by rw[e];split<;>omega
 refine{wch:=⟨h.nd,h.lits,h.lnd,h.lpr,h.two,h.bnd,h.mem⟩,tok:=hT,same:=SameL.refl _,grow:=.refl,seen:=rfl,h0:=a0,h1:=by omega,clr:=?_};rw[←th S.seen T.lits _ (by omega)];intro y hy;refine h.clr y ?_;have:S.seen.take (b8 S T.lits).head.toNat<+:S.seen.take S.head.toNat:=List.take_prefix_take_left (by omega);exact this.subset hy
theorem WOk.jl(h:WOk n S)(hT:TOk n T):JL n (b8 S T.lits) T (T.lits.take (b8 S T.lits).head.toNat) (dQ (S.late.map (·.1))) (b8 S T.lits) T:=
  have hc:=h.shr hT
  { wch := hc.wch, tok := hT, same := SameL.refl _, grow := .refl, head := rfl, seen := rfl
    clr:=hc.clr
    sub':=fun y hy=>List.mem_of_mem_take hy
    knd:=wH h.lnd
    kin:=fun k hk=>te.1 hk
    all:=fun k hk=>.inl (te.2 hk)}
theorem Pro.jc{S0 S':WS}{T0 T':Tr}(h:Pro n S0 T0 S' T')(h0:0≤S0.head)(h1:S0.head≤T0.lits.length)(hc:ml S' (T0.lits.take S0.head.toNat)):JC n S0 T0 S' T':=by
  have hpre:=h.grow.pre.1
  have hle:=hpre.length_le
  exact { wch := h.wch, tok := h.tok, same := h.same, grow := h.grow, seen := h.seen, h0 := by rw [h.head]; exact h0, h1 := by rw [h.head]; omega
          clr:=by rw[h.head,rk hpre (by omega)];exact hc}
theorem AA(h:WOk n S)(hT:TOk n T):
 ((eY (b8 S T.lits) T).2.2=-1∧JP n (b8 S T.lits) T (eY (b8 S T.lits) T).1 (eY (b8 S T.lits) T).2.1)∨
 (0≤(eY (b8 S T.lits) T).2.2∧JC n (b8 S T.lits) T (eY (b8 S T.lits) T).1 (eY (b8 S T.lits) T).2.1∧oW (eY (b8 S T.lits) T).1 (eY (b8 S T.lits) T).2.1 (eY (b8 S T.lits) T).2.2):=by
 have hc:=h.shr hT;have e:eY (b8 S T.lits) T=gi (dQ (S.late.map (·.1))) (b8 S T.lits) T:=rfl;rw[e];rcases Aw (h.jl hT)with⟨r1,r2⟩|⟨r1,r2,r3,r4,r5⟩
 ·exact .inl ⟨r1,{r2.toPro.jc hc.h0 hc.h1 r2.clr with held:=fun k hk=>(r2.all k hk).resolve_left (by simp)}⟩
 ·exact .inr ⟨r1,r2.jc hc.h0 hc.h1 r3,r5⟩
theorem JC.fin{S':WS}{T':Tr}{k:Int}(hf:S.prs.length≤1000000)(h:JC n (b8 S T.lits) T S' T')
 (hr:(k=-1∧(∀k∈S'.late.map (·.1),lr S' T' k)∧S'.head=T'.lits.length)∨oW S' T' k):PrpOk n S T (⟨S'.prs,S'.byl,S'.late,S'.head,T'.lits⟩,T',k):=by
 have hfew:=h.tok.few;have hn:=h.tok.hn;have hW:Wch n ⟨S'.prs,S'.byl,S'.late,S'.head,T'.lits⟩:=⟨h.wch.nd,h.wch.lits,h.wch.lnd,h.wch.lpr,h.wch.two,h.wch.bnd,h.wch.mem⟩;refine⟨{hW with few:=by show S'.prs.length≤_;rw[h.same.len];exact hf,h0:=h.h0,h1:=h.h1,sl:=by show T'.lits.length≤_;omega,clr:=h.clr},h.tok,⟨h.same.keys,h.same.lits⟩,h.grow,rfl,?_⟩;rcases hr with⟨rfl,r1,r2⟩|⟨k0,p,hp,r⟩
 ·refine .inl ⟨rfl,fun k p hp=>?_⟩;have hp:lk S'.prs k=some p:=hp
  by_cases c:k∈S'.late.map (·.1)
  ·exact .inl (r1 k c p hp)
  ·obtain⟨x0,y0,hxy,hx,hy⟩:=h.wch.pos hp c;have key:∀x,x≠0→(p.x=x∨p.y=x)→-x∉T'.lits:=fun x x0 hx hm=>by
    have:=h.clr (-x) (by rw[r2,show(T'.lits.length:Int).toNat=T'.lits.length by omega,List.take_length];exact hm);rw[Int.neg_neg]at this;have hk:=(h.wch.mem x k).2 ⟨x0,p,hp,hx⟩;rw[this]at hk;cases hk
   exact .inr ⟨p.x,p.y,hx,hy,hxy,key _ x0 (.inl rfl),key _ y0 (.inr rfl)⟩
 ·exact .inr ⟨k0,p,hp,r⟩
theorem EK(h:WOk n S)(hT:TOk n T):PrpOk n S T (fJ S T):=by
 have hc:=h.shr hT;have hm:gr S T=if 0≤(eY (b8 S T.lits) T).2.2 then eY (b8 S T.lits) T else jF 1000001 (eY (b8 S T.lits) T).1 (eY (b8 S T.lits) T).2.1:=rfl;have hp:fJ S T=(⟨(gr S T).1.prs,(gr S T).1.byl,(gr S T).1.late,(gr S T).1.head,(gr S T).2.1.lits⟩,(gr S T).2.1,(gr S T).2.2):=rfl;rw[hp];rcases AA h hT with⟨r1,r2⟩|⟨r1,r2,r3⟩
 ·rw[if_neg (by omega)]at hm;have:=r2.h0;rcases Ay (m:=1000001) r2 (by omega)with⟨q1,q2,q3⟩|⟨q1,q2,q3⟩
  ·rw[←hm]at q1 q2 q3;exact q2.toJC.fin h.few (.inl ⟨q1,q2.held,q3⟩)
  ·rw[←hm]at q1 q2 q3;exact q2.fin h.few (.inr q3)
 ·rw[if_pos r1]at hm;rw[hm];exact r2.fin h.few (.inr r3)
theorem EL(h:List (List SV))(bw ba bt:Nat)(mp:List (Int×Nat))(mb:List (Int×By))(A:Ar)(L:LayW h bw ba bt mp mb A T S)(hW:WOk n S)(hT:TOk n T):
 aE Tryz.prog 91 [.ptr bw 0] h (fun r h'=>r=.pv (ae (fJ S T).2.2)∧∃mb',LayW h' bw ba bt mp mb' A (fJ S T).2.1 (fJ S T).1∧Ext h h' (aP bw bt mp mb) (aP bw bt mp mb')):=by
 have hfew:=hT.few;have hn:=hT.hn;have hj:=hW.jl hT;have hlas:=AA hW hT;refine rT h bw ba bt mp mb A T S L (by omega) hW.sl (dQ (S.late.map (·.1))) rfl (fun i S' T'=>JL n (b8 S T.lits) T (T.lits.take (b8 S T.lits).head.toNat) ((dQ (S.late.map (·.1))).drop i) S' T') (by rw[List.drop_zero];exact hj) ?_ ?_ ?_ ?_ ?_ (JP n (b8 S T.lits) T) (Lj hW.few) ?_
 ·intro q hq;obtain⟨p,hp⟩:=hW.lpr q.1 (List.mem_map_of_mem hq);have:=(hW.lits _ _ hp).1;exact Ej (by omega) (by omega)
 ·have h2:S.late.map (·.1)⊆S.prs.map (·.1):=fun k hk=>by
   obtain⟨p,hp⟩:=hW.lpr k hk;exact oF hp
  have:=(eG _ _ hW.lnd h2);rw[List.length_map,List.length_map]at this;have:=hW.few;omega
 ·intro i S' T' hJ hi;have hJ:JL n (b8 S T.lits) T (T.lits.take (b8 S T.lits).head.toNat) ((dQ (S.late.map (·.1))).drop i) S' T':=hJ;rw[List.drop_eq_getElem_cons hi]at hJ;have hf:S'.prs.length≤1000000:=by rw[hJ.same.len];exact hW.few
  obtain⟨p,hp⟩:=hJ.wch.lpr _ (hJ.kin _ (List.mem_cons_self ..));have:=hJ.tok.few;exact⟨hJ.tok.okT,by omega,hJ.wch.hz hf,p,hp,by have:=(hJ.wch.lits _ _ hp).2.2.1;omega⟩
 ·intro i S' T' p hJ hi hp hb;have hJ:JL n (b8 S T.lits) T (T.lits.take (b8 S T.lits).head.toNat) ((dQ (S.late.map (·.1))).drop i) S' T':=hJ;rw[List.drop_eq_getElem_cons hi]at hJ;exact hJ.step hp hb
 ·rcases hlas with⟨_,r⟩|⟨_,r,_⟩
  ·have:=r.tok.few;omega
  ·have:=r.tok.few;omega
 ·intro hk;rcases hlas with⟨r1,r2⟩|⟨r1,_⟩
  ·exact⟨r1,r2⟩
  ·exact absurd r1 hk
end
structure UOk (n:Nat) (cs:List (List Int)):Prop where
  hn:n≤100000
  nd:∀c∈cs,c.Nodup
  len:∀c∈cs,c.length≤1000
  chk:∀c∈cs,∀y∈c,ax y n=0
section
variable {n : Nat} {cs : List (List Int)} (h : UOk n cs)
include h
end
section
variable {n : Nat} {cs : List (List Int)} {L0 L : List Int}
end
def d7(T:Tr)(v:Int):Tr:=if(if v<0 then 0 else v)<(T.beg.length:Int)then bZ T (if v<0 then(0:Int)else v).toNat else T
theorem TOk.bak{n:Nat}{T:Tr}(h:TOk n T)(v:Int):TOk n (d7 T v):=by
 unfold d7;obtain⟨m,hm⟩:∃m:Int,(if v<0 then(0:Int)else v)=m:=⟨_,rfl⟩;have m0:0≤m:=by rw[←hm];split<;>omega
 rw[hm]
 by_cases c:m<(T.beg.length:Int)
 ·rw[if_pos c];exact(h.back (by omega)).1
 ·rw[if_neg c];exact h
set_option maxRecDepth 16000 in
theorem EM(h:List (List SV))(b:Nat)(T:Tr)(hb:h[b]?=some (fB T))(v:Int)(hv:¬(if v<0 then 0 else v)<(T.beg.length:Int)):
 aE Tryz.prog 131 [.ptr b 0,ae v] h (fun r h'=>h'=h∧r=.pv (.seq true 1 (af []))):=by
 refine lc [] [.tmp 4] aG Tryz.func131 (by kernel_rfl) rfl rfl (by kernel_rfl) (Nat.le_of_ble_eq_true rfl) ?_;obtain⟨hlt,hb'⟩:=List.getElem?_eq_some_iff.1 hb;have his:=ld T;have hfr:∀n,bq h (n+1) b 0=bu T:=fun n=>cu hb n;simp only[bu]at his hfr;obtain⟨m,hm⟩:∃m:Int,(if v<0 then(0:Int)else v)=m:=⟨_,rfl⟩;rw[hm]at hv;have hv2:(T.beg.length:Int)≤m:=by omega
 simp[hm];refine ak.introP (r:=.pv (BL true)) (by simpa[hfr]using his) (by simp[hlt]) (by simp) ?_;simp[hb',hlt,fB,hv2,af,cz,cI]
set_option maxRecDepth 16000 in
theorem EO(h:List (List SV))(b:Nat)(T:Tr)(hb:h[b]?=some (fB T))(v:Int)(k:Nat)(hmx:(if v<0 then(0:Int)else v)=k)(hk:k<T.beg.length)(h0:0≤T.beg.getD k 0∧T.beg.getD k 0≤T.lits.length)(hs:T.lits.length≤1000000)(hv:∀y∈T.lits,0≤ab y∧ab y<T.marks.length):
 aE Tryz.prog 131 [.ptr b 0,ae v] h (fun r h'=>h'=h.set b (fB (bZ T k))∧r=.pv (.seq true 1 (af (re T (T.lits.length -(T.beg.getD k 0).toNat))))):=by
 refine gN [] [.tmp 4] (h.set b (fB (bZ T k))) (by simp) (fun hh=>by rw[List.length_set];exact d0 (gO _ _) b hh) aG Tryz.func131 (by kernel_rfl) rfl rfl (by kernel_rfl) (Nat.le_of_ble_eq_true rfl) ?_;obtain⟨hlt,hb'⟩:=List.getElem?_eq_some_iff.1 hb;have hbg:T.beg.getD k 0=T.beg[k]:=by rw[List.getD_eq_getElem?_getD,List.getElem?_eq_getElem hk];rfl
 rw[hbg]at h0⊢;obtain⟨m,hm⟩:∃m:Nat,T.beg[k]=(m:Int):=⟨T.beg[k].toNat,by omega⟩;have hB:bZ T k=⟨(popN T (T.lits.length -m)).marks,(popN T (T.lits.length -m)).lits,T.beg.take k⟩:=by unfold bZ;rw[hbg,hm];rfl
 rw[hB,hm,Int.toNat_natCast];rw[hm]at h0;clear hB;have his:=ld T;have hfr:∀n,bq h (n+1) b 0=bu T:=fun n=>cu hb n;simp only[bu]at his hfr;simp[hmx];refine ak.introP (r:=.pv (BL true)) (by simpa[hfr]using his) (by simp[hlt]) (by simp) ?_;simp[hb',hlt,fB,hk];refine ak.intro (B1 h b) (by simp) ?_;rintro _ _ ⟨rfl,rfl⟩;have hH0:h.set b (fB T)=h:=cQ hb;simp;refine aH.intro (S:=fun(j:Nat)=>⟨[(0,.pv (.ptr b 0)),(1,.pv (ae k)),(5,.pv (.fn (.func 265) [] [.ptr h.length 0])),(6,.own true 1 (af (re T j)))],h.set b (fB (popN T j))++[[.pv (.ptr b 0)]]⟩) (fun j=>j≤T.lits.length -m) (fun j=>T.lits.length -j) 0 ?_ (Nat.zero_le _) ?_
 ·rw[popN,hH0];exact(aj.nilOwn (s:=6) 1 true (by simp)).trans (aj.keep (by simp[re,af]) rfl)
 intro j hj;have hXl:(popN T j).lits.length=T.lits.length -j:=by rw[dJ,List.length_take];omega
 have hXb:=rb T j;have hXv:∀y∈(popN T j).lits,0≤ab y∧ab y<(popN T j).marks.length:=fun y hy=>by
  rw[dJ]at hy;rw[At];exact hv y (List.mem_of_mem_take hy)
 have hX1:popN T (j+1)=jG (popN T j):=rfl;have hO1:re T (j+1)=re T j++[(popN T j).lits.getD ((popN T j).lits.length -1) 0]:=rfl;have hOl:=rf T j;have hpp:=fun(h:List (List SV)) (n b:Nat) h1 h2 h3=>yO h n b (popN T j) h1 h2 h3 (by omega) hXv;have hHb:∀(Y z:List SV) hh,(h.set b Y++[z])[b]'hh=Y:=fun Y z hh=>by rw[List.getElem_append_left (by simpa using hlt)];simp
 have hHb2:∀(Y z:List SV),(h.set b Y++[z])[b]?=some Y:=fun Y z=>by rw[List.getElem?_append_left (by simpa using hlt)];simp[hlt]
 have hHs:∀(Y z W:List SV),(h.set b Y++[z]).set b W=h.set b W++[z]:=fun Y z W=>by rw[um (by simpa using hlt),List.set_set]
 have hlt1:b<h.length+1:=by omega
 by_cases c:m<T.lits.length -j
 ·have hne:(popN T j).lits≠[]:=fun e=>by rw[e]at hXl;simp at hXl;omega
  have hc1:(m:Int)<((popN T j).lits.length:Int):=by omega
  have hpp:=hpp (h.set b (fB (popN T j))++[[.pv (.ptr b 0)]]) h.length b (by rw[List.getElem?_append_right (by simp)];simp) (hHb2 _ _) hne;rw[hHs]at hpp;generalize popN T j=X at*;simp only[fB,hXb]at hpp;simp[hHb,hlt1,fB,hXb,hk,hm,hc1];refine ak.intro hpp (by simp) ?_;rintro _ _ ⟨rfl,rfl⟩;simp;refine⟨by omega,j+1,by(try dsimp only);omega,by(try dsimp only);omega,aj.keep (by simp[hO1,af]) (by simp[hX1])⟩
 ·have hc1:¬(m:Int)<((popN T j).lits.length:Int):=by omega
  have hje:j=T.lits.length -m:=by omega
  subst hje;have hbt:(af T.beg).take k=af (T.beg.take k):=by unfold af;rw[List.map_take]
  have hkl:k≤T.beg.length:=by omega
  clear hpp hXv hX1 hO1;generalize popN T (T.lits.length -m)=X at*;simp[hHb,hHs,hlt1,fB,hXb,hk,hm,hc1,hbt,hkl]
def eh(b:Bool):Int:=if b=true then 1 else 0
def cX(A:Ar)(id:Int)(lits:List Int)(b:Bool):Ar:=if iw id lits=0 then⟨A.row++([id,(lits.length:Int),eh b]++lits),pt A.hd A.row.length id⟩else A
set_option maxRecDepth 8000 in
theorem EP(h:List (List SV))(b:Nat)(A:Ar)(hb:h[b]?=some (lf A))(id:Int)(lits:List Int)(ln:Bool)(hc:lits.length≤1000000)(hl:A.row.length≤1000000000):
 aE Tryz.prog 127 [.ptr b 0,ae id,.seq false 1 (af lits),BL ln] h (fun r h'=>h'=h.set b (lf (cX A id lits ln))∧r=.pv (.tup [ae (if iw id lits=0 then A.row.length else 0),ae (iw id lits)])):=by
 refine gN [] [.tmp 8,.tmp 9] (h.set b (lf (cX A id lits ln))) (by simp) (fun hh=>by rw[List.length_set];exact d0 (yn _ _) b hh) aG Tryz.func127 (by kernel_rfl) rfl rfl (by kernel_rfl) (Nat.le_of_ble_eq_true rfl) ?_;obtain⟨hlt,hb'⟩:=List.getElem?_eq_some_iff.1 hb;have hE:iw id lits=if id<1∨10000000<id then 2 else iR lits 100000:=rfl;have hA:cX A id lits ln=if iw id lits=0 then⟨A.row++([id,(lits.length:Int),eh ln]++lits),pt A.hd A.row.length id⟩else A:=rfl;have hset:h.set b (lf A)=h:=cQ hb;generalize cX A id lits ln=A' at hA⊢;generalize iw id lits=E at hE hA⊢;simp;refine ak.intro (qL h b A hb) (by simp) ?_;rintro _ _ ⟨rfl,rfl⟩
 by_cases c1:id<1
 ·rw[if_pos (.inl c1)]at hE;subst hE;rw[if_neg (by omega)]at hA;subst hA;simp[c1,hset]
 by_cases c2:10000000<id
 ·rw[if_pos (.inr c2)]at hE;subst hE;rw[if_neg (by omega)]at hA;subst hA;simp[c1,c2,hset]
 rw[if_neg (by omega)]at hE;simp[c1,c2];refine am.intro (qJ lits 100000 (by omega)) (by simp) ?_;rw[←hE]
 by_cases c3:E=0
 rotate_left
 ·rw[if_neg c3]at hA;subst hA;simp[c3,hset]
 rw[if_pos c3]at hA;subst hA;cases ln
 ·simp[c3,hb',hlt,lf,eh];refine⟨by omega,by omega,?_⟩;rw[List.take_of_length_le (by simp)];simp[af]
 ·simp[c3,hb',hlt,lf,eh];refine⟨by omega,by omega,?_⟩;rw[List.take_of_length_le (by simp)];simp[af]
def IN(A:Ar)(k:Int):Int:=if(lk A.hd k).getD 0=0 then 20 else 0
def Lk(A:Ar)(k:Int):Ar:=if IN A k=0 then⟨A.row.set (k.toNat+2) 2,dl A.hd k⟩else A
def nQ(A:Ar)(k:Int):Bool:=isA A k&&decide (A.row.getD (k.toNat+2) 0=1)
theorem yP(h:List (List SV))(b:Nat)(A:Ar)(hb:h[b]?=some (lf A))(k:Int)(hk:isA A k=true→0≤k∧k+2<A.row.length)(hl:A.row.length≤1000000000):
 aE Tryz.prog 193 [.ptr b 0,ae k] h (fun r h'=>h'=h∧r=.pv (BL (nQ A k))):=by
 refine fA [] [.tmp 4] aG Tryz.func193 (by kernel_rfl) rfl rfl (by kernel_rfl) (Nat.le_of_ble_eq_true rfl) ?_;obtain⟨hlt,hb'⟩:=List.getElem?_eq_some_iff.1 hb;unfold nQ;simp;refine ak.intro (yo h b A hb k) (by simp) ?_;rintro _ _ ⟨rfl,rfl⟩;cases c:isA A k
 ·simp[c]
 ·obtain⟨k0,k2⟩:=hk c;obtain⟨p,rfl⟩:∃p:Nat,k=p:=⟨k.toNat,by omega⟩;have w2:aM ((p:Int)+2)=((p+2:Nat):Int):=by rw[ah (by omega) (by omega)];omega
  have hp:p+2<A.row.length:=by omega
  have t2:((p:Int)+2).toNat=p+2:=by omega
  have g2:A.row[p+2]?=some A.row[p+2]:=List.getElem?_eq_getElem hp;simp[c,hb',hlt,lf,w2,hp,t2,g2];omega
def EQ(v:Int)(b:Bool):Int:=if v<1∨da v=false then 0 else if b=true then v else-v
def Ll(v:Int):Int:=if v<1∨da v=false then 10 else 0
theorem ET(v:Int)(b:Bool):ao Tryz.prog 102 [ae v,BL b] (fun r=>r=.pv (.tup [ae (EQ v b),ae (Ll v)])):=by
 refine kU [] [.tmp 4,.tmp 5] aG Tryz.func102 (by kernel_rfl) rfl rfl (by kernel_rfl) (Nat.le_of_ble_eq_true rfl) ?_;have kI:=qC v;unfold EQ Ll
 by_cases c1:v<1
 ·simp[c1];refine bY.intro (r:=.pv (BL true)) (fun h=>h.elim) (by simp) ?_;simp[c1]
 ·simp[c1];refine bY.intro (fun _=>kI) (by simp) ?_;cases c2:da v
  ·simp[c1,c2]
  ·obtain⟨h1,h2,h3⟩:=(bj v).1 c2;have hw:aM (-v)=-v:=ah (by omega) (by omega);cases b<;>simp[c1,c2,hw]
end Go.AX
namespace Go.AX.V
open Go.Proofs
set_option linter.unusedSimpArgs false
theorem litO{y:Int}(h:da y=true):y≠0∧-100000≤y∧y≤100000∧0≤bi y∧aM (-y)=-y:=by
 obtain⟨a,b,c⟩:=(bj y).1 h;exact⟨a,b,c,by rw[uo];exact h,ah (by omega) (by omega)⟩
theorem nS{l:Int}(h:da l=true):1≤ab l∧ab l≤100000∧l≠0∧-100000≤l∧l≤100000∧ab l=eF l:=by
 obtain⟨a,b,c⟩:=(bj l).1 h;have e:ab l=eF l:=by unfold ab;rw[if_pos h]
 refine⟨?_,?_,a,b,c,e⟩<;>rw[e]<;>unfold eF<;>split<;>omega
theorem rr{l:Int}(h:da l=true):da (-l)=true:=by
 obtain⟨a,b,c⟩:=(bj l).1 h;exact(bj _).2 ⟨by omega,by omega,by omega⟩
theorem Lm{y:Int}(h:da y=true):da y=true:=h
theorem okL_chk{l v:Int}(hv:0≤v∧v≤100000)(h:ax l v=0):da l=true:=by
 obtain⟨a,b,c⟩:=(cV hv).1 h;exact(bj _).2 ⟨a,by omega,by omega⟩
structure RelT (T:Tr) (t:RT):Prop where
  vars:0≤t.vars∧t.vars≤100000
  len:(T.marks.length:Int)=t.vars+1
  lits:T.lits=t.rows.map (·.l)
  dep:t.dep=(T.beg.length:Int)
  chk:∀x∈t.rows,ax x.l t.vars=0
  ok:∀x∈t.rows,da x.l=true∧0≤x.lev∧x.lev≤t.dep
  free:∀v:Int,ow t v<0→(br T v).v=0
  mark:∀(v:Int)(i:Nat)(hi:i<t.rows.length),ow t v=(i:Int)→br T v=⟨if t.rows[i].l<0 then-1 else 1,t.rows[i].lev,t.rows[i].rea,i⟩
theorem RelT.okT{T:Tr}{t:RT}(h:RelT T t):T.ok:=by
 have:=h.vars;have:=h.len;exact⟨by omega,by omega⟩
def RelD(T:Tr)(t:RT):Prop:=RelT T t∧T.beg.length≤t.rows.length
theorem uP{T:Tr}{t:RT}(h:RelT T t)(v:Int):(dq T v).1.lev=(KW t v).1∧(dq T v).1.rea=(KW t v).2∧(dq T v).1.pla=ow t v:=by
 unfold dq KW;have hl:=h.len;have hv:=h.vars
 by_cases c:ow t v<0
 ·rw[if_pos c,if_pos]
  ·refine⟨rfl,rfl,?_⟩;have:ow t v=-1:=by
    unfold ow jX at*;split at c
    ·omega
    ·rfl
   rw[this]
  ·exact .inr (.inr (h.free v c))
 ·obtain⟨i,hi,e1,e2⟩:=jy (t:=t) (v:=v) (by omega);obtain⟨a,_⟩:=nS (h.ok _ (List.getElem_mem hi)).1;have b:=(nx h.vars (h.chk _ (List.getElem_mem hi))).2.1;have hm:=h.mark v i hi e1;rw[if_neg c,if_neg,hm,e1]
  ·simp[hi]
  ·rw[hm];simp only;have:(if t.rows[i].l<0 then(-1:Int)else 1)≠0:=by split<;>omega
   simp[this];omega
theorem Fh{D:DK}(h:RelT D.T D.t){l:Int}{i:Nat}(hi:i<D.t.rows.length)(e:D.t.rows[i].l=l∨D.t.rows[i].l=-l):ax l D.t.vars=0:=by
 have hc:=(cV h.vars).1 (h.chk _ (List.getElem_mem hi));exact(cV h.vars).2 (by rcases e with e|e<;>omega)
theorem pU{D:DK}(h:RelT D.T D.t){l:Int}(hl:da l=true){i:Nat}(hi:i<D.t.rows.length)(hp:ow D.t (ab l)=i):(D.t.rows[i].l=-l∧bV D.T l=-1)∨(D.t.rows[i].l=l∧bV D.T l=1):=by
 have hlen:((D.T.marks.length:Nat):Int) -1=D.t.vars:=by rw[h.len];omega
 have hmk:=h.mark _ i hi hp;obtain⟨j,hj,p1,p2⟩:=jy (t:=D.t) (v:=ab l) (by omega);have hji:j=i:=by omega
 subst hji;obtain⟨_,_,r0,_,_,v1⟩:=nS (h.ok _ (List.getElem_mem hi)).1;obtain⟨_,_,l0,_,_,v2⟩:=nS hl;rw[v1,v2]at p2;have hs:D.t.rows[j].l=l∨D.t.rows[j].l=-l:=by unfold eF at p2;split at p2<;>split at p2<;>omega
 unfold bV;rw[hlen,hmk,if_neg (fun e=>e (Fh h hi hs))];unfold eF at p2;dsimp only;have w1:aM (-1)=-1:=by decide
 have w2:aM (- -1)=1:=by decide
 by_cases e1:l<0
 ·rw[if_pos e1]at p2⊢
  by_cases e2:D.t.rows[j].l<0
  ·rw[if_pos e2]at p2⊢;rw[w2];exact .inr ⟨by omega,rfl⟩
  ·rw[if_neg e2]at p2⊢;rw[w1];exact .inl ⟨by omega,rfl⟩
 ·rw[if_neg e1]at p2⊢
  by_cases e2:D.t.rows[j].l<0
  ·rw[if_pos e2]at p2⊢;exact .inl ⟨by omega,rfl⟩
  ·rw[if_neg e2]at p2⊢;exact .inr ⟨by omega,rfl⟩
theorem tu{D:DK}(h:RelT D.T D.t){l:Int}(hv:bV D.T l≠0):da l=true∧∃i,∃hi:i<D.t.rows.length,ow D.t (ab l)=i:=by
 have hlen:((D.T.marks.length:Nat):Int) -1=D.t.vars:=by rw[h.len];omega
 unfold bV at hv;rw[hlen]at hv
 by_cases c:ax l D.t.vars=0
 ·refine⟨okL_chk h.vars c,?_⟩;rw[if_neg (fun e=>e c)]at hv
  by_cases d:0≤ow D.t (ab l)
  ·obtain⟨i,hi,e,_⟩:=jy d;exact⟨i,hi,e⟩
  ·rw[h.free _ (by omega)]at hv;have w0:aM (-0)=0:=by decide
   split at hv
   ·exact absurd w0 hv
   ·exact absurd rfl hv
 ·rw[if_pos c]at hv;exact absurd rfl hv
def DkR(D:DK):Prop:=∀i (hi:i<D.t.rows.length),D.t.rows[i].rea<0∨(isA D.A D.t.rows[i].rea=true∧D.t.rows[i].l∈aq D.A D.t.rows[i].rea∧∀y∈aq D.A D.t.rows[i].rea,da y=true∧(y≠D.t.rows[i].l→aM (-y)∈(D.t.rows.take i).map (·.l)))
structure DeskOk (D:DK):Prop where
  rel:RelD D.T D.t
  relA:RelA D.A D.a
  rea:DkR D
  len:D.A.row.length≤1000000
theorem Fi{D:DK}(h:RelT D.T D.t){v:Int}(hr:0≤(dq D.T v).1.rea):∃i,∃hi:i<D.t.rows.length,ow D.t v=i∧ab D.t.rows[i].l=v∧(dq D.T v).1.rea=D.t.rows[i].rea∧(dq D.T v).1.pla=i:=by
 obtain⟨_,e2,e3⟩:=uP h v;rw[e2]at hr⊢;unfold KW at hr⊢
 by_cases c:ow D.t v<0
 ·rw[if_pos c]at hr;dsimp only at hr;omega
 ·obtain⟨i,hi,p1,p2⟩:=jy (t:=D.t) (v:=v) (by omega);refine⟨i,hi,p1,p2,?_,by rw[e3,p1]⟩;rw[if_neg c,p1,Int.toNat_natCast,List.getD_eq_getElem?_getD,List.getElem?_eq_getElem hi];rfl
theorem DeskOk.sh{D:DK}(h:DeskOk D){c:List Int}(hc:c.length≤1000000):ShOk D.A D.T c where
 tr:=h.rel.1.okT
 ar:=fun q hq=>by
  obtain⟨x,hx,e⟩:=h.relA.is q hq;obtain⟨p,e1,e2,_⟩:=h.relA.rows x hx;exact⟨p,_,by rw[←e,e1],e2⟩
 len:=h.len
 few:=hc
 hd:=fun v hv=>by
  obtain⟨i,hi,_,_,e,_⟩:=Fi h.rel.1 hv;rcases h.rea i hi with h1|⟨h1,_⟩
  ·omega
  ·exact DU h1
theorem IO{D:DK}(h:DeskOk D){l:Int}(hb:nE D.A D.T l=true):∃i,∃hi:i<D.t.rows.length,cr D.T l=i∧D.t.rows[i].l=aM (-l)∧da l=true∧(dq D.T (ab l)).1.rea=D.t.rows[i].rea∧0≤D.t.rows[i].rea:=by
 unfold nE at hb;simp only[Bool.not_eq_true',Bool.or_eq_false_iff,decide_eq_false_iff_not]at hb;obtain⟨⟨b1,b2⟩,_⟩:=hb;obtain⟨i,hi,p1,p2,p3,p4⟩:=Fi h.rel.1 (v:=ab l) (by omega);obtain⟨hl,_⟩:=tu h.rel.1 (l:=l) (by omega);refine⟨i,hi,p4,?_,hl,p3,by omega⟩;rw[(litO hl).2.2.2.2];rcases pU h.rel.1 hl hi p1 with⟨e,_⟩|⟨_,e⟩
 ·exact e
 ·omega
theorem val3_m1_of{l:List Int}{y:Int}(hy:da y=true)(h:-y∈l)(h2:y∉l):cG l y=-1:=by
 obtain⟨_,_,_,hx,hw⟩:=litO hy;unfold cG;rw[if_neg (by omega),if_neg h2,if_pos (by rw[hw];exact h)]
structure TraF (cs:List (List Int)) (ats:List Int) (t:RT):Prop where
  dep:0≤t.dep
  chk:∀x∈t.rows,da x.l=true
  nd:(t.rows.map fun x=>ab x.l).Nodup
  lev:∀x∈t.rows,0≤x.lev∧x.lev≤t.dep
  mono:∀i j (hi:i<t.rows.length)(hj:j<t.rows.length),i<j→t.rows[i].lev≤t.rows[j].lev
  dec:∀i (hi:i<t.rows.length),t.rows[i].rea<0→0<t.rows[i].lev∧∀j (hj:j<t.rows.length),j<i→t.rows[j].lev<t.rows[i].lev
  top:0<t.dep→Calm cs (bel t t.dep)
  fst:∀k:Int,0<k→k≤t.dep→∃x∈t.rows,x.lev=k∧x.rea<0
  imp:∀i (hi:i<t.rows.length),0≤t.rows[i].rea→∃k,∃hk:k<cs.length,t.rows[i].rea=ats.getD k 0∧t.rows[i].l∈cs[k]∧(∀y∈cs[k],y≠t.rows[i].l→∃j,∃hj:j<t.rows.length,j<i∧t.rows[j].l=-y)∧
    (0<t.rows[i].lev→∃y∈cs[k],y≠t.rows[i].l∧∃j,∃hj:j<t.rows.length,j<i∧t.rows[j].l=-y∧t.rows[j].lev=t.rows[i].lev)
theorem TraF.inj{cs:List (List Int)}{ats:List Int}{t:RT}(h:TraF cs ats t){i j:Nat}(hi:i<t.rows.length)(hj:j<t.rows.length)(e:ab t.rows[i].l=ab t.rows[j].l):i=j:=by
 have hn:=List.pairwise_iff_getElem.1 (List.pairwise_map.1 h.nd);rcases Nat.lt_trichotomy i j with c|c|c
 ·exact absurd e (hn i j hi hj c)
 ·exact c
 ·exact absurd e.symm (hn j i hj hi c)
theorem TraF.one{cs:List (List Int)}{ats:List Int}{t:RT}(h:TraF cs ats t){y:Int}(hy:da y=true):¬(y∈dx t∧-y∈dx t):=by
 rintro⟨h1,h2⟩;unfold dx at h1 h2;obtain⟨a,ha,e1⟩:=List.mem_map.1 h1;obtain⟨b,hb,e2⟩:=List.mem_map.1 h2;obtain⟨i,hi,rfl⟩:=List.getElem_of_mem ha;obtain⟨j,hj,rfl⟩:=List.getElem_of_mem hb;have hv:ab t.rows[i].l=ab t.rows[j].l:=by rw[e1,e2,dt]
 have hij:i=j:=h.inj hi hj hv;subst hij;obtain⟨n0,_⟩:=litO hy;omega
structure ClsN (cs:List (List Int)) (ats:List Int):Prop where
  len:∀c∈cs,c.length≤1000
  chk:∀c∈cs,∀y∈c,da y=true
  pos:∀k,k<cs.length→0≤ats.getD k 0
  nd:∀c∈cs,c.Nodup
theorem Fj{cs:List (List Int)}{ats:List Int}(hc:ClsN cs ats){t:RT}(h:TraF cs ats t){c:List Int}(hm:c∈cs)(hf:FX (dx t) c=-1)(hd:0<t.dep):∃y∈c,∃x∈t.rows,x.l=-y∧x.lev=t.dep:=by
 apply Classical.byContradiction;intro hno;have hcalm:=(h.top hd _ hm).2;apply hcalm;rw[mR]at hf⊢;intro y hy hx;have hy6:=hc.chk _ hm y hy;have:=uC (hf y hy hx);rw[(litO hy6).2.2.2.2]at this;unfold dx at this;obtain⟨a,ha,e⟩:=List.mem_map.1 this;have hlv:=(h.lev _ ha).2;have hlt:a.lev<t.dep:=by
  rcases Int.lt_or_le a.lev t.dep with c|c
  ·exact c
  ·exact absurd ⟨y,hy,a,ha,e,by omega⟩ hno
 have hmb:-y∈bel t t.dep:=by
  unfold bel;rw[List.mem_map];exact⟨a,List.mem_filter.2 ⟨ha,by simpa using hlt⟩,e⟩
 exact val3_m1_of hy6 hmb (fun e2=>h.one hy6 ⟨iz _ e2,iz _ hmb⟩)
structure DeskT (cs:List (List Int)) (ats:List Int) (D:DK):Prop where
  ok:DeskOk D
  cls:ClsN cs ats
  facts:TraF cs ats D.t
  ars:∀k (hk:k<cs.length),isA D.A (ats.getD k 0)=true∧aq D.A (ats.getD k 0)=cs[k]
theorem TraF.pla{cs:List (List Int)}{ats:List Int}{t:RT}(h:TraF cs ats t){j:Nat}(hj:j<t.rows.length):ow t (ab t.rows[j].l)=j:=by
 have h1:=uD (p:=fun x:En=>decide (ab x.l=ab t.rows[j].l)) hj (by simp);obtain⟨i,hi,e1,e2⟩:=jy (t:=t) (v:=ab t.rows[j].l) h1.1;have:=h.inj hi hj e2;subst this;exact e1
theorem mo{cs:List (List Int)}{ats:List Int}{T:Tr}{t:RT}(hT:RelT T t)(h:TraF cs ats t){j:Nat}(hj:j<t.rows.length):(dq T (ab t.rows[j].l)).1.lev=t.rows[j].lev∧(dq T (ab t.rows[j].l)).1.rea=t.rows[j].rea∧(dq T (ab t.rows[j].l)).1.pla=j:=by
 obtain⟨e1,e2,e3⟩:=uP hT (ab t.rows[j].l);have hp:=h.pla hj;rw[e1,e2,e3];unfold KW;rw[hp,if_neg (by omega),Int.toNat_natCast,List.getD_eq_getElem?_getD,List.getElem?_eq_getElem hj];exact⟨rfl,rfl,rfl⟩
theorem mZ{cs:List (List Int)}{ats:List Int}{T:Tr}{t:RT}(hT:RelT T t)(h:TraF cs ats t){j:Nat}(hj:j<t.rows.length){y:Int}(hy:t.rows[j].l=-y):dB T y=t.rows[j].lev:=by
 unfold dB;rw[oz hj hy];exact(mo hT h hj).1
theorem Hh{cs:List (List Int)}{ats:List Int}{T:Tr}{t:RT}(hT:RelT T t)(hF:TraF cs ats t){p:PS}{n:Nat}(h:LI t p n){y:Int}{j:Nat}(hj:j<t.rows.length)(hy:t.rows[j].l=-y)
 (hn:t.rows[j].lev=t.dep→j<n∨t.rows[j].rea<0) (but:Int):
 LI t (takeF T but p y) n∧(ab y=but∨t.rows[j].lev≤0∨ay (takeF T but p y).seen (ab y)=true)∧(∀v,ay p.seen v=true→ay (takeF T but p y).seen v=true)∧p.many≤(takeF T but p y).many:=by
 have hl:=mZ hT hF hj hy;have hv:=oz hj hy;have hd:=hT.dep;unfold takeF
 by_cases c:ab y=but∨ay p.seen (ab y)=true∨dB T y≤0
 ·rw[if_pos c];refine⟨h,?_,fun v hv=>hv,Nat.le_refl _⟩;rcases c with c|c|c
  ·exact .inl c
  ·exact .inr (.inr c)
  ·exact .inr (.inl (by omega))
 rw[if_neg c];have hns:ay p.seen (ab y)=false:=by
  cases e:ay p.seen (ab y)
  ·rfl
  ·exact absurd (.inr (.inl e)) c
 have hl0:0<t.rows[j].lev:=by
  rcases Int.lt_or_le 0 t.rows[j].lev with e|e
  ·exact e
  ·exact absurd (.inr (.inr (by omega))) c
 have hlev:=(hF.lev _ (List.getElem_mem hj)).2
 by_cases c2:dB T y=T.beg.length
 ·rw[if_pos c2];have hs:∀w,ay (pt p.seen (ab y) 1) w=if ab y=w then true else ay p.seen w:=fun w=>by rw[lO];simp
  refine⟨⟨?_,h.li,?_,?_⟩,.inr (.inr (by rw[hs,if_pos rfl])),fun v hv=>by rw[hs];split<;>simp[hv],Nat.le_succ _⟩
  ·intro v hsv;rw[hs]at hsv;split at hsv
   ·rename_i e;exact⟨j,hj,by rw[←hv,e],hl0,hn⟩
   ·exact h.sn v hsv
  ·intro i hi hsi hlt;rw[hs]at hsi;split at hsi
   ·rename_i e;have:=hF.inj hj hi (hv.symm.trans e);subst this;omega
   ·exact h.ls i hi hsi hlt
  ·dsimp only;rw[h.mn];symm;apply mT hj
   ·rw[←hv,hns];rfl
   ·rw[←hv,hs,if_pos rfl];simp;omega
   ·intro i hi hne;rw[hs,if_neg];intro e;exact hne (hF.inj hi hj (e.symm.trans hv))
 ·rw[if_neg c2];have hs:∀w,ay (pt p.seen (ab y) 1) w=if ab y=w then true else ay p.seen w:=fun w=>by rw[lO];simp
  refine⟨⟨?_,?_,?_,?_⟩,.inr (.inr (by rw[hs,if_pos rfl])),fun v hv=>by rw[hs];split<;>simp[hv],Nat.le_refl _⟩
  ·intro v hsv;rw[hs]at hsv;split at hsv
   ·rename_i e;exact⟨j,hj,by rw[←hv,e],hl0,hn⟩
   ·exact h.sn v hsv
  ·intro l hm;rcases List.mem_append.1 hm with hm|hm
   ·exact h.li l hm
   ·simp at hm;subst hm;exact⟨j,hj,hy,hl0,by omega⟩
  ·intro i hi hsi hlt;rw[hs]at hsi;split at hsi
   ·rename_i e;have:=hF.inj hj hi (hv.symm.trans e);subst this;rw[hy];simp
   ·exact List.mem_append_left _ (h.ls i hi hsi hlt)
  ·dsimp only;rw[h.mn];apply List.countP_congr;intro x hx;rw[hs];split
   ·rename_i e;obtain⟨i,hi,rfl⟩:=List.getElem_of_mem hx;have:=hF.inj hj hi (hv.symm.trans e);subst this;have:¬t.rows[j].lev=t.dep:=by omega
    simp[this]
   ·rfl
theorem ru{cs:List (List Int)}{ats:List Int}{T:Tr}{t:RT}(hT:RelT T t)(hF:TraF cs ats t){n:Nat}(but:Int):∀(c:List Int)(p:PS),LI t p n→
 (∀y∈c,ab y=but∨∃j,∃hj:j<t.rows.length,t.rows[j].l=-y∧(t.rows[j].lev=t.dep→j<n∨t.rows[j].rea<0))→
 LI t (c9 T but c p) n∧(∀y∈c,ab y=but∨dB T y≤0∨ay (c9 T but c p).seen (ab y)=true)∧(∀v,ay p.seen v=true→ay (c9 T but c p).seen v=true)∧p.many≤(c9 T but c p).many
 |[],p,h,_=>⟨h,by simp,fun _ hv=>hv,Nat.le_refl _⟩
 |y::c,p,h,hc=>by
  have key:LI t (takeF T but p y) n∧(ab y=but∨dB T y≤0∨ay (takeF T but p y).seen (ab y)=true)∧(∀v,ay p.seen v=true→ay (takeF T but p y).seen v=true)∧p.many≤(takeF T but p y).many:=by
   rcases hc y (List.mem_cons_self ..)with e|⟨j,hj,hy,hn⟩
   ·have:takeF T but p y=p:=by unfold takeF;rw[if_pos (.inl e)]
    rw[this];exact⟨h,.inl e,fun _ hv=>hv,Nat.le_refl _⟩
   ·have:=Hh hT hF h hj hy hn but;rw[←mZ hT hF hj hy]at this;exact this
  obtain⟨k1,k2,k3,k4⟩:=key;obtain⟨g1,g2,g3,g4⟩:=ru hT hF but c (takeF T but p y) k1 (fun z hz=>hc z (List.mem_cons_of_mem _ hz));have e:c9 T but (y::c) p=c9 T but c (takeF T but p y):=rfl;rw[e];refine⟨g1,?_,fun v hv=>g3 v (k3 v hv),Nat.le_trans k4 g4⟩;intro z hz;rcases List.mem_cons.1 hz with rfl|hz
  ·rcases k2 with k2|k2|k2
   ·exact .inl k2
   ·exact .inr (.inl k2)
   ·exact .inr (.inr (g3 _ k2))
  ·exact g2 z hz
theorem Hj{cs:List (List Int)}{ats:List Int}{t:RT}(hF:TraF cs ats t){p:PS}{n:Nat}(h:LI t p (n+1))(hn:n<t.rows.length)(hs:ay p.seen (ab t.rows[n].l)=true)(hd:t.rows[n].lev=t.dep):
 LI t ⟨pt p.seen (ab t.rows[n].l) 0,p.lits,p.many -1⟩ n:=by
 have hs0:∀w,ay (pt p.seen (ab t.rows[n].l) 0) w=if ab t.rows[n].l=w then false else ay p.seen w:=fun w=>by rw[lO];simp
 refine⟨?_,h.li,?_,?_⟩
 ·intro v hv;rw[hs0]at hv;split at hv
  ·cases hv
  ·rename_i e;obtain⟨j,hj,e1,e2,e3⟩:=h.sn v hv;refine⟨j,hj,e1,e2,fun hd=>(e3 hd).imp (fun hlt=>?_) id⟩;have:j≠n:=fun e4=>by subst e4;exact e e1
   omega
 ·intro j hj hsj hlt;rw[hs0]at hsj;split at hsj
  ·cases hsj
  ·exact h.ls j hj hsj hlt
 ·dsimp only; rw [h.mn]; have := mT (l := t.rows) (P := fun x => ay (pt p.seen (ab t.rows[n].l) 0) (ab x.l) && decide (x.lev = t.dep)) (Q := fun x => ay p.seen (ab x.l) && decide (x.lev = t.dep)) hn (by
   rw[hs0,if_pos rfl];rfl) (by rw[hs];simp[hd]) (fun i hi hne=>by
   rw[hs0,if_neg];intro e;exact hne (hF.inj hi hn e.symm))
  rw[this];omega
theorem cR{cs:List (List Int)}{ats:List Int}{D:DK}(h:DeskT cs ats D){n:Nat}(hn:n<D.t.rows.length)(hr:0≤D.t.rows[n].rea):isA D.A D.t.rows[n].rea=true∧D.t.rows[n].l∈aq D.A D.t.rows[n].rea∧
 ∀y∈aq D.A D.t.rows[n].rea,da y=true∧(y≠D.t.rows[n].l→∃j,∃hj:j<D.t.rows.length,j<n∧D.t.rows[j].l=-y):=by
 rcases h.ok.rea n hn with h1|⟨h1,h2,h3⟩
 ·omega
 ·refine⟨h1,h2,fun y hy=>?_⟩;obtain⟨q1,q2⟩:=h3 y hy;refine⟨q1,fun hne=>?_⟩;have:=q2 hne;rw[(litO q1).2.2.2.2,List.mem_map]at this;obtain⟨x,hx,e⟩:=this;obtain⟨j,hj,rfl⟩:=List.getElem_of_mem hx;have hj':j<n∧j<D.t.rows.length:=by simp at hj;omega
  refine⟨j,hj'.2,hj'.1,?_⟩;rw[←e];simp
theorem Fk{cs:List (List Int)}{ats:List Int}{D:DK}(h:DeskT cs ats D){p:PS}{n:Nat}(hi:LI D.t p (n+1))(hn:n<D.t.rows.length)(hp:mh D.T p D.t.rows[n].l=true):
 LI D.t (mS D.A D.T p D.t.rows[n].l) n∧p.many -1≤(mS D.A D.T p D.t.rows[n].l).many∧
  (∀j (hj:j<D.t.rows.length),j≠n→ay p.seen (ab D.t.rows[j].l)=true→ay (mS D.A D.T p D.t.rows[n].l).seen (ab D.t.rows[j].l)=true)∧
  (∀y∈aq D.A D.t.rows[n].rea,y≠D.t.rows[n].l→dB D.T y≤0∨ay (mS D.A D.T p D.t.rows[n].l).seen (ab y)=true):=by
 have hF:=h.facts;have hT:=h.ok.rel.1;unfold mh dB at hp;obtain⟨o1,o2,o3⟩:=mo hT hF hn;rw[o1,o2]at hp;simp only[Bool.and_eq_true,decide_eq_true_eq]at hp;obtain⟨p1,p2,p3⟩:=hp;have hd:=hT.dep;have h1:=Hj hF hi hn p1 (by omega);obtain⟨r1,r2,r3⟩:=cR h hn p3;have hres:mS D.A D.T p D.t.rows[n].l=c9 D.T (ab D.t.rows[n].l) (aq D.A D.t.rows[n].rea) ⟨pt p.seen (ab D.t.rows[n].l) 0,p.lits,p.many -1⟩:=by
  unfold mS;rw[o2]
 obtain ⟨g1, g2, g3, g4⟩ := ru hT hF (ab D.t.rows[n].l) (aq D.A D.t.rows[n].rea) _ h1 (fun y hy => by
  by_cases e:y=D.t.rows[n].l
  ·exact .inl (by rw[e])
  ·obtain⟨j,hj,hjn,e2⟩:=(r3 y hy).2 e;exact .inr ⟨j,hj,e2,fun _=>.inl hjn⟩)
 rw[hres];refine⟨g1,g4,fun j hj hne hsj=>?_,fun y hy hne=>?_⟩
 ·apply g3;rw[lO,if_neg]
  ·exact hsj
  ·intro e;exact hne (hF.inj hj hn e.symm)
 ·rcases g2 y hy with e|e|e
  ·exfalso;obtain⟨j,hj,hjn,e2⟩:=(r3 y hy).2 hne;rw[oz hj e2]at e;have:=hF.inj hj hn e;omega
  ·exact .inl e
  ·exact .inr e
theorem AJ{t:RT}{T:Tr}{cs:List (List Int)}{ats:List Int}(hT:RelT T t)(hF:TraF cs ats t){p:PS}{n:Nat}(h:LI t p (n+1))(hn:n<t.rows.length)(hp:¬mh T p t.rows[n].l=true):LI t p n:=by
 refine⟨fun v hv=>?_,h.li,h.ls,h.mn⟩;obtain⟨j,hj,e1,e2,e3⟩:=h.sn v hv;refine⟨j,hj,e1,e2,fun hd=>?_⟩;rcases e3 hd with e|e
 ·by_cases c:j=n
  ·subst c;right;apply Classical.byContradiction;intro hr;apply hp;unfold mh dB;obtain⟨o1,o2,o3⟩:=mo hT hF hj;rw[o1,o2,e1,hv];have:=hT.dep;simp only[Bool.and_eq_true,decide_eq_true_eq,true_and];omega
  ·left;omega
 ·exact .inr e
theorem Hk{t:RT}{cs:List (List Int)}{ats:List Int}(hF:TraF cs ats t){p:PS}(h:LI t p 0):p.many≤1:=by
 apply Classical.byContradiction;intro hno;have h2:2≤t.rows.countP (fun x=>ay p.seen (ab x.l)&&decide (x.lev=t.dep)):=by rw[←h.mn];omega
 obtain⟨i,j,hi,hj,hij,p1,p2⟩:=qQ h2;simp only[Bool.and_eq_true,decide_eq_true_eq]at p1 p2;obtain⟨j',hj',e1,e2,e3⟩:=h.sn _ p2.1;have:=hF.inj hj' hj e1;subst this;rcases e3 p2.2 with e|e
 ·omega
 ·have:=(hF.dec j' hj e).2 i hi hij;omega
theorem yW{T:Tr}{t:RT}(hT:RelT T t){n:Nat}(hn:n<t.rows.length):T.lits.getD n 0=t.rows[n].l:=by
 rw[hT.lits,List.getD_eq_getElem?_getD,List.getElem?_map,List.getElem?_eq_getElem hn];rfl
theorem uQ{cs:List (List Int)}{ats:List Int}{D:DK}(h:DeskT cs ats D):∀(n:Nat)(p:PS),n≤D.t.rows.length→LI D.t p n→
 (∃m,LI D.t (cA D.A D.T D.T.lits n p) m)∧(cA D.A D.T D.T.lits n p).many≤1∧(1≤p.many→1≤(cA D.A D.T D.T.lits n p).many)
 |0,p,_,hi=>⟨⟨0,hi⟩,Hk h.facts hi,fun e=>e⟩
 |n+1,p,hn,hi=>by
  rw[cA];split
  ·exact⟨⟨_,hi⟩,by assumption,fun e=>e⟩
  rename_i c;have hlt:n<D.t.rows.length:=by omega
  rw[yW h.ok.rel.1 hlt];split
  ·rename_i hp;obtain⟨g1,g2,_⟩:=Fk h hi hlt hp;obtain⟨k1,k2,k3⟩:=uQ h n _ (by omega) g1;exact⟨k1,k2,fun _=>k3 (by omega)⟩
  ·rename_i hp;exact uQ h n p (by omega) (AJ h.ok.rel.1 h.facts hi hlt hp)
theorem Fl{cs:List (List Int)}{ats:List Int}{D:DK}(h:DeskT cs ats D){j:Nat}(hj:j<D.t.rows.length):bV D.T (-D.t.rows[j].l)=-1∧bV D.T D.t.rows[j].l=1:=by
 have hF:=h.facts;have hc:=hF.chk _ (List.getElem_mem hj);have hp:=hF.pla hj;obtain⟨n0,n1,n2,_⟩:=litO hc;constructor
 ·rcases pU h.ok.rel.1 (rr hc) hj (by rw[dt];exact hp)with⟨_,e⟩|⟨e,_⟩
  ·exact e
  ·omega
 ·rcases pU h.ok.rel.1 hc hj hp with⟨e,_⟩|⟨_,e⟩
  ·omega
  ·exact e
theorem yX{cs:List (List Int)}{ats:List Int}{D:DK}(h:DeskT cs ats D){R:List Int}{j:Nat}(hj:j<D.t.rows.length)(hr:0≤D.t.rows[j].rea)(hy:∀y∈aq D.A D.t.rows[j].rea,y≠D.t.rows[j].l→HOk D.A D.T R y):HOk D.A D.T R (-D.t.rows[j].l):=by
 obtain⟨o1,o2,o3⟩:=mo h.ok.rel.1 h.facts hj;obtain⟨r1,r2,r3⟩:=cR h hj hr;refine .why (by rw[(Fl h hj).1];omega) ?_ ?_ ?_
 ·rw[dt,o2];exact hr
 ·rw[dt,o2];exact r1
 ·rw[dt,o2];intro y hm hne;exact hy y hm (by rw[Int.neg_neg]at hne;exact hne)
theorem uR{cs:List (List Int)}{ats:List Int}{D:DK}(h:DeskT cs ats D)(R:List Int):∀(n j:Nat)(hj:j<D.t.rows.length),j<n→D.t.rows[j].lev≤0→HOk D.A D.T R (-D.t.rows[j].l)
 |0,_,_,hn,_=>by omega
 |n+1,j,hj,hn,hl=>by
  have hF:=h.facts;have hr:0≤D.t.rows[j].rea:=by
   rcases Int.lt_or_le D.t.rows[j].rea 0 with e|e
   ·have:=(hF.dec j hj e).1;omega
   ·exact e
  refine yX h hj hr fun y hy hne=>?_;obtain⟨i,hi,hij,e⟩:=((cR h hj hr).2.2 y hy).2 hne;have hm:=hF.mono i j hi hj hij;have:=uR h R n i hi (by omega) (by omega);rw[gR hi e];exact this
theorem HP{cs:List (List Int)}{ats:List Int}{D:DK}(h:DeskT cs ats D){p:PS}{R:List Int}(hf:Fr D p R){j:Nat}(hj:j<D.t.rows.length){y:Int}(hy:D.t.rows[j].l=-y)(hs:dB D.T y≤0∨ay p.seen (ab y)=true):HOk D.A D.T R y:=by
 have hl:=mZ h.ok.rel.1 h.facts hj hy;rw[gR hj hy];rcases hs with e|e
 ·exact uR h R (j+1) j hj (by omega) (by omega)
 ·rw[oz hj hy]at e;exact hf j hj e
theorem uS{cs:List (List Int)}{ats:List Int}{D:DK}(h:DeskT cs ats D){R:List Int}:∀(n:Nat)(p:PS),n≤D.t.rows.length→LI D.t p n→Fr D (cA D.A D.T D.T.lits n p) R→Fr D p R
 |0,p,_,_,hf=>hf
 |n+1,p,hn,hi,hf=>by
  rw[cA]at hf;split at hf
  ·exact hf
  have hlt:n<D.t.rows.length:=by omega
  rw[yW h.ok.rel.1 hlt]at hf;split at hf
  ·rename_i hp;obtain⟨g1,g2,g3,g4⟩:=Fk h hi hlt hp;have ih:=uS h n _ (by omega) g1 hf;intro j hj hs
   by_cases e:j=n
   ·subst e;obtain⟨o1,o2,o3⟩:=mo h.ok.rel.1 h.facts hj;have hr:0≤D.t.rows[j].rea:=by
     unfold mh at hp;rw[o2]at hp;simp only[Bool.and_eq_true,decide_eq_true_eq]at hp;exact hp.2.2
    refine yX h hj hr fun y hy hne=>?_;obtain⟨i,hi2,_,e2⟩:=((cR h hj hr).2.2 y hy).2 hne;exact HP h ih hi2 e2 (g4 y hy hne)
   ·exact ih j hj (g3 j hj e hs)
  ·rename_i hp;exact uS h n p (by omega) (AJ h.ok.rel.1 h.facts hi hlt hp) hf
structure Conf (D:DK) (con:Int):Prop where
  is:isA D.A con=true
  neg:∀y∈aq D.A con,da y=true∧∃j,∃hj:j<D.t.rows.length,D.t.rows[j].l=-y
  top:0<D.t.dep→∃y∈aq D.A con,∃j,∃hj:j<D.t.rows.length,D.t.rows[j].l=-y∧D.t.rows[j].lev=D.t.dep
theorem conf_at{cs:List (List Int)}{ats:List Int}{D:DK}(h:DeskT cs ats D){k:Nat}(hk:k<cs.length)(hf:FX (dx D.t) cs[k]=-1):Conf D (ats.getD k 0):=by
 obtain⟨a1,a2⟩:=h.ars k hk;have hm:=List.getElem_mem hk;refine⟨a1,?_,?_⟩
 ·rw[a2];intro y hy;have hy6:=h.cls.chk _ hm y hy;refine⟨hy6,?_⟩;rw[mR]at hf;have:=uC (hf y hy (litO hy6).2.2.2.1);rw[(litO hy6).2.2.2.2]at this;unfold dx at this;obtain⟨x,hx,e2⟩:=List.mem_map.1 this;obtain⟨j,hj,rfl⟩:=List.getElem_of_mem hx;exact⟨j,hj,e2⟩
 ·rw[a2];intro hd;obtain⟨y,hy,x,hx,e2,e3⟩:=Fj h.cls h.facts hm hf hd;obtain⟨j,hj,rfl⟩:=List.getElem_of_mem hx;exact⟨y,hy,j,hj,e2,e3⟩
theorem IP{cs:List (List Int)}{ats:List Int}{D:DK}(h:DeskT cs ats D){con:Int}(hc:Conf D con):
 LI D.t (gh D.A D.T con) D.t.rows.length∧(∀y∈aq D.A con,dB D.T y≤0∨ay (gh D.A D.T con).seen (ab y)=true)∧(0<D.t.dep→1≤(gh D.A D.T con).many):=by
 obtain ⟨g1, g2, _, _⟩ := ru h.ok.rel.1 h.facts 0 (aq D.A con) _ (IC D.t D.t.rows.length) (fun y hy => by
  obtain⟨_,j,hj,e⟩:=hc.neg y hy;exact .inr ⟨j,hj,e,fun _=>.inl hj⟩)
 have g3:∀y∈aq D.A con,dB D.T y≤0∨ay (gh D.A D.T con).seen (ab y)=true:=fun y hy=>by
  rcases g2 y hy with e|e
  ·have:=(nS (hc.neg y hy).1).1;omega
  ·exact e
 refine⟨g1,g3,fun hd=>?_⟩;obtain⟨y,hy,j,hj,e1,e2⟩:=hc.top hd;have hl:=mZ h.ok.rel.1 h.facts hj e1;have hs:ay (gh D.A D.T con).seen (ab y)=true:=by
  rcases g3 y hy with e|e
  ·omega
  ·exact e
 have:=g1.mn;unfold gh at this⊢;rw[this,Nat.one_le_iff_ne_zero,Ne,List.countP_eq_zero];intro hno;have h2:=hno _ (List.getElem_mem hj);rw[oz hj e1]at hs;unfold gh at hs;simp[hs,e2]at h2
structure Learnt (D:DK) (L:List Int):Prop where
  nd:L.Nodup
  neg:∀y∈L,da y=true∧∃j,∃hj:j<D.t.rows.length,D.t.rows[j].l=-y∧0<D.t.rows[j].lev
  nil:D.t.dep=0→L=[]
  top:0<D.t.dep→∃u r,L=u::r∧dB D.T u=D.t.dep∧∀y∈r,dB D.T y<D.t.dep
theorem Fm{cs:List (List Int)}{ats:List Int}{D:DK}(h:DeskT cs ats D)(p:PS)(y:Int):y∈pj D.T D.T.lits p↔y∈p.lits∨∃j,∃hj:j<D.t.rows.length,D.t.rows[j].l=-y∧ay p.seen (ab D.t.rows[j].l)=true∧D.t.rows[j].lev=D.t.dep:=by
 have hT:=h.ok.rel.1;have hF:=h.facts;have hd:=hT.dep;unfold pj;rw[List.mem_append,List.mem_map];constructor
 ·rintro(e|⟨l,hl,e⟩)
  ·exact .inl e
  ·rw[List.mem_filter,hT.lits]at hl;obtain⟨hl1,hl2⟩:=hl;obtain⟨x,hx,rfl⟩:=List.mem_map.1 hl1;obtain⟨j,hj,rfl⟩:=List.getElem_of_mem hx;have hw:=(litO (hF.chk _ hx)).2.2.2.2;simp only[Bool.and_eq_true,decide_eq_true_eq]at hl2;have ho:=(mo hT hF hj).1;unfold dB at hl2;exact .inr ⟨j,hj,by omega,hl2.1,by omega⟩
 ·rintro(e|⟨j,hj,e1,e2,e3⟩)
  ·exact .inl e
  ·right;have hw:=(litO (hF.chk _ (List.getElem_mem hj))).2.2.2.2;have ho:=(mo hT hF hj).1;refine⟨D.t.rows[j].l,?_,by omega⟩;rw[List.mem_filter,hT.lits];refine⟨List.mem_map.2 ⟨_,List.getElem_mem hj,rfl⟩,?_⟩;unfold dB;simp only[Bool.and_eq_true,decide_eq_true_eq];exact⟨e2,by omega⟩
theorem learn_is{cs:List (List Int)}{ats:List Int}{D:DK}(h:DeskT cs ats D){con:Int}(hc:Conf D con):
 Learnt D (cZ D.A D.T con)∧∀y∈aq D.A con,HOk D.A D.T (cZ D.A D.T con) y:=by
 have hT:=h.ok.rel.1;have hF:=h.facts;have hd:=hT.dep;have hlen:D.T.lits.length=D.t.rows.length:=by rw[hT.lits,List.length_map]
 obtain⟨b1,b2,b3⟩:=IP h hc;obtain⟨⟨m,w1⟩,w2,w3⟩:=uQ h D.t.rows.length (gh D.A D.T con) (Nat.le_refl _) b1;have wf:=fun R=>uS h (R:=R) D.t.rows.length (gh D.A D.T con) (Nat.le_refl _) b1;have hL:cZ D.A D.T con=DX D.T (d4 (pj D.T D.T.lits (cA D.A D.T D.T.lits D.t.rows.length (gh D.A D.T con)))):=by
  unfold cZ DY;rw[hlen]
 have hmem:=Fm h (cA D.A D.T D.T.lits D.t.rows.length (gh D.A D.T con));generalize hp:cA D.A D.T D.T.lits D.t.rows.length (gh D.A D.T con)=p at*;generalize hE:pj D.T D.T.lits p=E at*;have hEn:∀y∈E,da y=true∧∃j,∃hj:j<D.t.rows.length,D.t.rows[j].l=-y∧0<D.t.rows[j].lev∧(D.t.rows[j].lev=D.t.dep→ay p.seen (ab D.t.rows[j].l)=true):=fun y hy=>by
  rcases(hmem y).1 hy with e|⟨j,hj,e1,e2,e3⟩
  ·obtain⟨j,hj,e1,e2,e3⟩:=w1.li y e;refine⟨?_,j,hj,e1,e2,fun e4=>by omega⟩;have:=rr (hF.chk _ (List.getElem_mem hj));rw[e1,Int.neg_neg]at this;exact this
  ·obtain⟨j',hj',q1,q2,_⟩:=w1.sn _ e2;have:=hF.inj hj' hj q1;subst this;refine⟨?_,j',hj,e1,q2,fun _=>e2⟩;have:=rr (hF.chk _ (List.getElem_mem hj));rw[e1,Int.neg_neg]at this;exact this
 have hN:∀y,y∈d4 E↔y∈E:=fun y=>by
  rw[(ny E).2];exact⟨fun e=>e.2,fun e=>⟨Lm (hEn y e).1,e⟩⟩
 have hnd:=wq E;have hfin:∀L,(∀y,y∈L↔y∈E)→∀y∈aq D.A con,HOk D.A D.T L y:=fun L hLE=>by
  have hfr:Fr D p L:=fun j hj hs=>by
   apply HOk.stop;rw[hLE,hmem];rcases Int.lt_or_le D.t.rows[j].lev D.t.dep with e|e
   ·exact .inl (w1.ls j hj hs e)
   ·exact .inr ⟨j,hj,by omega,hs,by have:=(hF.lev _ (List.getElem_mem hj)).2;omega⟩
  have:=wf L hfr;intro y hy;obtain⟨_,j,hj,e⟩:=hc.neg y hy;exact HP h this hj e (b2 y hy)
 by_cases c:D.t.dep=0
 ·have hE0:E=[]:=by
   cases hEe:E with
   |nil=>rfl
   |cons y r=>
    obtain⟨_,j,hj,_,e2,_⟩:=hEn y (by rw[hEe];simp);have:=(hF.lev _ (List.getElem_mem hj)).2;omega
  have hL0:cZ D.A D.T con=[]:=by rw[hL,hE0,BO];rfl
  refine⟨⟨by rw[hL0];exact List.nodup_nil,by rw[hL0];simp,fun _=>hL0,fun e=>by omega⟩,hfin _ fun y=>by rw[hL0,hE0]⟩
 have hd0:0<D.t.dep:=by have:=hF.dep;omega
 have hm1:p.many=1:=by have:=w3 (b3 hd0);omega
 have hcnt:D.t.rows.countP (fun x=>ay p.seen (ab x.l)&&decide (x.lev=D.t.dep))=1:=by rw[←w1.mn];exact hm1
 have hex:0<D.t.rows.countP (fun x=>ay p.seen (ab x.l)&&decide (x.lev=D.t.dep)):=by omega
 rw[List.countP_pos_iff]at hex;obtain⟨x,hx,hx2⟩:=hex;obtain⟨j,hj,rfl⟩:=List.getElem_of_mem hx;simp only[Bool.and_eq_true,decide_eq_true_eq]at hx2;have huE:-D.t.rows[j].l∈E:=(hmem _).2 (.inr ⟨j,hj,by omega,hx2.1,hx2.2⟩);have huN:=(hN _).2 huE;obtain⟨k,hk,hku⟩:=List.getElem_of_mem huN;have hlk:dB D.T (d4 E)[k]=D.t.dep:=by rw[hku,mZ hT hF hj (show D.t.rows[j].l=-(-D.t.rows[j].l) by omega)];exact hx2.2
 have hlo:∀i (hi:i<(d4 E).length),i≠k→dB D.T (d4 E)[i]<dB D.T (d4 E)[k]:=fun i hi hne=>by
  obtain⟨_,j2,hj2,e1,e2,e3⟩:=hEn _ ((hN _).1 (List.getElem_mem hi));have hl:=mZ hT hF hj2 e1;have hle:=(hF.lev _ (List.getElem_mem hj2)).2;rw[hlk,hl];rcases Int.lt_or_le D.t.rows[j2].lev D.t.dep with e|e
  ·exact e
  ·exfalso;have hs:=e3 (by omega);have hjj:j2=j:=by
    rcases Nat.lt_trichotomy j2 j with q|q|q
    ·have:=mU (P:=fun x=>ay p.seen (ab x.l)&&decide (x.lev=D.t.dep)) q hj (by simp only[Bool.and_eq_true,decide_eq_true_eq];exact⟨hs,by omega⟩) (by simp only[Bool.and_eq_true,decide_eq_true_eq];exact hx2);omega
    ·exact q
    ·have:=mU (P:=fun x=>ay p.seen (ab x.l)&&decide (x.lev=D.t.dep)) q hj2 (by simp only[Bool.and_eq_true,decide_eq_true_eq];exact hx2) (by simp only[Bool.and_eq_true,decide_eq_true_eq];exact⟨hs,by omega⟩);omega
   subst hjj;have heq:(d4 E)[i]=(d4 E)[k]:=by rw[hku];omega
   exact hne (sS hnd hi hk heq)
 have hP:=GN hk (by rw[hlk];omega) hlo;have hL1:cZ D.A D.T con=(d4 E)[k]::(d4 E).eraseIdx k:=hL.trans hP;have hLm:∀y,y∈cZ D.A D.T con↔y∈E:=fun y=>by rw[hL1,lg hk,hN]
 refine⟨⟨?_,fun y hy=>?_,fun e=>absurd e c,fun _=>⟨_,_,hL1,hlk,fun y hy=>?_⟩⟩,hfin _ hLm⟩
 ·rw[hL1,List.nodup_cons];refine⟨fun hm=>?_,hnd.sublist (List.eraseIdx_sublist _ _)⟩;rw[List.mem_eraseIdx_iff_getElem]at hm;obtain⟨i,hi,hne,e⟩:=hm;exact hne (sS hnd hi hk e)
 ·obtain⟨e0,j,hj,e1,e2,_⟩:=hEn y ((hLm y).1 hy);exact⟨e0,j,hj,e1,e2⟩
 ·rw[List.mem_eraseIdx_iff_getElem]at hy;obtain⟨i,hi,hne,rfl⟩:=hy;have:=hlo i hi hne;omega
structure DeskI (cs:List (List Int)) (ats:List Int) (D:DK):Prop extends DeskT cs ats D where
  id:∀x∈D.a.rows,1≤x.id
theorem id_is{cs:List (List Int)}{ats:List Int}{D:DK}(h:DeskI cs ats D){q:Int}(hq:isA D.A q=true):lh D.A q≠0:=by
 obtain⟨x,hx,e⟩:=h.ok.relA.is q hq;obtain⟨p,e1,_,_,_,e5⟩:=h.ok.relA.rows x hx;have hi:=h.id x hx;have hqp:q=(p:Int):=by rw[←e,e1]
 unfold lh;rw[if_pos hq,hqp,Int.toNat_natCast,e5];omega
theorem rv{cs:List (List Int)}{ats:List Int}{D:DK}(h:DeskT cs ats D){j:Nat}(hj:j<D.t.rows.length){y:Int}(hy:D.t.rows[j].l=-y):pla D.T y=j∧rea D.T y=D.t.rows[j].rea:=by
 unfold pla rea;rw[oz hj hy];exact⟨(mo h.ok.rel.1 h.facts hj).2.2,(mo h.ok.rel.1 h.facts hj).2.1⟩
theorem val_neg{cs:List (List Int)}{ats:List Int}{D:DK}(h:DeskT cs ats D){l:Int}(hv:bV D.T l<0):da l=true∧∃j,∃hj:j<D.t.rows.length,D.t.rows[j].l=-l:=by
 obtain⟨hc,i,hi,hp⟩:=tu h.ok.rel.1 (l:=l) (by omega);refine⟨hc,i,hi,?_⟩;rcases pU h.ok.rel.1 hc hi hp with⟨e,_⟩|⟨_,e⟩
 ·exact e
 ·omega
theorem val_of{cs:List (List Int)}{ats:List Int}{D:DK}(h:DeskT cs ats D){l:Int}{j:Nat}(hj:j<D.t.rows.length)(e:D.t.rows[j].l=-l):bV D.T l=-1:=by
 have:=(Fl h hj).1;rw[e,Int.neg_neg]at this;exact this
theorem ahead_ok{cs:List (List Int)}{ats:List Int}{D:DK}(h:DeskT cs ats D)(h0:D.A.hd≠[]):AheadOk D.A D.T where
 tr:=h.ok.rel.1.okT
 hd:=h0
 ar:=fun q hq=>by
  obtain⟨x,hx,e⟩:=h.ok.relA.is q hq;obtain⟨p,e1,e2,_⟩:=h.ok.relA.rows x hx;exact⟨p,_,by rw[←e,e1],e2⟩
 len:=h.ok.len
 ahead:=fun l hv hr=>by
  obtain⟨hc,j,hj,e⟩:=val_neg h hv;obtain⟨p1,p2⟩:=rv h hj e;rw[p1];refine⟨by omega,fun y hy hne=>?_⟩;rw[p2]at hy hr;have hw:=(litO hc).2.2.2.2;obtain⟨i,hi,hij,e2⟩:=((cR h hj hr).2.2 y hy).2 (by rw[e,←hw];exact hne);rw[(rv h hi e2).1];omega
theorem pla_lt{cs:List (List Int)}{ats:List Int}{D:DK}(h:DeskT cs ats D)(l:Int):pla D.T l<D.T.lits.length:=by
 unfold pla;rw[(uP h.ok.rel.1 (ab l)).2.2,h.ok.rel.1.lits,List.length_map];rcases Int.lt_or_le (ow D.t (ab l)) 0 with c|c
 ·omega
 ·obtain⟨i,hi,e,_⟩:=jy c;omega
theorem lS{cs:List (List Int)}{ats:List Int}{D:DK}(h:DeskI cs ats D){L:List Int}{stop:List (Int×Int)}(hst:∀y,ay stop y=true↔y∈L){k:Nat}{f:NS→Int→Int→NS}
 (hf:∀(s:NS)(j:Nat)(hj:j<D.t.rows.length),j<k→0≤D.t.rows[j].rea→NI D L s→Post D L s (f s D.t.rows[j].rea D.t.rows[j].l) (aq D.A D.t.rows[j].rea) D.t.rows[j].l) (but:Int):
 ∀(c:List Int)(s:NS),NI D L s→(∀y∈c,y≠but→da y=true∧∃j,∃hj:j<D.t.rows.length,D.t.rows[j].l=-y∧j<k)→Post D L s (qT f D.A D.T stop but c s) c but
 |[],s,hn,_=>⟨hn,fun _ e=>e,fun e=>⟨e,by simp,fun j hj h1 h2=>by rw[qT]at h1;rw[h1]at h2;cases h2⟩,fun _=>rfl⟩
 |y::c,s,hn,hc=>by
  have hc':=fun z hz=>hc z (List.mem_cons_of_mem _ hz);rw[qT]
  by_cases hs:sU D.T stop but s y=true
  ·rw[if_pos hs];have ih:=lS h hst hf but c s hn hc';refine⟨ih.ni,ih.mono,fun ho=>?_,fun hk=>ih.ok fun z hz=>hk z (List.mem_cons_of_mem _ hz)⟩;obtain⟨a1,a2,a3⟩:=ih.all ho;refine⟨a1,fun z hz hne=>?_,a3⟩;rcases List.mem_cons.1 hz with rfl|hz
   ·unfold sU at hs;simp only[Bool.or_eq_true,Bool.and_eq_true,decide_eq_true_eq]at hs;rcases hs with(e|e)|⟨e,_⟩
    ·exact absurd e hne
    ·exact .inl ((hst _).1 e)
    ·obtain⟨_,j,hj,e1,_⟩:=hc z (List.mem_cons_self ..) hne;rw[(rv h.toDeskT hj e1).1]at e;exact .inr ⟨j,hj,e1,ih.mono _ e⟩
   ·exact a2 z hz hne
  rw[if_neg hs];have hns:y≠but∧y∉L∧¬(ay s.at' (pla D.T y)=true∧0≤pla D.T y):=by
   unfold sU at hs;simp only[Bool.or_eq_true,Bool.and_eq_true,decide_eq_true_eq,not_or]at hs;exact⟨hs.1.1,fun e=>hs.1.2 ((hst _).2 e),hs.2⟩
  obtain⟨n1,n2,n3⟩:=hns;obtain⟨y6,j,hj,e1,hjk⟩:=hc y (List.mem_cons_self ..) n1;obtain⟨p1,p2⟩:=rv h.toDeskT hj e1;have hval:=val_of h.toDeskT hj e1
  by_cases hb:BR D.A D.T y=true
  ·rw[if_pos hb];refine⟨⟨hn.val,hn.mem⟩,fun _ e=>e,fun e=>(by cases e),fun hk=>?_⟩;exfalso;unfold BR at hb;simp only[Bool.or_eq_true,decide_eq_true_eq]at hb;have hy:=hk y (List.mem_cons_self ..) n1;cases hy with
   |stop e=>exact n2 e
   |why v1 v2 v3 _=>
    rcases hb with(e|e)|e
    ·omega
    ·have:rea D.T y=(dq D.T (ab y)).1.rea:=rfl;omega
    ·exact id_is h v3 e
  rw[if_neg hb];have hbn:0≤rea D.T y:=by
   unfold BR at hb;simp only[Bool.or_eq_true,decide_eq_true_eq,not_or]at hb;omega
  have hw:=(litO y6).2.2.2.2;have hwl:aM (-y)=D.t.rows[j].l:=by rw[hw,e1]
  rw[p2]at hbn⊢;rw[hwl];have hnm:ay s.at' j=false:=by
   cases e:ay s.at' j
   ·rfl
   ·exact absurd ⟨by rw[p1];exact e,by omega⟩ n3
  have h0:(lk s.at' (j:Int)).getD 0=0:=by
   have:=hn.val j;unfold ay at hnm;simp at hnm;omega
  have hmk:qS D.T s y=⟨pt s.at' j 1,s.ok⟩:=by
   unfold qS;rw[p1,h0];rfl
  rw[hmk];have hsm:∀p,ay (pt s.at' (j:Int) 1) p=if(j:Int)=p then true else ay s.at' p:=fun p=>by rw[lO];simp
  have hn1:NI D L ⟨pt s.at' j 1,s.ok⟩:=by
   refine⟨fun p=>?_,fun p hp=>?_⟩
   ·dsimp only;rw[bz];split
    ·simp
    ·exact hn.val p
   ·dsimp only at hp;rw[hsm]at hp;split at hp
    ·rename_i e;exact⟨j,hj,e.symm,hbn,by rw[e1,Int.neg_neg];exact n2⟩
    ·exact hn.mem p hp
  have g1:=hf ⟨pt s.at' j 1,s.ok⟩ j hj hjk hbn hn1;generalize f ⟨pt s.at' j 1,s.ok⟩ D.t.rows[j].rea D.t.rows[j].l=s2 at*;have g2:=lS h hst hf but c s2 g1.ni hc';generalize qT f D.A D.T stop but c s2=s3 at*;have hm1:∀p,ay s.at' p=true→ay (pt s.at' (j:Int) 1) p=true:=fun p hp=>by rw[hsm];split<;>simp[hp]
  have hmj:ay s2.at' j=true:=g1.mono j (by dsimp only;rw[hsm,if_pos rfl]);refine⟨g2.ni,fun p hp=>g2.mono p (g1.mono p (hm1 p hp)),fun ho=>?_,fun hk=>?_⟩
  ·obtain⟨a1,a2,a3⟩:=g2.all ho;obtain⟨b1,b2,b3⟩:=g1.all a1;refine⟨b1,fun z hz hne=>?_,fun i hi h3 h4 z hz hne=>?_⟩
   ·rcases List.mem_cons.1 hz with rfl|hz
    ·exact .inr ⟨j,hj,e1,g2.mono _ hmj⟩
    ·exact a2 z hz hne
   ·cases c2:ay s2.at' i
    ·exact a3 i hi h3 c2 z hz hne
    ·by_cases e:j=i
     ·subst e;exact(b2 z hz hne).mono g2.mono
     ·exact(b3 i hi c2 (by dsimp only;rw[hsm,if_neg (by omega)];exact h4) z hz hne).mono g2.mono
  ·rw[g2.ok fun z hz=>hk z (List.mem_cons_of_mem _ hz)];have hy:=hk y (List.mem_cons_self ..) n1;cases hy with
   |stop e=>exact absurd e n2
   |why _ _ _ v4=>
    refine g1.ok fun z hz hne=>?_;have hr:(dq D.T (ab y)).1.rea=D.t.rows[j].rea:=p2;rw[hr]at v4;exact v4 z hz (by rw[←e1];exact hne)
theorem tv{cs:List (List Int)}{ats:List Int}{D:DK}(h:DeskI cs ats D){L:List Int}{stop:List (Int×Int)}(hst:∀y,ay stop y=true↔y∈L):∀(k:Nat)(q but:Int)(s:NS),NI D L s→
 (∀y∈aq D.A q,y≠but→da y=true∧∃j,∃hj:j<D.t.rows.length,D.t.rows[j].l=-y∧j<k)→Post D L s (pm D.A D.T stop (k+1) s q but) (aq D.A q) but
 |0,q,but,s,hn,hq=>by
  rw[pm];exact lS h hst (k:=0) (fun _ j _ hj=>by omega) but _ s hn hq
 |k+1,q,but,s,hn,hq=>by
  rw[pm];refine lS h hst (k:=k+1) (fun s j hj hjk hr hn=>?_) but _ s hn hq;refine tv h hst k _ _ s hn fun y hy hne=>?_;obtain⟨y6,hh⟩:=(cR h.toDeskT hj hr).2.2 y hy;obtain⟨i,hi,hij,e⟩:=hh hne;exact⟨y6,i,hi,e,by omega⟩
def AllNeg(D:DK)(L:List Int):Prop:=∀y∈L,da y=true∧∃j,∃hj:j<D.t.rows.length,D.t.rows[j].l=-y
theorem rx{cs:List (List Int)}{ats:List Int}{D:DK}(h:DeskT cs ats D){j:Nat}(hj:j<D.t.rows.length):rj D j=D.t.rows[j].rea:=by
 unfold rj rea;rw[yW h.ok.rel.1 hj];exact(mo h.ok.rel.1 h.facts hj).2.1
theorem wV{cs:List (List Int)}{ats:List Int}{D:DK}(h:DeskI cs ats D){con:Int}(hc:Conf D con)(L:List Int):Post D L ⟨[],true⟩ (jZ D.A D.T L con) (aq D.A con) 0:=by
 have hlen:D.T.lits.length=D.t.rows.length:=by rw[h.ok.rel.1.lits,List.length_map]
 unfold jZ;refine tv h (fun y=>?_) D.T.lits.length con 0 ⟨[],true⟩ ⟨fun p=>by simp[lk],fun p hp=>by simp[ay,lk]at hp⟩ fun y hy _=>?_
 ·have:=qV L y L.length (Nat.le_refl _)
  rwa [List.take_length]at this
 ·obtain⟨y6,j,hj,e⟩:=hc.neg y hy;exact⟨y6,j,hj,e,by omega⟩
theorem Fo{cs:List (List Int)}{ats:List Int}{D:DK}(h:DeskT cs ats D){i j:Nat}(hi:i<D.t.rows.length)(hj:j<D.t.rows.length)(hij:i<j)(hri:0≤D.t.rows[i].rea)(hrj:0≤D.t.rows[j].rea):D.t.rows[i].rea≠D.t.rows[j].rea:=by
 intro e;have hF:=h.facts;have h1:=(cR h hi hri).2.1;rw[e]at h1;obtain⟨h6,h2⟩:=(cR h hj hrj).2.2 _ h1;have hne:D.t.rows[i].l≠D.t.rows[j].l:=fun e2=>by
  have:=hF.inj hi hj (by rw[e2]);omega
 obtain⟨k,hk,_,e3⟩:=h2 hne;exact hF.one h6 ⟨fE hi,by rw[←e3];exact fE hk⟩
theorem IQ{cs:List (List Int)}{ats:List Int}{D:DK}(h:DeskT cs ats D){con:Int}(hc:Conf D con){i:Nat}(hi:i<D.t.rows.length)(hri:0≤D.t.rows[i].rea):D.t.rows[i].rea≠con:=by
 intro e;have h1:=(cR h hi hri).2.1;rw[e]at h1;obtain⟨h6,k,hk,e3⟩:=hc.neg _ h1;exact h.facts.one h6 ⟨fE hi,by rw[←e3];exact fE hk⟩
theorem wW{cs:List (List Int)}{ats:List Int}{D:DK}(h:DeskT cs ats D){L:List Int}{s:NS}(hn:NI D L s):∀i,i≤D.t.rows.length→dP D.T s.at' i=(BV s i).map (rj D)
 |0,_=>rfl
 |i+1,hi=>by
  have ih:=wW h hn i (by omega);have hr:rea D.T (D.T.lits.getD i 0)=rj D i:=rfl;rw[dP,Ec];unfold Ea;rw[ih,hr]
  by_cases c:ay s.at' i=true
  ·obtain⟨j,hj,e1,e2,_⟩:=hn.mem _ c;have hij:i=j:=by omega
   subst hij;have:¬rj D i∈(BV s i).map (rj D):=by
    intro e;obtain⟨m,hm,e3⟩:=List.mem_map.1 e;rw[uG]at hm;obtain⟨j,hj2,f1,f2,_⟩:=hn.mem _ hm.2;have hmj:m=j:=by omega
    subst hmj;rw[rx h hj2,rx h hj]at e3;exact Fo h hj2 hj hm.1 f2 e2 e3
   rw[if_pos (by simp only[c,this,decide_false,Bool.not_false,Bool.and_self]),if_pos c,List.map_append];rfl
  ·have c':ay s.at' i=false:=by simpa using c
   rw[if_neg (by simp[c']),if_neg c]
theorem Fp{cs:List (List Int)}{ats:List Int}{D:DK}(h:DeskT cs ats D){L:List Int}{s:NS}{l:List Int}{js:List Nat}(hi:CInv D L s l js){y:Int}(y6:da y=true)(hm:-y∈l):cG l y=-1:=
 val3_m1_of y6 hm (fun e=>h.facts.one y6 ⟨hi.sub _ e,hi.sub _ hm⟩)
theorem Fq{cs:List (List Int)}{ats:List Int}{D:DK}(h:DeskI cs ats D){con:Int}(hc:Conf D con){L:List Int}{s:NS}(hn:NI D L s)
 (hcl:∀j (hj:j<D.t.rows.length),ay s.at' j=true→∀y∈aq D.A D.t.rows[j].rea,y≠D.t.rows[j].l→Met D L s y) (hco:∀y∈aq D.A con,Met D L s y):
 ∀(js:List Nat)(l:List Int)(n:Nat),CInv D L s l js→∃l',pp l ((js.map (rj D)).map (aq D.A)++[aq D.A con]) n=(l',n+js.length+1,0)
 |[],l,n,hi=>by
  refine⟨l,?_⟩;have:FX l (aq D.A con)=-1:=by
   rw[mR];intro y hy _;have y6:=(hc.neg y hy).1;refine Fp h.toDeskT hi y6 ?_;rcases hco y hy with e|⟨j,hj,e1,e2⟩
   ·exact hi.neg y e
   ·rw[←e1];exact hi.don j hj e2 (by simp)
  simp[pp,this]
 |j::js,l,n,hi=>by
  obtain⟨hj,hs,hnl⟩:=hi.todo j (List.mem_cons_self ..);obtain⟨j2,hj2,e1,hr,_⟩:=hn.mem _ hs;have hjj:j=j2:=by omega
  subst hjj;have hF:=h.facts;obtain⟨r1,r2,r3⟩:=cR h.toDeskT hj hr;have x6:=(r3 _ r2).1;have hx0:=(litO x6).2.2.2.1;have hw:=(litO x6).2.2.2.2;have hcl':=hcl j hj hs;have hinc:=List.pairwise_cons.1 hi.inc;obtain⟨k,hk,ek1,ek2⟩:∃k,∃hk:k<cs.length,aq D.A D.t.rows[j].rea=cs[k]∧True:=by
   obtain⟨k,hk,e,_⟩:=hF.imp j hj hr;rw[e];exact⟨k,hk,(h.ars k hk).2,trivial⟩
  have hlen:=h.cls.len _ (List.getElem_mem hk);have hnd:=h.cls.nd _ (List.getElem_mem hk);rw[←ek1]at hlen hnd;have hv0:cG l D.t.rows[j].l=0:=by
   unfold cG;rw[if_neg (by omega),if_neg hnl,if_neg];rw[hw];intro e;exact hF.one x6 ⟨fE hj,hi.sub _ e⟩
  have hv1:∀y∈aq D.A D.t.rows[j].rea,y≠D.t.rows[j].l→cG l y=-1:=fun y hy hne=>by
   have y6:=(r3 y hy).1;refine Fp h.toDeskT hi y6 ?_;rcases hcl' y hy hne with e|⟨i,hi2,e1,e2⟩
   ·exact hi.neg y e
   ·obtain⟨i',hi',hij,e3⟩:=(r3 y hy).2 hne;have:i=i':=hF.inj hi2 hi' (by rw[e1,e3]);subst this;rw[←e1];refine hi.don i hi2 e2 ?_;intro hm;rcases List.mem_cons.1 hm with e|hm
    ·omega
    ·have:=hinc.1 i hm;omega
  have hu:=Aj hlen hnd r2 hx0 hv0 hv1;have hnc:¬FX l (aq D.A D.t.rows[j].rea)=-1:=by
   rw[mR];intro e;have:=e _ r2 hx0;omega
  have hi2:CInv D L s (l++[D.t.rows[j].l]) js:=by
   refine⟨?_,fun y hy=>List.mem_append_left _ (hi.neg y hy),?_,?_,hinc.2⟩
   ·intro x hx;rcases List.mem_append.1 hx with hx|hx
    ·exact hi.sub x hx
    ·simp at hx;subst hx;exact fE hj
   ·intro i hil his hnm
    by_cases e:i=j
    ·subst e;simp
    ·exact List.mem_append_left _ (hi.don i hil his (by simp[e,hnm]))
   ·intro i hm;obtain⟨hil,his,hni⟩:=hi.todo i (List.mem_cons_of_mem _ hm);refine⟨hil,his,?_⟩;intro e;rcases List.mem_append.1 e with e|e
    ·exact hni e
    ·simp at e;have:=hF.inj hil hj (by rw[e]);have:=hinc.1 i hm;omega
  obtain⟨l',hl'⟩:=Fq h hc hn hcl hco js _ (n+1) hi2;refine⟨l',?_⟩;rw[List.map_cons,List.map_cons,List.cons_append,pp,rx h.toDeskT hj,if_neg hnc,hu,if_pos rfl,hl',List.length_cons];congr 2;omega
theorem hints_show{cs:List (List Int)}{ats:List Int}{D:DK}(h:DeskI cs ats D){con:Int}(hc:Conf D con){L:List Int}(hL:AllNeg D L)(ho:(jZ D.A D.T L con).ok=true):
 (pn D.T (jZ D.A D.T L con).at' con).Nodup∧(∀q∈pn D.T (jZ D.A D.T L con).at' con,isA D.A q=true)∧
  ∃l',pp (wy L) ((pn D.T (jZ D.A D.T L con).at' con).map (aq D.A)) 0=(l',(pn D.T (jZ D.A D.T L con).at' con).length,0):=by
 have hp:=wV h hc L;generalize jZ D.A D.T L con=s at*;obtain⟨_,a2,a3⟩:=hp.all ho;have hF:=h.facts;have hlen:D.T.lits.length=D.t.rows.length:=by rw[h.ok.rel.1.lits,List.length_map]
 have hin:=wW h.toDeskT hp.ni D.t.rows.length (Nat.le_refl _);have hmk:∀j∈BV s D.t.rows.length,∃hj:j<D.t.rows.length,ay s.at' j=true∧0≤D.t.rows[j].rea∧-D.t.rows[j].l∉L:=fun j hj=>by
  rw[uG]at hj;obtain⟨j',hj',e1,e2,e3⟩:=hp.ni.mem _ hj.2;have:j=j':=by omega
  subst this;exact⟨hj',hj.2,e2,e3⟩
 have hnc:con∉(BV s D.t.rows.length).map (rj D):=by
  intro e;obtain⟨j,hj,e1⟩:=List.mem_map.1 e;obtain⟨hj',_,hr,_⟩:=hmk j hj;rw[rx h.toDeskT hj']at e1;exact IQ h.toDeskT hc hj' hr e1
 have hO:pn D.T s.at' con=(BV s D.t.rows.length).map (rj D)++[con]:=by
  unfold pn;rw[hlen,hin,if_neg hnc]
 have hinc:(BV s D.t.rows.length).Pairwise (·<·):=List.Pairwise.filter _ List.pairwise_lt_range;rw[hO];refine⟨?_,?_,?_⟩
 ·rw[List.nodup_append];refine⟨?_,by simp,fun a ha b hb e=>?_⟩
  ·refine List.pairwise_map.2 (hinc.imp_of_mem fun{i j} hi hj hij=>?_);obtain⟨hi',_,hri,_⟩:=hmk i hi;obtain⟨hj',_,hrj,_⟩:=hmk j hj;rw[rx h.toDeskT hi',rx h.toDeskT hj'];exact Fo h.toDeskT hi' hj' hij hri hrj
  ·simp at hb;subst hb;exact hnc (e▸ha)
 ·intro q hq;rcases List.mem_append.1 hq with hq|hq
  ·obtain⟨j,hj,e1⟩:=List.mem_map.1 hq;obtain⟨hj',_,hr,_⟩:=hmk j hj;rw[rx h.toDeskT hj']at e1;rw[←e1];exact(cR h.toDeskT hj' hr).1
  ·simp at hq;subst hq;exact hc.is
 ·have hci:CInv D L s (wy L) (BV s D.t.rows.length):=by
   refine⟨?_,?_,?_,?_,hinc⟩
   ·intro x hx;rw[nH]at hx;obtain⟨y,hy,rfl⟩:=hx;obtain⟨y6,j,hj,e⟩:=hL y hy;rw[(litO y6).2.2.2.2,←e];exact fE hj
   ·intro y hy;rw[nH];exact⟨y,hy,(litO (hL y hy).1).2.2.2.2.symm⟩
   ·intro j hj hs hnm;exact absurd ((uG s _ j).2 ⟨hj,hs⟩) hnm
   ·intro j hj;obtain⟨hj',hs,_,hnL⟩:=hmk j hj;refine⟨hj',hs,fun e=>?_⟩;rw[nH]at e;obtain⟨y,hy,e2⟩:=e;rw[(litO (hL y hy).1).2.2.2.2]at e2;apply hnL;rw[e2,Int.neg_neg];exact hy
  obtain⟨l',hl'⟩:=Fq h hc hp.ni (fun j hj hs y hy hne=>a3 j hj hs (by simp[ay,lk]) y hy hne) (fun y hy=>a2 y hy (by have:=litO (hc.neg y hy).1;omega)) _ _ 0 hci;refine⟨l',?_⟩;rw[List.map_append];have:List.map (aq D.A) [con]=[aq D.A con]:=rfl;rw[this,hl'];congr 2;simp
theorem hints_ok_of{cs:List (List Int)}{ats:List Int}{D:DK}(h:DeskI cs ats D){con:Int}(hc:Conf D con){L:List Int}(hk:∀y∈aq D.A con,HOk D.A D.T L y):(jZ D.A D.T L con).ok=true:=
 (wV h hc L).ok fun y hy _=>hk y hy
theorem wX{cs:List (List Int)}{ats:List Int}{D:DK}(h:DeskT cs ats D){L S:List Int}(hS:∀x∈L,x∉S→jQ D.A D.T L x=true):∀(n j:Nat)(hj:j<D.t.rows.length),j<n→(-D.t.rows[j].l∈L∨jQ D.A D.T L (-D.t.rows[j].l)=true)→HOk D.A D.T S (-D.t.rows[j].l)
 |0,j,hj,hn,_=>by omega
 |n+1,j,hj,hn,hx=>by
  by_cases c:-D.t.rows[j].l∈S
  ·exact .stop c
  have hd:jQ D.A D.T L (-D.t.rows[j].l)=true:=hx.elim (fun hm=>hS _ hm c) id;rw[qP,Bool.and_eq_true]at hd;obtain⟨hb,ha⟩:=hd;obtain⟨i,hi,p1,p2,_,p4,p5⟩:=IO h.ok hb;have hc:=h.facts.chk _ (List.getElem_mem hj);obtain⟨n0,n1,n2,_⟩:=litO hc;have hw:aM (- -D.t.rows[j].l)=D.t.rows[j].l:=by rw[Int.neg_neg];exact ah (by omega) (by omega)
  have hpl:cr D.T (-D.t.rows[j].l)=j:=(rv h hj (by omega)).1;have hij:i=j:=by omega
  subst hij;refine yX h hj p5 fun y hy hne=>?_;obtain⟨q1,_,q3⟩:=cR h hj p5;obtain⟨q4,q5⟩:=q3 y hy;obtain⟨k,hk,hki,e⟩:=q5 hne;have hl:=mZ h.ok.rel.1 h.facts hk e;rw[gR hk e]
  by_cases c0:D.t.rows[k].lev≤0
  ·exact uR h S (k+1) k hk (by omega) c0
  have hyo:y∈qO D.A D.T (-D.t.rows[i].l):=by
   unfold qO;rw[if_pos hb,List.mem_filter,p4];refine⟨hy,?_⟩;unfold rS;unfold dB at hl;simp only[Bool.not_eq_true',Bool.or_eq_false_iff,decide_eq_false_iff_not];exact⟨by rw[hw];exact hne,by omega⟩
  have hp:=List.all_eq_true.1 ha y hyo;unfold mg jP at hp;simp only[Bool.or_eq_true,Bool.and_eq_true,decide_eq_true_eq]at hp;refine wX h hS n k hk (by omega) ?_;rw[←gR hk e];rcases hp with⟨_,hp,_⟩|⟨_,hp⟩
  ·exact .inl hp
  ·exact .inr hp
theorem sho_hok{cs:List (List Int)}{ats:List Int}{D:DK}(h:DeskT cs ats D){L:List Int}(hL:AllNeg D L):∀x∈L,HOk D.A D.T (oy D.A D.T L) x:=fun x hx=>by
 obtain ⟨_, j, hj, e⟩ := hL x hx; rw [gR hj e] at hx ⊢; refine wX h (fun y hy hn => ?_) (j + 1) j hj (by omega) (.inl hx); have hq : fY D.A D.T L y = true := Classical.byContradiction fun hq => hn (by
  unfold oy;rw[←List.take_append_drop 1 L,List.mem_append]at hy;rcases hy with hy|hy
  ·exact List.mem_append_left _ hy
  ·refine List.mem_append_right _ ?_;unfold aU;rw[List.mem_filter];exact⟨hy,by simpa using hq⟩)
 unfold fY gP at hq;rw[Bool.and_eq_true]at hq;exact hq.2
theorem show_sound{m:List Bool}{S:List Int}{hs:List (List Int)}(hS:∀y∈S,da y=true)(hc:∀c∈hs,c.length≤1000000)(h:(pp (wy S) hs 0).2.2=0)(hh:∀c∈hs,cD c m=true):cD S m=true:=by
 refine Classical.byContradiction fun hn=>tt hs (wy S) 0 hc (fun y hy=>?_) hh h;obtain⟨x,hx,e⟩:=(nH S y).1 hy;obtain⟨n0,n1,n2,_,hw⟩:=litO (hS x hx);rw[e,hw];refine Fg ((bj x).2 (by omega)) ?_;rw[Bool.not_eq_true]at hn;have:=List.any_eq_false.1 hn x hx;simpa using this
end Go.AX.V