/-
  Contracts: watches: made anew, Attach, Detach, Attached; and what follows.
-/
import Derived.Test.YtepodadinenmnaaGreatS14AxWaG
import Derived.Test.YtepodadinenmnaaGreatS14AxLuA
import Derived.Test.YtepodadinenmnaaGreatS14AxTyA
import Derived.Test.YtepodadinenmnaaGreatS14AxGlP
import Derived.Test.YtepodadinenmnaaGreatAxOw
import Derived.Test.YtepodadinenmnaaGreatAxTb
import Derived.Test.YtepodadinenmnaaGreatS14AxTxC
set_option linter.unusedSimpArgs false
namespace Go.AX
set_option maxRecDepth 16000
open Go.Proofs
theorem Ao(T:Tr)(d:T.marks.length<=1000000)(c:T.lits.length<=1000000):aj Tryz.prog 56 [bN T] (λr=>r=.pv (ab ((T.marks.length:Int) -1 -T.lits.length))):=by
 refine ap aD Tryz.func56 ?_;have hi:=mM T;have a:aX ((T.marks.length:Int) -1)=(T.marks.length:Int) -1:=ao (by omega) (by omega);have b:aX ((T.marks.length:Int) -1 -T.lits.length)=(T.marks.length:Int) -1 -T.lits.length:=ao (by omega) (by omega);simp only[bN,cR]at hi;simp[bN,cR];refine ai.intro hi ?_;simp[a,b]
theorem Ms(x v:Int):aj Tryz.prog 208 [ab x,.iptr 1 [[ab v]] 0 0] (λr=>r=.pv (BL (!decide (aw x v=0)))):=by
 refine ap aD Tryz.func208 ?_;simp;refine ai.intro (jp x v) ?_
 by_cases c:aw x v=0
 .simp[c]
 .simp[c]
theorem JO(h:List (List SV))(b:Nat)(A:Ar)(e:h[b]?=some (ja A))(hk:j0 A)(g:A.row.length<=1000000)(q:Int):aA Tryz.prog 158 [.ptr b 0,ab q] h (λr h'=>h'=h∧r=.pv (ab (gn A q))):=by
 refine gy [] [.tmp 4] aD Tryz.func158 ?_;obtain⟨d,a⟩:=SQ.1 e;unfold gn;simp;refine am.intro (Cb h b A e q) ?_;rintro _ _ ⟨rfl,rfl⟩
 by_cases c:isA A q=true
 .obtain⟨p,n,rfl,f⟩:=hk q c;have hp:p<A.row.length:=by have:=f.len;omega
  simp[a,d,ja,c,hp]
 .have c':isA A q=false:=by simpa using c
  simp[c']
theorem wu(h:List (List SV))(b:Nat)(A:Ar)(d:h[b]?=some (ja A))(hk:j0 A)(f:A.row.length<=1000000)(q:Int)(hi:isA A q=true):
 aA Tryz.prog 160 [.ptr b 0,ab q] h (λr h'=>h'=h∧r=.pv (.seq false 1 (ae (av A q)))):=by
 obtain⟨p,n,rfl,a⟩:=hk q hi;have e:av A (p:Int)=dC A p n:=by
  unfold av;rw[SX hi];have h1:p+1<A.row.length:=by have:=a.len;omega
  have c:A.row.getD ((p:Int).toNat+1) 0=(n:Int):=by rw[←a.num];rfl
  rw[c];rfl
 rw[e];exact Ix h b A d p n hi a f
theorem Mt(h:List (List SV))(ba bt:Nat):aA Tryz.prog 67 [.ptr ba 0,.ptr bt 0] h (λr h'=>h'=h++[[.pv (.ptr ba 0),.pv (.ptr bt 0),.omap true [],.omap true [],.omap true [],.pv (ab 0),.pv (.lit (.slice none 0 0))]]∧r=.pv (.ptr h.length 0)):=by
 refine cQ [] [.tmp 4] aD Tryz.func67 ?_;simp
@[simp] theorem Mu:∀(l:List (Int×Nat))(k:Int),jf k (aZ uS l)=aZ uS (dl l k)
 |[],k=>rfl
 |(j,x)::l,k=>by
  show(if j=k then aZ uS l else(j,uS x)::jf k (aZ uS l))=aZ uS (if j=k then l else(j,x)::dl l k);rw[Mu l k];split<;>rfl
theorem Ap{α β:Type}:∀(a:List (Int×α))(c:List (Int×β))(k:Int),a.map (·.1)=c.map (·.1)->(dl a k).map (·.1)=(dl c k).map (·.1)
 |[],[],_,_=>rfl
 |[],_::_,_,h=>by simp at h
 |_::_,[],_,h=>by simp at h
 |u::a,w::c,k,h=>by
  obtain⟨b,f⟩:=u;obtain⟨i,g⟩:=w;simp only[Tn,Vi]at h;obtain⟨h1,d⟩:=h;subst h1;show(if b=k then a else(b,f)::dl a k).map (·.1)=(if b=k then c else(b,g)::dl c k).map (·.1)
  by_cases e:b=k
  .rw[SX e,SX e];exact d
  .rw[SU e,SU e,Tn,Tn,Ap a c k d]
theorem ue{α:Type}:∀{l:List (Int×α)}{k:Int},k∉l.map (·.1)->lk l k=none
 |[],_,_=>rfl
 |(j,x)::l,k,h=>by
  simp only[Tn,Tx,Xy]at h;rw[lk,SU (λe=>h.1 e.symm)];exact ue h.2
theorem oX{α:Type}:∀{l:List (Int×α)},(l.map (·.1)).Nodup->∀k x:Int,lk (dl l k) x=if x=k then none else lk l x
 |[],_,k,x=>by show none=_;split<;>rfl
 |(j,y)::l,h,k,x=>by
  simp only[Tn,UA]at h;show lk (if j=k then l else(j,y)::dl l k) x=if x=k then none else if j=x then some y else lk l x
  by_cases e:j=k
  .rw[SX e]
   by_cases c:x=k
   .rw[SX c,c,←e];exact ue h.1
   .rw[SU c,SU (λa=>c (a.symm.trans e))]
  .rw[SU e,lk,oX h.2 k x]
   by_cases c:x=k
   .rw[SX c,SX c,SU (λa=>e (a.trans c))]
   .rw[SU c,SU c]
section
variable {h : List (List SV)} {bw ba bt : Nat} {mp : List (Int × Nat)} {mb : List (Int × By)} {A : Ar} {T : Tr} {S : WS}
theorem LayW.newP(L:LayW h bw ba bt mp mb A T S)(k:Int)(p:Pr)(late:List (Int×Int)):
    LayW ((h++[pT p]).set bw (b9 ba bt ⟨pt mp k h.length,mb,late,S.head,S.seen⟩)) bw ba bt (pt mp k h.length) mb A T ⟨pt S.prs k p,S.byl,late,S.head,S.seen⟩:=by
  have hwl:=(SQ.1 L.w).1
  have lt:∀{b:Nat}{x:List SV},h[b]?=some x->b<h.length:=λhx=>(SQ.1 hx).1
  have up:∀{c:Nat}{x:List SV},c≠bw->h[c]?=some x->((h++[pT p]).set bw (b9 ba bt ⟨pt mp k h.length,mb,late,S.head,S.seen⟩))[c]?=some x:=λn1 hx=>by
    rw[Tj (λe=>n1 e.symm),SZ (lt hx),hx]
  have self:((h++[pT p]).set bw (b9 ba bt ⟨pt mp k h.length,mb,late,S.head,S.seen⟩))[h.length]?=some (pT p):=by
    rw[Tj (by omega)];simp
  have old:∀k' b,lk mp k'=some b->b<h.length:=λk' b hb=>by obtain⟨_,_,a2,_⟩:=L.pr k' b hb;exact lt a2
  exact { w := TH (by simp; omega), a := up L.wa.symm L.a, t := up L.wt.symm L.t, wa := L.wa, wt := L.wt, at' := L.at', keys := Aj _ _ _ _ _ L.keys, byn := L.byn, binj := L.binj
          pr:=λk' b hb=>by
            rw[bJ]at hb
            show∃p',lk (pt S.prs k p) k'=some p'∧_
            rw[bJ]
            by_cases c:k=k'
            · rw[SX c]at hb;cases hb
              exact⟨p,SX c,self,V0 hwl,V0 (lt L.a),V0 (lt L.t)⟩
            · rw[SU c]at hb
              obtain⟨p',a1,a2,a3⟩:=L.pr k' b hb
              exact⟨p',by rw[SU c];exact a1,up a3.1 a2,a3⟩
          by':=λl e he=>by
            obtain⟨zs,a1,⟨sp,a2,a3⟩,a4⟩:=L.by' l e he
            exact⟨zs,a1,⟨sp,up a4.1 a2,a3⟩,a4⟩
          pinj:=λk1 k2 b h1 h2=>by
            rw[bJ]at h1 h2
            by_cases c1:k=k1
            · by_cases c2:k=k2
              · exact c1.symm.trans c2
              · rw[SX c1]at h1;rw[SU c2]at h2;cases h1
                have:=old k2 _ h2;omega
            · rw[SU c1]at h1
              by_cases c2:k=k2
              · rw[SX c2]at h2;cases h2
                have:=old k1 _ h1;omega
              · rw[SU c2]at h2
                exact L.pinj k1 k2 b h1 h2
          pb:=λk' b l e hb he=>by
            rw[bJ]at hb
            by_cases c:k=k'
            · rw[SX c]at hb;cases hb
              obtain⟨_,_,⟨_,a2,_⟩,_⟩:=L.by' l e he
              exact V0 (lt a2)
            · rw[SU c]at hb;exact L.pb k' b l e hb he}
theorem LayW.delP(L:LayW h bw ba bt mp mb A T S)(hn:(S.prs.map (·.1)).Nodup)(k:Int)(late:List (Int×Int)):
    LayW (h.set bw (b9 ba bt ⟨dl mp k,mb,late,S.head,S.seen⟩)) bw ba bt (dl mp k) mb A T ⟨dl S.prs k,S.byl,late,S.head,S.seen⟩:=by
  have hl:=(SQ.1 L.w).1
  have hn':(mp.map (·.1)).Nodup:=by rw[L.keys];exact hn
  have up:∀{b:Nat}{x:List SV},b≠bw->h[b]?=some x->(h.set bw (b9 ba bt ⟨dl mp k,mb,late,S.head,S.seen⟩))[b]?=some x:=λhn hx=>by rw[Tj (λe=>hn e.symm),hx]
  have sub:∀{k' b},lk (dl mp k) k'=some b->k'≠k∧lk mp k'=some b:=λ{k' b} hb=>by
    rw[oX hn']at hb
    by_cases c:k'=k
    · rw[SX c]at hb;cases hb
    · rw[SU c]at hb;exact⟨c,hb⟩
  exact { w := TH hl, a := up L.wa.symm L.a, t := up L.wt.symm L.t, wa := L.wa, wt := L.wt, at' := L.at', keys := Ap _ _ _ L.keys, byn := L.byn, binj := L.binj
          pr:=λk' b hb=>by
            obtain⟨c,hb⟩:=sub hb
            obtain⟨p,h1,h2,h3⟩:=L.pr k' b hb
            exact⟨p,by show lk (dl S.prs k) k'=_;rw[oX hn,SU c];exact h1,up h3.1 h2,h3⟩
          by':=λl e he=>by
            obtain⟨zs,h1,⟨sp,h2,h3⟩,h4⟩:=L.by' l e he
            exact⟨zs,h1,⟨sp,up h4.1 h2,h3⟩,h4⟩
          pinj:=λk1 k2 b h1 h2=>L.pinj k1 k2 b (sub h1).2 (sub h2).2
          pb:=λk' b l e hb he=>L.pb k' b l e (sub hb).2 he}
end
def pX(A:Ar)(T:Tr)(S:WS)(k:Int):Int:=if gn A k=0 then 20 else if(lk S.prs k).isSome=true then 21 else if(av A k).any (λl=>!decide (aw l ((T.marks.length:Int) -1)=0))=true then 10 else 0
def oY(A:Ar)(T:Tr)(S:WS)(k:Int):WS:=if pX A T S k=0 then⟨pt S.prs k ⟨av A k,0,0⟩,S.byl,pt S.late k (aX ((lk S.late k).getD 0+1)),S.head,S.seen⟩else S
def JQ:Sch:=
 let g:Sch:=.fork [(13,.done)]
 let l:Sch:=.fork [(12,g)]
 let e:Sch:=.fork [(9,.take 10 (.take 11 g))]
 let h:Sch:=.fork [(9,.take 10 (.take 11 l)),(12,e)]
 let i:Sch:=.fork [(8,e)]
 let m:Sch:=.fork [(8,h),(12,i)]
 let f:Sch:=.fork [(4,e)]
 let j:Sch:=.fork [(4,h),(12,f)]
 let k:Sch:=.fork [(4,i),(8,f)]
 let n:Sch:=.fork [(4,m),(8,j),(12,k)]
 let a:Sch:=.fork [(3,f)]
 let b:Sch:=.fork [(3,j),(12,a)]
 let c:Sch:=.fork [(3,k),(8,a)]
 let d:Sch:=.fork [(3,n),(8,b),(12,c)]
 .take 0 (.take 1 (.take 2 (.take 5 (.take 6 (.take 7 d)))))
theorem CM(h:List (List SV))(bw ba bt:Nat)(mp:List (Int×Nat))(mb:List (Int×By))(A:Ar)(T:Tr)(S:WS)(L:LayW h bw ba bt mp mb A T S)(hk:j0 A)(O:A.row.length<=1000000)(W:T.marks.length<=1000000)(s:T.lits.length<=1000000)(k:Int):
 aA Tryz.prog 128 [.ptr bw 0,ab k] h (λr h'=>r=.pv (ab (pX A T S k))∧∃mp',LayW h' bw ba bt mp' mb A T (oY A T S k)∧Ext h h' (aQ bw bt mp mb) (aQ bw bt mp' mb)):=by
 refine cQ [8] [.tmp 4] aD Tryz.func128 ?_;obtain⟨i,j⟩:=SQ.1 L.w;have kM:=ua h bw ba bt _ L.w;have Y:=JO h ba A L.a hk O k;simp;refine am.intro kM ?_;rintro _ q ⟨e,rfl⟩;rw[e];clear e q;simp[i,j,b9];refine am.intro Y ?_;rintro _ q ⟨e,rfl⟩;rw[e];clear e q
 by_cases c1:gn A k=0
 .have o:pX A T S k=20:=by unfold pX;rw[SX c1]
  have F:oY A T S k=S:=by unfold oY;rw[o];rfl
  rw[o,F];simp[c1];exact⟨mp,L,Ext.refl _ _⟩
 have v:isA A k=true:=by
  unfold gn at c1
  by_cases c:isA A k=true
  .exact c
  .rw[SU c]at c1;exact absurd rfl c1
 cases hp:lk mp k with
 |some b=>
  obtain⟨p,I,_⟩:=L.pr k b hp;have o:pX A T S k=21:=by unfold pX;rw[SU c1,I];rfl
  have F:oY A T S k=S:=by unfold oY;rw[o];rfl
  rw[o,F];simp[c1,i,j,b9,hp,uS];exact⟨mp,L,Ext.refl _ _⟩
 |none=>
 have J:lk S.prs k=none:=by
  cases X:lk S.prs k with
  |none=>rfl
  |some p=>obtain⟨b,H,_⟩:=L.some_p X;rw[hp]at H;cases H
 have Z:=wu h ba A L.a hk O k v;simp[c1,i,j,b9,hp,uS];refine am.intro Z ?_;rintro _ q ⟨e,rfl⟩;rw[e];clear e q;simp;obtain⟨G,g⟩:∃G,G=h++[[SV.pv (ab ((T.marks.length:Int) -1))]]:=⟨_,rfl⟩;have L0:LayW G bw ba bt mp mb A T S:=by rw[g];exact L.app _
 have C:Ext h G (aQ bw bt mp mb) (aQ bw bt mp mb):=by rw[g];exact Ext.app _ _ _
 have hz:=cW L.t 2;have f:=λx=>cW (L.app [x]).t 2;have kO:=Ao T W s;have kT:=fZ T s;have N:aX ((T.marks.length:Int) -1)=(T.marks.length:Int) -1:=ao (by omega) (by omega);obtain⟨z,g2⟩:=SQ.1 L0.w;have D:∀x,(h++[x])[bw]?=some (b9 ba bt ⟨mp,mb,S.late,S.head,S.seen⟩):=λx=>(L.app [x]).w;refine aT.meet JQ ⟨[(0,.pv (.ptr bw 0)),(1,.pv (ab k)),(5,.pv (.seq false 1 (ae (av A k)))),(6,.pv (.ptr h.length 0))],G⟩ (by kernel_rfl) ?_ ?_
 .simp[JQ,i,j,b9,hz,D,f]
  repeat' first
   |refine And.intro ?_ ?_
   |(refine am.introP kO ?_;simp[i,j,b9,hz,D,f,N])
   |(refine am.introP kT ?_;simp[i,j,b9,hz,D,f,N])
   |exact ah.keep (by simp) (by rw[g])
 have P:=fY (av A k) (by have:=fM A hk k;omega) 208 [.iptr 1 [[ab ((T.marks.length:Int) -1)]] 0 0] (λl=>!decide (aw l ((T.marks.length:Int) -1)=0)) (λr=>by simp) rfl (λm=>by simp) (λx _=>Ms x _);have Q:h.length<G.length:=by rw[g];simp
 have n2:G[h.length]'Q=[.pv (ab ((T.marks.length:Int) -1))]:=by simp[g]
 generalize u:(av A k).any (λl=>!decide (aw l ((T.marks.length:Int) -1)=0))=B at P;have U:∀n,bA G (n+1) h.length 0=.iptr 1 [[ab ((T.marks.length:Int) -1)]] 0 0:=λn=>by simp[bA,Q,n2,frzC]
 have R:pX A T S k=if B=true then 10 else 0:=by unfold pX;rw[SU c1,J,u];rfl
 have d:oY A T S k=if pX A T S k=0 then⟨pt S.prs k ⟨av A k,0,0⟩,S.byl,pt S.late k (aX ((lk S.late k).getD 0+1)),S.head,S.seen⟩else S:=rfl;rw[R]at d⊢;generalize oY A T S k=S2 at*;simp[U];refine ai.intro P ?_;cases B
 .have E:(if false=true then(10:Int)else 0)=0:=rfl;rw[E]at d⊢;rw[SX rfl]at d;subst d;have M:=L0.newP k ⟨av A k,0,0⟩ (pt S.late k (aX ((lk S.late k).getD 0+1)));have K:Ext h ((G++[pT ⟨av A k,0,0⟩]).set bw (b9 ba bt ⟨pt mp k G.length,mb,pt S.late k (aX ((lk S.late k).getD 0+1)),S.head,S.seen⟩)) (aQ bw bt mp mb) (aQ bw bt (pt mp k G.length) mb):=
   ((C.trans (Ext.app G _ _)).trans (Ext.set bw _ (.inl rfl))).dom λb H hd=>by
    rcases hd with h1|h1|⟨k',h1⟩|h1
    .exact .inl h1
    .exact .inr (.inl h1)
    .rw[bJ]at h1
     by_cases c:k=k'
     .rw[SX c]at h1;cases h1;have:=C.len;omega
     .rw[SU c]at h1;exact .inr (.inr (.inl ⟨k',h1⟩))
    .exact .inr (.inr (.inr h1))
  have V:G.length=h.length+1:=by rw[g];simp
  have b1:∀x,(G++[x])[bw]?=some (b9 ba bt ⟨mp,mb,S.late,S.head,S.seen⟩):=λx=>(L0.app [x]).w;have b2:∀x y,(G.set bw y++[x])[bw]?=some y:=λx y=>by rw[SZ (by simpa using z),TH z]
  rw[Wj _ _ z]at M K;simp[z,g2,b9,b1,b2];exact⟨_,M,K⟩
 .have E:(if true=true then(10:Int)else 0)=10:=rfl;rw[E]at d⊢;rw[SU (by omega)]at d;subst d;simp;exact⟨mp,L0,C⟩
def Of(S:WS)(k:Int):Int:=if(lk S.prs k).isSome=true then 0 else 20
def qQ(S:WS)(k:Int):WS:=match lk S.prs k with
 |some p=>⟨dl (fl S k p).prs k,(fl S k p).byl,dl S.late k,S.head,S.seen⟩
 |none=>S
theorem CN(h:List (List SV))(bw ba bt:Nat)(mp:List (Int×Nat))(mb:List (Int×By))(A:Ar)(T:Tr)(S:WS)(L:LayW h bw ba bt mp mb A T S)(hn:(S.prs.map (·.1)).Nodup)(k:Int)
 (hx:∀p,lk S.prs k=some p->(p.x≠0->∃zs,lk S.byl p.x=some zs∧zs≠[])∧(p.y≠0->∃zs,lk (er S.byl k p.x) p.y=some zs∧zs≠[])) (hz:∀l zs,lk S.byl l=some zs->zs.length<=1000000):
 aA Tryz.prog 116 [.ptr bw 0,ab k] h (λr h'=>r=.pv (ab (Of S k))∧∃mp' mb',LayW h' bw ba bt mp' mb' A T (qQ S k)∧Ext h h' (aQ bw bt mp mb) (aQ bw bt mp' mb')):=by
 refine cQ [] [.tmp 4] aD Tryz.func116 ?_;obtain⟨q,s⟩:=SQ.1 L.w;have G:=ua h bw ba bt _ L.w;simp;refine am.intro G ?_;rintro _ d ⟨e,rfl⟩;rw[e];clear e d;cases hp:lk S.prs k with
 |none=>
  have D:lk mp k=none:=by
   cases E:lk mp k with
   |none=>rfl
   |some b=>obtain⟨p,h1,_⟩:=L.pr k b E;rw[hp]at h1;cases h1
  simp[q,s,b9,D,Of,qQ,hp];exact⟨mp,mb,L,Ext.refl _ _⟩
 |some p=>
  obtain⟨b,B,_⟩:=L.some_p hp;obtain⟨i,j⟩:=hx p hp;have F:=ub h bw ba bt mp mb A T S L k p hp i j hz;simp[q,s,b9,B,uS,Of,qQ,hp];refine am.intro F ?_;rintro _ u ⟨rfl,a,o,n⟩;obtain⟨H,I⟩:=SQ.1 o.w;have f:((fl S k p).prs.map (·.1)).Nodup:=by show((pt S.prs k _).map (·.1)).Nodup;rw[eM _ hp];exact hn
  have v:=o.delP f k (dl S.late k);have t:Ext h (u.set bw (b9 ba bt ⟨dl mp k,a,dl S.late k,(fl S k p).head,(fl S k p).seen⟩)) (aQ bw bt mp mb) (aQ bw bt (dl mp k) a):=
   (n.trans (Ext.set bw _ (.inl rfl))).dom λc C hd=>by
    have key:∀k' c,lk (dl mp k) k'=some c->∃m,lk mp m=some c:=λk' c h1=>by
     have g:(mp.map (·.1)).Nodup:=by rw[L.keys];exact hn
     rw[oX g]at h1
     by_cases e:k'=k
     .rw[SX e]at h1;cases h1
     .rw[SU e]at h1;exact⟨k',h1⟩
    rcases hd with h1|h1|⟨k',h1⟩|⟨l,e,h1,d⟩
    .exact .inl h1
    .exact .inr (.inl h1)
    .exact .inr (.inr (.inl (key k' c h1)))
    .exact n.sub c C (.inr (.inr (.inr ⟨l,e,h1,d⟩)))
  have z:(fl S k p).late=S.late:=rfl;simp[H,I,b9,z];exact⟨_,_,v,t⟩
end Go.AX
namespace Go.AX
open Go.Proofs
theorem po.to{P:Program}{k0:Nat}{ops:Array Oper}{K:St->Prop}{st:St}(st1:St)(b:ah k0 st st1)(h:po P k0 ops K st1):po P k0 ops K st:=
 po.weak (ι:=Unit) (λ_=>st1) (λg a w h0 hs=>by obtain⟨g',t,s'⟩:=b g a w h0 hs;exact⟨g',(),t,s'⟩) λ_=>h
theorem LayW.other{h:List (List SV)}{bw ba bt:Nat}{mp:List (Int×Nat)}{mb:List (Int×By)}{A:Ar}{T:Tr}{S:WS}(L:LayW h bw ba bt mp mb A T S)(b:Nat)(x:List SV)(hd:¬aQ bw bt mp mb b)(ha:b≠ba):LayW (h.set b x) bw ba bt mp mb A T S:=by
  have up:∀{c:Nat}{y:List SV},b≠c->h[c]?=some y->(h.set b x)[c]?=some y:=λhn hx=>by rw[Tj hn,hx]
  exact { w := up (λ e => hd (.inl e)) L.w, a := up ha L.a, t := up (λ e => hd (.inr (.inl e))) L.t, wa := L.wa, wt := L.wt, at' := L.at', keys := L.keys, pinj := L.pinj, byn := L.byn, binj := L.binj, pb := L.pb
          pr:=λk c hc=>by obtain⟨p,h1,h2,h3⟩:=L.pr k c hc;exact⟨p,h1,up (λe=>hd (.inr (.inr (.inl ⟨k,e▸hc⟩)))) h2,h3⟩
          by':=λl e he=>by
            obtain⟨zs,h1,⟨sp,h2,h3⟩,h4⟩:=L.by' l e he
            exact⟨zs,h1,⟨sp,up (λe2=>hd (.inr (.inr (.inr ⟨l,e,he,e2.symm⟩)))) h2,h3⟩,h4⟩}
theorem mem_keys{α:Type}:∀{l:List (Int×α)}{k:Int},(lk l k).isSome=true↔k∈l.map (·.1)
 |[],k=>by simp[lk]
 |(j,x)::l,k=>by
  rw[lk,Tn,Tx]
  by_cases e:j=k
  .rw[SX e];simp[e]
  .rw[SU e,mem_keys];constructor
   .exactλh=>.inr h
   .rintro(h|h)
    .exact absurd h.symm e
    .exact h
theorem uf{α:Type}:∀(l:List (Int×α))(k:Int),(dl l k).map (·.1)=(l.map (·.1)).erase k
 |[],_=>rfl
 |(j,x)::l,k=>by
  rw[dl,Tn,List.erase_cons]
  by_cases e:j=k
  .rw[SX e,SX (by simpa using e)]
  .rw[SU e,SU (by simpa using e),Tn,uf l k]
theorem Aq{l:List Int}(h:l.Nodup):(cD l).Nodup:=by
 unfold cD;exact(Va l _).nodup_iff.2 h
theorem br{n:Nat}(hn:n<=100000){l:Int}(h:aw l n=0):l≠0∧-(n:Int)<=l∧l<=n∧1<=af l∧af l<=n∧af l=c9 l∧0<=aV l∧aX (-l)=-l:=by
 obtain⟨a,b,c⟩:=(df (by omega)).1 h;obtain⟨d,e,f,g⟩:=pB (by omega) h;exact⟨a,b,c,d,e,g,by rw[lA];exact f,ao (by omega) (by omega)⟩
theorem ro{n:Nat}(hn:n<=100000){l:Int}(h:aw l n=0):aw (-l) n=0:=by
 obtain⟨a,b,c⟩:=(df (by omega)).1 h;exact(df (by omega)).2 ⟨by omega,by omega,by omega⟩
theorem mX{n:Nat}(hn:n<=100000){x y:Int}(hx:aw x n=0)(hy:aw y n=0):af x=af y↔x=y∨x=-y:=by
 obtain⟨_,_,_,_,_,a,_⟩:=br hn hx;obtain⟨_,_,_,_,_,b,_⟩:=br hn hy;rw[a,b];unfold c9;constructor
 .intro h;split at h<;>split at h<;>omega
 .intro h;split<;>split<;>omega
def mY(beg:List Int)(i:Nat):Int:=((beg.filter λb=>decide (b<=(i:Int))).length:Nat)
def x5(l:Int):Int:=if l<0 then-1 else 1
structure TMk (n:Nat) (T:Tr):Prop where
  hn:n<=100000
  len:T.marks.length=n+1
  chk:∀y∈T.lits,aw y n=0
  nd:(T.lits.map af).Nodup
  mark:∀i (hi:i<T.lits.length),(bG T (af T.lits[i])).v=x5 T.lits[i]∧(bG T (af T.lits[i])).lev=mY T.beg i∧(bG T (af T.lits[i])).pla=i
  free:∀v:Int,v∉T.lits.map af->(bG T v).v=0
structure TOk (n:Nat) (T:Tr):Prop extends TMk n T where
  bnd:∀b∈T.beg,0<=b∧b<T.lits.length
  rise:T.beg.Pairwise (·<·)
section
variable {n : Nat} {T : Tr}
theorem TMk.okT(h:TMk n T):T.ok:=⟨by rw[h.len];omega,by rw[h.len];have:=h.hn;omega⟩
theorem TMk.vars(h:TMk n T):(T.marks.length:Int) -1=n:=by rw[h.len];omega
theorem TMk.few(h:TMk n T):T.lits.length<=n:=by
 have h1:((T.lits.map af).map Int.toNat).Nodup:=by
  refine Ux.2 (h.nd.imp_of_mem ?_);intro a b c g d e;obtain⟨x,hx,rfl⟩:=S8.1 c;obtain⟨y,hy,rfl⟩:=S8.1 g;have:=(br h.hn (h.chk x hx)).2.2.2.1;have:=(br h.hn (h.chk y hy)).2.2.2.1;exact d (by omega)
 have f:(T.lits.map af).map Int.toNat⊆List.range' 1 n:=by
  intro v i;obtain⟨a,c,rfl⟩:=S8.1 i;obtain⟨x,hx,rfl⟩:=S8.1 c;obtain⟨_,_,_,p,q,_⟩:=br h.hn (h.chk x hx);rw[List.mem_range'_1];omega
 have:=(dq _ _ h1 f);simpa using this
theorem TMk.inj(h:TMk n T){i j:Nat}(hi:i<T.lits.length)(hj:j<T.lits.length)(e:af T.lits[i]=af T.lits[j]):i=j:=by
 have hp:=TB.1 (Ux.1 h.nd);rcases UD i j with c|c|c
 .exact absurd e (hp i j hi hj c)
 .exact c
 .exact absurd e.symm (hp j i hj hi c)
theorem TMk.one(h:TMk n T){y:Int}(hy:y∈T.lits)(b:-y∈T.lits):False:=by
 obtain⟨i,hi,c⟩:=Tc hy;obtain⟨j,hj,d⟩:=Tc b;have e:af T.lits[i]=af T.lits[j]:=by rw[c,d,dD]
 have a:i=j:=h.inj hi hj e;subst a;have:=(br h.hn (h.chk y hy)).1;omega
theorem TMk.val(h:TMk n T){l:Int}(b:aw l n=0):cm T l=if l∈T.lits then 1 else if-l∈T.lits then-1 else 0:=by
 unfold cm;rw[h.vars,SU (by simp[b])];have f:aX (-1)=-1:=by decide
 have g:aX (- -1)=1:=by decide
 have j:aX (-0)=0:=by decide
 have l0:=(br h.hn b).1
 by_cases c:l∈T.lits
 .obtain⟨i,hi,e⟩:=Tc c;have a:=(h.mark i hi).1;rw[e]at a;rw[SX c,a];unfold x5
  by_cases d:l<0
  .rw[SX d,SX d,g]
  .rw[SU d,SU d]
 rw[SU c]
 by_cases c2:-l∈T.lits
 .obtain⟨i,hi,e⟩:=Tc c2;have a:=(h.mark i hi).1;rw[e,dD]at a;rw[SX c2,a];unfold x5
  by_cases d:l<0
  .rw[SX d,SU (by omega),f]
  .rw[SU d,SX (by omega)]
 .rw[SU c2,h.free]
  .split
   .exact j
   .rfl
  .intro a;obtain⟨x,hx,e⟩:=S8.1 a;rcases(mX h.hn (h.chk x hx) b).1 e with rfl|rfl
   .exact c hx
   .exact c2 hx
theorem TMk.val1(h:TMk n T){l:Int}(a:aw l n=0):cm T l=1↔l∈T.lits:=by
 rw[h.val a];split
 .simp_all
 .split<;>simp_all
theorem TMk.valm(h:TMk n T){l:Int}(a:aw l n=0):cm T l=-1↔-l∈T.lits:=by
 rw[h.val a];split
 .rename_i c;simp;intro c2;exact h.one c c2
 .split<;>simp_all
theorem TMk.val0(h:TMk n T){l:Int}(a:aw l n=0):cm T l=0↔l∉T.lits∧-l∉T.lits:=by
 rw[h.val a];split
 .simp_all
 .split<;>simp_all
theorem TMk.may(h:TMk n T)(l:Int):fP T l=0↔aw l n=0∧l∉T.lits∧-l∉T.lits:=by
 unfold fP;rw[h.vars]
 by_cases c:aw l n=0
 .rw[SU (by simp[c])];have f:=h.val c;have e:(bG T (af l)).v=0↔cm T l=0:=by
   unfold cm;rw[h.vars,SU (by simp[c])]
   by_cases d:l<0
   .rw[SX d];constructor
    .intro e;rw[e];decide
    .intro e;have b:-1<=(bG T (af l)).v∧(bG T (af l)).v<=1:=by
      by_cases m:af l∈T.lits.map af
      .obtain⟨x,hx,a⟩:=S8.1 m;obtain⟨i,hi,rfl⟩:=Tc hx;rw[←a,(h.mark i hi).1];unfold x5;split<;>omega
      .rw[h.free _ m];omega
     rw[ao (by omega) (by omega)]at e;omega
   .rw[SU d]
  rw[←h.val0 c,←e]
  by_cases d:(bG T (af l)).v=0
  .simp[c,d]
  .simp[c,d]
 .rw[SX c];simp[c]
theorem TOk.new(hn:n<=100000):TOk n (l9 n)where
 hn:=hn
 len:=by simp[l9]
 chk:=by simp[l9]
 nd:=by simp[l9]
 mark:=λi hi=>absurd hi (by simp[l9])
 free:=λv _=>by
  unfold bG l9;rw[SS];simp only[Xq];split<;>rfl
 bnd:=by simp[l9]
 rise:=by simp[l9]
theorem JR{beg:List Int}{i:Nat}(h:∀b∈beg,b<=i):mY beg i=beg.length:=by
 unfold mY;rw[Uz.2 (λb a=>by simpa using h b a)]
theorem kh(T:Tr)(l rea:Int)(h1:1<=af l)(a:af l<T.marks.length)(v:Int)(b:0<=v):bG (gT T l rea) v=if v=af l then⟨x5 l,T.beg.length,rea,T.lits.length⟩else bG T v:=by
 unfold bG gT;simp only[SS,Tz]
 by_cases c:v=af l
 .subst c;rw[SX rfl,SX rfl,SX (by omega)];rfl
 .rw[SU (by omega),SU c]
theorem TMk.put(h:TMk n T){l:Int}(s:fP T l=0)(rea:Int)(m:∀b∈T.beg,b<=T.lits.length):TMk n (gT T l rea):=by
 obtain⟨q,t,u⟩:=(h.may l).1 s;obtain⟨_,_,_,o,w,_⟩:=br h.hn q;have d:af l<T.marks.length:=by rw[h.len];omega
 have g:af l∉T.lits.map af:=λp=>by
  obtain⟨x,hx,e⟩:=S8.1 p;rcases(mX h.hn (h.chk x hx) q).1 e with rfl|rfl
  .exact t hx
  .exact u hx
 have k:∀y∈T.lits,0<=af y:=λy hy=>by have:=(br h.hn (h.chk y hy)).2.2.2.1;omega
 refine⟨h.hn,by simp[gT,h.len],?_,?_,?_,?_⟩
 .intro y hy;rcases Te.1 hy with hy|hy
  .exact h.chk y hy
  .simp at hy;subst hy;exact q
 .show((T.lits++[l]).map af).Nodup;rw[Tu,VY];refine⟨h.nd,by simp,λa r b m e=>?_⟩;simp at m;subst m;subst e;exact g r
 .have key:∀i (hi:i<(T.lits++[l]).length),(bG (gT T l rea) (af (T.lits++[l])[i])).v=x5 (T.lits++[l])[i]∧(bG (gT T l rea) (af (T.lits++[l])[i])).lev=mY T.beg i∧(bG (gT T l rea) (af (T.lits++[l])[i])).pla=i:=by
   intro i hi;have j:=hi;rw[Ta]at j;simp only[Ty,List.length_nil]at j
   by_cases c:i<T.lits.length
   .rw[T5 c,kh T l rea o d _ (k _ (S5 c)),SU (λe:af T.lits[i]=af l=>g (e▸UX (S5 c)))];exact h.mark i c
   .have:i=T.lits.length:=by omega
    subst this;rw[Xi (SY _)];simp only[U8,V8];rw[kh T l rea o d _ (by omega),SX rfl];exact⟨rfl,(JR m).symm,rfl⟩
  exact key
 .intro v p;have f:v∉(T.lits++[l]).map af:=p;rw[Tu,Te,Xy]at f;simp only[Tn,Vg,TA]at f
  by_cases c:0<=v
  .rw[kh T l rea o d v c,SU f.2];exact h.free v f.1
  .have h0:=h.free 0 (λe=>by obtain⟨x,hx,e⟩:=S8.1 e;have:=(br h.hn (h.chk x hx)).2.2.2.1;omega);have e:∀T':Tr,bG T' v=bG T' 0:=λT'=>by unfold bG;rw[show v.toNat=(0:Int).toNat by omega]
   rw[e,kh T l rea o d 0 (by omega),SU (by omega)];exact h0
theorem TOk.imp(h:TOk n T){l:Int}(c:fP T l=0)(rea:Int):TOk n (gT T l rea):=
 {h.toTMk.put c rea (λb a=>by have:=(h.bnd b a).2;omega)with
  bnd:=λb a=>by have:=h.bnd b a;show 0<=b∧b<((T.lits++[l]).length:Int);simp;omega
  rise:=h.rise}
theorem TMk.beg(h:TMk n T)(e:∀b∈T.beg,b<T.lits.length):TMk n (qw T)where
 hn:=h.hn
 len:=h.len
 chk:=h.chk
 nd:=h.nd
 mark:=λi hi=>by
  obtain⟨a,b,c⟩:=h.mark i hi;refine⟨a,b.trans ?_,c⟩;have d:i<T.lits.length:=hi;unfold mY qw;simp only[Uu];rw[TO,SU (by simp;omega)];simp
 free:=h.free
theorem TOk.dec(h:TOk n T)(l:Int):TOk n (ig T l):=by
 unfold ig;split
 .rename_i c;have h1:=h.toTMk.beg (λb d=>(h.bnd b d).2);have e:∀b∈(qw T).beg,0<=b∧b<=T.lits.length:=λb d=>by
   rcases Te.1 d with d|d
   .have:=h.bnd b d;omega
   .simp at d;omega
  exact{h1.put (l:=l) c (-1) (λb d=>(e b d).2)with
   bnd:=λb d=>by have:=e b d;show 0<=b∧b<((T.lits++[l]).length:Int);simp;omega
   rise:=by
    show(T.beg++[(T.lits.length:Int)]).Pairwise (·<·);rw[VB];refine⟨h.rise,by simp,λa f b d=>?_⟩;simp at d;have:=(h.bnd a f).2;omega}
 .exact h
theorem TMk.pop(h:TMk n T){m:Nat}(r:T.lits.length=m+1):TMk n (lO T):=by
 have a:T.lits.getD (T.lits.length -1) 0=T.lits[m]:=by
  have e:T.lits.length -1=m:=by omega
  rw[e,SS,SR (by omega),TC]
 have f:m<T.lits.length:=by omega
 obtain⟨_,_,_,s,t,_⟩:=br h.hn (h.chk _ (S5 f));have d:∀v:Int,0<=v->bG (lO T) v=if v=af T.lits[m]then⟨0,0,0,0⟩else bG T v:=λv j=>by
  unfold bG lO;rw[a];simp only[SS,Tz]
  by_cases c:v=af T.lits[m]
  .subst c;rw[SX rfl,SX rfl,SX (by rw[h.len];omega)];rfl
  .rw[SU (by omega),SU c]
 have b:(lO T).lits=T.lits.take m:=by unfold lO;rw[r];rfl
 have g:∀y∈T.lits,0<=af y:=λy hy=>by have:=(br h.hn (h.chk y hy)).2.2.2.1;omega
 refine⟨h.hn,by simp[lO,h.len],?_,?_,?_,?_⟩
 .intro y hy;rw[b]at hy;exact h.chk y (TV hy)
 .rw[b];exact h.nd.sublist ((Vl m T.lits).map af)
 .intro i hi;have p:i<m:=by rw[b,S6]at hi;omega
  have o:(lO T).lits[i]=T.lits[i]'(by omega):=by simp only[b];exact Uh
  rw[o,d _ (g _ (S5 _)),SU (λe=>by have:=h.inj (by omega) f e;omega)];exact h.mark i (by omega)
 .intro v j;rw[b]at j;have key:∀v:Int,0<=v->v∉(T.lits.take m).map af->(bG (lO T) v).v=0:=λv c j=>by
   rw[d v c];split
   .rfl
   .rename_i k;refine h.free v λhx=>?_;obtain⟨x,l,e⟩:=S8.1 hx;subst e;obtain⟨i,hi,e⟩:=Tc l;subst e
    by_cases q:i=m
    .subst q;exact k rfl
    .exact j (S8.2 ⟨T.lits[i],by rw[Uj];exact⟨i,by omega,rfl⟩,rfl⟩)
  by_cases c:0<=v
  .exact key v c j
  .have e:bG (lO T) v=bG (lO T) 0:=by unfold bG;rw[show v.toNat=(0:Int).toNat by omega]
   rw[e];refine key 0 (by omega) λhx=>?_;obtain⟨x,hx,e⟩:=S8.1 hx;have:=(br h.hn (h.chk x (TV hx))).2.2.2.1;omega
theorem TMk.popN(h:TMk n T):∀j,j<=T.lits.length->TMk n (popN T j)
 |0,_=>h
 |j+1,hj=>by
  have a:=TMk.popN h j (by omega);rw[Go.AX.popN];refine a.pop (m:=T.lits.length -j -1) ?_;rw[d6,S6];omega
theorem TOk.back(h:TOk n T){k:Nat}(hk:k<T.beg.length):TOk n (cw T k)∧(cw T k).lits=T.lits.take (T.beg[k]).toNat∧(cw T k).beg=T.beg.take k:=by
 have f:T.beg.getD k 0=T.beg[k]:=by rw[SS,SR hk];rfl
 obtain⟨b1,b2⟩:=h.bnd _ (S5 hk);have g:(cw T k).lits=T.lits.take (T.beg[k]).toNat:=by
  unfold cw;rw[f,d6];congr 1;omega
 have m:=h.toTMk.popN (T.lits.length -(T.beg[k]).toNat) (by omega);have d:(Go.AX.popN T (T.lits.length -(T.beg[k]).toNat)).lits=T.lits.take (T.beg[k]).toNat:=by rw[d6];congr 1;omega
 have l:∀v,bG (cw T k) v=bG (Go.AX.popN T (T.lits.length -(T.beg[k]).toNat)) v:=λv=>by unfold bG cw;rw[f]
 have q:=TB.1 h.rise;have o:∀b∈T.beg.take k,0<=b∧b<T.beg[k]:=λb e=>by
  obtain⟨i,hi,rfl⟩:=Uj.1 e;exact⟨(h.bnd _ (S5 _)).1,q i k (by omega) hk (by omega)⟩
 have a:(cw T k).lits.length=(T.beg[k]).toNat:=by rw[g,S6];omega
 refine⟨{hn:=h.hn,len:=?_,chk:=?_,nd:=?_,mark:=?_,free:=?_,bnd:=?_,rise:=?_},g,rfl⟩
 .unfold cw;rw[f];exact m.len
 .intro y hy;rw[g]at hy;exact h.chk y (TV hy)
 .rw[g];exact h.nd.sublist ((Vl _ T.lits).map af)
 .intro i hi;have p:i<(Go.AX.popN T (T.lits.length -(T.beg[k]).toNat)).lits.length:=by rw[d,←g];exact hi
  have r:(cw T k).lits[i]=(Go.AX.popN T (T.lits.length -(T.beg[k]).toNat)).lits[i]:=by simp only[g,d]
  rw[l,r];obtain⟨t,u,w⟩:=m.mark i p;refine⟨t,u.trans ?_,w⟩;rw[ug];unfold mY;congr 1;rw[←T7 k T.beg,Uu];have:((T.beg.take k++T.beg.drop k).take k)=T.beg.take k:=by rw[T7]
  show _=((cw T k).beg.filter _).length;have e:(cw T k).beg=T.beg.take k:=rfl;rw[e];have hd:(T.beg.drop k).filter (λb=>decide (b<=(i:Int)))=[]:=by
   rw[US];intro b e;obtain⟨j,hj,rfl⟩:=Wk.1 e;have:T.beg[k]<=T.beg[k+j]:=by
    by_cases c:j=0
    .subst c;exact Vn _
    .exact XR (q k (k+j) hk (by omega) (by omega))
   rw[a]at hi;simp;omega
  rw[hd,Ut]
 .intro v s;rw[l];refine m.free v ?_;rw[d,←g];exact s
 .intro b e;have:=o b e;rw[a];omega
 .exact h.rise.sublist (Vl _ _)
end
def bF(byl:List (Int×List Int))(l:Int):List Int:=(lk byl l).getD []
theorem Ew{byl:List (Int×List Int)}{l:Int}{zs:List Int}(h:lk byl l=some zs):bF byl l=zs:=by unfold bF;rw[h];rfl
theorem Q3{byl:List (Int×List Int)}{l k:Int}(h:k∈bF byl l):∃zs,lk byl l=some zs∧k∈zs:=by
 unfold bF at h;cases a:lk byl l with
 |none=>rw[a]at h;cases h
 |some zs=>rw[a]at h;exact⟨zs,rfl,h⟩
theorem jC(byl:List (Int×List Int))(k l m:Int):bF (er byl k l) m=if l≠0∧m=l then bk (λx=>decide (x=k)) (bF byl l)else bF byl m:=by
 unfold bF er
 by_cases c:l=0
 .rw[SX c,SU (λh=>h.1 c)]
 .rw[SU c,bJ]
  by_cases d:m=l
  .rw[SX d.symm,SX ⟨c,d⟩];rfl
  .rw[SU (λe=>d e.symm),SU (λh=>d h.2)]
theorem JS{k j:Int}{l:List Int}:j∈bk (λx=>decide (x=k)) l↔j∈l∧j≠k:=by
 unfold bk;rw[TJ];simp
theorem ki{byl:List (Int×List Int)}{k l m j:Int}:j∈bF (er byl k l) m↔j∈bF byl m∧¬(l≠0∧m=l∧j=k):=by
 rw[jC]
 by_cases c:l≠0∧m=l
 .rw[SX c,JS,c.2];constructor
  .exactλh=>⟨h.1,λq=>h.2 q.2.2⟩
  .exactλh=>⟨h.1,λq=>h.2 ⟨c.1,rfl,q⟩⟩
 .rw[SU c];exact⟨λh=>⟨h,λq=>c ⟨q.1,q.2.1⟩⟩,λh=>h.1⟩
theorem pY{byl:List (Int×List Int)}(h:∀l,(bF byl l).Nodup)(k l m:Int):(bF (er byl k l) m).Nodup:=by
 rw[jC];split
 .exact(h l).sublist VI
 .exact h m
theorem nB(byl:List (Int×List Int))(k l m:Int):bF (gF byl k l) m=if m=l then bF byl l++[k]else bF byl m:=by
 unfold bF gF;rw[bJ]
 by_cases d:m=l
 .rw[SX d,SX d.symm];rfl
 .rw[SU d,SU (λe=>d e.symm)]
theorem pZ{byl:List (Int×List Int)}{k l m j:Int}:j∈bF (gF byl k l) m↔j∈bF byl m∨(m=l∧j=k):=by
 rw[nB]
 by_cases d:m=l
 .rw[SX d,d];simp
 .rw[SU d];simp[d]
theorem x7{byl:List (Int×List Int)}(h:∀l,(bF byl l).Nodup){k l:Int}(hk:k∉bF byl l)(m:Int):(bF (gF byl k l) m).Nodup:=by
 rw[nB];split
 .rw[VY];refine⟨h l,by simp,λa d b c e=>?_⟩;simp at c;subst c;subst e;exact hk d
 .exact h m
structure Wch (n:Nat) (S:WS):Prop where
  nd:(S.prs.map (·.1)).Nodup
  lits:∀k p,lk S.prs k=some p->(0<=k∧k<=20000000)∧p.lits.Nodup∧p.lits.length<=1000∧∀y∈p.lits,aw y n=0
  lnd:(S.late.map (·.1)).Nodup
  lpr:∀k∈S.late.map (·.1),∃p,lk S.prs k=some p
  two:∀k p,lk S.prs k=some p->(k∈S.late.map (·.1)∧p.x=0∧p.y=0)∨(k∉S.late.map (·.1)∧p.x≠p.y∧p.x∈p.lits∧p.y∈p.lits)
  bnd:∀l,(bF S.byl l).Nodup
  mem:∀l k,k∈bF S.byl l↔l≠0∧∃p,lk S.prs k=some p∧(p.x=l∨p.y=l)
theorem qR{α:Type}{l:List (Int×α)}{k:Int}{x:α}(h:lk l k=some x):k∈l.map (·.1):=mem_keys.1 (by rw[h];rfl)
theorem p6{α:Type}{l:List (Int×α)}(h:(l.map (·.1)).Nodup)(k x:Int):x∈(dl l k).map (·.1)↔x∈l.map (·.1)∧x≠k:=by
 rw[uf,h.mem_erase_iff];exact⟨λq=>⟨q.2,q.1⟩,λq=>⟨q.2,q.1⟩⟩
theorem Ex{α:Type}{l:List (Int×α)}(h:(l.map (·.1)).Nodup)(k:Int):((dl l k).map (·.1)).Nodup:=by rw[uf];exact h.erase k
section
variable {n : Nat} {S : WS}
theorem Wch.pos(h:Wch n S){k:Int}{p:Pr}(hp:lk S.prs k=some p)(hk:k∉S.late.map (·.1)):p.x≠0∧p.y≠0∧p.x≠p.y∧p.x∈p.lits∧p.y∈p.lits:=by
 rcases h.two k p hp with⟨a,_⟩|⟨_,a,b,c⟩
 .exact absurd a hk
 .have d:=(h.lits k p hp).2.2.2;have z:∀y∈p.lits,y≠0:=λy hy e=>by
   have:=d y hy;rw[e]at this;unfold aw nH at this;split at this
   .omega
   .simp at this
  exact⟨z _ b,z _ c,a,b,c⟩
theorem Wch.zer(h:Wch n S){k:Int}{p:Pr}(hp:lk S.prs k=some p)(hk:k∈S.late.map (·.1)):p.x=0∧p.y=0:=by
 rcases h.two k p hp with⟨_,a⟩|⟨a,_⟩
 .exact a
 .exact absurd hk a
theorem Wch.nby(h:Wch n S){k:Int}{p:Pr}(hp:lk S.prs k=some p)(hk:k∈S.late.map (·.1))(l:Int):k∉bF S.byl l:=λb=>by
 obtain⟨l0,q,a,e⟩:=(h.mem l k).1 b;rw[hp]at a;cases a
 obtain⟨c,d⟩:=h.zer hp hk;rw[c,d]at e;omega
theorem Wch.entry(h:Wch n S){k:Int}{p:Pr}(hp:lk S.prs k=some p){l:Int}(l0:l≠0)(a:p.x=l∨p.y=l):∃zs,lk S.byl l=some zs∧k∈zs:=Q3 ((h.mem l k).2 ⟨l0,p,hp,a⟩)
theorem Wch.hz(h:Wch n S)(b:S.prs.length<=1000000):∀l zs,lk S.byl l=some zs->zs.length<=1000000:=λl zs hz=>by
 have e:=Ew hz;have h1:=h.bnd l;rw[e]at h1;have a:zs⊆S.prs.map (·.1):=λk hk=>by
  obtain⟨_,p,hp,_⟩:=(h.mem l k).1 (by rw[e];exact hk);exact qR hp
 have:=(dq _ _ h1 a);rw[S7]at this;omega
theorem dG{α:Type}{l:List (Int×α)}{k j:Int}{y:α}(hj:j≠k):lk (pt l k y) j=lk l j:=by rw[bJ,SU (λe=>hj e.symm)]
theorem dU{α:Type}{l:List (Int×α)}{k:Int}{y:α}:lk (pt l k y) k=some y:=by rw[bJ,SX rfl]
theorem Wch.toLate(h:Wch n S){k:Int}{p:Pr}(hp:lk S.prs k=some p)(hk:k∉S.late.map (·.1))(v:Int):Wch n ⟨(fl S k p).prs,(fl S k p).byl,pt S.late k v,S.head,S.seen⟩:=by
 obtain⟨s,t,r,hx,hy⟩:=h.pos hp hk;have f:(pt S.prs k ⟨p.lits,0,0⟩).map (·.1)=S.prs.map (·.1):=eM _ hp;have g:∀j,j∈(pt S.late k v).map (·.1)↔j=k∨j∈S.late.map (·.1):=λj=>mV _ _ _ _;refine⟨?_,?_,?_,?_,?_,?_,?_⟩
 .show((pt S.prs k _).map (·.1)).Nodup;rw[f];exact h.nd
 .intro j q d;have d:lk (pt S.prs k ⟨p.lits,0,0⟩) j=some q:=d
  by_cases e:j=k
  .subst e;rw[dU]at d;cases d;exact h.lits j p hp
  .rw[dG e]at d;exact h.lits j q d
 .exact kg _ _ _ h.lnd
 .intro j hj;show∃q,lk (pt S.prs k ⟨p.lits,0,0⟩) j=some q
  by_cases e:j=k
  .subst e;exact⟨_,dU⟩
  .rw[dG e];rcases(g j).1 hj with c|c
   .exact absurd c e
   .exact h.lpr j c
 .intro j q d;have d:lk (pt S.prs k ⟨p.lits,0,0⟩) j=some q:=d;show(j∈(pt S.late k v).map (·.1)∧_)∨(j∉(pt S.late k v).map (·.1)∧_);rw[g]
  by_cases e:j=k
  .subst e;rw[dU]at d;cases d;exact .inl ⟨.inl rfl,rfl,rfl⟩
  .rw[dG e]at d;rcases h.two j q d with⟨a,b⟩|⟨a,b⟩
   .exact .inl ⟨.inr a,b⟩
   .exact .inr ⟨λc=>c.elim e a,b⟩
 .exactλm=>pY (λm=>pY h.bnd k p.x m) k p.y m
 .intro m j;show j∈bF (er (er S.byl k p.x) k p.y) m↔m≠0∧∃q,lk (pt S.prs k ⟨p.lits,0,0⟩) j=some q∧_;rw[ki,ki,h.mem]
  by_cases e:j=k
  .subst e;rw[dU];constructor
   .rintro⟨⟨⟨i,q,d,c⟩,l⟩,o⟩;rw[hp]at d;cases d
    rcases c with c|c
    .exact absurd ⟨s,c.symm,rfl⟩ l
    .exact absurd ⟨t,c.symm,rfl⟩ o
   .rintro⟨i,q,d,c⟩;cases d
    simp at c;exact absurd c.symm i
  .rw[dG e];exact⟨λq=>q.1.1,λq=>⟨⟨q,λz=>e z.2.2⟩,λz=>e z.2.2⟩⟩
theorem Wch.watch(h:Wch n S){k:Int}{p:Pr}(hp:lk S.prs k=some p)(hk:k∈S.late.map (·.1)){a b:Int}(i:a≠b)(o:a∈p.lits)(r:b∈p.lits):Wch n ⟨pt S.prs k ⟨p.lits,a,b⟩,gF (gF S.byl k a) k b,dl S.late k,S.head,S.seen⟩:=by
 have g:(pt S.prs k ⟨p.lits,a,b⟩).map (·.1)=S.prs.map (·.1):=eM _ hp;have l:∀j,j∈(dl S.late k).map (·.1)↔j∈S.late.map (·.1)∧j≠k:=λj=>p6 h.lnd k j;have hz:∀y∈p.lits,y≠0:=λy hy e=>by
  have:=(h.lits k p hp).2.2.2 y hy;rw[e]at this;unfold aw nH at this;split at this
  .omega
  .simp at this
 refine⟨?_,?_,?_,?_,?_,?_,?_⟩
 .show((pt S.prs k _).map (·.1)).Nodup;rw[g];exact h.nd
 .intro j q f;have f:lk (pt S.prs k ⟨p.lits,a,b⟩) j=some q:=f
  by_cases e:j=k
  .subst e;rw[dU]at f;cases f;exact h.lits j p hp
  .rw[dG e]at f;exact h.lits j q f
 .exact Ex h.lnd k
 .intro j hj;obtain⟨h1,s⟩:=(l j).1 hj;show∃q,lk (pt S.prs k ⟨p.lits,a,b⟩) j=some q;rw[dG s];exact h.lpr j h1
 .intro j q f;have f:lk (pt S.prs k ⟨p.lits,a,b⟩) j=some q:=f;show(j∈(dl S.late k).map (·.1)∧_)∨(j∉(dl S.late k).map (·.1)∧_);rw[l]
  by_cases e:j=k
  .subst e;rw[dU]at f;cases f;exact .inr ⟨λc=>c.2 rfl,i,o,r⟩
  .rw[dG e]at f;rcases h.two j q f with⟨c,d⟩|⟨c,d⟩
   .exact .inl ⟨⟨c,e⟩,d⟩
   .exact .inr ⟨λz=>c z.1,d⟩
 .intro m;refine x7 (λm=>x7 h.bnd (h.nby hp hk a) m) ?_ m;rw[pZ];rintro(c|c)
  .exact h.nby hp hk b c
  .exact i c.1.symm
 .intro m j;show j∈bF (gF (gF S.byl k a) k b) m↔m≠0∧∃q,lk (pt S.prs k ⟨p.lits,a,b⟩) j=some q∧_;rw[pZ,pZ]
  by_cases e:j=k
  .subst e;rw[dU];constructor
   .rintro((c|c)|c)
    .exact absurd c (h.nby hp hk m)
    .rw[c.1];exact⟨hz a o,_,rfl,.inl rfl⟩
    .rw[c.1];exact⟨hz b r,_,rfl,.inr rfl⟩
   .rintro⟨t,q,f,c⟩;cases f
    rcases c with c|c
    .exact .inl (.inr ⟨c.symm,rfl⟩)
    .exact .inr ⟨c.symm,rfl⟩
  .rw[dG e,h.mem];constructor
   .rintro((c|c)|c)
    .exact c
    .exact absurd c.2 e
    .exact absurd c.2 e
   .exactλc=>.inl (.inl c)
theorem Wch.move(h:Wch n S){k l x:Int}{p:Pr}(hp:lk S.prs k=some p)(l0:l≠0)(i:p.x=l∨p.y=l)(hx:x∈p.lits)(h1:x≠l)(b:x≠pU l p):Wch n (rM S k l p x):=by
 have hk:k∉S.late.map (·.1):=λhk=>by
  obtain⟨D,E⟩:=h.zer hp hk;rw[D,E]at i;omega
 obtain⟨F,G,s,o,r⟩:=h.pos hp hk;have hz:x≠0:=λe=>by
  have:=(h.lits k p hp).2.2.2 x hx;rw[e]at this;unfold aw nH at this;split at this
  .omega
  .simp at this
 have f:∀q:Pr,(pt S.prs k q).map (·.1)=S.prs.map (·.1):=λq=>eM _ hp;have w:(jb l p x).lits=p.lits∧(jb l p x).x≠(jb l p x).y∧(jb l p x).x∈p.lits∧(jb l p x).y∈p.lits∧∀m,((jb l p x).x=m∨(jb l p x).y=m)↔(x=m∨(m≠l∧(p.x=m∨p.y=m))):=by
  unfold jb;unfold pU at b
  by_cases c:p.x=l
  .rw[SX c]at b⊢;refine⟨rfl,b,hx,r,λm=>?_⟩;show(x=m∨p.y=m)↔_;constructor
   .rintro(e|e)
    .exact .inl e
    .exact .inr ⟨λq=>s (by rw[c,e,q]),.inr e⟩
   .rintro(e|⟨g,e|e⟩)
    .exact .inl e
    .exact absurd (e.symm.trans c) g
    .exact .inr e
  .rw[SU c]at b⊢;have hy:p.y=l:=i.elim (λe=>absurd e c) id;refine⟨rfl,λe=>b e.symm,o,hx,λm=>?_⟩;show(p.x=m∨x=m)↔_;constructor
   .rintro(e|e)
    .exact .inr ⟨λq=>c (e.trans q),.inl e⟩
    .exact .inl e
   .rintro(e|⟨g,e|e⟩)
    .exact .inr e
    .exact .inl e
    .exact absurd (e.symm.trans hy) g
 obtain⟨v,A,B,C,u⟩:=w;refine⟨?_,?_,h.lnd,?_,?_,?_,?_⟩
 .show((pt S.prs k _).map (·.1)).Nodup;rw[f];exact h.nd
 .intro j q a;have a:lk (pt S.prs k (jb l p x)) j=some q:=a
  by_cases e:j=k
  .subst e;rw[dU]at a;cases a;rw[v];exact h.lits j p hp
  .rw[dG e]at a;exact h.lits j q a
 .intro j hj;show∃q,lk (pt S.prs k (jb l p x)) j=some q
  by_cases e:j=k
  .subst e;exact⟨_,dU⟩
  .rw[dG e];exact h.lpr j hj
 .intro j q a;have a:lk (pt S.prs k (jb l p x)) j=some q:=a
  by_cases e:j=k
  .subst e;rw[dU]at a;cases a;rw[v];exact .inr ⟨hk,A,B,C⟩
  .rw[dG e]at a;exact h.two j q a
 .intro m;refine x7 (λm=>pY h.bnd k l m) ?_ m;rw[ki,h.mem];rintro⟨⟨_,q,a,c⟩,_⟩;rw[hp]at a;cases a
  unfold pU at b
  by_cases d:p.x=l
  .rw[SX d]at b;rcases c with c|c
   .exact h1 (c.symm.trans d)
   .exact b c.symm
  .rw[SU d]at b;rcases c with c|c
   .exact b c.symm
   .exact h1 (c.symm.trans (i.elim (λe=>absurd e d) id))
 .intro m j;show j∈bF (gF (er S.byl k l) k x) m↔m≠0∧∃q,lk (pt S.prs k (jb l p x)) j=some q∧_;rw[pZ,ki,h.mem]
  by_cases e:j=k
  .subst e;rw[dU];constructor
   .rintro(⟨⟨t,q,a,c⟩,d⟩|⟨c,_⟩)
    .rw[hp]at a;cases a
     exact⟨t,_,rfl,(u m).2 (.inr ⟨λz=>d ⟨l0,z,rfl⟩,c⟩)⟩
    .rw[c];exact⟨hz,_,rfl,(u x).2 (.inl rfl)⟩
   .rintro⟨t,q,a,c⟩;cases a
    rcases(u m).1 c with c|⟨c1,c2⟩
    .exact .inr ⟨c.symm,rfl⟩
    .exact .inl ⟨⟨t,p,hp,c2⟩,λz=>c1 z.2.1⟩
  .rw[dG e];constructor
   .rintro(⟨c,_⟩|⟨_,c⟩)
    .exact c
    .exact absurd c e
   .exactλc=>.inl ⟨c,λz=>e z.2.2⟩
theorem Wch.put(h:Wch n S){k:Int}(hk:k∉S.prs.map (·.1))(k0:0<=k∧k<=20000000){lits:List Int}(hn:lits.Nodup)(l:lits.length<=1000)(i:∀y∈lits,aw y n=0)(v:Int):Wch n ⟨pt S.prs k ⟨lits,0,0⟩,S.byl,pt S.late k v,S.head,S.seen⟩:=by
 have g:lk S.prs k=none:=by
  cases d:lk S.prs k with
  |none=>rfl
  |some p=>exact absurd (qR d) hk
 have f:∀j,j∈(pt S.late k v).map (·.1)↔j=k∨j∈S.late.map (·.1):=λj=>mV _ _ _ _;refine⟨kg _ _ _ h.nd,?_,kg _ _ _ h.lnd,?_,?_,h.bnd,?_⟩
 .intro j q d;have d:lk (pt S.prs k ⟨lits,0,0⟩) j=some q:=d
  by_cases e:j=k
  .subst e;rw[dU]at d;cases d;exact⟨k0,hn,l,i⟩
  .rw[dG e]at d;exact h.lits j q d
 .intro j hj;show∃q,lk (pt S.prs k ⟨lits,0,0⟩) j=some q
  by_cases e:j=k
  .subst e;exact⟨_,dU⟩
  .rw[dG e];rcases(f j).1 hj with c|c
   .exact absurd c e
   .exact h.lpr j c
 .intro j q d;have d:lk (pt S.prs k ⟨lits,0,0⟩) j=some q:=d;show(j∈(pt S.late k v).map (·.1)∧_)∨(j∉(pt S.late k v).map (·.1)∧_);rw[f]
  by_cases e:j=k
  .subst e;rw[dU]at d;cases d;exact .inl ⟨.inl rfl,rfl,rfl⟩
  .rw[dG e]at d;rcases h.two j q d with⟨a,b⟩|⟨a,b⟩
   .exact .inl ⟨.inr a,b⟩
   .exact .inr ⟨λc=>c.elim e a,b⟩
 .intro m j;show j∈bF S.byl m↔m≠0∧∃q,lk (pt S.prs k ⟨lits,0,0⟩) j=some q∧_;rw[h.mem]
  by_cases e:j=k
  .subst e;rw[dU,g];constructor
   .rintro⟨_,q,d,_⟩;cases d
   .rintro⟨o,q,d,c⟩;cases d
    simp at c;exact absurd c.symm o
  .rw[dG e]
theorem Wch.del(h:Wch n S)(k:Int):Wch n (qQ S k):=by
 unfold qQ;cases hp:lk S.prs k with
 |none=>exact h
 |some p=>
  have g:((fl S k p).prs).map (·.1)=S.prs.map (·.1):=eM _ hp;have l:(((fl S k p).prs).map (·.1)).Nodup:=by rw[g];exact h.nd
  have f:∀j,lk (dl (fl S k p).prs k) j=if j=k then none else lk S.prs j:=λj=>by
   rw[oX l]
   by_cases e:j=k
   .rw[SX e,SX e]
   .rw[SU e,SU e];exact dG e
  have i:∀j,j∈(dl S.late k).map (·.1)↔j∈S.late.map (·.1)∧j≠k:=λj=>p6 h.lnd k j;refine⟨Ex l k,?_,Ex h.lnd k,?_,?_,?_,?_⟩
  .intro j q d;have d:lk (dl (fl S k p).prs k) j=some q:=d;rw[f]at d;split at d
   .cases d
   .exact h.lits j q d
  .intro j hj;obtain⟨h1,t⟩:=(i j).1 hj;show∃q,lk (dl (fl S k p).prs k) j=some q;rw[f,SU t];exact h.lpr j h1
  .intro j q d;have d:lk (dl (fl S k p).prs k) j=some q:=d;show(j∈(dl S.late k).map (·.1)∧_)∨(j∉(dl S.late k).map (·.1)∧_);rw[i];rw[f]at d;split at d
   .cases d
   .rename_i e;rcases h.two j q d with⟨a,b⟩|⟨a,b⟩
    .exact .inl ⟨⟨a,e⟩,b⟩
    .exact .inr ⟨λc=>a c.1,b⟩
  .exactλm=>pY (λm=>pY h.bnd k p.x m) k p.y m
  .intro m j;show j∈bF (er (er S.byl k p.x) k p.y) m↔m≠0∧∃q,lk (dl (fl S k p).prs k) j=some q∧_;rw[ki,ki,h.mem,f]
   by_cases e:j=k
   .subst e;rw[SX rfl];constructor
    .rintro⟨⟨⟨o,q,d,c⟩,r⟩,s⟩;rw[hp]at d;cases d
     rcases c with c|c
     .exact absurd ⟨λz=>o (c.symm.trans z),c.symm,rfl⟩ r
     .exact absurd ⟨λz=>o (c.symm.trans z),c.symm,rfl⟩ s
    .rintro⟨o,q,d,c⟩;cases d
   .rw[SU e];exact⟨λq=>q.1.1,λq=>⟨⟨q,λz=>e z.2.2⟩,λz=>e z.2.2⟩⟩
end
inductive Grow (C:Int->List Int->Prop) (n:Nat) (T0:Tr):Tr->Prop
  |refl:Grow C n T0 T0
  |step {T:Tr} {k o:Int} {c:List Int}:Grow C n T0 T->C k c->o∈c->fP T o=0->0<=k->(∀y∈c,y≠o->-y∈T.lits)->Grow C n T0 (gT T o k)
theorem Grow.trans{C:Int->List Int->Prop}{n:Nat}{T0 c d:Tr}(a:Grow C n T0 c)(b:Grow C n c d):Grow C n T0 d:=by
 induction b with
 |refl=>exact a
 |step _ h1 e f g h i=>exact .step i h1 e f g h
theorem Grow.mono{C b:Int->List Int->Prop}{n:Nat}{T0 d:Tr}(h:∀k c,C k c->b k c)(a:Grow C n T0 d):Grow b n T0 d:=by
 induction a with
 |refl=>exact .refl
 |step _ h1 e f g i j=>exact .step j (h _ _ h1) e f g i
theorem Grow.pre{C:Int->List Int->Prop}{n:Nat}{T0 b:Tr}(a:Grow C n T0 b):T0.lits<+:b.lits∧b.beg=T0.beg:=by
 induction a with
 |refl=>exact⟨WY _,rfl⟩
 |step _ h1 d e f g c=>exact⟨c.1.trans (List.prefix_append _ _),c.2⟩
def CW(S:WS)(k:Int)(c:List Int):Prop:=∃p,lk S.prs k=some p∧p.lits=c
structure SameL (S S':WS):Prop where
  keys:S'.prs.map (·.1)=S.prs.map (·.1)
  lits:∀k c,CW S' k c↔CW S k c
theorem SameL.refl(S:WS):SameL S S:=⟨rfl,λ_ _=>Iff.rfl⟩
theorem SameL.trans{S S' d:WS}(a:SameL S S')(b:SameL S' d):SameL S d:=⟨b.keys.trans a.keys,λk c=>(b.lits k c).trans (a.lits k c)⟩
theorem SameL.pt{S:WS}{k:Int}{p q:Pr}(hp:lk S.prs k=some p)(d:q.lits=p.lits)(byl:List (Int×List Int))(late:List (Int×Int))(hd:Int)(sn:List Int):SameL S ⟨Go.AX.pt S.prs k q,byl,late,hd,sn⟩where
 keys:=eM _ hp
 lits:=λj c=>by
  unfold CW;show(∃f,lk (Go.AX.pt S.prs k q) j=some f∧_)↔_
  by_cases e:j=k
  .subst e;rw[dU,hp];constructor
   .rintro⟨_,a,b⟩;cases a;exact⟨p,rfl,d▸b⟩
   .rintro⟨_,a,b⟩;cases a;exact⟨q,rfl,d.trans b⟩
  .rw[dG e]
structure Pro (n:Nat) (S0:WS) (T0:Tr) (S:WS) (T:Tr):Prop where
  wch:Wch n S
  tok:TOk n T
  same:SameL S0 S
  grow:Grow (CW S0) n T0 T
  head:S.head=S0.head
  seen:S.seen=S0.seen
def od(S:WS)(P:List Int):Prop:=∀y∈P,bF S.byl (-y)=[]
def mZ(S:WS)(T:Tr)(k:Int):Prop:=∀p,lk S.prs k=some p->∃x∈p.lits,x∈T.lits
theorem mZ.up{S S':WS}{T T':Tr}{k:Int}(h:mZ S T k)(hs:SameL S S')(b:∀x∈T.lits,x∈T'.lits):mZ S' T' k:=λp hp=>by
 obtain⟨q,c,e⟩:=(hs.lits k p.lits).1 ⟨p,hp,rfl⟩;obtain⟨x,hx,a⟩:=h q c;exact⟨x,e▸hx,b x a⟩
section
variable {n : Nat}
theorem uj{T:Tr}(d:TMk n T){lits:List Int}(e:∀y∈lits,aw y n=0){x:Int}:x∈eK T lits↔x∈lits∧-x∉T.lits:=by
 unfold eK;rw[TJ];constructor
 .rintro⟨a,b⟩;refine⟨a,λc=>?_⟩;have:=(d.valm (e x a)).2 c;simp[this]at b
 .rintro⟨a,b⟩;refine⟨a,?_⟩;have h1:=d.val (e x a);rw[SU b]at h1;split at h1<;>simp[h1]
theorem JT{T:Tr}{lits:List Int}(h:lits.Nodup):(eK T lits).Nodup:=h.sublist VI
theorem JU{T:Tr}(a:TMk n T){lits:List Int}(b:∀y∈lits,aw y n=0):l3 T lits=true↔∃x∈lits,x∈T.lits:=by
 unfold l3;rw[UL];constructor
 .rintro⟨x,hx,e⟩;exact⟨x,hx,(a.val1 (b x hx)).1 (by simpa using e)⟩
 .rintro⟨x,hx,e⟩;exact⟨x,hx,by simpa using(a.val1 (b x hx)).2 e⟩
theorem Ey{T:Tr}(c:TMk n T){p:Pr}(d:∀y∈p.lits,aw y n=0):mU T p=true↔∀y∈p.lits,-y∈T.lits:=by
 unfold mU;rw[Th,UM,VZ];constructor
 .intro h y hy;apply Ts;intro e;exact h y ((uj c d).2 ⟨hy,e⟩)
 .intro h y hy;obtain⟨a,b⟩:=(uj c d).1 hy;exact b (h y a)
theorem Pro.fresh{S0 S:WS}{T0 T:Tr}(h:Pro n S0 T0 S T){k:Int}{p:Pr}(hp:lk S.prs k=some p)(hk:k∈S.late.map (·.1))(w:mU T p=false):
 Pro n S0 T0 (jM S T k p) (mg T k p)∧(∀j,j∈(jM S T k p).late.map (·.1)->j∈S.late.map (·.1))∧(∀j,j∈S.late.map (·.1)->j≠k->j∈(jM S T k p).late.map (·.1))∧(k∈(jM S T k p).late.map (·.1)->mZ (jM S T k p) (mg T k p) k)∧SameL S (jM S T k p)∧Grow (CW S0) n T (mg T k p)∧
 (∀y,y∈T.lits->bF (jM S T k p).byl (-y)=bF S.byl (-y)):=by
 obtain⟨k0,s,A,m⟩:=h.wch.lits k p hp;have hin:=λx=>uj (x:=x) h.tok.toTMk m;have u:=JT (T:=T) s;have t:=JU h.tok.toTMk m;unfold jM mg;unfold mU at w;generalize eK T p.lits=O at*;rcases O with _|⟨a,_|⟨b,O⟩⟩
 .simp at w
 .rw[SU (by simp)];obtain⟨d,g⟩:=(hin a).1 (To ..);cases hd:l3 T p.lits
  .rw[SX ⟨rfl,rfl⟩];have r:a∉T.lits:=λe=>by rw[t.2 ⟨a,d,e⟩]at hd;cases hd
   have o:fP T a=0:=(h.tok.may a).2 ⟨m a d,r,g⟩;have C:lu T a k=gT T a k:=by
    have B:B6 T a k=0:=by
     unfold B6;rw[SU (by simp[o]),SU (by omega)]
    unfold lu;rw[SX B]
   have l:CW S0 k p.lits:=(h.same.lits _ _).1 ⟨p,hp,rfl⟩;have ho:∀y∈p.lits,y≠a->-y∈T.lits:=λy hy c=>by
    apply Ts;intro l;have:=(hin y).2 ⟨hy,l⟩;simp at this;exact c this
   rw[UQ,C];have z:Grow (CW S0) n T (gT T a k):=.step .refl l d o k0.1 ho;refine⟨⟨h.wch,h.tok.imp o k,h.same,h.grow.trans z,h.head,h.seen⟩,λ_ hj=>hj,λ_ hj _=>hj,λ_=>?_,SameL.refl _,z,λ_ _=>rfl⟩;intro q f;rw[hp]at f;cases f
   exact⟨a,d,U9 _ (by simp)⟩
  .rw[SU (by simp)];refine⟨h,λ_ hj=>hj,λ_ hj _=>hj,λ_=>?_,SameL.refl _,.refl,λ_ _=>rfl⟩;intro q f;rw[hp]at f;cases f
   exact t.1 hd
 .rw[SX (by simp),SU (by simp)];simp only[UQ,Vb];obtain⟨d,g⟩:=(hin a).1 (To ..);obtain⟨b1,b2⟩:=(hin b).1 (by simp);have i:a≠b:=λe=>by
   rw[UA]at u;exact u.1 (by rw[e];simp)
  have D:=h.wch.watch hp hk i d b1;have v:SameL S ⟨pt S.prs k ⟨p.lits,a,b⟩,gF (gF S.byl k a) k b,dl S.late k,S.head,S.seen⟩:=SameL.pt (q:=⟨p.lits,a,b⟩) hp rfl _ _ _ _;refine⟨⟨D,h.tok,h.same.trans v,h.grow,h.head,h.seen⟩,λj hj=>((p6 h.wch.lnd k j).1 hj).1,λj hj c=>(p6 h.wch.lnd k j).2 ⟨hj,c⟩,λhj=>absurd rfl ((p6 h.wch.lnd k k).1 hj).2,v,.refl,λy hy=>?_⟩;show bF (gF (gF S.byl k a) k b) (-y)=_;rw[nB,SU (λe=>b2 (by rw[←e,Vc];exact hy)),nB,SU (λe=>g (by rw[←e,Vc];exact hy))]
structure JL (n:Nat) (S0:WS) (T0:Tr) (P:List Int) (ks:List Int) (S:WS) (T:Tr):Prop extends Pro n S0 T0 S T where
  clr:od S P
  sub':∀y∈P,y∈T.lits
  knd:ks.Nodup
  kin:∀k∈ks,k∈S.late.map (·.1)
  all:∀k∈S.late.map (·.1),k∈ks∨mZ S T k
theorem JL.step{S0 S:WS}{T0 T:Tr}{P ks:List Int}{k:Int}(h:JL n S0 T0 P (k::ks) S T){p:Pr}(hp:lk S.prs k=some p)(g:mU T p=false):JL n S0 T0 P ks (jM S T k p) (mg T k p):=by
 obtain⟨a,b,d,f,f5,f6,f7⟩:=h.toPro.fresh hp (h.kin k (To ..)) g;have hn:=UA.1 h.knd;exact{a with
  clr:=λy hy=>by rw[f7 y (h.sub' y hy)];exact h.clr y hy
  sub':=λy hy=>f6.pre.1.subset (h.sub' y hy)
  knd:=hn.2
  kin:=λj hj=>d j (h.kin j (Tl _ hj)) λe=>hn.1 (e▸hj)
  all:=λj hj=>by
   rcases h.all j (b j hj)with c|c
   .rcases Tx.1 c with rfl|c
    .exact .inr (f hj)
    .exact .inl c
   .exact .inr (c.up f5 λx hx=>f6.pre.1.subset hx)}
def rp(S:WS)(T:Tr)(k:Int):Prop:=0<=k∧∃p,lk S.prs k=some p∧∀y∈p.lits,-y∈T.lits
theorem Ez{S0:WS}{T0:Tr}{P:List Int}:∀{ks:List Int}{S:WS}{T:Tr},JL n S0 T0 P ks S T->
 ((ik ks S T).2.2=-1∧JL n S0 T0 P [] (ik ks S T).1 (ik ks S T).2.1)∨(0<=(ik ks S T).2.2∧Pro n S0 T0 (ik ks S T).1 (ik ks S T).2.1∧od (ik ks S T).1 P∧(∀y∈P,y∈(ik ks S T).2.1.lits)∧rp (ik ks S T).1 (ik ks S T).2.1 (ik ks S T).2.2)
 |[],S,T,h=>.inl ⟨rfl,h⟩
 |k::ks,S,T,h=>by
  obtain⟨p,hp⟩:=h.wch.lpr k (h.kin k (To ..));obtain⟨k0,_,_,b⟩:=h.wch.lits k p hp;rw[ik,hp];simp only;cases a:mU T p
  .rw[SU (by simp)];exact Ez (h.step hp a)
  .rw[SX rfl];exact .inr ⟨k0.1,h.toPro,h.clr,h.sub',k0.1,p,hp,(Ey h.tok.toTMk b).1 a⟩
structure JF (n:Nat) (S0:WS) (T0:Tr) (P:List Int) (l:Int) (zs:List Int) (S:WS) (T:Tr):Prop extends Pro n S0 T0 S T where
  clr:od S P
  sub':∀y∈P,y∈T.lits
  by':bF S.byl l=zs
  fail:-l∈T.lits
  held:∀k∈S.late.map (·.1),mZ S T k
theorem JF.look{S0 S:WS}{T0 T:Tr}{P zs:List Int}{l k:Int}(h:JF n S0 T0 P l (k::zs) S T):∃p,lk S.prs k=some p∧l≠0∧(p.x=l∨p.y=l)∧k∉S.late.map (·.1):=by
 have hk:k∈bF S.byl l:=by rw[h.by'];exact To ..
 obtain⟨l0,p,hp,b⟩:=(h.wch.mem l k).1 hk;exact⟨p,hp,l0,b,λa=>h.wch.nby hp a l hk⟩
theorem qS{k:Int}{zs:List Int}(h:(k::zs).Nodup):bk (λx=>decide (x=k)) (k::zs)=zs:=by
 have hn:=UA.1 h;unfold bk;rw[TO,SU (by simp),Uz];intro x hx;have:x≠k:=λe=>hn.1 (e▸hx);simp[this]
theorem eO{byl:List (Int×List Int)}{k l m:Int}(h:bF byl m=[]):bF (er byl k l) m=[]:=by
 rw[jC];split
 .rename_i c;rw[←c.2,h];rfl
 .exact h
theorem Mv{l:Int}{p:Pr}(a:p.x≠p.y)(b:p.x=l∨p.y=l):(p.x=l∧pU l p=p.y∧p.y≠l)∨(p.y=l∧pU l p=p.x∧p.x≠l):=by
 unfold pU
 by_cases c:p.x=l
 .rw[SX c];exact .inl ⟨c,rfl,λe=>a (c.trans e.symm)⟩
 .rw[SU c];exact .inr ⟨b.elim (λe=>absurd e c) id,rfl,c⟩
theorem JF.step{S0 S:WS}{T0 T:Tr}{P zs:List Int}{l k:Int}(h:JF n S0 T0 P l (k::zs) S T){p:Pr}(hp:lk S.prs k=some p)(hb:qO T l p=false):JF n S0 T0 P l zs (oW S T l k p) (pW T l k p):=by
  obtain⟨q,hq,l0,hl,hk⟩:=h.look
  rw[hp]at hq
  cases hq
  obtain⟨x0,y0,hxy,hpx,hpy⟩:=h.wch.pos hp hk
  obtain⟨k0,hnd,hlen,hchk⟩:=h.wch.lits k p hp
  have hnz:(k::zs).Nodup:=by rw[←h.by'];exact h.wch.bnd l
  unfold oW pW
  unfold qO at hb
  cases hpk:mW T l p with
  |some x=>
    unfold mW at hpk
    have hx:=List.mem_of_find?_eq_some hpk
    have ho:=List.find?_some hpk
    unfold Oc at ho
    simp only[S9,Th]at ho
    obtain⟨o1,o2,o3⟩:=ho
    have hW:=h.wch.move hp l0 hl hx o1 o2
    have hM:(jb l p x).lits=p.lits:=by unfold jb;split<;>rfl
    have hS:SameL S (rM S k l p x):=SameL.pt hp hM _ _ _ _
    have hnx:-x∉T.lits:=λe=>by
      have:=(h.tok.valm (hchk x hx)).2 e
      omega
    exact { wch := hW, tok := h.tok, same := h.same.trans hS, grow := h.grow, head := h.head, seen := h.seen
            clr:=λy hy=>by
              show bF (gF (er S.byl k l) k x) (-y)=[]
              rw[nB,SU (λe=>hnx (by rw[←e,Vc];exact h.sub' y hy))]
              exact eO (h.clr y hy)
            sub':=h.sub'
            by':=by
              show bF (gF (er S.byl k l) k x) l=zs
              rw[nB,SU (λe=>o1 e.symm),jC,SX ⟨l0,rfl⟩,h.by',qS hnz]
            fail:=h.fail
            held:=λj hj=>(h.held j hj).up hS λ_ hx=>hx}
  |none=>
    rw[hpk]at hb
    simp only at hb⊢
    have hL:=h.wch.toLate hp hk (aX ((lk S.late k).getD 0+1))
    have hS1:SameL S (l4 (fl S k p) k):=SameL.pt (q:=⟨p.lits,0,0⟩) hp rfl _ _ _ _
    have hP1:Pro n S0 T0 (l4 (fl S k p) k) T:=⟨hL,h.tok,h.same.trans hS1,h.grow,h.head,h.seen⟩
    have hlk:∀j,j∈(l4 (fl S k p) k).late.map (·.1)↔j=k∨j∈S.late.map (·.1):=λj=>mV _ _ _ _
    have hp1:lk (l4 (fl S k p) k).prs k=some (pV p):=dU
    obtain⟨f1,f2,f3,f4,f5,f6,f7⟩:=hP1.fresh hp1 ((hlk k).2 (.inl rfl)) hb
    have hby:bF (l4 (fl S k p) k).byl l=zs:=by
      show bF (er (er S.byl k p.x) k p.y) l=zs
      rcases Mv hxy hl with⟨c,_,d⟩|⟨c,_,d⟩
      · rw[jC,SU (λe=>d e.2.symm),jC,SX ⟨x0,c.symm⟩,c,h.by',qS hnz]
      · rw[jC,SX ⟨y0,c.symm⟩,c,jC,SU (λe=>d e.2.symm),h.by',qS hnz]
    have hsub:∀y∈T.lits,y∈(mg T k (pV p)).lits:=λy hy=>f6.pre.1.subset hy
    exact{f1 with
      clr:=λy hy=>by
        rw[f7 y (h.sub' y hy)]
        exact eO (eO (h.clr y hy))
      sub':=λy hy=>hsub y (h.sub' y hy)
      by':=by
        have:=f7 (-l) h.fail
        rw[Vc]at this
        rw[this];exact hby
      fail:=hsub _ h.fail
      held:=λj hj=>by
        rcases(hlk j).1 (f2 j hj)with rfl|c
        · exact f4 hj
        · exact((h.held j c).up (hS1.trans f5) hsub)}
theorem JF.bad{S0 S:WS}{T0 T:Tr}{P zs:List Int}{l k:Int}(h:JF n S0 T0 P l (k::zs) S T){p:Pr}(hp:lk S.prs k=some p)(a:qO T l p=true):
 Pro n S0 T0 (oW S T l k p) (pW T l k p)∧od (oW S T l k p) P∧pW T l k p=T∧rp (oW S T l k p) T k:=by
 obtain⟨q,i,l0,s,hk⟩:=h.look;rw[hp]at i;cases i
 obtain⟨k0,r,g,b⟩:=h.wch.lits k p hp;unfold oW pW;unfold qO at a;cases c:mW T l p with
 |some x=>rw[c]at a;cases a
 |none=>
  rw[c]at a;simp only at a⊢;have f:=a;unfold mU at f;rw[Th]at f;have j:jM (l4 (fl S k p) k) T k (pV p)=l4 (fl S k p) k:=by unfold jM;rw[SU (by omega)]
  have m:mg T k (pV p)=T:=by unfold mg;rw[SU (by omega)]
  rw[j,m];have o:=h.wch.toLate hp hk (aX ((lk S.late k).getD 0+1));have d:SameL S (l4 (fl S k p) k):=SameL.pt (q:=⟨p.lits,0,0⟩) hp rfl _ _ _ _;have e:lk (l4 (fl S k p) k).prs k=some (pV p):=dU;exact⟨⟨o,h.tok,h.same.trans d,h.grow,h.head,h.seen⟩,λy hy=>eO (eO (h.clr y hy)),rfl,k0.1,_,e,(Ey (p:=pV p) h.tok.toTMk b).1 a⟩
theorem EA{S0:WS}{T0:Tr}{P:List Int}{l:Int}:∀{zs:List Int}{S:WS}{T:Tr},JF n S0 T0 P l zs S T->
 ((gX l zs S T).2.2=-1∧JF n S0 T0 P l [] (gX l zs S T).1 (gX l zs S T).2.1)∨(0<=(gX l zs S T).2.2∧Pro n S0 T0 (gX l zs S T).1 (gX l zs S T).2.1∧od (gX l zs S T).1 P∧(∀y∈P,y∈(gX l zs S T).2.1.lits)∧rp (gX l zs S T).1 (gX l zs S T).2.1 (gX l zs S T).2.2)
 |[],S,T,h=>.inl ⟨rfl,h⟩
 |k::zs,S,T,h=>by
  obtain⟨p,hp,_⟩:=h.look;rw[gX,hp];simp only;cases a:qO T l p
  .rw[SU (by simp)];exact EA (h.step hp a)
  .rw[SX rfl];obtain⟨b1,b2,b3,b4⟩:=h.bad hp a;exact .inr ⟨b4.1,b1,b2,λy hy=>by rw[b3];exact h.sub' y hy,by rw[b3];exact b4⟩
end
structure JC (n:Nat) (S0:WS) (T0:Tr) (S:WS) (T:Tr):Prop where
  wch:Wch n S
  tok:TOk n T
  same:SameL S0 S
  grow:Grow (CW S0) n T0 T
  seen:S.seen=S0.seen
  h0:0<=S.head
  h1:S.head<=T.lits.length
  clr:od S (T.lits.take S.head.toNat)
structure JP (n:Nat) (S0:WS) (T0:Tr) (S:WS) (T:Tr):Prop extends JC n S0 T0 S T where
  held:∀k∈S.late.map (·.1),mZ S T k
section
variable {n : Nat} {S0 : WS} {T0 : Tr}
theorem CW.same{S S':WS}(h:SameL S S'){n:Nat}{T T':Tr}(g:Grow (CW S') n T T'):Grow (CW S) n T T':=g.mono λk c a=>(h.lits k c).1 a
theorem SameL.len{S S':WS}(h:SameL S S'):S'.prs.length=S.prs.length:=by
 have:=Vm List.length h.keys;simpa using this
theorem uk{l l':List Int}(h:l<+:l'){k:Nat}(hk:k<=l.length):l'.take k=l.take k:=by
 obtain⟨t,rfl⟩:=h;exact Uy hk
theorem JP.neg{S:WS}{T:Tr}(h:JP n S0 T0 S T)(hd:S.head<T.lits.length):∃i:Nat,∃hi:i<T.lits.length,S.head=i∧dF T S=-T.lits[i]:=by
 have h0:=h.h0;refine⟨S.head.toNat,by omega,by omega,?_⟩;have hi:S.head.toNat<T.lits.length:=by omega
 unfold dF;rw[SS,SR hi,TC];exact(br h.tok.hn (h.tok.chk _ (S5 hi))).2.2.2.2.2.2.2
theorem JP.begin{S:WS}{T:Tr}(h:JP n S0 T0 S T){i:Nat}(hi:i<T.lits.length)(hh:S.head=i):JF n S T (T.lits.take i) (-T.lits[i]) (bF S.byl (-T.lits[i])) S T:=
  { wch := h.wch, tok := h.tok, same := SameL.refl _, grow := .refl, head := rfl, seen := rfl
    clr:=by have:=h.clr;rw[hh]at this;exact this
    sub':=λy hy=>TV hy
    by':=rfl
    fail:=by rw[Vc];exact S5 hi
    held:=h.held}
theorem Mw(S:WS)(T:Tr)(l:Int):fR S T l=gX l (bF S.byl l) S T:=by
 unfold fR bF;cases lk S.byl l with
 |none=>rfl
 |some zs=>rfl
theorem JV{S:WS}{i:Nat}(h:S.head=i)(hi:i<1000000):Od S=⟨S.prs,S.byl,S.late,((i+1:Nat):Int),S.seen⟩:=by
 unfold Od;rw[h,ao (by omega) (by omega)];rfl
theorem JP.go{S:WS}{T:Tr}(h:JP n S0 T0 S T)(hd:S.head<T.lits.length):
    ((fR S T (dF T S)).2.2=-1∧JP n S0 T0 (Od (fR S T (dF T S)).1) (fR S T (dF T S)).2.1∧(fR S T (dF T S)).1.head=S.head∧T.lits<+:(fR S T (dF T S)).2.1.lits)∨
    (0<=(fR S T (dF T S)).2.2∧JC n S0 T0 (fR S T (dF T S)).1 (fR S T (dF T S)).2.1∧rp (fR S T (dF T S)).1 (fR S T (dF T S)).2.1 (fR S T (dF T S)).2.2):=by
  obtain⟨i,hi,hh,hn⟩:=h.neg hd
  have hfew:=h.tok.few
  have hn5:=h.tok.hn
  rw[hn,Mw]
  rcases EA (h.begin hi hh)with⟨r1,r2⟩|⟨r1,r2,r3,r4,r5⟩
  · left
    generalize gX (-T.lits[i]) (bF S.byl (-T.lits[i])) S T=R at*
    have hpre:=r2.grow.pre.1
    have hhd:R.1.head=i:=r2.head.trans hh
    rw[JV hhd (by omega)]
    refine⟨r1,?_,r2.head,hpre⟩
    have hle:=hpre.length_le
    exact { wch := ⟨r2.wch.nd, r2.wch.lits, r2.wch.lnd, r2.wch.lpr, r2.wch.two, r2.wch.bnd, r2.wch.mem⟩
            tok:=r2.tok,same:=h.same.trans ⟨r2.same.keys,r2.same.lits⟩,grow:=h.grow.trans (CW.same h.same r2.grow),seen:=r2.seen.trans h.seen
            h0:=by show(0:Int)<=((i+1:Nat):Int);omega
            h1:=by show((i+1:Nat):Int)<=_;omega
            clr:=by
              show od _ (R.2.1.lits.take ((i+1:Nat):Int).toNat)
              rw[show((i+1:Nat):Int).toNat=i+1 by omega,uk hpre (by omega),TW,SR hi]
              intro y hy
              rcases Te.1 hy with hy|hy
              · exact r2.clr y hy
              · simp at hy;rw[hy];exact r2.by'
            held:=r2.held}
  · right
    generalize gX (-T.lits[i]) (bF S.byl (-T.lits[i])) S T=R at*
    have hpre:=r2.grow.pre.1
    have hle:=hpre.length_le
    refine⟨r1,?_,r5⟩
    have hhd:R.1.head=i:=r2.head.trans hh
    exact { wch := r2.wch, tok := r2.tok, same := h.same.trans r2.same, grow := h.grow.trans (CW.same h.same r2.grow), seen := r2.seen.trans h.seen
            h0:=by omega,h1:=by omega
            clr:=by rw[hhd,show(i:Int).toNat=i by omega,uk hpre (by omega)];exact r3}
theorem EB:∀{m:Nat}{S:WS}{T:Tr},JP n S0 T0 S T->1000001<=S.head+m->
 ((lM m S T).2.2=-1∧JP n S0 T0 (lM m S T).1 (lM m S T).2.1∧(lM m S T).1.head=(lM m S T).2.1.lits.length)∨
 (0<=(lM m S T).2.2∧JC n S0 T0 (lM m S T).1 (lM m S T).2.1∧rp (lM m S T).1 (lM m S T).2.1 (lM m S T).2.2)
 |0,S,T,h,d=>by
  have:=h.h1;have:=h.tok.few;have:=h.tok.hn;omega
 |m+1,S,T,h,d=>by
  rw[lM]
  by_cases hd:S.head<T.lits.length
  .rw[SX hd];rcases h.go hd with⟨a,b,r3,e⟩|⟨a,b,r3⟩
   .rw[SU (by omega)];refine EB b ?_;obtain⟨i,hi,c,_⟩:=h.neg hd;have:=h.tok.few;have:=h.tok.hn;rw[JV (r3.trans c) (by omega)];show 1000001<=((i+1:Nat):Int)+m;omega
   .rw[SX a];exact .inr ⟨a,b,r3⟩
  .rw[SU hd];have:=h.h1;exact .inl ⟨rfl,h,by show S.head=T.lits.length;omega⟩
theorem JF.stepOk{P zs:List Int}{l k:Int}{S:WS}{T:Tr}(h:JF n S0 T0 P l (k::zs) S T)(f:S.prs.length<=1000000):∃p,StepOk S T l k p:=by
 obtain⟨p,hp,l0,c,hk⟩:=h.look;obtain⟨d,r,b,i,j⟩:=h.wch.pos hp hk;have a:∀m:Int,m≠0->(p.x=m∨p.y=m)->∃zs,lk S.byl m=some zs∧zs≠[]:=λm o g=>by
  obtain⟨zs,e,hz⟩:=h.wch.entry hp o g;exact⟨zs,e,λq=>by rw[q]at hz;cases hz⟩
 have:=h.tok.few;have:=h.tok.hn;refine⟨p,hp,l0,c,by have:=(h.wch.lits k p hp).2.2.1;omega,a l l0 c,λ_=>a _ d (.inl rfl),λ_=>?_,h.wch.hz f,h.tok.okT,by omega⟩;obtain⟨zs,e,hz⟩:=a _ r (.inr rfl);refine⟨zs,?_,hz⟩;unfold er;rw[SU d,bJ,SU b];exact e
theorem Q4(f:S0.prs.length<=1000000):ProOk (JP n S0 T0)where
 ok:=λS T h=>by
  have:=h.tok.few;have:=h.tok.hn;exact⟨h.tok.okT,by omega,h.h0,h.h1⟩
 step:=λS T h hd zs b=>by
  obtain⟨i,hi,g,hn⟩:=h.neg hd;have a:S.prs.length<=1000000:=by rw[h.same.len];exact f
  refine⟨h.wch.hz a _ _ b,λj S' T'=>JF n S T (T.lits.take i) (dF T S) (zs.drop j) S' T',?_,λj S' T' hj c=>?_⟩
  .show JF n S T (T.lits.take i) (dF T S) zs S T;rw[←Ew b,hn];exact h.begin hi g
  .have hj:JF n S T (T.lits.take i) (dF T S) (zs.drop j) S' T':=hj;rw[TG c]at hj;obtain⟨p,d⟩:=hj.stepOk (by rw[hj.same.len];exact a);exact⟨p,d,λe=>hj.step d.hp e⟩
 len:=λS T h hd=>by
  have k:=h.tok.hn;rcases h.go hd with⟨_,r,_⟩|⟨_,r,_⟩
  .have:=r.tok.few;omega
  .have:=r.tok.few;omega
 next:=λS T h hd hk=>by
  rcases h.go hd with r|⟨r,_⟩
  .exact r
  .exact absurd r hk
end
structure WOk (n:Nat) (S:WS):Prop extends Wch n S where
  few:S.prs.length<=1000000
  h0:0<=S.head
  h1:S.head<=S.seen.length
  sl:S.seen.length<=1000000
  clr:od S (S.seen.take S.head.toNat)
structure PrpOk (n:Nat) (S:WS) (T:Tr) (R:WS×Tr×Int):Prop where
  ok:WOk n R.1
  tok:TOk n R.2.1
  same:SameL S R.1
  grow:Grow (CW S) n T R.2.1
  seen:R.1.seen=R.2.1.lits
  res:(R.2.2=-1∧∀k p,lk R.1.prs k=some p->(∃x∈p.lits,x∈R.2.1.lits)∨∃x y,x∈p.lits∧y∈p.lits∧x≠y∧-x∉R.2.1.lits∧-y∉R.2.1.lits)∨rp R.1 R.2.1 R.2.2
theorem EC:∀(a b:List Int),iv a b<=a.length∧iv a b<=b.length
 |[],_=>⟨Tf _,Tf _⟩
 |_::_,[]=>⟨Tf _,Tf _⟩
 |x::a,y::b=>by
  rw[iv];have:=EC a b;simp only[Ty];split<;>omega
theorem wv:∀(a b:List Int)(k:Nat),k<=iv a b->a.take k=b.take k
 |a,b,0,_=>by simp
 |[],_,k+1,h=>by rw[iv]at h;omega;intros;simp_all
 |_::_,[],k+1,h=>by rw[iv]at h;omega;intros;simp_all
 |x::a,y::b,k+1,h=>by
  rw[iv]at h;split at h
  .rename_i e;rw[Wv,Wv,e,wv a b k (by omega)]
  .omega
section
variable {n : Nat} {S : WS} {T : Tr}
theorem WOk.shr(h:WOk n S)(a:TOk n T):JC n (cr S T.lits) T (cr S T.lits) T:=by
 obtain⟨f,g⟩:=EC S.seen T.lits;have b:=h.h0;have e:(cr S T.lits).head=if(iv S.seen T.lits:Int)<S.head then(iv S.seen T.lits:Int)else S.head:=rfl;have a0:0<=(cr S T.lits).head:=by rw[e];split<;>omega
 have c:(cr S T.lits).head<=iv S.seen T.lits:=by rw[e];split<;>omega
 have d:(cr S T.lits).head<=S.head:=by rw[e];split<;>omega
 refine{wch:=⟨h.nd,h.lits,h.lnd,h.lpr,h.two,h.bnd,h.mem⟩,tok:=a,same:=SameL.refl _,grow:=.refl,seen:=rfl,h0:=a0,h1:=by omega,clr:=?_};rw[←wv S.seen T.lits _ (by omega)];intro y hy;refine h.clr y ?_;have:S.seen.take (cr S T.lits).head.toNat<+:S.seen.take S.head.toNat:=List.take_prefix_take_left (by omega);exact this.subset hy
theorem WOk.jl(h:WOk n S)(hT:TOk n T):JL n (cr S T.lits) T (T.lits.take (cr S T.lits).head.toNat) (cD (S.late.map (·.1))) (cr S T.lits) T:=
  have hc:=h.shr hT
  { wch := hc.wch, tok := hT, same := SameL.refl _, grow := .refl, head := rfl, seen := rfl
    clr:=hc.clr
    sub':=λy hy=>TV hy
    knd:=Aq h.lnd
    kin:=λk hk=>wn.1 hk
    all:=λk hk=>.inl (wn.2 hk)}
theorem Pro.jc{S0 S':WS}{T0 T':Tr}(h:Pro n S0 T0 S' T')(h0:0<=S0.head)(h1:S0.head<=T0.lits.length)(hc:od S' (T0.lits.take S0.head.toNat)):JC n S0 T0 S' T':=by
  have hpre:=h.grow.pre.1
  have hle:=hpre.length_le
  exact { wch := h.wch, tok := h.tok, same := h.same, grow := h.grow, seen := h.seen, h0 := by rw [h.head]; exact h0, h1 := by rw [h.head]; omega
          clr:=by rw[h.head,uk hpre (by omega)];exact hc}
theorem ED(h:WOk n S)(d:TOk n T):
 ((fT (cr S T.lits) T).2.2=-1∧JP n (cr S T.lits) T (fT (cr S T.lits) T).1 (fT (cr S T.lits) T).2.1)∨
 (0<=(fT (cr S T.lits) T).2.2∧JC n (cr S T.lits) T (fT (cr S T.lits) T).1 (fT (cr S T.lits) T).2.1∧rp (fT (cr S T.lits) T).1 (fT (cr S T.lits) T).2.1 (fT (cr S T.lits) T).2.2):=by
 have b:=h.shr d;have e:fT (cr S T.lits) T=ik (cD (S.late.map (·.1))) (cr S T.lits) T:=rfl;rw[e];rcases Ez (h.jl d)with⟨c,a⟩|⟨c,a,r3,g,f⟩
 .exact .inl ⟨c,{a.toPro.jc b.h0 b.h1 a.clr with held:=λk hk=>(a.all k hk).resolve_left (by simp)}⟩
 .exact .inr ⟨c,a.jc b.h0 b.h1 r3,f⟩
theorem JC.fin{S':WS}{T':Tr}{k:Int}(f:S.prs.length<=1000000)(h:JC n (cr S T.lits) T S' T')
 (i:(k=-1∧(∀k∈S'.late.map (·.1),mZ S' T' k)∧S'.head=T'.lits.length)∨rp S' T' k):PrpOk n S T (⟨S'.prs,S'.byl,S'.late,S'.head,T'.lits⟩,T',k):=by
 have d:=h.tok.few;have hn:=h.tok.hn;have e:Wch n ⟨S'.prs,S'.byl,S'.late,S'.head,T'.lits⟩:=⟨h.wch.nd,h.wch.lits,h.wch.lnd,h.wch.lpr,h.wch.two,h.wch.bnd,h.wch.mem⟩;refine⟨{e with few:=by show S'.prs.length<=_;rw[h.same.len];exact f,h0:=h.h0,h1:=h.h1,sl:=by show T'.lits.length<=_;omega,clr:=h.clr},h.tok,⟨h.same.keys,h.same.lits⟩,h.grow,rfl,?_⟩;rcases i with⟨rfl,j,l⟩|⟨k0,p,hp,r⟩
 .refine .inl ⟨rfl,λk p hp=>?_⟩;have hp:lk S'.prs k=some p:=hp
  by_cases c:k∈S'.late.map (·.1)
  .exact .inl (j k c p hp)
  .obtain⟨b,m,a,hx,hy⟩:=h.wch.pos hp c;have key:∀x,x≠0->(p.x=x∨p.y=x)->-x∉T'.lits:=λx b hx g=>by
    have:=h.clr (-x) (by rw[l,show(T'.lits.length:Int).toNat=T'.lits.length by omega,Tw];exact g);rw[Vc]at this;have hk:=(h.wch.mem x k).2 ⟨b,p,hp,hx⟩;rw[this]at hk;cases hk
   exact .inr ⟨p.x,p.y,hx,hy,a,key _ b (.inl rfl),key _ m (.inr rfl)⟩
 .exact .inr ⟨k0,p,hp,r⟩
theorem JW(h:WOk n S)(f:TOk n T):PrpOk n S T (fo S T):=by
 have i:=h.shr f;have b:iw S T=if 0<=(fT (cr S T.lits) T).2.2 then fT (cr S T.lits) T else lM 1000001 (fT (cr S T.lits) T).1 (fT (cr S T.lits) T).2.1:=rfl;have hp:fo S T=(⟨(iw S T).1.prs,(iw S T).1.byl,(iw S T).1.late,(iw S T).1.head,(iw S T).2.1.lits⟩,(iw S T).2.1,(iw S T).2.2):=rfl;rw[hp];rcases ED h f with⟨g,e⟩|⟨g,e,r3⟩
 .rw[SU (by omega)]at b;have:=e.h0;rcases EB (m:=1000001) e (by omega)with⟨d,a,c⟩|⟨d,a,c⟩
  .rw[←b]at d a c;exact a.toJC.fin h.few (.inl ⟨d,a.held,c⟩)
  .rw[←b]at d a c;exact a.fin h.few (.inr c)
 .rw[SX g]at b;rw[b];exact e.fin h.few (.inr r3)
theorem JX(h:List (List SV))(bw ba bt:Nat)(mp:List (Int×Nat))(mb:List (Int×By))(A:Ar)(L:LayW h bw ba bt mp mb A T S)(b:WOk n S)(d:TOk n T):
 aA Tryz.prog 91 [.ptr bw 0] h (λr h'=>r=.pv (ab (fo S T).2.2)∧∃mb',LayW h' bw ba bt mp mb' A (fo S T).2.1 (fo S T).1∧Ext h h' (aQ bw bt mp mb) (aQ bw bt mp mb')):=by
 have f:=d.few;have hn:=d.hn;have hj:=b.jl d;have c:=ED b d;refine uT h bw ba bt mp mb A T S L (by omega) b.sl (cD (S.late.map (·.1))) rfl (λi S' T'=>JL n (cr S T.lits) T (T.lits.take (cr S T.lits).head.toNat) ((cD (S.late.map (·.1))).drop i) S' T') (by rw[V7];exact hj) ?_ ?_ ?_ ?_ ?_ (JP n (cr S T.lits) T) (Q4 b.few) ?_
 .intro q m;obtain⟨p,hp⟩:=b.lpr q.1 (UX m);have:=(b.lits _ _ hp).1;exact xW (by omega) (by omega)
 .have g:S.late.map (·.1)⊆S.prs.map (·.1):=λk hk=>by
   obtain⟨p,hp⟩:=b.lpr k hk;exact qR hp
  have:=(dq _ _ b.lnd g);rw[S7,S7]at this;have:=b.few;omega
 .intro i S' T' a hi;have a:JL n (cr S T.lits) T (T.lits.take (cr S T.lits).head.toNat) ((cD (S.late.map (·.1))).drop i) S' T':=a;rw[TG hi]at a;have l:S'.prs.length<=1000000:=by rw[a.same.len];exact b.few
  obtain⟨p,hp⟩:=a.wch.lpr _ (a.kin _ (To ..));have:=a.tok.few;exact⟨a.tok.okT,by omega,a.wch.hz l,p,hp,by have:=(a.wch.lits _ _ hp).2.2.1;omega⟩
 .intro i S' T' p a hi hp j;have a:JL n (cr S T.lits) T (T.lits.take (cr S T.lits).head.toNat) ((cD (S.late.map (·.1))).drop i) S' T':=a;rw[TG hi]at a;exact a.step hp j
 .rcases c with⟨_,r⟩|⟨_,r,_⟩
  .have:=r.tok.few;omega
  .have:=r.tok.few;omega
 .intro hk;rcases c with⟨e,o⟩|⟨e,_⟩
  .exact⟨e,o⟩
  .exact absurd e hk
end
structure UOk (n:Nat) (cs:List (List Int)):Prop where
  hn:n<=100000
  nd:∀c∈cs,c.Nodup
  len:∀c∈cs,c.length<=1000
  chk:∀c∈cs,∀y∈c,aw y n=0
def Cons(L:List Int):Prop:=∀y∈L,-y∉L
theorem No{n:Nat}(hn:n<=100000){y:Int}(hy:aw y n=0)(l:List Int):bK l y=if y∈l then 1 else if-y∈l then-1 else 0:=by
 obtain⟨_,_,_,_,_,_,hx,a⟩:=br hn hy;unfold bK;rw[SU (by omega),a]
theorem x8{n:Nat}(hn:n<=100000){y:Int}(hy:aw y n=0){l:List Int}:bK l y=-1↔y∉l∧-y∈l:=by
 rw[No hn hy];split
 .simp_all
 .split<;>simp_all
theorem Mx{n:Nat}(hn:n<=100000){y:Int}(hy:aw y n=0){l:List Int}:bK l y=0↔y∉l∧-y∉l:=by
 rw[No hn hy];split
 .simp_all
 .split<;>simp_all
section
variable {n : Nat} {cs : List (List Int)} (h : UOk n cs)
include h
theorem UOk.unit_of{L c:List Int}(f:Cons L)(a:c∈cs){x:Int}(hx:x∈c)(h1:x∉L)(d:-x∉L)(ho:∀y∈c,y≠x->-y∈L):cY L c=(x,true):=
 Go.AX.unit_of (h.len c a) (h.nd c a) hx (br h.hn (h.chk c a x hx)).2.2.2.2.2.2.1 ((Mx h.hn (h.chk c a x hx)).2 ⟨h1,d⟩)
  λy hy b=>(x8 h.hn (h.chk c a y hy)).2 ⟨λe=>f y e (ho y hy b),ho y hy b⟩
theorem UOk.fail{L c:List Int}(b:Cons L)(a:c∈cs):zy L c=-1↔∀y∈c,-y∈L:=by
 rw[mQ];constructor
 .exactλq y hy=>((x8 h.hn (h.chk c a y hy)).1 (q y hy (br h.hn (h.chk c a y hy)).2.2.2.2.2.2.1)).2
 .exactλq y hy _=>(x8 h.hn (h.chk c a y hy)).2 ⟨λe=>b y e (q y hy),q y hy⟩
end
section
variable {n : Nat} {cs : List (List Int)} {L0 L : List Int}
end
end Go.AX
namespace Go.AX
set_option maxRecDepth 16000
open Go.Proofs
def eW(T:Tr)(v:Int):Tr:=if(if v<0 then 0 else v)<(T.beg.length:Int)then cw T (if v<0 then(0:Int)else v).toNat else T
theorem TOk.bak{n:Nat}{T:Tr}(h:TOk n T)(v:Int):TOk n (eW T v):=by
 unfold eW;obtain⟨m,a⟩:∃m:Int,(if v<0 then(0:Int)else v)=m:=⟨_,rfl⟩;have b:0<=m:=by rw[←a];split<;>omega
 rw[a]
 by_cases c:m<(T.beg.length:Int)
 .rw[SX c];exact(h.back (by omega)).1
 .rw[SU c];exact h
theorem JY(h:List (List SV))(b:Nat)(T:Tr)(g:h[b]?=some (gA T))(v:Int)(j:¬(if v<0 then 0 else v)<(T.beg.length:Int)):
 aA Tryz.prog 131 [.ptr b 0,ab v] h (λr h'=>h'=h∧r=.pv (.seq true 1 (ae []))):=by
 refine d7 [] [.tmp 4] aD Tryz.func131 ?_;obtain⟨d,e⟩:=SQ.1 g;have c:=mM T;have a:∀n,bA h (n+1) b 0=bN T:=λn=>cW g n;simp only[bN]at c a;obtain⟨m,i⟩:∃m:Int,(if v<0 then(0:Int)else v)=m:=⟨_,rfl⟩;rw[i]at j;have f:(T.beg.length:Int)<=m:=by omega
 simp[i];refine am.introP (r:=.pv (BL true)) (by simpa[a]using c) ?_ (by simp[d]) (by simp);simp[e,d,gA,f,ae,bB,bc]
theorem JZ(h:List (List SV))(b:Nat)(T:Tr)(F:h[b]?=some (gA T))(v:Int)(k:Nat)(K:(if v<0 then(0:Int)else v)=k)(hk:k<T.beg.length)(h0:0<=T.beg.getD k 0∧T.beg.getD k 0<=T.lits.length)(hs:T.lits.length<=1000000)(Q:∀y∈T.lits,0<=af y∧af y<T.marks.length):
 aA Tryz.prog 131 [.ptr b 0,ab v] h (λr h'=>h'=h.set b (gA (cw T k))∧r=.pv (.seq true 1 (ae (uh T (T.lits.length -(T.beg.getD k 0).toNat))))):=by
 refine ic [] [.tmp 4] (h.set b (gA (cw T k))) (by simp) (λD=>by rw[Tt];exact dI (iS _ _) b D) aD Tryz.func131 ?_;obtain⟨a,G⟩:=SQ.1 F;have x:T.beg.getD k 0=T.beg[k]:=by rw[SS,SR hk];rfl
 rw[x]at h0⊢;obtain⟨m,C⟩:∃m:Nat,T.beg[k]=(m:Int):=⟨T.beg[k].toNat,by omega⟩;have M:cw T k=⟨(popN T (T.lits.length -m)).marks,(popN T (T.lits.length -m)).lits,T.beg.take k⟩:=by unfold cw;rw[x,C];rfl
 rw[M,C,Uc];rw[C]at h0;clear M;have B:=mM T;have A:∀n,bA h (n+1) b 0=bN T:=λn=>cW F n;simp only[bN]at B A;simp[K];refine am.introP (r:=.pv (BL true)) (by simpa[A]using B) ?_ (by simp[a]) (by simp);simp[G,a,gA,hk];refine am.intro (Gz h b) ?_;rintro _ _ ⟨rfl,rfl⟩;have E:h.set b (gA T)=h:=cN F;simp;refine ax.intro (S:=λ(j:Nat)=>⟨[(0,.pv (.ptr b 0)),(1,.pv (ab k)),(5,.pv (.fn (.func 265) [] [.ptr h.length 0])),(6,.own true 1 (ae (uh T j)))],h.set b (gA (popN T j))++[[.pv (.ptr b 0)]]⟩) (λj=>j<=T.lits.length -m) (λj=>T.lits.length -j) 0 ?_ (Tf _) ?_
 .rw[popN,E];exact(ah.nilOwn (s:=6) 1 true (by simp)).trans (ah.keep (by simp[uh,ae]) rfl)
 intro j hj;have u:(popN T j).lits.length=T.lits.length -j:=by rw[d6,S6];omega
 have g:=ug T j;have w:∀y∈(popN T j).lits,0<=af y∧af y<(popN T j).marks.length:=λy hy=>by
  rw[d6]at hy;rw[Eu];exact Q y (TV hy)
 have t:popN T (j+1)=lO (popN T j):=rfl;have q:uh T (j+1)=uh T j++[(popN T j).lits.getD ((popN T j).lits.length -1) 0]:=rfl;have P:=ui T j;have d:=λ(h:List (List SV)) (n b:Nat) h1 N O=>CO h n b (popN T j) h1 N O (by omega) w;have l:∀(Y z:List SV) D,(h.set b Y++[z])[b]'D=Y:=λY z D=>by rw[T5 (by simpa using a)];simp
 have o:∀(Y z:List SV),(h.set b Y++[z])[b]?=some Y:=λY z=>by rw[SZ (by simpa using a)];simp[a]
 have p:∀(Y z W:List SV),(h.set b Y++[z]).set b W=h.set b W++[z]:=λY z W=>by rw[xv (by simpa using a),Wy]
 have f:b<h.length+1:=by omega
 by_cases c:m<T.lits.length -j
 .have L:(popN T j).lits≠[]:=λe=>by rw[e]at u;simp at u;omega
  have i:(m:Int)<((popN T j).lits.length:Int):=by omega
  have d:=d (h.set b (gA (popN T j))++[[.pv (.ptr b 0)]]) h.length b (by rw[Tk (by simp)];simp) (o _ _) L;rw[p]at d;generalize popN T j=X at*;simp only[gA,g]at d;simp[l,f,gA,g,hk,C,i];refine am.intro d ?_;rintro _ _ ⟨rfl,rfl⟩;simp;refine⟨by omega,j+1,by(try dsimp only);omega,by(try dsimp only);omega,ah.keep (by simp[q,ae]) (by simp[t])⟩
 .have i:¬(m:Int)<((popN T j).lits.length:Int):=by omega
  have I:j=T.lits.length -m:=by omega
  subst I;have H:(ae T.beg).take k=ae (T.beg.take k):=by unfold ae;rw[UB]
  have J:k<=T.beg.length:=by omega
  clear d w t q;generalize popN T (T.lits.length -m)=X at*;simp[l,p,f,gA,g,hk,C,i,H,J]
end Go.AX
namespace Go.AX
set_option maxRecDepth 8000
open Go.Proofs
def fc(b:Bool):Int:=if b=true then 1 else 0
def dg(A:Ar)(id:Int)(lits:List Int)(b:Bool):Ar:=if jt id lits=0 then⟨A.row++([id,(lits.length:Int),fc b]++lits),pt A.hd A.row.length id⟩else A
theorem J2(h:List (List SV))(b:Nat)(A:Ar)(g:h[b]?=some (ja A))(id:Int)(lits:List Int)(ln:Bool)(k:lits.length<=1000000)(l:A.row.length<=1000000000):
 aA Tryz.prog 127 [.ptr b 0,ab id,.seq false 1 (ae lits),BL ln] h (λr h'=>h'=h.set b (ja (dg A id lits ln))∧r=.pv (.tup [ab (if jt id lits=0 then A.row.length else 0),ab (jt id lits)])):=by
 refine ic [] [.tmp 8,.tmp 9] (h.set b (ja (dg A id lits ln))) (by simp) (λi=>by rw[Tt];exact dI (tp _ _) b i) aD Tryz.func127 ?_;obtain⟨f,e⟩:=SQ.1 g;have d:jt id lits=if id<1∨10000000<id then 2 else fj lits 100000:=rfl;have c:dg A id lits ln=if jt id lits=0 then⟨A.row++([id,(lits.length:Int),fc ln]++lits),pt A.hd A.row.length id⟩else A:=rfl;have a:h.set b (ja A)=h:=cN g;generalize dg A id lits ln=j at c⊢;generalize jt id lits=E at d c⊢;simp;refine am.intro (pH h b A g) ?_;rintro _ _ ⟨rfl,rfl⟩
 by_cases c1:id<1
 .rw[SX (.inl c1)]at d;subst d;rw[SU (by omega)]at c;subst c;simp[c1,a]
 by_cases c2:10000000<id
 .rw[SX (.inr c2)]at d;subst d;rw[SU (by omega)]at c;subst c;simp[c1,c2,a]
 rw[SU (by omega)]at d;simp[c1,c2];refine ai.intro (tm lits 100000 (by omega)) ?_;rw[←d]
 by_cases c3:E=0
 rotate_left
 .rw[SU c3]at c;subst c;simp[c3,a]
 rw[SX c3]at c;subst c;cases ln
 .simp[c3,e,f,ja,fc];refine⟨by omega,by omega,?_⟩;rw[TT (by simp)];simp[ae]
 .simp[c3,e,f,ja,fc];refine⟨by omega,by omega,?_⟩;rw[TT (by simp)];simp[ae]
def As(A:Ar)(k:Int):Int:=if(lk A.hd k).getD 0=0 then 20 else 0
theorem My(h:List (List SV))(b:Nat)(A:Ar)(e:h[b]?=some (ja A))(k:Int):aA Tryz.prog 196 [.ptr b 0,ab k] h (λr h'=>h'=h∧r=.pv (ab (As A k))):=by
 refine gy [] [.tmp 4] aD Tryz.func196 ?_;obtain⟨d,a⟩:=SQ.1 e;simp;refine am.intro (pH h b A e) ?_;rintro _ _ ⟨rfl,rfl⟩;unfold As
 by_cases c:(lk A.hd k).getD 0=0
 .simp[a,d,ja,c]
 .simp[a,d,ja,c]
def rN(A:Ar)(k:Int):Ar:=if As A k=0 then⟨A.row.set (k.toNat+2) 2,dl A.hd k⟩else A
theorem J3(h:List (List SV))(b:Nat)(A:Ar)(d:h[b]?=some (ja A))(k:Int)(hk:As A k=0->0<=k∧k+2<A.row.length)(l:A.row.length<=1000000000):
 aA Tryz.prog 117 [.ptr b 0,ab k] h (λr h'=>h'=h.set b (ja (rN A k))∧r=.pv (ab (As A k))):=by
 refine ic [] [.tmp 4] (h.set b (ja (rN A k))) (by simp) (λg=>by rw[Tt];exact dI (tp _ _) b g) aD Tryz.func117 ?_;obtain⟨f,e⟩:=SQ.1 d;have a:h.set b (ja A)=h:=cN d;unfold rN;simp;refine am.intro (My h b A d k) ?_;rintro _ _ ⟨rfl,rfl⟩
 by_cases c:As A k=0
 .obtain⟨k0,m⟩:=hk c;obtain⟨p,rfl⟩:∃p:Nat,k=p:=⟨k.toNat,by omega⟩;have j:aX ((p:Int)+2)=((p+2:Nat):Int):=by rw[ao (by omega) (by omega)];omega
  have hp:p+2<A.row.length:=by omega
  have i:((p:Int)+2).toNat=p+2:=by omega
  have g2:A.row[p+2]?=some A.row[p+2]:=SR hp;simp[c,e,f,ja,j,hp,i,g2,ae];refine⟨by omega,?_⟩;rw[TT (by simp)]
 .simp[c,a]
def oZ(A:Ar)(k:Int):Bool:=isA A k&&decide (A.row.getD (k.toNat+2) 0=1)
theorem CP(h:List (List SV))(b:Nat)(A:Ar)(e:h[b]?=some (ja A))(k:Int)(hk:isA A k=true->0<=k∧k+2<A.row.length)(i:A.row.length<=1000000000):
 aA Tryz.prog 193 [.ptr b 0,ab k] h (λr h'=>h'=h∧r=.pv (BL (oZ A k))):=by
 refine gy [] [.tmp 4] aD Tryz.func193 ?_;obtain⟨d,a⟩:=SQ.1 e;unfold oZ;simp;refine am.intro (Cb h b A e k) ?_;rintro _ _ ⟨rfl,rfl⟩;cases c:isA A k
 .simp[c]
 .obtain⟨k0,j⟩:=hk c;obtain⟨p,rfl⟩:∃p:Nat,k=p:=⟨k.toNat,by omega⟩;have g:aX ((p:Int)+2)=((p+2:Nat):Int):=by rw[ao (by omega) (by omega)];omega
  have hp:p+2<A.row.length:=by omega
  have f:((p:Int)+2).toNat=p+2:=by omega
  have g2:A.row[p+2]?=some A.row[p+2]:=SR hp;simp[c,a,d,ja,g,hp,f,g2];omega
def J4(v:Int)(b:Bool):Int:=if v<1∨cF v=false then 0 else if b=true then v else-v
def Q5(v:Int):Int:=if v<1∨cF v=false then 10 else 0
theorem J5(v:Int)(b:Bool):aj Tryz.prog 102 [ab v,BL b] (λr=>r=.pv (.tup [ab (J4 v b),ab (Q5 v)])):=by
 refine iO [] [.tmp 4,.tmp 5] aD Tryz.func102 ?_;have c:=td v;unfold J4 Q5
 by_cases c1:v<1
 .simp[c1];refine bf.intro (r:=.pv (BL true)) (λh=>h.elim) ?_;simp[c1]
 .simp[c1];refine bf.intro (λ_=>c) ?_;cases c2:cF v
  .simp[c1,c2]
  .obtain⟨h1,d,e⟩:=(aY v).1 c2;have a:aX (-v)=-v:=ao (by omega) (by omega);cases b<;>simp[c1,c2,a]
end Go.AX
namespace Go.AX.V
open Go.Proofs
theorem litO{y:Int}(h:cF y=true):y≠0∧-100000<=y∧y<=100000∧0<=aV y∧aX (-y)=-y:=by
 obtain⟨a,b,c⟩:=(aY y).1 h;exact⟨a,b,c,by rw[lA];exact h,ao (by omega) (by omega)⟩
theorem p8{l:Int}(h:cF l=true):1<=af l∧af l<=100000∧l≠0∧-100000<=l∧l<=100000∧af l=c9 l:=by
 obtain⟨a,b,c⟩:=(aY l).1 h;have e:af l=c9 l:=by unfold af;rw[SX h]
 refine⟨?_,?_,a,b,c,e⟩<;>rw[e]<;>unfold c9<;>split<;>omega
theorem ur{l:Int}(h:cF l=true):cF (-l)=true:=by
 obtain⟨a,b,c⟩:=(aY l).1 h;exact(aY _).2 ⟨by omega,by omega,by omega⟩
theorem Q6{y:Int}(h:cF y=true):cF y=true:=h
theorem okL_chk{l v:Int}(d:0<=v∧v<=100000)(h:aw l v=0):cF l=true:=by
 obtain⟨a,b,c⟩:=(df d).1 h;exact(aY _).2 ⟨a,by omega,by omega⟩
structure RelT (T:Tr) (t:RT):Prop where
  vars:0<=t.vars∧t.vars<=100000
  len:(T.marks.length:Int)=t.vars+1
  lits:T.lits=t.rows.map (·.l)
  dep:t.dep=(T.beg.length:Int)
  chk:∀x∈t.rows,aw x.l t.vars=0
  ok:∀x∈t.rows,cF x.l=true∧0<=x.lev∧x.lev<=t.dep
  free:∀v:Int,qx t v<0->(bG T v).v=0
  mark:∀(v:Int)(i:Nat)(hi:i<t.rows.length),qx t v=(i:Int)->bG T v=⟨if t.rows[i].l<0 then-1 else 1,t.rows[i].lev,t.rows[i].rea,i⟩
theorem RelT.okT{T:Tr}{t:RT}(h:RelT T t):T.ok:=by
 have:=h.vars;have:=h.len;exact⟨by omega,by omega⟩
def RelD(T:Tr)(t:RT):Prop:=RelT T t∧T.beg.length<=t.rows.length
theorem yc{T:Tr}{t:RT}(h:RelT T t)(v:Int):(dw T v).1.lev=(QI t v).1∧(dw T v).1.rea=(QI t v).2∧(dw T v).1.pla=qx t v:=by
 unfold dw QI;have g:=h.len;have j:=h.vars
 by_cases c:qx t v<0
 .rw[SX c,SX]
  .refine⟨rfl,rfl,?_⟩;have:qx t v=-1:=by
    unfold qx iP at*;split at c
    .omega
    .rfl
   rw[this]
  .exact .inr (.inr (h.free v c))
 .obtain⟨i,hi,d,f⟩:=lw (t:=t) (v:=v) (by omega);obtain⟨a,_⟩:=p8 (h.ok _ (S5 hi)).1;have b:=(pB h.vars (h.chk _ (S5 hi))).2.1;have e:=h.mark v i hi d;rw[SU c,SU,e,d]
  .simp[hi]
  .rw[e];simp only;have:(if t.rows[i].l<0 then(-1:Int)else 1)≠0:=by split<;>omega
   simp[this];omega
theorem Kl{D:DK}(h:RelT D.T D.t){l:Int}{i:Nat}(hi:i<D.t.rows.length)(e:D.t.rows[i].l=l∨D.t.rows[i].l=-l):aw l D.t.vars=0:=by
 have a:=(df h.vars).1 (h.chk _ (S5 hi));exact(df h.vars).2 (by rcases e with e|e<;>omega)
theorem sk{D:DK}(h:RelT D.T D.t){l:Int}(k:cF l=true){i:Nat}(hi:i<D.t.rows.length)(hp:qx D.t (af l)=i):(D.t.rows[i].l=-l∧cm D.T l=-1)∨(D.t.rows[i].l=l∧cm D.T l=1):=by
 have c:((D.T.marks.length:Nat):Int) -1=D.t.vars:=by rw[h.len];omega
 have f:=h.mark _ i hi hp;obtain⟨j,hj,q,a⟩:=lw (t:=D.t) (v:=af l) (by omega);have d:j=i:=by omega
 subst d;obtain⟨_,_,r,_,_,m⟩:=p8 (h.ok _ (S5 hi)).1;obtain⟨_,_,l0,_,_,n⟩:=p8 k;rw[m,n]at a;have hs:D.t.rows[j].l=l∨D.t.rows[j].l=-l:=by unfold c9 at a;split at a<;>split at a<;>omega
 unfold cm;rw[c,f,SU (λe=>e (Kl h hi hs))];unfold c9 at a;dsimp only;have o:aX (-1)=-1:=by decide
 have p:aX (- -1)=1:=by decide
 by_cases g:l<0
 .rw[SX g]at a⊢
  by_cases b:D.t.rows[j].l<0
  .rw[SX b]at a⊢;rw[p];exact .inr ⟨by omega,rfl⟩
  .rw[SU b]at a⊢;rw[o];exact .inl ⟨by omega,rfl⟩
 .rw[SU g]at a⊢
  by_cases b:D.t.rows[j].l<0
  .rw[SX b]at a⊢;exact .inl ⟨by omega,rfl⟩
  .rw[SU b]at a⊢;exact .inr ⟨by omega,rfl⟩
theorem wB{D:DK}(h:RelT D.T D.t){l:Int}(a:cm D.T l≠0):cF l=true∧∃i,∃hi:i<D.t.rows.length,qx D.t (af l)=i:=by
 have b:((D.T.marks.length:Nat):Int) -1=D.t.vars:=by rw[h.len];omega
 unfold cm at a;rw[b]at a
 by_cases c:aw l D.t.vars=0
 .refine⟨okL_chk h.vars c,?_⟩;rw[SU (λe=>e c)]at a
  by_cases d:0<=qx D.t (af l)
  .obtain⟨i,hi,e,_⟩:=lw d;exact⟨i,hi,e⟩
  .rw[h.free _ (by omega)]at a;have f:aX (-0)=0:=by decide
   split at a
   .exact absurd f a
   .exact absurd rfl a
 .rw[SX c]at a;exact absurd rfl a
def DkR(D:DK):Prop:=∀i (hi:i<D.t.rows.length),D.t.rows[i].rea<0∨(isA D.A D.t.rows[i].rea=true∧D.t.rows[i].l∈av D.A D.t.rows[i].rea∧∀y∈av D.A D.t.rows[i].rea,cF y=true∧(y≠D.t.rows[i].l->aX (-y)∈(D.t.rows.take i).map (·.l)))
structure DeskOk (D:DK):Prop where
  rel:RelD D.T D.t
  relA:RelA D.A D.a
  rea:DkR D
  len:D.A.row.length<=1000000
theorem Km{D:DK}(h:RelT D.T D.t){v:Int}(a:0<=(dw D.T v).1.rea):∃i,∃hi:i<D.t.rows.length,qx D.t v=i∧af D.t.rows[i].l=v∧(dw D.T v).1.rea=D.t.rows[i].rea∧(dw D.T v).1.pla=i:=by
 obtain⟨_,d,e⟩:=yc h v;rw[d]at a⊢;unfold QI at a⊢
 by_cases c:qx D.t v<0
 .rw[SX c]at a;dsimp only at a;omega
 .obtain⟨i,hi,b,f⟩:=lw (t:=D.t) (v:=v) (by omega);refine⟨i,hi,b,f,?_,by rw[e,b]⟩;rw[SU c,b,Uc,SS,SR hi];rfl
theorem DeskOk.sh{D:DK}(h:DeskOk D){c:List Int}(d:c.length<=1000000):ShOk D.A D.T c where
 tr:=h.rel.1.okT
 ar:=λq f=>by
  obtain⟨x,hx,e⟩:=h.relA.is q f;obtain⟨p,a,b,_⟩:=h.relA.rows x hx;exact⟨p,_,by rw[←e,a],b⟩
 len:=h.len
 few:=d
 hd:=λv g=>by
  obtain⟨i,hi,_,_,e,_⟩:=Km h.rel.1 g;rcases h.rea i hi with h1|⟨h1,_⟩
  .omega
  .exact Cm h1
theorem Og{D:DK}(h:DeskOk D){l:Int}(a:pM D.A D.T l=true):∃i,∃hi:i<D.t.rows.length,cz D.T l=i∧D.t.rows[i].l=aX (-l)∧cF l=true∧(dw D.T (af l)).1.rea=D.t.rows[i].rea∧0<=D.t.rows[i].rea:=by
 unfold pM at a;simp only[TU,Vp,Un]at a;obtain⟨⟨b1,b2⟩,_⟩:=a;obtain⟨i,hi,c,g,d,f⟩:=Km h.rel.1 (v:=af l) (by omega);obtain⟨b,_⟩:=wB h.rel.1 (l:=l) (by omega);refine⟨i,hi,f,?_,b,d,by omega⟩;rw[(litO b).2.2.2.2];rcases sk h.rel.1 b hi c with⟨e,_⟩|⟨_,e⟩
 .exact e
 .omega
theorem val3_m1_of{l:List Int}{y:Int}(hy:cF y=true)(h:-y∈l)(a:y∉l):bK l y=-1:=by
 obtain⟨_,_,_,hx,b⟩:=litO hy;unfold bK;rw[SU (by omega),SU a,SX (by rw[b];exact h)]
structure TraF (cs:List (List Int)) (ats:List Int) (t:RT):Prop where
  dep:0<=t.dep
  chk:∀x∈t.rows,cF x.l=true
  nd:(t.rows.map λx=>af x.l).Nodup
  lev:∀x∈t.rows,0<=x.lev∧x.lev<=t.dep
  mono:∀i j (hi:i<t.rows.length)(hj:j<t.rows.length),i<j->t.rows[i].lev<=t.rows[j].lev
  dec:∀i (hi:i<t.rows.length),t.rows[i].rea<0->0<t.rows[i].lev∧∀j (hj:j<t.rows.length),j<i->t.rows[j].lev<t.rows[i].lev
  top:0<t.dep->Calm cs (bel t t.dep)
  fst:∀k:Int,0<k->k<=t.dep->∃x∈t.rows,x.lev=k∧x.rea<0
  imp:∀i (hi:i<t.rows.length),0<=t.rows[i].rea->∃k,∃hk:k<cs.length,t.rows[i].rea=ats.getD k 0∧t.rows[i].l∈cs[k]∧(∀y∈cs[k],y≠t.rows[i].l->∃j,∃hj:j<t.rows.length,j<i∧t.rows[j].l=-y)∧
    (0<t.rows[i].lev->∃y∈cs[k],y≠t.rows[i].l∧∃j,∃hj:j<t.rows.length,j<i∧t.rows[j].l=-y∧t.rows[j].lev=t.rows[i].lev)
theorem TraF.inj{cs:List (List Int)}{ats:List Int}{t:RT}(h:TraF cs ats t){i j:Nat}(hi:i<t.rows.length)(hj:j<t.rows.length)(e:af t.rows[i].l=af t.rows[j].l):i=j:=by
 have hn:=TB.1 (Ux.1 h.nd);rcases UD i j with c|c|c
 .exact absurd e (hn i j hi hj c)
 .exact c
 .exact absurd e.symm (hn j i hj hi c)
theorem TraF.one{cs:List (List Int)}{ats:List Int}{t:RT}(h:TraF cs ats t){y:Int}(hy:cF y=true):¬(y∈dL t∧-y∈dL t):=by
 rintro⟨h1,d⟩;unfold dL at h1 d;obtain⟨a,g,e⟩:=S8.1 h1;obtain⟨b,k,f⟩:=S8.1 d;obtain⟨i,hi,rfl⟩:=Tc g;obtain⟨j,hj,rfl⟩:=Tc k;have m:af t.rows[i].l=af t.rows[j].l:=by rw[e,f,dD]
 have c:i=j:=h.inj hi hj m;subst c;obtain⟨n0,_⟩:=litO hy;omega
structure ClsN (cs:List (List Int)) (ats:List Int):Prop where
  len:∀c∈cs,c.length<=1000
  chk:∀c∈cs,∀y∈c,cF y=true
  pos:∀k,k<cs.length->0<=ats.getD k 0
  nd:∀c∈cs,c.Nodup
theorem Kn{cs:List (List Int)}{ats:List Int}(o:ClsN cs ats){t:RT}(h:TraF cs ats t){c:List Int}(m:c∈cs)(k:zy (dL t) c=-1)(hd:0<t.dep):∃y∈c,∃x∈t.rows,x.l=-y∧x.lev=t.dep:=by
 apply Ts;intro j;have b:=(h.top hd _ m).2;apply b;rw[mQ]at k⊢;intro y hy hx;have d:=o.chk _ m y hy;have:=xL (k y hy hx);rw[(litO d).2.2.2.2]at this;unfold dL at this;obtain⟨a,g,e⟩:=S8.1 this;have p:=(h.lev _ g).2;have i:a.lev<t.dep:=by
  rcases Wz a.lev t.dep with c|c
  .exact c
  .exact absurd ⟨y,hy,a,g,e,by omega⟩ j
 have f:-y∈bel t t.dep:=by
  unfold bel;rw[S8];exact⟨a,TJ.2 ⟨g,by simpa using i⟩,e⟩
 exact val3_m1_of d f (λn=>h.one d ⟨gJ _ n,gJ _ f⟩)
structure DeskT (cs:List (List Int)) (ats:List Int) (D:DK):Prop where
  ok:DeskOk D
  cls:ClsN cs ats
  facts:TraF cs ats D.t
  ars:∀k (hk:k<cs.length),isA D.A (ats.getD k 0)=true∧av D.A (ats.getD k 0)=cs[k]
theorem TraF.pla{cs:List (List Int)}{ats:List Int}{t:RT}(h:TraF cs ats t){j:Nat}(hj:j<t.rows.length):qx t (af t.rows[j].l)=j:=by
 have h1:=xM (p:=λx:En=>decide (af x.l=af t.rows[j].l)) hj (by simp);obtain⟨i,hi,a,b⟩:=lw (t:=t) (v:=af t.rows[j].l) h1.1;have:=h.inj hi hj b;subst this;exact a
theorem oe{cs:List (List Int)}{ats:List Int}{T:Tr}{t:RT}(d:RelT T t)(h:TraF cs ats t){j:Nat}(hj:j<t.rows.length):(dw T (af t.rows[j].l)).1.lev=t.rows[j].lev∧(dw T (af t.rows[j].l)).1.rea=t.rows[j].rea∧(dw T (af t.rows[j].l)).1.pla=j:=by
 obtain⟨a,b,c⟩:=yc d (af t.rows[j].l);have hp:=h.pla hj;rw[a,b,c];unfold QI;rw[hp,SU (by omega),Uc,SS,SR hj];exact⟨rfl,rfl,rfl⟩
theorem o4{cs:List (List Int)}{ats:List Int}{T:Tr}{t:RT}(a:RelT T t)(h:TraF cs ats t){j:Nat}(hj:j<t.rows.length){y:Int}(hy:t.rows[j].l=-y):dQ T y=t.rows[j].lev:=by
 unfold dQ;rw[qB hj hy];exact(oe a h hj).1
theorem MG{cs:List (List Int)}{ats:List Int}{T:Tr}{t:RT}(r:RelT T t)(k:TraF cs ats t){p:PS}{n:Nat}(h:LI t p n){y:Int}{j:Nat}(hj:j<t.rows.length)(hy:t.rows[j].l=-y)
 (hn:t.rows[j].lev=t.dep->j<n∨t.rows[j].rea<0) (but:Int):
 LI t (takeF T but p y) n∧(af y=but∨t.rows[j].lev<=0∨aB (takeF T but p y).seen (af y)=true)∧(∀v,aB p.seen v=true->aB (takeF T but p y).seen v=true)∧p.many<=(takeF T but p y).many:=by
 have u:=o4 r k hj hy;have d:=qB hj hy;have hd:=r.dep;unfold takeF
 by_cases c:af y=but∨aB p.seen (af y)=true∨dQ T y<=0
 .rw[SX c];refine⟨h,?_,λv d=>d,SY _⟩;rcases c with c|c|c
  .exact .inl c
  .exact .inr (.inr c)
  .exact .inr (.inl (by omega))
 rw[SU c];have q:aB p.seen (af y)=false:=by
  cases e:aB p.seen (af y)
  .rfl
  .exact absurd (.inr (.inl e)) c
 have f:0<t.rows[j].lev:=by
  rcases Wz 0 t.rows[j].lev with e|e
  .exact e
  .exact absurd (.inr (.inr (by omega))) c
 have s:=(k.lev _ (S5 hj)).2
 by_cases c2:dQ T y=T.beg.length
 .rw[SX c2];have hs:∀w,aB (pt p.seen (af y) 1) w=if af y=w then true else aB p.seen w:=λw=>by rw[nA];simp
  refine⟨⟨?_,h.li,?_,?_⟩,.inr (.inr (by rw[hs,SX rfl])),λv d=>by rw[hs];split<;>simp[d],Vt _⟩
  .intro v b;rw[hs]at b;split at b
   .rename_i e;exact⟨j,hj,by rw[←d,e],f,hn⟩
   .exact h.sn v b
  .intro i hi a g;rw[hs]at a;split at a
   .rename_i e;have:=k.inj hj hi (d.symm.trans e);subst this;omega
   .exact h.ls i hi a g
  .dsimp only;rw[h.mn];symm;apply oQ hj
   .rw[←d,q];rfl
   .rw[←d,hs,SX rfl];simp;omega
   .intro i hi o;rw[hs,SU];intro e;exact o (k.inj hi hj (e.symm.trans d))
 .rw[SU c2];have hs:∀w,aB (pt p.seen (af y) 1) w=if af y=w then true else aB p.seen w:=λw=>by rw[nA];simp
  refine⟨⟨?_,?_,?_,?_⟩,.inr (.inr (by rw[hs,SX rfl])),λv d=>by rw[hs];split<;>simp[d],SY _⟩
  .intro v b;rw[hs]at b;split at b
   .rename_i e;exact⟨j,hj,by rw[←d,e],f,hn⟩
   .exact h.sn v b
  .intro l m;rcases Te.1 m with m|m
   .exact h.li l m
   .simp at m;subst m;exact⟨j,hj,hy,f,by omega⟩
  .intro i hi a g;rw[hs]at a;split at a
   .rename_i e;have:=k.inj hj hi (d.symm.trans e);subst this;rw[hy];simp
   .exact Up _ (h.ls i hi a g)
  .dsimp only;rw[h.mn];apply List.countP_congr;intro x hx;rw[hs];split
   .rename_i e;obtain⟨i,hi,rfl⟩:=Tc hx;have:=k.inj hj hi (d.symm.trans e);subst this;have:¬t.rows[j].lev=t.dep:=by omega
    simp[this]
   .rfl
theorem ut{cs:List (List Int)}{ats:List Int}{T:Tr}{t:RT}(f:RelT T t)(d:TraF cs ats t){n:Nat}(but:Int):∀(c:List Int)(p:PS),LI t p n->
 (∀y∈c,af y=but∨∃j,∃hj:j<t.rows.length,t.rows[j].l=-y∧(t.rows[j].lev=t.dep->j<n∨t.rows[j].rea<0))->
 LI t (dt T but c p) n∧(∀y∈c,af y=but∨dQ T y<=0∨aB (dt T but c p).seen (af y)=true)∧(∀v,aB p.seen v=true->aB (dt T but c p).seen v=true)∧p.many<=(dt T but c p).many
 |[],p,h,_=>⟨h,by simp,λ_ b=>b,SY _⟩
 |y::c,p,h,g=>by
  have key:LI t (takeF T but p y) n∧(af y=but∨dQ T y<=0∨aB (takeF T but p y).seen (af y)=true)∧(∀v,aB p.seen v=true->aB (takeF T but p y).seen v=true)∧p.many<=(takeF T but p y).many:=by
   rcases g y (To ..)with e|⟨j,hj,hy,hn⟩
   .have:takeF T but p y=p:=by unfold takeF;rw[SX (.inl e)]
    rw[this];exact⟨h,.inl e,λ_ b=>b,SY _⟩
   .have:=MG f d h hj hy hn but;rw[←o4 f d hj hy]at this;exact this
  obtain⟨m,a,o,q⟩:=key;obtain⟨i,g2,g3,k⟩:=ut f d but c (takeF T but p y) m (λz hz=>g z (Tl _ hz));have e:dt T but (y::c) p=dt T but c (takeF T but p y):=rfl;rw[e];refine⟨i,?_,λv b=>g3 v (o v b),TD q k⟩;intro z hz;rcases Tx.1 hz with rfl|hz
  .rcases a with a|a|a
   .exact .inl a
   .exact .inr (.inl a)
   .exact .inr (.inr (g3 _ a))
  .exact g2 z hz
theorem MH{cs:List (List Int)}{ats:List Int}{t:RT}(q:TraF cs ats t){p:PS}{n:Nat}(h:LI t p (n+1))(hn:n<t.rows.length)(hs:aB p.seen (af t.rows[n].l)=true)(hd:t.rows[n].lev=t.dep):
 LI t ⟨pt p.seen (af t.rows[n].l) 0,p.lits,p.many -1⟩ n:=by
 have a:∀w,aB (pt p.seen (af t.rows[n].l) 0) w=if af t.rows[n].l=w then false else aB p.seen w:=λw=>by rw[nA];simp
 refine⟨?_,h.li,?_,?_⟩
 .intro v d;rw[a]at d;split at d
  .cases d
  .rename_i e;obtain⟨j,hj,g,k,m⟩:=h.sn v d;refine⟨j,hj,g,k,λhd=>(m hd).imp (λc=>?_) id⟩;have:j≠n:=λo=>by subst o;exact e g
   omega
 .intro j hj b c;rw[a]at b;split at b
  .cases b
  .exact h.ls j hj b c
 .dsimp only; rw [h.mn]; have := oQ (l := t.rows) (P := λ x => aB (pt p.seen (af t.rows[n].l) 0) (af x.l) && decide (x.lev = t.dep)) (Q := λ x => aB p.seen (af x.l) && decide (x.lev = t.dep)) hn (by
   rw[a,SX rfl];rfl) (by rw[hs];simp[hd]) (λi hi f=>by
   rw[a,SU];intro e;exact f (q.inj hi hn e.symm))
  rw[this];omega
theorem da{cs:List (List Int)}{ats:List Int}{D:DK}(h:DeskT cs ats D){n:Nat}(hn:n<D.t.rows.length)(i:0<=D.t.rows[n].rea):isA D.A D.t.rows[n].rea=true∧D.t.rows[n].l∈av D.A D.t.rows[n].rea∧
 ∀y∈av D.A D.t.rows[n].rea,cF y=true∧(y≠D.t.rows[n].l->∃j,∃hj:j<D.t.rows.length,j<n∧D.t.rows[j].l=-y):=by
 rcases h.ok.rea n hn with h1|⟨h1,d,f⟩
 .omega
 .refine⟨h1,d,λy hy=>?_⟩;obtain⟨c,g⟩:=f y hy;refine⟨c,λb=>?_⟩;have:=g b;rw[(litO c).2.2.2.2,S8]at this;obtain⟨x,hx,e⟩:=this;obtain⟨j,hj,rfl⟩:=Tc hx;have a:j<n∧j<D.t.rows.length:=by simp at hj;omega
  refine⟨j,a.2,a.1,?_⟩;rw[←e];simp
theorem Ko{cs:List (List Int)}{ats:List Int}{D:DK}(h:DeskT cs ats D){p:PS}{n:Nat}(hi:LI D.t p (n+1))(hn:n<D.t.rows.length)(hp:nY D.T p D.t.rows[n].l=true):
 LI D.t (oP D.A D.T p D.t.rows[n].l) n∧p.many -1<=(oP D.A D.T p D.t.rows[n].l).many∧
  (∀j (hj:j<D.t.rows.length),j≠n->aB p.seen (af D.t.rows[j].l)=true->aB (oP D.A D.T p D.t.rows[n].l).seen (af D.t.rows[j].l)=true)∧
  (∀y∈av D.A D.t.rows[n].rea,y≠D.t.rows[n].l->dQ D.T y<=0∨aB (oP D.A D.T p D.t.rows[n].l).seen (af y)=true):=by
 have b:=h.facts;have g:=h.ok.rel.1;unfold nY dQ at hp;obtain⟨q,k,u⟩:=oe g b hn;rw[q,k]at hp;simp only[S9,Th]at hp;obtain⟨r,v,s⟩:=hp;have hd:=g.dep;have h1:=MH b hi hn r (by omega);obtain⟨w,x,r3⟩:=da h hn s;have d:oP D.A D.T p D.t.rows[n].l=dt D.T (af D.t.rows[n].l) (av D.A D.t.rows[n].rea) ⟨pt p.seen (af D.t.rows[n].l) 0,p.lits,p.many -1⟩:=by
  unfold oP;rw[k]
 obtain ⟨m, g2, g3, o⟩ := ut g b (af D.t.rows[n].l) (av D.A D.t.rows[n].rea) _ h1 (λ y hy => by
  by_cases e:y=D.t.rows[n].l
  .exact .inl (by rw[e])
  .obtain⟨j,hj,c,f⟩:=(r3 y hy).2 e;exact .inr ⟨j,hj,f,λ_=>.inl c⟩)
 rw[d];refine⟨m,o,λj hj a i=>?_,λy hy a=>?_⟩
 .apply g3;rw[nA,SU]
  .exact i
  .intro e;exact a (b.inj hj hn e.symm)
 .rcases g2 y hy with e|e|e
  .exfalso;obtain⟨j,hj,c,f⟩:=(r3 y hy).2 a;rw[qB hj f]at e;have:=b.inj hj hn e;omega
  .exact .inl e
  .exact .inr e
theorem EO{t:RT}{T:Tr}{cs:List (List Int)}{ats:List Int}(b:RelT T t)(i:TraF cs ats t){p:PS}{n:Nat}(h:LI t p (n+1))(hn:n<t.rows.length)(hp:¬nY T p t.rows[n].l=true):LI t p n:=by
 refine⟨λv d=>?_,h.li,h.ls,h.mn⟩;obtain⟨j,hj,a,f,g⟩:=h.sn v d;refine⟨j,hj,a,f,λhd=>?_⟩;rcases g hd with e|e
 .by_cases c:j=n
  .subst c;right;apply Ts;intro o;apply hp;unfold nY dQ;obtain⟨k,m,q⟩:=oe b i hj;rw[k,m,a,d];have:=b.dep;simp only[S9,Th,true_and];omega
  .left;omega
 .exact .inr e
theorem MI{t:RT}{cs:List (List Int)}{ats:List Int}(d:TraF cs ats t){p:PS}(h:LI t p 0):p.many<=1:=by
 apply Ts;intro m;have k:2<=t.rows.countP (λx=>aB p.seen (af x.l)&&decide (x.lev=t.dep)):=by rw[←h.mn];omega
 obtain⟨i,j,hi,hj,a,o,c⟩:=tC k;simp only[S9,Th]at o c;obtain⟨n,b,f,q,g⟩:=h.sn _ c.1;have:=d.inj b hj f;subst this;rcases g c.2 with e|e
 .omega
 .have:=(d.dec n hj e).2 i hi a;omega
theorem CX{T:Tr}{t:RT}(a:RelT T t){n:Nat}(hn:n<t.rows.length):T.lits.getD n 0=t.rows[n].l:=by
 rw[a.lits,SS,Tm,SR hn];rfl
theorem yd{cs:List (List Int)}{ats:List Int}{D:DK}(h:DeskT cs ats D):∀(n:Nat)(p:PS),n<=D.t.rows.length->LI D.t p n->
 (∃m,LI D.t (cE D.A D.T D.T.lits n p) m)∧(cE D.A D.T D.T.lits n p).many<=1∧(1<=p.many->1<=(cE D.A D.T D.T.lits n p).many)
 |0,p,_,hi=>⟨⟨0,hi⟩,MI h.facts hi,λe=>e⟩
 |n+1,p,hn,hi=>by
  rw[cE];split
  .exact⟨⟨_,hi⟩,by assumption,λe=>e⟩
  rename_i c;have a:n<D.t.rows.length:=by omega
  rw[CX h.ok.rel.1 a];split
  .rename_i hp;obtain⟨b,g2,_⟩:=Ko h hi a hp;obtain⟨d,f,g⟩:=yd h n _ (by omega) b;exact⟨d,f,λ_=>g (by omega)⟩
  .rename_i hp;exact yd h n p (by omega) (EO h.ok.rel.1 h.facts hi a hp)
theorem Kp{cs:List (List Int)}{ats:List Int}{D:DK}(h:DeskT cs ats D){j:Nat}(hj:j<D.t.rows.length):cm D.T (-D.t.rows[j].l)=-1∧cm D.T D.t.rows[j].l=1:=by
 have b:=h.facts;have a:=b.chk _ (S5 hj);have hp:=b.pla hj;obtain⟨n0,c,d,_⟩:=litO a;constructor
 .rcases sk h.ok.rel.1 (ur a) hj (by rw[dD];exact hp)with⟨_,e⟩|⟨e,_⟩
  .exact e
  .omega
 .rcases sk h.ok.rel.1 a hj hp with⟨e,_⟩|⟨_,e⟩
  .omega
  .exact e
theorem CY{cs:List (List Int)}{ats:List Int}{D:DK}(h:DeskT cs ats D){R:List Int}{j:Nat}(hj:j<D.t.rows.length)(c:0<=D.t.rows[j].rea)(hy:∀y∈av D.A D.t.rows[j].rea,y≠D.t.rows[j].l->HOk D.A D.T R y):HOk D.A D.T R (-D.t.rows[j].l):=by
 obtain⟨f,b,g⟩:=oe h.ok.rel.1 h.facts hj;obtain⟨e,i,r3⟩:=da h hj c;refine .why (by rw[(Kp h hj).1];omega) ?_ ?_ ?_
 .rw[dD,b];exact c
 .rw[dD,b];exact e
 .rw[dD,b];intro y d a;exact hy y d (by rw[Vc]at a;exact a)
theorem ye{cs:List (List Int)}{ats:List Int}{D:DK}(h:DeskT cs ats D)(R:List Int):∀(n j:Nat)(hj:j<D.t.rows.length),j<n->D.t.rows[j].lev<=0->HOk D.A D.T R (-D.t.rows[j].l)
 |0,_,_,hn,_=>by omega
 |n+1,j,hj,hn,f=>by
  have c:=h.facts;have d:0<=D.t.rows[j].rea:=by
   rcases Wz D.t.rows[j].rea 0 with e|e
   .have:=(c.dec j hj e).1;omega
   .exact e
  refine CY h hj d λy hy b=>?_;obtain⟨i,hi,a,e⟩:=((da h hj d).2.2 y hy).2 b;have g:=c.mono i j hi hj a;have:=ye h R n i hi (by omega) (by omega);rw[iX hi e];exact this
theorem Np{cs:List (List Int)}{ats:List Int}{D:DK}(h:DeskT cs ats D){p:PS}{R:List Int}(a:Fr D p R){j:Nat}(hj:j<D.t.rows.length){y:Int}(hy:D.t.rows[j].l=-y)(hs:dQ D.T y<=0∨aB p.seen (af y)=true):HOk D.A D.T R y:=by
 have b:=o4 h.ok.rel.1 h.facts hj hy;rw[iX hj hy];rcases hs with e|e
 .exact ye h R (j+1) j hj (by omega) (by omega)
 .rw[qB hj hy]at e;exact a j hj e
theorem yf{cs:List (List Int)}{ats:List Int}{D:DK}(h:DeskT cs ats D){R:List Int}:∀(n:Nat)(p:PS),n<=D.t.rows.length->LI D.t p n->Fr D (cE D.A D.T D.T.lits n p) R->Fr D p R
 |0,p,_,_,a=>a
 |n+1,p,hn,hi,a=>by
  rw[cE]at a;split at a
  .exact a
  have b:n<D.t.rows.length:=by omega
  rw[CX h.ok.rel.1 b]at a;split at a
  .rename_i hp;obtain⟨l,g2,g3,m⟩:=Ko h hi b hp;have g:=yf h n _ (by omega) l a;intro j hj hs
   by_cases e:j=n
   .subst e;obtain⟨q,o,r⟩:=oe h.ok.rel.1 h.facts hj;have f:0<=D.t.rows[j].rea:=by
     unfold nY at hp;rw[o]at hp;simp only[S9,Th]at hp;exact hp.2.2
    refine CY h hj f λy hy c=>?_;obtain⟨i,d,_,k⟩:=((da h hj f).2.2 y hy).2 c;exact Np h g d k (m y hy c)
   .exact g j hj (g3 j hj e hs)
  .rename_i hp;exact yf h n p (by omega) (EO h.ok.rel.1 h.facts hi b hp) a
structure Conf (D:DK) (con:Int):Prop where
  is:isA D.A con=true
  neg:∀y∈av D.A con,cF y=true∧∃j,∃hj:j<D.t.rows.length,D.t.rows[j].l=-y
  top:0<D.t.dep->∃y∈av D.A con,∃j,∃hj:j<D.t.rows.length,D.t.rows[j].l=-y∧D.t.rows[j].lev=D.t.dep
theorem conf_at{cs:List (List Int)}{ats:List Int}{D:DK}(h:DeskT cs ats D){k:Nat}(hk:k<cs.length)(c:zy (dL D.t) cs[k]=-1):Conf D (ats.getD k 0):=by
 obtain⟨f,d⟩:=h.ars k hk;have e:=S5 hk;refine⟨f,?_,?_⟩
 .rw[d];intro y hy;have a:=h.cls.chk _ e y hy;refine⟨a,?_⟩;rw[mQ]at c;have:=xL (c y hy (litO a).2.2.2.1);rw[(litO a).2.2.2.2]at this;unfold dL at this;obtain⟨x,hx,b⟩:=S8.1 this;obtain⟨j,hj,rfl⟩:=Tc hx;exact⟨j,hj,b⟩
 .rw[d];intro hd;obtain⟨y,hy,x,hx,b,g⟩:=Kn h.cls h.facts e c hd;obtain⟨j,hj,rfl⟩:=Tc hx;exact⟨y,hy,j,hj,b,g⟩
theorem Oh{cs:List (List Int)}{ats:List Int}{D:DK}(h:DeskT cs ats D){con:Int}(a:Conf D con):
 LI D.t (ii D.A D.T con) D.t.rows.length∧(∀y∈av D.A con,dQ D.T y<=0∨aB (ii D.A D.T con).seen (af y)=true)∧(0<D.t.dep->1<=(ii D.A D.T con).many):=by
 obtain ⟨d, g2, _, _⟩ := ut h.ok.rel.1 h.facts 0 (av D.A con) _ (N2 D.t D.t.rows.length) (λ y hy => by
  obtain⟨_,j,hj,e⟩:=a.neg y hy;exact .inr ⟨j,hj,e,λ_=>.inl hj⟩)
 have g3:∀y∈av D.A con,dQ D.T y<=0∨aB (ii D.A D.T con).seen (af y)=true:=λy hy=>by
  rcases g2 y hy with e|e
  .have:=(p8 (a.neg y hy).1).1;omega
  .exact e
 refine⟨d,g3,λhd=>?_⟩;obtain⟨y,hy,j,hj,c,f⟩:=a.top hd;have i:=o4 h.ok.rel.1 h.facts hj c;have hs:aB (ii D.A D.T con).seen (af y)=true:=by
  rcases g3 y hy with e|e
  .omega
  .exact e
 have:=d.mn;unfold ii at this⊢;rw[this,Nat.one_le_iff_ne_zero,Ne,Xc];intro b;have g:=b _ (S5 hj);rw[qB hj c]at hs;unfold ii at hs;simp[hs,f]at g
structure Learnt (D:DK) (L:List Int):Prop where
  nd:L.Nodup
  neg:∀y∈L,cF y=true∧∃j,∃hj:j<D.t.rows.length,D.t.rows[j].l=-y∧0<D.t.rows[j].lev
  nil:D.t.dep=0->L=[]
  top:0<D.t.dep->∃u r,L=u::r∧dQ D.T u=D.t.dep∧∀y∈r,dQ D.T y<D.t.dep
theorem Kq{cs:List (List Int)}{ats:List Int}{D:DK}(h:DeskT cs ats D)(p:PS)(y:Int):y∈rF D.T D.T.lits p↔y∈p.lits∨∃j,∃hj:j<D.t.rows.length,D.t.rows[j].l=-y∧aB p.seen (af D.t.rows[j].l)=true∧D.t.rows[j].lev=D.t.dep:=by
 have b:=h.ok.rel.1;have c:=h.facts;have hd:=b.dep;unfold rF;rw[Te,S8];constructor
 .rintro(e|⟨l,f,e⟩)
  .exact .inl e
  .rw[TJ,b.lits]at f;obtain⟨d,a⟩:=f;obtain⟨x,hx,rfl⟩:=S8.1 d;obtain⟨j,hj,rfl⟩:=Tc hx;have i:=(litO (c.chk _ hx)).2.2.2.2;simp only[S9,Th]at a;have ho:=(oe b c hj).1;unfold dQ at a;exact .inr ⟨j,hj,by omega,a.1,by omega⟩
 .rintro(e|⟨j,hj,k,g,m⟩)
  .exact .inl e
  .right;have i:=(litO (c.chk _ (S5 hj))).2.2.2.2;have ho:=(oe b c hj).1;refine⟨D.t.rows[j].l,?_,by omega⟩;rw[TJ,b.lits];refine⟨S8.2 ⟨_,S5 hj,rfl⟩,?_⟩;unfold dQ;simp only[S9,Th];exact⟨g,by omega⟩
theorem learn_is{cs:List (List Int)}{ats:List Int}{D:DK}(h:DeskT cs ats D){con:Int}(hc:Conf D con):
 Learnt D (dr D.A D.T con)∧∀y∈av D.A con,HOk D.A D.T (dr D.A D.T con) y:=by
 have K:=h.ok.rel.1;have n:=h.facts;have hd:=K.dep;have I:D.T.lits.length=D.t.rows.length:=by rw[K.lits,S7]
 obtain⟨b1,b2,b3⟩:=Oh h hc;obtain⟨⟨m,M⟩,w2,w3⟩:=yd h D.t.rows.length (ii D.A D.T con) (SY _) b1;have wf:=λR=>yf h (R:=R) D.t.rows.length (ii D.A D.T con) (SY _) b1;have hL:dr D.A D.T con=IT D.T (eG (rF D.T D.T.lits (cE D.A D.T D.T.lits D.t.rows.length (ii D.A D.T con)))):=by
  unfold dr IU;rw[I]
 have b:=Kq h (cE D.A D.T D.T.lits D.t.rows.length (ii D.A D.T con));generalize hp:cE D.A D.T D.T.lits D.t.rows.length (ii D.A D.T con)=p at*;generalize hE:rF D.T D.T.lits p=E at*;have g:∀y∈E,cF y=true∧∃j,∃hj:j<D.t.rows.length,D.t.rows[j].l=-y∧0<D.t.rows[j].lev∧(D.t.rows[j].lev=D.t.dep->aB p.seen (af D.t.rows[j].l)=true):=λy hy=>by
  rcases(b y).1 hy with e|⟨j,hj,f,s,N⟩
  .obtain⟨j,hj,f,s,N⟩:=M.li y e;refine⟨?_,j,hj,f,s,λe4=>by omega⟩;have:=ur (n.chk _ (S5 hj));rw[f,Vc]at this;exact this
  .obtain⟨j',X,q1,q2,_⟩:=M.sn _ s;have:=n.inj X hj q1;subst this;refine⟨?_,j',hj,f,q2,λ_=>s⟩;have:=ur (n.chk _ (S5 hj));rw[f,Vc]at this;exact this
 have S:∀y,y∈eG E↔y∈E:=λy=>by
  rw[(pC E).2];exact⟨λe=>e.2,λe=>⟨Q6 (g y e).1,e⟩⟩
 have B:=zL E;have u:∀L,(∀y,y∈L↔y∈E)->∀y∈av D.A con,HOk D.A D.T L y:=λL Q=>by
  have W:Fr D p L:=λj hj hs=>by
   apply HOk.stop;rw[Q,b];rcases Wz D.t.rows[j].lev D.t.dep with e|e
   .exact .inl (M.ls j hj hs e)
   .exact .inr ⟨j,hj,by omega,hs,by have:=(n.lev _ (S5 hj)).2;omega⟩
  have:=wf L W;intro y hy;obtain⟨_,j,hj,e⟩:=hc.neg y hy;exact Np h this hj e (b2 y hy)
 by_cases c:D.t.dep=0
 .have C:E=[]:=by
   cases O:E with
   |nil=>rfl
   |cons y r=>
    obtain⟨_,j,hj,_,s,_⟩:=g y (by rw[O];simp);have:=(n.lev _ (S5 hj)).2;omega
  have o:dr D.A D.T con=[]:=by rw[hL,C,F5];rfl
  refine⟨⟨by rw[o];exact Xh,by rw[o];simp,λ_=>o,λe=>by omega⟩,u _ λy=>by rw[o,C]⟩
 have U:0<D.t.dep:=by have:=n.dep;omega
 have Z:p.many=1:=by have:=w3 (b3 U);omega
 have ad:D.t.rows.countP (λx=>aB p.seen (af x.l)&&decide (x.lev=D.t.dep))=1:=by rw[←M.mn];exact Z
 have G:0<D.t.rows.countP (λx=>aB p.seen (af x.l)&&decide (x.lev=D.t.dep)):=by omega
 rw[Xb]at G;obtain⟨x,hx,a⟩:=G;obtain⟨j,hj,rfl⟩:=Tc hx;simp only[S9,Th]at a;have aa:-D.t.rows[j].l∈E:=(b _).2 (.inr ⟨j,hj,by omega,a.1,a.2⟩);have ab:=(S _).2 aa;obtain⟨k,hk,H⟩:=Tc ab;have z:dQ D.T (eG E)[k]=D.t.dep:=by rw[H,o4 K n hj (show D.t.rows[j].l=-(-D.t.rows[j].l) by omega)];exact a.2
 have J:∀i (hi:i<(eG E).length),i≠k->dQ D.T (eG E)[i]<dQ D.T (eG E)[k]:=λi hi d=>by
  obtain⟨_,j2,w,f,s,N⟩:=g _ ((S _).1 (S5 hi));have hl:=o4 K n w f;have hle:=(n.lev _ (S5 w)).2;rw[z,hl];rcases Wz D.t.rows[j2].lev D.t.dep with e|e
  .exact e
  .exfalso;have hs:=N (by omega);have Y:j2=j:=by
    rcases UD j2 j with q|q|q
    .have:=oR (P:=λx=>aB p.seen (af x.l)&&decide (x.lev=D.t.dep)) q hj (by simp only[S9,Th];exact⟨hs,by omega⟩) (by simp only[S9,Th];exact a);omega
    .exact q
    .have:=oR (P:=λx=>aB p.seen (af x.l)&&decide (x.lev=D.t.dep)) q w (by simp only[S9,Th];exact a) (by simp only[S9,Th];exact⟨hs,by omega⟩);omega
   subst Y;have V:(eG E)[i]=(eG E)[k]:=by rw[H];omega
   exact d (vS B hi hk V)
 have hP:=Ma hk (by rw[z];omega) J;have v:dr D.A D.T con=(eG E)[k]::(eG E).eraseIdx k:=hL.trans hP;have F:∀y,y∈dr D.A D.T con↔y∈E:=λy=>by rw[v,mR hk,S]
 refine⟨⟨?_,λy hy=>?_,λe=>absurd e c,λ_=>⟨_,_,v,z,λy hy=>?_⟩⟩,u _ F⟩
 .rw[v,UA];refine⟨λhm=>?_,B.sublist (List.eraseIdx_sublist _ _)⟩;rw[V5]at hm;obtain⟨i,hi,d,e⟩:=hm;exact d (vS B hi hk e)
 .obtain⟨e0,j,hj,f,s,_⟩:=g y ((F y).1 hy);exact⟨e0,j,hj,f,s⟩
 .rw[V5]at hy;obtain⟨i,hi,d,rfl⟩:=hy;have:=J i hi d;omega
structure DeskI (cs:List (List Int)) (ats:List Int) (D:DK):Prop extends DeskT cs ats D where
  id:∀x∈D.a.rows,1<=x.id
theorem id_is{cs:List (List Int)}{ats:List Int}{D:DK}(h:DeskI cs ats D){q:Int}(b:isA D.A q=true):gn D.A q≠0:=by
 obtain⟨x,hx,e⟩:=h.ok.relA.is q b;obtain⟨p,c,_,_,_,d⟩:=h.ok.relA.rows x hx;have hi:=h.id x hx;have a:q=(p:Int):=by rw[←e,c]
 unfold gn;rw[SX b,a,Uc,d];omega
theorem uu{cs:List (List Int)}{ats:List Int}{D:DK}(h:DeskT cs ats D){j:Nat}(hj:j<D.t.rows.length){y:Int}(hy:D.t.rows[j].l=-y):pla D.T y=j∧rea D.T y=D.t.rows[j].rea:=by
 unfold pla rea;rw[qB hj hy];exact⟨(oe h.ok.rel.1 h.facts hj).2.2,(oe h.ok.rel.1 h.facts hj).2.1⟩
theorem val_neg{cs:List (List Int)}{ats:List Int}{D:DK}(h:DeskT cs ats D){l:Int}(b:cm D.T l<0):cF l=true∧∃j,∃hj:j<D.t.rows.length,D.t.rows[j].l=-l:=by
 obtain⟨a,i,hi,hp⟩:=wB h.ok.rel.1 (l:=l) (by omega);refine⟨a,i,hi,?_⟩;rcases sk h.ok.rel.1 a hi hp with⟨e,_⟩|⟨_,e⟩
 .exact e
 .omega
theorem val_of{cs:List (List Int)}{ats:List Int}{D:DK}(h:DeskT cs ats D){l:Int}{j:Nat}(hj:j<D.t.rows.length)(e:D.t.rows[j].l=-l):cm D.T l=-1:=by
 have:=(Kp h hj).1;rw[e,Vc]at this;exact this
theorem ahead_ok{cs:List (List Int)}{ats:List Int}{D:DK}(h:DeskT cs ats D)(h0:D.A.hd≠[]):AheadOk D.A D.T where
 tr:=h.ok.rel.1.okT
 hd:=h0
 ar:=λq k=>by
  obtain⟨x,hx,e⟩:=h.ok.relA.is q k;obtain⟨p,d,a,_⟩:=h.ok.relA.rows x hx;exact⟨p,_,by rw[←e,d],a⟩
 len:=h.ok.len
 ahead:=λl m c=>by
  obtain⟨f,j,hj,e⟩:=val_neg h m;obtain⟨o,r⟩:=uu h hj e;rw[o];refine⟨by omega,λy hy b=>?_⟩;rw[r]at hy c;have n:=(litO f).2.2.2.2;obtain⟨i,hi,g,a⟩:=((da h hj c).2.2 y hy).2 (by rw[e,←n];exact b);rw[(uu h hi a).1];omega
theorem pla_lt{cs:List (List Int)}{ats:List Int}{D:DK}(h:DeskT cs ats D)(l:Int):pla D.T l<D.T.lits.length:=by
 unfold pla;rw[(yc h.ok.rel.1 (af l)).2.2,h.ok.rel.1.lits,S7];rcases Wz (qx D.t (af l)) 0 with c|c
 .omega
 .obtain⟨i,hi,e,_⟩:=lw c;omega
theorem nD{cs:List (List Int)}{ats:List Int}{D:DK}(h:DeskI cs ats D){L:List Int}{stop:List (Int×Int)}(g:∀y,aB stop y=true↔y∈L){k:Nat}{f:NS->Int->Int->NS}
 (C:∀(s:NS)(j:Nat)(hj:j<D.t.rows.length),j<k->0<=D.t.rows[j].rea->NI D L s->Post D L s (f s D.t.rows[j].rea D.t.rows[j].l) (av D.A D.t.rows[j].rea) D.t.rows[j].l) (but:Int):
 ∀(c:List Int)(s:NS),NI D L s->(∀y∈c,y≠but->cF y=true∧∃j,∃hj:j<D.t.rows.length,D.t.rows[j].l=-y∧j<k)->Post D L s (tF f D.A D.T stop but c s) c but
 |[],s,hn,_=>⟨hn,λ_ e=>e,λe=>⟨e,by simp,λj hj h1 O=>by rw[tF]at h1;rw[h1]at O;cases O⟩,λ_=>rfl⟩
 |y::c,s,hn,B=>by
  have q:=λz hz=>B z (Tl _ hz);rw[tF]
  by_cases hs:vU D.T stop but s y=true
  .rw[SX hs];have u:=nD h g C but c s hn q;refine⟨u.ni,u.mono,λho=>?_,λhk=>u.ok λz hz=>hk z (Tl _ hz)⟩;obtain⟨w,x,a3⟩:=u.all ho;refine⟨w,λz hz a=>?_,a3⟩;rcases Tx.1 hz with rfl|hz
   .unfold vU at hs;simp only[Um,S9,Th]at hs;rcases hs with(e|e)|⟨e,_⟩
    .exact absurd e a
    .exact .inl ((g _).1 e)
    .obtain⟨_,j,hj,b,_⟩:=B z (To ..) a;rw[(uu h.toDeskT hj b).1]at e;exact .inr ⟨j,hj,b,u.mono _ e⟩
   .exact x z hz a
  rw[SU hs];have J:y≠but∧y∉L∧¬(aB s.at' (pla D.T y)=true∧0<=pla D.T y):=by
   unfold vU at hs;simp only[Um,S9,Th,Xy]at hs;exact⟨hs.1.1,λe=>hs.1.2 ((g _).2 e),hs.2⟩
  obtain⟨M,N,X⟩:=J;obtain⟨Y,j,hj,b,E⟩:=B y (To ..) M;obtain⟨Q,R⟩:=uu h.toDeskT hj b;have P:=val_of h.toDeskT hj b
  by_cases m:F8 D.A D.T y=true
  .rw[SX m];refine⟨⟨hn.val,hn.mem⟩,λ_ e=>e,λe=>(by cases e),λhk=>?_⟩;exfalso;unfold F8 at m;simp only[Um,Th]at m;have hy:=hk y (To ..) M;cases hy with
   |stop e=>exact N e
   |why v1 v2 v3 _=>
    rcases m with(e|e)|e
    .omega
    .have:rea D.T y=(dw D.T (af y)).1.rea:=rfl;omega
    .exact id_is h v3 e
  rw[SU m];have n:0<=rea D.T y:=by
   unfold F8 at m;simp only[Um,Th,Xy]at m;omega
  have W:=(litO Y).2.2.2.2;have K:aX (-y)=D.t.rows[j].l:=by rw[W,b]
  rw[R]at n⊢;rw[K];have r:aB s.at' j=false:=by
   cases e:aB s.at' j
   .rfl
   .exact absurd ⟨by rw[Q];exact e,by omega⟩ X
  have h0:(lk s.at' (j:Int)).getD 0=0:=by
   have:=hn.val j;unfold aB at r;simp at r;omega
  have H:tE D.T s y=⟨pt s.at' j 1,s.ok⟩:=by
   unfold tE;rw[Q,h0];rfl
  rw[H];have d:∀p,aB (pt s.at' (j:Int) 1) p=if(j:Int)=p then true else aB s.at' p:=λp=>by rw[nA];simp
  have I:NI D L ⟨pt s.at' j 1,s.ok⟩:=by
   refine⟨λp=>?_,λp hp=>?_⟩
   .dsimp only;rw[bJ];split
    .simp
    .exact hn.val p
   .dsimp only at hp;rw[d]at hp;split at hp
    .rename_i e;exact⟨j,hj,e.symm,n,by rw[b,Vc];exact N⟩
    .exact hn.mem p hp
  have o:=C ⟨pt s.at' j 1,s.ok⟩ j hj E n I;generalize f ⟨pt s.at' j 1,s.ok⟩ D.t.rows[j].rea D.t.rows[j].l=v at*;have g2:=nD h g C but c v o.ni q;generalize tF f D.A D.T stop but c v=Z at*;have F:∀p,aB s.at' p=true->aB (pt s.at' (j:Int) 1) p=true:=λp hp=>by rw[d];split<;>simp[hp]
  have G:aB v.at' j=true:=o.mono j (by dsimp only;rw[d,SX rfl]);refine⟨g2.ni,λp hp=>g2.mono p (o.mono p (F p hp)),λho=>?_,λhk=>?_⟩
  .obtain⟨w,x,a3⟩:=g2.all ho;obtain⟨b1,b2,b3⟩:=o.all w;refine⟨b1,λz hz a=>?_,λi hi S U z hz a=>?_⟩
   .rcases Tx.1 hz with rfl|hz
    .exact .inr ⟨j,hj,b,g2.mono _ G⟩
    .exact x z hz a
   .cases c2:aB v.at' i
    .exact a3 i hi S c2 z hz a
    .by_cases e:j=i
     .subst e;exact(b2 z hz a).mono g2.mono
     .exact(b3 i hi c2 (by dsimp only;rw[d,SU (by omega)];exact U) z hz a).mono g2.mono
  .rw[g2.ok λz hz=>hk z (Tl _ hz)];have hy:=hk y (To ..) M;cases hy with
   |stop e=>exact absurd e N
   |why _ _ _ v4=>
    refine o.ok λz hz a=>?_;have V:(dw D.T (af y)).1.rea=D.t.rows[j].rea:=R;rw[V]at v4;exact v4 z hz (by rw[←b];exact a)
theorem wC{cs:List (List Int)}{ats:List Int}{D:DK}(h:DeskI cs ats D){L:List Int}{stop:List (Int×Int)}(a:∀y,aB stop y=true↔y∈L):∀(k:Nat)(q but:Int)(s:NS),NI D L s->
 (∀y∈av D.A q,y≠but->cF y=true∧∃j,∃hj:j<D.t.rows.length,D.t.rows[j].l=-y∧j<k)->Post D L s (rG D.A D.T stop (k+1) s q but) (av D.A q) but
 |0,q,but,s,hn,c=>by
  rw[rG];exact nD h a (k:=0) (λ_ j _ hj=>by omega) but _ s hn c
 |k+1,q,but,s,hn,c=>by
  rw[rG];refine nD h a (k:=k+1) (λs j hj g m hn=>?_) but _ s hn c;refine wC h a k _ _ s hn λy hy b=>?_;obtain⟨n,d⟩:=(da h.toDeskT hj m).2.2 y hy;obtain⟨i,hi,f,e⟩:=d b;exact⟨n,i,hi,e,by omega⟩
def AllNeg(D:DK)(L:List Int):Prop:=∀y∈L,cF y=true∧∃j,∃hj:j<D.t.rows.length,D.t.rows[j].l=-y
theorem uv{cs:List (List Int)}{ats:List Int}{D:DK}(h:DeskT cs ats D){j:Nat}(hj:j<D.t.rows.length):rj D j=D.t.rows[j].rea:=by
 unfold rj rea;rw[CX h.ok.rel.1 hj];exact(oe h.ok.rel.1 h.facts hj).2.1
theorem AF{cs:List (List Int)}{ats:List Int}{D:DK}(h:DeskI cs ats D){con:Int}(b:Conf D con)(L:List Int):Post D L ⟨[],true⟩ (mc D.A D.T L con) (av D.A con) 0:=by
 have a:D.T.lits.length=D.t.rows.length:=by rw[h.ok.rel.1.lits,S7]
 unfold mc;refine wC h (λy=>?_) D.T.lits.length con 0 ⟨[],true⟩ ⟨λp=>by simp[lk],λp hp=>by simp[aB,lk]at hp⟩ λy hy _=>?_
 .have:=tH L y L.length (SY _)
  rwa [Tw]at this
 .obtain⟨c,j,hj,e⟩:=b.neg y hy;exact⟨c,j,hj,e,by omega⟩
theorem Kr{cs:List (List Int)}{ats:List Int}{D:DK}(h:DeskT cs ats D){i j:Nat}(hi:i<D.t.rows.length)(hj:j<D.t.rows.length)(o:i<j)(b:0<=D.t.rows[i].rea)(c:0<=D.t.rows[j].rea):D.t.rows[i].rea≠D.t.rows[j].rea:=by
 intro e;have d:=h.facts;have h1:=(da h hi b).2.1;rw[e]at h1;obtain⟨n,m⟩:=(da h hj c).2.2 _ h1;have a:D.t.rows[i].l≠D.t.rows[j].l:=λf=>by
  have:=d.inj hi hj (by rw[f]);omega
 obtain⟨k,hk,_,g⟩:=m a;exact d.one n ⟨gD hi,by rw[←g];exact gD hk⟩
theorem Oi{cs:List (List Int)}{ats:List Int}{D:DK}(h:DeskT cs ats D){con:Int}(d:Conf D con){i:Nat}(hi:i<D.t.rows.length)(a:0<=D.t.rows[i].rea):D.t.rows[i].rea≠con:=by
 intro e;have h1:=(da h hi a).2.1;rw[e]at h1;obtain⟨c,k,hk,b⟩:=d.neg _ h1;exact h.facts.one c ⟨gD hi,by rw[←b];exact gD hk⟩
theorem AH{cs:List (List Int)}{ats:List Int}{D:DK}(h:DeskT cs ats D){L:List Int}{s:NS}(hn:NI D L s):∀i,i<=D.t.rows.length->ed D.T s.at' i=(Gb s i).map (rj D)
 |0,_=>rfl
 |i+1,hi=>by
  have o:=AH h hn i (by omega);have n:rea D.T (D.T.lits.getD i 0)=rj D i:=rfl;rw[ed,I7];unfold I5;rw[o,n]
  by_cases c:aB s.at' i=true
  .obtain⟨j,hj,p,k,_⟩:=hn.mem _ c;have b:i=j:=by omega
   subst b;have:¬rj D i∈(Gb s i).map (rj D):=by
    intro e;obtain⟨m,d,g⟩:=S8.1 e;rw[xO]at d;obtain⟨j,a,q,l,_⟩:=hn.mem _ d.2;have f:m=j:=by omega
    subst f;rw[uv h a,uv h hj]at g;exact Kr h a hj d.1 l k g
   rw[SX (by simp only[c,this,decide_false,Bool.not_false,Bool.and_self]),SX c,Tu];rfl
  .have c':aB s.at' i=false:=by simpa using c
   rw[SU (by simp[c']),SU c]
theorem Kt{cs:List (List Int)}{ats:List Int}{D:DK}(h:DeskT cs ats D){L:List Int}{s:NS}{l:List Int}{js:List Nat}(hi:CInv D L s l js){y:Int}(b:cF y=true)(a:-y∈l):bK l y=-1:=
 val3_m1_of b a (λe=>h.facts.one b ⟨hi.sub _ e,hi.sub _ a⟩)
theorem Ku{cs:List (List Int)}{ats:List Int}{D:DK}(h:DeskI cs ats D){con:Int}(P:Conf D con){L:List Int}{s:NS}(hn:NI D L s)
 (hcl:∀j (hj:j<D.t.rows.length),aB s.at' j=true->∀y∈av D.A D.t.rows[j].rea,y≠D.t.rows[j].l->Met D L s y) (p:∀y∈av D.A con,Met D L s y):
 ∀(js:List Nat)(l:List Int)(n:Nat),CInv D L s l js->∃l',eV l ((js.map (rj D)).map (av D.A)++[av D.A con]) n=(l',n+js.length+1,0)
 |[],l,n,hi=>by
  refine⟨l,?_⟩;have:zy l (av D.A con)=-1:=by
   rw[mQ];intro y hy _;have O:=(P.neg y hy).1;refine Kt h.toDeskT hi O ?_;rcases p y hy with e|⟨j,hj,m,w⟩
   .exact hi.neg y e
   .rw[←m];exact hi.don j hj w (by simp)
  simp[eV,this]
 |j::js,l,n,hi=>by
  obtain⟨hj,hs,H⟩:=hi.todo j (To ..);obtain⟨Y,U,m,Q,_⟩:=hn.mem _ hs;have C:j=Y:=by omega
  subst C;have v:=h.facts;obtain⟨Z,M,r3⟩:=da h.toDeskT hj Q;have N:=(r3 _ M).1;have u:=(litO N).2.2.2.1;have W:=(litO N).2.2.2.2;have o:=hcl j hj hs;have a:=U6.1 hi.inc;obtain⟨k,hk,z,S⟩:∃k,∃hk:k<cs.length,av D.A D.t.rows[j].rea=cs[k]∧True:=by
   obtain⟨k,hk,e,_⟩:=v.imp j hj Q;rw[e];exact⟨k,hk,(h.ars k hk).2,trivial⟩
  have d:=h.cls.len _ (S5 hk);have q:=h.cls.nd _ (S5 hk);rw[←z]at d q;have J:bK l D.t.rows[j].l=0:=by
   unfold bK;rw[SU (by omega),SU H,SU];rw[W];intro e;exact v.one N ⟨gD hj,hi.sub _ e⟩
  have K:∀y∈av D.A D.t.rows[j].rea,y≠D.t.rows[j].l->bK l y=-1:=λy hy r=>by
   have O:=(r3 y hy).1;refine Kt h.toDeskT hi O ?_;rcases o y hy r with e|⟨i,b,m,w⟩
   .exact hi.neg y e
   .obtain⟨X,B,T,R⟩:=(r3 y hy).2 r;have:i=X:=v.inj b B (by rw[m,R]);subst this;rw[←m];refine hi.don i b w ?_;intro g;rcases Tx.1 g with e|g
    .omega
    .have:=a.1 i g;omega
  have V:=unit_of d q M u J K;have F:¬zy l (av D.A D.t.rows[j].rea)=-1:=by
   rw[mQ];intro e;have:=e _ M u;omega
  have b:CInv D L s (l++[D.t.rows[j].l]) js:=by
   refine⟨?_,λy hy=>Up _ (hi.neg y hy),?_,?_,a.2⟩
   .intro x hx;rcases Te.1 hx with hx|hx
    .exact hi.sub x hx
    .simp at hx;subst hx;exact gD hj
   .intro i c f I
    by_cases e:i=j
    .subst e;simp
    .exact Up _ (hi.don i c f (by simp[e,I]))
   .intro i g;obtain⟨c,f,G⟩:=hi.todo i (Tl _ g);refine⟨c,f,?_⟩;intro e;rcases Te.1 e with e|e
    .exact G e
    .simp at e;have:=v.inj c hj (by rw[e]);have:=a.1 i g;omega
  obtain⟨l',E⟩:=Ku h P hn hcl p js _ (n+1) b;refine⟨l',?_⟩;rw[Tn,Tn,TP,eV,uv h.toDeskT hj,SU F,V,SX rfl,E,Ty];congr 2;omega
theorem hints_show{cs:List (List Int)}{ats:List Int}{D:DK}(h:DeskI cs ats D){con:Int}(m:Conf D con){L:List Int}(u:AllNeg D L)(ho:(mc D.A D.T L con).ok=true):
 (rH D.T (mc D.A D.T L con).at' con).Nodup∧(∀q∈rH D.T (mc D.A D.T L con).at' con,isA D.A q=true)∧
  ∃l',eV (gm L) ((rH D.T (mc D.A D.T L con).at' con).map (av D.A)) 0=(l',(rH D.T (mc D.A D.T L con).at' con).length,0):=by
 have hp:=AF h m L;generalize mc D.A D.T L con=s at*;obtain⟨_,J,a3⟩:=hp.all ho;have Q:=h.facts;have o:D.T.lits.length=D.t.rows.length:=by rw[h.ok.rel.1.lits,S7]
 have hin:=AH h.toDeskT hp.ni D.t.rows.length (SY _);have d:∀j∈Gb s D.t.rows.length,∃hj:j<D.t.rows.length,aB s.at' j=true∧0<=D.t.rows[j].rea∧-D.t.rows[j].l∉L:=λj hj=>by
  rw[xO]at hj;obtain⟨O,c,g,r,K⟩:=hp.ni.mem _ hj.2;have:j=O:=by omega
  subst this;exact⟨c,hj.2,r,K⟩
 have p:con∉(Gb s D.t.rows.length).map (rj D):=by
  intro e;obtain⟨j,hj,g⟩:=S8.1 e;obtain⟨c,_,F,_⟩:=d j hj;rw[uv h.toDeskT c]at g;exact Oi h.toDeskT m c F g
 have M:rH D.T s.at' con=(Gb s D.t.rows.length).map (rj D)++[con]:=by
  unfold rH;rw[o,hin,SU p]
 have f:(Gb s D.t.rows.length).Pairwise (·<·):=List.Pairwise.filter _ List.pairwise_lt_range;rw[M];refine⟨?_,?_,?_⟩
 .rw[VY];refine⟨?_,by simp,λa N b I e=>?_⟩
  .refine Ux.2 (f.imp_of_mem λ{i j} hi hj w=>?_);obtain⟨n,_,G,_⟩:=d i hi;obtain⟨c,_,H,_⟩:=d j hj;rw[uv h.toDeskT n,uv h.toDeskT c];exact Kr h.toDeskT n c w G H
  .simp at I;subst I;exact p (e▸N)
 .intro q k;rcases Te.1 k with k|k
  .obtain⟨j,hj,g⟩:=S8.1 k;obtain⟨c,_,F,_⟩:=d j hj;rw[uv h.toDeskT c]at g;rw[←g];exact(da h.toDeskT c F).1
  .simp at k;subst k;exact m.is
 .have v:CInv D L s (gm L) (Gb s D.t.rows.length):=by
   refine⟨?_,?_,?_,?_,f⟩
   .intro x hx;rw[pP]at hx;obtain⟨y,hy,rfl⟩:=hx;obtain⟨P,j,hj,e⟩:=u y hy;rw[(litO P).2.2.2.2,←e];exact gD hj
   .intro y hy;rw[pP];exact⟨y,hy,(litO (u y hy).1).2.2.2.2.symm⟩
   .intro j hj hs E;exact absurd ((xO s _ j).2 ⟨hj,hs⟩) E
   .intro j hj;obtain⟨c,hs,_,B⟩:=d j hj;refine⟨c,hs,λe=>?_⟩;rw[pP]at e;obtain⟨y,hy,r⟩:=e;rw[(litO (u y hy).1).2.2.2.2]at r;apply B;rw[r,Vc];exact hy
  obtain⟨l',z⟩:=Ku h m hp.ni (λj hj hs y hy C=>a3 j hj hs (by simp[aB,lk]) y hy C) (λy hy=>J y hy (by have:=litO (m.neg y hy).1;omega)) _ _ 0 v;refine⟨l',?_⟩;rw[Tu];have:List.map (av D.A) [con]=[av D.A con]:=rfl;rw[this,z];congr 2;simp
theorem hints_ok_of{cs:List (List Int)}{ats:List Int}{D:DK}(h:DeskI cs ats D){con:Int}(a:Conf D con){L:List Int}(hk:∀y∈av D.A con,HOk D.A D.T L y):(mc D.A D.T L con).ok=true:=
 (AF h a L).ok λy hy _=>hk y hy
theorem AI{cs:List (List Int)}{ats:List Int}{D:DK}(h:DeskT cs ats D){L S:List Int}(f:∀x∈L,x∉S->lY D.A D.T L x=true):∀(n j:Nat)(hj:j<D.t.rows.length),j<n->(-D.t.rows[j].l∈L∨lY D.A D.T L (-D.t.rows[j].l)=true)->HOk D.A D.T S (-D.t.rows[j].l)
 |0,j,hj,hn,_=>by omega
 |n+1,j,hj,hn,hx=>by
  by_cases c:-D.t.rows[j].l∈S
  .exact .stop c
  have hd:lY D.A D.T L (-D.t.rows[j].l)=true:=hx.elim (λu=>f _ u c) id;rw[tB,S9]at hd;obtain⟨g,p⟩:=hd;obtain⟨i,hi,G,H,_,z,m⟩:=Og h.ok g;have q:=h.facts.chk _ (S5 hj);obtain⟨n0,E,F,_⟩:=litO q;have w:aX (- -D.t.rows[j].l)=D.t.rows[j].l:=by rw[Vc];exact ao (by omega) (by omega)
  have v:cz D.T (-D.t.rows[j].l)=j:=(uu h hj (by omega)).1;have b:i=j:=by omega
  subst b;refine CY h hj m λy hy a=>?_;obtain⟨I,_,B⟩:=da h hj m;obtain⟨J,C⟩:=B y hy;obtain⟨k,hk,r,e⟩:=C a;have s:=o4 h.ok.rel.1 h.facts hk e;rw[iX hk e]
  by_cases o:D.t.rows[k].lev<=0
  .exact ye h S (k+1) k hk (by omega) o
  have d:y∈tA D.A D.T (-D.t.rows[i].l):=by
   unfold tA;rw[SX g,TJ,z];refine⟨hy,?_⟩;unfold uN;unfold dQ at s;simp only[TU,Vp,Un];exact⟨by rw[w];exact a,by omega⟩
  have hp:=TE.1 p y d;unfold nX lX at hp;simp only[Um,S9,Th]at hp;refine AI h f n k hk (by omega) ?_;rw[←iX hk e];rcases hp with⟨_,hp,_⟩|⟨_,hp⟩
  .exact .inl hp
  .exact .inr hp
theorem sho_hok{cs:List (List Int)}{ats:List Int}{D:DK}(h:DeskT cs ats D){L:List Int}(b:AllNeg D L):∀x∈L,HOk D.A D.T (qA D.A D.T L) x:=λx hx=>by
 obtain ⟨_, j, hj, e⟩ := b x hx; rw [iX hj e] at hx ⊢; refine AI h (λ y hy hn => ?_) (j + 1) j hj (by omega) (.inl hx); have a : gV D.A D.T L y = true := Ts λ a => hn (by
  unfold qA;rw[←T7 1 L,Te]at hy;rcases hy with hy|hy
  .exact Up _ hy
  .refine U9 _ ?_;unfold bk;rw[TJ];exact⟨hy,by simpa using a⟩)
 unfold gV iV at a;rw[S9]at a;exact a.2
theorem show_sound{m:List Bool}{S:List Int}{hs:List (List Int)}(a:∀y∈S,cF y=true)(b:∀c∈hs,c.length<=1000000)(h:(eV (gm S) hs 0).2.2=0)(d:∀c∈hs,cI c m=true):cI S m=true:=by
 refine Ts λhn=>wA hs (gm S) 0 b (λy hy=>?_) d h;obtain⟨x,hx,e⟩:=(pP S y).1 hy;obtain⟨n0,g,i,_,f⟩:=litO (a x hx);rw[e,f];refine Kk ((aY x).2 (by omega)) ?_;rw[VL]at hn;have:=UE.1 hn x hx;simpa using this
end Go.AX.V