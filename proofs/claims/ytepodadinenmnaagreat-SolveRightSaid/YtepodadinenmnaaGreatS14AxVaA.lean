/-
  Contracts: watches: made anew, Attach, Detach, Attached; and what follows.
-/
import Derived.Test.YtepodadinenmnaaGreatS14AxWaG
import Derived.Test.YtepodadinenmnaaGreatS14AxLuA
import Derived.Test.YtepodadinenmnaaGreatS14AxTyA
import Derived.Test.YtepodadinenmnaaGreatS14AxGlP
import Derived.Test.YtepodadinenmnaaGreatAxOw
import Derived.Test.YtepodadinenmnaaGreatAxTb
namespace Go.AX
set_option maxRecDepth 16000
open Go.Proofs
set_option linter.unusedSimpArgs false
theorem Ae(T:Tr)(d:T.marks.length<=1000000)(c:T.lits.length<=1000000):ak Tryz.prog 56 [bM T] (λr=>r=.pv (ab ((T.marks.length:Int) -1 -T.lits.length))):=by
 refine ap aC Tryz.func56 ?_;have hi:=mH T;have a:aY ((T.marks.length:Int) -1)=(T.marks.length:Int) -1:=ao (by omega) (by omega);have b:aY ((T.marks.length:Int) -1 -T.lits.length)=(T.marks.length:Int) -1 -T.lits.length:=ao (by omega) (by omega);simp only[bM,cY]at hi;simp[bM,cY];refine ah.intro hi ?_;simp[a,b]
theorem Mn(x v:Int):ak Tryz.prog 208 [ab x,.iptr 1 [[ab v]] 0 0] (λr=>r=.pv (BL (!decide (ay x v=0)))):=by
 refine ap aC Tryz.func208 ?_;simp;refine ah.intro (jx x v) ?_
 by_cases c:ay x v=0
 .simp[c]
 .simp[c]
theorem Jy(h:List (List SV))(b:Nat)(A:Ar)(e:h[b]?=some (ji A))(hk:j9 A)(g:A.row.length<=1000000)(q:Int):ax Tryz.prog 158 [.ptr b 0,ab q] h (λr h'=>h'=h∧r=.pv (ab (gt A q))):=by
 refine gC [] [.tmp 4] aC Tryz.func158 ?_;obtain⟨d,a⟩:=SG.1 e;unfold gt;simp;refine am.intro (B3 h b A e q) ?_;rintro _ _ ⟨rfl,rfl⟩
 by_cases c:isA A q=true
 .obtain⟨p,n,rfl,f⟩:=hk q c;have hp:p<A.row.length:=by have:=f.len;omega
  simp[a,d,ji,c,hp]
 .have c':isA A q=false:=by simpa using c
  simp[c']
theorem wq(h:List (List SV))(b:Nat)(A:Ar)(d:h[b]?=some (ji A))(hk:j9 A)(f:A.row.length<=1000000)(q:Int)(hi:isA A q=true):
 ax Tryz.prog 160 [.ptr b 0,ab q] h (λr h'=>h'=h∧r=.pv (.seq false 1 (ae (au A q)))):=by
 obtain⟨p,n,rfl,a⟩:=hk q hi;have e:au A (p:Int)=dE A p n:=by
  unfold au;rw[SN hi];have h1:p+1<A.row.length:=by have:=a.len;omega
  have c:A.row.getD ((p:Int).toNat+1) 0=(n:Int):=by rw[←a.num];rfl
  rw[c];rfl
 rw[e];exact Ic h b A d p n hi a f
theorem Mo(h:List (List SV))(ba bt:Nat):ax Tryz.prog 67 [.ptr ba 0,.ptr bt 0] h (λr h'=>h'=h++[[.pv (.ptr ba 0),.pv (.ptr bt 0),.omap true [],.omap true [],.omap true [],.pv (ab 0),.pv (.lit (.slice none 0 0))]]∧r=.pv (.ptr h.length 0)):=by
 refine cI [] [.tmp 4] aC Tryz.func67 ?_;simp
@[simp] theorem Mp:∀(l:List (Int×Nat))(k:Int),iz k (aG uT l)=aG uT (dl l k)
 |[],k=>rfl
 |(j,x)::l,k=>by
  show(if j=k then aG uT l else(j,uT x)::iz k (aG uT l))=aG uT (if j=k then l else(j,x)::dl l k);rw[Mp l k];split<;>rfl
theorem Af{α β:Type}:∀(a:List (Int×α))(c:List (Int×β))(k:Int),a.map (·.1)=c.map (·.1)->(dl a k).map (·.1)=(dl c k).map (·.1)
 |[],[],_,_=>rfl
 |[],_::_,_,h=>by simp at h
 |_::_,[],_,h=>by simp at h
 |u::a,w::c,k,h=>by
  obtain⟨b,f⟩:=u;obtain⟨i,g⟩:=w;simp only[Th,U9]at h;obtain⟨h1,d⟩:=h;subst h1;show(if b=k then a else(b,f)::dl a k).map (·.1)=(if b=k then c else(b,g)::dl c k).map (·.1)
  by_cases e:b=k
  .rw[SN e,SN e];exact d
  .rw[SM e,SM e,Th,Th,Af a c k d]
theorem uh{α:Type}:∀{l:List (Int×α)}{k:Int},k∉l.map (·.1)->lk l k=none
 |[],_,_=>rfl
 |(j,x)::l,k,h=>by
  simp only[Th,Tp,XF]at h;rw[lk,SM (λe=>h.1 e.symm)];exact uh h.2
theorem oZ{α:Type}:∀{l:List (Int×α)},(l.map (·.1)).Nodup->∀k x:Int,lk (dl l k) x=if x=k then none else lk l x
 |[],_,k,x=>by show none=_;split<;>rfl
 |(j,y)::l,h,k,x=>by
  simp only[Th,UE]at h;show lk (if j=k then l else(j,y)::dl l k) x=if x=k then none else if j=x then some y else lk l x
  by_cases e:j=k
  .rw[SN e]
   by_cases c:x=k
   .rw[SN c,c,←e];exact uh h.1
   .rw[SM c,SM (λa=>c (a.symm.trans e))]
  .rw[SM e,lk,oZ h.2 k x]
   by_cases c:x=k
   .rw[SN c,SN c,SM (λa=>e (a.trans c))]
   .rw[SM c,SM c]
section
variable {h : List (List SV)} {bw ba bt : Nat} {mp : List (Int × Nat)} {mb : List (Int × By)} {A : Ar} {T : Tr} {S : WS}
theorem LayW.newP(L:LayW h bw ba bt mp mb A T S)(k:Int)(p:Pr)(late:List (Int×Int)):
    LayW ((h++[p6 p]).set bw (ce ba bt ⟨pt mp k h.length,mb,late,S.head,S.seen⟩)) bw ba bt (pt mp k h.length) mb A T ⟨pt S.prs k p,S.byl,late,S.head,S.seen⟩:=by
  have hwl:=(SG.1 L.w).1
  have lt:∀{b:Nat}{x:List SV},h[b]?=some x->b<h.length:=λhx=>(SG.1 hx).1
  have up:∀{c:Nat}{x:List SV},c≠bw->h[c]?=some x->((h++[p6 p]).set bw (ce ba bt ⟨pt mp k h.length,mb,late,S.head,S.seen⟩))[c]?=some x:=λn1 hx=>by
    rw[Tc (λe=>n1 e.symm),SO (lt hx),hx]
  have self:((h++[p6 p]).set bw (ce ba bt ⟨pt mp k h.length,mb,late,S.head,S.seen⟩))[h.length]?=some (p6 p):=by
    rw[Tc (by omega)];simp
  have old:∀k' b,lk mp k'=some b->b<h.length:=λk' b hb=>by obtain⟨_,_,a2,_⟩:=L.pr k' b hb;exact lt a2
  exact { w := Tu (by simp; omega), a := up L.wa.symm L.a, t := up L.wt.symm L.t, wa := L.wa, wt := L.wt, at' := L.at', keys := Ab _ _ _ _ _ L.keys, byn := L.byn, binj := L.binj
          pr:=λk' b hb=>by
            rw[bJ]at hb
            show∃p',lk (pt S.prs k p) k'=some p'∧_
            rw[bJ]
            by_cases c:k=k'
            · rw[SN c]at hb;cases hb
              exact⟨p,SN c,self,VW hwl,VW (lt L.a),VW (lt L.t)⟩
            · rw[SM c]at hb
              obtain⟨p',a1,a2,a3⟩:=L.pr k' b hb
              exact⟨p',by rw[SM c];exact a1,up a3.1 a2,a3⟩
          by':=λl e he=>by
            obtain⟨zs,a1,⟨sp,a2,a3⟩,a4⟩:=L.by' l e he
            exact⟨zs,a1,⟨sp,up a4.1 a2,a3⟩,a4⟩
          pinj:=λk1 k2 b h1 h2=>by
            rw[bJ]at h1 h2
            by_cases c1:k=k1
            · by_cases c2:k=k2
              · exact c1.symm.trans c2
              · rw[SN c1]at h1;rw[SM c2]at h2;cases h1
                have:=old k2 _ h2;omega
            · rw[SM c1]at h1
              by_cases c2:k=k2
              · rw[SN c2]at h2;cases h2
                have:=old k1 _ h1;omega
              · rw[SM c2]at h2
                exact L.pinj k1 k2 b h1 h2
          pb:=λk' b l e hb he=>by
            rw[bJ]at hb
            by_cases c:k=k'
            · rw[SN c]at hb;cases hb
              obtain⟨_,_,⟨_,a2,_⟩,_⟩:=L.by' l e he
              exact VW (lt a2)
            · rw[SM c]at hb;exact L.pb k' b l e hb he}
theorem LayW.delP(L:LayW h bw ba bt mp mb A T S)(hn:(S.prs.map (·.1)).Nodup)(k:Int)(late:List (Int×Int)):
    LayW (h.set bw (ce ba bt ⟨dl mp k,mb,late,S.head,S.seen⟩)) bw ba bt (dl mp k) mb A T ⟨dl S.prs k,S.byl,late,S.head,S.seen⟩:=by
  have hl:=(SG.1 L.w).1
  have hn':(mp.map (·.1)).Nodup:=by rw[L.keys];exact hn
  have up:∀{b:Nat}{x:List SV},b≠bw->h[b]?=some x->(h.set bw (ce ba bt ⟨dl mp k,mb,late,S.head,S.seen⟩))[b]?=some x:=λhn hx=>by rw[Tc (λe=>hn e.symm),hx]
  have sub:∀{k' b},lk (dl mp k) k'=some b->k'≠k∧lk mp k'=some b:=λ{k' b} hb=>by
    rw[oZ hn']at hb
    by_cases c:k'=k
    · rw[SN c]at hb;cases hb
    · rw[SM c]at hb;exact⟨c,hb⟩
  exact { w := Tu hl, a := up L.wa.symm L.a, t := up L.wt.symm L.t, wa := L.wa, wt := L.wt, at' := L.at', keys := Af _ _ _ L.keys, byn := L.byn, binj := L.binj
          pr:=λk' b hb=>by
            obtain⟨c,hb⟩:=sub hb
            obtain⟨p,h1,h2,h3⟩:=L.pr k' b hb
            exact⟨p,by show lk (dl S.prs k) k'=_;rw[oZ hn,SM c];exact h1,up h3.1 h2,h3⟩
          by':=λl e he=>by
            obtain⟨zs,h1,⟨sp,h2,h3⟩,h4⟩:=L.by' l e he
            exact⟨zs,h1,⟨sp,up h4.1 h2,h3⟩,h4⟩
          pinj:=λk1 k2 b h1 h2=>L.pinj k1 k2 b (sub h1).2 (sub h2).2
          pb:=λk' b l e hb he=>L.pb k' b l e (sub hb).2 he}
end
def qa(A:Ar)(T:Tr)(S:WS)(k:Int):Int:=if gt A k=0 then 20 else if(lk S.prs k).isSome=true then 21 else if(au A k).any (λl=>!decide (ay l ((T.marks.length:Int) -1)=0))=true then 10 else 0
def o5(A:Ar)(T:Tr)(S:WS)(k:Int):WS:=if qa A T S k=0 then⟨pt S.prs k ⟨au A k,0,0⟩,S.byl,pt S.late k (aY ((lk S.late k).getD 0+1)),S.head,S.seen⟩else S
def Jz:Sch:=
 let g:Sch:=.fork [(13,.done)]
 let l:Sch:=.fork [(12,g)]
 let e:Sch:=.fork [(9,.take 10 (.take 11 g))]
 let h:Sch:=.fork [(9,.take 10 (.take 11 l)),(12,e)]
 let i:Sch:=.fork [(8,e)]
 let m:Sch:=.fork [(8,h),(12,i)]
 let f:Sch:=.fork [(4,e)]
 let j:Sch:=.fork [(4,h),(12,f)]
 let k:Sch:=.fork [(4,i),(8,f)]
 let n:Sch:=.fork [(4,m),(8,j),(12,k)]
 let a:Sch:=.fork [(3,f)]
 let b:Sch:=.fork [(3,j),(12,a)]
 let c:Sch:=.fork [(3,k),(8,a)]
 let d:Sch:=.fork [(3,n),(8,b),(12,c)]
 .take 0 (.take 1 (.take 2 (.take 5 (.take 6 (.take 7 d)))))
theorem CB(h:List (List SV))(bw ba bt:Nat)(mp:List (Int×Nat))(mb:List (Int×By))(A:Ar)(T:Tr)(S:WS)(L:LayW h bw ba bt mp mb A T S)(hk:j9 A)(O:A.row.length<=1000000)(W:T.marks.length<=1000000)(s:T.lits.length<=1000000)(k:Int):
 ax Tryz.prog 128 [.ptr bw 0,ab k] h (λr h'=>r=.pv (ab (qa A T S k))∧∃mp',LayW h' bw ba bt mp' mb A T (o5 A T S k)∧Ext h h' (aR bw bt mp mb) (aR bw bt mp' mb)):=by
 refine cI [8] [.tmp 4] aC Tryz.func128 ?_;obtain⟨i,j⟩:=SG.1 L.w;have kM:=ud h bw ba bt _ L.w;have Y:=Jy h ba A L.a hk O k;simp;refine am.intro kM ?_;rintro _ q ⟨e,rfl⟩;rw[e];clear e q;simp[i,j,ce];refine am.intro Y ?_;rintro _ q ⟨e,rfl⟩;rw[e];clear e q
 by_cases c1:gt A k=0
 .have o:qa A T S k=20:=by unfold qa;rw[SN c1]
  have F:o5 A T S k=S:=by unfold o5;rw[o];rfl
  rw[o,F];simp[c1];exact⟨mp,L,Ext.refl _ _⟩
 have v:isA A k=true:=by
  unfold gt at c1
  by_cases c:isA A k=true
  .exact c
  .rw[SM c]at c1;exact absurd rfl c1
 cases hp:lk mp k with
 |some b=>
  obtain⟨p,I,_⟩:=L.pr k b hp;have o:qa A T S k=21:=by unfold qa;rw[SM c1,I];rfl
  have F:o5 A T S k=S:=by unfold o5;rw[o];rfl
  rw[o,F];simp[c1,i,j,ce,hp,uT];exact⟨mp,L,Ext.refl _ _⟩
 |none=>
 have J:lk S.prs k=none:=by
  cases X:lk S.prs k with
  |none=>rfl
  |some p=>obtain⟨b,H,_⟩:=L.some_p X;rw[hp]at H;cases H
 have Z:=wq h ba A L.a hk O k v;simp[c1,i,j,ce,hp,uT];refine am.intro Z ?_;rintro _ q ⟨e,rfl⟩;rw[e];clear e q;simp;obtain⟨G,g⟩:∃G,G=h++[[SV.pv (ab ((T.marks.length:Int) -1))]]:=⟨_,rfl⟩;have L0:LayW G bw ba bt mp mb A T S:=by rw[g];exact L.app _
 have C:Ext h G (aR bw bt mp mb) (aR bw bt mp mb):=by rw[g];exact Ext.app _ _ _
 have hz:=db L.t 2;have f:=λx=>db (L.app [x]).t 2;have kO:=Ae T W s;have kT:=ge T s;have N:aY ((T.marks.length:Int) -1)=(T.marks.length:Int) -1:=ao (by omega) (by omega);obtain⟨z,g2⟩:=SG.1 L0.w;have D:∀x,(h++[x])[bw]?=some (ce ba bt ⟨mp,mb,S.late,S.head,S.seen⟩):=λx=>(L.app [x]).w;refine bc.meet Jz ⟨[(0,.pv (.ptr bw 0)),(1,.pv (ab k)),(5,.pv (.seq false 1 (ae (au A k)))),(6,.pv (.ptr h.length 0))],G⟩ (by kernel_rfl) ?_ ?_
 .simp[Jz,i,j,ce,hz,D,f]
  repeat' first
   |refine And.intro ?_ ?_
   |(refine am.introP kO ?_;simp[i,j,ce,hz,D,f,N])
   |(refine am.introP kT ?_;simp[i,j,ce,hz,D,f,N])
   |exact ai.keep (by simp) (by rw[g])
 have P:=dQ (au A k) (by have:=fT A hk k;omega) 208 [.iptr 1 [[ab ((T.marks.length:Int) -1)]] 0 0] (λl=>!decide (ay l ((T.marks.length:Int) -1)=0)) (λr=>by simp) rfl (λm=>by simp) (λx _=>Mn x _);have Q:h.length<G.length:=by rw[g];simp
 have n2:G[h.length]'Q=[.pv (ab ((T.marks.length:Int) -1))]:=by simp[g]
 generalize u:(au A k).any (λl=>!decide (ay l ((T.marks.length:Int) -1)=0))=B at P;have U:∀n,aZ G (n+1) h.length 0=.iptr 1 [[ab ((T.marks.length:Int) -1)]] 0 0:=λn=>by simp[aZ,Q,n2,frzC]
 have R:qa A T S k=if B=true then 10 else 0:=by unfold qa;rw[SM c1,J,u];rfl
 have d:o5 A T S k=if qa A T S k=0 then⟨pt S.prs k ⟨au A k,0,0⟩,S.byl,pt S.late k (aY ((lk S.late k).getD 0+1)),S.head,S.seen⟩else S:=rfl;rw[R]at d⊢;generalize o5 A T S k=S2 at*;simp[U];refine ah.intro P ?_;cases B
 .have E:(if false=true then(10:Int)else 0)=0:=rfl;rw[E]at d⊢;rw[SN rfl]at d;subst d;have M:=L0.newP k ⟨au A k,0,0⟩ (pt S.late k (aY ((lk S.late k).getD 0+1)));have K:Ext h ((G++[p6 ⟨au A k,0,0⟩]).set bw (ce ba bt ⟨pt mp k G.length,mb,pt S.late k (aY ((lk S.late k).getD 0+1)),S.head,S.seen⟩)) (aR bw bt mp mb) (aR bw bt (pt mp k G.length) mb):=
   ((C.trans (Ext.app G _ _)).trans (Ext.set bw _ (.inl rfl))).dom λb H hd=>by
    rcases hd with h1|h1|⟨k',h1⟩|h1
    .exact .inl h1
    .exact .inr (.inl h1)
    .rw[bJ]at h1
     by_cases c:k=k'
     .rw[SN c]at h1;cases h1;have:=C.len;omega
     .rw[SM c]at h1;exact .inr (.inr (.inl ⟨k',h1⟩))
    .exact .inr (.inr (.inr h1))
  have V:G.length=h.length+1:=by rw[g];simp
  have b1:∀x,(G++[x])[bw]?=some (ce ba bt ⟨mp,mb,S.late,S.head,S.seen⟩):=λx=>(L0.app [x]).w;have b2:∀x y,(G.set bw y++[x])[bw]?=some y:=λx y=>by rw[SO (by simpa using z),Tu z]
  rw[Vo _ _ z]at M K;simp[z,g2,ce,b1,b2];exact⟨_,M,K⟩
 .have E:(if true=true then(10:Int)else 0)=10:=rfl;rw[E]at d⊢;rw[SM (by omega)]at d;subst d;simp;exact⟨mp,L0,C⟩
def Ob(S:WS)(k:Int):Int:=if(lk S.prs k).isSome=true then 0 else 20
def qU(S:WS)(k:Int):WS:=match lk S.prs k with
 |some p=>⟨dl (fq S k p).prs k,(fq S k p).byl,dl S.late k,S.head,S.seen⟩
 |none=>S
theorem CC(h:List (List SV))(bw ba bt:Nat)(mp:List (Int×Nat))(mb:List (Int×By))(A:Ar)(T:Tr)(S:WS)(L:LayW h bw ba bt mp mb A T S)(hn:(S.prs.map (·.1)).Nodup)(k:Int)
 (hx:∀p,lk S.prs k=some p->(p.x≠0->∃zs,lk S.byl p.x=some zs∧zs≠[])∧(p.y≠0->∃zs,lk (eq S.byl k p.x) p.y=some zs∧zs≠[])) (hz:∀l zs,lk S.byl l=some zs->zs.length<=1000000):
 ax Tryz.prog 116 [.ptr bw 0,ab k] h (λr h'=>r=.pv (ab (Ob S k))∧∃mp' mb',LayW h' bw ba bt mp' mb' A T (qU S k)∧Ext h h' (aR bw bt mp mb) (aR bw bt mp' mb')):=by
 refine cI [] [.tmp 4] aC Tryz.func116 ?_;obtain⟨q,s⟩:=SG.1 L.w;have G:=ud h bw ba bt _ L.w;simp;refine am.intro G ?_;rintro _ d ⟨e,rfl⟩;rw[e];clear e d;cases hp:lk S.prs k with
 |none=>
  have D:lk mp k=none:=by
   cases E:lk mp k with
   |none=>rfl
   |some b=>obtain⟨p,h1,_⟩:=L.pr k b E;rw[hp]at h1;cases h1
  simp[q,s,ce,D,Ob,qU,hp];exact⟨mp,mb,L,Ext.refl _ _⟩
 |some p=>
  obtain⟨b,B,_⟩:=L.some_p hp;obtain⟨i,j⟩:=hx p hp;have F:=ue h bw ba bt mp mb A T S L k p hp i j hz;simp[q,s,ce,B,uT,Ob,qU,hp];refine am.intro F ?_;rintro _ u ⟨rfl,a,o,n⟩;obtain⟨H,I⟩:=SG.1 o.w;have f:((fq S k p).prs.map (·.1)).Nodup:=by show((pt S.prs k _).map (·.1)).Nodup;rw[eP _ hp];exact hn
  have v:=o.delP f k (dl S.late k);have t:Ext h (u.set bw (ce ba bt ⟨dl mp k,a,dl S.late k,(fq S k p).head,(fq S k p).seen⟩)) (aR bw bt mp mb) (aR bw bt (dl mp k) a):=
   (n.trans (Ext.set bw _ (.inl rfl))).dom λc C hd=>by
    have key:∀k' c,lk (dl mp k) k'=some c->∃m,lk mp m=some c:=λk' c h1=>by
     have g:(mp.map (·.1)).Nodup:=by rw[L.keys];exact hn
     rw[oZ g]at h1
     by_cases e:k'=k
     .rw[SN e]at h1;cases h1
     .rw[SM e]at h1;exact⟨k',h1⟩
    rcases hd with h1|h1|⟨k',h1⟩|⟨l,e,h1,d⟩
    .exact .inl h1
    .exact .inr (.inl h1)
    .exact .inr (.inr (.inl (key k' c h1)))
    .exact n.sub c C (.inr (.inr (.inr ⟨l,e,h1,d⟩)))
  have z:(fq S k p).late=S.late:=rfl;simp[H,I,ce,z];exact⟨_,_,v,t⟩
end Go.AX
namespace Go.AX
open Go.Proofs
set_option linter.unusedSimpArgs false
theorem io.to{P:Program}{k0:Nat}{ops:Array Oper}{K:St->Prop}{st:St}(st1:St)(b:ai k0 st st1)(h:io P k0 ops K st1):io P k0 ops K st:=
 io.weak (ι:=Unit) (λ_=>st1) (λg a w h0 hs=>by obtain⟨g',t,s'⟩:=b g a w h0 hs;exact⟨g',(),t,s'⟩) λ_=>h
theorem LayW.other{h:List (List SV)}{bw ba bt:Nat}{mp:List (Int×Nat)}{mb:List (Int×By)}{A:Ar}{T:Tr}{S:WS}(L:LayW h bw ba bt mp mb A T S)(b:Nat)(x:List SV)(hd:¬aR bw bt mp mb b)(ha:b≠ba):LayW (h.set b x) bw ba bt mp mb A T S:=by
  have up:∀{c:Nat}{y:List SV},b≠c->h[c]?=some y->(h.set b x)[c]?=some y:=λhn hx=>by rw[Tc hn,hx]
  exact { w := up (λ e => hd (.inl e)) L.w, a := up ha L.a, t := up (λ e => hd (.inr (.inl e))) L.t, wa := L.wa, wt := L.wt, at' := L.at', keys := L.keys, pinj := L.pinj, byn := L.byn, binj := L.binj, pb := L.pb
          pr:=λk c hc=>by obtain⟨p,h1,h2,h3⟩:=L.pr k c hc;exact⟨p,h1,up (λe=>hd (.inr (.inr (.inl ⟨k,e▸hc⟩)))) h2,h3⟩
          by':=λl e he=>by
            obtain⟨zs,h1,⟨sp,h2,h3⟩,h4⟩:=L.by' l e he
            exact⟨zs,h1,⟨sp,up (λe2=>hd (.inr (.inr (.inr ⟨l,e,he,e2.symm⟩)))) h2,h3⟩,h4⟩}
theorem mem_keys{α:Type}:∀{l:List (Int×α)}{k:Int},(lk l k).isSome=true↔k∈l.map (·.1)
 |[],k=>by simp[lk]
 |(j,x)::l,k=>by
  rw[lk,Th,Tp]
  by_cases e:j=k
  .rw[SN e];simp[e]
  .rw[SM e,mem_keys];constructor
   .exactλh=>.inr h
   .rintro(h|h)
    .exact absurd h.symm e
    .exact h
theorem ui{α:Type}:∀(l:List (Int×α))(k:Int),(dl l k).map (·.1)=(l.map (·.1)).erase k
 |[],_=>rfl
 |(j,x)::l,k=>by
  rw[dl,Th,List.erase_cons]
  by_cases e:j=k
  .rw[SN e,SN (by simpa using e)]
  .rw[SM e,SM (by simpa using e),Th,ui l k]
theorem Ag{l:List Int}(h:l.Nodup):(bD l).Nodup:=by
 unfold bD;exact(Vd l _).nodup_iff.2 h
theorem bA{n:Nat}(hn:n<=100000){l:Int}(h:ay l n=0):l≠0∧-(n:Int)<=l∧l<=n∧1<=af l∧af l<=n∧af l=fp l∧0<=aX l∧aY (-l)=-l:=by
 obtain⟨a,b,c⟩:=(dm (by omega)).1 h;obtain⟨d,e,f,g⟩:=pE (by omega) h;exact⟨a,b,c,d,e,g,by rw[gP];exact f,ao (by omega) (by omega)⟩
theorem rx{n:Nat}(hn:n<=100000){l:Int}(h:ay l n=0):ay (-l) n=0:=by
 obtain⟨a,b,c⟩:=(dm (by omega)).1 h;exact(dm (by omega)).2 ⟨by omega,by omega,by omega⟩
theorem mT{n:Nat}(hn:n<=100000){x y:Int}(hx:ay x n=0)(hy:ay y n=0):af x=af y↔x=y∨x=-y:=by
 obtain⟨_,_,_,_,_,a,_⟩:=bA hn hx;obtain⟨_,_,_,_,_,b,_⟩:=bA hn hy;rw[a,b];unfold fp;constructor
 .intro h;split at h<;>split at h<;>omega
 .intro h;split<;>split<;>omega
def mU(beg:List Int)(i:Nat):Int:=((beg.filter λb=>decide (b<=(i:Int))).length:Nat)
def xV(l:Int):Int:=if l<0 then-1 else 1
structure TMk (n:Nat) (T:Tr):Prop where
  hn:n<=100000
  len:T.marks.length=n+1
  chk:∀y∈T.lits,ay y n=0
  nd:(T.lits.map af).Nodup
  mark:∀i (hi:i<T.lits.length),(bH T (af T.lits[i])).v=xV T.lits[i]∧(bH T (af T.lits[i])).lev=mU T.beg i∧(bH T (af T.lits[i])).pla=i
  free:∀v:Int,v∉T.lits.map af->(bH T v).v=0
structure TOk (n:Nat) (T:Tr):Prop extends TMk n T where
  bnd:∀b∈T.beg,0<=b∧b<T.lits.length
  rise:T.beg.Pairwise (·<·)
section
variable {n : Nat} {T : Tr}
theorem TMk.okT(h:TMk n T):T.ok:=⟨by rw[h.len];omega,by rw[h.len];have:=h.hn;omega⟩
theorem TMk.vars(h:TMk n T):(T.marks.length:Int) -1=n:=by rw[h.len];omega
theorem TMk.few(h:TMk n T):T.lits.length<=n:=by
 have h1:((T.lits.map af).map Int.toNat).Nodup:=by
  refine UC.2 (h.nd.imp_of_mem ?_);intro a b c g d e;obtain⟨x,hx,rfl⟩:=SY.1 c;obtain⟨y,hy,rfl⟩:=SY.1 g;have:=(bA h.hn (h.chk x hx)).2.2.2.1;have:=(bA h.hn (h.chk y hy)).2.2.2.1;exact d (by omega)
 have f:(T.lits.map af).map Int.toNat⊆List.range' 1 n:=by
  intro v i;obtain⟨a,c,rfl⟩:=SY.1 i;obtain⟨x,hx,rfl⟩:=SY.1 c;obtain⟨_,_,_,p,q,_⟩:=bA h.hn (h.chk x hx);rw[List.mem_range'_1];omega
 have:=(dx _ _ h1 f);simpa using this
theorem TMk.inj(h:TMk n T){i j:Nat}(hi:i<T.lits.length)(hj:j<T.lits.length)(e:af T.lits[i]=af T.lits[j]):i=j:=by
 have hp:=Tv.1 (UC.1 h.nd);rcases UB i j with c|c|c
 .exact absurd e (hp i j hi hj c)
 .exact c
 .exact absurd e.symm (hp j i hj hi c)
theorem TMk.one(h:TMk n T){y:Int}(hy:y∈T.lits)(b:-y∈T.lits):False:=by
 obtain⟨i,hi,c⟩:=S6 hy;obtain⟨j,hj,d⟩:=S6 b;have e:af T.lits[i]=af T.lits[j]:=by rw[c,d,dF]
 have a:i=j:=h.inj hi hj e;subst a;have:=(bA h.hn (h.chk y hy)).1;omega
theorem TMk.val(h:TMk n T){l:Int}(b:ay l n=0):cz T l=if l∈T.lits then 1 else if-l∈T.lits then-1 else 0:=by
 unfold cz;rw[h.vars,SM (by simp[b])];have f:aY (-1)=-1:=by decide
 have g:aY (- -1)=1:=by decide
 have j:aY (-0)=0:=by decide
 have l0:=(bA h.hn b).1
 by_cases c:l∈T.lits
 .obtain⟨i,hi,e⟩:=S6 c;have a:=(h.mark i hi).1;rw[e]at a;rw[SN c,a];unfold xV
  by_cases d:l<0
  .rw[SN d,SN d,g]
  .rw[SM d,SM d]
 rw[SM c]
 by_cases c2:-l∈T.lits
 .obtain⟨i,hi,e⟩:=S6 c2;have a:=(h.mark i hi).1;rw[e,dF]at a;rw[SN c2,a];unfold xV
  by_cases d:l<0
  .rw[SN d,SM (by omega),f]
  .rw[SM d,SN (by omega)]
 .rw[SM c2,h.free]
  .split
   .exact j
   .rfl
  .intro a;obtain⟨x,hx,e⟩:=SY.1 a;rcases(mT h.hn (h.chk x hx) b).1 e with rfl|rfl
   .exact c hx
   .exact c2 hx
theorem TMk.val1(h:TMk n T){l:Int}(a:ay l n=0):cz T l=1↔l∈T.lits:=by
 rw[h.val a];split
 .simp_all
 .split<;>simp_all
theorem TMk.valm(h:TMk n T){l:Int}(a:ay l n=0):cz T l=-1↔-l∈T.lits:=by
 rw[h.val a];split
 .rename_i c;simp;intro c2;exact h.one c c2
 .split<;>simp_all
theorem TMk.val0(h:TMk n T){l:Int}(a:ay l n=0):cz T l=0↔l∉T.lits∧-l∉T.lits:=by
 rw[h.val a];split
 .simp_all
 .split<;>simp_all
theorem TMk.may(h:TMk n T)(l:Int):fX T l=0↔ay l n=0∧l∉T.lits∧-l∉T.lits:=by
 unfold fX;rw[h.vars]
 by_cases c:ay l n=0
 .rw[SM (by simp[c])];have f:=h.val c;have e:(bH T (af l)).v=0↔cz T l=0:=by
   unfold cz;rw[h.vars,SM (by simp[c])]
   by_cases d:l<0
   .rw[SN d];constructor
    .intro e;rw[e];decide
    .intro e;have b:-1<=(bH T (af l)).v∧(bH T (af l)).v<=1:=by
      by_cases m:af l∈T.lits.map af
      .obtain⟨x,hx,a⟩:=SY.1 m;obtain⟨i,hi,rfl⟩:=S6 hx;rw[←a,(h.mark i hi).1];unfold xV;split<;>omega
      .rw[h.free _ m];omega
     rw[ao (by omega) (by omega)]at e;omega
   .rw[SM d]
  rw[←h.val0 c,←e]
  by_cases d:(bH T (af l)).v=0
  .simp[c,d]
  .simp[c,d]
 .rw[SN c];simp[c]
theorem TOk.new(hn:n<=100000):TOk n (l8 n)where
 hn:=hn
 len:=by simp[l8]
 chk:=by simp[l8]
 nd:=by simp[l8]
 mark:=λi hi=>absurd hi (by simp[l8])
 free:=λv _=>by
  unfold bH l8;rw[SI];simp only[Xm];split<;>rfl
 bnd:=by simp[l8]
 rise:=by simp[l8]
theorem JA{beg:List Int}{i:Nat}(h:∀b∈beg,b<=i):mU beg i=beg.length:=by
 unfold mU;rw[Uw.2 (λb a=>by simpa using h b a)]
theorem ki(T:Tr)(l rea:Int)(h1:1<=af l)(a:af l<T.marks.length)(v:Int)(b:0<=v):bH (gY T l rea) v=if v=af l then⟨xV l,T.beg.length,rea,T.lits.length⟩else bH T v:=by
 unfold bH gY;simp only[SI,Ts]
 by_cases c:v=af l
 .subst c;rw[SN rfl,SN rfl,SN (by omega)];rfl
 .rw[SM (by omega),SM c]
theorem TMk.put(h:TMk n T){l:Int}(s:fX T l=0)(rea:Int)(m:∀b∈T.beg,b<=T.lits.length):TMk n (gY T l rea):=by
 obtain⟨q,t,u⟩:=(h.may l).1 s;obtain⟨_,_,_,o,w,_⟩:=bA h.hn q;have d:af l<T.marks.length:=by rw[h.len];omega
 have g:af l∉T.lits.map af:=λp=>by
  obtain⟨x,hx,e⟩:=SY.1 p;rcases(mT h.hn (h.chk x hx) q).1 e with rfl|rfl
  .exact t hx
  .exact u hx
 have k:∀y∈T.lits,0<=af y:=λy hy=>by have:=(bA h.hn (h.chk y hy)).2.2.2.1;omega
 refine⟨h.hn,by simp[gY,h.len],?_,?_,?_,?_⟩
 .intro y hy;rcases S7.1 hy with hy|hy
  .exact h.chk y hy
  .simp at hy;subst hy;exact q
 .show((T.lits++[l]).map af).Nodup;rw[TA,VU];refine⟨h.nd,by simp,λa r b m e=>?_⟩;simp at m;subst m;subst e;exact g r
 .have key:∀i (hi:i<(T.lits++[l]).length),(bH (gY T l rea) (af (T.lits++[l])[i])).v=xV (T.lits++[l])[i]∧(bH (gY T l rea) (af (T.lits++[l])[i])).lev=mU T.beg i∧(bH (gY T l rea) (af (T.lits++[l])[i])).pla=i:=by
   intro i hi;have j:=hi;rw[SX]at j;simp only[To,List.length_nil]at j
   by_cases c:i<T.lits.length
   .rw[TB c,ki T l rea o d _ (k _ (SS c)),SM (λe:af T.lits[i]=af l=>g (e▸UQ (SS c)))];exact h.mark i c
   .have:i=T.lits.length:=by omega
    subst this;rw[Vt (SQ _)];simp only[UW,Vp];rw[ki T l rea o d _ (by omega),SN rfl];exact⟨rfl,(JA m).symm,rfl⟩
  exact key
 .intro v p;have f:v∉(T.lits++[l]).map af:=p;rw[TA,S7,XF]at f;simp only[Th,UL,Tt]at f
  by_cases c:0<=v
  .rw[ki T l rea o d v c,SM f.2];exact h.free v f.1
  .have h0:=h.free 0 (λe=>by obtain⟨x,hx,e⟩:=SY.1 e;have:=(bA h.hn (h.chk x hx)).2.2.2.1;omega);have e:∀T':Tr,bH T' v=bH T' 0:=λT'=>by unfold bH;rw[show v.toNat=(0:Int).toNat by omega]
   rw[e,ki T l rea o d 0 (by omega),SM (by omega)];exact h0
theorem TOk.imp(h:TOk n T){l:Int}(c:fX T l=0)(rea:Int):TOk n (gY T l rea):=
 {h.toTMk.put c rea (λb a=>by have:=(h.bnd b a).2;omega)with
  bnd:=λb a=>by have:=h.bnd b a;show 0<=b∧b<((T.lits++[l]).length:Int);simp;omega
  rise:=h.rise}
theorem TMk.beg(h:TMk n T)(e:∀b∈T.beg,b<T.lits.length):TMk n (qF T)where
 hn:=h.hn
 len:=h.len
 chk:=h.chk
 nd:=h.nd
 mark:=λi hi=>by
  obtain⟨a,b,c⟩:=h.mark i hi;refine⟨a,b.trans ?_,c⟩;have d:i<T.lits.length:=hi;unfold mU qF;simp only[Uv];rw[TQ,SM (by simp;omega)];simp
 free:=h.free
theorem TOk.dec(h:TOk n T)(l:Int):TOk n (ip T l):=by
 unfold ip;split
 .rename_i c;have h1:=h.toTMk.beg (λb d=>(h.bnd b d).2);have e:∀b∈(qF T).beg,0<=b∧b<=T.lits.length:=λb d=>by
   rcases S7.1 d with d|d
   .have:=h.bnd b d;omega
   .simp at d;omega
  exact{h1.put (l:=l) c (-1) (λb d=>(e b d).2)with
   bnd:=λb d=>by have:=e b d;show 0<=b∧b<((T.lits++[l]).length:Int);simp;omega
   rise:=by
    show(T.beg++[(T.lits.length:Int)]).Pairwise (·<·);rw[Vz];refine⟨h.rise,by simp,λa f b d=>?_⟩;simp at d;have:=(h.bnd a f).2;omega}
 .exact h
theorem TMk.pop(h:TMk n T){m:Nat}(r:T.lits.length=m+1):TMk n (lL T):=by
 have a:T.lits.getD (T.lits.length -1) 0=T.lits[m]:=by
  have e:T.lits.length -1=m:=by omega
  rw[e,SI,SH (by omega),Tx]
 have f:m<T.lits.length:=by omega
 obtain⟨_,_,_,s,t,_⟩:=bA h.hn (h.chk _ (SS f));have d:∀v:Int,0<=v->bH (lL T) v=if v=af T.lits[m]then⟨0,0,0,0⟩else bH T v:=λv j=>by
  unfold bH lL;rw[a];simp only[SI,Ts]
  by_cases c:v=af T.lits[m]
  .subst c;rw[SN rfl,SN rfl,SN (by rw[h.len];omega)];rfl
  .rw[SM (by omega),SM c]
 have b:(lL T).lits=T.lits.take m:=by unfold lL;rw[r];rfl
 have g:∀y∈T.lits,0<=af y:=λy hy=>by have:=(bA h.hn (h.chk y hy)).2.2.2.1;omega
 refine⟨h.hn,by simp[lL,h.len],?_,?_,?_,?_⟩
 .intro y hy;rw[b]at hy;exact h.chk y (TL hy)
 .rw[b];exact h.nd.sublist ((Vi m T.lits).map af)
 .intro i hi;have p:i<m:=by rw[b,SU]at hi;omega
  have o:(lL T).lits[i]=T.lits[i]'(by omega):=by simp only[b];exact Ua
  rw[o,d _ (g _ (SS _)),SM (λe=>by have:=h.inj (by omega) f e;omega)];exact h.mark i (by omega)
 .intro v j;rw[b]at j;have key:∀v:Int,0<=v->v∉(T.lits.take m).map af->(bH (lL T) v).v=0:=λv c j=>by
   rw[d v c];split
   .rfl
   .rename_i k;refine h.free v λhx=>?_;obtain⟨x,l,e⟩:=SY.1 hx;subst e;obtain⟨i,hi,e⟩:=S6 l;subst e
    by_cases q:i=m
    .subst q;exact k rfl
    .exact j (SY.2 ⟨T.lits[i],by rw[Ug];exact⟨i,by omega,rfl⟩,rfl⟩)
  by_cases c:0<=v
  .exact key v c j
  .have e:bH (lL T) v=bH (lL T) 0:=by unfold bH;rw[show v.toNat=(0:Int).toNat by omega]
   rw[e];refine key 0 (by omega) λhx=>?_;obtain⟨x,hx,e⟩:=SY.1 hx;have:=(bA h.hn (h.chk x (TL hx))).2.2.2.1;omega
theorem TMk.popN(h:TMk n T):∀j,j<=T.lits.length->TMk n (popN T j)
 |0,_=>h
 |j+1,hj=>by
  have a:=TMk.popN h j (by omega);rw[Go.AX.popN];refine a.pop (m:=T.lits.length -j -1) ?_;rw[d6,SU];omega
theorem TOk.back(h:TOk n T){k:Nat}(hk:k<T.beg.length):TOk n (cF T k)∧(cF T k).lits=T.lits.take (T.beg[k]).toNat∧(cF T k).beg=T.beg.take k:=by
 have f:T.beg.getD k 0=T.beg[k]:=by rw[SI,SH hk];rfl
 obtain⟨b1,b2⟩:=h.bnd _ (SS hk);have g:(cF T k).lits=T.lits.take (T.beg[k]).toNat:=by
  unfold cF;rw[f,d6];congr 1;omega
 have m:=h.toTMk.popN (T.lits.length -(T.beg[k]).toNat) (by omega);have d:(Go.AX.popN T (T.lits.length -(T.beg[k]).toNat)).lits=T.lits.take (T.beg[k]).toNat:=by rw[d6];congr 1;omega
 have l:∀v,bH (cF T k) v=bH (Go.AX.popN T (T.lits.length -(T.beg[k]).toNat)) v:=λv=>by unfold bH cF;rw[f]
 have q:=Tv.1 h.rise;have o:∀b∈T.beg.take k,0<=b∧b<T.beg[k]:=λb e=>by
  obtain⟨i,hi,rfl⟩:=Ug.1 e;exact⟨(h.bnd _ (SS _)).1,q i k (by omega) hk (by omega)⟩
 have a:(cF T k).lits.length=(T.beg[k]).toNat:=by rw[g,SU];omega
 refine⟨{hn:=h.hn,len:=?_,chk:=?_,nd:=?_,mark:=?_,free:=?_,bnd:=?_,rise:=?_},g,rfl⟩
 .unfold cF;rw[f];exact m.len
 .intro y hy;rw[g]at hy;exact h.chk y (TL hy)
 .rw[g];exact h.nd.sublist ((Vi _ T.lits).map af)
 .intro i hi;have p:i<(Go.AX.popN T (T.lits.length -(T.beg[k]).toNat)).lits.length:=by rw[d,←g];exact hi
  have r:(cF T k).lits[i]=(Go.AX.popN T (T.lits.length -(T.beg[k]).toNat)).lits[i]:=by simp only[g,d]
  rw[l,r];obtain⟨t,u,w⟩:=m.mark i p;refine⟨t,u.trans ?_,w⟩;rw[uj];unfold mU;congr 1;rw[←TY k T.beg,Uv];have:((T.beg.take k++T.beg.drop k).take k)=T.beg.take k:=by rw[TY]
  show _=((cF T k).beg.filter _).length;have e:(cF T k).beg=T.beg.take k:=rfl;rw[e];have hd:(T.beg.drop k).filter (λb=>decide (b<=(i:Int)))=[]:=by
   rw[Uz];intro b e;obtain⟨j,hj,rfl⟩:=Wl.1 e;have:T.beg[k]<=T.beg[k+j]:=by
    by_cases c:j=0
    .subst c;exact Vc _
    .exact Int.le_of_lt (q k (k+j) hk (by omega) (by omega))
   rw[a]at hi;simp;omega
  rw[hd,Ui]
 .intro v s;rw[l];refine m.free v ?_;rw[d,←g];exact s
 .intro b e;have:=o b e;rw[a];omega
 .exact h.rise.sublist (Vi _ _)
end
def bF(byl:List (Int×List Int))(l:Int):List Int:=(lk byl l).getD []
theorem Ec{byl:List (Int×List Int)}{l:Int}{zs:List Int}(h:lk byl l=some zs):bF byl l=zs:=by unfold bF;rw[h];rfl
theorem QU{byl:List (Int×List Int)}{l k:Int}(h:k∈bF byl l):∃zs,lk byl l=some zs∧k∈zs:=by
 unfold bF at h;cases a:lk byl l with
 |none=>rw[a]at h;cases h
 |some zs=>rw[a]at h;exact⟨zs,rfl,h⟩
theorem jE(byl:List (Int×List Int))(k l m:Int):bF (eq byl k l) m=if l≠0∧m=l then bk (λx=>decide (x=k)) (bF byl l)else bF byl m:=by
 unfold bF eq
 by_cases c:l=0
 .rw[SN c,SM (λh=>h.1 c)]
 .rw[SM c,bJ]
  by_cases d:m=l
  .rw[SN d.symm,SN ⟨c,d⟩];rfl
  .rw[SM (λe=>d e.symm),SM (λh=>d h.2)]
theorem JB{k j:Int}{l:List Int}:j∈bk (λx=>decide (x=k)) l↔j∈l∧j≠k:=by
 unfold bk;rw[TE];simp
theorem kj{byl:List (Int×List Int)}{k l m j:Int}:j∈bF (eq byl k l) m↔j∈bF byl m∧¬(l≠0∧m=l∧j=k):=by
 rw[jE]
 by_cases c:l≠0∧m=l
 .rw[SN c,JB,c.2];constructor
  .exactλh=>⟨h.1,λq=>h.2 q.2.2⟩
  .exactλh=>⟨h.1,λq=>h.2 ⟨c.1,rfl,q⟩⟩
 .rw[SM c];exact⟨λh=>⟨h,λq=>c ⟨q.1,q.2.1⟩⟩,λh=>h.1⟩
theorem qb{byl:List (Int×List Int)}(h:∀l,(bF byl l).Nodup)(k l m:Int):(bF (eq byl k l) m).Nodup:=by
 rw[jE];split
 .exact(h l).sublist VD
 .exact h m
theorem nz(byl:List (Int×List Int))(k l m:Int):bF (gL byl k l) m=if m=l then bF byl l++[k]else bF byl m:=by
 unfold bF gL;rw[bJ]
 by_cases d:m=l
 .rw[SN d,SN d.symm];rfl
 .rw[SM d,SM (λe=>d e.symm)]
theorem qc{byl:List (Int×List Int)}{k l m j:Int}:j∈bF (gL byl k l) m↔j∈bF byl m∨(m=l∧j=k):=by
 rw[nz]
 by_cases d:m=l
 .rw[SN d,d];simp
 .rw[SM d];simp[d]
theorem xW{byl:List (Int×List Int)}(h:∀l,(bF byl l).Nodup){k l:Int}(hk:k∉bF byl l)(m:Int):(bF (gL byl k l) m).Nodup:=by
 rw[nz];split
 .rw[VU];refine⟨h l,by simp,λa d b c e=>?_⟩;simp at c;subst c;subst e;exact hk d
 .exact h m
structure Wch (n:Nat) (S:WS):Prop where
  nd:(S.prs.map (·.1)).Nodup
  lits:∀k p,lk S.prs k=some p->(0<=k∧k<=20000000)∧p.lits.Nodup∧p.lits.length<=1000∧∀y∈p.lits,ay y n=0
  lnd:(S.late.map (·.1)).Nodup
  lpr:∀k∈S.late.map (·.1),∃p,lk S.prs k=some p
  two:∀k p,lk S.prs k=some p->(k∈S.late.map (·.1)∧p.x=0∧p.y=0)∨(k∉S.late.map (·.1)∧p.x≠p.y∧p.x∈p.lits∧p.y∈p.lits)
  bnd:∀l,(bF S.byl l).Nodup
  mem:∀l k,k∈bF S.byl l↔l≠0∧∃p,lk S.prs k=some p∧(p.x=l∨p.y=l)
theorem qV{α:Type}{l:List (Int×α)}{k:Int}{x:α}(h:lk l k=some x):k∈l.map (·.1):=mem_keys.1 (by rw[h];rfl)
theorem qd{α:Type}{l:List (Int×α)}(h:(l.map (·.1)).Nodup)(k x:Int):x∈(dl l k).map (·.1)↔x∈l.map (·.1)∧x≠k:=by
 rw[ui,h.mem_erase_iff];exact⟨λq=>⟨q.2,q.1⟩,λq=>⟨q.2,q.1⟩⟩
theorem Ed{α:Type}{l:List (Int×α)}(h:(l.map (·.1)).Nodup)(k:Int):((dl l k).map (·.1)).Nodup:=by rw[ui];exact h.erase k
section
variable {n : Nat} {S : WS}
theorem Wch.pos(h:Wch n S){k:Int}{p:Pr}(hp:lk S.prs k=some p)(hk:k∉S.late.map (·.1)):p.x≠0∧p.y≠0∧p.x≠p.y∧p.x∈p.lits∧p.y∈p.lits:=by
 rcases h.two k p hp with⟨a,_⟩|⟨_,a,b,c⟩
 .exact absurd a hk
 .have d:=(h.lits k p hp).2.2.2;have z:∀y∈p.lits,y≠0:=λy hy e=>by
   have:=d y hy;rw[e]at this;unfold ay sj at this;split at this
   .omega
   .simp at this
  exact⟨z _ b,z _ c,a,b,c⟩
theorem Wch.zer(h:Wch n S){k:Int}{p:Pr}(hp:lk S.prs k=some p)(hk:k∈S.late.map (·.1)):p.x=0∧p.y=0:=by
 rcases h.two k p hp with⟨_,a⟩|⟨a,_⟩
 .exact a
 .exact absurd hk a
theorem Wch.nby(h:Wch n S){k:Int}{p:Pr}(hp:lk S.prs k=some p)(hk:k∈S.late.map (·.1))(l:Int):k∉bF S.byl l:=λb=>by
 obtain⟨l0,q,a,e⟩:=(h.mem l k).1 b;rw[hp]at a;cases a
 obtain⟨c,d⟩:=h.zer hp hk;rw[c,d]at e;omega
theorem Wch.entry(h:Wch n S){k:Int}{p:Pr}(hp:lk S.prs k=some p){l:Int}(l0:l≠0)(a:p.x=l∨p.y=l):∃zs,lk S.byl l=some zs∧k∈zs:=QU ((h.mem l k).2 ⟨l0,p,hp,a⟩)
theorem Wch.hz(h:Wch n S)(b:S.prs.length<=1000000):∀l zs,lk S.byl l=some zs->zs.length<=1000000:=λl zs hz=>by
 have e:=Ec hz;have h1:=h.bnd l;rw[e]at h1;have a:zs⊆S.prs.map (·.1):=λk hk=>by
  obtain⟨_,p,hp,_⟩:=(h.mem l k).1 (by rw[e];exact hk);exact qV hp
 have:=(dx _ _ h1 a);rw[SZ]at this;omega
theorem dH{α:Type}{l:List (Int×α)}{k j:Int}{y:α}(hj:j≠k):lk (pt l k y) j=lk l j:=by rw[bJ,SM (λe=>hj e.symm)]
theorem dW{α:Type}{l:List (Int×α)}{k:Int}{y:α}:lk (pt l k y) k=some y:=by rw[bJ,SN rfl]
theorem Wch.toLate(h:Wch n S){k:Int}{p:Pr}(hp:lk S.prs k=some p)(hk:k∉S.late.map (·.1))(v:Int):Wch n ⟨(fq S k p).prs,(fq S k p).byl,pt S.late k v,S.head,S.seen⟩:=by
 obtain⟨s,y0,r,hx,hy⟩:=h.pos hp hk;have f:(pt S.prs k ⟨p.lits,0,0⟩).map (·.1)=S.prs.map (·.1):=eP _ hp;have g:∀j,j∈(pt S.late k v).map (·.1)↔j=k∨j∈S.late.map (·.1):=λj=>mR _ _ _ _;refine⟨?_,?_,?_,?_,?_,?_,?_⟩
 .show((pt S.prs k _).map (·.1)).Nodup;rw[f];exact h.nd
 .intro j q d;have d:lk (pt S.prs k ⟨p.lits,0,0⟩) j=some q:=d
  by_cases e:j=k
  .subst e;rw[dW]at d;cases d;exact h.lits j p hp
  .rw[dH e]at d;exact h.lits j q d
 .exact kh _ _ _ h.lnd
 .intro j hj;show∃q,lk (pt S.prs k ⟨p.lits,0,0⟩) j=some q
  by_cases e:j=k
  .subst e;exact⟨_,dW⟩
  .rw[dH e];rcases(g j).1 hj with c|c
   .exact absurd c e
   .exact h.lpr j c
 .intro j q d;have d:lk (pt S.prs k ⟨p.lits,0,0⟩) j=some q:=d;show(j∈(pt S.late k v).map (·.1)∧_)∨(j∉(pt S.late k v).map (·.1)∧_);rw[g]
  by_cases e:j=k
  .subst e;rw[dW]at d;cases d;exact .inl ⟨.inl rfl,rfl,rfl⟩
  .rw[dH e]at d;rcases h.two j q d with⟨a,b⟩|⟨a,b⟩
   .exact .inl ⟨.inr a,b⟩
   .exact .inr ⟨λc=>c.elim e a,b⟩
 .exactλm=>qb (λm=>qb h.bnd k p.x m) k p.y m
 .intro m j;show j∈bF (eq (eq S.byl k p.x) k p.y) m↔m≠0∧∃q,lk (pt S.prs k ⟨p.lits,0,0⟩) j=some q∧_;rw[kj,kj,h.mem]
  by_cases e:j=k
  .subst e;rw[dW];constructor
   .rintro⟨⟨⟨i,q,d,c⟩,l⟩,o⟩;rw[hp]at d;cases d
    rcases c with c|c
    .exact absurd ⟨s,c.symm,rfl⟩ l
    .exact absurd ⟨y0,c.symm,rfl⟩ o
   .rintro⟨i,q,d,c⟩;cases d
    simp at c;exact absurd c.symm i
  .rw[dH e];exact⟨λq=>q.1.1,λq=>⟨⟨q,λz=>e z.2.2⟩,λz=>e z.2.2⟩⟩
theorem Wch.watch(h:Wch n S){k:Int}{p:Pr}(hp:lk S.prs k=some p)(hk:k∈S.late.map (·.1)){a b:Int}(i:a≠b)(o:a∈p.lits)(r:b∈p.lits):Wch n ⟨pt S.prs k ⟨p.lits,a,b⟩,gL (gL S.byl k a) k b,dl S.late k,S.head,S.seen⟩:=by
 have g:(pt S.prs k ⟨p.lits,a,b⟩).map (·.1)=S.prs.map (·.1):=eP _ hp;have l:∀j,j∈(dl S.late k).map (·.1)↔j∈S.late.map (·.1)∧j≠k:=λj=>qd h.lnd k j;have hz:∀y∈p.lits,y≠0:=λy hy e=>by
  have:=(h.lits k p hp).2.2.2 y hy;rw[e]at this;unfold ay sj at this;split at this
  .omega
  .simp at this
 refine⟨?_,?_,?_,?_,?_,?_,?_⟩
 .show((pt S.prs k _).map (·.1)).Nodup;rw[g];exact h.nd
 .intro j q f;have f:lk (pt S.prs k ⟨p.lits,a,b⟩) j=some q:=f
  by_cases e:j=k
  .subst e;rw[dW]at f;cases f;exact h.lits j p hp
  .rw[dH e]at f;exact h.lits j q f
 .exact Ed h.lnd k
 .intro j hj;obtain⟨h1,s⟩:=(l j).1 hj;show∃q,lk (pt S.prs k ⟨p.lits,a,b⟩) j=some q;rw[dH s];exact h.lpr j h1
 .intro j q f;have f:lk (pt S.prs k ⟨p.lits,a,b⟩) j=some q:=f;show(j∈(dl S.late k).map (·.1)∧_)∨(j∉(dl S.late k).map (·.1)∧_);rw[l]
  by_cases e:j=k
  .subst e;rw[dW]at f;cases f;exact .inr ⟨λc=>c.2 rfl,i,o,r⟩
  .rw[dH e]at f;rcases h.two j q f with⟨c,d⟩|⟨c,d⟩
   .exact .inl ⟨⟨c,e⟩,d⟩
   .exact .inr ⟨λz=>c z.1,d⟩
 .intro m;refine xW (λm=>xW h.bnd (h.nby hp hk a) m) ?_ m;rw[qc];rintro(c|c)
  .exact h.nby hp hk b c
  .exact i c.1.symm
 .intro m j;show j∈bF (gL (gL S.byl k a) k b) m↔m≠0∧∃q,lk (pt S.prs k ⟨p.lits,a,b⟩) j=some q∧_;rw[qc,qc]
  by_cases e:j=k
  .subst e;rw[dW];constructor
   .rintro((c|c)|c)
    .exact absurd c (h.nby hp hk m)
    .rw[c.1];exact⟨hz a o,_,rfl,.inl rfl⟩
    .rw[c.1];exact⟨hz b r,_,rfl,.inr rfl⟩
   .rintro⟨t,q,f,c⟩;cases f
    rcases c with c|c
    .exact .inl (.inr ⟨c.symm,rfl⟩)
    .exact .inr ⟨c.symm,rfl⟩
  .rw[dH e,h.mem];constructor
   .rintro((c|c)|c)
    .exact c
    .exact absurd c.2 e
    .exact absurd c.2 e
   .exactλc=>.inl (.inl c)
theorem Wch.move(h:Wch n S){k l x:Int}{p:Pr}(hp:lk S.prs k=some p)(l0:l≠0)(i:p.x=l∨p.y=l)(hx:x∈p.lits)(h1:x≠l)(b:x≠p7 l p):Wch n (rR S k l p x):=by
 have hk:k∉S.late.map (·.1):=λhk=>by
  obtain⟨D,E⟩:=h.zer hp hk;rw[D,E]at i;omega
 obtain⟨F,y0,s,o,r⟩:=h.pos hp hk;have hz:x≠0:=λe=>by
  have:=(h.lits k p hp).2.2.2 x hx;rw[e]at this;unfold ay sj at this;split at this
  .omega
  .simp at this
 have f:∀q:Pr,(pt S.prs k q).map (·.1)=S.prs.map (·.1):=λq=>eP _ hp;have w:(jk l p x).lits=p.lits∧(jk l p x).x≠(jk l p x).y∧(jk l p x).x∈p.lits∧(jk l p x).y∈p.lits∧∀m,((jk l p x).x=m∨(jk l p x).y=m)↔(x=m∨(m≠l∧(p.x=m∨p.y=m))):=by
  unfold jk;unfold p7 at b
  by_cases c:p.x=l
  .rw[SN c]at b⊢;refine⟨rfl,b,hx,r,λm=>?_⟩;show(x=m∨p.y=m)↔_;constructor
   .rintro(e|e)
    .exact .inl e
    .exact .inr ⟨λq=>s (by rw[c,e,q]),.inr e⟩
   .rintro(e|⟨g,e|e⟩)
    .exact .inl e
    .exact absurd (e.symm.trans c) g
    .exact .inr e
  .rw[SM c]at b⊢;have hy:p.y=l:=i.elim (λe=>absurd e c) id;refine⟨rfl,λe=>b e.symm,o,hx,λm=>?_⟩;show(p.x=m∨x=m)↔_;constructor
   .rintro(e|e)
    .exact .inr ⟨λq=>c (e.trans q),.inl e⟩
    .exact .inl e
   .rintro(e|⟨g,e|e⟩)
    .exact .inr e
    .exact .inl e
    .exact absurd (e.symm.trans hy) g
 obtain⟨v,A,B,C,u⟩:=w;refine⟨?_,?_,h.lnd,?_,?_,?_,?_⟩
 .show((pt S.prs k _).map (·.1)).Nodup;rw[f];exact h.nd
 .intro j q a;have a:lk (pt S.prs k (jk l p x)) j=some q:=a
  by_cases e:j=k
  .subst e;rw[dW]at a;cases a;rw[v];exact h.lits j p hp
  .rw[dH e]at a;exact h.lits j q a
 .intro j hj;show∃q,lk (pt S.prs k (jk l p x)) j=some q
  by_cases e:j=k
  .subst e;exact⟨_,dW⟩
  .rw[dH e];exact h.lpr j hj
 .intro j q a;have a:lk (pt S.prs k (jk l p x)) j=some q:=a
  by_cases e:j=k
  .subst e;rw[dW]at a;cases a;rw[v];exact .inr ⟨hk,A,B,C⟩
  .rw[dH e]at a;exact h.two j q a
 .intro m;refine xW (λm=>qb h.bnd k l m) ?_ m;rw[kj,h.mem];rintro⟨⟨_,q,a,c⟩,_⟩;rw[hp]at a;cases a
  unfold p7 at b
  by_cases d:p.x=l
  .rw[SN d]at b;rcases c with c|c
   .exact h1 (c.symm.trans d)
   .exact b c.symm
  .rw[SM d]at b;rcases c with c|c
   .exact b c.symm
   .exact h1 (c.symm.trans (i.elim (λe=>absurd e d) id))
 .intro m j;show j∈bF (gL (eq S.byl k l) k x) m↔m≠0∧∃q,lk (pt S.prs k (jk l p x)) j=some q∧_;rw[qc,kj,h.mem]
  by_cases e:j=k
  .subst e;rw[dW];constructor
   .rintro(⟨⟨t,q,a,c⟩,d⟩|⟨c,_⟩)
    .rw[hp]at a;cases a
     exact⟨t,_,rfl,(u m).2 (.inr ⟨λz=>d ⟨l0,z,rfl⟩,c⟩)⟩
    .rw[c];exact⟨hz,_,rfl,(u x).2 (.inl rfl)⟩
   .rintro⟨t,q,a,c⟩;cases a
    rcases(u m).1 c with c|⟨c1,c2⟩
    .exact .inr ⟨c.symm,rfl⟩
    .exact .inl ⟨⟨t,p,hp,c2⟩,λz=>c1 z.2.1⟩
  .rw[dH e];constructor
   .rintro(⟨c,_⟩|⟨_,c⟩)
    .exact c
    .exact absurd c e
   .exactλc=>.inl ⟨c,λz=>e z.2.2⟩
theorem Wch.put(h:Wch n S){k:Int}(hk:k∉S.prs.map (·.1))(k0:0<=k∧k<=20000000){lits:List Int}(hn:lits.Nodup)(l:lits.length<=1000)(i:∀y∈lits,ay y n=0)(v:Int):Wch n ⟨pt S.prs k ⟨lits,0,0⟩,S.byl,pt S.late k v,S.head,S.seen⟩:=by
 have g:lk S.prs k=none:=by
  cases d:lk S.prs k with
  |none=>rfl
  |some p=>exact absurd (qV d) hk
 have f:∀j,j∈(pt S.late k v).map (·.1)↔j=k∨j∈S.late.map (·.1):=λj=>mR _ _ _ _;refine⟨kh _ _ _ h.nd,?_,kh _ _ _ h.lnd,?_,?_,h.bnd,?_⟩
 .intro j q d;have d:lk (pt S.prs k ⟨lits,0,0⟩) j=some q:=d
  by_cases e:j=k
  .subst e;rw[dW]at d;cases d;exact⟨k0,hn,l,i⟩
  .rw[dH e]at d;exact h.lits j q d
 .intro j hj;show∃q,lk (pt S.prs k ⟨lits,0,0⟩) j=some q
  by_cases e:j=k
  .subst e;exact⟨_,dW⟩
  .rw[dH e];rcases(f j).1 hj with c|c
   .exact absurd c e
   .exact h.lpr j c
 .intro j q d;have d:lk (pt S.prs k ⟨lits,0,0⟩) j=some q:=d;show(j∈(pt S.late k v).map (·.1)∧_)∨(j∉(pt S.late k v).map (·.1)∧_);rw[f]
  by_cases e:j=k
  .subst e;rw[dW]at d;cases d;exact .inl ⟨.inl rfl,rfl,rfl⟩
  .rw[dH e]at d;rcases h.two j q d with⟨a,b⟩|⟨a,b⟩
   .exact .inl ⟨.inr a,b⟩
   .exact .inr ⟨λc=>c.elim e a,b⟩
 .intro m j;show j∈bF S.byl m↔m≠0∧∃q,lk (pt S.prs k ⟨lits,0,0⟩) j=some q∧_;rw[h.mem]
  by_cases e:j=k
  .subst e;rw[dW,g];constructor
   .rintro⟨_,q,d,_⟩;cases d
   .rintro⟨o,q,d,c⟩;cases d
    simp at c;exact absurd c.symm o
  .rw[dH e]
theorem Wch.del(h:Wch n S)(k:Int):Wch n (qU S k):=by
 unfold qU;cases hp:lk S.prs k with
 |none=>exact h
 |some p=>
  have g:((fq S k p).prs).map (·.1)=S.prs.map (·.1):=eP _ hp;have l:(((fq S k p).prs).map (·.1)).Nodup:=by rw[g];exact h.nd
  have f:∀j,lk (dl (fq S k p).prs k) j=if j=k then none else lk S.prs j:=λj=>by
   rw[oZ l]
   by_cases e:j=k
   .rw[SN e,SN e]
   .rw[SM e,SM e];exact dH e
  have i:∀j,j∈(dl S.late k).map (·.1)↔j∈S.late.map (·.1)∧j≠k:=λj=>qd h.lnd k j;refine⟨Ed l k,?_,Ed h.lnd k,?_,?_,?_,?_⟩
  .intro j q d;have d:lk (dl (fq S k p).prs k) j=some q:=d;rw[f]at d;split at d
   .cases d
   .exact h.lits j q d
  .intro j hj;obtain⟨h1,t⟩:=(i j).1 hj;show∃q,lk (dl (fq S k p).prs k) j=some q;rw[f,SM t];exact h.lpr j h1
  .intro j q d;have d:lk (dl (fq S k p).prs k) j=some q:=d;show(j∈(dl S.late k).map (·.1)∧_)∨(j∉(dl S.late k).map (·.1)∧_);rw[i];rw[f]at d;split at d
   .cases d
   .rename_i e;rcases h.two j q d with⟨a,b⟩|⟨a,b⟩
    .exact .inl ⟨⟨a,e⟩,b⟩
    .exact .inr ⟨λc=>a c.1,b⟩
  .exactλm=>qb (λm=>qb h.bnd k p.x m) k p.y m
  .intro m j;show j∈bF (eq (eq S.byl k p.x) k p.y) m↔m≠0∧∃q,lk (dl (fq S k p).prs k) j=some q∧_;rw[kj,kj,h.mem,f]
   by_cases e:j=k
   .subst e;rw[SN rfl];constructor
    .rintro⟨⟨⟨o,q,d,c⟩,r⟩,s⟩;rw[hp]at d;cases d
     rcases c with c|c
     .exact absurd ⟨λz=>o (c.symm.trans z),c.symm,rfl⟩ r
     .exact absurd ⟨λz=>o (c.symm.trans z),c.symm,rfl⟩ s
    .rintro⟨o,q,d,c⟩;cases d
   .rw[SM e];exact⟨λq=>q.1.1,λq=>⟨⟨q,λz=>e z.2.2⟩,λz=>e z.2.2⟩⟩
end
inductive Grow (C:Int->List Int->Prop) (n:Nat) (T0:Tr):Tr->Prop
  |refl:Grow C n T0 T0
  |step {T:Tr} {k o:Int} {c:List Int}:Grow C n T0 T->C k c->o∈c->fX T o=0->0<=k->(∀y∈c,y≠o->-y∈T.lits)->Grow C n T0 (gY T o k)
theorem Grow.trans{C:Int->List Int->Prop}{n:Nat}{T0 c d:Tr}(a:Grow C n T0 c)(b:Grow C n c d):Grow C n T0 d:=by
 induction b with
 |refl=>exact a
 |step _ h1 e f g h i=>exact .step i h1 e f g h
theorem Grow.mono{C b:Int->List Int->Prop}{n:Nat}{T0 d:Tr}(h:∀k c,C k c->b k c)(a:Grow C n T0 d):Grow b n T0 d:=by
 induction a with
 |refl=>exact .refl
 |step _ h1 e f g i j=>exact .step j (h _ _ h1) e f g i
theorem Grow.pre{C:Int->List Int->Prop}{n:Nat}{T0 b:Tr}(a:Grow C n T0 b):T0.lits<+:b.lits∧b.beg=T0.beg:=by
 induction a with
 |refl=>exact⟨WU _,rfl⟩
 |step _ h1 d e f g c=>exact⟨c.1.trans (List.prefix_append _ _),c.2⟩
def CW(S:WS)(k:Int)(c:List Int):Prop:=∃p,lk S.prs k=some p∧p.lits=c
structure SameL (S S':WS):Prop where
  keys:S'.prs.map (·.1)=S.prs.map (·.1)
  lits:∀k c,CW S' k c↔CW S k c
theorem SameL.refl(S:WS):SameL S S:=⟨rfl,λ_ _=>Iff.rfl⟩
theorem SameL.trans{S S' d:WS}(a:SameL S S')(b:SameL S' d):SameL S d:=⟨b.keys.trans a.keys,λk c=>(b.lits k c).trans (a.lits k c)⟩
theorem SameL.pt{S:WS}{k:Int}{p q:Pr}(hp:lk S.prs k=some p)(d:q.lits=p.lits)(byl:List (Int×List Int))(late:List (Int×Int))(hd:Int)(sn:List Int):SameL S ⟨Go.AX.pt S.prs k q,byl,late,hd,sn⟩where
 keys:=eP _ hp
 lits:=λj c=>by
  unfold CW;show(∃f,lk (Go.AX.pt S.prs k q) j=some f∧_)↔_
  by_cases e:j=k
  .subst e;rw[dW,hp];constructor
   .rintro⟨_,a,b⟩;cases a;exact⟨p,rfl,d▸b⟩
   .rintro⟨_,a,b⟩;cases a;exact⟨q,rfl,d.trans b⟩
  .rw[dH e]
structure Pro (n:Nat) (S0:WS) (T0:Tr) (S:WS) (T:Tr):Prop where
  wch:Wch n S
  tok:TOk n T
  same:SameL S0 S
  grow:Grow (CW S0) n T0 T
  head:S.head=S0.head
  seen:S.seen=S0.seen
def oc(S:WS)(P:List Int):Prop:=∀y∈P,bF S.byl (-y)=[]
def mV(S:WS)(T:Tr)(k:Int):Prop:=∀p,lk S.prs k=some p->∃x∈p.lits,x∈T.lits
theorem mV.up{S S':WS}{T T':Tr}{k:Int}(h:mV S T k)(hs:SameL S S')(b:∀x∈T.lits,x∈T'.lits):mV S' T' k:=λp hp=>by
 obtain⟨q,c,e⟩:=(hs.lits k p.lits).1 ⟨p,hp,rfl⟩;obtain⟨x,hx,a⟩:=h q c;exact⟨x,e▸hx,b x a⟩
section
variable {n : Nat}
theorem um{T:Tr}(d:TMk n T){lits:List Int}(e:∀y∈lits,ay y n=0){x:Int}:x∈eO T lits↔x∈lits∧-x∉T.lits:=by
 unfold eO;rw[TE];constructor
 .rintro⟨a,b⟩;refine⟨a,λc=>?_⟩;have:=(d.valm (e x a)).2 c;simp[this]at b
 .rintro⟨a,b⟩;refine⟨a,?_⟩;have h1:=d.val (e x a);rw[SM b]at h1;split at h1<;>simp[h1]
theorem JD{T:Tr}{lits:List Int}(h:lits.Nodup):(eO T lits).Nodup:=h.sublist VD
theorem JG{T:Tr}(a:TMk n T){lits:List Int}(b:∀y∈lits,ay y n=0):lY T lits=true↔∃x∈lits,x∈T.lits:=by
 unfold lY;rw[U0];constructor
 .rintro⟨x,hx,e⟩;exact⟨x,hx,(a.val1 (b x hx)).1 (by simpa using e)⟩
 .rintro⟨x,hx,e⟩;exact⟨x,hx,by simpa using(a.val1 (b x hx)).2 e⟩
theorem Ee{T:Tr}(c:TMk n T){p:Pr}(d:∀y∈p.lits,ay y n=0):mQ T p=true↔∀y∈p.lits,-y∈T.lits:=by
 unfold mQ;rw[S9,Uh,VV];constructor
 .intro h y hy;apply Tl;intro e;exact h y ((um c d).2 ⟨hy,e⟩)
 .intro h y hy;obtain⟨a,b⟩:=(um c d).1 hy;exact b (h y a)
theorem Pro.fresh{S0 S:WS}{T0 T:Tr}(h:Pro n S0 T0 S T){k:Int}{p:Pr}(hp:lk S.prs k=some p)(hk:k∈S.late.map (·.1))(w:mQ T p=false):
 Pro n S0 T0 (jN S T k p) (mf T k p)∧(∀j,j∈(jN S T k p).late.map (·.1)->j∈S.late.map (·.1))∧(∀j,j∈S.late.map (·.1)->j≠k->j∈(jN S T k p).late.map (·.1))∧(k∈(jN S T k p).late.map (·.1)->mV (jN S T k p) (mf T k p) k)∧SameL S (jN S T k p)∧Grow (CW S0) n T (mf T k p)∧
 (∀y,y∈T.lits->bF (jN S T k p).byl (-y)=bF S.byl (-y)):=by
 obtain⟨k0,s,A,m⟩:=h.wch.lits k p hp;have hin:=λx=>um (x:=x) h.tok.toTMk m;have u:=JD (T:=T) s;have t:=JG h.tok.toTMk m;unfold jN mf;unfold mQ at w;generalize eO T p.lits=O at*;rcases O with _|⟨a,_|⟨b,O⟩⟩
 .simp at w
 .rw[SM (by simp)];obtain⟨d,g⟩:=(hin a).1 (Tj ..);cases hd:lY T p.lits
  .rw[SN ⟨rfl,rfl⟩];have r:a∉T.lits:=λe=>by rw[t.2 ⟨a,d,e⟩]at hd;cases hd
   have o:fX T a=0:=(h.tok.may a).2 ⟨m a d,r,g⟩;have C:lu T a k=gY T a k:=by
    have B:BX T a k=0:=by
     unfold BX;rw[SM (by simp[o]),SM (by omega)]
    unfold lu;rw[SN B]
   have l:CW S0 k p.lits:=(h.same.lits _ _).1 ⟨p,hp,rfl⟩;have ho:∀y∈p.lits,y≠a->-y∈T.lits:=λy hy c=>by
    apply Tl;intro l;have:=(hin y).2 ⟨hy,l⟩;simp at this;exact c this
   rw[UP,C];have z:Grow (CW S0) n T (gY T a k):=.step .refl l d o k0.1 ho;refine⟨⟨h.wch,h.tok.imp o k,h.same,h.grow.trans z,h.head,h.seen⟩,λ_ hj=>hj,λ_ hj _=>hj,λ_=>?_,SameL.refl _,z,λ_ _=>rfl⟩;intro q f;rw[hp]at f;cases f
   exact⟨a,d,UY _ (by simp)⟩
  .rw[SM (by simp)];refine⟨h,λ_ hj=>hj,λ_ hj _=>hj,λ_=>?_,SameL.refl _,.refl,λ_ _=>rfl⟩;intro q f;rw[hp]at f;cases f
   exact t.1 hd
 .rw[SN (by simp),SM (by simp)];simp only[UP,Ve];obtain⟨d,g⟩:=(hin a).1 (Tj ..);obtain⟨b1,b2⟩:=(hin b).1 (by simp);have i:a≠b:=λe=>by
   rw[UE]at u;exact u.1 (by rw[e];simp)
  have D:=h.wch.watch hp hk i d b1;have v:SameL S ⟨pt S.prs k ⟨p.lits,a,b⟩,gL (gL S.byl k a) k b,dl S.late k,S.head,S.seen⟩:=SameL.pt (q:=⟨p.lits,a,b⟩) hp rfl _ _ _ _;refine⟨⟨D,h.tok,h.same.trans v,h.grow,h.head,h.seen⟩,λj hj=>((qd h.wch.lnd k j).1 hj).1,λj hj c=>(qd h.wch.lnd k j).2 ⟨hj,c⟩,λhj=>absurd rfl ((qd h.wch.lnd k k).1 hj).2,v,.refl,λy hy=>?_⟩;show bF (gL (gL S.byl k a) k b) (-y)=_;rw[nz,SM (λe=>b2 (by rw[←e,UZ];exact hy)),nz,SM (λe=>g (by rw[←e,UZ];exact hy))]
structure JL (n:Nat) (S0:WS) (T0:Tr) (P:List Int) (ks:List Int) (S:WS) (T:Tr):Prop extends Pro n S0 T0 S T where
  clr:oc S P
  sub':∀y∈P,y∈T.lits
  knd:ks.Nodup
  kin:∀k∈ks,k∈S.late.map (·.1)
  all:∀k∈S.late.map (·.1),k∈ks∨mV S T k
theorem JL.step{S0 S:WS}{T0 T:Tr}{P ks:List Int}{k:Int}(h:JL n S0 T0 P (k::ks) S T){p:Pr}(hp:lk S.prs k=some p)(g:mQ T p=false):JL n S0 T0 P ks (jN S T k p) (mf T k p):=by
 obtain⟨a,b,d,f,f5,f6,f7⟩:=h.toPro.fresh hp (h.kin k (Tj ..)) g;have hn:=UE.1 h.knd;exact{a with
  clr:=λy hy=>by rw[f7 y (h.sub' y hy)];exact h.clr y hy
  sub':=λy hy=>f6.pre.1.subset (h.sub' y hy)
  knd:=hn.2
  kin:=λj hj=>d j (h.kin j (Tf _ hj)) λe=>hn.1 (e▸hj)
  all:=λj hj=>by
   rcases h.all j (b j hj)with c|c
   .rcases Tp.1 c with rfl|c
    .exact .inr (f hj)
    .exact .inl c
   .exact .inr (c.up f5 λx hx=>f6.pre.1.subset hx)}
def ry(S:WS)(T:Tr)(k:Int):Prop:=0<=k∧∃p,lk S.prs k=some p∧∀y∈p.lits,-y∈T.lits
theorem Ef{S0:WS}{T0:Tr}{P:List Int}:∀{ks:List Int}{S:WS}{T:Tr},JL n S0 T0 P ks S T->
 ((iv ks S T).2.2=-1∧JL n S0 T0 P [] (iv ks S T).1 (iv ks S T).2.1)∨(0<=(iv ks S T).2.2∧Pro n S0 T0 (iv ks S T).1 (iv ks S T).2.1∧oc (iv ks S T).1 P∧(∀y∈P,y∈(iv ks S T).2.1.lits)∧ry (iv ks S T).1 (iv ks S T).2.1 (iv ks S T).2.2)
 |[],S,T,h=>.inl ⟨rfl,h⟩
 |k::ks,S,T,h=>by
  obtain⟨p,hp⟩:=h.wch.lpr k (h.kin k (Tj ..));obtain⟨k0,_,_,b⟩:=h.wch.lits k p hp;rw[iv,hp];simp only;cases a:mQ T p
  .rw[SM (by simp)];exact Ef (h.step hp a)
  .rw[SN rfl];exact .inr ⟨k0.1,h.toPro,h.clr,h.sub',k0.1,p,hp,(Ee h.tok.toTMk b).1 a⟩
structure JF (n:Nat) (S0:WS) (T0:Tr) (P:List Int) (l:Int) (zs:List Int) (S:WS) (T:Tr):Prop extends Pro n S0 T0 S T where
  clr:oc S P
  sub':∀y∈P,y∈T.lits
  by':bF S.byl l=zs
  fail:-l∈T.lits
  held:∀k∈S.late.map (·.1),mV S T k
theorem JF.look{S0 S:WS}{T0 T:Tr}{P zs:List Int}{l k:Int}(h:JF n S0 T0 P l (k::zs) S T):∃p,lk S.prs k=some p∧l≠0∧(p.x=l∨p.y=l)∧k∉S.late.map (·.1):=by
 have hk:k∈bF S.byl l:=by rw[h.by'];exact Tj ..
 obtain⟨l0,p,hp,b⟩:=(h.wch.mem l k).1 hk;exact⟨p,hp,l0,b,λa=>h.wch.nby hp a l hk⟩
theorem qW{k:Int}{zs:List Int}(h:(k::zs).Nodup):bk (λx=>decide (x=k)) (k::zs)=zs:=by
 have hn:=UE.1 h;unfold bk;rw[TQ,SM (by simp),Uw];intro x hx;have:x≠k:=λe=>hn.1 (e▸hx);simp[this]
theorem eQ{byl:List (Int×List Int)}{k l m:Int}(h:bF byl m=[]):bF (eq byl k l) m=[]:=by
 rw[jE];split
 .rename_i c;rw[←c.2,h];rfl
 .exact h
theorem Mq{l:Int}{p:Pr}(a:p.x≠p.y)(b:p.x=l∨p.y=l):(p.x=l∧p7 l p=p.y∧p.y≠l)∨(p.y=l∧p7 l p=p.x∧p.x≠l):=by
 unfold p7
 by_cases c:p.x=l
 .rw[SN c];exact .inl ⟨c,rfl,λe=>a (c.trans e.symm)⟩
 .rw[SM c];exact .inr ⟨b.elim (λe=>absurd e c) id,rfl,c⟩
theorem JF.step{S0 S:WS}{T0 T:Tr}{P zs:List Int}{l k:Int}(h:JF n S0 T0 P l (k::zs) S T){p:Pr}(hp:lk S.prs k=some p)(hb:qT T l p=false):JF n S0 T0 P l zs (oY S T l k p) (p9 T l k p):=by
  obtain⟨q,hq,l0,hl,hk⟩:=h.look
  rw[hp]at hq
  cases hq
  obtain⟨x0,y0,hxy,hpx,hpy⟩:=h.wch.pos hp hk
  obtain⟨k0,hnd,hlen,hchk⟩:=h.wch.lits k p hp
  have hnz:(k::zs).Nodup:=by rw[←h.by'];exact h.wch.bnd l
  unfold oY p9
  unfold qT at hb
  cases hpk:mS T l p with
  |some x=>
    unfold mS at hpk
    have hx:=List.mem_of_find?_eq_some hpk
    have ho:=List.find?_some hpk
    unfold N9 at ho
    simp only[S4,S9]at ho
    obtain⟨o1,o2,o3⟩:=ho
    have hW:=h.wch.move hp l0 hl hx o1 o2
    have hM:(jk l p x).lits=p.lits:=by unfold jk;split<;>rfl
    have hS:SameL S (rR S k l p x):=SameL.pt hp hM _ _ _ _
    have hnx:-x∉T.lits:=λe=>by
      have:=(h.tok.valm (hchk x hx)).2 e
      omega
    exact { wch := hW, tok := h.tok, same := h.same.trans hS, grow := h.grow, head := h.head, seen := h.seen
            clr:=λy hy=>by
              show bF (gL (eq S.byl k l) k x) (-y)=[]
              rw[nz,SM (λe=>hnx (by rw[←e,UZ];exact h.sub' y hy))]
              exact eQ (h.clr y hy)
            sub':=h.sub'
            by':=by
              show bF (gL (eq S.byl k l) k x) l=zs
              rw[nz,SM (λe=>o1 e.symm),jE,SN ⟨l0,rfl⟩,h.by',qW hnz]
            fail:=h.fail
            held:=λj hj=>(h.held j hj).up hS λ_ hx=>hx}
  |none=>
    rw[hpk]at hb
    simp only at hb⊢
    have hL:=h.wch.toLate hp hk (aY ((lk S.late k).getD 0+1))
    have hS1:SameL S (lZ (fq S k p) k):=SameL.pt (q:=⟨p.lits,0,0⟩) hp rfl _ _ _ _
    have hP1:Pro n S0 T0 (lZ (fq S k p) k) T:=⟨hL,h.tok,h.same.trans hS1,h.grow,h.head,h.seen⟩
    have hlk:∀j,j∈(lZ (fq S k p) k).late.map (·.1)↔j=k∨j∈S.late.map (·.1):=λj=>mR _ _ _ _
    have hp1:lk (lZ (fq S k p) k).prs k=some (p8 p):=dW
    obtain⟨f1,f2,f3,f4,f5,f6,f7⟩:=hP1.fresh hp1 ((hlk k).2 (.inl rfl)) hb
    have hby:bF (lZ (fq S k p) k).byl l=zs:=by
      show bF (eq (eq S.byl k p.x) k p.y) l=zs
      rcases Mq hxy hl with⟨c,_,d⟩|⟨c,_,d⟩
      · rw[jE,SM (λe=>d e.2.symm),jE,SN ⟨x0,c.symm⟩,c,h.by',qW hnz]
      · rw[jE,SN ⟨y0,c.symm⟩,c,jE,SM (λe=>d e.2.symm),h.by',qW hnz]
    have hsub:∀y∈T.lits,y∈(mf T k (p8 p)).lits:=λy hy=>f6.pre.1.subset hy
    exact{f1 with
      clr:=λy hy=>by
        rw[f7 y (h.sub' y hy)]
        exact eQ (eQ (h.clr y hy))
      sub':=λy hy=>hsub y (h.sub' y hy)
      by':=by
        have:=f7 (-l) h.fail
        rw[UZ]at this
        rw[this];exact hby
      fail:=hsub _ h.fail
      held:=λj hj=>by
        rcases(hlk j).1 (f2 j hj)with rfl|c
        · exact f4 hj
        · exact((h.held j c).up (hS1.trans f5) hsub)}
theorem JF.bad{S0 S:WS}{T0 T:Tr}{P zs:List Int}{l k:Int}(h:JF n S0 T0 P l (k::zs) S T){p:Pr}(hp:lk S.prs k=some p)(a:qT T l p=true):
 Pro n S0 T0 (oY S T l k p) (p9 T l k p)∧oc (oY S T l k p) P∧p9 T l k p=T∧ry (oY S T l k p) T k:=by
 obtain⟨q,i,l0,s,hk⟩:=h.look;rw[hp]at i;cases i
 obtain⟨k0,r,g,b⟩:=h.wch.lits k p hp;unfold oY p9;unfold qT at a;cases c:mS T l p with
 |some x=>rw[c]at a;cases a
 |none=>
  rw[c]at a;simp only at a⊢;have f:=a;unfold mQ at f;rw[S9]at f;have j:jN (lZ (fq S k p) k) T k (p8 p)=lZ (fq S k p) k:=by unfold jN;rw[SM (by omega)]
  have m:mf T k (p8 p)=T:=by unfold mf;rw[SM (by omega)]
  rw[j,m];have o:=h.wch.toLate hp hk (aY ((lk S.late k).getD 0+1));have d:SameL S (lZ (fq S k p) k):=SameL.pt (q:=⟨p.lits,0,0⟩) hp rfl _ _ _ _;have e:lk (lZ (fq S k p) k).prs k=some (p8 p):=dW;exact⟨⟨o,h.tok,h.same.trans d,h.grow,h.head,h.seen⟩,λy hy=>eQ (eQ (h.clr y hy)),rfl,k0.1,_,e,(Ee (p:=p8 p) h.tok.toTMk b).1 a⟩
theorem Eg{S0:WS}{T0:Tr}{P:List Int}{l:Int}:∀{zs:List Int}{S:WS}{T:Tr},JF n S0 T0 P l zs S T->
 ((ig l zs S T).2.2=-1∧JF n S0 T0 P l [] (ig l zs S T).1 (ig l zs S T).2.1)∨(0<=(ig l zs S T).2.2∧Pro n S0 T0 (ig l zs S T).1 (ig l zs S T).2.1∧oc (ig l zs S T).1 P∧(∀y∈P,y∈(ig l zs S T).2.1.lits)∧ry (ig l zs S T).1 (ig l zs S T).2.1 (ig l zs S T).2.2)
 |[],S,T,h=>.inl ⟨rfl,h⟩
 |k::zs,S,T,h=>by
  obtain⟨p,hp,_⟩:=h.look;rw[ig,hp];simp only;cases a:qT T l p
  .rw[SM (by simp)];exact Eg (h.step hp a)
  .rw[SN rfl];obtain⟨b1,b2,b3,b4⟩:=h.bad hp a;exact .inr ⟨b4.1,b1,b2,λy hy=>by rw[b3];exact h.sub' y hy,by rw[b3];exact b4⟩
end
structure JC (n:Nat) (S0:WS) (T0:Tr) (S:WS) (T:Tr):Prop where
  wch:Wch n S
  tok:TOk n T
  same:SameL S0 S
  grow:Grow (CW S0) n T0 T
  seen:S.seen=S0.seen
  h0:0<=S.head
  h1:S.head<=T.lits.length
  clr:oc S (T.lits.take S.head.toNat)
structure JP (n:Nat) (S0:WS) (T0:Tr) (S:WS) (T:Tr):Prop extends JC n S0 T0 S T where
  held:∀k∈S.late.map (·.1),mV S T k
section
variable {n : Nat} {S0 : WS} {T0 : Tr}
theorem CW.same{S S':WS}(h:SameL S S'){n:Nat}{T T':Tr}(g:Grow (CW S') n T T'):Grow (CW S) n T T':=g.mono λk c a=>(h.lits k c).1 a
theorem SameL.len{S S':WS}(h:SameL S S'):S'.prs.length=S.prs.length:=by
 have:=Vk List.length h.keys;simpa using this
theorem un{l l':List Int}(h:l<+:l'){k:Nat}(hk:k<=l.length):l'.take k=l.take k:=by
 obtain⟨t,rfl⟩:=h;exact TV hk
theorem JP.neg{S:WS}{T:Tr}(h:JP n S0 T0 S T)(hd:S.head<T.lits.length):∃i:Nat,∃hi:i<T.lits.length,S.head=i∧dG T S=-T.lits[i]:=by
 have h0:=h.h0;refine⟨S.head.toNat,by omega,by omega,?_⟩;have hi:S.head.toNat<T.lits.length:=by omega
 unfold dG;rw[SI,SH hi,Tx];exact(bA h.tok.hn (h.tok.chk _ (SS hi))).2.2.2.2.2.2.2
theorem JP.begin{S:WS}{T:Tr}(h:JP n S0 T0 S T){i:Nat}(hi:i<T.lits.length)(hh:S.head=i):JF n S T (T.lits.take i) (-T.lits[i]) (bF S.byl (-T.lits[i])) S T:=
  { wch := h.wch, tok := h.tok, same := SameL.refl _, grow := .refl, head := rfl, seen := rfl
    clr:=by have:=h.clr;rw[hh]at this;exact this
    sub':=λy hy=>TL hy
    by':=rfl
    fail:=by rw[UZ];exact SS hi
    held:=h.held}
theorem Mr(S:WS)(T:Tr)(l:Int):fY S T l=ig l (bF S.byl l) S T:=by
 unfold fY bF;cases lk S.byl l with
 |none=>rfl
 |some zs=>rfl
theorem JH{S:WS}{i:Nat}(h:S.head=i)(hi:i<1000000):Oa S=⟨S.prs,S.byl,S.late,((i+1:Nat):Int),S.seen⟩:=by
 unfold Oa;rw[h,ao (by omega) (by omega)];rfl
theorem JP.go{S:WS}{T:Tr}(h:JP n S0 T0 S T)(hd:S.head<T.lits.length):
    ((fY S T (dG T S)).2.2=-1∧JP n S0 T0 (Oa (fY S T (dG T S)).1) (fY S T (dG T S)).2.1∧(fY S T (dG T S)).1.head=S.head∧T.lits<+:(fY S T (dG T S)).2.1.lits)∨
    (0<=(fY S T (dG T S)).2.2∧JC n S0 T0 (fY S T (dG T S)).1 (fY S T (dG T S)).2.1∧ry (fY S T (dG T S)).1 (fY S T (dG T S)).2.1 (fY S T (dG T S)).2.2):=by
  obtain⟨i,hi,hh,hn⟩:=h.neg hd
  have hfew:=h.tok.few
  have hn5:=h.tok.hn
  rw[hn,Mr]
  rcases Eg (h.begin hi hh)with⟨r1,r2⟩|⟨r1,r2,r3,r4,r5⟩
  · left
    generalize ig (-T.lits[i]) (bF S.byl (-T.lits[i])) S T=R at*
    have hpre:=r2.grow.pre.1
    have hhd:R.1.head=i:=r2.head.trans hh
    rw[JH hhd (by omega)]
    refine⟨r1,?_,r2.head,hpre⟩
    have hle:=hpre.length_le
    exact { wch := ⟨r2.wch.nd, r2.wch.lits, r2.wch.lnd, r2.wch.lpr, r2.wch.two, r2.wch.bnd, r2.wch.mem⟩
            tok:=r2.tok,same:=h.same.trans ⟨r2.same.keys,r2.same.lits⟩,grow:=h.grow.trans (CW.same h.same r2.grow),seen:=r2.seen.trans h.seen
            h0:=by show(0:Int)<=((i+1:Nat):Int);omega
            h1:=by show((i+1:Nat):Int)<=_;omega
            clr:=by
              show oc _ (R.2.1.lits.take ((i+1:Nat):Int).toNat)
              rw[show((i+1:Nat):Int).toNat=i+1 by omega,un hpre (by omega),T4,SH hi]
              intro y hy
              rcases S7.1 hy with hy|hy
              · exact r2.clr y hy
              · simp at hy;rw[hy];exact r2.by'
            held:=r2.held}
  · right
    generalize ig (-T.lits[i]) (bF S.byl (-T.lits[i])) S T=R at*
    have hpre:=r2.grow.pre.1
    have hle:=hpre.length_le
    refine⟨r1,?_,r5⟩
    have hhd:R.1.head=i:=r2.head.trans hh
    exact { wch := r2.wch, tok := r2.tok, same := h.same.trans r2.same, grow := h.grow.trans (CW.same h.same r2.grow), seen := r2.seen.trans h.seen
            h0:=by omega,h1:=by omega
            clr:=by rw[hhd,show(i:Int).toNat=i by omega,un hpre (by omega)];exact r3}
theorem Eh:∀{m:Nat}{S:WS}{T:Tr},JP n S0 T0 S T->1000001<=S.head+m->
 ((lK m S T).2.2=-1∧JP n S0 T0 (lK m S T).1 (lK m S T).2.1∧(lK m S T).1.head=(lK m S T).2.1.lits.length)∨
 (0<=(lK m S T).2.2∧JC n S0 T0 (lK m S T).1 (lK m S T).2.1∧ry (lK m S T).1 (lK m S T).2.1 (lK m S T).2.2)
 |0,S,T,h,d=>by
  have:=h.h1;have:=h.tok.few;have:=h.tok.hn;omega
 |m+1,S,T,h,d=>by
  rw[lK]
  by_cases hd:S.head<T.lits.length
  .rw[SN hd];rcases h.go hd with⟨a,b,r3,e⟩|⟨a,b,r3⟩
   .rw[SM (by omega)];refine Eh b ?_;obtain⟨i,hi,c,_⟩:=h.neg hd;have:=h.tok.few;have:=h.tok.hn;rw[JH (r3.trans c) (by omega)];show 1000001<=((i+1:Nat):Int)+m;omega
   .rw[SN a];exact .inr ⟨a,b,r3⟩
  .rw[SM hd];have:=h.h1;exact .inl ⟨rfl,h,by show S.head=T.lits.length;omega⟩
theorem JF.stepOk{P zs:List Int}{l k:Int}{S:WS}{T:Tr}(h:JF n S0 T0 P l (k::zs) S T)(f:S.prs.length<=1000000):∃p,StepOk S T l k p:=by
 obtain⟨p,hp,l0,c,hk⟩:=h.look;obtain⟨d,y0,b,i,j⟩:=h.wch.pos hp hk;have a:∀m:Int,m≠0->(p.x=m∨p.y=m)->∃zs,lk S.byl m=some zs∧zs≠[]:=λm o g=>by
  obtain⟨zs,e,hz⟩:=h.wch.entry hp o g;exact⟨zs,e,λq=>by rw[q]at hz;cases hz⟩
 have:=h.tok.few;have:=h.tok.hn;refine⟨p,hp,l0,c,by have:=(h.wch.lits k p hp).2.2.1;omega,a l l0 c,λ_=>a _ d (.inl rfl),λ_=>?_,h.wch.hz f,h.tok.okT,by omega⟩;obtain⟨zs,e,hz⟩:=a _ y0 (.inr rfl);refine⟨zs,?_,hz⟩;unfold eq;rw[SM d,bJ,SM b];exact e
theorem QV(f:S0.prs.length<=1000000):ProOk (JP n S0 T0)where
 ok:=λS T h=>by
  have:=h.tok.few;have:=h.tok.hn;exact⟨h.tok.okT,by omega,h.h0,h.h1⟩
 step:=λS T h hd zs b=>by
  obtain⟨i,hi,g,hn⟩:=h.neg hd;have a:S.prs.length<=1000000:=by rw[h.same.len];exact f
  refine⟨h.wch.hz a _ _ b,λj S' T'=>JF n S T (T.lits.take i) (dG T S) (zs.drop j) S' T',?_,λj S' T' hj c=>?_⟩
  .show JF n S T (T.lits.take i) (dG T S) zs S T;rw[←Ec b,hn];exact h.begin hi g
  .have hj:JF n S T (T.lits.take i) (dG T S) (zs.drop j) S' T':=hj;rw[TJ c]at hj;obtain⟨p,d⟩:=hj.stepOk (by rw[hj.same.len];exact a);exact⟨p,d,λe=>hj.step d.hp e⟩
 len:=λS T h hd=>by
  have k:=h.tok.hn;rcases h.go hd with⟨_,r,_⟩|⟨_,r,_⟩
  .have:=r.tok.few;omega
  .have:=r.tok.few;omega
 next:=λS T h hd hk=>by
  rcases h.go hd with r|⟨r,_⟩
  .exact r
  .exact absurd r hk
end
structure WOk (n:Nat) (S:WS):Prop extends Wch n S where
  few:S.prs.length<=1000000
  h0:0<=S.head
  h1:S.head<=S.seen.length
  sl:S.seen.length<=1000000
  clr:oc S (S.seen.take S.head.toNat)
structure PrpOk (n:Nat) (S:WS) (T:Tr) (R:WS×Tr×Int):Prop where
  ok:WOk n R.1
  tok:TOk n R.2.1
  same:SameL S R.1
  grow:Grow (CW S) n T R.2.1
  seen:R.1.seen=R.2.1.lits
  res:(R.2.2=-1∧∀k p,lk R.1.prs k=some p->(∃x∈p.lits,x∈R.2.1.lits)∨∃x y,x∈p.lits∧y∈p.lits∧x≠y∧-x∉R.2.1.lits∧-y∉R.2.1.lits)∨ry R.1 R.2.1 R.2.2
theorem Ej:∀(a b:List Int),iE a b<=a.length∧iE a b<=b.length
 |[],_=>⟨Te _,Te _⟩
 |_::_,[]=>⟨Te _,Te _⟩
 |x::a,y::b=>by
  rw[iE];have:=Ej a b;simp only[To];split<;>omega
theorem wu:∀(a b:List Int)(k:Nat),k<=iE a b->a.take k=b.take k
 |a,b,0,_=>by simp
 |[],_,k+1,h=>by rw[iE]at h;omega;intros;simp_all
 |_::_,[],k+1,h=>by rw[iE]at h;omega;intros;simp_all
 |x::a,y::b,k+1,h=>by
  rw[iE]at h;split at h
  .rename_i e;rw[Wy,Wy,e,wu a b k (by omega)]
  .omega
section
variable {n : Nat} {S : WS} {T : Tr}
theorem WOk.shr(h:WOk n S)(a:TOk n T):JC n (cB S T.lits) T (cB S T.lits) T:=by
 obtain⟨f,g⟩:=Ej S.seen T.lits;have b:=h.h0;have e:(cB S T.lits).head=if(iE S.seen T.lits:Int)<S.head then(iE S.seen T.lits:Int)else S.head:=rfl;have a0:0<=(cB S T.lits).head:=by rw[e];split<;>omega
 have c:(cB S T.lits).head<=iE S.seen T.lits:=by rw[e];split<;>omega
 have d:(cB S T.lits).head<=S.head:=by rw[e];split<;>omega
 refine{wch:=⟨h.nd,h.lits,h.lnd,h.lpr,h.two,h.bnd,h.mem⟩,tok:=a,same:=SameL.refl _,grow:=.refl,seen:=rfl,h0:=a0,h1:=by omega,clr:=?_};rw[←wu S.seen T.lits _ (by omega)];intro y hy;refine h.clr y ?_;have:S.seen.take (cB S T.lits).head.toNat<+:S.seen.take S.head.toNat:=List.take_prefix_take_left (by omega);exact this.subset hy
theorem WOk.jl(h:WOk n S)(hT:TOk n T):JL n (cB S T.lits) T (T.lits.take (cB S T.lits).head.toNat) (bD (S.late.map (·.1))) (cB S T.lits) T:=
  have hc:=h.shr hT
  { wch := hc.wch, tok := hT, same := SameL.refl _, grow := .refl, head := rfl, seen := rfl
    clr:=hc.clr
    sub':=λy hy=>TL hy
    knd:=Ag h.lnd
    kin:=λk hk=>wm.1 hk
    all:=λk hk=>.inl (wm.2 hk)}
theorem Pro.jc{S0 S':WS}{T0 T':Tr}(h:Pro n S0 T0 S' T')(h0:0<=S0.head)(h1:S0.head<=T0.lits.length)(hc:oc S' (T0.lits.take S0.head.toNat)):JC n S0 T0 S' T':=by
  have hpre:=h.grow.pre.1
  have hle:=hpre.length_le
  exact { wch := h.wch, tok := h.tok, same := h.same, grow := h.grow, seen := h.seen, h0 := by rw [h.head]; exact h0, h1 := by rw [h.head]; omega
          clr:=by rw[h.head,un hpre (by omega)];exact hc}
theorem Ek(h:WOk n S)(d:TOk n T):
 ((fZ (cB S T.lits) T).2.2=-1∧JP n (cB S T.lits) T (fZ (cB S T.lits) T).1 (fZ (cB S T.lits) T).2.1)∨
 (0<=(fZ (cB S T.lits) T).2.2∧JC n (cB S T.lits) T (fZ (cB S T.lits) T).1 (fZ (cB S T.lits) T).2.1∧ry (fZ (cB S T.lits) T).1 (fZ (cB S T.lits) T).2.1 (fZ (cB S T.lits) T).2.2):=by
 have b:=h.shr d;have e:fZ (cB S T.lits) T=iv (bD (S.late.map (·.1))) (cB S T.lits) T:=rfl;rw[e];rcases Ef (h.jl d)with⟨c,a⟩|⟨c,a,r3,g,f⟩
 .exact .inl ⟨c,{a.toPro.jc b.h0 b.h1 a.clr with held:=λk hk=>(a.all k hk).resolve_left (by simp)}⟩
 .exact .inr ⟨c,a.jc b.h0 b.h1 r3,f⟩
theorem JC.fin{S':WS}{T':Tr}{k:Int}(f:S.prs.length<=1000000)(h:JC n (cB S T.lits) T S' T')
 (i:(k=-1∧(∀k∈S'.late.map (·.1),mV S' T' k)∧S'.head=T'.lits.length)∨ry S' T' k):PrpOk n S T (⟨S'.prs,S'.byl,S'.late,S'.head,T'.lits⟩,T',k):=by
 have d:=h.tok.few;have hn:=h.tok.hn;have e:Wch n ⟨S'.prs,S'.byl,S'.late,S'.head,T'.lits⟩:=⟨h.wch.nd,h.wch.lits,h.wch.lnd,h.wch.lpr,h.wch.two,h.wch.bnd,h.wch.mem⟩;refine⟨{e with few:=by show S'.prs.length<=_;rw[h.same.len];exact f,h0:=h.h0,h1:=h.h1,sl:=by show T'.lits.length<=_;omega,clr:=h.clr},h.tok,⟨h.same.keys,h.same.lits⟩,h.grow,rfl,?_⟩;rcases i with⟨rfl,j,l⟩|⟨k0,p,hp,r⟩
 .refine .inl ⟨rfl,λk p hp=>?_⟩;have hp:lk S'.prs k=some p:=hp
  by_cases c:k∈S'.late.map (·.1)
  .exact .inl (j k c p hp)
  .obtain⟨b,y0,a,hx,hy⟩:=h.wch.pos hp c;have key:∀x,x≠0->(p.x=x∨p.y=x)->-x∉T'.lits:=λx b hx g=>by
    have:=h.clr (-x) (by rw[l,show(T'.lits.length:Int).toNat=T'.lits.length by omega,Tw];exact g);rw[UZ]at this;have hk:=(h.wch.mem x k).2 ⟨b,p,hp,hx⟩;rw[this]at hk;cases hk
   exact .inr ⟨p.x,p.y,hx,hy,a,key _ b (.inl rfl),key _ y0 (.inr rfl)⟩
 .exact .inr ⟨k0,p,hp,r⟩
theorem JI(h:WOk n S)(f:TOk n T):PrpOk n S T (ft S T):=by
 have i:=h.shr f;have b:iF S T=if 0<=(fZ (cB S T.lits) T).2.2 then fZ (cB S T.lits) T else lK 1000001 (fZ (cB S T.lits) T).1 (fZ (cB S T.lits) T).2.1:=rfl;have hp:ft S T=(⟨(iF S T).1.prs,(iF S T).1.byl,(iF S T).1.late,(iF S T).1.head,(iF S T).2.1.lits⟩,(iF S T).2.1,(iF S T).2.2):=rfl;rw[hp];rcases Ek h f with⟨g,e⟩|⟨g,e,r3⟩
 .rw[SM (by omega)]at b;have:=e.h0;rcases Eh (m:=1000001) e (by omega)with⟨d,a,c⟩|⟨d,a,c⟩
  .rw[←b]at d a c;exact a.toJC.fin h.few (.inl ⟨d,a.held,c⟩)
  .rw[←b]at d a c;exact a.fin h.few (.inr c)
 .rw[SN g]at b;rw[b];exact e.fin h.few (.inr r3)
theorem JJ(h:List (List SV))(bw ba bt:Nat)(mp:List (Int×Nat))(mb:List (Int×By))(A:Ar)(L:LayW h bw ba bt mp mb A T S)(b:WOk n S)(d:TOk n T):
 ax Tryz.prog 91 [.ptr bw 0] h (λr h'=>r=.pv (ab (ft S T).2.2)∧∃mb',LayW h' bw ba bt mp mb' A (ft S T).2.1 (ft S T).1∧Ext h h' (aR bw bt mp mb) (aR bw bt mp mb')):=by
 have f:=d.few;have hn:=d.hn;have hj:=b.jl d;have c:=Ek b d;refine uU h bw ba bt mp mb A T S L (by omega) b.sl (bD (S.late.map (·.1))) rfl (λi S' T'=>JL n (cB S T.lits) T (T.lits.take (cB S T.lits).head.toNat) ((bD (S.late.map (·.1))).drop i) S' T') (by rw[V6];exact hj) ?_ ?_ ?_ ?_ ?_ (JP n (cB S T.lits) T) (QV b.few) ?_
 .intro q m;obtain⟨p,hp⟩:=b.lpr q.1 (UQ m);have:=(b.lits _ _ hp).1;exact Jj (by omega) (by omega)
 .have g:S.late.map (·.1)⊆S.prs.map (·.1):=λk hk=>by
   obtain⟨p,hp⟩:=b.lpr k hk;exact qV hp
  have:=(dx _ _ b.lnd g);rw[SZ,SZ]at this;have:=b.few;omega
 .intro i S' T' a hi;have a:JL n (cB S T.lits) T (T.lits.take (cB S T.lits).head.toNat) ((bD (S.late.map (·.1))).drop i) S' T':=a;rw[TJ hi]at a;have l:S'.prs.length<=1000000:=by rw[a.same.len];exact b.few
  obtain⟨p,hp⟩:=a.wch.lpr _ (a.kin _ (Tj ..));have:=a.tok.few;exact⟨a.tok.okT,by omega,a.wch.hz l,p,hp,by have:=(a.wch.lits _ _ hp).2.2.1;omega⟩
 .intro i S' T' p a hi hp j;have a:JL n (cB S T.lits) T (T.lits.take (cB S T.lits).head.toNat) ((bD (S.late.map (·.1))).drop i) S' T':=a;rw[TJ hi]at a;exact a.step hp j
 .rcases c with⟨_,r⟩|⟨_,r,_⟩
  .have:=r.tok.few;omega
  .have:=r.tok.few;omega
 .intro hk;rcases c with⟨e,o⟩|⟨e,_⟩
  .exact⟨e,o⟩
  .exact absurd e hk
end
structure UOk (n:Nat) (cs:List (List Int)):Prop where
  hn:n<=100000
  nd:∀c∈cs,c.Nodup
  len:∀c∈cs,c.length<=1000
  chk:∀c∈cs,∀y∈c,ay y n=0
def Cons(L:List Int):Prop:=∀y∈L,-y∉L
theorem Nj{n:Nat}(hn:n<=100000){y:Int}(hy:ay y n=0)(l:List Int):bn l y=if y∈l then 1 else if-y∈l then-1 else 0:=by
 obtain⟨_,_,_,_,_,_,hx,a⟩:=bA hn hy;unfold bn;rw[SM (by omega),a]
theorem xX{n:Nat}(hn:n<=100000){y:Int}(hy:ay y n=0){l:List Int}:bn l y=-1↔y∉l∧-y∈l:=by
 rw[Nj hn hy];split
 .simp_all
 .split<;>simp_all
theorem Ms{n:Nat}(hn:n<=100000){y:Int}(hy:ay y n=0){l:List Int}:bn l y=0↔y∉l∧-y∉l:=by
 rw[Nj hn hy];split
 .simp_all
 .split<;>simp_all
section
variable {n : Nat} {cs : List (List Int)} (h : UOk n cs)
include h
theorem UOk.unit_of{L c:List Int}(f:Cons L)(a:c∈cs){x:Int}(hx:x∈c)(h1:x∉L)(d:-x∉L)(ho:∀y∈c,y≠x->-y∈L):cK L c=(x,true):=
 Go.AX.unit_of (h.len c a) (h.nd c a) hx (bA h.hn (h.chk c a x hx)).2.2.2.2.2.2.1 ((Ms h.hn (h.chk c a x hx)).2 ⟨h1,d⟩)
  λy hy b=>(xX h.hn (h.chk c a y hy)).2 ⟨λe=>f y e (ho y hy b),ho y hy b⟩
theorem UOk.fail{L c:List Int}(b:Cons L)(a:c∈cs):sm L c=-1↔∀y∈c,-y∈L:=by
 rw[lG];constructor
 .exactλq y hy=>((xX h.hn (h.chk c a y hy)).1 (q y hy (bA h.hn (h.chk c a y hy)).2.2.2.2.2.2.1)).2
 .exactλq y hy _=>(xX h.hn (h.chk c a y hy)).2 ⟨λe=>b y e (q y hy),q y hy⟩
end
section
variable {n : Nat} {cs : List (List Int)} {L0 L : List Int}
end
end Go.AX
namespace Go.AX
set_option maxRecDepth 16000
open Go.Proofs
set_option linter.unusedSimpArgs false
def eY(T:Tr)(v:Int):Tr:=if(if v<0 then 0 else v)<(T.beg.length:Int)then cF T (if v<0 then(0:Int)else v).toNat else T
theorem TOk.bak{n:Nat}{T:Tr}(h:TOk n T)(v:Int):TOk n (eY T v):=by
 unfold eY;obtain⟨m,a⟩:∃m:Int,(if v<0 then(0:Int)else v)=m:=⟨_,rfl⟩;have b:0<=m:=by rw[←a];split<;>omega
 rw[a]
 by_cases c:m<(T.beg.length:Int)
 .rw[SN c];exact(h.back (by omega)).1
 .rw[SM c];exact h
theorem JK(h:List (List SV))(b:Nat)(T:Tr)(g:h[b]?=some (gD T))(v:Int)(j:¬(if v<0 then 0 else v)<(T.beg.length:Int)):
 ax Tryz.prog 131 [.ptr b 0,ab v] h (λr h'=>h'=h∧r=.pv (.seq true 1 (ae []))):=by
 refine fk [] [.tmp 4] aC Tryz.func131 ?_;obtain⟨d,e⟩:=SG.1 g;have c:=mH T;have a:∀n,aZ h (n+1) b 0=bM T:=λn=>db g n;simp only[bM]at c a;obtain⟨m,i⟩:∃m:Int,(if v<0 then(0:Int)else v)=m:=⟨_,rfl⟩;rw[i]at j;have f:(T.beg.length:Int)<=m:=by omega
 simp[i];refine am.introP (r:=.pv (BL true)) (by simpa[a]using c) ?_ (by simp[d]) (by simp);simp[e,d,gD,f,ae,bO,bK]
theorem JM(h:List (List SV))(b:Nat)(T:Tr)(F:h[b]?=some (gD T))(v:Int)(k:Nat)(K:(if v<0 then(0:Int)else v)=k)(hk:k<T.beg.length)(h0:0<=T.beg.getD k 0∧T.beg.getD k 0<=T.lits.length)(hs:T.lits.length<=1000000)(Q:∀y∈T.lits,0<=af y∧af y<T.marks.length):
 ax Tryz.prog 131 [.ptr b 0,ab v] h (λr h'=>h'=h.set b (gD (cF T k))∧r=.pv (.seq true 1 (ae (uk T (T.lits.length -(T.beg.getD k 0).toNat))))):=by
 refine dR [] [.tmp 4] (h.set b (gD (cF T k))) (by simp) (λD=>by rw[Ti];exact bP (i7 _ _) b D) aC Tryz.func131 ?_;obtain⟨a,G⟩:=SG.1 F;have x:T.beg.getD k 0=T.beg[k]:=by rw[SI,SH hk];rfl
 rw[x]at h0⊢;obtain⟨m,C⟩:∃m:Nat,T.beg[k]=(m:Int):=⟨T.beg[k].toNat,by omega⟩;have M:cF T k=⟨(popN T (T.lits.length -m)).marks,(popN T (T.lits.length -m)).lits,T.beg.take k⟩:=by unfold cF;rw[x,C];rfl
 rw[M,C,Ub];rw[C]at h0;clear M;have B:=mH T;have A:∀n,aZ h (n+1) b 0=bM T:=λn=>db F n;simp only[bM]at B A;simp[K];refine am.introP (r:=.pv (BL true)) (by simpa[A]using B) ?_ (by simp[a]) (by simp);simp[G,a,gD,hk];refine am.intro (Gg h b) ?_;rintro _ _ ⟨rfl,rfl⟩;have E:h.set b (gD T)=h:=cU F;simp;refine aF.intro (S:=λ(j:Nat)=>⟨[(0,.pv (.ptr b 0)),(1,.pv (ab k)),(5,.pv (.fn (.func 265) [] [.ptr h.length 0])),(6,.own true 1 (ae (uk T j)))],h.set b (gD (popN T j))++[[.pv (.ptr b 0)]]⟩) (λj=>j<=T.lits.length -m) (λj=>T.lits.length -j) 0 ?_ (Te _) ?_
 .rw[popN,E];exact(ai.nilOwn (s:=6) 1 true (by simp)).trans (ai.keep (by simp[uk,ae]) rfl)
 intro j hj;have u:(popN T j).lits.length=T.lits.length -j:=by rw[d6,SU];omega
 have g:=uj T j;have w:∀y∈(popN T j).lits,0<=af y∧af y<(popN T j).marks.length:=λy hy=>by
  rw[d6]at hy;rw[Eb];exact Q y (TL hy)
 have t:popN T (j+1)=lL (popN T j):=rfl;have q:uk T (j+1)=uk T j++[(popN T j).lits.getD ((popN T j).lits.length -1) 0]:=rfl;have P:=ul T j;have d:=λ(h:List (List SV)) (n b:Nat) h1 N O=>CD h n b (popN T j) h1 N O (by omega) w;have l:∀(Y z:List SV) D,(h.set b Y++[z])[b]'D=Y:=λY z D=>by rw[TB (by simpa using a)];simp
 have o:∀(Y z:List SV),(h.set b Y++[z])[b]?=some Y:=λY z=>by rw[SO (by simpa using a)];simp[a]
 have p:∀(Y z W:List SV),(h.set b Y++[z]).set b W=h.set b W++[z]:=λY z W=>by rw[xu (by simpa using a),Wb]
 have f:b<h.length+1:=by omega
 by_cases c:m<T.lits.length -j
 .have L:(popN T j).lits≠[]:=λe=>by rw[e]at u;simp at u;omega
  have i:(m:Int)<((popN T j).lits.length:Int):=by omega
  have d:=d (h.set b (gD (popN T j))++[[.pv (.ptr b 0)]]) h.length b (by rw[Td (by simp)];simp) (o _ _) L;rw[p]at d;generalize popN T j=X at*;simp only[gD,g]at d;simp[l,f,gD,g,hk,C,i];refine am.intro d ?_;rintro _ _ ⟨rfl,rfl⟩;simp;refine⟨by omega,j+1,by(try dsimp only);omega,by(try dsimp only);omega,ai.keep (by simp[q,ae]) (by simp[t])⟩
 .have i:¬(m:Int)<((popN T j).lits.length:Int):=by omega
  have I:j=T.lits.length -m:=by omega
  subst I;have H:(ae T.beg).take k=ae (T.beg.take k):=by unfold ae;rw[U3]
  have J:k<=T.beg.length:=by omega
  clear d w t q;generalize popN T (T.lits.length -m)=X at*;simp[l,p,f,gD,g,hk,C,i,H,J]
end Go.AX
namespace Go.AX
set_option maxRecDepth 8000
open Go.Proofs
set_option linter.unusedSimpArgs false
def ff(b:Bool):Int:=if b=true then 1 else 0
def dt(A:Ar)(id:Int)(lits:List Int)(b:Bool):Ar:=if jA id lits=0 then⟨A.row++([id,(lits.length:Int),ff b]++lits),pt A.hd A.row.length id⟩else A
theorem JN(h:List (List SV))(b:Nat)(A:Ar)(g:h[b]?=some (ji A))(id:Int)(lits:List Int)(ln:Bool)(k:lits.length<=1000000)(l:A.row.length<=1000000000):
 ax Tryz.prog 127 [.ptr b 0,ab id,.seq false 1 (ae lits),BL ln] h (λr h'=>h'=h.set b (ji (dt A id lits ln))∧r=.pv (.tup [ab (if jA id lits=0 then A.row.length else 0),ab (jA id lits)])):=by
 refine dR [] [.tmp 8,.tmp 9] (h.set b (ji (dt A id lits ln))) (by simp) (λi=>by rw[Ti];exact bP (tv _ _) b i) aC Tryz.func127 ?_;obtain⟨f,e⟩:=SG.1 g;have d:jA id lits=if id<1∨10000000<id then 2 else iD lits 100000:=rfl;have c:dt A id lits ln=if jA id lits=0 then⟨A.row++([id,(lits.length:Int),ff ln]++lits),pt A.hd A.row.length id⟩else A:=rfl;have a:h.set b (ji A)=h:=cU g;generalize dt A id lits ln=j at c⊢;generalize jA id lits=E at d c⊢;simp;refine am.intro (pL h b A g) ?_;rintro _ _ ⟨rfl,rfl⟩
 by_cases c1:id<1
 .rw[SN (.inl c1)]at d;subst d;rw[SM (by omega)]at c;subst c;simp[c1,a]
 by_cases c2:10000000<id
 .rw[SN (.inr c2)]at d;subst d;rw[SM (by omega)]at c;subst c;simp[c1,c2,a]
 rw[SM (by omega)]at d;simp[c1,c2];refine ah.intro (oH lits 100000 (by omega)) ?_;rw[←d]
 by_cases c3:E=0
 rotate_left
 .rw[SM c3]at c;subst c;simp[c3,a]
 rw[SN c3]at c;subst c;cases ln
 .simp[c3,e,f,ji,ff];refine⟨by omega,by omega,?_⟩;rw[Tm (by simp)];simp[ae]
 .simp[c3,e,f,ji,ff];refine⟨by omega,by omega,?_⟩;rw[Tm (by simp)];simp[ae]
def Ah(A:Ar)(k:Int):Int:=if(lk A.hd k).getD 0=0 then 20 else 0
theorem Mt(h:List (List SV))(b:Nat)(A:Ar)(e:h[b]?=some (ji A))(k:Int):ax Tryz.prog 196 [.ptr b 0,ab k] h (λr h'=>h'=h∧r=.pv (ab (Ah A k))):=by
 refine gC [] [.tmp 4] aC Tryz.func196 ?_;obtain⟨d,a⟩:=SG.1 e;simp;refine am.intro (pL h b A e) ?_;rintro _ _ ⟨rfl,rfl⟩;unfold Ah
 by_cases c:(lk A.hd k).getD 0=0
 .simp[a,d,ji,c]
 .simp[a,d,ji,c]
def rS(A:Ar)(k:Int):Ar:=if Ah A k=0 then⟨A.row.set (k.toNat+2) 2,dl A.hd k⟩else A
theorem JO(h:List (List SV))(b:Nat)(A:Ar)(d:h[b]?=some (ji A))(k:Int)(hk:Ah A k=0->0<=k∧k+2<A.row.length)(l:A.row.length<=1000000000):
 ax Tryz.prog 117 [.ptr b 0,ab k] h (λr h'=>h'=h.set b (ji (rS A k))∧r=.pv (ab (Ah A k))):=by
 refine dR [] [.tmp 4] (h.set b (ji (rS A k))) (by simp) (λg=>by rw[Ti];exact bP (tv _ _) b g) aC Tryz.func117 ?_;obtain⟨f,e⟩:=SG.1 d;have a:h.set b (ji A)=h:=cU d;unfold rS;simp;refine am.intro (Mt h b A d k) ?_;rintro _ _ ⟨rfl,rfl⟩
 by_cases c:Ah A k=0
 .obtain⟨k0,m⟩:=hk c;obtain⟨p,rfl⟩:∃p:Nat,k=p:=⟨k.toNat,by omega⟩;have j:aY ((p:Int)+2)=((p+2:Nat):Int):=by rw[ao (by omega) (by omega)];omega
  have hp:p+2<A.row.length:=by omega
  have i:((p:Int)+2).toNat=p+2:=by omega
  have g2:A.row[p+2]?=some A.row[p+2]:=SH hp;simp[c,e,f,ji,j,hp,i,g2,ae];refine⟨by omega,?_⟩;rw[Tm (by simp)]
 .simp[c,a]
def o6(A:Ar)(k:Int):Bool:=isA A k&&decide (A.row.getD (k.toNat+2) 0=1)
theorem CE(h:List (List SV))(b:Nat)(A:Ar)(e:h[b]?=some (ji A))(k:Int)(hk:isA A k=true->0<=k∧k+2<A.row.length)(i:A.row.length<=1000000000):
 ax Tryz.prog 193 [.ptr b 0,ab k] h (λr h'=>h'=h∧r=.pv (BL (o6 A k))):=by
 refine gC [] [.tmp 4] aC Tryz.func193 ?_;obtain⟨d,a⟩:=SG.1 e;unfold o6;simp;refine am.intro (B3 h b A e k) ?_;rintro _ _ ⟨rfl,rfl⟩;cases c:isA A k
 .simp[c]
 .obtain⟨k0,j⟩:=hk c;obtain⟨p,rfl⟩:∃p:Nat,k=p:=⟨k.toNat,by omega⟩;have g:aY ((p:Int)+2)=((p+2:Nat):Int):=by rw[ao (by omega) (by omega)];omega
  have hp:p+2<A.row.length:=by omega
  have f:((p:Int)+2).toNat=p+2:=by omega
  have g2:A.row[p+2]?=some A.row[p+2]:=SH hp;simp[c,a,d,ji,g,hp,f,g2];omega
def JQ(v:Int)(b:Bool):Int:=if v<1∨cX v=false then 0 else if b=true then v else-v
def QW(v:Int):Int:=if v<1∨cX v=false then 10 else 0
theorem JR(v:Int)(b:Bool):ak Tryz.prog 102 [ab v,BL b] (λr=>r=.pv (.tup [ab (JQ v b),ab (QW v)])):=by
 refine iX [] [.tmp 4,.tmp 5] aC Tryz.func102 ?_;have c:=pD v;unfold JQ QW
 by_cases c1:v<1
 .simp[c1];refine aV.intro (r:=.pv (BL true)) (λh=>h.elim) ?_;simp[c1]
 .simp[c1];refine aV.intro (λ_=>c) ?_;cases c2:cX v
  .simp[c1,c2]
  .obtain⟨h1,d,e⟩:=(a8 v).1 c2;have a:aY (-v)=-v:=ao (by omega) (by omega);cases b<;>simp[c1,c2,a]
end Go.AX
namespace Go.AX.V
open Go.Proofs
set_option linter.unusedSimpArgs false
theorem litO{y:Int}(h:cX y=true):y≠0∧-100000<=y∧y<=100000∧0<=aX y∧aY (-y)=-y:=by
 obtain⟨a,b,c⟩:=(a8 y).1 h;exact⟨a,b,c,by rw[gP];exact h,ao (by omega) (by omega)⟩
theorem qg{l:Int}(h:cX l=true):1<=af l∧af l<=100000∧l≠0∧-100000<=l∧l<=100000∧af l=fp l:=by
 obtain⟨a,b,c⟩:=(a8 l).1 h;have e:af l=fp l:=by unfold af;rw[SN h]
 refine⟨?_,?_,a,b,c,e⟩<;>rw[e]<;>unfold fp<;>split<;>omega
theorem uv{l:Int}(h:cX l=true):cX (-l)=true:=by
 obtain⟨a,b,c⟩:=(a8 l).1 h;exact(a8 _).2 ⟨by omega,by omega,by omega⟩
theorem QX{y:Int}(h:cX y=true):cX y=true:=h
theorem okL_chk{l v:Int}(d:0<=v∧v<=100000)(h:ay l v=0):cX l=true:=by
 obtain⟨a,b,c⟩:=(dm d).1 h;exact(a8 _).2 ⟨a,by omega,by omega⟩
structure RelT (T:Tr) (t:RT):Prop where
  vars:0<=t.vars∧t.vars<=100000
  len:(T.marks.length:Int)=t.vars+1
  lits:T.lits=t.rows.map (·.l)
  dep:t.dep=(T.beg.length:Int)
  chk:∀x∈t.rows,ay x.l t.vars=0
  ok:∀x∈t.rows,cX x.l=true∧0<=x.lev∧x.lev<=t.dep
  free:∀v:Int,qG t v<0->(bH T v).v=0
  mark:∀(v:Int)(i:Nat)(hi:i<t.rows.length),qG t v=(i:Int)->bH T v=⟨if t.rows[i].l<0 then-1 else 1,t.rows[i].lev,t.rows[i].rea,i⟩
theorem RelT.okT{T:Tr}{t:RT}(h:RelT T t):T.ok:=by
 have:=h.vars;have:=h.len;exact⟨by omega,by omega⟩
def RelD(T:Tr)(t:RT):Prop:=RelT T t∧T.beg.length<=t.rows.length
theorem x3{T:Tr}{t:RT}(h:RelT T t)(v:Int):(dA T v).1.lev=(Qz t v).1∧(dA T v).1.rea=(Qz t v).2∧(dA T v).1.pla=qG t v:=by
 unfold dA Qz;have g:=h.len;have j:=h.vars
 by_cases c:qG t v<0
 .rw[SN c,SN]
  .refine⟨rfl,rfl,?_⟩;have:qG t v=-1:=by
    unfold qG gp at*;split at c
    .omega
    .rfl
   rw[this]
  .exact .inr (.inr (h.free v c))
 .obtain⟨i,hi,d,f⟩:=lw (t:=t) (v:=v) (by omega);obtain⟨a,_⟩:=qg (h.ok _ (SS hi)).1;have b:=(pE h.vars (h.chk _ (SS hi))).2.1;have e:=h.mark v i hi d;rw[SM c,SM,e,d]
  .simp[hi]
  .rw[e];simp only;have:(if t.rows[i].l<0 then(-1:Int)else 1)≠0:=by split<;>omega
   simp[this];omega
theorem J9{D:DK}(h:RelT D.T D.t){l:Int}{i:Nat}(hi:i<D.t.rows.length)(e:D.t.rows[i].l=l∨D.t.rows[i].l=-l):ay l D.t.vars=0:=by
 have a:=(dm h.vars).1 (h.chk _ (SS hi));exact(dm h.vars).2 (by rcases e with e|e<;>omega)
theorem sy{D:DK}(h:RelT D.T D.t){l:Int}(k:cX l=true){i:Nat}(hi:i<D.t.rows.length)(hp:qG D.t (af l)=i):(D.t.rows[i].l=-l∧cz D.T l=-1)∨(D.t.rows[i].l=l∧cz D.T l=1):=by
 have c:((D.T.marks.length:Nat):Int) -1=D.t.vars:=by rw[h.len];omega
 have f:=h.mark _ i hi hp;obtain⟨j,hj,q,a⟩:=lw (t:=D.t) (v:=af l) (by omega);have d:j=i:=by omega
 subst d;obtain⟨_,_,r,_,_,m⟩:=qg (h.ok _ (SS hi)).1;obtain⟨_,_,l0,_,_,n⟩:=qg k;rw[m,n]at a;have hs:D.t.rows[j].l=l∨D.t.rows[j].l=-l:=by unfold fp at a;split at a<;>split at a<;>omega
 unfold cz;rw[c,f,SM (λe=>e (J9 h hi hs))];unfold fp at a;dsimp only;have o:aY (-1)=-1:=by decide
 have p:aY (- -1)=1:=by decide
 by_cases g:l<0
 .rw[SN g]at a⊢
  by_cases b:D.t.rows[j].l<0
  .rw[SN b]at a⊢;rw[p];exact .inr ⟨by omega,rfl⟩
  .rw[SM b]at a⊢;rw[o];exact .inl ⟨by omega,rfl⟩
 .rw[SM g]at a⊢
  by_cases b:D.t.rows[j].l<0
  .rw[SN b]at a⊢;exact .inl ⟨by omega,rfl⟩
  .rw[SM b]at a⊢;exact .inr ⟨by omega,rfl⟩
theorem wA{D:DK}(h:RelT D.T D.t){l:Int}(a:cz D.T l≠0):cX l=true∧∃i,∃hi:i<D.t.rows.length,qG D.t (af l)=i:=by
 have b:((D.T.marks.length:Nat):Int) -1=D.t.vars:=by rw[h.len];omega
 unfold cz at a;rw[b]at a
 by_cases c:ay l D.t.vars=0
 .refine⟨okL_chk h.vars c,?_⟩;rw[SM (λe=>e c)]at a
  by_cases d:0<=qG D.t (af l)
  .obtain⟨i,hi,e,_⟩:=lw d;exact⟨i,hi,e⟩
  .rw[h.free _ (by omega)]at a;have f:aY (-0)=0:=by decide
   split at a
   .exact absurd f a
   .exact absurd rfl a
 .rw[SN c]at a;exact absurd rfl a
def DkR(D:DK):Prop:=∀i (hi:i<D.t.rows.length),D.t.rows[i].rea<0∨(isA D.A D.t.rows[i].rea=true∧D.t.rows[i].l∈au D.A D.t.rows[i].rea∧∀y∈au D.A D.t.rows[i].rea,cX y=true∧(y≠D.t.rows[i].l->aY (-y)∈(D.t.rows.take i).map (·.l)))
structure DeskOk (D:DK):Prop where
  rel:RelD D.T D.t
  relA:RelA D.A D.a
  rea:DkR D
  len:D.A.row.length<=1000000
theorem Ka{D:DK}(h:RelT D.T D.t){v:Int}(a:0<=(dA D.T v).1.rea):∃i,∃hi:i<D.t.rows.length,qG D.t v=i∧af D.t.rows[i].l=v∧(dA D.T v).1.rea=D.t.rows[i].rea∧(dA D.T v).1.pla=i:=by
 obtain⟨_,d,e⟩:=x3 h v;rw[d]at a⊢;unfold Qz at a⊢
 by_cases c:qG D.t v<0
 .rw[SN c]at a;dsimp only at a;omega
 .obtain⟨i,hi,b,f⟩:=lw (t:=D.t) (v:=v) (by omega);refine⟨i,hi,b,f,?_,by rw[e,b]⟩;rw[SM c,b,Ub,SI,SH hi];rfl
theorem DeskOk.sh{D:DK}(h:DeskOk D){c:List Int}(d:c.length<=1000000):ShOk D.A D.T c where
 tr:=h.rel.1.okT
 ar:=λq f=>by
  obtain⟨x,hx,e⟩:=h.relA.is q f;obtain⟨p,a,b,_⟩:=h.relA.rows x hx;exact⟨p,_,by rw[←e,a],b⟩
 len:=h.len
 few:=d
 hd:=λv g=>by
  obtain⟨i,hi,_,_,e,_⟩:=Ka h.rel.1 g;rcases h.rea i hi with h1|⟨h1,_⟩
  .omega
  .exact Cb h1
theorem Oc{D:DK}(h:DeskOk D){l:Int}(a:pQ D.A D.T l=true):∃i,∃hi:i<D.t.rows.length,cH D.T l=i∧D.t.rows[i].l=aY (-l)∧cX l=true∧(dA D.T (af l)).1.rea=D.t.rows[i].rea∧0<=D.t.rows[i].rea:=by
 unfold pQ at a;simp only[TN,VK,Us]at a;obtain⟨⟨b1,b2⟩,_⟩:=a;obtain⟨i,hi,c,g,d,f⟩:=Ka h.rel.1 (v:=af l) (by omega);obtain⟨b,_⟩:=wA h.rel.1 (l:=l) (by omega);refine⟨i,hi,f,?_,b,d,by omega⟩;rw[(litO b).2.2.2.2];rcases sy h.rel.1 b hi c with⟨e,_⟩|⟨_,e⟩
 .exact e
 .omega
theorem val3_m1_of{l:List Int}{y:Int}(hy:cX y=true)(h:-y∈l)(a:y∉l):bn l y=-1:=by
 obtain⟨_,_,_,hx,b⟩:=litO hy;unfold bn;rw[SM (by omega),SM a,SN (by rw[b];exact h)]
structure TraF (cs:List (List Int)) (ats:List Int) (t:RT):Prop where
  dep:0<=t.dep
  chk:∀x∈t.rows,cX x.l=true
  nd:(t.rows.map λx=>af x.l).Nodup
  lev:∀x∈t.rows,0<=x.lev∧x.lev<=t.dep
  mono:∀i j (hi:i<t.rows.length)(hj:j<t.rows.length),i<j->t.rows[i].lev<=t.rows[j].lev
  dec:∀i (hi:i<t.rows.length),t.rows[i].rea<0->0<t.rows[i].lev∧∀j (hj:j<t.rows.length),j<i->t.rows[j].lev<t.rows[i].lev
  top:0<t.dep->Calm cs (bel t t.dep)
  fst:∀k:Int,0<k->k<=t.dep->∃x∈t.rows,x.lev=k∧x.rea<0
  imp:∀i (hi:i<t.rows.length),0<=t.rows[i].rea->∃k,∃hk:k<cs.length,t.rows[i].rea=ats.getD k 0∧t.rows[i].l∈cs[k]∧(∀y∈cs[k],y≠t.rows[i].l->∃j,∃hj:j<t.rows.length,j<i∧t.rows[j].l=-y)∧
    (0<t.rows[i].lev->∃y∈cs[k],y≠t.rows[i].l∧∃j,∃hj:j<t.rows.length,j<i∧t.rows[j].l=-y∧t.rows[j].lev=t.rows[i].lev)
theorem TraF.inj{cs:List (List Int)}{ats:List Int}{t:RT}(h:TraF cs ats t){i j:Nat}(hi:i<t.rows.length)(hj:j<t.rows.length)(e:af t.rows[i].l=af t.rows[j].l):i=j:=by
 have hn:=Tv.1 (UC.1 h.nd);rcases UB i j with c|c|c
 .exact absurd e (hn i j hi hj c)
 .exact c
 .exact absurd e.symm (hn j i hj hi c)
theorem TraF.one{cs:List (List Int)}{ats:List Int}{t:RT}(h:TraF cs ats t){y:Int}(hy:cX y=true):¬(y∈dL t∧-y∈dL t):=by
 rintro⟨h1,d⟩;unfold dL at h1 d;obtain⟨a,g,e⟩:=SY.1 h1;obtain⟨b,k,f⟩:=SY.1 d;obtain⟨i,hi,rfl⟩:=S6 g;obtain⟨j,hj,rfl⟩:=S6 k;have m:af t.rows[i].l=af t.rows[j].l:=by rw[e,f,dF]
 have c:i=j:=h.inj hi hj m;subst c;obtain⟨n0,_⟩:=litO hy;omega
structure ClsN (cs:List (List Int)) (ats:List Int):Prop where
  len:∀c∈cs,c.length<=1000
  chk:∀c∈cs,∀y∈c,cX y=true
  pos:∀k,k<cs.length->0<=ats.getD k 0
  nd:∀c∈cs,c.Nodup
theorem Kb{cs:List (List Int)}{ats:List Int}(o:ClsN cs ats){t:RT}(h:TraF cs ats t){c:List Int}(m:c∈cs)(k:sm (dL t) c=-1)(hd:0<t.dep):∃y∈c,∃x∈t.rows,x.l=-y∧x.lev=t.dep:=by
 apply Tl;intro j;have b:=(h.top hd _ m).2;apply b;rw[lG]at k⊢;intro y hy hx;have d:=o.chk _ m y hy;have:=xJ (k y hy hx);rw[(litO d).2.2.2.2]at this;unfold dL at this;obtain⟨a,g,e⟩:=SY.1 this;have p:=(h.lev _ g).2;have i:a.lev<t.dep:=by
  rcases Wz a.lev t.dep with c|c
  .exact c
  .exact absurd ⟨y,hy,a,g,e,by omega⟩ j
 have f:-y∈bel t t.dep:=by
  unfold bel;rw[SY];exact⟨a,TE.2 ⟨g,by simpa using i⟩,e⟩
 exact val3_m1_of d f (λn=>h.one d ⟨gQ _ n,gQ _ f⟩)
structure DeskT (cs:List (List Int)) (ats:List Int) (D:DK):Prop where
  ok:DeskOk D
  cls:ClsN cs ats
  facts:TraF cs ats D.t
  ars:∀k (hk:k<cs.length),isA D.A (ats.getD k 0)=true∧au D.A (ats.getD k 0)=cs[k]
theorem TraF.pla{cs:List (List Int)}{ats:List Int}{t:RT}(h:TraF cs ats t){j:Nat}(hj:j<t.rows.length):qG t (af t.rows[j].l)=j:=by
 have h1:=xK (p:=λx:En=>decide (af x.l=af t.rows[j].l)) hj (by simp);obtain⟨i,hi,a,b⟩:=lw (t:=t) (v:=af t.rows[j].l) h1.1;have:=h.inj hi hj b;subst this;exact a
theorem od{cs:List (List Int)}{ats:List Int}{T:Tr}{t:RT}(d:RelT T t)(h:TraF cs ats t){j:Nat}(hj:j<t.rows.length):(dA T (af t.rows[j].l)).1.lev=t.rows[j].lev∧(dA T (af t.rows[j].l)).1.rea=t.rows[j].rea∧(dA T (af t.rows[j].l)).1.pla=j:=by
 obtain⟨a,b,c⟩:=x3 d (af t.rows[j].l);have hp:=h.pla hj;rw[a,b,c];unfold Qz;rw[hp,SM (by omega),Ub,SI,SH hj];exact⟨rfl,rfl,rfl⟩
theorem o7{cs:List (List Int)}{ats:List Int}{T:Tr}{t:RT}(a:RelT T t)(h:TraF cs ats t){j:Nat}(hj:j<t.rows.length){y:Int}(hy:t.rows[j].l=-y):dU T y=t.rows[j].lev:=by
 unfold dU;rw[qJ hj hy];exact(od a h hj).1
theorem MB{cs:List (List Int)}{ats:List Int}{T:Tr}{t:RT}(r:RelT T t)(k:TraF cs ats t){p:PS}{n:Nat}(h:LI t p n){y:Int}{j:Nat}(hj:j<t.rows.length)(hy:t.rows[j].l=-y)
 (hn:t.rows[j].lev=t.dep->j<n∨t.rows[j].rea<0) (but:Int):
 LI t (takeF T but p y) n∧(af y=but∨t.rows[j].lev<=0∨aA (takeF T but p y).seen (af y)=true)∧(∀v,aA p.seen v=true->aA (takeF T but p y).seen v=true)∧p.many<=(takeF T but p y).many:=by
 have u:=o7 r k hj hy;have d:=qJ hj hy;have hd:=r.dep;unfold takeF
 by_cases c:af y=but∨aA p.seen (af y)=true∨dU T y<=0
 .rw[SN c];refine⟨h,?_,λv d=>d,SQ _⟩;rcases c with c|c|c
  .exact .inl c
  .exact .inr (.inr c)
  .exact .inr (.inl (by omega))
 rw[SM c];have q:aA p.seen (af y)=false:=by
  cases e:aA p.seen (af y)
  .rfl
  .exact absurd (.inr (.inl e)) c
 have f:0<t.rows[j].lev:=by
  rcases Wz 0 t.rows[j].lev with e|e
  .exact e
  .exact absurd (.inr (.inr (by omega))) c
 have s:=(k.lev _ (SS hj)).2
 by_cases c2:dU T y=T.beg.length
 .rw[SN c2];have hs:∀w,aA (pt p.seen (af y) 1) w=if af y=w then true else aA p.seen w:=λw=>by rw[nx];simp
  refine⟨⟨?_,h.li,?_,?_⟩,.inr (.inr (by rw[hs,SN rfl])),λv d=>by rw[hs];split<;>simp[d],UX _⟩
  .intro v b;rw[hs]at b;split at b
   .rename_i e;exact⟨j,hj,by rw[←d,e],f,hn⟩
   .exact h.sn v b
  .intro i hi a g;rw[hs]at a;split at a
   .rename_i e;have:=k.inj hj hi (d.symm.trans e);subst this;omega
   .exact h.ls i hi a g
  .dsimp only;rw[h.mn];symm;apply oP hj
   .rw[←d,q];rfl
   .rw[←d,hs,SN rfl];simp;omega
   .intro i hi o;rw[hs,SM];intro e;exact o (k.inj hi hj (e.symm.trans d))
 .rw[SM c2];have hs:∀w,aA (pt p.seen (af y) 1) w=if af y=w then true else aA p.seen w:=λw=>by rw[nx];simp
  refine⟨⟨?_,?_,?_,?_⟩,.inr (.inr (by rw[hs,SN rfl])),λv d=>by rw[hs];split<;>simp[d],SQ _⟩
  .intro v b;rw[hs]at b;split at b
   .rename_i e;exact⟨j,hj,by rw[←d,e],f,hn⟩
   .exact h.sn v b
  .intro l m;rcases S7.1 m with m|m
   .exact h.li l m
   .simp at m;subst m;exact⟨j,hj,hy,f,by omega⟩
  .intro i hi a g;rw[hs]at a;split at a
   .rename_i e;have:=k.inj hj hi (d.symm.trans e);subst this;rw[hy];simp
   .exact Um _ (h.ls i hi a g)
  .dsimp only;rw[h.mn];apply List.countP_congr;intro x hx;rw[hs];split
   .rename_i e;obtain⟨i,hi,rfl⟩:=S6 hx;have:=k.inj hj hi (d.symm.trans e);subst this;have:¬t.rows[j].lev=t.dep:=by omega
    simp[this]
   .rfl
theorem uw{cs:List (List Int)}{ats:List Int}{T:Tr}{t:RT}(f:RelT T t)(d:TraF cs ats t){n:Nat}(but:Int):∀(c:List Int)(p:PS),LI t p n->
 (∀y∈c,af y=but∨∃j,∃hj:j<t.rows.length,t.rows[j].l=-y∧(t.rows[j].lev=t.dep->j<n∨t.rows[j].rea<0))->
 LI t (dz T but c p) n∧(∀y∈c,af y=but∨dU T y<=0∨aA (dz T but c p).seen (af y)=true)∧(∀v,aA p.seen v=true->aA (dz T but c p).seen v=true)∧p.many<=(dz T but c p).many
 |[],p,h,_=>⟨h,by simp,λ_ b=>b,SQ _⟩
 |y::c,p,h,g=>by
  have key:LI t (takeF T but p y) n∧(af y=but∨dU T y<=0∨aA (takeF T but p y).seen (af y)=true)∧(∀v,aA p.seen v=true->aA (takeF T but p y).seen v=true)∧p.many<=(takeF T but p y).many:=by
   rcases g y (Tj ..)with e|⟨j,hj,hy,hn⟩
   .have:takeF T but p y=p:=by unfold takeF;rw[SN (.inl e)]
    rw[this];exact⟨h,.inl e,λ_ b=>b,SQ _⟩
   .have:=MB f d h hj hy hn but;rw[←o7 f d hj hy]at this;exact this
  obtain⟨m,a,o,q⟩:=key;obtain⟨i,g2,g3,k⟩:=uw f d but c (takeF T but p y) m (λz hz=>g z (Tf _ hz));have e:dz T but (y::c) p=dz T but c (takeF T but p y):=rfl;rw[e];refine⟨i,?_,λv b=>g3 v (o v b),TD q k⟩;intro z hz;rcases Tp.1 hz with rfl|hz
  .rcases a with a|a|a
   .exact .inl a
   .exact .inr (.inl a)
   .exact .inr (.inr (g3 _ a))
  .exact g2 z hz
theorem MC{cs:List (List Int)}{ats:List Int}{t:RT}(q:TraF cs ats t){p:PS}{n:Nat}(h:LI t p (n+1))(hn:n<t.rows.length)(hs:aA p.seen (af t.rows[n].l)=true)(hd:t.rows[n].lev=t.dep):
 LI t ⟨pt p.seen (af t.rows[n].l) 0,p.lits,p.many -1⟩ n:=by
 have a:∀w,aA (pt p.seen (af t.rows[n].l) 0) w=if af t.rows[n].l=w then false else aA p.seen w:=λw=>by rw[nx];simp
 refine⟨?_,h.li,?_,?_⟩
 .intro v d;rw[a]at d;split at d
  .cases d
  .rename_i e;obtain⟨j,hj,g,k,m⟩:=h.sn v d;refine⟨j,hj,g,k,λhd=>(m hd).imp (λc=>?_) id⟩;have:j≠n:=λo=>by subst o;exact e g
   omega
 .intro j hj b c;rw[a]at b;split at b
  .cases b
  .exact h.ls j hj b c
 .dsimp only; rw [h.mn]; have := oP (l := t.rows) (P := λ x => aA (pt p.seen (af t.rows[n].l) 0) (af x.l) && decide (x.lev = t.dep)) (Q := λ x => aA p.seen (af x.l) && decide (x.lev = t.dep)) hn (by
   rw[a,SN rfl];rfl) (by rw[hs];simp[hd]) (λi hi f=>by
   rw[a,SM];intro e;exact f (q.inj hi hn e.symm))
  rw[this];omega
theorem dg{cs:List (List Int)}{ats:List Int}{D:DK}(h:DeskT cs ats D){n:Nat}(hn:n<D.t.rows.length)(i:0<=D.t.rows[n].rea):isA D.A D.t.rows[n].rea=true∧D.t.rows[n].l∈au D.A D.t.rows[n].rea∧
 ∀y∈au D.A D.t.rows[n].rea,cX y=true∧(y≠D.t.rows[n].l->∃j,∃hj:j<D.t.rows.length,j<n∧D.t.rows[j].l=-y):=by
 rcases h.ok.rea n hn with h1|⟨h1,d,f⟩
 .omega
 .refine⟨h1,d,λy hy=>?_⟩;obtain⟨c,g⟩:=f y hy;refine⟨c,λb=>?_⟩;have:=g b;rw[(litO c).2.2.2.2,SY]at this;obtain⟨x,hx,e⟩:=this;obtain⟨j,hj,rfl⟩:=S6 hx;have a:j<n∧j<D.t.rows.length:=by simp at hj;omega
  refine⟨j,a.2,a.1,?_⟩;rw[←e];simp
theorem Kc{cs:List (List Int)}{ats:List Int}{D:DK}(h:DeskT cs ats D){p:PS}{n:Nat}(hi:LI D.t p (n+1))(hn:n<D.t.rows.length)(hp:nW D.T p D.t.rows[n].l=true):
 LI D.t (oO D.A D.T p D.t.rows[n].l) n∧p.many -1<=(oO D.A D.T p D.t.rows[n].l).many∧
  (∀j (hj:j<D.t.rows.length),j≠n->aA p.seen (af D.t.rows[j].l)=true->aA (oO D.A D.T p D.t.rows[n].l).seen (af D.t.rows[j].l)=true)∧
  (∀y∈au D.A D.t.rows[n].rea,y≠D.t.rows[n].l->dU D.T y<=0∨aA (oO D.A D.T p D.t.rows[n].l).seen (af y)=true):=by
 have b:=h.facts;have g:=h.ok.rel.1;unfold nW dU at hp;obtain⟨q,k,u⟩:=od g b hn;rw[q,k]at hp;simp only[S4,S9]at hp;obtain⟨r,v,s⟩:=hp;have hd:=g.dep;have h1:=MC b hi hn r (by omega);obtain⟨w,x,r3⟩:=dg h hn s;have d:oO D.A D.T p D.t.rows[n].l=dz D.T (af D.t.rows[n].l) (au D.A D.t.rows[n].rea) ⟨pt p.seen (af D.t.rows[n].l) 0,p.lits,p.many -1⟩:=by
  unfold oO;rw[k]
 obtain ⟨m, g2, g3, o⟩ := uw g b (af D.t.rows[n].l) (au D.A D.t.rows[n].rea) _ h1 (λ y hy => by
  by_cases e:y=D.t.rows[n].l
  .exact .inl (by rw[e])
  .obtain⟨j,hj,c,f⟩:=(r3 y hy).2 e;exact .inr ⟨j,hj,f,λ_=>.inl c⟩)
 rw[d];refine⟨m,o,λj hj a i=>?_,λy hy a=>?_⟩
 .apply g3;rw[nx,SM]
  .exact i
  .intro e;exact a (b.inj hj hn e.symm)
 .rcases g2 y hy with e|e|e
  .exfalso;obtain⟨j,hj,c,f⟩:=(r3 y hy).2 a;rw[qJ hj f]at e;have:=b.inj hj hn e;omega
  .exact .inl e
  .exact .inr e
theorem Er{t:RT}{T:Tr}{cs:List (List Int)}{ats:List Int}(b:RelT T t)(i:TraF cs ats t){p:PS}{n:Nat}(h:LI t p (n+1))(hn:n<t.rows.length)(hp:¬nW T p t.rows[n].l=true):LI t p n:=by
 refine⟨λv d=>?_,h.li,h.ls,h.mn⟩;obtain⟨j,hj,a,f,g⟩:=h.sn v d;refine⟨j,hj,a,f,λhd=>?_⟩;rcases g hd with e|e
 .by_cases c:j=n
  .subst c;right;apply Tl;intro o;apply hp;unfold nW dU;obtain⟨k,m,q⟩:=od b i hj;rw[k,m,a,d];have:=b.dep;simp only[S4,S9,XN];omega
  .left;omega
 .exact .inr e
theorem MD{t:RT}{cs:List (List Int)}{ats:List Int}(d:TraF cs ats t){p:PS}(h:LI t p 0):p.many<=1:=by
 apply Tl;intro m;have k:2<=t.rows.countP (λx=>aA p.seen (af x.l)&&decide (x.lev=t.dep)):=by rw[←h.mn];omega
 obtain⟨i,j,hi,hj,a,o,c⟩:=tI k;simp only[S4,S9]at o c;obtain⟨n,b,f,q,g⟩:=h.sn _ c.1;have:=d.inj b hj f;subst this;rcases g c.2 with e|e
 .omega
 .have:=(d.dec n hj e).2 i hi a;omega
theorem CL{T:Tr}{t:RT}(a:RelT T t){n:Nat}(hn:n<t.rows.length):T.lits.getD n 0=t.rows[n].l:=by
 rw[a.lits,SI,Tg,SH hn];rfl
theorem x4{cs:List (List Int)}{ats:List Int}{D:DK}(h:DeskT cs ats D):∀(n:Nat)(p:PS),n<=D.t.rows.length->LI D.t p n->
 (∃m,LI D.t (cO D.A D.T D.T.lits n p) m)∧(cO D.A D.T D.T.lits n p).many<=1∧(1<=p.many->1<=(cO D.A D.T D.T.lits n p).many)
 |0,p,_,hi=>⟨⟨0,hi⟩,MD h.facts hi,λe=>e⟩
 |n+1,p,hn,hi=>by
  rw[cO];split
  .exact⟨⟨_,hi⟩,by assumption,λe=>e⟩
  rename_i c;have a:n<D.t.rows.length:=by omega
  rw[CL h.ok.rel.1 a];split
  .rename_i hp;obtain⟨b,g2,_⟩:=Kc h hi a hp;obtain⟨d,f,g⟩:=x4 h n _ (by omega) b;exact⟨d,f,λ_=>g (by omega)⟩
  .rename_i hp;exact x4 h n p (by omega) (Er h.ok.rel.1 h.facts hi a hp)
theorem Kd{cs:List (List Int)}{ats:List Int}{D:DK}(h:DeskT cs ats D){j:Nat}(hj:j<D.t.rows.length):cz D.T (-D.t.rows[j].l)=-1∧cz D.T D.t.rows[j].l=1:=by
 have b:=h.facts;have a:=b.chk _ (SS hj);have hp:=b.pla hj;obtain⟨n0,c,d,_⟩:=litO a;constructor
 .rcases sy h.ok.rel.1 (uv a) hj (by rw[dF];exact hp)with⟨_,e⟩|⟨e,_⟩
  .exact e
  .omega
 .rcases sy h.ok.rel.1 a hj hp with⟨e,_⟩|⟨_,e⟩
  .omega
  .exact e
theorem CM{cs:List (List Int)}{ats:List Int}{D:DK}(h:DeskT cs ats D){R:List Int}{j:Nat}(hj:j<D.t.rows.length)(c:0<=D.t.rows[j].rea)(hy:∀y∈au D.A D.t.rows[j].rea,y≠D.t.rows[j].l->HOk D.A D.T R y):HOk D.A D.T R (-D.t.rows[j].l):=by
 obtain⟨f,b,g⟩:=od h.ok.rel.1 h.facts hj;obtain⟨e,i,r3⟩:=dg h hj c;refine .why (by rw[(Kd h hj).1];omega) ?_ ?_ ?_
 .rw[dF,b];exact c
 .rw[dF,b];exact e
 .rw[dF,b];intro y d a;exact hy y d (by rw[UZ]at a;exact a)
theorem x5{cs:List (List Int)}{ats:List Int}{D:DK}(h:DeskT cs ats D)(R:List Int):∀(n j:Nat)(hj:j<D.t.rows.length),j<n->D.t.rows[j].lev<=0->HOk D.A D.T R (-D.t.rows[j].l)
 |0,_,_,hn,_=>by omega
 |n+1,j,hj,hn,f=>by
  have c:=h.facts;have d:0<=D.t.rows[j].rea:=by
   rcases Wz D.t.rows[j].rea 0 with e|e
   .have:=(c.dec j hj e).1;omega
   .exact e
  refine CM h hj d λy hy b=>?_;obtain⟨i,hi,a,e⟩:=((dg h hj d).2.2 y hy).2 b;have g:=c.mono i j hi hj a;have:=x5 h R n i hi (by omega) (by omega);rw[jb hi e];exact this
theorem Nk{cs:List (List Int)}{ats:List Int}{D:DK}(h:DeskT cs ats D){p:PS}{R:List Int}(a:Fr D p R){j:Nat}(hj:j<D.t.rows.length){y:Int}(hy:D.t.rows[j].l=-y)(hs:dU D.T y<=0∨aA p.seen (af y)=true):HOk D.A D.T R y:=by
 have b:=o7 h.ok.rel.1 h.facts hj hy;rw[jb hj hy];rcases hs with e|e
 .exact x5 h R (j+1) j hj (by omega) (by omega)
 .rw[qJ hj hy]at e;exact a j hj e
theorem x7{cs:List (List Int)}{ats:List Int}{D:DK}(h:DeskT cs ats D){R:List Int}:∀(n:Nat)(p:PS),n<=D.t.rows.length->LI D.t p n->Fr D (cO D.A D.T D.T.lits n p) R->Fr D p R
 |0,p,_,_,a=>a
 |n+1,p,hn,hi,a=>by
  rw[cO]at a;split at a
  .exact a
  have b:n<D.t.rows.length:=by omega
  rw[CL h.ok.rel.1 b]at a;split at a
  .rename_i hp;obtain⟨l,g2,g3,m⟩:=Kc h hi b hp;have g:=x7 h n _ (by omega) l a;intro j hj hs
   by_cases e:j=n
   .subst e;obtain⟨q,o,r⟩:=od h.ok.rel.1 h.facts hj;have f:0<=D.t.rows[j].rea:=by
     unfold nW at hp;rw[o]at hp;simp only[S4,S9]at hp;exact hp.2.2
    refine CM h hj f λy hy c=>?_;obtain⟨i,d,_,k⟩:=((dg h hj f).2.2 y hy).2 c;exact Nk h g d k (m y hy c)
   .exact g j hj (g3 j hj e hs)
  .rename_i hp;exact x7 h n p (by omega) (Er h.ok.rel.1 h.facts hi b hp) a
structure Conf (D:DK) (con:Int):Prop where
  is:isA D.A con=true
  neg:∀y∈au D.A con,cX y=true∧∃j,∃hj:j<D.t.rows.length,D.t.rows[j].l=-y
  top:0<D.t.dep->∃y∈au D.A con,∃j,∃hj:j<D.t.rows.length,D.t.rows[j].l=-y∧D.t.rows[j].lev=D.t.dep
theorem conf_at{cs:List (List Int)}{ats:List Int}{D:DK}(h:DeskT cs ats D){k:Nat}(hk:k<cs.length)(c:sm (dL D.t) cs[k]=-1):Conf D (ats.getD k 0):=by
 obtain⟨f,d⟩:=h.ars k hk;have e:=SS hk;refine⟨f,?_,?_⟩
 .rw[d];intro y hy;have a:=h.cls.chk _ e y hy;refine⟨a,?_⟩;rw[lG]at c;have:=xJ (c y hy (litO a).2.2.2.1);rw[(litO a).2.2.2.2]at this;unfold dL at this;obtain⟨x,hx,b⟩:=SY.1 this;obtain⟨j,hj,rfl⟩:=S6 hx;exact⟨j,hj,b⟩
 .rw[d];intro hd;obtain⟨y,hy,x,hx,b,g⟩:=Kb h.cls h.facts e c hd;obtain⟨j,hj,rfl⟩:=S6 hx;exact⟨y,hy,j,hj,b,g⟩
theorem Od{cs:List (List Int)}{ats:List Int}{D:DK}(h:DeskT cs ats D){con:Int}(a:Conf D con):
 LI D.t (iq D.A D.T con) D.t.rows.length∧(∀y∈au D.A con,dU D.T y<=0∨aA (iq D.A D.T con).seen (af y)=true)∧(0<D.t.dep->1<=(iq D.A D.T con).many):=by
 obtain ⟨d, g2, _, _⟩ := uw h.ok.rel.1 h.facts 0 (au D.A con) _ (NV D.t D.t.rows.length) (λ y hy => by
  obtain⟨_,j,hj,e⟩:=a.neg y hy;exact .inr ⟨j,hj,e,λ_=>.inl hj⟩)
 have g3:∀y∈au D.A con,dU D.T y<=0∨aA (iq D.A D.T con).seen (af y)=true:=λy hy=>by
  rcases g2 y hy with e|e
  .have:=(qg (a.neg y hy).1).1;omega
  .exact e
 refine⟨d,g3,λhd=>?_⟩;obtain⟨y,hy,j,hj,c,f⟩:=a.top hd;have i:=o7 h.ok.rel.1 h.facts hj c;have hs:aA (iq D.A D.T con).seen (af y)=true:=by
  rcases g3 y hy with e|e
  .omega
  .exact e
 have:=d.mn;unfold iq at this⊢;rw[this,Nat.one_le_iff_ne_zero,Ne,W9];intro b;have g:=b _ (SS hj);rw[qJ hj c]at hs;unfold iq at hs;simp[hs,f]at g
structure Learnt (D:DK) (L:List Int):Prop where
  nd:L.Nodup
  neg:∀y∈L,cX y=true∧∃j,∃hj:j<D.t.rows.length,D.t.rows[j].l=-y∧0<D.t.rows[j].lev
  nil:D.t.dep=0->L=[]
  top:0<D.t.dep->∃u r,L=u::r∧dU D.T u=D.t.dep∧∀y∈r,dU D.T y<D.t.dep
theorem Ke{cs:List (List Int)}{ats:List Int}{D:DK}(h:DeskT cs ats D)(p:PS)(y:Int):y∈rM D.T D.T.lits p↔y∈p.lits∨∃j,∃hj:j<D.t.rows.length,D.t.rows[j].l=-y∧aA p.seen (af D.t.rows[j].l)=true∧D.t.rows[j].lev=D.t.dep:=by
 have b:=h.ok.rel.1;have c:=h.facts;have hd:=b.dep;unfold rM;rw[S7,SY];constructor
 .rintro(e|⟨l,f,e⟩)
  .exact .inl e
  .rw[TE,b.lits]at f;obtain⟨d,a⟩:=f;obtain⟨x,hx,rfl⟩:=SY.1 d;obtain⟨j,hj,rfl⟩:=S6 hx;have i:=(litO (c.chk _ hx)).2.2.2.2;simp only[S4,S9]at a;have ho:=(od b c hj).1;unfold dU at a;exact .inr ⟨j,hj,by omega,a.1,by omega⟩
 .rintro(e|⟨j,hj,k,g,m⟩)
  .exact .inl e
  .right;have i:=(litO (c.chk _ (SS hj))).2.2.2.2;have ho:=(od b c hj).1;refine⟨D.t.rows[j].l,?_,by omega⟩;rw[TE,b.lits];refine⟨SY.2 ⟨_,SS hj,rfl⟩,?_⟩;unfold dU;simp only[S4,S9];exact⟨g,by omega⟩
theorem learn_is{cs:List (List Int)}{ats:List Int}{D:DK}(h:DeskT cs ats D){con:Int}(hc:Conf D con):
 Learnt D (dy D.A D.T con)∧∀y∈au D.A con,HOk D.A D.T (dy D.A D.T con) y:=by
 have K:=h.ok.rel.1;have n:=h.facts;have hd:=K.dep;have I:D.T.lits.length=D.t.rows.length:=by rw[K.lits,SZ]
 obtain⟨b1,b2,b3⟩:=Od h hc;obtain⟨⟨m,M⟩,w2,w3⟩:=x4 h D.t.rows.length (iq D.A D.T con) (SQ _) b1;have wf:=λR=>x7 h (R:=R) D.t.rows.length (iq D.A D.T con) (SQ _) b1;have hL:dy D.A D.T con=Iv D.T (eJ (rM D.T D.T.lits (cO D.A D.T D.T.lits D.t.rows.length (iq D.A D.T con)))):=by
  unfold dy Iw;rw[I]
 have b:=Ke h (cO D.A D.T D.T.lits D.t.rows.length (iq D.A D.T con));generalize hp:cO D.A D.T D.T.lits D.t.rows.length (iq D.A D.T con)=p at*;generalize hE:rM D.T D.T.lits p=E at*;have g:∀y∈E,cX y=true∧∃j,∃hj:j<D.t.rows.length,D.t.rows[j].l=-y∧0<D.t.rows[j].lev∧(D.t.rows[j].lev=D.t.dep->aA p.seen (af D.t.rows[j].l)=true):=λy hy=>by
  rcases(b y).1 hy with e|⟨j,hj,f,s,N⟩
  .obtain⟨j,hj,f,s,N⟩:=M.li y e;refine⟨?_,j,hj,f,s,λe4=>by omega⟩;have:=uv (n.chk _ (SS hj));rw[f,UZ]at this;exact this
  .obtain⟨j',X,q1,q2,_⟩:=M.sn _ s;have:=n.inj X hj q1;subst this;refine⟨?_,j',hj,f,q2,λ_=>s⟩;have:=uv (n.chk _ (SS hj));rw[f,UZ]at this;exact this
 have S:∀y,y∈eJ E↔y∈E:=λy=>by
  rw[(pF E).2];exact⟨λe=>e.2,λe=>⟨QX (g y e).1,e⟩⟩
 have B:=zD E;have u:∀L,(∀y,y∈L↔y∈E)->∀y∈au D.A con,HOk D.A D.T L y:=λL Q=>by
  have W:Fr D p L:=λj hj hs=>by
   apply HOk.stop;rw[Q,b];rcases Wz D.t.rows[j].lev D.t.dep with e|e
   .exact .inl (M.ls j hj hs e)
   .exact .inr ⟨j,hj,by omega,hs,by have:=(n.lev _ (SS hj)).2;omega⟩
  have:=wf L W;intro y hy;obtain⟨_,j,hj,e⟩:=hc.neg y hy;exact Nk h this hj e (b2 y hy)
 by_cases c:D.t.dep=0
 .have C:E=[]:=by
   cases O:E with
   |nil=>rfl
   |cons y r=>
    obtain⟨_,j,hj,_,s,_⟩:=g y (by rw[O];simp);have:=(n.lev _ (SS hj)).2;omega
  have o:dy D.A D.T con=[]:=by rw[hL,C,FN];rfl
  refine⟨⟨by rw[o];exact XG,by rw[o];simp,λ_=>o,λe=>by omega⟩,u _ λy=>by rw[o,C]⟩
 have U:0<D.t.dep:=by have:=n.dep;omega
 have Z:p.many=1:=by have:=w3 (b3 U);omega
 have ad:D.t.rows.countP (λx=>aA p.seen (af x.l)&&decide (x.lev=D.t.dep))=1:=by rw[←M.mn];exact Z
 have G:0<D.t.rows.countP (λx=>aA p.seen (af x.l)&&decide (x.lev=D.t.dep)):=by omega
 rw[W8]at G;obtain⟨x,hx,a⟩:=G;obtain⟨j,hj,rfl⟩:=S6 hx;simp only[S4,S9]at a;have aa:-D.t.rows[j].l∈E:=(b _).2 (.inr ⟨j,hj,by omega,a.1,a.2⟩);have ab:=(S _).2 aa;obtain⟨k,hk,H⟩:=S6 ab;have z:dU D.T (eJ E)[k]=D.t.dep:=by rw[H,o7 K n hj (show D.t.rows[j].l=-(-D.t.rows[j].l) by omega)];exact a.2
 have J:∀i (hi:i<(eJ E).length),i≠k->dU D.T (eJ E)[i]<dU D.T (eJ E)[k]:=λi hi d=>by
  obtain⟨_,j2,w,f,s,N⟩:=g _ ((S _).1 (SS hi));have hl:=o7 K n w f;have hle:=(n.lev _ (SS w)).2;rw[z,hl];rcases Wz D.t.rows[j2].lev D.t.dep with e|e
  .exact e
  .exfalso;have hs:=N (by omega);have Y:j2=j:=by
    rcases UB j2 j with q|q|q
    .have:=oQ (P:=λx=>aA p.seen (af x.l)&&decide (x.lev=D.t.dep)) q hj (by simp only[S4,S9];exact⟨hs,by omega⟩) (by simp only[S4,S9];exact a);omega
    .exact q
    .have:=oQ (P:=λx=>aA p.seen (af x.l)&&decide (x.lev=D.t.dep)) q w (by simp only[S4,S9];exact a) (by simp only[S4,S9];exact⟨hs,by omega⟩);omega
   subst Y;have V:(eJ E)[i]=(eJ E)[k]:=by rw[H];omega
   exact d (vR B hi hk V)
 have hP:=LM hk (by rw[z];omega) J;have v:dy D.A D.T con=(eJ E)[k]::(eJ E).eraseIdx k:=hL.trans hP;have F:∀y,y∈dy D.A D.T con↔y∈E:=λy=>by rw[v,mM hk,S]
 refine⟨⟨?_,λy hy=>?_,λe=>absurd e c,λ_=>⟨_,_,v,z,λy hy=>?_⟩⟩,u _ F⟩
 .rw[v,UE];refine⟨λhm=>?_,B.sublist (List.eraseIdx_sublist _ _)⟩;rw[V5]at hm;obtain⟨i,hi,d,e⟩:=hm;exact d (vR B hi hk e)
 .obtain⟨e0,j,hj,f,s,_⟩:=g y ((F y).1 hy);exact⟨e0,j,hj,f,s⟩
 .rw[V5]at hy;obtain⟨i,hi,d,rfl⟩:=hy;have:=J i hi d;omega
structure DeskI (cs:List (List Int)) (ats:List Int) (D:DK):Prop extends DeskT cs ats D where
  id:∀x∈D.a.rows,1<=x.id
theorem id_is{cs:List (List Int)}{ats:List Int}{D:DK}(h:DeskI cs ats D){q:Int}(b:isA D.A q=true):gt D.A q≠0:=by
 obtain⟨x,hx,e⟩:=h.ok.relA.is q b;obtain⟨p,c,_,_,_,d⟩:=h.ok.relA.rows x hx;have hi:=h.id x hx;have a:q=(p:Int):=by rw[←e,c]
 unfold gt;rw[SN b,a,Ub,d];omega
theorem ux{cs:List (List Int)}{ats:List Int}{D:DK}(h:DeskT cs ats D){j:Nat}(hj:j<D.t.rows.length){y:Int}(hy:D.t.rows[j].l=-y):pla D.T y=j∧rea D.T y=D.t.rows[j].rea:=by
 unfold pla rea;rw[qJ hj hy];exact⟨(od h.ok.rel.1 h.facts hj).2.2,(od h.ok.rel.1 h.facts hj).2.1⟩
theorem val_neg{cs:List (List Int)}{ats:List Int}{D:DK}(h:DeskT cs ats D){l:Int}(b:cz D.T l<0):cX l=true∧∃j,∃hj:j<D.t.rows.length,D.t.rows[j].l=-l:=by
 obtain⟨a,i,hi,hp⟩:=wA h.ok.rel.1 (l:=l) (by omega);refine⟨a,i,hi,?_⟩;rcases sy h.ok.rel.1 a hi hp with⟨e,_⟩|⟨_,e⟩
 .exact e
 .omega
theorem val_of{cs:List (List Int)}{ats:List Int}{D:DK}(h:DeskT cs ats D){l:Int}{j:Nat}(hj:j<D.t.rows.length)(e:D.t.rows[j].l=-l):cz D.T l=-1:=by
 have:=(Kd h hj).1;rw[e,UZ]at this;exact this
theorem ahead_ok{cs:List (List Int)}{ats:List Int}{D:DK}(h:DeskT cs ats D)(h0:D.A.hd≠[]):AheadOk D.A D.T where
 tr:=h.ok.rel.1.okT
 hd:=h0
 ar:=λq k=>by
  obtain⟨x,hx,e⟩:=h.ok.relA.is q k;obtain⟨p,d,a,_⟩:=h.ok.relA.rows x hx;exact⟨p,_,by rw[←e,d],a⟩
 len:=h.ok.len
 ahead:=λl m c=>by
  obtain⟨f,j,hj,e⟩:=val_neg h m;obtain⟨o,r⟩:=ux h hj e;rw[o];refine⟨by omega,λy hy b=>?_⟩;rw[r]at hy c;have n:=(litO f).2.2.2.2;obtain⟨i,hi,g,a⟩:=((dg h hj c).2.2 y hy).2 (by rw[e,←n];exact b);rw[(ux h hi a).1];omega
theorem pla_lt{cs:List (List Int)}{ats:List Int}{D:DK}(h:DeskT cs ats D)(l:Int):pla D.T l<D.T.lits.length:=by
 unfold pla;rw[(x3 h.ok.rel.1 (af l)).2.2,h.ok.rel.1.lits,SZ];rcases Wz (qG D.t (af l)) 0 with c|c
 .omega
 .obtain⟨i,hi,e,_⟩:=lw c;omega
theorem nB{cs:List (List Int)}{ats:List Int}{D:DK}(h:DeskI cs ats D){L:List Int}{stop:List (Int×Int)}(g:∀y,aA stop y=true↔y∈L){k:Nat}{f:NS->Int->Int->NS}
 (C:∀(s:NS)(j:Nat)(hj:j<D.t.rows.length),j<k->0<=D.t.rows[j].rea->NI D L s->Post D L s (f s D.t.rows[j].rea D.t.rows[j].l) (au D.A D.t.rows[j].rea) D.t.rows[j].l) (but:Int):
 ∀(c:List Int)(s:NS),NI D L s->(∀y∈c,y≠but->cX y=true∧∃j,∃hj:j<D.t.rows.length,D.t.rows[j].l=-y∧j<k)->Post D L s (tM f D.A D.T stop but c s) c but
 |[],s,hn,_=>⟨hn,λ_ e=>e,λe=>⟨e,by simp,λj hj h1 O=>by rw[tM]at h1;rw[h1]at O;cases O⟩,λ_=>rfl⟩
 |y::c,s,hn,B=>by
  have q:=λz hz=>B z (Tf _ hz);rw[tM]
  by_cases hs:vT D.T stop but s y=true
  .rw[SN hs];have u:=nB h g C but c s hn q;refine⟨u.ni,u.mono,λho=>?_,λhk=>u.ok λz hz=>hk z (Tf _ hz)⟩;obtain⟨w,x,a3⟩:=u.all ho;refine⟨w,λz hz a=>?_,a3⟩;rcases Tp.1 hz with rfl|hz
   .unfold vT at hs;simp only[Uj,S4,S9]at hs;rcases hs with(e|e)|⟨e,_⟩
    .exact absurd e a
    .exact .inl ((g _).1 e)
    .obtain⟨_,j,hj,b,_⟩:=B z (Tj ..) a;rw[(ux h.toDeskT hj b).1]at e;exact .inr ⟨j,hj,b,u.mono _ e⟩
   .exact x z hz a
  rw[SM hs];have J:y≠but∧y∉L∧¬(aA s.at' (pla D.T y)=true∧0<=pla D.T y):=by
   unfold vT at hs;simp only[Uj,S4,S9,XF]at hs;exact⟨hs.1.1,λe=>hs.1.2 ((g _).2 e),hs.2⟩
  obtain⟨M,N,X⟩:=J;obtain⟨Y,j,hj,b,E⟩:=B y (Tj ..) M;obtain⟨Q,R⟩:=ux h.toDeskT hj b;have P:=val_of h.toDeskT hj b
  by_cases m:FQ D.A D.T y=true
  .rw[SN m];refine⟨⟨hn.val,hn.mem⟩,λ_ e=>e,λe=>(by cases e),λhk=>?_⟩;exfalso;unfold FQ at m;simp only[Uj,S9]at m;have hy:=hk y (Tj ..) M;cases hy with
   |stop e=>exact N e
   |why v1 v2 v3 _=>
    rcases m with(e|e)|e
    .omega
    .have:rea D.T y=(dA D.T (af y)).1.rea:=rfl;omega
    .exact id_is h v3 e
  rw[SM m];have n:0<=rea D.T y:=by
   unfold FQ at m;simp only[Uj,S9,XF]at m;omega
  have W:=(litO Y).2.2.2.2;have K:aY (-y)=D.t.rows[j].l:=by rw[W,b]
  rw[R]at n⊢;rw[K];have r:aA s.at' j=false:=by
   cases e:aA s.at' j
   .rfl
   .exact absurd ⟨by rw[Q];exact e,by omega⟩ X
  have h0:(lk s.at' (j:Int)).getD 0=0:=by
   have:=hn.val j;unfold aA at r;simp at r;omega
  have H:tL D.T s y=⟨pt s.at' j 1,s.ok⟩:=by
   unfold tL;rw[Q,h0];rfl
  rw[H];have d:∀p,aA (pt s.at' (j:Int) 1) p=if(j:Int)=p then true else aA s.at' p:=λp=>by rw[nx];simp
  have I:NI D L ⟨pt s.at' j 1,s.ok⟩:=by
   refine⟨λp=>?_,λp hp=>?_⟩
   .dsimp only;rw[bJ];split
    .simp
    .exact hn.val p
   .dsimp only at hp;rw[d]at hp;split at hp
    .rename_i e;exact⟨j,hj,e.symm,n,by rw[b,UZ];exact N⟩
    .exact hn.mem p hp
  have o:=C ⟨pt s.at' j 1,s.ok⟩ j hj E n I;generalize f ⟨pt s.at' j 1,s.ok⟩ D.t.rows[j].rea D.t.rows[j].l=v at*;have g2:=nB h g C but c v o.ni q;generalize tM f D.A D.T stop but c v=Z at*;have F:∀p,aA s.at' p=true->aA (pt s.at' (j:Int) 1) p=true:=λp hp=>by rw[d];split<;>simp[hp]
  have G:aA v.at' j=true:=o.mono j (by dsimp only;rw[d,SN rfl]);refine⟨g2.ni,λp hp=>g2.mono p (o.mono p (F p hp)),λho=>?_,λhk=>?_⟩
  .obtain⟨w,x,a3⟩:=g2.all ho;obtain⟨b1,b2,b3⟩:=o.all w;refine⟨b1,λz hz a=>?_,λi hi S U z hz a=>?_⟩
   .rcases Tp.1 hz with rfl|hz
    .exact .inr ⟨j,hj,b,g2.mono _ G⟩
    .exact x z hz a
   .cases c2:aA v.at' i
    .exact a3 i hi S c2 z hz a
    .by_cases e:j=i
     .subst e;exact(b2 z hz a).mono g2.mono
     .exact(b3 i hi c2 (by dsimp only;rw[d,SM (by omega)];exact U) z hz a).mono g2.mono
  .rw[g2.ok λz hz=>hk z (Tf _ hz)];have hy:=hk y (Tj ..) M;cases hy with
   |stop e=>exact absurd e N
   |why _ _ _ v4=>
    refine o.ok λz hz a=>?_;have V:(dA D.T (af y)).1.rea=D.t.rows[j].rea:=R;rw[V]at v4;exact v4 z hz (by rw[←b];exact a)
theorem wB{cs:List (List Int)}{ats:List Int}{D:DK}(h:DeskI cs ats D){L:List Int}{stop:List (Int×Int)}(a:∀y,aA stop y=true↔y∈L):∀(k:Nat)(q but:Int)(s:NS),NI D L s->
 (∀y∈au D.A q,y≠but->cX y=true∧∃j,∃hj:j<D.t.rows.length,D.t.rows[j].l=-y∧j<k)->Post D L s (rN D.A D.T stop (k+1) s q but) (au D.A q) but
 |0,q,but,s,hn,c=>by
  rw[rN];exact nB h a (k:=0) (λ_ j _ hj=>by omega) but _ s hn c
 |k+1,q,but,s,hn,c=>by
  rw[rN];refine nB h a (k:=k+1) (λs j hj g m hn=>?_) but _ s hn c;refine wB h a k _ _ s hn λy hy b=>?_;obtain⟨n,d⟩:=(dg h.toDeskT hj m).2.2 y hy;obtain⟨i,hi,f,e⟩:=d b;exact⟨n,i,hi,e,by omega⟩
def AllNeg(D:DK)(L:List Int):Prop:=∀y∈L,cX y=true∧∃j,∃hj:j<D.t.rows.length,D.t.rows[j].l=-y
theorem uy{cs:List (List Int)}{ats:List Int}{D:DK}(h:DeskT cs ats D){j:Nat}(hj:j<D.t.rows.length):rj D j=D.t.rows[j].rea:=by
 unfold rj rea;rw[CL h.ok.rel.1 hj];exact(od h.ok.rel.1 h.facts hj).2.1
theorem At{cs:List (List Int)}{ats:List Int}{D:DK}(h:DeskI cs ats D){con:Int}(b:Conf D con)(L:List Int):Post D L ⟨[],true⟩ (ma D.A D.T L con) (au D.A con) 0:=by
 have a:D.T.lits.length=D.t.rows.length:=by rw[h.ok.rel.1.lits,SZ]
 unfold ma;refine wB h (λy=>?_) D.T.lits.length con 0 ⟨[],true⟩ ⟨λp=>by simp[lk],λp hp=>by simp[aA,lk]at hp⟩ λy hy _=>?_
 .have:=tO L y L.length (SQ _)
  rwa [Tw]at this
 .obtain⟨c,j,hj,e⟩:=b.neg y hy;exact⟨c,j,hj,e,by omega⟩
theorem Kf{cs:List (List Int)}{ats:List Int}{D:DK}(h:DeskT cs ats D){i j:Nat}(hi:i<D.t.rows.length)(hj:j<D.t.rows.length)(o:i<j)(b:0<=D.t.rows[i].rea)(c:0<=D.t.rows[j].rea):D.t.rows[i].rea≠D.t.rows[j].rea:=by
 intro e;have d:=h.facts;have h1:=(dg h hi b).2.1;rw[e]at h1;obtain⟨n,m⟩:=(dg h hj c).2.2 _ h1;have a:D.t.rows[i].l≠D.t.rows[j].l:=λf=>by
  have:=d.inj hi hj (by rw[f]);omega
 obtain⟨k,hk,_,g⟩:=m a;exact d.one n ⟨gI hi,by rw[←g];exact gI hk⟩
theorem Oe{cs:List (List Int)}{ats:List Int}{D:DK}(h:DeskT cs ats D){con:Int}(d:Conf D con){i:Nat}(hi:i<D.t.rows.length)(a:0<=D.t.rows[i].rea):D.t.rows[i].rea≠con:=by
 intro e;have h1:=(dg h hi a).2.1;rw[e]at h1;obtain⟨c,k,hk,b⟩:=d.neg _ h1;exact h.facts.one c ⟨gI hi,by rw[←b];exact gI hk⟩
theorem Au{cs:List (List Int)}{ats:List Int}{D:DK}(h:DeskT cs ats D){L:List Int}{s:NS}(hn:NI D L s):∀i,i<=D.t.rows.length->eb D.T s.at' i=(FU s i).map (rj D)
 |0,_=>rfl
 |i+1,hi=>by
  have o:=Au h hn i (by omega);have n:rea D.T (D.T.lits.getD i 0)=rj D i:=rfl;rw[eb,II];unfold IF;rw[o,n]
  by_cases c:aA s.at' i=true
  .obtain⟨j,hj,p,k,_⟩:=hn.mem _ c;have b:i=j:=by omega
   subst b;have:¬rj D i∈(FU s i).map (rj D):=by
    intro e;obtain⟨m,d,g⟩:=SY.1 e;rw[xM]at d;obtain⟨j,a,q,l,_⟩:=hn.mem _ d.2;have f:m=j:=by omega
    subst f;rw[uy h a,uy h hj]at g;exact Kf h a hj d.1 l k g
   rw[SN (by simp only[c,this,decide_false,Bool.not_false,Bool.and_self]),SN c,TA];rfl
  .have c':aA s.at' i=false:=by simpa using c
   rw[SM (by simp[c']),SM c]
theorem Kg{cs:List (List Int)}{ats:List Int}{D:DK}(h:DeskT cs ats D){L:List Int}{s:NS}{l:List Int}{js:List Nat}(hi:CInv D L s l js){y:Int}(b:cX y=true)(a:-y∈l):bn l y=-1:=
 val3_m1_of b a (λe=>h.facts.one b ⟨hi.sub _ e,hi.sub _ a⟩)
theorem Kh{cs:List (List Int)}{ats:List Int}{D:DK}(h:DeskI cs ats D){con:Int}(P:Conf D con){L:List Int}{s:NS}(hn:NI D L s)
 (hcl:∀j (hj:j<D.t.rows.length),aA s.at' j=true->∀y∈au D.A D.t.rows[j].rea,y≠D.t.rows[j].l->Met D L s y) (p:∀y∈au D.A con,Met D L s y):
 ∀(js:List Nat)(l:List Int)(n:Nat),CInv D L s l js->∃l',eX l ((js.map (rj D)).map (au D.A)++[au D.A con]) n=(l',n+js.length+1,0)
 |[],l,n,hi=>by
  refine⟨l,?_⟩;have:sm l (au D.A con)=-1:=by
   rw[lG];intro y hy _;have O:=(P.neg y hy).1;refine Kg h.toDeskT hi O ?_;rcases p y hy with e|⟨j,hj,m,w⟩
   .exact hi.neg y e
   .rw[←m];exact hi.don j hj w (by simp)
  simp[eX,this]
 |j::js,l,n,hi=>by
  obtain⟨hj,hs,H⟩:=hi.todo j (Tj ..);obtain⟨Y,U,m,Q,_⟩:=hn.mem _ hs;have C:j=Y:=by omega
  subst C;have v:=h.facts;obtain⟨Z,M,r3⟩:=dg h.toDeskT hj Q;have N:=(r3 _ M).1;have u:=(litO N).2.2.2.1;have W:=(litO N).2.2.2.2;have o:=hcl j hj hs;have a:=Vm.1 hi.inc;obtain⟨k,hk,z,S⟩:∃k,∃hk:k<cs.length,au D.A D.t.rows[j].rea=cs[k]∧True:=by
   obtain⟨k,hk,e,_⟩:=v.imp j hj Q;rw[e];exact⟨k,hk,(h.ars k hk).2,trivial⟩
  have d:=h.cls.len _ (SS hk);have q:=h.cls.nd _ (SS hk);rw[←z]at d q;have J:bn l D.t.rows[j].l=0:=by
   unfold bn;rw[SM (by omega),SM H,SM];rw[W];intro e;exact v.one N ⟨gI hj,hi.sub _ e⟩
  have K:∀y∈au D.A D.t.rows[j].rea,y≠D.t.rows[j].l->bn l y=-1:=λy hy r=>by
   have O:=(r3 y hy).1;refine Kg h.toDeskT hi O ?_;rcases o y hy r with e|⟨i,b,m,w⟩
   .exact hi.neg y e
   .obtain⟨X,B,T,R⟩:=(r3 y hy).2 r;have:i=X:=v.inj b B (by rw[m,R]);subst this;rw[←m];refine hi.don i b w ?_;intro g;rcases Tp.1 g with e|g
    .omega
    .have:=a.1 i g;omega
  have V:=unit_of d q M u J K;have F:¬sm l (au D.A D.t.rows[j].rea)=-1:=by
   rw[lG];intro e;have:=e _ M u;omega
  have b:CInv D L s (l++[D.t.rows[j].l]) js:=by
   refine⟨?_,λy hy=>Um _ (hi.neg y hy),?_,?_,a.2⟩
   .intro x hx;rcases S7.1 hx with hx|hx
    .exact hi.sub x hx
    .simp at hx;subst hx;exact gI hj
   .intro i c f I
    by_cases e:i=j
    .subst e;simp
    .exact Um _ (hi.don i c f (by simp[e,I]))
   .intro i g;obtain⟨c,f,G⟩:=hi.todo i (Tf _ g);refine⟨c,f,?_⟩;intro e;rcases S7.1 e with e|e
    .exact G e
    .simp at e;have:=v.inj c hj (by rw[e]);have:=a.1 i g;omega
  obtain⟨l',E⟩:=Kh h P hn hcl p js _ (n+1) b;refine⟨l',?_⟩;rw[Th,Th,TH,eX,uy h.toDeskT hj,SM F,V,SN rfl,E,To];congr 2;omega
theorem hints_show{cs:List (List Int)}{ats:List Int}{D:DK}(h:DeskI cs ats D){con:Int}(m:Conf D con){L:List Int}(u:AllNeg D L)(ho:(ma D.A D.T L con).ok=true):
 (rO D.T (ma D.A D.T L con).at' con).Nodup∧(∀q∈rO D.T (ma D.A D.T L con).at' con,isA D.A q=true)∧
  ∃l',eX (gq L) ((rO D.T (ma D.A D.T L con).at' con).map (au D.A)) 0=(l',(rO D.T (ma D.A D.T L con).at' con).length,0):=by
 have hp:=At h m L;generalize ma D.A D.T L con=s at*;obtain⟨_,J,a3⟩:=hp.all ho;have Q:=h.facts;have o:D.T.lits.length=D.t.rows.length:=by rw[h.ok.rel.1.lits,SZ]
 have hin:=Au h.toDeskT hp.ni D.t.rows.length (SQ _);have d:∀j∈FU s D.t.rows.length,∃hj:j<D.t.rows.length,aA s.at' j=true∧0<=D.t.rows[j].rea∧-D.t.rows[j].l∉L:=λj hj=>by
  rw[xM]at hj;obtain⟨O,c,g,r,K⟩:=hp.ni.mem _ hj.2;have:j=O:=by omega
  subst this;exact⟨c,hj.2,r,K⟩
 have p:con∉(FU s D.t.rows.length).map (rj D):=by
  intro e;obtain⟨j,hj,g⟩:=SY.1 e;obtain⟨c,_,F,_⟩:=d j hj;rw[uy h.toDeskT c]at g;exact Oe h.toDeskT m c F g
 have M:rO D.T s.at' con=(FU s D.t.rows.length).map (rj D)++[con]:=by
  unfold rO;rw[o,hin,SM p]
 have f:(FU s D.t.rows.length).Pairwise (·<·):=List.Pairwise.filter _ List.pairwise_lt_range;rw[M];refine⟨?_,?_,?_⟩
 .rw[VU];refine⟨?_,by simp,λa N b I e=>?_⟩
  .refine UC.2 (f.imp_of_mem λ{i j} hi hj w=>?_);obtain⟨n,_,G,_⟩:=d i hi;obtain⟨c,_,H,_⟩:=d j hj;rw[uy h.toDeskT n,uy h.toDeskT c];exact Kf h.toDeskT n c w G H
  .simp at I;subst I;exact p (e▸N)
 .intro q k;rcases S7.1 k with k|k
  .obtain⟨j,hj,g⟩:=SY.1 k;obtain⟨c,_,F,_⟩:=d j hj;rw[uy h.toDeskT c]at g;rw[←g];exact(dg h.toDeskT c F).1
  .simp at k;subst k;exact m.is
 .have v:CInv D L s (gq L) (FU s D.t.rows.length):=by
   refine⟨?_,?_,?_,?_,f⟩
   .intro x hx;rw[pT]at hx;obtain⟨y,hy,rfl⟩:=hx;obtain⟨P,j,hj,e⟩:=u y hy;rw[(litO P).2.2.2.2,←e];exact gI hj
   .intro y hy;rw[pT];exact⟨y,hy,(litO (u y hy).1).2.2.2.2.symm⟩
   .intro j hj hs E;exact absurd ((xM s _ j).2 ⟨hj,hs⟩) E
   .intro j hj;obtain⟨c,hs,_,B⟩:=d j hj;refine⟨c,hs,λe=>?_⟩;rw[pT]at e;obtain⟨y,hy,r⟩:=e;rw[(litO (u y hy).1).2.2.2.2]at r;apply B;rw[r,UZ];exact hy
  obtain⟨l',z⟩:=Kh h m hp.ni (λj hj hs y hy C=>a3 j hj hs (by simp[aA,lk]) y hy C) (λy hy=>J y hy (by have:=litO (m.neg y hy).1;omega)) _ _ 0 v;refine⟨l',?_⟩;rw[TA];have:List.map (au D.A) [con]=[au D.A con]:=rfl;rw[this,z];congr 2;simp
theorem hints_ok_of{cs:List (List Int)}{ats:List Int}{D:DK}(h:DeskI cs ats D){con:Int}(a:Conf D con){L:List Int}(hk:∀y∈au D.A con,HOk D.A D.T L y):(ma D.A D.T L con).ok=true:=
 (At h a L).ok λy hy _=>hk y hy
theorem Av{cs:List (List Int)}{ats:List Int}{D:DK}(h:DeskT cs ats D){L S:List Int}(f:∀x∈L,x∉S->lV D.A D.T L x=true):∀(n j:Nat)(hj:j<D.t.rows.length),j<n->(-D.t.rows[j].l∈L∨lV D.A D.T L (-D.t.rows[j].l)=true)->HOk D.A D.T S (-D.t.rows[j].l)
 |0,j,hj,hn,_=>by omega
 |n+1,j,hj,hn,hx=>by
  by_cases c:-D.t.rows[j].l∈S
  .exact .stop c
  have hd:lV D.A D.T L (-D.t.rows[j].l)=true:=hx.elim (λu=>f _ u c) id;rw[tF,S4]at hd;obtain⟨g,p⟩:=hd;obtain⟨i,hi,G,H,_,z,m⟩:=Oc h.ok g;have q:=h.facts.chk _ (SS hj);obtain⟨n0,E,F,_⟩:=litO q;have w:aY (- -D.t.rows[j].l)=D.t.rows[j].l:=by rw[UZ];exact ao (by omega) (by omega)
  have v:cH D.T (-D.t.rows[j].l)=j:=(ux h hj (by omega)).1;have b:i=j:=by omega
  subst b;refine CM h hj m λy hy a=>?_;obtain⟨I,_,B⟩:=dg h hj m;obtain⟨J,C⟩:=B y hy;obtain⟨k,hk,r,e⟩:=C a;have s:=o7 h.ok.rel.1 h.facts hk e;rw[jb hk e]
  by_cases o:D.t.rows[k].lev<=0
  .exact x5 h S (k+1) k hk (by omega) o
  have d:y∈tE D.A D.T (-D.t.rows[i].l):=by
   unfold tE;rw[SN g,TE,z];refine⟨hy,?_⟩;unfold uR;unfold dU at s;simp only[TN,VK,Us];exact⟨by rw[w];exact a,by omega⟩
  have hp:=TG.1 p y d;unfold nV lU at hp;simp only[Uj,S4,S9]at hp;refine Av h f n k hk (by omega) ?_;rw[←jb hk e];rcases hp with⟨_,hp,_⟩|⟨_,hp⟩
  .exact .inl hp
  .exact .inr hp
theorem sho_hok{cs:List (List Int)}{ats:List Int}{D:DK}(h:DeskT cs ats D){L:List Int}(b:AllNeg D L):∀x∈L,HOk D.A D.T (qI D.A D.T L) x:=λx hx=>by
 obtain ⟨_, j, hj, e⟩ := b x hx; rw [jb hj e] at hx ⊢; refine Av h (λ y hy hn => ?_) (j + 1) j hj (by omega) (.inl hx); have a : gZ D.A D.T L y = true := Tl λ a => hn (by
  unfold qI;rw[←TY 1 L,S7]at hy;rcases hy with hy|hy
  .exact Um _ hy
  .refine UY _ ?_;unfold bk;rw[TE];exact⟨hy,by simpa using a⟩)
 unfold gZ i9 at a;rw[S4]at a;exact a.2
theorem show_sound{m:List Bool}{S:List Int}{hs:List (List Int)}(a:∀y∈S,cX y=true)(b:∀c∈hs,c.length<=1000000)(h:(eX (gq S) hs 0).2.2=0)(d:∀c∈hs,cd c m=true):cd S m=true:=by
 refine Tl λhn=>wz hs (gq S) 0 b (λy hy=>?_) d h;obtain⟨x,hx,e⟩:=(pT S y).1 hy;obtain⟨n0,g,i,_,f⟩:=litO (a x hx);rw[e,f];refine J8 ((a8 x).2 (by omega)) ?_;rw[V4]at hn;have:=UJ.1 hn x hx;simpa using this
end Go.AX.V