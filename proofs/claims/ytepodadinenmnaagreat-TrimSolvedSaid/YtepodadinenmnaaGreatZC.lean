/-
  Contracts: watches: made anew, Attach, Detach, Attached; and what follows.
-/
import Derived.Test.YtepodadinenmnaaGreatZB
set_option linter.unusedSimpArgs false
set_option maxRecDepth 16000
namespace Go.AX
open Go.Proofs Go.Proofs.Tryz
theorem Cq(T:Tr)(d:T.marks.length<=1000000)(c:T.lits.length<=1000000):aw prog 56 [cD T] (λr=>r=.pv (ak ((T.marks.length:Int) -1 -T.lits.length))):=by
 refine aB aP func56 ?_;have hi:=oa T;have a:bG ((T.marks.length:Int) -1)=(T.marks.length:Int) -1:=aC (by omega) (by omega);have b:bG ((T.marks.length:Int) -1 -T.lits.length)=(T.marks.length:Int) -1 -T.lits.length:=aC (by omega) (by omega);simp only[cD,dM]at hi;simp[cD,dM];refine ap.intro hi ?_;simp[a,b]
theorem Pg(x v:Int):aw prog 208 [ak x,.iptr 1 [[ak v]] 0 0] (λr=>r=.pv (BL (!decide (aQ x v=0)))):=by
 refine aB aP func208 ?_;simp;refine ap.intro (ll x v) ?_;by_cases c:aQ x v=0;simp[c];simp[c]
theorem MI(h:ao)(b:Nat)(A:Ar)(e:h[b]?=some (kJ A))(hk:lX A)(g:A.row.length<=1000000)(q:Int):aI prog 158 [.ptr b 0,ak q] h (λr h'=>h'=h∧r=.pv (ak (iv A q))):=by
 refine ij [] [.tmp 4] aP func158 ?_;obtain⟨d,a⟩:=Vp.1 e;unfold iv;simp;refine ay.intro (Ec h b A e q) ?_;rintro _ _ ⟨rfl,rfl⟩;by_cases c:isA A q=true;obtain⟨p,n,rfl,f⟩:=hk q c;have hp:p<A.row.length:=by have:=f.len;omega
 simp[a,d,kJ,c,hp];have c':isA A q=false:=by simpa using c
 simp[c']
theorem yv(h:ao)(b:Nat)(A:Ar)(d:h[b]?=some (kJ A))(hk:lX A)(f:A.row.length<=1000000)(q:Int)(hi:isA A q=true):
 aI prog 160 [.ptr b 0,ak q] h (λr h'=>h'=h∧r=.pv (.seq false 1 (am (aJ A q)))):=by
 obtain⟨p,n,rfl,a⟩:=hk q hi;have e:aJ A (p:Int)=eA A p n:=by
  unfold aJ;rw[Vt hi];have h1:p+1<A.row.length:=by have:=a.len;omega
  have c:A.row.getD ((p:Int).toNat+1) 0=(n:Int):=by rw[←a.num];rfl
  rw[c];rfl
 rw[e];exact KZ h b A d p n hi a f
theorem Ph(h:ao)(ba bt:Nat):aI prog 67 [.ptr ba 0,.ptr bt 0] h (λr h'=>h'=h++[[.pv (.ptr ba 0),.pv (.ptr bt 0),.omap true [],.omap true [],.omap true [],.pv (ak 0),.pv (.lit (.slice none 0 0))]]∧r=.pv (.ptr h.length 0)):=by
 refine dh [] [.tmp 4] aP func67 ?_;simp
@[simp] theorem Pi:∀(l:cg)(k:Int),jy k (aL wW l)=aL wW (dl l k)
 |[],k=>rfl
 |(j,x)::l,k=>by
  show(if j=k then aL wW l else(j,wW x)::jy k (aL wW l))=aL wW (if j=k then l else(j,x)::dl l k);rw[Pi l k];split<;>rfl
theorem Cr{α β:Type}:∀(a:List (Int×α))(c:List (Int×β))(k:Int),a.map (·.1)=c.map (·.1)->(dl a k).map (·.1)=(dl c k).map (·.1)
 |[],[],_,_=>rfl
 |[],_::_,_,h=>by simp at h
 |_::_,[],_,h=>by simp at h
 |u::a,w::c,k,h=>by
  obtain⟨b,f⟩:=u;obtain⟨i,g⟩:=w;simp only[VP,XR]at h;obtain⟨h1,d⟩:=h;subst h1;show(if b=k then a else(b,f)::dl a k).map (·.1)=(if b=k then c else(b,g)::dl c k).map (·.1);by_cases e:b=k;rw[Vt e,Vt e];exact d;rw[Vs e,Vs e,VP,VP,Cr a c k d]
theorem wj{α:Type}:∀{l:List (Int×α)}{k:Int},k∉l.map (·.1)->lk l k=none
 |[],_,_=>rfl
 |(j,x)::l,k,h=>by
  simp only[VP,VU,aac]at h;rw[lk,Vs (λe=>h.1 e.symm)];exact wj h.2
theorem qH{α:Type}:∀{l:List (Int×α)},(l.map (·.1)).Nodup->∀k x:Int,lk (dl l k) x=if x=k then none else lk l x
 |[],_,k,x=>by show none=_;split<;>rfl
 |(j,y)::l,h,k,x=>by
  simp only[VP,Xj]at h;show lk (if j=k then l else(j,y)::dl l k) x=if x=k then none else if j=x then some y else lk l x;by_cases e:j=k;rw[Vt e];by_cases c:x=k;rw[Vt c,c,←e];exact wj h.1;rw[Vs c,Vs (λa=>c (a.symm.trans e))];rw[Vs e,lk,qH h.2 k x];by_cases c:x=k;rw[Vt c,Vt c,Vs (λa=>e (a.trans c))];rw[Vs c,Vs c]
section
variable {h : ao} {bw ba bt : Nat} {mp : cg} {mb : List (Int × By)} {A : Ar} {T : Tr} {S : WS}
theorem LayW.newP(L:LayW h bw ba bt mp mb A T S)(k:Int)(p:Pr)(late:aS):
 LayW ((h++[rP p]).set bw (cW ba bt ⟨pt mp k h.length,mb,late,S.head,S.seen⟩)) bw ba bt (pt mp k h.length) mb A T ⟨pt S.prs k p,S.byl,late,S.head,S.seen⟩:=by
 have n:=(Vp.1 L.w).1;have lt:∀{b:Nat}{x:bj},h[b]?=some x->b<h.length:=λhx=>(Vp.1 hx).1;have up:∀{c:Nat}{x:bj},c≠bw->h[c]?=some x->((h++[rP p]).set bw (cW ba bt ⟨pt mp k h.length,mb,late,S.head,S.seen⟩))[c]?=some x:=λr hx=>by
  rw[VL (λe=>r e.symm),Vv (lt hx),hx]
 have self:((h++[rP p]).set bw (cW ba bt ⟨pt mp k h.length,mb,late,S.head,S.seen⟩))[h.length]?=some (rP p):=by
  rw[VL (by omega)];simp
 have old:∀k' b,lk mp k'=some b->b<h.length:=λk' b d=>by obtain⟨_,_,f,_⟩:=L.pr k' b d;exact lt f
 exact{
  w:=VZ (by simp;omega),a:=up L.wa.symm L.a,t:=up L.wt.symm L.t,wa:=L.wa,wt:=L.wt,at':=L.at',keys:=Ch _ _ _ _ _ L.keys,byn:=L.byn,binj:=L.binj
  pr:=λk' b d=>by
   rw[cm]at d;show∃q,lk (pt S.prs k p) k'=some q∧_;rw[cm];by_cases c:k=k';rw[Vt c]at d;cases d;exact⟨p,Vt c,self,YP n,YP (lt L.a),YP (lt L.t)⟩;rw[Vs c]at d;obtain⟨q,m,f,a3⟩:=L.pr k' b d;exact⟨q,by rw[Vs c];exact m,up a3.1 f,a3⟩
  by':=λl e i=>by
   obtain⟨zs,m,⟨sp,f,a3⟩,a4⟩:=L.by' l e i
   exact⟨zs,m,⟨sp,up a4.1 f,a3⟩,a4⟩
  pinj:=λo j b h1 g=>by
   rw[cm]at h1 g;by_cases c1:k=o;by_cases c2:k=j;exact c1.symm.trans c2;rw[Vt c1]at h1;rw[Vs c2]at g;cases h1;have:=old j _ g;omega;rw[Vs c1]at h1;by_cases c2:k=j;rw[Vt c2]at g;cases g;have:=old o _ h1;omega;rw[Vs c2]at g;exact L.pinj o j b h1 g
  pb:=λk' b l e d i=>by
   rw[cm]at d;by_cases c:k=k';rw[Vt c]at d;cases d;obtain⟨_,_,⟨_,f,_⟩,_⟩:=L.by' l e i
   exact YP (lt f);rw[Vs c]at d;exact L.pb k' b l e d i}
theorem LayW.delP(L:LayW h bw ba bt mp mb A T S)(hn:(S.prs.map (·.1)).Nodup)(k:Int)(late:aS):
 LayW (h.set bw (cW ba bt ⟨dl mp k,mb,late,S.head,S.seen⟩)) bw ba bt (dl mp k) mb A T ⟨dl S.prs k,S.byl,late,S.head,S.seen⟩:=by
 have n:=(Vp.1 L.w).1;have j:(mp.map (·.1)).Nodup:=by rw[L.keys];exact hn
 have up:∀{b:Nat}{x:bj},b≠bw->h[b]?=some x->(h.set bw (cW ba bt ⟨dl mp k,mb,late,S.head,S.seen⟩))[b]?=some x:=λhn hx=>by rw[VL (λe=>hn e.symm),hx]
 have sub:∀{k' b},lk (dl mp k) k'=some b->k'≠k∧lk mp k'=some b:=λ{k' b} d=>by
  rw[qH j]at d;by_cases c:k'=k;rw[Vt c]at d;cases d;rw[Vs c]at d;exact⟨c,d⟩
 exact{
  w:=VZ n,a:=up L.wa.symm L.a,t:=up L.wt.symm L.t,wa:=L.wa,wt:=L.wt,at':=L.at',keys:=Cr _ _ _ L.keys,byn:=L.byn,binj:=L.binj
  pr:=λk' b d=>by
   obtain⟨c,d⟩:=sub d;obtain⟨p,h1,f,g⟩:=L.pr k' b d;exact⟨p,by show lk (dl S.prs k) k'=_;rw[qH hn,Vs c];exact h1,up g.1 f,g⟩
  by':=λl e i=>by
   obtain⟨zs,h1,⟨sp,f,g⟩,m⟩:=L.by' l e i
   exact⟨zs,h1,⟨sp,up m.1 f,g⟩,m⟩
  pinj:=λo q b h1 f=>L.pinj o q b (sub h1).2 (sub f).2
  pb:=λk' b l e d i=>L.pb k' b l e (sub d).2 i}
end
def rT(A:Ar)(T:Tr)(S:WS)(k:Int):Int:=if iv A k=0 then 20 else if(lk S.prs k).isSome=true then 21 else if(aJ A k).any (λl=>!decide (aQ l ((T.marks.length:Int) -1)=0))=true then 10 else 0
def qI(A:Ar)(T:Tr)(S:WS)(k:Int):WS:=if rT A T S k=0 then⟨pt S.prs k ⟨aJ A k,0,0⟩,S.byl,pt S.late k (bG ((lk S.late k).getD 0+1)),S.head,S.seen⟩else S
def MJ:Sch:=
 let g:Sch:=.fork [(13,.done)]
 let l:Sch:=.fork [(12,g)]
 let e:Sch:=.fork [(9,.take 10 (.take 11 g))]
 let h:Sch:=.fork [(9,.take 10 (.take 11 l)),(12,e)]
 let i:Sch:=.fork [(8,e)]
 let m:Sch:=.fork [(8,h),(12,i)]
 let f:Sch:=.fork [(4,e)]
 let j:Sch:=.fork [(4,h),(12,f)]
 let k:Sch:=.fork [(4,i),(8,f)]
 let n:Sch:=.fork [(4,m),(8,j),(12,k)]
 let a:Sch:=.fork [(3,f)]
 let b:Sch:=.fork [(3,j),(12,a)]
 let c:Sch:=.fork [(3,k),(8,a)]
 let d:Sch:=.fork [(3,n),(8,b),(12,c)]
 .take 0 (.take 1 (.take 2 (.take 5 (.take 6 (.take 7 d)))))
theorem Fe(h:ao)(bw ba bt:Nat)(mp:cg)(mb:List (Int×By))(A:Ar)(T:Tr)(S:WS)(L:LayW h bw ba bt mp mb A T S)(hk:lX A)(O:A.row.length<=1000000)(W:T.marks.length<=1000000)(s:T.lits.length<=1000000)(k:Int):
 aI prog 128 [.ptr bw 0,ak k] h (λr h'=>r=.pv (ak (rT A T S k))∧∃mp',LayW h' bw ba bt mp' mb A T (qI A T S k)∧Ext h h' (bA bw bt mp mb) (bA bw bt mp' mb)):=by
 refine dh [8] [.tmp 4] aP func128 ?_;obtain⟨i,j⟩:=Vp.1 L.w;have kM:=vZ h bw ba bt _ L.w;have Y:=MI h ba A L.a hk O k;simp;refine ay.intro kM ?_;rintro _ q ⟨e,rfl⟩;rw[e];clear e q;simp[i,j,cW];refine ay.intro Y ?_;rintro _ q ⟨e,rfl⟩;rw[e];clear e q;by_cases c1:iv A k=0;have o:rT A T S k=20:=by unfold rT;rw[Vt c1]
 have F:qI A T S k=S:=by unfold qI;rw[o];rfl
 rw[o,F];simp[c1];exact⟨mp,L,Ext.refl _ _⟩;have v:isA A k=true:=by
  unfold iv at c1;by_cases c:isA A k=true;exact c;rw[Vs c]at c1;exact absurd rfl c1
 cases hp:lk mp k with
 |some b=>
  obtain⟨p,I,_⟩:=L.pr k b hp;have o:rT A T S k=21:=by unfold rT;rw[Vs c1,I];rfl
  have F:qI A T S k=S:=by unfold qI;rw[o];rfl
  rw[o,F];simp[c1,i,j,cW,hp,wW];exact⟨mp,L,Ext.refl _ _⟩
 |none=>
 have J:lk S.prs k=none:=by
  cases X:lk S.prs k with
  |none=>rfl
  |some p=>obtain⟨b,H,_⟩:=L.some_p X;rw[hp]at H;cases H
 have Z:=yv h ba A L.a hk O k v;simp[c1,i,j,cW,hp,wW];refine ay.intro Z ?_;rintro _ q ⟨e,rfl⟩;rw[e];clear e q;simp;obtain⟨G,g⟩:∃G,G=h++[[SV.pv (ak ((T.marks.length:Int) -1))]]:=⟨_,rfl⟩;have L0:LayW G bw ba bt mp mb A T S:=by rw[g];exact L.app _
 have C:Ext h G (bA bw bt mp mb) (bA bw bt mp mb):=by rw[g];exact Ext.app _ _ _
 have hz:=dR L.t 2;have f:=λx=>dR (L.app [x]).t 2;have kO:=Cq T W s;have kT:=ik T s;have N:bG ((T.marks.length:Int) -1)=(T.marks.length:Int) -1:=aC (by omega) (by omega);obtain⟨z,g2⟩:=Vp.1 L0.w;have D:∀x,(h++[x])[bw]?=some (cW ba bt ⟨mp,mb,S.late,S.head,S.seen⟩):=λx=>(L.app [x]).w;refine bP.meet MJ ⟨[(0,.pv (.ptr bw 0)),(1,.pv (ak k)),(5,.pv (.seq false 1 (am (aJ A k)))),(6,.pv (.ptr h.length 0))],G⟩ (by kernel_rfl) ?_ ?_
 · simp[MJ,i,j,cW,hz,D,f]
   repeat' first
    |refine And.intro ?_ ?_
    |(refine ay.introP kO ?_;simp[i,j,cW,hz,D,f,N])
    |(refine ay.introP kT ?_;simp[i,j,cW,hz,D,f,N])
    |exact av.keep (by simp) (by rw[g])
 have P:=eQ (aJ A k) (by have:=gP A hk k;omega) 208 [.iptr 1 [[ak ((T.marks.length:Int) -1)]] 0 0] (λl=>!decide (aQ l ((T.marks.length:Int) -1)=0)) (λr=>by simp) rfl (λm=>by simp) (λx _=>Pg x _);have Q:h.length<G.length:=by rw[g];simp
 have n2:G[h.length]'Q=[.pv (ak ((T.marks.length:Int) -1))]:=by simp[g]
 generalize u:(aJ A k).any (λl=>!decide (aQ l ((T.marks.length:Int) -1)=0))=B at P;have U:∀n,bE G (n+1) h.length 0=.iptr 1 [[ak ((T.marks.length:Int) -1)]] 0 0:=λn=>by simp[bE,Q,n2,frzC]
 have R:rT A T S k=if B=true then 10 else 0:=by unfold rT;rw[Vs c1,J,u];rfl
 have d:qI A T S k=if rT A T S k=0 then⟨pt S.prs k ⟨aJ A k,0,0⟩,S.byl,pt S.late k (bG ((lk S.late k).getD 0+1)),S.head,S.seen⟩else S:=rfl;rw[R]at d⊢;generalize qI A T S k=S2 at*;simp[U];refine ap.intro P ?_;cases B;have E:(if false=true then(10:Int)else 0)=0:=rfl;rw[E]at d⊢;rw[Vt rfl]at d;subst d;have M:=L0.newP k ⟨aJ A k,0,0⟩ (pt S.late k (bG ((lk S.late k).getD 0+1)));have K:Ext h ((G++[rP ⟨aJ A k,0,0⟩]).set bw (cW ba bt ⟨pt mp k G.length,mb,pt S.late k (bG ((lk S.late k).getD 0+1)),S.head,S.seen⟩)) (bA bw bt mp mb) (bA bw bt (pt mp k G.length) mb):=
  ((C.trans (Ext.app G _ _)).trans (Ext.set bw _ (.inl rfl))).dom λb H hd=>by
   rcases hd with h1|h1|⟨k',h1⟩|h1;exact .inl h1;exact .inr (.inl h1);rw[cm]at h1;by_cases c:k=k';rw[Vt c]at h1;cases h1;have:=C.len;omega;rw[Vs c]at h1;exact .inr (.inr (.inl ⟨k',h1⟩));exact .inr (.inr (.inr h1))
 have V:G.length=h.length+1:=by rw[g];simp
 have b1:∀x,(G++[x])[bw]?=some (cW ba bt ⟨mp,mb,S.late,S.head,S.seen⟩):=λx=>(L0.app [x]).w;have b2:∀x y,(G.set bw y++[x])[bw]?=some y:=λx y=>by rw[Vv (by simpa using z),VZ z]
 rw[XO _ _ z]at M K;simp[z,g2,cW,b1,b2];exact⟨_,M,K⟩;have E:(if true=true then(10:Int)else 0)=10:=rfl;rw[E]at d⊢;rw[Vs (by omega)]at d;subst d;simp;exact⟨mp,L0,C⟩
def Q2(S:WS)(k:Int):Int:=if(lk S.prs k).isSome=true then 0 else 20
def sT(S:WS)(k:Int):WS:=match lk S.prs k with
 |some p=>⟨dl (gu S k p).prs k,(gu S k p).byl,dl S.late k,S.head,S.seen⟩
 |none=>S
theorem Ff(h:ao)(bw ba bt:Nat)(mp:cg)(mb:List (Int×By))(A:Ar)(T:Tr)(S:WS)(L:LayW h bw ba bt mp mb A T S)(hn:(S.prs.map (·.1)).Nodup)(k:Int)
 (hx:∀p,lk S.prs k=some p->(p.x≠0->∃zs,lk S.byl p.x=some zs∧zs≠[])∧(p.y≠0->∃zs,lk (fu S.byl k p.x) p.y=some zs∧zs≠[])) (hz:∀l zs,lk S.byl l=some zs->zs.length<=1000000):
 aI prog 116 [.ptr bw 0,ak k] h (λr h'=>r=.pv (ak (Q2 S k))∧∃mp' mb',LayW h' bw ba bt mp' mb' A T (sT S k)∧Ext h h' (bA bw bt mp mb) (bA bw bt mp' mb')):=by
 refine dh [] [.tmp 4] aP func116 ?_;obtain⟨q,s⟩:=Vp.1 L.w;have G:=vZ h bw ba bt _ L.w;simp;refine ay.intro G ?_;rintro _ d ⟨e,rfl⟩;rw[e];clear e d;cases hp:lk S.prs k with
 |none=>
  have D:lk mp k=none:=by
   cases E:lk mp k with
   |none=>rfl
   |some b=>obtain⟨p,h1,_⟩:=L.pr k b E;rw[hp]at h1;cases h1
  simp[q,s,cW,D,Q2,sT,hp];exact⟨mp,mb,L,Ext.refl _ _⟩
 |some p=>
  obtain⟨b,B,_⟩:=L.some_p hp;obtain⟨i,j⟩:=hx p hp;have F:=v6 h bw ba bt mp mb A T S L k p hp i j hz;simp[q,s,cW,B,wW,Q2,sT,hp];refine ay.intro F ?_;rintro _ u ⟨rfl,a,o,n⟩;obtain⟨H,I⟩:=Vp.1 o.w;have f:((gu S k p).prs.map (·.1)).Nodup:=by show((pt S.prs k _).map (·.1)).Nodup;rw[fW _ hp];exact hn
  have v:=o.delP f k (dl S.late k);have t:Ext h (u.set bw (cW ba bt ⟨dl mp k,a,dl S.late k,(gu S k p).head,(gu S k p).seen⟩)) (bA bw bt mp mb) (bA bw bt (dl mp k) a):=
   (n.trans (Ext.set bw _ (.inl rfl))).dom λc C hd=>by
    have key:∀k' c,lk (dl mp k) k'=some c->∃m,lk mp m=some c:=λk' c h1=>by
     have g:(mp.map (·.1)).Nodup:=by rw[L.keys];exact hn
     rw[qH g]at h1;by_cases e:k'=k;rw[Vt e]at h1;cases h1;rw[Vs e]at h1;exact⟨k',h1⟩
    rcases hd with h1|h1|⟨k',h1⟩|⟨l,e,h1,d⟩;exact .inl h1;exact .inr (.inl h1);exact .inr (.inr (.inl (key k' c h1)));exact n.sub c C (.inr (.inr (.inr ⟨l,e,h1,d⟩)))
  have z:(gu S k p).late=S.late:=rfl;simp[H,I,cW,z];exact⟨_,_,v,t⟩
end Go.AX
namespace Go.AX
open Go.Proofs
theorem jF.to{P:aa}{k0:Nat}{ops:Array ai}{K:St->Prop}{st:St}(st1:St)(b:av k0 st st1)(h:jF P k0 ops K st1):jF P k0 ops K st:=
 jF.weak (ι:=Unit) (λ_=>st1) (λg a w h0 hs=>by obtain⟨g',t,s'⟩:=b g a w h0 hs;exact⟨g',(),t,s'⟩) λ_=>h
theorem LayW.other{h:ao}{bw ba bt:Nat}{mp:cg}{mb:List (Int×By)}{A:Ar}{T:Tr}{S:WS}(L:LayW h bw ba bt mp mb A T S)(b:Nat)(x:bj)(hd:¬bA bw bt mp mb b)(n:b≠ba):LayW (h.set b x) bw ba bt mp mb A T S:=by
 have up:∀{c:Nat}{y:bj},b≠c->h[c]?=some y->(h.set b x)[c]?=some y:=λhn hx=>by rw[VL hn,hx]
 exact{
  w:=up (λe=>hd (.inl e)) L.w,a:=up n L.a,t:=up (λe=>hd (.inr (.inl e))) L.t,wa:=L.wa,wt:=L.wt,at':=L.at',keys:=L.keys,pinj:=L.pinj,byn:=L.byn,binj:=L.binj,pb:=L.pb
  pr:=λk c g=>by obtain⟨p,h1,d,f⟩:=L.pr k c g;exact⟨p,h1,up (λe=>hd (.inr (.inr (.inl ⟨k,e▸g⟩)))) d,f⟩
  by':=λl e i=>by
   obtain⟨zs,h1,⟨sp,d,f⟩,m⟩:=L.by' l e i
   exact⟨zs,h1,⟨sp,up (λj=>hd (.inr (.inr (.inr ⟨l,e,i,j.symm⟩)))) d,f⟩,m⟩}
theorem mem_keys{α:Type}:∀{l:List (Int×α)}{k:Int},(lk l k).isSome=true↔k∈l.map (·.1)
 |[],k=>by simp[lk]
 |(j,x)::l,k=>by
  rw[lk,VP,VU];by_cases e:j=k;rw[Vt e];simp[e];rw[Vs e,mem_keys];constructor;exactλh=>.inr h;rintro(h|h);exact absurd h.symm e;exact h
theorem wl{α:Type}:∀(l:List (Int×α))(k:Int),(dl l k).map (·.1)=(l.map (·.1)).erase k
 |[],_=>rfl
 |(j,x)::l,k=>by
  rw[dl,VP,List.erase_cons];by_cases e:j=k;rw[Vt e,Vt (by simpa using e)];rw[Vs e,Vs (by simpa using e),VP,wl l k]
theorem Cs{l:af}(h:l.Nodup):(bM l).Nodup:=by
 unfold bM;exact(Xu l _).nodup_iff.2 h
theorem cC{n:Nat}(hn:n<=100000){l:Int}(h:aQ l n=0):l≠0∧-(n:Int)<=l∧l<=n∧1<=aq l∧aq l<=n∧aq l=gr l∧0<=bH l∧bG (-l)=-l:=by
 obtain⟨a,b,c⟩:=(d5 (by omega)).1 h;obtain⟨d,e,f,g⟩:=rm (by omega) h;exact⟨a,b,c,d,e,g,by rw[il];exact f,aC (by omega) (by omega)⟩
theorem tA{n:Nat}(hn:n<=100000){l:Int}(h:aQ l n=0):aQ (-l) n=0:=by
 obtain⟨a,b,c⟩:=(d5 (by omega)).1 h;exact(d5 (by omega)).2 ⟨by omega,by omega,by omega⟩
theorem oA{n:Nat}(hn:n<=100000){x y:Int}(hx:aQ x n=0)(hy:aQ y n=0):aq x=aq y↔x=y∨x=-y:=by
 obtain⟨_,_,_,_,_,a,_⟩:=cC hn hx;obtain⟨_,_,_,_,_,b,_⟩:=cC hn hy;rw[a,b];unfold gr;constructor;intro h;split at h<;>split at h<;>omega;intro h;split<;>split<;>omega
def oB(beg:af)(i:Nat):Int:=((beg.filter λb=>decide (b<=(i:Int))).length:Nat)
def Ak(l:Int):Int:=if l<0 then-1 else 1
structure TMk (n:Nat) (T:Tr):Prop where
  hn:n<=100000
  len:T.marks.length=n+1
  chk:∀y∈T.lits,aQ y n=0
  nd:(T.lits.map aq).Nodup
  mark:∀i (hi:i<T.lits.length),(cv T (aq T.lits[i])).v=Ak T.lits[i]∧(cv T (aq T.lits[i])).lev=oB T.beg i∧(cv T (aq T.lits[i])).pla=i
  free:∀v:Int,v∉T.lits.map aq->(cv T v).v=0
structure TOk (n:Nat) (T:Tr):Prop extends TMk n T where
  bnd:∀b∈T.beg,0<=b∧b<T.lits.length
  rise:T.beg.Pairwise (·<·)
section
variable {n : Nat} {T : Tr}
theorem TMk.okT(h:TMk n T):T.ok:=⟨by rw[h.len];omega,by rw[h.len];have:=h.hn;omega⟩
theorem TMk.vars(h:TMk n T):(T.marks.length:Int) -1=n:=by rw[h.len];omega
theorem TMk.few(h:TMk n T):T.lits.length<=n:=by
 have h1:((T.lits.map aq).map Int.toNat).Nodup:=by
  refine Xe.2 (h.nd.imp_of_mem ?_);intro a b c g d e;obtain⟨x,hx,rfl⟩:=VB.1 c;obtain⟨y,hy,rfl⟩:=VB.1 g;have:=(cC h.hn (h.chk x hx)).2.2.2.1;have:=(cC h.hn (h.chk y hy)).2.2.2.1;exact d (by omega)
 have f:(T.lits.map aq).map Int.toNat⊆List.range' 1 n:=by
  intro v i;obtain⟨a,c,rfl⟩:=VB.1 i;obtain⟨x,hx,rfl⟩:=VB.1 c;obtain⟨_,_,_,p,q,_⟩:=cC h.hn (h.chk x hx);rw[List.mem_range'_1];omega
 have:=(eb _ _ h1 f);simpa using this
theorem TMk.inj(h:TMk n T){i j:Nat}(hi:i<T.lits.length)(hj:j<T.lits.length)(e:aq T.lits[i]=aq T.lits[j]):i=j:=by
 have hp:=V5.1 (Xe.1 h.nd);rcases Xd i j with c|c|c;exact absurd e (hp i j hi hj c);exact c;exact absurd e.symm (hp j i hj hi c)
theorem TMk.one(h:TMk n T){y:Int}(hy:y∈T.lits)(b:-y∈T.lits):False:=by
 obtain⟨i,hi,c⟩:=VE hy;obtain⟨j,hj,d⟩:=VE b;have e:aq T.lits[i]=aq T.lits[j]:=by rw[c,d,eC]
 have a:i=j:=h.inj hi hj e;subst a;have:=(cC h.hn (h.chk y hy)).1;omega
theorem TMk.val(h:TMk n T){l:Int}(b:aQ l n=0):df T l=if l∈T.lits then 1 else if-l∈T.lits then-1 else 0:=by
 unfold df;rw[h.vars,Vs (by simp[b])];have f:bG (-1)=-1:=by decide
 have g:bG (- -1)=1:=by decide
 have j:bG (-0)=0:=by decide
 have l0:=(cC h.hn b).1;by_cases c:l∈T.lits;obtain⟨i,hi,e⟩:=VE c;have a:=(h.mark i hi).1;rw[e]at a;rw[Vt c,a];unfold Ak;by_cases d:l<0;rw[Vt d,Vt d,g];rw[Vs d,Vs d];rw[Vs c];by_cases c2:-l∈T.lits;obtain⟨i,hi,e⟩:=VE c2;have a:=(h.mark i hi).1;rw[e,eC]at a;rw[Vt c2,a];unfold Ak;by_cases d:l<0;rw[Vt d,Vs (by omega),f];rw[Vs d,Vt (by omega)];rw[Vs c2,h.free];split;exact j;rfl;intro a;obtain⟨x,hx,e⟩:=VB.1 a;rcases(oA h.hn (h.chk x hx) b).1 e with rfl|rfl;exact c hx;exact c2 hx
theorem TMk.val1(h:TMk n T){l:Int}(a:aQ l n=0):df T l=1↔l∈T.lits:=by
 rw[h.val a];split
 simp_all
 split<;>simp_all
theorem TMk.valm(h:TMk n T){l:Int}(a:aQ l n=0):df T l=-1↔-l∈T.lits:=by
 rw[h.val a];split;rename_i c;simp;intro c2;exact h.one c c2;split<;>simp_all
theorem TMk.val0(h:TMk n T){l:Int}(a:aQ l n=0):df T l=0↔l∉T.lits∧-l∉T.lits:=by
 rw[h.val a];split
 simp_all
 split<;>simp_all
theorem TMk.may(h:TMk n T)(l:Int):gZ T l=0↔aQ l n=0∧l∉T.lits∧-l∉T.lits:=by
 unfold gZ;rw[h.vars];by_cases c:aQ l n=0;rw[Vs (by simp[c])];have f:=h.val c;have e:(cv T (aq l)).v=0↔df T l=0:=by
  unfold df;rw[h.vars,Vs (by simp[c])];by_cases d:l<0;rw[Vt d];constructor;intro e;rw[e];decide;intro e;have b:-1<=(cv T (aq l)).v∧(cv T (aq l)).v<=1:=by
   by_cases m:aq l∈T.lits.map aq;obtain⟨x,hx,a⟩:=VB.1 m;obtain⟨i,hi,rfl⟩:=VE hx;rw[←a,(h.mark i hi).1];unfold Ak;split<;>omega;rw[h.free _ m];omega
  rw[aC (by omega) (by omega)]at e;omega;rw[Vs d]
 rw[←h.val0 c,←e];by_cases d:(cv T (aq l)).v=0;simp[c,d];simp[c,d];rw[Vt c];simp[c]
theorem TOk.new(hn:n<=100000):TOk n (nz n)where
 hn:=hn
 len:=by simp[nz]
 chk:=by simp[nz]
 nd:=by simp[nz]
 mark:=λi hi=>absurd hi (by simp[nz])
 free:=λv _=>by
  unfold cv nz;rw[Vr];simp only[Z2];split<;>rfl
 bnd:=by simp[nz]
 rise:=by simp[nz]
theorem MK{beg:af}{i:Nat}(h:∀b∈beg,b<=i):oB beg i=beg.length:=by
 unfold oB;rw[WU.2 (λb a=>by simpa using h b a)]
theorem l9(T:Tr)(l rea:Int)(h1:1<=aq l)(a:aq l<T.marks.length)(v:Int)(b:0<=v):cv (ja T l rea) v=if v=aq l then⟨Ak l,T.beg.length,rea,T.lits.length⟩else cv T v:=by
 unfold cv ja;simp only[Vr,V2];by_cases c:v=aq l;subst c;rw[Vt rfl,Vt rfl,Vt (by omega)];rfl;rw[Vs (by omega),Vs c]
theorem TMk.put(h:TMk n T){l:Int}(s:gZ T l=0)(rea:Int)(m:∀b∈T.beg,b<=T.lits.length):TMk n (ja T l rea):=by
 obtain⟨q,t,u⟩:=(h.may l).1 s;obtain⟨_,_,_,o,w,_⟩:=cC h.hn q;have d:aq l<T.marks.length:=by rw[h.len];omega
 have g:aq l∉T.lits.map aq:=λp=>by
  obtain⟨x,hx,e⟩:=VB.1 p;rcases(oA h.hn (h.chk x hx) q).1 e with rfl|rfl;exact t hx;exact u hx
 have k:∀y∈T.lits,0<=aq y:=λy hy=>by have:=(cC h.hn (h.chk y hy)).2.2.2.1;omega
 refine⟨h.hn,by simp[ja,h.len],?_,?_,?_,?_⟩;intro y hy;rcases VF.1 hy with hy|hy;exact h.chk y hy;simp at hy;subst hy;exact q;show((T.lits++[l]).map aq).Nodup;rw[V1,YN];refine⟨h.nd,by simp,λa r b m e=>?_⟩;simp at m;subst m;subst e;exact g r;have key:∀i (hi:i<(T.lits++[l]).length),(cv (ja T l rea) (aq (T.lits++[l])[i])).v=Ak (T.lits++[l])[i]∧(cv (ja T l rea) (aq (T.lits++[l])[i])).lev=oB T.beg i∧(cv (ja T l rea) (aq (T.lits++[l])[i])).pla=i:=by
  intro i hi;have j:=hi;rw[Vz]at j;simp only[VR,List.length_nil]at j;by_cases c:i<T.lits.length;rw[V6 c,l9 T l rea o d _ (k _ (Vx c)),Vs (λe:aq T.lits[i]=aq l=>g (e▸WV (Vx c)))];exact h.mark i c;have:i=T.lits.length:=by omega
  subst this;rw[Xz (Vu _)];simp only[Xr,Yf];rw[l9 T l rea o d _ (by omega),Vt rfl];exact⟨rfl,(MK m).symm,rfl⟩
 exact key;intro v p;have f:v∉(T.lits++[l]).map aq:=p;rw[V1,VF,aac]at f;simp only[VP,Xg,VY]at f;by_cases c:0<=v;rw[l9 T l rea o d v c,Vs f.2];exact h.free v f.1;have h0:=h.free 0 (λe=>by obtain⟨x,hx,e⟩:=VB.1 e;have:=(cC h.hn (h.chk x hx)).2.2.2.1;omega);have e:∀T':Tr,cv T' v=cv T' 0:=λT'=>by unfold cv;rw[show v.toNat=(0:Int).toNat by omega]
 rw[e,l9 T l rea o d 0 (by omega),Vs (by omega)];exact h0
theorem TOk.imp(h:TOk n T){l:Int}(c:gZ T l=0)(rea:Int):TOk n (ja T l rea):=
 {h.toTMk.put c rea (λb a=>by have:=(h.bnd b a).2;omega)with
  bnd:=λb a=>by have:=h.bnd b a;show 0<=b∧b<((T.lits++[l]).length:Int);simp;omega
  rise:=h.rise}
theorem TMk.beg(h:TMk n T)(e:∀b∈T.beg,b<T.lits.length):TMk n (sC T)where
 hn:=h.hn
 len:=h.len
 chk:=h.chk
 nd:=h.nd
 mark:=λi hi=>by
  obtain⟨a,b,c⟩:=h.mark i hi;refine⟨a,b.trans ?_,c⟩;have d:i<T.lits.length:=hi;unfold oB sC;simp only[WT];rw[Wl,Vs (by simp;omega)];simp
 free:=h.free
theorem TOk.dec(h:TOk n T)(l:Int):TOk n (jt T l):=by
 unfold jt;split;rename_i c;have h1:=h.toTMk.beg (λb d=>(h.bnd b d).2);have e:∀b∈(sC T).beg,0<=b∧b<=T.lits.length:=λb d=>by
  rcases VF.1 d with d|d;have:=h.bnd b d;omega;simp at d;omega
 exact{h1.put (l:=l) c (-1) (λb d=>(e b d).2)with
  bnd:=λb d=>by have:=e b d;show 0<=b∧b<((T.lits++[l]).length:Int);simp;omega
  rise:=by
   show(T.beg++[(T.lits.length:Int)]).Pairwise (·<·);rw[Yt];refine⟨h.rise,by simp,λa f b d=>?_⟩;simp at d;have:=(h.bnd a f).2;omega}
 exact h
theorem TMk.pop(h:TMk n T){m:Nat}(r:T.lits.length=m+1):TMk n (nc T):=by
 have a:T.lits.getD (T.lits.length -1) 0=T.lits[m]:=by
  have e:T.lits.length -1=m:=by omega
  rw[e,Vr,Vq (by omega),V7]
 have f:m<T.lits.length:=by omega
 obtain⟨_,_,_,s,t,_⟩:=cC h.hn (h.chk _ (Vx f));have d:∀v:Int,0<=v->cv (nc T) v=if v=aq T.lits[m]then⟨0,0,0,0⟩else cv T v:=λv j=>by
  unfold cv nc;rw[a];simp only[Vr,V2];by_cases c:v=aq T.lits[m];subst c;rw[Vt rfl,Vt rfl,Vt (by rw[h.len];omega)];rfl;rw[Vs (by omega),Vs c]
 have b:(nc T).lits=T.lits.take m:=by unfold nc;rw[r];rfl
 have g:∀y∈T.lits,0<=aq y:=λy hy=>by have:=(cC h.hn (h.chk y hy)).2.2.2.1;omega
 refine⟨h.hn,by simp[nc,h.len],?_,?_,?_,?_⟩;intro y hy;rw[b]at hy;exact h.chk y (Wn hy);rw[b];exact h.nd.sublist ((XZ m T.lits).map aq);intro i hi;have p:i<m:=by rw[b,Vy]at hi;omega
 have o:(nc T).lits[i]=T.lits[i]'(by omega):=by simp only[b];exact WE
 rw[o,d _ (g _ (Vx _)),Vs (λe=>by have:=h.inj (by omega) f e;omega)];exact h.mark i (by omega);intro v j;rw[b]at j;have key:∀v:Int,0<=v->v∉(T.lits.take m).map aq->(cv (nc T) v).v=0:=λv c j=>by
  rw[d v c];split;rfl;rename_i k;refine h.free v λhx=>?_;obtain⟨x,l,e⟩:=VB.1 hx;subst e;obtain⟨i,hi,e⟩:=VE l;subst e;by_cases q:i=m;subst q;exact k rfl;exact j (VB.2 ⟨T.lits[i],by rw[WO];exact⟨i,by omega,rfl⟩,rfl⟩)
 by_cases c:0<=v;exact key v c j;have e:cv (nc T) v=cv (nc T) 0:=by unfold cv;rw[show v.toNat=(0:Int).toNat by omega]
 rw[e];refine key 0 (by omega) λhx=>?_;obtain⟨x,hx,e⟩:=VB.1 hx;have:=(cC h.hn (h.chk x (Wn hx))).2.2.2.1;omega
theorem TMk.popN(h:TMk n T):∀j,j<=T.lits.length->TMk n (popN T j)
 |0,_=>h
 |j+1,hj=>by
  have a:=TMk.popN h j (by omega);rw[Go.AX.popN];refine a.pop (m:=T.lits.length -j -1) ?_;rw[fj,Vy];omega
theorem TOk.back(h:TOk n T){k:Nat}(hk:k<T.beg.length):TOk n (dt T k)∧(dt T k).lits=T.lits.take (T.beg[k]).toNat∧(dt T k).beg=T.beg.take k:=by
 have f:T.beg.getD k 0=T.beg[k]:=by rw[Vr,Vq hk];rfl
 obtain⟨b1,b2⟩:=h.bnd _ (Vx hk);have g:(dt T k).lits=T.lits.take (T.beg[k]).toNat:=by
  unfold dt;rw[f,fj];congr 1;omega
 have m:=h.toTMk.popN (T.lits.length -(T.beg[k]).toNat) (by omega);have d:(Go.AX.popN T (T.lits.length -(T.beg[k]).toNat)).lits=T.lits.take (T.beg[k]).toNat:=by rw[fj];congr 1;omega
 have l:∀v,cv (dt T k) v=cv (Go.AX.popN T (T.lits.length -(T.beg[k]).toNat)) v:=λv=>by unfold cv dt;rw[f]
 have q:=V5.1 h.rise;have o:∀b∈T.beg.take k,0<=b∧b<T.beg[k]:=λb e=>by
  obtain⟨i,hi,rfl⟩:=WO.1 e;exact⟨(h.bnd _ (Vx _)).1,q i k (by omega) hk (by omega)⟩
 have a:(dt T k).lits.length=(T.beg[k]).toNat:=by rw[g,Vy];omega
 refine⟨{hn:=h.hn,len:=?_,chk:=?_,nd:=?_,mark:=?_,free:=?_,bnd:=?_,rise:=?_},g,rfl⟩;unfold dt;rw[f];exact m.len;intro y hy;rw[g]at hy;exact h.chk y (Wn hy);rw[g];exact h.nd.sublist ((XZ _ T.lits).map aq);intro i hi;have p:i<(Go.AX.popN T (T.lits.length -(T.beg[k]).toNat)).lits.length:=by rw[d,←g];exact hi
 have r:(dt T k).lits[i]=(Go.AX.popN T (T.lits.length -(T.beg[k]).toNat)).lits[i]:=by simp only[g,d]
 rw[l,r];obtain⟨t,u,w⟩:=m.mark i p;refine⟨t,u.trans ?_,w⟩;rw[wm];unfold oB;congr 1;rw[←Wz k T.beg,WT];have:((T.beg.take k++T.beg.drop k).take k)=T.beg.take k:=by rw[Wz]
 show _=((dt T k).beg.filter _).length;have e:(dt T k).beg=T.beg.take k:=rfl;rw[e];have hd:(T.beg.drop k).filter (λb=>decide (b<=(i:Int)))=[]:=by
  rw[Xa];intro b e;obtain⟨j,hj,rfl⟩:=Zc.1 e;have:T.beg[k]<=T.beg[k+j]:=by
   by_cases c:j=0;subst c;exact XF _;exact Int.le_of_lt (q k (k+j) hk (by omega) (by omega))
  rw[a]at hi;simp;omega
 rw[hd,WF];intro v s;rw[l];refine m.free v ?_;rw[d,←g];exact s;intro b e;have:=o b e;rw[a];omega;exact h.rise.sublist (XZ _ _)
end
def bF(byl:dV)(l:Int):af:=(lk byl l).getD []
theorem G8{byl:dV}{l:Int}{zs:af}(h:lk byl l=some zs):bF byl l=zs:=by unfold bF;rw[h];rfl
theorem TP{byl:dV}{l k:Int}(h:k∈bF byl l):∃zs,lk byl l=some zs∧k∈zs:=by
 unfold bF at h;cases a:lk byl l with
 |none=>rw[a]at h;cases h
 |some zs=>rw[a]at h;exact⟨zs,rfl,h⟩
theorem lw(byl:dV)(k l m:Int):bF (fu byl k l) m=if l≠0∧m=l then bq (λx=>decide (x=k)) (bF byl l)else bF byl m:=by
 unfold bF fu;by_cases c:l=0;rw[Vt c,Vs (λh=>h.1 c)];rw[Vs c,cm];by_cases d:m=l;rw[Vt d.symm,Vt ⟨c,d⟩];rfl;rw[Vs (λe=>d e.symm),Vs (λh=>d h.2)]
theorem ML{k j:Int}{l:af}:j∈bq (λx=>decide (x=k)) l↔j∈l∧j≠k:=by
 unfold bq;rw[V9];simp
theorem ma{byl:dV}{k l m j:Int}:j∈bF (fu byl k l) m↔j∈bF byl m∧¬(l≠0∧m=l∧j=k):=by
 rw[lw];by_cases c:l≠0∧m=l;rw[Vt c,ML,c.2];constructor;exactλh=>⟨h.1,λq=>h.2 q.2.2⟩;exactλh=>⟨h.1,λq=>h.2 ⟨c.1,rfl,q⟩⟩;rw[Vs c];exact⟨λh=>⟨h,λq=>c ⟨q.1,q.2.1⟩⟩,λh=>h.1⟩
theorem rU{byl:dV}(h:∀l,(bF byl l).Nodup)(k l m:Int):(bF (fu byl k l) m).Nodup:=by
 rw[lw];split;exact(h l).sublist Yx;exact h m
theorem pd(byl:dV)(k l m:Int):bF (iQ byl k l) m=if m=l then bF byl l++[k]else bF byl m:=by
 unfold bF iQ;rw[cm];by_cases d:m=l;rw[Vt d,Vt d.symm];rfl;rw[Vs d,Vs (λe=>d e.symm)]
theorem rV{byl:dV}{k l m j:Int}:j∈bF (iQ byl k l) m↔j∈bF byl m∨(m=l∧j=k):=by
 rw[pd];by_cases d:m=l;rw[Vt d,d];simp;rw[Vs d];simp[d]
theorem Al{byl:dV}(h:∀l,(bF byl l).Nodup){k l:Int}(hk:k∉bF byl l)(m:Int):(bF (iQ byl k l) m).Nodup:=by
 rw[pd];split;rw[YN];refine⟨h l,by simp,λa d b c e=>?_⟩;simp at c;subst c;subst e;exact hk d;exact h m
structure Wch (n:Nat) (S:WS):Prop where
  nd:(S.prs.map (·.1)).Nodup
  lits:∀k p,lk S.prs k=some p->(0<=k∧k<=20000000)∧p.lits.Nodup∧p.lits.length<=1000∧∀y∈p.lits,aQ y n=0
  lnd:(S.late.map (·.1)).Nodup
  lpr:∀k∈S.late.map (·.1),∃p,lk S.prs k=some p
  two:∀k p,lk S.prs k=some p->(k∈S.late.map (·.1)∧p.x=0∧p.y=0)∨(k∉S.late.map (·.1)∧p.x≠p.y∧p.x∈p.lits∧p.y∈p.lits)
  bnd:∀l,(bF S.byl l).Nodup
  mem:∀l k,k∈bF S.byl l↔l≠0∧∃p,lk S.prs k=some p∧(p.x=l∨p.y=l)
theorem sU{α:Type}{l:List (Int×α)}{k:Int}{x:α}(h:lk l k=some x):k∈l.map (·.1):=mem_keys.1 (by rw[h];rfl)
theorem rW{α:Type}{l:List (Int×α)}(h:(l.map (·.1)).Nodup)(k x:Int):x∈(dl l k).map (·.1)↔x∈l.map (·.1)∧x≠k:=by
 rw[wl,h.mem_erase_iff];exact⟨λq=>⟨q.2,q.1⟩,λq=>⟨q.2,q.1⟩⟩
theorem G9{α:Type}{l:List (Int×α)}(h:(l.map (·.1)).Nodup)(k:Int):((dl l k).map (·.1)).Nodup:=by rw[wl];exact h.erase k
section
variable {n : Nat} {S : WS}
theorem Wch.pos(h:Wch n S){k:Int}{p:Pr}(hp:lk S.prs k=some p)(hk:k∉S.late.map (·.1)):p.x≠0∧p.y≠0∧p.x≠p.y∧p.x∈p.lits∧p.y∈p.lits:=by
 rcases h.two k p hp with⟨a,_⟩|⟨_,a,b,c⟩;exact absurd a hk;have d:=(h.lits k p hp).2.2.2;have z:∀y∈p.lits,y≠0:=λy hy e=>by
  have:=d y hy;rw[e]at this;unfold aQ uY at this;split at this;omega;simp at this
 exact⟨z _ b,z _ c,a,b,c⟩
theorem Wch.zer(h:Wch n S){k:Int}{p:Pr}(hp:lk S.prs k=some p)(hk:k∈S.late.map (·.1)):p.x=0∧p.y=0:=by
 rcases h.two k p hp with⟨_,a⟩|⟨a,_⟩;exact a;exact absurd hk a
theorem Wch.nby(h:Wch n S){k:Int}{p:Pr}(hp:lk S.prs k=some p)(hk:k∈S.late.map (·.1))(l:Int):k∉bF S.byl l:=λb=>by
 obtain⟨l0,q,a,e⟩:=(h.mem l k).1 b;rw[hp]at a;cases a;obtain⟨c,d⟩:=h.zer hp hk;rw[c,d]at e;omega
theorem Wch.entry(h:Wch n S){k:Int}{p:Pr}(hp:lk S.prs k=some p){l:Int}(l0:l≠0)(a:p.x=l∨p.y=l):∃zs,lk S.byl l=some zs∧k∈zs:=TP ((h.mem l k).2 ⟨l0,p,hp,a⟩)
theorem Wch.hz(h:Wch n S)(b:S.prs.length<=1000000):∀l zs,lk S.byl l=some zs->zs.length<=1000000:=λl zs hz=>by
 have e:=G8 hz;have h1:=h.bnd l;rw[e]at h1;have a:zs⊆S.prs.map (·.1):=λk hk=>by
  obtain⟨_,p,hp,_⟩:=(h.mem l k).1 (by rw[e];exact hk);exact sU hp
 have:=(eb _ _ h1 a);rw[VA]at this;omega
theorem eF{α:Type}{l:List (Int×α)}{k j:Int}{y:α}(hj:j≠k):lk (pt l k y) j=lk l j:=by rw[cm,Vs (λe=>hj e.symm)]
theorem eX{α:Type}{l:List (Int×α)}{k:Int}{y:α}:lk (pt l k y) k=some y:=by rw[cm,Vt rfl]
theorem Wch.toLate(h:Wch n S){k:Int}{p:Pr}(hp:lk S.prs k=some p)(hk:k∉S.late.map (·.1))(v:Int):Wch n ⟨(gu S k p).prs,(gu S k p).byl,pt S.late k v,S.head,S.seen⟩:=by
 obtain⟨s,y0,r,hx,hy⟩:=h.pos hp hk;have f:(pt S.prs k ⟨p.lits,0,0⟩).map (·.1)=S.prs.map (·.1):=fW _ hp;have g:∀j,j∈(pt S.late k v).map (·.1)↔j=k∨j∈S.late.map (·.1):=λj=>l8 _ _ _ _;refine⟨?_,?_,?_,?_,?_,?_,?_⟩;show((pt S.prs k _).map (·.1)).Nodup;rw[f];exact h.nd;intro j q d;have d:lk (pt S.prs k ⟨p.lits,0,0⟩) j=some q:=d;by_cases e:j=k;subst e;rw[eX]at d;cases d;exact h.lits j p hp;rw[eF e]at d;exact h.lits j q d;exact gU _ _ _ h.lnd;intro j hj;show∃q,lk (pt S.prs k ⟨p.lits,0,0⟩) j=some q;by_cases e:j=k;subst e;exact⟨_,eX⟩;rw[eF e];rcases(g j).1 hj with c|c;exact absurd c e;exact h.lpr j c;intro j q d;have d:lk (pt S.prs k ⟨p.lits,0,0⟩) j=some q:=d;show(j∈(pt S.late k v).map (·.1)∧_)∨(j∉(pt S.late k v).map (·.1)∧_);rw[g];by_cases e:j=k;subst e;rw[eX]at d;cases d;exact .inl ⟨.inl rfl,rfl,rfl⟩;rw[eF e]at d;rcases h.two j q d with⟨a,b⟩|⟨a,b⟩;exact .inl ⟨.inr a,b⟩;exact .inr ⟨λc=>c.elim e a,b⟩;exactλm=>rU (λm=>rU h.bnd k p.x m) k p.y m;intro m j;show j∈bF (fu (fu S.byl k p.x) k p.y) m↔m≠0∧∃q,lk (pt S.prs k ⟨p.lits,0,0⟩) j=some q∧_;rw[ma,ma,h.mem];by_cases e:j=k;subst e;rw[eX];constructor;rintro⟨⟨⟨i,q,d,c⟩,l⟩,o⟩;rw[hp]at d;cases d;rcases c with c|c;exact absurd ⟨s,c.symm,rfl⟩ l;exact absurd ⟨y0,c.symm,rfl⟩ o;rintro⟨i,q,d,c⟩;cases d;simp at c;exact absurd c.symm i;rw[eF e];exact⟨λq=>q.1.1,λq=>⟨⟨q,λz=>e z.2.2⟩,λz=>e z.2.2⟩⟩
theorem Wch.watch(h:Wch n S){k:Int}{p:Pr}(hp:lk S.prs k=some p)(hk:k∈S.late.map (·.1)){a b:Int}(i:a≠b)(o:a∈p.lits)(r:b∈p.lits):Wch n ⟨pt S.prs k ⟨p.lits,a,b⟩,iQ (iQ S.byl k a) k b,dl S.late k,S.head,S.seen⟩:=by
 have g:(pt S.prs k ⟨p.lits,a,b⟩).map (·.1)=S.prs.map (·.1):=fW _ hp;have l:∀j,j∈(dl S.late k).map (·.1)↔j∈S.late.map (·.1)∧j≠k:=λj=>rW h.lnd k j;have hz:∀y∈p.lits,y≠0:=λy hy e=>by
  have:=(h.lits k p hp).2.2.2 y hy;rw[e]at this;unfold aQ uY at this;split at this;omega;simp at this
 refine⟨?_,?_,?_,?_,?_,?_,?_⟩;show((pt S.prs k _).map (·.1)).Nodup;rw[g];exact h.nd;intro j q f;have f:lk (pt S.prs k ⟨p.lits,a,b⟩) j=some q:=f;by_cases e:j=k;subst e;rw[eX]at f;cases f;exact h.lits j p hp;rw[eF e]at f;exact h.lits j q f;exact G9 h.lnd k;intro j hj;obtain⟨h1,s⟩:=(l j).1 hj;show∃q,lk (pt S.prs k ⟨p.lits,a,b⟩) j=some q;rw[eF s];exact h.lpr j h1;intro j q f;have f:lk (pt S.prs k ⟨p.lits,a,b⟩) j=some q:=f;show(j∈(dl S.late k).map (·.1)∧_)∨(j∉(dl S.late k).map (·.1)∧_);rw[l];by_cases e:j=k;subst e;rw[eX]at f;cases f;exact .inr ⟨λc=>c.2 rfl,i,o,r⟩;rw[eF e]at f;rcases h.two j q f with⟨c,d⟩|⟨c,d⟩;exact .inl ⟨⟨c,e⟩,d⟩;exact .inr ⟨λz=>c z.1,d⟩;intro m;refine Al (λm=>Al h.bnd (h.nby hp hk a) m) ?_ m;rw[rV];rintro(c|c);exact h.nby hp hk b c;exact i c.1.symm;intro m j;show j∈bF (iQ (iQ S.byl k a) k b) m↔m≠0∧∃q,lk (pt S.prs k ⟨p.lits,a,b⟩) j=some q∧_;rw[rV,rV];by_cases e:j=k;subst e;rw[eX];constructor;rintro((c|c)|c);exact absurd c (h.nby hp hk m);rw[c.1];exact⟨hz a o,_,rfl,.inl rfl⟩;rw[c.1];exact⟨hz b r,_,rfl,.inr rfl⟩;rintro⟨t,q,f,c⟩;cases f;rcases c with c|c;exact .inl (.inr ⟨c.symm,rfl⟩);exact .inr ⟨c.symm,rfl⟩;rw[eF e,h.mem];constructor;rintro((c|c)|c);exact c;exact absurd c.2 e;exact absurd c.2 e;exactλc=>.inl (.inl c)
theorem Wch.move(h:Wch n S){k l x:Int}{p:Pr}(hp:lk S.prs k=some p)(l0:l≠0)(i:p.x=l∨p.y=l)(hx:x∈p.lits)(h1:x≠l)(b:x≠rQ l p):Wch n (tU S k l p x):=by
 have hk:k∉S.late.map (·.1):=λhk=>by
  obtain⟨D,E⟩:=h.zer hp hk;rw[D,E]at i;omega
 obtain⟨F,y0,s,o,r⟩:=h.pos hp hk;have hz:x≠0:=λe=>by
  have:=(h.lits k p hp).2.2.2 x hx;rw[e]at this;unfold aQ uY at this;split at this;omega;simp at this
 have f:∀q:Pr,(pt S.prs k q).map (·.1)=S.prs.map (·.1):=λq=>fW _ hp;have w:(kX l p x).lits=p.lits∧(kX l p x).x≠(kX l p x).y∧(kX l p x).x∈p.lits∧(kX l p x).y∈p.lits∧∀m,((kX l p x).x=m∨(kX l p x).y=m)↔(x=m∨(m≠l∧(p.x=m∨p.y=m))):=by
  unfold kX;unfold rQ at b;by_cases c:p.x=l;rw[Vt c]at b⊢;refine⟨rfl,b,hx,r,λm=>?_⟩;show(x=m∨p.y=m)↔_;constructor;rintro(e|e);exact .inl e;exact .inr ⟨λq=>s (by rw[c,e,q]),.inr e⟩;rintro(e|⟨g,e|e⟩);exact .inl e;exact absurd (e.symm.trans c) g;exact .inr e;rw[Vs c]at b⊢;have hy:p.y=l:=i.elim (λe=>absurd e c) id;refine⟨rfl,λe=>b e.symm,o,hx,λm=>?_⟩;show(p.x=m∨x=m)↔_;constructor;rintro(e|e);exact .inr ⟨λq=>c (e.trans q),.inl e⟩;exact .inl e;rintro(e|⟨g,e|e⟩);exact .inr e;exact .inl e;exact absurd (e.symm.trans hy) g
 obtain⟨v,A,B,C,u⟩:=w;refine⟨?_,?_,h.lnd,?_,?_,?_,?_⟩;show((pt S.prs k _).map (·.1)).Nodup;rw[f];exact h.nd;intro j q a;have a:lk (pt S.prs k (kX l p x)) j=some q:=a;by_cases e:j=k;subst e;rw[eX]at a;cases a;rw[v];exact h.lits j p hp;rw[eF e]at a;exact h.lits j q a;intro j hj;show∃q,lk (pt S.prs k (kX l p x)) j=some q;by_cases e:j=k;subst e;exact⟨_,eX⟩;rw[eF e];exact h.lpr j hj;intro j q a;have a:lk (pt S.prs k (kX l p x)) j=some q:=a;by_cases e:j=k;subst e;rw[eX]at a;cases a;rw[v];exact .inr ⟨hk,A,B,C⟩;rw[eF e]at a;exact h.two j q a;intro m;refine Al (λm=>rU h.bnd k l m) ?_ m;rw[ma,h.mem];rintro⟨⟨_,q,a,c⟩,_⟩;rw[hp]at a;cases a;unfold rQ at b;by_cases d:p.x=l;rw[Vt d]at b;rcases c with c|c;exact h1 (c.symm.trans d);exact b c.symm;rw[Vs d]at b;rcases c with c|c;exact b c.symm;exact h1 (c.symm.trans (i.elim (λe=>absurd e d) id));intro m j;show j∈bF (iQ (fu S.byl k l) k x) m↔m≠0∧∃q,lk (pt S.prs k (kX l p x)) j=some q∧_;rw[rV,ma,h.mem];by_cases e:j=k;subst e;rw[eX];constructor;rintro(⟨⟨t,q,a,c⟩,d⟩|⟨c,_⟩);rw[hp]at a;cases a;exact⟨t,_,rfl,(u m).2 (.inr ⟨λz=>d ⟨l0,z,rfl⟩,c⟩)⟩;rw[c];exact⟨hz,_,rfl,(u x).2 (.inl rfl)⟩;rintro⟨t,q,a,c⟩;cases a;rcases(u m).1 c with c|⟨c1,c2⟩;exact .inr ⟨c.symm,rfl⟩;exact .inl ⟨⟨t,p,hp,c2⟩,λz=>c1 z.2.1⟩;rw[eF e];constructor;rintro(⟨c,_⟩|⟨_,c⟩);exact c;exact absurd c e;exactλc=>.inl ⟨c,λz=>e z.2.2⟩
theorem Wch.put(h:Wch n S){k:Int}(hk:k∉S.prs.map (·.1))(k0:0<=k∧k<=20000000){lits:af}(hn:lits.Nodup)(l:lits.length<=1000)(i:∀y∈lits,aQ y n=0)(v:Int):Wch n ⟨pt S.prs k ⟨lits,0,0⟩,S.byl,pt S.late k v,S.head,S.seen⟩:=by
 have g:lk S.prs k=none:=by
  cases d:lk S.prs k with
  |none=>rfl
  |some p=>exact absurd (sU d) hk
 have f:∀j,j∈(pt S.late k v).map (·.1)↔j=k∨j∈S.late.map (·.1):=λj=>l8 _ _ _ _;refine⟨gU _ _ _ h.nd,?_,gU _ _ _ h.lnd,?_,?_,h.bnd,?_⟩;intro j q d;have d:lk (pt S.prs k ⟨lits,0,0⟩) j=some q:=d;by_cases e:j=k;subst e;rw[eX]at d;cases d;exact⟨k0,hn,l,i⟩;rw[eF e]at d;exact h.lits j q d;intro j hj;show∃q,lk (pt S.prs k ⟨lits,0,0⟩) j=some q;by_cases e:j=k;subst e;exact⟨_,eX⟩;rw[eF e];rcases(f j).1 hj with c|c;exact absurd c e;exact h.lpr j c;intro j q d;have d:lk (pt S.prs k ⟨lits,0,0⟩) j=some q:=d;show(j∈(pt S.late k v).map (·.1)∧_)∨(j∉(pt S.late k v).map (·.1)∧_);rw[f];by_cases e:j=k;subst e;rw[eX]at d;cases d;exact .inl ⟨.inl rfl,rfl,rfl⟩;rw[eF e]at d;rcases h.two j q d with⟨a,b⟩|⟨a,b⟩;exact .inl ⟨.inr a,b⟩;exact .inr ⟨λc=>c.elim e a,b⟩;intro m j;show j∈bF S.byl m↔m≠0∧∃q,lk (pt S.prs k ⟨lits,0,0⟩) j=some q∧_;rw[h.mem];by_cases e:j=k;subst e;rw[eX,g];constructor;rintro⟨_,q,d,_⟩;cases d;rintro⟨o,q,d,c⟩;cases d;simp at c;exact absurd c.symm o;rw[eF e]
theorem Wch.del(h:Wch n S)(k:Int):Wch n (sT S k):=by
 unfold sT;cases hp:lk S.prs k with
 |none=>exact h
 |some p=>
  have g:((gu S k p).prs).map (·.1)=S.prs.map (·.1):=fW _ hp;have l:(((gu S k p).prs).map (·.1)).Nodup:=by rw[g];exact h.nd
  have f:∀j,lk (dl (gu S k p).prs k) j=if j=k then none else lk S.prs j:=λj=>by
   rw[qH l];by_cases e:j=k;rw[Vt e,Vt e];rw[Vs e,Vs e];exact eF e
  have i:∀j,j∈(dl S.late k).map (·.1)↔j∈S.late.map (·.1)∧j≠k:=λj=>rW h.lnd k j;refine⟨G9 l k,?_,G9 h.lnd k,?_,?_,?_,?_⟩;intro j q d;have d:lk (dl (gu S k p).prs k) j=some q:=d;rw[f]at d;split at d;cases d;exact h.lits j q d;intro j hj;obtain⟨h1,t⟩:=(i j).1 hj;show∃q,lk (dl (gu S k p).prs k) j=some q;rw[f,Vs t];exact h.lpr j h1;intro j q d;have d:lk (dl (gu S k p).prs k) j=some q:=d;show(j∈(dl S.late k).map (·.1)∧_)∨(j∉(dl S.late k).map (·.1)∧_);rw[i];rw[f]at d;split at d;cases d;rename_i e;rcases h.two j q d with⟨a,b⟩|⟨a,b⟩;exact .inl ⟨⟨a,e⟩,b⟩;exact .inr ⟨λc=>a c.1,b⟩;exactλm=>rU (λm=>rU h.bnd k p.x m) k p.y m;intro m j;show j∈bF (fu (fu S.byl k p.x) k p.y) m↔m≠0∧∃q,lk (dl (gu S k p).prs k) j=some q∧_;rw[ma,ma,h.mem,f];by_cases e:j=k;subst e;rw[Vt rfl];constructor;rintro⟨⟨⟨o,q,d,c⟩,r⟩,s⟩;rw[hp]at d;cases d;rcases c with c|c;exact absurd ⟨λz=>o (c.symm.trans z),c.symm,rfl⟩ r;exact absurd ⟨λz=>o (c.symm.trans z),c.symm,rfl⟩ s;rintro⟨o,q,d,c⟩;cases d;rw[Vs e];exact⟨λq=>q.1.1,λq=>⟨⟨q,λz=>e z.2.2⟩,λz=>e z.2.2⟩⟩
end
inductive Grow (C:Int->af->Prop) (n:Nat) (T0:Tr):Tr->Prop
  |refl:Grow C n T0 T0
  |step {T:Tr} {k o:Int} {c:af}:Grow C n T0 T->C k c->o∈c->gZ T o=0->0<=k->(∀y∈c,y≠o->-y∈T.lits)->Grow C n T0 (ja T o k)
theorem Grow.trans{C:Int->af->Prop}{n:Nat}{T0 c d:Tr}(a:Grow C n T0 c)(b:Grow C n c d):Grow C n T0 d:=by
 induction b with
 |refl=>exact a
 |step _ h1 e f g h i=>exact .step i h1 e f g h
theorem Grow.mono{C b:Int->af->Prop}{n:Nat}{T0 d:Tr}(h:∀k c,C k c->b k c)(a:Grow C n T0 d):Grow b n T0 d:=by
 induction a with
 |refl=>exact .refl
 |step _ h1 e f g i j=>exact .step j (h _ _ h1) e f g i
theorem Grow.pre{C:Int->af->Prop}{n:Nat}{T0 b:Tr}(a:Grow C n T0 b):T0.lits<+:b.lits∧b.beg=T0.beg:=by
 induction a with
 |refl=>exact⟨ZH _,rfl⟩
 |step _ h1 d e f g c=>exact⟨c.1.trans (List.prefix_append _ _),c.2⟩
def CW(S:WS)(k:Int)(c:af):Prop:=∃p,lk S.prs k=some p∧p.lits=c
structure SameL (S S':WS):Prop where
  keys:S'.prs.map (·.1)=S.prs.map (·.1)
  lits:∀k c,CW S' k c↔CW S k c
theorem SameL.refl(S:WS):SameL S S:=⟨rfl,λ_ _=>Iff.rfl⟩
theorem SameL.trans{S S' d:WS}(a:SameL S S')(b:SameL S' d):SameL S d:=⟨b.keys.trans a.keys,λk c=>(b.lits k c).trans (a.lits k c)⟩
theorem SameL.pt{S:WS}{k:Int}{p q:Pr}(hp:lk S.prs k=some p)(d:q.lits=p.lits)(byl:dV)(late:aS)(hd:Int)(sn:af):SameL S ⟨Go.AX.pt S.prs k q,byl,late,hd,sn⟩where
 keys:=fW _ hp
 lits:=λj c=>by
  unfold CW;show(∃f,lk (Go.AX.pt S.prs k q) j=some f∧_)↔_;by_cases e:j=k;subst e;rw[eX,hp];constructor;rintro⟨_,a,b⟩;cases a;exact⟨p,rfl,d▸b⟩;rintro⟨_,a,b⟩;cases a;exact⟨q,rfl,d.trans b⟩;rw[eF e]
structure Pro (n:Nat) (S0:WS) (T0:Tr) (S:WS) (T:Tr):Prop where
  wch:Wch n S
  tok:TOk n T
  same:SameL S0 S
  grow:Grow (CW S0) n T0 T
  head:S.head=S0.head
  seen:S.seen=S0.seen
def pV(S:WS)(P:af):Prop:=∀y∈P,bF S.byl (-y)=[]
def oC(S:WS)(T:Tr)(k:Int):Prop:=∀p,lk S.prs k=some p->∃x∈p.lits,x∈T.lits
theorem oC.up{S S':WS}{T T':Tr}{k:Int}(h:oC S T k)(hs:SameL S S')(b:∀x∈T.lits,x∈T'.lits):oC S' T' k:=λp hp=>by
 obtain⟨q,c,e⟩:=(hs.lits k p.lits).1 ⟨p,hp,rfl⟩;obtain⟨x,hx,a⟩:=h q c;exact⟨x,e▸hx,b x a⟩
section
variable {n : Nat}
theorem wq{T:Tr}(d:TMk n T){lits:af}(e:∀y∈lits,aQ y n=0){x:Int}:x∈fV T lits↔x∈lits∧-x∉T.lits:=by
 unfold fV;rw[V9];constructor;rintro⟨a,b⟩;refine⟨a,λc=>?_⟩;have:=(d.valm (e x a)).2 c;simp[this]at b;rintro⟨a,b⟩;refine⟨a,?_⟩;have h1:=d.val (e x a);rw[Vs b]at h1;split at h1<;>simp[h1]
theorem MM{T:Tr}{lits:af}(h:lits.Nodup):(fV T lits).Nodup:=h.sublist Yx
theorem MN{T:Tr}(a:TMk n T){lits:af}(b:∀y∈lits,aQ y n=0):ns T lits=true↔∃x∈lits,x∈T.lits:=by
 unfold ns;rw[XS];constructor;rintro⟨x,hx,e⟩;exact⟨x,hx,(a.val1 (b x hx)).1 (by simpa using e)⟩;rintro⟨x,hx,e⟩;exact⟨x,hx,by simpa using(a.val1 (b x hx)).2 e⟩
theorem Ha{T:Tr}(c:TMk n T){p:Pr}(d:∀y∈p.lits,aQ y n=0):oy T p=true↔∀y∈p.lits,-y∈T.lits:=by
 unfold oy;rw[VI,WA,YO];constructor;intro h y hy;apply V0;intro e;exact h y ((wq c d).2 ⟨hy,e⟩);intro h y hy;obtain⟨a,b⟩:=(wq c d).1 hy;exact b (h y a)
theorem Pro.fresh{S0 S:WS}{T0 T:Tr}(h:Pro n S0 T0 S T){k:Int}{p:Pr}(hp:lk S.prs k=some p)(hk:k∈S.late.map (·.1))(w:oy T p=false):
 Pro n S0 T0 (lH S T k p) (nE T k p)∧(∀j,j∈(lH S T k p).late.map (·.1)->j∈S.late.map (·.1))∧(∀j,j∈S.late.map (·.1)->j≠k->j∈(lH S T k p).late.map (·.1))∧(k∈(lH S T k p).late.map (·.1)->oC (lH S T k p) (nE T k p) k)∧SameL S (lH S T k p)∧Grow (CW S0) n T (nE T k p)∧
 (∀y,y∈T.lits->bF (lH S T k p).byl (-y)=bF S.byl (-y)):=by
 obtain⟨k0,s,A,m⟩:=h.wch.lits k p hp;have hin:=λx=>wq (x:=x) h.tok.toTMk m;have u:=MM (T:=T) s;have t:=MN h.tok.toTMk m;unfold lH nE;unfold oy at w;generalize fV T p.lits=O at*;rcases O with _|⟨a,_|⟨b,O⟩⟩;simp at w;rw[Vs (by simp)];obtain⟨d,g⟩:=(hin a).1 (VN ..);cases hd:ns T p.lits;rw[Vt ⟨rfl,rfl⟩];have r:a∉T.lits:=λe=>by rw[t.2 ⟨a,d,e⟩]at hd;cases hd
 have o:gZ T a=0:=(h.tok.may a).2 ⟨m a d,r,g⟩;have C:mN T a k=ja T a k:=by
  have B:D6 T a k=0:=by
   unfold D6;rw[Vs (by simp[o]),Vs (by omega)]
  unfold mN;rw[Vt B]
 have l:CW S0 k p.lits:=(h.same.lits _ _).1 ⟨p,hp,rfl⟩;have ho:∀y∈p.lits,y≠a->-y∈T.lits:=λy hy c=>by
  apply V0;intro l;have:=(hin y).2 ⟨hy,l⟩;simp at this;exact c this
 rw[Xv,C];have z:Grow (CW S0) n T (ja T a k):=.step .refl l d o k0.1 ho;refine⟨⟨h.wch,h.tok.imp o k,h.same,h.grow.trans z,h.head,h.seen⟩,λ_ hj=>hj,λ_ hj _=>hj,λ_=>?_,SameL.refl _,z,λ_ _=>rfl⟩;intro q f;rw[hp]at f;cases f;exact⟨a,d,Xi _ (by simp)⟩;rw[Vs (by simp)];refine⟨h,λ_ hj=>hj,λ_ hj _=>hj,λ_=>?_,SameL.refl _,.refl,λ_ _=>rfl⟩;intro q f;rw[hp]at f;cases f;exact t.1 hd;rw[Vt (by simp),Vs (by simp)];simp only[Xv,XT];obtain⟨d,g⟩:=(hin a).1 (VN ..);obtain⟨b1,b2⟩:=(hin b).1 (by simp);have i:a≠b:=λe=>by
  rw[Xj]at u;exact u.1 (by rw[e];simp)
 have D:=h.wch.watch hp hk i d b1;have v:SameL S ⟨pt S.prs k ⟨p.lits,a,b⟩,iQ (iQ S.byl k a) k b,dl S.late k,S.head,S.seen⟩:=SameL.pt (q:=⟨p.lits,a,b⟩) hp rfl _ _ _ _;refine⟨⟨D,h.tok,h.same.trans v,h.grow,h.head,h.seen⟩,λj hj=>((rW h.wch.lnd k j).1 hj).1,λj hj c=>(rW h.wch.lnd k j).2 ⟨hj,c⟩,λhj=>absurd rfl ((rW h.wch.lnd k k).1 hj).2,v,.refl,λy hy=>?_⟩;show bF (iQ (iQ S.byl k a) k b) (-y)=_;rw[pd,Vs (λe=>b2 (by rw[←e,XI];exact hy)),pd,Vs (λe=>g (by rw[←e,XI];exact hy))]
structure JL (n:Nat) (S0:WS) (T0:Tr) (P:af) (ks:af) (S:WS) (T:Tr):Prop extends Pro n S0 T0 S T where
  clr:pV S P
  sub':∀y∈P,y∈T.lits
  knd:ks.Nodup
  kin:∀k∈ks,k∈S.late.map (·.1)
  all:∀k∈S.late.map (·.1),k∈ks∨oC S T k
theorem JL.step{S0 S:WS}{T0 T:Tr}{P ks:af}{k:Int}(h:JL n S0 T0 P (k::ks) S T){p:Pr}(hp:lk S.prs k=some p)(g:oy T p=false):JL n S0 T0 P ks (lH S T k p) (nE T k p):=by
 obtain⟨a,b,d,f,f5,f6,f7⟩:=h.toPro.fresh hp (h.kin k (VN ..)) g;have hn:=Xj.1 h.knd;exact{a with
  clr:=λy hy=>by rw[f7 y (h.sub' y hy)];exact h.clr y hy
  sub':=λy hy=>f6.pre.1.subset (h.sub' y hy)
  knd:=hn.2
  kin:=λj hj=>d j (h.kin j (VG _ hj)) λe=>hn.1 (e▸hj)
  all:=λj hj=>by
   rcases h.all j (b j hj)with c|c;rcases VU.1 c with rfl|c;exact .inr (f hj);exact .inl c;exact .inr (c.up f5 λx hx=>f6.pre.1.subset hx)}
def tB(S:WS)(T:Tr)(k:Int):Prop:=0<=k∧∃p,lk S.prs k=some p∧∀y∈p.lits,-y∈T.lits
theorem Hb{S0:WS}{T0:Tr}{P:af}:∀{ks:af}{S:WS}{T:Tr},JL n S0 T0 P ks S T->
 ((jw ks S T).2.2=-1∧JL n S0 T0 P [] (jw ks S T).1 (jw ks S T).2.1)∨(0<=(jw ks S T).2.2∧Pro n S0 T0 (jw ks S T).1 (jw ks S T).2.1∧pV (jw ks S T).1 P∧(∀y∈P,y∈(jw ks S T).2.1.lits)∧tB (jw ks S T).1 (jw ks S T).2.1 (jw ks S T).2.2)
 |[],S,T,h=>.inl ⟨rfl,h⟩
 |k::ks,S,T,h=>by
  obtain⟨p,hp⟩:=h.wch.lpr k (h.kin k (VN ..));obtain⟨k0,_,_,b⟩:=h.wch.lits k p hp;rw[jw,hp];simp only;cases a:oy T p;rw[Vs (by simp)];exact Hb (h.step hp a);rw[Vt rfl];exact .inr ⟨k0.1,h.toPro,h.clr,h.sub',k0.1,p,hp,(Ha h.tok.toTMk b).1 a⟩
structure JF (n:Nat) (S0:WS) (T0:Tr) (P:af) (l:Int) (zs:af) (S:WS) (T:Tr):Prop extends Pro n S0 T0 S T where
  clr:pV S P
  sub':∀y∈P,y∈T.lits
  by':bF S.byl l=zs
  fail:-l∈T.lits
  held:∀k∈S.late.map (·.1),oC S T k
theorem JF.look{S0 S:WS}{T0 T:Tr}{P zs:af}{l k:Int}(h:JF n S0 T0 P l (k::zs) S T):∃p,lk S.prs k=some p∧l≠0∧(p.x=l∨p.y=l)∧k∉S.late.map (·.1):=by
 have hk:k∈bF S.byl l:=by rw[h.by'];exact VN ..
 obtain⟨l0,p,hp,b⟩:=(h.wch.mem l k).1 hk;exact⟨p,hp,l0,b,λa=>h.wch.nby hp a l hk⟩
theorem sV{k:Int}{zs:af}(h:(k::zs).Nodup):bq (λx=>decide (x=k)) (k::zs)=zs:=by
 have hn:=Xj.1 h;unfold bq;rw[Wl,Vs (by simp),WU];intro x hx;have:x≠k:=λe=>hn.1 (e▸hx);simp[this]
theorem fX{byl:dV}{k l m:Int}(h:bF byl m=[]):bF (fu byl k l) m=[]:=by
 rw[lw];split;rename_i c;rw[←c.2,h];rfl;exact h
theorem Pj{l:Int}{p:Pr}(a:p.x≠p.y)(b:p.x=l∨p.y=l):(p.x=l∧rQ l p=p.y∧p.y≠l)∨(p.y=l∧rQ l p=p.x∧p.x≠l):=by
 unfold rQ;by_cases c:p.x=l;rw[Vt c];exact .inl ⟨c,rfl,λe=>a (c.trans e.symm)⟩;rw[Vs c];exact .inr ⟨b.elim (λe=>absurd e c) id,rfl,c⟩
theorem JF.step{S0 S:WS}{T0 T:Tr}{P zs:af}{l k:Int}(h:JF n S0 T0 P l (k::zs) S T){p:Pr}(hp:lk S.prs k=some p)(o:sS T l p=false):JF n S0 T0 P l zs (qG S T l k p) (rS T l k p):=by
 obtain⟨q,B,l0,z,hk⟩:=h.look;rw[hp]at B;cases B;obtain⟨N,y0,v,K,L⟩:=h.wch.pos hp hk;obtain⟨k0,J,A,i⟩:=h.wch.lits k p hp;have f:(k::zs).Nodup:=by rw[←h.by'];exact h.wch.bnd l
 unfold qG rS;unfold sS at o;cases b:oz T l p with
 |some x=>
  unfold oz at b;have hx:=List.mem_of_find?_eq_some b;have ho:=List.find?_some b;unfold Q0 at ho;simp only[VC,VI]at ho;obtain⟨C,M,Q⟩:=ho;have I:=h.wch.move hp l0 z hx C M;have H:(kX l p x).lits=p.lits:=by unfold kX;split<;>rfl
  have w:SameL S (tU S k l p x):=SameL.pt hp H _ _ _ _;have t:-x∉T.lits:=λe=>by
   have:=(h.tok.valm (i x hx)).2 e;omega
  exact{
   wch:=I,tok:=h.tok,same:=h.same.trans w,grow:=h.grow,head:=h.head,seen:=h.seen
   clr:=λy hy=>by
    show bF (iQ (fu S.byl k l) k x) (-y)=[];rw[pd,Vs (λe=>t (by rw[←e,XI];exact h.sub' y hy))];exact fX (h.clr y hy)
   sub':=h.sub'
   by':=by
    show bF (iQ (fu S.byl k l) k x) l=zs;rw[pd,Vs (λe=>C e.symm),lw,Vt ⟨l0,rfl⟩,h.by',sV f]
   fail:=h.fail
   held:=λj hj=>(h.held j hj).up w λ_ hx=>hx}
 |none=>
  rw[b]at o;simp only at o⊢;have G:=h.wch.toLate hp hk (bG ((lk S.late k).getD 0+1));have g:SameL S (nt (gu S k p) k):=SameL.pt (q:=⟨p.lits,0,0⟩) hp rfl _ _ _ _;have r:Pro n S0 T0 (nt (gu S k p) k) T:=⟨G,h.tok,h.same.trans g,h.grow,h.head,h.seen⟩;have m:∀j,j∈(nt (gu S k p) k).late.map (·.1)↔j=k∨j∈S.late.map (·.1):=λj=>l8 _ _ _ _;have u:lk (nt (gu S k p) k).prs k=some (rR p):=eX;obtain⟨D,E,O,F,f5,f6,f7⟩:=r.fresh u ((m k).2 (.inl rfl)) o;have s:bF (nt (gu S k p) k).byl l=zs:=by
   show bF (fu (fu S.byl k p.x) k p.y) l=zs;rcases Pj v z with⟨c,_,d⟩|⟨c,_,d⟩;rw[lw,Vs (λe=>d e.2.symm),lw,Vt ⟨N,c.symm⟩,c,h.by',sV f];rw[lw,Vt ⟨y0,c.symm⟩,c,lw,Vs (λe=>d e.2.symm),h.by',sV f]
  have a:∀y∈T.lits,y∈(nE T k (rR p)).lits:=λy hy=>f6.pre.1.subset hy;exact{D with
   clr:=λy hy=>by
    rw[f7 y (h.sub' y hy)];exact fX (fX (h.clr y hy))
   sub':=λy hy=>a y (h.sub' y hy)
   by':=by
    have:=f7 (-l) h.fail;rw[XI]at this;rw[this];exact s
   fail:=a _ h.fail
   held:=λj hj=>by
    rcases(m j).1 (E j hj)with rfl|c;exact F hj;exact((h.held j c).up (g.trans f5) a)}
theorem JF.bad{S0 S:WS}{T0 T:Tr}{P zs:af}{l k:Int}(h:JF n S0 T0 P l (k::zs) S T){p:Pr}(hp:lk S.prs k=some p)(a:sS T l p=true):
 Pro n S0 T0 (qG S T l k p) (rS T l k p)∧pV (qG S T l k p) P∧rS T l k p=T∧tB (qG S T l k p) T k:=by
 obtain⟨q,i,l0,s,hk⟩:=h.look;rw[hp]at i;cases i;obtain⟨k0,r,g,b⟩:=h.wch.lits k p hp;unfold qG rS;unfold sS at a;cases c:oz T l p with
 |some x=>rw[c]at a;cases a
 |none=>
  rw[c]at a;simp only at a⊢;have f:=a;unfold oy at f;rw[VI]at f;have j:lH (nt (gu S k p) k) T k (rR p)=nt (gu S k p) k:=by unfold lH;rw[Vs (by omega)]
  have m:nE T k (rR p)=T:=by unfold nE;rw[Vs (by omega)]
  rw[j,m];have o:=h.wch.toLate hp hk (bG ((lk S.late k).getD 0+1));have d:SameL S (nt (gu S k p) k):=SameL.pt (q:=⟨p.lits,0,0⟩) hp rfl _ _ _ _;have e:lk (nt (gu S k p) k).prs k=some (rR p):=eX;exact⟨⟨o,h.tok,h.same.trans d,h.grow,h.head,h.seen⟩,λy hy=>fX (fX (h.clr y hy)),rfl,k0.1,_,e,(Ha (p:=rR p) h.tok.toTMk b).1 a⟩
theorem Hc{S0:WS}{T0:Tr}{P:af}{l:Int}:∀{zs:af}{S:WS}{T:Tr},JF n S0 T0 P l zs S T->
 ((jk l zs S T).2.2=-1∧JF n S0 T0 P l [] (jk l zs S T).1 (jk l zs S T).2.1)∨(0<=(jk l zs S T).2.2∧Pro n S0 T0 (jk l zs S T).1 (jk l zs S T).2.1∧pV (jk l zs S T).1 P∧(∀y∈P,y∈(jk l zs S T).2.1.lits)∧tB (jk l zs S T).1 (jk l zs S T).2.1 (jk l zs S T).2.2)
 |[],S,T,h=>.inl ⟨rfl,h⟩
 |k::zs,S,T,h=>by
  obtain⟨p,hp,_⟩:=h.look;rw[jk,hp];simp only;cases a:sS T l p;rw[Vs (by simp)];exact Hc (h.step hp a);rw[Vt rfl];obtain⟨b1,b2,b3,b4⟩:=h.bad hp a;exact .inr ⟨b4.1,b1,b2,λy hy=>by rw[b3];exact h.sub' y hy,by rw[b3];exact b4⟩
end
structure JC (n:Nat) (S0:WS) (T0:Tr) (S:WS) (T:Tr):Prop where
  wch:Wch n S
  tok:TOk n T
  same:SameL S0 S
  grow:Grow (CW S0) n T0 T
  seen:S.seen=S0.seen
  h0:0<=S.head
  h1:S.head<=T.lits.length
  clr:pV S (T.lits.take S.head.toNat)
structure JP (n:Nat) (S0:WS) (T0:Tr) (S:WS) (T:Tr):Prop extends JC n S0 T0 S T where
  held:∀k∈S.late.map (·.1),oC S T k
section
variable {n : Nat} {S0 : WS} {T0 : Tr}
theorem CW.same{S S':WS}(h:SameL S S'){n:Nat}{T T':Tr}(g:Grow (CW S') n T T'):Grow (CW S) n T T':=g.mono λk c a=>(h.lits k c).1 a
theorem SameL.len{S S':WS}(h:SameL S S'):S'.prs.length=S.prs.length:=by
 have:=Xp List.length h.keys;simpa using this
theorem wu{l l':af}(h:l<+:l'){k:Nat}(hk:k<=l.length):l'.take k=l.take k:=by
 obtain⟨t,rfl⟩:=h;exact Wd hk
theorem JP.neg{S:WS}{T:Tr}(h:JP n S0 T0 S T)(hd:S.head<T.lits.length):∃i:Nat,∃hi:i<T.lits.length,S.head=i∧eD T S=-T.lits[i]:=by
 have h0:=h.h0;refine⟨S.head.toNat,by omega,by omega,?_⟩;have hi:S.head.toNat<T.lits.length:=by omega
 unfold eD;rw[Vr,Vq hi,V7];exact(cC h.tok.hn (h.tok.chk _ (Vx hi))).2.2.2.2.2.2.2
theorem JP.begin{S:WS}{T:Tr}(h:JP n S0 T0 S T){i:Nat}(hi:i<T.lits.length)(a:S.head=i):JF n S T (T.lits.take i) (-T.lits[i]) (bF S.byl (-T.lits[i])) S T:=
 {
  wch:=h.wch,tok:=h.tok,same:=SameL.refl _,grow:=.refl,head:=rfl,seen:=rfl
  clr:=by have:=h.clr;rw[a]at this;exact this
  sub':=λy hy=>Wn hy
  by':=rfl
  fail:=by rw[XI];exact Vx hi
  held:=h.held}
theorem Pk(S:WS)(T:Tr)(l:Int):ia S T l=jk l (bF S.byl l) S T:=by
 unfold ia bF;cases lk S.byl l with
 |none=>rfl
 |some zs=>rfl
theorem MO{S:WS}{i:Nat}(h:S.head=i)(hi:i<1000000):Q1 S=⟨S.prs,S.byl,S.late,((i+1:Nat):Int),S.seen⟩:=by
 unfold Q1;rw[h,aC (by omega) (by omega)];rfl
theorem JP.go{S:WS}{T:Tr}(h:JP n S0 T0 S T)(hd:S.head<T.lits.length):
 ((ia S T (eD T S)).2.2=-1∧JP n S0 T0 (Q1 (ia S T (eD T S)).1) (ia S T (eD T S)).2.1∧(ia S T (eD T S)).1.head=S.head∧T.lits<+:(ia S T (eD T S)).2.1.lits)∨
 (0<=(ia S T (eD T S)).2.2∧JC n S0 T0 (ia S T (eD T S)).1 (ia S T (eD T S)).2.1∧tB (ia S T (eD T S)).1 (ia S T (eD T S)).2.1 (ia S T (eD T S)).2.2):=by
 obtain⟨i,hi,d,hn⟩:=h.neg hd;have f:=h.tok.few;have g:=h.tok.hn;rw[hn,Pk];rcases Hc (h.begin hi d)with⟨e,a⟩|⟨e,a,r3,k,j⟩;left;generalize jk (-T.lits[i]) (bF S.byl (-T.lits[i])) S T=R at*;have b:=a.grow.pre.1;have c:R.1.head=i:=a.head.trans d;rw[MO c (by omega)];refine⟨e,?_,a.head,b⟩;have hle:=b.length_le;exact{
  wch:=⟨a.wch.nd,a.wch.lits,a.wch.lnd,a.wch.lpr,a.wch.two,a.wch.bnd,a.wch.mem⟩
  tok:=a.tok,same:=h.same.trans ⟨a.same.keys,a.same.lits⟩,grow:=h.grow.trans (CW.same h.same a.grow),seen:=a.seen.trans h.seen
  h0:=by show(0:Int)<=((i+1:Nat):Int);omega
  h1:=by show((i+1:Nat):Int)<=_;omega
  clr:=by
   show pV _ (R.2.1.lits.take ((i+1:Nat):Int).toNat);rw[show((i+1:Nat):Int).toNat=i+1 by omega,wu b (by omega),Wj,Vq hi];intro y hy;rcases VF.1 hy with hy|hy;exact a.clr y hy;simp at hy;rw[hy];exact a.by'
  held:=a.held}
 right;generalize jk (-T.lits[i]) (bF S.byl (-T.lits[i])) S T=R at*;have b:=a.grow.pre.1;have hle:=b.length_le;refine⟨e,?_,j⟩;have c:R.1.head=i:=a.head.trans d;exact{
  wch:=a.wch,tok:=a.tok,same:=h.same.trans a.same,grow:=h.grow.trans (CW.same h.same a.grow),seen:=a.seen.trans h.seen
  h0:=by omega,h1:=by omega
  clr:=by rw[c,show(i:Int).toNat=i by omega,wu b (by omega)];exact r3}
theorem He:∀{m:Nat}{S:WS}{T:Tr},JP n S0 T0 S T->1000001<=S.head+m->
 ((m9 m S T).2.2=-1∧JP n S0 T0 (m9 m S T).1 (m9 m S T).2.1∧(m9 m S T).1.head=(m9 m S T).2.1.lits.length)∨
 (0<=(m9 m S T).2.2∧JC n S0 T0 (m9 m S T).1 (m9 m S T).2.1∧tB (m9 m S T).1 (m9 m S T).2.1 (m9 m S T).2.2)
 |0,S,T,h,d=>by
  have:=h.h1;have:=h.tok.few;have:=h.tok.hn;omega
 |m+1,S,T,h,d=>by
  rw[m9];by_cases hd:S.head<T.lits.length;rw[Vt hd];rcases h.go hd with⟨a,b,r3,e⟩|⟨a,b,r3⟩;rw[Vs (by omega)];refine He b ?_;obtain⟨i,hi,c,_⟩:=h.neg hd;have:=h.tok.few;have:=h.tok.hn;rw[MO (r3.trans c) (by omega)];show 1000001<=((i+1:Nat):Int)+m;omega;rw[Vt a];exact .inr ⟨a,b,r3⟩;rw[Vs hd];have:=h.h1;exact .inl ⟨rfl,h,by show S.head=T.lits.length;omega⟩
theorem JF.stepOk{P zs:af}{l k:Int}{S:WS}{T:Tr}(h:JF n S0 T0 P l (k::zs) S T)(f:S.prs.length<=1000000):∃p,StepOk S T l k p:=by
 obtain⟨p,hp,l0,c,hk⟩:=h.look;obtain⟨d,y0,b,i,j⟩:=h.wch.pos hp hk;have a:∀m:Int,m≠0->(p.x=m∨p.y=m)->∃zs,lk S.byl m=some zs∧zs≠[]:=λm o g=>by
  obtain⟨zs,e,hz⟩:=h.wch.entry hp o g;exact⟨zs,e,λq=>by rw[q]at hz;cases hz⟩
 have:=h.tok.few;have:=h.tok.hn;refine⟨p,hp,l0,c,by have:=(h.wch.lits k p hp).2.2.1;omega,a l l0 c,λ_=>a _ d (.inl rfl),λ_=>?_,h.wch.hz f,h.tok.okT,by omega⟩;obtain⟨zs,e,hz⟩:=a _ y0 (.inr rfl);refine⟨zs,?_,hz⟩;unfold fu;rw[Vs d,cm,Vs b];exact e
theorem TQ(f:S0.prs.length<=1000000):ProOk (JP n S0 T0)where
 ok:=λS T h=>by
  have:=h.tok.few;have:=h.tok.hn;exact⟨h.tok.okT,by omega,h.h0,h.h1⟩
 step:=λS T h hd zs b=>by
  obtain⟨i,hi,g,hn⟩:=h.neg hd;have a:S.prs.length<=1000000:=by rw[h.same.len];exact f
  refine⟨h.wch.hz a _ _ b,λj S' T'=>JF n S T (T.lits.take i) (eD T S) (zs.drop j) S' T',?_,λj S' T' hj c=>?_⟩;show JF n S T (T.lits.take i) (eD T S) zs S T;rw[←G8 b,hn];exact h.begin hi g;have hj:JF n S T (T.lits.take i) (eD T S) (zs.drop j) S' T':=hj;rw[V3 c]at hj;obtain⟨p,d⟩:=hj.stepOk (by rw[hj.same.len];exact a);exact⟨p,d,λe=>hj.step d.hp e⟩
 len:=λS T h hd=>by
  have k:=h.tok.hn;rcases h.go hd with⟨_,r,_⟩|⟨_,r,_⟩;have:=r.tok.few;omega;have:=r.tok.few;omega
 next:=λS T h hd hk=>by
  rcases h.go hd with r|⟨r,_⟩;exact r;exact absurd r hk
end
structure WOk (n:Nat) (S:WS):Prop extends Wch n S where
  few:S.prs.length<=1000000
  h0:0<=S.head
  h1:S.head<=S.seen.length
  sl:S.seen.length<=1000000
  clr:pV S (S.seen.take S.head.toNat)
structure PrpOk (n:Nat) (S:WS) (T:Tr) (R:WS×Tr×Int):Prop where
  ok:WOk n R.1
  tok:TOk n R.2.1
  same:SameL S R.1
  grow:Grow (CW S) n T R.2.1
  seen:R.1.seen=R.2.1.lits
  res:(R.2.2=-1∧∀k p,lk R.1.prs k=some p->(∃x∈p.lits,x∈R.2.1.lits)∨∃x y,x∈p.lits∧y∈p.lits∧x≠y∧-x∉R.2.1.lits∧-y∉R.2.1.lits)∨tB R.1 R.2.1 R.2.2
theorem Hf:∀(a b:af),jI a b<=a.length∧jI a b<=b.length
 |[],_=>⟨VH _,VH _⟩
 |_::_,[]=>⟨VH _,VH _⟩
 |x::a,y::b=>by
  rw[jI];have:=Hf a b;simp only[VR];split<;>omega
theorem yx:∀(a b:af)(k:Nat),k<=jI a b->a.take k=b.take k
 |a,b,0,_=>by simp
 |[],_,k+1,h=>by rw[jI]at h;omega;intros;simp_all
 |_::_,[],k+1,h=>by rw[jI]at h;omega;intros;simp_all
 |x::a,y::b,k+1,h=>by
  rw[jI]at h;split at h;rename_i e;rw[Zm,Zm,e,yx a b k (by omega)];omega
section
variable {n : Nat} {S : WS} {T : Tr}
theorem WOk.shr(h:WOk n S)(a:TOk n T):JC n (dm S T.lits) T (dm S T.lits) T:=by
 obtain⟨f,g⟩:=Hf S.seen T.lits;have b:=h.h0;have e:(dm S T.lits).head=if(jI S.seen T.lits:Int)<S.head then(jI S.seen T.lits:Int)else S.head:=rfl;have a0:0<=(dm S T.lits).head:=by rw[e];split<;>omega
 have c:(dm S T.lits).head<=jI S.seen T.lits:=by rw[e];split<;>omega
 have d:(dm S T.lits).head<=S.head:=by rw[e];split<;>omega
 refine{wch:=⟨h.nd,h.lits,h.lnd,h.lpr,h.two,h.bnd,h.mem⟩,tok:=a,same:=SameL.refl _,grow:=.refl,seen:=rfl,h0:=a0,h1:=by omega,clr:=?_};rw[←yx S.seen T.lits _ (by omega)];intro y hy;refine h.clr y ?_;have:S.seen.take (dm S T.lits).head.toNat<+:S.seen.take S.head.toNat:=List.take_prefix_take_left (by omega);exact this.subset hy
theorem WOk.jl(h:WOk n S)(a:TOk n T):JL n (dm S T.lits) T (T.lits.take (dm S T.lits).head.toNat) (bM (S.late.map (·.1))) (dm S T.lits) T:=
 have b:=h.shr a
 {
  wch:=b.wch,tok:=a,same:=SameL.refl _,grow:=.refl,head:=rfl,seen:=rfl
  clr:=b.clr
  sub':=λy hy=>Wn hy
  knd:=Cs h.lnd
  kin:=λk hk=>pc.1 hk
  all:=λk hk=>.inl (pc.2 hk)}
theorem Pro.jc{S0 S':WS}{T0 T':Tr}(h:Pro n S0 T0 S' T')(h0:0<=S0.head)(h1:S0.head<=T0.lits.length)(b:pV S' (T0.lits.take S0.head.toNat)):JC n S0 T0 S' T':=by
 have a:=h.grow.pre.1;have hle:=a.length_le;exact{
  wch:=h.wch,tok:=h.tok,same:=h.same,grow:=h.grow,seen:=h.seen,h0:=by rw[h.head];exact h0,h1:=by rw[h.head];omega
  clr:=by rw[h.head,wu a (by omega)];exact b}
theorem Hg(h:WOk n S)(d:TOk n T):
 ((ib (dm S T.lits) T).2.2=-1∧JP n (dm S T.lits) T (ib (dm S T.lits) T).1 (ib (dm S T.lits) T).2.1)∨
 (0<=(ib (dm S T.lits) T).2.2∧JC n (dm S T.lits) T (ib (dm S T.lits) T).1 (ib (dm S T.lits) T).2.1∧tB (ib (dm S T.lits) T).1 (ib (dm S T.lits) T).2.1 (ib (dm S T.lits) T).2.2):=by
 have b:=h.shr d;have e:ib (dm S T.lits) T=jw (bM (S.late.map (·.1))) (dm S T.lits) T:=rfl;rw[e];rcases Hb (h.jl d)with⟨c,a⟩|⟨c,a,r3,g,f⟩;exact .inl ⟨c,{a.toPro.jc b.h0 b.h1 a.clr with held:=λk hk=>(a.all k hk).resolve_left (by simp)}⟩;exact .inr ⟨c,a.jc b.h0 b.h1 r3,f⟩
theorem JC.fin{S':WS}{T':Tr}{k:Int}(f:S.prs.length<=1000000)(h:JC n (dm S T.lits) T S' T')
 (i:(k=-1∧(∀k∈S'.late.map (·.1),oC S' T' k)∧S'.head=T'.lits.length)∨tB S' T' k):PrpOk n S T (⟨S'.prs,S'.byl,S'.late,S'.head,T'.lits⟩,T',k):=by
 have d:=h.tok.few;have hn:=h.tok.hn;have e:Wch n ⟨S'.prs,S'.byl,S'.late,S'.head,T'.lits⟩:=⟨h.wch.nd,h.wch.lits,h.wch.lnd,h.wch.lpr,h.wch.two,h.wch.bnd,h.wch.mem⟩;refine⟨{e with few:=by show S'.prs.length<=_;rw[h.same.len];exact f,h0:=h.h0,h1:=h.h1,sl:=by show T'.lits.length<=_;omega,clr:=h.clr},h.tok,⟨h.same.keys,h.same.lits⟩,h.grow,rfl,?_⟩;rcases i with⟨rfl,j,l⟩|⟨k0,p,hp,r⟩;refine .inl ⟨rfl,λk p hp=>?_⟩;have hp:lk S'.prs k=some p:=hp;by_cases c:k∈S'.late.map (·.1);exact .inl (j k c p hp);obtain⟨b,y0,a,hx,hy⟩:=h.wch.pos hp c;have key:∀x,x≠0->(p.x=x∨p.y=x)->-x∉T'.lits:=λx b hx g=>by
  have:=h.clr (-x) (by rw[l,show(T'.lits.length:Int).toNat=T'.lits.length by omega,VX];exact g);rw[XI]at this;have hk:=(h.wch.mem x k).2 ⟨b,p,hp,hx⟩;rw[this]at hk;cases hk
 exact .inr ⟨p.x,p.y,hx,hy,a,key _ b (.inl rfl),key _ y0 (.inr rfl)⟩;exact .inr ⟨k0,p,hp,r⟩
theorem MP(h:WOk n S)(f:TOk n T):PrpOk n S T (gv S T):=by
 have i:=h.shr f;have b:jJ S T=if 0<=(ib (dm S T.lits) T).2.2 then ib (dm S T.lits) T else m9 1000001 (ib (dm S T.lits) T).1 (ib (dm S T.lits) T).2.1:=rfl;have hp:gv S T=(⟨(jJ S T).1.prs,(jJ S T).1.byl,(jJ S T).1.late,(jJ S T).1.head,(jJ S T).2.1.lits⟩,(jJ S T).2.1,(jJ S T).2.2):=rfl;rw[hp];rcases Hg h f with⟨g,e⟩|⟨g,e,r3⟩;rw[Vs (by omega)]at b;have:=e.h0;rcases He (m:=1000001) e (by omega)with⟨d,a,c⟩|⟨d,a,c⟩;rw[←b]at d a c;exact a.toJC.fin h.few (.inl ⟨d,a.held,c⟩);rw[←b]at d a c;exact a.fin h.few (.inr c);rw[Vt g]at b;rw[b];exact e.fin h.few (.inr r3)
theorem MQ(h:ao)(bw ba bt:Nat)(mp:cg)(mb:List (Int×By))(A:Ar)(L:LayW h bw ba bt mp mb A T S)(b:WOk n S)(d:TOk n T):
 aI Tryz.prog 91 [.ptr bw 0] h (λr h'=>r=.pv (ak (gv S T).2.2)∧∃mb',LayW h' bw ba bt mp mb' A (gv S T).2.1 (gv S T).1∧Ext h h' (bA bw bt mp mb) (bA bw bt mp mb')):=by
 have f:=d.few;have hn:=d.hn;have hj:=b.jl d;have c:=Hg b d;refine wX h bw ba bt mp mb A T S L (by omega) b.sl (bM (S.late.map (·.1))) rfl (λi S' T'=>JL n (dm S T.lits) T (T.lits.take (dm S T.lits).head.toNat) ((bM (S.late.map (·.1))).drop i) S' T') (by rw[YW];exact hj) ?_ ?_ ?_ ?_ ?_ (JP n (dm S T.lits) T) (TQ b.few) ?_;intro q m;obtain⟨p,hp⟩:=b.lpr q.1 (WV m);have:=(b.lits _ _ hp).1;exact EE (by omega) (by omega);have g:S.late.map (·.1)⊆S.prs.map (·.1):=λk hk=>by
  obtain⟨p,hp⟩:=b.lpr k hk;exact sU hp
 have:=(eb _ _ b.lnd g);rw[VA,VA]at this;have:=b.few;omega;intro i S' T' a hi;have a:JL n (dm S T.lits) T (T.lits.take (dm S T.lits).head.toNat) ((bM (S.late.map (·.1))).drop i) S' T':=a;rw[V3 hi]at a;have l:S'.prs.length<=1000000:=by rw[a.same.len];exact b.few
 obtain⟨p,hp⟩:=a.wch.lpr _ (a.kin _ (VN ..));have:=a.tok.few;exact⟨a.tok.okT,by omega,a.wch.hz l,p,hp,by have:=(a.wch.lits _ _ hp).2.2.1;omega⟩;intro i S' T' p a hi hp j;have a:JL n (dm S T.lits) T (T.lits.take (dm S T.lits).head.toNat) ((bM (S.late.map (·.1))).drop i) S' T':=a;rw[V3 hi]at a;exact a.step hp j;rcases c with⟨_,r⟩|⟨_,r,_⟩;have:=r.tok.few;omega;have:=r.tok.few;omega;intro hk;rcases c with⟨e,o⟩|⟨e,_⟩;exact⟨e,o⟩;exact absurd e hk
end
structure UOk (n:Nat) (cs:au):Prop where
  hn:n<=100000
  nd:∀c∈cs,c.Nodup
  len:∀c∈cs,c.length<=1000
  chk:∀c∈cs,∀y∈c,aQ y n=0
def Cons(L:af):Prop:=∀y∈L,-y∉L
section
variable {n : Nat} {cs : au} (h : UOk n cs)
include h
end
section
variable {n : Nat} {cs : au} {L0 L : af}
end
end Go.AX
namespace Go.AX
open Go.Proofs Go.Proofs.Tryz
def gh(T:Tr)(v:Int):Tr:=if(if v<0 then 0 else v)<(T.beg.length:Int)then dt T (if v<0 then(0:Int)else v).toNat else T
theorem TOk.bak{n:Nat}{T:Tr}(h:TOk n T)(v:Int):TOk n (gh T v):=by
 unfold gh;obtain⟨m,a⟩:∃m:Int,(if v<0 then(0:Int)else v)=m:=⟨_,rfl⟩;have b:0<=m:=by rw[←a];split<;>omega
 rw[a];by_cases c:m<(T.beg.length:Int);rw[Vt c];exact(h.back (by omega)).1;rw[Vs c];exact h
theorem MR(h:ao)(b:Nat)(T:Tr)(g:h[b]?=some (iI T))(v:Int)(j:¬(if v<0 then 0 else v)<(T.beg.length:Int)):
 aI prog 131 [.ptr b 0,ak v] h (λr h'=>h'=h∧r=.pv (.seq true 1 (am []))):=by
 refine fJ [] [.tmp 4] aP func131 ?_;obtain⟨d,e⟩:=Vp.1 g;have c:=oa T;have a:∀n,bE h (n+1) b 0=cD T:=λn=>dR g n;simp only[cD]at c a;obtain⟨m,i⟩:∃m:Int,(if v<0 then(0:Int)else v)=m:=⟨_,rfl⟩;rw[i]at j;have f:(T.beg.length:Int)<=m:=by omega
 simp[i];refine ay.introP (r:=.pv (BL true)) (by simpa[a]using c) ?_ (by simp[d]) (by simp);simp[e,d,iI,f,am,cr,bX]
theorem MT(h:ao)(b:Nat)(T:Tr)(F:h[b]?=some (iI T))(v:Int)(k:Nat)(K:(if v<0 then(0:Int)else v)=k)(hk:k<T.beg.length)(h0:0<=T.beg.getD k 0∧T.beg.getD k 0<=T.lits.length)(hs:T.lits.length<=1000000)(Q:∀y∈T.lits,0<=aq y∧aq y<T.marks.length):
 aI prog 131 [.ptr b 0,ak v] h (λr h'=>h'=h.set b (iI (dt T k))∧r=.pv (.seq true 1 (am (wn T (T.lits.length -(T.beg.getD k 0).toNat))))):=by
 refine ea [] [.tmp 4] (h.set b (iI (dt T k))) (by simp) (λD=>by rw[VQ];exact b9 (j9 _ _) b D) aP func131 ?_;obtain⟨a,G⟩:=Vp.1 F;have x:T.beg.getD k 0=T.beg[k]:=by rw[Vr,Vq hk];rfl
 rw[x]at h0⊢;obtain⟨m,C⟩:∃m:Nat,T.beg[k]=(m:Int):=⟨T.beg[k].toNat,by omega⟩;have M:dt T k=⟨(popN T (T.lits.length -m)).marks,(popN T (T.lits.length -m)).lits,T.beg.take k⟩:=by unfold dt;rw[x,C];rfl
 rw[M,C,WH];rw[C]at h0;clear M;have B:=oa T;have A:∀n,bE h (n+1) b 0=cD T:=λn=>dR F n;simp only[cD]at B A;simp[K];refine ay.introP (r:=.pv (BL true)) (by simpa[A]using B) ?_ (by simp[a]) (by simp);simp[G,a,iI,hk];refine ay.intro (Jh h b) ?_;rintro _ _ ⟨rfl,rfl⟩;have E:h.set b (iI T)=h:=dG F;simp;refine aM.intro (S:=λ(j:Nat)=>⟨[(0,.pv (.ptr b 0)),(1,.pv (ak k)),(5,.pv (.fn (.func 265) [] [.ptr h.length 0])),(6,.own true 1 (am (wn T j)))],h.set b (iI (popN T j))++[[.pv (.ptr b 0)]]⟩) (λj=>j<=T.lits.length -m) (λj=>T.lits.length -j) 0 ?_ (VH _) ?_;rw[popN,E];exact(av.nilOwn (s:=6) 1 true (by simp)).trans (av.keep (by simp[wn,am]) rfl);intro j hj;have u:(popN T j).lits.length=T.lits.length -j:=by rw[fj,Vy];omega
 have g:=wm T j;have w:∀y∈(popN T j).lits,0<=aq y∧aq y<(popN T j).marks.length:=λy hy=>by
  rw[fj]at hy;rw[G6];exact Q y (Wn hy)
 have t:popN T (j+1)=nc (popN T j):=rfl;have q:wn T (j+1)=wn T j++[(popN T j).lits.getD ((popN T j).lits.length -1) 0]:=rfl;have P:=wo T j;have d:=λ(h:ao) (n b:Nat) h1 N O=>Fg h n b (popN T j) h1 N O (by omega) w;have l:∀(Y z:bj) D,(h.set b Y++[z])[b]'D=Y:=λY z D=>by rw[V6 (by simpa using a)];simp
 have o:∀(Y z:bj),(h.set b Y++[z])[b]?=some Y:=λY z=>by rw[Vv (by simpa using a)];simp[a]
 have p:∀(Y z W:bj),(h.set b Y++[z]).set b W=h.set b W++[z]:=λY z W=>by rw[zD (by simpa using a),YD]
 have f:b<h.length+1:=by omega
 by_cases c:m<T.lits.length -j;have L:(popN T j).lits≠[]:=λe=>by rw[e]at u;simp at u;omega
 have i:(m:Int)<((popN T j).lits.length:Int):=by omega
 have d:=d (h.set b (iI (popN T j))++[[.pv (.ptr b 0)]]) h.length b (by rw[VM (by simp)];simp) (o _ _) L;rw[p]at d;generalize popN T j=X at*;simp only[iI,g]at d;simp[l,f,iI,g,hk,C,i];refine ay.intro d ?_;rintro _ _ ⟨rfl,rfl⟩;simp;refine⟨by omega,j+1,by(try dsimp only);omega,by(try dsimp only);omega,av.keep (by simp[q,am]) (by simp[t])⟩;have i:¬(m:Int)<((popN T j).lits.length:Int):=by omega
 have I:j=T.lits.length -m:=by omega
 subst I;have H:(am T.beg).take k=am (T.beg.take k):=by unfold am;rw[Xn]
 have J:k<=T.beg.length:=by omega
 clear d w t q;generalize popN T (T.lits.length -m)=X at*;simp[l,p,f,iI,g,hk,C,i,H,J]
end Go.AX
namespace Go.AX
open Go.Proofs Go.Proofs.Tryz
def gj(b:Bool):Int:=if b=true then 1 else 0
def d7(A:Ar)(id:Int)(lits:af)(b:Bool):Ar:=if lp id lits=0 then⟨A.row++([id,(lits.length:Int),gj b]++lits),pt A.hd A.row.length id⟩else A
theorem MU(h:ao)(b:Nat)(A:Ar)(g:h[b]?=some (kJ A))(id:Int)(lits:af)(ln:Bool)(k:lits.length<=1000000)(l:A.row.length<=1000000000):
 aI prog 127 [.ptr b 0,ak id,.seq false 1 (am lits),BL ln] h (λr h'=>h'=h.set b (kJ (d7 A id lits ln))∧r=.pv (.tup [ak (if lp id lits=0 then A.row.length else 0),ak (lp id lits)])):=by
 refine ea [] [.tmp 8,.tmp 9] (h.set b (kJ (d7 A id lits ln))) (by simp) (λi=>by rw[VQ];exact b9 (vd _ _) b i) aP func127 ?_;obtain⟨f,e⟩:=Vp.1 g;have d:lp id lits=if id<1∨10000000<id then 2 else iM lits 100000:=rfl;have c:d7 A id lits ln=if lp id lits=0 then⟨A.row++([id,(lits.length:Int),gj ln]++lits),pt A.hd A.row.length id⟩else A:=rfl;have a:h.set b (kJ A)=h:=dG g;generalize d7 A id lits ln=j at c⊢;generalize lp id lits=E at d c⊢;simp;refine ay.intro (rv h b A g) ?_;rintro _ _ ⟨rfl,rfl⟩;by_cases c1:id<1;rw[Vt (.inl c1)]at d;subst d;rw[Vs (by omega)]at c;subst c;simp[c1,a];by_cases c2:10000000<id;rw[Vt (.inr c2)]at d;subst d;rw[Vs (by omega)]at c;subst c;simp[c1,c2,a];rw[Vs (by omega)]at d;simp[c1,c2];refine ap.intro (qm lits 100000 (by omega)) ?_;rw[←d];by_cases c3:E=0;rotate_left;rw[Vs c3]at c;subst c;simp[c3,a];rw[Vt c3]at c;subst c;cases ln;simp[c3,e,f,kJ,gj];refine⟨by omega,by omega,?_⟩;rw[VT (by simp)];simp[am];simp[c3,e,f,kJ,gj];refine⟨by omega,by omega,?_⟩;rw[VT (by simp)];simp[am]
def Ct(A:Ar)(k:Int):Int:=if(lk A.hd k).getD 0=0 then 20 else 0
theorem Pm(h:ao)(b:Nat)(A:Ar)(e:h[b]?=some (kJ A))(k:Int):aI prog 196 [.ptr b 0,ak k] h (λr h'=>h'=h∧r=.pv (ak (Ct A k))):=by
 refine ij [] [.tmp 4] aP func196 ?_;obtain⟨d,a⟩:=Vp.1 e;simp;refine ay.intro (rv h b A e) ?_;rintro _ _ ⟨rfl,rfl⟩;unfold Ct;by_cases c:(lk A.hd k).getD 0=0;simp[a,d,kJ,c];simp[a,d,kJ,c]
def tV(A:Ar)(k:Int):Ar:=if Ct A k=0 then⟨A.row.set (k.toNat+2) 2,dl A.hd k⟩else A
theorem MV(h:ao)(b:Nat)(A:Ar)(d:h[b]?=some (kJ A))(k:Int)(hk:Ct A k=0->0<=k∧k+2<A.row.length)(l:A.row.length<=1000000000):
 aI prog 117 [.ptr b 0,ak k] h (λr h'=>h'=h.set b (kJ (tV A k))∧r=.pv (ak (Ct A k))):=by
 refine ea [] [.tmp 4] (h.set b (kJ (tV A k))) (by simp) (λg=>by rw[VQ];exact b9 (vd _ _) b g) aP func117 ?_;obtain⟨f,e⟩:=Vp.1 d;have a:h.set b (kJ A)=h:=dG d;unfold tV;simp;refine ay.intro (Pm h b A d k) ?_;rintro _ _ ⟨rfl,rfl⟩;by_cases c:Ct A k=0;obtain⟨k0,m⟩:=hk c;obtain⟨p,rfl⟩:∃p:Nat,k=p:=⟨k.toNat,by omega⟩;have j:bG ((p:Int)+2)=((p+2:Nat):Int):=by rw[aC (by omega) (by omega)];omega
 have hp:p+2<A.row.length:=by omega
 have i:((p:Int)+2).toNat=p+2:=by omega
 have g2:A.row[p+2]?=some A.row[p+2]:=Vq hp;simp[c,e,f,kJ,j,hp,i,g2,am];refine⟨by omega,?_⟩;rw[VT (by simp)];simp[c,a]
def qJ(A:Ar)(k:Int):Bool:=isA A k&&decide (A.row.getD (k.toNat+2) 0=1)
theorem Fh(h:ao)(b:Nat)(A:Ar)(e:h[b]?=some (kJ A))(k:Int)(hk:isA A k=true->0<=k∧k+2<A.row.length)(i:A.row.length<=1000000000):
 aI prog 193 [.ptr b 0,ak k] h (λr h'=>h'=h∧r=.pv (BL (qJ A k))):=by
 refine ij [] [.tmp 4] aP func193 ?_;obtain⟨d,a⟩:=Vp.1 e;unfold qJ;simp;refine ay.intro (Ec h b A e k) ?_;rintro _ _ ⟨rfl,rfl⟩;cases c:isA A k;simp[c];obtain⟨k0,j⟩:=hk c;obtain⟨p,rfl⟩:∃p:Nat,k=p:=⟨k.toNat,by omega⟩;have g:bG ((p:Int)+2)=((p+2:Nat):Int):=by rw[aC (by omega) (by omega)];omega
 have hp:p+2<A.row.length:=by omega
 have f:((p:Int)+2).toNat=p+2:=by omega
 have g2:A.row[p+2]?=some A.row[p+2]:=Vq hp;simp[c,a,d,kJ,g,hp,f,g2];omega
def MW(v:Int)(b:Bool):Int:=if v<1∨dF v=false then 0 else if b=true then v else-v
def TR(v:Int):Int:=if v<1∨dF v=false then 10 else 0
theorem MX(v:Int)(b:Bool):aw prog 102 [ak v,BL b] (λr=>r=.pv (.tup [ak (MW v b),ak (TR v)])):=by
 refine iF [] [.tmp 4,.tmp 5] aP func102 ?_;have c:=rl v;unfold MW TR;by_cases c1:v<1;simp[c1];refine bz.intro (r:=.pv (BL true)) (λh=>h.elim) ?_;simp[c1];simp[c1];refine bz.intro (λ_=>c) ?_;cases c2:dF v;simp[c1,c2];obtain⟨h1,d,e⟩:=(bO v).1 c2;have a:bG (-v)=-v:=aC (by omega) (by omega);cases b<;>simp[c1,c2,a]
end Go.AX
namespace Go.AX.V
open Go.Proofs
theorem litO{y:Int}(h:dF y=true):y≠0∧-100000<=y∧y<=100000∧0<=bH y∧bG (-y)=-y:=by
 obtain⟨a,b,c⟩:=(bO y).1 h;exact⟨a,b,c,by rw[il];exact h,aC (by omega) (by omega)⟩
theorem rY{l:Int}(h:dF l=true):1<=aq l∧aq l<=100000∧l≠0∧-100000<=l∧l<=100000∧aq l=gr l:=by
 obtain⟨a,b,c⟩:=(bO l).1 h;have e:aq l=gr l:=by unfold aq;rw[Vt h]
 refine⟨?_,?_,a,b,c,e⟩<;>rw[e]<;>unfold gr<;>split<;>omega
theorem wA{l:Int}(h:dF l=true):dF (-l)=true:=by
 obtain⟨a,b,c⟩:=(bO l).1 h;exact(bO _).2 ⟨by omega,by omega,by omega⟩
theorem TT{y:Int}(h:dF y=true):dF y=true:=h
theorem okL_chk{l v:Int}(d:0<=v∧v<=100000)(h:aQ l v=0):dF l=true:=by
 obtain⟨a,b,c⟩:=(d5 d).1 h;exact(bO _).2 ⟨a,by omega,by omega⟩
structure RelT (T:Tr) (t:RT):Prop where
  vars:0<=t.vars∧t.vars<=100000
  len:(T.marks.length:Int)=t.vars+1
  lits:T.lits=t.rows.map (·.l)
  dep:t.dep=(T.beg.length:Int)
  chk:∀x∈t.rows,aQ x.l t.vars=0
  ok:∀x∈t.rows,dF x.l=true∧0<=x.lev∧x.lev<=t.dep
  free:∀v:Int,sD t v<0->(cv T v).v=0
  mark:∀(v:Int)(i:Nat)(hi:i<t.rows.length),sD t v=(i:Int)->cv T v=⟨if t.rows[i].l<0 then-1 else 1,t.rows[i].lev,t.rows[i].rea,i⟩
theorem RelT.okT{T:Tr}{t:RT}(h:RelT T t):T.ok:=by
 have:=h.vars;have:=h.len;exact⟨by omega,by omega⟩
def RelD(T:Tr)(t:RT):Prop:=RelT T t∧T.beg.length<=t.rows.length
theorem Ao{T:Tr}{t:RT}(h:RelT T t)(v:Int):(em T v).1.lev=(Tx t v).1∧(em T v).1.rea=(Tx t v).2∧(em T v).1.pla=sD t v:=by
 unfold em Tx;have g:=h.len;have j:=h.vars;by_cases c:sD t v<0;rw[Vt c,Vt];refine⟨rfl,rfl,?_⟩;have:sD t v=-1:=by
  unfold sD gD at*;split at c;omega;rfl
 rw[this];exact .inr (.inr (h.free v c));obtain⟨i,hi,d,f⟩:=mO (t:=t) (v:=v) (by omega);obtain⟨a,_⟩:=rY (h.ok _ (Vx hi)).1;have b:=(rm h.vars (h.chk _ (Vx hi))).2.1;have e:=h.mark v i hi d;rw[Vs c,Vs,e,d];simp[hi];rw[e];simp only;have:(if t.rows[i].l<0 then(-1:Int)else 1)≠0:=by split<;>omega
 simp[this];omega
theorem Nf{D:DK}(h:RelT D.T D.t){l:Int}{i:Nat}(hi:i<D.t.rows.length)(e:D.t.rows[i].l=l∨D.t.rows[i].l=-l):aQ l D.t.vars=0:=by
 have a:=(d5 h.vars).1 (h.chk _ (Vx hi));exact(d5 h.vars).2 (by rcases e with e|e<;>omega)
theorem un{D:DK}(h:RelT D.T D.t){l:Int}(k:dF l=true){i:Nat}(hi:i<D.t.rows.length)(hp:sD D.t (aq l)=i):(D.t.rows[i].l=-l∧df D.T l=-1)∨(D.t.rows[i].l=l∧df D.T l=1):=by
 have c:((D.T.marks.length:Nat):Int) -1=D.t.vars:=by rw[h.len];omega
 have f:=h.mark _ i hi hp;obtain⟨j,hj,q,a⟩:=mO (t:=D.t) (v:=aq l) (by omega);have d:j=i:=by omega
 subst d;obtain⟨_,_,r,_,_,m⟩:=rY (h.ok _ (Vx hi)).1;obtain⟨_,_,l0,_,_,n⟩:=rY k;rw[m,n]at a;have hs:D.t.rows[j].l=l∨D.t.rows[j].l=-l:=by unfold gr at a;split at a<;>split at a<;>omega
 unfold df;rw[c,f,Vs (λe=>e (Nf h hi hs))];unfold gr at a;dsimp only;have o:bG (-1)=-1:=by decide
 have p:bG (- -1)=1:=by decide
 by_cases g:l<0;rw[Vt g]at a⊢;by_cases b:D.t.rows[j].l<0;rw[Vt b]at a⊢;rw[p];exact .inr ⟨by omega,rfl⟩;rw[Vs b]at a⊢;rw[o];exact .inl ⟨by omega,rfl⟩;rw[Vs g]at a⊢;by_cases b:D.t.rows[j].l<0;rw[Vt b]at a⊢;exact .inl ⟨by omega,rfl⟩;rw[Vs b]at a⊢;exact .inr ⟨by omega,rfl⟩
theorem yD{D:DK}(h:RelT D.T D.t){l:Int}(a:df D.T l≠0):dF l=true∧∃i,∃hi:i<D.t.rows.length,sD D.t (aq l)=i:=by
 have b:((D.T.marks.length:Nat):Int) -1=D.t.vars:=by rw[h.len];omega
 unfold df at a;rw[b]at a;by_cases c:aQ l D.t.vars=0;refine⟨okL_chk h.vars c,?_⟩;rw[Vs (λe=>e c)]at a;by_cases d:0<=sD D.t (aq l);obtain⟨i,hi,e,_⟩:=mO d;exact⟨i,hi,e⟩;rw[h.free _ (by omega)]at a;have f:bG (-0)=0:=by decide
 split at a;exact absurd f a;exact absurd rfl a;rw[Vt c]at a;exact absurd rfl a
def DkR(D:DK):Prop:=∀i (hi:i<D.t.rows.length),D.t.rows[i].rea<0∨(isA D.A D.t.rows[i].rea=true∧D.t.rows[i].l∈aJ D.A D.t.rows[i].rea∧∀y∈aJ D.A D.t.rows[i].rea,dF y=true∧(y≠D.t.rows[i].l->bG (-y)∈(D.t.rows.take i).map (·.l)))
structure DeskOk (D:DK):Prop where
  rel:RelD D.T D.t
  relA:RelA D.A D.a
  rea:DkR D
  len:D.A.row.length<=1000000
theorem Ng{D:DK}(h:RelT D.T D.t){v:Int}(a:0<=(em D.T v).1.rea):∃i,∃hi:i<D.t.rows.length,sD D.t v=i∧aq D.t.rows[i].l=v∧(em D.T v).1.rea=D.t.rows[i].rea∧(em D.T v).1.pla=i:=by
 obtain⟨_,d,e⟩:=Ao h v;rw[d]at a⊢;unfold Tx at a⊢;by_cases c:sD D.t v<0;rw[Vt c]at a;dsimp only at a;omega;obtain⟨i,hi,b,f⟩:=mO (t:=D.t) (v:=v) (by omega);refine⟨i,hi,b,f,?_,by rw[e,b]⟩;rw[Vs c,b,WH,Vr,Vq hi];rfl
theorem DeskOk.sh{D:DK}(h:DeskOk D){c:af}(d:c.length<=1000000):ShOk D.A D.T c where
 tr:=h.rel.1.okT
 ar:=λq f=>by
  obtain⟨x,hx,e⟩:=h.relA.is q f;obtain⟨p,a,b,_⟩:=h.relA.rows x hx;exact⟨p,_,by rw[←e,a],b⟩
 len:=h.len
 few:=d
 hd:=λv g=>by
  obtain⟨i,hi,_,_,e,_⟩:=Ng h.rel.1 g;rcases h.rea i hi with h1|⟨h1,_⟩;omega;exact Ek h1
theorem Q3{D:DK}(h:DeskOk D){l:Int}(a:rD D.A D.T l=true):∃i,∃hi:i<D.t.rows.length,du D.T l=i∧D.t.rows[i].l=bG (-l)∧dF l=true∧(em D.T (aq l)).1.rea=D.t.rows[i].rea∧0<=D.t.rows[i].rea:=by
 unfold rD at a;simp only[Wp,YG,WX]at a;obtain⟨⟨b1,b2⟩,_⟩:=a;obtain⟨i,hi,c,g,d,f⟩:=Ng h.rel.1 (v:=aq l) (by omega);obtain⟨b,_⟩:=yD h.rel.1 (l:=l) (by omega);refine⟨i,hi,f,?_,b,d,by omega⟩;rw[(litO b).2.2.2.2];rcases un h.rel.1 b hi c with⟨e,_⟩|⟨_,e⟩;exact e;omega
theorem val3_m1_of{l:af}{y:Int}(hy:dF y=true)(h:-y∈l)(a:y∉l):ca l y=-1:=by
 obtain⟨_,_,_,hx,b⟩:=litO hy;unfold ca;rw[Vs (by omega),Vs a,Vt (by rw[b];exact h)]
structure TraF (cs:au) (ats:af) (t:RT):Prop where
  dep:0<=t.dep
  chk:∀x∈t.rows,dF x.l=true
  nd:(t.rows.map λx=>aq x.l).Nodup
  lev:∀x∈t.rows,0<=x.lev∧x.lev<=t.dep
  mono:∀i j (hi:i<t.rows.length)(hj:j<t.rows.length),i<j->t.rows[i].lev<=t.rows[j].lev
  dec:∀i (hi:i<t.rows.length),t.rows[i].rea<0->0<t.rows[i].lev∧∀j (hj:j<t.rows.length),j<i->t.rows[j].lev<t.rows[i].lev
  top:0<t.dep->Calm cs (bel t t.dep)
  fst:∀k:Int,0<k->k<=t.dep->∃x∈t.rows,x.lev=k∧x.rea<0
  imp:∀i (hi:i<t.rows.length),0<=t.rows[i].rea->∃k,∃hk:k<cs.length,t.rows[i].rea=ats.getD k 0∧t.rows[i].l∈cs[k]∧(∀y∈cs[k],y≠t.rows[i].l->∃j,∃hj:j<t.rows.length,j<i∧t.rows[j].l=-y)∧
    (0<t.rows[i].lev->∃y∈cs[k],y≠t.rows[i].l∧∃j,∃hj:j<t.rows.length,j<i∧t.rows[j].l=-y∧t.rows[j].lev=t.rows[i].lev)
theorem TraF.inj{cs:au}{ats:af}{t:RT}(h:TraF cs ats t){i j:Nat}(hi:i<t.rows.length)(hj:j<t.rows.length)(e:aq t.rows[i].l=aq t.rows[j].l):i=j:=by
 have hn:=V5.1 (Xe.1 h.nd);rcases Xd i j with c|c|c;exact absurd e (hn i j hi hj c);exact c;exact absurd e.symm (hn j i hj hi c)
theorem TraF.one{cs:au}{ats:af}{t:RT}(h:TraF cs ats t){y:Int}(hy:dF y=true):¬(y∈eK t∧-y∈eK t):=by
 rintro⟨h1,d⟩;unfold eK at h1 d;obtain⟨a,g,e⟩:=VB.1 h1;obtain⟨b,k,f⟩:=VB.1 d;obtain⟨i,hi,rfl⟩:=VE g;obtain⟨j,hj,rfl⟩:=VE k;have m:aq t.rows[i].l=aq t.rows[j].l:=by rw[e,f,eC]
 have c:i=j:=h.inj hi hj m;subst c;obtain⟨n0,_⟩:=litO hy;omega
structure ClsN (cs:au) (ats:af):Prop where
  len:∀c∈cs,c.length<=1000
  chk:∀c∈cs,∀y∈c,dF y=true
  pos:∀k,k<cs.length->0<=ats.getD k 0
  nd:∀c∈cs,c.Nodup
theorem Nh{cs:au}{ats:af}(o:ClsN cs ats){t:RT}(h:TraF cs ats t){c:af}(m:c∈cs)(k:ve (eK t) c=-1)(hd:0<t.dep):∃y∈c,∃x∈t.rows,x.l=-y∧x.lev=t.dep:=by
 apply V0;intro j;have b:=(h.top hd _ m).2;apply b;rw[oi]at k⊢;intro y hy hx;have d:=o.chk _ m y hy;have:=zU (k y hy hx);rw[(litO d).2.2.2.2]at this;unfold eK at this;obtain⟨a,g,e⟩:=VB.1 this;have p:=(h.lev _ g).2;have i:a.lev<t.dep:=by
  rcases Zo a.lev t.dep with c|c;exact c;exact absurd ⟨y,hy,a,g,e,by omega⟩ j
 have f:-y∈bel t t.dep:=by
  unfold bel;rw[VB];exact⟨a,V9.2 ⟨g,by simpa using i⟩,e⟩
 exact val3_m1_of d f (λn=>h.one d ⟨lr _ n,lr _ f⟩)
structure DeskT (cs:au) (ats:af) (D:DK):Prop where
  ok:DeskOk D
  cls:ClsN cs ats
  facts:TraF cs ats D.t
  ars:∀k (hk:k<cs.length),isA D.A (ats.getD k 0)=true∧aJ D.A (ats.getD k 0)=cs[k]
theorem TraF.pla{cs:au}{ats:af}{t:RT}(h:TraF cs ats t){j:Nat}(hj:j<t.rows.length):sD t (aq t.rows[j].l)=j:=by
 have h1:=zV (p:=λx:En=>decide (aq x.l=aq t.rows[j].l)) hj (by simp);obtain⟨i,hi,a,b⟩:=mO (t:=t) (v:=aq t.rows[j].l) h1.1;have:=h.inj hi hj b;subst this;exact a
theorem pW{cs:au}{ats:af}{T:Tr}{t:RT}(d:RelT T t)(h:TraF cs ats t){j:Nat}(hj:j<t.rows.length):(em T (aq t.rows[j].l)).1.lev=t.rows[j].lev∧(em T (aq t.rows[j].l)).1.rea=t.rows[j].rea∧(em T (aq t.rows[j].l)).1.pla=j:=by
 obtain⟨a,b,c⟩:=Ao d (aq t.rows[j].l);have hp:=h.pla hj;rw[a,b,c];unfold Tx;rw[hp,Vs (by omega),WH,Vr,Vq hj];exact⟨rfl,rfl,rfl⟩
theorem qK{cs:au}{ats:af}{T:Tr}{t:RT}(a:RelT T t)(h:TraF cs ats t){j:Nat}(hj:j<t.rows.length){y:Int}(hy:t.rows[j].l=-y):eU T y=t.rows[j].lev:=by
 unfold eU;rw[sG hj hy];exact(pW a h hj).1
theorem Pv{cs:au}{ats:af}{T:Tr}{t:RT}(r:RelT T t)(k:TraF cs ats t){p:PS}{n:Nat}(h:LI t p n){y:Int}{j:Nat}(hj:j<t.rows.length)(hy:t.rows[j].l=-y)
 (hn:t.rows[j].lev=t.dep->j<n∨t.rows[j].rea<0) (but:Int):
 LI t (takeF T but p y) n∧(aq y=but∨t.rows[j].lev<=0∨aR (takeF T but p y).seen (aq y)=true)∧(∀v,aR p.seen v=true->aR (takeF T but p y).seen v=true)∧p.many<=(takeF T but p y).many:=by
 have u:=qK r k hj hy;have d:=sG hj hy;have hd:=r.dep;unfold takeF;by_cases c:aq y=but∨aR p.seen (aq y)=true∨eU T y<=0;rw[Vt c];refine⟨h,?_,λv d=>d,Vu _⟩;rcases c with c|c|c;exact .inl c;exact .inr (.inr c);exact .inr (.inl (by omega));rw[Vs c];have q:aR p.seen (aq y)=false:=by
  cases e:aR p.seen (aq y);rfl;exact absurd (.inr (.inl e)) c
 have f:0<t.rows[j].lev:=by
  rcases Zo 0 t.rows[j].lev with e|e;exact e;exact absurd (.inr (.inr (by omega))) c
 have s:=(k.lev _ (Vx hj)).2;by_cases c2:eU T y=T.beg.length;rw[Vt c2];have hs:∀w,aR (pt p.seen (aq y) 1) w=if aq y=w then true else aR p.seen w:=λw=>by rw[o7];simp
 refine⟨⟨?_,h.li,?_,?_⟩,.inr (.inr (by rw[hs,Vt rfl])),λv d=>by rw[hs];split<;>simp[d],Xt _⟩;intro v b;rw[hs]at b;split at b;rename_i e;exact⟨j,hj,by rw[←d,e],f,hn⟩;exact h.sn v b;intro i hi a g;rw[hs]at a;split at a;rename_i e;have:=k.inj hj hi (d.symm.trans e);subst this;omega;exact h.ls i hi a g;dsimp only;rw[h.mn];symm;apply qt hj;rw[←d,q];rfl;rw[←d,hs,Vt rfl];simp;omega;intro i hi o;rw[hs,Vs];intro e;exact o (k.inj hi hj (e.symm.trans d));rw[Vs c2];have hs:∀w,aR (pt p.seen (aq y) 1) w=if aq y=w then true else aR p.seen w:=λw=>by rw[o7];simp
 refine⟨⟨?_,?_,?_,?_⟩,.inr (.inr (by rw[hs,Vt rfl])),λv d=>by rw[hs];split<;>simp[d],Vu _⟩;intro v b;rw[hs]at b;split at b;rename_i e;exact⟨j,hj,by rw[←d,e],f,hn⟩;exact h.sn v b;intro l m;rcases VF.1 m with m|m;exact h.li l m;simp at m;subst m;exact⟨j,hj,hy,f,by omega⟩;intro i hi a g;rw[hs]at a;split at a;rename_i e;have:=k.inj hj hi (d.symm.trans e);subst this;rw[hy];simp;exact WG _ (h.ls i hi a g);dsimp only;rw[h.mn];apply List.countP_congr;intro x hx;rw[hs];split;rename_i e;obtain⟨i,hi,rfl⟩:=VE hx;have:=k.inj hj hi (d.symm.trans e);subst this;have:¬t.rows[j].lev=t.dep:=by omega
 simp[this];rfl
theorem wB{cs:au}{ats:af}{T:Tr}{t:RT}(f:RelT T t)(d:TraF cs ats t){n:Nat}(but:Int):∀(c:af)(p:PS),LI t p n->
 (∀y∈c,aq y=but∨∃j,∃hj:j<t.rows.length,t.rows[j].l=-y∧(t.rows[j].lev=t.dep->j<n∨t.rows[j].rea<0))->
 LI t (ej T but c p) n∧(∀y∈c,aq y=but∨eU T y<=0∨aR (ej T but c p).seen (aq y)=true)∧(∀v,aR p.seen v=true->aR (ej T but c p).seen v=true)∧p.many<=(ej T but c p).many
 |[],p,h,_=>⟨h,by simp,λ_ b=>b,Vu _⟩
 |y::c,p,h,g=>by
  have key:LI t (takeF T but p y) n∧(aq y=but∨eU T y<=0∨aR (takeF T but p y).seen (aq y)=true)∧(∀v,aR p.seen v=true->aR (takeF T but p y).seen v=true)∧p.many<=(takeF T but p y).many:=by
   rcases g y (VN ..)with e|⟨j,hj,hy,hn⟩;have:takeF T but p y=p:=by unfold takeF;rw[Vt (.inl e)]
   rw[this];exact⟨h,.inl e,λ_ b=>b,Vu _⟩;have:=Pv f d h hj hy hn but;rw[←qK f d hj hy]at this;exact this
  obtain⟨m,a,o,q⟩:=key;obtain⟨i,g2,g3,k⟩:=wB f d but c (takeF T but p y) m (λz hz=>g z (VG _ hz));have e:ej T but (y::c) p=ej T but c (takeF T but p y):=rfl;rw[e];refine⟨i,?_,λv b=>g3 v (o v b),Wb q k⟩;intro z hz;rcases VU.1 hz with rfl|hz;rcases a with a|a|a;exact .inl a;exact .inr (.inl a);exact .inr (.inr (g3 _ a));exact g2 z hz
theorem Pw{cs:au}{ats:af}{t:RT}(q:TraF cs ats t){p:PS}{n:Nat}(h:LI t p (n+1))(hn:n<t.rows.length)(hs:aR p.seen (aq t.rows[n].l)=true)(hd:t.rows[n].lev=t.dep):
 LI t ⟨pt p.seen (aq t.rows[n].l) 0,p.lits,p.many -1⟩ n:=by
 have a:∀w,aR (pt p.seen (aq t.rows[n].l) 0) w=if aq t.rows[n].l=w then false else aR p.seen w:=λw=>by rw[o7];simp
 refine⟨?_,h.li,?_,?_⟩;intro v d;rw[a]at d;split at d;cases d;rename_i e;obtain⟨j,hj,g,k,m⟩:=h.sn v d;refine⟨j,hj,g,k,λhd=>(m hd).imp (λc=>?_) id⟩;have:j≠n:=λo=>by subst o;exact e g
 omega; intro j hj b c; rw [a] at b; split at b; cases b; exact h.ls j hj b c; dsimp only; rw [h.mn]; have := qt (l := t.rows) (P := λ x => aR (pt p.seen (aq t.rows[n].l) 0) (aq x.l) && decide (x.lev = t.dep)) (Q := λ x => aR p.seen (aq x.l) && decide (x.lev = t.dep)) hn (by
  rw[a,Vt rfl];rfl) (by rw[hs];simp[hd]) (λi hi f=>by
  rw[a,Vs];intro e;exact f (q.inj hi hn e.symm))
 rw[this];omega
theorem dX{cs:au}{ats:af}{D:DK}(h:DeskT cs ats D){n:Nat}(hn:n<D.t.rows.length)(i:0<=D.t.rows[n].rea):isA D.A D.t.rows[n].rea=true∧D.t.rows[n].l∈aJ D.A D.t.rows[n].rea∧
 ∀y∈aJ D.A D.t.rows[n].rea,dF y=true∧(y≠D.t.rows[n].l->∃j,∃hj:j<D.t.rows.length,j<n∧D.t.rows[j].l=-y):=by
 rcases h.ok.rea n hn with h1|⟨h1,d,f⟩;omega;refine⟨h1,d,λy hy=>?_⟩;obtain⟨c,g⟩:=f y hy;refine⟨c,λb=>?_⟩;have:=g b;rw[(litO c).2.2.2.2,VB]at this;obtain⟨x,hx,e⟩:=this;obtain⟨j,hj,rfl⟩:=VE hx;have a:j<n∧j<D.t.rows.length:=by simp at hj;omega
 refine⟨j,a.2,a.1,?_⟩;rw[←e];simp
theorem Ni{cs:au}{ats:af}{D:DK}(h:DeskT cs ats D){p:PS}{n:Nat}(hi:LI D.t p (n+1))(hn:n<D.t.rows.length)(hp:pP D.T p D.t.rows[n].l=true):
 LI D.t (qs D.A D.T p D.t.rows[n].l) n∧p.many -1<=(qs D.A D.T p D.t.rows[n].l).many∧
  (∀j (hj:j<D.t.rows.length),j≠n->aR p.seen (aq D.t.rows[j].l)=true->aR (qs D.A D.T p D.t.rows[n].l).seen (aq D.t.rows[j].l)=true)∧
  (∀y∈aJ D.A D.t.rows[n].rea,y≠D.t.rows[n].l->eU D.T y<=0∨aR (qs D.A D.T p D.t.rows[n].l).seen (aq y)=true):=by
 have b:=h.facts;have g:=h.ok.rel.1;unfold pP eU at hp;obtain⟨q,k,u⟩:=pW g b hn;rw[q,k]at hp;simp only[VC,VI]at hp;obtain⟨r,v,s⟩:=hp;have hd:=g.dep;have h1:=Pw b hi hn r (by omega);obtain⟨w,x,r3⟩:=dX h hn s;have d:qs D.A D.T p D.t.rows[n].l=ej D.T (aq D.t.rows[n].l) (aJ D.A D.t.rows[n].rea) ⟨pt p.seen (aq D.t.rows[n].l) 0,p.lits,p.many -1⟩:=by
  unfold qs;rw[k]
 obtain ⟨m, g2, g3, o⟩ := wB g b (aq D.t.rows[n].l) (aJ D.A D.t.rows[n].rea) _ h1 (λ y hy => by
  by_cases e:y=D.t.rows[n].l;exact .inl (by rw[e]);obtain⟨j,hj,c,f⟩:=(r3 y hy).2 e;exact .inr ⟨j,hj,f,λ_=>.inl c⟩)
 rw[d];refine⟨m,o,λj hj a i=>?_,λy hy a=>?_⟩;apply g3;rw[o7,Vs];exact i;intro e;exact a (b.inj hj hn e.symm);rcases g2 y hy with e|e|e;exfalso;obtain⟨j,hj,c,f⟩:=(r3 y hy).2 a;rw[sG hj f]at e;have:=b.inj hj hn e;omega;exact .inl e;exact .inr e
theorem Hn{t:RT}{T:Tr}{cs:au}{ats:af}(b:RelT T t)(i:TraF cs ats t){p:PS}{n:Nat}(h:LI t p (n+1))(hn:n<t.rows.length)(hp:¬pP T p t.rows[n].l=true):LI t p n:=by
 refine⟨λv d=>?_,h.li,h.ls,h.mn⟩;obtain⟨j,hj,a,f,g⟩:=h.sn v d;refine⟨j,hj,a,f,λhd=>?_⟩;rcases g hd with e|e;by_cases c:j=n;subst c;right;apply V0;intro o;apply hp;unfold pP eU;obtain⟨k,m,q⟩:=pW b i hj;rw[k,m,a,d];have:=b.dep;simp only[VC,VI,aav];omega;left;omega;exact .inr e
theorem Px{t:RT}{cs:au}{ats:af}(d:TraF cs ats t){p:PS}(h:LI t p 0):p.many<=1:=by
 apply V0;intro m;have k:2<=t.rows.countP (λx=>aR p.seen (aq x.l)&&decide (x.lev=t.dep)):=by rw[←h.mn];omega
 obtain⟨i,j,hi,hj,a,o,c⟩:=vv k;simp only[VC,VI]at o c;obtain⟨n,b,f,q,g⟩:=h.sn _ c.1;have:=d.inj b hj f;subst this;rcases g c.2 with e|e;omega;have:=(d.dec n hj e).2 i hi a;omega
theorem Fp{T:Tr}{t:RT}(a:RelT T t){n:Nat}(hn:n<t.rows.length):T.lits.getD n 0=t.rows[n].l:=by
 rw[a.lits,Vr,VO,Vq hn];rfl
theorem Ap{cs:au}{ats:af}{D:DK}(h:DeskT cs ats D):∀(n:Nat)(p:PS),n<=D.t.rows.length->LI D.t p n->
 (∃m,LI D.t (dA D.A D.T D.T.lits n p) m)∧(dA D.A D.T D.T.lits n p).many<=1∧(1<=p.many->1<=(dA D.A D.T D.T.lits n p).many)
 |0,p,_,hi=>⟨⟨0,hi⟩,Px h.facts hi,λe=>e⟩
 |n+1,p,hn,hi=>by
  rw[dA];split;exact⟨⟨_,hi⟩,by assumption,λe=>e⟩;rename_i c;have a:n<D.t.rows.length:=by omega
  rw[Fp h.ok.rel.1 a];split;rename_i hp;obtain⟨b,g2,_⟩:=Ni h hi a hp;obtain⟨d,f,g⟩:=Ap h n _ (by omega) b;exact⟨d,f,λ_=>g (by omega)⟩;rename_i hp;exact Ap h n p (by omega) (Hn h.ok.rel.1 h.facts hi a hp)
theorem Nj{cs:au}{ats:af}{D:DK}(h:DeskT cs ats D){j:Nat}(hj:j<D.t.rows.length):df D.T (-D.t.rows[j].l)=-1∧df D.T D.t.rows[j].l=1:=by
 have b:=h.facts;have a:=b.chk _ (Vx hj);have hp:=b.pla hj;obtain⟨n0,c,d,_⟩:=litO a;constructor;rcases un h.ok.rel.1 (wA a) hj (by rw[eC];exact hp)with⟨_,e⟩|⟨e,_⟩;exact e;omega;rcases un h.ok.rel.1 a hj hp with⟨e,_⟩|⟨_,e⟩;omega;exact e
theorem Fq{cs:au}{ats:af}{D:DK}(h:DeskT cs ats D){R:af}{j:Nat}(hj:j<D.t.rows.length)(c:0<=D.t.rows[j].rea)(hy:∀y∈aJ D.A D.t.rows[j].rea,y≠D.t.rows[j].l->HOk D.A D.T R y):HOk D.A D.T R (-D.t.rows[j].l):=by
 obtain⟨f,b,g⟩:=pW h.ok.rel.1 h.facts hj;obtain⟨e,i,r3⟩:=dX h hj c;refine .why (by rw[(Nj h hj).1];omega) ?_ ?_ ?_;rw[eC,b];exact c;rw[eC,b];exact e;rw[eC,b];intro y d a;exact hy y d (by rw[XI]at a;exact a)
theorem Aq{cs:au}{ats:af}{D:DK}(h:DeskT cs ats D)(R:af):∀(n j:Nat)(hj:j<D.t.rows.length),j<n->D.t.rows[j].lev<=0->HOk D.A D.T R (-D.t.rows[j].l)
 |0,_,_,hn,_=>by omega
 |n+1,j,hj,hn,f=>by
  have c:=h.facts;have d:0<=D.t.rows[j].rea:=by
   rcases Zo D.t.rows[j].rea 0 with e|e;have:=(c.dec j hj e).1;omega;exact e
  refine Fq h hj d λy hy b=>?_;obtain⟨i,hi,a,e⟩:=((dX h hj d).2.2 y hy).2 b;have g:=c.mono i j hi hj a;have:=Aq h R n i hi (by omega) (by omega);rw[kh hi e];exact this
theorem Qc{cs:au}{ats:af}{D:DK}(h:DeskT cs ats D){p:PS}{R:af}(a:Fr D p R){j:Nat}(hj:j<D.t.rows.length){y:Int}(hy:D.t.rows[j].l=-y)(hs:eU D.T y<=0∨aR p.seen (aq y)=true):HOk D.A D.T R y:=by
 have b:=qK h.ok.rel.1 h.facts hj hy;rw[kh hj hy];rcases hs with e|e;exact Aq h R (j+1) j hj (by omega) (by omega);rw[sG hj hy]at e;exact a j hj e
theorem As{cs:au}{ats:af}{D:DK}(h:DeskT cs ats D){R:af}:∀(n:Nat)(p:PS),n<=D.t.rows.length->LI D.t p n->Fr D (dA D.A D.T D.T.lits n p) R->Fr D p R
 |0,p,_,_,a=>a
 |n+1,p,hn,hi,a=>by
  rw[dA]at a;split at a;exact a;have b:n<D.t.rows.length:=by omega
  rw[Fp h.ok.rel.1 b]at a;split at a;rename_i hp;obtain⟨l,g2,g3,m⟩:=Ni h hi b hp;have g:=As h n _ (by omega) l a;intro j hj hs;by_cases e:j=n;subst e;obtain⟨q,o,r⟩:=pW h.ok.rel.1 h.facts hj;have f:0<=D.t.rows[j].rea:=by
   unfold pP at hp;rw[o]at hp;simp only[VC,VI]at hp;exact hp.2.2
  refine Fq h hj f λy hy c=>?_;obtain⟨i,d,_,k⟩:=((dX h hj f).2.2 y hy).2 c;exact Qc h g d k (m y hy c);exact g j hj (g3 j hj e hs);rename_i hp;exact As h n p (by omega) (Hn h.ok.rel.1 h.facts hi b hp) a
structure Conf (D:DK) (con:Int):Prop where
  is:isA D.A con=true
  neg:∀y∈aJ D.A con,dF y=true∧∃j,∃hj:j<D.t.rows.length,D.t.rows[j].l=-y
  top:0<D.t.dep->∃y∈aJ D.A con,∃j,∃hj:j<D.t.rows.length,D.t.rows[j].l=-y∧D.t.rows[j].lev=D.t.dep
theorem conf_at{cs:au}{ats:af}{D:DK}(h:DeskT cs ats D){k:Nat}(hk:k<cs.length)(c:ve (eK D.t) cs[k]=-1):Conf D (ats.getD k 0):=by
 obtain⟨f,d⟩:=h.ars k hk;have e:=Vx hk;refine⟨f,?_,?_⟩;rw[d];intro y hy;have a:=h.cls.chk _ e y hy;refine⟨a,?_⟩;rw[oi]at c;have:=zU (c y hy (litO a).2.2.2.1);rw[(litO a).2.2.2.2]at this;unfold eK at this;obtain⟨x,hx,b⟩:=VB.1 this;obtain⟨j,hj,rfl⟩:=VE hx;exact⟨j,hj,b⟩;rw[d];intro hd;obtain⟨y,hy,x,hx,b,g⟩:=Nh h.cls h.facts e c hd;obtain⟨j,hj,rfl⟩:=VE hx;exact⟨y,hy,j,hj,b,g⟩
theorem Q4{cs:au}{ats:af}{D:DK}(h:DeskT cs ats D){con:Int}(a:Conf D con):
 LI D.t (ju D.A D.T con) D.t.rows.length∧(∀y∈aJ D.A con,eU D.T y<=0∨aR (ju D.A D.T con).seen (aq y)=true)∧(0<D.t.dep->1<=(ju D.A D.T con).many):=by
 obtain ⟨d, g2, _, _⟩ := wB h.ok.rel.1 h.facts 0 (aJ D.A con) _ (QK D.t D.t.rows.length) (λ y hy => by
  obtain⟨_,j,hj,e⟩:=a.neg y hy;exact .inr ⟨j,hj,e,λ_=>.inl hj⟩)
 have g3:∀y∈aJ D.A con,eU D.T y<=0∨aR (ju D.A D.T con).seen (aq y)=true:=λy hy=>by
  rcases g2 y hy with e|e;have:=(rY (a.neg y hy).1).1;omega;exact e
 refine⟨d,g3,λhd=>?_⟩;obtain⟨y,hy,j,hj,c,f⟩:=a.top hd;have i:=qK h.ok.rel.1 h.facts hj c;have hs:aR (ju D.A D.T con).seen (aq y)=true:=by
  rcases g3 y hy with e|e;omega;exact e
 have:=d.mn;unfold ju at this⊢;rw[this,Nat.one_le_iff_ne_zero,Ne,ZO];intro b;have g:=b _ (Vx hj);rw[sG hj c]at hs;unfold ju at hs;simp[hs,f]at g
structure Learnt (D:DK) (L:af):Prop where
  nd:L.Nodup
  neg:∀y∈L,dF y=true∧∃j,∃hj:j<D.t.rows.length,D.t.rows[j].l=-y∧0<D.t.rows[j].lev
  nil:D.t.dep=0->L=[]
  top:0<D.t.dep->∃u r,L=u::r∧eU D.T u=D.t.dep∧∀y∈r,eU D.T y<D.t.dep
theorem Nk{cs:au}{ats:af}{D:DK}(h:DeskT cs ats D)(p:PS)(y:Int):y∈tO D.T D.T.lits p↔y∈p.lits∨∃j,∃hj:j<D.t.rows.length,D.t.rows[j].l=-y∧aR p.seen (aq D.t.rows[j].l)=true∧D.t.rows[j].lev=D.t.dep:=by
 have b:=h.ok.rel.1;have c:=h.facts;have hd:=b.dep;unfold tO;rw[VF,VB];constructor;rintro(e|⟨l,f,e⟩);exact .inl e;rw[V9,b.lits]at f;obtain⟨d,a⟩:=f;obtain⟨x,hx,rfl⟩:=VB.1 d;obtain⟨j,hj,rfl⟩:=VE hx;have i:=(litO (c.chk _ hx)).2.2.2.2;simp only[VC,VI]at a;have ho:=(pW b c hj).1;unfold eU at a;exact .inr ⟨j,hj,by omega,a.1,by omega⟩;rintro(e|⟨j,hj,k,g,m⟩);exact .inl e;right;have i:=(litO (c.chk _ (Vx hj))).2.2.2.2;have ho:=(pW b c hj).1;refine⟨D.t.rows[j].l,?_,by omega⟩;rw[V9,b.lits];refine⟨VB.2 ⟨_,Vx hj,rfl⟩,?_⟩;unfold eU;simp only[VC,VI];exact⟨g,by omega⟩
theorem learn_is{cs:au}{ats:af}{D:DK}(h:DeskT cs ats D){con:Int}(hc:Conf D con):
 Learnt D (ed D.A D.T con)∧∀y∈aJ D.A con,HOk D.A D.T (ed D.A D.T con) y:=by
 have K:=h.ok.rel.1;have n:=h.facts;have hd:=K.dep;have I:D.T.lits.length=D.t.rows.length:=by rw[K.lits,VA]
 obtain⟨b1,b2,b3⟩:=Q4 h hc;obtain⟨⟨m,M⟩,w2,w3⟩:=Ap h D.t.rows.length (ju D.A D.T con) (Vu _) b1;have wf:=λR=>As h (R:=R) D.t.rows.length (ju D.A D.T con) (Vu _) b1;have hL:ed D.A D.T con=Li D.T (fO (tO D.T D.T.lits (dA D.A D.T D.T.lits D.t.rows.length (ju D.A D.T con)))):=by
  unfold ed Lj;rw[I]
 have b:=Nk h (dA D.A D.T D.T.lits D.t.rows.length (ju D.A D.T con));generalize hp:dA D.A D.T D.T.lits D.t.rows.length (ju D.A D.T con)=p at*;generalize hE:tO D.T D.T.lits p=E at*;have g:∀y∈E,dF y=true∧∃j,∃hj:j<D.t.rows.length,D.t.rows[j].l=-y∧0<D.t.rows[j].lev∧(D.t.rows[j].lev=D.t.dep->aR p.seen (aq D.t.rows[j].l)=true):=λy hy=>by
  rcases(b y).1 hy with e|⟨j,hj,f,s,N⟩;obtain⟨j,hj,f,s,N⟩:=M.li y e;refine⟨?_,j,hj,f,s,λe4=>by omega⟩;have:=wA (n.chk _ (Vx hj));rw[f,XI]at this;exact this;obtain⟨j',X,q1,q2,_⟩:=M.sn _ s;have:=n.inj X hj q1;subst this;refine⟨?_,j',hj,f,q2,λ_=>s⟩;have:=wA (n.chk _ (Vx hj));rw[f,XI]at this;exact this
 have S:∀y,y∈fO E↔y∈E:=λy=>by
  rw[(rn E).2];exact⟨λe=>e.2,λe=>⟨TT (g y e).1,e⟩⟩
 have B:=BK E;have u:∀L,(∀y,y∈L↔y∈E)->∀y∈aJ D.A con,HOk D.A D.T L y:=λL Q=>by
  have W:Fr D p L:=λj hj hs=>by
   apply HOk.stop;rw[Q,b];rcases Zo D.t.rows[j].lev D.t.dep with e|e;exact .inl (M.ls j hj hs e);exact .inr ⟨j,hj,by omega,hs,by have:=(n.lev _ (Vx hj)).2;omega⟩
  have:=wf L W;intro y hy;obtain⟨_,j,hj,e⟩:=hc.neg y hy;exact Qc h this hj e (b2 y hy)
 by_cases c:D.t.dep=0;have C:E=[]:=by
  cases O:E with
  |nil=>rfl
  |cons y r=>
   obtain⟨_,j,hj,_,s,_⟩:=g y (by rw[O];simp);have:=(n.lev _ (Vx hj)).2;omega
 have o:ed D.A D.T con=[]:=by rw[hL,C,IG];rfl
 refine⟨⟨by rw[o];exact aan,by rw[o];simp,λ_=>o,λe=>by omega⟩,u _ λy=>by rw[o,C]⟩;have U:0<D.t.dep:=by have:=n.dep;omega
 have Z:p.many=1:=by have:=w3 (b3 U);omega
 have ad:D.t.rows.countP (λx=>aR p.seen (aq x.l)&&decide (x.lev=D.t.dep))=1:=by rw[←M.mn];exact Z
 have G:0<D.t.rows.countP (λx=>aR p.seen (aq x.l)&&decide (x.lev=D.t.dep)):=by omega
 rw[ZN]at G;obtain⟨x,hx,a⟩:=G;obtain⟨j,hj,rfl⟩:=VE hx;simp only[VC,VI]at a;have aa:-D.t.rows[j].l∈E:=(b _).2 (.inr ⟨j,hj,by omega,a.1,a.2⟩);have ab:=(S _).2 aa;obtain⟨k,hk,H⟩:=VE ab;have z:eU D.T (fO E)[k]=D.t.dep:=by rw[H,qK K n hj (show D.t.rows[j].l=-(-D.t.rows[j].l) by omega)];exact a.2
 have J:∀i (hi:i<(fO E).length),i≠k->eU D.T (fO E)[i]<eU D.T (fO E)[k]:=λi hi d=>by
  obtain⟨_,j2,w,f,s,N⟩:=g _ ((S _).1 (Vx hi));have hl:=qK K n w f;have hle:=(n.lev _ (Vx w)).2;rw[z,hl];rcases Zo D.t.rows[j2].lev D.t.dep with e|e;exact e;exfalso;have hs:=N (by omega);have Y:j2=j:=by
   rcases Xd j2 j with q|q|q;have:=qu (P:=λx=>aR p.seen (aq x.l)&&decide (x.lev=D.t.dep)) q hj (by simp only[VC,VI];exact⟨hs,by omega⟩) (by simp only[VC,VI];exact a);omega;exact q;have:=qu (P:=λx=>aR p.seen (aq x.l)&&decide (x.lev=D.t.dep)) q w (by simp only[VC,VI];exact a) (by simp only[VC,VI];exact⟨hs,by omega⟩);omega
  subst Y;have V:(fO E)[i]=(fO E)[k]:=by rw[H];omega
  exact d (xT B hi hk V)
 have hP:=OR hk (by rw[z];omega) J;have v:ed D.A D.T con=(fO E)[k]::(fO E).eraseIdx k:=hL.trans hP;have F:∀y,y∈ed D.A D.T con↔y∈E:=λy=>by rw[v,ol hk,S]
 refine⟨⟨?_,λy hy=>?_,λe=>absurd e c,λ_=>⟨_,_,v,z,λy hy=>?_⟩⟩,u _ F⟩;rw[v,Xj];refine⟨λhm=>?_,B.sublist (List.eraseIdx_sublist _ _)⟩;rw[YV]at hm;obtain⟨i,hi,d,e⟩:=hm;exact d (xT B hi hk e);obtain⟨e0,j,hj,f,s,_⟩:=g y ((F y).1 hy);exact⟨e0,j,hj,f,s⟩;rw[YV]at hy;obtain⟨i,hi,d,rfl⟩:=hy;have:=J i hi d;omega
structure DeskI (cs:au) (ats:af) (D:DK):Prop extends DeskT cs ats D where
  id:∀x∈D.a.rows,1<=x.id
theorem id_is{cs:au}{ats:af}{D:DK}(h:DeskI cs ats D){q:Int}(b:isA D.A q=true):iv D.A q≠0:=by
 obtain⟨x,hx,e⟩:=h.ok.relA.is q b;obtain⟨p,c,_,_,_,d⟩:=h.ok.relA.rows x hx;have hi:=h.id x hx;have a:q=(p:Int):=by rw[←e,c]
 unfold iv;rw[Vt b,a,WH,d];omega
theorem wC{cs:au}{ats:af}{D:DK}(h:DeskT cs ats D){j:Nat}(hj:j<D.t.rows.length){y:Int}(hy:D.t.rows[j].l=-y):pla D.T y=j∧rea D.T y=D.t.rows[j].rea:=by
 unfold pla rea;rw[sG hj hy];exact⟨(pW h.ok.rel.1 h.facts hj).2.2,(pW h.ok.rel.1 h.facts hj).2.1⟩
theorem val_neg{cs:au}{ats:af}{D:DK}(h:DeskT cs ats D){l:Int}(b:df D.T l<0):dF l=true∧∃j,∃hj:j<D.t.rows.length,D.t.rows[j].l=-l:=by
 obtain⟨a,i,hi,hp⟩:=yD h.ok.rel.1 (l:=l) (by omega);refine⟨a,i,hi,?_⟩;rcases un h.ok.rel.1 a hi hp with⟨e,_⟩|⟨_,e⟩;exact e;omega
theorem val_of{cs:au}{ats:af}{D:DK}(h:DeskT cs ats D){l:Int}{j:Nat}(hj:j<D.t.rows.length)(e:D.t.rows[j].l=-l):df D.T l=-1:=by
 have:=(Nj h hj).1;rw[e,XI]at this;exact this
theorem ahead_ok{cs:au}{ats:af}{D:DK}(h:DeskT cs ats D)(h0:D.A.hd≠[]):AheadOk D.A D.T where
 tr:=h.ok.rel.1.okT
 hd:=h0
 ar:=λq k=>by
  obtain⟨x,hx,e⟩:=h.ok.relA.is q k;obtain⟨p,d,a,_⟩:=h.ok.relA.rows x hx;exact⟨p,_,by rw[←e,d],a⟩
 len:=h.ok.len
 ahead:=λl m c=>by
  obtain⟨f,j,hj,e⟩:=val_neg h m;obtain⟨o,r⟩:=wC h hj e;rw[o];refine⟨by omega,λy hy b=>?_⟩;rw[r]at hy c;have n:=(litO f).2.2.2.2;obtain⟨i,hi,g,a⟩:=((dX h hj c).2.2 y hy).2 (by rw[e,←n];exact b);rw[(wC h hi a).1];omega
theorem pla_lt{cs:au}{ats:af}{D:DK}(h:DeskT cs ats D)(l:Int):pla D.T l<D.T.lits.length:=by
 unfold pla;rw[(Ao h.ok.rel.1 (aq l)).2.2,h.ok.rel.1.lits,VA];rcases Zo (sD D.t (aq l)) 0 with c|c;omega;obtain⟨i,hi,e,_⟩:=mO c;omega
theorem pi{cs:au}{ats:af}{D:DK}(h:DeskI cs ats D){L:af}{stop:aS}(g:∀y,aR stop y=true↔y∈L){k:Nat}{f:NS->Int->Int->NS}
 (C:∀(s:NS)(j:Nat)(hj:j<D.t.rows.length),j<k->0<=D.t.rows[j].rea->NI D L s->Post D L s (f s D.t.rows[j].rea D.t.rows[j].l) (aJ D.A D.t.rows[j].rea) D.t.rows[j].l) (but:Int):
 ∀(c:af)(s:NS),NI D L s->(∀y∈c,y≠but->dF y=true∧∃j,∃hj:j<D.t.rows.length,D.t.rows[j].l=-y∧j<k)->Post D L s (vz f D.A D.T stop but c s) c but
 |[],s,hn,_=>⟨hn,λ_ e=>e,λe=>⟨e,by simp,λj hj h1 O=>by rw[vz]at h1;rw[h1]at O;cases O⟩,λ_=>rfl⟩
 |y::c,s,hn,B=>by
  have q:=λz hz=>B z (VG _ hz);rw[vz];by_cases hs:xV D.T stop but s y=true;rw[Vt hs];have u:=pi h g C but c s hn q;refine⟨u.ni,u.mono,λho=>?_,λhk=>u.ok λz hz=>hk z (VG _ hz)⟩;obtain⟨w,x,a3⟩:=u.all ho;refine⟨w,λz hz a=>?_,a3⟩;rcases VU.1 hz with rfl|hz;unfold xV at hs;simp only[WI,VC,VI]at hs;rcases hs with(e|e)|⟨e,_⟩;exact absurd e a;exact .inl ((g _).1 e);obtain⟨_,j,hj,b,_⟩:=B z (VN ..) a;rw[(wC h.toDeskT hj b).1]at e;exact .inr ⟨j,hj,b,u.mono _ e⟩;exact x z hz a;rw[Vs hs];have J:y≠but∧y∉L∧¬(aR s.at' (pla D.T y)=true∧0<=pla D.T y):=by
   unfold xV at hs;simp only[WI,VC,VI,aac]at hs;exact⟨hs.1.1,λe=>hs.1.2 ((g _).2 e),hs.2⟩
  obtain⟨M,N,X⟩:=J;obtain⟨Y,j,hj,b,E⟩:=B y (VN ..) M;obtain⟨Q,R⟩:=wC h.toDeskT hj b;have P:=val_of h.toDeskT hj b;by_cases m:IK D.A D.T y=true
  .rw[Vt m];refine⟨⟨hn.val,hn.mem⟩,λ_ e=>e,λe=>(by cases e),λhk=>?_⟩;exfalso;unfold IK at m;simp only[WI,VI]at m;have hy:=hk y (VN ..) M;cases hy with
   |stop e=>exact N e
   |why v1 v2 v3 _=>
    rcases m with(e|e)|e;omega;have:rea D.T y=(em D.T (aq y)).1.rea:=rfl;omega;exact id_is h v3 e
  rw[Vs m];have n:0<=rea D.T y:=by
   unfold IK at m;simp only[WI,VI,aac]at m;omega
  have W:=(litO Y).2.2.2.2;have K:bG (-y)=D.t.rows[j].l:=by rw[W,b]
  rw[R]at n⊢;rw[K];have r:aR s.at' j=false:=by
   cases e:aR s.at' j;rfl;exact absurd ⟨by rw[Q];exact e,by omega⟩ X
  have h0:(lk s.at' (j:Int)).getD 0=0:=by
   have:=hn.val j;unfold aR at r;simp at r;omega
  have H:vy D.T s y=⟨pt s.at' j 1,s.ok⟩:=by
   unfold vy;rw[Q,h0];rfl
  rw[H];have d:∀p,aR (pt s.at' (j:Int) 1) p=if(j:Int)=p then true else aR s.at' p:=λp=>by rw[o7];simp
  have I:NI D L ⟨pt s.at' j 1,s.ok⟩:=by
   refine⟨λp=>?_,λp hp=>?_⟩;dsimp only;rw[cm];split;simp;exact hn.val p;dsimp only at hp;rw[d]at hp;split at hp;rename_i e;exact⟨j,hj,e.symm,n,by rw[b,XI];exact N⟩;exact hn.mem p hp
  have o:=C ⟨pt s.at' j 1,s.ok⟩ j hj E n I;generalize f ⟨pt s.at' j 1,s.ok⟩ D.t.rows[j].rea D.t.rows[j].l=v at*;have g2:=pi h g C but c v o.ni q;generalize vz f D.A D.T stop but c v=Z at*;have F:∀p,aR s.at' p=true->aR (pt s.at' (j:Int) 1) p=true:=λp hp=>by rw[d];split<;>simp[hp]
  have G:aR v.at' j=true:=o.mono j (by dsimp only;rw[d,Vt rfl]);refine⟨g2.ni,λp hp=>g2.mono p (o.mono p (F p hp)),λho=>?_,λhk=>?_⟩;obtain⟨w,x,a3⟩:=g2.all ho;obtain⟨b1,b2,b3⟩:=o.all w;refine⟨b1,λz hz a=>?_,λi hi S U z hz a=>?_⟩;rcases VU.1 hz with rfl|hz;exact .inr ⟨j,hj,b,g2.mono _ G⟩;exact x z hz a;cases c2:aR v.at' i;exact a3 i hi S c2 z hz a;by_cases e:j=i;subst e;exact(b2 z hz a).mono g2.mono;exact(b3 i hi c2 (by dsimp only;rw[d,Vs (by omega)];exact U) z hz a).mono g2.mono
  .rw[g2.ok λz hz=>hk z (VG _ hz)];have hy:=hk y (VN ..) M;cases hy with
   |stop e=>exact absurd e N
   |why _ _ _ v4=>
    refine o.ok λz hz a=>?_;have V:(em D.T (aq y)).1.rea=D.t.rows[j].rea:=R;rw[V]at v4;exact v4 z hz (by rw[←b];exact a)
theorem yE{cs:au}{ats:af}{D:DK}(h:DeskI cs ats D){L:af}{stop:aS}(a:∀y,aR stop y=true↔y∈L):∀(k:Nat)(q but:Int)(s:NS),NI D L s->
 (∀y∈aJ D.A q,y≠but->dF y=true∧∃j,∃hj:j<D.t.rows.length,D.t.rows[j].l=-y∧j<k)->Post D L s (tP D.A D.T stop (k+1) s q but) (aJ D.A q) but
 |0,q,but,s,hn,c=>by
  rw[tP];exact pi h a (k:=0) (λ_ j _ hj=>by omega) but _ s hn c
 |k+1,q,but,s,hn,c=>by
  rw[tP];refine pi h a (k:=k+1) (λs j hj g m hn=>?_) but _ s hn c;refine yE h a k _ _ s hn λy hy b=>?_;obtain⟨n,d⟩:=(dX h.toDeskT hj m).2.2 y hy;obtain⟨i,hi,f,e⟩:=d b;exact⟨n,i,hi,e,by omega⟩
def AllNeg(D:DK)(L:af):Prop:=∀y∈L,dF y=true∧∃j,∃hj:j<D.t.rows.length,D.t.rows[j].l=-y
theorem wD{cs:au}{ats:af}{D:DK}(h:DeskT cs ats D){j:Nat}(hj:j<D.t.rows.length):rj D j=D.t.rows[j].rea:=by
 unfold rj rea;rw[Fp h.ok.rel.1 hj];exact(pW h.ok.rel.1 h.facts hj).2.1
theorem CE{cs:au}{ats:af}{D:DK}(h:DeskI cs ats D){con:Int}(b:Conf D con)(L:af):Post D L ⟨[],true⟩ (nB D.A D.T L con) (aJ D.A con) 0:=by
 have a:D.T.lits.length=D.t.rows.length:=by rw[h.ok.rel.1.lits,VA]
 unfold nB;refine yE h (λy=>?_) D.T.lits.length con 0 ⟨[],true⟩ ⟨λp=>by simp[lk],λp hp=>by simp[aR,lk]at hp⟩ λy hy _=>?_;have:=vB L y L.length (Vu _)
 rwa [VX]at this
 obtain⟨c,j,hj,e⟩:=b.neg y hy;exact⟨c,j,hj,e,by omega⟩
theorem Nl{cs:au}{ats:af}{D:DK}(h:DeskT cs ats D){i j:Nat}(hi:i<D.t.rows.length)(hj:j<D.t.rows.length)(o:i<j)(b:0<=D.t.rows[i].rea)(c:0<=D.t.rows[j].rea):D.t.rows[i].rea≠D.t.rows[j].rea:=by
 intro e;have d:=h.facts;have h1:=(dX h hi b).2.1;rw[e]at h1;obtain⟨n,m⟩:=(dX h hj c).2.2 _ h1;have a:D.t.rows[i].l≠D.t.rows[j].l:=λf=>by
  have:=d.inj hi hj (by rw[f]);omega
 obtain⟨k,hk,_,g⟩:=m a;exact d.one n ⟨iO hi,by rw[←g];exact iO hk⟩
theorem Q5{cs:au}{ats:af}{D:DK}(h:DeskT cs ats D){con:Int}(d:Conf D con){i:Nat}(hi:i<D.t.rows.length)(a:0<=D.t.rows[i].rea):D.t.rows[i].rea≠con:=by
 intro e;have h1:=(dX h hi a).2.1;rw[e]at h1;obtain⟨c,k,hk,b⟩:=d.neg _ h1;exact h.facts.one c ⟨iO hi,by rw[←b];exact iO hk⟩
theorem CF{cs:au}{ats:af}{D:DK}(h:DeskT cs ats D){L:af}{s:NS}(hn:NI D L s):∀i,i<=D.t.rows.length->fl D.T s.at' i=(IN s i).map (rj D)
 |0,_=>rfl
 |i+1,hi=>by
  have o:=CF h hn i (by omega);have n:rea D.T (D.T.lits.getD i 0)=rj D i:=rfl;rw[fl,Lt];unfold Lr;rw[o,n];by_cases c:aR s.at' i=true;obtain⟨j,hj,p,k,_⟩:=hn.mem _ c;have b:i=j:=by omega
  subst b;have:¬rj D i∈(IN s i).map (rj D):=by
   intro e;obtain⟨m,d,g⟩:=VB.1 e;rw[zX]at d;obtain⟨j,a,q,l,_⟩:=hn.mem _ d.2;have f:m=j:=by omega
   subst f;rw[wD h a,wD h hj]at g;exact Nl h a hj d.1 l k g
  rw[Vt (by simp only[c,this,decide_false,aam,Bool.and_self]),Vt c,V1];rfl;have c':aR s.at' i=false:=by simpa using c
  rw[Vs (by simp[c']),Vs c]
theorem Nm{cs:au}{ats:af}{D:DK}(h:DeskT cs ats D){L:af}{s:NS}{l:af}{js:bJ}(hi:CInv D L s l js){y:Int}(b:dF y=true)(a:-y∈l):ca l y=-1:=
 val3_m1_of b a (λe=>h.facts.one b ⟨hi.sub _ e,hi.sub _ a⟩)
theorem Nn{cs:au}{ats:af}{D:DK}(h:DeskI cs ats D){con:Int}(P:Conf D con){L:af}{s:NS}(hn:NI D L s)
 (hcl:∀j (hj:j<D.t.rows.length),aR s.at' j=true->∀y∈aJ D.A D.t.rows[j].rea,y≠D.t.rows[j].l->Met D L s y) (p:∀y∈aJ D.A con,Met D L s y):
 ∀(js:bJ)(l:af)(n:Nat),CInv D L s l js->∃l',gg l ((js.map (rj D)).map (aJ D.A)++[aJ D.A con]) n=(l',n+js.length+1,0)
 |[],l,n,hi=>by
  refine⟨l,?_⟩;have:ve l (aJ D.A con)=-1:=by
   rw[oi];intro y hy _;have O:=(P.neg y hy).1;refine Nm h.toDeskT hi O ?_;rcases p y hy with e|⟨j,hj,m,w⟩;exact hi.neg y e;rw[←m];exact hi.don j hj w (by simp)
  simp[gg,this]
 |j::js,l,n,hi=>by
  obtain⟨hj,hs,H⟩:=hi.todo j (VN ..);obtain⟨Y,U,m,Q,_⟩:=hn.mem _ hs;have C:j=Y:=by omega
  subst C;have v:=h.facts;obtain⟨Z,M,r3⟩:=dX h.toDeskT hj Q;have N:=(r3 _ M).1;have u:=(litO N).2.2.2.1;have W:=(litO N).2.2.2.2;have o:=hcl j hj hs;have a:=XP.1 hi.inc;obtain⟨k,hk,z,S⟩:∃k,∃hk:k<cs.length,aJ D.A D.t.rows[j].rea=cs[k]∧True:=by
   obtain⟨k,hk,e,_⟩:=v.imp j hj Q;rw[e];exact⟨k,hk,(h.ars k hk).2,trivial⟩
  have d:=h.cls.len _ (Vx hk);have q:=h.cls.nd _ (Vx hk);rw[←z]at d q;have J:ca l D.t.rows[j].l=0:=by
   unfold ca;rw[Vs (by omega),Vs H,Vs];rw[W];intro e;exact v.one N ⟨iO hj,hi.sub _ e⟩
  have K:∀y∈aJ D.A D.t.rows[j].rea,y≠D.t.rows[j].l->ca l y=-1:=λy hy r=>by
   have O:=(r3 y hy).1;refine Nm h.toDeskT hi O ?_;rcases o y hy r with e|⟨i,b,m,w⟩;exact hi.neg y e;obtain⟨X,B,T,R⟩:=(r3 y hy).2 r;have:i=X:=v.inj b B (by rw[m,R]);subst this;rw[←m];refine hi.don i b w ?_;intro g;rcases VU.1 g with e|g;omega;have:=a.1 i g;omega
  have V:=GI d q M u J K;have F:¬ve l (aJ D.A D.t.rows[j].rea)=-1:=by
   rw[oi];intro e;have:=e _ M u;omega
  have b:CInv D L s (l++[D.t.rows[j].l]) js:=by
   refine⟨?_,λy hy=>WG _ (hi.neg y hy),?_,?_,a.2⟩;intro x hx;rcases VF.1 hx with hx|hx;exact hi.sub x hx;simp at hx;subst hx;exact iO hj;intro i c f I;by_cases e:i=j;subst e;simp;exact WG _ (hi.don i c f (by simp[e,I]));intro i g;obtain⟨c,f,G⟩:=hi.todo i (VG _ g);refine⟨c,f,?_⟩;intro e;rcases VF.1 e with e|e;exact G e;simp at e;have:=v.inj c hj (by rw[e]);have:=a.1 i g;omega
  obtain⟨l',E⟩:=Nn h P hn hcl p js _ (n+1) b;refine⟨l',?_⟩;rw[VP,VP,Wh,gg,wD h.toDeskT hj,Vs F,V,Vt rfl,E,VR];congr 2;omega
theorem hints_show{cs:au}{ats:af}{D:DK}(h:DeskI cs ats D){con:Int}(m:Conf D con){L:af}(u:AllNeg D L)(ho:(nB D.A D.T L con).ok=true):
 (tQ D.T (nB D.A D.T L con).at' con).Nodup∧(∀q∈tQ D.T (nB D.A D.T L con).at' con,isA D.A q=true)∧
  ∃l',gg (iw L) ((tQ D.T (nB D.A D.T L con).at' con).map (aJ D.A)) 0=(l',(tQ D.T (nB D.A D.T L con).at' con).length,0):=by
 have hp:=CE h m L;generalize nB D.A D.T L con=s at*;obtain⟨_,J,a3⟩:=hp.all ho;have Q:=h.facts;have o:D.T.lits.length=D.t.rows.length:=by rw[h.ok.rel.1.lits,VA]
 have hin:=CF h.toDeskT hp.ni D.t.rows.length (Vu _);have d:∀j∈IN s D.t.rows.length,∃hj:j<D.t.rows.length,aR s.at' j=true∧0<=D.t.rows[j].rea∧-D.t.rows[j].l∉L:=λj hj=>by
  rw[zX]at hj;obtain⟨O,c,g,r,K⟩:=hp.ni.mem _ hj.2;have:j=O:=by omega
  subst this;exact⟨c,hj.2,r,K⟩
 have p:con∉(IN s D.t.rows.length).map (rj D):=by
  intro e;obtain⟨j,hj,g⟩:=VB.1 e;obtain⟨c,_,F,_⟩:=d j hj;rw[wD h.toDeskT c]at g;exact Q5 h.toDeskT m c F g
 have M:tQ D.T s.at' con=(IN s D.t.rows.length).map (rj D)++[con]:=by
  unfold tQ;rw[o,hin,Vs p]
 have f:(IN s D.t.rows.length).Pairwise (·<·):=aak _ List.pairwise_lt_range;rw[M];refine⟨?_,?_,?_⟩;rw[YN];refine⟨?_,by simp,λa N b I e=>?_⟩;refine Xe.2 (f.imp_of_mem λ{i j} hi hj w=>?_);obtain⟨n,_,G,_⟩:=d i hi;obtain⟨c,_,H,_⟩:=d j hj;rw[wD h.toDeskT n,wD h.toDeskT c];exact Nl h.toDeskT n c w G H;simp at I;subst I;exact p (e▸N);intro q k;rcases VF.1 k with k|k;obtain⟨j,hj,g⟩:=VB.1 k;obtain⟨c,_,F,_⟩:=d j hj;rw[wD h.toDeskT c]at g;rw[←g];exact(dX h.toDeskT c F).1;simp at k;subst k;exact m.is;have v:CInv D L s (iw L) (IN s D.t.rows.length):=by
  refine⟨?_,?_,?_,?_,f⟩;intro x hx;rw[rG]at hx;obtain⟨y,hy,rfl⟩:=hx;obtain⟨P,j,hj,e⟩:=u y hy;rw[(litO P).2.2.2.2,←e];exact iO hj;intro y hy;rw[rG];exact⟨y,hy,(litO (u y hy).1).2.2.2.2.symm⟩;intro j hj hs E;exact absurd ((zX s _ j).2 ⟨hj,hs⟩) E;intro j hj;obtain⟨c,hs,_,B⟩:=d j hj;refine⟨c,hs,λe=>?_⟩;rw[rG]at e;obtain⟨y,hy,r⟩:=e;rw[(litO (u y hy).1).2.2.2.2]at r;apply B;rw[r,XI];exact hy
 obtain⟨l',z⟩:=Nn h m hp.ni (λj hj hs y hy C=>a3 j hj hs (by simp[aR,lk]) y hy C) (λy hy=>J y hy (by have:=litO (m.neg y hy).1;omega)) _ _ 0 v;refine⟨l',?_⟩;rw[V1];have:List.map (aJ D.A) [con]=[aJ D.A con]:=rfl;rw[this,z];congr 2;simp
theorem hints_ok_of{cs:au}{ats:af}{D:DK}(h:DeskI cs ats D){con:Int}(a:Conf D con){L:af}(hk:∀y∈aJ D.A con,HOk D.A D.T L y):(nB D.A D.T L con).ok=true:=
 (CE h a L).ok λy hy _=>hk y hy
theorem CG{cs:au}{ats:af}{D:DK}(h:DeskT cs ats D){L S:af}(f:∀x∈L,x∉S->nq D.A D.T L x=true):∀(n j:Nat)(hj:j<D.t.rows.length),j<n->(-D.t.rows[j].l∈L∨nq D.A D.T L (-D.t.rows[j].l)=true)->HOk D.A D.T S (-D.t.rows[j].l)
 |0,j,hj,hn,_=>by omega
 |n+1,j,hj,hn,hx=>by
  by_cases c:-D.t.rows[j].l∈S;exact .stop c;have hd:nq D.A D.T L (-D.t.rows[j].l)=true:=hx.elim (λu=>f _ u c) id;rw[vp,VC]at hd;obtain⟨g,p⟩:=hd;obtain⟨i,hi,G,H,_,z,m⟩:=Q3 h.ok g;have q:=h.facts.chk _ (Vx hj);obtain⟨n0,E,F,_⟩:=litO q;have w:bG (- -D.t.rows[j].l)=D.t.rows[j].l:=by rw[XI];exact aC (by omega) (by omega)
  have v:du D.T (-D.t.rows[j].l)=j:=(wC h hj (by omega)).1;have b:i=j:=by omega
  subst b;refine Fq h hj m λy hy a=>?_;obtain⟨I,_,B⟩:=dX h hj m;obtain⟨J,C⟩:=B y hy;obtain⟨k,hk,r,e⟩:=C a;have s:=qK h.ok.rel.1 h.facts hk e;rw[kh hk e];by_cases o:D.t.rows[k].lev<=0;exact Aq h S (k+1) k hk (by omega) o;have d:y∈vo D.A D.T (-D.t.rows[i].l):=by
   unfold vo;rw[Vt g,V9,z];refine⟨hy,?_⟩;unfold wT;unfold eU at s;simp only[Wp,YG,WX];exact⟨by rw[w];exact a,by omega⟩
  have hp:=Wa.1 p y d;unfold pO np at hp;simp only[WI,VC,VI]at hp;refine CG h f n k hk (by omega) ?_;rw[←kh hk e];rcases hp with⟨_,hp,_⟩|⟨_,hp⟩;exact .inl hp;exact .inr hp
theorem sho_hok{cs:au}{ats:af}{D:DK}(h:DeskT cs ats D){L:af}(b:AllNeg D L):∀x∈L,HOk D.A D.T (sF D.A D.T L) x:=λx hx=>by
 obtain ⟨_, j, hj, e⟩ := b x hx; rw [kh hj e] at hx ⊢; refine CG h (λ y hy hn => ?_) (j + 1) j hj (by omega) (.inl hx); have a : jd D.A D.T L y = true := V0 λ a => hn (by
  unfold sF;rw[←Wz 1 L,VF]at hy;rcases hy with hy|hy;exact WG _ hy;refine Xi _ ?_;unfold bq;rw[V9];exact⟨hy,by simpa using a⟩)
 unfold jd kb at a;rw[VC]at a;exact a.2
theorem show_sound{m:dC}{S:af}{hs:au}(a:∀y∈S,dF y=true)(b:∀c∈hs,c.length<=1000000)(h:(gg (iw S) hs 0).2.2=0)(d:∀c∈hs,dP c m=true):dP S m=true:=by
 refine V0 λhn=>yC hs (iw S) 0 b (λy hy=>?_) d h;obtain⟨x,hx,e⟩:=(rG S y).1 hy;obtain⟨n0,g,i,_,f⟩:=litO (a x hx);rw[e,f];refine Nd ((bO x).2 (by omega)) ?_;rw[YA]at hn;have:=Xo.1 hn x hx;simpa using this
end Go.AX.V