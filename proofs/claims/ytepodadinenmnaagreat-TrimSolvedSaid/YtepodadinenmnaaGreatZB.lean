/-
  Contracts: watches: lates, Attached; and what follows.
-/
import Derived.Test.YtepodadinenmnaaGreatZz
import Derived.Test.YtepodadinenmnaaGreatZA
set_option linter.unusedSimpArgs false
set_option maxRecDepth 16000
namespace Go.AX
section
open Go.Proofs Go.Maps Go.Shelf
theorem we{α:Type}(f:α->PV):∀l:List (Int×α),GW (aL f l)=aL (λ_=>PV.bot) l
 |[]=>rfl
 |(k,x)::l=>by
  show(k,PV.bot)::GW (aL f l)=(k,PV.bot)::aL (λ_=>PV.bot) l;rw[we f l]
def jw:af->WS->Tr->WS×Tr×Int
 |[],S,T=>(S,T,-1)
 |k::ks,S,T=>match lk S.prs k with
  |some p=>if oy T p=true then(S,T,k)else jw ks (lH S T k p) (nE T k p)
  |none=>(S,T,-1)
theorem Je(h:ao)(bw ba bt:Nat)(mp:cg)(mb:List (Int×By))(A:Ar)(T:Tr)(S:WS)(L:LayW h bw ba bt mp mb A T S)(a:af)(f:bM (S.late.map (·.1))=a)(J:Nat->WS->Tr->Prop)(o:J 0 S T)(v:∀q∈S.late,xD q.1)(g:S.late.length<=1000000)
 (E:∀i S' T',J i S' T'->∀(hi:i<a.length),T'.ok∧T'.lits.length<=1000000∧(∀l zs,lk S'.byl l=some zs->zs.length<=1000000)∧∃p,lk S'.prs a[i]=some p∧p.lits.length<=1000000)
 (F:∀i S' T' p,J i S' T'->∀(hi:i<a.length),lk S'.prs a[i]=some p->oy T' p=false->J (i+1) (lH S' T' a[i] p) (nE T' a[i] p)):
 aI Tryz.prog 156 [.ptr bw 0] h (λr h'=>r=.pv (ak (jw a S T).2.2)∧∃mb',LayW h' bw ba bt mp mb' A (jw a S T).2.1 (jw a S T).1∧Ext h h' (bA bw bt mp mb) (bA bw bt mp mb')):=by
 refine dh [1] [.tmp 2] aP Tryz.func156 ?_;obtain⟨M,N⟩:=Vp.1 L.w;have C:=qz (λ_:Int=>PV.bot) S.late v g;have G:a.length<=1000000:=by rw[←f];unfold bM;rw[WD,VA];exact g
 have s:jw a S T=jw (a.drop 0) S T:=rfl;rw[f]at C;generalize jw a S T=Z at*;simp;refine jF.keys [_,_,_,_] [_,_] _ _ _ _ 229 _ _ _ _ _ (am a) rfl rfl rfl rfl rfl rfl rfl ?_;simp[M,N,cW];rw[we];refine⟨KI,C,?_⟩;refine aM.intro (S:=λ(x:Nat×ao×List (Int×By)×WS×Tr)=>⟨[(0,.pv (.ptr bw 0)),(10,.own true 1 (am a)),(11,.pv (ak a.length)),(12,.pv (ak x.1))],x.2.1⟩)
  (λx=>x.1<=a.length∧LayW x.2.1 bw ba bt mp x.2.2.1 A x.2.2.2.2 x.2.2.2.1∧J x.1 x.2.2.2.1 x.2.2.2.2∧Ext h x.2.1 (bA bw bt mp mb) (bA bw bt mp x.2.2.1)∧Z=jw (a.drop x.1) x.2.2.2.1 x.2.2.2.2)
  (λx=>a.length -x.1) (0,h,mb,S,T) ?_ ⟨VH _,L,o,Ext.refl _ _,s⟩ ?_
 exact av.keep (by simp) rfl;rintro⟨i,H,mb',S',T'⟩ ⟨hi,n,e,k,b⟩;dsimp only at hi n e k b;by_cases d:i<a.length;have z:bG ((i:Int)+1)=((i+1:Nat):Int):=by rw[aC (by omega) (by omega)];omega
 have I:a[i]?=some a[i]:=Vq d;obtain⟨b1,b2,b3,p,hp,y⟩:=E i S' T' e d;have K:=ym H bw ba bt mp mb' A T' S' n a[i] p hp b1 b2 y b3;rw[V3 d,jw,hp]at b;simp only at b;simp[d,I];refine ay.intro K ?_;rintro _ D ⟨rfl,j,m,B⟩;cases c:oy T' p;rw[Vs (by rw[c];simp)]at b;simp[c];exact⟨(i+1,D,j,lH S' T' a[i] p,nE T' a[i] p),by dsimp only;omega,⟨by dsimp only;omega,m,F i S' T' p e d hp c,k.trans B,b⟩,av.keep (by simp[z]) rfl⟩;rw[Vt c]at b;subst b;have t:lH S' T' a[i] p=S':=by
  unfold oy at c;unfold lH;rw[Vs (by have:=Zy c;omega)]
 have u:nE T' a[i] p=T':=by
  unfold oy at c;unfold nE;rw[Vs (by have:=Zy c;omega)]
 rw[t,u]at m;simp[c];exact⟨j,m,k.trans B⟩;have:i=a.length:=by omega
 subst this;rw[VS (Vu _),jw]at b;subst b;simp;exact⟨mb',n,k⟩
end
open Go.Proofs Go.Proofs.Tryz
section
def Aj:Sch:=
 let c:Sch:=.fork [(6,.take 7 .done)]
 let a:Sch:=.fork [(5,c)]
 let d:Sch:=.fork [(4,a)]
 let b:Sch:=.fork [(3,a)]
 let e:Sch:=.fork [(3,d),(4,b)]
 let f:Sch:=.fork [(0,.take 1 (.take 2 b))]
 let g:Sch:=.fork [(0,.take 1 (.take 2 e)),(4,f)]
 g
def MD:Sch:=
 let a:Sch:=.fork [(5,.take 6 .done)]
 let c:Sch:=.fork [(4,a)]
 let b:Sch:=.fork [(3,a)]
 let d:Sch:=.fork [(3,c),(4,b)]
 let e:Sch:=.fork [(0,.take 1 (.take 2 b))]
 let f:Sch:=.fork [(0,.take 1 (.take 2 d)),(4,e)]
 f
def ME:Sch:=
 let a:Sch:=.fork [(5,.take 6 .done)]
 let b:Sch:=.fork [(4,a)]
 .take 0 (.take 1 (.take 2 (.take 3 b)))
def GY:Sch:=
 let c:Sch:=.fork [(7,.done)]
 let a:Sch:=.fork [(5,.take 6 c)]
 let d:Sch:=.fork [(4,a)]
 let b:Sch:=.fork [(3,a)]
 let e:Sch:=.fork [(3,d),(4,b)]
 let f:Sch:=.fork [(0,.take 1 (.take 2 b))]
 let g:Sch:=.fork [(0,.take 1 (.take 2 e)),(4,f)]
 g
def Q0(T:Tr)(l other x:Int):Bool:=decide (x≠l)&&(decide (x≠other)&&decide (0<=df T x))
theorem MF(h:ao)(bw ba bt a:Nat)(W:Wt)(T:Tr)(j:h[bw]?=some (cW ba bt W))(ht:h[bt]?=some (iI T))(g:T.ok)(l:Int)(h0:h[a]?=some [.pv (.ptr bw 0)])(h1:h[a+1]?=some [.pv (ak l)])(x other:Int):
 aI prog 234 [ak x,ak other,.ptr (a+1) 0,.ptr a 0] h (λr h'=>h'=h∧r=.pv (BL (Q0 T l other x))):=by
 refine fJ [] [.tmp 6] aP func234 ?_;obtain⟨d,f⟩:=Vp.1 j;obtain⟨b,c⟩:=Vp.1 h0;obtain⟨b1,b2⟩:=Vp.1 h1;have i:=gM T x g;have hz:=dR ht 2;unfold Q0;by_cases c1:x=l;simp[d,f,cW,b,c,b1,b2,c1];by_cases c2:x=other;have c3:¬other=l:=λe=>c1 (c2.trans e);simp[d,f,cW,b,c,b1,b2,c1,c2,c3];simp[d,f,cW,b,c,b1,b2,c1,c2,hz];refine ay.introP i ?_ (by simp[c1,c2]) (by simp);simp[c1,c2]
theorem MG(x v:Int):aw prog 236 [ak x,.iptr 1 [[ak v]] 0 0] (λr=>r=.pv (BL (decide (x=v)))):=by
 refine aB aP func236 ?_;simp
def rQ(l:Int)(p:Pr):Int:=if p.x=l then p.y else p.x
def oz(T:Tr)(l:Int)(p:Pr):Option Int:=p.lits.find? (Q0 T l (rQ l p))
def kX(l:Int)(p:Pr)(x:Int):Pr:=if p.x=l then⟨p.lits,x,p.y⟩else⟨p.lits,p.x,x⟩
def tU(S:WS)(k l:Int)(p:Pr)(x:Int):WS:=⟨pt S.prs k (kX l p x),iQ (fu S.byl k l) k x,S.late,S.head,S.seen⟩
def nt(S:WS)(k:Int):WS:=⟨S.prs,S.byl,pt S.late k (bG ((lk S.late k).getD 0+1)),S.head,S.seen⟩
def rR(p:Pr):Pr:=⟨p.lits,0,0⟩
def qG(S:WS)(T:Tr)(l k:Int)(p:Pr):WS:=match oz T l p with
 |some x=>tU S k l p x
 |none=>lH (nt (gu S k p) k) T k (rR p)
def rS(T:Tr)(l k:Int)(p:Pr):Tr:=match oz T l p with
 |some _=>T
 |none=>nE T k (rR p)
def sS(T:Tr)(l:Int)(p:Pr):Bool:=match oz T l p with
 |some _=>false
 |none=>oy T (rR p)
def jk(l:Int):af->WS->Tr->WS×Tr×Int
 |[],S,T=>(S,T,-1)
 |k::ks,S,T=>match lk S.prs k with
  |some p=>if sS T l p=true then(qG S T l k p,rS T l k p,k)else jk l ks (qG S T l k p) (rS T l k p)
  |none=>(S,T,-1)
structure StepOk (S:WS) (T:Tr) (l k:Int) (p:Pr):Prop where
  hp:lk S.prs k=some p
  l0:l≠0
  two:p.x=l∨p.y=l
  lits:p.lits.length<=1000000
  byl:∃zs,lk S.byl l=some zs∧zs≠[]
  hx:p.x≠0->∃zs,lk S.byl p.x=some zs∧zs≠[]
  hy:p.y≠0->∃zs,lk (fu S.byl k p.x) p.y=some zs∧zs≠[]
  hz:∀l zs,lk S.byl l=some zs->zs.length<=1000000
  ok:T.ok
  tl:T.lits.length<=1000000
theorem wg{byl:dV}{k l:Int}{n:Nat}(h:∀l zs,lk byl l=some zs->zs.length<=n):∀m zs,lk (fu byl k l) m=some zs->zs.length<=n:=λm zs a=>by
 unfold fu at a;split at a;exact h m zs a;rw[cm]at a;split at a;cases a;refine Wb (j7 _ _) ?_;cases b:lk byl l with
 |none=>exact VH _
 |some z=>exact h l z b
 exact h m zs a
def yt(a m:Nat)(zs:af)(i:Nat)(x:Int):List (Nat×SV):=[(2,.pv (.ptr a 0)),(3,.pv (.ptr (a+1) 0)),(5,.own true 1 (am zs)),(6,.pv (.fn (.func 234) [] [.ptr (a+1) 0,.ptr a 0])),(8,.pv (.ptr m 0)),(13,.pv (ak x)),(22,.al (.slot 5)),(23,.pv (ak zs.length)),(24,.pv (ak i))]
theorem TO:(∀x:By,JI x=.bsl x.b 1 0 x.n x.cp)∧(∀(ba bt:Nat)(W:Wt),cW ba bt W=[.pv (.ptr ba 0),.pv (.ptr bt 0),.omap true (aL wW W.prs),.omap true (aL JI W.byl),.omap true (aL fI W.late),.pv (ak W.head),.own true 1 (am W.seen)])∧(∀(a m:Nat)(zs:af)(i:Nat)(x:Int),yt a m zs i x=[(2,.pv (.ptr a 0)),(3,.pv (.ptr (a+1) 0)),(5,.own true 1 (am zs)),(6,.pv (.fn (.func 234) [] [.ptr (a+1) 0,.ptr a 0])),(8,.pv (.ptr m 0)),(13,.pv (ak x)),(22,.al (.slot 5)),(23,.pv (ak zs.length)),(24,.pv (ak i))])∧(∀b k n s:Nat,a8 b k n (.slot s)=false)∧∀b k n b' k':Nat,a8 b k n (.cell b' k')=(b==b'&&decide (k<=k')&&decide (k'<k+n)):=⟨λ_=>rfl,λ_ _ _=>rfl,λ_ _ _ _ _=>rfl,λ_ _ _ _=>rfl,λ_ _ _ _ _=>rfl⟩
set_option maxRecDepth 32000 in
set_option maxHeartbeats 8000000 in
theorem Jg(h:ao)(bw ba bt:Nat)(mp:cg)(mb:List (Int×By))(A:Ar)(T:Tr)(S:WS)(L:LayW h bw ba bt mp mb A T S)(l:Int)(zs:af)(cG:lk S.byl l=some zs)(cF:zs.length<=1000000)(J:Nat->WS->Tr->Prop)(cj:J 0 S T)
    (hJ:∀i S' T',J i S' T'->∀(hi:i<zs.length),∃p,StepOk S' T' l zs[i] p∧(sS T' l p=false->J (i+1) (qG S' T' l zs[i] p) (rS T' l zs[i] p))):
    aI prog 157 [.ptr bw 0,ak l] h (λr h'=>r=.pv (ak (jk l zs S T).2.2)∧∃mb',LayW h' bw ba bt mp mb' A (jk l zs S T).2.1 (jk l zs S T).1∧Ext h h' (bA bw bt mp mb) (bA bw bt mp mb')):=by
  refine dh [1,6,7,14,15,18] [.tmp 4] aP func157 ?_
  obtain⟨e,he,⟨sp,e1,f,e3,e4,e5⟩,e6,e7,e8⟩:=L.some_b cG
  obtain⟨G,hG⟩:∃G,G=h++[[SV.pv (.ptr bw 0)],[SV.pv (ak l)]]:=⟨_,rfl⟩
  have L0:LayW G bw ba bt mp mb A T S:=by rw[hG];exact L.app _
  have E0:Ext h G (bA bw bt mp mb) (bA bw bt mp mb):=by rw[hG];exact Ext.app _ _ _
  have bV:G[h.length]?=some [.pv (.ptr bw 0)]:=by rw[hG];simp
  have bW:G[h.length+1]?=some [.pv (ak l)]:=by rw[hG];simp
  have aq:∀b,h.length<=b->¬bA bw bt mp mb b:=λb hb hd=>by
    have lt:∀{c:Nat}{x:bj},h[c]?=some x->c<h.length:=λhx=>(Vp.1 hx).1
    rcases hd with q|q|⟨k,q⟩|⟨l',e',q,rfl⟩
    · have:=lt L.w;omega
    · have:=lt L.t;omega
    · obtain⟨_,_,a2,_⟩:=L.pr k b q;have:=lt a2;omega
    · obtain⟨_,_,⟨_,a2,_⟩,_⟩:=L.by' l' e' q;have:=lt a2;omega
  obtain⟨w1,w2⟩:=Vp.1 L0.w
  obtain⟨a1,a2⟩:=Vp.1 bV
  obtain⟨b1,b2⟩:=Vp.1 bW
  have hcl:=dy zs cF
  have cq:G[e.b]?=some (aN zs++sp):=by rw[hG,Vv (Vp.1 e1).1,e1]
  have cs:tI (bE G 3 e.b 0) 1 e.n=.seq false 1 (am zs):=by rw[←e3];exact Ac G e.b zs sp cq 2
  have ch:jk l zs S T=jk l (zs.drop 0) S T:=rfl
  generalize jk l zs S T=Z at*
  simp
  rw[←hG]
  refine bP.meet Aj ⟨[(2,.pv (.ptr h.length 0)),(3,.pv (.ptr (h.length+1) 0)),(5,.own true 1 (am zs))],G⟩ (by kernel_rfl) ?_ ?_
  · simp[Aj,w1,w2,cW,a1,a2,b1,b2,he,JI,cs]
    and_intros
    all_goals
      refine ay.introP hcl ?_
      simp
      exact av.keep (by simp) rfl
  simp
  refine aM.intro (S:=λ(x:Nat×ao×List (Int×By)×WS×Tr)=>⟨[(2,.pv (.ptr h.length 0)),(3,.pv (.ptr (h.length+1) 0)),(5,.own true 1 (am zs)),(6,.pv (.fn (.func 234) [] [.ptr (h.length+1) 0,.ptr h.length 0])),(22,.al (.slot 5)),(23,.pv (ak zs.length)),(24,.pv (ak x.1))],x.2.1⟩)
    (λx=>x.1<=zs.length∧LayW x.2.1 bw ba bt mp x.2.2.1 A x.2.2.2.2 x.2.2.2.1∧J x.1 x.2.2.2.1 x.2.2.2.2∧Ext G x.2.1 (bA bw bt mp mb) (bA bw bt mp x.2.2.1)∧Z=jk l (zs.drop x.1) x.2.2.2.1 x.2.2.2.2)
    (λx=>zs.length -x.1) (0,G,mb,S,T) ?_ ⟨VH _,L0,cj,Ext.refl _ _,ch⟩ ?_
  · exact av.keep (by simp) rfl
  rintro⟨i,H,mb',S',T'⟩ ⟨hi,LH,bF,hE,hZ⟩
  dsimp only at hi LH bF hE hZ
  have cY:G.length=h.length+2:=by rw[hG];simp
  have cH:H[h.length]?=some [.pv (.ptr bw 0)]:=by rw[hE.same h.length (by omega) (aq _ (Vu _)),bV]
  have cI:H[h.length+1]?=some [.pv (ak l)]:=by rw[hE.same (h.length+1) (by omega) (aq _ (by omega)),bW]
  have ad:∀b,h.length<=b->b<G.length->¬bA bw bt mp mb' b:=λb hb cl hd=>aq b hb (hE.sub b cl hd)
  by_cases d:i<zs.length
  rotate_left
  · have:i=zs.length:=by omega
    subst this
    rw[VS (Vu _),jk]at hZ
    subst hZ
    simp
    exact⟨mb',LH,E0.trans hE⟩
  have a4:bG ((i:Int)+1)=((i+1:Nat):Int):=by rw[aC (by omega) (by omega)];omega
  have hq:zs[i]?=some zs[i]:=Vq d
  obtain⟨p,K,V⟩:=hJ i S' T' bF d
  rw[V3 d,jk,K.hp]at hZ
  simp only at hZ
  obtain⟨k,bO⟩:∃k,zs[i]=k:=⟨_,rfl⟩
  rw[bO]at K V hZ hq
  obtain⟨b,hb,q1,q2,q3,q4⟩:=LH.some_p K.hp
  -- the number is boxed
  obtain⟨N,ai⟩:∃N,N=H++[[SV.pv (ak k)]]:=⟨_,rfl⟩
  have L2:LayW N bw ba bt mp mb' A T' S':=by rw[ai];exact LH.app _
  have E2:Ext H N (bA bw bt mp mb') (bA bw bt mp mb'):=by rw[ai];exact Ext.app _ _ _
  have lt:∀{c:Nat}{x:bj},H[c]?=some x->c<H.length:=λhx=>(Vp.1 hx).1
  have up:∀{c:Nat}{x:bj},H[c]?=some x->N[c]?=some x:=λhx=>by rw[ai,Vv (lt hx),hx]
  have aA:N[H.length]?=some [.pv (ak k)]:=by rw[ai];simp
  have aD:=up cH
  have a9:=up cI
  have bX:=up q1
  have F:¬bA bw bt mp mb' H.length:=λhd=>by
    rcases hd with q|q|⟨k',q⟩|⟨l',e',q,qe⟩
    · have:=lt LH.w;omega
    · have:=lt LH.t;omega
    · obtain⟨_,_,a2,_⟩:=LH.pr k' _ q;have:=lt a2;omega
    · obtain⟨_,_,⟨_,a2,_⟩,_⟩:=LH.by' l' e' q;have:=lt a2;omega
  obtain⟨w3,w4⟩:=Vp.1 L2.w
  obtain⟨c1,c2⟩:=Vp.1 aD
  obtain⟨d1,d2⟩:=Vp.1 a9
  obtain⟨f1,f2⟩:=Vp.1 aA
  obtain⟨g1,g2⟩:=Vp.1 bX
  obtain⟨Q,E⟩:∃Q:Nat,Q=if p.x=l then 0 else 1:=⟨_,rfl⟩
  have bR:D4 [p.x,p.y] l=(Q:Int):=by
    unfold D4
    by_cases c:p.x=l
    · rw[E,Vt c]
      exact d0 (i:=0) (by simp) (λj hj h=>by omega) (by simp[c])
    · rw[E,Vs c]
      exact d0 (i:=1) (by simp) (λj hj h=>by cases(show j=0 by omega);simp[c]) (by simp[K.two.resolve_left c])
  have bD:=Bi [p.x,p.y] l (by simp)
  rw[bR]at bD
  have bN:tI (bE N 3 b 1) 1 2=.seq false 1 (am [p.x,p.y]):=by
    have e0:N.getD b []=rP p:=by rw[Vr,bX];rfl
    simp only[bE,e0,rP,lu]
    simp[tI,frzC,am]
  simp[d,bO]
  rw[←ai]
  refine bP.meet MD ⟨[(2,.pv (.ptr h.length 0)),(3,.pv (.ptr (h.length+1) 0)),(5,.own true 1 (am zs)),(6,.pv (.fn (.func 234) [] [.ptr (h.length+1) 0,.ptr h.length 0])),(22,.al (.slot 5)),(23,.pv (ak zs.length)),(24,.pv (ak i)),(8,.pv (.ptr H.length 0)),(9,.pv (.ptr b 0))],N⟩ (by kernel_rfl) ?_ ?_
  · simp[MD,w3,w4,cW,c1,c2,d1,d2,f1,f2,hb,wW]
    and_intros
    all_goals exact av.keep (by simp) rfl
  simp
  refine bP.arr [] ME (λ_:Unit=>⟨[(2,.pv (.ptr h.length 0)),(3,.pv (.ptr (h.length+1) 0)),(5,.own true 1 (am zs)),(6,.pv (.fn (.func 234) [] [.ptr (h.length+1) 0,.ptr h.length 0])),(22,.al (.slot 5)),(23,.pv (ak zs.length)),(24,.pv (ak i)),(8,.pv (.ptr H.length 0)),(9,.pv (.ptr b 0)),(10,.pv (ak Q))],N⟩) (λ_=>True) (by kernel_rfl) ?_ ?_
  · simp[ME,w3,w4,cW,c1,c2,d1,d2,f1,f2,g1,g2,rP,lu,bN]
    refine ay.introP bD ?_
    simp
    exact av.keep (by simp) rfl
  rintro _ _
  have c4:Q<=1:=by rw[E];split<;>omega
  have cB:bG (1 -(Q:Int))=((1 -Q:Nat):Int):=by rw[aC (by omega) (by omega)];omega
  have cD:((1 -Q:Nat):Int)<2:=by omega
  have W:1+(1 -Q)<3:=by omega
  have aV:∀hh:1+(1 -Q)<[SV.pv (.seq false 1 (am p.lits)),SV.pv (ak p.x),SV.pv (ak p.y)].length,[SV.pv (.seq false 1 (am p.lits)),SV.pv (ak p.x),SV.pv (ak p.y)][1+(1 -Q)]'hh=SV.pv (ak (rQ l p)):=λhh=>by
    unfold rQ
    by_cases c:p.x=l
    · rw[Vt c]at E
      subst E
      rw[Vt c];rfl
    · rw[Vs c]at E
      subst E
      rw[Vs c];rfl
  simp[cB,cD,W,g1,g2,rP,lu,aV]
  have kO:=λx=>MF N bw ba bt h.length ⟨mp,mb',S'.late,S'.head,S'.seen⟩ T' L2.w L2.t K.ok l aD a9 x (rQ l p)
  have cy:oz T' l p=(p.lits.drop 0).find? (Q0 T' l (rQ l p)):=rfl
  refine aM.intro (S:=λ(j:Nat)=>⟨[(2,.pv (.ptr h.length 0)),(3,.pv (.ptr (h.length+1) 0)),(5,.own true 1 (am zs)),(6,.pv (.fn (.func 234) [] [.ptr (h.length+1) 0,.ptr h.length 0])),(22,.al (.slot 5)),(23,.pv (ak zs.length)),(24,.pv (ak i)),(8,.pv (.ptr H.length 0)),(9,.pv (.ptr b 0)),(10,.pv (ak Q)),(11,.pv (ak (rQ l p))),(50,.pv (.seq false 1 (am p.lits))),(51,.pv (ak p.lits.length)),(52,.pv (ak j))],N⟩)
    (λj=>j<=p.lits.length∧oz T' l p=(p.lits.drop j).find? (Q0 T' l (rQ l p))) (λj=>p.lits.length -j) 0 ?_ ⟨VH _,cy⟩ ?_
  · exact av.keep (by simp) rfl
  rintro j ⟨hj,u⟩
  have cw:=K.lits
  by_cases dj:j<p.lits.length
  · have cC:=dU j
    have cz:p.lits[j]?=some p.lits[j]:=Vq dj
    rw[V3 dj,List.find?_cons]at u
    simp[dj,cz]
    refine ay.intro (kO p.lits[j]) ?_
    rintro _ H3 ⟨bg,rfl⟩
    rw[bg]
    clear bg H3
    cases ho:Q0 T' l (rQ l p) p.lits[j]
    · rw[ho]at u
      simp only at u
      simp
      exact⟨j+1,by(try dsimp only);omega,⟨by(try dsimp only);omega,u⟩,av.keep (by simp[cC]) rfl⟩
    · rw[ho]at u
      simp only at u
      have ct:(Q:Int)<2:=by omega
      have cu:Q+1<=2:=by omega
      simp[ct,cu,g1,g2,rP,lu]
      refine⟨by omega,?_⟩
      have aQ:List.take (1+Q) [SV.pv (PV.seq false 1 (am p.lits)),SV.pv (ak p.x),SV.pv (ak p.y)]++SV.pv (ak p.lits[j])::List.drop (1+Q) [SV.pv (ak p.x),SV.pv (ak p.y)]=rP (kX l p p.lits[j]):=by
        unfold kX
        by_cases c:p.x=l
        · rw[Vt c]at E
          subst E
          rw[Vt c];rfl
        · rw[Vs c]at E
          subst E
          rw[Vs c];rfl
      rw[aQ]
      clear aQ
      have eS:qG S' T' l k p=tU S' k l p p.lits[j]:=by unfold qG;rw[u]
      have eT:rS T' l k p=T':=by unfold rS;rw[u]
      have eB:sS T' l p=false:=by unfold sS;rw[u]
      rw[Vs (by rw[eB];simp)]at hZ
      have V:=V eB
      rw[eS,eT]at hZ V
      generalize p.lits[j]=x at*
      have L6:=L2.setP hb (kX l p x) (L2.keys.trans (fW _ K.hp).symm)
      have E6:=Ext.set (h:=N) (D:=bA bw bt mp mb') b (rP (kX l p x)) (.inr (.inr (.inl ⟨k,hb⟩)))
      have n2:¬bA bw bt mp mb' h.length:=ad _ (Vu _) (by omega)
      have n3:¬bA bw bt mp mb' (h.length+1):=ad _ (by omega) (by omega)
      generalize cZ:N.set b (rP (kX l p x))=H6 at*
      have aF:H6[h.length]?=some [.pv (.ptr bw 0)]:=by rw[E6.same h.length c1 n2,aD]
      have aG:H6[h.length+1]?=some [.pv (ak l)]:=by rw[E6.same (h.length+1) d1 n3,a9]
      have an:H6[H.length]?=some [.pv (ak k)]:=by rw[E6.same H.length f1 F,aA]
      obtain⟨b8,b9⟩:=Vp.1 L6.w
      obtain⟨bh,ca⟩:=Vp.1 aF
      obtain⟨cb,cc⟩:=Vp.1 aG
      obtain⟨bi,cf⟩:=Vp.1 an
      obtain⟨z9,a5,bT⟩:=K.byl
      obtain⟨s,aW,⟨aE,b5,b6,b7,cT,cU⟩,ae,cV,cX⟩:=L6.some_b (show lk S'.byl l=some z9 from a5)
      have aR:z9.length<=1000000:=K.hz l z9 a5
      have a0:0<z9.length:=WJ.2 bT
      have O:bA bw bt mp mb' s.b:=.inr (.inr (.inr ⟨l,s,aW,rfl⟩))
      have aL:H.length≠s.b:=λq=>F (q▸O)
      have bK:s.b≠h.length:=λq=>n2 (q▸O)
      have bL:s.b≠h.length+1:=λq=>n3 (q▸O)
      have aw:=j8 z9 aR 236 [.iptr 1 [[ak k]] 0 0] (λq=>decide (q=k)) (λr=>by simp) rfl (λm=>by simp) (by simp) (λq _=>MG q k)
      have aK:(bq (λq=>decide (q=k)) z9).length<=z9.length:=j7 _ _
      obtain⟨M,bJ⟩:∃M,M=bq (λq=>decide (q=k)) z9:=⟨_,rfl⟩
      unfold Oq at aw
      rw[←bJ]at aw aK
      obtain⟨X9,aT⟩:∃X:bj,X=(M++List.replicate (z9.length -M.length) 0).map (λz=>SV.pv (.lit (.int .i64 z)))++aE:=⟨_,rfl⟩
      have bI:X9=aN M++((List.replicate (z9.length -M.length) 0).map (λz=>SV.pv (.lit (.int .i64 z)))++aE):=by
        rw[aT,V1,VV];rfl
      have L7:=L6.setB aW M ((List.replicate (z9.length -M.length) 0).map (λz=>SV.pv (.lit (.int .i64 z)))++aE) (λm=>o9 m (b6 m) _) M.length rfl (by omega) (by simp;omega)
      rw[←bI]at L7
      have E7:Ext H6 ((H6.set s.b X9).set bw (cW ba bt ⟨mp,pt mb' l ⟨s.b,M.length,s.cp⟩,S'.late,S'.head,S'.seen⟩)) (bA bw bt mp mb') (bA bw bt mp (pt mb' l ⟨s.b,M.length,s.cp⟩)):=by
        refine(((Ext.set s.b X9 O).trans (Ext.set bw _ (.inl rfl))).dom ?_)
        rintro c _ (q|q|q|⟨l',e',q,rfl⟩)
        · exact .inl q
        · exact .inr (.inl q)
        · exact .inr (.inr (.inl q))
        · rw[cm]at q
          split at q
          · cases q;exact O
          · exact .inr (.inr (.inr ⟨l',e',q,rfl⟩))
      obtain⟨H7a,C⟩:∃H7a,H7a=H6.set s.b X9:=⟨_,rfl⟩
      rw[←C]at L7 E7
      have aJ:H7a[bw]?=some (cW ba bt ⟨mp,mb',S'.late,S'.head,S'.seen⟩):=by rw[C,VL ae];exact L6.w
      have ag:H7a[h.length]?=some [.pv (.ptr bw 0)]:=by rw[C,VL bK,aF]
      have aH:H7a[h.length+1]?=some [.pv (ak l)]:=by rw[C,VL bL,aG]
      have ah:H7a[H.length]?=some [.pv (ak k)]:=by rw[C,VL aL.symm,an]
      obtain⟨bk,bl⟩:=Vp.1 aJ
      obtain⟨bm,bn⟩:=Vp.1 ag
      obtain⟨bo,bp⟩:=Vp.1 aH
      obtain⟨br,bs⟩:=Vp.1 ah
      have fF:=And.intro TO (And.intro b8 (And.intro b9 (And.intro bh (And.intro ca (And.intro cb (And.intro cc (And.intro bi (And.intro cf (And.intro bk (And.intro bl (And.intro bm (And.intro bn (And.intro bo (And.intro bp (And.intro br (And.intro bs (And.intro aW (And.intro ae ae.symm))))))))))))))))))
      refine bP.tab [] ⟨[some (66,.pv (.ptr bw 0)),some (67,.pv (.ptr bw 0)),some (68,.pv (.ptr bw 3)),some (69,.al (.cell bw 3)),some (70,.pv (ak l)),some (71,.pv (.ptr bw 0)),some (72,.pv (.ptr bw 0)),some (73,.pv (.ptr bw 3)),some (74,.al (.cell bw 3)),some (75,.pv (ak l)),some (76,.pv (.bsl s.b 1 0 s.n s.cp)),some (77,.pv (.fn (.func 236) [] [.ptr H.length 0])),some (78,.pv (.bsl s.b 1 0 M.length s.cp)),none],[(2,.pv (.ptr h.length 0)),(3,.pv (.ptr (h.length+1) 0)),(5,.own true 1 (am zs)),(6,.pv (.fn (.func 234) [] [.ptr (h.length+1) 0,.ptr h.length 0])),(8,.pv (.ptr H.length 0)),(13,.pv (ak x)),(22,.al (.slot 5)),(23,.pv (ak zs.length)),(24,.pv (ak i))],[[],[0],[1],[2],[],[],[5],[6],[7],[],[8,9],[],[10,11],[3,4,12]],[12,13],[[0,1],[0,1],[0,1],[0,1],[0,1],[0,1],[0,1],[0],[0],[0],[0],[0],[0],[1]],[],λ|0=>H6|1=>H7a|_=>H7a.set bw (cW ba bt ⟨mp,pt mb' l ⟨s.b,M.length,s.cp⟩,S'.late,S'.head,S'.seen⟩)⟩ ⟨[(2,.pv (.ptr h.length 0)),(3,.pv (.ptr (h.length+1) 0)),(5,.own true 1 (am zs)),(6,.pv (.fn (.func 234) [] [.ptr (h.length+1) 0,.ptr h.length 0])),(8,.pv (.ptr H.length 0)),(13,.pv (ak x)),(22,.al (.slot 5)),(23,.pv (ak zs.length)),(24,.pv (ak i))],H7a.set bw (cW ba bt ⟨mp,pt mb' l ⟨s.b,M.length,s.cp⟩,S'.late,S'.head,S'.seen⟩)⟩ (by kernel_rfl) (by simp[yt,bZ]) rfl ?_ (λt h1 g=>?_) ?_
      · simp only[Tb.steps,NW,Tb.lvA,Tb.dpA,Eb,xP,Xv,XT,dB,fP,pK,lD,gB,gq,Oc,jX,mE,Wu,XK,Yr,ZJ,YQ,ZS,ZR,XJ,Yd,We,WM]
        and_intros
        all_goals first|trivial|(intro t h1 g;simp only[yt,bZ,Wh,V8]at h1;simp[fF,yt,h1,g,Tb.postL,Tb.wth,zM,xP,bZ,cQ]<;>and_intros<;>first|omega|(intro e;simp[fF,yt,e]))|(intro t h1 g;simp only[yt,bZ,Wh,V8]at h1;simp[fF,yt,h1,g,Tb.postL,Tb.wth,zM,xP,bZ,cQ])
        · refine ay.introX (cd.introT (b:=s.b) (b2:=H.length) (zs:=z9) (sp:=aE) (cp:=s.cp) aw (by simp[h1,g]) (by simp[h1,g]) rfl (by simp[h1,g]) (by simp[b7,h1,g]) (by simp[h1,g]) (by simp[h1,g]) b5 an aL a0 aR ?_)
          rintro _ _ ⟨rfl,rfl⟩
          refine⟨_,_,rfl,rfl,by simp;omega,aK,?_⟩
          rw[←aT,←C]
          simp[fF,yt,ae,ae.symm,a8,h1,g,Tb.postL,Tb.wth,zM,xP,bZ,cQ]<;>and_intros<;>(intro e;simp[fF,a8,e])
      · simp only[yt,bZ,Wh,V8]at h1 g;simp[NX]at g;exact av.keep (by simp[yt,h1,g]) rfl
      have cr:fu S'.byl k l=pt S'.byl l M:=by unfold fu;rw[Vs K.l0,a5,V7,bJ]
      have ab:(H7a.set bw (cW ba bt ⟨mp,pt mb' l ⟨s.b,M.length,s.cp⟩,S'.late,S'.head,S'.seen⟩))[h.length]?=some [.pv (.ptr bw 0)]:=by rw[VL (λq=>n2 (.inl q.symm)),ag]
      have bB:(H7a.set bw (cW ba bt ⟨mp,pt mb' l ⟨s.b,M.length,s.cp⟩,S'.late,S'.head,S'.seen⟩))[H.length]?=some [.pv (ak k)]:=by rw[VL (λq=>F (.inl q.symm)),ah]
      rw[←cr]at L7
      have cE:=wg (k:=k) (l:=l) K.hz
      clear fF bk bl bm bn bo bp br bs aJ ag aH ah C aw aT bI
      generalize pt mb' l ⟨s.b,M.length,s.cp⟩=a at*
      generalize H7a.set bw (cW ba bt ⟨mp,a,S'.late,S'.head,S'.seen⟩)=I at*
      have n7:¬bA bw bt mp a h.length:=λq=>n2 (E6.sub _ c1 (E7.sub _ bh q))
      have c6:¬bA bw bt mp a H.length:=λq=>F (E6.sub _ f1 (E7.sub _ bi q))
      obtain⟨ar,bu⟩:=Vp.1 L7.w
      obtain⟨au,bv⟩:=Vp.1 ab
      obtain⟨bx,bz⟩:=Vp.1 bB
      obtain⟨JE,ax⟩:∃JE:ao->List (Int×By)->Prop,∀Y m,JE Y m↔(LayW Y bw ba bt mp m A T' (tU S' k l p x)∧Ext I Y (bA bw bt mp a) (bA bw bt mp m)):=⟨_,λ_ _=>Iff.rfl⟩
      have dom:∀e',(∀c,c<I.length->e'.b=c->∃l0 e0,lk a l0=some e0∧e0.b=c)->∀c,c<I.length->bA bw bt mp (pt a x e') c->bA bw bt mp a c:=λe' cn c hc q=>by
        rcases q with q|q|q|⟨l',f,q,q2⟩
        · exact .inl q
        · exact .inr (.inl q)
        · exact .inr (.inr (.inl q))
        · rw[cm]at q
          split at q
          · cases q;exact .inr (.inr (.inr (cn c hc q2)))
          · exact .inr (.inr (.inr ⟨l',f,q,q2⟩))
      have aO:∀(v:ao×List (Int×By)),JE v.1 v.2->LayW v.1 bw ba bt mp v.2 A T' (tU S' k l p x)∧Ext G v.1 (bA bw bt mp mb) (bA bw bt mp v.2):=λv hj=>by
        obtain⟨j1,j2⟩:=(ax _ _).1 hj
        exact⟨j1,(hE.trans E2).trans ((E6.trans E7).trans j2)⟩
      simp
      cases P:lk a x with
      |none=>
        have ck:=L7.byn x P
        have aB:tU S' k l p x=⟨pt S'.prs k (kX l p x),pt (fu S'.byl k l) x [k],S'.late,S'.head,S'.seen⟩:=by
          unfold tU iQ
          rw[show lk (fu S'.byl k l) x=none from ck];rfl
        have bQ:∀cap,1<=cap->(I++[SV.pv (ak k)::List.replicate (cap -1) (SV.pv .bot)])[bw]?=some (cW ba bt ⟨mp,a,S'.late,S'.head,S'.seen⟩)∧(I++[SV.pv (ak k)::List.replicate (cap -1) (SV.pv .bot)])[h.length]?=some [.pv (.ptr bw 0)]∧JE ((I++[SV.pv (ak k)::List.replicate (cap -1) (SV.pv .bot)]).set bw (cW ba bt ⟨mp,pt a x ⟨I.length,1,cap⟩,S'.late,S'.head,S'.seen⟩)) (pt a x ⟨I.length,1,cap⟩):=λcap hc=>by
          refine⟨by rw[Vv ar];exact L7.w,by rw[Vv au,ab],(ax _ _).2 ⟨?_,?_⟩⟩
          · rw[aB]
            exact L7.newB x [k] (List.replicate (cap -1) (SV.pv .bot)) (λm=>jj m _) 1 cap rfl hc (by simp;omega)
          · refine(((Ext.app I [SV.pv (ak k)::List.replicate (cap -1) (SV.pv .bot)] _).trans (Ext.set bw _ (.inl rfl))).dom (dom _ λc hc e=>?_))
            simp only at e;omega
        have U:=And.intro TO (And.intro ar (And.intro bu (And.intro au (And.intro bv (And.intro bx (And.intro bz P))))))
        refine bP.tab2 [92] ⟨[some (79,.pv (.ptr bw 0)),some (80,.pv (.ptr bw 0)),some (81,.pv (.ptr bw 3)),some (82,.al (.cell bw 3)),some (83,.pv (ak x)),some (84,.pv (.ptr bw 0)),some (85,.pv (.ptr bw 0)),some (86,.pv (.ptr bw 3)),some (87,.al (.cell bw 3)),some (88,.pv (ak x)),some (89,.pv (.lit (.slice none 0 0))),some (90,.pv (ak k)),some (91,.own true 1 [[ak k]]),none,none],[(2,.pv (.ptr h.length 0)),(3,.pv (.ptr (h.length+1) 0)),(5,.own true 1 (am zs)),(6,.pv (.fn (.func 234) [] [.ptr (h.length+1) 0,.ptr h.length 0])),(8,.pv (.ptr H.length 0)),(13,.pv (ak x)),(22,.al (.slot 5)),(23,.pv (ak zs.length)),(24,.pv (ak i))],[[],[0],[1],[2],[],[],[5],[6],[7],[],[8,9],[],[11],[10,12],[3,4,13]],[13,14],[[0,1],[0,1],[0,1],[0,1],[0,1],[0,1],[0,1],[0],[0],[0],[0],[0],[0],[0],[1]],[(13,91)],λ_=>I⟩ (λq:ao×By=>[some (79,.pv (.ptr bw 0)),some (80,.pv (.ptr bw 0)),some (81,.pv (.ptr bw 3)),some (82,.al (.cell bw 3)),some (83,.pv (ak x)),some (84,.pv (.ptr bw 0)),some (85,.pv (.ptr bw 0)),some (86,.pv (.ptr bw 3)),some (87,.al (.cell bw 3)),some (88,.pv (ak x)),some (89,.pv (.lit (.slice none 0 0))),some (90,.pv (ak k)),some (91,.own true 1 [[ak k]]),some (92,.pv (.bsl q.2.b 1 0 q.2.n q.2.cp)),none]) (λq:ao×By=>λ|1=>q.1|_=>q.1.set bw (cW ba bt ⟨mp,pt a x q.2,S'.late,S'.head,S'.seen⟩)) (λq:ao×By=>q.1[bw]?=some (cW ba bt ⟨mp,a,S'.late,S'.head,S'.seen⟩)∧q.1[h.length]?=some [.pv (.ptr bw 0)]∧JE (q.1.set bw (cW ba bt ⟨mp,pt a x q.2,S'.late,S'.head,S'.seen⟩)) (pt a x q.2)) 13 0 [13,14] (by kernel_rfl) (λ_=>by kernel_rfl) rfl (by kernel_rfl) (λ_=>by simp[TB]) (by simp[bZ]) rfl ?_ ?_
        · simp only[Tb.steps2,NW,Tb.lvA,Tb.dpA,Eb,xP,Xv,XT,dB,fP,pK,lD,gB,gq,Oc,jX,mE,Wu,XK,Yr,ZJ,YQ,ZS,ZR,XJ,Yd,We,WM]
          simp only[Nat.reduceLeDiff,Nat.reduceEqDiff,Nat.reduceAdd,Xl,WM,Vu,VH]
          and_intros
          all_goals first|trivial|(intro t h1 g;simp only[bZ,Wh,V8]at h1;simp[U,yt,h1,g,Tb.postL,Tb.wth,zM,xP,bZ,cQ]<;>and_intros<;>first|omega|(intro e;simp[U,yt,e]))|(rintro t h1 q hy g;simp only[bZ,Wh,V8]at h1;obtain⟨yw,yb,yj⟩:=hy;obtain⟨bd,be⟩:=Vp.1 yw;obtain⟨bb,bc⟩:=Vp.1 yb;simp[TO,yt,bd,be,bb,bc,h1,g,Tb.postL,Tb.wth,zM,xP,bZ,cQ]<;>and_intros<;>first|omega|(intro e;simp[U,yt,e]))|skip
          · intro t h1 g;simp only[bZ,Wh,V8]at h1
            simp[-Prod.exists,U,yt,h1,g]
            intro cap hc
            refine⟨(_,⟨I.length,1,cap⟩),bQ cap hc,?_⟩
            simp[U,h1,g,Tb.postL,Tb.wth,zM,xP,bZ,cQ]<;>and_intros<;>(intro e;simp[U,e])
        · rintro q hy t h1 g
          simp only[bZ,Wh,V8]at h1;simp[NX]at g
          obtain⟨v,W⟩:∃v:ao×List (Int×By),v=(q.1.set bw (cW ba bt ⟨mp,pt a x q.2,S'.late,S'.head,S'.seen⟩),pt a x q.2):=⟨_,rfl⟩
          refine⟨_,av.keep (t1:=[(2,.pv (.ptr h.length 0)),(3,.pv (.ptr (h.length+1) 0)),(5,.own true 1 (am zs)),(6,.pv (.fn (.func 234) [] [.ptr (h.length+1) 0,.ptr h.length 0])),(8,.pv (.ptr H.length 0)),(13,.pv (ak x)),(22,.al (.slot 5)),(23,.pv (ak zs.length)),(24,.pv (ak i))]) (h1:=v.1) (by simp[h1,g]) (by rw[W];rfl),?_⟩
          have aZ:JE v.1 v.2:=by rw[W];exact hy.2.2
          obtain⟨j1,j2⟩:=aO v aZ
          simp
          exact⟨(i+1,v.1,v.2,tU S' k l p x,T'),by dsimp only;omega,⟨by dsimp only;omega,j1,V,j2,hZ⟩,av.keep (by simp[a4]) rfl⟩
      |some f=>
        obtain⟨B,bU,⟨o,b3,b4,aS,cO,cP⟩,a7,cR,cS⟩:=L7.by' x f P
        obtain⟨cK,cL⟩:=Vp.1 b3
        have aB:tU S' k l p x=⟨pt S'.prs k (kX l p x),pt (fu S'.byl k l) x (B++[k]),S'.late,S'.head,S'.seen⟩:=by
          unfold tU iQ
          rw[show lk (fu S'.byl k l) x=some B from bU];rfl
        have aY:(aN B).length=f.n:=by rw[eW];exact aS
        have c5:f.n<=1000000:=by rw[←aS];exact cE x B bU
        have bM:bA bw bt mp a f.b:=.inr (.inr (.inr ⟨x,f,P,rfl⟩))
        have cJ:f.b≠h.length:=λq=>n7 (q▸bM)
        have bf:∀m (s0:bj),cA m s0->cA m (s0.drop 1):=λm s0 bS=>by cases s0 with|nil=>exact bS|cons _ _=>exact bS.2
        have c3:(aN B++o).length=f.n+o.length:=by rw[Vz,aY]
        have az:(aN B++o).take f.n=aN B:=Xw aY
        have bH:(aN B++o).take f.n=(B.map λz=>PV.lit (.int .i64 z)).map SV.pv:=by rw[az];unfold aN;rw[Wo];rfl
        have aj:∀R:bj,aN (B++[k])++R=aN B++SV.pv (ak k)::R:=λR=>by unfold aN;rw[V1,VV];rfl
        have bC:(aN B++o).drop (f.n+1)=o.drop 1:=by rw[←aY,ZG];simp
        have a3:f.n+1<=f.cp->(I.set f.b (List.take f.n (aN B++o)++SV.pv (ak k)::List.drop (f.n+1) (aN B++o)))[bw]?=some (cW ba bt ⟨mp,a,S'.late,S'.head,S'.seen⟩)∧(I.set f.b (List.take f.n (aN B++o)++SV.pv (ak k)::List.drop (f.n+1) (aN B++o)))[h.length]?=some [.pv (.ptr bw 0)]∧
            JE ((I.set f.b (List.take f.n (aN B++o)++SV.pv (ak k)::List.drop (f.n+1) (aN B++o))).set bw (cW ba bt ⟨mp,pt a x ⟨f.b,f.n+1,f.cp⟩,S'.late,S'.head,S'.seen⟩)) (pt a x ⟨f.b,f.n+1,f.cp⟩):=λhr=>by
          refine⟨by rw[VL a7];exact L7.w,by rw[VL cJ,ab],(ax _ _).2 ⟨?_,?_⟩⟩
          · rw[az,bC,←aj,aB]
            exact L7.setB P (B++[k]) (o.drop 1) (λm=>bf m o (b4 m)) (f.n+1) (by simp;omega) hr (by rw[Wf];omega)
          · refine(((Ext.set f.b _ bM).trans (Ext.set bw _ (.inl rfl))).dom (dom _ λc hc q=>?_))
            exact⟨x,f,P,q⟩
        have aX:∀cap,f.n+1<=cap->(I++[(B.map λz=>PV.lit (.int .i64 z)).map SV.pv++SV.pv (ak k)::List.replicate (cap -(f.n+1)) (SV.pv .bot)])[bw]?=some (cW ba bt ⟨mp,a,S'.late,S'.head,S'.seen⟩)∧(I++[(B.map λz=>PV.lit (.int .i64 z)).map SV.pv++SV.pv (ak k)::List.replicate (cap -(f.n+1)) (SV.pv .bot)])[h.length]?=some [.pv (.ptr bw 0)]∧
            JE ((I++[(B.map λz=>PV.lit (.int .i64 z)).map SV.pv++SV.pv (ak k)::List.replicate (cap -(f.n+1)) (SV.pv .bot)]).set bw (cW ba bt ⟨mp,pt a x ⟨I.length,f.n+1,cap⟩,S'.late,S'.head,S'.seen⟩)) (pt a x ⟨I.length,f.n+1,cap⟩):=λcap hc=>by
          refine⟨by rw[Vv ar];exact L7.w,by rw[Vv au,ab],(ax _ _).2 ⟨?_,?_⟩⟩
          · rw[aB,←bH,az,←aj]
            exact L7.newB x (B++[k]) (List.replicate (cap -(f.n+1)) (SV.pv .bot)) (λm=>jj m _) (f.n+1) cap (by simp;omega) hc (by simp;omega)
          · refine(((Ext.app I _ _).trans (Ext.set bw _ (.inl rfl))).dom (dom _ λc hc q=>?_))
            simp only at q;omega
        clear az bC aj
        generalize c0:aN B++o=Yc at*
        have U:=And.intro TO (And.intro ar (And.intro bu (And.intro au (And.intro bv (And.intro bx (And.intro bz (And.intro P (And.intro cK (And.intro cL (And.intro a7 a7.symm))))))))))
        refine bP.tab2 [92] ⟨[some (79,.pv (.ptr bw 0)),some (80,.pv (.ptr bw 0)),some (81,.pv (.ptr bw 3)),some (82,.al (.cell bw 3)),some (83,.pv (ak x)),some (84,.pv (.ptr bw 0)),some (85,.pv (.ptr bw 0)),some (86,.pv (.ptr bw 3)),some (87,.al (.cell bw 3)),some (88,.pv (ak x)),some (89,.pv (.bsl f.b 1 0 f.n f.cp)),some (90,.pv (ak k)),some (91,.own true 1 [[ak k]]),none,none],[(2,.pv (.ptr h.length 0)),(3,.pv (.ptr (h.length+1) 0)),(5,.own true 1 (am zs)),(6,.pv (.fn (.func 234) [] [.ptr (h.length+1) 0,.ptr h.length 0])),(8,.pv (.ptr H.length 0)),(13,.pv (ak x)),(22,.al (.slot 5)),(23,.pv (ak zs.length)),(24,.pv (ak i))],[[],[0],[1],[2],[],[],[5],[6],[7],[],[8,9],[],[11],[10,12],[3,4,13]],[13,14],[[0,1],[0,1],[0,1],[0,1],[0,1],[0,1],[0,1],[0],[0],[0],[0],[0],[0],[0],[1]],[(13,91)],λ_=>I⟩ (λq:ao×By=>[some (79,.pv (.ptr bw 0)),some (80,.pv (.ptr bw 0)),some (81,.pv (.ptr bw 3)),some (82,.al (.cell bw 3)),some (83,.pv (ak x)),some (84,.pv (.ptr bw 0)),some (85,.pv (.ptr bw 0)),some (86,.pv (.ptr bw 3)),some (87,.al (.cell bw 3)),some (88,.pv (ak x)),some (89,.pv (.bsl f.b 1 0 f.n f.cp)),some (90,.pv (ak k)),some (91,.own true 1 [[ak k]]),some (92,.pv (.bsl q.2.b 1 0 q.2.n q.2.cp)),none]) (λq:ao×By=>λ|1=>q.1|_=>q.1.set bw (cW ba bt ⟨mp,pt a x q.2,S'.late,S'.head,S'.seen⟩)) (λq:ao×By=>q.1[bw]?=some (cW ba bt ⟨mp,a,S'.late,S'.head,S'.seen⟩)∧q.1[h.length]?=some [.pv (.ptr bw 0)]∧JE (q.1.set bw (cW ba bt ⟨mp,pt a x q.2,S'.late,S'.head,S'.seen⟩)) (pt a x q.2)) 13 0 [13,14] (by kernel_rfl) (λ_=>by kernel_rfl) rfl (by kernel_rfl) (λ_=>by simp[TB]) (by simp[bZ]) rfl ?_ ?_
        · simp only[Tb.steps2,NW,Tb.lvA,Tb.dpA,Eb,xP,Xv,XT,dB,fP,pK,lD,gB,gq,Oc,jX,mE,Wu,XK,Yr,ZJ,YQ,ZS,ZR,XJ,Yd,We,WM]
          simp only[Nat.reduceLeDiff,Nat.reduceEqDiff,Nat.reduceAdd,Xl,WM,Vu,VH]
          and_intros
          all_goals first|trivial|(intro t h1 g;simp only[bZ,Wh,V8]at h1;simp[U,yt,h1,g,Tb.postL,Tb.wth,zM,xP,bZ,cQ]<;>and_intros<;>first|omega|(intro e;simp[U,yt,e]))|(rintro t h1 q hy g;simp only[bZ,Wh,V8]at h1;obtain⟨yw,yb,yj⟩:=hy;obtain⟨bd,be⟩:=Vp.1 yw;obtain⟨bb,bc⟩:=Vp.1 yb;simp[TO,yt,bd,be,bb,bc,h1,g,Tb.postL,Tb.wth,zM,xP,bZ,cQ]<;>and_intros<;>first|omega|(intro e;simp[U,yt,e]))|skip
          · intro t h1 g;simp only[bZ,Wh,V8]at h1
            simp[-Prod.exists,U,yt,h1,g]
            refine⟨by omega,by omega,_,bH,by simpa using aS,λhr=>?_,λhn cap hc=>?_⟩
            · refine⟨(_,⟨f.b,f.n+1,f.cp⟩),a3 hr,?_⟩
              simp[U,h1,g,Tb.postL,Tb.wth,zM,xP,bZ,cQ]<;>and_intros<;>(intro e;simp[U,e])
            · refine⟨(_,⟨I.length,f.n+1,cap⟩),aX cap hc,?_⟩
              simp[U,h1,g,Tb.postL,Tb.wth,zM,xP,bZ,cQ]<;>and_intros<;>(intro e;simp[U,e])
        · rintro q hy t h1 g
          simp only[bZ,Wh,V8]at h1;simp[NX]at g
          obtain⟨v,W⟩:∃v:ao×List (Int×By),v=(q.1.set bw (cW ba bt ⟨mp,pt a x q.2,S'.late,S'.head,S'.seen⟩),pt a x q.2):=⟨_,rfl⟩
          refine⟨_,av.keep (t1:=[(2,.pv (.ptr h.length 0)),(3,.pv (.ptr (h.length+1) 0)),(5,.own true 1 (am zs)),(6,.pv (.fn (.func 234) [] [.ptr (h.length+1) 0,.ptr h.length 0])),(8,.pv (.ptr H.length 0)),(13,.pv (ak x)),(22,.al (.slot 5)),(23,.pv (ak zs.length)),(24,.pv (ak i))]) (h1:=v.1) (by simp[h1,g]) (by rw[W];rfl),?_⟩
          have aZ:JE v.1 v.2:=by rw[W];exact hy.2.2
          obtain⟨j1,j2⟩:=aO v aZ
          simp
          exact⟨(i+1,v.1,v.2,tU S' k l p x,T'),by dsimp only;omega,⟨by dsimp only;omega,j1,V,j2,hZ⟩,av.keep (by simp[a4]) rfl⟩
  · have:j=p.lits.length:=by omega
    subst this
    rw[VS (Vu _),List.find?_nil]at u
    have kF:=v6 N bw ba bt mp mb' A T' S' L2 k p K.hp K.hx K.hy K.hz
    have eS:qG S' T' l k p=lH (nt (gu S' k p) k) T' k (rR p):=by unfold qG;rw[u]
    have eT:rS T' l k p=nE T' k (rR p):=by unfold rS;rw[u]
    have eB:sS T' l p=oy T' (rR p):=by unfold sS;rw[u]
    simp[f1,f2,c1,c2]
    refine ay.intro kF ?_
    rintro _ H3 ⟨rfl,aa,L3,E3⟩
    have P:H.length<N.length:=f1
    have n2:¬bA bw bt mp mb' h.length:=ad _ (Vu _) (by omega)
    have n3:¬bA bw bt mp mb' (h.length+1):=ad _ (by omega) (by omega)
    have bY:H3[h.length]?=some [.pv (.ptr bw 0)]:=by rw[E3.same h.length c1 n2,aD]
    have b0:H3[H.length]?=some [.pv (ak k)]:=by rw[E3.same H.length f1 F,aA]
    obtain⟨s1,s2⟩:=Vp.1 L3.w
    obtain⟨t1,t2⟩:=Vp.1 bY
    obtain⟨u1,u2⟩:=Vp.1 b0
    have L4:=L3.setW (pt S'.late k (bG ((lk S'.late k).getD 0+1))) S'.head S'.seen
    have E4:=Ext.set (h:=H3) (D:=bA bw bt mp aa) bw (cW ba bt ⟨mp,aa,pt S'.late k (bG ((lk S'.late k).getD 0+1)),S'.head,S'.seen⟩) (.inl rfl)
    have cM:(H3.set bw (cW ba bt ⟨mp,aa,pt S'.late k (bG ((lk S'.late k).getD 0+1)),S'.head,S'.seen⟩))[h.length]?=some [.pv (.ptr bw 0)]:=by
      rw[VL (λq=>n2 (.inl q.symm)),bY]
    have cN:(H3.set bw (cW ba bt ⟨mp,aa,pt S'.late k (bG ((lk S'.late k).getD 0+1)),S'.head,S'.seen⟩))[H.length]?=some [.pv (ak k)]:=by
      rw[VL (λq=>F (.inl q.symm)),b0]
    simp
    refine bP.meet GY ⟨[(2,.pv (.ptr h.length 0)),(3,.pv (.ptr (h.length+1) 0)),(5,.own true 1 (am zs)),(6,.pv (.fn (.func 234) [] [.ptr (h.length+1) 0,.ptr h.length 0])),(22,.al (.slot 5)),(23,.pv (ak zs.length)),(24,.pv (ak i)),(8,.pv (.ptr H.length 0))],H3.set bw (cW ba bt ⟨mp,aa,pt S'.late k (bG ((lk S'.late k).getD 0+1)),S'.head,S'.seen⟩)⟩ (by kernel_rfl) ?_ ?_
    · simp[GY,s1,s2,cW,t1,t2,u1,u2,gu]
      and_intros
      all_goals exact av.keep (by simp) (by simp[cW])
    generalize H3.set bw (cW ba bt ⟨mp,aa,pt S'.late k (bG ((lk S'.late k).getD 0+1)),S'.head,S'.seen⟩)=H4 at*
    obtain⟨y1,y2⟩:=Vp.1 cM
    obtain⟨z1,z2⟩:=Vp.1 cN
    have cx:lk (gu S' k p).prs k=some (rR p):=by
      show lk (pt S'.prs k _) k=_
      rw[cm,Vt rfl];rfl
    have kR:=ym H4 bw ba bt mp aa A T' (nt (gu S' k p) k) L4 k (rR p) cx K.ok K.tl K.lits (wg (wg K.hz))
    simp[y1,y2,z1,z2]
    refine ay.intro kR ?_
    rintro _ H5 ⟨rfl,a6,L5,E5⟩
    rw[←eS,←eT]at L5
    rw[←eB]
    have E35:Ext N H5 (bA bw bt mp mb') (bA bw bt mp a6):=(E3.trans E4).trans E5
    cases aU:sS T' l p
    · rw[Vs (by rw[aU];simp)]at hZ
      simp
      exact⟨(i+1,H5,a6,qG S' T' l k p,rS T' l k p),by dsimp only;omega,⟨by dsimp only;omega,L5,V aU,(hE.trans E2).trans E35,hZ⟩,av.keep (by simp[a4]) rfl⟩
    · rw[Vt aU]at hZ
      subst hZ
      have cv:H5[H.length]?=some [.pv (ak k)]:=by
        rw[E35.same H.length f1 F,aA]
      obtain⟨o1,o2⟩:=Vp.1 cv
      simp[o1,o2]
      exact⟨a6,L5,E0.trans ((hE.trans E2).trans E35)⟩
end
def ia(S:WS)(T:Tr)(l:Int):WS×Tr×Int:=match lk S.byl l with
 |some zs=>jk l zs S T
 |none=>(S,T,-1)
def Q1(S:WS):WS:=⟨S.prs,S.byl,S.late,bG (S.head+1),S.seen⟩
def eD(T:Tr)(S:WS):Int:=bG (-(T.lits.getD S.head.toNat 0))
def m9:Nat->WS->Tr->WS×Tr×Int
 |0,S,T=>(S,T,-1)
 |n+1,S,T=>if S.head<T.lits.length then(if 0<=(ia S T (eD T S)).2.2 then ia S T (eD T S)else m9 n (Q1 (ia S T (eD T S)).1) (ia S T (eD T S)).2.1)else(S,T,-1)
def dm(S:WS)(now:af):WS:=⟨S.prs,S.byl,S.late,if(jI S.seen now:Int)<S.head then(jI S.seen now:Int)else S.head,S.seen⟩
def ib(S:WS)(T:Tr):WS×Tr×Int:=jw (bM (S.late.map (·.1))) S T
def jJ(S:WS)(T:Tr):WS×Tr×Int:=if 0<=(ib (dm S T.lits) T).2.2 then ib (dm S T.lits) T else m9 1000001 (ib (dm S T.lits) T).1 (ib (dm S T.lits) T).2.1
def gv(S:WS)(T:Tr):WS×Tr×Int:=(⟨(jJ S T).1.prs,(jJ S T).1.byl,(jJ S T).1.late,(jJ S T).1.head,(jJ S T).2.1.lits⟩,(jJ S T).2.1,(jJ S T).2.2)
theorem Fc(h:ao)(bw ba bt:Nat)(mp:cg)(mb:List (Int×By))(A:Ar)(T:Tr)(S:WS)(L:LayW h bw ba bt mp mb A T S)(l:Int)(c:lk S.byl l=none):
 aI prog 157 [.ptr bw 0,ak l] h (λr h'=>r=.pv (ak (-1))∧∃mb',LayW h' bw ba bt mp mb' A T S∧Ext h h' (bA bw bt mp mb) (bA bw bt mp mb')):=by
 refine dh [1,6,7,14,15,18] [.tmp 4] aP func157 ?_;have b:lk mb l=none:=by
  cases k:lk mb l with
  |none=>rfl
  |some e=>obtain⟨zs,h1,_⟩:=L.by' l e k;rw[c]at h1;cases h1
 obtain⟨G,a⟩:∃G,G=h++[[SV.pv (.ptr bw 0)],[SV.pv (ak l)]]:=⟨_,rfl⟩;have L0:LayW G bw ba bt mp mb A T S:=by rw[a];exact L.app _
 have g:Ext h G (bA bw bt mp mb) (bA bw bt mp mb):=by rw[a];exact Ext.app _ _ _
 have d:G[h.length]?=some [.pv (.ptr bw 0)]:=by rw[a];simp
 have f:G[h.length+1]?=some [.pv (ak l)]:=by rw[a];simp
 obtain⟨m,n⟩:=Vp.1 L0.w;obtain⟨i,j⟩:=Vp.1 d;obtain⟨b1,b2⟩:=Vp.1 f;simp;rw[←a];refine bP.meet Aj ⟨[(2,.pv (.ptr h.length 0)),(3,.pv (.ptr (h.length+1) 0)),(5,.pv (.lit (.slice none 0 0)))],G⟩ (by kernel_rfl) ?_ ?_
 .simp[Aj,m,n,cW,i,j,b1,b2,b];and_intros
  all_goals
   refine ap.intro vJ ?_;simp;exact av.keep (by simp) rfl
 simp;refine aM.intro (S:=λ_:Unit=>⟨[(2,.pv (.ptr h.length 0)),(3,.pv (.ptr (h.length+1) 0)),(23,.pv (ak 0)),(24,.pv (ak 0))],G⟩) (λ_=>True) (λ_=>0) () ?_ trivial ?_;exact av.keep (by simp) rfl;rintro _ _;simp;exact⟨mb,L0,g⟩
structure ProOk (J:WS->Tr->Prop):Prop where
  ok:∀S T,J S T->T.ok∧T.lits.length<=1000000∧0<=S.head∧S.head<=T.lits.length
  step:∀S T,J S T->S.head<T.lits.length->∀zs,lk S.byl (eD T S)=some zs->zs.length<=1000000∧∃Jf:Nat->WS->Tr->Prop,Jf 0 S T∧∀i S' T',Jf i S' T'->∀(hi:i<zs.length),∃p,StepOk S' T' (eD T S) zs[i] p∧(sS T' (eD T S) p=false->Jf (i+1) (qG S' T' (eD T S) zs[i] p) (rS T' (eD T S) zs[i] p))
  len:∀S T,J S T->S.head<T.lits.length->(ia S T (eD T S)).2.1.lits.length<=1000000
  next:∀S T,J S T->S.head<T.lits.length->¬0<=(ia S T (eD T S)).2.2->(ia S T (eD T S)).2.2=-1∧J (Q1 (ia S T (eD T S)).1) (ia S T (eD T S)).2.1∧(ia S T (eD T S)).1.head=S.head∧T.lits<+:(ia S T (eD T S)).2.1.lits
theorem wX(h:ao)(bw ba bt:Nat)(mp:cg)(mb:List (Int×By))(A:Ar)(T:Tr)(S:WS)(L:LayW h bw ba bt mp mb A T S)(ag:T.lits.length<=1000000)(aE:S.seen.length<=1000000)
 (s:af) (ab:bM (S.late.map (·.1))=s) (Y:Nat->WS->Tr->Prop) (aq:Y 0 (dm S T.lits) T) (ax:∀q∈S.late,xD q.1) (az:S.late.length<=1000000)
 (hB:∀i S' T',Y i S' T'->∀(hi:i<s.length),T'.ok∧T'.lits.length<=1000000∧(∀l zs,lk S'.byl l=some zs->zs.length<=1000000)∧∃p,lk S'.prs s[i]=some p∧p.lits.length<=1000000)
 (hJ:∀i S' T' p,Y i S' T'->∀(hi:i<s.length),lk S'.prs s[i]=some p->oy T' p=false->Y (i+1) (lH S' T' s[i] p) (nE T' s[i] p))
 (ad:(ib (dm S T.lits) T).2.1.lits.length<=1000000) (J:WS->Tr->Prop) (U:ProOk J) (ar:¬0<=(ib (dm S T.lits) T).2.2->(ib (dm S T.lits) T).2.2=-1∧J (ib (dm S T.lits) T).1 (ib (dm S T.lits) T).2.1):
 aI prog 91 [.ptr bw 0] h (λr h'=>r=.pv (ak (gv S T).2.2)∧∃mb',LayW h' bw ba bt mp mb' A (gv S T).2.1 (gv S T).1∧Ext h h' (bA bw bt mp mb) (bA bw bt mp mb')):=by
 refine dh [] [.tmp 2] aP func91 ?_;obtain⟨w1,w2⟩:=Vp.1 L.w;have hz:=dR L.t 2;have kM:=vZ h bw ba bt _ L.w;have kL:=ik T ag;have kS:=Fa h bw ba bt ⟨mp,mb,S.late,S.head,S.seen⟩ T.lits L.w ag aE;have L1:=L.setW S.late (if(jI S.seen T.lits:Int)<S.head then(jI S.seen T.lits:Int)else S.head) S.seen;have E1:=Ext.set (h:=h) (D:=bA bw bt mp mb) bw (cW ba bt (Mw ⟨mp,mb,S.late,S.head,S.seen⟩ T.lits)) (.inl rfl);simp;refine ay.intro kM ?_;rintro _ h2 ⟨e,rfl⟩;rw[e];clear e h2;simp[w1,w2,cW,hz];refine ay.introP kL ?_;simp;refine ay.intro (kS.args (xs:=[.ptr bw 0,.seq true 1 (am T.lits)]) (by simp[bX,cr])) ?_;rintro _ H1 ⟨rfl,rfl⟩;have L1':LayW (h.set bw (cW ba bt (Mw ⟨mp,mb,S.late,S.head,S.seen⟩ T.lits))) bw ba bt mp mb A T (dm S T.lits):=L1;have C:=Je _ bw ba bt mp mb A T (dm S T.lits) L1' s ab Y aq ax az hB hJ;generalize h.set bw (cW ba bt (Mw ⟨mp,mb,S.late,S.head,S.seen⟩ T.lits))=H1 at*;have a:jJ S T=if 0<=(ib (dm S T.lits) T).2.2 then ib (dm S T.lits) T else m9 1000001 (ib (dm S T.lits) T).1 (ib (dm S T.lits) T).2.1:=rfl;have ae:gv S T=(⟨(jJ S T).1.prs,(jJ S T).1.byl,(jJ S T).1.late,(jJ S T).1.head,(jJ S T).2.1.lits⟩,(jJ S T).2.1,(jJ S T).2.2):=rfl;have G:jw s (dm S T.lits) T=ib (dm S T.lits) T:=by unfold ib;rw[←ab];rfl
 rw[G]at C;generalize ib (dm S T.lits) T=V at*;generalize jJ S T=M at*;generalize gv S T=Q at*;obtain⟨S2,T2,k2⟩:=V;simp only at*;simp;refine ay.intro C ?_;rintro _ H2 ⟨rfl,aH,L2,E2⟩;have O:=ik T2 ad;have I:=dR L2.t 2;obtain⟨v1,v2⟩:=Vp.1 L2.w;simp[v1,v2,cW,I];refine ay.introP O ?_;simp;refine aM.intro (S:=λ(x:ao×List (Int×By)×WS×Tr×Int×af×Nat)=>⟨[(0,.pv (.ptr bw 0)),(3,.pv (ak x.2.2.2.2.1)),(4,.own true 1 (am x.2.2.2.2.2.1))],x.1⟩)
  (λ x => LayW x.1 bw ba bt mp x.2.1 A x.2.2.2.1 x.2.2.1 ∧ Ext h x.1 (bA bw bt mp mb) (bA bw bt mp x.2.1) ∧ x.2.2.2.1.lits.length <= 1000000 ∧
   ((0<=x.2.2.2.2.1∧M=(x.2.2.1,x.2.2.2.1,x.2.2.2.2.1))∨(¬0<=x.2.2.2.2.1∧x.2.2.2.2.1=-1∧J x.2.2.1 x.2.2.2.1∧x.2.2.2.2.2.1<+:x.2.2.2.1.lits∧(x.2.2.1.head<x.2.2.2.2.2.1.length∨x.2.2.2.2.2.1=x.2.2.2.1.lits)∧M=m9 x.2.2.2.2.2.2 x.2.2.1 x.2.2.2.1∧1000001<=x.2.2.1.head+x.2.2.2.2.2.2)))
  (λx=>x.2.2.2.2.2.2) (H2,aH,S2,T2,k2,T2.lits,1000001) ?_ ?_ ?_
 exact av.keep (by simp) rfl;refine⟨L2,E1.trans E2,ad,?_⟩;by_cases c:0<=k2;rw[Vt c]at a;exact .inl ⟨c,a⟩;rw[Vs c]at a;have hj:=ar c;have hh:=(U.ok _ _ hj.2).2.2.1;exact .inr ⟨c,hj.1,hj.2,ZH _,.inr rfl,a,by simp only;omega⟩;rintro⟨H,mb',S',T',kc,now,n⟩ ⟨P,hE,E,j⟩;dsimp only at P hE E j;obtain⟨W,X⟩:=Vp.1 P.w;have ai:=dR P.t 2;have aj:=ik T' E;have o:∀(M1:M=(S',T',kc)),(LayW (H.set bw (cW ba bt ⟨mp,mb',S'.late,S'.head,T'.lits⟩)) bw ba bt mp mb' A Q.2.1 Q.1)∧Ext h (H.set bw (cW ba bt ⟨mp,mb',S'.late,S'.head,T'.lits⟩)) (bA bw bt mp mb) (bA bw bt mp mb')∧Q.2.2=kc:=λM1=>by
  rw[ae,M1];exact⟨P.setW S'.late S'.head T'.lits,hE.trans (Ext.set bw _ (.inl rfl)),rfl⟩
 rcases j with⟨hc,g⟩|⟨hc,aw,hj,m,aA,g,hn⟩;have v:¬kc<0:=by omega
 obtain⟨g1,g2,g3⟩:=o g;simp[v];simp[W,X,cW,ai];refine ay.introP aj ?_;simp[W,X,cW];exact⟨g3.symm,mb',g1,g2⟩
 .have v:kc<0:=by omega
  obtain⟨q1,q2,q3,q4⟩:=U.ok _ _ hj;obtain⟨hd,z⟩:∃k:Nat,S'.head=k:=⟨S'.head.toNat,by omega⟩;by_cases d:hd<now.length
  .have dT:hd<T'.lits.length:=WK d m.length_le;have hq:now[hd]?=some T'.lits[hd]:=by
    obtain⟨t,ht⟩:=m;rw[←Vq dT,←ht,Vv d]
   have b:S'.head<T'.lits.length:=by omega
   have aD:now[hd]=T'.lits[hd]:=by rw[Vq d]at hq;exact Yb hq
   have ah:bG (-now[hd])=eD T' S':=by rw[aD];simp[eD,z,Vq dT]
   have kF:aI prog 157 [.ptr bw 0,ak (eD T' S')] H (λr h'=>r=.pv (ak (ia S' T' (eD T' S')).2.2)∧∃F,LayW h' bw ba bt mp F A (ia S' T' (eD T' S')).2.1 (ia S' T' (eD T' S')).1∧Ext H h' (bA bw bt mp mb') (bA bw bt mp F)):=by
    cases hb:lk S'.byl (eD T' S')with
    |none=>
     simp only[ia,hb];exact Fc H bw ba bt mp mb' A T' S' P _ hb
    |some zs=>
     obtain⟨z1,Jf,z2,z3⟩:=U.step S' T' hj b zs hb;simp only[ia,hb];exact Jg H bw ba bt mp mb' A T' S' P _ zs hb z1 Jf z2 z3
   have u:=U.len S' T' hj b;have aa:=U.next S' T' hj b;cases n with
   |zero=>omega
   |succ n=>
   rw[m9,Vt b]at g;generalize ia S' T' (eD T' S')=V at*;generalize eD T' S'=l at*;obtain⟨S3,R,k3⟩:=V;simp only at g u aa kF;clear kL O kM kS C hB hJ a G L1 L1' hz I w1 w2 v1 v2;simp[v,W,X,cW,z,d,ah];refine ay.intro kF ?_;rintro _ H3 ⟨rfl,f,L3,E3⟩;obtain⟨t1,t2⟩:=Vp.1 L3.w;have K:=dR L3.t 2;have an:=ik R u;by_cases c3:0<=k3;rw[Vt c3]at g;simp[c3,t1,t2,cW,K];refine ay.introP an ?_;simp[t1,t2,cW];have:=L3.setW S3.late S3.head R.lits;rw[ae,g];exact⟨rfl,f,this,(hE.trans E3).trans (Ext.set bw _ (.inl rfl))⟩;rw[Vs c3]at g;obtain⟨r1,r2,r3,r4⟩:=aa c3;obtain⟨b1,b2,b3,b4⟩:=U.ok _ _ r2;have aJ:¬0<=k3:=c3;have Z:=L3.setW S3.late (bG (S3.head+1)) S3.seen;have E4:Ext h (H3.set bw (cW ba bt ⟨mp,f,S3.late,bG (S3.head+1),S3.seen⟩)) (bA bw bt mp mb) (bA bw bt mp f):=(hE.trans E3).trans (Ext.set bw _ (.inl rfl));have B:bG ((hd:Int)+1)=((hd+1:Nat):Int):=by rw[aC (by omega) (by omega)];omega
   have y:S3.head=hd:=r3.trans z;rw[y,B]at Z E4;have N:bE (H3.set bw (cW ba bt ⟨mp,f,S3.late,((hd+1:Nat):Int),S3.seen⟩)) (2+1) bt 0=cD R:=dR Z.t 2;have aF:Q1 S3=⟨S3.prs,S3.byl,S3.late,((hd+1:Nat):Int),S3.seen⟩:=by unfold Q1;rw[y,B]
   rw[aF]at g r2;clear kF;by_cases dn:hd+1=now.length;rw[dn]at Z E4 N g r2;simp only[cW]at N;simp[c3,t1,t2,cW,K,y,B,dn,N];refine ay.introP an ?_;simp;exact⟨(_,f,⟨S3.prs,S3.byl,S3.late,(now.length:Int),S3.seen⟩,R,k3,R.lits,n),Yz n,⟨Z,E4,u,.inr ⟨by simp only;omega,r1,r2,ZH _,.inr rfl,g,by simp only;omega⟩⟩,av.keep (by simp) rfl⟩;have aG:¬((hd:Int)+1=now.length):=by omega
   simp[c3,t1,t2,cW,K,y,B,aG];exact⟨(_,f,⟨S3.prs,S3.byl,S3.late,((hd+1:Nat):Int),S3.seen⟩,R,k3,now,n),Yz n,⟨Z,E4,u,.inr ⟨by simp only;omega,r1,r2,m.trans r4,.inl (by simp only;omega),g,by simp only;omega⟩⟩,av.keep (by simp) rfl⟩
  have aB:¬S'.head<T'.lits.length:=by
   rcases aA with h1|h1;omega;rw[←h1];omega
  have au:M=(S',T',-1):=by
   rw[g];cases n with
   |zero=>rfl
   |succ n=>rw[m9,Vs aB]
  obtain⟨g1,g2,g3⟩:=o (by rw[au,aw]);clear kL O kM kS C hB hJ a G L1 L1' hz I w1 w2 v1 v2;simp[v,W,X,cW,z,d];simp[W,X,cW,ai];refine ay.introP aj ?_;simp[W,X,cW];exact⟨g3.symm,mb',g1,g2⟩
structure CkM (n:Nat) (c:Ck):Prop where
  n:c.m.length<=n
  w:∀q∈c.m,xD q.1
  l:∀q∈c.m,q.2.length<=100000
theorem CkM.ok{n:Nat}{c:Ck}(h:CkM n c)(hn:n<=100000):CkOk c:=⟨Wb h.n hn,h.w,h.l⟩
theorem yu{zs:af}(hs:zs.Pairwise (·<=·)):∀j,j<=zs.length->(bc zs j).Pairwise (·<·)∧∀x,x∈bc zs j↔x∈zs.take j
 |0,_=>⟨by simp[bc],λx=>by simp[bc]⟩
 |j+1,h=>by
  obtain⟨h1,b⟩:=yu hs j (by omega);have f:zs.getD j 0=zs[j]:=by simp[show j<zs.length by omega]
  rw[bc,f,Wj,Vq (by omega),W6];have hp:=V5.1 hs;by_cases d:j=0∨zs[j]≠zs.getD (j -1) 0;rw[Vt d];refine⟨Yt.2 ⟨h1,by simp,λy hy z hz=>?_⟩,λx=>by rw[VF,VF,b]⟩;rw[VY]at hz;subst hz;obtain⟨k,hk,rfl⟩:=VE ((b y).1 hy);rw[Vy]at hk;rw[WE];rcases d with rfl|d;omega;have a:zs.getD (j -1) 0=zs[j -1]:=by simp[show j -1<zs.length by omega]
  rw[a]at d;have i:zs[k]<=zs[j -1]:=by
   by_cases e:k=j -1;subst e;exact XF _;exact hp k (j -1) (by omega) (by omega) (by omega)
  have l:zs[j -1]<=zs[j]:=hp (j -1) j (by omega) (by omega) (by omega);omega;rw[Vs d];refine⟨h1,λx=>?_⟩;rw[b,VF,VY];refine⟨.inl,λhx=>hx.elim id λe=>?_⟩;have hj:j≠0:=λe=>d (.inl e);have a:zs.getD (j -1) 0=zs[j -1]:=by simp[show j -1<zs.length by omega]
  have c:zs[j]=zs[j -1]:=V0 λg=>d (.inr (by rw[a];exact g));rw[e,c];exact WO.2 ⟨j -1,by omega,rfl⟩
theorem tz{zs:af}:∀j,j<=zs.length->(bc zs j).length=j->bc zs j=zs.take j
 |0,_,_=>by simp[bc]
 |j+1,h,a=>by
  have b:zs.getD j 0=zs[j]:=by simp[show j<zs.length by omega]
  have:=iK zs j;rw[bc]at a⊢;by_cases d:j=0∨zs.getD j 0≠zs.getD (j -1) 0;rw[Vt d]at a⊢;rw[Vz,Wi]at a;rw[tz j (by omega) (by omega),b,Wj,Vq (by omega)];rfl;rw[Vs d]at a;omega
theorem pU{zs:af}(hs:zs.Pairwise (·<·)):∀j,j<=zs.length->(bc zs j).length=j
 |0,_=>rfl
 |j+1,h=>by
  have c:=pU hs j (by omega);have b:zs.getD j 0=zs[j]:=by simp[show j<zs.length by omega]
  rw[bc,Vt,Vz,c];rfl;by_cases e:j=0;exact .inl e;right;have a:zs.getD (j -1) 0=zs[j -1]:=by simp[show j -1<zs.length by omega]
  have:=V5.1 hs (j -1) j (by omega) (by omega) (by omega);rw[b,a];omega
theorem Fd(ids:af):¬(cY (bM ids)).length<ids.length↔ids.Nodup:=by
 have hp:(bM ids).Perm ids:=Xu _ _;have e:=hp.length_eq;have hs:=kj ids;constructor;intro h;have h1:=iK (bM ids) (bM ids).length;unfold cY at h;have d:=tz (zs:=bM ids) _ (Vu _) (by omega);have c:=(yu hs _ (Vu _)).1;rw[d,VX]at c;exact hp.nodup_iff.1 (c.imp λh=>by omega);intro h;have hn:=hp.nodup_iff.2 h;have:=pU ((aaf.2 ⟨hs,hn⟩).imp λ⟨a,b⟩=>by omega) _ (Vu (bM ids).length);unfold cY;omega
theorem MH{c:Ck}{ids:af}(hi:∀x∈ids,1<=x∧x<=20000000):dropB c ids=false↔(ids.Nodup∧∀x∈ids,(lk c.m x).isSome=true):=by
 unfold dropB gF;rw[YG,WX,Fd,Bool.not_eq_false',Wa];refine and_congr_right λ_=>forall_congr' λx=>forall_congr' λhx=>?_;rw[Ms (hi x hx).1 (hi x hx).2]
end Go.AX
