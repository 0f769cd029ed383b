/-
  Contracts: watches: lates, Attached; and what follows.
-/
import Derived.Test.YtepodadinenmnaaGreatS14AxWaD
import Derived.Test.YtepodadinenmnaaGreatRows
import Derived.Test.YtepodadinenmnaaGreatAxKs
import Derived.Test.YtepodadinenmnaaGreatS14AxTtA
import Derived.Test.YtepodadinenmnaaGreatAxTb
set_option linter.unusedSimpArgs false
namespace Go.AX
open Go.Proofs Go.Maps Go.Shelf
theorem uc{α:Type}(f:α->PV):∀l:List (Int×α),Eq (aZ f l)=aZ (λ_=>PV.bot) l
 |[]=>rfl
 |(k,x)::l=>by
  show(k,PV.bot)::Eq (aZ f l)=(k,PV.bot)::aZ (λ_=>PV.bot) l;rw[uc f l]
def ik:List Int->WS->Tr->WS×Tr×Int
 |[],S,T=>(S,T,-1)
 |k::ks,S,T=>match lk S.prs k with
  |some p=>if mU T p=true then(S,T,k)else ik ks (jM S T k p) (mg T k p)
  |none=>(S,T,-1)
set_option maxRecDepth 16000 in
theorem Gp(h:List (List SV))(bw ba bt:Nat)(mp:List (Int×Nat))(mb:List (Int×By))(A:Ar)(T:Tr)(S:WS)(L:LayW h bw ba bt mp mb A T S)(a:List Int)(f:cD (S.late.map (·.1))=a)(J:Nat->WS->Tr->Prop)(o:J 0 S T)(v:∀q∈S.late,GZ q.1)(g:S.late.length<=1000000)
 (E:∀i S' T',J i S' T'->∀(hi:i<a.length),T'.ok∧T'.lits.length<=1000000∧(∀l zs,lk S'.byl l=some zs->zs.length<=1000000)∧∃p,lk S'.prs a[i]=some p∧p.lits.length<=1000000)
 (F:∀i S' T' p,J i S' T'->∀(hi:i<a.length),lk S'.prs a[i]=some p->mU T' p=false->J (i+1) (jM S' T' a[i] p) (mg T' a[i] p)):
 aA Tryz.prog 156 [.ptr bw 0] h (λr h'=>r=.pv (ab (ik a S T).2.2)∧∃mb',LayW h' bw ba bt mp mb' A (ik a S T).2.1 (ik a S T).1∧Ext h h' (aQ bw bt mp mb) (aQ bw bt mp mb')):=by
 refine cQ [1] [.tmp 2] aD Tryz.func156 ?_;obtain⟨M,N⟩:=SQ.1 L.w;have C:=Cy (λ_:Int=>PV.bot) S.late v g;have G:a.length<=1000000:=by rw[←f];unfold cD;rw[Ur,S7];exact g
 have s:ik a S T=ik (a.drop 0) S T:=rfl;rw[f]at C;generalize ik a S T=Z at*;simp;refine po.keys [_,_,_,_] [_,_] _ _ _ _ 229 _ _ _ _ _ (ae a) rfl rfl rfl rfl rfl rfl rfl ?_;simp[M,N,b9];rw[uc];refine⟨Ie,C,?_⟩;refine ax.intro (S:=λ(x:Nat×List (List SV)×List (Int×By)×WS×Tr)=>⟨[(0,.pv (.ptr bw 0)),(10,.own true 1 (ae a)),(11,.pv (ab a.length)),(12,.pv (ab x.1))],x.2.1⟩)
  (λx=>x.1<=a.length∧LayW x.2.1 bw ba bt mp x.2.2.1 A x.2.2.2.2 x.2.2.2.1∧J x.1 x.2.2.2.1 x.2.2.2.2∧Ext h x.2.1 (aQ bw bt mp mb) (aQ bw bt mp x.2.2.1)∧Z=ik (a.drop x.1) x.2.2.2.1 x.2.2.2.2)
  (λx=>a.length -x.1) (0,h,mb,S,T) ?_ ⟨Tf _,L,o,Ext.refl _ _,s⟩ ?_
 .exact ah.keep (by simp) rfl
 rintro⟨i,H,mb',S',T'⟩ ⟨hi,n,e,k,b⟩;dsimp only at hi n e k b
 by_cases d:i<a.length
 .have z:aX ((i:Int)+1)=((i+1:Nat):Int):=by rw[ao (by omega) (by omega)];omega
  have I:a[i]?=some a[i]:=SR d;obtain⟨b1,b2,b3,p,hp,y⟩:=E i S' T' e d;have K:=wm H bw ba bt mp mb' A T' S' n a[i] p hp b1 b2 y b3;rw[TG d,ik,hp]at b;simp only at b;simp[d,I];refine am.intro K ?_;rintro _ D ⟨rfl,j,m,B⟩;cases c:mU T' p
  .rw[SU (by rw[c];simp)]at b;simp[c];exact⟨(i+1,D,j,jM S' T' a[i] p,mg T' a[i] p),by(try dsimp only);omega,⟨by(try dsimp only);omega,m,F i S' T' p e d hp c,k.trans B,b⟩,ah.keep (by simp[z]) rfl⟩
  .rw[SX c]at b;subst b;have t:jM S' T' a[i] p=S':=by
    unfold mU at c;unfold jM;rw[SU (by have:=WN c;omega)]
   have u:mg T' a[i] p=T':=by
    unfold mU at c;unfold mg;rw[SU (by have:=WN c;omega)]
   rw[t,u]at m;simp[c];exact⟨j,m,k.trans B⟩
 .have:i=a.length:=by omega
  subst this;rw[Tq (SY _),ik]at b;subst b;simp;exact⟨mb',n,k⟩
end Go.AX
namespace Go.AX
set_option maxRecDepth 16000
open Go.Proofs
def x3:Sch:=
 let c:Sch:=.fork [(6,.take 7 .done)]
 let a:Sch:=.fork [(5,c)]
 let d:Sch:=.fork [(4,a)]
 let b:Sch:=.fork [(3,a)]
 let e:Sch:=.fork [(3,d),(4,b)]
 let f:Sch:=.fork [(0,.take 1 (.take 2 b))]
 let g:Sch:=.fork [(0,.take 1 (.take 2 e)),(4,f)]
 g
def JD:Sch:=
 let a:Sch:=.fork [(5,.take 6 .done)]
 let c:Sch:=.fork [(4,a)]
 let b:Sch:=.fork [(3,a)]
 let d:Sch:=.fork [(3,c),(4,b)]
 let e:Sch:=.fork [(0,.take 1 (.take 2 b))]
 let f:Sch:=.fork [(0,.take 1 (.take 2 d)),(4,e)]
 f
def JG:Sch:=
 let a:Sch:=.fork [(5,.take 6 .done)]
 let b:Sch:=.fork [(4,a)]
 .take 0 (.take 1 (.take 2 (.take 3 b)))
def Er:Sch:=
 let c:Sch:=.fork [(7,.done)]
 let a:Sch:=.fork [(5,.take 6 c)]
 let d:Sch:=.fork [(4,a)]
 let b:Sch:=.fork [(3,a)]
 let e:Sch:=.fork [(3,d),(4,b)]
 let f:Sch:=.fork [(0,.take 1 (.take 2 b))]
 let g:Sch:=.fork [(0,.take 1 (.take 2 e)),(4,f)]
 g
def Oc(T:Tr)(l other x:Int):Bool:=decide (x≠l)&&(decide (x≠other)&&decide (0<=cm T x))
theorem JH(h:List (List SV))(bw ba bt a:Nat)(W:Wt)(T:Tr)(j:h[bw]?=some (b9 ba bt W))(ht:h[bt]?=some (gA T))(g:T.ok)(l:Int)(h0:h[a]?=some [.pv (.ptr bw 0)])(h1:h[a+1]?=some [.pv (ab l)])(x other:Int):
 aA Tryz.prog 234 [ab x,ab other,.ptr (a+1) 0,.ptr a 0] h (λr h'=>h'=h∧r=.pv (BL (Oc T l other x))):=by
 refine d7 [] [.tmp 6] aD Tryz.func234 ?_;obtain⟨d,f⟩:=SQ.1 j;obtain⟨b,c⟩:=SQ.1 h0;obtain⟨b1,b2⟩:=SQ.1 h1;have i:=fJ T x g;have hz:=cW ht 2;unfold Oc
 by_cases c1:x=l
 .simp[d,f,b9,b,c,b1,b2,c1]
 by_cases c2:x=other
 .have c3:¬other=l:=λe=>c1 (c2.trans e);simp[d,f,b9,b,c,b1,b2,c1,c2,c3]
 simp[d,f,b9,b,c,b1,b2,c1,c2,hz];refine am.introP i ?_ (by simp[c1,c2]) (by simp);simp[c1,c2]
theorem JI(x v:Int):aj Tryz.prog 236 [ab x,.iptr 1 [[ab v]] 0 0] (λr=>r=.pv (BL (decide (x=v)))):=by
 refine ap aD Tryz.func236 ?_;simp
def pU(l:Int)(p:Pr):Int:=if p.x=l then p.y else p.x
def mW(T:Tr)(l:Int)(p:Pr):Option Int:=p.lits.find? (Oc T l (pU l p))
def jb(l:Int)(p:Pr)(x:Int):Pr:=if p.x=l then⟨p.lits,x,p.y⟩else⟨p.lits,p.x,x⟩
def rM(S:WS)(k l:Int)(p:Pr)(x:Int):WS:=⟨pt S.prs k (jb l p x),gF (er S.byl k l) k x,S.late,S.head,S.seen⟩
def l4(S:WS)(k:Int):WS:=⟨S.prs,S.byl,pt S.late k (aX ((lk S.late k).getD 0+1)),S.head,S.seen⟩
def pV(p:Pr):Pr:=⟨p.lits,0,0⟩
def oW(S:WS)(T:Tr)(l k:Int)(p:Pr):WS:=match mW T l p with
 |some x=>rM S k l p x
 |none=>jM (l4 (fl S k p) k) T k (pV p)
def pW(T:Tr)(l k:Int)(p:Pr):Tr:=match mW T l p with
 |some _=>T
 |none=>mg T k (pV p)
def qO(T:Tr)(l:Int)(p:Pr):Bool:=match mW T l p with
 |some _=>false
 |none=>mU T (pV p)
def gX(l:Int):List Int->WS->Tr->WS×Tr×Int
 |[],S,T=>(S,T,-1)
 |k::ks,S,T=>match lk S.prs k with
  |some p=>if qO T l p=true then(oW S T l k p,pW T l k p,k)else gX l ks (oW S T l k p) (pW T l k p)
  |none=>(S,T,-1)
structure StepOk (S:WS) (T:Tr) (l k:Int) (p:Pr):Prop where
  hp:lk S.prs k=some p
  l0:l≠0
  two:p.x=l∨p.y=l
  lits:p.lits.length<=1000000
  byl:∃zs,lk S.byl l=some zs∧zs≠[]
  hx:p.x≠0->∃zs,lk S.byl p.x=some zs∧zs≠[]
  hy:p.y≠0->∃zs,lk (er S.byl k p.x) p.y=some zs∧zs≠[]
  hz:∀l zs,lk S.byl l=some zs->zs.length<=1000000
  ok:T.ok
  tl:T.lits.length<=1000000
theorem ud{byl:List (Int×List Int)}{k l:Int}{n:Nat}(h:∀l zs,lk byl l=some zs->zs.length<=n):∀m zs,lk (er byl k l) m=some zs->zs.length<=n:=λm zs a=>by
 unfold er at a;split at a
 .exact h m zs a
 .rw[bJ]at a;split at a
  .cases a
   refine TD (jU _ _) ?_;cases b:lk byl l with
   |none=>exact Tf _
   |some z=>exact h l z b
  .exact h m zs a
def wo(a m:Nat)(zs:List Int)(i:Nat)(x:Int):List (Nat×SV):=[(2,.pv (.ptr a 0)),(3,.pv (.ptr (a+1) 0)),(5,.own true 1 (ae zs)),(6,.pv (.fn (.func 234) [] [.ptr (a+1) 0,.ptr a 0])),(8,.pv (.ptr m 0)),(13,.pv (ab x)),(22,.al (.slot 5)),(23,.pv (ab zs.length)),(24,.pv (ab i))]
theorem Q2:(∀x:By,G8 x=.bsl x.b 1 0 x.n x.cp)∧(∀(ba bt:Nat)(W:Wt),b9 ba bt W=[.pv (.ptr ba 0),.pv (.ptr bt 0),.omap true (aZ uS W.prs),.omap true (aZ G8 W.byl),.omap true (aZ fI W.late),.pv (ab W.head),.own true 1 (ae W.seen)])∧(∀(a m:Nat)(zs:List Int)(i:Nat)(x:Int),wo a m zs i x=[(2,.pv (.ptr a 0)),(3,.pv (.ptr (a+1) 0)),(5,.own true 1 (ae zs)),(6,.pv (.fn (.func 234) [] [.ptr (a+1) 0,.ptr a 0])),(8,.pv (.ptr m 0)),(13,.pv (ab x)),(22,.al (.slot 5)),(23,.pv (ab zs.length)),(24,.pv (ab i))])∧(∀b k n s:Nat,aJ b k n (.slot s)=false)∧∀b k n b' k':Nat,aJ b k n (.cell b' k')=(b==b'&&decide (k<=k')&&decide (k'<k+n)):=⟨λ_=>rfl,λ_ _ _=>rfl,λ_ _ _ _ _=>rfl,λ_ _ _ _=>rfl,λ_ _ _ _ _=>rfl⟩
set_option maxRecDepth 32000 in
set_option maxHeartbeats 8000000 in
theorem Gq(h:List (List SV))(bw ba bt:Nat)(mp:List (Int×Nat))(mb:List (Int×By))(A:Ar)(T:Tr)(S:WS)(L:LayW h bw ba bt mp mb A T S)(l:Int)(zs:List Int)(cE:lk S.byl l=some zs)(cD:zs.length<=1000000)(J:Nat->WS->Tr->Prop)(ch:J 0 S T)
    (hJ:∀i S' T',J i S' T'->∀(hi:i<zs.length),∃p,StepOk S' T' l zs[i] p∧(qO T' l p=false->J (i+1) (oW S' T' l zs[i] p) (pW T' l zs[i] p))):
    aA Tryz.prog 157 [.ptr bw 0,ab l] h (λr h'=>r=.pv (ab (gX l zs S T).2.2)∧∃mb',LayW h' bw ba bt mp mb' A (gX l zs S T).2.1 (gX l zs S T).1∧Ext h h' (aQ bw bt mp mb) (aQ bw bt mp mb')):=by
  refine cQ [1,6,7,14,15,18] [.tmp 4] aD Tryz.func157 ?_
  obtain⟨e,he,⟨sp,e1,f,e3,e4,e5⟩,e6,e7,e8⟩:=L.some_b cE
  obtain⟨G,hG⟩:∃G,G=h++[[SV.pv (.ptr bw 0)],[SV.pv (ab l)]]:=⟨_,rfl⟩
  have L0:LayW G bw ba bt mp mb A T S:=by rw[hG];exact L.app _
  have E0:Ext h G (aQ bw bt mp mb) (aQ bw bt mp mb):=by rw[hG];exact Ext.app _ _ _
  have bW:G[h.length]?=some [.pv (.ptr bw 0)]:=by rw[hG];simp
  have bX:G[h.length+1]?=some [.pv (ab l)]:=by rw[hG];simp
  have ar:∀b,h.length<=b->¬aQ bw bt mp mb b:=λb hb hd=>by
    have lt:∀{c:Nat}{x:List SV},h[c]?=some x->c<h.length:=λhx=>(SQ.1 hx).1
    rcases hd with q|q|⟨k,q⟩|⟨l',e',q,rfl⟩
    · have:=lt L.w;omega
    · have:=lt L.t;omega
    · obtain⟨_,_,a2,_⟩:=L.pr k b q;have:=lt a2;omega
    · obtain⟨_,_,⟨_,a2,_⟩,_⟩:=L.by' l' e' q;have:=lt a2;omega
  obtain⟨w1,w2⟩:=SQ.1 L0.w
  obtain⟨a1,a2⟩:=SQ.1 bW
  obtain⟨b1,b2⟩:=SQ.1 bX
  have hcl:=iQ zs cD
  have cm:G[e.b]?=some (aM zs++sp):=by rw[hG,SZ (SQ.1 e1).1,e1]
  have cq:uH (bA G 3 e.b 0) 1 e.n=.seq false 1 (ae zs):=by rw[←e3];exact Mm G e.b zs sp cm 2
  have cg:gX l zs S T=gX l (zs.drop 0) S T:=rfl
  generalize gX l zs S T=Z at*
  simp
  rw[←hG]
  refine aT.meet x3 ⟨[(2,.pv (.ptr h.length 0)),(3,.pv (.ptr (h.length+1) 0)),(5,.own true 1 (ae zs))],G⟩ (by kernel_rfl) ?_ ?_
  · simp[x3,w1,w2,b9,a1,a2,b1,b2,he,G8,cq]
    and_intros
    all_goals
      refine am.introP hcl ?_
      simp
      exact ah.keep (by simp) rfl
  simp
  refine ax.intro (S:=λ(x:Nat×List (List SV)×List (Int×By)×WS×Tr)=>⟨[(2,.pv (.ptr h.length 0)),(3,.pv (.ptr (h.length+1) 0)),(5,.own true 1 (ae zs)),(6,.pv (.fn (.func 234) [] [.ptr (h.length+1) 0,.ptr h.length 0])),(22,.al (.slot 5)),(23,.pv (ab zs.length)),(24,.pv (ab x.1))],x.2.1⟩)
    (λx=>x.1<=zs.length∧LayW x.2.1 bw ba bt mp x.2.2.1 A x.2.2.2.2 x.2.2.2.1∧J x.1 x.2.2.2.1 x.2.2.2.2∧Ext G x.2.1 (aQ bw bt mp mb) (aQ bw bt mp x.2.2.1)∧Z=gX l (zs.drop x.1) x.2.2.2.1 x.2.2.2.2)
    (λx=>zs.length -x.1) (0,G,mb,S,T) ?_ ⟨Tf _,L0,ch,Ext.refl _ _,cg⟩ ?_
  · exact ah.keep (by simp) rfl
  rintro⟨i,H,mb',S',T'⟩ ⟨hi,LH,bG,hE,hZ⟩
  dsimp only at hi LH bG hE hZ
  have cW:G.length=h.length+2:=by rw[hG];simp
  have cF:H[h.length]?=some [.pv (.ptr bw 0)]:=by rw[hE.same h.length (by omega) (ar _ (SY _)),bW]
  have cH:H[h.length+1]?=some [.pv (ab l)]:=by rw[hE.same (h.length+1) (by omega) (ar _ (by omega)),bX]
  have af:∀b,h.length<=b->b<G.length->¬aQ bw bt mp mb' b:=λb hb ck hd=>ar b hb (hE.sub b ck hd)
  by_cases d:i<zs.length
  rotate_left
  · have:i=zs.length:=by omega
    subst this
    rw[Tq (SY _),gX]at hZ
    subst hZ
    simp
    exact⟨mb',LH,E0.trans hE⟩
  have a6:aX ((i:Int)+1)=((i+1:Nat):Int):=by rw[ao (by omega) (by omega)];omega
  have hq:zs[i]?=some zs[i]:=SR d
  obtain⟨p,K,V⟩:=hJ i S' T' bG d
  rw[TG d,gX,K.hp]at hZ
  simp only at hZ
  obtain⟨k,bP⟩:∃k,zs[i]=k:=⟨_,rfl⟩
  rw[bP]at K V hZ hq
  obtain⟨b,hb,q1,q2,q3,q4⟩:=LH.some_p K.hp
  -- the number is boxed
  obtain⟨N,ak⟩:∃N,N=H++[[SV.pv (ab k)]]:=⟨_,rfl⟩
  have L2:LayW N bw ba bt mp mb' A T' S':=by rw[ak];exact LH.app _
  have E2:Ext H N (aQ bw bt mp mb') (aQ bw bt mp mb'):=by rw[ak];exact Ext.app _ _ _
  have lt:∀{c:Nat}{x:List SV},H[c]?=some x->c<H.length:=λhx=>(SQ.1 hx).1
  have up:∀{c:Nat}{x:List SV},H[c]?=some x->N[c]?=some x:=λhx=>by rw[ak,SZ (lt hx),hx]
  have aB:N[H.length]?=some [.pv (ab k)]:=by rw[ak];simp
  have aE:=up cF
  have bc:=up cH
  have bY:=up q1
  have F:¬aQ bw bt mp mb' H.length:=λhd=>by
    rcases hd with q|q|⟨k',q⟩|⟨l',e',q,qe⟩
    · have:=lt LH.w;omega
    · have:=lt LH.t;omega
    · obtain⟨_,_,a2,_⟩:=LH.pr k' _ q;have:=lt a2;omega
    · obtain⟨_,_,⟨_,a2,_⟩,_⟩:=LH.by' l' e' q;have:=lt a2;omega
  obtain⟨w3,w4⟩:=SQ.1 L2.w
  obtain⟨c1,c2⟩:=SQ.1 aE
  obtain⟨d1,d2⟩:=SQ.1 bc
  obtain⟨f1,f2⟩:=SQ.1 aB
  obtain⟨g1,g2⟩:=SQ.1 bY
  obtain⟨Q,E⟩:∃Q:Nat,Q=if p.x=l then 0 else 1:=⟨_,rfl⟩
  have bS:B3 [p.x,p.y] l=(Q:Int):=by
    unfold B3
    by_cases c:p.x=l
    · rw[E,SX c]
      exact eU (i:=0) (by simp) (λj hj h=>by omega) (by simp[c])
    · rw[E,SU c]
      exact eU (i:=1) (by simp) (λj hj h=>by cases(show j=0 by omega);simp[c]) (by simp[K.two.resolve_left c])
  have bF:=zf [p.x,p.y] l (by simp)
  rw[bS]at bF
  have bO:uH (bA N 3 b 1) 1 2=.seq false 1 (ae [p.x,p.y]):=by
    have e0:N.getD b []=pT p:=by rw[SS,bY];rfl
    simp only[bA,e0,pT,jB]
    simp[uH,frzC,ae]
  simp[d,bP]
  rw[←ak]
  refine aT.meet JD ⟨[(2,.pv (.ptr h.length 0)),(3,.pv (.ptr (h.length+1) 0)),(5,.own true 1 (ae zs)),(6,.pv (.fn (.func 234) [] [.ptr (h.length+1) 0,.ptr h.length 0])),(22,.al (.slot 5)),(23,.pv (ab zs.length)),(24,.pv (ab i)),(8,.pv (.ptr H.length 0)),(9,.pv (.ptr b 0))],N⟩ (by kernel_rfl) ?_ ?_
  · simp[JD,w3,w4,b9,c1,c2,d1,d2,f1,f2,hb,uS]
    and_intros
    all_goals exact ah.keep (by simp) rfl
  simp
  refine aT.arr [] JG (λ_:Unit=>⟨[(2,.pv (.ptr h.length 0)),(3,.pv (.ptr (h.length+1) 0)),(5,.own true 1 (ae zs)),(6,.pv (.fn (.func 234) [] [.ptr (h.length+1) 0,.ptr h.length 0])),(22,.al (.slot 5)),(23,.pv (ab zs.length)),(24,.pv (ab i)),(8,.pv (.ptr H.length 0)),(9,.pv (.ptr b 0)),(10,.pv (ab Q))],N⟩) (λ_=>True) (by kernel_rfl) ?_ ?_
  · simp[JG,w3,w4,b9,c1,c2,d1,d2,f1,f2,g1,g2,pT,jB,bO]
    refine am.introP bF ?_
    simp
    exact ah.keep (by simp) rfl
  rintro _ _
  have c0:Q<=1:=by rw[E];split<;>omega
  have cy:aX (1 -(Q:Int))=((1 -Q:Nat):Int):=by rw[ao (by omega) (by omega)];omega
  have cB:((1 -Q:Nat):Int)<2:=by omega
  have W:1+(1 -Q)<3:=by omega
  have aW:∀hh:1+(1 -Q)<[SV.pv (.seq false 1 (ae p.lits)),SV.pv (ab p.x),SV.pv (ab p.y)].length,[SV.pv (.seq false 1 (ae p.lits)),SV.pv (ab p.x),SV.pv (ab p.y)][1+(1 -Q)]'hh=SV.pv (ab (pU l p)):=λhh=>by
    unfold pU
    by_cases c:p.x=l
    · rw[SX c]at E
      subst E
      rw[SX c];rfl
    · rw[SU c]at E
      subst E
      rw[SU c];rfl
  simp[cy,cB,W,g1,g2,pT,jB,aW]
  have kO:=λx=>JH N bw ba bt h.length ⟨mp,mb',S'.late,S'.head,S'.seen⟩ T' L2.w L2.t K.ok l aE bc x (pU l p)
  have cw:mW T' l p=(p.lits.drop 0).find? (Oc T' l (pU l p)):=rfl
  refine ax.intro (S:=λ(j:Nat)=>⟨[(2,.pv (.ptr h.length 0)),(3,.pv (.ptr (h.length+1) 0)),(5,.own true 1 (ae zs)),(6,.pv (.fn (.func 234) [] [.ptr (h.length+1) 0,.ptr h.length 0])),(22,.al (.slot 5)),(23,.pv (ab zs.length)),(24,.pv (ab i)),(8,.pv (.ptr H.length 0)),(9,.pv (.ptr b 0)),(10,.pv (ab Q)),(11,.pv (ab (pU l p))),(50,.pv (.seq false 1 (ae p.lits))),(51,.pv (ab p.lits.length)),(52,.pv (ab j))],N⟩)
    (λj=>j<=p.lits.length∧mW T' l p=(p.lits.drop j).find? (Oc T' l (pU l p))) (λj=>p.lits.length -j) 0 ?_ ⟨Tf _,cw⟩ ?_
  · exact ah.keep (by simp) rfl
  rintro j ⟨hj,u⟩
  have cu:=K.lits
  by_cases dj:j<p.lits.length
  · have cz:=dv j
    have cx:p.lits[j]?=some p.lits[j]:=SR dj
    rw[TG dj,List.find?_cons]at u
    simp[dj,cx]
    refine am.intro (kO p.lits[j]) ?_
    rintro _ H3 ⟨bi,rfl⟩
    rw[bi]
    clear bi H3
    cases ho:Oc T' l (pU l p) p.lits[j]
    · rw[ho]at u
      simp only at u
      simp
      exact⟨j+1,by(try dsimp only);omega,⟨by(try dsimp only);omega,u⟩,ah.keep (by simp[cz]) rfl⟩
    · rw[ho]at u
      simp only at u
      have cr:(Q:Int)<2:=by omega
      have cs:Q+1<=2:=by omega
      simp[cr,cs,g1,g2,pT,jB]
      refine⟨by omega,?_⟩
      have aP:List.take (1+Q) [SV.pv (PV.seq false 1 (ae p.lits)),SV.pv (ab p.x),SV.pv (ab p.y)]++SV.pv (ab p.lits[j])::List.drop (1+Q) [SV.pv (ab p.x),SV.pv (ab p.y)]=pT (jb l p p.lits[j]):=by
        unfold jb
        by_cases c:p.x=l
        · rw[SX c]at E
          subst E
          rw[SX c];rfl
        · rw[SU c]at E
          subst E
          rw[SU c];rfl
      rw[aP]
      clear aP
      have eS:oW S' T' l k p=rM S' k l p p.lits[j]:=by unfold oW;rw[u]
      have eT:pW T' l k p=T':=by unfold pW;rw[u]
      have eB:qO T' l p=false:=by unfold qO;rw[u]
      rw[SU (by rw[eB];simp)]at hZ
      have V:=V eB
      rw[eS,eT]at hZ V
      generalize p.lits[j]=x at*
      have L6:=L2.setP hb (jb l p x) (L2.keys.trans (eM _ K.hp).symm)
      have E6:=Ext.set (h:=N) (D:=aQ bw bt mp mb') b (pT (jb l p x)) (.inr (.inr (.inl ⟨k,hb⟩)))
      have n2:¬aQ bw bt mp mb' h.length:=af _ (SY _) (by omega)
      have n3:¬aQ bw bt mp mb' (h.length+1):=af _ (by omega) (by omega)
      generalize cX:N.set b (pT (jb l p x))=H6 at*
      have aG:H6[h.length]?=some [.pv (.ptr bw 0)]:=by rw[E6.same h.length c1 n2,aE]
      have aH:H6[h.length+1]?=some [.pv (ab l)]:=by rw[E6.same (h.length+1) d1 n3,bc]
      have aq:H6[H.length]?=some [.pv (ab k)]:=by rw[E6.same H.length f1 F,aB]
      obtain⟨b8,ca⟩:=SQ.1 L6.w
      obtain⟨bj,cb⟩:=SQ.1 aG
      obtain⟨cc,cd⟩:=SQ.1 aH
      obtain⟨bl,cf⟩:=SQ.1 aq
      obtain⟨z9,a7,bU⟩:=K.byl
      obtain⟨s,aY,⟨aF,b5,b6,b7,cS,cT⟩,ag,cU,cV⟩:=L6.some_b (show lk S'.byl l=some z9 from a7)
      have aR:z9.length<=1000000:=K.hz l z9 a7
      have a4:0<z9.length:=UG.2 bU
      have O:aQ bw bt mp mb' s.b:=.inr (.inr (.inr ⟨l,s,aY,rfl⟩))
      have aN:H.length≠s.b:=λq=>F (q▸O)
      have bL:s.b≠h.length:=λq=>n2 (q▸O)
      have bM:s.b≠h.length+1:=λq=>n3 (q▸O)
      have aw:=iR z9 aR 236 [.iptr 1 [[ab k]] 0 0] (λq=>decide (q=k)) (λr=>by simp) rfl (λm=>by simp) (by simp) (λq _=>JI q k)
      have aL:(bk (λq=>decide (q=k)) z9).length<=z9.length:=jU _ _
      obtain⟨M,bK⟩:∃M,M=bk (λq=>decide (q=k)) z9:=⟨_,rfl⟩
      unfold Lv at aw
      rw[←bK]at aw aL
      obtain⟨X9,aU⟩:∃X:List SV,X=(M++List.replicate (z9.length -M.length) 0).map (λz=>SV.pv (.lit (.int .i64 z)))++aF:=⟨_,rfl⟩
      have bI:X9=aM M++((List.replicate (z9.length -M.length) 0).map (λz=>SV.pv (.lit (.int .i64 z)))++aF):=by
        rw[aU,Tu,Tv];rfl
      have L7:=L6.setB aY M ((List.replicate (z9.length -M.length) 0).map (λz=>SV.pv (.lit (.int .i64 z)))++aF) (λm=>qK m (b6 m) _) M.length rfl (by omega) (by simp;omega)
      rw[←bI]at L7
      have E7:Ext H6 ((H6.set s.b X9).set bw (b9 ba bt ⟨mp,pt mb' l ⟨s.b,M.length,s.cp⟩,S'.late,S'.head,S'.seen⟩)) (aQ bw bt mp mb') (aQ bw bt mp (pt mb' l ⟨s.b,M.length,s.cp⟩)):=by
        refine(((Ext.set s.b X9 O).trans (Ext.set bw _ (.inl rfl))).dom ?_)
        rintro c _ (q|q|q|⟨l',e',q,rfl⟩)
        · exact .inl q
        · exact .inr (.inl q)
        · exact .inr (.inr (.inl q))
        · rw[bJ]at q
          split at q
          · cases q;exact O
          · exact .inr (.inr (.inr ⟨l',e',q,rfl⟩))
      obtain⟨H7a,C⟩:∃H7a,H7a=H6.set s.b X9:=⟨_,rfl⟩
      rw[←C]at L7 E7
      have aK:H7a[bw]?=some (b9 ba bt ⟨mp,mb',S'.late,S'.head,S'.seen⟩):=by rw[C,Tj ag];exact L6.w
      have ai:H7a[h.length]?=some [.pv (.ptr bw 0)]:=by rw[C,Tj bL,aG]
      have aI:H7a[h.length+1]?=some [.pv (ab l)]:=by rw[C,Tj bM,aH]
      have aj:H7a[H.length]?=some [.pv (ab k)]:=by rw[C,Tj aN.symm,aq]
      obtain⟨bm,bn⟩:=SQ.1 aK
      obtain⟨bo,bp⟩:=SQ.1 ai
      obtain⟨bq,br⟩:=SQ.1 aI
      obtain⟨bs,bu⟩:=SQ.1 aj
      have fF:=And.intro Q2 (And.intro b8 (And.intro ca (And.intro bj (And.intro cb (And.intro cc (And.intro cd (And.intro bl (And.intro cf (And.intro bm (And.intro bn (And.intro bo (And.intro bp (And.intro bq (And.intro br (And.intro bs (And.intro bu (And.intro aY (And.intro ag ag.symm))))))))))))))))))
      refine aT.tab [] ⟨[some (66,.pv (.ptr bw 0)),some (67,.pv (.ptr bw 0)),some (68,.pv (.ptr bw 3)),some (69,.al (.cell bw 3)),some (70,.pv (ab l)),some (71,.pv (.ptr bw 0)),some (72,.pv (.ptr bw 0)),some (73,.pv (.ptr bw 3)),some (74,.al (.cell bw 3)),some (75,.pv (ab l)),some (76,.pv (.bsl s.b 1 0 s.n s.cp)),some (77,.pv (.fn (.func 236) [] [.ptr H.length 0])),some (78,.pv (.bsl s.b 1 0 M.length s.cp)),none],[(2,.pv (.ptr h.length 0)),(3,.pv (.ptr (h.length+1) 0)),(5,.own true 1 (ae zs)),(6,.pv (.fn (.func 234) [] [.ptr (h.length+1) 0,.ptr h.length 0])),(8,.pv (.ptr H.length 0)),(13,.pv (ab x)),(22,.al (.slot 5)),(23,.pv (ab zs.length)),(24,.pv (ab i))],[[],[0],[1],[2],[],[],[5],[6],[7],[],[8,9],[],[10,11],[3,4,12]],[12,13],[[0,1],[0,1],[0,1],[0,1],[0,1],[0,1],[0,1],[0],[0],[0],[0],[0],[0],[1]],[],λ|0=>H6|1=>H7a|_=>H7a.set bw (b9 ba bt ⟨mp,pt mb' l ⟨s.b,M.length,s.cp⟩,S'.late,S'.head,S'.seen⟩)⟩ ⟨[(2,.pv (.ptr h.length 0)),(3,.pv (.ptr (h.length+1) 0)),(5,.own true 1 (ae zs)),(6,.pv (.fn (.func 234) [] [.ptr (h.length+1) 0,.ptr h.length 0])),(8,.pv (.ptr H.length 0)),(13,.pv (ab x)),(22,.al (.slot 5)),(23,.pv (ab zs.length)),(24,.pv (ab i))],H7a.set bw (b9 ba bt ⟨mp,pt mb' l ⟨s.b,M.length,s.cp⟩,S'.late,S'.head,S'.seen⟩)⟩ (by kernel_rfl) (by simp[wo,a8]) rfl ?_ (λt h1 g=>?_) ?_
      · simp only[Tb.steps,Iu,Tb.lvA,Tb.dpA,Bd,uF,UQ,Vb,cA,d8,mN,iU,fi,eX,K3,io,jg,TQ,UV,Vr,WD,VN,WU,WT,U1,Vu,TM,Ul]
        and_intros
        all_goals first|trivial|(intro t h1 g;simp only[wo,a8,TP,TI]at h1;simp[fF,wo,h1,g,Tb.postL,Tb.wth,vN,uF,a8,bQ]<;>and_intros<;>first|omega|(intro e;simp[fF,wo,e]))|(intro t h1 g;simp only[wo,a8,TP,TI]at h1;simp[fF,wo,h1,g,Tb.postL,Tb.wth,vN,uF,a8,bQ])
        · refine am.introX (bE.introT (b:=s.b) (b2:=H.length) (zs:=z9) (sp:=aF) (cp:=s.cp) aw (by simp[h1,g]) (by simp[h1,g]) rfl (by simp[h1,g]) (by simp[b7,h1,g]) (by simp[h1,g]) (by simp[h1,g]) b5 aq aN a4 aR ?_)
          rintro _ _ ⟨rfl,rfl⟩
          refine⟨_,_,rfl,rfl,by simp;omega,aL,?_⟩
          rw[←aU,←C]
          simp[fF,wo,ag,ag.symm,aJ,h1,g,Tb.postL,Tb.wth,vN,uF,a8,bQ]<;>and_intros<;>(intro e;simp[fF,aJ,e])
      · simp only[wo,a8,TP,TI]at h1 g;simp[Iv]at g;exact ah.keep (by simp[wo,h1,g]) rfl
      have cn:er S'.byl k l=pt S'.byl l M:=by unfold er;rw[SU K.l0,a7,TC,bK]
      have ad:(H7a.set bw (b9 ba bt ⟨mp,pt mb' l ⟨s.b,M.length,s.cp⟩,S'.late,S'.head,S'.seen⟩))[h.length]?=some [.pv (.ptr bw 0)]:=by rw[Tj (λq=>n2 (.inl q.symm)),ai]
      have bC:(H7a.set bw (b9 ba bt ⟨mp,pt mb' l ⟨s.b,M.length,s.cp⟩,S'.late,S'.head,S'.seen⟩))[H.length]?=some [.pv (ab k)]:=by rw[Tj (λq=>F (.inl q.symm)),aj]
      rw[←cn]at L7
      have cC:=ud (k:=k) (l:=l) K.hz
      clear fF bm bn bo bp bq br bs bu aK ai aI aj C aw aU bI
      generalize pt mb' l ⟨s.b,M.length,s.cp⟩=a at*
      generalize H7a.set bw (b9 ba bt ⟨mp,a,S'.late,S'.head,S'.seen⟩)=I at*
      have n7:¬aQ bw bt mp a h.length:=λq=>n2 (E6.sub _ c1 (E7.sub _ bj q))
      have c4:¬aQ bw bt mp a H.length:=λq=>F (E6.sub _ f1 (E7.sub _ bl q))
      obtain⟨au,bv⟩:=SQ.1 L7.w
      obtain⟨av,bx⟩:=SQ.1 ad
      obtain⟨bz,bB⟩:=SQ.1 bC
      obtain⟨JE,ay⟩:∃JE:List (List SV)->List (Int×By)->Prop,∀Y m,JE Y m↔(LayW Y bw ba bt mp m A T' (rM S' k l p x)∧Ext I Y (aQ bw bt mp a) (aQ bw bt mp m)):=⟨_,λ_ _=>Iff.rfl⟩
      have dom:∀e',(∀c,c<I.length->e'.b=c->∃l0 e0,lk a l0=some e0∧e0.b=c)->∀c,c<I.length->aQ bw bt mp (pt a x e') c->aQ bw bt mp a c:=λe' cl c hc q=>by
        rcases q with q|q|q|⟨l',f,q,q2⟩
        · exact .inl q
        · exact .inr (.inl q)
        · exact .inr (.inr (.inl q))
        · rw[bJ]at q
          split at q
          · cases q;exact .inr (.inr (.inr (cl c hc q2)))
          · exact .inr (.inr (.inr ⟨l',f,q,q2⟩))
      have aO:∀(v:List (List SV)×List (Int×By)),JE v.1 v.2->LayW v.1 bw ba bt mp v.2 A T' (rM S' k l p x)∧Ext G v.1 (aQ bw bt mp mb) (aQ bw bt mp v.2):=λv hj=>by
        obtain⟨j1,j2⟩:=(ay _ _).1 hj
        exact⟨j1,(hE.trans E2).trans ((E6.trans E7).trans j2)⟩
      simp
      cases P:lk a x with
      |none=>
        have cj:=L7.byn x P
        have aC:rM S' k l p x=⟨pt S'.prs k (jb l p x),pt (er S'.byl k l) x [k],S'.late,S'.head,S'.seen⟩:=by
          unfold rM gF
          rw[show lk (er S'.byl k l) x=none from cj];rfl
        have bR:∀cap,1<=cap->(I++[SV.pv (ab k)::List.replicate (cap -1) (SV.pv .bot)])[bw]?=some (b9 ba bt ⟨mp,a,S'.late,S'.head,S'.seen⟩)∧(I++[SV.pv (ab k)::List.replicate (cap -1) (SV.pv .bot)])[h.length]?=some [.pv (.ptr bw 0)]∧JE ((I++[SV.pv (ab k)::List.replicate (cap -1) (SV.pv .bot)]).set bw (b9 ba bt ⟨mp,pt a x ⟨I.length,1,cap⟩,S'.late,S'.head,S'.seen⟩)) (pt a x ⟨I.length,1,cap⟩):=λcap hc=>by
          refine⟨by rw[SZ au];exact L7.w,by rw[SZ av,ad],(ay _ _).2 ⟨?_,?_⟩⟩
          · rw[aC]
            exact L7.newB x [k] (List.replicate (cap -1) (SV.pv .bot)) (λm=>gW m _) 1 cap rfl hc (by simp;omega)
          · refine(((Ext.app I [SV.pv (ab k)::List.replicate (cap -1) (SV.pv .bot)] _).trans (Ext.set bw _ (.inl rfl))).dom (dom _ λc hc e=>?_))
            simp only at e;omega
        have U:=And.intro Q2 (And.intro au (And.intro bv (And.intro av (And.intro bx (And.intro bz (And.intro bB P))))))
        refine aT.tab2 [92] ⟨[some (79,.pv (.ptr bw 0)),some (80,.pv (.ptr bw 0)),some (81,.pv (.ptr bw 3)),some (82,.al (.cell bw 3)),some (83,.pv (ab x)),some (84,.pv (.ptr bw 0)),some (85,.pv (.ptr bw 0)),some (86,.pv (.ptr bw 3)),some (87,.al (.cell bw 3)),some (88,.pv (ab x)),some (89,.pv (.lit (.slice none 0 0))),some (90,.pv (ab k)),some (91,.own true 1 [[ab k]]),none,none],[(2,.pv (.ptr h.length 0)),(3,.pv (.ptr (h.length+1) 0)),(5,.own true 1 (ae zs)),(6,.pv (.fn (.func 234) [] [.ptr (h.length+1) 0,.ptr h.length 0])),(8,.pv (.ptr H.length 0)),(13,.pv (ab x)),(22,.al (.slot 5)),(23,.pv (ab zs.length)),(24,.pv (ab i))],[[],[0],[1],[2],[],[],[5],[6],[7],[],[8,9],[],[11],[10,12],[3,4,13]],[13,14],[[0,1],[0,1],[0,1],[0,1],[0,1],[0,1],[0,1],[0],[0],[0],[0],[0],[0],[0],[1]],[(13,91)],λ_=>I⟩ (λq:List (List SV)×By=>[some (79,.pv (.ptr bw 0)),some (80,.pv (.ptr bw 0)),some (81,.pv (.ptr bw 3)),some (82,.al (.cell bw 3)),some (83,.pv (ab x)),some (84,.pv (.ptr bw 0)),some (85,.pv (.ptr bw 0)),some (86,.pv (.ptr bw 3)),some (87,.al (.cell bw 3)),some (88,.pv (ab x)),some (89,.pv (.lit (.slice none 0 0))),some (90,.pv (ab k)),some (91,.own true 1 [[ab k]]),some (92,.pv (.bsl q.2.b 1 0 q.2.n q.2.cp)),none]) (λq:List (List SV)×By=>λ|1=>q.1|_=>q.1.set bw (b9 ba bt ⟨mp,pt a x q.2,S'.late,S'.head,S'.seen⟩)) (λq:List (List SV)×By=>q.1[bw]?=some (b9 ba bt ⟨mp,a,S'.late,S'.head,S'.seen⟩)∧q.1[h.length]?=some [.pv (.ptr bw 0)]∧JE (q.1.set bw (b9 ba bt ⟨mp,pt a x q.2,S'.late,S'.head,S'.seen⟩)) (pt a x q.2)) 13 0 [13,14] (by kernel_rfl) (λ_=>by kernel_rfl) rfl (by kernel_rfl) (λ_=>by simp[QN]) (by simp[a8]) rfl ?_ ?_
        · simp only[Tb.steps2,Iu,Tb.lvA,Tb.dpA,Bd,uF,UQ,Vb,cA,d8,mN,iU,fi,eX,K3,io,jg,TQ,UV,Vr,WD,VN,WU,WT,U1,Vu,TM,Ul]
          simp only[Nat.reduceLeDiff,Nat.reduceEqDiff,Nat.reduceAdd,UU,Ul,SY,Tf]
          and_intros
          all_goals first|trivial|(intro t h1 g;simp only[a8,TP,TI]at h1;simp[U,wo,h1,g,Tb.postL,Tb.wth,vN,uF,a8,bQ]<;>and_intros<;>first|omega|(intro e;simp[U,wo,e]))|(rintro t h1 q hy g;simp only[a8,TP,TI]at h1;obtain⟨yw,yb,yj⟩:=hy;obtain⟨bf,bg⟩:=SQ.1 yw;obtain⟨bd,be⟩:=SQ.1 yb;simp[Q2,wo,bf,bg,bd,be,h1,g,Tb.postL,Tb.wth,vN,uF,a8,bQ]<;>and_intros<;>first|omega|(intro e;simp[U,wo,e]))|skip
          · intro t h1 g;simp only[a8,TP,TI]at h1
            simp[-Prod.exists,U,wo,h1,g]
            intro cap hc
            refine⟨(_,⟨I.length,1,cap⟩),bR cap hc,?_⟩
            simp[U,h1,g,Tb.postL,Tb.wth,vN,uF,a8,bQ]<;>and_intros<;>(intro e;simp[U,e])
        · rintro q hy t h1 g
          simp only[a8,TP,TI]at h1;simp[Iv]at g
          obtain⟨v,W⟩:∃v:List (List SV)×List (Int×By),v=(q.1.set bw (b9 ba bt ⟨mp,pt a x q.2,S'.late,S'.head,S'.seen⟩),pt a x q.2):=⟨_,rfl⟩
          refine⟨_,ah.keep (t1:=[(2,.pv (.ptr h.length 0)),(3,.pv (.ptr (h.length+1) 0)),(5,.own true 1 (ae zs)),(6,.pv (.fn (.func 234) [] [.ptr (h.length+1) 0,.ptr h.length 0])),(8,.pv (.ptr H.length 0)),(13,.pv (ab x)),(22,.al (.slot 5)),(23,.pv (ab zs.length)),(24,.pv (ab i))]) (h1:=v.1) (by simp[h1,g]) (by rw[W];rfl),?_⟩
          have a3:JE v.1 v.2:=by rw[W];exact hy.2.2
          obtain⟨j1,j2⟩:=aO v a3
          simp
          exact⟨(i+1,v.1,v.2,rM S' k l p x,T'),by(try dsimp only);omega,⟨by(try dsimp only);omega,j1,V,j2,hZ⟩,ah.keep (by simp[a6]) rfl⟩
      |some f=>
        obtain⟨B,bV,⟨o,b3,b4,aS,cN,cO⟩,bb,cP,cR⟩:=L7.by' x f P
        obtain⟨cJ,cK⟩:=SQ.1 b3
        have aC:rM S' k l p x=⟨pt S'.prs k (jb l p x),pt (er S'.byl k l) x (B++[k]),S'.late,S'.head,S'.seen⟩:=by
          unfold rM gF
          rw[show lk (er S'.byl k l) x=some B from bV];rfl
        have a0:(aM B).length=f.n:=by rw[oU];exact aS
        have c3:f.n<=1000000:=by rw[←aS];exact cC x B bV
        have bN:aQ bw bt mp a f.b:=.inr (.inr (.inr ⟨x,f,P,rfl⟩))
        have cI:f.b≠h.length:=λq=>n7 (q▸bN)
        have bh:∀m (s0:List SV),cG m s0->cG m (s0.drop 1):=λm s0 bT=>by cases s0 with|nil=>exact bT|cons _ _=>exact bT.2
        have cZ:(aM B++o).length=f.n+o.length:=by rw[Ta,a0]
        have az:(aM B++o).take f.n=aM B:=UY a0
        have bH:(aM B++o).take f.n=(B.map λz=>PV.lit (.int .i64 z)).map SV.pv:=by rw[az];unfold aM;rw[TX];rfl
        have an:∀R:List SV,aM (B++[k])++R=aM B++SV.pv (ab k)::R:=λR=>by unfold aM;rw[Tu,Tv];rfl
        have bD:(aM B++o).drop (f.n+1)=o.drop 1:=by rw[←a0,Xu];simp
        have a5:f.n+1<=f.cp->(I.set f.b (List.take f.n (aM B++o)++SV.pv (ab k)::List.drop (f.n+1) (aM B++o)))[bw]?=some (b9 ba bt ⟨mp,a,S'.late,S'.head,S'.seen⟩)∧(I.set f.b (List.take f.n (aM B++o)++SV.pv (ab k)::List.drop (f.n+1) (aM B++o)))[h.length]?=some [.pv (.ptr bw 0)]∧
            JE ((I.set f.b (List.take f.n (aM B++o)++SV.pv (ab k)::List.drop (f.n+1) (aM B++o))).set bw (b9 ba bt ⟨mp,pt a x ⟨f.b,f.n+1,f.cp⟩,S'.late,S'.head,S'.seen⟩)) (pt a x ⟨f.b,f.n+1,f.cp⟩):=λhr=>by
          refine⟨by rw[Tj bb];exact L7.w,by rw[Tj cI,ad],(ay _ _).2 ⟨?_,?_⟩⟩
          · rw[az,bD,←an,aC]
            exact L7.setB P (B++[k]) (o.drop 1) (λm=>bh m o (b4 m)) (f.n+1) (by simp;omega) hr (by rw[TN];omega)
          · refine(((Ext.set f.b _ bN).trans (Ext.set bw _ (.inl rfl))).dom (dom _ λc hc q=>?_))
            exact⟨x,f,P,q⟩
        have aZ:∀cap,f.n+1<=cap->(I++[(B.map λz=>PV.lit (.int .i64 z)).map SV.pv++SV.pv (ab k)::List.replicate (cap -(f.n+1)) (SV.pv .bot)])[bw]?=some (b9 ba bt ⟨mp,a,S'.late,S'.head,S'.seen⟩)∧(I++[(B.map λz=>PV.lit (.int .i64 z)).map SV.pv++SV.pv (ab k)::List.replicate (cap -(f.n+1)) (SV.pv .bot)])[h.length]?=some [.pv (.ptr bw 0)]∧
            JE ((I++[(B.map λz=>PV.lit (.int .i64 z)).map SV.pv++SV.pv (ab k)::List.replicate (cap -(f.n+1)) (SV.pv .bot)]).set bw (b9 ba bt ⟨mp,pt a x ⟨I.length,f.n+1,cap⟩,S'.late,S'.head,S'.seen⟩)) (pt a x ⟨I.length,f.n+1,cap⟩):=λcap hc=>by
          refine⟨by rw[SZ au];exact L7.w,by rw[SZ av,ad],(ay _ _).2 ⟨?_,?_⟩⟩
          · rw[aC,←bH,az,←an]
            exact L7.newB x (B++[k]) (List.replicate (cap -(f.n+1)) (SV.pv .bot)) (λm=>gW m _) (f.n+1) cap (by simp;omega) hc (by simp;omega)
          · refine(((Ext.app I _ _).trans (Ext.set bw _ (.inl rfl))).dom (dom _ λc hc q=>?_))
            simp only at q;omega
        clear az bD an
        generalize cY:aM B++o=Yc at*
        have U:=And.intro Q2 (And.intro au (And.intro bv (And.intro av (And.intro bx (And.intro bz (And.intro bB (And.intro P (And.intro cJ (And.intro cK (And.intro bb bb.symm))))))))))
        refine aT.tab2 [92] ⟨[some (79,.pv (.ptr bw 0)),some (80,.pv (.ptr bw 0)),some (81,.pv (.ptr bw 3)),some (82,.al (.cell bw 3)),some (83,.pv (ab x)),some (84,.pv (.ptr bw 0)),some (85,.pv (.ptr bw 0)),some (86,.pv (.ptr bw 3)),some (87,.al (.cell bw 3)),some (88,.pv (ab x)),some (89,.pv (.bsl f.b 1 0 f.n f.cp)),some (90,.pv (ab k)),some (91,.own true 1 [[ab k]]),none,none],[(2,.pv (.ptr h.length 0)),(3,.pv (.ptr (h.length+1) 0)),(5,.own true 1 (ae zs)),(6,.pv (.fn (.func 234) [] [.ptr (h.length+1) 0,.ptr h.length 0])),(8,.pv (.ptr H.length 0)),(13,.pv (ab x)),(22,.al (.slot 5)),(23,.pv (ab zs.length)),(24,.pv (ab i))],[[],[0],[1],[2],[],[],[5],[6],[7],[],[8,9],[],[11],[10,12],[3,4,13]],[13,14],[[0,1],[0,1],[0,1],[0,1],[0,1],[0,1],[0,1],[0],[0],[0],[0],[0],[0],[0],[1]],[(13,91)],λ_=>I⟩ (λq:List (List SV)×By=>[some (79,.pv (.ptr bw 0)),some (80,.pv (.ptr bw 0)),some (81,.pv (.ptr bw 3)),some (82,.al (.cell bw 3)),some (83,.pv (ab x)),some (84,.pv (.ptr bw 0)),some (85,.pv (.ptr bw 0)),some (86,.pv (.ptr bw 3)),some (87,.al (.cell bw 3)),some (88,.pv (ab x)),some (89,.pv (.bsl f.b 1 0 f.n f.cp)),some (90,.pv (ab k)),some (91,.own true 1 [[ab k]]),some (92,.pv (.bsl q.2.b 1 0 q.2.n q.2.cp)),none]) (λq:List (List SV)×By=>λ|1=>q.1|_=>q.1.set bw (b9 ba bt ⟨mp,pt a x q.2,S'.late,S'.head,S'.seen⟩)) (λq:List (List SV)×By=>q.1[bw]?=some (b9 ba bt ⟨mp,a,S'.late,S'.head,S'.seen⟩)∧q.1[h.length]?=some [.pv (.ptr bw 0)]∧JE (q.1.set bw (b9 ba bt ⟨mp,pt a x q.2,S'.late,S'.head,S'.seen⟩)) (pt a x q.2)) 13 0 [13,14] (by kernel_rfl) (λ_=>by kernel_rfl) rfl (by kernel_rfl) (λ_=>by simp[QN]) (by simp[a8]) rfl ?_ ?_
        · simp only[Tb.steps2,Iu,Tb.lvA,Tb.dpA,Bd,uF,UQ,Vb,cA,d8,mN,iU,fi,eX,K3,io,jg,TQ,UV,Vr,WD,VN,WU,WT,U1,Vu,TM,Ul]
          simp only[Nat.reduceLeDiff,Nat.reduceEqDiff,Nat.reduceAdd,UU,Ul,SY,Tf]
          and_intros
          all_goals first|trivial|(intro t h1 g;simp only[a8,TP,TI]at h1;simp[U,wo,h1,g,Tb.postL,Tb.wth,vN,uF,a8,bQ]<;>and_intros<;>first|omega|(intro e;simp[U,wo,e]))|(rintro t h1 q hy g;simp only[a8,TP,TI]at h1;obtain⟨yw,yb,yj⟩:=hy;obtain⟨bf,bg⟩:=SQ.1 yw;obtain⟨bd,be⟩:=SQ.1 yb;simp[Q2,wo,bf,bg,bd,be,h1,g,Tb.postL,Tb.wth,vN,uF,a8,bQ]<;>and_intros<;>first|omega|(intro e;simp[U,wo,e]))|skip
          · intro t h1 g;simp only[a8,TP,TI]at h1
            simp[-Prod.exists,U,wo,h1,g]
            refine⟨by omega,by omega,_,bH,by simpa using aS,λhr=>?_,λhn cap hc=>?_⟩
            · refine⟨(_,⟨f.b,f.n+1,f.cp⟩),a5 hr,?_⟩
              simp[U,h1,g,Tb.postL,Tb.wth,vN,uF,a8,bQ]<;>and_intros<;>(intro e;simp[U,e])
            · refine⟨(_,⟨I.length,f.n+1,cap⟩),aZ cap hc,?_⟩
              simp[U,h1,g,Tb.postL,Tb.wth,vN,uF,a8,bQ]<;>and_intros<;>(intro e;simp[U,e])
        · rintro q hy t h1 g
          simp only[a8,TP,TI]at h1;simp[Iv]at g
          obtain⟨v,W⟩:∃v:List (List SV)×List (Int×By),v=(q.1.set bw (b9 ba bt ⟨mp,pt a x q.2,S'.late,S'.head,S'.seen⟩),pt a x q.2):=⟨_,rfl⟩
          refine⟨_,ah.keep (t1:=[(2,.pv (.ptr h.length 0)),(3,.pv (.ptr (h.length+1) 0)),(5,.own true 1 (ae zs)),(6,.pv (.fn (.func 234) [] [.ptr (h.length+1) 0,.ptr h.length 0])),(8,.pv (.ptr H.length 0)),(13,.pv (ab x)),(22,.al (.slot 5)),(23,.pv (ab zs.length)),(24,.pv (ab i))]) (h1:=v.1) (by simp[h1,g]) (by rw[W];rfl),?_⟩
          have a3:JE v.1 v.2:=by rw[W];exact hy.2.2
          obtain⟨j1,j2⟩:=aO v a3
          simp
          exact⟨(i+1,v.1,v.2,rM S' k l p x,T'),by(try dsimp only);omega,⟨by(try dsimp only);omega,j1,V,j2,hZ⟩,ah.keep (by simp[a6]) rfl⟩
  · have:j=p.lits.length:=by omega
    subst this
    rw[Tq (SY _),List.find?_nil]at u
    have kF:=ub N bw ba bt mp mb' A T' S' L2 k p K.hp K.hx K.hy K.hz
    have eS:oW S' T' l k p=jM (l4 (fl S' k p) k) T' k (pV p):=by unfold oW;rw[u]
    have eT:pW T' l k p=mg T' k (pV p):=by unfold pW;rw[u]
    have eB:qO T' l p=mU T' (pV p):=by unfold qO;rw[u]
    simp[f1,f2,c1,c2]
    refine am.intro kF ?_
    rintro _ H3 ⟨rfl,aa,L3,E3⟩
    have P:H.length<N.length:=f1
    have n2:¬aQ bw bt mp mb' h.length:=af _ (SY _) (by omega)
    have n3:¬aQ bw bt mp mb' (h.length+1):=af _ (by omega) (by omega)
    have bZ:H3[h.length]?=some [.pv (.ptr bw 0)]:=by rw[E3.same h.length c1 n2,aE]
    have b0:H3[H.length]?=some [.pv (ab k)]:=by rw[E3.same H.length f1 F,aB]
    obtain⟨s1,s2⟩:=SQ.1 L3.w
    obtain⟨t1,t2⟩:=SQ.1 bZ
    obtain⟨u1,u2⟩:=SQ.1 b0
    have L4:=L3.setW (pt S'.late k (aX ((lk S'.late k).getD 0+1))) S'.head S'.seen
    have E4:=Ext.set (h:=H3) (D:=aQ bw bt mp aa) bw (b9 ba bt ⟨mp,aa,pt S'.late k (aX ((lk S'.late k).getD 0+1)),S'.head,S'.seen⟩) (.inl rfl)
    have cL:(H3.set bw (b9 ba bt ⟨mp,aa,pt S'.late k (aX ((lk S'.late k).getD 0+1)),S'.head,S'.seen⟩))[h.length]?=some [.pv (.ptr bw 0)]:=by
      rw[Tj (λq=>n2 (.inl q.symm)),bZ]
    have cM:(H3.set bw (b9 ba bt ⟨mp,aa,pt S'.late k (aX ((lk S'.late k).getD 0+1)),S'.head,S'.seen⟩))[H.length]?=some [.pv (ab k)]:=by
      rw[Tj (λq=>F (.inl q.symm)),b0]
    simp
    refine aT.meet Er ⟨[(2,.pv (.ptr h.length 0)),(3,.pv (.ptr (h.length+1) 0)),(5,.own true 1 (ae zs)),(6,.pv (.fn (.func 234) [] [.ptr (h.length+1) 0,.ptr h.length 0])),(22,.al (.slot 5)),(23,.pv (ab zs.length)),(24,.pv (ab i)),(8,.pv (.ptr H.length 0))],H3.set bw (b9 ba bt ⟨mp,aa,pt S'.late k (aX ((lk S'.late k).getD 0+1)),S'.head,S'.seen⟩)⟩ (by kernel_rfl) ?_ ?_
    · simp[Er,s1,s2,b9,t1,t2,u1,u2,fl]
      and_intros
      all_goals exact ah.keep (by simp) (by simp[b9])
    generalize H3.set bw (b9 ba bt ⟨mp,aa,pt S'.late k (aX ((lk S'.late k).getD 0+1)),S'.head,S'.seen⟩)=H4 at*
    obtain⟨y1,y2⟩:=SQ.1 cL
    obtain⟨z1,z2⟩:=SQ.1 cM
    have cv:lk (fl S' k p).prs k=some (pV p):=by
      show lk (pt S'.prs k _) k=_
      rw[bJ,SX rfl];rfl
    have kR:=wm H4 bw ba bt mp aa A T' (l4 (fl S' k p) k) L4 k (pV p) cv K.ok K.tl K.lits (ud (ud K.hz))
    simp[y1,y2,z1,z2]
    refine am.intro kR ?_
    rintro _ H5 ⟨rfl,a9,L5,E5⟩
    rw[←eS,←eT]at L5
    rw[←eB]
    have E35:Ext N H5 (aQ bw bt mp mb') (aQ bw bt mp a9):=(E3.trans E4).trans E5
    cases aV:qO T' l p
    · rw[SU (by rw[aV];simp)]at hZ
      simp
      exact⟨(i+1,H5,a9,oW S' T' l k p,pW T' l k p),by(try dsimp only);omega,⟨by(try dsimp only);omega,L5,V aV,(hE.trans E2).trans E35,hZ⟩,ah.keep (by simp[a6]) rfl⟩
    · rw[SX aV]at hZ
      subst hZ
      have ct:H5[H.length]?=some [.pv (ab k)]:=by
        rw[E35.same H.length f1 F,aB]
      obtain⟨o1,o2⟩:=SQ.1 ct
      simp[o1,o2]
      exact⟨a9,L5,E0.trans ((hE.trans E2).trans E35)⟩
end Go.AX
namespace Go.AX
open Go.Proofs
def fR(S:WS)(T:Tr)(l:Int):WS×Tr×Int:=match lk S.byl l with
 |some zs=>gX l zs S T
 |none=>(S,T,-1)
def Od(S:WS):WS:=⟨S.prs,S.byl,S.late,aX (S.head+1),S.seen⟩
def dF(T:Tr)(S:WS):Int:=aX (-(T.lits.getD S.head.toNat 0))
def lM:Nat->WS->Tr->WS×Tr×Int
 |0,S,T=>(S,T,-1)
 |n+1,S,T=>if S.head<T.lits.length then(if 0<=(fR S T (dF T S)).2.2 then fR S T (dF T S)else lM n (Od (fR S T (dF T S)).1) (fR S T (dF T S)).2.1)else(S,T,-1)
def cr(S:WS)(now:List Int):WS:=⟨S.prs,S.byl,S.late,if(iv S.seen now:Int)<S.head then(iv S.seen now:Int)else S.head,S.seen⟩
def fT(S:WS)(T:Tr):WS×Tr×Int:=ik (cD (S.late.map (·.1))) S T
def iw(S:WS)(T:Tr):WS×Tr×Int:=if 0<=(fT (cr S T.lits) T).2.2 then fT (cr S T.lits) T else lM 1000001 (fT (cr S T.lits) T).1 (fT (cr S T.lits) T).2.1
def fo(S:WS)(T:Tr):WS×Tr×Int:=(⟨(iw S T).1.prs,(iw S T).1.byl,(iw S T).1.late,(iw S T).1.head,(iw S T).2.1.lits⟩,(iw S T).2.1,(iw S T).2.2)
theorem CI(h:List (List SV))(bw ba bt:Nat)(mp:List (Int×Nat))(mb:List (Int×By))(A:Ar)(T:Tr)(S:WS)(L:LayW h bw ba bt mp mb A T S)(l:Int)(c:lk S.byl l=none):
 aA Tryz.prog 157 [.ptr bw 0,ab l] h (λr h'=>r=.pv (ab (-1))∧∃mb',LayW h' bw ba bt mp mb' A T S∧Ext h h' (aQ bw bt mp mb) (aQ bw bt mp mb')):=by
 refine cQ [1,6,7,14,15,18] [.tmp 4] aD Tryz.func157 ?_;have b:lk mb l=none:=by
  cases k:lk mb l with
  |none=>rfl
  |some e=>obtain⟨zs,h1,_⟩:=L.by' l e k;rw[c]at h1;cases h1
 obtain⟨G,a⟩:∃G,G=h++[[SV.pv (.ptr bw 0)],[SV.pv (ab l)]]:=⟨_,rfl⟩;have L0:LayW G bw ba bt mp mb A T S:=by rw[a];exact L.app _
 have g:Ext h G (aQ bw bt mp mb) (aQ bw bt mp mb):=by rw[a];exact Ext.app _ _ _
 have d:G[h.length]?=some [.pv (.ptr bw 0)]:=by rw[a];simp
 have f:G[h.length+1]?=some [.pv (ab l)]:=by rw[a];simp
 obtain⟨m,n⟩:=SQ.1 L0.w;obtain⟨i,j⟩:=SQ.1 d;obtain⟨b1,b2⟩:=SQ.1 f;simp;rw[←a];refine aT.meet x3 ⟨[(2,.pv (.ptr h.length 0)),(3,.pv (.ptr (h.length+1) 0)),(5,.pv (.lit (.slice none 0 0)))],G⟩ (by kernel_rfl) ?_ ?_
 .simp[x3,m,n,b9,i,j,b1,b2,b];and_intros
  all_goals
   refine ai.intro Cv ?_;simp;exact ah.keep (by simp) rfl
 simp;refine ax.intro (S:=λ_:Unit=>⟨[(2,.pv (.ptr h.length 0)),(3,.pv (.ptr (h.length+1) 0)),(23,.pv (ab 0)),(24,.pv (ab 0))],G⟩) (λ_=>True) (λ_=>0) () ?_ trivial ?_
 .exact ah.keep (by simp) rfl
 rintro _ _;simp;exact⟨mb,L0,g⟩
structure ProOk (J:WS->Tr->Prop):Prop where
  ok:∀S T,J S T->T.ok∧T.lits.length<=1000000∧0<=S.head∧S.head<=T.lits.length
  step:∀S T,J S T->S.head<T.lits.length->∀zs,lk S.byl (dF T S)=some zs->zs.length<=1000000∧∃Jf:Nat->WS->Tr->Prop,Jf 0 S T∧∀i S' T',Jf i S' T'->∀(hi:i<zs.length),∃p,StepOk S' T' (dF T S) zs[i] p∧(qO T' (dF T S) p=false->Jf (i+1) (oW S' T' (dF T S) zs[i] p) (pW T' (dF T S) zs[i] p))
  len:∀S T,J S T->S.head<T.lits.length->(fR S T (dF T S)).2.1.lits.length<=1000000
  next:∀S T,J S T->S.head<T.lits.length->¬0<=(fR S T (dF T S)).2.2->(fR S T (dF T S)).2.2=-1∧J (Od (fR S T (dF T S)).1) (fR S T (dF T S)).2.1∧(fR S T (dF T S)).1.head=S.head∧T.lits<+:(fR S T (dF T S)).2.1.lits
set_option maxRecDepth 16000 in
theorem uT(h:List (List SV))(bw ba bt:Nat)(mp:List (Int×Nat))(mb:List (Int×By))(A:Ar)(T:Tr)(S:WS)(L:LayW h bw ba bt mp mb A T S)(ai:T.lits.length<=1000000)(aF:S.seen.length<=1000000)
 (s:List Int) (ad:cD (S.late.map (·.1))=s) (Y:Nat->WS->Tr->Prop) (ar:Y 0 (cr S T.lits) T) (ay:∀q∈S.late,GZ q.1) (az:S.late.length<=1000000)
 (hB:∀i S' T',Y i S' T'->∀(hi:i<s.length),T'.ok∧T'.lits.length<=1000000∧(∀l zs,lk S'.byl l=some zs->zs.length<=1000000)∧∃p,lk S'.prs s[i]=some p∧p.lits.length<=1000000)
 (hJ:∀i S' T' p,Y i S' T'->∀(hi:i<s.length),lk S'.prs s[i]=some p->mU T' p=false->Y (i+1) (jM S' T' s[i] p) (mg T' s[i] p))
 (af:(fT (cr S T.lits) T).2.1.lits.length<=1000000) (J:WS->Tr->Prop) (U:ProOk J) (au:¬0<=(fT (cr S T.lits) T).2.2->(fT (cr S T.lits) T).2.2=-1∧J (fT (cr S T.lits) T).1 (fT (cr S T.lits) T).2.1):
 aA Tryz.prog 91 [.ptr bw 0] h (λr h'=>r=.pv (ab (fo S T).2.2)∧∃mb',LayW h' bw ba bt mp mb' A (fo S T).2.1 (fo S T).1∧Ext h h' (aQ bw bt mp mb) (aQ bw bt mp mb')):=by
 refine cQ [] [.tmp 2] aD Tryz.func91 ?_;obtain⟨w1,w2⟩:=SQ.1 L.w;have hz:=cW L.t 2;have kM:=ua h bw ba bt _ L.w;have kL:=fZ T ai;have kS:=CG h bw ba bt ⟨mp,mb,S.late,S.head,S.seen⟩ T.lits L.w ai aF;have L1:=L.setW S.late (if(iv S.seen T.lits:Int)<S.head then(iv S.seen T.lits:Int)else S.head) S.seen;have E1:=Ext.set (h:=h) (D:=aQ bw bt mp mb) bw (b9 ba bt (Jx ⟨mp,mb,S.late,S.head,S.seen⟩ T.lits)) (.inl rfl);simp;refine am.intro kM ?_;rintro _ h2 ⟨e,rfl⟩;rw[e];clear e h2;simp[w1,w2,b9,hz];refine am.introP kL ?_;simp;refine am.intro (kS.args (xs:=[.ptr bw 0,.seq true 1 (ae T.lits)]) (by simp[bc,bB])) ?_;rintro _ H1 ⟨rfl,rfl⟩;have L1':LayW (h.set bw (b9 ba bt (Jx ⟨mp,mb,S.late,S.head,S.seen⟩ T.lits))) bw ba bt mp mb A T (cr S T.lits):=L1;have C:=Gp _ bw ba bt mp mb A T (cr S T.lits) L1' s ad Y ar ay az hB hJ;generalize h.set bw (b9 ba bt (Jx ⟨mp,mb,S.late,S.head,S.seen⟩ T.lits))=H1 at*;have a:iw S T=if 0<=(fT (cr S T.lits) T).2.2 then fT (cr S T.lits) T else lM 1000001 (fT (cr S T.lits) T).1 (fT (cr S T.lits) T).2.1:=rfl;have ag:fo S T=(⟨(iw S T).1.prs,(iw S T).1.byl,(iw S T).1.late,(iw S T).1.head,(iw S T).2.1.lits⟩,(iw S T).2.1,(iw S T).2.2):=rfl;have G:ik s (cr S T.lits) T=fT (cr S T.lits) T:=by unfold fT;rw[←ad];rfl
 rw[G]at C;generalize fT (cr S T.lits) T=V at*;generalize iw S T=M at*;generalize fo S T=Q at*;obtain⟨S2,T2,k2⟩:=V;simp only at*;simp;refine am.intro C ?_;rintro _ H2 ⟨rfl,aI,L2,E2⟩;have O:=fZ T2 af;have I:=cW L2.t 2;obtain⟨v1,v2⟩:=SQ.1 L2.w;simp[v1,v2,b9,I];refine am.introP O ?_;simp;refine ax.intro (S:=λ(x:List (List SV)×List (Int×By)×WS×Tr×Int×List Int×Nat)=>⟨[(0,.pv (.ptr bw 0)),(3,.pv (ab x.2.2.2.2.1)),(4,.own true 1 (ae x.2.2.2.2.2.1))],x.1⟩)
  (λ x => LayW x.1 bw ba bt mp x.2.1 A x.2.2.2.1 x.2.2.1 ∧ Ext h x.1 (aQ bw bt mp mb) (aQ bw bt mp x.2.1) ∧ x.2.2.2.1.lits.length <= 1000000 ∧
   ((0<=x.2.2.2.2.1∧M=(x.2.2.1,x.2.2.2.1,x.2.2.2.2.1))∨(¬0<=x.2.2.2.2.1∧x.2.2.2.2.1=-1∧J x.2.2.1 x.2.2.2.1∧x.2.2.2.2.2.1<+:x.2.2.2.1.lits∧(x.2.2.1.head<x.2.2.2.2.2.1.length∨x.2.2.2.2.2.1=x.2.2.2.1.lits)∧M=lM x.2.2.2.2.2.2 x.2.2.1 x.2.2.2.1∧1000001<=x.2.2.1.head+x.2.2.2.2.2.2)))
  (λx=>x.2.2.2.2.2.2) (H2,aI,S2,T2,k2,T2.lits,1000001) ?_ ?_ ?_
 .exact ah.keep (by simp) rfl
 .refine⟨L2,E1.trans E2,af,?_⟩
  by_cases c:0<=k2
  .rw[SX c]at a;exact .inl ⟨c,a⟩
  .rw[SU c]at a;have hj:=au c;have hh:=(U.ok _ _ hj.2).2.2.1;exact .inr ⟨c,hj.1,hj.2,WY _,.inr rfl,a,by simp only;omega⟩
 rintro⟨H,mb',S',T',kc,now,n⟩ ⟨P,hE,E,j⟩;dsimp only at P hE E j;obtain⟨W,X⟩:=SQ.1 P.w;have ak:=cW P.t 2;have an:=fZ T' E;have o:∀(M1:M=(S',T',kc)),(LayW (H.set bw (b9 ba bt ⟨mp,mb',S'.late,S'.head,T'.lits⟩)) bw ba bt mp mb' A Q.2.1 Q.1)∧Ext h (H.set bw (b9 ba bt ⟨mp,mb',S'.late,S'.head,T'.lits⟩)) (aQ bw bt mp mb) (aQ bw bt mp mb')∧Q.2.2=kc:=λM1=>by
  rw[ag,M1];exact⟨P.setW S'.late S'.head T'.lits,hE.trans (Ext.set bw _ (.inl rfl)),rfl⟩
 rcases j with⟨hc,g⟩|⟨hc,aw,hj,m,aB,g,hn⟩
 .have v:¬kc<0:=by omega
  obtain⟨g1,g2,g3⟩:=o g;simp[v];simp[W,X,b9,ak];refine am.introP an ?_;simp[W,X,b9];exact⟨g3.symm,mb',g1,g2⟩
 .have v:kc<0:=by omega
  obtain⟨q1,q2,q3,q4⟩:=U.ok _ _ hj;obtain⟨hd,z⟩:∃k:Nat,S'.head=k:=⟨S'.head.toNat,by omega⟩
  by_cases d:hd<now.length
  .have dT:hd<T'.lits.length:=Uk d m.length_le;have hq:now[hd]?=some T'.lits[hd]:=by
    obtain⟨t,ht⟩:=m;rw[←SR dT,←ht,SZ d]
   have b:S'.head<T'.lits.length:=by omega
   have aE:now[hd]=T'.lits[hd]:=by rw[SR d]at hq;exact VH hq
   have aj:aX (-now[hd])=dF T' S':=by rw[aE];simp[dF,z,SR dT]
   have kF:aA Tryz.prog 157 [.ptr bw 0,ab (dF T' S')] H (λr h'=>r=.pv (ab (fR S' T' (dF T' S')).2.2)∧∃F,LayW h' bw ba bt mp F A (fR S' T' (dF T' S')).2.1 (fR S' T' (dF T' S')).1∧Ext H h' (aQ bw bt mp mb') (aQ bw bt mp F)):=by
    cases hb:lk S'.byl (dF T' S')with
    |none=>
     simp only[fR,hb];exact CI H bw ba bt mp mb' A T' S' P _ hb
    |some zs=>
     obtain⟨z1,Jf,z2,z3⟩:=U.step S' T' hj b zs hb;simp only[fR,hb];exact Gq H bw ba bt mp mb' A T' S' P _ zs hb z1 Jf z2 z3
   have u:=U.len S' T' hj b;have aa:=U.next S' T' hj b;cases n with
   |zero=>omega
   |succ n=>
   rw[lM,SX b]at g;generalize fR S' T' (dF T' S')=V at*;generalize dF T' S'=l at*;obtain⟨S3,R,k3⟩:=V;simp only at g u aa kF;clear kL O kM kS C hB hJ a G L1 L1' hz I w1 w2 v1 v2;simp[v,W,X,b9,z,d,aj];refine am.intro kF ?_;rintro _ H3 ⟨rfl,f,L3,E3⟩;obtain⟨t1,t2⟩:=SQ.1 L3.w;have K:=cW L3.t 2;have aq:=fZ R u
   by_cases c3:0<=k3
   .rw[SX c3]at g;simp[c3,t1,t2,b9,K];refine am.introP aq ?_;simp[t1,t2,b9];have:=L3.setW S3.late S3.head R.lits;rw[ag,g];exact⟨rfl,f,this,(hE.trans E3).trans (Ext.set bw _ (.inl rfl))⟩
   .rw[SU c3]at g;obtain⟨r1,r2,r3,r4⟩:=aa c3;obtain⟨b1,b2,b3,b4⟩:=U.ok _ _ r2;have aJ:¬0<=k3:=c3;have Z:=L3.setW S3.late (aX (S3.head+1)) S3.seen;have E4:Ext h (H3.set bw (b9 ba bt ⟨mp,f,S3.late,aX (S3.head+1),S3.seen⟩)) (aQ bw bt mp mb) (aQ bw bt mp f):=(hE.trans E3).trans (Ext.set bw _ (.inl rfl));have B:aX ((hd:Int)+1)=((hd+1:Nat):Int):=by rw[ao (by omega) (by omega)];omega
    have y:S3.head=hd:=r3.trans z;rw[y,B]at Z E4;have N:bA (H3.set bw (b9 ba bt ⟨mp,f,S3.late,((hd+1:Nat):Int),S3.seen⟩)) (2+1) bt 0=bN R:=cW Z.t 2;have aG:Od S3=⟨S3.prs,S3.byl,S3.late,((hd+1:Nat):Int),S3.seen⟩:=by unfold Od;rw[y,B]
    rw[aG]at g r2;clear kF
    by_cases dn:hd+1=now.length
    .rw[dn]at Z E4 N g r2;simp only[b9]at N;simp[c3,t1,t2,b9,K,y,B,dn,N];refine am.introP aq ?_;simp;exact⟨(_,f,⟨S3.prs,S3.byl,S3.late,(now.length:Int),S3.seen⟩,R,k3,R.lits,n),VA n,⟨Z,E4,u,.inr ⟨by simp only;omega,r1,r2,WY _,.inr rfl,g,by simp only;omega⟩⟩,ah.keep (by simp) rfl⟩
    .have aH:¬((hd:Int)+1=now.length):=by omega
     simp[c3,t1,t2,b9,K,y,B,aH];exact⟨(_,f,⟨S3.prs,S3.byl,S3.late,((hd+1:Nat):Int),S3.seen⟩,R,k3,now,n),VA n,⟨Z,E4,u,.inr ⟨by simp only;omega,r1,r2,m.trans r4,.inl (by simp only;omega),g,by simp only;omega⟩⟩,ah.keep (by simp) rfl⟩
  .have aC:¬S'.head<T'.lits.length:=by
    rcases aB with h1|h1
    .omega
    .rw[←h1];omega
   have av:M=(S',T',-1):=by
    rw[g];cases n with
    |zero=>rfl
    |succ n=>rw[lM,SU aC]
   obtain⟨g1,g2,g3⟩:=o (by rw[av,aw]);clear kL O kM kS C hB hJ a G L1 L1' hz I w1 w2 v1 v2;simp[v,W,X,b9,z,d];simp[W,X,b9,ak];refine am.introP an ?_;simp[W,X,b9];exact⟨g3.symm,mb',g1,g2⟩
end Go.AX