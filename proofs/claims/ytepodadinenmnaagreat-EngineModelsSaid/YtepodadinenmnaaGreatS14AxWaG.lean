/-
  Contracts: watches: lates, Attached.
  Contracts: watches: fails.
  Contracts: watches: Propagate.
-/
import Derived.Test.YtepodadinenmnaaGreatS14AxWaD
import Derived.Test.YtepodadinenmnaaGreatRows
import Derived.Test.YtepodadinenmnaaGreatAxKs
import Derived.Test.YtepodadinenmnaaGreatS14AxTtA
import Derived.Test.YtepodadinenmnaaGreatAxTb
namespace Go.AX
open Go.Proofs Go.Maps Go.Shelf
set_option linter.unusedSimpArgs false
theorem tA{α:Type}(f:α->PV):∀l:List (Int×α),DH (a8 f l)=a8 (λ_=>PV.bot) l
 |[]=>rfl
 |(k,x)::l=>by
  show(k,PV.bot)::DH (a8 f l)=(k,PV.bot)::a8 (λ_=>PV.bot) l;rw[tA f l]
def ia:List Int->WS->Tr->WS×Tr×Int
 |[],S,T=>(S,T,-1)
 |k::ks,S,T=>match lk S.prs k with
  |some p=>if mI T p=true then(S,T,k)else ia ks (jK S T k p) (l5 T k p)
  |none=>(S,T,-1)
set_option maxRecDepth 16000 in
theorem FC(h:List (List SV))(bw ba bt:Nat)(mp:List (Int×Nat))(mb:List (Int×By))(A:Ar)(T:Tr)(S:WS)(L:LayW h bw ba bt mp mb A T S)(a:List Int)(f:cL (S.late.map (·.1))=a)(J:Nat->WS->Tr->Prop)(o:J 0 S T)(v:∀q∈S.late,Gg q.1)(g:S.late.length<=1000000)
 (E:∀i S' T',J i S' T'->∀(hi:i<a.length),T'.ok∧T'.lits.length<=1000000∧(∀l zs,lk S'.byl l=some zs->zs.length<=1000000)∧∃p,lk S'.prs a[i]=some p∧p.lits.length<=1000000)
 (F:∀i S' T' p,J i S' T'->∀(hi:i<a.length),lk S'.prs a[i]=some p->mI T' p=false->J (i+1) (jK S' T' a[i] p) (l5 T' a[i] p)):
 aB Tryz.prog 156 [.ptr bw 0] h (λr h'=>r=.pv (ae (ia a S T).2.2)∧∃mb',LayW h' bw ba bt mp mb' A (ia a S T).2.1 (ia a S T).1∧Ext h h' (aU bw bt mp mb) (aU bw bt mp mb')):=by
 refine cR [1] [.tmp 2] aE Tryz.func156 ?_;obtain⟨M,N⟩:=RE.1 L.w;have C:=B2 (λ_:Int=>PV.bot) S.late v g;have G:a.length<=1000000:=by rw[←f];unfold cL;rw[Tj,RR];exact g
 have s:ia a S T=ia (a.drop 0) S T:=rfl;rw[f]at C;generalize ia a S T=Z at*;simp;refine lW.keys [_,_,_,_] [_,_] _ _ _ _ 229 _ _ _ _ _ (aa a) rfl rfl rfl rfl rfl rfl rfl ?_;simp[M,N,cB];rw[tA];refine⟨Ho,C,?_⟩;refine av.intro (S:=λ(x:Nat×List (List SV)×List (Int×By)×WS×Tr)=>⟨[(0,.pv (.ptr bw 0)),(10,.own true 1 (aa a)),(11,.pv (ae a.length)),(12,.pv (ae x.1))],x.2.1⟩)
  (λx=>x.1<=a.length∧LayW x.2.1 bw ba bt mp x.2.2.1 A x.2.2.2.2 x.2.2.2.1∧J x.1 x.2.2.2.1 x.2.2.2.2∧Ext h x.2.1 (aU bw bt mp mb) (aU bw bt mp x.2.2.1)∧Z=ia (a.drop x.1) x.2.2.2.1 x.2.2.2.2)
  (λx=>a.length -x.1) (0,h,mb,S,T) ?_ ⟨RW _,L,o,Ext.refl _ _,s⟩ ?_
 .exact af.keep (by simp) rfl
 rintro⟨i,H,mb',S',T'⟩ ⟨hi,n,e,k,b⟩;dsimp only at hi n e k b
 by_cases d:i<a.length
 .have z:aR ((i:Int)+1)=((i+1:Nat):Int):=by rw[ap (by omega) (by omega)];omega
  have I:a[i]?=some a[i]:=RF d;obtain⟨b1,b2,b3,p,hp,y⟩:=E i S' T' e d;have K:=vF H bw ba bt mp mb' A T' S' n a[i] p hp b1 b2 y b3;rw[Sk d,ia,hp]at b;simp only at b;simp[d,I];refine aj.intro K ?_;rintro _ D ⟨rfl,j,m,B⟩;cases c:mI T' p
  .rw[RH (by rw[c];simp)]at b;simp[c];exact⟨(i+1,D,j,jK S' T' a[i] p,l5 T' a[i] p),by(try dsimp only);omega,⟨by(try dsimp only);omega,m,F i S' T' p e d hp c,k.trans B,b⟩,af.keep (by simp[z]) rfl⟩
  .rw[RI c]at b;subst b;have t:jK S' T' a[i] p=S':=by
    unfold mI at c;unfold jK;rw[RH (by have:=Vw c;omega)]
   have u:l5 T' a[i] p=T':=by
    unfold mI at c;unfold l5;rw[RH (by have:=Vw c;omega)]
   rw[t,u]at m;simp[c];exact⟨j,m,k.trans B⟩
 .have:i=a.length:=by omega
  subst this;rw[Sc (RJ _),ia]at b;subst b;simp;exact⟨mb',n,k⟩
end Go.AX
namespace Go.AX
set_option maxRecDepth 16000
open Go.Proofs
set_option linter.unusedSimpArgs false
def xx:Sch:=
 let c:Sch:=.fork [(6,.take 7 .done)]
 let a:Sch:=.fork [(5,c)]
 let d:Sch:=.fork [(4,a)]
 let b:Sch:=.fork [(3,a)]
 let e:Sch:=.fork [(3,d),(4,b)]
 let f:Sch:=.fork [(0,.take 1 (.take 2 b))]
 let g:Sch:=.fork [(0,.take 1 (.take 2 e)),(4,f)]
 g
def IB:Sch:=
 let a:Sch:=.fork [(5,.take 6 .done)]
 let c:Sch:=.fork [(4,a)]
 let b:Sch:=.fork [(3,a)]
 let d:Sch:=.fork [(3,c),(4,b)]
 let e:Sch:=.fork [(0,.take 1 (.take 2 b))]
 let f:Sch:=.fork [(0,.take 1 (.take 2 d)),(4,e)]
 f
def IC:Sch:=
 let a:Sch:=.fork [(5,.take 6 .done)]
 let b:Sch:=.fork [(4,a)]
 .take 0 (.take 1 (.take 2 (.take 3 b)))
def DI:Sch:=
 let c:Sch:=.fork [(7,.done)]
 let a:Sch:=.fork [(5,.take 6 c)]
 let d:Sch:=.fork [(4,a)]
 let b:Sch:=.fork [(3,a)]
 let e:Sch:=.fork [(3,d),(4,b)]
 let f:Sch:=.fork [(0,.take 1 (.take 2 b))]
 let g:Sch:=.fork [(0,.take 1 (.take 2 e)),(4,f)]
 g
def Nf(T:Tr)(l other x:Int):Bool:=decide (x≠l)&&(decide (x≠other)&&decide (0<=cu T x))
theorem ID(h:List (List SV))(bw ba bt a:Nat)(W:Wt)(T:Tr)(j:h[bw]?=some (cB ba bt W))(ht:h[bt]?=some (gv T))(g:T.ok)(l:Int)(h0:h[a]?=some [.pv (.ptr bw 0)])(h1:h[a+1]?=some [.pv (ae l)])(x other:Int):
 aB Tryz.prog 234 [ae x,ae other,.ptr (a+1) 0,.ptr a 0] h (λr h'=>h'=h∧r=.pv (BL (Nf T l other x))):=by
 refine dV [] [.tmp 6] aE Tryz.func234 ?_;obtain⟨d,f⟩:=RE.1 j;obtain⟨b,c⟩:=RE.1 h0;obtain⟨b1,b2⟩:=RE.1 h1;have i:=fO T x g;have hz:=cI ht 2;unfold Nf
 by_cases c1:x=l
 .simp[d,f,cB,b,c,b1,b2,c1]
 by_cases c2:x=other
 .have c3:¬other=l:=λe=>c1 (c2.trans e);simp[d,f,cB,b,c,b1,b2,c1,c2,c3]
 simp[d,f,cB,b,c,b1,b2,c1,c2,hz];refine aj.introP i ?_ (by simp[c1,c2]) (by simp);simp[c1,c2]
theorem IE(x v:Int):am Tryz.prog 236 [ae x,.iptr 1 [[ae v]] 0 0] (λr=>r=.pv (BL (decide (x=v)))):=by
 refine aq aE Tryz.func236 ?_;simp
def pC(l:Int)(p:Pr):Int:=if p.x=l then p.y else p.x
def mK(T:Tr)(l:Int)(p:Pr):Option Int:=p.lits.find? (Nf T l (pC l p))
def jd(l:Int)(p:Pr)(x:Int):Pr:=if p.x=l then⟨p.lits,x,p.y⟩else⟨p.lits,p.x,x⟩
def rl(S:WS)(k l:Int)(p:Pr)(x:Int):WS:=⟨pt S.prs k (jd l p x),gE (fH S.byl k l) k x,S.late,S.head,S.seen⟩
def lS(S:WS)(k:Int):WS:=⟨S.prs,S.byl,pt S.late k (aR ((lk S.late k).getD 0+1)),S.head,S.seen⟩
def pD(p:Pr):Pr:=⟨p.lits,0,0⟩
def oC(S:WS)(T:Tr)(l k:Int)(p:Pr):WS:=match mK T l p with
 |some x=>rl S k l p x
 |none=>jK (lS (mH S k p) k) T k (pD p)
def pE(T:Tr)(l k:Int)(p:Pr):Tr:=match mK T l p with
 |some _=>T
 |none=>l5 T k (pD p)
def qs(T:Tr)(l:Int)(p:Pr):Bool:=match mK T l p with
 |some _=>false
 |none=>mI T (pD p)
def gU(l:Int):List Int->WS->Tr->WS×Tr×Int
 |[],S,T=>(S,T,-1)
 |k::ks,S,T=>match lk S.prs k with
  |some p=>if qs T l p=true then(oC S T l k p,pE T l k p,k)else gU l ks (oC S T l k p) (pE T l k p)
  |none=>(S,T,-1)
structure StepOk (S:WS) (T:Tr) (l k:Int) (p:Pr):Prop where
  hp:lk S.prs k=some p
  l0:l≠0
  two:p.x=l∨p.y=l
  lits:p.lits.length<=1000000
  byl:∃zs,lk S.byl l=some zs∧zs≠[]
  hx:p.x≠0->∃zs,lk S.byl p.x=some zs∧zs≠[]
  hy:p.y≠0->∃zs,lk (fH S.byl k p.x) p.y=some zs∧zs≠[]
  hz:∀l zs,lk S.byl l=some zs->zs.length<=1000000
  ok:T.ok
  tl:T.lits.length<=1000000
theorem tB{byl:List (Int×List Int)}{k l:Int}{n:Nat}(h:∀l zs,lk byl l=some zs->zs.length<=n):∀m zs,lk (fH byl k l) m=some zs->zs.length<=n:=λm zs a=>by
 unfold fH at a;split at a
 .exact h m zs a
 .rw[bK]at a;split at a
  .cases a
   refine Sn (jS _ _) ?_;cases b:lk byl l with
   |none=>exact RW _
   |some z=>exact h l z b
  .exact h m zs a
def vH(a m:Nat)(zs:List Int)(i:Nat)(x:Int):List (Nat×SV):=[(2,.pv (.ptr a 0)),(3,.pv (.ptr (a+1) 0)),(5,.own true 1 (aa zs)),(6,.pv (.fn (.func 234) [] [.ptr (a+1) 0,.ptr a 0])),(8,.pv (.ptr m 0)),(13,.pv (ae x)),(22,.al (.slot 5)),(23,.pv (ae zs.length)),(24,.pv (ae i))]
theorem PX:(∀x:By,Gl x=.bsl x.b 1 0 x.n x.cp)∧(∀(ba bt:Nat)(W:Wt),cB ba bt W=[.pv (.ptr ba 0),.pv (.ptr bt 0),.omap true (a8 vD W.prs),.omap true (a8 Gl W.byl),.omap true (a8 fI W.late),.pv (ae W.head),.own true 1 (aa W.seen)])∧(∀(a m:Nat)(zs:List Int)(i:Nat)(x:Int),vH a m zs i x=[(2,.pv (.ptr a 0)),(3,.pv (.ptr (a+1) 0)),(5,.own true 1 (aa zs)),(6,.pv (.fn (.func 234) [] [.ptr (a+1) 0,.ptr a 0])),(8,.pv (.ptr m 0)),(13,.pv (ae x)),(22,.al (.slot 5)),(23,.pv (ae zs.length)),(24,.pv (ae i))])∧(∀b k n s:Nat,aI b k n (.slot s)=false)∧∀b k n b' k':Nat,aI b k n (.cell b' k')=(b==b'&&decide (k<=k')&&decide (k'<k+n)):=⟨λ_=>rfl,λ_ _ _=>rfl,λ_ _ _ _ _=>rfl,λ_ _ _ _=>rfl,λ_ _ _ _ _=>rfl⟩
set_option maxRecDepth 32000 in
set_option maxHeartbeats 8000000 in
theorem FD(h:List (List SV))(bw ba bt:Nat)(mp:List (Int×Nat))(mb:List (Int×By))(A:Ar)(T:Tr)(S:WS)(L:LayW h bw ba bt mp mb A T S)(l:Int)(zs:List Int)(cF:lk S.byl l=some zs)(cE:zs.length<=1000000)(J:Nat->WS->Tr->Prop)(cg:J 0 S T)
    (hJ:∀i S' T',J i S' T'->∀(hi:i<zs.length),∃p,StepOk S' T' l zs[i] p∧(qs T' l p=false->J (i+1) (oC S' T' l zs[i] p) (pE T' l zs[i] p))):
    aB Tryz.prog 157 [.ptr bw 0,ae l] h (λr h'=>r=.pv (ae (gU l zs S T).2.2)∧∃mb',LayW h' bw ba bt mp mb' A (gU l zs S T).2.1 (gU l zs S T).1∧Ext h h' (aU bw bt mp mb) (aU bw bt mp mb')):=by
  refine cR [1,6,7,14,15,18] [.tmp 4] aE Tryz.func157 ?_
  obtain⟨e,he,⟨sp,e1,f,e3,e4,e5⟩,e6,e7,e8⟩:=L.some_b cF
  obtain⟨G,hG⟩:∃G,G=h++[[SV.pv (.ptr bw 0)],[SV.pv (ae l)]]:=⟨_,rfl⟩
  have L0:LayW G bw ba bt mp mb A T S:=by rw[hG];exact L.app _
  have E0:Ext h G (aU bw bt mp mb) (aU bw bt mp mb):=by rw[hG];exact Ext.app _ _ _
  have bW:G[h.length]?=some [.pv (.ptr bw 0)]:=by rw[hG];simp
  have bX:G[h.length+1]?=some [.pv (ae l)]:=by rw[hG];simp
  have ar:∀b,h.length<=b->¬aU bw bt mp mb b:=λb hb hd=>by
    have lt:∀{c:Nat}{x:List SV},h[c]?=some x->c<h.length:=λhx=>(RE.1 hx).1
    rcases hd with q|q|⟨k,q⟩|⟨l',e',q,rfl⟩
    · have:=lt L.w;omega
    · have:=lt L.t;omega
    · obtain⟨_,_,a2,_⟩:=L.pr k b q;have:=lt a2;omega
    · obtain⟨_,_,⟨_,a2,_⟩,_⟩:=L.by' l' e' q;have:=lt a2;omega
  obtain⟨w1,w2⟩:=RE.1 L0.w
  obtain⟨a1,a2⟩:=RE.1 bW
  obtain⟨b1,b2⟩:=RE.1 bX
  have ck:=iI zs cE
  have cm:G[e.b]?=some (aM zs++sp):=by rw[hG,RL (RE.1 e1).1,e1]
  have cq:ui (bG G 3 e.b 0) 1 e.n=.seq false 1 (aa zs):=by rw[←e3];exact Lf G e.b zs sp cm 2
  have cf:gU l zs S T=gU l (zs.drop 0) S T:=rfl
  generalize gU l zs S T=Z at*
  simp
  rw[←hG]
  refine aQ.meet xx ⟨[(2,.pv (.ptr h.length 0)),(3,.pv (.ptr (h.length+1) 0)),(5,.own true 1 (aa zs))],G⟩ (by kernel_rfl) ?_ ?_
  · simp[xx,w1,w2,cB,a1,a2,b1,b2,he,Gl,cq]
    and_intros
    all_goals
      refine aj.introP ck ?_
      simp
      exact af.keep (by simp) rfl
  simp
  refine av.intro (S:=λ(x:Nat×List (List SV)×List (Int×By)×WS×Tr)=>⟨[(2,.pv (.ptr h.length 0)),(3,.pv (.ptr (h.length+1) 0)),(5,.own true 1 (aa zs)),(6,.pv (.fn (.func 234) [] [.ptr (h.length+1) 0,.ptr h.length 0])),(22,.al (.slot 5)),(23,.pv (ae zs.length)),(24,.pv (ae x.1))],x.2.1⟩)
    (λx=>x.1<=zs.length∧LayW x.2.1 bw ba bt mp x.2.2.1 A x.2.2.2.2 x.2.2.2.1∧J x.1 x.2.2.2.1 x.2.2.2.2∧Ext G x.2.1 (aU bw bt mp mb) (aU bw bt mp x.2.2.1)∧Z=gU l (zs.drop x.1) x.2.2.2.1 x.2.2.2.2)
    (λx=>zs.length -x.1) (0,G,mb,S,T) ?_ ⟨RW _,L0,cg,Ext.refl _ _,cf⟩ ?_
  · exact af.keep (by simp) rfl
  rintro⟨i,H,mb',S',T'⟩ ⟨hi,LH,bH,hE,hZ⟩
  dsimp only at hi LH bH hE hZ
  have cW:G.length=h.length+2:=by rw[hG];simp
  have cG:H[h.length]?=some [.pv (.ptr bw 0)]:=by rw[hE.same h.length (by omega) (ar _ (RJ _)),bW]
  have cH:H[h.length+1]?=some [.pv (ae l)]:=by rw[hE.same (h.length+1) (by omega) (ar _ (by omega)),bX]
  have ag:∀b,h.length<=b->b<G.length->¬aU bw bt mp mb' b:=λb hb cj hd=>ar b hb (hE.sub b cj hd)
  by_cases d:i<zs.length
  rotate_left
  · have:i=zs.length:=by omega
    subst this
    rw[Sc (RJ _),gU]at hZ
    subst hZ
    simp
    exact⟨mb',LH,E0.trans hE⟩
  have a8:aR ((i:Int)+1)=((i+1:Nat):Int):=by rw[ap (by omega) (by omega)];omega
  have hq:zs[i]?=some zs[i]:=RF d
  obtain⟨p,K,V⟩:=hJ i S' T' bH d
  rw[Sk d,gU,K.hp]at hZ
  simp only at hZ
  obtain⟨k,bQ⟩:∃k,zs[i]=k:=⟨_,rfl⟩
  rw[bQ]at K V hZ hq
  obtain⟨b,hb,q1,q2,q3,q4⟩:=LH.some_p K.hp
  -- the number is boxed
  obtain⟨N,an⟩:∃N,N=H++[[SV.pv (ae k)]]:=⟨_,rfl⟩
  have L2:LayW N bw ba bt mp mb' A T' S':=by rw[an];exact LH.app _
  have E2:Ext H N (aU bw bt mp mb') (aU bw bt mp mb'):=by rw[an];exact Ext.app _ _ _
  have lt:∀{c:Nat}{x:List SV},H[c]?=some x->c<H.length:=λhx=>(RE.1 hx).1
  have up:∀{c:Nat}{x:List SV},H[c]?=some x->N[c]?=some x:=λhx=>by rw[an,RL (lt hx),hx]
  have aA:N[H.length]?=some [.pv (ae k)]:=by rw[an];simp
  have aD:=up cG
  have bd:=up cH
  have bY:=up q1
  have F:¬aU bw bt mp mb' H.length:=λhd=>by
    rcases hd with q|q|⟨k',q⟩|⟨l',e',q,qe⟩
    · have:=lt LH.w;omega
    · have:=lt LH.t;omega
    · obtain⟨_,_,a2,_⟩:=LH.pr k' _ q;have:=lt a2;omega
    · obtain⟨_,_,⟨_,a2,_⟩,_⟩:=LH.by' l' e' q;have:=lt a2;omega
  obtain⟨w3,w4⟩:=RE.1 L2.w
  obtain⟨c1,c2⟩:=RE.1 aD
  obtain⟨d1,d2⟩:=RE.1 bd
  obtain⟨f1,f2⟩:=RE.1 aA
  obtain⟨g1,g2⟩:=RE.1 bY
  obtain⟨Q,E⟩:∃Q:Nat,Q=if p.x=l then 0 else 1:=⟨_,rfl⟩
  have bS:BA [p.x,p.y] l=(Q:Int):=by
    unfold BA
    by_cases c:p.x=l
    · rw[E,RI c]
      exact f9 (i:=0) (by simp) (λj hj h=>by omega) (by simp[c])
    · rw[E,RH c]
      exact f9 (i:=1) (by simp) (λj hj h=>by cases(show j=0 by omega);simp[c]) (by simp[K.two.resolve_left c])
  have bF:=yL [p.x,p.y] l (by simp)
  rw[bS]at bF
  have bP:ui (bG N 3 b 1) 1 2=.seq false 1 (aa [p.x,p.y]):=by
    have e0:N.getD b []=pB p:=by rw[RG,bY];rfl
    simp only[bG,e0,pB,jC]
    simp[ui,frzC,aa]
  simp[d,bQ]
  rw[←an]
  refine aQ.meet IB ⟨[(2,.pv (.ptr h.length 0)),(3,.pv (.ptr (h.length+1) 0)),(5,.own true 1 (aa zs)),(6,.pv (.fn (.func 234) [] [.ptr (h.length+1) 0,.ptr h.length 0])),(22,.al (.slot 5)),(23,.pv (ae zs.length)),(24,.pv (ae i)),(8,.pv (.ptr H.length 0)),(9,.pv (.ptr b 0))],N⟩ (by kernel_rfl) ?_ ?_
  · simp[IB,w3,w4,cB,c1,c2,d1,d2,f1,f2,hb,vD]
    and_intros
    all_goals exact af.keep (by simp) rfl
  simp
  refine aQ.arr [] IC (λ_:Unit=>⟨[(2,.pv (.ptr h.length 0)),(3,.pv (.ptr (h.length+1) 0)),(5,.own true 1 (aa zs)),(6,.pv (.fn (.func 234) [] [.ptr (h.length+1) 0,.ptr h.length 0])),(22,.al (.slot 5)),(23,.pv (ae zs.length)),(24,.pv (ae i)),(8,.pv (.ptr H.length 0)),(9,.pv (.ptr b 0)),(10,.pv (ae Q))],N⟩) (λ_=>True) (by kernel_rfl) ?_ ?_
  · simp[IC,w3,w4,cB,c1,c2,d1,d2,f1,f2,g1,g2,pB,jC,bP]
    refine aj.introP bF ?_
    simp
    exact af.keep (by simp) rfl
  rintro _ _
  have c3:Q<=1:=by rw[E];split<;>omega
  have cy:aR (1 -(Q:Int))=((1 -Q:Nat):Int):=by rw[ap (by omega) (by omega)];omega
  have cC:((1 -Q:Nat):Int)<2:=by omega
  have W:1+(1 -Q)<3:=by omega
  have aY:∀hh:1+(1 -Q)<[SV.pv (.seq false 1 (aa p.lits)),SV.pv (ae p.x),SV.pv (ae p.y)].length,[SV.pv (.seq false 1 (aa p.lits)),SV.pv (ae p.x),SV.pv (ae p.y)][1+(1 -Q)]'hh=SV.pv (ae (pC l p)):=λhh=>by
    unfold pC
    by_cases c:p.x=l
    · rw[RI c]at E
      subst E
      rw[RI c];rfl
    · rw[RH c]at E
      subst E
      rw[RH c];rfl
  simp[cy,cC,W,g1,g2,pB,jC,aY]
  have kO:=λx=>ID N bw ba bt h.length ⟨mp,mb',S'.late,S'.head,S'.seen⟩ T' L2.w L2.t K.ok l aD bd x (pC l p)
  have cw:mK T' l p=(p.lits.drop 0).find? (Nf T' l (pC l p)):=rfl
  refine av.intro (S:=λ(j:Nat)=>⟨[(2,.pv (.ptr h.length 0)),(3,.pv (.ptr (h.length+1) 0)),(5,.own true 1 (aa zs)),(6,.pv (.fn (.func 234) [] [.ptr (h.length+1) 0,.ptr h.length 0])),(22,.al (.slot 5)),(23,.pv (ae zs.length)),(24,.pv (ae i)),(8,.pv (.ptr H.length 0)),(9,.pv (.ptr b 0)),(10,.pv (ae Q)),(11,.pv (ae (pC l p))),(50,.pv (.seq false 1 (aa p.lits))),(51,.pv (ae p.lits.length)),(52,.pv (ae j))],N⟩)
    (λj=>j<=p.lits.length∧mK T' l p=(p.lits.drop j).find? (Nf T' l (pC l p))) (λj=>p.lits.length -j) 0 ?_ ⟨RW _,cw⟩ ?_
  · exact af.keep (by simp) rfl
  rintro j ⟨hj,u⟩
  have cu:=K.lits
  by_cases dj:j<p.lits.length
  · have cA:=dq j
    have cx:p.lits[j]?=some p.lits[j]:=RF dj
    rw[Sk dj,List.find?_cons]at u
    simp[dj,cx]
    refine aj.intro (kO p.lits[j]) ?_
    rintro _ H3 ⟨bj,rfl⟩
    rw[bj]
    clear bj H3
    cases ho:Nf T' l (pC l p) p.lits[j]
    · rw[ho]at u
      simp only at u
      simp
      exact⟨j+1,by(try dsimp only);omega,⟨by(try dsimp only);omega,u⟩,af.keep (by simp[cA]) rfl⟩
    · rw[ho]at u
      simp only at u
      have cr:(Q:Int)<2:=by omega
      have cs:Q+1<=2:=by omega
      simp[cr,cs,g1,g2,pB,jC]
      refine⟨by omega,?_⟩
      have aP:List.take (1+Q) [SV.pv (PV.seq false 1 (aa p.lits)),SV.pv (ae p.x),SV.pv (ae p.y)]++SV.pv (ae p.lits[j])::List.drop (1+Q) [SV.pv (ae p.x),SV.pv (ae p.y)]=pB (jd l p p.lits[j]):=by
        unfold jd
        by_cases c:p.x=l
        · rw[RI c]at E
          subst E
          rw[RI c];rfl
        · rw[RH c]at E
          subst E
          rw[RH c];rfl
      rw[aP]
      clear aP
      have eS:oC S' T' l k p=rl S' k l p p.lits[j]:=by unfold oC;rw[u]
      have eT:pE T' l k p=T':=by unfold pE;rw[u]
      have eB:qs T' l p=false:=by unfold qs;rw[u]
      rw[RH (by rw[eB];simp)]at hZ
      have V:=V eB
      rw[eS,eT]at hZ V
      generalize p.lits[j]=x at*
      have L6:=L2.setP hb (jd l p x) (L2.keys.trans (iS _ K.hp).symm)
      have E6:=Ext.set (h:=N) (D:=aU bw bt mp mb') b (pB (jd l p x)) (.inr (.inr (.inl ⟨k,hb⟩)))
      have n2:¬aU bw bt mp mb' h.length:=ag _ (RJ _) (by omega)
      have n3:¬aU bw bt mp mb' (h.length+1):=ag _ (by omega) (by omega)
      generalize cY:N.set b (pB (jd l p x))=H6 at*
      have aG:H6[h.length]?=some [.pv (.ptr bw 0)]:=by rw[E6.same h.length c1 n2,aD]
      have aH:H6[h.length+1]?=some [.pv (ae l)]:=by rw[E6.same (h.length+1) d1 n3,bd]
      have aq:H6[H.length]?=some [.pv (ae k)]:=by rw[E6.same H.length f1 F,aA]
      obtain⟨b8,b9⟩:=RE.1 L6.w
      obtain⟨bl,ca⟩:=RE.1 aG
      obtain⟨cb,cc⟩:=RE.1 aH
      obtain⟨bm,cd⟩:=RE.1 aq
      obtain⟨z9,a9,bU⟩:=K.byl
      obtain⟨s,a0,⟨aF,b5,b6,b7,cS,cT⟩,ah,cU,cV⟩:=L6.some_b (show lk S'.byl l=some z9 from a9)
      have aS:z9.length<=1000000:=K.hz l z9 a9
      have a6:0<z9.length:=To.2 bU
      have O:aU bw bt mp mb' s.b:=.inr (.inr (.inr ⟨l,s,a0,rfl⟩))
      have aN:H.length≠s.b:=λq=>F (q▸O)
      have bM:s.b≠h.length:=λq=>n2 (q▸O)
      have bN:s.b≠h.length+1:=λq=>n3 (q▸O)
      have ax:=iJ z9 aS 236 [.iptr 1 [[ae k]] 0 0] (λq=>decide (q=k)) (λr=>by simp) rfl (λm=>by simp) (by simp) (λq _=>IE q k)
      have aL:(bk (λq=>decide (q=k)) z9).length<=z9.length:=jS _ _
      obtain⟨M,bL⟩:∃M,M=bk (λq=>decide (q=k)) z9:=⟨_,rfl⟩
      unfold KK at ax
      rw[←bL]at ax aL
      obtain⟨X9,aW⟩:∃X:List SV,X=(M++List.replicate (z9.length -M.length) 0).map (λz=>SV.pv (.lit (.int .i64 z)))++aF:=⟨_,rfl⟩
      have bJ:X9=aM M++((List.replicate (z9.length -M.length) 0).map (λz=>SV.pv (.lit (.int .i64 z)))++aF):=by
        rw[aW,Sb,Si];rfl
      have L7:=L6.setB a0 M ((List.replicate (z9.length -M.length) 0).map (λz=>SV.pv (.lit (.int .i64 z)))++aF) (λm=>qp m (b6 m) _) M.length rfl (by omega) (by simp;omega)
      rw[←bJ]at L7
      have E7:Ext H6 ((H6.set s.b X9).set bw (cB ba bt ⟨mp,pt mb' l ⟨s.b,M.length,s.cp⟩,S'.late,S'.head,S'.seen⟩)) (aU bw bt mp mb') (aU bw bt mp (pt mb' l ⟨s.b,M.length,s.cp⟩)):=by
        refine(((Ext.set s.b X9 O).trans (Ext.set bw _ (.inl rfl))).dom ?_)
        rintro c _ (q|q|q|⟨l',e',q,rfl⟩)
        · exact .inl q
        · exact .inr (.inl q)
        · exact .inr (.inr (.inl q))
        · rw[bK]at q
          split at q
          · cases q;exact O
          · exact .inr (.inr (.inr ⟨l',e',q,rfl⟩))
      obtain⟨H7a,C⟩:∃H7a,H7a=H6.set s.b X9:=⟨_,rfl⟩
      rw[←C]at L7 E7
      have aK:H7a[bw]?=some (cB ba bt ⟨mp,mb',S'.late,S'.head,S'.seen⟩):=by rw[C,RY ah];exact L6.w
      have ai:H7a[h.length]?=some [.pv (.ptr bw 0)]:=by rw[C,RY bM,aG]
      have aJ:H7a[h.length+1]?=some [.pv (ae l)]:=by rw[C,RY bN,aH]
      have ak:H7a[H.length]?=some [.pv (ae k)]:=by rw[C,RY aN.symm,aq]
      obtain⟨bn,bo⟩:=RE.1 aK
      obtain⟨bp,bq⟩:=RE.1 ai
      obtain⟨br,bs⟩:=RE.1 aJ
      obtain⟨bu,bv⟩:=RE.1 ak
      have fF:=And.intro PX (And.intro b8 (And.intro b9 (And.intro bl (And.intro ca (And.intro cb (And.intro cc (And.intro bm (And.intro cd (And.intro bn (And.intro bo (And.intro bp (And.intro bq (And.intro br (And.intro bs (And.intro bu (And.intro bv (And.intro a0 (And.intro ah ah.symm))))))))))))))))))
      refine aQ.tab [] ⟨[some (66,.pv (.ptr bw 0)),some (67,.pv (.ptr bw 0)),some (68,.pv (.ptr bw 3)),some (69,.al (.cell bw 3)),some (70,.pv (ae l)),some (71,.pv (.ptr bw 0)),some (72,.pv (.ptr bw 0)),some (73,.pv (.ptr bw 3)),some (74,.al (.cell bw 3)),some (75,.pv (ae l)),some (76,.pv (.bsl s.b 1 0 s.n s.cp)),some (77,.pv (.fn (.func 236) [] [.ptr H.length 0])),some (78,.pv (.bsl s.b 1 0 M.length s.cp)),none],[(2,.pv (.ptr h.length 0)),(3,.pv (.ptr (h.length+1) 0)),(5,.own true 1 (aa zs)),(6,.pv (.fn (.func 234) [] [.ptr (h.length+1) 0,.ptr h.length 0])),(8,.pv (.ptr H.length 0)),(13,.pv (ae x)),(22,.al (.slot 5)),(23,.pv (ae zs.length)),(24,.pv (ae i))],[[],[0],[1],[2],[],[],[5],[6],[7],[],[8,9],[],[10,11],[3,4,12]],[12,13],[[0,1],[0,1],[0,1],[0,1],[0,1],[0,1],[0,1],[0],[0],[0],[0],[0],[0],[1]],[],λ|0=>H6|1=>H7a|_=>H7a.set bw (cB ba bt ⟨mp,pt mb' l ⟨s.b,M.length,s.cp⟩,S'.late,S'.head,S'.seen⟩)⟩ ⟨[(2,.pv (.ptr h.length 0)),(3,.pv (.ptr (h.length+1) 0)),(5,.own true 1 (aa zs)),(6,.pv (.fn (.func 234) [] [.ptr (h.length+1) 0,.ptr h.length 0])),(8,.pv (.ptr H.length 0)),(13,.pv (ae x)),(22,.al (.slot 5)),(23,.pv (ae zs.length)),(24,.pv (ae i))],H7a.set bw (cB ba bt ⟨mp,pt mb' l ⟨s.b,M.length,s.cp⟩,S'.late,S'.head,S'.seen⟩)⟩ (by kernel_rfl) (by simp[vH,aT]) rfl ?_ (λt h1 g=>?_) ?_
      · simp only[Tb.steps,Gi,Tb.lvA,Tb.dpA,y8,pm,Tp,TH,cz,dY,lN,gZ,eO,eM,GS,gM,im,SC,Tw,Ui,U3,Uw,Vl,Vk,TC,Ux,Ss,S8]
        and_intros
        all_goals first|trivial|(intro t h1 g;simp only[vH,aT,Sq,Sj]at h1;simp[fF,vH,h1,g,Tb.postL,Tb.wth,qP,pm,aT,aZ]<;>and_intros<;>first|omega|(intro e;simp[fF,vH,e]))|(intro t h1 g;simp only[vH,aT,Sq,Sj]at h1;simp[fF,vH,h1,g,Tb.postL,Tb.wth,qP,pm,aT,aZ])
        · refine aj.introX (bC.introT (b:=s.b) (b2:=H.length) (zs:=z9) (sp:=aF) (cp:=s.cp) ax (by simp[h1,g]) (by simp[h1,g]) rfl (by simp[h1,g]) (by simp[b7,h1,g]) (by simp[h1,g]) (by simp[h1,g]) b5 aq aN a6 aS ?_)
          rintro _ _ ⟨rfl,rfl⟩
          refine⟨_,_,rfl,rfl,by simp;omega,aL,?_⟩
          rw[←aW,←C]
          simp[fF,vH,ah,ah.symm,aI,h1,g,Tb.postL,Tb.wth,qP,pm,aT,aZ]<;>and_intros<;>(intro e;simp[fF,aI,e])
      · simp only[vH,aT,Sq,Sj]at h1 g;simp[Gj]at g;exact af.keep (by simp[vH,h1,g]) rfl
      have cn:fH S'.byl k l=pt S'.byl l M:=by unfold fH;rw[RH K.l0,a9,Sm,bL]
      have ad:(H7a.set bw (cB ba bt ⟨mp,pt mb' l ⟨s.b,M.length,s.cp⟩,S'.late,S'.head,S'.seen⟩))[h.length]?=some [.pv (.ptr bw 0)]:=by rw[RY (λq=>n2 (.inl q.symm)),ai]
      have bD:(H7a.set bw (cB ba bt ⟨mp,pt mb' l ⟨s.b,M.length,s.cp⟩,S'.late,S'.head,S'.seen⟩))[H.length]?=some [.pv (ae k)]:=by rw[RY (λq=>F (.inl q.symm)),ak]
      rw[←cn]at L7
      have cD:=tB (k:=k) (l:=l) K.hz
      clear fF bn bo bp bq br bs bu bv aK ai aJ ak C ax aW bJ
      generalize pt mb' l ⟨s.b,M.length,s.cp⟩=a at*
      generalize H7a.set bw (cB ba bt ⟨mp,a,S'.late,S'.head,S'.seen⟩)=I at*
      have n7:¬aU bw bt mp a h.length:=λq=>n2 (E6.sub _ c1 (E7.sub _ bl q))
      have c5:¬aU bw bt mp a H.length:=λq=>F (E6.sub _ f1 (E7.sub _ bm q))
      obtain⟨au,bx⟩:=RE.1 L7.w
      obtain⟨aw,bz⟩:=RE.1 ad
      obtain⟨bA,bB⟩:=RE.1 bD
      obtain⟨JE,ay⟩:∃JE:List (List SV)->List (Int×By)->Prop,∀Y m,JE Y m↔(LayW Y bw ba bt mp m A T' (rl S' k l p x)∧Ext I Y (aU bw bt mp a) (aU bw bt mp m)):=⟨_,λ_ _=>Iff.rfl⟩
      have dom:∀e',(∀c,c<I.length->e'.b=c->∃l0 e0,lk a l0=some e0∧e0.b=c)->∀c,c<I.length->aU bw bt mp (pt a x e') c->aU bw bt mp a c:=λe' cl c hc q=>by
        rcases q with q|q|q|⟨l',f,q,q2⟩
        · exact .inl q
        · exact .inr (.inl q)
        · exact .inr (.inr (.inl q))
        · rw[bK]at q
          split at q
          · cases q;exact .inr (.inr (.inr (cl c hc q2)))
          · exact .inr (.inr (.inr ⟨l',f,q,q2⟩))
      have aO:∀(v:List (List SV)×List (Int×By)),JE v.1 v.2->LayW v.1 bw ba bt mp v.2 A T' (rl S' k l p x)∧Ext G v.1 (aU bw bt mp mb) (aU bw bt mp v.2):=λv hj=>by
        obtain⟨j1,j2⟩:=(ay _ _).1 hj
        exact⟨j1,(hE.trans E2).trans ((E6.trans E7).trans j2)⟩
      simp
      cases P:lk a x with
      |none=>
        have ch:=L7.byn x P
        have aC:rl S' k l p x=⟨pt S'.prs k (jd l p x),pt (fH S'.byl k l) x [k],S'.late,S'.head,S'.seen⟩:=by
          unfold rl gE
          rw[show lk (fH S'.byl k l) x=none from ch];rfl
        have bR:∀cap,1<=cap->(I++[SV.pv (ae k)::List.replicate (cap -1) (SV.pv .bot)])[bw]?=some (cB ba bt ⟨mp,a,S'.late,S'.head,S'.seen⟩)∧(I++[SV.pv (ae k)::List.replicate (cap -1) (SV.pv .bot)])[h.length]?=some [.pv (.ptr bw 0)]∧JE ((I++[SV.pv (ae k)::List.replicate (cap -1) (SV.pv .bot)]).set bw (cB ba bt ⟨mp,pt a x ⟨I.length,1,cap⟩,S'.late,S'.head,S'.seen⟩)) (pt a x ⟨I.length,1,cap⟩):=λcap hc=>by
          refine⟨by rw[RL au];exact L7.w,by rw[RL aw,ad],(ay _ _).2 ⟨?_,?_⟩⟩
          · rw[aC]
            exact L7.newB x [k] (List.replicate (cap -1) (SV.pv .bot)) (λm=>gT m _) 1 cap rfl hc (by simp;omega)
          · refine(((Ext.app I [SV.pv (ae k)::List.replicate (cap -1) (SV.pv .bot)] _).trans (Ext.set bw _ (.inl rfl))).dom (dom _ λc hc e=>?_))
            simp only at e;omega
        have U:=And.intro PX (And.intro au (And.intro bx (And.intro aw (And.intro bz (And.intro bA (And.intro bB P))))))
        refine aQ.tab2 [92] ⟨[some (79,.pv (.ptr bw 0)),some (80,.pv (.ptr bw 0)),some (81,.pv (.ptr bw 3)),some (82,.al (.cell bw 3)),some (83,.pv (ae x)),some (84,.pv (.ptr bw 0)),some (85,.pv (.ptr bw 0)),some (86,.pv (.ptr bw 3)),some (87,.al (.cell bw 3)),some (88,.pv (ae x)),some (89,.pv (.lit (.slice none 0 0))),some (90,.pv (ae k)),some (91,.own true 1 [[ae k]]),none,none],[(2,.pv (.ptr h.length 0)),(3,.pv (.ptr (h.length+1) 0)),(5,.own true 1 (aa zs)),(6,.pv (.fn (.func 234) [] [.ptr (h.length+1) 0,.ptr h.length 0])),(8,.pv (.ptr H.length 0)),(13,.pv (ae x)),(22,.al (.slot 5)),(23,.pv (ae zs.length)),(24,.pv (ae i))],[[],[0],[1],[2],[],[],[5],[6],[7],[],[8,9],[],[11],[10,12],[3,4,13]],[13,14],[[0,1],[0,1],[0,1],[0,1],[0,1],[0,1],[0,1],[0],[0],[0],[0],[0],[0],[0],[1]],[(13,91)],λ_=>I⟩ (λq:List (List SV)×By=>[some (79,.pv (.ptr bw 0)),some (80,.pv (.ptr bw 0)),some (81,.pv (.ptr bw 3)),some (82,.al (.cell bw 3)),some (83,.pv (ae x)),some (84,.pv (.ptr bw 0)),some (85,.pv (.ptr bw 0)),some (86,.pv (.ptr bw 3)),some (87,.al (.cell bw 3)),some (88,.pv (ae x)),some (89,.pv (.lit (.slice none 0 0))),some (90,.pv (ae k)),some (91,.own true 1 [[ae k]]),some (92,.pv (.bsl q.2.b 1 0 q.2.n q.2.cp)),none]) (λq:List (List SV)×By=>λ|1=>q.1|_=>q.1.set bw (cB ba bt ⟨mp,pt a x q.2,S'.late,S'.head,S'.seen⟩)) (λq:List (List SV)×By=>q.1[bw]?=some (cB ba bt ⟨mp,a,S'.late,S'.head,S'.seen⟩)∧q.1[h.length]?=some [.pv (.ptr bw 0)]∧JE (q.1.set bw (cB ba bt ⟨mp,pt a x q.2,S'.late,S'.head,S'.seen⟩)) (pt a x q.2)) 13 0 [13,14] (by kernel_rfl) (λ_=>by kernel_rfl) rfl (by kernel_rfl) (λ_=>by simp[PH]) (by simp[aT]) rfl ?_ ?_
        · simp only[Tb.steps2,Gi,Tb.lvA,Tb.dpA,y8,pm,Tp,TH,cz,dY,lN,gZ,eO,eM,GS,gM,im,SC,Tw,Ui,U3,Uw,Vl,Vk,TC,Ux,Ss,S8]
          simp only[Nat.reduceLeDiff,Nat.reduceEqDiff,Nat.reduceAdd,TL,S8,RJ,RW]
          and_intros
          all_goals first|trivial|(intro t h1 g;simp only[aT,Sq,Sj]at h1;simp[U,vH,h1,g,Tb.postL,Tb.wth,qP,pm,aT,aZ]<;>and_intros<;>first|omega|(intro e;simp[U,vH,e]))|(rintro t h1 q hy g;simp only[aT,Sq,Sj]at h1;obtain⟨yw,yb,yj⟩:=hy;obtain⟨bg,bh⟩:=RE.1 yw;obtain⟨be,bf⟩:=RE.1 yb;simp[PX,vH,bg,bh,be,bf,h1,g,Tb.postL,Tb.wth,qP,pm,aT,aZ]<;>and_intros<;>first|omega|(intro e;simp[U,vH,e]))|skip
          · intro t h1 g;simp only[aT,Sq,Sj]at h1
            simp[-Prod.exists,U,vH,h1,g]
            intro cap hc
            refine⟨(_,⟨I.length,1,cap⟩),bR cap hc,?_⟩
            simp[U,h1,g,Tb.postL,Tb.wth,qP,pm,aT,aZ]<;>and_intros<;>(intro e;simp[U,e])
        · rintro q hy t h1 g
          simp only[aT,Sq,Sj]at h1;simp[Gj]at g
          obtain⟨v,W⟩:∃v:List (List SV)×List (Int×By),v=(q.1.set bw (cB ba bt ⟨mp,pt a x q.2,S'.late,S'.head,S'.seen⟩),pt a x q.2):=⟨_,rfl⟩
          refine⟨_,af.keep (t1:=[(2,.pv (.ptr h.length 0)),(3,.pv (.ptr (h.length+1) 0)),(5,.own true 1 (aa zs)),(6,.pv (.fn (.func 234) [] [.ptr (h.length+1) 0,.ptr h.length 0])),(8,.pv (.ptr H.length 0)),(13,.pv (ae x)),(22,.al (.slot 5)),(23,.pv (ae zs.length)),(24,.pv (ae i))]) (h1:=v.1) (by simp[h1,g]) (by rw[W];rfl),?_⟩
          have a5:JE v.1 v.2:=by rw[W];exact hy.2.2
          obtain⟨j1,j2⟩:=aO v a5
          simp
          exact⟨(i+1,v.1,v.2,rl S' k l p x,T'),by(try dsimp only);omega,⟨by(try dsimp only);omega,j1,V,j2,hZ⟩,af.keep (by simp[a8]) rfl⟩
      |some f=>
        obtain⟨B,bV,⟨o,b3,b4,aV,cN,cO⟩,bc,cP,cQ⟩:=L7.by' x f P
        obtain⟨cJ,cK⟩:=RE.1 b3
        have aC:rl S' k l p x=⟨pt S'.prs k (jd l p x),pt (fH S'.byl k l) x (B++[k]),S'.late,S'.head,S'.seen⟩:=by
          unfold rl gE
          rw[show lk (fH S'.byl k l) x=some B from bV];rfl
        have a4:(aM B).length=f.n:=by rw[oB];exact aV
        have c4:f.n<=1000000:=by rw[←aV];exact cD x B bV
        have bO:aU bw bt mp a f.b:=.inr (.inr (.inr ⟨x,f,P,rfl⟩))
        have cI:f.b≠h.length:=λq=>n7 (q▸bO)
        have bi:∀m (s0:List SV),cX m s0->cX m (s0.drop 1):=λm s0 bT=>by cases s0 with|nil=>exact bT|cons _ _=>exact bT.2
        have c0:(aM B++o).length=f.n+o.length:=by rw[RP,a4]
        have az:(aM B++o).take f.n=aM B:=TU a4
        have bI:(aM B++o).take f.n=(B.map λz=>PV.lit (.int .i64 z)).map SV.pv:=by rw[az];unfold aM;rw[SJ];rfl
        have ao:∀R:List SV,aM (B++[k])++R=aM B++SV.pv (ae k)::R:=λR=>by unfold aM;rw[Sb,Si];rfl
        have bE:(aM B++o).drop (f.n+1)=o.drop 1:=by rw[←a4,V9];simp
        have a7:f.n+1<=f.cp->(I.set f.b (List.take f.n (aM B++o)++SV.pv (ae k)::List.drop (f.n+1) (aM B++o)))[bw]?=some (cB ba bt ⟨mp,a,S'.late,S'.head,S'.seen⟩)∧(I.set f.b (List.take f.n (aM B++o)++SV.pv (ae k)::List.drop (f.n+1) (aM B++o)))[h.length]?=some [.pv (.ptr bw 0)]∧
            JE ((I.set f.b (List.take f.n (aM B++o)++SV.pv (ae k)::List.drop (f.n+1) (aM B++o))).set bw (cB ba bt ⟨mp,pt a x ⟨f.b,f.n+1,f.cp⟩,S'.late,S'.head,S'.seen⟩)) (pt a x ⟨f.b,f.n+1,f.cp⟩):=λhr=>by
          refine⟨by rw[RY bc];exact L7.w,by rw[RY cI,ad],(ay _ _).2 ⟨?_,?_⟩⟩
          · rw[az,bE,←ao,aC]
            exact L7.setB P (B++[k]) (o.drop 1) (λm=>bi m o (b4 m)) (f.n+1) (by simp;omega) hr (by rw[Sv];omega)
          · refine(((Ext.set f.b _ bO).trans (Ext.set bw _ (.inl rfl))).dom (dom _ λc hc q=>?_))
            exact⟨x,f,P,q⟩
        have a3:∀cap,f.n+1<=cap->(I++[(B.map λz=>PV.lit (.int .i64 z)).map SV.pv++SV.pv (ae k)::List.replicate (cap -(f.n+1)) (SV.pv .bot)])[bw]?=some (cB ba bt ⟨mp,a,S'.late,S'.head,S'.seen⟩)∧(I++[(B.map λz=>PV.lit (.int .i64 z)).map SV.pv++SV.pv (ae k)::List.replicate (cap -(f.n+1)) (SV.pv .bot)])[h.length]?=some [.pv (.ptr bw 0)]∧
            JE ((I++[(B.map λz=>PV.lit (.int .i64 z)).map SV.pv++SV.pv (ae k)::List.replicate (cap -(f.n+1)) (SV.pv .bot)]).set bw (cB ba bt ⟨mp,pt a x ⟨I.length,f.n+1,cap⟩,S'.late,S'.head,S'.seen⟩)) (pt a x ⟨I.length,f.n+1,cap⟩):=λcap hc=>by
          refine⟨by rw[RL au];exact L7.w,by rw[RL aw,ad],(ay _ _).2 ⟨?_,?_⟩⟩
          · rw[aC,←bI,az,←ao]
            exact L7.newB x (B++[k]) (List.replicate (cap -(f.n+1)) (SV.pv .bot)) (λm=>gT m _) (f.n+1) cap (by simp;omega) hc (by simp;omega)
          · refine(((Ext.app I _ _).trans (Ext.set bw _ (.inl rfl))).dom (dom _ λc hc q=>?_))
            simp only at q;omega
        clear az bE ao
        generalize cZ:aM B++o=Yc at*
        have U:=And.intro PX (And.intro au (And.intro bx (And.intro aw (And.intro bz (And.intro bA (And.intro bB (And.intro P (And.intro cJ (And.intro cK (And.intro bc bc.symm))))))))))
        refine aQ.tab2 [92] ⟨[some (79,.pv (.ptr bw 0)),some (80,.pv (.ptr bw 0)),some (81,.pv (.ptr bw 3)),some (82,.al (.cell bw 3)),some (83,.pv (ae x)),some (84,.pv (.ptr bw 0)),some (85,.pv (.ptr bw 0)),some (86,.pv (.ptr bw 3)),some (87,.al (.cell bw 3)),some (88,.pv (ae x)),some (89,.pv (.bsl f.b 1 0 f.n f.cp)),some (90,.pv (ae k)),some (91,.own true 1 [[ae k]]),none,none],[(2,.pv (.ptr h.length 0)),(3,.pv (.ptr (h.length+1) 0)),(5,.own true 1 (aa zs)),(6,.pv (.fn (.func 234) [] [.ptr (h.length+1) 0,.ptr h.length 0])),(8,.pv (.ptr H.length 0)),(13,.pv (ae x)),(22,.al (.slot 5)),(23,.pv (ae zs.length)),(24,.pv (ae i))],[[],[0],[1],[2],[],[],[5],[6],[7],[],[8,9],[],[11],[10,12],[3,4,13]],[13,14],[[0,1],[0,1],[0,1],[0,1],[0,1],[0,1],[0,1],[0],[0],[0],[0],[0],[0],[0],[1]],[(13,91)],λ_=>I⟩ (λq:List (List SV)×By=>[some (79,.pv (.ptr bw 0)),some (80,.pv (.ptr bw 0)),some (81,.pv (.ptr bw 3)),some (82,.al (.cell bw 3)),some (83,.pv (ae x)),some (84,.pv (.ptr bw 0)),some (85,.pv (.ptr bw 0)),some (86,.pv (.ptr bw 3)),some (87,.al (.cell bw 3)),some (88,.pv (ae x)),some (89,.pv (.bsl f.b 1 0 f.n f.cp)),some (90,.pv (ae k)),some (91,.own true 1 [[ae k]]),some (92,.pv (.bsl q.2.b 1 0 q.2.n q.2.cp)),none]) (λq:List (List SV)×By=>λ|1=>q.1|_=>q.1.set bw (cB ba bt ⟨mp,pt a x q.2,S'.late,S'.head,S'.seen⟩)) (λq:List (List SV)×By=>q.1[bw]?=some (cB ba bt ⟨mp,a,S'.late,S'.head,S'.seen⟩)∧q.1[h.length]?=some [.pv (.ptr bw 0)]∧JE (q.1.set bw (cB ba bt ⟨mp,pt a x q.2,S'.late,S'.head,S'.seen⟩)) (pt a x q.2)) 13 0 [13,14] (by kernel_rfl) (λ_=>by kernel_rfl) rfl (by kernel_rfl) (λ_=>by simp[PH]) (by simp[aT]) rfl ?_ ?_
        · simp only[Tb.steps2,Gi,Tb.lvA,Tb.dpA,y8,pm,Tp,TH,cz,dY,lN,gZ,eO,eM,GS,gM,im,SC,Tw,Ui,U3,Uw,Vl,Vk,TC,Ux,Ss,S8]
          simp only[Nat.reduceLeDiff,Nat.reduceEqDiff,Nat.reduceAdd,TL,S8,RJ,RW]
          and_intros
          all_goals first|trivial|(intro t h1 g;simp only[aT,Sq,Sj]at h1;simp[U,vH,h1,g,Tb.postL,Tb.wth,qP,pm,aT,aZ]<;>and_intros<;>first|omega|(intro e;simp[U,vH,e]))|(rintro t h1 q hy g;simp only[aT,Sq,Sj]at h1;obtain⟨yw,yb,yj⟩:=hy;obtain⟨bg,bh⟩:=RE.1 yw;obtain⟨be,bf⟩:=RE.1 yb;simp[PX,vH,bg,bh,be,bf,h1,g,Tb.postL,Tb.wth,qP,pm,aT,aZ]<;>and_intros<;>first|omega|(intro e;simp[U,vH,e]))|skip
          · intro t h1 g;simp only[aT,Sq,Sj]at h1
            simp[-Prod.exists,U,vH,h1,g]
            refine⟨by omega,by omega,_,bI,by simpa using aV,λhr=>?_,λhn cap hc=>?_⟩
            · refine⟨(_,⟨f.b,f.n+1,f.cp⟩),a7 hr,?_⟩
              simp[U,h1,g,Tb.postL,Tb.wth,qP,pm,aT,aZ]<;>and_intros<;>(intro e;simp[U,e])
            · refine⟨(_,⟨I.length,f.n+1,cap⟩),a3 cap hc,?_⟩
              simp[U,h1,g,Tb.postL,Tb.wth,qP,pm,aT,aZ]<;>and_intros<;>(intro e;simp[U,e])
        · rintro q hy t h1 g
          simp only[aT,Sq,Sj]at h1;simp[Gj]at g
          obtain⟨v,W⟩:∃v:List (List SV)×List (Int×By),v=(q.1.set bw (cB ba bt ⟨mp,pt a x q.2,S'.late,S'.head,S'.seen⟩),pt a x q.2):=⟨_,rfl⟩
          refine⟨_,af.keep (t1:=[(2,.pv (.ptr h.length 0)),(3,.pv (.ptr (h.length+1) 0)),(5,.own true 1 (aa zs)),(6,.pv (.fn (.func 234) [] [.ptr (h.length+1) 0,.ptr h.length 0])),(8,.pv (.ptr H.length 0)),(13,.pv (ae x)),(22,.al (.slot 5)),(23,.pv (ae zs.length)),(24,.pv (ae i))]) (h1:=v.1) (by simp[h1,g]) (by rw[W];rfl),?_⟩
          have a5:JE v.1 v.2:=by rw[W];exact hy.2.2
          obtain⟨j1,j2⟩:=aO v a5
          simp
          exact⟨(i+1,v.1,v.2,rl S' k l p x,T'),by(try dsimp only);omega,⟨by(try dsimp only);omega,j1,V,j2,hZ⟩,af.keep (by simp[a8]) rfl⟩
  · have:j=p.lits.length:=by omega
    subst this
    rw[Sc (RJ _),List.find?_nil]at u
    have kF:=B9 N bw ba bt mp mb' A T' S' L2 k p K.hp K.hx K.hy K.hz
    have eS:oC S' T' l k p=jK (lS (mH S' k p) k) T' k (pD p):=by unfold oC;rw[u]
    have eT:pE T' l k p=l5 T' k (pD p):=by unfold pE;rw[u]
    have eB:qs T' l p=mI T' (pD p):=by unfold qs;rw[u]
    simp[f1,f2,c1,c2]
    refine aj.intro kF ?_
    rintro _ H3 ⟨rfl,ab,L3,E3⟩
    have P:H.length<N.length:=f1
    have n2:¬aU bw bt mp mb' h.length:=ag _ (RJ _) (by omega)
    have n3:¬aU bw bt mp mb' (h.length+1):=ag _ (by omega) (by omega)
    have bZ:H3[h.length]?=some [.pv (.ptr bw 0)]:=by rw[E3.same h.length c1 n2,aD]
    have b0:H3[H.length]?=some [.pv (ae k)]:=by rw[E3.same H.length f1 F,aA]
    obtain⟨s1,s2⟩:=RE.1 L3.w
    obtain⟨t1,t2⟩:=RE.1 bZ
    obtain⟨u1,u2⟩:=RE.1 b0
    have L4:=L3.setW (pt S'.late k (aR ((lk S'.late k).getD 0+1))) S'.head S'.seen
    have E4:=Ext.set (h:=H3) (D:=aU bw bt mp ab) bw (cB ba bt ⟨mp,ab,pt S'.late k (aR ((lk S'.late k).getD 0+1)),S'.head,S'.seen⟩) (.inl rfl)
    have cL:(H3.set bw (cB ba bt ⟨mp,ab,pt S'.late k (aR ((lk S'.late k).getD 0+1)),S'.head,S'.seen⟩))[h.length]?=some [.pv (.ptr bw 0)]:=by
      rw[RY (λq=>n2 (.inl q.symm)),bZ]
    have cM:(H3.set bw (cB ba bt ⟨mp,ab,pt S'.late k (aR ((lk S'.late k).getD 0+1)),S'.head,S'.seen⟩))[H.length]?=some [.pv (ae k)]:=by
      rw[RY (λq=>F (.inl q.symm)),b0]
    simp
    refine aQ.meet DI ⟨[(2,.pv (.ptr h.length 0)),(3,.pv (.ptr (h.length+1) 0)),(5,.own true 1 (aa zs)),(6,.pv (.fn (.func 234) [] [.ptr (h.length+1) 0,.ptr h.length 0])),(22,.al (.slot 5)),(23,.pv (ae zs.length)),(24,.pv (ae i)),(8,.pv (.ptr H.length 0))],H3.set bw (cB ba bt ⟨mp,ab,pt S'.late k (aR ((lk S'.late k).getD 0+1)),S'.head,S'.seen⟩)⟩ (by kernel_rfl) ?_ ?_
    · simp[DI,s1,s2,cB,t1,t2,u1,u2,mH]
      and_intros
      all_goals exact af.keep (by simp) (by simp[cB])
    generalize H3.set bw (cB ba bt ⟨mp,ab,pt S'.late k (aR ((lk S'.late k).getD 0+1)),S'.head,S'.seen⟩)=H4 at*
    obtain⟨y1,y2⟩:=RE.1 cL
    obtain⟨z1,z2⟩:=RE.1 cM
    have cv:lk (mH S' k p).prs k=some (pD p):=by
      show lk (pt S'.prs k _) k=_
      rw[bK,RI rfl];rfl
    have kR:=vF H4 bw ba bt mp ab A T' (lS (mH S' k p) k) L4 k (pD p) cv K.ok K.tl K.lits (tB (tB K.hz))
    simp[y1,y2,z1,z2]
    refine aj.intro kR ?_
    rintro _ H5 ⟨rfl,bb,L5,E5⟩
    rw[←eS,←eT]at L5
    rw[←eB]
    have E35:Ext N H5 (aU bw bt mp mb') (aU bw bt mp bb):=(E3.trans E4).trans E5
    cases aX:qs T' l p
    · rw[RH (by rw[aX];simp)]at hZ
      simp
      exact⟨(i+1,H5,bb,oC S' T' l k p,pE T' l k p),by(try dsimp only);omega,⟨by(try dsimp only);omega,L5,V aX,(hE.trans E2).trans E35,hZ⟩,af.keep (by simp[a8]) rfl⟩
    · rw[RI aX]at hZ
      subst hZ
      have ct:H5[H.length]?=some [.pv (ae k)]:=by
        rw[E35.same H.length f1 F,aA]
      obtain⟨o1,o2⟩:=RE.1 ct
      simp[o1,o2]
      exact⟨bb,L5,E0.trans ((hE.trans E2).trans E35)⟩
end Go.AX
namespace Go.AX
open Go.Proofs
set_option linter.unusedSimpArgs false
def fT(S:WS)(T:Tr)(l:Int):WS×Tr×Int:=match lk S.byl l with
 |some zs=>gU l zs S T
 |none=>(S,T,-1)
def Ng(S:WS):WS:=⟨S.prs,S.byl,S.late,aR (S.head+1),S.seen⟩
def dL(T:Tr)(S:WS):Int:=aR (-(T.lits.getD S.head.toNat 0))
def lD:Nat->WS->Tr->WS×Tr×Int
 |0,S,T=>(S,T,-1)
 |n+1,S,T=>if S.head<T.lits.length then(if 0<=(fT S T (dL T S)).2.2 then fT S T (dL T S)else lD n (Ng (fT S T (dL T S)).1) (fT S T (dL T S)).2.1)else(S,T,-1)
def cA(S:WS)(now:List Int):WS:=⟨S.prs,S.byl,S.late,if(io S.seen now:Int)<S.head then(io S.seen now:Int)else S.head,S.seen⟩
def fU(S:WS)(T:Tr):WS×Tr×Int:=ia (cL (S.late.map (·.1))) S T
def ip(S:WS)(T:Tr):WS×Tr×Int:=if 0<=(fU (cA S T.lits) T).2.2 then fU (cA S T.lits) T else lD 1000001 (fU (cA S T.lits) T).1 (fU (cA S T.lits) T).2.1
def dC(S:WS)(T:Tr):WS×Tr×Int:=(⟨(ip S T).1.prs,(ip S T).1.byl,(ip S T).1.late,(ip S T).1.head,(ip S T).2.1.lits⟩,(ip S T).2.1,(ip S T).2.2)
theorem Cd(h:List (List SV))(bw ba bt:Nat)(mp:List (Int×Nat))(mb:List (Int×By))(A:Ar)(T:Tr)(S:WS)(L:LayW h bw ba bt mp mb A T S)(l:Int)(c:lk S.byl l=none):
 aB Tryz.prog 157 [.ptr bw 0,ae l] h (λr h'=>r=.pv (ae (-1))∧∃mb',LayW h' bw ba bt mp mb' A T S∧Ext h h' (aU bw bt mp mb) (aU bw bt mp mb')):=by
 refine cR [1,6,7,14,15,18] [.tmp 4] aE Tryz.func157 ?_;have b:lk mb l=none:=by
  cases k:lk mb l with
  |none=>rfl
  |some e=>obtain⟨zs,h1,_⟩:=L.by' l e k;rw[c]at h1;cases h1
 obtain⟨G,a⟩:∃G,G=h++[[SV.pv (.ptr bw 0)],[SV.pv (ae l)]]:=⟨_,rfl⟩;have L0:LayW G bw ba bt mp mb A T S:=by rw[a];exact L.app _
 have g:Ext h G (aU bw bt mp mb) (aU bw bt mp mb):=by rw[a];exact Ext.app _ _ _
 have d:G[h.length]?=some [.pv (.ptr bw 0)]:=by rw[a];simp
 have f:G[h.length+1]?=some [.pv (ae l)]:=by rw[a];simp
 obtain⟨m,n⟩:=RE.1 L0.w;obtain⟨i,j⟩:=RE.1 d;obtain⟨b1,b2⟩:=RE.1 f;simp;rw[←a];refine aQ.meet xx ⟨[(2,.pv (.ptr h.length 0)),(3,.pv (.ptr (h.length+1) 0)),(5,.pv (.lit (.slice none 0 0)))],G⟩ (by kernel_rfl) ?_ ?_
 .simp[xx,m,n,cB,i,j,b1,b2,b];and_intros
  all_goals
   refine ai.intro BZ ?_;simp;exact af.keep (by simp) rfl
 simp;refine av.intro (S:=λ_:Unit=>⟨[(2,.pv (.ptr h.length 0)),(3,.pv (.ptr (h.length+1) 0)),(23,.pv (ae 0)),(24,.pv (ae 0))],G⟩) (λ_=>True) (λ_=>0) () ?_ trivial ?_
 .exact af.keep (by simp) rfl
 rintro _ _;simp;exact⟨mb,L0,g⟩
structure ProOk (J:WS->Tr->Prop):Prop where
  ok:∀S T,J S T->T.ok∧T.lits.length<=1000000∧0<=S.head∧S.head<=T.lits.length
  step:∀S T,J S T->S.head<T.lits.length->∀zs,lk S.byl (dL T S)=some zs->zs.length<=1000000∧∃Jf:Nat->WS->Tr->Prop,Jf 0 S T∧∀i S' T',Jf i S' T'->∀(hi:i<zs.length),∃p,StepOk S' T' (dL T S) zs[i] p∧(qs T' (dL T S) p=false->Jf (i+1) (oC S' T' (dL T S) zs[i] p) (pE T' (dL T S) zs[i] p))
  len:∀S T,J S T->S.head<T.lits.length->(fT S T (dL T S)).2.1.lits.length<=1000000
  next:∀S T,J S T->S.head<T.lits.length->¬0<=(fT S T (dL T S)).2.2->(fT S T (dL T S)).2.2=-1∧J (Ng (fT S T (dL T S)).1) (fT S T (dL T S)).2.1∧(fT S T (dL T S)).1.head=S.head∧T.lits<+:(fT S T (dL T S)).2.1.lits
set_option maxRecDepth 16000 in
theorem ut(h:List (List SV))(bw ba bt:Nat)(mp:List (Int×Nat))(mb:List (Int×By))(A:Ar)(T:Tr)(S:WS)(L:LayW h bw ba bt mp mb A T S)(ai:T.lits.length<=1000000)(aF:S.seen.length<=1000000)
 (s:List Int) (ad:cL (S.late.map (·.1))=s) (Y:Nat->WS->Tr->Prop) (ar:Y 0 (cA S T.lits) T) (ay:∀q∈S.late,Gg q.1) (az:S.late.length<=1000000)
 (hB:∀i S' T',Y i S' T'->∀(hi:i<s.length),T'.ok∧T'.lits.length<=1000000∧(∀l zs,lk S'.byl l=some zs->zs.length<=1000000)∧∃p,lk S'.prs s[i]=some p∧p.lits.length<=1000000)
 (hJ:∀i S' T' p,Y i S' T'->∀(hi:i<s.length),lk S'.prs s[i]=some p->mI T' p=false->Y (i+1) (jK S' T' s[i] p) (l5 T' s[i] p))
 (ag:(fU (cA S T.lits) T).2.1.lits.length<=1000000) (J:WS->Tr->Prop) (U:ProOk J) (au:¬0<=(fU (cA S T.lits) T).2.2->(fU (cA S T.lits) T).2.2=-1∧J (fU (cA S T.lits) T).1 (fU (cA S T.lits) T).2.1):
 aB Tryz.prog 91 [.ptr bw 0] h (λr h'=>r=.pv (ae (dC S T).2.2)∧∃mb',LayW h' bw ba bt mp mb' A (dC S T).2.1 (dC S T).1∧Ext h h' (aU bw bt mp mb) (aU bw bt mp mb')):=by
 refine cR [] [.tmp 2] aE Tryz.func91 ?_;obtain⟨w1,w2⟩:=RE.1 L.w;have hz:=cI L.t 2;have kM:=zA h bw ba bt _ L.w;have kL:=ft T ai;have kS:=B7 h bw ba bt ⟨mp,mb,S.late,S.head,S.seen⟩ T.lits L.w ai aF;have L1:=L.setW S.late (if(io S.seen T.lits:Int)<S.head then(io S.seen T.lits:Int)else S.head) S.seen;have E1:=Ext.set (h:=h) (D:=aU bw bt mp mb) bw (cB ba bt (Iu ⟨mp,mb,S.late,S.head,S.seen⟩ T.lits)) (.inl rfl);simp;refine aj.intro kM ?_;rintro _ h2 ⟨e,rfl⟩;rw[e];clear e h2;simp[w1,w2,cB,hz];refine aj.introP kL ?_;simp;refine aj.intro (kS.args (xs:=[.ptr bw 0,.seq true 1 (aa T.lits)]) (by simp[bd,bu])) ?_;rintro _ H1 ⟨rfl,rfl⟩;have L1':LayW (h.set bw (cB ba bt (Iu ⟨mp,mb,S.late,S.head,S.seen⟩ T.lits))) bw ba bt mp mb A T (cA S T.lits):=L1;have C:=FC _ bw ba bt mp mb A T (cA S T.lits) L1' s ad Y ar ay az hB hJ;generalize h.set bw (cB ba bt (Iu ⟨mp,mb,S.late,S.head,S.seen⟩ T.lits))=H1 at*;have a:ip S T=if 0<=(fU (cA S T.lits) T).2.2 then fU (cA S T.lits) T else lD 1000001 (fU (cA S T.lits) T).1 (fU (cA S T.lits) T).2.1:=rfl;have ah:dC S T=(⟨(ip S T).1.prs,(ip S T).1.byl,(ip S T).1.late,(ip S T).1.head,(ip S T).2.1.lits⟩,(ip S T).2.1,(ip S T).2.2):=rfl;have G:ia s (cA S T.lits) T=fU (cA S T.lits) T:=by unfold fU;rw[←ad];rfl
 rw[G]at C;generalize fU (cA S T.lits) T=V at*;generalize ip S T=M at*;generalize dC S T=Q at*;obtain⟨S2,T2,k2⟩:=V;simp only at*;simp;refine aj.intro C ?_;rintro _ H2 ⟨rfl,aI,L2,E2⟩;have O:=ft T2 ag;have I:=cI L2.t 2;obtain⟨v1,v2⟩:=RE.1 L2.w;simp[v1,v2,cB,I];refine aj.introP O ?_;simp;refine av.intro (S:=λ(x:List (List SV)×List (Int×By)×WS×Tr×Int×List Int×Nat)=>⟨[(0,.pv (.ptr bw 0)),(3,.pv (ae x.2.2.2.2.1)),(4,.own true 1 (aa x.2.2.2.2.2.1))],x.1⟩)
  (λ x => LayW x.1 bw ba bt mp x.2.1 A x.2.2.2.1 x.2.2.1 ∧ Ext h x.1 (aU bw bt mp mb) (aU bw bt mp x.2.1) ∧ x.2.2.2.1.lits.length <= 1000000 ∧
   ((0<=x.2.2.2.2.1∧M=(x.2.2.1,x.2.2.2.1,x.2.2.2.2.1))∨(¬0<=x.2.2.2.2.1∧x.2.2.2.2.1=-1∧J x.2.2.1 x.2.2.2.1∧x.2.2.2.2.2.1<+:x.2.2.2.1.lits∧(x.2.2.1.head<x.2.2.2.2.2.1.length∨x.2.2.2.2.2.1=x.2.2.2.1.lits)∧M=lD x.2.2.2.2.2.2 x.2.2.1 x.2.2.2.1∧1000001<=x.2.2.1.head+x.2.2.2.2.2.2)))
  (λx=>x.2.2.2.2.2.2) (H2,aI,S2,T2,k2,T2.lits,1000001) ?_ ?_ ?_
 .exact af.keep (by simp) rfl
 .refine⟨L2,E1.trans E2,ag,?_⟩
  by_cases c:0<=k2
  .rw[RI c]at a;exact .inl ⟨c,a⟩
  .rw[RH c]at a;have hj:=au c;have hh:=(U.ok _ _ hj.2).2.2.1;exact .inr ⟨c,hj.1,hj.2,VE _,.inr rfl,a,by simp only;omega⟩
 rintro⟨H,mb',S',T',kc,now,n⟩ ⟨P,hE,E,j⟩;dsimp only at P hE E j;obtain⟨W,X⟩:=RE.1 P.w;have an:=cI P.t 2;have ao:=ft T' E;have o:∀(M1:M=(S',T',kc)),(LayW (H.set bw (cB ba bt ⟨mp,mb',S'.late,S'.head,T'.lits⟩)) bw ba bt mp mb' A Q.2.1 Q.1)∧Ext h (H.set bw (cB ba bt ⟨mp,mb',S'.late,S'.head,T'.lits⟩)) (aU bw bt mp mb) (aU bw bt mp mb')∧Q.2.2=kc:=λM1=>by
  rw[ah,M1];exact⟨P.setW S'.late S'.head T'.lits,hE.trans (Ext.set bw _ (.inl rfl)),rfl⟩
 rcases j with⟨hc,g⟩|⟨hc,ax,hj,m,aA,g,hn⟩
 .have v:¬kc<0:=by omega
  obtain⟨g1,g2,g3⟩:=o g;simp[v];simp[W,X,cB,an];refine aj.introP ao ?_;simp[W,X,cB];exact⟨g3.symm,mb',g1,g2⟩
 .have v:kc<0:=by omega
  obtain⟨q1,q2,q3,q4⟩:=U.ok _ _ hj;obtain⟨hd,z⟩:∃k:Nat,S'.head=k:=⟨S'.head.toNat,by omega⟩
  by_cases d:hd<now.length
  .have dT:hd<T'.lits.length:=SZ d m.length_le;have hq:now[hd]?=some T'.lits[hd]:=by
    obtain⟨t,ht⟩:=m;rw[←RF dT,←ht,RL d]
   have b:S'.head<T'.lits.length:=by omega
   have aD:now[hd]=T'.lits[hd]:=by rw[RF d]at hq;exact TX hq
   have ak:aR (-now[hd])=dL T' S':=by rw[aD];simp[dL,z,RF dT]
   have kF:aB Tryz.prog 157 [.ptr bw 0,ae (dL T' S')] H (λr h'=>r=.pv (ae (fT S' T' (dL T' S')).2.2)∧∃F,LayW h' bw ba bt mp F A (fT S' T' (dL T' S')).2.1 (fT S' T' (dL T' S')).1∧Ext H h' (aU bw bt mp mb') (aU bw bt mp F)):=by
    cases hb:lk S'.byl (dL T' S')with
    |none=>
     simp only[fT,hb];exact Cd H bw ba bt mp mb' A T' S' P _ hb
    |some zs=>
     obtain⟨z1,Jf,z2,z3⟩:=U.step S' T' hj b zs hb;simp only[fT,hb];exact FD H bw ba bt mp mb' A T' S' P _ zs hb z1 Jf z2 z3
   have u:=U.len S' T' hj b;have ab:=U.next S' T' hj b;cases n with
   |zero=>omega
   |succ n=>
   rw[lD,RI b]at g;generalize fT S' T' (dL T' S')=V at*;generalize dL T' S'=l at*;obtain⟨S3,R,k3⟩:=V;simp only at g u ab kF;clear kL O kM kS C hB hJ a G L1 L1' hz I w1 w2 v1 v2;simp[v,W,X,cB,z,d,ak];refine aj.intro kF ?_;rintro _ H3 ⟨rfl,f,L3,E3⟩;obtain⟨t1,t2⟩:=RE.1 L3.w;have K:=cI L3.t 2;have aq:=ft R u
   by_cases c3:0<=k3
   .rw[RI c3]at g;simp[c3,t1,t2,cB,K];refine aj.introP aq ?_;simp[t1,t2,cB];have:=L3.setW S3.late S3.head R.lits;rw[ah,g];exact⟨rfl,f,this,(hE.trans E3).trans (Ext.set bw _ (.inl rfl))⟩
   .rw[RH c3]at g;obtain⟨r1,r2,r3,r4⟩:=ab c3;obtain⟨b1,b2,b3,b4⟩:=U.ok _ _ r2;have aJ:¬0<=k3:=c3;have Z:=L3.setW S3.late (aR (S3.head+1)) S3.seen;have E4:Ext h (H3.set bw (cB ba bt ⟨mp,f,S3.late,aR (S3.head+1),S3.seen⟩)) (aU bw bt mp mb) (aU bw bt mp f):=(hE.trans E3).trans (Ext.set bw _ (.inl rfl));have B:aR ((hd:Int)+1)=((hd+1:Nat):Int):=by rw[ap (by omega) (by omega)];omega
    have y:S3.head=hd:=r3.trans z;rw[y,B]at Z E4;have N:bG (H3.set bw (cB ba bt ⟨mp,f,S3.late,((hd+1:Nat):Int),S3.seen⟩)) (2+1) bt 0=bM R:=cI Z.t 2;have aG:Ng S3=⟨S3.prs,S3.byl,S3.late,((hd+1:Nat):Int),S3.seen⟩:=by unfold Ng;rw[y,B]
    rw[aG]at g r2;clear kF
    by_cases dn:hd+1=now.length
    .rw[dn]at Z E4 N g r2;simp only[cB]at N;simp[c3,t1,t2,cB,K,y,B,dn,N];refine aj.introP aq ?_;simp;exact⟨(_,f,⟨S3.prs,S3.byl,S3.late,(now.length:Int),S3.seen⟩,R,k3,R.lits,n),UE n,⟨Z,E4,u,.inr ⟨by simp only;omega,r1,r2,VE _,.inr rfl,g,by simp only;omega⟩⟩,af.keep (by simp) rfl⟩
    .have aH:¬((hd:Int)+1=now.length):=by omega
     simp[c3,t1,t2,cB,K,y,B,aH];exact⟨(_,f,⟨S3.prs,S3.byl,S3.late,((hd+1:Nat):Int),S3.seen⟩,R,k3,now,n),UE n,⟨Z,E4,u,.inr ⟨by simp only;omega,r1,r2,m.trans r4,.inl (by simp only;omega),g,by simp only;omega⟩⟩,af.keep (by simp) rfl⟩
  .have aC:¬S'.head<T'.lits.length:=by
    rcases aA with h1|h1
    .omega
    .rw[←h1];omega
   have aw:M=(S',T',-1):=by
    rw[g];cases n with
    |zero=>rfl
    |succ n=>rw[lD,RH aC]
   obtain⟨g1,g2,g3⟩:=o (by rw[aw,ax]);clear kL O kM kS C hB hJ a G L1 L1' hz I w1 w2 v1 v2;simp[v,W,X,cB,z,d];simp[W,X,cB,an];refine aj.introP ao ?_;simp[W,X,cB];exact⟨g3.symm,mb',g1,g2⟩
end Go.AX