/-
  Contracts: watches: lates, Attached.
  Contracts: watches: fails.
  Contracts: watches: Propagate.
-/
import Derived.Test.YtepodadinenmnaaGreatS14AxWaD
import Derived.Test.YtepodadinenmnaaGreatRows
import Derived.Test.YtepodadinenmnaaGreatAxKs
import Derived.Test.YtepodadinenmnaaGreatS14AxTtA
import Derived.Test.YtepodadinenmnaaGreatAxTb
namespace Go.AX
open Go.Proofs Go.Maps Go.Shelf
set_option linter.unusedSimpArgs false
theorem sF{α:Type}(f:α->PV):∀l:List (Int×α),Cw (aC f l)=aC (λ_=>PV.bot) l
 |[]=>rfl
 |(k,x)::l=>by
  show(k,PV.bot)::Cw (aC f l)=(k,PV.bot)::aC (λ_=>PV.bot) l;rw[sF f l]
def gV:List Int->WS->Tr->WS×Tr×Int
 |[],S,T=>(S,T,-1)
 |k::ks,S,T=>match lk S.prs k with
  |some p=>if mf T p=true then(S,T,k)else gV ks (jt S T k p) (lH T k p)
  |none=>(S,T,-1)
set_option maxRecDepth 16000 in
theorem Eg(h:List (List SV))(bw ba bt:Nat)(mp:List (Int×Nat))(mb:List (Int×By))(A:Ar)(T:Tr)(S:WS)(L:LayW h bw ba bt mp mb A T S)(a:List Int)(f:bK (S.late.map (·.1))=a)(J:Nat->WS->Tr->Prop)(o:J 0 S T)(v:∀q∈S.late,B7 q.1)(g:S.late.length<=1000000)
 (E:∀i S' T',J i S' T'->∀(hi:i<a.length),T'.ok∧T'.lits.length<=1000000∧(∀l zs,lk S'.byl l=some zs->zs.length<=1000000)∧∃p,lk S'.prs a[i]=some p∧p.lits.length<=1000000)
 (F:∀i S' T' p,J i S' T'->∀(hi:i<a.length),lk S'.prs a[i]=some p->mf T' p=false->J (i+1) (jt S' T' a[i] p) (lH T' a[i] p)):
 ay Tryz.prog 156 [.ptr bw 0] h (λr h'=>r=.pv (af (gV a S T).2.2)∧∃mb',LayW h' bw ba bt mp mb' A (gV a S T).2.1 (gV a S T).1∧Ext h h' (aR bw bt mp mb) (aR bw bt mp mb')):=by
 refine cY [1] [.tmp 2] aD Tryz.func156 ?_;obtain⟨M,N⟩:=P7.1 L.w;have C:=AP (λ_:Int=>PV.bot) S.late v g;have G:a.length<=1000000:=by rw[←f];unfold bK;rw[Rn,Ql];exact g
 have s:gV a S T=gV (a.drop 0) S T:=rfl;rw[f]at C;generalize gV a S T=Z at*;simp;refine iF.keys [_,_,_,_] [_,_] _ _ _ _ 229 _ _ _ _ _ (ab a) rfl rfl rfl rfl rfl rfl rfl ?_;simp[M,N,cB];rw[sF];refine⟨FV,C,?_⟩;refine aH.intro (S:=λ(x:Nat×List (List SV)×List (Int×By)×WS×Tr)=>⟨[(0,.pv (.ptr bw 0)),(10,.own true 1 (ab a)),(11,.pv (af a.length)),(12,.pv (af x.1))],x.2.1⟩)
  (λx=>x.1<=a.length∧LayW x.2.1 bw ba bt mp x.2.2.1 A x.2.2.2.2 x.2.2.2.1∧J x.1 x.2.2.2.1 x.2.2.2.2∧Ext h x.2.1 (aR bw bt mp mb) (aR bw bt mp x.2.2.1)∧Z=gV (a.drop x.1) x.2.2.2.1 x.2.2.2.2)
  (λx=>a.length -x.1) (0,h,mb,S,T) ?_ ⟨Qq _,L,o,Ext.refl _ _,s⟩ ?_
 .exact ai.keep (by simp) rfl
 rintro⟨i,H,mb',S',T'⟩ ⟨hi,n,e,k,b⟩;dsimp only at hi n e k b
 by_cases d:i<a.length
 .have z:aX ((i:Int)+1)=((i+1:Nat):Int):=by rw[aq (by omega) (by omega)];omega
  have I:a[i]?=some a[i]:=P8 d;obtain⟨b1,b2,b3,p,hp,y⟩:=E i S' T' e d;have K:=uO H bw ba bt mp mb' A T' S' n a[i] p hp b1 b2 y b3;rw[QU d,gV,hp]at b;simp only at b;simp[d,I];refine ak.intro K ?_;rintro _ D ⟨rfl,j,m,B⟩;cases c:mf T' p
  .rw[Qa (by rw[c];simp)]at b;simp[c];exact⟨(i+1,D,j,jt S' T' a[i] p,lH T' a[i] p),by(try dsimp only);omega,⟨by(try dsimp only);omega,m,F i S' T' p e d hp c,k.trans B,b⟩,ai.keep (by simp[z]) rfl⟩
  .rw[Qb c]at b;subst b;have t:jt S' T' a[i] p=S':=by
    unfold mf at c;unfold jt;rw[Qa (by have:=UE c;omega)]
   have u:lH T' a[i] p=T':=by
    unfold mf at c;unfold lH;rw[Qa (by have:=UE c;omega)]
   rw[t,u]at m;simp[c];exact⟨j,m,k.trans B⟩
 .have:i=a.length:=by omega
  subst this;rw[QK (Qc _),gV]at b;subst b;simp;exact⟨mb',n,k⟩
end Go.AX
namespace Go.AX
set_option maxRecDepth 16000
open Go.Proofs
set_option linter.unusedSimpArgs false
def wB:Sch:=
 let c:Sch:=.fork [(6,.take 7 .done)]
 let a:Sch:=.fork [(5,c)]
 let d:Sch:=.fork [(4,a)]
 let b:Sch:=.fork [(3,a)]
 let e:Sch:=.fork [(3,d),(4,b)]
 let f:Sch:=.fork [(0,.take 1 (.take 2 b))]
 let g:Sch:=.fork [(0,.take 1 (.take 2 e)),(4,f)]
 g
def Hs:Sch:=
 let a:Sch:=.fork [(5,.take 6 .done)]
 let c:Sch:=.fork [(4,a)]
 let b:Sch:=.fork [(3,a)]
 let d:Sch:=.fork [(3,c),(4,b)]
 let e:Sch:=.fork [(0,.take 1 (.take 2 b))]
 let f:Sch:=.fork [(0,.take 1 (.take 2 d)),(4,e)]
 f
def Ht:Sch:=
 let a:Sch:=.fork [(5,.take 6 .done)]
 let b:Sch:=.fork [(4,a)]
 .take 0 (.take 1 (.take 2 (.take 3 b)))
def Cy:Sch:=
 let c:Sch:=.fork [(7,.done)]
 let a:Sch:=.fork [(5,.take 6 c)]
 let d:Sch:=.fork [(4,a)]
 let b:Sch:=.fork [(3,a)]
 let e:Sch:=.fork [(3,d),(4,b)]
 let f:Sch:=.fork [(0,.take 1 (.take 2 b))]
 let g:Sch:=.fork [(0,.take 1 (.take 2 e)),(4,f)]
 g
def LM(T:Tr)(l other x:Int):Bool:=decide (x≠l)&&(decide (x≠other)&&decide (0<=cv T x))
theorem Hu(h:List (List SV))(bw ba bt a:Nat)(W:Wt)(T:Tr)(j:h[bw]?=some (cB ba bt W))(ht:h[bt]?=some (gi T))(g:T.ok)(l:Int)(h0:h[a]?=some [.pv (.ptr bw 0)])(h1:h[a+1]?=some [.pv (af l)])(x other:Int):
 ay Tryz.prog 234 [af x,af other,.ptr (a+1) 0,.ptr a 0] h (λr h'=>h'=h∧r=.pv (BL (LM T l other x))):=by
 refine fh [] [.tmp 6] aD Tryz.func234 ?_;obtain⟨d,f⟩:=P7.1 j;obtain⟨b,c⟩:=P7.1 h0;obtain⟨b1,b2⟩:=P7.1 h1;have i:=fw T x g;have hz:=cG ht 2;unfold LM
 by_cases c1:x=l
 .simp[d,f,cB,b,c,b1,b2,c1]
 by_cases c2:x=other
 .have c3:¬other=l:=λe=>c1 (c2.trans e);simp[d,f,cB,b,c,b1,b2,c1,c2,c3]
 simp[d,f,cB,b,c,b1,b2,c1,c2,hz];refine ak.introP i ?_ (by simp[c1,c2]) (by simp);simp[c1,c2]
theorem Hv(x v:Int):am Tryz.prog 236 [af x,.iptr 1 [[af v]] 0 0] (λr=>r=.pv (BL (decide (x=v)))):=by
 refine ao aD Tryz.func236 ?_;simp
def oZ(l:Int)(p:Pr):Int:=if p.x=l then p.y else p.x
def mh(T:Tr)(l:Int)(p:Pr):Option Int:=p.lits.find? (LM T l (oZ l p))
def iV(l:Int)(p:Pr)(x:Int):Pr:=if p.x=l then⟨p.lits,x,p.y⟩else⟨p.lits,p.x,x⟩
def qG(S:WS)(k l:Int)(p:Pr)(x:Int):WS:=⟨pt S.prs k (iV l p x),gp (fk S.byl k l) k x,S.late,S.head,S.seen⟩
def lw(S:WS)(k:Int):WS:=⟨S.prs,S.byl,pt S.late k (aX ((lk S.late k).getD 0+1)),S.head,S.seen⟩
def o5(p:Pr):Pr:=⟨p.lits,0,0⟩
def nY(S:WS)(T:Tr)(l k:Int)(p:Pr):WS:=match mh T l p with
 |some x=>qG S k l p x
 |none=>jt (lw (md S k p) k) T k (o5 p)
def o6(T:Tr)(l k:Int)(p:Pr):Tr:=match mh T l p with
 |some _=>T
 |none=>lH T k (o5 p)
def pW(T:Tr)(l:Int)(p:Pr):Bool:=match mh T l p with
 |some _=>false
 |none=>mf T (o5 p)
def gO(l:Int):List Int->WS->Tr->WS×Tr×Int
 |[],S,T=>(S,T,-1)
 |k::ks,S,T=>match lk S.prs k with
  |some p=>if pW T l p=true then(nY S T l k p,o6 T l k p,k)else gO l ks (nY S T l k p) (o6 T l k p)
  |none=>(S,T,-1)
structure StepOk (S:WS) (T:Tr) (l k:Int) (p:Pr):Prop where
  hp:lk S.prs k=some p
  l0:l≠0
  two:p.x=l∨p.y=l
  lits:p.lits.length<=1000000
  byl:∃zs,lk S.byl l=some zs∧zs≠[]
  hx:p.x≠0->∃zs,lk S.byl p.x=some zs∧zs≠[]
  hy:p.y≠0->∃zs,lk (fk S.byl k p.x) p.y=some zs∧zs≠[]
  hz:∀l zs,lk S.byl l=some zs->zs.length<=1000000
  ok:T.ok
  tl:T.lits.length<=1000000
theorem sG{byl:List (Int×List Int)}{k l:Int}{n:Nat}(h:∀l zs,lk byl l=some zs->zs.length<=n):∀m zs,lk (fk byl k l) m=some zs->zs.length<=n:=λm zs a=>by
 unfold fk at a;split at a
 .exact h m zs a
 .rw[bD]at a;split at a
  .cases a
   refine QP (jD _ _) ?_;cases b:lk byl l with
   |none=>exact Qq _
   |some z=>exact h l z b
  .exact h m zs a
def uQ(a m:Nat)(zs:List Int)(i:Nat)(x:Int):List (Nat×SV):=[(2,.pv (.ptr a 0)),(3,.pv (.ptr (a+1) 0)),(5,.own true 1 (ab zs)),(6,.pv (.fn (.func 234) [] [.ptr (a+1) 0,.ptr a 0])),(8,.pv (.ptr m 0)),(13,.pv (af x)),(22,.al (.slot 5)),(23,.pv (af zs.length)),(24,.pv (af i))]
theorem OD:(∀x:By,EP x=.bsl x.b 1 0 x.n x.cp)∧(∀(ba bt:Nat)(W:Wt),cB ba bt W=[.pv (.ptr ba 0),.pv (.ptr bt 0),.omap true (aC uM W.prs),.omap true (aC EP W.byl),.omap true (aC fI W.late),.pv (af W.head),.own true 1 (ab W.seen)])∧(∀(a m:Nat)(zs:List Int)(i:Nat)(x:Int),uQ a m zs i x=[(2,.pv (.ptr a 0)),(3,.pv (.ptr (a+1) 0)),(5,.own true 1 (ab zs)),(6,.pv (.fn (.func 234) [] [.ptr (a+1) 0,.ptr a 0])),(8,.pv (.ptr m 0)),(13,.pv (af x)),(22,.al (.slot 5)),(23,.pv (af zs.length)),(24,.pv (af i))])∧(∀b k n s:Nat,aJ b k n (.slot s)=false)∧∀b k n b' k':Nat,aJ b k n (.cell b' k')=(b==b'&&decide (k<=k')&&decide (k'<k+n)):=⟨λ_=>rfl,λ_ _ _=>rfl,λ_ _ _ _ _=>rfl,λ_ _ _ _=>rfl,λ_ _ _ _ _=>rfl⟩
set_option maxRecDepth 32000 in
set_option maxHeartbeats 8000000 in
theorem Eh(h:List (List SV))(bw ba bt:Nat)(mp:List (Int×Nat))(mb:List (Int×By))(A:Ar)(T:Tr)(S:WS)(L:LayW h bw ba bt mp mb A T S)(l:Int)(zs:List Int)(cF:lk S.byl l=some zs)(cE:zs.length<=1000000)(J:Nat->WS->Tr->Prop)(ch:J 0 S T)
    (hJ:∀i S' T',J i S' T'->∀(hi:i<zs.length),∃p,StepOk S' T' l zs[i] p∧(pW T' l p=false->J (i+1) (nY S' T' l zs[i] p) (o6 T' l zs[i] p))):
    ay Tryz.prog 157 [.ptr bw 0,af l] h (λr h'=>r=.pv (af (gO l zs S T).2.2)∧∃mb',LayW h' bw ba bt mp mb' A (gO l zs S T).2.1 (gO l zs S T).1∧Ext h h' (aR bw bt mp mb) (aR bw bt mp mb')):=by
  refine cY [1,6,7,14,15,18] [.tmp 4] aD Tryz.func157 ?_
  obtain⟨e,he,⟨sp,e1,f,e3,e4,e5⟩,e6,e7,e8⟩:=L.some_b cF
  obtain⟨G,hG⟩:∃G,G=h++[[SV.pv (.ptr bw 0)],[SV.pv (af l)]]:=⟨_,rfl⟩
  have L0:LayW G bw ba bt mp mb A T S:=by rw[hG];exact L.app _
  have E0:Ext h G (aR bw bt mp mb) (aR bw bt mp mb):=by rw[hG];exact Ext.app _ _ _
  have bW:G[h.length]?=some [.pv (.ptr bw 0)]:=by rw[hG];simp
  have bX:G[h.length+1]?=some [.pv (af l)]:=by rw[hG];simp
  have au:∀b,h.length<=b->¬aR bw bt mp mb b:=λb hb hd=>by
    have lt:∀{c:Nat}{x:List SV},h[c]?=some x->c<h.length:=λhx=>(P7.1 hx).1
    rcases hd with q|q|⟨k,q⟩|⟨l',e',q,rfl⟩
    · have:=lt L.w;omega
    · have:=lt L.t;omega
    · obtain⟨_,_,a2,_⟩:=L.pr k b q;have:=lt a2;omega
    · obtain⟨_,_,⟨_,a2,_⟩,_⟩:=L.by' l' e' q;have:=lt a2;omega
  obtain⟨w1,w2⟩:=P7.1 L0.w
  obtain⟨a1,a2⟩:=P7.1 bW
  obtain⟨b1,b2⟩:=P7.1 bX
  have cl:=ez zs cE
  have cn:G[e.b]?=some (aL zs++sp):=by rw[hG,Qd (P7.1 e1).1,e1]
  have cr:tv (a8 G 3 e.b 0) 1 e.n=.seq false 1 (ab zs):=by rw[←e3];exact J3 G e.b zs sp cn 2
  have cg:gO l zs S T=gO l (zs.drop 0) S T:=rfl
  generalize gO l zs S T=Z at*
  simp
  rw[←hG]
  refine bd.meet wB ⟨[(2,.pv (.ptr h.length 0)),(3,.pv (.ptr (h.length+1) 0)),(5,.own true 1 (ab zs))],G⟩ (by kernel_rfl) ?_ ?_
  · simp[wB,w1,w2,cB,a1,a2,b1,b2,he,EP,cr]
    and_intros
    all_goals
      refine ak.introP cl ?_
      simp
      exact ai.keep (by simp) rfl
  simp
  refine aH.intro (S:=λ(x:Nat×List (List SV)×List (Int×By)×WS×Tr)=>⟨[(2,.pv (.ptr h.length 0)),(3,.pv (.ptr (h.length+1) 0)),(5,.own true 1 (ab zs)),(6,.pv (.fn (.func 234) [] [.ptr (h.length+1) 0,.ptr h.length 0])),(22,.al (.slot 5)),(23,.pv (af zs.length)),(24,.pv (af x.1))],x.2.1⟩)
    (λx=>x.1<=zs.length∧LayW x.2.1 bw ba bt mp x.2.2.1 A x.2.2.2.2 x.2.2.2.1∧J x.1 x.2.2.2.1 x.2.2.2.2∧Ext G x.2.1 (aR bw bt mp mb) (aR bw bt mp x.2.2.1)∧Z=gO l (zs.drop x.1) x.2.2.2.1 x.2.2.2.2)
    (λx=>zs.length -x.1) (0,G,mb,S,T) ?_ ⟨Qq _,L0,ch,Ext.refl _ _,cg⟩ ?_
  · exact ai.keep (by simp) rfl
  rintro⟨i,H,mb',S',T'⟩ ⟨hi,LH,bH,hE,hZ⟩
  dsimp only at hi LH bH hE hZ
  have cX:G.length=h.length+2:=by rw[hG];simp
  have cG:H[h.length]?=some [.pv (.ptr bw 0)]:=by rw[hE.same h.length (by omega) (au _ (Qc _)),bW]
  have cH:H[h.length+1]?=some [.pv (af l)]:=by rw[hE.same (h.length+1) (by omega) (au _ (by omega)),bX]
  have ae:∀b,h.length<=b->b<G.length->¬aR bw bt mp mb' b:=λb hb ck hd=>au b hb (hE.sub b ck hd)
  by_cases d:i<zs.length
  rotate_left
  · have:i=zs.length:=by omega
    subst this
    rw[QK (Qc _),gO]at hZ
    subst hZ
    simp
    exact⟨mb',LH,E0.trans hE⟩
  have a6:aX ((i:Int)+1)=((i+1:Nat):Int):=by rw[aq (by omega) (by omega)];omega
  have hq:zs[i]?=some zs[i]:=P8 d
  obtain⟨p,K,V⟩:=hJ i S' T' bH d
  rw[QU d,gO,K.hp]at hZ
  simp only at hZ
  obtain⟨k,bP⟩:∃k,zs[i]=k:=⟨_,rfl⟩
  rw[bP]at K V hZ hq
  obtain⟨b,hb,q1,q2,q3,q4⟩:=LH.some_p K.hp
  -- the number is boxed
  obtain⟨N,an⟩:∃N,N=H++[[SV.pv (af k)]]:=⟨_,rfl⟩
  have L2:LayW N bw ba bt mp mb' A T' S':=by rw[an];exact LH.app _
  have E2:Ext H N (aR bw bt mp mb') (aR bw bt mp mb'):=by rw[an];exact Ext.app _ _ _
  have lt:∀{c:Nat}{x:List SV},H[c]?=some x->c<H.length:=λhx=>(P7.1 hx).1
  have up:∀{c:Nat}{x:List SV},H[c]?=some x->N[c]?=some x:=λhx=>by rw[an,Qd (lt hx),hx]
  have aB:N[H.length]?=some [.pv (af k)]:=by rw[an];simp
  have aE:=up cG
  have be:=up cH
  have bY:=up q1
  have F:¬aR bw bt mp mb' H.length:=λhd=>by
    rcases hd with q|q|⟨k',q⟩|⟨l',e',q,qe⟩
    · have:=lt LH.w;omega
    · have:=lt LH.t;omega
    · obtain⟨_,_,a2,_⟩:=LH.pr k' _ q;have:=lt a2;omega
    · obtain⟨_,_,⟨_,a2,_⟩,_⟩:=LH.by' l' e' q;have:=lt a2;omega
  obtain⟨w3,w4⟩:=P7.1 L2.w
  obtain⟨c1,c2⟩:=P7.1 aE
  obtain⟨d1,d2⟩:=P7.1 be
  obtain⟨f1,f2⟩:=P7.1 aB
  obtain⟨g1,g2⟩:=P7.1 bY
  obtain⟨Q,E⟩:∃Q:Nat,Q=if p.x=l then 0 else 1:=⟨_,rfl⟩
  have bR:An [p.x,p.y] l=(Q:Int):=by
    unfold An
    by_cases c:p.x=l
    · rw[E,Qb c]
      exact gx (i:=0) (by simp) (λj hj h=>by omega) (by simp[c])
    · rw[E,Qa c]
      exact gx (i:=1) (by simp) (λj hj h=>by cases(show j=0 by omega);simp[c]) (by simp[K.two.resolve_left c])
  have bG:=xI [p.x,p.y] l (by simp)
  rw[bR]at bG
  have bO:tv (a8 N 3 b 1) 1 2=.seq false 1 (ab [p.x,p.y]):=by
    have e0:N.getD b []=oY p:=by rw[P9,bY];rfl
    simp only[a8,e0,oY,jg]
    simp[tv,frzC,ab]
  simp[d,bP]
  rw[←an]
  refine bd.meet Hs ⟨[(2,.pv (.ptr h.length 0)),(3,.pv (.ptr (h.length+1) 0)),(5,.own true 1 (ab zs)),(6,.pv (.fn (.func 234) [] [.ptr (h.length+1) 0,.ptr h.length 0])),(22,.al (.slot 5)),(23,.pv (af zs.length)),(24,.pv (af i)),(8,.pv (.ptr H.length 0)),(9,.pv (.ptr b 0))],N⟩ (by kernel_rfl) ?_ ?_
  · simp[Hs,w3,w4,cB,c1,c2,d1,d2,f1,f2,hb,uM]
    and_intros
    all_goals exact ai.keep (by simp) rfl
  simp
  refine bd.arr [] Ht (λ_:Unit=>⟨[(2,.pv (.ptr h.length 0)),(3,.pv (.ptr (h.length+1) 0)),(5,.own true 1 (ab zs)),(6,.pv (.fn (.func 234) [] [.ptr (h.length+1) 0,.ptr h.length 0])),(22,.al (.slot 5)),(23,.pv (af zs.length)),(24,.pv (af i)),(8,.pv (.ptr H.length 0)),(9,.pv (.ptr b 0)),(10,.pv (af Q))],N⟩) (λ_=>True) (by kernel_rfl) ?_ ?_
  · simp[Ht,w3,w4,cB,c1,c2,d1,d2,f1,f2,g1,g2,oY,jg,bO]
    refine ak.introP bG ?_
    simp
    exact ai.keep (by simp) rfl
  rintro _ _
  have c4:Q<=1:=by rw[E];split<;>omega
  have cz:aX (1 -(Q:Int))=((1 -Q:Nat):Int):=by rw[aq (by omega) (by omega)];omega
  have cC:((1 -Q:Nat):Int)<2:=by omega
  have W:1+(1 -Q)<3:=by omega
  have aW:∀hh:1+(1 -Q)<[SV.pv (.seq false 1 (ab p.lits)),SV.pv (af p.x),SV.pv (af p.y)].length,[SV.pv (.seq false 1 (ab p.lits)),SV.pv (af p.x),SV.pv (af p.y)][1+(1 -Q)]'hh=SV.pv (af (oZ l p)):=λhh=>by
    unfold oZ
    by_cases c:p.x=l
    · rw[Qb c]at E
      subst E
      rw[Qb c];rfl
    · rw[Qa c]at E
      subst E
      rw[Qa c];rfl
  simp[cz,cC,W,g1,g2,oY,jg,aW]
  have kO:=λx=>Hu N bw ba bt h.length ⟨mp,mb',S'.late,S'.head,S'.seen⟩ T' L2.w L2.t K.ok l aE be x (oZ l p)
  have cx:mh T' l p=(p.lits.drop 0).find? (LM T' l (oZ l p)):=rfl
  refine aH.intro (S:=λ(j:Nat)=>⟨[(2,.pv (.ptr h.length 0)),(3,.pv (.ptr (h.length+1) 0)),(5,.own true 1 (ab zs)),(6,.pv (.fn (.func 234) [] [.ptr (h.length+1) 0,.ptr h.length 0])),(22,.al (.slot 5)),(23,.pv (af zs.length)),(24,.pv (af i)),(8,.pv (.ptr H.length 0)),(9,.pv (.ptr b 0)),(10,.pv (af Q)),(11,.pv (af (oZ l p))),(50,.pv (.seq false 1 (ab p.lits))),(51,.pv (af p.lits.length)),(52,.pv (af j))],N⟩)
    (λj=>j<=p.lits.length∧mh T' l p=(p.lits.drop j).find? (LM T' l (oZ l p))) (λj=>p.lits.length -j) 0 ?_ ⟨Qq _,cx⟩ ?_
  · exact ai.keep (by simp) rfl
  rintro j ⟨hj,u⟩
  have cv:=K.lits
  by_cases dj:j<p.lits.length
  · have cA:=eq j
    have cy:p.lits[j]?=some p.lits[j]:=P8 dj
    rw[QU dj,List.find?_cons]at u
    simp[dj,cy]
    refine ak.intro (kO p.lits[j]) ?_
    rintro _ H3 ⟨bl,rfl⟩
    rw[bl]
    clear bl H3
    cases ho:LM T' l (oZ l p) p.lits[j]
    · rw[ho]at u
      simp only at u
      simp
      exact⟨j+1,by(try dsimp only);omega,⟨by(try dsimp only);omega,u⟩,ai.keep (by simp[cA]) rfl⟩
    · rw[ho]at u
      simp only at u
      have cs:(Q:Int)<2:=by omega
      have ct:Q+1<=2:=by omega
      simp[cs,ct,g1,g2,oY,jg]
      refine⟨by omega,?_⟩
      have aQ:List.take (1+Q) [SV.pv (PV.seq false 1 (ab p.lits)),SV.pv (af p.x),SV.pv (af p.y)]++SV.pv (af p.lits[j])::List.drop (1+Q) [SV.pv (af p.x),SV.pv (af p.y)]=oY (iV l p p.lits[j]):=by
        unfold iV
        by_cases c:p.x=l
        · rw[Qb c]at E
          subst E
          rw[Qb c];rfl
        · rw[Qa c]at E
          subst E
          rw[Qa c];rfl
      rw[aQ]
      clear aQ
      have eS:nY S' T' l k p=qG S' k l p p.lits[j]:=by unfold nY;rw[u]
      have eT:o6 T' l k p=T':=by unfold o6;rw[u]
      have eB:pW T' l p=false:=by unfold pW;rw[u]
      rw[Qa (by rw[eB];simp)]at hZ
      have V:=V eB
      rw[eS,eT]at hZ V
      generalize p.lits[j]=x at*
      have L6:=L2.setP hb (iV l p x) (L2.keys.trans (iO _ K.hp).symm)
      have E6:=Ext.set (h:=N) (D:=aR bw bt mp mb') b (oY (iV l p x)) (.inr (.inr (.inl ⟨k,hb⟩)))
      have n2:¬aR bw bt mp mb' h.length:=ae _ (Qc _) (by omega)
      have n3:¬aR bw bt mp mb' (h.length+1):=ae _ (by omega) (by omega)
      generalize cZ:N.set b (oY (iV l p x))=H6 at*
      have aG:H6[h.length]?=some [.pv (.ptr bw 0)]:=by rw[E6.same h.length c1 n2,aE]
      have aI:H6[h.length+1]?=some [.pv (af l)]:=by rw[E6.same (h.length+1) d1 n3,be]
      have ar:H6[H.length]?=some [.pv (af k)]:=by rw[E6.same H.length f1 F,aB]
      obtain⟨b8,b9⟩:=P7.1 L6.w
      obtain⟨bm,ca⟩:=P7.1 aG
      obtain⟨cb,cc⟩:=P7.1 aI
      obtain⟨bn,cf⟩:=P7.1 ar
      obtain⟨z9,a7,bT⟩:=K.byl
      obtain⟨s,aY,⟨aF,b5,b6,b7,cS,cU⟩,ag,cV,cW⟩:=L6.some_b (show lk S'.byl l=some z9 from a7)
      have aS:z9.length<=1000000:=K.hz l z9 a7
      have a4:0<z9.length:=Ru.2 bT
      have O:aR bw bt mp mb' s.b:=.inr (.inr (.inr ⟨l,s,aY,rfl⟩))
      have aO:H.length≠s.b:=λq=>F (q▸O)
      have bL:s.b≠h.length:=λq=>n2 (q▸O)
      have bM:s.b≠h.length+1:=λq=>n3 (q▸O)
      have ax:=iI z9 aS 236 [.iptr 1 [[af k]] 0 0] (λq=>decide (q=k)) (λr=>by simp) rfl (λm=>by simp) (by simp) (λq _=>Hv q k)
      have aN:(bc (λq=>decide (q=k)) z9).length<=z9.length:=jD _ _
      obtain⟨M,bK⟩:∃M,M=bc (λq=>decide (q=k)) z9:=⟨_,rfl⟩
      unfold Jj at ax
      rw[←bK]at ax aN
      obtain⟨X9,aU⟩:∃X:List SV,X=(M++List.replicate (z9.length -M.length) 0).map (λz=>SV.pv (.lit (.int .i64 z)))++aF:=⟨_,rfl⟩
      have bJ:X9=aL M++((List.replicate (z9.length -M.length) 0).map (λz=>SV.pv (.lit (.int .i64 z)))++aF):=by
        rw[aU,QT,QD];rfl
      have L7:=L6.setB aY M ((List.replicate (z9.length -M.length) 0).map (λz=>SV.pv (.lit (.int .i64 z)))++aF) (λm=>pU m (b6 m) _) M.length rfl (by omega) (by simp;omega)
      rw[←bJ]at L7
      have E7:Ext H6 ((H6.set s.b X9).set bw (cB ba bt ⟨mp,pt mb' l ⟨s.b,M.length,s.cp⟩,S'.late,S'.head,S'.seen⟩)) (aR bw bt mp mb') (aR bw bt mp (pt mb' l ⟨s.b,M.length,s.cp⟩)):=by
        refine(((Ext.set s.b X9 O).trans (Ext.set bw _ (.inl rfl))).dom ?_)
        rintro c _ (q|q|q|⟨l',e',q,rfl⟩)
        · exact .inl q
        · exact .inr (.inl q)
        · exact .inr (.inr (.inl q))
        · rw[bD]at q
          split at q
          · cases q;exact O
          · exact .inr (.inr (.inr ⟨l',e',q,rfl⟩))
      obtain⟨H7a,C⟩:∃H7a,H7a=H6.set s.b X9:=⟨_,rfl⟩
      rw[←C]at L7 E7
      have aM:H7a[bw]?=some (cB ba bt ⟨mp,mb',S'.late,S'.head,S'.seen⟩):=by rw[C,Qt ag];exact L6.w
      have ah:H7a[h.length]?=some [.pv (.ptr bw 0)]:=by rw[C,Qt bL,aG]
      have aK:H7a[h.length+1]?=some [.pv (af l)]:=by rw[C,Qt bM,aI]
      have aj:H7a[H.length]?=some [.pv (af k)]:=by rw[C,Qt aO.symm,ar]
      obtain⟨bo,bp⟩:=P7.1 aM
      obtain⟨bq,br⟩:=P7.1 ah
      obtain⟨bs,bu⟩:=P7.1 aK
      obtain⟨bv,bx⟩:=P7.1 aj
      have fF:=And.intro OD (And.intro b8 (And.intro b9 (And.intro bm (And.intro ca (And.intro cb (And.intro cc (And.intro bn (And.intro cf (And.intro bo (And.intro bp (And.intro bq (And.intro br (And.intro bs (And.intro bu (And.intro bv (And.intro bx (And.intro aY (And.intro ag ag.symm))))))))))))))))))
      refine bd.tab [] ⟨[some (66,.pv (.ptr bw 0)),some (67,.pv (.ptr bw 0)),some (68,.pv (.ptr bw 3)),some (69,.al (.cell bw 3)),some (70,.pv (af l)),some (71,.pv (.ptr bw 0)),some (72,.pv (.ptr bw 0)),some (73,.pv (.ptr bw 3)),some (74,.al (.cell bw 3)),some (75,.pv (af l)),some (76,.pv (.bsl s.b 1 0 s.n s.cp)),some (77,.pv (.fn (.func 236) [] [.ptr H.length 0])),some (78,.pv (.bsl s.b 1 0 M.length s.cp)),none],[(2,.pv (.ptr h.length 0)),(3,.pv (.ptr (h.length+1) 0)),(5,.own true 1 (ab zs)),(6,.pv (.fn (.func 234) [] [.ptr (h.length+1) 0,.ptr h.length 0])),(8,.pv (.ptr H.length 0)),(13,.pv (af x)),(22,.al (.slot 5)),(23,.pv (af zs.length)),(24,.pv (af i))],[[],[0],[1],[2],[],[],[5],[6],[7],[],[8,9],[],[10,11],[3,4,12]],[12,13],[[0,1],[0,1],[0,1],[0,1],[0,1],[0,1],[0,1],[0],[0],[0],[0],[0],[0],[1]],[],λ|0=>H6|1=>H7a|_=>H7a.set bw (cB ba bt ⟨mp,pt mb' l ⟨s.b,M.length,s.cp⟩,S'.late,S'.head,S'.seen⟩)⟩ ⟨[(2,.pv (.ptr h.length 0)),(3,.pv (.ptr (h.length+1) 0)),(5,.own true 1 (ab zs)),(6,.pv (.fn (.func 234) [] [.ptr (h.length+1) 0,.ptr h.length 0])),(8,.pv (.ptr H.length 0)),(13,.pv (af x)),(22,.al (.slot 5)),(23,.pv (af zs.length)),(24,.pv (af i))],H7a.set bw (cB ba bt ⟨mp,pt mb' l ⟨s.b,M.length,s.cp⟩,S'.late,S'.head,S'.seen⟩)⟩ (by kernel_rfl) (by simp[uQ,bk]) rfl ?_ (λt h1 g=>?_) ?_
      · simp only[Tb.steps,IM,Tb.lvA,Tb.dpA,Av,uw,RU,Sj,cO,eC,m8,jp,ff,eX,I6,iz,kb,Q1,R9,SO,Uf,Tj,Ux,Uw,R8,SY,QX,Rs]
        and_intros
        all_goals first|trivial|(intro t h1 g;simp only[uQ,bk,QW,QL]at h1;simp[fF,uQ,h1,g,Tb.postL,Tb.wth,wd,uw,bk,bU]<;>and_intros<;>first|omega|(intro e;simp[fF,uQ,e]))|(intro t h1 g;simp only[uQ,bk,QW,QL]at h1;simp[fF,uQ,h1,g,Tb.postL,Tb.wth,wd,uw,bk,bU])
        · refine ak.introX (cd.introT (b:=s.b) (b2:=H.length) (zs:=z9) (sp:=aF) (cp:=s.cp) ax (by simp[h1,g]) (by simp[h1,g]) rfl (by simp[h1,g]) (by simp[b7,h1,g]) (by simp[h1,g]) (by simp[h1,g]) b5 ar aO a4 aS ?_)
          rintro _ _ ⟨rfl,rfl⟩
          refine⟨_,_,rfl,rfl,by simp;omega,aN,?_⟩
          rw[←aU,←C]
          simp[fF,uQ,ag,ag.symm,aJ,h1,g,Tb.postL,Tb.wth,wd,uw,bk,bU]<;>and_intros<;>(intro e;simp[fF,aJ,e])
      · simp only[uQ,bk,QW,QL]at h1 g;simp[IN]at g;exact ai.keep (by simp[uQ,h1,g]) rfl
      have cq:fk S'.byl k l=pt S'.byl l M:=by unfold fk;rw[Qa K.l0,a7,QF,bK]
      have ad:(H7a.set bw (cB ba bt ⟨mp,pt mb' l ⟨s.b,M.length,s.cp⟩,S'.late,S'.head,S'.seen⟩))[h.length]?=some [.pv (.ptr bw 0)]:=by rw[Qt (λq=>n2 (.inl q.symm)),ah]
      have bE:(H7a.set bw (cB ba bt ⟨mp,pt mb' l ⟨s.b,M.length,s.cp⟩,S'.late,S'.head,S'.seen⟩))[H.length]?=some [.pv (af k)]:=by rw[Qt (λq=>F (.inl q.symm)),aj]
      rw[←cq]at L7
      have cD:=sG (k:=k) (l:=l) K.hz
      clear fF bo bp bq br bs bu bv bx aM ah aK aj C ax aU bJ
      generalize pt mb' l ⟨s.b,M.length,s.cp⟩=a at*
      generalize H7a.set bw (cB ba bt ⟨mp,a,S'.late,S'.head,S'.seen⟩)=I at*
      have n7:¬aR bw bt mp a h.length:=λq=>n2 (E6.sub _ c1 (E7.sub _ bm q))
      have c6:¬aR bw bt mp a H.length:=λq=>F (E6.sub _ f1 (E7.sub _ bn q))
      obtain⟨av,bz⟩:=P7.1 L7.w
      obtain⟨aw,bA⟩:=P7.1 ad
      obtain⟨bB,bC⟩:=P7.1 bE
      obtain⟨JE,az⟩:∃JE:List (List SV)->List (Int×By)->Prop,∀Y m,JE Y m↔(LayW Y bw ba bt mp m A T' (qG S' k l p x)∧Ext I Y (aR bw bt mp a) (aR bw bt mp m)):=⟨_,λ_ _=>Iff.rfl⟩
      have dom:∀e',(∀c,c<I.length->e'.b=c->∃l0 e0,lk a l0=some e0∧e0.b=c)->∀c,c<I.length->aR bw bt mp (pt a x e') c->aR bw bt mp a c:=λe' cm c hc q=>by
        rcases q with q|q|q|⟨l',f,q,q2⟩
        · exact .inl q
        · exact .inr (.inl q)
        · exact .inr (.inr (.inl q))
        · rw[bD]at q
          split at q
          · cases q;exact .inr (.inr (.inr (cm c hc q2)))
          · exact .inr (.inr (.inr ⟨l',f,q,q2⟩))
      have aP:∀(v:List (List SV)×List (Int×By)),JE v.1 v.2->LayW v.1 bw ba bt mp v.2 A T' (qG S' k l p x)∧Ext G v.1 (aR bw bt mp mb) (aR bw bt mp v.2):=λv hj=>by
        obtain⟨j1,j2⟩:=(az _ _).1 hj
        exact⟨j1,(hE.trans E2).trans ((E6.trans E7).trans j2)⟩
      simp
      cases P:lk a x with
      |none=>
        have cj:=L7.byn x P
        have aC:qG S' k l p x=⟨pt S'.prs k (iV l p x),pt (fk S'.byl k l) x [k],S'.late,S'.head,S'.seen⟩:=by
          unfold qG gp
          rw[show lk (fk S'.byl k l) x=none from cj];rfl
        have bQ:∀cap,1<=cap->(I++[SV.pv (af k)::List.replicate (cap -1) (SV.pv .bot)])[bw]?=some (cB ba bt ⟨mp,a,S'.late,S'.head,S'.seen⟩)∧(I++[SV.pv (af k)::List.replicate (cap -1) (SV.pv .bot)])[h.length]?=some [.pv (.ptr bw 0)]∧JE ((I++[SV.pv (af k)::List.replicate (cap -1) (SV.pv .bot)]).set bw (cB ba bt ⟨mp,pt a x ⟨I.length,1,cap⟩,S'.late,S'.head,S'.seen⟩)) (pt a x ⟨I.length,1,cap⟩):=λcap hc=>by
          refine⟨by rw[Qd av];exact L7.w,by rw[Qd aw,ad],(az _ _).2 ⟨?_,?_⟩⟩
          · rw[aC]
            exact L7.newB x [k] (List.replicate (cap -1) (SV.pv .bot)) (λm=>gN m _) 1 cap rfl hc (by simp;omega)
          · refine(((Ext.app I [SV.pv (af k)::List.replicate (cap -1) (SV.pv .bot)] _).trans (Ext.set bw _ (.inl rfl))).dom (dom _ λc hc e=>?_))
            simp only at e;omega
        have U:=And.intro OD (And.intro av (And.intro bz (And.intro aw (And.intro bA (And.intro bB (And.intro bC P))))))
        refine bd.tab2 [92] ⟨[some (79,.pv (.ptr bw 0)),some (80,.pv (.ptr bw 0)),some (81,.pv (.ptr bw 3)),some (82,.al (.cell bw 3)),some (83,.pv (af x)),some (84,.pv (.ptr bw 0)),some (85,.pv (.ptr bw 0)),some (86,.pv (.ptr bw 3)),some (87,.al (.cell bw 3)),some (88,.pv (af x)),some (89,.pv (.lit (.slice none 0 0))),some (90,.pv (af k)),some (91,.own true 1 [[af k]]),none,none],[(2,.pv (.ptr h.length 0)),(3,.pv (.ptr (h.length+1) 0)),(5,.own true 1 (ab zs)),(6,.pv (.fn (.func 234) [] [.ptr (h.length+1) 0,.ptr h.length 0])),(8,.pv (.ptr H.length 0)),(13,.pv (af x)),(22,.al (.slot 5)),(23,.pv (af zs.length)),(24,.pv (af i))],[[],[0],[1],[2],[],[],[5],[6],[7],[],[8,9],[],[11],[10,12],[3,4,13]],[13,14],[[0,1],[0,1],[0,1],[0,1],[0,1],[0,1],[0,1],[0],[0],[0],[0],[0],[0],[0],[1]],[(13,91)],λ_=>I⟩ (λq:List (List SV)×By=>[some (79,.pv (.ptr bw 0)),some (80,.pv (.ptr bw 0)),some (81,.pv (.ptr bw 3)),some (82,.al (.cell bw 3)),some (83,.pv (af x)),some (84,.pv (.ptr bw 0)),some (85,.pv (.ptr bw 0)),some (86,.pv (.ptr bw 3)),some (87,.al (.cell bw 3)),some (88,.pv (af x)),some (89,.pv (.lit (.slice none 0 0))),some (90,.pv (af k)),some (91,.own true 1 [[af k]]),some (92,.pv (.bsl q.2.b 1 0 q.2.n q.2.cp)),none]) (λq:List (List SV)×By=>λ|1=>q.1|_=>q.1.set bw (cB ba bt ⟨mp,pt a x q.2,S'.late,S'.head,S'.seen⟩)) (λq:List (List SV)×By=>q.1[bw]?=some (cB ba bt ⟨mp,a,S'.late,S'.head,S'.seen⟩)∧q.1[h.length]?=some [.pv (.ptr bw 0)]∧JE (q.1.set bw (cB ba bt ⟨mp,pt a x q.2,S'.late,S'.head,S'.seen⟩)) (pt a x q.2)) 13 0 [13,14] (by kernel_rfl) (λ_=>by kernel_rfl) rfl (by kernel_rfl) (λ_=>by simp[On]) (by simp[bk]) rfl ?_ ?_
        · simp only[Tb.steps2,IM,Tb.lvA,Tb.dpA,Av,uw,RU,Sj,cO,eC,m8,jp,ff,eX,I6,iz,kb,Q1,R9,SO,Uf,Tj,Ux,Uw,R8,SY,QX,Rs]
          simp only[Nat.reduceLeDiff,Nat.reduceEqDiff,Nat.reduceAdd,RV,Rs,Qc,Qq]
          and_intros
          all_goals first|trivial|(intro t h1 g;simp only[bk,QW,QL]at h1;simp[U,uQ,h1,g,Tb.postL,Tb.wth,wd,uw,bk,bU]<;>and_intros<;>first|omega|(intro e;simp[U,uQ,e]))|(rintro t h1 q hy g;simp only[bk,QW,QL]at h1;obtain⟨yw,yb,yj⟩:=hy;obtain⟨bh,bi⟩:=P7.1 yw;obtain⟨bf,bg⟩:=P7.1 yb;simp[OD,uQ,bh,bi,bf,bg,h1,g,Tb.postL,Tb.wth,wd,uw,bk,bU]<;>and_intros<;>first|omega|(intro e;simp[U,uQ,e]))|skip
          · intro t h1 g;simp only[bk,QW,QL]at h1
            simp[-Prod.exists,U,uQ,h1,g]
            intro cap hc
            refine⟨(_,⟨I.length,1,cap⟩),bQ cap hc,?_⟩
            simp[U,h1,g,Tb.postL,Tb.wth,wd,uw,bk,bU]<;>and_intros<;>(intro e;simp[U,e])
        · rintro q hy t h1 g
          simp only[bk,QW,QL]at h1;simp[IN]at g
          obtain⟨v,W⟩:∃v:List (List SV)×List (Int×By),v=(q.1.set bw (cB ba bt ⟨mp,pt a x q.2,S'.late,S'.head,S'.seen⟩),pt a x q.2):=⟨_,rfl⟩
          refine⟨_,ai.keep (t1:=[(2,.pv (.ptr h.length 0)),(3,.pv (.ptr (h.length+1) 0)),(5,.own true 1 (ab zs)),(6,.pv (.fn (.func 234) [] [.ptr (h.length+1) 0,.ptr h.length 0])),(8,.pv (.ptr H.length 0)),(13,.pv (af x)),(22,.al (.slot 5)),(23,.pv (af zs.length)),(24,.pv (af i))]) (h1:=v.1) (by simp[h1,g]) (by rw[W];rfl),?_⟩
          have a3:JE v.1 v.2:=by rw[W];exact hy.2.2
          obtain⟨j1,j2⟩:=aP v a3
          simp
          exact⟨(i+1,v.1,v.2,qG S' k l p x,T'),by(try dsimp only);omega,⟨by(try dsimp only);omega,j1,V,j2,hZ⟩,ai.keep (by simp[a6]) rfl⟩
      |some f=>
        obtain⟨B,bV,⟨o,b3,b4,aT,cN,cP⟩,bb,cQ,cR⟩:=L7.by' x f P
        obtain⟨cJ,cK⟩:=P7.1 b3
        have aC:qG S' k l p x=⟨pt S'.prs k (iV l p x),pt (fk S'.byl k l) x (B++[k]),S'.late,S'.head,S'.seen⟩:=by
          unfold qG gp
          rw[show lk (fk S'.byl k l) x=some B from bV];rfl
        have a0:(aL B).length=f.n:=by rw[nX];exact aT
        have c5:f.n<=1000000:=by rw[←aT];exact cD x B bV
        have bN:aR bw bt mp a f.b:=.inr (.inr (.inr ⟨x,f,P,rfl⟩))
        have cI:f.b≠h.length:=λq=>n7 (q▸bN)
        have bj:∀m (s0:List SV),cT m s0->cT m (s0.drop 1):=λm s0 bS=>by cases s0 with|nil=>exact bS|cons _ _=>exact bS.2
        have c3:(aL B++o).length=f.n+o.length:=by rw[Qh,a0]
        have aA:(aL B++o).take f.n=aL B:=R4 a0
        have bI:(aL B++o).take f.n=(B.map λz=>PV.lit (.int .i64 z)).map SV.pv:=by rw[aA];unfold aL;rw[Ra];rfl
        have ao:∀R:List SV,aL (B++[k])++R=aL B++SV.pv (af k)::R:=λR=>by unfold aL;rw[QT,QD];rfl
        have bF:(aL B++o).drop (f.n+1)=o.drop 1:=by rw[←a0,Ub];simp
        have a5:f.n+1<=f.cp->(I.set f.b (List.take f.n (aL B++o)++SV.pv (af k)::List.drop (f.n+1) (aL B++o)))[bw]?=some (cB ba bt ⟨mp,a,S'.late,S'.head,S'.seen⟩)∧(I.set f.b (List.take f.n (aL B++o)++SV.pv (af k)::List.drop (f.n+1) (aL B++o)))[h.length]?=some [.pv (.ptr bw 0)]∧
            JE ((I.set f.b (List.take f.n (aL B++o)++SV.pv (af k)::List.drop (f.n+1) (aL B++o))).set bw (cB ba bt ⟨mp,pt a x ⟨f.b,f.n+1,f.cp⟩,S'.late,S'.head,S'.seen⟩)) (pt a x ⟨f.b,f.n+1,f.cp⟩):=λhr=>by
          refine⟨by rw[Qt bb];exact L7.w,by rw[Qt cI,ad],(az _ _).2 ⟨?_,?_⟩⟩
          · rw[aA,bF,←ao,aC]
            exact L7.setB P (B++[k]) (o.drop 1) (λm=>bj m o (b4 m)) (f.n+1) (by simp;omega) hr (by rw[QS];omega)
          · refine(((Ext.set f.b _ bN).trans (Ext.set bw _ (.inl rfl))).dom (dom _ λc hc q=>?_))
            exact⟨x,f,P,q⟩
        have aZ:∀cap,f.n+1<=cap->(I++[(B.map λz=>PV.lit (.int .i64 z)).map SV.pv++SV.pv (af k)::List.replicate (cap -(f.n+1)) (SV.pv .bot)])[bw]?=some (cB ba bt ⟨mp,a,S'.late,S'.head,S'.seen⟩)∧(I++[(B.map λz=>PV.lit (.int .i64 z)).map SV.pv++SV.pv (af k)::List.replicate (cap -(f.n+1)) (SV.pv .bot)])[h.length]?=some [.pv (.ptr bw 0)]∧
            JE ((I++[(B.map λz=>PV.lit (.int .i64 z)).map SV.pv++SV.pv (af k)::List.replicate (cap -(f.n+1)) (SV.pv .bot)]).set bw (cB ba bt ⟨mp,pt a x ⟨I.length,f.n+1,cap⟩,S'.late,S'.head,S'.seen⟩)) (pt a x ⟨I.length,f.n+1,cap⟩):=λcap hc=>by
          refine⟨by rw[Qd av];exact L7.w,by rw[Qd aw,ad],(az _ _).2 ⟨?_,?_⟩⟩
          · rw[aC,←bI,aA,←ao]
            exact L7.newB x (B++[k]) (List.replicate (cap -(f.n+1)) (SV.pv .bot)) (λm=>gN m _) (f.n+1) cap (by simp;omega) hc (by simp;omega)
          · refine(((Ext.app I _ _).trans (Ext.set bw _ (.inl rfl))).dom (dom _ λc hc q=>?_))
            simp only at q;omega
        clear aA bF ao
        generalize c0:aL B++o=Yc at*
        have U:=And.intro OD (And.intro av (And.intro bz (And.intro aw (And.intro bA (And.intro bB (And.intro bC (And.intro P (And.intro cJ (And.intro cK (And.intro bb bb.symm))))))))))
        refine bd.tab2 [92] ⟨[some (79,.pv (.ptr bw 0)),some (80,.pv (.ptr bw 0)),some (81,.pv (.ptr bw 3)),some (82,.al (.cell bw 3)),some (83,.pv (af x)),some (84,.pv (.ptr bw 0)),some (85,.pv (.ptr bw 0)),some (86,.pv (.ptr bw 3)),some (87,.al (.cell bw 3)),some (88,.pv (af x)),some (89,.pv (.bsl f.b 1 0 f.n f.cp)),some (90,.pv (af k)),some (91,.own true 1 [[af k]]),none,none],[(2,.pv (.ptr h.length 0)),(3,.pv (.ptr (h.length+1) 0)),(5,.own true 1 (ab zs)),(6,.pv (.fn (.func 234) [] [.ptr (h.length+1) 0,.ptr h.length 0])),(8,.pv (.ptr H.length 0)),(13,.pv (af x)),(22,.al (.slot 5)),(23,.pv (af zs.length)),(24,.pv (af i))],[[],[0],[1],[2],[],[],[5],[6],[7],[],[8,9],[],[11],[10,12],[3,4,13]],[13,14],[[0,1],[0,1],[0,1],[0,1],[0,1],[0,1],[0,1],[0],[0],[0],[0],[0],[0],[0],[1]],[(13,91)],λ_=>I⟩ (λq:List (List SV)×By=>[some (79,.pv (.ptr bw 0)),some (80,.pv (.ptr bw 0)),some (81,.pv (.ptr bw 3)),some (82,.al (.cell bw 3)),some (83,.pv (af x)),some (84,.pv (.ptr bw 0)),some (85,.pv (.ptr bw 0)),some (86,.pv (.ptr bw 3)),some (87,.al (.cell bw 3)),some (88,.pv (af x)),some (89,.pv (.bsl f.b 1 0 f.n f.cp)),some (90,.pv (af k)),some (91,.own true 1 [[af k]]),some (92,.pv (.bsl q.2.b 1 0 q.2.n q.2.cp)),none]) (λq:List (List SV)×By=>λ|1=>q.1|_=>q.1.set bw (cB ba bt ⟨mp,pt a x q.2,S'.late,S'.head,S'.seen⟩)) (λq:List (List SV)×By=>q.1[bw]?=some (cB ba bt ⟨mp,a,S'.late,S'.head,S'.seen⟩)∧q.1[h.length]?=some [.pv (.ptr bw 0)]∧JE (q.1.set bw (cB ba bt ⟨mp,pt a x q.2,S'.late,S'.head,S'.seen⟩)) (pt a x q.2)) 13 0 [13,14] (by kernel_rfl) (λ_=>by kernel_rfl) rfl (by kernel_rfl) (λ_=>by simp[On]) (by simp[bk]) rfl ?_ ?_
        · simp only[Tb.steps2,IM,Tb.lvA,Tb.dpA,Av,uw,RU,Sj,cO,eC,m8,jp,ff,eX,I6,iz,kb,Q1,R9,SO,Uf,Tj,Ux,Uw,R8,SY,QX,Rs]
          simp only[Nat.reduceLeDiff,Nat.reduceEqDiff,Nat.reduceAdd,RV,Rs,Qc,Qq]
          and_intros
          all_goals first|trivial|(intro t h1 g;simp only[bk,QW,QL]at h1;simp[U,uQ,h1,g,Tb.postL,Tb.wth,wd,uw,bk,bU]<;>and_intros<;>first|omega|(intro e;simp[U,uQ,e]))|(rintro t h1 q hy g;simp only[bk,QW,QL]at h1;obtain⟨yw,yb,yj⟩:=hy;obtain⟨bh,bi⟩:=P7.1 yw;obtain⟨bf,bg⟩:=P7.1 yb;simp[OD,uQ,bh,bi,bf,bg,h1,g,Tb.postL,Tb.wth,wd,uw,bk,bU]<;>and_intros<;>first|omega|(intro e;simp[U,uQ,e]))|skip
          · intro t h1 g;simp only[bk,QW,QL]at h1
            simp[-Prod.exists,U,uQ,h1,g]
            refine⟨by omega,by omega,_,bI,by simpa using aT,λhr=>?_,λhn cap hc=>?_⟩
            · refine⟨(_,⟨f.b,f.n+1,f.cp⟩),a5 hr,?_⟩
              simp[U,h1,g,Tb.postL,Tb.wth,wd,uw,bk,bU]<;>and_intros<;>(intro e;simp[U,e])
            · refine⟨(_,⟨I.length,f.n+1,cap⟩),aZ cap hc,?_⟩
              simp[U,h1,g,Tb.postL,Tb.wth,wd,uw,bk,bU]<;>and_intros<;>(intro e;simp[U,e])
        · rintro q hy t h1 g
          simp only[bk,QW,QL]at h1;simp[IN]at g
          obtain⟨v,W⟩:∃v:List (List SV)×List (Int×By),v=(q.1.set bw (cB ba bt ⟨mp,pt a x q.2,S'.late,S'.head,S'.seen⟩),pt a x q.2):=⟨_,rfl⟩
          refine⟨_,ai.keep (t1:=[(2,.pv (.ptr h.length 0)),(3,.pv (.ptr (h.length+1) 0)),(5,.own true 1 (ab zs)),(6,.pv (.fn (.func 234) [] [.ptr (h.length+1) 0,.ptr h.length 0])),(8,.pv (.ptr H.length 0)),(13,.pv (af x)),(22,.al (.slot 5)),(23,.pv (af zs.length)),(24,.pv (af i))]) (h1:=v.1) (by simp[h1,g]) (by rw[W];rfl),?_⟩
          have a3:JE v.1 v.2:=by rw[W];exact hy.2.2
          obtain⟨j1,j2⟩:=aP v a3
          simp
          exact⟨(i+1,v.1,v.2,qG S' k l p x,T'),by(try dsimp only);omega,⟨by(try dsimp only);omega,j1,V,j2,hZ⟩,ai.keep (by simp[a6]) rfl⟩
  · have:j=p.lits.length:=by omega
    subst this
    rw[QK (Qc _),List.find?_nil]at u
    have kF:=A2 N bw ba bt mp mb' A T' S' L2 k p K.hp K.hx K.hy K.hz
    have eS:nY S' T' l k p=jt (lw (md S' k p) k) T' k (o5 p):=by unfold nY;rw[u]
    have eT:o6 T' l k p=lH T' k (o5 p):=by unfold o6;rw[u]
    have eB:pW T' l p=mf T' (o5 p):=by unfold pW;rw[u]
    simp[f1,f2,c1,c2]
    refine ak.intro kF ?_
    rintro _ H3 ⟨rfl,aa,L3,E3⟩
    have P:H.length<N.length:=f1
    have n2:¬aR bw bt mp mb' h.length:=ae _ (Qc _) (by omega)
    have n3:¬aR bw bt mp mb' (h.length+1):=ae _ (by omega) (by omega)
    have bZ:H3[h.length]?=some [.pv (.ptr bw 0)]:=by rw[E3.same h.length c1 n2,aE]
    have b0:H3[H.length]?=some [.pv (af k)]:=by rw[E3.same H.length f1 F,aB]
    obtain⟨s1,s2⟩:=P7.1 L3.w
    obtain⟨t1,t2⟩:=P7.1 bZ
    obtain⟨u1,u2⟩:=P7.1 b0
    have L4:=L3.setW (pt S'.late k (aX ((lk S'.late k).getD 0+1))) S'.head S'.seen
    have E4:=Ext.set (h:=H3) (D:=aR bw bt mp aa) bw (cB ba bt ⟨mp,aa,pt S'.late k (aX ((lk S'.late k).getD 0+1)),S'.head,S'.seen⟩) (.inl rfl)
    have cL:(H3.set bw (cB ba bt ⟨mp,aa,pt S'.late k (aX ((lk S'.late k).getD 0+1)),S'.head,S'.seen⟩))[h.length]?=some [.pv (.ptr bw 0)]:=by
      rw[Qt (λq=>n2 (.inl q.symm)),bZ]
    have cM:(H3.set bw (cB ba bt ⟨mp,aa,pt S'.late k (aX ((lk S'.late k).getD 0+1)),S'.head,S'.seen⟩))[H.length]?=some [.pv (af k)]:=by
      rw[Qt (λq=>F (.inl q.symm)),b0]
    simp
    refine bd.meet Cy ⟨[(2,.pv (.ptr h.length 0)),(3,.pv (.ptr (h.length+1) 0)),(5,.own true 1 (ab zs)),(6,.pv (.fn (.func 234) [] [.ptr (h.length+1) 0,.ptr h.length 0])),(22,.al (.slot 5)),(23,.pv (af zs.length)),(24,.pv (af i)),(8,.pv (.ptr H.length 0))],H3.set bw (cB ba bt ⟨mp,aa,pt S'.late k (aX ((lk S'.late k).getD 0+1)),S'.head,S'.seen⟩)⟩ (by kernel_rfl) ?_ ?_
    · simp[Cy,s1,s2,cB,t1,t2,u1,u2,md]
      and_intros
      all_goals exact ai.keep (by simp) (by simp[cB])
    generalize H3.set bw (cB ba bt ⟨mp,aa,pt S'.late k (aX ((lk S'.late k).getD 0+1)),S'.head,S'.seen⟩)=H4 at*
    obtain⟨y1,y2⟩:=P7.1 cL
    obtain⟨z1,z2⟩:=P7.1 cM
    have cw:lk (md S' k p).prs k=some (o5 p):=by
      show lk (pt S'.prs k _) k=_
      rw[bD,Qb rfl];rfl
    have kR:=uO H4 bw ba bt mp aa A T' (lw (md S' k p) k) L4 k (o5 p) cw K.ok K.tl K.lits (sG (sG K.hz))
    simp[y1,y2,z1,z2]
    refine ak.intro kR ?_
    rintro _ H5 ⟨rfl,a9,L5,E5⟩
    rw[←eS,←eT]at L5
    rw[←eB]
    have E35:Ext N H5 (aR bw bt mp mb') (aR bw bt mp a9):=(E3.trans E4).trans E5
    cases aV:pW T' l p
    · rw[Qa (by rw[aV];simp)]at hZ
      simp
      exact⟨(i+1,H5,a9,nY S' T' l k p,o6 T' l k p),by(try dsimp only);omega,⟨by(try dsimp only);omega,L5,V aV,(hE.trans E2).trans E35,hZ⟩,ai.keep (by simp[a6]) rfl⟩
    · rw[Qb aV]at hZ
      subst hZ
      have cu:H5[H.length]?=some [.pv (af k)]:=by
        rw[E35.same H.length f1 F,aB]
      obtain⟨o1,o2⟩:=P7.1 cu
      simp[o1,o2]
      exact⟨a9,L5,E0.trans ((hE.trans E2).trans E35)⟩
end Go.AX
namespace Go.AX
open Go.Proofs
set_option linter.unusedSimpArgs false
def fL(S:WS)(T:Tr)(l:Int):WS×Tr×Int:=match lk S.byl l with
 |some zs=>gO l zs S T
 |none=>(S,T,-1)
def LO(S:WS):WS:=⟨S.prs,S.byl,S.late,aX (S.head+1),S.seen⟩
def dD(T:Tr)(S:WS):Int:=aX (-(T.lits.getD S.head.toNat 0))
def la:Nat->WS->Tr->WS×Tr×Int
 |0,S,T=>(S,T,-1)
 |n+1,S,T=>if S.head<T.lits.length then(if 0<=(fL S T (dD T S)).2.2 then fL S T (dD T S)else la n (LO (fL S T (dD T S)).1) (fL S T (dD T S)).2.1)else(S,T,-1)
def cA(S:WS)(now:List Int):WS:=⟨S.prs,S.byl,S.late,if(ia S.seen now:Int)<S.head then(ia S.seen now:Int)else S.head,S.seen⟩
def fM(S:WS)(T:Tr):WS×Tr×Int:=gV (bK (S.late.map (·.1))) S T
def ib(S:WS)(T:Tr):WS×Tr×Int:=if 0<=(fM (cA S T.lits) T).2.2 then fM (cA S T.lits) T else la 1000001 (fM (cA S T.lits) T).1 (fM (cA S T.lits) T).2.1
def gq(S:WS)(T:Tr):WS×Tr×Int:=(⟨(ib S T).1.prs,(ib S T).1.byl,(ib S T).1.late,(ib S T).1.head,(ib S T).2.1.lits⟩,(ib S T).2.1,(ib S T).2.2)
theorem A4(h:List (List SV))(bw ba bt:Nat)(mp:List (Int×Nat))(mb:List (Int×By))(A:Ar)(T:Tr)(S:WS)(L:LayW h bw ba bt mp mb A T S)(l:Int)(c:lk S.byl l=none):
 ay Tryz.prog 157 [.ptr bw 0,af l] h (λr h'=>r=.pv (af (-1))∧∃mb',LayW h' bw ba bt mp mb' A T S∧Ext h h' (aR bw bt mp mb) (aR bw bt mp mb')):=by
 refine cY [1,6,7,14,15,18] [.tmp 4] aD Tryz.func157 ?_;have b:lk mb l=none:=by
  cases k:lk mb l with
  |none=>rfl
  |some e=>obtain⟨zs,h1,_⟩:=L.by' l e k;rw[c]at h1;cases h1
 obtain⟨G,a⟩:∃G,G=h++[[SV.pv (.ptr bw 0)],[SV.pv (af l)]]:=⟨_,rfl⟩;have L0:LayW G bw ba bt mp mb A T S:=by rw[a];exact L.app _
 have g:Ext h G (aR bw bt mp mb) (aR bw bt mp mb):=by rw[a];exact Ext.app _ _ _
 have d:G[h.length]?=some [.pv (.ptr bw 0)]:=by rw[a];simp
 have f:G[h.length+1]?=some [.pv (af l)]:=by rw[a];simp
 obtain⟨m,n⟩:=P7.1 L0.w;obtain⟨i,j⟩:=P7.1 d;obtain⟨b1,b2⟩:=P7.1 f;simp;rw[←a];refine bd.meet wB ⟨[(2,.pv (.ptr h.length 0)),(3,.pv (.ptr (h.length+1) 0)),(5,.pv (.lit (.slice none 0 0)))],G⟩ (by kernel_rfl) ?_ ?_
 .simp[wB,m,n,cB,i,j,b1,b2,b];and_intros
  all_goals
   refine ah.intro AL ?_;simp;exact ai.keep (by simp) rfl
 simp;refine aH.intro (S:=λ_:Unit=>⟨[(2,.pv (.ptr h.length 0)),(3,.pv (.ptr (h.length+1) 0)),(23,.pv (af 0)),(24,.pv (af 0))],G⟩) (λ_=>True) (λ_=>0) () ?_ trivial ?_
 .exact ai.keep (by simp) rfl
 rintro _ _;simp;exact⟨mb,L0,g⟩
structure ProOk (J:WS->Tr->Prop):Prop where
  ok:∀S T,J S T->T.ok∧T.lits.length<=1000000∧0<=S.head∧S.head<=T.lits.length
  step:∀S T,J S T->S.head<T.lits.length->∀zs,lk S.byl (dD T S)=some zs->zs.length<=1000000∧∃Jf:Nat->WS->Tr->Prop,Jf 0 S T∧∀i S' T',Jf i S' T'->∀(hi:i<zs.length),∃p,StepOk S' T' (dD T S) zs[i] p∧(pW T' (dD T S) p=false->Jf (i+1) (nY S' T' (dD T S) zs[i] p) (o6 T' (dD T S) zs[i] p))
  len:∀S T,J S T->S.head<T.lits.length->(fL S T (dD T S)).2.1.lits.length<=1000000
  next:∀S T,J S T->S.head<T.lits.length->¬0<=(fL S T (dD T S)).2.2->(fL S T (dD T S)).2.2=-1∧J (LO (fL S T (dD T S)).1) (fL S T (dD T S)).2.1∧(fL S T (dD T S)).1.head=S.head∧T.lits<+:(fL S T (dD T S)).2.1.lits
set_option maxRecDepth 16000 in
theorem tF(h:List (List SV))(bw ba bt:Nat)(mp:List (Int×Nat))(mb:List (Int×By))(A:Ar)(T:Tr)(S:WS)(L:LayW h bw ba bt mp mb A T S)(ah:T.lits.length<=1000000)(aF:S.seen.length<=1000000)
 (s:List Int) (ad:bK (S.late.map (·.1))=s) (Y:Nat->WS->Tr->Prop) (au:Y 0 (cA S T.lits) T) (az:∀q∈S.late,B7 q.1) (aA:S.late.length<=1000000)
 (hB:∀i S' T',Y i S' T'->∀(hi:i<s.length),T'.ok∧T'.lits.length<=1000000∧(∀l zs,lk S'.byl l=some zs->zs.length<=1000000)∧∃p,lk S'.prs s[i]=some p∧p.lits.length<=1000000)
 (hJ:∀i S' T' p,Y i S' T'->∀(hi:i<s.length),lk S'.prs s[i]=some p->mf T' p=false->Y (i+1) (jt S' T' s[i] p) (lH T' s[i] p))
 (ae:(fM (cA S T.lits) T).2.1.lits.length<=1000000) (J:WS->Tr->Prop) (U:ProOk J) (av:¬0<=(fM (cA S T.lits) T).2.2->(fM (cA S T.lits) T).2.2=-1∧J (fM (cA S T.lits) T).1 (fM (cA S T.lits) T).2.1):
 ay Tryz.prog 91 [.ptr bw 0] h (λr h'=>r=.pv (af (gq S T).2.2)∧∃mb',LayW h' bw ba bt mp mb' A (gq S T).2.1 (gq S T).1∧Ext h h' (aR bw bt mp mb) (aR bw bt mp mb')):=by
 refine cY [] [.tmp 2] aD Tryz.func91 ?_;obtain⟨w1,w2⟩:=P7.1 L.w;have hz:=cG L.t 2;have kM:=yA h bw ba bt _ L.w;have kL:=eY T ah;have kS:=A0 h bw ba bt ⟨mp,mb,S.late,S.head,S.seen⟩ T.lits L.w ah aF;have L1:=L.setW S.late (if(ia S.seen T.lits:Int)<S.head then(ia S.seen T.lits:Int)else S.head) S.seen;have E1:=Ext.set (h:=h) (D:=aR bw bt mp mb) bw (cB ba bt (Hm ⟨mp,mb,S.late,S.head,S.seen⟩ T.lits)) (.inl rfl);simp;refine ak.intro kM ?_;rintro _ h2 ⟨e,rfl⟩;rw[e];clear e h2;simp[w1,w2,cB,hz];refine ak.introP kL ?_;simp;refine ak.intro (kS.args (xs:=[.ptr bw 0,.seq true 1 (ab T.lits)]) (by simp[bG,bI])) ?_;rintro _ H1 ⟨rfl,rfl⟩;have L1':LayW (h.set bw (cB ba bt (Hm ⟨mp,mb,S.late,S.head,S.seen⟩ T.lits))) bw ba bt mp mb A T (cA S T.lits):=L1;have C:=Eg _ bw ba bt mp mb A T (cA S T.lits) L1' s ad Y au az aA hB hJ;generalize h.set bw (cB ba bt (Hm ⟨mp,mb,S.late,S.head,S.seen⟩ T.lits))=H1 at*;have a:ib S T=if 0<=(fM (cA S T.lits) T).2.2 then fM (cA S T.lits) T else la 1000001 (fM (cA S T.lits) T).1 (fM (cA S T.lits) T).2.1:=rfl;have ag:gq S T=(⟨(ib S T).1.prs,(ib S T).1.byl,(ib S T).1.late,(ib S T).1.head,(ib S T).2.1.lits⟩,(ib S T).2.1,(ib S T).2.2):=rfl;have G:gV s (cA S T.lits) T=fM (cA S T.lits) T:=by unfold fM;rw[←ad];rfl
 rw[G]at C;generalize fM (cA S T.lits) T=V at*;generalize ib S T=M at*;generalize gq S T=Q at*;obtain⟨S2,T2,k2⟩:=V;simp only at*;simp;refine ak.intro C ?_;rintro _ H2 ⟨rfl,aJ,L2,E2⟩;have O:=eY T2 ae;have I:=cG L2.t 2;obtain⟨v1,v2⟩:=P7.1 L2.w;simp[v1,v2,cB,I];refine ak.introP O ?_;simp;refine aH.intro (S:=λ(x:List (List SV)×List (Int×By)×WS×Tr×Int×List Int×Nat)=>⟨[(0,.pv (.ptr bw 0)),(3,.pv (af x.2.2.2.2.1)),(4,.own true 1 (ab x.2.2.2.2.2.1))],x.1⟩)
  (λ x => LayW x.1 bw ba bt mp x.2.1 A x.2.2.2.1 x.2.2.1 ∧ Ext h x.1 (aR bw bt mp mb) (aR bw bt mp x.2.1) ∧ x.2.2.2.1.lits.length <= 1000000 ∧
   ((0<=x.2.2.2.2.1∧M=(x.2.2.1,x.2.2.2.1,x.2.2.2.2.1))∨(¬0<=x.2.2.2.2.1∧x.2.2.2.2.1=-1∧J x.2.2.1 x.2.2.2.1∧x.2.2.2.2.2.1<+:x.2.2.2.1.lits∧(x.2.2.1.head<x.2.2.2.2.2.1.length∨x.2.2.2.2.2.1=x.2.2.2.1.lits)∧M=la x.2.2.2.2.2.2 x.2.2.1 x.2.2.2.1∧1000001<=x.2.2.1.head+x.2.2.2.2.2.2)))
  (λx=>x.2.2.2.2.2.2) (H2,aJ,S2,T2,k2,T2.lits,1000001) ?_ ?_ ?_
 .exact ai.keep (by simp) rfl
 .refine⟨L2,E1.trans E2,ae,?_⟩
  by_cases c:0<=k2
  .rw[Qb c]at a;exact .inl ⟨c,a⟩
  .rw[Qa c]at a;have hj:=av c;have hh:=(U.ok _ _ hj.2).2.2.1;exact .inr ⟨c,hj.1,hj.2,Uc _,.inr rfl,a,by simp only;omega⟩
 rintro⟨H,mb',S',T',kc,now,n⟩ ⟨P,hE,E,j⟩;dsimp only at P hE E j;obtain⟨W,X⟩:=P7.1 P.w;have an:=cG P.t 2;have ao:=eY T' E;have o:∀(M1:M=(S',T',kc)),(LayW (H.set bw (cB ba bt ⟨mp,mb',S'.late,S'.head,T'.lits⟩)) bw ba bt mp mb' A Q.2.1 Q.1)∧Ext h (H.set bw (cB ba bt ⟨mp,mb',S'.late,S'.head,T'.lits⟩)) (aR bw bt mp mb) (aR bw bt mp mb')∧Q.2.2=kc:=λM1=>by
  rw[ag,M1];exact⟨P.setW S'.late S'.head T'.lits,hE.trans (Ext.set bw _ (.inl rfl)),rfl⟩
 rcases j with⟨hc,g⟩|⟨hc,ax,hj,m,aB,g,hn⟩
 .have v:¬kc<0:=by omega
  obtain⟨g1,g2,g3⟩:=o g;simp[v];simp[W,X,cB,an];refine ak.introP ao ?_;simp[W,X,cB];exact⟨g3.symm,mb',g1,g2⟩
 .have v:kc<0:=by omega
  obtain⟨q1,q2,q3,q4⟩:=U.ok _ _ hj;obtain⟨hd,z⟩:∃k:Nat,S'.head=k:=⟨S'.head.toNat,by omega⟩
  by_cases d:hd<now.length
  .have dT:hd<T'.lits.length:=Rk d m.length_le;have hq:now[hd]?=some T'.lits[hd]:=by
    obtain⟨t,ht⟩:=m;rw[←P8 dT,←ht,Qd d]
   have b:S'.head<T'.lits.length:=by omega
   have aE:now[hd]=T'.lits[hd]:=by rw[P8 d]at hq;exact Te hq
   have aj:aX (-now[hd])=dD T' S':=by rw[aE];simp[dD,z,P8 dT]
   have kF:ay Tryz.prog 157 [.ptr bw 0,af (dD T' S')] H (λr h'=>r=.pv (af (fL S' T' (dD T' S')).2.2)∧∃F,LayW h' bw ba bt mp F A (fL S' T' (dD T' S')).2.1 (fL S' T' (dD T' S')).1∧Ext H h' (aR bw bt mp mb') (aR bw bt mp F)):=by
    cases hb:lk S'.byl (dD T' S')with
    |none=>
     simp only[fL,hb];exact A4 H bw ba bt mp mb' A T' S' P _ hb
    |some zs=>
     obtain⟨z1,Jf,z2,z3⟩:=U.step S' T' hj b zs hb;simp only[fL,hb];exact Eh H bw ba bt mp mb' A T' S' P _ zs hb z1 Jf z2 z3
   have u:=U.len S' T' hj b;have aa:=U.next S' T' hj b;cases n with
   |zero=>omega
   |succ n=>
   rw[la,Qb b]at g;generalize fL S' T' (dD T' S')=V at*;generalize dD T' S'=l at*;obtain⟨S3,R,k3⟩:=V;simp only at g u aa kF;clear kL O kM kS C hB hJ a G L1 L1' hz I w1 w2 v1 v2;simp[v,W,X,cB,z,d,aj];refine ak.intro kF ?_;rintro _ H3 ⟨rfl,f,L3,E3⟩;obtain⟨t1,t2⟩:=P7.1 L3.w;have K:=cG L3.t 2;have ar:=eY R u
   by_cases c3:0<=k3
   .rw[Qb c3]at g;simp[c3,t1,t2,cB,K];refine ak.introP ar ?_;simp[t1,t2,cB];have:=L3.setW S3.late S3.head R.lits;rw[ag,g];exact⟨rfl,f,this,(hE.trans E3).trans (Ext.set bw _ (.inl rfl))⟩
   .rw[Qa c3]at g;obtain⟨r1,r2,r3,r4⟩:=aa c3;obtain⟨b1,b2,b3,b4⟩:=U.ok _ _ r2;have aK:¬0<=k3:=c3;have Z:=L3.setW S3.late (aX (S3.head+1)) S3.seen;have E4:Ext h (H3.set bw (cB ba bt ⟨mp,f,S3.late,aX (S3.head+1),S3.seen⟩)) (aR bw bt mp mb) (aR bw bt mp f):=(hE.trans E3).trans (Ext.set bw _ (.inl rfl));have B:aX ((hd:Int)+1)=((hd+1:Nat):Int):=by rw[aq (by omega) (by omega)];omega
    have y:S3.head=hd:=r3.trans z;rw[y,B]at Z E4;have N:a8 (H3.set bw (cB ba bt ⟨mp,f,S3.late,((hd+1:Nat):Int),S3.seen⟩)) (2+1) bt 0=bE R:=cG Z.t 2;have aG:LO S3=⟨S3.prs,S3.byl,S3.late,((hd+1:Nat):Int),S3.seen⟩:=by unfold LO;rw[y,B]
    rw[aG]at g r2;clear kF
    by_cases dn:hd+1=now.length
    .rw[dn]at Z E4 N g r2;simp only[cB]at N;simp[c3,t1,t2,cB,K,y,B,dn,N];refine ak.introP ar ?_;simp;exact⟨(_,f,⟨S3.prs,S3.byl,S3.late,(now.length:Int),S3.seen⟩,R,k3,R.lits,n),SH n,⟨Z,E4,u,.inr ⟨by simp only;omega,r1,r2,Uc _,.inr rfl,g,by simp only;omega⟩⟩,ai.keep (by simp) rfl⟩
    .have aI:¬((hd:Int)+1=now.length):=by omega
     simp[c3,t1,t2,cB,K,y,B,aI];exact⟨(_,f,⟨S3.prs,S3.byl,S3.late,((hd+1:Nat):Int),S3.seen⟩,R,k3,now,n),SH n,⟨Z,E4,u,.inr ⟨by simp only;omega,r1,r2,m.trans r4,.inl (by simp only;omega),g,by simp only;omega⟩⟩,ai.keep (by simp) rfl⟩
  .have aC:¬S'.head<T'.lits.length:=by
    rcases aB with h1|h1
    .omega
    .rw[←h1];omega
   have aw:M=(S',T',-1):=by
    rw[g];cases n with
    |zero=>rfl
    |succ n=>rw[la,Qa aC]
   obtain⟨g1,g2,g3⟩:=o (by rw[aw,ax]);clear kL O kM kS C hB hJ a G L1 L1' hz I w1 w2 v1 v2;simp[v,W,X,cB,z,d];simp[W,X,cB,an];refine ak.introP ao ?_;simp[W,X,cB];exact⟨g3.symm,mb',g1,g2⟩
end Go.AX