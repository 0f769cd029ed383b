/-
  Contracts: watches: lates, Attached.
  Contracts: watches: fails.
  Contracts: watches: Propagate.
-/
import Derived.Test.YtepodadinenmnaaGreatS14AxWaD
import Derived.Test.YtepodadinenmnaaGreatRows
import Derived.Test.YtepodadinenmnaaGreatAxKs
import Derived.Test.YtepodadinenmnaaGreatS14AxTtA
import Derived.Test.YtepodadinenmnaaGreatAxTb
namespace Go.AX
open Go.Proofs Go.Maps Go.Shelf
set_option linter.unusedSimpArgs false
theorem rh{α:Type}(f:α->PV):∀l:List (Int×α),AD (aS f l)=aS (λ_=>PV.bot) l
 |[]=>rfl
 |(k,x)::l=>by
  show(k,PV.bot)::AD (aS f l)=(k,PV.bot)::aS (λ_=>PV.bot) l;rw[rh f l]
def gq:List Int->WS->Tr->WS×Tr×Int
 |[],S,T=>(S,T,-1)
 |k::ks,S,T=>match lk S.prs k with
  |some p=>if lu T p=true then(S,T,k)else gq ks (iO S T k p) (ki T k p)
  |none=>(S,T,-1)
set_option maxRecDepth 16000 in
theorem B9(h:List (List SV))(bw ba bt:Nat)(mp:List (Int×Nat))(mb:List (Int×By))(A:Ar)(T:Tr)(S:WS)(L:LayW h bw ba bt mp mb A T S)(a:List Int)(f:dE (S.late.map (·.1))=a)(J:Nat->WS->Tr->Prop)(o:J 0 S T)(v:∀q∈S.late,CC q.1)(g:S.late.length<=1000000)
 (E:∀i S' T',J i S' T'->∀(hi:i<a.length),T'.ok∧T'.lits.length<=1000000∧(∀l zs,lk S'.byl l=some zs->zs.length<=1000000)∧∃p,lk S'.prs a[i]=some p∧p.lits.length<=1000000)
 (F:∀i S' T' p,J i S' T'->∀(hi:i<a.length),lk S'.prs a[i]=some p->lu T' p=false->J (i+1) (iO S' T' a[i] p) (ki T' a[i] p)):
 aB Tryz.prog 156 [.ptr bw 0] h (λr h'=>r=.pv (ae (gq a S T).2.2)∧∃mb',LayW h' bw ba bt mp mb' A (gq a S T).2.1 (gq a S T).1∧Ext h h' (aO bw bt mp mb) (aO bw bt mp mb')):=by
 refine cL [1] [.tmp 2] aG Tryz.func156 ?_;obtain⟨M,N⟩:=N5.1 L.w;have C:=yL (λ_:Int=>PV.bot) S.late v g;have G:a.length<=1000000:=by rw[←f];unfold dE;rw[Pw,Oj];exact g
 have s:gq a S T=gq (a.drop 0) S T:=rfl;rw[f]at C;generalize gq a S T=Z at*;simp;refine ka.keys [_,_,_,_] [_,_] _ _ _ _ 229 _ _ _ _ _ (af a) rfl rfl rfl rfl rfl rfl rfl ?_;simp[M,N,ca];rw[rh];refine⟨Dz,C,?_⟩;refine aJ.intro (S:=λ(x:Nat×List (List SV)×List (Int×By)×WS×Tr)=>⟨[(0,.pv (.ptr bw 0)),(10,.own true 1 (af a)),(11,.pv (ae a.length)),(12,.pv (ae x.1))],x.2.1⟩)
  (λx=>x.1<=a.length∧LayW x.2.1 bw ba bt mp x.2.2.1 A x.2.2.2.2 x.2.2.2.1∧J x.1 x.2.2.2.1 x.2.2.2.2∧Ext h x.2.1 (aO bw bt mp mb) (aO bw bt mp x.2.2.1)∧Z=gq (a.drop x.1) x.2.2.2.1 x.2.2.2.2)
  (λx=>a.length -x.1) (0,h,mb,S,T) ?_ ⟨Oz _,L,o,Ext.refl _ _,s⟩ ?_
 .exact ai.keep (by simp) rfl
 rintro⟨i,H,mb',S',T'⟩ ⟨hi,n,e,k,b⟩;dsimp only at hi n e k b
 by_cases d:i<a.length
 .have z:a8 ((i:Int)+1)=((i+1:Nat):Int):=by rw[ap (by omega) (by omega)];omega
  have I:a[i]?=some a[i]:=N6 d;obtain⟨b1,b2,b3,p,hp,y⟩:=E i S' T' e d;have K:=th H bw ba bt mp mb' A T' S' n a[i] p hp b1 b2 y b3;rw[O0 d,gq,hp]at b;simp only at b;simp[d,I];refine am.intro K ?_;rintro _ D ⟨rfl,j,m,B⟩;cases c:lu T' p
  .rw[N8 (by rw[c];simp)]at b;simp[c];exact⟨(i+1,D,j,iO S' T' a[i] p,ki T' a[i] p),by(try dsimp only);omega,⟨by(try dsimp only);omega,m,F i S' T' p e d hp c,k.trans B,b⟩,ai.keep (by simp[z]) rfl⟩
  .rw[N9 c]at b;subst b;have t:iO S' T' a[i] p=S':=by
    unfold lu at c;unfold iO;rw[N8 (by have:=Sl c;omega)]
   have u:ki T' a[i] p=T':=by
    unfold lu at c;unfold ki;rw[N8 (by have:=Sl c;omega)]
   rw[t,u]at m;simp[c];exact⟨j,m,k.trans B⟩
 .have:i=a.length:=by omega
  subst this;rw[OK (Oc _),gq]at b;subst b;simp;exact⟨mb',n,k⟩
end Go.AX
namespace Go.AX
set_option maxRecDepth 16000
open Go.Proofs
set_option linter.unusedSimpArgs false
def uM:Sch:=
 let c:Sch:=.fork [(6,.take 7 .done)]
 let a:Sch:=.fork [(5,c)]
 let d:Sch:=.fork [(4,a)]
 let b:Sch:=.fork [(3,a)]
 let e:Sch:=.fork [(3,d),(4,b)]
 let f:Sch:=.fork [(0,.take 1 (.take 2 b))]
 let g:Sch:=.fork [(0,.take 1 (.take 2 e)),(4,f)]
 g
def EH:Sch:=
 let a:Sch:=.fork [(5,.take 6 .done)]
 let c:Sch:=.fork [(4,a)]
 let b:Sch:=.fork [(3,a)]
 let d:Sch:=.fork [(3,c),(4,b)]
 let e:Sch:=.fork [(0,.take 1 (.take 2 b))]
 let f:Sch:=.fork [(0,.take 1 (.take 2 d)),(4,e)]
 f
def EK:Sch:=
 let a:Sch:=.fork [(5,.take 6 .done)]
 let b:Sch:=.fork [(4,a)]
 .take 0 (.take 1 (.take 2 (.take 3 b)))
def AF:Sch:=
 let c:Sch:=.fork [(7,.done)]
 let a:Sch:=.fork [(5,.take 6 c)]
 let d:Sch:=.fork [(4,a)]
 let b:Sch:=.fork [(3,a)]
 let e:Sch:=.fork [(3,d),(4,b)]
 let f:Sch:=.fork [(0,.take 1 (.take 2 b))]
 let g:Sch:=.fork [(0,.take 1 (.take 2 e)),(4,f)]
 g
def Jg(T:Tr)(l other x:Int):Bool:=decide (x≠l)&&(decide (x≠other)&&decide (0<=bZ T x))
theorem EL(h:List (List SV))(bw ba bt a:Nat)(W:Wt)(T:Tr)(j:h[bw]?=some (ca ba bt W))(ht:h[bt]?=some (fD T))(g:T.ok)(l:Int)(h0:h[a]?=some [.pv (.ptr bw 0)])(h1:h[a+1]?=some [.pv (ae l)])(x other:Int):
 aB Tryz.prog 234 [ae x,ae other,.ptr (a+1) 0,.ptr a 0] h (λr h'=>h'=h∧r=.pv (BL (Jg T l other x))):=by
 refine lj [] [.tmp 6] aG Tryz.func234 ?_;obtain⟨d,f⟩:=N5.1 j;obtain⟨b,c⟩:=N5.1 h0;obtain⟨b1,b2⟩:=N5.1 h1;have i:=eP T x g;have hz:=cJ ht 2;unfold Jg
 by_cases c1:x=l
 .simp[d,f,ca,b,c,b1,b2,c1]
 by_cases c2:x=other
 .have c3:¬other=l:=λe=>c1 (c2.trans e);simp[d,f,ca,b,c,b1,b2,c1,c2,c3]
 simp[d,f,ca,b,c,b1,b2,c1,c2,hz];refine am.introP i ?_ (by simp[c1,c2]) (by simp);simp[c1,c2]
theorem EM(x v:Int):an Tryz.prog 236 [ae x,.iptr 1 [[ae v]] 0 0] (λr=>r=.pv (BL (decide (x=v)))):=by
 refine ax aG Tryz.func236 ?_;simp
def nP(l:Int)(p:Pr):Int:=if p.x=l then p.y else p.x
def lz(T:Tr)(l:Int)(p:Pr):Option Int:=p.lits.find? (Jg T l (nP l p))
def ik(l:Int)(p:Pr)(x:Int):Pr:=if p.x=l then⟨p.lits,x,p.y⟩else⟨p.lits,p.x,x⟩
def pF(S:WS)(k l:Int)(p:Pr)(x:Int):WS:=⟨pt S.prs k (ik l p x),fM (eI S.byl k l) k x,S.late,S.head,S.seen⟩
def j7(S:WS)(k:Int):WS:=⟨S.prs,S.byl,pt S.late k (a8 ((lk S.late k).getD 0+1)),S.head,S.seen⟩
def nQ(p:Pr):Pr:=⟨p.lits,0,0⟩
def nc(S:WS)(T:Tr)(l k:Int)(p:Pr):WS:=match lz T l p with
 |some x=>pF S k l p x
 |none=>iO (j7 (lr S k p) k) T k (nQ p)
def nR(T:Tr)(l k:Int)(p:Pr):Tr:=match lz T l p with
 |some _=>T
 |none=>ki T k (nQ p)
def oN(T:Tr)(l:Int)(p:Pr):Bool:=match lz T l p with
 |some _=>false
 |none=>lu T (nQ p)
def ge(l:Int):List Int->WS->Tr->WS×Tr×Int
 |[],S,T=>(S,T,-1)
 |k::ks,S,T=>match lk S.prs k with
  |some p=>if oN T l p=true then(nc S T l k p,nR T l k p,k)else ge l ks (nc S T l k p) (nR T l k p)
  |none=>(S,T,-1)
structure StepOk (S:WS) (T:Tr) (l k:Int) (p:Pr):Prop where
  hp:lk S.prs k=some p
  l0:l≠0
  two:p.x=l∨p.y=l
  lits:p.lits.length<=1000000
  byl:∃zs,lk S.byl l=some zs∧zs≠[]
  hx:p.x≠0->∃zs,lk S.byl p.x=some zs∧zs≠[]
  hy:p.y≠0->∃zs,lk (eI S.byl k p.x) p.y=some zs∧zs≠[]
  hz:∀l zs,lk S.byl l=some zs->zs.length<=1000000
  ok:T.ok
  tl:T.lits.length<=1000000
theorem rk{byl:List (Int×List Int)}{k l:Int}{n:Nat}(h:∀l zs,lk byl l=some zs->zs.length<=n):∀m zs,lk (eI byl k l) m=some zs->zs.length<=n:=λm zs a=>by
 unfold eI at a;split at a
 .exact h m zs a
 .rw[bD]at a;split at a
  .cases a
   refine OM (iW _ _) ?_;cases b:lk byl l with
   |none=>exact Oz _
   |some z=>exact h l z b
  .exact h m zs a
def tm(a m:Nat)(zs:List Int)(i:Nat)(x:Int):List (Nat×SV):=[(2,.pv (.ptr a 0)),(3,.pv (.ptr (a+1) 0)),(5,.own true 1 (af zs)),(6,.pv (.fn (.func 234) [] [.ptr (a+1) 0,.ptr a 0])),(8,.pv (.ptr m 0)),(13,.pv (ae x)),(22,.al (.slot 5)),(23,.pv (ae zs.length)),(24,.pv (ae i))]
theorem Md:(∀x:By,CD x=.bsl x.b 1 0 x.n x.cp)∧(∀(ba bt:Nat)(W:Wt),ca ba bt W=[.pv (.ptr ba 0),.pv (.ptr bt 0),.omap true (aS tf W.prs),.omap true (aS CD W.byl),.omap true (aS fI W.late),.pv (ae W.head),.own true 1 (af W.seen)])∧(∀(a m:Nat)(zs:List Int)(i:Nat)(x:Int),tm a m zs i x=[(2,.pv (.ptr a 0)),(3,.pv (.ptr (a+1) 0)),(5,.own true 1 (af zs)),(6,.pv (.fn (.func 234) [] [.ptr (a+1) 0,.ptr a 0])),(8,.pv (.ptr m 0)),(13,.pv (ae x)),(22,.al (.slot 5)),(23,.pv (ae zs.length)),(24,.pv (ae i))])∧(∀b k n s:Nat,aD b k n (.slot s)=false)∧∀b k n b' k':Nat,aD b k n (.cell b' k')=(b==b'&&decide (k<=k')&&decide (k'<k+n)):=⟨λ_=>rfl,λ_ _ _=>rfl,λ_ _ _ _ _=>rfl,λ_ _ _ _=>rfl,λ_ _ _ _ _=>rfl⟩
set_option maxRecDepth 32000 in
set_option maxHeartbeats 8000000 in
theorem Ca(h:List (List SV))(bw ba bt:Nat)(mp:List (Int×Nat))(mb:List (Int×By))(A:Ar)(T:Tr)(S:WS)(L:LayW h bw ba bt mp mb A T S)(l:Int)(zs:List Int)(cD:lk S.byl l=some zs)(cC:zs.length<=1000000)(J:Nat->WS->Tr->Prop)(cf:J 0 S T)
    (hJ:∀i S' T',J i S' T'->∀(hi:i<zs.length),∃p,StepOk S' T' l zs[i] p∧(oN T' l p=false->J (i+1) (nc S' T' l zs[i] p) (nR T' l zs[i] p))):
    aB Tryz.prog 157 [.ptr bw 0,ae l] h (λr h'=>r=.pv (ae (ge l zs S T).2.2)∧∃mb',LayW h' bw ba bt mp mb' A (ge l zs S T).2.1 (ge l zs S T).1∧Ext h h' (aO bw bt mp mb) (aO bw bt mp mb')):=by
  refine cL [1,6,7,14,15,18] [.tmp 4] aG Tryz.func157 ?_
  obtain⟨e,he,⟨sp,e1,f,e3,e4,e5⟩,e6,e7,e8⟩:=L.some_b cD
  obtain⟨G,hG⟩:∃G,G=h++[[SV.pv (.ptr bw 0)],[SV.pv (ae l)]]:=⟨_,rfl⟩
  have L0:LayW G bw ba bt mp mb A T S:=by rw[hG];exact L.app _
  have E0:Ext h G (aO bw bt mp mb) (aO bw bt mp mb):=by rw[hG];exact Ext.app _ _ _
  have bU:G[h.length]?=some [.pv (.ptr bw 0)]:=by rw[hG];simp
  have bV:G[h.length+1]?=some [.pv (ae l)]:=by rw[hG];simp
  have aq:∀b,h.length<=b->¬aO bw bt mp mb b:=λb hb hd=>by
    have lt:∀{c:Nat}{x:List SV},h[c]?=some x->c<h.length:=λhx=>(N5.1 hx).1
    rcases hd with q|q|⟨k,q⟩|⟨l',e',q,rfl⟩
    · have:=lt L.w;omega
    · have:=lt L.t;omega
    · obtain⟨_,_,a2,_⟩:=L.pr k b q;have:=lt a2;omega
    · obtain⟨_,_,⟨_,a2,_⟩,_⟩:=L.by' l' e' q;have:=lt a2;omega
  obtain⟨w1,w2⟩:=N5.1 L0.w
  obtain⟨a1,a2⟩:=N5.1 bU
  obtain⟨b1,b2⟩:=N5.1 bV
  have cj:=gP zs cC
  have cl:G[e.b]?=some (aH zs++sp):=by rw[hG,Oa (N5.1 e1).1,e1]
  have cn:rP (br G 3 e.b 0) 1 e.n=.seq false 1 (af zs):=by rw[←e3];exact Hk G e.b zs sp cl 2
  have cd:ge l zs S T=ge l (zs.drop 0) S T:=rfl
  generalize ge l zs S T=Z at*
  simp
  rw[←hG]
  refine aX.meet uM ⟨[(2,.pv (.ptr h.length 0)),(3,.pv (.ptr (h.length+1) 0)),(5,.own true 1 (af zs))],G⟩ (by kernel_rfl) ?_ ?_
  · simp[uM,w1,w2,ca,a1,a2,b1,b2,he,CD,cn]
    and_intros
    all_goals
      refine am.introP cj ?_
      simp
      exact ai.keep (by simp) rfl
  simp
  refine aJ.intro (S:=λ(x:Nat×List (List SV)×List (Int×By)×WS×Tr)=>⟨[(2,.pv (.ptr h.length 0)),(3,.pv (.ptr (h.length+1) 0)),(5,.own true 1 (af zs)),(6,.pv (.fn (.func 234) [] [.ptr (h.length+1) 0,.ptr h.length 0])),(22,.al (.slot 5)),(23,.pv (ae zs.length)),(24,.pv (ae x.1))],x.2.1⟩)
    (λx=>x.1<=zs.length∧LayW x.2.1 bw ba bt mp x.2.2.1 A x.2.2.2.2 x.2.2.2.1∧J x.1 x.2.2.2.1 x.2.2.2.2∧Ext G x.2.1 (aO bw bt mp mb) (aO bw bt mp x.2.2.1)∧Z=ge l (zs.drop x.1) x.2.2.2.1 x.2.2.2.2)
    (λx=>zs.length -x.1) (0,G,mb,S,T) ?_ ⟨Oz _,L0,cf,Ext.refl _ _,cd⟩ ?_
  · exact ai.keep (by simp) rfl
  rintro⟨i,H,mb',S',T'⟩ ⟨hi,LH,bF,hE,hZ⟩
  dsimp only at hi LH bF hE hZ
  have cV:G.length=h.length+2:=by rw[hG];simp
  have cE:H[h.length]?=some [.pv (.ptr bw 0)]:=by rw[hE.same h.length (by omega) (aq _ (Oc _)),bU]
  have cF:H[h.length+1]?=some [.pv (ae l)]:=by rw[hE.same (h.length+1) (by omega) (aq _ (by omega)),bV]
  have ad:∀b,h.length<=b->b<G.length->¬aO bw bt mp mb' b:=λb hb ch hd=>aq b hb (hE.sub b ch hd)
  by_cases d:i<zs.length
  rotate_left
  · have:i=zs.length:=by omega
    subst this
    rw[OK (Oc _),ge]at hZ
    subst hZ
    simp
    exact⟨mb',LH,E0.trans hE⟩
  have a6:a8 ((i:Int)+1)=((i+1:Nat):Int):=by rw[ap (by omega) (by omega)];omega
  have hq:zs[i]?=some zs[i]:=N6 d
  obtain⟨p,K,V⟩:=hJ i S' T' bF d
  rw[O0 d,ge,K.hp]at hZ
  simp only at hZ
  obtain⟨k,bO⟩:∃k,zs[i]=k:=⟨_,rfl⟩
  rw[bO]at K V hZ hq
  obtain⟨b,hb,q1,q2,q3,q4⟩:=LH.some_p K.hp
  -- the number is boxed
  obtain⟨N,ak⟩:∃N,N=H++[[SV.pv (ae k)]]:=⟨_,rfl⟩
  have L2:LayW N bw ba bt mp mb' A T' S':=by rw[ak];exact LH.app _
  have E2:Ext H N (aO bw bt mp mb') (aO bw bt mp mb'):=by rw[ak];exact Ext.app _ _ _
  have lt:∀{c:Nat}{x:List SV},H[c]?=some x->c<H.length:=λhx=>(N5.1 hx).1
  have up:∀{c:Nat}{x:List SV},H[c]?=some x->N[c]?=some x:=λhx=>by rw[ak,Oa (lt hx),hx]
  have ay:N[H.length]?=some [.pv (ae k)]:=by rw[ak];simp
  have aA:=up cE
  have bc:=up cF
  have bW:=up q1
  have F:¬aO bw bt mp mb' H.length:=λhd=>by
    rcases hd with q|q|⟨k',q⟩|⟨l',e',q,qe⟩
    · have:=lt LH.w;omega
    · have:=lt LH.t;omega
    · obtain⟨_,_,a2,_⟩:=LH.pr k' _ q;have:=lt a2;omega
    · obtain⟨_,_,⟨_,a2,_⟩,_⟩:=LH.by' l' e' q;have:=lt a2;omega
  obtain⟨w3,w4⟩:=N5.1 L2.w
  obtain⟨c1,c2⟩:=N5.1 aA
  obtain⟨d1,d2⟩:=N5.1 bc
  obtain⟨f1,f2⟩:=N5.1 ay
  obtain⟨g1,g2⟩:=N5.1 bW
  obtain⟨Q,E⟩:∃Q:Nat,Q=if p.x=l then 0 else 1:=⟨_,rfl⟩
  have bQ:ym [p.x,p.y] l=(Q:Int):=by
    unfold ym
    by_cases c:p.x=l
    · rw[E,N9 c]
      exact fR (i:=0) (by simp) (λj hj h=>by omega) (by simp[c])
    · rw[E,N8 c]
      exact fR (i:=1) (by simp) (λj hj h=>by cases(show j=0 by omega);simp[c]) (by simp[K.two.resolve_left c])
  have bE:=vY [p.x,p.y] l (by simp)
  rw[bQ]at bE
  have bM:rP (br N 3 b 1) 1 2=.seq false 1 (af [p.x,p.y]):=by
    have e0:N.getD b []=nO p:=by rw[N7,bW];rfl
    simp only[br,e0,nO,iD]
    simp[rP,frzC,af]
  simp[d,bO]
  rw[←ak]
  refine aX.meet EH ⟨[(2,.pv (.ptr h.length 0)),(3,.pv (.ptr (h.length+1) 0)),(5,.own true 1 (af zs)),(6,.pv (.fn (.func 234) [] [.ptr (h.length+1) 0,.ptr h.length 0])),(22,.al (.slot 5)),(23,.pv (ae zs.length)),(24,.pv (ae i)),(8,.pv (.ptr H.length 0)),(9,.pv (.ptr b 0))],N⟩ (by kernel_rfl) ?_ ?_
  · simp[EH,w3,w4,ca,c1,c2,d1,d2,f1,f2,hb,tf]
    and_intros
    all_goals exact ai.keep (by simp) rfl
  simp
  refine aX.arr [] EK (λ_:Unit=>⟨[(2,.pv (.ptr h.length 0)),(3,.pv (.ptr (h.length+1) 0)),(5,.own true 1 (af zs)),(6,.pv (.fn (.func 234) [] [.ptr (h.length+1) 0,.ptr h.length 0])),(22,.al (.slot 5)),(23,.pv (ae zs.length)),(24,.pv (ae i)),(8,.pv (.ptr H.length 0)),(9,.pv (.ptr b 0)),(10,.pv (ae Q))],N⟩) (λ_=>True) (by kernel_rfl) ?_ ?_
  · simp[EK,w3,w4,ca,c1,c2,d1,d2,f1,f2,g1,g2,nO,iD,bM]
    refine am.introP bE ?_
    simp
    exact ai.keep (by simp) rfl
  rintro _ _
  have cZ:Q<=1:=by rw[E];split<;>omega
  have cx:a8 (1 -(Q:Int))=((1 -Q:Nat):Int):=by rw[ap (by omega) (by omega)];omega
  have cz:((1 -Q:Nat):Int)<2:=by omega
  have W:1+(1 -Q)<3:=by omega
  have aU:∀hh:1+(1 -Q)<[SV.pv (.seq false 1 (af p.lits)),SV.pv (ae p.x),SV.pv (ae p.y)].length,[SV.pv (.seq false 1 (af p.lits)),SV.pv (ae p.x),SV.pv (ae p.y)][1+(1 -Q)]'hh=SV.pv (ae (nP l p)):=λhh=>by
    unfold nP
    by_cases c:p.x=l
    · rw[N9 c]at E
      subst E
      rw[N9 c];rfl
    · rw[N8 c]at E
      subst E
      rw[N8 c];rfl
  simp[cx,cz,W,g1,g2,nO,iD,aU]
  have kO:=λx=>EL N bw ba bt h.length ⟨mp,mb',S'.late,S'.head,S'.seen⟩ T' L2.w L2.t K.ok l aA bc x (nP l p)
  have cv:lz T' l p=(p.lits.drop 0).find? (Jg T' l (nP l p)):=rfl
  refine aJ.intro (S:=λ(j:Nat)=>⟨[(2,.pv (.ptr h.length 0)),(3,.pv (.ptr (h.length+1) 0)),(5,.own true 1 (af zs)),(6,.pv (.fn (.func 234) [] [.ptr (h.length+1) 0,.ptr h.length 0])),(22,.al (.slot 5)),(23,.pv (ae zs.length)),(24,.pv (ae i)),(8,.pv (.ptr H.length 0)),(9,.pv (.ptr b 0)),(10,.pv (ae Q)),(11,.pv (ae (nP l p))),(50,.pv (.seq false 1 (af p.lits))),(51,.pv (ae p.lits.length)),(52,.pv (ae j))],N⟩)
    (λj=>j<=p.lits.length∧lz T' l p=(p.lits.drop j).find? (Jg T' l (nP l p))) (λj=>p.lits.length -j) 0 ?_ ⟨Oz _,cv⟩ ?_
  · exact ai.keep (by simp) rfl
  rintro j ⟨hj,u⟩
  have ct:=K.lits
  by_cases dj:j<p.lits.length
  · have cy:=fQ j
    have cw:p.lits[j]?=some p.lits[j]:=N6 dj
    rw[O0 dj,List.find?_cons]at u
    simp[dj,cw]
    refine am.intro (kO p.lits[j]) ?_
    rintro _ H3 ⟨bi,rfl⟩
    rw[bi]
    clear bi H3
    cases ho:Jg T' l (nP l p) p.lits[j]
    · rw[ho]at u
      simp only at u
      simp
      exact⟨j+1,by(try dsimp only);omega,⟨by(try dsimp only);omega,u⟩,ai.keep (by simp[cy]) rfl⟩
    · rw[ho]at u
      simp only at u
      have cq:(Q:Int)<2:=by omega
      have cr:Q+1<=2:=by omega
      simp[cq,cr,g1,g2,nO,iD]
      refine⟨by omega,?_⟩
      have aP:List.take (1+Q) [SV.pv (PV.seq false 1 (af p.lits)),SV.pv (ae p.x),SV.pv (ae p.y)]++SV.pv (ae p.lits[j])::List.drop (1+Q) [SV.pv (ae p.x),SV.pv (ae p.y)]=nO (ik l p p.lits[j]):=by
        unfold ik
        by_cases c:p.x=l
        · rw[N9 c]at E
          subst E
          rw[N9 c];rfl
        · rw[N8 c]at E
          subst E
          rw[N8 c];rfl
      rw[aP]
      clear aP
      have eS:nc S' T' l k p=pF S' k l p p.lits[j]:=by unfold nc;rw[u]
      have eT:nR T' l k p=T':=by unfold nR;rw[u]
      have eB:oN T' l p=false:=by unfold oN;rw[u]
      rw[N8 (by rw[eB];simp)]at hZ
      have V:=V eB
      rw[eS,eT]at hZ V
      generalize p.lits[j]=x at*
      have L6:=L2.setP hb (ik l p x) (L2.keys.trans (gY _ K.hp).symm)
      have E6:=Ext.set (h:=N) (D:=aO bw bt mp mb') b (nO (ik l p x)) (.inr (.inr (.inl ⟨k,hb⟩)))
      have n2:¬aO bw bt mp mb' h.length:=ad _ (Oc _) (by omega)
      have n3:¬aO bw bt mp mb' (h.length+1):=ad _ (by omega) (by omega)
      generalize cW:N.set b (nO (ik l p x))=H6 at*
      have aE:H6[h.length]?=some [.pv (.ptr bw 0)]:=by rw[E6.same h.length c1 n2,aA]
      have aF:H6[h.length+1]?=some [.pv (ae l)]:=by rw[E6.same (h.length+1) d1 n3,bc]
      have ao:H6[H.length]?=some [.pv (ae k)]:=by rw[E6.same H.length f1 F,ay]
      obtain⟨b6,b7⟩:=N5.1 L6.w
      obtain⟨bj,b8⟩:=N5.1 aE
      obtain⟨b9,cb⟩:=N5.1 aF
      obtain⟨bk,cc⟩:=N5.1 ao
      obtain⟨z9,a7,bS⟩:=K.byl
      obtain⟨s,aW,⟨aC,b3,b4,b5,cR,cS⟩,ag,cT,cU⟩:=L6.some_b (show lk S'.byl l=some z9 from a7)
      have aQ:z9.length<=1000000:=K.hz l z9 a7
      have a4:0<z9.length:=PF.2 bS
      have O:aO bw bt mp mb' s.b:=.inr (.inr (.inr ⟨l,s,aW,rfl⟩))
      have aM:H.length≠s.b:=λq=>F (q▸O)
      have bJ:s.b≠h.length:=λq=>n2 (q▸O)
      have bK:s.b≠h.length+1:=λq=>n3 (q▸O)
      have av:=gQ z9 aQ 236 [.iptr 1 [[ae k]] 0 0] (λq=>decide (q=k)) (λr=>by simp) rfl (λm=>by simp) (by simp) (λq _=>EM q k)
      have aL:(aV (λq=>decide (q=k)) z9).length<=z9.length:=iW _ _
      obtain⟨M,bI⟩:∃M,M=aV (λq=>decide (q=k)) z9:=⟨_,rfl⟩
      unfold GJ at av
      rw[←bI]at av aL
      obtain⟨X9,aS⟩:∃X:List SV,X=(M++List.replicate (z9.length -M.length) 0).map (λz=>SV.pv (.lit (.int .i64 z)))++aC:=⟨_,rfl⟩
      have bH:X9=aH M++((List.replicate (z9.length -M.length) 0).map (λz=>SV.pv (.lit (.int .i64 z)))++aC):=by
        rw[aS,OJ,OG];rfl
      have L7:=L6.setB aW M ((List.replicate (z9.length -M.length) 0).map (λz=>SV.pv (.lit (.int .i64 z)))++aC) (λm=>oL m (b4 m) _) M.length rfl (by omega) (by simp;omega)
      rw[←bH]at L7
      have E7:Ext H6 ((H6.set s.b X9).set bw (ca ba bt ⟨mp,pt mb' l ⟨s.b,M.length,s.cp⟩,S'.late,S'.head,S'.seen⟩)) (aO bw bt mp mb') (aO bw bt mp (pt mb' l ⟨s.b,M.length,s.cp⟩)):=by
        refine(((Ext.set s.b X9 O).trans (Ext.set bw _ (.inl rfl))).dom ?_)
        rintro c _ (q|q|q|⟨l',e',q,rfl⟩)
        · exact .inl q
        · exact .inr (.inl q)
        · exact .inr (.inr (.inl q))
        · rw[bD]at q
          split at q
          · cases q;exact O
          · exact .inr (.inr (.inr ⟨l',e',q,rfl⟩))
      obtain⟨H7a,C⟩:∃H7a,H7a=H6.set s.b X9:=⟨_,rfl⟩
      rw[←C]at L7 E7
      have aK:H7a[bw]?=some (ca ba bt ⟨mp,mb',S'.late,S'.head,S'.seen⟩):=by rw[C,On ag];exact L6.w
      have ah:H7a[h.length]?=some [.pv (.ptr bw 0)]:=by rw[C,On bJ,aE]
      have aI:H7a[h.length+1]?=some [.pv (ae l)]:=by rw[C,On bK,aF]
      have aj:H7a[H.length]?=some [.pv (ae k)]:=by rw[C,On aM.symm,ao]
      obtain⟨bl,bm⟩:=N5.1 aK
      obtain⟨bn,bo⟩:=N5.1 ah
      obtain⟨bp,bq⟩:=N5.1 aI
      obtain⟨bs,bu⟩:=N5.1 aj
      have fF:=And.intro Md (And.intro b6 (And.intro b7 (And.intro bj (And.intro b8 (And.intro b9 (And.intro cb (And.intro bk (And.intro cc (And.intro bl (And.intro bm (And.intro bn (And.intro bo (And.intro bp (And.intro bq (And.intro bs (And.intro bu (And.intro aW (And.intro ag ag.symm))))))))))))))))))
      refine aX.tab [] ⟨[some (66,.pv (.ptr bw 0)),some (67,.pv (.ptr bw 0)),some (68,.pv (.ptr bw 3)),some (69,.al (.cell bw 3)),some (70,.pv (ae l)),some (71,.pv (.ptr bw 0)),some (72,.pv (.ptr bw 0)),some (73,.pv (.ptr bw 3)),some (74,.al (.cell bw 3)),some (75,.pv (ae l)),some (76,.pv (.bsl s.b 1 0 s.n s.cp)),some (77,.pv (.fn (.func 236) [] [.ptr H.length 0])),some (78,.pv (.bsl s.b 1 0 M.length s.cp)),none],[(2,.pv (.ptr h.length 0)),(3,.pv (.ptr (h.length+1) 0)),(5,.own true 1 (af zs)),(6,.pv (.fn (.func 234) [] [.ptr (h.length+1) 0,.ptr h.length 0])),(8,.pv (.ptr H.length 0)),(13,.pv (ae x)),(22,.al (.slot 5)),(23,.pv (ae zs.length)),(24,.pv (ae i))],[[],[0],[1],[2],[],[],[5],[6],[7],[],[8,9],[],[10,11],[3,4,12]],[12,13],[[0,1],[0,1],[0,1],[0,1],[0,1],[0,1],[0,1],[0],[0],[0],[0],[0],[0],[1]],[],λ|0=>H6|1=>H7a|_=>H7a.set bw (ca ba bt ⟨mp,pt mb' l ⟨s.b,M.length,s.cp⟩,S'.late,S'.head,S'.seen⟩)⟩ ⟨[(2,.pv (.ptr h.length 0)),(3,.pv (.ptr (h.length+1) 0)),(5,.own true 1 (af zs)),(6,.pv (.fn (.func 234) [] [.ptr (h.length+1) 0,.ptr h.length 0])),(8,.pv (.ptr H.length 0)),(13,.pv (ae x)),(22,.al (.slot 5)),(23,.pv (ae zs.length)),(24,.pv (ae i))],H7a.set bw (ca ba bt ⟨mp,pt mb' l ⟨s.b,M.length,s.cp⟩,S'.late,S'.head,S'.seen⟩)⟩ (by kernel_rfl) (by simp[tm,aY]) rfl ?_ (λt h1 g=>?_) ?_
      · simp only[Tb.steps,Gb,Tb.lvA,Tb.dpA,yv,sU,PR,Qg,cB,d5,mq,iN,eD,eq,Gv,gJ,jx,OV,P8,QB,RX,Q0,Sf,Sc,P7,Q2,OQ,Pk]
        and_intros
        all_goals first|trivial|(intro t h1 g;simp only[tm,aY,OU,OL]at h1;simp[fF,tm,h1,g,Tb.postL,Tb.wth,uy,sU,aY,bN]<;>and_intros<;>first|omega|(intro e;simp[fF,tm,e]))|(intro t h1 g;simp only[tm,aY,OU,OL]at h1;simp[fF,tm,h1,g,Tb.postL,Tb.wth,uy,sU,aY,bN])
        · refine am.introX (dg.introT (b:=s.b) (b2:=H.length) (zs:=z9) (sp:=aC) (cp:=s.cp) av (by simp[h1,g]) (by simp[h1,g]) rfl (by simp[h1,g]) (by simp[b5,h1,g]) (by simp[h1,g]) (by simp[h1,g]) b3 ao aM a4 aQ ?_)
          rintro _ _ ⟨rfl,rfl⟩
          refine⟨_,_,rfl,rfl,by simp;omega,aL,?_⟩
          rw[←aS,←C]
          simp[fF,tm,ag,ag.symm,aD,h1,g,Tb.postL,Tb.wth,uy,sU,aY,bN]<;>and_intros<;>(intro e;simp[fF,aD,e])
      · simp only[tm,aY,OU,OL]at h1 g;simp[Gc]at g;exact ai.keep (by simp[tm,h1,g]) rfl
      have cm:eI S'.byl k l=pt S'.byl l M:=by unfold eI;rw[N8 K.l0,a7,OH,bI]
      have ab:(H7a.set bw (ca ba bt ⟨mp,pt mb' l ⟨s.b,M.length,s.cp⟩,S'.late,S'.head,S'.seen⟩))[h.length]?=some [.pv (.ptr bw 0)]:=by rw[On (λq=>n2 (.inl q.symm)),ah]
      have bB:(H7a.set bw (ca ba bt ⟨mp,pt mb' l ⟨s.b,M.length,s.cp⟩,S'.late,S'.head,S'.seen⟩))[H.length]?=some [.pv (ae k)]:=by rw[On (λq=>F (.inl q.symm)),aj]
      rw[←cm]at L7
      have cA:=rk (k:=k) (l:=l) K.hz
      clear fF bl bm bn bo bp bq bs bu aK ah aI aj C av aS bH
      generalize pt mb' l ⟨s.b,M.length,s.cp⟩=a at*
      generalize H7a.set bw (ca ba bt ⟨mp,a,S'.late,S'.head,S'.seen⟩)=I at*
      have n7:¬aO bw bt mp a h.length:=λq=>n2 (E6.sub _ c1 (E7.sub _ bj q))
      have c3:¬aO bw bt mp a H.length:=λq=>F (E6.sub _ f1 (E7.sub _ bk q))
      obtain⟨ar,bv⟩:=N5.1 L7.w
      obtain⟨au,bx⟩:=N5.1 ab
      obtain⟨bz,bA⟩:=N5.1 bB
      obtain⟨JE,aw⟩:∃JE:List (List SV)->List (Int×By)->Prop,∀Y m,JE Y m↔(LayW Y bw ba bt mp m A T' (pF S' k l p x)∧Ext I Y (aO bw bt mp a) (aO bw bt mp m)):=⟨_,λ_ _=>Iff.rfl⟩
      have dom:∀e',(∀c,c<I.length->e'.b=c->∃l0 e0,lk a l0=some e0∧e0.b=c)->∀c,c<I.length->aO bw bt mp (pt a x e') c->aO bw bt mp a c:=λe' ck c hc q=>by
        rcases q with q|q|q|⟨l',f,q,q2⟩
        · exact .inl q
        · exact .inr (.inl q)
        · exact .inr (.inr (.inl q))
        · rw[bD]at q
          split at q
          · cases q;exact .inr (.inr (.inr (ck c hc q2)))
          · exact .inr (.inr (.inr ⟨l',f,q,q2⟩))
      have aN:∀(v:List (List SV)×List (Int×By)),JE v.1 v.2->LayW v.1 bw ba bt mp v.2 A T' (pF S' k l p x)∧Ext G v.1 (aO bw bt mp mb) (aO bw bt mp v.2):=λv hj=>by
        obtain⟨j1,j2⟩:=(aw _ _).1 hj
        exact⟨j1,(hE.trans E2).trans ((E6.trans E7).trans j2)⟩
      simp
      cases P:lk a x with
      |none=>
        have cg:=L7.byn x P
        have az:pF S' k l p x=⟨pt S'.prs k (ik l p x),pt (eI S'.byl k l) x [k],S'.late,S'.head,S'.seen⟩:=by
          unfold pF fM
          rw[show lk (eI S'.byl k l) x=none from cg];rfl
        have bP:∀cap,1<=cap->(I++[SV.pv (ae k)::List.replicate (cap -1) (SV.pv .bot)])[bw]?=some (ca ba bt ⟨mp,a,S'.late,S'.head,S'.seen⟩)∧(I++[SV.pv (ae k)::List.replicate (cap -1) (SV.pv .bot)])[h.length]?=some [.pv (.ptr bw 0)]∧JE ((I++[SV.pv (ae k)::List.replicate (cap -1) (SV.pv .bot)]).set bw (ca ba bt ⟨mp,pt a x ⟨I.length,1,cap⟩,S'.late,S'.head,S'.seen⟩)) (pt a x ⟨I.length,1,cap⟩):=λcap hc=>by
          refine⟨by rw[Oa ar];exact L7.w,by rw[Oa au,ab],(aw _ _).2 ⟨?_,?_⟩⟩
          · rw[az]
            exact L7.newB x [k] (List.replicate (cap -1) (SV.pv .bot)) (λm=>gd m _) 1 cap rfl hc (by simp;omega)
          · refine(((Ext.app I [SV.pv (ae k)::List.replicate (cap -1) (SV.pv .bot)] _).trans (Ext.set bw _ (.inl rfl))).dom (dom _ λc hc e=>?_))
            simp only at e;omega
        have U:=And.intro Md (And.intro ar (And.intro bv (And.intro au (And.intro bx (And.intro bz (And.intro bA P))))))
        refine aX.tab2 [92] ⟨[some (79,.pv (.ptr bw 0)),some (80,.pv (.ptr bw 0)),some (81,.pv (.ptr bw 3)),some (82,.al (.cell bw 3)),some (83,.pv (ae x)),some (84,.pv (.ptr bw 0)),some (85,.pv (.ptr bw 0)),some (86,.pv (.ptr bw 3)),some (87,.al (.cell bw 3)),some (88,.pv (ae x)),some (89,.pv (.lit (.slice none 0 0))),some (90,.pv (ae k)),some (91,.own true 1 [[ae k]]),none,none],[(2,.pv (.ptr h.length 0)),(3,.pv (.ptr (h.length+1) 0)),(5,.own true 1 (af zs)),(6,.pv (.fn (.func 234) [] [.ptr (h.length+1) 0,.ptr h.length 0])),(8,.pv (.ptr H.length 0)),(13,.pv (ae x)),(22,.al (.slot 5)),(23,.pv (ae zs.length)),(24,.pv (ae i))],[[],[0],[1],[2],[],[],[5],[6],[7],[],[8,9],[],[11],[10,12],[3,4,13]],[13,14],[[0,1],[0,1],[0,1],[0,1],[0,1],[0,1],[0,1],[0],[0],[0],[0],[0],[0],[0],[1]],[(13,91)],λ_=>I⟩ (λq:List (List SV)×By=>[some (79,.pv (.ptr bw 0)),some (80,.pv (.ptr bw 0)),some (81,.pv (.ptr bw 3)),some (82,.al (.cell bw 3)),some (83,.pv (ae x)),some (84,.pv (.ptr bw 0)),some (85,.pv (.ptr bw 0)),some (86,.pv (.ptr bw 3)),some (87,.al (.cell bw 3)),some (88,.pv (ae x)),some (89,.pv (.lit (.slice none 0 0))),some (90,.pv (ae k)),some (91,.own true 1 [[ae k]]),some (92,.pv (.bsl q.2.b 1 0 q.2.n q.2.cp)),none]) (λq:List (List SV)×By=>λ|1=>q.1|_=>q.1.set bw (ca ba bt ⟨mp,pt a x q.2,S'.late,S'.head,S'.seen⟩)) (λq:List (List SV)×By=>q.1[bw]?=some (ca ba bt ⟨mp,a,S'.late,S'.head,S'.seen⟩)∧q.1[h.length]?=some [.pv (.ptr bw 0)]∧JE (q.1.set bw (ca ba bt ⟨mp,pt a x q.2,S'.late,S'.head,S'.seen⟩)) (pt a x q.2)) 13 0 [13,14] (by kernel_rfl) (λ_=>by kernel_rfl) rfl (by kernel_rfl) (λ_=>by simp[Lz]) (by simp[aY]) rfl ?_ ?_
        · simp only[Tb.steps2,Gb,Tb.lvA,Tb.dpA,yv,sU,PR,Qg,cB,d5,mq,iN,eD,eq,Gv,gJ,jx,OV,P8,QB,RX,Q0,Sf,Sc,P7,Q2,OQ,Pk]
          simp only[Nat.reduceLeDiff,Nat.reduceEqDiff,Nat.reduceAdd,PT,Pk,Oc,Oz]
          and_intros
          all_goals first|trivial|(intro t h1 g;simp only[aY,OU,OL]at h1;simp[U,tm,h1,g,Tb.postL,Tb.wth,uy,sU,aY,bN]<;>and_intros<;>first|omega|(intro e;simp[U,tm,e]))|(rintro t h1 q hy g;simp only[aY,OU,OL]at h1;obtain⟨yw,yb,yj⟩:=hy;obtain⟨bf,bg⟩:=N5.1 yw;obtain⟨bd,be⟩:=N5.1 yb;simp[Md,tm,bf,bg,bd,be,h1,g,Tb.postL,Tb.wth,uy,sU,aY,bN]<;>and_intros<;>first|omega|(intro e;simp[U,tm,e]))|skip
          · intro t h1 g;simp only[aY,OU,OL]at h1
            simp[-Prod.exists,U,tm,h1,g]
            intro cap hc
            refine⟨(_,⟨I.length,1,cap⟩),bP cap hc,?_⟩
            simp[U,h1,g,Tb.postL,Tb.wth,uy,sU,aY,bN]<;>and_intros<;>(intro e;simp[U,e])
        · rintro q hy t h1 g
          simp only[aY,OU,OL]at h1;simp[Gc]at g
          obtain⟨v,W⟩:∃v:List (List SV)×List (Int×By),v=(q.1.set bw (ca ba bt ⟨mp,pt a x q.2,S'.late,S'.head,S'.seen⟩),pt a x q.2):=⟨_,rfl⟩
          refine⟨_,ai.keep (t1:=[(2,.pv (.ptr h.length 0)),(3,.pv (.ptr (h.length+1) 0)),(5,.own true 1 (af zs)),(6,.pv (.fn (.func 234) [] [.ptr (h.length+1) 0,.ptr h.length 0])),(8,.pv (.ptr H.length 0)),(13,.pv (ae x)),(22,.al (.slot 5)),(23,.pv (ae zs.length)),(24,.pv (ae i))]) (h1:=v.1) (by simp[h1,g]) (by rw[W];rfl),?_⟩
          have a3:JE v.1 v.2:=by rw[W];exact hy.2.2
          obtain⟨j1,j2⟩:=aN v a3
          simp
          exact⟨(i+1,v.1,v.2,pF S' k l p x,T'),by(try dsimp only);omega,⟨by(try dsimp only);omega,j1,V,j2,hZ⟩,ai.keep (by simp[a6]) rfl⟩
      |some f=>
        obtain⟨B,bT,⟨o,bZ,b0,aR,cN,cO⟩,bb,cP,cQ⟩:=L7.by' x f P
        obtain⟨cH,cI⟩:=N5.1 bZ
        have az:pF S' k l p x=⟨pt S'.prs k (ik l p x),pt (eI S'.byl k l) x (B++[k]),S'.late,S'.head,S'.seen⟩:=by
          unfold pF fM
          rw[show lk (eI S'.byl k l) x=some B from bT];rfl
        have a0:(aH B).length=f.n:=by rw[m9];exact aR
        have c0:f.n<=1000000:=by rw[←aR];exact cA x B bT
        have bL:aO bw bt mp a f.b:=.inr (.inr (.inr ⟨x,f,P,rfl⟩))
        have cG:f.b≠h.length:=λq=>n7 (q▸bL)
        have bh:∀m (s0:List SV),cM m s0->cM m (s0.drop 1):=λm s0 bR=>by cases s0 with|nil=>exact bR|cons _ _=>exact bR.2
        have cY:(aH B++o).length=f.n+o.length:=by rw[Oi,a0]
        have ax:(aH B++o).take f.n=aH B:=P4 a0
        have bG:(aH B++o).take f.n=(B.map λz=>PV.lit (.int .i64 z)).map SV.pv:=by rw[ax];unfold aH;rw[Pa];rfl
        have an:∀R:List SV,aH (B++[k])++R=aH B++SV.pv (ae k)::R:=λR=>by unfold aH;rw[OJ,OG];rfl
        have bC:(aH B++o).drop (f.n+1)=o.drop 1:=by rw[←a0,Ss];simp
        have a5:f.n+1<=f.cp->(I.set f.b (List.take f.n (aH B++o)++SV.pv (ae k)::List.drop (f.n+1) (aH B++o)))[bw]?=some (ca ba bt ⟨mp,a,S'.late,S'.head,S'.seen⟩)∧(I.set f.b (List.take f.n (aH B++o)++SV.pv (ae k)::List.drop (f.n+1) (aH B++o)))[h.length]?=some [.pv (.ptr bw 0)]∧
            JE ((I.set f.b (List.take f.n (aH B++o)++SV.pv (ae k)::List.drop (f.n+1) (aH B++o))).set bw (ca ba bt ⟨mp,pt a x ⟨f.b,f.n+1,f.cp⟩,S'.late,S'.head,S'.seen⟩)) (pt a x ⟨f.b,f.n+1,f.cp⟩):=λhr=>by
          refine⟨by rw[On bb];exact L7.w,by rw[On cG,ab],(aw _ _).2 ⟨?_,?_⟩⟩
          · rw[ax,bC,←an,az]
            exact L7.setB P (B++[k]) (o.drop 1) (λm=>bh m o (b0 m)) (f.n+1) (by simp;omega) hr (by rw[OO];omega)
          · refine(((Ext.set f.b _ bL).trans (Ext.set bw _ (.inl rfl))).dom (dom _ λc hc q=>?_))
            exact⟨x,f,P,q⟩
        have aZ:∀cap,f.n+1<=cap->(I++[(B.map λz=>PV.lit (.int .i64 z)).map SV.pv++SV.pv (ae k)::List.replicate (cap -(f.n+1)) (SV.pv .bot)])[bw]?=some (ca ba bt ⟨mp,a,S'.late,S'.head,S'.seen⟩)∧(I++[(B.map λz=>PV.lit (.int .i64 z)).map SV.pv++SV.pv (ae k)::List.replicate (cap -(f.n+1)) (SV.pv .bot)])[h.length]?=some [.pv (.ptr bw 0)]∧
            JE ((I++[(B.map λz=>PV.lit (.int .i64 z)).map SV.pv++SV.pv (ae k)::List.replicate (cap -(f.n+1)) (SV.pv .bot)]).set bw (ca ba bt ⟨mp,pt a x ⟨I.length,f.n+1,cap⟩,S'.late,S'.head,S'.seen⟩)) (pt a x ⟨I.length,f.n+1,cap⟩):=λcap hc=>by
          refine⟨by rw[Oa ar];exact L7.w,by rw[Oa au,ab],(aw _ _).2 ⟨?_,?_⟩⟩
          · rw[az,←bG,ax,←an]
            exact L7.newB x (B++[k]) (List.replicate (cap -(f.n+1)) (SV.pv .bot)) (λm=>gd m _) (f.n+1) cap (by simp;omega) hc (by simp;omega)
          · refine(((Ext.app I _ _).trans (Ext.set bw _ (.inl rfl))).dom (dom _ λc hc q=>?_))
            simp only at q;omega
        clear ax bC an
        generalize cX:aH B++o=Yc at*
        have U:=And.intro Md (And.intro ar (And.intro bv (And.intro au (And.intro bx (And.intro bz (And.intro bA (And.intro P (And.intro cH (And.intro cI (And.intro bb bb.symm))))))))))
        refine aX.tab2 [92] ⟨[some (79,.pv (.ptr bw 0)),some (80,.pv (.ptr bw 0)),some (81,.pv (.ptr bw 3)),some (82,.al (.cell bw 3)),some (83,.pv (ae x)),some (84,.pv (.ptr bw 0)),some (85,.pv (.ptr bw 0)),some (86,.pv (.ptr bw 3)),some (87,.al (.cell bw 3)),some (88,.pv (ae x)),some (89,.pv (.bsl f.b 1 0 f.n f.cp)),some (90,.pv (ae k)),some (91,.own true 1 [[ae k]]),none,none],[(2,.pv (.ptr h.length 0)),(3,.pv (.ptr (h.length+1) 0)),(5,.own true 1 (af zs)),(6,.pv (.fn (.func 234) [] [.ptr (h.length+1) 0,.ptr h.length 0])),(8,.pv (.ptr H.length 0)),(13,.pv (ae x)),(22,.al (.slot 5)),(23,.pv (ae zs.length)),(24,.pv (ae i))],[[],[0],[1],[2],[],[],[5],[6],[7],[],[8,9],[],[11],[10,12],[3,4,13]],[13,14],[[0,1],[0,1],[0,1],[0,1],[0,1],[0,1],[0,1],[0],[0],[0],[0],[0],[0],[0],[1]],[(13,91)],λ_=>I⟩ (λq:List (List SV)×By=>[some (79,.pv (.ptr bw 0)),some (80,.pv (.ptr bw 0)),some (81,.pv (.ptr bw 3)),some (82,.al (.cell bw 3)),some (83,.pv (ae x)),some (84,.pv (.ptr bw 0)),some (85,.pv (.ptr bw 0)),some (86,.pv (.ptr bw 3)),some (87,.al (.cell bw 3)),some (88,.pv (ae x)),some (89,.pv (.bsl f.b 1 0 f.n f.cp)),some (90,.pv (ae k)),some (91,.own true 1 [[ae k]]),some (92,.pv (.bsl q.2.b 1 0 q.2.n q.2.cp)),none]) (λq:List (List SV)×By=>λ|1=>q.1|_=>q.1.set bw (ca ba bt ⟨mp,pt a x q.2,S'.late,S'.head,S'.seen⟩)) (λq:List (List SV)×By=>q.1[bw]?=some (ca ba bt ⟨mp,a,S'.late,S'.head,S'.seen⟩)∧q.1[h.length]?=some [.pv (.ptr bw 0)]∧JE (q.1.set bw (ca ba bt ⟨mp,pt a x q.2,S'.late,S'.head,S'.seen⟩)) (pt a x q.2)) 13 0 [13,14] (by kernel_rfl) (λ_=>by kernel_rfl) rfl (by kernel_rfl) (λ_=>by simp[Lz]) (by simp[aY]) rfl ?_ ?_
        · simp only[Tb.steps2,Gb,Tb.lvA,Tb.dpA,yv,sU,PR,Qg,cB,d5,mq,iN,eD,eq,Gv,gJ,jx,OV,P8,QB,RX,Q0,Sf,Sc,P7,Q2,OQ,Pk]
          simp only[Nat.reduceLeDiff,Nat.reduceEqDiff,Nat.reduceAdd,PT,Pk,Oc,Oz]
          and_intros
          all_goals first|trivial|(intro t h1 g;simp only[aY,OU,OL]at h1;simp[U,tm,h1,g,Tb.postL,Tb.wth,uy,sU,aY,bN]<;>and_intros<;>first|omega|(intro e;simp[U,tm,e]))|(rintro t h1 q hy g;simp only[aY,OU,OL]at h1;obtain⟨yw,yb,yj⟩:=hy;obtain⟨bf,bg⟩:=N5.1 yw;obtain⟨bd,be⟩:=N5.1 yb;simp[Md,tm,bf,bg,bd,be,h1,g,Tb.postL,Tb.wth,uy,sU,aY,bN]<;>and_intros<;>first|omega|(intro e;simp[U,tm,e]))|skip
          · intro t h1 g;simp only[aY,OU,OL]at h1
            simp[-Prod.exists,U,tm,h1,g]
            refine⟨by omega,by omega,_,bG,by simpa using aR,λhr=>?_,λhn cap hc=>?_⟩
            · refine⟨(_,⟨f.b,f.n+1,f.cp⟩),a5 hr,?_⟩
              simp[U,h1,g,Tb.postL,Tb.wth,uy,sU,aY,bN]<;>and_intros<;>(intro e;simp[U,e])
            · refine⟨(_,⟨I.length,f.n+1,cap⟩),aZ cap hc,?_⟩
              simp[U,h1,g,Tb.postL,Tb.wth,uy,sU,aY,bN]<;>and_intros<;>(intro e;simp[U,e])
        · rintro q hy t h1 g
          simp only[aY,OU,OL]at h1;simp[Gc]at g
          obtain⟨v,W⟩:∃v:List (List SV)×List (Int×By),v=(q.1.set bw (ca ba bt ⟨mp,pt a x q.2,S'.late,S'.head,S'.seen⟩),pt a x q.2):=⟨_,rfl⟩
          refine⟨_,ai.keep (t1:=[(2,.pv (.ptr h.length 0)),(3,.pv (.ptr (h.length+1) 0)),(5,.own true 1 (af zs)),(6,.pv (.fn (.func 234) [] [.ptr (h.length+1) 0,.ptr h.length 0])),(8,.pv (.ptr H.length 0)),(13,.pv (ae x)),(22,.al (.slot 5)),(23,.pv (ae zs.length)),(24,.pv (ae i))]) (h1:=v.1) (by simp[h1,g]) (by rw[W];rfl),?_⟩
          have a3:JE v.1 v.2:=by rw[W];exact hy.2.2
          obtain⟨j1,j2⟩:=aN v a3
          simp
          exact⟨(i+1,v.1,v.2,pF S' k l p x,T'),by(try dsimp only);omega,⟨by(try dsimp only);omega,j1,V,j2,hZ⟩,ai.keep (by simp[a6]) rfl⟩
  · have:j=p.lits.length:=by omega
    subst this
    rw[OK (Oc _),List.find?_nil]at u
    have kF:=yS N bw ba bt mp mb' A T' S' L2 k p K.hp K.hx K.hy K.hz
    have eS:nc S' T' l k p=iO (j7 (lr S' k p) k) T' k (nQ p):=by unfold nc;rw[u]
    have eT:nR T' l k p=ki T' k (nQ p):=by unfold nR;rw[u]
    have eB:oN T' l p=lu T' (nQ p):=by unfold oN;rw[u]
    simp[f1,f2,c1,c2]
    refine am.intro kF ?_
    rintro _ H3 ⟨rfl,aa,L3,E3⟩
    have P:H.length<N.length:=f1
    have n2:¬aO bw bt mp mb' h.length:=ad _ (Oc _) (by omega)
    have n3:¬aO bw bt mp mb' (h.length+1):=ad _ (by omega) (by omega)
    have bX:H3[h.length]?=some [.pv (.ptr bw 0)]:=by rw[E3.same h.length c1 n2,aA]
    have bY:H3[H.length]?=some [.pv (ae k)]:=by rw[E3.same H.length f1 F,ay]
    obtain⟨s1,s2⟩:=N5.1 L3.w
    obtain⟨t1,t2⟩:=N5.1 bX
    obtain⟨u1,u2⟩:=N5.1 bY
    have L4:=L3.setW (pt S'.late k (a8 ((lk S'.late k).getD 0+1))) S'.head S'.seen
    have E4:=Ext.set (h:=H3) (D:=aO bw bt mp aa) bw (ca ba bt ⟨mp,aa,pt S'.late k (a8 ((lk S'.late k).getD 0+1)),S'.head,S'.seen⟩) (.inl rfl)
    have cJ:(H3.set bw (ca ba bt ⟨mp,aa,pt S'.late k (a8 ((lk S'.late k).getD 0+1)),S'.head,S'.seen⟩))[h.length]?=some [.pv (.ptr bw 0)]:=by
      rw[On (λq=>n2 (.inl q.symm)),bX]
    have cK:(H3.set bw (ca ba bt ⟨mp,aa,pt S'.late k (a8 ((lk S'.late k).getD 0+1)),S'.head,S'.seen⟩))[H.length]?=some [.pv (ae k)]:=by
      rw[On (λq=>F (.inl q.symm)),bY]
    simp
    refine aX.meet AF ⟨[(2,.pv (.ptr h.length 0)),(3,.pv (.ptr (h.length+1) 0)),(5,.own true 1 (af zs)),(6,.pv (.fn (.func 234) [] [.ptr (h.length+1) 0,.ptr h.length 0])),(22,.al (.slot 5)),(23,.pv (ae zs.length)),(24,.pv (ae i)),(8,.pv (.ptr H.length 0))],H3.set bw (ca ba bt ⟨mp,aa,pt S'.late k (a8 ((lk S'.late k).getD 0+1)),S'.head,S'.seen⟩)⟩ (by kernel_rfl) ?_ ?_
    · simp[AF,s1,s2,ca,t1,t2,u1,u2,lr]
      and_intros
      all_goals exact ai.keep (by simp) (by simp[ca])
    generalize H3.set bw (ca ba bt ⟨mp,aa,pt S'.late k (a8 ((lk S'.late k).getD 0+1)),S'.head,S'.seen⟩)=H4 at*
    obtain⟨y1,y2⟩:=N5.1 cJ
    obtain⟨z1,z2⟩:=N5.1 cK
    have cu:lk (lr S' k p).prs k=some (nQ p):=by
      show lk (pt S'.prs k _) k=_
      rw[bD,N9 rfl];rfl
    have kR:=th H4 bw ba bt mp aa A T' (j7 (lr S' k p) k) L4 k (nQ p) cu K.ok K.tl K.lits (rk (rk K.hz))
    simp[y1,y2,z1,z2]
    refine am.intro kR ?_
    rintro _ H5 ⟨rfl,a9,L5,E5⟩
    rw[←eS,←eT]at L5
    rw[←eB]
    have E35:Ext N H5 (aO bw bt mp mb') (aO bw bt mp a9):=(E3.trans E4).trans E5
    cases aT:oN T' l p
    · rw[N8 (by rw[aT];simp)]at hZ
      simp
      exact⟨(i+1,H5,a9,nc S' T' l k p,nR T' l k p),by(try dsimp only);omega,⟨by(try dsimp only);omega,L5,V aT,(hE.trans E2).trans E35,hZ⟩,ai.keep (by simp[a6]) rfl⟩
    · rw[N9 aT]at hZ
      subst hZ
      have cs:H5[H.length]?=some [.pv (ae k)]:=by
        rw[E35.same H.length f1 F,ay]
      obtain⟨o1,o2⟩:=N5.1 cs
      simp[o1,o2]
      exact⟨a9,L5,E0.trans ((hE.trans E2).trans E35)⟩
end Go.AX
namespace Go.AX
open Go.Proofs
set_option linter.unusedSimpArgs false
def eW(S:WS)(T:Tr)(l:Int):WS×Tr×Int:=match lk S.byl l with
 |some zs=>ge l zs S T
 |none=>(S,T,-1)
def Jh(S:WS):WS:=⟨S.prs,S.byl,S.late,a8 (S.head+1),S.seen⟩
def dt(T:Tr)(S:WS):Int:=a8 (-(T.lits.getD S.head.toNat 0))
def jM:Nat->WS->Tr->WS×Tr×Int
 |0,S,T=>(S,T,-1)
 |n+1,S,T=>if S.head<T.lits.length then(if 0<=(eW S T (dt T S)).2.2 then eW S T (dt T S)else jM n (Jh (eW S T (dt T S)).1) (eW S T (dt T S)).2.1)else(S,T,-1)
def b9(S:WS)(now:List Int):WS:=⟨S.prs,S.byl,S.late,if(gx S.seen now:Int)<S.head then(gx S.seen now:Int)else S.head,S.seen⟩
def eX(S:WS)(T:Tr):WS×Tr×Int:=gq (dE (S.late.map (·.1))) S T
def gy(S:WS)(T:Tr):WS×Tr×Int:=if 0<=(eX (b9 S T.lits) T).2.2 then eX (b9 S T.lits) T else jM 1000001 (eX (b9 S T.lits) T).1 (eX (b9 S T.lits) T).2.1
def er(S:WS)(T:Tr):WS×Tr×Int:=(⟨(gy S T).1.prs,(gy S T).1.byl,(gy S T).1.late,(gy S T).1.head,(gy S T).2.1.lits⟩,(gy S T).2.1,(gy S T).2.2)
theorem yT(h:List (List SV))(bw ba bt:Nat)(mp:List (Int×Nat))(mb:List (Int×By))(A:Ar)(T:Tr)(S:WS)(L:LayW h bw ba bt mp mb A T S)(l:Int)(c:lk S.byl l=none):
 aB Tryz.prog 157 [.ptr bw 0,ae l] h (λr h'=>r=.pv (ae (-1))∧∃mb',LayW h' bw ba bt mp mb' A T S∧Ext h h' (aO bw bt mp mb) (aO bw bt mp mb')):=by
 refine cL [1,6,7,14,15,18] [.tmp 4] aG Tryz.func157 ?_;have b:lk mb l=none:=by
  cases k:lk mb l with
  |none=>rfl
  |some e=>obtain⟨zs,h1,_⟩:=L.by' l e k;rw[c]at h1;cases h1
 obtain⟨G,a⟩:∃G,G=h++[[SV.pv (.ptr bw 0)],[SV.pv (ae l)]]:=⟨_,rfl⟩;have L0:LayW G bw ba bt mp mb A T S:=by rw[a];exact L.app _
 have g:Ext h G (aO bw bt mp mb) (aO bw bt mp mb):=by rw[a];exact Ext.app _ _ _
 have d:G[h.length]?=some [.pv (.ptr bw 0)]:=by rw[a];simp
 have f:G[h.length+1]?=some [.pv (ae l)]:=by rw[a];simp
 obtain⟨m,n⟩:=N5.1 L0.w;obtain⟨i,j⟩:=N5.1 d;obtain⟨b1,b2⟩:=N5.1 f;simp;rw[←a];refine aX.meet uM ⟨[(2,.pv (.ptr h.length 0)),(3,.pv (.ptr (h.length+1) 0)),(5,.pv (.lit (.slice none 0 0)))],G⟩ (by kernel_rfl) ?_ ?_
 .simp[uM,m,n,ca,i,j,b1,b2,b];and_intros
  all_goals
   refine aj.intro yK ?_;simp;exact ai.keep (by simp) rfl
 simp;refine aJ.intro (S:=λ_:Unit=>⟨[(2,.pv (.ptr h.length 0)),(3,.pv (.ptr (h.length+1) 0)),(23,.pv (ae 0)),(24,.pv (ae 0))],G⟩) (λ_=>True) (λ_=>0) () ?_ trivial ?_
 .exact ai.keep (by simp) rfl
 rintro _ _;simp;exact⟨mb,L0,g⟩
structure ProOk (J:WS->Tr->Prop):Prop where
  ok:∀S T,J S T->T.ok∧T.lits.length<=1000000∧0<=S.head∧S.head<=T.lits.length
  step:∀S T,J S T->S.head<T.lits.length->∀zs,lk S.byl (dt T S)=some zs->zs.length<=1000000∧∃Jf:Nat->WS->Tr->Prop,Jf 0 S T∧∀i S' T',Jf i S' T'->∀(hi:i<zs.length),∃p,StepOk S' T' (dt T S) zs[i] p∧(oN T' (dt T S) p=false->Jf (i+1) (nc S' T' (dt T S) zs[i] p) (nR T' (dt T S) zs[i] p))
  len:∀S T,J S T->S.head<T.lits.length->(eW S T (dt T S)).2.1.lits.length<=1000000
  next:∀S T,J S T->S.head<T.lits.length->¬0<=(eW S T (dt T S)).2.2->(eW S T (dt T S)).2.2=-1∧J (Jh (eW S T (dt T S)).1) (eW S T (dt T S)).2.1∧(eW S T (dt T S)).1.head=S.head∧T.lits<+:(eW S T (dt T S)).2.1.lits
set_option maxRecDepth 16000 in
theorem rW(h:List (List SV))(bw ba bt:Nat)(mp:List (Int×Nat))(mb:List (Int×By))(A:Ar)(T:Tr)(S:WS)(L:LayW h bw ba bt mp mb A T S)(ah:T.lits.length<=1000000)(aC:S.seen.length<=1000000)
 (s:List Int) (ab:dE (S.late.map (·.1))=s) (Y:Nat->WS->Tr->Prop) (aq:Y 0 (b9 S T.lits) T) (aw:∀q∈S.late,CC q.1) (ax:S.late.length<=1000000)
 (hB:∀i S' T',Y i S' T'->∀(hi:i<s.length),T'.ok∧T'.lits.length<=1000000∧(∀l zs,lk S'.byl l=some zs->zs.length<=1000000)∧∃p,lk S'.prs s[i]=some p∧p.lits.length<=1000000)
 (hJ:∀i S' T' p,Y i S' T'->∀(hi:i<s.length),lk S'.prs s[i]=some p->lu T' p=false->Y (i+1) (iO S' T' s[i] p) (ki T' s[i] p))
 (ad:(eX (b9 S T.lits) T).2.1.lits.length<=1000000) (J:WS->Tr->Prop) (U:ProOk J) (ar:¬0<=(eX (b9 S T.lits) T).2.2->(eX (b9 S T.lits) T).2.2=-1∧J (eX (b9 S T.lits) T).1 (eX (b9 S T.lits) T).2.1):
 aB Tryz.prog 91 [.ptr bw 0] h (λr h'=>r=.pv (ae (er S T).2.2)∧∃mb',LayW h' bw ba bt mp mb' A (er S T).2.1 (er S T).1∧Ext h h' (aO bw bt mp mb) (aO bw bt mp mb')):=by
 refine cL [] [.tmp 2] aG Tryz.func91 ?_;obtain⟨w1,w2⟩:=N5.1 L.w;have hz:=cJ L.t 2;have kM:=wH h bw ba bt _ L.w;have kL:=ff T ah;have kS:=yQ h bw ba bt ⟨mp,mb,S.late,S.head,S.seen⟩ T.lits L.w ah aC;have L1:=L.setW S.late (if(gx S.seen T.lits:Int)<S.head then(gx S.seen T.lits:Int)else S.head) S.seen;have E1:=Ext.set (h:=h) (D:=aO bw bt mp mb) bw (ca ba bt (EA ⟨mp,mb,S.late,S.head,S.seen⟩ T.lits)) (.inl rfl);simp;refine am.intro kM ?_;rintro _ h2 ⟨e,rfl⟩;rw[e];clear e h2;simp[w1,w2,ca,hz];refine am.introP kL ?_;simp;refine am.intro (kS.args (xs:=[.ptr bw 0,.seq true 1 (af T.lits)]) (by simp[cE,cw])) ?_;rintro _ H1 ⟨rfl,rfl⟩;have L1':LayW (h.set bw (ca ba bt (EA ⟨mp,mb,S.late,S.head,S.seen⟩ T.lits))) bw ba bt mp mb A T (b9 S T.lits):=L1;have C:=B9 _ bw ba bt mp mb A T (b9 S T.lits) L1' s ab Y aq aw ax hB hJ;generalize h.set bw (ca ba bt (EA ⟨mp,mb,S.late,S.head,S.seen⟩ T.lits))=H1 at*;have a:gy S T=if 0<=(eX (b9 S T.lits) T).2.2 then eX (b9 S T.lits) T else jM 1000001 (eX (b9 S T.lits) T).1 (eX (b9 S T.lits) T).2.1:=rfl;have ag:er S T=(⟨(gy S T).1.prs,(gy S T).1.byl,(gy S T).1.late,(gy S T).1.head,(gy S T).2.1.lits⟩,(gy S T).2.1,(gy S T).2.2):=rfl;have G:gq s (b9 S T.lits) T=eX (b9 S T.lits) T:=by unfold eX;rw[←ab];rfl
 rw[G]at C;generalize eX (b9 S T.lits) T=V at*;generalize gy S T=M at*;generalize er S T=Q at*;obtain⟨S2,T2,k2⟩:=V;simp only at*;simp;refine am.intro C ?_;rintro _ H2 ⟨rfl,aF,L2,E2⟩;have O:=ff T2 ad;have I:=cJ L2.t 2;obtain⟨v1,v2⟩:=N5.1 L2.w;simp[v1,v2,ca,I];refine am.introP O ?_;simp;refine aJ.intro (S:=λ(x:List (List SV)×List (Int×By)×WS×Tr×Int×List Int×Nat)=>⟨[(0,.pv (.ptr bw 0)),(3,.pv (ae x.2.2.2.2.1)),(4,.own true 1 (af x.2.2.2.2.2.1))],x.1⟩)
  (λ x => LayW x.1 bw ba bt mp x.2.1 A x.2.2.2.1 x.2.2.1 ∧ Ext h x.1 (aO bw bt mp mb) (aO bw bt mp x.2.1) ∧ x.2.2.2.1.lits.length <= 1000000 ∧
   ((0<=x.2.2.2.2.1∧M=(x.2.2.1,x.2.2.2.1,x.2.2.2.2.1))∨(¬0<=x.2.2.2.2.1∧x.2.2.2.2.1=-1∧J x.2.2.1 x.2.2.2.1∧x.2.2.2.2.2.1<+:x.2.2.2.1.lits∧(x.2.2.1.head<x.2.2.2.2.2.1.length∨x.2.2.2.2.2.1=x.2.2.2.1.lits)∧M=jM x.2.2.2.2.2.2 x.2.2.1 x.2.2.2.1∧1000001<=x.2.2.1.head+x.2.2.2.2.2.2)))
  (λx=>x.2.2.2.2.2.2) (H2,aF,S2,T2,k2,T2.lits,1000001) ?_ ?_ ?_
 .exact ai.keep (by simp) rfl
 .refine⟨L2,E1.trans E2,ad,?_⟩
  by_cases c:0<=k2
  .rw[N9 c]at a;exact .inl ⟨c,a⟩
  .rw[N8 c]at a;have hj:=ar c;have hh:=(U.ok _ _ hj.2).2.2.1;exact .inr ⟨c,hj.1,hj.2,RP _,.inr rfl,a,by simp only;omega⟩
 rintro⟨H,mb',S',T',kc,now,n⟩ ⟨P,hE,E,j⟩;dsimp only at P hE E j;obtain⟨W,X⟩:=N5.1 P.w;have ak:=cJ P.t 2;have an:=ff T' E;have o:∀(M1:M=(S',T',kc)),(LayW (H.set bw (ca ba bt ⟨mp,mb',S'.late,S'.head,T'.lits⟩)) bw ba bt mp mb' A Q.2.1 Q.1)∧Ext h (H.set bw (ca ba bt ⟨mp,mb',S'.late,S'.head,T'.lits⟩)) (aO bw bt mp mb) (aO bw bt mp mb')∧Q.2.2=kc:=λM1=>by
  rw[ag,M1];exact⟨P.setW S'.late S'.head T'.lits,hE.trans (Ext.set bw _ (.inl rfl)),rfl⟩
 rcases j with⟨hc,g⟩|⟨hc,av,hj,m,ay,g,hn⟩
 .have v:¬kc<0:=by omega
  obtain⟨g1,g2,g3⟩:=o g;simp[v];simp[W,X,ca,ak];refine am.introP an ?_;simp[W,X,ca];exact⟨g3.symm,mb',g1,g2⟩
 .have v:kc<0:=by omega
  obtain⟨q1,q2,q3,q4⟩:=U.ok _ _ hj;obtain⟨hd,z⟩:∃k:Nat,S'.head=k:=⟨S'.head.toNat,by omega⟩
  by_cases d:hd<now.length
  .have dT:hd<T'.lits.length:=Ph d m.length_le;have hq:now[hd]?=some T'.lits[hd]:=by
    obtain⟨t,ht⟩:=m;rw[←N6 dT,←ht,Oa d]
   have b:S'.head<T'.lits.length:=by omega
   have aA:now[hd]=T'.lits[hd]:=by rw[N6 d]at hq;exact QT hq
   have aj:a8 (-now[hd])=dt T' S':=by rw[aA];simp[dt,z,N6 dT]
   have kF:aB Tryz.prog 157 [.ptr bw 0,ae (dt T' S')] H (λr h'=>r=.pv (ae (eW S' T' (dt T' S')).2.2)∧∃F,LayW h' bw ba bt mp F A (eW S' T' (dt T' S')).2.1 (eW S' T' (dt T' S')).1∧Ext H h' (aO bw bt mp mb') (aO bw bt mp F)):=by
    cases hb:lk S'.byl (dt T' S')with
    |none=>
     simp only[eW,hb];exact yT H bw ba bt mp mb' A T' S' P _ hb
    |some zs=>
     obtain⟨z1,Jf,z2,z3⟩:=U.step S' T' hj b zs hb;simp only[eW,hb];exact Ca H bw ba bt mp mb' A T' S' P _ zs hb z1 Jf z2 z3
   have u:=U.len S' T' hj b;have aa:=U.next S' T' hj b;cases n with
   |zero=>omega
   |succ n=>
   rw[jM,N9 b]at g;generalize eW S' T' (dt T' S')=V at*;generalize dt T' S'=l at*;obtain⟨S3,R,k3⟩:=V;simp only at g u aa kF;clear kL O kM kS C hB hJ a G L1 L1' hz I w1 w2 v1 v2;simp[v,W,X,ca,z,d,aj];refine am.intro kF ?_;rintro _ H3 ⟨rfl,f,L3,E3⟩;obtain⟨t1,t2⟩:=N5.1 L3.w;have K:=cJ L3.t 2;have ao:=ff R u
   by_cases c3:0<=k3
   .rw[N9 c3]at g;simp[c3,t1,t2,ca,K];refine am.introP ao ?_;simp[t1,t2,ca];have:=L3.setW S3.late S3.head R.lits;rw[ag,g];exact⟨rfl,f,this,(hE.trans E3).trans (Ext.set bw _ (.inl rfl))⟩
   .rw[N8 c3]at g;obtain⟨r1,r2,r3,r4⟩:=aa c3;obtain⟨b1,b2,b3,b4⟩:=U.ok _ _ r2;have aH:¬0<=k3:=c3;have Z:=L3.setW S3.late (a8 (S3.head+1)) S3.seen;have E4:Ext h (H3.set bw (ca ba bt ⟨mp,f,S3.late,a8 (S3.head+1),S3.seen⟩)) (aO bw bt mp mb) (aO bw bt mp f):=(hE.trans E3).trans (Ext.set bw _ (.inl rfl));have B:a8 ((hd:Int)+1)=((hd+1:Nat):Int):=by rw[ap (by omega) (by omega)];omega
    have y:S3.head=hd:=r3.trans z;rw[y,B]at Z E4;have N:br (H3.set bw (ca ba bt ⟨mp,f,S3.late,((hd+1:Nat):Int),S3.seen⟩)) (2+1) bt 0=bB R:=cJ Z.t 2;have aD:Jh S3=⟨S3.prs,S3.byl,S3.late,((hd+1:Nat):Int),S3.seen⟩:=by unfold Jh;rw[y,B]
    rw[aD]at g r2;clear kF
    by_cases dn:hd+1=now.length
    .rw[dn]at Z E4 N g r2;simp only[ca]at N;simp[c3,t1,t2,ca,K,y,B,dn,N];refine am.introP ao ?_;simp;exact⟨(_,f,⟨S3.prs,S3.byl,S3.late,(now.length:Int),S3.seen⟩,R,k3,R.lits,n),QC n,⟨Z,E4,u,.inr ⟨by simp only;omega,r1,r2,RP _,.inr rfl,g,by simp only;omega⟩⟩,ai.keep (by simp) rfl⟩
    .have aE:¬((hd:Int)+1=now.length):=by omega
     simp[c3,t1,t2,ca,K,y,B,aE];exact⟨(_,f,⟨S3.prs,S3.byl,S3.late,((hd+1:Nat):Int),S3.seen⟩,R,k3,now,n),QC n,⟨Z,E4,u,.inr ⟨by simp only;omega,r1,r2,m.trans r4,.inl (by simp only;omega),g,by simp only;omega⟩⟩,ai.keep (by simp) rfl⟩
  .have az:¬S'.head<T'.lits.length:=by
    rcases ay with h1|h1
    .omega
    .rw[←h1];omega
   have au:M=(S',T',-1):=by
    rw[g];cases n with
    |zero=>rfl
    |succ n=>rw[jM,N8 az]
   obtain⟨g1,g2,g3⟩:=o (by rw[au,av]);clear kL O kM kS C hB hJ a G L1 L1' hz I w1 w2 v1 v2;simp[v,W,X,ca,z,d];simp[W,X,ca,ak];refine am.introP an ?_;simp[W,X,ca];exact⟨g3.symm,mb',g1,g2⟩
end Go.AX