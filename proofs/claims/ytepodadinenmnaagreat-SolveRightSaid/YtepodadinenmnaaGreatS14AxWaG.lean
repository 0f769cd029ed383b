/-
  Contracts: watches: lates, Attached; and what follows.
-/
import Derived.Test.YtepodadinenmnaaGreatS14AxWaD
import Derived.Test.YtepodadinenmnaaGreatRows
import Derived.Test.YtepodadinenmnaaGreatAxKs
import Derived.Test.YtepodadinenmnaaGreatS14AxTyA
import Derived.Test.YtepodadinenmnaaGreatAxTb
namespace Go.AX
open Go.Proofs Go.Maps Go.Shelf
set_option linter.unusedSimpArgs false
theorem uf{α:Type}(f:α->PV):∀l:List (Int×α),D9 (aG f l)=aG (λ_=>PV.bot) l
 |[]=>rfl
 |(k,x)::l=>by
  show(k,PV.bot)::D9 (aG f l)=(k,PV.bot)::aG (λ_=>PV.bot) l;rw[uf f l]
def iv:List Int->WS->Tr->WS×Tr×Int
 |[],S,T=>(S,T,-1)
 |k::ks,S,T=>match lk S.prs k with
  |some p=>if mQ T p=true then(S,T,k)else iv ks (jN S T k p) (mf T k p)
  |none=>(S,T,-1)
set_option maxRecDepth 16000 in
theorem Ge(h:List (List SV))(bw ba bt:Nat)(mp:List (Int×Nat))(mb:List (Int×By))(A:Ar)(T:Tr)(S:WS)(L:LayW h bw ba bt mp mb A T S)(a:List Int)(f:bD (S.late.map (·.1))=a)(J:Nat->WS->Tr->Prop)(o:J 0 S T)(v:∀q∈S.late,DB q.1)(g:S.late.length<=1000000)
 (E:∀i S' T',J i S' T'->∀(hi:i<a.length),T'.ok∧T'.lits.length<=1000000∧(∀l zs,lk S'.byl l=some zs->zs.length<=1000000)∧∃p,lk S'.prs a[i]=some p∧p.lits.length<=1000000)
 (F:∀i S' T' p,J i S' T'->∀(hi:i<a.length),lk S'.prs a[i]=some p->mQ T' p=false->J (i+1) (jN S' T' a[i] p) (mf T' a[i] p)):
 ax Tryz.prog 156 [.ptr bw 0] h (λr h'=>r=.pv (ab (iv a S T).2.2)∧∃mb',LayW h' bw ba bt mp mb' A (iv a S T).2.1 (iv a S T).1∧Ext h h' (aR bw bt mp mb) (aR bw bt mp mb')):=by
 refine cI [1] [.tmp 2] aC Tryz.func156 ?_;obtain⟨M,N⟩:=SG.1 L.w;have C:=Cn (λ_:Int=>PV.bot) S.late v g;have G:a.length<=1000000:=by rw[←f];unfold bD;rw[T9,SZ];exact g
 have s:iv a S T=iv (a.drop 0) S T:=rfl;rw[f]at C;generalize iv a S T=Z at*;simp;refine io.keys [_,_,_,_] [_,_] _ _ _ _ 229 _ _ _ _ _ (ae a) rfl rfl rfl rfl rfl rfl rfl ?_;simp[M,N,ce];rw[uf];refine⟨HL,C,?_⟩;refine aF.intro (S:=λ(x:Nat×List (List SV)×List (Int×By)×WS×Tr)=>⟨[(0,.pv (.ptr bw 0)),(10,.own true 1 (ae a)),(11,.pv (ab a.length)),(12,.pv (ab x.1))],x.2.1⟩)
  (λx=>x.1<=a.length∧LayW x.2.1 bw ba bt mp x.2.2.1 A x.2.2.2.2 x.2.2.2.1∧J x.1 x.2.2.2.1 x.2.2.2.2∧Ext h x.2.1 (aR bw bt mp mb) (aR bw bt mp x.2.2.1)∧Z=iv (a.drop x.1) x.2.2.2.1 x.2.2.2.2)
  (λx=>a.length -x.1) (0,h,mb,S,T) ?_ ⟨Te _,L,o,Ext.refl _ _,s⟩ ?_
 .exact ai.keep (by simp) rfl
 rintro⟨i,H,mb',S',T'⟩ ⟨hi,n,e,k,b⟩;dsimp only at hi n e k b
 by_cases d:i<a.length
 .have z:aY ((i:Int)+1)=((i+1:Nat):Int):=by rw[ao (by omega) (by omega)];omega
  have I:a[i]?=some a[i]:=SH d;obtain⟨b1,b2,b3,p,hp,y⟩:=E i S' T' e d;have K:=wl H bw ba bt mp mb' A T' S' n a[i] p hp b1 b2 y b3;rw[TJ d,iv,hp]at b;simp only at b;simp[d,I];refine am.intro K ?_;rintro _ D ⟨rfl,j,m,B⟩;cases c:mQ T' p
  .rw[SM (by rw[c];simp)]at b;simp[c];exact⟨(i+1,D,j,jN S' T' a[i] p,mf T' a[i] p),by(try dsimp only);omega,⟨by(try dsimp only);omega,m,F i S' T' p e d hp c,k.trans B,b⟩,ai.keep (by simp[z]) rfl⟩
  .rw[SN c]at b;subst b;have t:jN S' T' a[i] p=S':=by
    unfold mQ at c;unfold jN;rw[SM (by have:=Xj c;omega)]
   have u:mf T' a[i] p=T':=by
    unfold mQ at c;unfold mf;rw[SM (by have:=Xj c;omega)]
   rw[t,u]at m;simp[c];exact⟨j,m,k.trans B⟩
 .have:i=a.length:=by omega
  subst this;rw[Tq (SQ _),iv]at b;subst b;simp;exact⟨mb',n,k⟩
end Go.AX
namespace Go.AX
set_option maxRecDepth 16000
open Go.Proofs
set_option linter.unusedSimpArgs false
def xU:Sch:=
 let c:Sch:=.fork [(6,.take 7 .done)]
 let a:Sch:=.fork [(5,c)]
 let d:Sch:=.fork [(4,a)]
 let b:Sch:=.fork [(3,a)]
 let e:Sch:=.fork [(3,d),(4,b)]
 let f:Sch:=.fork [(0,.take 1 (.take 2 b))]
 let g:Sch:=.fork [(0,.take 1 (.take 2 e)),(4,f)]
 g
def Jt:Sch:=
 let a:Sch:=.fork [(5,.take 6 .done)]
 let c:Sch:=.fork [(4,a)]
 let b:Sch:=.fork [(3,a)]
 let d:Sch:=.fork [(3,c),(4,b)]
 let e:Sch:=.fork [(0,.take 1 (.take 2 b))]
 let f:Sch:=.fork [(0,.take 1 (.take 2 d)),(4,e)]
 f
def Ju:Sch:=
 let a:Sch:=.fork [(5,.take 6 .done)]
 let b:Sch:=.fork [(4,a)]
 .take 0 (.take 1 (.take 2 (.take 3 b)))
def Ea:Sch:=
 let c:Sch:=.fork [(7,.done)]
 let a:Sch:=.fork [(5,.take 6 c)]
 let d:Sch:=.fork [(4,a)]
 let b:Sch:=.fork [(3,a)]
 let e:Sch:=.fork [(3,d),(4,b)]
 let f:Sch:=.fork [(0,.take 1 (.take 2 b))]
 let g:Sch:=.fork [(0,.take 1 (.take 2 e)),(4,f)]
 g
def N9(T:Tr)(l other x:Int):Bool:=decide (x≠l)&&(decide (x≠other)&&decide (0<=cz T x))
theorem Jv(h:List (List SV))(bw ba bt a:Nat)(W:Wt)(T:Tr)(j:h[bw]?=some (ce ba bt W))(ht:h[bt]?=some (gD T))(g:T.ok)(l:Int)(h0:h[a]?=some [.pv (.ptr bw 0)])(h1:h[a+1]?=some [.pv (ab l)])(x other:Int):
 ax Tryz.prog 234 [ab x,ab other,.ptr (a+1) 0,.ptr a 0] h (λr h'=>h'=h∧r=.pv (BL (N9 T l other x))):=by
 refine fk [] [.tmp 6] aC Tryz.func234 ?_;obtain⟨d,f⟩:=SG.1 j;obtain⟨b,c⟩:=SG.1 h0;obtain⟨b1,b2⟩:=SG.1 h1;have i:=fP T x g;have hz:=db ht 2;unfold N9
 by_cases c1:x=l
 .simp[d,f,ce,b,c,b1,b2,c1]
 by_cases c2:x=other
 .have c3:¬other=l:=λe=>c1 (c2.trans e);simp[d,f,ce,b,c,b1,b2,c1,c2,c3]
 simp[d,f,ce,b,c,b1,b2,c1,c2,hz];refine am.introP i ?_ (by simp[c1,c2]) (by simp);simp[c1,c2]
theorem Jw(x v:Int):ak Tryz.prog 236 [ab x,.iptr 1 [[ab v]] 0 0] (λr=>r=.pv (BL (decide (x=v)))):=by
 refine ap aC Tryz.func236 ?_;simp
def p7(l:Int)(p:Pr):Int:=if p.x=l then p.y else p.x
def mS(T:Tr)(l:Int)(p:Pr):Option Int:=p.lits.find? (N9 T l (p7 l p))
def jk(l:Int)(p:Pr)(x:Int):Pr:=if p.x=l then⟨p.lits,x,p.y⟩else⟨p.lits,p.x,x⟩
def rR(S:WS)(k l:Int)(p:Pr)(x:Int):WS:=⟨pt S.prs k (jk l p x),gL (eq S.byl k l) k x,S.late,S.head,S.seen⟩
def lZ(S:WS)(k:Int):WS:=⟨S.prs,S.byl,pt S.late k (aY ((lk S.late k).getD 0+1)),S.head,S.seen⟩
def p8(p:Pr):Pr:=⟨p.lits,0,0⟩
def oY(S:WS)(T:Tr)(l k:Int)(p:Pr):WS:=match mS T l p with
 |some x=>rR S k l p x
 |none=>jN (lZ (fq S k p) k) T k (p8 p)
def p9(T:Tr)(l k:Int)(p:Pr):Tr:=match mS T l p with
 |some _=>T
 |none=>mf T k (p8 p)
def qT(T:Tr)(l:Int)(p:Pr):Bool:=match mS T l p with
 |some _=>false
 |none=>mQ T (p8 p)
def ig(l:Int):List Int->WS->Tr->WS×Tr×Int
 |[],S,T=>(S,T,-1)
 |k::ks,S,T=>match lk S.prs k with
  |some p=>if qT T l p=true then(oY S T l k p,p9 T l k p,k)else ig l ks (oY S T l k p) (p9 T l k p)
  |none=>(S,T,-1)
structure StepOk (S:WS) (T:Tr) (l k:Int) (p:Pr):Prop where
  hp:lk S.prs k=some p
  l0:l≠0
  two:p.x=l∨p.y=l
  lits:p.lits.length<=1000000
  byl:∃zs,lk S.byl l=some zs∧zs≠[]
  hx:p.x≠0->∃zs,lk S.byl p.x=some zs∧zs≠[]
  hy:p.y≠0->∃zs,lk (eq S.byl k p.x) p.y=some zs∧zs≠[]
  hz:∀l zs,lk S.byl l=some zs->zs.length<=1000000
  ok:T.ok
  tl:T.lits.length<=1000000
theorem ug{byl:List (Int×List Int)}{k l:Int}{n:Nat}(h:∀l zs,lk byl l=some zs->zs.length<=n):∀m zs,lk (eq byl k l) m=some zs->zs.length<=n:=λm zs a=>by
 unfold eq at a;split at a
 .exact h m zs a
 .rw[bJ]at a;split at a
  .cases a
   refine TD (jW _ _) ?_;cases b:lk byl l with
   |none=>exact Te _
   |some z=>exact h l z b
  .exact h m zs a
def wn(a m:Nat)(zs:List Int)(i:Nat)(x:Int):List (Nat×SV):=[(2,.pv (.ptr a 0)),(3,.pv (.ptr (a+1) 0)),(5,.own true 1 (ae zs)),(6,.pv (.fn (.func 234) [] [.ptr (a+1) 0,.ptr a 0])),(8,.pv (.ptr m 0)),(13,.pv (ab x)),(22,.al (.slot 5)),(23,.pv (ab zs.length)),(24,.pv (ab i))]
theorem QT:(∀x:By,GG x=.bsl x.b 1 0 x.n x.cp)∧(∀(ba bt:Nat)(W:Wt),ce ba bt W=[.pv (.ptr ba 0),.pv (.ptr bt 0),.omap true (aG uT W.prs),.omap true (aG GG W.byl),.omap true (aG fI W.late),.pv (ab W.head),.own true 1 (ae W.seen)])∧(∀(a m:Nat)(zs:List Int)(i:Nat)(x:Int),wn a m zs i x=[(2,.pv (.ptr a 0)),(3,.pv (.ptr (a+1) 0)),(5,.own true 1 (ae zs)),(6,.pv (.fn (.func 234) [] [.ptr (a+1) 0,.ptr a 0])),(8,.pv (.ptr m 0)),(13,.pv (ab x)),(22,.al (.slot 5)),(23,.pv (ab zs.length)),(24,.pv (ab i))])∧(∀b k n s:Nat,aL b k n (.slot s)=false)∧∀b k n b' k':Nat,aL b k n (.cell b' k')=(b==b'&&decide (k<=k')&&decide (k'<k+n)):=⟨λ_=>rfl,λ_ _ _=>rfl,λ_ _ _ _ _=>rfl,λ_ _ _ _=>rfl,λ_ _ _ _ _=>rfl⟩
set_option maxRecDepth 32000 in
set_option maxHeartbeats 8000000 in
theorem Gf(h:List (List SV))(bw ba bt:Nat)(mp:List (Int×Nat))(mb:List (Int×By))(A:Ar)(T:Tr)(S:WS)(L:LayW h bw ba bt mp mb A T S)(l:Int)(zs:List Int)(cC:lk S.byl l=some zs)(cB:zs.length<=1000000)(J:Nat->WS->Tr->Prop)(cg:J 0 S T)
    (hJ:∀i S' T',J i S' T'->∀(hi:i<zs.length),∃p,StepOk S' T' l zs[i] p∧(qT T' l p=false->J (i+1) (oY S' T' l zs[i] p) (p9 T' l zs[i] p))):
    ax Tryz.prog 157 [.ptr bw 0,ab l] h (λr h'=>r=.pv (ab (ig l zs S T).2.2)∧∃mb',LayW h' bw ba bt mp mb' A (ig l zs S T).2.1 (ig l zs S T).1∧Ext h h' (aR bw bt mp mb) (aR bw bt mp mb')):=by
  refine cI [1,6,7,14,15,18] [.tmp 4] aC Tryz.func157 ?_
  obtain⟨e,he,⟨sp,e1,f,e3,e4,e5⟩,e6,e7,e8⟩:=L.some_b cC
  obtain⟨G,hG⟩:∃G,G=h++[[SV.pv (.ptr bw 0)],[SV.pv (ab l)]]:=⟨_,rfl⟩
  have L0:LayW G bw ba bt mp mb A T S:=by rw[hG];exact L.app _
  have E0:Ext h G (aR bw bt mp mb) (aR bw bt mp mb):=by rw[hG];exact Ext.app _ _ _
  have bV:G[h.length]?=some [.pv (.ptr bw 0)]:=by rw[hG];simp
  have bW:G[h.length+1]?=some [.pv (ab l)]:=by rw[hG];simp
  have ar:∀b,h.length<=b->¬aR bw bt mp mb b:=λb hb hd=>by
    have lt:∀{c:Nat}{x:List SV},h[c]?=some x->c<h.length:=λhx=>(SG.1 hx).1
    rcases hd with q|q|⟨k,q⟩|⟨l',e',q,rfl⟩
    · have:=lt L.w;omega
    · have:=lt L.t;omega
    · obtain⟨_,_,a2,_⟩:=L.pr k b q;have:=lt a2;omega
    · obtain⟨_,_,⟨_,a2,_⟩,_⟩:=L.by' l' e' q;have:=lt a2;omega
  obtain⟨w1,w2⟩:=SG.1 L0.w
  obtain⟨a1,a2⟩:=SG.1 bV
  obtain⟨b1,b2⟩:=SG.1 bW
  have hcl:=eI zs cB
  have cl:G[e.b]?=some (aN zs++sp):=by rw[hG,SO (SG.1 e1).1,e1]
  have cn:uL (aZ G 3 e.b 0) 1 e.n=.seq false 1 (ae zs):=by rw[←e3];exact Mi G e.b zs sp cl 2
  have cf:ig l zs S T=ig l (zs.drop 0) S T:=rfl
  generalize ig l zs S T=Z at*
  simp
  rw[←hG]
  refine bc.meet xU ⟨[(2,.pv (.ptr h.length 0)),(3,.pv (.ptr (h.length+1) 0)),(5,.own true 1 (ae zs))],G⟩ (by kernel_rfl) ?_ ?_
  · simp[xU,w1,w2,ce,a1,a2,b1,b2,he,GG,cn]
    and_intros
    all_goals
      refine am.introP hcl ?_
      simp
      exact ai.keep (by simp) rfl
  simp
  refine aF.intro (S:=λ(x:Nat×List (List SV)×List (Int×By)×WS×Tr)=>⟨[(2,.pv (.ptr h.length 0)),(3,.pv (.ptr (h.length+1) 0)),(5,.own true 1 (ae zs)),(6,.pv (.fn (.func 234) [] [.ptr (h.length+1) 0,.ptr h.length 0])),(22,.al (.slot 5)),(23,.pv (ab zs.length)),(24,.pv (ab x.1))],x.2.1⟩)
    (λx=>x.1<=zs.length∧LayW x.2.1 bw ba bt mp x.2.2.1 A x.2.2.2.2 x.2.2.2.1∧J x.1 x.2.2.2.1 x.2.2.2.2∧Ext G x.2.1 (aR bw bt mp mb) (aR bw bt mp x.2.2.1)∧Z=ig l (zs.drop x.1) x.2.2.2.1 x.2.2.2.2)
    (λx=>zs.length -x.1) (0,G,mb,S,T) ?_ ⟨Te _,L0,cg,Ext.refl _ _,cf⟩ ?_
  · exact ai.keep (by simp) rfl
  rintro⟨i,H,mb',S',T'⟩ ⟨hi,LH,bF,hE,hZ⟩
  dsimp only at hi LH bF hE hZ
  have cV:G.length=h.length+2:=by rw[hG];simp
  have cE:H[h.length]?=some [.pv (.ptr bw 0)]:=by rw[hE.same h.length (by omega) (ar _ (SQ _)),bV]
  have cF:H[h.length+1]?=some [.pv (ab l)]:=by rw[hE.same (h.length+1) (by omega) (ar _ (by omega)),bW]
  have af:∀b,h.length<=b->b<G.length->¬aR bw bt mp mb' b:=λb hb cj hd=>ar b hb (hE.sub b cj hd)
  by_cases d:i<zs.length
  rotate_left
  · have:i=zs.length:=by omega
    subst this
    rw[Tq (SQ _),ig]at hZ
    subst hZ
    simp
    exact⟨mb',LH,E0.trans hE⟩
  have a6:aY ((i:Int)+1)=((i+1:Nat):Int):=by rw[ao (by omega) (by omega)];omega
  have hq:zs[i]?=some zs[i]:=SH d
  obtain⟨p,K,V⟩:=hJ i S' T' bF d
  rw[TJ d,ig,K.hp]at hZ
  simp only at hZ
  obtain⟨k,bO⟩:∃k,zs[i]=k:=⟨_,rfl⟩
  rw[bO]at K V hZ hq
  obtain⟨b,hb,q1,q2,q3,q4⟩:=LH.some_p K.hp
  -- the number is boxed
  obtain⟨N,ak⟩:∃N,N=H++[[SV.pv (ab k)]]:=⟨_,rfl⟩
  have L2:LayW N bw ba bt mp mb' A T' S':=by rw[ak];exact LH.app _
  have E2:Ext H N (aR bw bt mp mb') (aR bw bt mp mb'):=by rw[ak];exact Ext.app _ _ _
  have lt:∀{c:Nat}{x:List SV},H[c]?=some x->c<H.length:=λhx=>(SG.1 hx).1
  have up:∀{c:Nat}{x:List SV},H[c]?=some x->N[c]?=some x:=λhx=>by rw[ak,SO (lt hx),hx]
  have aA:N[H.length]?=some [.pv (ab k)]:=by rw[ak];simp
  have aD:=up cE
  have bb:=up cF
  have bX:=up q1
  have F:¬aR bw bt mp mb' H.length:=λhd=>by
    rcases hd with q|q|⟨k',q⟩|⟨l',e',q,qe⟩
    · have:=lt LH.w;omega
    · have:=lt LH.t;omega
    · obtain⟨_,_,a2,_⟩:=LH.pr k' _ q;have:=lt a2;omega
    · obtain⟨_,_,⟨_,a2,_⟩,_⟩:=LH.by' l' e' q;have:=lt a2;omega
  obtain⟨w3,w4⟩:=SG.1 L2.w
  obtain⟨c1,c2⟩:=SG.1 aD
  obtain⟨d1,d2⟩:=SG.1 bb
  obtain⟨f1,f2⟩:=SG.1 aA
  obtain⟨g1,g2⟩:=SG.1 bX
  obtain⟨Q,E⟩:∃Q:Nat,Q=if p.x=l then 0 else 1:=⟨_,rfl⟩
  have bQ:BV [p.x,p.y] l=(Q:Int):=by
    unfold BV
    by_cases c:p.x=l
    · rw[E,SN c]
      exact d9 (i:=0) (by simp) (λj hj h=>by omega) (by simp[c])
    · rw[E,SM c]
      exact d9 (i:=1) (by simp) (λj hj h=>by cases(show j=0 by omega);simp[c]) (by simp[K.two.resolve_left c])
  have bE:=yZ [p.x,p.y] l (by simp)
  rw[bQ]at bE
  have bN:uL (aZ N 3 b 1) 1 2=.seq false 1 (ae [p.x,p.y]):=by
    have e0:N.getD b []=p6 p:=by rw[SI,bX];rfl
    simp only[aZ,e0,p6,jD]
    simp[uL,frzC,ae]
  simp[d,bO]
  rw[←ak]
  refine bc.meet Jt ⟨[(2,.pv (.ptr h.length 0)),(3,.pv (.ptr (h.length+1) 0)),(5,.own true 1 (ae zs)),(6,.pv (.fn (.func 234) [] [.ptr (h.length+1) 0,.ptr h.length 0])),(22,.al (.slot 5)),(23,.pv (ab zs.length)),(24,.pv (ab i)),(8,.pv (.ptr H.length 0)),(9,.pv (.ptr b 0))],N⟩ (by kernel_rfl) ?_ ?_
  · simp[Jt,w3,w4,ce,c1,c2,d1,d2,f1,f2,hb,uT]
    and_intros
    all_goals exact ai.keep (by simp) rfl
  simp
  refine bc.arr [] Ju (λ_:Unit=>⟨[(2,.pv (.ptr h.length 0)),(3,.pv (.ptr (h.length+1) 0)),(5,.own true 1 (ae zs)),(6,.pv (.fn (.func 234) [] [.ptr (h.length+1) 0,.ptr h.length 0])),(22,.al (.slot 5)),(23,.pv (ab zs.length)),(24,.pv (ab i)),(8,.pv (.ptr H.length 0)),(9,.pv (.ptr b 0)),(10,.pv (ab Q))],N⟩) (λ_=>True) (by kernel_rfl) ?_ ?_
  · simp[Ju,w3,w4,ce,c1,c2,d1,d2,f1,f2,g1,g2,p6,jD,bN]
    refine am.introP bE ?_
    simp
    exact ai.keep (by simp) rfl
  rintro _ _
  have cZ:Q<=1:=by rw[E];split<;>omega
  have cx:aY (1 -(Q:Int))=((1 -Q:Nat):Int):=by rw[ao (by omega) (by omega)];omega
  have cz:((1 -Q:Nat):Int)<2:=by omega
  have W:1+(1 -Q)<3:=by omega
  have aV:∀hh:1+(1 -Q)<[SV.pv (.seq false 1 (ae p.lits)),SV.pv (ab p.x),SV.pv (ab p.y)].length,[SV.pv (.seq false 1 (ae p.lits)),SV.pv (ab p.x),SV.pv (ab p.y)][1+(1 -Q)]'hh=SV.pv (ab (p7 l p)):=λhh=>by
    unfold p7
    by_cases c:p.x=l
    · rw[SN c]at E
      subst E
      rw[SN c];rfl
    · rw[SM c]at E
      subst E
      rw[SM c];rfl
  simp[cx,cz,W,g1,g2,p6,jD,aV]
  have kO:=λx=>Jv N bw ba bt h.length ⟨mp,mb',S'.late,S'.head,S'.seen⟩ T' L2.w L2.t K.ok l aD bb x (p7 l p)
  have cv:mS T' l p=(p.lits.drop 0).find? (N9 T' l (p7 l p)):=rfl
  refine aF.intro (S:=λ(j:Nat)=>⟨[(2,.pv (.ptr h.length 0)),(3,.pv (.ptr (h.length+1) 0)),(5,.own true 1 (ae zs)),(6,.pv (.fn (.func 234) [] [.ptr (h.length+1) 0,.ptr h.length 0])),(22,.al (.slot 5)),(23,.pv (ab zs.length)),(24,.pv (ab i)),(8,.pv (.ptr H.length 0)),(9,.pv (.ptr b 0)),(10,.pv (ab Q)),(11,.pv (ab (p7 l p))),(50,.pv (.seq false 1 (ae p.lits))),(51,.pv (ab p.lits.length)),(52,.pv (ab j))],N⟩)
    (λj=>j<=p.lits.length∧mS T' l p=(p.lits.drop j).find? (N9 T' l (p7 l p))) (λj=>p.lits.length -j) 0 ?_ ⟨Te _,cv⟩ ?_
  · exact ai.keep (by simp) rfl
  rintro j ⟨hj,u⟩
  have ct:=K.lits
  by_cases dj:j<p.lits.length
  · have cy:=dZ j
    have cw:p.lits[j]?=some p.lits[j]:=SH dj
    rw[TJ dj,List.find?_cons]at u
    simp[dj,cw]
    refine am.intro (kO p.lits[j]) ?_
    rintro _ H3 ⟨bi,rfl⟩
    rw[bi]
    clear bi H3
    cases ho:N9 T' l (p7 l p) p.lits[j]
    · rw[ho]at u
      simp only at u
      simp
      exact⟨j+1,by(try dsimp only);omega,⟨by(try dsimp only);omega,u⟩,ai.keep (by simp[cy]) rfl⟩
    · rw[ho]at u
      simp only at u
      have cq:(Q:Int)<2:=by omega
      have cr:Q+1<=2:=by omega
      simp[cq,cr,g1,g2,p6,jD]
      refine⟨by omega,?_⟩
      have aP:List.take (1+Q) [SV.pv (PV.seq false 1 (ae p.lits)),SV.pv (ab p.x),SV.pv (ab p.y)]++SV.pv (ab p.lits[j])::List.drop (1+Q) [SV.pv (ab p.x),SV.pv (ab p.y)]=p6 (jk l p p.lits[j]):=by
        unfold jk
        by_cases c:p.x=l
        · rw[SN c]at E
          subst E
          rw[SN c];rfl
        · rw[SM c]at E
          subst E
          rw[SM c];rfl
      rw[aP]
      clear aP
      have eS:oY S' T' l k p=rR S' k l p p.lits[j]:=by unfold oY;rw[u]
      have eT:p9 T' l k p=T':=by unfold p9;rw[u]
      have eB:qT T' l p=false:=by unfold qT;rw[u]
      rw[SM (by rw[eB];simp)]at hZ
      have V:=V eB
      rw[eS,eT]at hZ V
      generalize p.lits[j]=x at*
      have L6:=L2.setP hb (jk l p x) (L2.keys.trans (eP _ K.hp).symm)
      have E6:=Ext.set (h:=N) (D:=aR bw bt mp mb') b (p6 (jk l p x)) (.inr (.inr (.inl ⟨k,hb⟩)))
      have n2:¬aR bw bt mp mb' h.length:=af _ (SQ _) (by omega)
      have n3:¬aR bw bt mp mb' (h.length+1):=af _ (by omega) (by omega)
      generalize cW:N.set b (p6 (jk l p x))=H6 at*
      have aG:H6[h.length]?=some [.pv (.ptr bw 0)]:=by rw[E6.same h.length c1 n2,aD]
      have aH:H6[h.length+1]?=some [.pv (ab l)]:=by rw[E6.same (h.length+1) d1 n3,bb]
      have aq:H6[H.length]?=some [.pv (ab k)]:=by rw[E6.same H.length f1 F,aA]
      obtain⟨b8,b9⟩:=SG.1 L6.w
      obtain⟨bj,ca⟩:=SG.1 aG
      obtain⟨cb,cc⟩:=SG.1 aH
      obtain⟨bl,cd⟩:=SG.1 aq
      obtain⟨z9,a7,bS⟩:=K.byl
      obtain⟨s,aW,⟨aE,b4,b5,b7,cR,cS⟩,ag,cT,cU⟩:=L6.some_b (show lk S'.byl l=some z9 from a7)
      have aQ:z9.length<=1000000:=K.hz l z9 a7
      have a4:0<z9.length:=Up.2 bS
      have O:aR bw bt mp mb' s.b:=.inr (.inr (.inr ⟨l,s,aW,rfl⟩))
      have aM:H.length≠s.b:=λq=>F (q▸O)
      have bK:s.b≠h.length:=λq=>n2 (q▸O)
      have bL:s.b≠h.length+1:=λq=>n3 (q▸O)
      have aw:=iZ z9 aQ 236 [.iptr 1 [[ab k]] 0 0] (λq=>decide (q=k)) (λr=>by simp) rfl (λm=>by simp) (by simp) (λq _=>Jw q k)
      have aK:(bk (λq=>decide (q=k)) z9).length<=z9.length:=jW _ _
      obtain⟨M,bI⟩:∃M,M=bk (λq=>decide (q=k)) z9:=⟨_,rfl⟩
      unfold Lk at aw
      rw[←bI]at aw aK
      obtain⟨X9,aT⟩:∃X:List SV,X=(M++List.replicate (z9.length -M.length) 0).map (λz=>SV.pv (.lit (.int .i64 z)))++aE:=⟨_,rfl⟩
      have bH:X9=aN M++((List.replicate (z9.length -M.length) 0).map (λz=>SV.pv (.lit (.int .i64 z)))++aE):=by
        rw[aT,TA,Tn];rfl
      have L7:=L6.setB aW M ((List.replicate (z9.length -M.length) 0).map (λz=>SV.pv (.lit (.int .i64 z)))++aE) (λm=>qR m (b5 m) _) M.length rfl (by omega) (by simp;omega)
      rw[←bH]at L7
      have E7:Ext H6 ((H6.set s.b X9).set bw (ce ba bt ⟨mp,pt mb' l ⟨s.b,M.length,s.cp⟩,S'.late,S'.head,S'.seen⟩)) (aR bw bt mp mb') (aR bw bt mp (pt mb' l ⟨s.b,M.length,s.cp⟩)):=by
        refine(((Ext.set s.b X9 O).trans (Ext.set bw _ (.inl rfl))).dom ?_)
        rintro c _ (q|q|q|⟨l',e',q,rfl⟩)
        · exact .inl q
        · exact .inr (.inl q)
        · exact .inr (.inr (.inl q))
        · rw[bJ]at q
          split at q
          · cases q;exact O
          · exact .inr (.inr (.inr ⟨l',e',q,rfl⟩))
      obtain⟨H7a,C⟩:∃H7a,H7a=H6.set s.b X9:=⟨_,rfl⟩
      rw[←C]at L7 E7
      have aJ:H7a[bw]?=some (ce ba bt ⟨mp,mb',S'.late,S'.head,S'.seen⟩):=by rw[C,Tc ag];exact L6.w
      have ah:H7a[h.length]?=some [.pv (.ptr bw 0)]:=by rw[C,Tc bK,aG]
      have aI:H7a[h.length+1]?=some [.pv (ab l)]:=by rw[C,Tc bL,aH]
      have aj:H7a[H.length]?=some [.pv (ab k)]:=by rw[C,Tc aM.symm,aq]
      obtain⟨bm,bn⟩:=SG.1 aJ
      obtain⟨bo,bp⟩:=SG.1 ah
      obtain⟨bq,br⟩:=SG.1 aI
      obtain⟨bu,bv⟩:=SG.1 aj
      have fF:=And.intro QT (And.intro b8 (And.intro b9 (And.intro bj (And.intro ca (And.intro cb (And.intro cc (And.intro bl (And.intro cd (And.intro bm (And.intro bn (And.intro bo (And.intro bp (And.intro bq (And.intro br (And.intro bu (And.intro bv (And.intro aW (And.intro ag ag.symm))))))))))))))))))
      refine bc.tab [] ⟨[some (66,.pv (.ptr bw 0)),some (67,.pv (.ptr bw 0)),some (68,.pv (.ptr bw 3)),some (69,.al (.cell bw 3)),some (70,.pv (ab l)),some (71,.pv (.ptr bw 0)),some (72,.pv (.ptr bw 0)),some (73,.pv (.ptr bw 3)),some (74,.al (.cell bw 3)),some (75,.pv (ab l)),some (76,.pv (.bsl s.b 1 0 s.n s.cp)),some (77,.pv (.fn (.func 236) [] [.ptr H.length 0])),some (78,.pv (.bsl s.b 1 0 M.length s.cp)),none],[(2,.pv (.ptr h.length 0)),(3,.pv (.ptr (h.length+1) 0)),(5,.own true 1 (ae zs)),(6,.pv (.fn (.func 234) [] [.ptr (h.length+1) 0,.ptr h.length 0])),(8,.pv (.ptr H.length 0)),(13,.pv (ab x)),(22,.al (.slot 5)),(23,.pv (ab zs.length)),(24,.pv (ab i))],[[],[0],[1],[2],[],[],[5],[6],[7],[],[8,9],[],[10,11],[3,4,12]],[12,13],[[0,1],[0,1],[0,1],[0,1],[0,1],[0,1],[0,1],[0],[0],[0],[0],[0],[0],[1]],[],λ|0=>H6|1=>H7a|_=>H7a.set bw (ce ba bt ⟨mp,pt mb' l ⟨s.b,M.length,s.cp⟩,S'.late,S'.head,S'.seen⟩)⟩ ⟨[(2,.pv (.ptr h.length 0)),(3,.pv (.ptr (h.length+1) 0)),(5,.own true 1 (ae zs)),(6,.pv (.fn (.func 234) [] [.ptr (h.length+1) 0,.ptr h.length 0])),(8,.pv (.ptr H.length 0)),(13,.pv (ab x)),(22,.al (.slot 5)),(23,.pv (ab zs.length)),(24,.pv (ab i))],H7a.set bw (ce ba bt ⟨mp,pt mb' l ⟨s.b,M.length,s.cp⟩,S'.late,S'.head,S'.seen⟩)⟩ (by kernel_rfl) (by simp[wn,bs]) rfl ?_ (λt h1 g=>?_) ?_
      · simp only[Tb.steps,KQ,Tb.lvA,Tb.dpA,B2,vN,UP,Ve,cP,eK,nR,jK,fA,fo,K8,iT,ld,TU,U2,Vy,WX,VX,Xe,Xd,U1,Vs,TM,Uo]
        and_intros
        all_goals first|trivial|(intro t h1 g;simp only[wn,bs,TH,Tz]at h1;simp[fF,wn,h1,g,Tb.postL,Tb.wth,xC,vN,bs,b6]<;>and_intros<;>first|omega|(intro e;simp[fF,wn,e]))|(intro t h1 g;simp only[wn,bs,TH,Tz]at h1;simp[fF,wn,h1,g,Tb.postL,Tb.wth,xC,vN,bs,b6])
        · refine am.introX (bU.introT (b:=s.b) (b2:=H.length) (zs:=z9) (sp:=aE) (cp:=s.cp) aw (by simp[h1,g]) (by simp[h1,g]) rfl (by simp[h1,g]) (by simp[b7,h1,g]) (by simp[h1,g]) (by simp[h1,g]) b4 aq aM a4 aQ ?_)
          rintro _ _ ⟨rfl,rfl⟩
          refine⟨_,_,rfl,rfl,by simp;omega,aK,?_⟩
          rw[←aT,←C]
          simp[fF,wn,ag,ag.symm,aL,h1,g,Tb.postL,Tb.wth,xC,vN,bs,b6]<;>and_intros<;>(intro e;simp[fF,aL,e])
      · simp only[wn,bs,TH,Tz]at h1 g;simp[KR]at g;exact ai.keep (by simp[wn,h1,g]) rfl
      have cm:eq S'.byl k l=pt S'.byl l M:=by unfold eq;rw[SM K.l0,a7,Tx,bI]
      have ad:(H7a.set bw (ce ba bt ⟨mp,pt mb' l ⟨s.b,M.length,s.cp⟩,S'.late,S'.head,S'.seen⟩))[h.length]?=some [.pv (.ptr bw 0)]:=by rw[Tc (λq=>n2 (.inl q.symm)),ah]
      have bC:(H7a.set bw (ce ba bt ⟨mp,pt mb' l ⟨s.b,M.length,s.cp⟩,S'.late,S'.head,S'.seen⟩))[H.length]?=some [.pv (ab k)]:=by rw[Tc (λq=>F (.inl q.symm)),aj]
      rw[←cm]at L7
      have cA:=ug (k:=k) (l:=l) K.hz
      clear fF bm bn bo bp bq br bu bv aJ ah aI aj C aw aT bH
      generalize pt mb' l ⟨s.b,M.length,s.cp⟩=a at*
      generalize H7a.set bw (ce ba bt ⟨mp,a,S'.late,S'.head,S'.seen⟩)=I at*
      have n7:¬aR bw bt mp a h.length:=λq=>n2 (E6.sub _ c1 (E7.sub _ bj q))
      have c3:¬aR bw bt mp a H.length:=λq=>F (E6.sub _ f1 (E7.sub _ bl q))
      obtain⟨au,bx⟩:=SG.1 L7.w
      obtain⟨av,bz⟩:=SG.1 ad
      obtain⟨bA,bB⟩:=SG.1 bC
      obtain⟨JE,ay⟩:∃JE:List (List SV)->List (Int×By)->Prop,∀Y m,JE Y m↔(LayW Y bw ba bt mp m A T' (rR S' k l p x)∧Ext I Y (aR bw bt mp a) (aR bw bt mp m)):=⟨_,λ_ _=>Iff.rfl⟩
      have dom:∀e',(∀c,c<I.length->e'.b=c->∃l0 e0,lk a l0=some e0∧e0.b=c)->∀c,c<I.length->aR bw bt mp (pt a x e') c->aR bw bt mp a c:=λe' ck c hc q=>by
        rcases q with q|q|q|⟨l',f,q,q2⟩
        · exact .inl q
        · exact .inr (.inl q)
        · exact .inr (.inr (.inl q))
        · rw[bJ]at q
          split at q
          · cases q;exact .inr (.inr (.inr (ck c hc q2)))
          · exact .inr (.inr (.inr ⟨l',f,q,q2⟩))
      have aO:∀(v:List (List SV)×List (Int×By)),JE v.1 v.2->LayW v.1 bw ba bt mp v.2 A T' (rR S' k l p x)∧Ext G v.1 (aR bw bt mp mb) (aR bw bt mp v.2):=λv hj=>by
        obtain⟨j1,j2⟩:=(ay _ _).1 hj
        exact⟨j1,(hE.trans E2).trans ((E6.trans E7).trans j2)⟩
      simp
      cases P:lk a x with
      |none=>
        have ch:=L7.byn x P
        have aB:rR S' k l p x=⟨pt S'.prs k (jk l p x),pt (eq S'.byl k l) x [k],S'.late,S'.head,S'.seen⟩:=by
          unfold rR gL
          rw[show lk (eq S'.byl k l) x=none from ch];rfl
        have bP:∀cap,1<=cap->(I++[SV.pv (ab k)::List.replicate (cap -1) (SV.pv .bot)])[bw]?=some (ce ba bt ⟨mp,a,S'.late,S'.head,S'.seen⟩)∧(I++[SV.pv (ab k)::List.replicate (cap -1) (SV.pv .bot)])[h.length]?=some [.pv (.ptr bw 0)]∧JE ((I++[SV.pv (ab k)::List.replicate (cap -1) (SV.pv .bot)]).set bw (ce ba bt ⟨mp,pt a x ⟨I.length,1,cap⟩,S'.late,S'.head,S'.seen⟩)) (pt a x ⟨I.length,1,cap⟩):=λcap hc=>by
          refine⟨by rw[SO au];exact L7.w,by rw[SO av,ad],(ay _ _).2 ⟨?_,?_⟩⟩
          · rw[aB]
            exact L7.newB x [k] (List.replicate (cap -1) (SV.pv .bot)) (λm=>ic m _) 1 cap rfl hc (by simp;omega)
          · refine(((Ext.app I [SV.pv (ab k)::List.replicate (cap -1) (SV.pv .bot)] _).trans (Ext.set bw _ (.inl rfl))).dom (dom _ λc hc e=>?_))
            simp only at e;omega
        have U:=And.intro QT (And.intro au (And.intro bx (And.intro av (And.intro bz (And.intro bA (And.intro bB P))))))
        refine bc.tab2 [92] ⟨[some (79,.pv (.ptr bw 0)),some (80,.pv (.ptr bw 0)),some (81,.pv (.ptr bw 3)),some (82,.al (.cell bw 3)),some (83,.pv (ab x)),some (84,.pv (.ptr bw 0)),some (85,.pv (.ptr bw 0)),some (86,.pv (.ptr bw 3)),some (87,.al (.cell bw 3)),some (88,.pv (ab x)),some (89,.pv (.lit (.slice none 0 0))),some (90,.pv (ab k)),some (91,.own true 1 [[ab k]]),none,none],[(2,.pv (.ptr h.length 0)),(3,.pv (.ptr (h.length+1) 0)),(5,.own true 1 (ae zs)),(6,.pv (.fn (.func 234) [] [.ptr (h.length+1) 0,.ptr h.length 0])),(8,.pv (.ptr H.length 0)),(13,.pv (ab x)),(22,.al (.slot 5)),(23,.pv (ab zs.length)),(24,.pv (ab i))],[[],[0],[1],[2],[],[],[5],[6],[7],[],[8,9],[],[11],[10,12],[3,4,13]],[13,14],[[0,1],[0,1],[0,1],[0,1],[0,1],[0,1],[0,1],[0],[0],[0],[0],[0],[0],[0],[1]],[(13,91)],λ_=>I⟩ (λq:List (List SV)×By=>[some (79,.pv (.ptr bw 0)),some (80,.pv (.ptr bw 0)),some (81,.pv (.ptr bw 3)),some (82,.al (.cell bw 3)),some (83,.pv (ab x)),some (84,.pv (.ptr bw 0)),some (85,.pv (.ptr bw 0)),some (86,.pv (.ptr bw 3)),some (87,.al (.cell bw 3)),some (88,.pv (ab x)),some (89,.pv (.lit (.slice none 0 0))),some (90,.pv (ab k)),some (91,.own true 1 [[ab k]]),some (92,.pv (.bsl q.2.b 1 0 q.2.n q.2.cp)),none]) (λq:List (List SV)×By=>λ|1=>q.1|_=>q.1.set bw (ce ba bt ⟨mp,pt a x q.2,S'.late,S'.head,S'.seen⟩)) (λq:List (List SV)×By=>q.1[bw]?=some (ce ba bt ⟨mp,a,S'.late,S'.head,S'.seen⟩)∧q.1[h.length]?=some [.pv (.ptr bw 0)]∧JE (q.1.set bw (ce ba bt ⟨mp,pt a x q.2,S'.late,S'.head,S'.seen⟩)) (pt a x q.2)) 13 0 [13,14] (by kernel_rfl) (λ_=>by kernel_rfl) rfl (by kernel_rfl) (λ_=>by simp[QD]) (by simp[bs]) rfl ?_ ?_
        · simp only[Tb.steps2,KQ,Tb.lvA,Tb.dpA,B2,vN,UP,Ve,cP,eK,nR,jK,fA,fo,K8,iT,ld,TU,U2,Vy,WX,VX,Xe,Xd,U1,Vs,TM,Uo]
          simp only[Nat.reduceLeDiff,Nat.reduceEqDiff,Nat.reduceAdd,UO,Uo,SQ,Te]
          and_intros
          all_goals first|trivial|(intro t h1 g;simp only[bs,TH,Tz]at h1;simp[U,wn,h1,g,Tb.postL,Tb.wth,xC,vN,bs,b6]<;>and_intros<;>first|omega|(intro e;simp[U,wn,e]))|(rintro t h1 q hy g;simp only[bs,TH,Tz]at h1;obtain⟨yw,yb,yj⟩:=hy;obtain⟨bf,bg⟩:=SG.1 yw;obtain⟨bd,be⟩:=SG.1 yb;simp[QT,wn,bf,bg,bd,be,h1,g,Tb.postL,Tb.wth,xC,vN,bs,b6]<;>and_intros<;>first|omega|(intro e;simp[U,wn,e]))|skip
          · intro t h1 g;simp only[bs,TH,Tz]at h1
            simp[-Prod.exists,U,wn,h1,g]
            intro cap hc
            refine⟨(_,⟨I.length,1,cap⟩),bP cap hc,?_⟩
            simp[U,h1,g,Tb.postL,Tb.wth,xC,vN,bs,b6]<;>and_intros<;>(intro e;simp[U,e])
        · rintro q hy t h1 g
          simp only[bs,TH,Tz]at h1;simp[KR]at g
          obtain⟨v,W⟩:∃v:List (List SV)×List (Int×By),v=(q.1.set bw (ce ba bt ⟨mp,pt a x q.2,S'.late,S'.head,S'.seen⟩),pt a x q.2):=⟨_,rfl⟩
          refine⟨_,ai.keep (t1:=[(2,.pv (.ptr h.length 0)),(3,.pv (.ptr (h.length+1) 0)),(5,.own true 1 (ae zs)),(6,.pv (.fn (.func 234) [] [.ptr (h.length+1) 0,.ptr h.length 0])),(8,.pv (.ptr H.length 0)),(13,.pv (ab x)),(22,.al (.slot 5)),(23,.pv (ab zs.length)),(24,.pv (ab i))]) (h1:=v.1) (by simp[h1,g]) (by rw[W];rfl),?_⟩
          have a3:JE v.1 v.2:=by rw[W];exact hy.2.2
          obtain⟨j1,j2⟩:=aO v a3
          simp
          exact⟨(i+1,v.1,v.2,rR S' k l p x,T'),by(try dsimp only);omega,⟨by(try dsimp only);omega,j1,V,j2,hZ⟩,ai.keep (by simp[a6]) rfl⟩
      |some f=>
        obtain⟨B,bT,⟨o,b0,b3,aS,cM,cN⟩,a9,cO,cQ⟩:=L7.by' x f P
        obtain⟨cH,cJ⟩:=SG.1 b0
        have aB:rR S' k l p x=⟨pt S'.prs k (jk l p x),pt (eq S'.byl k l) x (B++[k]),S'.late,S'.head,S'.seen⟩:=by
          unfold rR gL
          rw[show lk (eq S'.byl k l) x=some B from bT];rfl
        have a0:(aN B).length=f.n:=by rw[oW];exact aS
        have c0:f.n<=1000000:=by rw[←aS];exact cA x B bT
        have bM:aR bw bt mp a f.b:=.inr (.inr (.inr ⟨x,f,P,rfl⟩))
        have cG:f.b≠h.length:=λq=>n7 (q▸bM)
        have bh:∀m (s0:List SV),cD m s0->cD m (s0.drop 1):=λm s0 bR=>by cases s0 with|nil=>exact bR|cons _ _=>exact bR.2
        have cY:(aN B++o).length=f.n+o.length:=by rw[SX,a0]
        have az:(aN B++o).take f.n=aN B:=UR a0
        have bG:(aN B++o).take f.n=(B.map λz=>PV.lit (.int .i64 z)).map SV.pv:=by rw[az];unfold aN;rw[TT];rfl
        have an:∀R:List SV,aN (B++[k])++R=aN B++SV.pv (ab k)::R:=λR=>by unfold aN;rw[TA,Tn];rfl
        have bD:(aN B++o).drop (f.n+1)=o.drop 1:=by rw[←a0,WT];simp
        have a5:f.n+1<=f.cp->(I.set f.b (List.take f.n (aN B++o)++SV.pv (ab k)::List.drop (f.n+1) (aN B++o)))[bw]?=some (ce ba bt ⟨mp,a,S'.late,S'.head,S'.seen⟩)∧(I.set f.b (List.take f.n (aN B++o)++SV.pv (ab k)::List.drop (f.n+1) (aN B++o)))[h.length]?=some [.pv (.ptr bw 0)]∧
            JE ((I.set f.b (List.take f.n (aN B++o)++SV.pv (ab k)::List.drop (f.n+1) (aN B++o))).set bw (ce ba bt ⟨mp,pt a x ⟨f.b,f.n+1,f.cp⟩,S'.late,S'.head,S'.seen⟩)) (pt a x ⟨f.b,f.n+1,f.cp⟩):=λhr=>by
          refine⟨by rw[Tc a9];exact L7.w,by rw[Tc cG,ad],(ay _ _).2 ⟨?_,?_⟩⟩
          · rw[az,bD,←an,aB]
            exact L7.setB P (B++[k]) (o.drop 1) (λm=>bh m o (b3 m)) (f.n+1) (by simp;omega) hr (by rw[TF];omega)
          · refine(((Ext.set f.b _ bM).trans (Ext.set bw _ (.inl rfl))).dom (dom _ λc hc q=>?_))
            exact⟨x,f,P,q⟩
        have aX:∀cap,f.n+1<=cap->(I++[(B.map λz=>PV.lit (.int .i64 z)).map SV.pv++SV.pv (ab k)::List.replicate (cap -(f.n+1)) (SV.pv .bot)])[bw]?=some (ce ba bt ⟨mp,a,S'.late,S'.head,S'.seen⟩)∧(I++[(B.map λz=>PV.lit (.int .i64 z)).map SV.pv++SV.pv (ab k)::List.replicate (cap -(f.n+1)) (SV.pv .bot)])[h.length]?=some [.pv (.ptr bw 0)]∧
            JE ((I++[(B.map λz=>PV.lit (.int .i64 z)).map SV.pv++SV.pv (ab k)::List.replicate (cap -(f.n+1)) (SV.pv .bot)]).set bw (ce ba bt ⟨mp,pt a x ⟨I.length,f.n+1,cap⟩,S'.late,S'.head,S'.seen⟩)) (pt a x ⟨I.length,f.n+1,cap⟩):=λcap hc=>by
          refine⟨by rw[SO au];exact L7.w,by rw[SO av,ad],(ay _ _).2 ⟨?_,?_⟩⟩
          · rw[aB,←bG,az,←an]
            exact L7.newB x (B++[k]) (List.replicate (cap -(f.n+1)) (SV.pv .bot)) (λm=>ic m _) (f.n+1) cap (by simp;omega) hc (by simp;omega)
          · refine(((Ext.app I _ _).trans (Ext.set bw _ (.inl rfl))).dom (dom _ λc hc q=>?_))
            simp only at q;omega
        clear az bD an
        generalize cX:aN B++o=Yc at*
        have U:=And.intro QT (And.intro au (And.intro bx (And.intro av (And.intro bz (And.intro bA (And.intro bB (And.intro P (And.intro cH (And.intro cJ (And.intro a9 a9.symm))))))))))
        refine bc.tab2 [92] ⟨[some (79,.pv (.ptr bw 0)),some (80,.pv (.ptr bw 0)),some (81,.pv (.ptr bw 3)),some (82,.al (.cell bw 3)),some (83,.pv (ab x)),some (84,.pv (.ptr bw 0)),some (85,.pv (.ptr bw 0)),some (86,.pv (.ptr bw 3)),some (87,.al (.cell bw 3)),some (88,.pv (ab x)),some (89,.pv (.bsl f.b 1 0 f.n f.cp)),some (90,.pv (ab k)),some (91,.own true 1 [[ab k]]),none,none],[(2,.pv (.ptr h.length 0)),(3,.pv (.ptr (h.length+1) 0)),(5,.own true 1 (ae zs)),(6,.pv (.fn (.func 234) [] [.ptr (h.length+1) 0,.ptr h.length 0])),(8,.pv (.ptr H.length 0)),(13,.pv (ab x)),(22,.al (.slot 5)),(23,.pv (ab zs.length)),(24,.pv (ab i))],[[],[0],[1],[2],[],[],[5],[6],[7],[],[8,9],[],[11],[10,12],[3,4,13]],[13,14],[[0,1],[0,1],[0,1],[0,1],[0,1],[0,1],[0,1],[0],[0],[0],[0],[0],[0],[0],[1]],[(13,91)],λ_=>I⟩ (λq:List (List SV)×By=>[some (79,.pv (.ptr bw 0)),some (80,.pv (.ptr bw 0)),some (81,.pv (.ptr bw 3)),some (82,.al (.cell bw 3)),some (83,.pv (ab x)),some (84,.pv (.ptr bw 0)),some (85,.pv (.ptr bw 0)),some (86,.pv (.ptr bw 3)),some (87,.al (.cell bw 3)),some (88,.pv (ab x)),some (89,.pv (.bsl f.b 1 0 f.n f.cp)),some (90,.pv (ab k)),some (91,.own true 1 [[ab k]]),some (92,.pv (.bsl q.2.b 1 0 q.2.n q.2.cp)),none]) (λq:List (List SV)×By=>λ|1=>q.1|_=>q.1.set bw (ce ba bt ⟨mp,pt a x q.2,S'.late,S'.head,S'.seen⟩)) (λq:List (List SV)×By=>q.1[bw]?=some (ce ba bt ⟨mp,a,S'.late,S'.head,S'.seen⟩)∧q.1[h.length]?=some [.pv (.ptr bw 0)]∧JE (q.1.set bw (ce ba bt ⟨mp,pt a x q.2,S'.late,S'.head,S'.seen⟩)) (pt a x q.2)) 13 0 [13,14] (by kernel_rfl) (λ_=>by kernel_rfl) rfl (by kernel_rfl) (λ_=>by simp[QD]) (by simp[bs]) rfl ?_ ?_
        · simp only[Tb.steps2,KQ,Tb.lvA,Tb.dpA,B2,vN,UP,Ve,cP,eK,nR,jK,fA,fo,K8,iT,ld,TU,U2,Vy,WX,VX,Xe,Xd,U1,Vs,TM,Uo]
          simp only[Nat.reduceLeDiff,Nat.reduceEqDiff,Nat.reduceAdd,UO,Uo,SQ,Te]
          and_intros
          all_goals first|trivial|(intro t h1 g;simp only[bs,TH,Tz]at h1;simp[U,wn,h1,g,Tb.postL,Tb.wth,xC,vN,bs,b6]<;>and_intros<;>first|omega|(intro e;simp[U,wn,e]))|(rintro t h1 q hy g;simp only[bs,TH,Tz]at h1;obtain⟨yw,yb,yj⟩:=hy;obtain⟨bf,bg⟩:=SG.1 yw;obtain⟨bd,be⟩:=SG.1 yb;simp[QT,wn,bf,bg,bd,be,h1,g,Tb.postL,Tb.wth,xC,vN,bs,b6]<;>and_intros<;>first|omega|(intro e;simp[U,wn,e]))|skip
          · intro t h1 g;simp only[bs,TH,Tz]at h1
            simp[-Prod.exists,U,wn,h1,g]
            refine⟨by omega,by omega,_,bG,by simpa using aS,λhr=>?_,λhn cap hc=>?_⟩
            · refine⟨(_,⟨f.b,f.n+1,f.cp⟩),a5 hr,?_⟩
              simp[U,h1,g,Tb.postL,Tb.wth,xC,vN,bs,b6]<;>and_intros<;>(intro e;simp[U,e])
            · refine⟨(_,⟨I.length,f.n+1,cap⟩),aX cap hc,?_⟩
              simp[U,h1,g,Tb.postL,Tb.wth,xC,vN,bs,b6]<;>and_intros<;>(intro e;simp[U,e])
        · rintro q hy t h1 g
          simp only[bs,TH,Tz]at h1;simp[KR]at g
          obtain⟨v,W⟩:∃v:List (List SV)×List (Int×By),v=(q.1.set bw (ce ba bt ⟨mp,pt a x q.2,S'.late,S'.head,S'.seen⟩),pt a x q.2):=⟨_,rfl⟩
          refine⟨_,ai.keep (t1:=[(2,.pv (.ptr h.length 0)),(3,.pv (.ptr (h.length+1) 0)),(5,.own true 1 (ae zs)),(6,.pv (.fn (.func 234) [] [.ptr (h.length+1) 0,.ptr h.length 0])),(8,.pv (.ptr H.length 0)),(13,.pv (ab x)),(22,.al (.slot 5)),(23,.pv (ab zs.length)),(24,.pv (ab i))]) (h1:=v.1) (by simp[h1,g]) (by rw[W];rfl),?_⟩
          have a3:JE v.1 v.2:=by rw[W];exact hy.2.2
          obtain⟨j1,j2⟩:=aO v a3
          simp
          exact⟨(i+1,v.1,v.2,rR S' k l p x,T'),by(try dsimp only);omega,⟨by(try dsimp only);omega,j1,V,j2,hZ⟩,ai.keep (by simp[a6]) rfl⟩
  · have:j=p.lits.length:=by omega
    subst this
    rw[Tq (SQ _),List.find?_nil]at u
    have kF:=ue N bw ba bt mp mb' A T' S' L2 k p K.hp K.hx K.hy K.hz
    have eS:oY S' T' l k p=jN (lZ (fq S' k p) k) T' k (p8 p):=by unfold oY;rw[u]
    have eT:p9 T' l k p=mf T' k (p8 p):=by unfold p9;rw[u]
    have eB:qT T' l p=mQ T' (p8 p):=by unfold qT;rw[u]
    simp[f1,f2,c1,c2]
    refine am.intro kF ?_
    rintro _ H3 ⟨rfl,aa,L3,E3⟩
    have P:H.length<N.length:=f1
    have n2:¬aR bw bt mp mb' h.length:=af _ (SQ _) (by omega)
    have n3:¬aR bw bt mp mb' (h.length+1):=af _ (by omega) (by omega)
    have bY:H3[h.length]?=some [.pv (.ptr bw 0)]:=by rw[E3.same h.length c1 n2,aD]
    have bZ:H3[H.length]?=some [.pv (ab k)]:=by rw[E3.same H.length f1 F,aA]
    obtain⟨s1,s2⟩:=SG.1 L3.w
    obtain⟨t1,t2⟩:=SG.1 bY
    obtain⟨u1,u2⟩:=SG.1 bZ
    have L4:=L3.setW (pt S'.late k (aY ((lk S'.late k).getD 0+1))) S'.head S'.seen
    have E4:=Ext.set (h:=H3) (D:=aR bw bt mp aa) bw (ce ba bt ⟨mp,aa,pt S'.late k (aY ((lk S'.late k).getD 0+1)),S'.head,S'.seen⟩) (.inl rfl)
    have cK:(H3.set bw (ce ba bt ⟨mp,aa,pt S'.late k (aY ((lk S'.late k).getD 0+1)),S'.head,S'.seen⟩))[h.length]?=some [.pv (.ptr bw 0)]:=by
      rw[Tc (λq=>n2 (.inl q.symm)),bY]
    have cL:(H3.set bw (ce ba bt ⟨mp,aa,pt S'.late k (aY ((lk S'.late k).getD 0+1)),S'.head,S'.seen⟩))[H.length]?=some [.pv (ab k)]:=by
      rw[Tc (λq=>F (.inl q.symm)),bZ]
    simp
    refine bc.meet Ea ⟨[(2,.pv (.ptr h.length 0)),(3,.pv (.ptr (h.length+1) 0)),(5,.own true 1 (ae zs)),(6,.pv (.fn (.func 234) [] [.ptr (h.length+1) 0,.ptr h.length 0])),(22,.al (.slot 5)),(23,.pv (ab zs.length)),(24,.pv (ab i)),(8,.pv (.ptr H.length 0))],H3.set bw (ce ba bt ⟨mp,aa,pt S'.late k (aY ((lk S'.late k).getD 0+1)),S'.head,S'.seen⟩)⟩ (by kernel_rfl) ?_ ?_
    · simp[Ea,s1,s2,ce,t1,t2,u1,u2,fq]
      and_intros
      all_goals exact ai.keep (by simp) (by simp[ce])
    generalize H3.set bw (ce ba bt ⟨mp,aa,pt S'.late k (aY ((lk S'.late k).getD 0+1)),S'.head,S'.seen⟩)=H4 at*
    obtain⟨y1,y2⟩:=SG.1 cK
    obtain⟨z1,z2⟩:=SG.1 cL
    have cu:lk (fq S' k p).prs k=some (p8 p):=by
      show lk (pt S'.prs k _) k=_
      rw[bJ,SN rfl];rfl
    have kR:=wl H4 bw ba bt mp aa A T' (lZ (fq S' k p) k) L4 k (p8 p) cu K.ok K.tl K.lits (ug (ug K.hz))
    simp[y1,y2,z1,z2]
    refine am.intro kR ?_
    rintro _ H5 ⟨rfl,a8,L5,E5⟩
    rw[←eS,←eT]at L5
    rw[←eB]
    have E35:Ext N H5 (aR bw bt mp mb') (aR bw bt mp a8):=(E3.trans E4).trans E5
    cases aU:qT T' l p
    · rw[SM (by rw[aU];simp)]at hZ
      simp
      exact⟨(i+1,H5,a8,oY S' T' l k p,p9 T' l k p),by(try dsimp only);omega,⟨by(try dsimp only);omega,L5,V aU,(hE.trans E2).trans E35,hZ⟩,ai.keep (by simp[a6]) rfl⟩
    · rw[SN aU]at hZ
      subst hZ
      have cs:H5[H.length]?=some [.pv (ab k)]:=by
        rw[E35.same H.length f1 F,aA]
      obtain⟨o1,o2⟩:=SG.1 cs
      simp[o1,o2]
      exact⟨a8,L5,E0.trans ((hE.trans E2).trans E35)⟩
end Go.AX
namespace Go.AX
open Go.Proofs
set_option linter.unusedSimpArgs false
def fY(S:WS)(T:Tr)(l:Int):WS×Tr×Int:=match lk S.byl l with
 |some zs=>ig l zs S T
 |none=>(S,T,-1)
def Oa(S:WS):WS:=⟨S.prs,S.byl,S.late,aY (S.head+1),S.seen⟩
def dG(T:Tr)(S:WS):Int:=aY (-(T.lits.getD S.head.toNat 0))
def lK:Nat->WS->Tr->WS×Tr×Int
 |0,S,T=>(S,T,-1)
 |n+1,S,T=>if S.head<T.lits.length then(if 0<=(fY S T (dG T S)).2.2 then fY S T (dG T S)else lK n (Oa (fY S T (dG T S)).1) (fY S T (dG T S)).2.1)else(S,T,-1)
def cB(S:WS)(now:List Int):WS:=⟨S.prs,S.byl,S.late,if(iE S.seen now:Int)<S.head then(iE S.seen now:Int)else S.head,S.seen⟩
def fZ(S:WS)(T:Tr):WS×Tr×Int:=iv (bD (S.late.map (·.1))) S T
def iF(S:WS)(T:Tr):WS×Tr×Int:=if 0<=(fZ (cB S T.lits) T).2.2 then fZ (cB S T.lits) T else lK 1000001 (fZ (cB S T.lits) T).1 (fZ (cB S T.lits) T).2.1
def ft(S:WS)(T:Tr):WS×Tr×Int:=(⟨(iF S T).1.prs,(iF S T).1.byl,(iF S T).1.late,(iF S T).1.head,(iF S T).2.1.lits⟩,(iF S T).2.1,(iF S T).2.2)
theorem Cz(h:List (List SV))(bw ba bt:Nat)(mp:List (Int×Nat))(mb:List (Int×By))(A:Ar)(T:Tr)(S:WS)(L:LayW h bw ba bt mp mb A T S)(l:Int)(c:lk S.byl l=none):
 ax Tryz.prog 157 [.ptr bw 0,ab l] h (λr h'=>r=.pv (ab (-1))∧∃mb',LayW h' bw ba bt mp mb' A T S∧Ext h h' (aR bw bt mp mb) (aR bw bt mp mb')):=by
 refine cI [1,6,7,14,15,18] [.tmp 4] aC Tryz.func157 ?_;have b:lk mb l=none:=by
  cases k:lk mb l with
  |none=>rfl
  |some e=>obtain⟨zs,h1,_⟩:=L.by' l e k;rw[c]at h1;cases h1
 obtain⟨G,a⟩:∃G,G=h++[[SV.pv (.ptr bw 0)],[SV.pv (ab l)]]:=⟨_,rfl⟩;have L0:LayW G bw ba bt mp mb A T S:=by rw[a];exact L.app _
 have g:Ext h G (aR bw bt mp mb) (aR bw bt mp mb):=by rw[a];exact Ext.app _ _ _
 have d:G[h.length]?=some [.pv (.ptr bw 0)]:=by rw[a];simp
 have f:G[h.length+1]?=some [.pv (ab l)]:=by rw[a];simp
 obtain⟨m,n⟩:=SG.1 L0.w;obtain⟨i,j⟩:=SG.1 d;obtain⟨b1,b2⟩:=SG.1 f;simp;rw[←a];refine bc.meet xU ⟨[(2,.pv (.ptr h.length 0)),(3,.pv (.ptr (h.length+1) 0)),(5,.pv (.lit (.slice none 0 0)))],G⟩ (by kernel_rfl) ?_ ?_
 .simp[xU,m,n,ce,i,j,b1,b2,b];and_intros
  all_goals
   refine ah.intro Cj ?_;simp;exact ai.keep (by simp) rfl
 simp;refine aF.intro (S:=λ_:Unit=>⟨[(2,.pv (.ptr h.length 0)),(3,.pv (.ptr (h.length+1) 0)),(23,.pv (ab 0)),(24,.pv (ab 0))],G⟩) (λ_=>True) (λ_=>0) () ?_ trivial ?_
 .exact ai.keep (by simp) rfl
 rintro _ _;simp;exact⟨mb,L0,g⟩
structure ProOk (J:WS->Tr->Prop):Prop where
  ok:∀S T,J S T->T.ok∧T.lits.length<=1000000∧0<=S.head∧S.head<=T.lits.length
  step:∀S T,J S T->S.head<T.lits.length->∀zs,lk S.byl (dG T S)=some zs->zs.length<=1000000∧∃Jf:Nat->WS->Tr->Prop,Jf 0 S T∧∀i S' T',Jf i S' T'->∀(hi:i<zs.length),∃p,StepOk S' T' (dG T S) zs[i] p∧(qT T' (dG T S) p=false->Jf (i+1) (oY S' T' (dG T S) zs[i] p) (p9 T' (dG T S) zs[i] p))
  len:∀S T,J S T->S.head<T.lits.length->(fY S T (dG T S)).2.1.lits.length<=1000000
  next:∀S T,J S T->S.head<T.lits.length->¬0<=(fY S T (dG T S)).2.2->(fY S T (dG T S)).2.2=-1∧J (Oa (fY S T (dG T S)).1) (fY S T (dG T S)).2.1∧(fY S T (dG T S)).1.head=S.head∧T.lits<+:(fY S T (dG T S)).2.1.lits
set_option maxRecDepth 16000 in
theorem uU(h:List (List SV))(bw ba bt:Nat)(mp:List (Int×Nat))(mb:List (Int×By))(A:Ar)(T:Tr)(S:WS)(L:LayW h bw ba bt mp mb A T S)(ah:T.lits.length<=1000000)(aE:S.seen.length<=1000000)
 (s:List Int) (ad:bD (S.late.map (·.1))=s) (Y:Nat->WS->Tr->Prop) (ar:Y 0 (cB S T.lits) T) (ay:∀q∈S.late,DB q.1) (az:S.late.length<=1000000)
 (hB:∀i S' T',Y i S' T'->∀(hi:i<s.length),T'.ok∧T'.lits.length<=1000000∧(∀l zs,lk S'.byl l=some zs->zs.length<=1000000)∧∃p,lk S'.prs s[i]=some p∧p.lits.length<=1000000)
 (hJ:∀i S' T' p,Y i S' T'->∀(hi:i<s.length),lk S'.prs s[i]=some p->mQ T' p=false->Y (i+1) (jN S' T' s[i] p) (mf T' s[i] p))
 (af:(fZ (cB S T.lits) T).2.1.lits.length<=1000000) (J:WS->Tr->Prop) (U:ProOk J) (au:¬0<=(fZ (cB S T.lits) T).2.2->(fZ (cB S T.lits) T).2.2=-1∧J (fZ (cB S T.lits) T).1 (fZ (cB S T.lits) T).2.1):
 ax Tryz.prog 91 [.ptr bw 0] h (λr h'=>r=.pv (ab (ft S T).2.2)∧∃mb',LayW h' bw ba bt mp mb' A (ft S T).2.1 (ft S T).1∧Ext h h' (aR bw bt mp mb) (aR bw bt mp mb')):=by
 refine cI [] [.tmp 2] aC Tryz.func91 ?_;obtain⟨w1,w2⟩:=SG.1 L.w;have hz:=db L.t 2;have kM:=ud h bw ba bt _ L.w;have kL:=ge T ah;have kS:=Cx h bw ba bt ⟨mp,mb,S.late,S.head,S.seen⟩ T.lits L.w ah aE;have L1:=L.setW S.late (if(iE S.seen T.lits:Int)<S.head then(iE S.seen T.lits:Int)else S.head) S.seen;have E1:=Ext.set (h:=h) (D:=aR bw bt mp mb) bw (ce ba bt (Jo ⟨mp,mb,S.late,S.head,S.seen⟩ T.lits)) (.inl rfl);simp;refine am.intro kM ?_;rintro _ h2 ⟨e,rfl⟩;rw[e];clear e h2;simp[w1,w2,ce,hz];refine am.introP kL ?_;simp;refine am.intro (kS.args (xs:=[.ptr bw 0,.seq true 1 (ae T.lits)]) (by simp[bK,bO])) ?_;rintro _ H1 ⟨rfl,rfl⟩;have L1':LayW (h.set bw (ce ba bt (Jo ⟨mp,mb,S.late,S.head,S.seen⟩ T.lits))) bw ba bt mp mb A T (cB S T.lits):=L1;have C:=Ge _ bw ba bt mp mb A T (cB S T.lits) L1' s ad Y ar ay az hB hJ;generalize h.set bw (ce ba bt (Jo ⟨mp,mb,S.late,S.head,S.seen⟩ T.lits))=H1 at*;have a:iF S T=if 0<=(fZ (cB S T.lits) T).2.2 then fZ (cB S T.lits) T else lK 1000001 (fZ (cB S T.lits) T).1 (fZ (cB S T.lits) T).2.1:=rfl;have ag:ft S T=(⟨(iF S T).1.prs,(iF S T).1.byl,(iF S T).1.late,(iF S T).1.head,(iF S T).2.1.lits⟩,(iF S T).2.1,(iF S T).2.2):=rfl;have G:iv s (cB S T.lits) T=fZ (cB S T.lits) T:=by unfold fZ;rw[←ad];rfl
 rw[G]at C;generalize fZ (cB S T.lits) T=V at*;generalize iF S T=M at*;generalize ft S T=Q at*;obtain⟨S2,T2,k2⟩:=V;simp only at*;simp;refine am.intro C ?_;rintro _ H2 ⟨rfl,aI,L2,E2⟩;have O:=ge T2 af;have I:=db L2.t 2;obtain⟨v1,v2⟩:=SG.1 L2.w;simp[v1,v2,ce,I];refine am.introP O ?_;simp;refine aF.intro (S:=λ(x:List (List SV)×List (Int×By)×WS×Tr×Int×List Int×Nat)=>⟨[(0,.pv (.ptr bw 0)),(3,.pv (ab x.2.2.2.2.1)),(4,.own true 1 (ae x.2.2.2.2.2.1))],x.1⟩)
  (λ x => LayW x.1 bw ba bt mp x.2.1 A x.2.2.2.1 x.2.2.1 ∧ Ext h x.1 (aR bw bt mp mb) (aR bw bt mp x.2.1) ∧ x.2.2.2.1.lits.length <= 1000000 ∧
   ((0<=x.2.2.2.2.1∧M=(x.2.2.1,x.2.2.2.1,x.2.2.2.2.1))∨(¬0<=x.2.2.2.2.1∧x.2.2.2.2.1=-1∧J x.2.2.1 x.2.2.2.1∧x.2.2.2.2.2.1<+:x.2.2.2.1.lits∧(x.2.2.1.head<x.2.2.2.2.2.1.length∨x.2.2.2.2.2.1=x.2.2.2.1.lits)∧M=lK x.2.2.2.2.2.2 x.2.2.1 x.2.2.2.1∧1000001<=x.2.2.1.head+x.2.2.2.2.2.2)))
  (λx=>x.2.2.2.2.2.2) (H2,aI,S2,T2,k2,T2.lits,1000001) ?_ ?_ ?_
 .exact ai.keep (by simp) rfl
 .refine⟨L2,E1.trans E2,af,?_⟩
  by_cases c:0<=k2
  .rw[SN c]at a;exact .inl ⟨c,a⟩
  .rw[SM c]at a;have hj:=au c;have hh:=(U.ok _ _ hj.2).2.2.1;exact .inr ⟨c,hj.1,hj.2,WU _,.inr rfl,a,by simp only;omega⟩
 rintro⟨H,mb',S',T',kc,now,n⟩ ⟨P,hE,E,j⟩;dsimp only at P hE E j;obtain⟨W,X⟩:=SG.1 P.w;have ak:=db P.t 2;have an:=ge T' E;have o:∀(M1:M=(S',T',kc)),(LayW (H.set bw (ce ba bt ⟨mp,mb',S'.late,S'.head,T'.lits⟩)) bw ba bt mp mb' A Q.2.1 Q.1)∧Ext h (H.set bw (ce ba bt ⟨mp,mb',S'.late,S'.head,T'.lits⟩)) (aR bw bt mp mb) (aR bw bt mp mb')∧Q.2.2=kc:=λM1=>by
  rw[ag,M1];exact⟨P.setW S'.late S'.head T'.lits,hE.trans (Ext.set bw _ (.inl rfl)),rfl⟩
 rcases j with⟨hc,g⟩|⟨hc,aw,hj,m,aA,g,hn⟩
 .have v:¬kc<0:=by omega
  obtain⟨g1,g2,g3⟩:=o g;simp[v];simp[W,X,ce,ak];refine am.introP an ?_;simp[W,X,ce];exact⟨g3.symm,mb',g1,g2⟩
 .have v:kc<0:=by omega
  obtain⟨q1,q2,q3,q4⟩:=U.ok _ _ hj;obtain⟨hd,z⟩:∃k:Nat,S'.head=k:=⟨S'.head.toNat,by omega⟩
  by_cases d:hd<now.length
  .have dT:hd<T'.lits.length:=Uc d m.length_le;have hq:now[hd]?=some T'.lits[hd]:=by
    obtain⟨t,ht⟩:=m;rw[←SH dT,←ht,SO d]
   have b:S'.head<T'.lits.length:=by omega
   have aD:now[hd]=T'.lits[hd]:=by rw[SH d]at hq;exact VC hq
   have aj:aY (-now[hd])=dG T' S':=by rw[aD];simp[dG,z,SH dT]
   have kF:ax Tryz.prog 157 [.ptr bw 0,ab (dG T' S')] H (λr h'=>r=.pv (ab (fY S' T' (dG T' S')).2.2)∧∃F,LayW h' bw ba bt mp F A (fY S' T' (dG T' S')).2.1 (fY S' T' (dG T' S')).1∧Ext H h' (aR bw bt mp mb') (aR bw bt mp F)):=by
    cases hb:lk S'.byl (dG T' S')with
    |none=>
     simp only[fY,hb];exact Cz H bw ba bt mp mb' A T' S' P _ hb
    |some zs=>
     obtain⟨z1,Jf,z2,z3⟩:=U.step S' T' hj b zs hb;simp only[fY,hb];exact Gf H bw ba bt mp mb' A T' S' P _ zs hb z1 Jf z2 z3
   have u:=U.len S' T' hj b;have aa:=U.next S' T' hj b;cases n with
   |zero=>omega
   |succ n=>
   rw[lK,SN b]at g;generalize fY S' T' (dG T' S')=V at*;generalize dG T' S'=l at*;obtain⟨S3,R,k3⟩:=V;simp only at g u aa kF;clear kL O kM kS C hB hJ a G L1 L1' hz I w1 w2 v1 v2;simp[v,W,X,ce,z,d,aj];refine am.intro kF ?_;rintro _ H3 ⟨rfl,f,L3,E3⟩;obtain⟨t1,t2⟩:=SG.1 L3.w;have K:=db L3.t 2;have aq:=ge R u
   by_cases c3:0<=k3
   .rw[SN c3]at g;simp[c3,t1,t2,ce,K];refine am.introP aq ?_;simp[t1,t2,ce];have:=L3.setW S3.late S3.head R.lits;rw[ag,g];exact⟨rfl,f,this,(hE.trans E3).trans (Ext.set bw _ (.inl rfl))⟩
   .rw[SM c3]at g;obtain⟨r1,r2,r3,r4⟩:=aa c3;obtain⟨b1,b2,b3,b4⟩:=U.ok _ _ r2;have aJ:¬0<=k3:=c3;have Z:=L3.setW S3.late (aY (S3.head+1)) S3.seen;have E4:Ext h (H3.set bw (ce ba bt ⟨mp,f,S3.late,aY (S3.head+1),S3.seen⟩)) (aR bw bt mp mb) (aR bw bt mp f):=(hE.trans E3).trans (Ext.set bw _ (.inl rfl));have B:aY ((hd:Int)+1)=((hd+1:Nat):Int):=by rw[ao (by omega) (by omega)];omega
    have y:S3.head=hd:=r3.trans z;rw[y,B]at Z E4;have N:aZ (H3.set bw (ce ba bt ⟨mp,f,S3.late,((hd+1:Nat):Int),S3.seen⟩)) (2+1) bt 0=bM R:=db Z.t 2;have aG:Oa S3=⟨S3.prs,S3.byl,S3.late,((hd+1:Nat):Int),S3.seen⟩:=by unfold Oa;rw[y,B]
    rw[aG]at g r2;clear kF
    by_cases dn:hd+1=now.length
    .rw[dn]at Z E4 N g r2;simp only[ce]at N;simp[c3,t1,t2,ce,K,y,B,dn,N];refine am.introP aq ?_;simp;exact⟨(_,f,⟨S3.prs,S3.byl,S3.late,(now.length:Int),S3.seen⟩,R,k3,R.lits,n),VG n,⟨Z,E4,u,.inr ⟨by simp only;omega,r1,r2,WU _,.inr rfl,g,by simp only;omega⟩⟩,ai.keep (by simp) rfl⟩
    .have aH:¬((hd:Int)+1=now.length):=by omega
     simp[c3,t1,t2,ce,K,y,B,aH];exact⟨(_,f,⟨S3.prs,S3.byl,S3.late,((hd+1:Nat):Int),S3.seen⟩,R,k3,now,n),VG n,⟨Z,E4,u,.inr ⟨by simp only;omega,r1,r2,m.trans r4,.inl (by simp only;omega),g,by simp only;omega⟩⟩,ai.keep (by simp) rfl⟩
  .have aB:¬S'.head<T'.lits.length:=by
    rcases aA with h1|h1
    .omega
    .rw[←h1];omega
   have av:M=(S',T',-1):=by
    rw[g];cases n with
    |zero=>rfl
    |succ n=>rw[lK,SM aB]
   obtain⟨g1,g2,g3⟩:=o (by rw[av,aw]);clear kL O kM kS C hB hJ a G L1 L1' hz I w1 w2 v1 v2;simp[v,W,X,ce,z,d];simp[W,X,ce,ak];refine am.introP an ?_;simp[W,X,ce];exact⟨g3.symm,mb',g1,g2⟩
end Go.AX