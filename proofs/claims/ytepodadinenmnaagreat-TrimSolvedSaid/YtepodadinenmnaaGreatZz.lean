/-
  Contracts: watches: what they hold; made, look, shrunk; and what follows.
-/
import Derived.Test.YtepodadinenmnaaGreatZx
import Derived.Test.YtepodadinenmnaaGreatZy
set_option linter.unusedSimpArgs false
set_option maxRecDepth 16000
namespace Go.AX
open Go.Proofs Go.Proofs.Tryz
section
structure By where
  b:Nat
  n:Nat
  cp:Nat
def JI(x:By):PV:=.bsl x.b 1 0 x.n x.cp
def wW(b:Nat):PV:=.ptr b 0
structure Wt where
  prs:cg
  byl:List (Int×By)
  late:aS
  head:Int
  seen:af
def cW(ba bt:Nat)(W:Wt):bj:=[.pv (.ptr ba 0),.pv (.ptr bt 0),.omap true (aL wW W.prs),.omap true (aL JI W.byl),.omap true (aL fI W.late),.pv (ak W.head),.own true 1 (am W.seen)]
def lu(lits:af)(x y:Int):bj:=[.pv (.seq false 1 (am lits)),.pv (ak x),.pv (ak y)]
theorem vZ(h:ao)(b ba bt:Nat)(W:Wt)(d:h[b]?=some (cW ba bt W)):aI prog 154 [.ptr b 0] h (λr h'=>h'=h∧r=.pv (BL true)):=by
 refine ij [] [.tmp 2] aP func154 ?_;obtain⟨c,a⟩:=Vp.1 d;simp[a,c,cW]
def fV(T:Tr)(lits:af):af:=lits.filter λl=>decide (df T l=1)||decide (df T l=0)
def ns(T:Tr)(lits:af):Bool:=lits.any λl=>decide (df T l=1)
theorem E8(T:Tr)(lits:af){i:Nat}(h:i<lits.length):fV T (lits.take (i+1))=if df T lits[i]=1∨df T lits[i]=0 then fV T (lits.take i)++[lits[i]]else fV T (lits.take i):=by
 unfold fV;rw[Wj,Vq h,W6,WT,Wl,Zs];by_cases c:df T lits[i]=1∨df T lits[i]=0;rw[Vt c,Vt (by simpa using c)];rw[Vs c,Vs (by simpa using c),WF]
theorem E9(T:Tr)(lits:af){i:Nat}(h:i<lits.length):ns T (lits.take (i+1))=(ns T (lits.take i)||decide (df T lits[i]=1)):=by
 unfold ns;rw[Wj,Vq h,W6,List.any_append];simp
theorem yl(T:Tr)(lits:af):(fV T lits).length<=lits.length:=WR _ _
theorem Mv(h:ao)(bw ba bt bp:Nat)(W:Wt)(T:Tr)(lits:af)(x y:Int)(I:h[bw]?=some (cW ba bt W))(ht:h[bt]?=some (iI T))(hp:h[bp]?=some (lu lits x y))(J:T.ok)(P:lits.length<=1000000):
 aI prog 280 [.ptr bw 0,.ptr bp 0] h (λr h'=>h'=h∧r=.pv (.agg [BL (ns T lits),.seq true 1 (am (fV T lits))])):=by
 refine fJ [] [.cell 4 _] aP func280 ?_;obtain⟨O,R⟩:=Vp.1 I;obtain⟨N,Q⟩:=Vp.1 hp;obtain⟨G,e⟩:∃G:SV->SV->ao,∀u v,G u v=h++[[.pv (BL false),.pv (.lit (.slice none 0 0))],[u,v]]:=⟨_,λ_ _=>rfl⟩;have t:∀u v,(G u v)[bw]?=some (cW ba bt W):=λu v=>by rw[e,Vv O,I]
 have q:∀u v,(G u v)[bp]?=some (lu lits x y):=λu v=>by rw[e,Vv N,hp]
 have A:∀u v,(G u v)[bt]?=some (iI T):=λu v=>by rw[e,Vv (Vp.1 ht).1,ht]
 have g:∀u v,(G u v)[h.length+1]?=some [u,v]:=λu v=>by rw[e];simp
 have s:∀u v,bw<(G u v).length:=λu v=>(Vp.1 (t u v)).1;have B:∀u v,(G u v)[bw]'(s u v)=cW ba bt W:=λu v=>(Vp.1 (t u v)).2;have p:∀u v,bp<(G u v).length:=λu v=>(Vp.1 (q u v)).1;have z:∀u v,(G u v)[bp]'(p u v)=lu lits x y:=λu v=>(Vp.1 (q u v)).2;have a:∀u v,h.length+1<(G u v).length:=λu v=>(Vp.1 (g u v)).1;have f:∀u v,(G u v)[h.length+1]'(a u v)=[u,v]:=λu v=>(Vp.1 (g u v)).2;have E:∀u v n,bE (G u v) (n+1) bt 0=cD T:=λu v n=>dR (A u v) n;have j:∀u v C D,(G u v).set (h.length+1) [C,D]=G C D:=λu v C D=>by rw[e,e];simp
 have M:=λl=>gM T l J;simp;rw[←e];simp[s,B,cW,p,z,lu,E];obtain⟨H,c⟩:∃H:Nat->ao,∀i,H i=G (.pv (BL (ns T (lits.take i)))) (.own true 1 (am (fV T (lits.take i)))):=⟨_,λ_=>rfl⟩;have h1:∀i,h.length+1<(H i).length:=λi=>by rw[c];exact a _ _
 have F:∀i,(H i)[h.length+1]'(h1 i)=[.pv (BL (ns T (lits.take i))),.own true 1 (am (fV T (lits.take i)))]:=λi=>by simp only[c];exact f _ _
 have hz:∀i n,bE (H i) (n+1) bt 0=cD T:=λi n=>by rw[c];exact E _ _ n
 have hs:∀i u v,(H i).set (h.length+1) [u,v]=G u v:=λi u v=>by rw[c];exact j _ _ _ _
 refine aM.intro (S:=λ(i:Nat)=>⟨[(4,.pv (.ptr h.length 0)),(5,.pv (.ptr (h.length+1) 0)),(6,.pv (.fn (.func 103) [.ptr bt 0] [])),(17,.pv (.seq false 1 (am lits))),(18,.pv (ak lits.length)),(19,.pv (ak i))],H i⟩) (λi=>i<=lits.length) (λi=>lits.length -i) 0 ?_ (VH _) ?_;refine(av.nilCell (b:=h.length+1) (k:=1) (xs:=[.pv (BL false),.pv (.lit (.slice none 0 0))]) 1 true (by simp;exact g _ _) (by simp)).trans (av.keep (by simp) ?_);simp[c,j,ns,fV,am];intro i hi;by_cases d:i<lits.length;have m:bG ((i:Int)+1)=((i+1:Nat):Int):=by rw[aC (by omega) (by omega)];omega
 have L:lits[i]?=some lits[i]:=Vq d;have ho:=E8 T lits d;have w:=E9 T lits d;have K:(fV T (lits.take i)).length<=i:=Wb (yl _ _) (by rw[Vy];omega);simp[d,L,hz];refine ay.introP (M lits[i]) ?_;by_cases o:df T lits[i]=1;rw[Vt (.inl o)]at ho;rw[WP o,ZS]at w;simp[o,h1,F,hs,a,f,j];refine⟨by omega,i+1,by(try dsimp only);omega,by(try dsimp only);omega,av.keep (by simp[m]) ?_⟩;simp[c,j,ho,w,am];rw[W7 o,ZJ]at w;by_cases v0:df T lits[i]=0;rw[Vt (.inr v0)]at ho;simp[v0,h1,F,hs,a,f,j];refine⟨by omega,i+1,by(try dsimp only);omega,by(try dsimp only);omega,av.keep (by simp[m]) ?_⟩;simp[c,j,ho,w,am];rw[Vs (λh=>h.elim o v0)]at ho;simp[v0,o];refine⟨i+1,by(try dsimp only);omega,by(try dsimp only);omega,av.keep (by simp[m]) ?_⟩;simp[c,j,ho,w,am];have:i=lits.length:=by omega
 subst this;simp only[c,e];simp[cr,bX,frzC]
def jI:af->af->Nat
 |x::a,y::b=>if x=y then jI a b+1 else 0
 |_,_=>0
def Mw(W:Wt)(now:af):Wt:=⟨W.prs,W.byl,W.late,if(jI W.seen now:Int)<W.head then(jI W.seen now:Int)else W.head,W.seen⟩
theorem Fa(h:ao)(bw ba bt:Nat)(W:Wt)(now:af)(l:h[bw]?=some (cW ba bt W))(m:now.length<=1000000)(hs:W.seen.length<=1000000):
 aI prog 155 [.ptr bw 0,.seq false 1 (am now)] h (λr h'=>h'=h.set bw (cW ba bt (Mw W now))∧r=.pv (.tup [])):=by
 refine dh [] [] aP func155 ?_;obtain⟨c,d⟩:=Vp.1 l;have j:jI W.seen now=0+jI (W.seen.drop 0) (now.drop 0):=by simp
 unfold Mw;generalize jI W.seen now=P at*;simp;refine aM.intro (S:=λ(k:Nat)=>⟨[(0,.pv (.ptr bw 0)),(1,.pv (.seq false 1 (am now))),(4,.pv (ak k))],h⟩) (λk=>k<=W.seen.length∧k<=now.length∧P=k+jI (W.seen.drop k) (now.drop k)) (λk=>W.seen.length -k) 0 ?_ ⟨VH _,VH _,j⟩ ?_;exact av.keep (by simp) rfl;rintro k ⟨n,o,hk⟩;have f:bG ((k:Int)+1)=((k+1:Nat):Int):=by rw[aC (by omega) (by omega)];omega
 by_cases a:k<W.seen.length;have g:W.seen[k]?=some W.seen[k]:=Vq a;by_cases b:k<now.length;have i:now[k]?=some now[k]:=Vq b;rw[V3 a,V3 b,jI]at hk;by_cases e:W.seen[k]=now[k];rw[Vt e]at hk;simp[c,d,cW,a,b,g,i,e];exact⟨k+1,by(try dsimp only);omega,⟨by(try dsimp only);omega,by(try dsimp only);omega,by(try dsimp only);omega⟩,av.keep (by simp[f]) rfl⟩;rw[Vs e]at hk;have:P=k:=by omega
 subst this;simp[c,d,cW,a,b,g,i,e];have:P=k:=by rw[VS (show now.length<=k by omega)]at hk;cases hd:W.seen.drop k<;>rw[hd]at hk<;>simpa[jI]using hk
 subst this;simp[c,d,cW,a,b,g];have:P=k:=by rw[VS (show W.seen.length<=k by omega)]at hk;simpa[jI]using hk
 subst this;simp[c,d,cW,a]
end
structure Pr where
  lits:af
  x:Int
  y:Int
structure WS where
  prs:List (Int×Pr)
  byl:dV
  late:aS
  head:Int
  seen:af
def rP(p:Pr):bj:=lu p.lits p.x p.y
def TL(h:ao)(e:By)(zs:af):Prop:=∃sp,h[e.b]?=some (aN zs++sp)∧(∀k,cA k sp)∧zs.length=e.n∧e.n<=e.cp∧e.cp<=e.n+sp.length
structure LayW (h:ao) (bw ba bt:Nat) (mp:cg) (mb:List (Int×By)) (A:Ar) (T:Tr) (S:WS):Prop where
  w:h[bw]?=some (cW ba bt ⟨mp,mb,S.late,S.head,S.seen⟩)
  a:h[ba]?=some (kJ A)
  t:h[bt]?=some (iI T)
  wa:bw≠ba
  wt:bw≠bt
  at':ba≠bt
  keys:mp.map (·.1)=S.prs.map (·.1)
  pr:∀k b,lk mp k=some b->∃p,lk S.prs k=some p∧h[b]?=some (rP p)∧b≠bw∧b≠ba∧b≠bt
  pinj:∀k k' b,lk mp k=some b->lk mp k'=some b->k=k'
  by':∀l e,lk mb l=some e->∃zs,lk S.byl l=some zs∧TL h e zs∧e.b≠bw∧e.b≠ba∧e.b≠bt
  byn:∀l,lk mb l=none->lk S.byl l=none
  binj:∀l l' e e',lk mb l=some e->lk mb l'=some e'->e.b=e'.b->l=l'
  pb:∀k b l e,lk mp k=some b->lk mb l=some e->b≠e.b
def bA(bw bt:Nat)(mp:cg)(mb:List (Int×By))(b:Nat):Prop:=b=bw∨b=bt∨(∃k,lk mp k=some b)∨∃l e,lk mb l=some e∧e.b=b
structure Ext (h h':ao) (D D':Nat->Prop):Prop where
  len:h.length<=h'.length
  same:∀b,b<h.length->¬D b->h'[b]?=h[b]?
  sub:∀b,b<h.length->D' b->D b
theorem Ext.refl(h:ao)(D:Nat->Prop):Ext h h D D:=⟨Vu _,λ_ _ _=>rfl,λ_ _ h=>h⟩
theorem Ext.trans{h1 f g:ao}{c d e:Nat->Prop}(a:Ext h1 f c d)(b:Ext f g d e):Ext h1 g c e:=
 ⟨Wb a.len b.len,λk hk hn=>by rw[b.same k (WK hk a.len) λhd=>hn (a.sub k hk hd),a.same k hk hn],λk hk hd=>a.sub k hk (b.sub k (WK hk a.len) hd)⟩
theorem Ext.app(h g:ao)(D:Nat->Prop):Ext h (h++g) D D:=
 ⟨by simp,λb a _=>Vv a,λ_ _ h=>h⟩
theorem Ext.set{h:ao}{D:Nat->Prop}(b:Nat)(x:bj)(hd:D b):Ext h (h.set b x) D D:=
 ⟨by simp,λk hk hn=>VL (λe:b=k=>hn (e▸hd)),λ_ _ h=>h⟩
theorem Ext.dom{h h':ao}{D D' c:Nat->Prop}(a:Ext h h' D D')(hs:∀b,b<h.length->c b->D b):Ext h h' D c:=⟨a.len,a.same,hs⟩
section
variable {h : ao} {bw ba bt : Nat} {mp : cg} {mb : List (Int × By)} {A : Ar} {T : Tr} {S : WS}
theorem LayW.some_p(L:LayW h bw ba bt mp mb A T S){k:Int}{p:Pr}(hp:lk S.prs k=some p):∃b,lk mp k=some b∧h[b]?=some (rP p)∧b≠bw∧b≠ba∧b≠bt:=by
 have:∀(a:cg)(c:List (Int×Pr)),a.map (·.1)=c.map (·.1)->(lk c k).isSome=true->(lk a k).isSome=true:=by
  intro a
  induction a with
  |nil=>intro c h1 d;cases c with|nil=>exact d|cons _ _=>simp at h1
  |cons u a f=>
   intro c h1 d;cases c with
   |nil=>simp at h1
   |cons w c=>
    simp only[VP,XR]at h1;rw[lk]at d⊢;rw[h1.1];split;rfl;rename_i hn;rw[Vs hn]at d;exact f c h1.2 d
 obtain⟨b,e⟩:=XV.1 (this mp S.prs L.keys (by rw[hp];rfl));obtain⟨g,h1,d⟩:=L.pr k b e;rw[hp]at h1;cases h1;exact⟨b,e,d⟩
theorem LayW.some_b(L:LayW h bw ba bt mp mb A T S){l:Int}{zs:af}(hz:lk S.byl l=some zs):∃e,lk mb l=some e∧TL h e zs∧e.b≠bw∧e.b≠ba∧e.b≠bt:=by
 cases a:lk mb l with
 |none=>rw[L.byn l a]at hz;cases hz
 |some e=>
  obtain⟨d,h1,c⟩:=L.by' l e a
  rw[hz]at h1;cases h1;exact⟨e,rfl,c⟩
theorem LayW.app(L:LayW h bw ba bt mp mb A T S)(g:ao):LayW (h++g) bw ba bt mp mb A T S:=by
 have up:∀{b:Nat}{x:bj},h[b]?=some x->(h++g)[b]?=some x:=λhx=>by rw[Vv (Vp.1 hx).1,hx]
 exact{
  w:=up L.w,a:=up L.a,t:=up L.t,wa:=L.wa,wt:=L.wt,at':=L.at',keys:=L.keys,pinj:=L.pinj,byn:=L.byn,binj:=L.binj,pb:=L.pb
  pr:=λk b i=>by obtain⟨p,h1,c,d⟩:=L.pr k b i;exact⟨p,h1,up c,d⟩
  by':=λl e j=>by
   obtain⟨zs,h1,⟨sp,c,d⟩,f⟩:=L.by' l e j
   exact⟨zs,h1,⟨sp,up c,d⟩,f⟩}
theorem LayW.setW(L:LayW h bw ba bt mp mb A T S)(late:aS)(head:Int)(seen:af):LayW (h.set bw (cW ba bt ⟨mp,mb,late,head,seen⟩)) bw ba bt mp mb A T ⟨S.prs,S.byl,late,head,seen⟩:=by
 have j:=(Vp.1 L.w).1;have up:∀{b:Nat}{x:bj},b≠bw->h[b]?=some x->(h.set bw (cW ba bt ⟨mp,mb,late,head,seen⟩))[b]?=some x:=λhn hx=>by rw[VL (λe=>hn e.symm),hx]
 exact{
  w:=VZ j,a:=up L.wa.symm L.a,t:=up L.wt.symm L.t,wa:=L.wa,wt:=L.wt,at':=L.at',keys:=L.keys,pinj:=L.pinj,byn:=L.byn,binj:=L.binj,pb:=L.pb
  pr:=λk b g=>by obtain⟨p,h1,d,c⟩:=L.pr k b g;exact⟨p,h1,up c.1 d,c⟩
  by':=λl e i=>by
   obtain⟨zs,h1,⟨sp,d,c⟩,f⟩:=L.by' l e i
   exact⟨zs,h1,⟨sp,up f.1 d,c⟩,f⟩}
theorem LayW.setT(L:LayW h bw ba bt mp mb A T S)(T':Tr):LayW (h.set bt (iI T')) bw ba bt mp mb A T' S:=by
 have j:=(Vp.1 L.t).1;have up:∀{b:Nat}{x:bj},b≠bt->h[b]?=some x->(h.set bt (iI T'))[b]?=some x:=λhn hx=>by rw[VL (λe=>hn e.symm),hx]
 exact{
  w:=up L.wt L.w,a:=up L.at' L.a,t:=VZ j,wa:=L.wa,wt:=L.wt,at':=L.at',keys:=L.keys,pinj:=L.pinj,byn:=L.byn,binj:=L.binj,pb:=L.pb
  pr:=λk b g=>by obtain⟨p,h1,d,c⟩:=L.pr k b g;exact⟨p,h1,up c.2.2 d,c⟩
  by':=λl e i=>by
   obtain⟨zs,h1,⟨sp,d,c⟩,f⟩:=L.by' l e i
   exact⟨zs,h1,⟨sp,up f.2.2 d,c⟩,f⟩}
theorem Ch{α β:Type}:∀(a:List (Int×α))(c:List (Int×β))(k:Int)(x:α)(y:β),a.map (·.1)=c.map (·.1)->(pt a k x).map (·.1)=(pt c k y).map (·.1)
 |[],[],_,_,_,_=>rfl
 |[],_::_,_,_,_,h=>by simp at h
 |_::_,[],_,_,_,h=>by simp at h
 |u::a,w::c,k,x,y,h=>by
  obtain⟨d,e⟩:=u;obtain⟨f,g⟩:=w;simp only[VP,XR]at h;obtain⟨h1,b⟩:=h;subst h1;rw[pt,pt];split;simp[b];simp only[VP];rw[Ch a c k x y b]
theorem LayW.setP(L:LayW h bw ba bt mp mb A T S){k:Int}{b:Nat}(i:lk mp k=some b)(p:Pr)(f:mp.map (·.1)=(pt S.prs k p).map (·.1)):LayW (h.set b (rP p)) bw ba bt mp mb A T ⟨pt S.prs k p,S.byl,S.late,S.head,S.seen⟩:=by
 obtain⟨B,C,u,v,y,z⟩:=L.pr k b i;have r:=(Vp.1 u).1;have up:∀{c:Nat}{x:bj},c≠b->h[c]?=some x->(h.set b (rP p))[c]?=some x:=λhn hx=>by rw[VL (λe=>hn e.symm),hx]
 exact{
  w:=up v.symm L.w,a:=up y.symm L.a,t:=up z.symm L.t,wa:=L.wa,wt:=L.wt,at':=L.at',keys:=f,pinj:=L.pinj,byn:=L.byn,binj:=L.binj,pb:=L.pb
  pr:=λk' b' d=>by
   obtain⟨s,h1,j,g⟩:=L.pr k' b' d;show∃m,lk (pt S.prs k p) k'=some m∧_;rw[cm];by_cases e:k=k';subst e;rw[i]at d;cases d;exact⟨p,Vt rfl,VZ r,g⟩;exact⟨s,by rw[Vs e];exact h1,up (λo=>e (L.pinj k k' b i (o▸d))) j,g⟩
  by':=λl e n=>by
   obtain⟨zs,h1,⟨sp,j,g⟩,q⟩:=L.by' l e n
   exact⟨zs,h1,⟨sp,up (L.pb k b l e i n).symm j,g⟩,q⟩}
theorem LayW.setB(L:LayW h bw ba bt mp mb A T S){l:Int}{e:By}(m:lk mb l=some e)(zs:af)(sp:bj)(v:∀k,cA k sp)(n:Nat)(hn:zs.length=n)(h1:n<=e.cp)(G:e.cp<=n+sp.length):
 LayW ((h.set e.b (aN zs++sp)).set bw (cW ba bt ⟨mp,pt mb l ⟨e.b,n,e.cp⟩,S.late,S.head,S.seen⟩)) bw ba bt mp (pt mb l ⟨e.b,n,e.cp⟩) A T ⟨S.prs,pt S.byl l zs,S.late,S.head,S.seen⟩:=by
 obtain⟨z0,O,⟨M,K,_⟩,D,E,F⟩:=L.by' l e m
 have H:=(Vp.1 K).1;have y:=(Vp.1 L.w).1;have up:∀{c:Nat}{x:bj},c≠bw->c≠e.b->h[c]?=some x->((h.set e.b (aN zs++sp)).set bw (cW ba bt ⟨mp,pt mb l ⟨e.b,n,e.cp⟩,S.late,S.head,S.seen⟩))[c]?=some x:=λI J hx=>by
  rw[VL (λe=>I e.symm),VL (λe=>J e.symm),hx]
 have self:((h.set e.b (aN zs++sp)).set bw (cW ba bt ⟨mp,pt mb l ⟨e.b,n,e.cp⟩,S.late,S.head,S.seen⟩))[e.b]?=some (aN zs++sp):=by
  rw[VL (λe=>D e.symm),VZ H]
 exact{
  w:=VZ (by simpa using y),a:=up L.wa.symm E.symm L.a,t:=up L.wt.symm F.symm L.t,wa:=L.wa,wt:=L.wt,at':=L.at',keys:=L.keys,pinj:=L.pinj
  pr:=λk b j=>by obtain⟨p,s,u,a3⟩:=L.pr k b j;exact⟨p,s,up a3.1 (L.pb k b l e j m) u,a3⟩
  by':=λl' e' d=>by
   rw[cm]at d;show∃o,lk (pt S.byl l zs) l'=some o∧_;rw[cm];by_cases c:l=l';rw[Vt c]at d;cases d;exact⟨zs,Vt c,⟨sp,self,v,hn,h1,G⟩,D,E,F⟩;rw[Vs c]at d;obtain⟨N,s,⟨B,u,a3⟩,a4⟩:=L.by' l' e' d
   exact⟨N,by rw[Vs c];exact s,⟨B,up a4.1 (λq=>c (L.binj l' l e' e d m q).symm) u,a3⟩,a4⟩
  byn:=λl' i=>by
   rw[cm]at i;show lk (pt S.byl l zs) l'=none;rw[cm];by_cases c:l=l';rw[Vt c]at i;cases i;rw[Vs c]at i⊢;exact L.byn l' i
  binj:=λz r C q g f j=>by
   rw[cm]at g f;by_cases c1:l=z;by_cases c2:l=r;exact c1.symm.trans c2;rw[Vt c1]at g;rw[Vs c2]at f;cases g;exact absurd (L.binj l r e q m f j) c2;rw[Vs c1]at g;by_cases c2:l=r;rw[Vt c2]at f;cases f;exact absurd (L.binj z l C e g m j).symm c1;rw[Vs c2]at f;exact L.binj z r C q g f j
  pb:=λk b l' e' j d=>by
   rw[cm]at d;by_cases c:l=l';rw[Vt c]at d;cases d;exact L.pb k b l e j m;rw[Vs c]at d;exact L.pb k b l' e' j d}
theorem LayW.newB(L:LayW h bw ba bt mp mb A T S)(l:Int)(zs:af)(sp:bj)(s:∀k,cA k sp)(n cp:Nat)(hn:zs.length=n)(h1:n<=cp)(C:cp<=n+sp.length):
 LayW ((h++[aN zs++sp]).set bw (cW ba bt ⟨mp,pt mb l ⟨h.length,n,cp⟩,S.late,S.head,S.seen⟩)) bw ba bt mp (pt mb l ⟨h.length,n,cp⟩) A T ⟨S.prs,pt S.byl l zs,S.late,S.head,S.seen⟩:=by
 have u:=(Vp.1 L.w).1;have lt:∀{b:Nat}{x:bj},h[b]?=some x->b<h.length:=λhx=>(Vp.1 hx).1;have up:∀{c:Nat}{x:bj},c≠bw->h[c]?=some x->((h++[aN zs++sp]).set bw (cW ba bt ⟨mp,pt mb l ⟨h.length,n,cp⟩,S.late,S.head,S.seen⟩))[c]?=some x:=λD hx=>by
  rw[VL (λe=>D e.symm),Vv (lt hx),hx]
 have self:((h++[aN zs++sp]).set bw (cW ba bt ⟨mp,pt mb l ⟨h.length,n,cp⟩,S.late,S.head,S.seen⟩))[h.length]?=some (aN zs++sp):=by
  rw[VL (by omega)];simp
 exact{
  w:=VZ (by simp;omega),a:=up L.wa.symm L.a,t:=up L.wt.symm L.t,wa:=L.wa,wt:=L.wt,at':=L.at',keys:=L.keys,pinj:=L.pinj
  pr:=λk b j=>by obtain⟨p,r,m,a3⟩:=L.pr k b j;exact⟨p,r,up a3.1 m,a3⟩
  by':=λl' e' d=>by
   rw[cm]at d;show∃o,lk (pt S.byl l zs) l'=some o∧_;rw[cm];by_cases c:l=l';rw[Vt c]at d;cases d;exact⟨zs,Vt c,⟨sp,self,s,hn,h1,C⟩,YP u,YP (lt L.a),YP (lt L.t)⟩;rw[Vs c]at d;obtain⟨E,r,⟨y,m,a3⟩,a4⟩:=L.by' l' e' d
   exact⟨E,by rw[Vs c];exact r,⟨y,up a4.1 m,a3⟩,a4⟩
  byn:=λl' i=>by
   rw[cm]at i;show lk (pt S.byl l zs) l'=none;rw[cm];by_cases c:l=l';rw[Vt c]at i;cases i;rw[Vs c]at i⊢;exact L.byn l' i
  binj:=λv q z B g f j=>by
   have old:∀l' e',lk mb l'=some e'->e'.b<h.length:=λl' e' d=>by obtain⟨_,_,⟨_,m,_⟩,_⟩:=L.by' l' e' d;exact lt m
   rw[cm]at g f;by_cases c1:l=v;by_cases c2:l=q;exact c1.symm.trans c2;rw[Vt c1]at g;rw[Vs c2]at f;cases g;have:=old q B f;simp only at j;omega;rw[Vs c1]at g;by_cases c2:l=q;rw[Vt c2]at f;cases f;have:=old v z g;simp only at j;omega;rw[Vs c2]at f;exact L.binj v q z B g f j
  pb:=λk b l' e' j d=>by
   rw[cm]at d;by_cases c:l=l';rw[Vt c]at d;cases d;obtain⟨_,_,m,_⟩:=L.pr k b j;exact ZP (lt m);rw[Vs c]at d;exact L.pb k b l' e' j d}
end
@[simp] theorem TM(l:cg)(k:Int):dJ (aL wW l) k=(lk l k).map wW:=fH wW l k
@[simp] theorem UN(l:cg)(k:Int)(b:Nat):iz (aL wW l) k (.ptr b 0)=aL wW (pt l k b):=iG wW l k b
@[simp] theorem TN(l:List (Int×By))(k:Int):dJ (aL JI l) k=(lk l k).map JI:=fH JI l k
@[simp] theorem UO(l:List (Int×By))(k:Int)(b n cp:Nat):iz (aL JI l) k (.bsl b 1 0 n cp)=aL JI (pt l k ⟨b,n,cp⟩):=iG JI l k ⟨b,n,cp⟩
theorem Pe(x v:Int):aw prog 256 [ak x,.iptr 1 [[ak v]] 0 0] (λr=>r=.pv (BL (decide (x=v)))):=by
 refine aB aP func256 ?_;simp
def fu(byl:dV)(k l:Int):dV:=if l=0 then byl else pt byl l (bq (λx=>decide (x=k)) ((lk byl l).getD []))
def gu(S:WS)(k:Int)(p:Pr):WS:=⟨pt S.prs k ⟨p.lits,0,0⟩,fu (fu S.byl k p.x) k p.y,S.late,S.head,S.seen⟩
def Mx:Sch:=
 let b:Sch:=.fork [(8,.done)]
 let a:Sch:=.fork [(5,.take 6 (.take 7 b))]
 let c:Sch:=.fork [(4,a)]
 let d:Sch:=.fork [(3,a)]
 let e:Sch:=.fork [(3,c),(4,d)]
 .take 0 (.take 1 (.take 2 (.take 9 e)))
def My:Sch:=
 let g:Sch:=.fork [(13,.done)]
 let b:Sch:=.fork [(12,g)]
 let h:Sch:=.fork [(11,b)]
 let f:Sch:=.fork [(10,b)]
 let i:Sch:=.fork [(10,h),(11,f)]
 let j:Sch:=.fork [(8,f)]
 let l:Sch:=.fork [(8,i),(11,j)]
 let m:Sch:=.fork [(3,g)]
 let k:Sch:=.fork [(3,b),(12,m)]
 let n:Sch:=.fork [(3,h),(11,k)]
 let a:Sch:=.fork [(3,f),(10,k)]
 let c:Sch:=.fork [(3,i),(10,n),(11,a)]
 let d:Sch:=.fork [(3,j),(8,a)]
 let e:Sch:=.fork [(3,l),(8,c),(11,d)]
 .take 0 (.take 1 (.take 2 (.take 4 (.take 5 (.take 6 (.take 7 (.take 9 e)))))))
def Mz:Sch:=
 let b:Sch:=.fork [(9,.done)]
 let f:Sch:=.fork [(6,.take 7 (.take 8 b))]
 let a:Sch:=.fork [(5,.take 7 (.take 8 b))]
 let c:Sch:=.fork [(5,f),(6,a)]
 let d:Sch:=.fork [(4,a)]
 let g:Sch:=.fork [(4,c),(6,d)]
 let e:Sch:=.fork [(3,a)]
 let h:Sch:=.fork [(3,c),(6,e)]
 let i:Sch:=.fork [(3,d),(4,e)]
 let j:Sch:=.fork [(3,g),(4,h),(6,i)]
 .take 0 (.take 1 (.take 2 j))
def Fb(S:WS)(k:Int)(p:Pr):Nat->dV
 |0=>S.byl
 |1=>fu S.byl k p.x
 |_=>fu (fu S.byl k p.x) k p.y
theorem v6(h:ao)(bw ba bt:Nat)(mp:cg)(mb:List (Int×By))(A:Ar)(T:Tr)(S:WS)(L:LayW h bw ba bt mp mb A T S)(k:Int)(p:Pr)(hp:lk S.prs k=some p)
 (hx:p.x≠0->∃zs,lk S.byl p.x=some zs∧zs≠[]) (hy:p.y≠0->∃zs,lk (fu S.byl k p.x) p.y=some zs∧zs≠[]) (hz:∀l zs,lk S.byl l=some zs->zs.length<=1000000):
 aI prog 195 [.ptr bw 0,ak k] h (λr h'=>r=.pv (.tup [])∧∃mb',LayW h' bw ba bt mp mb' A T (gu S k p)∧Ext h h' (bA bw bt mp mb) (bA bw bt mp mb')):=by
 refine dh [1,5,7] [] aP func195 ?_;obtain⟨b,E,q1,q2,q3,q4⟩:=L.some_p hp;obtain⟨G,D⟩:∃G,G=h++[[SV.pv (ak k)]]:=⟨_,rfl⟩;have L0:LayW G bw ba bt mp mb A T S:=by rw[D];exact L.app _
 have I:G[h.length]?=some [.pv (ak k)]:=by rw[D];simp
 have aa:G[b]?=some (rP p):=by rw[D,Vv (Vp.1 q1).1,q1]
 obtain⟨w1,w2⟩:=Vp.1 L0.w;obtain⟨k1,k2⟩:=Vp.1 I;obtain⟨b1,b2⟩:=Vp.1 aa;simp;rw[←D];have ae:h.length≠bw:=YP (Vp.1 L.w).1;have old:∀l e,lk mb l=some e->e.b<h.length:=λl e v=>by obtain⟨_,_,⟨_,a2,_⟩,_⟩:=L.by' l e v;exact(Vp.1 a2).1
 refine bP.meet Mx ⟨[(0,.pv (.ptr bw 0)),(3,.pv (.ptr h.length 0)),(14,.pv (.agg [ak p.x,ak p.y])),(15,.pv (ak 0))],G⟩ (by kernel_rfl) ?_ ?_
 .simp[Mx,w1,w2,cW,k1,k2,b1,b2,rP,lu,E,wW];and_intros
  all_goals exact av.keep (by simp) rfl
 simp;refine aM.intro (S:=λ(x:Nat×ao×List (Int×By))=>⟨[(0,.pv (.ptr bw 0)),(3,.pv (.ptr h.length 0)),(14,.pv (.agg [ak p.x,ak p.y])),(15,.pv (ak x.1))],x.2.1⟩)
  (λx=>x.1<=2∧LayW x.2.1 bw ba bt mp x.2.2 A T ⟨S.prs,Fb S k p x.1,S.late,S.head,S.seen⟩∧x.2.1[h.length]?=some [.pv (ak k)]∧Ext G x.2.1 (bA bw bt mp mb) (bA bw bt mp x.2.2)∧(∀l e,lk x.2.2 l=some e->e.b<h.length)∧∀l zs,lk (Fb S k p x.1) l=some zs->zs.length<=1000000)
  (λx=>2 -x.1) (0,G,mb) ?_ ⟨VH _,L0,I,Ext.refl _ _,old,hz⟩ ?_
 exact av.keep (by simp) rfl;rintro⟨i,H,mb'⟩ ⟨hi,s,j,P,f,o⟩;dsimp only at hi s j P f o;obtain⟨v1,v2⟩:=Vp.1 s.w;obtain⟨j1,j2⟩:=Vp.1 j;by_cases d:i<2;obtain⟨l,B⟩:∃l,l=if i=0 then p.x else p.y:=⟨_,rfl⟩;have F:[ak p.x,ak p.y][i]?=some (ak l):=by
  have:i=0∨i=1:=by omega
  rcases this with rfl|rfl;rw[B];rfl;rw[B];rfl
 have g:∀hh:i<[ak p.x,ak p.y].length,[ak p.x,ak p.y][i]'hh=ak l:=λhh=>by
  have:=Vp.1 F;exact this.2
 have d':(i:Int)<2:=by omega
 have M:bG ((i:Int)+1)=((i+1:Nat):Int):=by rw[aC (by omega) (by omega)];omega
 have a:Fb S k p (i+1)=fu (Fb S k p i) k l:=by
  have:i=0∨i=1:=by omega
  rcases this with rfl|rfl;rw[B];rfl;rw[B];rfl
 by_cases l0:l=0;simp[d,d',g,l0];rw[l0]at a;refine⟨(i+1,H,mb'),by dsimp only;omega,⟨by dsimp only;omega,?_,j,P,f,?_⟩,av.keep (by simp[M]) rfl⟩;dsimp only;rw[a];exact s;dsimp only;rw[a];exact o;have ad:∃zs,lk (Fb S k p i) l=some zs∧zs≠[]:=by
  have:i=0∨i=1:=by omega
  rcases this with rfl|rfl;have e:l=p.x:=B;rw[e]at l0⊢;exact hx l0;have e:l=p.y:=B;rw[e]at l0⊢;exact hy l0
 obtain⟨zs,n,O⟩:=ad;obtain⟨e,v,⟨sp,e1,e2,e3,e4,e5⟩,e6,e7,e8⟩:=s.some_b n;have N:zs.length<=1000000:=o l zs n;have J:0<zs.length:=WJ.2 O;have C:(bq (λx=>decide (x=k)) zs).length<=zs.length:=j7 _ _;have V:=j8 zs N 256 [.iptr 1 [[ak k]] 0 0] (λx=>decide (x=k)) (λr=>by simp) rfl (λm=>by simp) (by simp) (λx _=>Pe x k);have ag:e.b<H.length:=(Vp.1 e1).1;have t:h.length≠e.b:=YP (f l e v);obtain⟨Z,hZ⟩:∃Z,Z=bq (λx=>decide (x=k)) zs:=⟨_,rfl⟩;rw[←hZ]at C;unfold Oq at V;rw[←hZ]at V;obtain⟨X,hX⟩:∃X:bj,X=(Z++List.replicate (zs.length -Z.length) 0).map (λz=>SV.pv (.lit (.int .i64 z)))++sp:=⟨_,rfl⟩;have K:Fb S k p (i+1)=pt (Fb S k p i) l Z:=by
  rw[a];unfold fu;rw[Vs l0,n,V7,hZ]
 have Y:X=aN Z++((List.replicate (zs.length -Z.length) 0).map (λz=>SV.pv (.lit (.int .i64 z)))++sp):=by
  rw[hX,V1,VV];rfl
 have LN:=s.setB v Z ((List.replicate (zs.length -Z.length) 0).map (λz=>SV.pv (.lit (.int .i64 z)))++sp) (λm=>o9 m (e2 m) _) Z.length rfl (by omega) (by simp;omega);rw[←Y]at LN;simp[d,d',g,l0];refine bP.meet My ⟨[(0,.pv (.ptr bw 0)),(3,.pv (.ptr h.length 0)),(14,.pv (.agg [ak p.x,ak p.y])),(15,.pv (ak i))],(H.set e.b X).set bw (cW ba bt ⟨mp,pt mb' l ⟨e.b,Z.length,e.cp⟩,S.late,S.head,S.seen⟩)⟩ (by kernel_rfl) ?_ ?_
 .simp[My,v1,v2,cW,j1,j2,v,JI];and_intros
  all_goals
   refine ay.introX (cd.introT (b:=e.b) (b2:=h.length) (zs:=zs) (sp:=sp) (cp:=e.cp) V (by simp) (by simp) rfl (by simp) (by simp[e3]) (by simp) (by simp) e1 j t J N ?_);rintro _ _ ⟨rfl,rfl⟩;refine⟨_,_,rfl,rfl,by simp;omega,C,?_⟩;rw[←hX];simp[v1,v2,cW,e6,e6.symm,a8];exact av.keep (by simp) rfl
 simp;refine⟨(i+1,_,pt mb' l ⟨e.b,Z.length,e.cp⟩),by dsimp only;omega,⟨by dsimp only;omega,?_,?_,?_,?_,?_⟩,av.keep (by simp[M]) rfl⟩;dsimp only;rw[K];exact LN;dsimp only;rw[VL (λq=>ae q.symm),VL (λq=>t q.symm)];exact j;dsimp only;refine P.trans (((Ext.set e.b X (.inr (.inr (.inr ⟨l,e,v,rfl⟩)))).trans (Ext.set bw _ (.inl rfl))).dom ?_);rintro c _ (q|q|q|⟨l',e',q,rfl⟩);exact .inl q;exact .inr (.inl q);exact .inr (.inr (.inl q));rw[cm]at q;split at q;cases q;exact .inr (.inr (.inr ⟨l,e,v,rfl⟩));exact .inr (.inr (.inr ⟨l',e',q,rfl⟩));intro l' e' q;dsimp only at q;rw[cm]at q;split at q;cases q;exact f l e v;exact f l' e' q;intro l' af q;dsimp only at q;rw[K,cm]at q;split at q;cases q;omega;exact o l' af q;have:i=2:=by omega
 subst this;obtain⟨R,r1,r2,r3,r4,r5⟩:=s.pr k b E;have ab:R=p:=by rw[hp]at r1;cases r1;rfl
 subst ab; obtain ⟨c1, c2⟩ := Vp.1 r2; have LF := s.setP E ⟨R.lits, 0, 0⟩ (by
  have:∀(l:List (Int×Pr))(q:Pr),lk l k=some q->(pt l k ⟨R.lits,0,0⟩).map (·.1)=l.map (·.1):=by
   intro l q Q
   induction l with
   |nil=>cases Q
   |cons u l ih=>
    obtain⟨u1,u2⟩:=u;rw[pt];rw[lk]at Q;split;rename_i U;simp only[VP,U];rename_i U;rw[Vs U]at Q;simp only[VP];rw[ih Q]
  exact s.keys.trans (this _ _ hp).symm)
 have W:Ext h (H.set b (rP ⟨R.lits,0,0⟩)) (bA bw bt mp mb) (bA bw bt mp mb'):=by
  have a1:Ext h G (bA bw bt mp mb) (bA bw bt mp mb):=by rw[D];exact Ext.app _ _ _
  exact(a1.trans P).trans (Ext.set b _ (.inr (.inr (.inl ⟨k,E⟩))))
 simp;refine bP.one Mz (by kernel_rfl) ?_;simp[Mz,v1,v2,cW,j1,j2,c1,c2,rP,lu,E,wW];exact⟨mb',LF,W⟩
def MA:Sch:=
 let e:Sch:=.fork [(12,.done)]
 let a:Sch:=.fork [(9,.take 10 (.take 11 e))]
 let b:Sch:=.fork [(8,a)]
 let f:Sch:=.fork [(6,.take 7 b)]
 let c:Sch:=.fork [(4,a)]
 let d:Sch:=.fork [(4,b),(8,c)]
 let g:Sch:=.fork [(4,f),(6,.take 7 d)]
 let h:Sch:=.fork [(2,.take 3 c)]
 let i:Sch:=.fork [(2,.take 3 d),(8,h)]
 let j:Sch:=.fork [(2,.take 3 g),(6,.take 7 i)]
 .take 0 (.take 1 (.take 5 j))
def Ai:Sch:=
 let g:Sch:=.fork [(14,.done)]
 let b:Sch:=.fork [(13,g)]
 let h:Sch:=.fork [(12,b)]
 let f:Sch:=.fork [(10,b)]
 let i:Sch:=.fork [(10,h),(12,f)]
 let j:Sch:=.fork [(8,f)]
 let l:Sch:=.fork [(8,i),(12,j)]
 let m:Sch:=.fork [(3,g)]
 let k:Sch:=.fork [(3,b),(13,m)]
 let n:Sch:=.fork [(3,h),(12,k)]
 let a:Sch:=.fork [(3,f),(10,k)]
 let c:Sch:=.fork [(3,i),(10,n),(12,a)]
 let d:Sch:=.fork [(3,j),(8,a)]
 let e:Sch:=.fork [(3,l),(8,c),(12,d)]
 .take 0 (.take 1 (.take 2 (.take 4 (.take 5 (.take 6 (.take 7 (.take 9 (.take 11 e))))))))
def GV:Sch:=
 let a:Sch:=.fork [(9,.done)]
 let b:Sch:=.fork [(7,a)]
 let c:Sch:=.fork [(5,.take 6 b)]
 let d:Sch:=.fork [(3,a)]
 let e:Sch:=.fork [(3,b),(7,d)]
 let f:Sch:=.fork [(3,c),(5,.take 6 e)]
 .take 0 (.take 1 (.take 2 (.take 4 (.take 8 f))))
def iQ(byl:dV)(k l:Int):dV:=pt byl l ((lk byl l).getD []++[k])
def lH(S:WS)(T:Tr)(k:Int)(p:Pr):WS:=
 if 2<=(fV T p.lits).length then⟨pt S.prs k ⟨p.lits,(fV T p.lits).getD 0 0,(fV T p.lits).getD 1 0⟩,iQ (iQ S.byl k ((fV T p.lits).getD 0 0)) k ((fV T p.lits).getD 1 0),dl S.late k,S.head,S.seen⟩else S
def nE(T:Tr)(k:Int)(p:Pr):Tr:=
 if(fV T p.lits).length=1∧ns T p.lits=false then mN T ((fV T p.lits).getD 0 0) k else T
def oy(T:Tr)(p:Pr):Bool:=decide ((fV T p.lits).length=0)
@[simp] theorem QY:∀(l:aS)(k:Int),jy k (aL fI l)=aL fI (dl l k)
 |[],k=>rfl
 |(j,x)::l,k=>by
  show(if j=k then aL fI l else(j,fI x)::jy k (aL fI l))=aL fI (if j=k then l else(j,x)::dl l k);rw[QY l k];split<;>rfl
theorem fW{α:Type}{k:Int}(y:α):∀{l:List (Int×α)}{q:α},lk l k=some q->(pt l k y).map (·.1)=l.map (·.1)
 |[],_,h=>by cases h
 |(b,c)::l,q,h=>by
  rw[pt];rw[lk]at h;split;rename_i a;simp only[VP,a];rename_i a;rw[Vs a]at h;simp only[VP];rw[fW y h]
theorem jj(k:Nat):∀n:Nat,cA k (List.replicate n (SV.pv .bot))
 |0=>trivial
 |n+1=>⟨trivial,jj k n⟩
def sR(byl:dV)(k x y:Int):Nat->dV
 |0=>byl
 |1=>iQ byl k x
 |_=>iQ (iQ byl k x) k y
theorem ym(h:ao)(bw ba bt:Nat)(mp:cg)(mb:List (Int×By))(A:Ar)(T:Tr)(S:WS)(L:LayW h bw ba bt mp mb A T S)(k:Int)(p:Pr)(hp:lk S.prs k=some p)(hT:T.ok)(ae:T.lits.length<=1000000)(M:p.lits.length<=1000000)
 (hz:∀l zs,lk S.byl l=some zs->zs.length<=1000000):
 aI Tryz.prog 233 [.ptr bw 0,ak k] h (λr h'=>r=.pv (BL (oy T p))∧∃mb',LayW h' bw ba bt mp mb' A (nE T k p) (lH S T k p)∧Ext h h' (bA bw bt mp mb) (bA bw bt mp mb')):=by
 refine dh [6,10,14] [.tmp 4] aP Tryz.func233 ?_;obtain⟨b,hb,q1,q2,q3,q4⟩:=L.some_p hp;have ad:=Mv h bw ba bt b ⟨mp,mb,S.late,S.head,S.seen⟩ T p.lits p.x p.y L.w L.t q1 hT M;obtain⟨w1,w2⟩:=Vp.1 L.w;obtain⟨b1,b2⟩:=Vp.1 q1;have ax:=yl T p.lits;unfold lH nE oy;generalize fV T p.lits=O at*;generalize ns T p.lits=Hd at*;simp[w1,w2,cW,hb,wW];refine ay.intro ad ?_;rintro _ h2 ⟨e,rfl⟩;rw[e];clear e h2;obtain⟨G,E⟩:∃G,G=h++[[SV.pv (BL Hd),SV.pv (PV.seq true 1 (am O))]]:=⟨_,rfl⟩;have L0:LayW G bw ba bt mp mb A T S:=by rw[E];exact L.app _
 have E0:Ext h G (bA bw bt mp mb) (bA bw bt mp mb):=by rw[E];exact Ext.app _ _ _
 have aj:G[h.length]?=some [SV.pv (BL Hd),SV.pv (PV.seq true 1 (am O))]:=by rw[E];simp
 have ah:G[b]?=some (rP p):=by rw[E,Vv b1,q1]
 obtain⟨g1,g2⟩:=Vp.1 L0.w;obtain⟨f1,f2⟩:=Vp.1 aj;obtain⟨c1,c2⟩:=Vp.1 ah;have aw:b≠h.length:=ZP b1;have az:bw≠h.length:=ZP w1;rcases O with _|⟨f,_|⟨g,O'⟩⟩;simp;rw[←E];exact⟨mb,L0,E0⟩;simp;rw[←E];cases Hd
 .simp;have kI:=xJ G bt T L0.t f k hT ae;refine bP.one GV (by kernel_rfl) ?_;simp[GV,g1,g2,cW,f1,f2];and_intros
  all_goals
   refine ay.intro kI ?_;rintro _ _ ⟨rfl,rfl⟩;simp;exact⟨mb,L0.setT _,E0.trans (Ext.set bt _ (.inr (.inl rfl)))⟩
 simp;exact⟨mb,L0,E0⟩;have X:¬((O'.length:Int)+1+1=0):=by omega
 have J:(2:Int)<=(O'.length:Int)+1+1:=by omega
 have K:¬(O'.length+1+1=1):=by omega
 simp[X,J,K];rw[←E];have L1:=L0.setP hb ⟨p.lits,f,g⟩ (L0.keys.trans (fW _ hp).symm);have E1:Ext h (G.set b (rP ⟨p.lits,f,g⟩)) (bA bw bt mp mb) (bA bw bt mp mb):=E0.trans (Ext.set b _ (.inr (.inr (.inl ⟨k,hb⟩))));have V:b<(G.set b (rP ⟨p.lits,f,g⟩)).length:=by simpa using c1
 have ag:(G.set b (rP ⟨p.lits,f,g⟩))[b]'V=lu p.lits f g:=by simp[rP]
 refine bP.meet MA ⟨[(0,.pv (.ptr bw 0)),(1,.pv (ak k)),(5,.pv (.ptr b 0)),(6,.pv (.ptr h.length 0))],G.set b (rP ⟨p.lits,f,g⟩)⟩ (by kernel_rfl) ?_ ?_
 .simp[MA,f1,f2,c1,c2,rP,lu];and_intros
  all_goals first|omega|exact av.keep (by simp) rfl
 generalize G.set b (rP ⟨p.lits,f,g⟩)=G1 at*;simp[V,ag,lu];refine aM.intro (S:=λ(x:Nat×ao×List (Int×By))=>⟨[(0,.pv (.ptr bw 0)),(1,.pv (ak k)),(43,.pv (.agg [ak f,ak g])),(44,.pv (ak x.1))],x.2.1⟩)
  (λx=>x.1<=2∧LayW x.2.1 bw ba bt mp x.2.2 A T ⟨pt S.prs k ⟨p.lits,f,g⟩,sR S.byl k f g x.1,S.late,S.head,S.seen⟩∧Ext G1 x.2.1 (bA bw bt mp mb) (bA bw bt mp x.2.2)∧∀l zs,lk (sR S.byl k f g x.1) l=some zs->zs.length<=1000000+x.1)
  (λx=>2 -x.1) (0,G1,mb) ?_ ⟨VH _,L1,Ext.refl _ _,hz⟩ ?_
 exact av.keep (by simp) rfl;rintro⟨i,H,mb'⟩ ⟨hi,v,hE,D⟩;dsimp only at hi v hE D;obtain⟨N,v2⟩:=Vp.1 v.w;by_cases d:i<2;obtain⟨l,M⟩:∃l,l=if i=0 then f else g:=⟨_,rfl⟩;have W:[ak f,ak g][i]?=some (ak l):=by
  have:i=0∨i=1:=by omega
  rcases this with rfl|rfl;rw[M];rfl;rw[M];rfl
 have F:∀hh:i<[ak f,ak g].length,[ak f,ak g][i]'hh=ak l:=λhh=>(Vp.1 W).2;have d':(i:Int)<2:=by omega
 have an:bG ((i:Int)+1)=((i+1:Nat):Int):=by rw[aC (by omega) (by omega)];omega
 have o:sR S.byl k f g (i+1)=iQ (sR S.byl k f g i) k l:=by
  have:i=0∨i=1:=by omega
  rcases this with rfl|rfl;rw[M];rfl;rw[M];rfl
 simp[d,d',F];refine bP.blk [60] Ai (λx:ao×List (Int×By)=>⟨[(0,.pv (.ptr bw 0)),(1,.pv (ak k)),(43,.pv (.agg [ak f,ak g])),(44,.pv (ak i))],x.1⟩)
  (λx=>LayW x.1 bw ba bt mp x.2 A T ⟨pt S.prs k ⟨p.lits,f,g⟩,sR S.byl k f g (i+1),S.late,S.head,S.seen⟩∧Ext H x.1 (bA bw bt mp mb') (bA bw bt mp x.2)) (by kernel_rfl) ?_ ?_
 .have hA:∀x,(H++[x])[bw]?=some (cW ba bt ⟨mp,mb',S.late,S.head,S.seen⟩):=λx=>by rw[Vv N];exact v.w
  have dom:∀e',(∀c,c<H.length->e'.b=c->∃l0 e0,lk mb' l0=some e0∧e0.b=c)->∀c,c<H.length->bA bw bt mp (pt mb' l e') c->bA bw bt mp mb' c:=λe' ai c s q=>by
   rcases q with q|q|q|⟨l',e2,q,q2⟩;exact .inl q;exact .inr (.inl q);exact .inr (.inr (.inl q));rw[cm]at q;split at q;cases q;exact .inr (.inr (.inr (ai c s q2)));exact .inr (.inr (.inr ⟨l',e2,q,q2⟩))
  cases j:lk mb' l with
  |none=>
   have af:=v.byn l j;have C:sR S.byl k f g (i+1)=pt (sR S.byl k f g i) l [k]:=by
    rw[o];unfold iQ;rw[af];rfl
   have LN:∀cap,1<=cap->LayW (H.set bw (cW ba bt ⟨mp,pt mb' l ⟨H.length,1,cap⟩,S.late,S.head,S.seen⟩)++[SV.pv (ak k)::List.replicate (cap -1) (SV.pv .bot)]) bw ba bt mp (pt mb' l ⟨H.length,1,cap⟩) A T ⟨pt S.prs k ⟨p.lits,f,g⟩,sR S.byl k f g (i+1),S.late,S.head,S.seen⟩:=λcap s=>by
    have:=v.newB l [k] (List.replicate (cap -1) (SV.pv .bot)) (λm=>jj m _) 1 cap rfl s (by simp;omega);rw[C];rw[XO _ _ N]at this;exact this
   have EN:∀cap x y,Ext H (H.set bw x++[y]) (bA bw bt mp mb') (bA bw bt mp (pt mb' l ⟨H.length,1,cap⟩)):=λcap x y=>by
    refine(((Ext.set bw x (.inl rfl)).trans (Ext.app _ [y] _)).dom (dom _ λc s e=>?_));simp only at e;omega
   simp[Ai,N,v2,cW,j,hA];and_intros
   all_goals
    intro cap s;exact⟨_,⟨pt mb' l ⟨H.length,1,cap⟩,LN cap s,EN cap _ _⟩,av.keep (by simp) rfl⟩
  |some e=>
   obtain⟨zs,aa,⟨sp,e1,e2,e3,e4,e5⟩,e6,e7,e8⟩:=v.by' l e j
   obtain⟨u1,u2⟩:=Vp.1 e1;have ab:¬bw=e.b:=λq=>e6 q.symm;have C:sR S.byl k f g (i+1)=pt (sR S.byl k f g i) l (zs++[k]):=by
    rw[o];unfold iQ;rw[aa];rfl
   have I:(aN zs).length=e.n:=by rw[eW];exact e3
   have aA:e.n<=1000000+i:=by rw[←e3];exact D l zs aa
   have P:∀m (s0:bj),cA m s0->cA m (s0.drop 1):=λm s0 Z=>by cases s0 with|nil=>exact Z|cons _ _=>exact Z.2
   have au:(aN zs++sp).length=e.n+sp.length:=by rw[Vz,I]
   have B:(aN zs++sp).take e.n=aN zs:=Xw I;have U:(aN zs++sp).take e.n=(zs.map λz=>PV.lit (.int .i64 z)).map SV.pv:=by rw[B];unfold aN;rw[Wo];rfl
   have u:∀R:bj,aN (zs++[k])++R=aN zs++SV.pv (ak k)::R:=λR=>by unfold aN;rw[V1,VV];rfl
   have Q:(aN zs++sp).drop (e.n+1)=sp.drop 1:=by rw[←I,ZG];simp
   have LR:e.n+1<=e.cp->LayW ((H.set e.b (List.take e.n (aN zs++sp)++SV.pv (ak k)::List.drop (e.n+1) (aN zs++sp))).set bw (cW ba bt ⟨mp,pt mb' l ⟨e.b,e.n+1,e.cp⟩,S.late,S.head,S.seen⟩)) bw ba bt mp (pt mb' l ⟨e.b,e.n+1,e.cp⟩) A T ⟨pt S.prs k ⟨p.lits,f,g⟩,sR S.byl k f g (i+1),S.late,S.head,S.seen⟩:=λhr=>by
    rw[B,Q,←u,C];exact v.setB j (zs++[k]) (sp.drop 1) (λm=>P m sp (e2 m)) (e.n+1) (by simp;omega) hr (by rw[Wf];omega)
   have LG:∀a,e.n+1<=a->LayW (H.set bw (cW ba bt ⟨mp,pt mb' l ⟨H.length,e.n+1,a⟩,S.late,S.head,S.seen⟩)++[(zs.map λz=>PV.lit (.int .i64 z)).map SV.pv++SV.pv (ak k)::List.replicate (a -(e.n+1)) (SV.pv .bot)]) bw ba bt mp (pt mb' l ⟨H.length,e.n+1,a⟩) A T ⟨pt S.prs k ⟨p.lits,f,g⟩,sR S.byl k f g (i+1),S.late,S.head,S.seen⟩:=λa s=>by
    have:=v.newB l (zs++[k]) (List.replicate (a -(e.n+1)) (SV.pv .bot)) (λm=>jj m _) (e.n+1) a (by simp;omega) s (by simp;omega);rw[C,←U,B];rw[XO _ _ N,u]at this;exact this
   have ER:∀x y,Ext H ((H.set e.b x).set bw y) (bA bw bt mp mb') (bA bw bt mp (pt mb' l ⟨e.b,e.n+1,e.cp⟩)):=λx y=>by
    refine(((Ext.set e.b x (.inr (.inr (.inr ⟨l,e,j,rfl⟩)))).trans (Ext.set bw y (.inl rfl))).dom (dom _ λc s q=>?_));exact⟨l,e,j,q⟩
   have EG:∀a x y,Ext H (H.set bw x++[y]) (bA bw bt mp mb') (bA bw bt mp (pt mb' l ⟨H.length,e.n+1,a⟩)):=λa x y=>by
    refine(((Ext.set bw x (.inl rfl)).trans (Ext.app _ [y] _)).dom (dom _ λc s q=>?_));simp only at q;omega
   clear B Q u;generalize hY:aN zs++sp=Y at*;simp[Ai,N,v2,cW,j,JI,u1,u2,hA,e6,ab];and_intros
   all_goals first
    |omega
    |(refine⟨_,U,by simpa using e3,λhr=>⟨_,⟨_,LR hr,ER _ _⟩,av.keep (by simp) rfl⟩,λhn a s=>⟨_,⟨_,LG a s,EG a _ _⟩,av.keep (by simp) rfl⟩⟩)
 rintro⟨H2,aq⟩ ⟨LN,EN⟩;simp;refine⟨(i+1,H2,aq),by dsimp only;omega,⟨by dsimp only;omega,LN,hE.trans EN,λl' ar q=>?_⟩,av.keep (by simp[an]) rfl⟩;dsimp only at q⊢;rw[o]at q;unfold iQ at q;rw[cm]at q;split at q;cases q;rw[Vz,Wi];cases hq:lk (sR S.byl k f g i) l with
 |none=>simp only[Option.getD_none,List.length_nil];omega
 |some z0=>have:=D l z0 hq;simp only[V7];omega
 have:=D l' ar q;omega;have:i=2:=by omega
 subst this;simp[N,v2,cW];exact⟨mb',v.setW (dl S.late k) S.head S.seen,(E1.trans hE).trans (Ext.set bw _ (.inl rfl))⟩
end Go.AX
