/-
  Contracts: watches: what they hold; made, look, shrunk.
  Watches: how they lie in memory, told as plain data.
  Contracts: watches: forget.
  Contracts: watches: fresh.
-/
import Derived.Test.YtepodadinenmnaaGreatS14AxTtA
import Derived.Test.YtepodadinenmnaaGreatS14AxDkQ
import Derived.Test.YtepodadinenmnaaGreatAxTb
import Derived.Test.YtepodadinenmnaaGreatAxBt
namespace Go.AX
set_option maxRecDepth 16000
open Go.Proofs
set_option linter.unusedSimpArgs false
structure By where
  b:Nat
  n:Nat
  cp:Nat
def CD(x:By):PV:=.bsl x.b 1 0 x.n x.cp
def tf(b:Nat):PV:=.ptr b 0
structure Wt where
  prs:List (Int×Nat)
  byl:List (Int×By)
  late:List (Int×Int)
  head:Int
  seen:List Int
def ca(ba bt:Nat)(W:Wt):List SV:=[.pv (.ptr ba 0),.pv (.ptr bt 0),.omap true (aS tf W.prs),.omap true (aS CD W.byl),.omap true (aS fI W.late),.pv (ae W.head),.own true 1 (af W.seen)]
def iD(lits:List Int)(x y:Int):List SV:=[.pv (.seq false 1 (af lits)),.pv (ae x),.pv (ae y)]
theorem wH(h:List (List SV))(b ba bt:Nat)(W:Wt)(d:h[b]?=some (ca ba bt W)):aB Tryz.prog 154 [.ptr b 0] h (λr h'=>h'=h∧r=.pv (BL true)):=by
 refine gm [] [.tmp 2] aG Tryz.func154 ?_;obtain⟨c,a⟩:=N5.1 d;simp[a,c,ca]
def d6(T:Tr)(lits:List Int):List Int:=lits.filter λl=>decide (bZ T l=1)||decide (bZ T l=0)
def j0(T:Tr)(lits:List Int):Bool:=lits.any λl=>decide (bZ T l=1)
theorem yO(T:Tr)(lits:List Int){i:Nat}(h:i<lits.length):d6 T (lits.take (i+1))=if bZ T lits[i]=1∨bZ T lits[i]=0 then d6 T (lits.take i)++[lits[i]]else d6 T (lits.take i):=by
 unfold d6;rw[Pj,N6 h,P3,PD,O5,SB]
 by_cases c:bZ T lits[i]=1∨bZ T lits[i]=0
 .rw[N9 c,N9 (by simpa using c)]
 .rw[N8 c,N8 (by simpa using c),Pt]
theorem yP(T:Tr)(lits:List Int){i:Nat}(h:i<lits.length):j0 T (lits.take (i+1))=(j0 T (lits.take i)||decide (bZ T lits[i]=1)):=by
 unfold j0;rw[Pj,N6 h,P3,List.any_append];simp
theorem tg(T:Tr)(lits:List Int):(d6 T lits).length<=lits.length:=P6 _ _
theorem Ez(h:List (List SV))(bw ba bt bp:Nat)(W:Wt)(T:Tr)(lits:List Int)(x y:Int)(I:h[bw]?=some (ca ba bt W))(ht:h[bt]?=some (fD T))(hp:h[bp]?=some (iD lits x y))(J:T.ok)(P:lits.length<=1000000):
 aB Tryz.prog 280 [.ptr bw 0,.ptr bp 0] h (λr h'=>h'=h∧r=.pv (.agg [BL (j0 T lits),.seq true 1 (af (d6 T lits))])):=by
 refine lj [] [.cell 4 _] aG Tryz.func280 ?_;obtain⟨O,R⟩:=N5.1 I;obtain⟨N,Q⟩:=N5.1 hp;obtain⟨G,e⟩:∃G:SV->SV->List (List SV),∀u v,G u v=h++[[.pv (BL false),.pv (.lit (.slice none 0 0))],[u,v]]:=⟨_,λ_ _=>rfl⟩;have t:∀u v,(G u v)[bw]?=some (ca ba bt W):=λu v=>by rw[e,Oa O,I]
 have q:∀u v,(G u v)[bp]?=some (iD lits x y):=λu v=>by rw[e,Oa N,hp]
 have A:∀u v,(G u v)[bt]?=some (fD T):=λu v=>by rw[e,Oa (N5.1 ht).1,ht]
 have g:∀u v,(G u v)[h.length+1]?=some [u,v]:=λu v=>by rw[e];simp
 have s:∀u v,bw<(G u v).length:=λu v=>(N5.1 (t u v)).1;have B:∀u v,(G u v)[bw]'(s u v)=ca ba bt W:=λu v=>(N5.1 (t u v)).2;have p:∀u v,bp<(G u v).length:=λu v=>(N5.1 (q u v)).1;have z:∀u v,(G u v)[bp]'(p u v)=iD lits x y:=λu v=>(N5.1 (q u v)).2;have a:∀u v,h.length+1<(G u v).length:=λu v=>(N5.1 (g u v)).1;have f:∀u v,(G u v)[h.length+1]'(a u v)=[u,v]:=λu v=>(N5.1 (g u v)).2;have E:∀u v n,br (G u v) (n+1) bt 0=bB T:=λu v n=>cJ (A u v) n;have j:∀u v C D,(G u v).set (h.length+1) [C,D]=G C D:=λu v C D=>by rw[e,e];simp
 have M:=λl=>eP T l J;simp;rw[←e];simp[s,B,ca,p,z,iD,E];obtain⟨H,c⟩:∃H:Nat->List (List SV),∀i,H i=G (.pv (BL (j0 T (lits.take i)))) (.own true 1 (af (d6 T (lits.take i)))):=⟨_,λ_=>rfl⟩;have h1:∀i,h.length+1<(H i).length:=λi=>by rw[c];exact a _ _
 have F:∀i,(H i)[h.length+1]'(h1 i)=[.pv (BL (j0 T (lits.take i))),.own true 1 (af (d6 T (lits.take i)))]:=λi=>by simp only[c];exact f _ _
 have hz:∀i n,br (H i) (n+1) bt 0=bB T:=λi n=>by rw[c];exact E _ _ n
 have hs:∀i u v,(H i).set (h.length+1) [u,v]=G u v:=λi u v=>by rw[c];exact j _ _ _ _
 refine aJ.intro (S:=λ(i:Nat)=>⟨[(4,.pv (.ptr h.length 0)),(5,.pv (.ptr (h.length+1) 0)),(6,.pv (.fn (.func 103) [.ptr bt 0] [])),(17,.pv (.seq false 1 (af lits))),(18,.pv (ae lits.length)),(19,.pv (ae i))],H i⟩) (λi=>i<=lits.length) (λi=>lits.length -i) 0 ?_ (Oz _) ?_
 .refine(ai.nilCell (b:=h.length+1) (k:=1) (xs:=[.pv (BL false),.pv (.lit (.slice none 0 0))]) 1 true (by simp;exact g _ _) (by simp)).trans (ai.keep (by simp) ?_);simp[c,j,j0,d6,af]
 intro i hi
 by_cases d:i<lits.length
 .have m:a8 ((i:Int)+1)=((i+1:Nat):Int):=by rw[ap (by omega) (by omega)];omega
  have L:lits[i]?=some lits[i]:=N6 d;have ho:=yO T lits d;have w:=yP T lits d;have K:(d6 T (lits.take i)).length<=i:=OM (tg _ _) (by rw[Oe];omega);simp[d,L,hz];refine am.introP (M lits[i]) ?_
  by_cases o:bZ T lits[i]=1
  .rw[N9 (.inl o)]at ho;rw[PG o,Sf]at w;simp[o,h1,F,hs,a,f,j];refine⟨by omega,i+1,by(try dsimp only);omega,by(try dsimp only);omega,ai.keep (by simp[m]) ?_⟩;simp[c,j,ho,w,af]
  .rw[PE o,RX]at w
   by_cases v0:bZ T lits[i]=0
   .rw[N9 (.inr v0)]at ho;simp[v0,h1,F,hs,a,f,j];refine⟨by omega,i+1,by(try dsimp only);omega,by(try dsimp only);omega,ai.keep (by simp[m]) ?_⟩;simp[c,j,ho,w,af]
   .rw[N8 (λh=>h.elim o v0)]at ho;simp[v0,o];refine⟨i+1,by(try dsimp only);omega,by(try dsimp only);omega,ai.keep (by simp[m]) ?_⟩;simp[c,j,ho,w,af]
 .have:i=lits.length:=by omega
  subst this;simp only[c,e];simp[cw,cE,frzC]
def gx:List Int->List Int->Nat
 |x::a,y::b=>if x=y then gx a b+1 else 0
 |_,_=>0
def EA(W:Wt)(now:List Int):Wt:=⟨W.prs,W.byl,W.late,if(gx W.seen now:Int)<W.head then(gx W.seen now:Int)else W.head,W.seen⟩
theorem yQ(h:List (List SV))(bw ba bt:Nat)(W:Wt)(now:List Int)(l:h[bw]?=some (ca ba bt W))(m:now.length<=1000000)(hs:W.seen.length<=1000000):
 aB Tryz.prog 155 [.ptr bw 0,.seq false 1 (af now)] h (λr h'=>h'=h.set bw (ca ba bt (EA W now))∧r=.pv (.tup [])):=by
 refine cL [] [] aG Tryz.func155 ?_;obtain⟨c,d⟩:=N5.1 l;have j:gx W.seen now=0+gx (W.seen.drop 0) (now.drop 0):=by simp
 unfold EA;generalize gx W.seen now=P at*;simp;refine aJ.intro (S:=λ(k:Nat)=>⟨[(0,.pv (.ptr bw 0)),(1,.pv (.seq false 1 (af now))),(4,.pv (ae k))],h⟩) (λk=>k<=W.seen.length∧k<=now.length∧P=k+gx (W.seen.drop k) (now.drop k)) (λk=>W.seen.length -k) 0 ?_ ⟨Oz _,Oz _,j⟩ ?_
 .exact ai.keep (by simp) rfl
 rintro k ⟨n,o,hk⟩;have f:a8 ((k:Int)+1)=((k+1:Nat):Int):=by rw[ap (by omega) (by omega)];omega
 by_cases a:k<W.seen.length
 .have g:W.seen[k]?=some W.seen[k]:=N6 a
  by_cases b:k<now.length
  .have i:now[k]?=some now[k]:=N6 b;rw[O0 a,O0 b,gx]at hk
   by_cases e:W.seen[k]=now[k]
   .rw[N9 e]at hk;simp[c,d,ca,a,b,g,i,e];exact⟨k+1,by(try dsimp only);omega,⟨by(try dsimp only);omega,by(try dsimp only);omega,by(try dsimp only);omega⟩,ai.keep (by simp[f]) rfl⟩
   .rw[N8 e]at hk;have:P=k:=by omega
    subst this;simp[c,d,ca,a,b,g,i,e]
  .have:P=k:=by rw[OK (show now.length<=k by omega)]at hk;cases hd:W.seen.drop k<;>rw[hd]at hk<;>simpa[gx]using hk
   subst this;simp[c,d,ca,a,b,g]
 .have:P=k:=by rw[OK (show W.seen.length<=k by omega)]at hk;simpa[gx]using hk
  subst this;simp[c,d,ca,a]
end Go.AX
namespace Go.AX
open Go.Proofs
set_option linter.unusedSimpArgs false
structure Pr where
  lits:List Int
  x:Int
  y:Int
structure WS where
  prs:List (Int×Pr)
  byl:List (Int×List Int)
  late:List (Int×Int)
  head:Int
  seen:List Int
def nO(p:Pr):List SV:=iD p.lits p.x p.y
def Ma(h:List (List SV))(e:By)(zs:List Int):Prop:=∃sp,h[e.b]?=some (aH zs++sp)∧(∀k,cM k sp)∧zs.length=e.n∧e.n<=e.cp∧e.cp<=e.n+sp.length
structure LayW (h:List (List SV)) (bw ba bt:Nat) (mp:List (Int×Nat)) (mb:List (Int×By)) (A:Ar) (T:Tr) (S:WS):Prop where
  w:h[bw]?=some (ca ba bt ⟨mp,mb,S.late,S.head,S.seen⟩)
  a:h[ba]?=some (lm A)
  t:h[bt]?=some (fD T)
  wa:bw≠ba
  wt:bw≠bt
  at':ba≠bt
  keys:mp.map (·.1)=S.prs.map (·.1)
  pr:∀k b,lk mp k=some b->∃p,lk S.prs k=some p∧h[b]?=some (nO p)∧b≠bw∧b≠ba∧b≠bt
  pinj:∀k k' b,lk mp k=some b->lk mp k'=some b->k=k'
  by':∀l e,lk mb l=some e->∃zs,lk S.byl l=some zs∧Ma h e zs∧e.b≠bw∧e.b≠ba∧e.b≠bt
  byn:∀l,lk mb l=none->lk S.byl l=none
  binj:∀l l' e e',lk mb l=some e->lk mb l'=some e'->e.b=e'.b->l=l'
  pb:∀k b l e,lk mp k=some b->lk mb l=some e->b≠e.b
def aO(bw bt:Nat)(mp:List (Int×Nat))(mb:List (Int×By))(b:Nat):Prop:=b=bw∨b=bt∨(∃k,lk mp k=some b)∨∃l e,lk mb l=some e∧e.b=b
structure Ext (h h':List (List SV)) (D D':Nat->Prop):Prop where
  len:h.length<=h'.length
  same:∀b,b<h.length->¬D b->h'[b]?=h[b]?
  sub:∀b,b<h.length->D' b->D b
theorem Ext.refl(h:List (List SV))(D:Nat->Prop):Ext h h D D:=⟨Oc _,λ_ _ _=>rfl,λ_ _ h=>h⟩
theorem Ext.trans{h1 f g:List (List SV)}{c d e:Nat->Prop}(a:Ext h1 f c d)(b:Ext f g d e):Ext h1 g c e:=
 ⟨OM a.len b.len,λk hk hn=>by rw[b.same k (Ph hk a.len) λhd=>hn (a.sub k hk hd),a.same k hk hn],λk hk hd=>a.sub k hk (b.sub k (Ph hk a.len) hd)⟩
theorem Ext.app(h g:List (List SV))(D:Nat->Prop):Ext h (h++g) D D:=
 ⟨by simp,λb a _=>Oa a,λ_ _ h=>h⟩
theorem Ext.set{h:List (List SV)}{D:Nat->Prop}(b:Nat)(x:List SV)(hd:D b):Ext h (h.set b x) D D:=
 ⟨by simp,λk hk hn=>On (λe:b=k=>hn (e▸hd)),λ_ _ h=>h⟩
theorem Ext.dom{h h':List (List SV)}{D D' c:Nat->Prop}(a:Ext h h' D D')(hs:∀b,b<h.length->c b->D b):Ext h h' D c:=⟨a.len,a.same,hs⟩
section
variable {h : List (List SV)} {bw ba bt : Nat} {mp : List (Int × Nat)} {mb : List (Int × By)} {A : Ar} {T : Tr} {S : WS}
theorem LayW.some_p(L:LayW h bw ba bt mp mb A T S){k:Int}{p:Pr}(hp:lk S.prs k=some p):∃b,lk mp k=some b∧h[b]?=some (nO p)∧b≠bw∧b≠ba∧b≠bt:=by
 have:∀(a:List (Int×Nat))(c:List (Int×Pr)),a.map (·.1)=c.map (·.1)->(lk c k).isSome=true->(lk a k).isSome=true:=by
  intro a
  induction a with
  |nil=>intro c h1 d;cases c with|nil=>exact d|cons _ _=>simp at h1
  |cons u a f=>
   intro c h1 d;cases c with
   |nil=>simp at h1
   |cons w c=>
    simp only[Ow,Ql]at h1;rw[lk]at d⊢;rw[h1.1];split
    .rfl
    .rename_i hn;rw[N8 hn]at d;exact f c h1.2 d
 obtain⟨b,e⟩:=QO.1 (this mp S.prs L.keys (by rw[hp];rfl));obtain⟨g,h1,d⟩:=L.pr k b e;rw[hp]at h1;cases h1
 exact⟨b,e,d⟩
theorem LayW.some_b(L:LayW h bw ba bt mp mb A T S){l:Int}{zs:List Int}(hz:lk S.byl l=some zs):∃e,lk mb l=some e∧Ma h e zs∧e.b≠bw∧e.b≠ba∧e.b≠bt:=by
 cases a:lk mb l with
 |none=>rw[L.byn l a]at hz;cases hz
 |some e=>
  obtain⟨d,h1,c⟩:=L.by' l e a
  rw[hz]at h1;cases h1
  exact⟨e,rfl,c⟩
theorem LayW.app(L:LayW h bw ba bt mp mb A T S)(g:List (List SV)):LayW (h++g) bw ba bt mp mb A T S:=by
  have up:∀{b:Nat}{x:List SV},h[b]?=some x->(h++g)[b]?=some x:=λhx=>by rw[Oa (N5.1 hx).1,hx]
  exact { w := up L.w, a := up L.a, t := up L.t, wa := L.wa, wt := L.wt, at' := L.at', keys := L.keys, pinj := L.pinj, byn := L.byn, binj := L.binj, pb := L.pb
          pr:=λk b hb=>by obtain⟨p,h1,h2,h3⟩:=L.pr k b hb;exact⟨p,h1,up h2,h3⟩
          by':=λl e he=>by
            obtain⟨zs,h1,⟨sp,h2,h3⟩,h4⟩:=L.by' l e he
            exact⟨zs,h1,⟨sp,up h2,h3⟩,h4⟩}
theorem LayW.setW(L:LayW h bw ba bt mp mb A T S)(late:List (Int×Int))(head:Int)(seen:List Int):LayW (h.set bw (ca ba bt ⟨mp,mb,late,head,seen⟩)) bw ba bt mp mb A T ⟨S.prs,S.byl,late,head,seen⟩:=by
  have hl:=(N5.1 L.w).1
  have up:∀{b:Nat}{x:List SV},b≠bw->h[b]?=some x->(h.set bw (ca ba bt ⟨mp,mb,late,head,seen⟩))[b]?=some x:=λhn hx=>by rw[On (λe=>hn e.symm),hx]
  exact { w := O4 hl, a := up L.wa.symm L.a, t := up L.wt.symm L.t, wa := L.wa, wt := L.wt, at' := L.at', keys := L.keys, pinj := L.pinj, byn := L.byn, binj := L.binj, pb := L.pb
          pr:=λk b hb=>by obtain⟨p,h1,h2,h3⟩:=L.pr k b hb;exact⟨p,h1,up h3.1 h2,h3⟩
          by':=λl e he=>by
            obtain⟨zs,h1,⟨sp,h2,h3⟩,h4⟩:=L.by' l e he
            exact⟨zs,h1,⟨sp,up h4.1 h2,h3⟩,h4⟩}
theorem LayW.setT(L:LayW h bw ba bt mp mb A T S)(T':Tr):LayW (h.set bt (fD T')) bw ba bt mp mb A T' S:=by
  have hl:=(N5.1 L.t).1
  have up:∀{b:Nat}{x:List SV},b≠bt->h[b]?=some x->(h.set bt (fD T'))[b]?=some x:=λhn hx=>by rw[On (λe=>hn e.symm),hx]
  exact { w := up L.wt L.w, a := up L.at' L.a, t := O4 hl, wa := L.wa, wt := L.wt, at' := L.at', keys := L.keys, pinj := L.pinj, byn := L.byn, binj := L.binj, pb := L.pb
          pr:=λk b hb=>by obtain⟨p,h1,h2,h3⟩:=L.pr k b hb;exact⟨p,h1,up h3.2.2 h2,h3⟩
          by':=λl e he=>by
            obtain⟨zs,h1,⟨sp,h2,h3⟩,h4⟩:=L.by' l e he
            exact⟨zs,h1,⟨sp,up h4.2.2 h2,h3⟩,h4⟩}
theorem wI{α β:Type}:∀(a:List (Int×α))(c:List (Int×β))(k:Int)(x:α)(y:β),a.map (·.1)=c.map (·.1)->(pt a k x).map (·.1)=(pt c k y).map (·.1)
 |[],[],_,_,_,_=>rfl
 |[],_::_,_,_,_,h=>by simp at h
 |_::_,[],_,_,_,h=>by simp at h
 |u::a,w::c,k,x,y,h=>by
  obtain⟨d,e⟩:=u;obtain⟨f,g⟩:=w;simp only[Ow,Ql]at h;obtain⟨h1,b⟩:=h;subst h1;rw[pt,pt];split
  .simp[b]
  .simp only[Ow];rw[wI a c k x y b]
theorem LayW.setP(L:LayW h bw ba bt mp mb A T S){k:Int}{b:Nat}(hb:lk mp k=some b)(p:Pr)(hkeep:mp.map (·.1)=(pt S.prs k p).map (·.1)):LayW (h.set b (nO p)) bw ba bt mp mb A T ⟨pt S.prs k p,S.byl,S.late,S.head,S.seen⟩:=by
  obtain⟨p0,q1,q2,q3,q4,q5⟩:=L.pr k b hb
  have hl:=(N5.1 q2).1
  have up:∀{c:Nat}{x:List SV},c≠b->h[c]?=some x->(h.set b (nO p))[c]?=some x:=λhn hx=>by rw[On (λe=>hn e.symm),hx]
  exact { w := up q3.symm L.w, a := up q4.symm L.a, t := up q5.symm L.t, wa := L.wa, wt := L.wt, at' := L.at', keys := hkeep, pinj := L.pinj, byn := L.byn, binj := L.binj, pb := L.pb
          pr:=λk' b' hb'=>by
            obtain⟨p1,h1,h2,h3⟩:=L.pr k' b' hb'
            show∃p_1,lk (pt S.prs k p) k'=some p_1∧_
            rw[bD]
            by_cases e:k=k'
            · subst e
              rw[hb]at hb'
              cases hb'
              exact⟨p,N9 rfl,O4 hl,h3⟩
            · exact⟨p1,by rw[N8 e];exact h1,up (λe2=>e (L.pinj k k' b hb (e2▸hb'))) h2,h3⟩
          by':=λl e he=>by
            obtain⟨zs,h1,⟨sp,h2,h3⟩,h4⟩:=L.by' l e he
            exact⟨zs,h1,⟨sp,up (L.pb k b l e hb he).symm h2,h3⟩,h4⟩}
theorem LayW.setB(L:LayW h bw ba bt mp mb A T S){l:Int}{e:By}(he:lk mb l=some e)(zs:List Int)(sp:List SV)(hsp:∀k,cM k sp)(n:Nat)(hn:zs.length=n)(h1:n<=e.cp)(h2:e.cp<=n+sp.length):
    LayW ((h.set e.b (aH zs++sp)).set bw (ca ba bt ⟨mp,pt mb l ⟨e.b,n,e.cp⟩,S.late,S.head,S.seen⟩)) bw ba bt mp (pt mb l ⟨e.b,n,e.cp⟩) A T ⟨S.prs,pt S.byl l zs,S.late,S.head,S.seen⟩:=by
  obtain⟨z0,q1,⟨sp0,q2,_⟩,q3,q4,q5⟩:=L.by' l e he
  have hl:=(N5.1 q2).1
  have hwl:=(N5.1 L.w).1
  have up:∀{c:Nat}{x:List SV},c≠bw->c≠e.b->h[c]?=some x->((h.set e.b (aH zs++sp)).set bw (ca ba bt ⟨mp,pt mb l ⟨e.b,n,e.cp⟩,S.late,S.head,S.seen⟩))[c]?=some x:=λn1 n2 hx=>by
    rw[On (λe=>n1 e.symm),On (λe=>n2 e.symm),hx]
  have self:((h.set e.b (aH zs++sp)).set bw (ca ba bt ⟨mp,pt mb l ⟨e.b,n,e.cp⟩,S.late,S.head,S.seen⟩))[e.b]?=some (aH zs++sp):=by
    rw[On (λe=>q3 e.symm),O4 hl]
  exact { w := O4 (by simpa using hwl), a := up L.wa.symm q4.symm L.a, t := up L.wt.symm q5.symm L.t, wa := L.wa, wt := L.wt, at' := L.at', keys := L.keys, pinj := L.pinj
          pr:=λk b hb=>by obtain⟨p,a1,a2,a3⟩:=L.pr k b hb;exact⟨p,a1,up a3.1 (L.pb k b l e hb he) a2,a3⟩
          by':=λl' e' he'=>by
            rw[bD]at he'
            show∃zs_1,lk (pt S.byl l zs) l'=some zs_1∧_
            rw[bD]
            by_cases c:l=l'
            · rw[N9 c]at he'
              cases he'
              exact⟨zs,N9 c,⟨sp,self,hsp,hn,h1,h2⟩,q3,q4,q5⟩
            · rw[N8 c]at he'
              obtain⟨z1,a1,⟨sp1,a2,a3⟩,a4⟩:=L.by' l' e' he'
              exact⟨z1,by rw[N8 c];exact a1,⟨sp1,up a4.1 (λe2=>c (L.binj l' l e' e he' he e2).symm) a2,a3⟩,a4⟩
          byn:=λl' hn'=>by
            rw[bD]at hn'
            show lk (pt S.byl l zs) l'=none
            rw[bD]
            by_cases c:l=l'
            · rw[N9 c]at hn';cases hn'
            · rw[N8 c]at hn'⊢;exact L.byn l' hn'
          binj:=λl1 l2 e1 e2 h1' h2' hb=>by
            rw[bD]at h1' h2'
            by_cases c1:l=l1
            · by_cases c2:l=l2
              · exact c1.symm.trans c2
              · rw[N9 c1]at h1';rw[N8 c2]at h2';cases h1'
                exact absurd (L.binj l l2 e e2 he h2' hb) c2
            · rw[N8 c1]at h1'
              by_cases c2:l=l2
              · rw[N9 c2]at h2';cases h2'
                exact absurd (L.binj l1 l e1 e h1' he hb).symm c1
              · rw[N8 c2]at h2'
                exact L.binj l1 l2 e1 e2 h1' h2' hb
          pb:=λk b l' e' hb he'=>by
            rw[bD]at he'
            by_cases c:l=l'
            · rw[N9 c]at he';cases he';exact L.pb k b l e hb he
            · rw[N8 c]at he';exact L.pb k b l' e' hb he'}
theorem LayW.newB(L:LayW h bw ba bt mp mb A T S)(l:Int)(zs:List Int)(sp:List SV)(hsp:∀k,cM k sp)(n cp:Nat)(hn:zs.length=n)(h1:n<=cp)(h2:cp<=n+sp.length):
    LayW ((h++[aH zs++sp]).set bw (ca ba bt ⟨mp,pt mb l ⟨h.length,n,cp⟩,S.late,S.head,S.seen⟩)) bw ba bt mp (pt mb l ⟨h.length,n,cp⟩) A T ⟨S.prs,pt S.byl l zs,S.late,S.head,S.seen⟩:=by
  have hwl:=(N5.1 L.w).1
  have lt:∀{b:Nat}{x:List SV},h[b]?=some x->b<h.length:=λhx=>(N5.1 hx).1
  have up:∀{c:Nat}{x:List SV},c≠bw->h[c]?=some x->((h++[aH zs++sp]).set bw (ca ba bt ⟨mp,pt mb l ⟨h.length,n,cp⟩,S.late,S.head,S.seen⟩))[c]?=some x:=λn1 hx=>by
    rw[On (λe=>n1 e.symm),Oa (lt hx),hx]
  have self:((h++[aH zs++sp]).set bw (ca ba bt ⟨mp,pt mb l ⟨h.length,n,cp⟩,S.late,S.head,S.seen⟩))[h.length]?=some (aH zs++sp):=by
    rw[On (by omega)];simp
  exact { w := O4 (by simp; omega), a := up L.wa.symm L.a, t := up L.wt.symm L.t, wa := L.wa, wt := L.wt, at' := L.at', keys := L.keys, pinj := L.pinj
          pr:=λk b hb=>by obtain⟨p,a1,a2,a3⟩:=L.pr k b hb;exact⟨p,a1,up a3.1 a2,a3⟩
          by':=λl' e' he'=>by
            rw[bD]at he'
            show∃zs_1,lk (pt S.byl l zs) l'=some zs_1∧_
            rw[bD]
            by_cases c:l=l'
            · rw[N9 c]at he'
              cases he'
              exact⟨zs,N9 c,⟨sp,self,hsp,hn,h1,h2⟩,QY hwl,QY (lt L.a),QY (lt L.t)⟩
            · rw[N8 c]at he'
              obtain⟨z1,a1,⟨sp1,a2,a3⟩,a4⟩:=L.by' l' e' he'
              exact⟨z1,by rw[N8 c];exact a1,⟨sp1,up a4.1 a2,a3⟩,a4⟩
          byn:=λl' hn'=>by
            rw[bD]at hn'
            show lk (pt S.byl l zs) l'=none
            rw[bD]
            by_cases c:l=l'
            · rw[N9 c]at hn';cases hn'
            · rw[N8 c]at hn'⊢;exact L.byn l' hn'
          binj:=λl1 l2 e1 e2 h1' h2' hb=>by
            have old:∀l' e',lk mb l'=some e'->e'.b<h.length:=λl' e' he'=>by obtain⟨_,_,⟨_,a2,_⟩,_⟩:=L.by' l' e' he';exact lt a2
            rw[bD]at h1' h2'
            by_cases c1:l=l1
            · by_cases c2:l=l2
              · exact c1.symm.trans c2
              · rw[N9 c1]at h1';rw[N8 c2]at h2';cases h1'
                have:=old l2 e2 h2'
                simp only at hb
                omega
            · rw[N8 c1]at h1'
              by_cases c2:l=l2
              · rw[N9 c2]at h2';cases h2'
                have:=old l1 e1 h1'
                simp only at hb
                omega
              · rw[N8 c2]at h2'
                exact L.binj l1 l2 e1 e2 h1' h2' hb
          pb:=λk b l' e' hb he'=>by
            rw[bD]at he'
            by_cases c:l=l'
            · rw[N9 c]at he';cases he'
              obtain⟨_,_,a2,_⟩:=L.pr k b hb
              exact Sa (lt a2)
            · rw[N8 c]at he';exact L.pb k b l' e' hb he'}
end
@[simp] theorem Mb(l:List (Int×Nat))(k:Int):de (aS tf l) k=(lk l k).map tf:=iv tf l k
@[simp] theorem M7(l:List (Int×Nat))(k:Int)(b:Nat):gt (aS tf l) k (.ptr b 0)=aS tf (pt l k b):=jC tf l k b
@[simp] theorem Mc(l:List (Int×By))(k:Int):de (aS CD l) k=(lk l k).map CD:=iv CD l k
@[simp] theorem M8(l:List (Int×By))(k:Int)(b n cp:Nat):gt (aS CD l) k (.bsl b 1 0 n cp)=aS CD (pt l k ⟨b,n,cp⟩):=jC CD l k ⟨b,n,cp⟩
theorem Hn(x v:Int):an Tryz.prog 256 [ae x,.iptr 1 [[ae v]] 0 0] (λr=>r=.pv (BL (decide (x=v)))):=by
 refine ax aG Tryz.func256 ?_;simp
def eI(byl:List (Int×List Int))(k l:Int):List (Int×List Int):=if l=0 then byl else pt byl l (aV (λx=>decide (x=k)) ((lk byl l).getD []))
def lr(S:WS)(k:Int)(p:Pr):WS:=⟨pt S.prs k ⟨p.lits,0,0⟩,eI (eI S.byl k p.x) k p.y,S.late,S.head,S.seen⟩
def EB:Sch:=
 let b:Sch:=.fork [(8,.done)]
 let a:Sch:=.fork [(5,.take 6 (.take 7 b))]
 let c:Sch:=.fork [(4,a)]
 let d:Sch:=.fork [(3,a)]
 let e:Sch:=.fork [(3,c),(4,d)]
 .take 0 (.take 1 (.take 2 (.take 9 e)))
def EC:Sch:=
 let g:Sch:=.fork [(13,.done)]
 let b:Sch:=.fork [(12,g)]
 let h:Sch:=.fork [(11,b)]
 let f:Sch:=.fork [(10,b)]
 let i:Sch:=.fork [(10,h),(11,f)]
 let j:Sch:=.fork [(8,f)]
 let l:Sch:=.fork [(8,i),(11,j)]
 let m:Sch:=.fork [(3,g)]
 let k:Sch:=.fork [(3,b),(12,m)]
 let n:Sch:=.fork [(3,h),(11,k)]
 let a:Sch:=.fork [(3,f),(10,k)]
 let c:Sch:=.fork [(3,i),(10,n),(11,a)]
 let d:Sch:=.fork [(3,j),(8,a)]
 let e:Sch:=.fork [(3,l),(8,c),(11,d)]
 .take 0 (.take 1 (.take 2 (.take 4 (.take 5 (.take 6 (.take 7 (.take 9 e)))))))
def ED:Sch:=
 let b:Sch:=.fork [(9,.done)]
 let f:Sch:=.fork [(6,.take 7 (.take 8 b))]
 let a:Sch:=.fork [(5,.take 7 (.take 8 b))]
 let c:Sch:=.fork [(5,f),(6,a)]
 let d:Sch:=.fork [(4,a)]
 let g:Sch:=.fork [(4,c),(6,d)]
 let e:Sch:=.fork [(3,a)]
 let h:Sch:=.fork [(3,c),(6,e)]
 let i:Sch:=.fork [(3,d),(4,e)]
 let j:Sch:=.fork [(3,g),(4,h),(6,i)]
 .take 0 (.take 1 (.take 2 j))
def yR(S:WS)(k:Int)(p:Pr):Nat->List (Int×List Int)
 |0=>S.byl
 |1=>eI S.byl k p.x
 |_=>eI (eI S.byl k p.x) k p.y
set_option maxRecDepth 16000 in
theorem yS(h:List (List SV))(bw ba bt:Nat)(mp:List (Int×Nat))(mb:List (Int×By))(A:Ar)(T:Tr)(S:WS)(L:LayW h bw ba bt mp mb A T S)(k:Int)(p:Pr)(hp:lk S.prs k=some p)
 (hx:p.x≠0->∃zs,lk S.byl p.x=some zs∧zs≠[]) (hy:p.y≠0->∃zs,lk (eI S.byl k p.x) p.y=some zs∧zs≠[]) (hz:∀l zs,lk S.byl l=some zs->zs.length<=1000000):
 aB Tryz.prog 195 [.ptr bw 0,ae k] h (λr h'=>r=.pv (.tup [])∧∃mb',LayW h' bw ba bt mp mb' A T (lr S k p)∧Ext h h' (aO bw bt mp mb) (aO bw bt mp mb')):=by
 refine cL [1,5,7] [] aG Tryz.func195 ?_;obtain⟨b,E,q1,q2,q3,q4⟩:=L.some_p hp;obtain⟨G,D⟩:∃G,G=h++[[SV.pv (ae k)]]:=⟨_,rfl⟩;have L0:LayW G bw ba bt mp mb A T S:=by rw[D];exact L.app _
 have I:G[h.length]?=some [.pv (ae k)]:=by rw[D];simp
 have aa:G[b]?=some (nO p):=by rw[D,Oa (N5.1 q1).1,q1]
 obtain⟨w1,w2⟩:=N5.1 L0.w;obtain⟨k1,k2⟩:=N5.1 I;obtain⟨b1,b2⟩:=N5.1 aa;simp;rw[←D];have af:h.length≠bw:=QY (N5.1 L.w).1;have old:∀l e,lk mb l=some e->e.b<h.length:=λl e v=>by obtain⟨_,_,⟨_,a2,_⟩,_⟩:=L.by' l e v;exact(N5.1 a2).1
 refine aX.meet EB ⟨[(0,.pv (.ptr bw 0)),(3,.pv (.ptr h.length 0)),(14,.pv (.agg [ae p.x,ae p.y])),(15,.pv (ae 0))],G⟩ (by kernel_rfl) ?_ ?_
 .simp[EB,w1,w2,ca,k1,k2,b1,b2,nO,iD,E,tf];and_intros
  all_goals exact ai.keep (by simp) rfl
 simp;refine aJ.intro (S:=λ(x:Nat×List (List SV)×List (Int×By))=>⟨[(0,.pv (.ptr bw 0)),(3,.pv (.ptr h.length 0)),(14,.pv (.agg [ae p.x,ae p.y])),(15,.pv (ae x.1))],x.2.1⟩)
  (λx=>x.1<=2∧LayW x.2.1 bw ba bt mp x.2.2 A T ⟨S.prs,yR S k p x.1,S.late,S.head,S.seen⟩∧x.2.1[h.length]?=some [.pv (ae k)]∧Ext G x.2.1 (aO bw bt mp mb) (aO bw bt mp x.2.2)∧(∀l e,lk x.2.2 l=some e->e.b<h.length)∧∀l zs,lk (yR S k p x.1) l=some zs->zs.length<=1000000)
  (λx=>2 -x.1) (0,G,mb) ?_ ⟨Oz _,L0,I,Ext.refl _ _,old,hz⟩ ?_
 .exact ai.keep (by simp) rfl
 rintro⟨i,H,mb'⟩ ⟨hi,s,j,P,f,o⟩;dsimp only at hi s j P f o;obtain⟨v1,v2⟩:=N5.1 s.w;obtain⟨j1,j2⟩:=N5.1 j
 by_cases d:i<2
 .obtain⟨l,B⟩:∃l,l=if i=0 then p.x else p.y:=⟨_,rfl⟩;have F:[ae p.x,ae p.y][i]?=some (ae l):=by
   have:i=0∨i=1:=by omega
   rcases this with rfl|rfl
   .rw[B];rfl
   .rw[B];rfl
  have g:∀hh:i<[ae p.x,ae p.y].length,[ae p.x,ae p.y][i]'hh=ae l:=λhh=>by
   have:=N5.1 F;exact this.2
  have d':(i:Int)<2:=by omega
  have M:a8 ((i:Int)+1)=((i+1:Nat):Int):=by rw[ap (by omega) (by omega)];omega
  have a:yR S k p (i+1)=eI (yR S k p i) k l:=by
   have:i=0∨i=1:=by omega
   rcases this with rfl|rfl
   .rw[B];rfl
   .rw[B];rfl
  by_cases l0:l=0
  .simp[d,d',g,l0];rw[l0]at a;refine⟨(i+1,H,mb'),by(try dsimp only);omega,⟨by(try dsimp only);omega,?_,j,P,f,?_⟩,ai.keep (by simp[M]) rfl⟩
   .dsimp only;rw[a];exact s
   .dsimp only;rw[a];exact o
  .have ad:∃zs,lk (yR S k p i) l=some zs∧zs≠[]:=by
    have:i=0∨i=1:=by omega
    rcases this with rfl|rfl
    .have e:l=p.x:=B;rw[e]at l0⊢;exact hx l0
    .have e:l=p.y:=B;rw[e]at l0⊢;exact hy l0
   obtain⟨zs,n,O⟩:=ad;obtain⟨e,v,⟨sp,e1,e2,e3,e4,e5⟩,e6,e7,e8⟩:=s.some_b n;have N:zs.length<=1000000:=o l zs n;have J:0<zs.length:=PF.2 O;have C:(aV (λx=>decide (x=k)) zs).length<=zs.length:=iW _ _;have V:=gQ zs N 256 [.iptr 1 [[ae k]] 0 0] (λx=>decide (x=k)) (λr=>by simp) rfl (λm=>by simp) (by simp) (λx _=>Hn x k);have ah:e.b<H.length:=(N5.1 e1).1;have t:h.length≠e.b:=QY (f l e v);obtain⟨Z,hZ⟩:∃Z,Z=aV (λx=>decide (x=k)) zs:=⟨_,rfl⟩;rw[←hZ]at C;unfold GJ at V;rw[←hZ]at V;obtain⟨X,hX⟩:∃X:List SV,X=(Z++List.replicate (zs.length -Z.length) 0).map (λz=>SV.pv (.lit (.int .i64 z)))++sp:=⟨_,rfl⟩;have K:yR S k p (i+1)=pt (yR S k p i) l Z:=by
    rw[a];unfold eI;rw[N8 l0,n,OH,hZ]
   have Y:X=aH Z++((List.replicate (zs.length -Z.length) 0).map (λz=>SV.pv (.lit (.int .i64 z)))++sp):=by
    rw[hX,OJ,OG];rfl
   have LN:=s.setB v Z ((List.replicate (zs.length -Z.length) 0).map (λz=>SV.pv (.lit (.int .i64 z)))++sp) (λm=>oL m (e2 m) _) Z.length rfl (by omega) (by simp;omega);rw[←Y]at LN;simp[d,d',g,l0];refine aX.meet EC ⟨[(0,.pv (.ptr bw 0)),(3,.pv (.ptr h.length 0)),(14,.pv (.agg [ae p.x,ae p.y])),(15,.pv (ae i))],(H.set e.b X).set bw (ca ba bt ⟨mp,pt mb' l ⟨e.b,Z.length,e.cp⟩,S.late,S.head,S.seen⟩)⟩ (by kernel_rfl) ?_ ?_
   .simp[EC,v1,v2,ca,j1,j2,v,CD];and_intros
    all_goals
     refine am.introX (dg.introT (b:=e.b) (b2:=h.length) (zs:=zs) (sp:=sp) (cp:=e.cp) V (by simp) (by simp) rfl (by simp) (by simp[e3]) (by simp) (by simp) e1 j t J N ?_);rintro _ _ ⟨rfl,rfl⟩;refine⟨_,_,rfl,rfl,by simp;omega,C,?_⟩;rw[←hX];simp[v1,v2,ca,e6,e6.symm,aD];exact ai.keep (by simp) rfl
   .simp;refine⟨(i+1,_,pt mb' l ⟨e.b,Z.length,e.cp⟩),by(try dsimp only);omega,⟨by(try dsimp only);omega,?_,?_,?_,?_,?_⟩,ai.keep (by simp[M]) rfl⟩
    .dsimp only;rw[K];exact LN
    .dsimp only;rw[On (λq=>af q.symm),On (λq=>t q.symm)];exact j
    .dsimp only;refine P.trans (((Ext.set e.b X (.inr (.inr (.inr ⟨l,e,v,rfl⟩)))).trans (Ext.set bw _ (.inl rfl))).dom ?_);rintro c _ (q|q|q|⟨l',e',q,rfl⟩)
     .exact .inl q
     .exact .inr (.inl q)
     .exact .inr (.inr (.inl q))
     .rw[bD]at q;split at q
      .cases q;exact .inr (.inr (.inr ⟨l,e,v,rfl⟩))
      .exact .inr (.inr (.inr ⟨l',e',q,rfl⟩))
    .intro l' e' q;dsimp only at q;rw[bD]at q;split at q
     .cases q;exact f l e v
     .exact f l' e' q
    .intro l' ag q;dsimp only at q;rw[K,bD]at q;split at q
     .cases q;omega
     .exact o l' ag q
 .have:i=2:=by omega
  subst this;obtain⟨R,r1,r2,r3,r4,r5⟩:=s.pr k b E;have ab:R=p:=by rw[hp]at r1;cases r1;rfl
  subst ab; obtain ⟨c1, c2⟩ := N5.1 r2; have LF := s.setP E ⟨R.lits, 0, 0⟩ (by
   have:∀(l:List (Int×Pr))(q:Pr),lk l k=some q->(pt l k ⟨R.lits,0,0⟩).map (·.1)=l.map (·.1):=by
    intro l q Q
    induction l with
    |nil=>cases Q
    |cons u l ih=>
     obtain⟨u1,u2⟩:=u;rw[pt];rw[lk]at Q;split
     .rename_i U;simp only[Ow,U]
     .rename_i U;rw[N8 U]at Q;simp only[Ow];rw[ih Q]
   exact s.keys.trans (this _ _ hp).symm)
  have W:Ext h (H.set b (nO ⟨R.lits,0,0⟩)) (aO bw bt mp mb) (aO bw bt mp mb'):=by
   have a1:Ext h G (aO bw bt mp mb) (aO bw bt mp mb):=by rw[D];exact Ext.app _ _ _
   exact(a1.trans P).trans (Ext.set b _ (.inr (.inr (.inl ⟨k,E⟩))))
  simp;refine aX.one ED (by kernel_rfl) ?_;simp[ED,v1,v2,ca,j1,j2,c1,c2,nO,iD,E,tf];exact⟨mb',LF,W⟩
def EE:Sch:=
 let e:Sch:=.fork [(12,.done)]
 let a:Sch:=.fork [(9,.take 10 (.take 11 e))]
 let b:Sch:=.fork [(8,a)]
 let f:Sch:=.fork [(6,.take 7 b)]
 let c:Sch:=.fork [(4,a)]
 let d:Sch:=.fork [(4,b),(8,c)]
 let g:Sch:=.fork [(4,f),(6,.take 7 d)]
 let h:Sch:=.fork [(2,.take 3 c)]
 let i:Sch:=.fork [(2,.take 3 d),(8,h)]
 let j:Sch:=.fork [(2,.take 3 g),(6,.take 7 i)]
 .take 0 (.take 1 (.take 5 j))
def uL:Sch:=
 let g:Sch:=.fork [(14,.done)]
 let b:Sch:=.fork [(13,g)]
 let h:Sch:=.fork [(12,b)]
 let f:Sch:=.fork [(10,b)]
 let i:Sch:=.fork [(10,h),(12,f)]
 let j:Sch:=.fork [(8,f)]
 let l:Sch:=.fork [(8,i),(12,j)]
 let m:Sch:=.fork [(3,g)]
 let k:Sch:=.fork [(3,b),(13,m)]
 let n:Sch:=.fork [(3,h),(12,k)]
 let a:Sch:=.fork [(3,f),(10,k)]
 let c:Sch:=.fork [(3,i),(10,n),(12,a)]
 let d:Sch:=.fork [(3,j),(8,a)]
 let e:Sch:=.fork [(3,l),(8,c),(12,d)]
 .take 0 (.take 1 (.take 2 (.take 4 (.take 5 (.take 6 (.take 7 (.take 9 (.take 11 e))))))))
def AB:Sch:=
 let a:Sch:=.fork [(9,.done)]
 let b:Sch:=.fork [(7,a)]
 let c:Sch:=.fork [(5,.take 6 b)]
 let d:Sch:=.fork [(3,a)]
 let e:Sch:=.fork [(3,b),(7,d)]
 let f:Sch:=.fork [(3,c),(5,.take 6 e)]
 .take 0 (.take 1 (.take 2 (.take 4 (.take 8 f))))
def fM(byl:List (Int×List Int))(k l:Int):List (Int×List Int):=pt byl l ((lk byl l).getD []++[k])
def iO(S:WS)(T:Tr)(k:Int)(p:Pr):WS:=
 if 2<=(d6 T p.lits).length then⟨pt S.prs k ⟨p.lits,(d6 T p.lits).getD 0 0,(d6 T p.lits).getD 1 0⟩,fM (fM S.byl k ((d6 T p.lits).getD 0 0)) k ((d6 T p.lits).getD 1 0),dl S.late k,S.head,S.seen⟩else S
def ki(T:Tr)(k:Int)(p:Pr):Tr:=
 if(d6 T p.lits).length=1∧j0 T p.lits=false then jE T ((d6 T p.lits).getD 0 0) k else T
def lu(T:Tr)(p:Pr):Bool:=decide ((d6 T p.lits).length=0)
@[simp] theorem Je:∀(l:List (Int×Int))(k:Int),io k (aS fI l)=aS fI (dl l k)
 |[],k=>rfl
 |(j,x)::l,k=>by
  show(if j=k then aS fI l else(j,fI x)::io k (aS fI l))=aS fI (if j=k then l else(j,x)::dl l k);rw[Je l k];split<;>rfl
theorem gY{α:Type}{k:Int}(y:α):∀{l:List (Int×α)}{q:α},lk l k=some q->(pt l k y).map (·.1)=l.map (·.1)
 |[],_,h=>by cases h
 |(b,c)::l,q,h=>by
  rw[pt];rw[lk]at h;split
  .rename_i a;simp only[Ow,a]
  .rename_i a;rw[N8 a]at h;simp only[Ow];rw[gY y h]
theorem gd(k:Nat):∀n:Nat,cM k (List.replicate n (SV.pv .bot))
 |0=>trivial
 |n+1=>⟨trivial,gd k n⟩
def oM(byl:List (Int×List Int))(k x y:Int):Nat->List (Int×List Int)
 |0=>byl
 |1=>fM byl k x
 |_=>fM (fM byl k x) k y
set_option maxRecDepth 16000 in
theorem th(h:List (List SV))(bw ba bt:Nat)(mp:List (Int×Nat))(mb:List (Int×By))(A:Ar)(T:Tr)(S:WS)(L:LayW h bw ba bt mp mb A T S)(k:Int)(p:Pr)(hp:lk S.prs k=some p)(hT:T.ok)(ag:T.lits.length<=1000000)(M:p.lits.length<=1000000)
 (hz:∀l zs,lk S.byl l=some zs->zs.length<=1000000):
 aB Tryz.prog 233 [.ptr bw 0,ae k] h (λr h'=>r=.pv (BL (lu T p))∧∃mb',LayW h' bw ba bt mp mb' A (ki T k p) (iO S T k p)∧Ext h h' (aO bw bt mp mb) (aO bw bt mp mb')):=by
 refine cL [6,10,14] [.tmp 4] aG Tryz.func233 ?_;obtain⟨b,hb,q1,q2,q3,q4⟩:=L.some_p hp;have ad:=Ez h bw ba bt b ⟨mp,mb,S.late,S.head,S.seen⟩ T p.lits p.x p.y L.w L.t q1 hT M;obtain⟨w1,w2⟩:=N5.1 L.w;obtain⟨b1,b2⟩:=N5.1 q1;have ax:=tg T p.lits;unfold iO ki lu;generalize d6 T p.lits=O at*;generalize j0 T p.lits=Hd at*;simp[w1,w2,ca,hb,tf];refine am.intro ad ?_;rintro _ h2 ⟨e,rfl⟩;rw[e];clear e h2;obtain⟨G,E⟩:∃G,G=h++[[SV.pv (BL Hd),SV.pv (PV.seq true 1 (af O))]]:=⟨_,rfl⟩;have L0:LayW G bw ba bt mp mb A T S:=by rw[E];exact L.app _
 have E0:Ext h G (aO bw bt mp mb) (aO bw bt mp mb):=by rw[E];exact Ext.app _ _ _
 have ao:G[h.length]?=some [SV.pv (BL Hd),SV.pv (PV.seq true 1 (af O))]:=by rw[E];simp
 have ak:G[b]?=some (nO p):=by rw[E,Oa b1,q1]
 obtain⟨g1,g2⟩:=N5.1 L0.w;obtain⟨f1,f2⟩:=N5.1 ao;obtain⟨c1,c2⟩:=N5.1 ak;have aw:b≠h.length:=Sa b1;have ay:bw≠h.length:=Sa w1;rcases O with _|⟨f,_|⟨g,O'⟩⟩
 .simp;rw[←E];exact⟨mb,L0,E0⟩
 .simp;rw[←E];cases Hd
  .simp;have kI:=sP G bt T L0.t f k hT ag;refine aX.one AB (by kernel_rfl) ?_;simp[AB,g1,g2,ca,f1,f2];and_intros
   all_goals
    refine am.intro kI ?_;rintro _ _ ⟨rfl,rfl⟩;simp;exact⟨mb,L0.setT _,E0.trans (Ext.set bt _ (.inr (.inl rfl)))⟩
  .simp;exact⟨mb,L0,E0⟩
 .have X:¬((O'.length:Int)+1+1=0):=by omega
  have J:(2:Int)<=(O'.length:Int)+1+1:=by omega
  have K:¬(O'.length+1+1=1):=by omega
  simp[X,J,K];rw[←E];have L1:=L0.setP hb ⟨p.lits,f,g⟩ (L0.keys.trans (gY _ hp).symm);have E1:Ext h (G.set b (nO ⟨p.lits,f,g⟩)) (aO bw bt mp mb) (aO bw bt mp mb):=E0.trans (Ext.set b _ (.inr (.inr (.inl ⟨k,hb⟩))));have V:b<(G.set b (nO ⟨p.lits,f,g⟩)).length:=by simpa using c1
  have aj:(G.set b (nO ⟨p.lits,f,g⟩))[b]'V=iD p.lits f g:=by simp[nO]
  refine aX.meet EE ⟨[(0,.pv (.ptr bw 0)),(1,.pv (ae k)),(5,.pv (.ptr b 0)),(6,.pv (.ptr h.length 0))],G.set b (nO ⟨p.lits,f,g⟩)⟩ (by kernel_rfl) ?_ ?_
  .simp[EE,f1,f2,c1,c2,nO,iD];and_intros
   all_goals first|omega|exact ai.keep (by simp) rfl
  generalize G.set b (nO ⟨p.lits,f,g⟩)=G1 at*;simp[V,aj,iD];refine aJ.intro (S:=λ(x:Nat×List (List SV)×List (Int×By))=>⟨[(0,.pv (.ptr bw 0)),(1,.pv (ae k)),(43,.pv (.agg [ae f,ae g])),(44,.pv (ae x.1))],x.2.1⟩)
   (λx=>x.1<=2∧LayW x.2.1 bw ba bt mp x.2.2 A T ⟨pt S.prs k ⟨p.lits,f,g⟩,oM S.byl k f g x.1,S.late,S.head,S.seen⟩∧Ext G1 x.2.1 (aO bw bt mp mb) (aO bw bt mp x.2.2)∧∀l zs,lk (oM S.byl k f g x.1) l=some zs->zs.length<=1000000+x.1)
   (λx=>2 -x.1) (0,G1,mb) ?_ ⟨Oz _,L1,Ext.refl _ _,hz⟩ ?_
  .exact ai.keep (by simp) rfl
  rintro⟨i,H,mb'⟩ ⟨hi,v,hE,D⟩;dsimp only at hi v hE D;obtain⟨N,v2⟩:=N5.1 v.w
  by_cases d:i<2
  .obtain⟨l,M⟩:∃l,l=if i=0 then f else g:=⟨_,rfl⟩;have W:[ae f,ae g][i]?=some (ae l):=by
    have:i=0∨i=1:=by omega
    rcases this with rfl|rfl
    .rw[M];rfl
    .rw[M];rfl
   have F:∀hh:i<[ae f,ae g].length,[ae f,ae g][i]'hh=ae l:=λhh=>(N5.1 W).2;have d':(i:Int)<2:=by omega
   have aq:a8 ((i:Int)+1)=((i+1:Nat):Int):=by rw[ap (by omega) (by omega)];omega
   have o:oM S.byl k f g (i+1)=fM (oM S.byl k f g i) k l:=by
    have:i=0∨i=1:=by omega
    rcases this with rfl|rfl
    .rw[M];rfl
    .rw[M];rfl
   simp[d,d',F];refine aX.blk [60] uL (λx:List (List SV)×List (Int×By)=>⟨[(0,.pv (.ptr bw 0)),(1,.pv (ae k)),(43,.pv (.agg [ae f,ae g])),(44,.pv (ae i))],x.1⟩)
    (λx=>LayW x.1 bw ba bt mp x.2 A T ⟨pt S.prs k ⟨p.lits,f,g⟩,oM S.byl k f g (i+1),S.late,S.head,S.seen⟩∧Ext H x.1 (aO bw bt mp mb') (aO bw bt mp x.2)) (by kernel_rfl) ?_ ?_
   .have hA:∀x,(H++[x])[bw]?=some (ca ba bt ⟨mp,mb',S.late,S.head,S.seen⟩):=λx=>by rw[Oa N];exact v.w
    have dom:∀e',(∀c,c<H.length->e'.b=c->∃l0 e0,lk mb' l0=some e0∧e0.b=c)->∀c,c<H.length->aO bw bt mp (pt mb' l e') c->aO bw bt mp mb' c:=λe' an c s q=>by
     rcases q with q|q|q|⟨l',e2,q,q2⟩
     .exact .inl q
     .exact .inr (.inl q)
     .exact .inr (.inr (.inl q))
     .rw[bD]at q;split at q
      .cases q;exact .inr (.inr (.inr (an c s q2)))
      .exact .inr (.inr (.inr ⟨l',e2,q,q2⟩))
    cases j:lk mb' l with
    |none=>
     have ah:=v.byn l j;have C:oM S.byl k f g (i+1)=pt (oM S.byl k f g i) l [k]:=by
      rw[o];unfold fM;rw[ah];rfl
     have LN:∀cap,1<=cap->LayW (H.set bw (ca ba bt ⟨mp,pt mb' l ⟨H.length,1,cap⟩,S.late,S.head,S.seen⟩)++[SV.pv (ae k)::List.replicate (cap -1) (SV.pv .bot)]) bw ba bt mp (pt mb' l ⟨H.length,1,cap⟩) A T ⟨pt S.prs k ⟨p.lits,f,g⟩,oM S.byl k f g (i+1),S.late,S.head,S.seen⟩:=λcap s=>by
      have:=v.newB l [k] (List.replicate (cap -1) (SV.pv .bot)) (λm=>gd m _) 1 cap rfl s (by simp;omega);rw[C];rw[Rf _ _ N]at this;exact this
     have EN:∀cap x y,Ext H (H.set bw x++[y]) (aO bw bt mp mb') (aO bw bt mp (pt mb' l ⟨H.length,1,cap⟩)):=λcap x y=>by
      refine(((Ext.set bw x (.inl rfl)).trans (Ext.app _ [y] _)).dom (dom _ λc s e=>?_));simp only at e;omega
     simp[uL,N,v2,ca,j,hA];and_intros
     all_goals
      intro cap s;exact⟨_,⟨pt mb' l ⟨H.length,1,cap⟩,LN cap s,EN cap _ _⟩,ai.keep (by simp) rfl⟩
    |some e=>
     obtain⟨zs,aa,⟨sp,e1,e2,e3,e4,e5⟩,e6,e7,e8⟩:=v.by' l e j
     obtain⟨u1,u2⟩:=N5.1 e1;have ab:¬bw=e.b:=λq=>e6 q.symm;have C:oM S.byl k f g (i+1)=pt (oM S.byl k f g i) l (zs++[k]):=by
      rw[o];unfold fM;rw[aa];rfl
     have I:(aH zs).length=e.n:=by rw[m9];exact e3
     have az:e.n<=1000000+i:=by rw[←e3];exact D l zs aa
     have P:∀m (s0:List SV),cM m s0->cM m (s0.drop 1):=λm s0 Z=>by cases s0 with|nil=>exact Z|cons _ _=>exact Z.2
     have av:(aH zs++sp).length=e.n+sp.length:=by rw[Oi,I]
     have B:(aH zs++sp).take e.n=aH zs:=P4 I;have U:(aH zs++sp).take e.n=(zs.map λz=>PV.lit (.int .i64 z)).map SV.pv:=by rw[B];unfold aH;rw[Pa];rfl
     have u:∀R:List SV,aH (zs++[k])++R=aH zs++SV.pv (ae k)::R:=λR=>by unfold aH;rw[OJ,OG];rfl
     have Q:(aH zs++sp).drop (e.n+1)=sp.drop 1:=by rw[←I,Ss];simp
     have LR:e.n+1<=e.cp->LayW ((H.set e.b (List.take e.n (aH zs++sp)++SV.pv (ae k)::List.drop (e.n+1) (aH zs++sp))).set bw (ca ba bt ⟨mp,pt mb' l ⟨e.b,e.n+1,e.cp⟩,S.late,S.head,S.seen⟩)) bw ba bt mp (pt mb' l ⟨e.b,e.n+1,e.cp⟩) A T ⟨pt S.prs k ⟨p.lits,f,g⟩,oM S.byl k f g (i+1),S.late,S.head,S.seen⟩:=λhr=>by
      rw[B,Q,←u,C];exact v.setB j (zs++[k]) (sp.drop 1) (λm=>P m sp (e2 m)) (e.n+1) (by simp;omega) hr (by rw[OO];omega)
     have LG:∀a,e.n+1<=a->LayW (H.set bw (ca ba bt ⟨mp,pt mb' l ⟨H.length,e.n+1,a⟩,S.late,S.head,S.seen⟩)++[(zs.map λz=>PV.lit (.int .i64 z)).map SV.pv++SV.pv (ae k)::List.replicate (a -(e.n+1)) (SV.pv .bot)]) bw ba bt mp (pt mb' l ⟨H.length,e.n+1,a⟩) A T ⟨pt S.prs k ⟨p.lits,f,g⟩,oM S.byl k f g (i+1),S.late,S.head,S.seen⟩:=λa s=>by
      have:=v.newB l (zs++[k]) (List.replicate (a -(e.n+1)) (SV.pv .bot)) (λm=>gd m _) (e.n+1) a (by simp;omega) s (by simp;omega);rw[C,←U,B];rw[Rf _ _ N,u]at this;exact this
     have ER:∀x y,Ext H ((H.set e.b x).set bw y) (aO bw bt mp mb') (aO bw bt mp (pt mb' l ⟨e.b,e.n+1,e.cp⟩)):=λx y=>by
      refine(((Ext.set e.b x (.inr (.inr (.inr ⟨l,e,j,rfl⟩)))).trans (Ext.set bw y (.inl rfl))).dom (dom _ λc s q=>?_));exact⟨l,e,j,q⟩
     have EG:∀a x y,Ext H (H.set bw x++[y]) (aO bw bt mp mb') (aO bw bt mp (pt mb' l ⟨H.length,e.n+1,a⟩)):=λa x y=>by
      refine(((Ext.set bw x (.inl rfl)).trans (Ext.app _ [y] _)).dom (dom _ λc s q=>?_));simp only at q;omega
     clear B Q u;generalize hY:aH zs++sp=Y at*;simp[uL,N,v2,ca,j,CD,u1,u2,hA,e6,ab];and_intros
     all_goals first
      |omega
      |(refine⟨_,U,by simpa using e3,λhr=>⟨_,⟨_,LR hr,ER _ _⟩,ai.keep (by simp) rfl⟩,λhn a s=>⟨_,⟨_,LG a s,EG a _ _⟩,ai.keep (by simp) rfl⟩⟩)
   .rintro⟨H2,ar⟩ ⟨LN,EN⟩;simp;refine⟨(i+1,H2,ar),by(try dsimp only);omega,⟨by(try dsimp only);omega,LN,hE.trans EN,λl' au q=>?_⟩,ai.keep (by simp[aq]) rfl⟩;dsimp only at q⊢;rw[o]at q;unfold fM at q;rw[bD]at q;split at q
    .cases q
     rw[Oi,Po];cases hq:lk (oM S.byl k f g i) l with
     |none=>simp only[Option.getD_none,List.length_nil];omega
     |some z0=>have:=D l z0 hq;simp only[OH];omega
    .have:=D l' au q;omega
  .have:i=2:=by omega
   subst this;simp[N,v2,ca];exact⟨mb',v.setW (dl S.late k) S.head S.seen,(E1.trans hE).trans (Ext.set bw _ (.inl rfl))⟩
end Go.AX