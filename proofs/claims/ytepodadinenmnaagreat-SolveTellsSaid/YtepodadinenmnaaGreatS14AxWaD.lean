/-
  Contracts: watches: what they hold; made, look, shrunk; and what follows.
-/
import Derived.Test.YtepodadinenmnaaGreatS14AxTtA
import Derived.Test.YtepodadinenmnaaGreatS14AxGlP
import Derived.Test.YtepodadinenmnaaGreatS14AxTxC
import Derived.Test.YtepodadinenmnaaGreatAxTb
import Derived.Test.YtepodadinenmnaaGreatAxBt
set_option linter.unusedSimpArgs false
namespace Go.AX
set_option maxRecDepth 16000
open Go.Proofs
structure By where
  b:Nat
  n:Nat
  cp:Nat
def G8(x:By):PV:=.bsl x.b 1 0 x.n x.cp
def uS(b:Nat):PV:=.ptr b 0
structure Wt where
  prs:List (Int×Nat)
  byl:List (Int×By)
  late:List (Int×Int)
  head:Int
  seen:List Int
def b9(ba bt:Nat)(W:Wt):List SV:=[.pv (.ptr ba 0),.pv (.ptr bt 0),.omap true (aZ uS W.prs),.omap true (aZ G8 W.byl),.omap true (aZ fI W.late),.pv (ab W.head),.own true 1 (ae W.seen)]
def jB(lits:List Int)(x y:Int):List SV:=[.pv (.seq false 1 (ae lits)),.pv (ab x),.pv (ab y)]
theorem ua(h:List (List SV))(b ba bt:Nat)(W:Wt)(d:h[b]?=some (b9 ba bt W)):aA Tryz.prog 154 [.ptr b 0] h (λr h'=>h'=h∧r=.pv (BL true)):=by
 refine gy [] [.tmp 2] aD Tryz.func154 ?_;obtain⟨c,a⟩:=SQ.1 d;simp[a,c,b9]
def eK(T:Tr)(lits:List Int):List Int:=lits.filter λl=>decide (cm T l=1)||decide (cm T l=0)
def l3(T:Tr)(lits:List Int):Bool:=lits.any λl=>decide (cm T l=1)
theorem CE(T:Tr)(lits:List Int){i:Nat}(h:i<lits.length):eK T (lits.take (i+1))=if cm T lits[i]=1∨cm T lits[i]=0 then eK T (lits.take i)++[lits[i]]else eK T (lits.take i):=by
 unfold eK;rw[TW,SR h,UO,Uu,TO,Wd]
 by_cases c:cm T lits[i]=1∨cm T lits[i]=0
 .rw[SX c,SX (by simpa using c)]
 .rw[SU c,SU (by simpa using c),Ut]
theorem CF(T:Tr)(lits:List Int){i:Nat}(h:i<lits.length):l3 T (lits.take (i+1))=(l3 T (lits.take i)||decide (cm T lits[i]=1)):=by
 unfold l3;rw[TW,SR h,UO,List.any_append];simp
theorem wl(T:Tr)(lits:List Int):(eK T lits).length<=lits.length:=Uq _ _
theorem Jw(h:List (List SV))(bw ba bt bp:Nat)(W:Wt)(T:Tr)(lits:List Int)(x y:Int)(I:h[bw]?=some (b9 ba bt W))(ht:h[bt]?=some (gA T))(hp:h[bp]?=some (jB lits x y))(J:T.ok)(P:lits.length<=1000000):
 aA Tryz.prog 280 [.ptr bw 0,.ptr bp 0] h (λr h'=>h'=h∧r=.pv (.agg [BL (l3 T lits),.seq true 1 (ae (eK T lits))])):=by
 refine d7 [] [.cell 4 _] aD Tryz.func280 ?_;obtain⟨O,R⟩:=SQ.1 I;obtain⟨N,Q⟩:=SQ.1 hp;obtain⟨G,e⟩:∃G:SV->SV->List (List SV),∀u v,G u v=h++[[.pv (BL false),.pv (.lit (.slice none 0 0))],[u,v]]:=⟨_,λ_ _=>rfl⟩;have t:∀u v,(G u v)[bw]?=some (b9 ba bt W):=λu v=>by rw[e,SZ O,I]
 have q:∀u v,(G u v)[bp]?=some (jB lits x y):=λu v=>by rw[e,SZ N,hp]
 have A:∀u v,(G u v)[bt]?=some (gA T):=λu v=>by rw[e,SZ (SQ.1 ht).1,ht]
 have g:∀u v,(G u v)[h.length+1]?=some [u,v]:=λu v=>by rw[e];simp
 have s:∀u v,bw<(G u v).length:=λu v=>(SQ.1 (t u v)).1;have B:∀u v,(G u v)[bw]'(s u v)=b9 ba bt W:=λu v=>(SQ.1 (t u v)).2;have p:∀u v,bp<(G u v).length:=λu v=>(SQ.1 (q u v)).1;have z:∀u v,(G u v)[bp]'(p u v)=jB lits x y:=λu v=>(SQ.1 (q u v)).2;have a:∀u v,h.length+1<(G u v).length:=λu v=>(SQ.1 (g u v)).1;have f:∀u v,(G u v)[h.length+1]'(a u v)=[u,v]:=λu v=>(SQ.1 (g u v)).2;have E:∀u v n,bA (G u v) (n+1) bt 0=bN T:=λu v n=>cW (A u v) n;have j:∀u v C D,(G u v).set (h.length+1) [C,D]=G C D:=λu v C D=>by rw[e,e];simp
 have M:=λl=>fJ T l J;simp;rw[←e];simp[s,B,b9,p,z,jB,E];obtain⟨H,c⟩:∃H:Nat->List (List SV),∀i,H i=G (.pv (BL (l3 T (lits.take i)))) (.own true 1 (ae (eK T (lits.take i)))):=⟨_,λ_=>rfl⟩;have h1:∀i,h.length+1<(H i).length:=λi=>by rw[c];exact a _ _
 have F:∀i,(H i)[h.length+1]'(h1 i)=[.pv (BL (l3 T (lits.take i))),.own true 1 (ae (eK T (lits.take i)))]:=λi=>by simp only[c];exact f _ _
 have hz:∀i n,bA (H i) (n+1) bt 0=bN T:=λi n=>by rw[c];exact E _ _ n
 have hs:∀i u v,(H i).set (h.length+1) [u,v]=G u v:=λi u v=>by rw[c];exact j _ _ _ _
 refine ax.intro (S:=λ(i:Nat)=>⟨[(4,.pv (.ptr h.length 0)),(5,.pv (.ptr (h.length+1) 0)),(6,.pv (.fn (.func 103) [.ptr bt 0] [])),(17,.pv (.seq false 1 (ae lits))),(18,.pv (ab lits.length)),(19,.pv (ab i))],H i⟩) (λi=>i<=lits.length) (λi=>lits.length -i) 0 ?_ (Tf _) ?_
 .refine(ah.nilCell (b:=h.length+1) (k:=1) (xs:=[.pv (BL false),.pv (.lit (.slice none 0 0))]) 1 true (by simp;exact g _ _) (by simp)).trans (ah.keep (by simp) ?_);simp[c,j,l3,eK,ae]
 intro i hi
 by_cases d:i<lits.length
 .have m:aX ((i:Int)+1)=((i+1:Nat):Int):=by rw[ao (by omega) (by omega)];omega
  have L:lits[i]?=some lits[i]:=SR d;have ho:=CE T lits d;have w:=CF T lits d;have K:(eK T (lits.take i)).length<=i:=TD (wl _ _) (by rw[S6];omega);simp[d,L,hz];refine am.introP (M lits[i]) ?_
  by_cases o:cm T lits[i]=1
  .rw[SX (.inl o)]at ho;rw[Uv o,WU]at w;simp[o,h1,F,hs,a,f,j];refine⟨by omega,i+1,by(try dsimp only);omega,by(try dsimp only);omega,ah.keep (by simp[m]) ?_⟩;simp[c,j,ho,w,ae]
  .rw[UP o,WD]at w
   by_cases v0:cm T lits[i]=0
   .rw[SX (.inr v0)]at ho;simp[v0,h1,F,hs,a,f,j];refine⟨by omega,i+1,by(try dsimp only);omega,by(try dsimp only);omega,ah.keep (by simp[m]) ?_⟩;simp[c,j,ho,w,ae]
   .rw[SU (λh=>h.elim o v0)]at ho;simp[v0,o];refine⟨i+1,by(try dsimp only);omega,by(try dsimp only);omega,ah.keep (by simp[m]) ?_⟩;simp[c,j,ho,w,ae]
 .have:i=lits.length:=by omega
  subst this;simp only[c,e];simp[bB,bc,frzC]
def iv:List Int->List Int->Nat
 |x::a,y::b=>if x=y then iv a b+1 else 0
 |_,_=>0
def Jx(W:Wt)(now:List Int):Wt:=⟨W.prs,W.byl,W.late,if(iv W.seen now:Int)<W.head then(iv W.seen now:Int)else W.head,W.seen⟩
theorem CG(h:List (List SV))(bw ba bt:Nat)(W:Wt)(now:List Int)(l:h[bw]?=some (b9 ba bt W))(m:now.length<=1000000)(hs:W.seen.length<=1000000):
 aA Tryz.prog 155 [.ptr bw 0,.seq false 1 (ae now)] h (λr h'=>h'=h.set bw (b9 ba bt (Jx W now))∧r=.pv (.tup [])):=by
 refine cQ [] [] aD Tryz.func155 ?_;obtain⟨c,d⟩:=SQ.1 l;have j:iv W.seen now=0+iv (W.seen.drop 0) (now.drop 0):=by simp
 unfold Jx;generalize iv W.seen now=P at*;simp;refine ax.intro (S:=λ(k:Nat)=>⟨[(0,.pv (.ptr bw 0)),(1,.pv (.seq false 1 (ae now))),(4,.pv (ab k))],h⟩) (λk=>k<=W.seen.length∧k<=now.length∧P=k+iv (W.seen.drop k) (now.drop k)) (λk=>W.seen.length -k) 0 ?_ ⟨Tf _,Tf _,j⟩ ?_
 .exact ah.keep (by simp) rfl
 rintro k ⟨n,o,hk⟩;have f:aX ((k:Int)+1)=((k+1:Nat):Int):=by rw[ao (by omega) (by omega)];omega
 by_cases a:k<W.seen.length
 .have g:W.seen[k]?=some W.seen[k]:=SR a
  by_cases b:k<now.length
  .have i:now[k]?=some now[k]:=SR b;rw[TG a,TG b,iv]at hk
   by_cases e:W.seen[k]=now[k]
   .rw[SX e]at hk;simp[c,d,b9,a,b,g,i,e];exact⟨k+1,by(try dsimp only);omega,⟨by(try dsimp only);omega,by(try dsimp only);omega,by(try dsimp only);omega⟩,ah.keep (by simp[f]) rfl⟩
   .rw[SU e]at hk;have:P=k:=by omega
    subst this;simp[c,d,b9,a,b,g,i,e]
  .have:P=k:=by rw[Tq (show now.length<=k by omega)]at hk;cases hd:W.seen.drop k<;>rw[hd]at hk<;>simpa[iv]using hk
   subst this;simp[c,d,b9,a,b,g]
 .have:P=k:=by rw[Tq (show W.seen.length<=k by omega)]at hk;simpa[iv]using hk
  subst this;simp[c,d,b9,a]
end Go.AX
namespace Go.AX
open Go.Proofs
structure Pr where
  lits:List Int
  x:Int
  y:Int
structure WS where
  prs:List (Int×Pr)
  byl:List (Int×List Int)
  late:List (Int×Int)
  head:Int
  seen:List Int
def pT(p:Pr):List SV:=jB p.lits p.x p.y
def QZ(h:List (List SV))(e:By)(zs:List Int):Prop:=∃sp,h[e.b]?=some (aM zs++sp)∧(∀k,cG k sp)∧zs.length=e.n∧e.n<=e.cp∧e.cp<=e.n+sp.length
structure LayW (h:List (List SV)) (bw ba bt:Nat) (mp:List (Int×Nat)) (mb:List (Int×By)) (A:Ar) (T:Tr) (S:WS):Prop where
  w:h[bw]?=some (b9 ba bt ⟨mp,mb,S.late,S.head,S.seen⟩)
  a:h[ba]?=some (ja A)
  t:h[bt]?=some (gA T)
  wa:bw≠ba
  wt:bw≠bt
  at':ba≠bt
  keys:mp.map (·.1)=S.prs.map (·.1)
  pr:∀k b,lk mp k=some b->∃p,lk S.prs k=some p∧h[b]?=some (pT p)∧b≠bw∧b≠ba∧b≠bt
  pinj:∀k k' b,lk mp k=some b->lk mp k'=some b->k=k'
  by':∀l e,lk mb l=some e->∃zs,lk S.byl l=some zs∧QZ h e zs∧e.b≠bw∧e.b≠ba∧e.b≠bt
  byn:∀l,lk mb l=none->lk S.byl l=none
  binj:∀l l' e e',lk mb l=some e->lk mb l'=some e'->e.b=e'.b->l=l'
  pb:∀k b l e,lk mp k=some b->lk mb l=some e->b≠e.b
def aQ(bw bt:Nat)(mp:List (Int×Nat))(mb:List (Int×By))(b:Nat):Prop:=b=bw∨b=bt∨(∃k,lk mp k=some b)∨∃l e,lk mb l=some e∧e.b=b
structure Ext (h h':List (List SV)) (D D':Nat->Prop):Prop where
  len:h.length<=h'.length
  same:∀b,b<h.length->¬D b->h'[b]?=h[b]?
  sub:∀b,b<h.length->D' b->D b
theorem Ext.refl(h:List (List SV))(D:Nat->Prop):Ext h h D D:=⟨SY _,λ_ _ _=>rfl,λ_ _ h=>h⟩
theorem Ext.trans{h1 f g:List (List SV)}{c d e:Nat->Prop}(a:Ext h1 f c d)(b:Ext f g d e):Ext h1 g c e:=
 ⟨TD a.len b.len,λk hk hn=>by rw[b.same k (Uk hk a.len) λhd=>hn (a.sub k hk hd),a.same k hk hn],λk hk hd=>a.sub k hk (b.sub k (Uk hk a.len) hd)⟩
theorem Ext.app(h g:List (List SV))(D:Nat->Prop):Ext h (h++g) D D:=
 ⟨by simp,λb a _=>SZ a,λ_ _ h=>h⟩
theorem Ext.set{h:List (List SV)}{D:Nat->Prop}(b:Nat)(x:List SV)(hd:D b):Ext h (h.set b x) D D:=
 ⟨by simp,λk hk hn=>Tj (λe:b=k=>hn (e▸hd)),λ_ _ h=>h⟩
theorem Ext.dom{h h':List (List SV)}{D D' c:Nat->Prop}(a:Ext h h' D D')(hs:∀b,b<h.length->c b->D b):Ext h h' D c:=⟨a.len,a.same,hs⟩
section
variable {h : List (List SV)} {bw ba bt : Nat} {mp : List (Int × Nat)} {mb : List (Int × By)} {A : Ar} {T : Tr} {S : WS}
theorem LayW.some_p(L:LayW h bw ba bt mp mb A T S){k:Int}{p:Pr}(hp:lk S.prs k=some p):∃b,lk mp k=some b∧h[b]?=some (pT p)∧b≠bw∧b≠ba∧b≠bt:=by
 have:∀(a:List (Int×Nat))(c:List (Int×Pr)),a.map (·.1)=c.map (·.1)->(lk c k).isSome=true->(lk a k).isSome=true:=by
  intro a
  induction a with
  |nil=>intro c h1 d;cases c with|nil=>exact d|cons _ _=>simp at h1
  |cons u a f=>
   intro c h1 d;cases c with
   |nil=>simp at h1
   |cons w c=>
    simp only[Tn,Vi]at h1;rw[lk]at d⊢;rw[h1.1];split
    .rfl
    .rename_i hn;rw[SU hn]at d;exact f c h1.2 d
 obtain⟨b,e⟩:=VU.1 (this mp S.prs L.keys (by rw[hp];rfl));obtain⟨g,h1,d⟩:=L.pr k b e;rw[hp]at h1;cases h1
 exact⟨b,e,d⟩
theorem LayW.some_b(L:LayW h bw ba bt mp mb A T S){l:Int}{zs:List Int}(hz:lk S.byl l=some zs):∃e,lk mb l=some e∧QZ h e zs∧e.b≠bw∧e.b≠ba∧e.b≠bt:=by
 cases a:lk mb l with
 |none=>rw[L.byn l a]at hz;cases hz
 |some e=>
  obtain⟨d,h1,c⟩:=L.by' l e a
  rw[hz]at h1;cases h1
  exact⟨e,rfl,c⟩
theorem LayW.app(L:LayW h bw ba bt mp mb A T S)(g:List (List SV)):LayW (h++g) bw ba bt mp mb A T S:=by
  have up:∀{b:Nat}{x:List SV},h[b]?=some x->(h++g)[b]?=some x:=λhx=>by rw[SZ (SQ.1 hx).1,hx]
  exact { w := up L.w, a := up L.a, t := up L.t, wa := L.wa, wt := L.wt, at' := L.at', keys := L.keys, pinj := L.pinj, byn := L.byn, binj := L.binj, pb := L.pb
          pr:=λk b hb=>by obtain⟨p,h1,h2,h3⟩:=L.pr k b hb;exact⟨p,h1,up h2,h3⟩
          by':=λl e he=>by
            obtain⟨zs,h1,⟨sp,h2,h3⟩,h4⟩:=L.by' l e he
            exact⟨zs,h1,⟨sp,up h2,h3⟩,h4⟩}
theorem LayW.setW(L:LayW h bw ba bt mp mb A T S)(late:List (Int×Int))(head:Int)(seen:List Int):LayW (h.set bw (b9 ba bt ⟨mp,mb,late,head,seen⟩)) bw ba bt mp mb A T ⟨S.prs,S.byl,late,head,seen⟩:=by
  have hl:=(SQ.1 L.w).1
  have up:∀{b:Nat}{x:List SV},b≠bw->h[b]?=some x->(h.set bw (b9 ba bt ⟨mp,mb,late,head,seen⟩))[b]?=some x:=λhn hx=>by rw[Tj (λe=>hn e.symm),hx]
  exact { w := TH hl, a := up L.wa.symm L.a, t := up L.wt.symm L.t, wa := L.wa, wt := L.wt, at' := L.at', keys := L.keys, pinj := L.pinj, byn := L.byn, binj := L.binj, pb := L.pb
          pr:=λk b hb=>by obtain⟨p,h1,h2,h3⟩:=L.pr k b hb;exact⟨p,h1,up h3.1 h2,h3⟩
          by':=λl e he=>by
            obtain⟨zs,h1,⟨sp,h2,h3⟩,h4⟩:=L.by' l e he
            exact⟨zs,h1,⟨sp,up h4.1 h2,h3⟩,h4⟩}
theorem LayW.setT(L:LayW h bw ba bt mp mb A T S)(T':Tr):LayW (h.set bt (gA T')) bw ba bt mp mb A T' S:=by
  have hl:=(SQ.1 L.t).1
  have up:∀{b:Nat}{x:List SV},b≠bt->h[b]?=some x->(h.set bt (gA T'))[b]?=some x:=λhn hx=>by rw[Tj (λe=>hn e.symm),hx]
  exact { w := up L.wt L.w, a := up L.at' L.a, t := TH hl, wa := L.wa, wt := L.wt, at' := L.at', keys := L.keys, pinj := L.pinj, byn := L.byn, binj := L.binj, pb := L.pb
          pr:=λk b hb=>by obtain⟨p,h1,h2,h3⟩:=L.pr k b hb;exact⟨p,h1,up h3.2.2 h2,h3⟩
          by':=λl e he=>by
            obtain⟨zs,h1,⟨sp,h2,h3⟩,h4⟩:=L.by' l e he
            exact⟨zs,h1,⟨sp,up h4.2.2 h2,h3⟩,h4⟩}
theorem Aj{α β:Type}:∀(a:List (Int×α))(c:List (Int×β))(k:Int)(x:α)(y:β),a.map (·.1)=c.map (·.1)->(pt a k x).map (·.1)=(pt c k y).map (·.1)
 |[],[],_,_,_,_=>rfl
 |[],_::_,_,_,_,h=>by simp at h
 |_::_,[],_,_,_,h=>by simp at h
 |u::a,w::c,k,x,y,h=>by
  obtain⟨d,e⟩:=u;obtain⟨f,g⟩:=w;simp only[Tn,Vi]at h;obtain⟨h1,b⟩:=h;subst h1;rw[pt,pt];split
  .simp[b]
  .simp only[Tn];rw[Aj a c k x y b]
theorem LayW.setP(L:LayW h bw ba bt mp mb A T S){k:Int}{b:Nat}(hb:lk mp k=some b)(p:Pr)(hkeep:mp.map (·.1)=(pt S.prs k p).map (·.1)):LayW (h.set b (pT p)) bw ba bt mp mb A T ⟨pt S.prs k p,S.byl,S.late,S.head,S.seen⟩:=by
  obtain⟨p0,q1,q2,q3,q4,q5⟩:=L.pr k b hb
  have hl:=(SQ.1 q2).1
  have up:∀{c:Nat}{x:List SV},c≠b->h[c]?=some x->(h.set b (pT p))[c]?=some x:=λhn hx=>by rw[Tj (λe=>hn e.symm),hx]
  exact { w := up q3.symm L.w, a := up q4.symm L.a, t := up q5.symm L.t, wa := L.wa, wt := L.wt, at' := L.at', keys := hkeep, pinj := L.pinj, byn := L.byn, binj := L.binj, pb := L.pb
          pr:=λk' b' hb'=>by
            obtain⟨p1,h1,h2,h3⟩:=L.pr k' b' hb'
            show∃p_1,lk (pt S.prs k p) k'=some p_1∧_
            rw[bJ]
            by_cases e:k=k'
            · subst e
              rw[hb]at hb'
              cases hb'
              exact⟨p,SX rfl,TH hl,h3⟩
            · exact⟨p1,by rw[SU e];exact h1,up (λe2=>e (L.pinj k k' b hb (e2▸hb'))) h2,h3⟩
          by':=λl e he=>by
            obtain⟨zs,h1,⟨sp,h2,h3⟩,h4⟩:=L.by' l e he
            exact⟨zs,h1,⟨sp,up (L.pb k b l e hb he).symm h2,h3⟩,h4⟩}
theorem LayW.setB(L:LayW h bw ba bt mp mb A T S){l:Int}{e:By}(he:lk mb l=some e)(zs:List Int)(sp:List SV)(hsp:∀k,cG k sp)(n:Nat)(hn:zs.length=n)(h1:n<=e.cp)(h2:e.cp<=n+sp.length):
    LayW ((h.set e.b (aM zs++sp)).set bw (b9 ba bt ⟨mp,pt mb l ⟨e.b,n,e.cp⟩,S.late,S.head,S.seen⟩)) bw ba bt mp (pt mb l ⟨e.b,n,e.cp⟩) A T ⟨S.prs,pt S.byl l zs,S.late,S.head,S.seen⟩:=by
  obtain⟨z0,q1,⟨sp0,q2,_⟩,q3,q4,q5⟩:=L.by' l e he
  have hl:=(SQ.1 q2).1
  have hwl:=(SQ.1 L.w).1
  have up:∀{c:Nat}{x:List SV},c≠bw->c≠e.b->h[c]?=some x->((h.set e.b (aM zs++sp)).set bw (b9 ba bt ⟨mp,pt mb l ⟨e.b,n,e.cp⟩,S.late,S.head,S.seen⟩))[c]?=some x:=λn1 n2 hx=>by
    rw[Tj (λe=>n1 e.symm),Tj (λe=>n2 e.symm),hx]
  have self:((h.set e.b (aM zs++sp)).set bw (b9 ba bt ⟨mp,pt mb l ⟨e.b,n,e.cp⟩,S.late,S.head,S.seen⟩))[e.b]?=some (aM zs++sp):=by
    rw[Tj (λe=>q3 e.symm),TH hl]
  exact { w := TH (by simpa using hwl), a := up L.wa.symm q4.symm L.a, t := up L.wt.symm q5.symm L.t, wa := L.wa, wt := L.wt, at' := L.at', keys := L.keys, pinj := L.pinj
          pr:=λk b hb=>by obtain⟨p,a1,a2,a3⟩:=L.pr k b hb;exact⟨p,a1,up a3.1 (L.pb k b l e hb he) a2,a3⟩
          by':=λl' e' he'=>by
            rw[bJ]at he'
            show∃zs_1,lk (pt S.byl l zs) l'=some zs_1∧_
            rw[bJ]
            by_cases c:l=l'
            · rw[SX c]at he'
              cases he'
              exact⟨zs,SX c,⟨sp,self,hsp,hn,h1,h2⟩,q3,q4,q5⟩
            · rw[SU c]at he'
              obtain⟨z1,a1,⟨sp1,a2,a3⟩,a4⟩:=L.by' l' e' he'
              exact⟨z1,by rw[SU c];exact a1,⟨sp1,up a4.1 (λe2=>c (L.binj l' l e' e he' he e2).symm) a2,a3⟩,a4⟩
          byn:=λl' hn'=>by
            rw[bJ]at hn'
            show lk (pt S.byl l zs) l'=none
            rw[bJ]
            by_cases c:l=l'
            · rw[SX c]at hn';cases hn'
            · rw[SU c]at hn'⊢;exact L.byn l' hn'
          binj:=λl1 l2 e1 e2 h1' h2' hb=>by
            rw[bJ]at h1' h2'
            by_cases c1:l=l1
            · by_cases c2:l=l2
              · exact c1.symm.trans c2
              · rw[SX c1]at h1';rw[SU c2]at h2';cases h1'
                exact absurd (L.binj l l2 e e2 he h2' hb) c2
            · rw[SU c1]at h1'
              by_cases c2:l=l2
              · rw[SX c2]at h2';cases h2'
                exact absurd (L.binj l1 l e1 e h1' he hb).symm c1
              · rw[SU c2]at h2'
                exact L.binj l1 l2 e1 e2 h1' h2' hb
          pb:=λk b l' e' hb he'=>by
            rw[bJ]at he'
            by_cases c:l=l'
            · rw[SX c]at he';cases he';exact L.pb k b l e hb he
            · rw[SU c]at he';exact L.pb k b l' e' hb he'}
theorem LayW.newB(L:LayW h bw ba bt mp mb A T S)(l:Int)(zs:List Int)(sp:List SV)(hsp:∀k,cG k sp)(n cp:Nat)(hn:zs.length=n)(h1:n<=cp)(h2:cp<=n+sp.length):
    LayW ((h++[aM zs++sp]).set bw (b9 ba bt ⟨mp,pt mb l ⟨h.length,n,cp⟩,S.late,S.head,S.seen⟩)) bw ba bt mp (pt mb l ⟨h.length,n,cp⟩) A T ⟨S.prs,pt S.byl l zs,S.late,S.head,S.seen⟩:=by
  have hwl:=(SQ.1 L.w).1
  have lt:∀{b:Nat}{x:List SV},h[b]?=some x->b<h.length:=λhx=>(SQ.1 hx).1
  have up:∀{c:Nat}{x:List SV},c≠bw->h[c]?=some x->((h++[aM zs++sp]).set bw (b9 ba bt ⟨mp,pt mb l ⟨h.length,n,cp⟩,S.late,S.head,S.seen⟩))[c]?=some x:=λn1 hx=>by
    rw[Tj (λe=>n1 e.symm),SZ (lt hx),hx]
  have self:((h++[aM zs++sp]).set bw (b9 ba bt ⟨mp,pt mb l ⟨h.length,n,cp⟩,S.late,S.head,S.seen⟩))[h.length]?=some (aM zs++sp):=by
    rw[Tj (by omega)];simp
  exact { w := TH (by simp; omega), a := up L.wa.symm L.a, t := up L.wt.symm L.t, wa := L.wa, wt := L.wt, at' := L.at', keys := L.keys, pinj := L.pinj
          pr:=λk b hb=>by obtain⟨p,a1,a2,a3⟩:=L.pr k b hb;exact⟨p,a1,up a3.1 a2,a3⟩
          by':=λl' e' he'=>by
            rw[bJ]at he'
            show∃zs_1,lk (pt S.byl l zs) l'=some zs_1∧_
            rw[bJ]
            by_cases c:l=l'
            · rw[SX c]at he'
              cases he'
              exact⟨zs,SX c,⟨sp,self,hsp,hn,h1,h2⟩,V0 hwl,V0 (lt L.a),V0 (lt L.t)⟩
            · rw[SU c]at he'
              obtain⟨z1,a1,⟨sp1,a2,a3⟩,a4⟩:=L.by' l' e' he'
              exact⟨z1,by rw[SU c];exact a1,⟨sp1,up a4.1 a2,a3⟩,a4⟩
          byn:=λl' hn'=>by
            rw[bJ]at hn'
            show lk (pt S.byl l zs) l'=none
            rw[bJ]
            by_cases c:l=l'
            · rw[SX c]at hn';cases hn'
            · rw[SU c]at hn'⊢;exact L.byn l' hn'
          binj:=λl1 l2 e1 e2 h1' h2' hb=>by
            have old:∀l' e',lk mb l'=some e'->e'.b<h.length:=λl' e' he'=>by obtain⟨_,_,⟨_,a2,_⟩,_⟩:=L.by' l' e' he';exact lt a2
            rw[bJ]at h1' h2'
            by_cases c1:l=l1
            · by_cases c2:l=l2
              · exact c1.symm.trans c2
              · rw[SX c1]at h1';rw[SU c2]at h2';cases h1'
                have:=old l2 e2 h2'
                simp only at hb
                omega
            · rw[SU c1]at h1'
              by_cases c2:l=l2
              · rw[SX c2]at h2';cases h2'
                have:=old l1 e1 h1'
                simp only at hb
                omega
              · rw[SU c2]at h2'
                exact L.binj l1 l2 e1 e2 h1' h2' hb
          pb:=λk b l' e' hb he'=>by
            rw[bJ]at he'
            by_cases c:l=l'
            · rw[SX c]at he';cases he'
              obtain⟨_,_,a2,_⟩:=L.pr k b hb
              exact Xd (lt a2)
            · rw[SU c]at he';exact L.pb k b l' e' hb he'}
end
@[simp] theorem Q0(l:List (Int×Nat))(k:Int):dz (aZ uS l) k=(lk l k).map uS:=jm uS l k
@[simp] theorem R3(l:List (Int×Nat))(k:Int)(b:Nat):im (aZ uS l) k (.ptr b 0)=aZ uS (pt l k b):=lq uS l k b
@[simp] theorem Q1(l:List (Int×By))(k:Int):dz (aZ G8 l) k=(lk l k).map G8:=jm G8 l k
@[simp] theorem R4(l:List (Int×By))(k:Int)(b n cp:Nat):im (aZ G8 l) k (.bsl b 1 0 n cp)=aZ G8 (pt l k ⟨b,n,cp⟩):=lq G8 l k ⟨b,n,cp⟩
theorem Mq(x v:Int):aj Tryz.prog 256 [ab x,.iptr 1 [[ab v]] 0 0] (λr=>r=.pv (BL (decide (x=v)))):=by
 refine ap aD Tryz.func256 ?_;simp
def er(byl:List (Int×List Int))(k l:Int):List (Int×List Int):=if l=0 then byl else pt byl l (bk (λx=>decide (x=k)) ((lk byl l).getD []))
def fl(S:WS)(k:Int)(p:Pr):WS:=⟨pt S.prs k ⟨p.lits,0,0⟩,er (er S.byl k p.x) k p.y,S.late,S.head,S.seen⟩
def Jy:Sch:=
 let b:Sch:=.fork [(8,.done)]
 let a:Sch:=.fork [(5,.take 6 (.take 7 b))]
 let c:Sch:=.fork [(4,a)]
 let d:Sch:=.fork [(3,a)]
 let e:Sch:=.fork [(3,c),(4,d)]
 .take 0 (.take 1 (.take 2 (.take 9 e)))
def Jz:Sch:=
 let g:Sch:=.fork [(13,.done)]
 let b:Sch:=.fork [(12,g)]
 let h:Sch:=.fork [(11,b)]
 let f:Sch:=.fork [(10,b)]
 let i:Sch:=.fork [(10,h),(11,f)]
 let j:Sch:=.fork [(8,f)]
 let l:Sch:=.fork [(8,i),(11,j)]
 let m:Sch:=.fork [(3,g)]
 let k:Sch:=.fork [(3,b),(12,m)]
 let n:Sch:=.fork [(3,h),(11,k)]
 let a:Sch:=.fork [(3,f),(10,k)]
 let c:Sch:=.fork [(3,i),(10,n),(11,a)]
 let d:Sch:=.fork [(3,j),(8,a)]
 let e:Sch:=.fork [(3,l),(8,c),(11,d)]
 .take 0 (.take 1 (.take 2 (.take 4 (.take 5 (.take 6 (.take 7 (.take 9 e)))))))
def JA:Sch:=
 let b:Sch:=.fork [(9,.done)]
 let f:Sch:=.fork [(6,.take 7 (.take 8 b))]
 let a:Sch:=.fork [(5,.take 7 (.take 8 b))]
 let c:Sch:=.fork [(5,f),(6,a)]
 let d:Sch:=.fork [(4,a)]
 let g:Sch:=.fork [(4,c),(6,d)]
 let e:Sch:=.fork [(3,a)]
 let h:Sch:=.fork [(3,c),(6,e)]
 let i:Sch:=.fork [(3,d),(4,e)]
 let j:Sch:=.fork [(3,g),(4,h),(6,i)]
 .take 0 (.take 1 (.take 2 j))
def CH(S:WS)(k:Int)(p:Pr):Nat->List (Int×List Int)
 |0=>S.byl
 |1=>er S.byl k p.x
 |_=>er (er S.byl k p.x) k p.y
set_option maxRecDepth 16000 in
theorem ub(h:List (List SV))(bw ba bt:Nat)(mp:List (Int×Nat))(mb:List (Int×By))(A:Ar)(T:Tr)(S:WS)(L:LayW h bw ba bt mp mb A T S)(k:Int)(p:Pr)(hp:lk S.prs k=some p)
 (hx:p.x≠0->∃zs,lk S.byl p.x=some zs∧zs≠[]) (hy:p.y≠0->∃zs,lk (er S.byl k p.x) p.y=some zs∧zs≠[]) (hz:∀l zs,lk S.byl l=some zs->zs.length<=1000000):
 aA Tryz.prog 195 [.ptr bw 0,ab k] h (λr h'=>r=.pv (.tup [])∧∃mb',LayW h' bw ba bt mp mb' A T (fl S k p)∧Ext h h' (aQ bw bt mp mb) (aQ bw bt mp mb')):=by
 refine cQ [1,5,7] [] aD Tryz.func195 ?_;obtain⟨b,E,q1,q2,q3,q4⟩:=L.some_p hp;obtain⟨G,D⟩:∃G,G=h++[[SV.pv (ab k)]]:=⟨_,rfl⟩;have L0:LayW G bw ba bt mp mb A T S:=by rw[D];exact L.app _
 have I:G[h.length]?=some [.pv (ab k)]:=by rw[D];simp
 have aa:G[b]?=some (pT p):=by rw[D,SZ (SQ.1 q1).1,q1]
 obtain⟨w1,w2⟩:=SQ.1 L0.w;obtain⟨k1,k2⟩:=SQ.1 I;obtain⟨b1,b2⟩:=SQ.1 aa;simp;rw[←D];have af:h.length≠bw:=V0 (SQ.1 L.w).1;have old:∀l e,lk mb l=some e->e.b<h.length:=λl e v=>by obtain⟨_,_,⟨_,a2,_⟩,_⟩:=L.by' l e v;exact(SQ.1 a2).1
 refine aT.meet Jy ⟨[(0,.pv (.ptr bw 0)),(3,.pv (.ptr h.length 0)),(14,.pv (.agg [ab p.x,ab p.y])),(15,.pv (ab 0))],G⟩ (by kernel_rfl) ?_ ?_
 .simp[Jy,w1,w2,b9,k1,k2,b1,b2,pT,jB,E,uS];and_intros
  all_goals exact ah.keep (by simp) rfl
 simp;refine ax.intro (S:=λ(x:Nat×List (List SV)×List (Int×By))=>⟨[(0,.pv (.ptr bw 0)),(3,.pv (.ptr h.length 0)),(14,.pv (.agg [ab p.x,ab p.y])),(15,.pv (ab x.1))],x.2.1⟩)
  (λx=>x.1<=2∧LayW x.2.1 bw ba bt mp x.2.2 A T ⟨S.prs,CH S k p x.1,S.late,S.head,S.seen⟩∧x.2.1[h.length]?=some [.pv (ab k)]∧Ext G x.2.1 (aQ bw bt mp mb) (aQ bw bt mp x.2.2)∧(∀l e,lk x.2.2 l=some e->e.b<h.length)∧∀l zs,lk (CH S k p x.1) l=some zs->zs.length<=1000000)
  (λx=>2 -x.1) (0,G,mb) ?_ ⟨Tf _,L0,I,Ext.refl _ _,old,hz⟩ ?_
 .exact ah.keep (by simp) rfl
 rintro⟨i,H,mb'⟩ ⟨hi,s,j,P,f,o⟩;dsimp only at hi s j P f o;obtain⟨v1,v2⟩:=SQ.1 s.w;obtain⟨j1,j2⟩:=SQ.1 j
 by_cases d:i<2
 .obtain⟨l,B⟩:∃l,l=if i=0 then p.x else p.y:=⟨_,rfl⟩;have F:[ab p.x,ab p.y][i]?=some (ab l):=by
   have:i=0∨i=1:=by omega
   rcases this with rfl|rfl
   .rw[B];rfl
   .rw[B];rfl
  have g:∀hh:i<[ab p.x,ab p.y].length,[ab p.x,ab p.y][i]'hh=ab l:=λhh=>by
   have:=SQ.1 F;exact this.2
  have d':(i:Int)<2:=by omega
  have M:aX ((i:Int)+1)=((i+1:Nat):Int):=by rw[ao (by omega) (by omega)];omega
  have a:CH S k p (i+1)=er (CH S k p i) k l:=by
   have:i=0∨i=1:=by omega
   rcases this with rfl|rfl
   .rw[B];rfl
   .rw[B];rfl
  by_cases l0:l=0
  .simp[d,d',g,l0];rw[l0]at a;refine⟨(i+1,H,mb'),by(try dsimp only);omega,⟨by(try dsimp only);omega,?_,j,P,f,?_⟩,ah.keep (by simp[M]) rfl⟩
   .dsimp only;rw[a];exact s
   .dsimp only;rw[a];exact o
  .have ae:∃zs,lk (CH S k p i) l=some zs∧zs≠[]:=by
    have:i=0∨i=1:=by omega
    rcases this with rfl|rfl
    .have e:l=p.x:=B;rw[e]at l0⊢;exact hx l0
    .have e:l=p.y:=B;rw[e]at l0⊢;exact hy l0
   obtain⟨zs,n,O⟩:=ae;obtain⟨e,v,⟨sp,e1,e2,e3,e4,e5⟩,e6,e7,e8⟩:=s.some_b n;have N:zs.length<=1000000:=o l zs n;have J:0<zs.length:=UG.2 O;have C:(bk (λx=>decide (x=k)) zs).length<=zs.length:=jU _ _;have V:=iR zs N 256 [.iptr 1 [[ab k]] 0 0] (λx=>decide (x=k)) (λr=>by simp) rfl (λm=>by simp) (by simp) (λx _=>Mq x k);have ai:e.b<H.length:=(SQ.1 e1).1;have t:h.length≠e.b:=V0 (f l e v);obtain⟨Z,hZ⟩:∃Z,Z=bk (λx=>decide (x=k)) zs:=⟨_,rfl⟩;rw[←hZ]at C;unfold Lv at V;rw[←hZ]at V;obtain⟨X,hX⟩:∃X:List SV,X=(Z++List.replicate (zs.length -Z.length) 0).map (λz=>SV.pv (.lit (.int .i64 z)))++sp:=⟨_,rfl⟩;have K:CH S k p (i+1)=pt (CH S k p i) l Z:=by
    rw[a];unfold er;rw[SU l0,n,TC,hZ]
   have Y:X=aM Z++((List.replicate (zs.length -Z.length) 0).map (λz=>SV.pv (.lit (.int .i64 z)))++sp):=by
    rw[hX,Tu,Tv];rfl
   have LN:=s.setB v Z ((List.replicate (zs.length -Z.length) 0).map (λz=>SV.pv (.lit (.int .i64 z)))++sp) (λm=>qK m (e2 m) _) Z.length rfl (by omega) (by simp;omega);rw[←Y]at LN;simp[d,d',g,l0];refine aT.meet Jz ⟨[(0,.pv (.ptr bw 0)),(3,.pv (.ptr h.length 0)),(14,.pv (.agg [ab p.x,ab p.y])),(15,.pv (ab i))],(H.set e.b X).set bw (b9 ba bt ⟨mp,pt mb' l ⟨e.b,Z.length,e.cp⟩,S.late,S.head,S.seen⟩)⟩ (by kernel_rfl) ?_ ?_
   .simp[Jz,v1,v2,b9,j1,j2,v,G8];and_intros
    all_goals
     refine am.introX (bE.introT (b:=e.b) (b2:=h.length) (zs:=zs) (sp:=sp) (cp:=e.cp) V (by simp) (by simp) rfl (by simp) (by simp[e3]) (by simp) (by simp) e1 j t J N ?_);rintro _ _ ⟨rfl,rfl⟩;refine⟨_,_,rfl,rfl,by simp;omega,C,?_⟩;rw[←hX];simp[v1,v2,b9,e6,e6.symm,aJ];exact ah.keep (by simp) rfl
   .simp;refine⟨(i+1,_,pt mb' l ⟨e.b,Z.length,e.cp⟩),by(try dsimp only);omega,⟨by(try dsimp only);omega,?_,?_,?_,?_,?_⟩,ah.keep (by simp[M]) rfl⟩
    .dsimp only;rw[K];exact LN
    .dsimp only;rw[Tj (λq=>af q.symm),Tj (λq=>t q.symm)];exact j
    .dsimp only;refine P.trans (((Ext.set e.b X (.inr (.inr (.inr ⟨l,e,v,rfl⟩)))).trans (Ext.set bw _ (.inl rfl))).dom ?_);rintro c _ (q|q|q|⟨l',e',q,rfl⟩)
     .exact .inl q
     .exact .inr (.inl q)
     .exact .inr (.inr (.inl q))
     .rw[bJ]at q;split at q
      .cases q;exact .inr (.inr (.inr ⟨l,e,v,rfl⟩))
      .exact .inr (.inr (.inr ⟨l',e',q,rfl⟩))
    .intro l' e' q;dsimp only at q;rw[bJ]at q;split at q
     .cases q;exact f l e v
     .exact f l' e' q
    .intro l' ag q;dsimp only at q;rw[K,bJ]at q;split at q
     .cases q;omega
     .exact o l' ag q
 .have:i=2:=by omega
  subst this;obtain⟨R,r1,r2,r3,r4,r5⟩:=s.pr k b E;have ad:R=p:=by rw[hp]at r1;cases r1;rfl
  subst ad; obtain ⟨c1, c2⟩ := SQ.1 r2; have LF := s.setP E ⟨R.lits, 0, 0⟩ (by
   have:∀(l:List (Int×Pr))(q:Pr),lk l k=some q->(pt l k ⟨R.lits,0,0⟩).map (·.1)=l.map (·.1):=by
    intro l q Q
    induction l with
    |nil=>cases Q
    |cons u l ih=>
     obtain⟨u1,u2⟩:=u;rw[pt];rw[lk]at Q;split
     .rename_i U;simp only[Tn,U]
     .rename_i U;rw[SU U]at Q;simp only[Tn];rw[ih Q]
   exact s.keys.trans (this _ _ hp).symm)
  have W:Ext h (H.set b (pT ⟨R.lits,0,0⟩)) (aQ bw bt mp mb) (aQ bw bt mp mb'):=by
   have a1:Ext h G (aQ bw bt mp mb) (aQ bw bt mp mb):=by rw[D];exact Ext.app _ _ _
   exact(a1.trans P).trans (Ext.set b _ (.inr (.inr (.inl ⟨k,E⟩))))
  simp;refine aT.one JA (by kernel_rfl) ?_;simp[JA,v1,v2,b9,j1,j2,c1,c2,pT,jB,E,uS];exact⟨mb',LF,W⟩
def JB:Sch:=
 let e:Sch:=.fork [(12,.done)]
 let a:Sch:=.fork [(9,.take 10 (.take 11 e))]
 let b:Sch:=.fork [(8,a)]
 let f:Sch:=.fork [(6,.take 7 b)]
 let c:Sch:=.fork [(4,a)]
 let d:Sch:=.fork [(4,b),(8,c)]
 let g:Sch:=.fork [(4,f),(6,.take 7 d)]
 let h:Sch:=.fork [(2,.take 3 c)]
 let i:Sch:=.fork [(2,.take 3 d),(8,h)]
 let j:Sch:=.fork [(2,.take 3 g),(6,.take 7 i)]
 .take 0 (.take 1 (.take 5 j))
def xZ:Sch:=
 let g:Sch:=.fork [(14,.done)]
 let b:Sch:=.fork [(13,g)]
 let h:Sch:=.fork [(12,b)]
 let f:Sch:=.fork [(10,b)]
 let i:Sch:=.fork [(10,h),(12,f)]
 let j:Sch:=.fork [(8,f)]
 let l:Sch:=.fork [(8,i),(12,j)]
 let m:Sch:=.fork [(3,g)]
 let k:Sch:=.fork [(3,b),(13,m)]
 let n:Sch:=.fork [(3,h),(12,k)]
 let a:Sch:=.fork [(3,f),(10,k)]
 let c:Sch:=.fork [(3,i),(10,n),(12,a)]
 let d:Sch:=.fork [(3,j),(8,a)]
 let e:Sch:=.fork [(3,l),(8,c),(12,d)]
 .take 0 (.take 1 (.take 2 (.take 4 (.take 5 (.take 6 (.take 7 (.take 9 (.take 11 e))))))))
def Ep:Sch:=
 let a:Sch:=.fork [(9,.done)]
 let b:Sch:=.fork [(7,a)]
 let c:Sch:=.fork [(5,.take 6 b)]
 let d:Sch:=.fork [(3,a)]
 let e:Sch:=.fork [(3,b),(7,d)]
 let f:Sch:=.fork [(3,c),(5,.take 6 e)]
 .take 0 (.take 1 (.take 2 (.take 4 (.take 8 f))))
def gF(byl:List (Int×List Int))(k l:Int):List (Int×List Int):=pt byl l ((lk byl l).getD []++[k])
def jM(S:WS)(T:Tr)(k:Int)(p:Pr):WS:=
 if 2<=(eK T p.lits).length then⟨pt S.prs k ⟨p.lits,(eK T p.lits).getD 0 0,(eK T p.lits).getD 1 0⟩,gF (gF S.byl k ((eK T p.lits).getD 0 0)) k ((eK T p.lits).getD 1 0),dl S.late k,S.head,S.seen⟩else S
def mg(T:Tr)(k:Int)(p:Pr):Tr:=
 if(eK T p.lits).length=1∧l3 T p.lits=false then lu T ((eK T p.lits).getD 0 0) k else T
def mU(T:Tr)(p:Pr):Bool:=decide ((eK T p.lits).length=0)
@[simp] theorem Ob:∀(l:List (Int×Int))(k:Int),jf k (aZ fI l)=aZ fI (dl l k)
 |[],k=>rfl
 |(j,x)::l,k=>by
  show(if j=k then aZ fI l else(j,fI x)::jf k (aZ fI l))=aZ fI (if j=k then l else(j,x)::dl l k);rw[Ob l k];split<;>rfl
theorem eM{α:Type}{k:Int}(y:α):∀{l:List (Int×α)}{q:α},lk l k=some q->(pt l k y).map (·.1)=l.map (·.1)
 |[],_,h=>by cases h
 |(b,c)::l,q,h=>by
  rw[pt];rw[lk]at h;split
  .rename_i a;simp only[Tn,a]
  .rename_i a;rw[SU a]at h;simp only[Tn];rw[eM y h]
theorem gW(k:Nat):∀n:Nat,cG k (List.replicate n (SV.pv .bot))
 |0=>trivial
 |n+1=>⟨trivial,gW k n⟩
def qN(byl:List (Int×List Int))(k x y:Int):Nat->List (Int×List Int)
 |0=>byl
 |1=>gF byl k x
 |_=>gF (gF byl k x) k y
set_option maxRecDepth 16000 in
theorem wm(h:List (List SV))(bw ba bt:Nat)(mp:List (Int×Nat))(mb:List (Int×By))(A:Ar)(T:Tr)(S:WS)(L:LayW h bw ba bt mp mb A T S)(k:Int)(p:Pr)(hp:lk S.prs k=some p)(hT:T.ok)(ag:T.lits.length<=1000000)(M:p.lits.length<=1000000)
 (hz:∀l zs,lk S.byl l=some zs->zs.length<=1000000):
 aA Tryz.prog 233 [.ptr bw 0,ab k] h (λr h'=>r=.pv (BL (mU T p))∧∃mb',LayW h' bw ba bt mp mb' A (mg T k p) (jM S T k p)∧Ext h h' (aQ bw bt mp mb) (aQ bw bt mp mb')):=by
 refine cQ [6,10,14] [.tmp 4] aD Tryz.func233 ?_;obtain⟨b,hb,q1,q2,q3,q4⟩:=L.some_p hp;have af:=Jw h bw ba bt b ⟨mp,mb,S.late,S.head,S.seen⟩ T p.lits p.x p.y L.w L.t q1 hT M;obtain⟨w1,w2⟩:=SQ.1 L.w;obtain⟨b1,b2⟩:=SQ.1 q1;have az:=wl T p.lits;unfold jM mg mU;generalize eK T p.lits=O at*;generalize l3 T p.lits=Hd at*;simp[w1,w2,b9,hb,uS];refine am.intro af ?_;rintro _ h2 ⟨e,rfl⟩;rw[e];clear e h2;obtain⟨G,E⟩:∃G,G=h++[[SV.pv (BL Hd),SV.pv (PV.seq true 1 (ae O))]]:=⟨_,rfl⟩;have L0:LayW G bw ba bt mp mb A T S:=by rw[E];exact L.app _
 have E0:Ext h G (aQ bw bt mp mb) (aQ bw bt mp mb):=by rw[E];exact Ext.app _ _ _
 have aq:G[h.length]?=some [SV.pv (BL Hd),SV.pv (PV.seq true 1 (ae O))]:=by rw[E];simp
 have ak:G[b]?=some (pT p):=by rw[E,SZ b1,q1]
 obtain⟨g1,g2⟩:=SQ.1 L0.w;obtain⟨f1,f2⟩:=SQ.1 aq;obtain⟨c1,c2⟩:=SQ.1 ak;have ay:b≠h.length:=Xd b1;have aB:bw≠h.length:=Xd w1;rcases O with _|⟨f,_|⟨g,O'⟩⟩
 .simp;rw[←E];exact⟨mb,L0,E0⟩
 .simp;rw[←E];cases Hd
  .simp;have kI:=vH G bt T L0.t f k hT ag;refine aT.one Ep (by kernel_rfl) ?_;simp[Ep,g1,g2,b9,f1,f2];and_intros
   all_goals
    refine am.intro kI ?_;rintro _ _ ⟨rfl,rfl⟩;simp;exact⟨mb,L0.setT _,E0.trans (Ext.set bt _ (.inr (.inl rfl)))⟩
  .simp;exact⟨mb,L0,E0⟩
 .have X:¬((O'.length:Int)+1+1=0):=by omega
  have J:(2:Int)<=(O'.length:Int)+1+1:=by omega
  have K:¬(O'.length+1+1=1):=by omega
  simp[X,J,K];rw[←E];have L1:=L0.setP hb ⟨p.lits,f,g⟩ (L0.keys.trans (eM _ hp).symm);have E1:Ext h (G.set b (pT ⟨p.lits,f,g⟩)) (aQ bw bt mp mb) (aQ bw bt mp mb):=E0.trans (Ext.set b _ (.inr (.inr (.inl ⟨k,hb⟩))));have V:b<(G.set b (pT ⟨p.lits,f,g⟩)).length:=by simpa using c1
  have aj:(G.set b (pT ⟨p.lits,f,g⟩))[b]'V=jB p.lits f g:=by simp[pT]
  refine aT.meet JB ⟨[(0,.pv (.ptr bw 0)),(1,.pv (ab k)),(5,.pv (.ptr b 0)),(6,.pv (.ptr h.length 0))],G.set b (pT ⟨p.lits,f,g⟩)⟩ (by kernel_rfl) ?_ ?_
  .simp[JB,f1,f2,c1,c2,pT,jB];and_intros
   all_goals first|omega|exact ah.keep (by simp) rfl
  generalize G.set b (pT ⟨p.lits,f,g⟩)=G1 at*;simp[V,aj,jB];refine ax.intro (S:=λ(x:Nat×List (List SV)×List (Int×By))=>⟨[(0,.pv (.ptr bw 0)),(1,.pv (ab k)),(43,.pv (.agg [ab f,ab g])),(44,.pv (ab x.1))],x.2.1⟩)
   (λx=>x.1<=2∧LayW x.2.1 bw ba bt mp x.2.2 A T ⟨pt S.prs k ⟨p.lits,f,g⟩,qN S.byl k f g x.1,S.late,S.head,S.seen⟩∧Ext G1 x.2.1 (aQ bw bt mp mb) (aQ bw bt mp x.2.2)∧∀l zs,lk (qN S.byl k f g x.1) l=some zs->zs.length<=1000000+x.1)
   (λx=>2 -x.1) (0,G1,mb) ?_ ⟨Tf _,L1,Ext.refl _ _,hz⟩ ?_
  .exact ah.keep (by simp) rfl
  rintro⟨i,H,mb'⟩ ⟨hi,v,hE,D⟩;dsimp only at hi v hE D;obtain⟨N,v2⟩:=SQ.1 v.w
  by_cases d:i<2
  .obtain⟨l,M⟩:∃l,l=if i=0 then f else g:=⟨_,rfl⟩;have W:[ab f,ab g][i]?=some (ab l):=by
    have:i=0∨i=1:=by omega
    rcases this with rfl|rfl
    .rw[M];rfl
    .rw[M];rfl
   have F:∀hh:i<[ab f,ab g].length,[ab f,ab g][i]'hh=ab l:=λhh=>(SQ.1 W).2;have d':(i:Int)<2:=by omega
   have ar:aX ((i:Int)+1)=((i+1:Nat):Int):=by rw[ao (by omega) (by omega)];omega
   have o:qN S.byl k f g (i+1)=gF (qN S.byl k f g i) k l:=by
    have:i=0∨i=1:=by omega
    rcases this with rfl|rfl
    .rw[M];rfl
    .rw[M];rfl
   simp[d,d',F];refine aT.blk [60] xZ (λx:List (List SV)×List (Int×By)=>⟨[(0,.pv (.ptr bw 0)),(1,.pv (ab k)),(43,.pv (.agg [ab f,ab g])),(44,.pv (ab i))],x.1⟩)
    (λx=>LayW x.1 bw ba bt mp x.2 A T ⟨pt S.prs k ⟨p.lits,f,g⟩,qN S.byl k f g (i+1),S.late,S.head,S.seen⟩∧Ext H x.1 (aQ bw bt mp mb') (aQ bw bt mp x.2)) (by kernel_rfl) ?_ ?_
   .have hA:∀x,(H++[x])[bw]?=some (b9 ba bt ⟨mp,mb',S.late,S.head,S.seen⟩):=λx=>by rw[SZ N];exact v.w
    have dom:∀e',(∀c,c<H.length->e'.b=c->∃l0 e0,lk mb' l0=some e0∧e0.b=c)->∀c,c<H.length->aQ bw bt mp (pt mb' l e') c->aQ bw bt mp mb' c:=λe' an c s q=>by
     rcases q with q|q|q|⟨l',e2,q,q2⟩
     .exact .inl q
     .exact .inr (.inl q)
     .exact .inr (.inr (.inl q))
     .rw[bJ]at q;split at q
      .cases q;exact .inr (.inr (.inr (an c s q2)))
      .exact .inr (.inr (.inr ⟨l',e2,q,q2⟩))
    cases j:lk mb' l with
    |none=>
     have ai:=v.byn l j;have C:qN S.byl k f g (i+1)=pt (qN S.byl k f g i) l [k]:=by
      rw[o];unfold gF;rw[ai];rfl
     have LN:∀cap,1<=cap->LayW (H.set bw (b9 ba bt ⟨mp,pt mb' l ⟨H.length,1,cap⟩,S.late,S.head,S.seen⟩)++[SV.pv (ab k)::List.replicate (cap -1) (SV.pv .bot)]) bw ba bt mp (pt mb' l ⟨H.length,1,cap⟩) A T ⟨pt S.prs k ⟨p.lits,f,g⟩,qN S.byl k f g (i+1),S.late,S.head,S.seen⟩:=λcap s=>by
      have:=v.newB l [k] (List.replicate (cap -1) (SV.pv .bot)) (λm=>gW m _) 1 cap rfl s (by simp;omega);rw[C];rw[Wj _ _ N]at this;exact this
     have EN:∀cap x y,Ext H (H.set bw x++[y]) (aQ bw bt mp mb') (aQ bw bt mp (pt mb' l ⟨H.length,1,cap⟩)):=λcap x y=>by
      refine(((Ext.set bw x (.inl rfl)).trans (Ext.app _ [y] _)).dom (dom _ λc s e=>?_));simp only at e;omega
     simp[xZ,N,v2,b9,j,hA];and_intros
     all_goals
      intro cap s;exact⟨_,⟨pt mb' l ⟨H.length,1,cap⟩,LN cap s,EN cap _ _⟩,ah.keep (by simp) rfl⟩
    |some e=>
     obtain⟨zs,aa,⟨sp,e1,e2,e3,e4,e5⟩,e6,e7,e8⟩:=v.by' l e j
     obtain⟨u1,u2⟩:=SQ.1 e1;have ad:¬bw=e.b:=λq=>e6 q.symm;have C:qN S.byl k f g (i+1)=pt (qN S.byl k f g i) l (zs++[k]):=by
      rw[o];unfold gF;rw[aa];rfl
     have I:(aM zs).length=e.n:=by rw[oU];exact e3
     have aC:e.n<=1000000+i:=by rw[←e3];exact D l zs aa
     have P:∀m (s0:List SV),cG m s0->cG m (s0.drop 1):=λm s0 Z=>by cases s0 with|nil=>exact Z|cons _ _=>exact Z.2
     have aw:(aM zs++sp).length=e.n+sp.length:=by rw[Ta,I]
     have B:(aM zs++sp).take e.n=aM zs:=UY I;have U:(aM zs++sp).take e.n=(zs.map λz=>PV.lit (.int .i64 z)).map SV.pv:=by rw[B];unfold aM;rw[TX];rfl
     have u:∀R:List SV,aM (zs++[k])++R=aM zs++SV.pv (ab k)::R:=λR=>by unfold aM;rw[Tu,Tv];rfl
     have Q:(aM zs++sp).drop (e.n+1)=sp.drop 1:=by rw[←I,Xu];simp
     have LR:e.n+1<=e.cp->LayW ((H.set e.b (List.take e.n (aM zs++sp)++SV.pv (ab k)::List.drop (e.n+1) (aM zs++sp))).set bw (b9 ba bt ⟨mp,pt mb' l ⟨e.b,e.n+1,e.cp⟩,S.late,S.head,S.seen⟩)) bw ba bt mp (pt mb' l ⟨e.b,e.n+1,e.cp⟩) A T ⟨pt S.prs k ⟨p.lits,f,g⟩,qN S.byl k f g (i+1),S.late,S.head,S.seen⟩:=λhr=>by
      rw[B,Q,←u,C];exact v.setB j (zs++[k]) (sp.drop 1) (λm=>P m sp (e2 m)) (e.n+1) (by simp;omega) hr (by rw[TN];omega)
     have LG:∀a,e.n+1<=a->LayW (H.set bw (b9 ba bt ⟨mp,pt mb' l ⟨H.length,e.n+1,a⟩,S.late,S.head,S.seen⟩)++[(zs.map λz=>PV.lit (.int .i64 z)).map SV.pv++SV.pv (ab k)::List.replicate (a -(e.n+1)) (SV.pv .bot)]) bw ba bt mp (pt mb' l ⟨H.length,e.n+1,a⟩) A T ⟨pt S.prs k ⟨p.lits,f,g⟩,qN S.byl k f g (i+1),S.late,S.head,S.seen⟩:=λa s=>by
      have:=v.newB l (zs++[k]) (List.replicate (a -(e.n+1)) (SV.pv .bot)) (λm=>gW m _) (e.n+1) a (by simp;omega) s (by simp;omega);rw[C,←U,B];rw[Wj _ _ N,u]at this;exact this
     have ER:∀x y,Ext H ((H.set e.b x).set bw y) (aQ bw bt mp mb') (aQ bw bt mp (pt mb' l ⟨e.b,e.n+1,e.cp⟩)):=λx y=>by
      refine(((Ext.set e.b x (.inr (.inr (.inr ⟨l,e,j,rfl⟩)))).trans (Ext.set bw y (.inl rfl))).dom (dom _ λc s q=>?_));exact⟨l,e,j,q⟩
     have EG:∀a x y,Ext H (H.set bw x++[y]) (aQ bw bt mp mb') (aQ bw bt mp (pt mb' l ⟨H.length,e.n+1,a⟩)):=λa x y=>by
      refine(((Ext.set bw x (.inl rfl)).trans (Ext.app _ [y] _)).dom (dom _ λc s q=>?_));simp only at q;omega
     clear B Q u;generalize hY:aM zs++sp=Y at*;simp[xZ,N,v2,b9,j,G8,u1,u2,hA,e6,ad];and_intros
     all_goals first
      |omega
      |(refine⟨_,U,by simpa using e3,λhr=>⟨_,⟨_,LR hr,ER _ _⟩,ah.keep (by simp) rfl⟩,λhn a s=>⟨_,⟨_,LG a s,EG a _ _⟩,ah.keep (by simp) rfl⟩⟩)
   .rintro⟨H2,au⟩ ⟨LN,EN⟩;simp;refine⟨(i+1,H2,au),by(try dsimp only);omega,⟨by(try dsimp only);omega,LN,hE.trans EN,λl' av q=>?_⟩,ah.keep (by simp[ar]) rfl⟩;dsimp only at q⊢;rw[o]at q;unfold gF at q;rw[bJ]at q;split at q
    .cases q
     rw[Ta,Ue];cases hq:lk (qN S.byl k f g i) l with
     |none=>simp only[Option.getD_none,List.length_nil];omega
     |some z0=>have:=D l z0 hq;simp only[TC];omega
    .have:=D l' av q;omega
  .have:i=2:=by omega
   subst this;simp[N,v2,b9];exact⟨mb',v.setW (dl S.late k) S.head S.seen,(E1.trans hE).trans (Ext.set bw _ (.inl rfl))⟩
end Go.AX