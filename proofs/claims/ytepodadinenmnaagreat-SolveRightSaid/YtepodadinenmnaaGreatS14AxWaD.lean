/-
  Contracts: watches: what they hold; made, look, shrunk; and what follows.
-/
import Derived.Test.YtepodadinenmnaaGreatS14AxTyA
import Derived.Test.YtepodadinenmnaaGreatS14AxGlP
import Derived.Test.YtepodadinenmnaaGreatAxTb
import Derived.Test.YtepodadinenmnaaGreatAxBt
namespace Go.AX
set_option maxRecDepth 16000
open Go.Proofs
set_option linter.unusedSimpArgs false
structure By where
  b:Nat
  n:Nat
  cp:Nat
def GG(x:By):PV:=.bsl x.b 1 0 x.n x.cp
def uT(b:Nat):PV:=.ptr b 0
structure Wt where
  prs:List (Int×Nat)
  byl:List (Int×By)
  late:List (Int×Int)
  head:Int
  seen:List Int
def ce(ba bt:Nat)(W:Wt):List SV:=[.pv (.ptr ba 0),.pv (.ptr bt 0),.omap true (aG uT W.prs),.omap true (aG GG W.byl),.omap true (aG fI W.late),.pv (ab W.head),.own true 1 (ae W.seen)]
def jD(lits:List Int)(x y:Int):List SV:=[.pv (.seq false 1 (ae lits)),.pv (ab x),.pv (ab y)]
theorem ud(h:List (List SV))(b ba bt:Nat)(W:Wt)(d:h[b]?=some (ce ba bt W)):ax Tryz.prog 154 [.ptr b 0] h (λr h'=>h'=h∧r=.pv (BL true)):=by
 refine gC [] [.tmp 2] aC Tryz.func154 ?_;obtain⟨c,a⟩:=SG.1 d;simp[a,c,ce]
def eO(T:Tr)(lits:List Int):List Int:=lits.filter λl=>decide (cz T l=1)||decide (cz T l=0)
def lY(T:Tr)(lits:List Int):Bool:=lits.any λl=>decide (cz T l=1)
theorem Cv(T:Tr)(lits:List Int){i:Nat}(h:i<lits.length):eO T (lits.take (i+1))=if cz T lits[i]=1∨cz T lits[i]=0 then eO T (lits.take i)++[lits[i]]else eO T (lits.take i):=by
 unfold eO;rw[T4,SH h,UG,Uv,TQ,W7]
 by_cases c:cz T lits[i]=1∨cz T lits[i]=0
 .rw[SN c,SN (by simpa using c)]
 .rw[SM c,SM (by simpa using c),Ui]
theorem Cw(T:Tr)(lits:List Int){i:Nat}(h:i<lits.length):lY T (lits.take (i+1))=(lY T (lits.take i)||decide (cz T lits[i]=1)):=by
 unfold lY;rw[T4,SH h,UG,List.any_append];simp
theorem wj(T:Tr)(lits:List Int):(eO T lits).length<=lits.length:=UM _ _
theorem Jn(h:List (List SV))(bw ba bt bp:Nat)(W:Wt)(T:Tr)(lits:List Int)(x y:Int)(I:h[bw]?=some (ce ba bt W))(ht:h[bt]?=some (gD T))(hp:h[bp]?=some (jD lits x y))(J:T.ok)(P:lits.length<=1000000):
 ax Tryz.prog 280 [.ptr bw 0,.ptr bp 0] h (λr h'=>h'=h∧r=.pv (.agg [BL (lY T lits),.seq true 1 (ae (eO T lits))])):=by
 refine fk [] [.cell 4 _] aC Tryz.func280 ?_;obtain⟨O,R⟩:=SG.1 I;obtain⟨N,Q⟩:=SG.1 hp;obtain⟨G,e⟩:∃G:SV->SV->List (List SV),∀u v,G u v=h++[[.pv (BL false),.pv (.lit (.slice none 0 0))],[u,v]]:=⟨_,λ_ _=>rfl⟩;have t:∀u v,(G u v)[bw]?=some (ce ba bt W):=λu v=>by rw[e,SO O,I]
 have q:∀u v,(G u v)[bp]?=some (jD lits x y):=λu v=>by rw[e,SO N,hp]
 have A:∀u v,(G u v)[bt]?=some (gD T):=λu v=>by rw[e,SO (SG.1 ht).1,ht]
 have g:∀u v,(G u v)[h.length+1]?=some [u,v]:=λu v=>by rw[e];simp
 have s:∀u v,bw<(G u v).length:=λu v=>(SG.1 (t u v)).1;have B:∀u v,(G u v)[bw]'(s u v)=ce ba bt W:=λu v=>(SG.1 (t u v)).2;have p:∀u v,bp<(G u v).length:=λu v=>(SG.1 (q u v)).1;have z:∀u v,(G u v)[bp]'(p u v)=jD lits x y:=λu v=>(SG.1 (q u v)).2;have a:∀u v,h.length+1<(G u v).length:=λu v=>(SG.1 (g u v)).1;have f:∀u v,(G u v)[h.length+1]'(a u v)=[u,v]:=λu v=>(SG.1 (g u v)).2;have E:∀u v n,aZ (G u v) (n+1) bt 0=bM T:=λu v n=>db (A u v) n;have j:∀u v C D,(G u v).set (h.length+1) [C,D]=G C D:=λu v C D=>by rw[e,e];simp
 have M:=λl=>fP T l J;simp;rw[←e];simp[s,B,ce,p,z,jD,E];obtain⟨H,c⟩:∃H:Nat->List (List SV),∀i,H i=G (.pv (BL (lY T (lits.take i)))) (.own true 1 (ae (eO T (lits.take i)))):=⟨_,λ_=>rfl⟩;have h1:∀i,h.length+1<(H i).length:=λi=>by rw[c];exact a _ _
 have F:∀i,(H i)[h.length+1]'(h1 i)=[.pv (BL (lY T (lits.take i))),.own true 1 (ae (eO T (lits.take i)))]:=λi=>by simp only[c];exact f _ _
 have hz:∀i n,aZ (H i) (n+1) bt 0=bM T:=λi n=>by rw[c];exact E _ _ n
 have hs:∀i u v,(H i).set (h.length+1) [u,v]=G u v:=λi u v=>by rw[c];exact j _ _ _ _
 refine aF.intro (S:=λ(i:Nat)=>⟨[(4,.pv (.ptr h.length 0)),(5,.pv (.ptr (h.length+1) 0)),(6,.pv (.fn (.func 103) [.ptr bt 0] [])),(17,.pv (.seq false 1 (ae lits))),(18,.pv (ab lits.length)),(19,.pv (ab i))],H i⟩) (λi=>i<=lits.length) (λi=>lits.length -i) 0 ?_ (Te _) ?_
 .refine(ai.nilCell (b:=h.length+1) (k:=1) (xs:=[.pv (BL false),.pv (.lit (.slice none 0 0))]) 1 true (by simp;exact g _ _) (by simp)).trans (ai.keep (by simp) ?_);simp[c,j,lY,eO,ae]
 intro i hi
 by_cases d:i<lits.length
 .have m:aY ((i:Int)+1)=((i+1:Nat):Int):=by rw[ao (by omega) (by omega)];omega
  have L:lits[i]?=some lits[i]:=SH d;have ho:=Cv T lits d;have w:=Cw T lits d;have K:(eO T (lits.take i)).length<=i:=TD (wj _ _) (by rw[SU];omega);simp[d,L,hz];refine am.introP (M lits[i]) ?_
  by_cases o:cz T lits[i]=1
  .rw[SN (.inl o)]at ho;rw[Uq o,Xe]at w;simp[o,h1,F,hs,a,f,j];refine⟨by omega,i+1,by(try dsimp only);omega,by(try dsimp only);omega,ai.keep (by simp[m]) ?_⟩;simp[c,j,ho,w,ae]
  .rw[UH o,WX]at w
   by_cases v0:cz T lits[i]=0
   .rw[SN (.inr v0)]at ho;simp[v0,h1,F,hs,a,f,j];refine⟨by omega,i+1,by(try dsimp only);omega,by(try dsimp only);omega,ai.keep (by simp[m]) ?_⟩;simp[c,j,ho,w,ae]
   .rw[SM (λh=>h.elim o v0)]at ho;simp[v0,o];refine⟨i+1,by(try dsimp only);omega,by(try dsimp only);omega,ai.keep (by simp[m]) ?_⟩;simp[c,j,ho,w,ae]
 .have:i=lits.length:=by omega
  subst this;simp only[c,e];simp[bO,bK,frzC]
def iE:List Int->List Int->Nat
 |x::a,y::b=>if x=y then iE a b+1 else 0
 |_,_=>0
def Jo(W:Wt)(now:List Int):Wt:=⟨W.prs,W.byl,W.late,if(iE W.seen now:Int)<W.head then(iE W.seen now:Int)else W.head,W.seen⟩
theorem Cx(h:List (List SV))(bw ba bt:Nat)(W:Wt)(now:List Int)(l:h[bw]?=some (ce ba bt W))(m:now.length<=1000000)(hs:W.seen.length<=1000000):
 ax Tryz.prog 155 [.ptr bw 0,.seq false 1 (ae now)] h (λr h'=>h'=h.set bw (ce ba bt (Jo W now))∧r=.pv (.tup [])):=by
 refine cI [] [] aC Tryz.func155 ?_;obtain⟨c,d⟩:=SG.1 l;have j:iE W.seen now=0+iE (W.seen.drop 0) (now.drop 0):=by simp
 unfold Jo;generalize iE W.seen now=P at*;simp;refine aF.intro (S:=λ(k:Nat)=>⟨[(0,.pv (.ptr bw 0)),(1,.pv (.seq false 1 (ae now))),(4,.pv (ab k))],h⟩) (λk=>k<=W.seen.length∧k<=now.length∧P=k+iE (W.seen.drop k) (now.drop k)) (λk=>W.seen.length -k) 0 ?_ ⟨Te _,Te _,j⟩ ?_
 .exact ai.keep (by simp) rfl
 rintro k ⟨n,o,hk⟩;have f:aY ((k:Int)+1)=((k+1:Nat):Int):=by rw[ao (by omega) (by omega)];omega
 by_cases a:k<W.seen.length
 .have g:W.seen[k]?=some W.seen[k]:=SH a
  by_cases b:k<now.length
  .have i:now[k]?=some now[k]:=SH b;rw[TJ a,TJ b,iE]at hk
   by_cases e:W.seen[k]=now[k]
   .rw[SN e]at hk;simp[c,d,ce,a,b,g,i,e];exact⟨k+1,by(try dsimp only);omega,⟨by(try dsimp only);omega,by(try dsimp only);omega,by(try dsimp only);omega⟩,ai.keep (by simp[f]) rfl⟩
   .rw[SM e]at hk;have:P=k:=by omega
    subst this;simp[c,d,ce,a,b,g,i,e]
  .have:P=k:=by rw[Tq (show now.length<=k by omega)]at hk;cases hd:W.seen.drop k<;>rw[hd]at hk<;>simpa[iE]using hk
   subst this;simp[c,d,ce,a,b,g]
 .have:P=k:=by rw[Tq (show W.seen.length<=k by omega)]at hk;simpa[iE]using hk
  subst this;simp[c,d,ce,a]
end Go.AX
namespace Go.AX
open Go.Proofs
set_option linter.unusedSimpArgs false
structure Pr where
  lits:List Int
  x:Int
  y:Int
structure WS where
  prs:List (Int×Pr)
  byl:List (Int×List Int)
  late:List (Int×Int)
  head:Int
  seen:List Int
def p6(p:Pr):List SV:=jD p.lits p.x p.y
def QQ(h:List (List SV))(e:By)(zs:List Int):Prop:=∃sp,h[e.b]?=some (aN zs++sp)∧(∀k,cD k sp)∧zs.length=e.n∧e.n<=e.cp∧e.cp<=e.n+sp.length
structure LayW (h:List (List SV)) (bw ba bt:Nat) (mp:List (Int×Nat)) (mb:List (Int×By)) (A:Ar) (T:Tr) (S:WS):Prop where
  w:h[bw]?=some (ce ba bt ⟨mp,mb,S.late,S.head,S.seen⟩)
  a:h[ba]?=some (ji A)
  t:h[bt]?=some (gD T)
  wa:bw≠ba
  wt:bw≠bt
  at':ba≠bt
  keys:mp.map (·.1)=S.prs.map (·.1)
  pr:∀k b,lk mp k=some b->∃p,lk S.prs k=some p∧h[b]?=some (p6 p)∧b≠bw∧b≠ba∧b≠bt
  pinj:∀k k' b,lk mp k=some b->lk mp k'=some b->k=k'
  by':∀l e,lk mb l=some e->∃zs,lk S.byl l=some zs∧QQ h e zs∧e.b≠bw∧e.b≠ba∧e.b≠bt
  byn:∀l,lk mb l=none->lk S.byl l=none
  binj:∀l l' e e',lk mb l=some e->lk mb l'=some e'->e.b=e'.b->l=l'
  pb:∀k b l e,lk mp k=some b->lk mb l=some e->b≠e.b
def aR(bw bt:Nat)(mp:List (Int×Nat))(mb:List (Int×By))(b:Nat):Prop:=b=bw∨b=bt∨(∃k,lk mp k=some b)∨∃l e,lk mb l=some e∧e.b=b
structure Ext (h h':List (List SV)) (D D':Nat->Prop):Prop where
  len:h.length<=h'.length
  same:∀b,b<h.length->¬D b->h'[b]?=h[b]?
  sub:∀b,b<h.length->D' b->D b
theorem Ext.refl(h:List (List SV))(D:Nat->Prop):Ext h h D D:=⟨SQ _,λ_ _ _=>rfl,λ_ _ h=>h⟩
theorem Ext.trans{h1 f g:List (List SV)}{c d e:Nat->Prop}(a:Ext h1 f c d)(b:Ext f g d e):Ext h1 g c e:=
 ⟨TD a.len b.len,λk hk hn=>by rw[b.same k (Uc hk a.len) λhd=>hn (a.sub k hk hd),a.same k hk hn],λk hk hd=>a.sub k hk (b.sub k (Uc hk a.len) hd)⟩
theorem Ext.app(h g:List (List SV))(D:Nat->Prop):Ext h (h++g) D D:=
 ⟨by simp,λb a _=>SO a,λ_ _ h=>h⟩
theorem Ext.set{h:List (List SV)}{D:Nat->Prop}(b:Nat)(x:List SV)(hd:D b):Ext h (h.set b x) D D:=
 ⟨by simp,λk hk hn=>Tc (λe:b=k=>hn (e▸hd)),λ_ _ h=>h⟩
theorem Ext.dom{h h':List (List SV)}{D D' c:Nat->Prop}(a:Ext h h' D D')(hs:∀b,b<h.length->c b->D b):Ext h h' D c:=⟨a.len,a.same,hs⟩
section
variable {h : List (List SV)} {bw ba bt : Nat} {mp : List (Int × Nat)} {mb : List (Int × By)} {A : Ar} {T : Tr} {S : WS}
theorem LayW.some_p(L:LayW h bw ba bt mp mb A T S){k:Int}{p:Pr}(hp:lk S.prs k=some p):∃b,lk mp k=some b∧h[b]?=some (p6 p)∧b≠bw∧b≠ba∧b≠bt:=by
 have:∀(a:List (Int×Nat))(c:List (Int×Pr)),a.map (·.1)=c.map (·.1)->(lk c k).isSome=true->(lk a k).isSome=true:=by
  intro a
  induction a with
  |nil=>intro c h1 d;cases c with|nil=>exact d|cons _ _=>simp at h1
  |cons u a f=>
   intro c h1 d;cases c with
   |nil=>simp at h1
   |cons w c=>
    simp only[Th,U9]at h1;rw[lk]at d⊢;rw[h1.1];split
    .rfl
    .rename_i hn;rw[SM hn]at d;exact f c h1.2 d
 obtain⟨b,e⟩:=VN.1 (this mp S.prs L.keys (by rw[hp];rfl));obtain⟨g,h1,d⟩:=L.pr k b e;rw[hp]at h1;cases h1
 exact⟨b,e,d⟩
theorem LayW.some_b(L:LayW h bw ba bt mp mb A T S){l:Int}{zs:List Int}(hz:lk S.byl l=some zs):∃e,lk mb l=some e∧QQ h e zs∧e.b≠bw∧e.b≠ba∧e.b≠bt:=by
 cases a:lk mb l with
 |none=>rw[L.byn l a]at hz;cases hz
 |some e=>
  obtain⟨d,h1,c⟩:=L.by' l e a
  rw[hz]at h1;cases h1
  exact⟨e,rfl,c⟩
theorem LayW.app(L:LayW h bw ba bt mp mb A T S)(g:List (List SV)):LayW (h++g) bw ba bt mp mb A T S:=by
  have up:∀{b:Nat}{x:List SV},h[b]?=some x->(h++g)[b]?=some x:=λhx=>by rw[SO (SG.1 hx).1,hx]
  exact { w := up L.w, a := up L.a, t := up L.t, wa := L.wa, wt := L.wt, at' := L.at', keys := L.keys, pinj := L.pinj, byn := L.byn, binj := L.binj, pb := L.pb
          pr:=λk b hb=>by obtain⟨p,h1,h2,h3⟩:=L.pr k b hb;exact⟨p,h1,up h2,h3⟩
          by':=λl e he=>by
            obtain⟨zs,h1,⟨sp,h2,h3⟩,h4⟩:=L.by' l e he
            exact⟨zs,h1,⟨sp,up h2,h3⟩,h4⟩}
theorem LayW.setW(L:LayW h bw ba bt mp mb A T S)(late:List (Int×Int))(head:Int)(seen:List Int):LayW (h.set bw (ce ba bt ⟨mp,mb,late,head,seen⟩)) bw ba bt mp mb A T ⟨S.prs,S.byl,late,head,seen⟩:=by
  have hl:=(SG.1 L.w).1
  have up:∀{b:Nat}{x:List SV},b≠bw->h[b]?=some x->(h.set bw (ce ba bt ⟨mp,mb,late,head,seen⟩))[b]?=some x:=λhn hx=>by rw[Tc (λe=>hn e.symm),hx]
  exact { w := Tu hl, a := up L.wa.symm L.a, t := up L.wt.symm L.t, wa := L.wa, wt := L.wt, at' := L.at', keys := L.keys, pinj := L.pinj, byn := L.byn, binj := L.binj, pb := L.pb
          pr:=λk b hb=>by obtain⟨p,h1,h2,h3⟩:=L.pr k b hb;exact⟨p,h1,up h3.1 h2,h3⟩
          by':=λl e he=>by
            obtain⟨zs,h1,⟨sp,h2,h3⟩,h4⟩:=L.by' l e he
            exact⟨zs,h1,⟨sp,up h4.1 h2,h3⟩,h4⟩}
theorem LayW.setT(L:LayW h bw ba bt mp mb A T S)(T':Tr):LayW (h.set bt (gD T')) bw ba bt mp mb A T' S:=by
  have hl:=(SG.1 L.t).1
  have up:∀{b:Nat}{x:List SV},b≠bt->h[b]?=some x->(h.set bt (gD T'))[b]?=some x:=λhn hx=>by rw[Tc (λe=>hn e.symm),hx]
  exact { w := up L.wt L.w, a := up L.at' L.a, t := Tu hl, wa := L.wa, wt := L.wt, at' := L.at', keys := L.keys, pinj := L.pinj, byn := L.byn, binj := L.binj, pb := L.pb
          pr:=λk b hb=>by obtain⟨p,h1,h2,h3⟩:=L.pr k b hb;exact⟨p,h1,up h3.2.2 h2,h3⟩
          by':=λl e he=>by
            obtain⟨zs,h1,⟨sp,h2,h3⟩,h4⟩:=L.by' l e he
            exact⟨zs,h1,⟨sp,up h4.2.2 h2,h3⟩,h4⟩}
theorem Ab{α β:Type}:∀(a:List (Int×α))(c:List (Int×β))(k:Int)(x:α)(y:β),a.map (·.1)=c.map (·.1)->(pt a k x).map (·.1)=(pt c k y).map (·.1)
 |[],[],_,_,_,_=>rfl
 |[],_::_,_,_,_,h=>by simp at h
 |_::_,[],_,_,_,h=>by simp at h
 |u::a,w::c,k,x,y,h=>by
  obtain⟨d,e⟩:=u;obtain⟨f,g⟩:=w;simp only[Th,U9]at h;obtain⟨h1,b⟩:=h;subst h1;rw[pt,pt];split
  .simp[b]
  .simp only[Th];rw[Ab a c k x y b]
theorem LayW.setP(L:LayW h bw ba bt mp mb A T S){k:Int}{b:Nat}(hb:lk mp k=some b)(p:Pr)(hkeep:mp.map (·.1)=(pt S.prs k p).map (·.1)):LayW (h.set b (p6 p)) bw ba bt mp mb A T ⟨pt S.prs k p,S.byl,S.late,S.head,S.seen⟩:=by
  obtain⟨p0,q1,q2,q3,q4,q5⟩:=L.pr k b hb
  have hl:=(SG.1 q2).1
  have up:∀{c:Nat}{x:List SV},c≠b->h[c]?=some x->(h.set b (p6 p))[c]?=some x:=λhn hx=>by rw[Tc (λe=>hn e.symm),hx]
  exact { w := up q3.symm L.w, a := up q4.symm L.a, t := up q5.symm L.t, wa := L.wa, wt := L.wt, at' := L.at', keys := hkeep, pinj := L.pinj, byn := L.byn, binj := L.binj, pb := L.pb
          pr:=λk' b' hb'=>by
            obtain⟨p1,h1,h2,h3⟩:=L.pr k' b' hb'
            show∃p_1,lk (pt S.prs k p) k'=some p_1∧_
            rw[bJ]
            by_cases e:k=k'
            · subst e
              rw[hb]at hb'
              cases hb'
              exact⟨p,SN rfl,Tu hl,h3⟩
            · exact⟨p1,by rw[SM e];exact h1,up (λe2=>e (L.pinj k k' b hb (e2▸hb'))) h2,h3⟩
          by':=λl e he=>by
            obtain⟨zs,h1,⟨sp,h2,h3⟩,h4⟩:=L.by' l e he
            exact⟨zs,h1,⟨sp,up (L.pb k b l e hb he).symm h2,h3⟩,h4⟩}
theorem LayW.setB(L:LayW h bw ba bt mp mb A T S){l:Int}{e:By}(he:lk mb l=some e)(zs:List Int)(sp:List SV)(hsp:∀k,cD k sp)(n:Nat)(hn:zs.length=n)(h1:n<=e.cp)(h2:e.cp<=n+sp.length):
    LayW ((h.set e.b (aN zs++sp)).set bw (ce ba bt ⟨mp,pt mb l ⟨e.b,n,e.cp⟩,S.late,S.head,S.seen⟩)) bw ba bt mp (pt mb l ⟨e.b,n,e.cp⟩) A T ⟨S.prs,pt S.byl l zs,S.late,S.head,S.seen⟩:=by
  obtain⟨z0,q1,⟨sp0,q2,_⟩,q3,q4,q5⟩:=L.by' l e he
  have hl:=(SG.1 q2).1
  have hwl:=(SG.1 L.w).1
  have up:∀{c:Nat}{x:List SV},c≠bw->c≠e.b->h[c]?=some x->((h.set e.b (aN zs++sp)).set bw (ce ba bt ⟨mp,pt mb l ⟨e.b,n,e.cp⟩,S.late,S.head,S.seen⟩))[c]?=some x:=λn1 n2 hx=>by
    rw[Tc (λe=>n1 e.symm),Tc (λe=>n2 e.symm),hx]
  have self:((h.set e.b (aN zs++sp)).set bw (ce ba bt ⟨mp,pt mb l ⟨e.b,n,e.cp⟩,S.late,S.head,S.seen⟩))[e.b]?=some (aN zs++sp):=by
    rw[Tc (λe=>q3 e.symm),Tu hl]
  exact { w := Tu (by simpa using hwl), a := up L.wa.symm q4.symm L.a, t := up L.wt.symm q5.symm L.t, wa := L.wa, wt := L.wt, at' := L.at', keys := L.keys, pinj := L.pinj
          pr:=λk b hb=>by obtain⟨p,a1,a2,a3⟩:=L.pr k b hb;exact⟨p,a1,up a3.1 (L.pb k b l e hb he) a2,a3⟩
          by':=λl' e' he'=>by
            rw[bJ]at he'
            show∃zs_1,lk (pt S.byl l zs) l'=some zs_1∧_
            rw[bJ]
            by_cases c:l=l'
            · rw[SN c]at he'
              cases he'
              exact⟨zs,SN c,⟨sp,self,hsp,hn,h1,h2⟩,q3,q4,q5⟩
            · rw[SM c]at he'
              obtain⟨z1,a1,⟨sp1,a2,a3⟩,a4⟩:=L.by' l' e' he'
              exact⟨z1,by rw[SM c];exact a1,⟨sp1,up a4.1 (λe2=>c (L.binj l' l e' e he' he e2).symm) a2,a3⟩,a4⟩
          byn:=λl' hn'=>by
            rw[bJ]at hn'
            show lk (pt S.byl l zs) l'=none
            rw[bJ]
            by_cases c:l=l'
            · rw[SN c]at hn';cases hn'
            · rw[SM c]at hn'⊢;exact L.byn l' hn'
          binj:=λl1 l2 e1 e2 h1' h2' hb=>by
            rw[bJ]at h1' h2'
            by_cases c1:l=l1
            · by_cases c2:l=l2
              · exact c1.symm.trans c2
              · rw[SN c1]at h1';rw[SM c2]at h2';cases h1'
                exact absurd (L.binj l l2 e e2 he h2' hb) c2
            · rw[SM c1]at h1'
              by_cases c2:l=l2
              · rw[SN c2]at h2';cases h2'
                exact absurd (L.binj l1 l e1 e h1' he hb).symm c1
              · rw[SM c2]at h2'
                exact L.binj l1 l2 e1 e2 h1' h2' hb
          pb:=λk b l' e' hb he'=>by
            rw[bJ]at he'
            by_cases c:l=l'
            · rw[SN c]at he';cases he';exact L.pb k b l e hb he
            · rw[SM c]at he';exact L.pb k b l' e' hb he'}
theorem LayW.newB(L:LayW h bw ba bt mp mb A T S)(l:Int)(zs:List Int)(sp:List SV)(hsp:∀k,cD k sp)(n cp:Nat)(hn:zs.length=n)(h1:n<=cp)(h2:cp<=n+sp.length):
    LayW ((h++[aN zs++sp]).set bw (ce ba bt ⟨mp,pt mb l ⟨h.length,n,cp⟩,S.late,S.head,S.seen⟩)) bw ba bt mp (pt mb l ⟨h.length,n,cp⟩) A T ⟨S.prs,pt S.byl l zs,S.late,S.head,S.seen⟩:=by
  have hwl:=(SG.1 L.w).1
  have lt:∀{b:Nat}{x:List SV},h[b]?=some x->b<h.length:=λhx=>(SG.1 hx).1
  have up:∀{c:Nat}{x:List SV},c≠bw->h[c]?=some x->((h++[aN zs++sp]).set bw (ce ba bt ⟨mp,pt mb l ⟨h.length,n,cp⟩,S.late,S.head,S.seen⟩))[c]?=some x:=λn1 hx=>by
    rw[Tc (λe=>n1 e.symm),SO (lt hx),hx]
  have self:((h++[aN zs++sp]).set bw (ce ba bt ⟨mp,pt mb l ⟨h.length,n,cp⟩,S.late,S.head,S.seen⟩))[h.length]?=some (aN zs++sp):=by
    rw[Tc (by omega)];simp
  exact { w := Tu (by simp; omega), a := up L.wa.symm L.a, t := up L.wt.symm L.t, wa := L.wa, wt := L.wt, at' := L.at', keys := L.keys, pinj := L.pinj
          pr:=λk b hb=>by obtain⟨p,a1,a2,a3⟩:=L.pr k b hb;exact⟨p,a1,up a3.1 a2,a3⟩
          by':=λl' e' he'=>by
            rw[bJ]at he'
            show∃zs_1,lk (pt S.byl l zs) l'=some zs_1∧_
            rw[bJ]
            by_cases c:l=l'
            · rw[SN c]at he'
              cases he'
              exact⟨zs,SN c,⟨sp,self,hsp,hn,h1,h2⟩,VW hwl,VW (lt L.a),VW (lt L.t)⟩
            · rw[SM c]at he'
              obtain⟨z1,a1,⟨sp1,a2,a3⟩,a4⟩:=L.by' l' e' he'
              exact⟨z1,by rw[SM c];exact a1,⟨sp1,up a4.1 a2,a3⟩,a4⟩
          byn:=λl' hn'=>by
            rw[bJ]at hn'
            show lk (pt S.byl l zs) l'=none
            rw[bJ]
            by_cases c:l=l'
            · rw[SN c]at hn';cases hn'
            · rw[SM c]at hn'⊢;exact L.byn l' hn'
          binj:=λl1 l2 e1 e2 h1' h2' hb=>by
            have old:∀l' e',lk mb l'=some e'->e'.b<h.length:=λl' e' he'=>by obtain⟨_,_,⟨_,a2,_⟩,_⟩:=L.by' l' e' he';exact lt a2
            rw[bJ]at h1' h2'
            by_cases c1:l=l1
            · by_cases c2:l=l2
              · exact c1.symm.trans c2
              · rw[SN c1]at h1';rw[SM c2]at h2';cases h1'
                have:=old l2 e2 h2'
                simp only at hb
                omega
            · rw[SM c1]at h1'
              by_cases c2:l=l2
              · rw[SN c2]at h2';cases h2'
                have:=old l1 e1 h1'
                simp only at hb
                omega
              · rw[SM c2]at h2'
                exact L.binj l1 l2 e1 e2 h1' h2' hb
          pb:=λk b l' e' hb he'=>by
            rw[bJ]at he'
            by_cases c:l=l'
            · rw[SN c]at he';cases he'
              obtain⟨_,_,a2,_⟩:=L.pr k b hb
              exact Xb (lt a2)
            · rw[SM c]at he';exact L.pb k b l' e' hb he'}
end
@[simp] theorem QR(l:List (Int×Nat))(k:Int):df (aG uT l) k=(lk l k).map uT:=fL uT l k
@[simp] theorem RU(l:List (Int×Nat))(k:Int)(b:Nat):gr (aG uT l) k (.ptr b 0)=aG uT (pt l k b):=gA uT l k b
@[simp] theorem QS(l:List (Int×By))(k:Int):df (aG GG l) k=(lk l k).map GG:=fL GG l k
@[simp] theorem RV(l:List (Int×By))(k:Int)(b n cp:Nat):gr (aG GG l) k (.bsl b 1 0 n cp)=aG GG (pt l k ⟨b,n,cp⟩):=gA GG l k ⟨b,n,cp⟩
theorem Mm(x v:Int):ak Tryz.prog 256 [ab x,.iptr 1 [[ab v]] 0 0] (λr=>r=.pv (BL (decide (x=v)))):=by
 refine ap aC Tryz.func256 ?_;simp
def eq(byl:List (Int×List Int))(k l:Int):List (Int×List Int):=if l=0 then byl else pt byl l (bk (λx=>decide (x=k)) ((lk byl l).getD []))
def fq(S:WS)(k:Int)(p:Pr):WS:=⟨pt S.prs k ⟨p.lits,0,0⟩,eq (eq S.byl k p.x) k p.y,S.late,S.head,S.seen⟩
def Jp:Sch:=
 let b:Sch:=.fork [(8,.done)]
 let a:Sch:=.fork [(5,.take 6 (.take 7 b))]
 let c:Sch:=.fork [(4,a)]
 let d:Sch:=.fork [(3,a)]
 let e:Sch:=.fork [(3,c),(4,d)]
 .take 0 (.take 1 (.take 2 (.take 9 e)))
def Jq:Sch:=
 let g:Sch:=.fork [(13,.done)]
 let b:Sch:=.fork [(12,g)]
 let h:Sch:=.fork [(11,b)]
 let f:Sch:=.fork [(10,b)]
 let i:Sch:=.fork [(10,h),(11,f)]
 let j:Sch:=.fork [(8,f)]
 let l:Sch:=.fork [(8,i),(11,j)]
 let m:Sch:=.fork [(3,g)]
 let k:Sch:=.fork [(3,b),(12,m)]
 let n:Sch:=.fork [(3,h),(11,k)]
 let a:Sch:=.fork [(3,f),(10,k)]
 let c:Sch:=.fork [(3,i),(10,n),(11,a)]
 let d:Sch:=.fork [(3,j),(8,a)]
 let e:Sch:=.fork [(3,l),(8,c),(11,d)]
 .take 0 (.take 1 (.take 2 (.take 4 (.take 5 (.take 6 (.take 7 (.take 9 e)))))))
def Jr:Sch:=
 let b:Sch:=.fork [(9,.done)]
 let f:Sch:=.fork [(6,.take 7 (.take 8 b))]
 let a:Sch:=.fork [(5,.take 7 (.take 8 b))]
 let c:Sch:=.fork [(5,f),(6,a)]
 let d:Sch:=.fork [(4,a)]
 let g:Sch:=.fork [(4,c),(6,d)]
 let e:Sch:=.fork [(3,a)]
 let h:Sch:=.fork [(3,c),(6,e)]
 let i:Sch:=.fork [(3,d),(4,e)]
 let j:Sch:=.fork [(3,g),(4,h),(6,i)]
 .take 0 (.take 1 (.take 2 j))
def Cy(S:WS)(k:Int)(p:Pr):Nat->List (Int×List Int)
 |0=>S.byl
 |1=>eq S.byl k p.x
 |_=>eq (eq S.byl k p.x) k p.y
set_option maxRecDepth 16000 in
theorem ue(h:List (List SV))(bw ba bt:Nat)(mp:List (Int×Nat))(mb:List (Int×By))(A:Ar)(T:Tr)(S:WS)(L:LayW h bw ba bt mp mb A T S)(k:Int)(p:Pr)(hp:lk S.prs k=some p)
 (hx:p.x≠0->∃zs,lk S.byl p.x=some zs∧zs≠[]) (hy:p.y≠0->∃zs,lk (eq S.byl k p.x) p.y=some zs∧zs≠[]) (hz:∀l zs,lk S.byl l=some zs->zs.length<=1000000):
 ax Tryz.prog 195 [.ptr bw 0,ab k] h (λr h'=>r=.pv (.tup [])∧∃mb',LayW h' bw ba bt mp mb' A T (fq S k p)∧Ext h h' (aR bw bt mp mb) (aR bw bt mp mb')):=by
 refine cI [1,5,7] [] aC Tryz.func195 ?_;obtain⟨b,E,q1,q2,q3,q4⟩:=L.some_p hp;obtain⟨G,D⟩:∃G,G=h++[[SV.pv (ab k)]]:=⟨_,rfl⟩;have L0:LayW G bw ba bt mp mb A T S:=by rw[D];exact L.app _
 have I:G[h.length]?=some [.pv (ab k)]:=by rw[D];simp
 have aa:G[b]?=some (p6 p):=by rw[D,SO (SG.1 q1).1,q1]
 obtain⟨w1,w2⟩:=SG.1 L0.w;obtain⟨k1,k2⟩:=SG.1 I;obtain⟨b1,b2⟩:=SG.1 aa;simp;rw[←D];have af:h.length≠bw:=VW (SG.1 L.w).1;have old:∀l e,lk mb l=some e->e.b<h.length:=λl e v=>by obtain⟨_,_,⟨_,a2,_⟩,_⟩:=L.by' l e v;exact(SG.1 a2).1
 refine bc.meet Jp ⟨[(0,.pv (.ptr bw 0)),(3,.pv (.ptr h.length 0)),(14,.pv (.agg [ab p.x,ab p.y])),(15,.pv (ab 0))],G⟩ (by kernel_rfl) ?_ ?_
 .simp[Jp,w1,w2,ce,k1,k2,b1,b2,p6,jD,E,uT];and_intros
  all_goals exact ai.keep (by simp) rfl
 simp;refine aF.intro (S:=λ(x:Nat×List (List SV)×List (Int×By))=>⟨[(0,.pv (.ptr bw 0)),(3,.pv (.ptr h.length 0)),(14,.pv (.agg [ab p.x,ab p.y])),(15,.pv (ab x.1))],x.2.1⟩)
  (λx=>x.1<=2∧LayW x.2.1 bw ba bt mp x.2.2 A T ⟨S.prs,Cy S k p x.1,S.late,S.head,S.seen⟩∧x.2.1[h.length]?=some [.pv (ab k)]∧Ext G x.2.1 (aR bw bt mp mb) (aR bw bt mp x.2.2)∧(∀l e,lk x.2.2 l=some e->e.b<h.length)∧∀l zs,lk (Cy S k p x.1) l=some zs->zs.length<=1000000)
  (λx=>2 -x.1) (0,G,mb) ?_ ⟨Te _,L0,I,Ext.refl _ _,old,hz⟩ ?_
 .exact ai.keep (by simp) rfl
 rintro⟨i,H,mb'⟩ ⟨hi,s,j,P,f,o⟩;dsimp only at hi s j P f o;obtain⟨v1,v2⟩:=SG.1 s.w;obtain⟨j1,j2⟩:=SG.1 j
 by_cases d:i<2
 .obtain⟨l,B⟩:∃l,l=if i=0 then p.x else p.y:=⟨_,rfl⟩;have F:[ab p.x,ab p.y][i]?=some (ab l):=by
   have:i=0∨i=1:=by omega
   rcases this with rfl|rfl
   .rw[B];rfl
   .rw[B];rfl
  have g:∀hh:i<[ab p.x,ab p.y].length,[ab p.x,ab p.y][i]'hh=ab l:=λhh=>by
   have:=SG.1 F;exact this.2
  have d':(i:Int)<2:=by omega
  have M:aY ((i:Int)+1)=((i+1:Nat):Int):=by rw[ao (by omega) (by omega)];omega
  have a:Cy S k p (i+1)=eq (Cy S k p i) k l:=by
   have:i=0∨i=1:=by omega
   rcases this with rfl|rfl
   .rw[B];rfl
   .rw[B];rfl
  by_cases l0:l=0
  .simp[d,d',g,l0];rw[l0]at a;refine⟨(i+1,H,mb'),by(try dsimp only);omega,⟨by(try dsimp only);omega,?_,j,P,f,?_⟩,ai.keep (by simp[M]) rfl⟩
   .dsimp only;rw[a];exact s
   .dsimp only;rw[a];exact o
  .have ae:∃zs,lk (Cy S k p i) l=some zs∧zs≠[]:=by
    have:i=0∨i=1:=by omega
    rcases this with rfl|rfl
    .have e:l=p.x:=B;rw[e]at l0⊢;exact hx l0
    .have e:l=p.y:=B;rw[e]at l0⊢;exact hy l0
   obtain⟨zs,n,O⟩:=ae;obtain⟨e,v,⟨sp,e1,e2,e3,e4,e5⟩,e6,e7,e8⟩:=s.some_b n;have N:zs.length<=1000000:=o l zs n;have J:0<zs.length:=Up.2 O;have C:(bk (λx=>decide (x=k)) zs).length<=zs.length:=jW _ _;have V:=iZ zs N 256 [.iptr 1 [[ab k]] 0 0] (λx=>decide (x=k)) (λr=>by simp) rfl (λm=>by simp) (by simp) (λx _=>Mm x k);have ah:e.b<H.length:=(SG.1 e1).1;have t:h.length≠e.b:=VW (f l e v);obtain⟨Z,hZ⟩:∃Z,Z=bk (λx=>decide (x=k)) zs:=⟨_,rfl⟩;rw[←hZ]at C;unfold Lk at V;rw[←hZ]at V;obtain⟨X,hX⟩:∃X:List SV,X=(Z++List.replicate (zs.length -Z.length) 0).map (λz=>SV.pv (.lit (.int .i64 z)))++sp:=⟨_,rfl⟩;have K:Cy S k p (i+1)=pt (Cy S k p i) l Z:=by
    rw[a];unfold eq;rw[SM l0,n,Tx,hZ]
   have Y:X=aN Z++((List.replicate (zs.length -Z.length) 0).map (λz=>SV.pv (.lit (.int .i64 z)))++sp):=by
    rw[hX,TA,Tn];rfl
   have LN:=s.setB v Z ((List.replicate (zs.length -Z.length) 0).map (λz=>SV.pv (.lit (.int .i64 z)))++sp) (λm=>qR m (e2 m) _) Z.length rfl (by omega) (by simp;omega);rw[←Y]at LN;simp[d,d',g,l0];refine bc.meet Jq ⟨[(0,.pv (.ptr bw 0)),(3,.pv (.ptr h.length 0)),(14,.pv (.agg [ab p.x,ab p.y])),(15,.pv (ab i))],(H.set e.b X).set bw (ce ba bt ⟨mp,pt mb' l ⟨e.b,Z.length,e.cp⟩,S.late,S.head,S.seen⟩)⟩ (by kernel_rfl) ?_ ?_
   .simp[Jq,v1,v2,ce,j1,j2,v,GG];and_intros
    all_goals
     refine am.introX (bU.introT (b:=e.b) (b2:=h.length) (zs:=zs) (sp:=sp) (cp:=e.cp) V (by simp) (by simp) rfl (by simp) (by simp[e3]) (by simp) (by simp) e1 j t J N ?_);rintro _ _ ⟨rfl,rfl⟩;refine⟨_,_,rfl,rfl,by simp;omega,C,?_⟩;rw[←hX];simp[v1,v2,ce,e6,e6.symm,aL];exact ai.keep (by simp) rfl
   .simp;refine⟨(i+1,_,pt mb' l ⟨e.b,Z.length,e.cp⟩),by(try dsimp only);omega,⟨by(try dsimp only);omega,?_,?_,?_,?_,?_⟩,ai.keep (by simp[M]) rfl⟩
    .dsimp only;rw[K];exact LN
    .dsimp only;rw[Tc (λq=>af q.symm),Tc (λq=>t q.symm)];exact j
    .dsimp only;refine P.trans (((Ext.set e.b X (.inr (.inr (.inr ⟨l,e,v,rfl⟩)))).trans (Ext.set bw _ (.inl rfl))).dom ?_);rintro c _ (q|q|q|⟨l',e',q,rfl⟩)
     .exact .inl q
     .exact .inr (.inl q)
     .exact .inr (.inr (.inl q))
     .rw[bJ]at q;split at q
      .cases q;exact .inr (.inr (.inr ⟨l,e,v,rfl⟩))
      .exact .inr (.inr (.inr ⟨l',e',q,rfl⟩))
    .intro l' e' q;dsimp only at q;rw[bJ]at q;split at q
     .cases q;exact f l e v
     .exact f l' e' q
    .intro l' ag q;dsimp only at q;rw[K,bJ]at q;split at q
     .cases q;omega
     .exact o l' ag q
 .have:i=2:=by omega
  subst this;obtain⟨R,r1,r2,r3,r4,r5⟩:=s.pr k b E;have ad:R=p:=by rw[hp]at r1;cases r1;rfl
  subst ad; obtain ⟨c1, c2⟩ := SG.1 r2; have LF := s.setP E ⟨R.lits, 0, 0⟩ (by
   have:∀(l:List (Int×Pr))(q:Pr),lk l k=some q->(pt l k ⟨R.lits,0,0⟩).map (·.1)=l.map (·.1):=by
    intro l q Q
    induction l with
    |nil=>cases Q
    |cons u l ih=>
     obtain⟨u1,u2⟩:=u;rw[pt];rw[lk]at Q;split
     .rename_i U;simp only[Th,U]
     .rename_i U;rw[SM U]at Q;simp only[Th];rw[ih Q]
   exact s.keys.trans (this _ _ hp).symm)
  have W:Ext h (H.set b (p6 ⟨R.lits,0,0⟩)) (aR bw bt mp mb) (aR bw bt mp mb'):=by
   have a1:Ext h G (aR bw bt mp mb) (aR bw bt mp mb):=by rw[D];exact Ext.app _ _ _
   exact(a1.trans P).trans (Ext.set b _ (.inr (.inr (.inl ⟨k,E⟩))))
  simp;refine bc.one Jr (by kernel_rfl) ?_;simp[Jr,v1,v2,ce,j1,j2,c1,c2,p6,jD,E,uT];exact⟨mb',LF,W⟩
def Js:Sch:=
 let e:Sch:=.fork [(12,.done)]
 let a:Sch:=.fork [(9,.take 10 (.take 11 e))]
 let b:Sch:=.fork [(8,a)]
 let f:Sch:=.fork [(6,.take 7 b)]
 let c:Sch:=.fork [(4,a)]
 let d:Sch:=.fork [(4,b),(8,c)]
 let g:Sch:=.fork [(4,f),(6,.take 7 d)]
 let h:Sch:=.fork [(2,.take 3 c)]
 let i:Sch:=.fork [(2,.take 3 d),(8,h)]
 let j:Sch:=.fork [(2,.take 3 g),(6,.take 7 i)]
 .take 0 (.take 1 (.take 5 j))
def xT:Sch:=
 let g:Sch:=.fork [(14,.done)]
 let b:Sch:=.fork [(13,g)]
 let h:Sch:=.fork [(12,b)]
 let f:Sch:=.fork [(10,b)]
 let i:Sch:=.fork [(10,h),(12,f)]
 let j:Sch:=.fork [(8,f)]
 let l:Sch:=.fork [(8,i),(12,j)]
 let m:Sch:=.fork [(3,g)]
 let k:Sch:=.fork [(3,b),(13,m)]
 let n:Sch:=.fork [(3,h),(12,k)]
 let a:Sch:=.fork [(3,f),(10,k)]
 let c:Sch:=.fork [(3,i),(10,n),(12,a)]
 let d:Sch:=.fork [(3,j),(8,a)]
 let e:Sch:=.fork [(3,l),(8,c),(12,d)]
 .take 0 (.take 1 (.take 2 (.take 4 (.take 5 (.take 6 (.take 7 (.take 9 (.take 11 e))))))))
def D8:Sch:=
 let a:Sch:=.fork [(9,.done)]
 let b:Sch:=.fork [(7,a)]
 let c:Sch:=.fork [(5,.take 6 b)]
 let d:Sch:=.fork [(3,a)]
 let e:Sch:=.fork [(3,b),(7,d)]
 let f:Sch:=.fork [(3,c),(5,.take 6 e)]
 .take 0 (.take 1 (.take 2 (.take 4 (.take 8 f))))
def gL(byl:List (Int×List Int))(k l:Int):List (Int×List Int):=pt byl l ((lk byl l).getD []++[k])
def jN(S:WS)(T:Tr)(k:Int)(p:Pr):WS:=
 if 2<=(eO T p.lits).length then⟨pt S.prs k ⟨p.lits,(eO T p.lits).getD 0 0,(eO T p.lits).getD 1 0⟩,gL (gL S.byl k ((eO T p.lits).getD 0 0)) k ((eO T p.lits).getD 1 0),dl S.late k,S.head,S.seen⟩else S
def mf(T:Tr)(k:Int)(p:Pr):Tr:=
 if(eO T p.lits).length=1∧lY T p.lits=false then lu T ((eO T p.lits).getD 0 0) k else T
def mQ(T:Tr)(p:Pr):Bool:=decide ((eO T p.lits).length=0)
@[simp] theorem N8:∀(l:List (Int×Int))(k:Int),iz k (aG fI l)=aG fI (dl l k)
 |[],k=>rfl
 |(j,x)::l,k=>by
  show(if j=k then aG fI l else(j,fI x)::iz k (aG fI l))=aG fI (if j=k then l else(j,x)::dl l k);rw[N8 l k];split<;>rfl
theorem eP{α:Type}{k:Int}(y:α):∀{l:List (Int×α)}{q:α},lk l k=some q->(pt l k y).map (·.1)=l.map (·.1)
 |[],_,h=>by cases h
 |(b,c)::l,q,h=>by
  rw[pt];rw[lk]at h;split
  .rename_i a;simp only[Th,a]
  .rename_i a;rw[SM a]at h;simp only[Th];rw[eP y h]
theorem ic(k:Nat):∀n:Nat,cD k (List.replicate n (SV.pv .bot))
 |0=>trivial
 |n+1=>⟨trivial,ic k n⟩
def qS(byl:List (Int×List Int))(k x y:Int):Nat->List (Int×List Int)
 |0=>byl
 |1=>gL byl k x
 |_=>gL (gL byl k x) k y
set_option maxRecDepth 16000 in
theorem wl(h:List (List SV))(bw ba bt:Nat)(mp:List (Int×Nat))(mb:List (Int×By))(A:Ar)(T:Tr)(S:WS)(L:LayW h bw ba bt mp mb A T S)(k:Int)(p:Pr)(hp:lk S.prs k=some p)(hT:T.ok)(ag:T.lits.length<=1000000)(M:p.lits.length<=1000000)
 (hz:∀l zs,lk S.byl l=some zs->zs.length<=1000000):
 ax Tryz.prog 233 [.ptr bw 0,ab k] h (λr h'=>r=.pv (BL (mQ T p))∧∃mb',LayW h' bw ba bt mp mb' A (mf T k p) (jN S T k p)∧Ext h h' (aR bw bt mp mb) (aR bw bt mp mb')):=by
 refine cI [6,10,14] [.tmp 4] aC Tryz.func233 ?_;obtain⟨b,hb,q1,q2,q3,q4⟩:=L.some_p hp;have af:=Jn h bw ba bt b ⟨mp,mb,S.late,S.head,S.seen⟩ T p.lits p.x p.y L.w L.t q1 hT M;obtain⟨w1,w2⟩:=SG.1 L.w;obtain⟨b1,b2⟩:=SG.1 q1;have az:=wj T p.lits;unfold jN mf mQ;generalize eO T p.lits=O at*;generalize lY T p.lits=Hd at*;simp[w1,w2,ce,hb,uT];refine am.intro af ?_;rintro _ h2 ⟨e,rfl⟩;rw[e];clear e h2;obtain⟨G,E⟩:∃G,G=h++[[SV.pv (BL Hd),SV.pv (PV.seq true 1 (ae O))]]:=⟨_,rfl⟩;have L0:LayW G bw ba bt mp mb A T S:=by rw[E];exact L.app _
 have E0:Ext h G (aR bw bt mp mb) (aR bw bt mp mb):=by rw[E];exact Ext.app _ _ _
 have aq:G[h.length]?=some [SV.pv (BL Hd),SV.pv (PV.seq true 1 (ae O))]:=by rw[E];simp
 have ak:G[b]?=some (p6 p):=by rw[E,SO b1,q1]
 obtain⟨g1,g2⟩:=SG.1 L0.w;obtain⟨f1,f2⟩:=SG.1 aq;obtain⟨c1,c2⟩:=SG.1 ak;have ay:b≠h.length:=Xb b1;have aA:bw≠h.length:=Xb w1;rcases O with _|⟨f,_|⟨g,O'⟩⟩
 .simp;rw[←E];exact⟨mb,L0,E0⟩
 .simp;rw[←E];cases Hd
  .simp;have kI:=vH G bt T L0.t f k hT ag;refine bc.one D8 (by kernel_rfl) ?_;simp[D8,g1,g2,ce,f1,f2];and_intros
   all_goals
    refine am.intro kI ?_;rintro _ _ ⟨rfl,rfl⟩;simp;exact⟨mb,L0.setT _,E0.trans (Ext.set bt _ (.inr (.inl rfl)))⟩
  .simp;exact⟨mb,L0,E0⟩
 .have X:¬((O'.length:Int)+1+1=0):=by omega
  have J:(2:Int)<=(O'.length:Int)+1+1:=by omega
  have K:¬(O'.length+1+1=1):=by omega
  simp[X,J,K];rw[←E];have L1:=L0.setP hb ⟨p.lits,f,g⟩ (L0.keys.trans (eP _ hp).symm);have E1:Ext h (G.set b (p6 ⟨p.lits,f,g⟩)) (aR bw bt mp mb) (aR bw bt mp mb):=E0.trans (Ext.set b _ (.inr (.inr (.inl ⟨k,hb⟩))));have V:b<(G.set b (p6 ⟨p.lits,f,g⟩)).length:=by simpa using c1
  have aj:(G.set b (p6 ⟨p.lits,f,g⟩))[b]'V=jD p.lits f g:=by simp[p6]
  refine bc.meet Js ⟨[(0,.pv (.ptr bw 0)),(1,.pv (ab k)),(5,.pv (.ptr b 0)),(6,.pv (.ptr h.length 0))],G.set b (p6 ⟨p.lits,f,g⟩)⟩ (by kernel_rfl) ?_ ?_
  .simp[Js,f1,f2,c1,c2,p6,jD];and_intros
   all_goals first|omega|exact ai.keep (by simp) rfl
  generalize G.set b (p6 ⟨p.lits,f,g⟩)=G1 at*;simp[V,aj,jD];refine aF.intro (S:=λ(x:Nat×List (List SV)×List (Int×By))=>⟨[(0,.pv (.ptr bw 0)),(1,.pv (ab k)),(43,.pv (.agg [ab f,ab g])),(44,.pv (ab x.1))],x.2.1⟩)
   (λx=>x.1<=2∧LayW x.2.1 bw ba bt mp x.2.2 A T ⟨pt S.prs k ⟨p.lits,f,g⟩,qS S.byl k f g x.1,S.late,S.head,S.seen⟩∧Ext G1 x.2.1 (aR bw bt mp mb) (aR bw bt mp x.2.2)∧∀l zs,lk (qS S.byl k f g x.1) l=some zs->zs.length<=1000000+x.1)
   (λx=>2 -x.1) (0,G1,mb) ?_ ⟨Te _,L1,Ext.refl _ _,hz⟩ ?_
  .exact ai.keep (by simp) rfl
  rintro⟨i,H,mb'⟩ ⟨hi,v,hE,D⟩;dsimp only at hi v hE D;obtain⟨N,v2⟩:=SG.1 v.w
  by_cases d:i<2
  .obtain⟨l,M⟩:∃l,l=if i=0 then f else g:=⟨_,rfl⟩;have W:[ab f,ab g][i]?=some (ab l):=by
    have:i=0∨i=1:=by omega
    rcases this with rfl|rfl
    .rw[M];rfl
    .rw[M];rfl
   have F:∀hh:i<[ab f,ab g].length,[ab f,ab g][i]'hh=ab l:=λhh=>(SG.1 W).2;have d':(i:Int)<2:=by omega
   have ar:aY ((i:Int)+1)=((i+1:Nat):Int):=by rw[ao (by omega) (by omega)];omega
   have o:qS S.byl k f g (i+1)=gL (qS S.byl k f g i) k l:=by
    have:i=0∨i=1:=by omega
    rcases this with rfl|rfl
    .rw[M];rfl
    .rw[M];rfl
   simp[d,d',F];refine bc.blk [60] xT (λx:List (List SV)×List (Int×By)=>⟨[(0,.pv (.ptr bw 0)),(1,.pv (ab k)),(43,.pv (.agg [ab f,ab g])),(44,.pv (ab i))],x.1⟩)
    (λx=>LayW x.1 bw ba bt mp x.2 A T ⟨pt S.prs k ⟨p.lits,f,g⟩,qS S.byl k f g (i+1),S.late,S.head,S.seen⟩∧Ext H x.1 (aR bw bt mp mb') (aR bw bt mp x.2)) (by kernel_rfl) ?_ ?_
   .have hA:∀x,(H++[x])[bw]?=some (ce ba bt ⟨mp,mb',S.late,S.head,S.seen⟩):=λx=>by rw[SO N];exact v.w
    have dom:∀e',(∀c,c<H.length->e'.b=c->∃l0 e0,lk mb' l0=some e0∧e0.b=c)->∀c,c<H.length->aR bw bt mp (pt mb' l e') c->aR bw bt mp mb' c:=λe' an c s q=>by
     rcases q with q|q|q|⟨l',e2,q,q2⟩
     .exact .inl q
     .exact .inr (.inl q)
     .exact .inr (.inr (.inl q))
     .rw[bJ]at q;split at q
      .cases q;exact .inr (.inr (.inr (an c s q2)))
      .exact .inr (.inr (.inr ⟨l',e2,q,q2⟩))
    cases j:lk mb' l with
    |none=>
     have ah:=v.byn l j;have C:qS S.byl k f g (i+1)=pt (qS S.byl k f g i) l [k]:=by
      rw[o];unfold gL;rw[ah];rfl
     have LN:∀cap,1<=cap->LayW (H.set bw (ce ba bt ⟨mp,pt mb' l ⟨H.length,1,cap⟩,S.late,S.head,S.seen⟩)++[SV.pv (ab k)::List.replicate (cap -1) (SV.pv .bot)]) bw ba bt mp (pt mb' l ⟨H.length,1,cap⟩) A T ⟨pt S.prs k ⟨p.lits,f,g⟩,qS S.byl k f g (i+1),S.late,S.head,S.seen⟩:=λcap s=>by
      have:=v.newB l [k] (List.replicate (cap -1) (SV.pv .bot)) (λm=>ic m _) 1 cap rfl s (by simp;omega);rw[C];rw[Vo _ _ N]at this;exact this
     have EN:∀cap x y,Ext H (H.set bw x++[y]) (aR bw bt mp mb') (aR bw bt mp (pt mb' l ⟨H.length,1,cap⟩)):=λcap x y=>by
      refine(((Ext.set bw x (.inl rfl)).trans (Ext.app _ [y] _)).dom (dom _ λc s e=>?_));simp only at e;omega
     simp[xT,N,v2,ce,j,hA];and_intros
     all_goals
      intro cap s;exact⟨_,⟨pt mb' l ⟨H.length,1,cap⟩,LN cap s,EN cap _ _⟩,ai.keep (by simp) rfl⟩
    |some e=>
     obtain⟨zs,aa,⟨sp,e1,e2,e3,e4,e5⟩,e6,e7,e8⟩:=v.by' l e j
     obtain⟨u1,u2⟩:=SG.1 e1;have ad:¬bw=e.b:=λq=>e6 q.symm;have C:qS S.byl k f g (i+1)=pt (qS S.byl k f g i) l (zs++[k]):=by
      rw[o];unfold gL;rw[aa];rfl
     have I:(aN zs).length=e.n:=by rw[oW];exact e3
     have aB:e.n<=1000000+i:=by rw[←e3];exact D l zs aa
     have P:∀m (s0:List SV),cD m s0->cD m (s0.drop 1):=λm s0 Z=>by cases s0 with|nil=>exact Z|cons _ _=>exact Z.2
     have aw:(aN zs++sp).length=e.n+sp.length:=by rw[SX,I]
     have B:(aN zs++sp).take e.n=aN zs:=UR I;have U:(aN zs++sp).take e.n=(zs.map λz=>PV.lit (.int .i64 z)).map SV.pv:=by rw[B];unfold aN;rw[TT];rfl
     have u:∀R:List SV,aN (zs++[k])++R=aN zs++SV.pv (ab k)::R:=λR=>by unfold aN;rw[TA,Tn];rfl
     have Q:(aN zs++sp).drop (e.n+1)=sp.drop 1:=by rw[←I,WT];simp
     have LR:e.n+1<=e.cp->LayW ((H.set e.b (List.take e.n (aN zs++sp)++SV.pv (ab k)::List.drop (e.n+1) (aN zs++sp))).set bw (ce ba bt ⟨mp,pt mb' l ⟨e.b,e.n+1,e.cp⟩,S.late,S.head,S.seen⟩)) bw ba bt mp (pt mb' l ⟨e.b,e.n+1,e.cp⟩) A T ⟨pt S.prs k ⟨p.lits,f,g⟩,qS S.byl k f g (i+1),S.late,S.head,S.seen⟩:=λhr=>by
      rw[B,Q,←u,C];exact v.setB j (zs++[k]) (sp.drop 1) (λm=>P m sp (e2 m)) (e.n+1) (by simp;omega) hr (by rw[TF];omega)
     have LG:∀a,e.n+1<=a->LayW (H.set bw (ce ba bt ⟨mp,pt mb' l ⟨H.length,e.n+1,a⟩,S.late,S.head,S.seen⟩)++[(zs.map λz=>PV.lit (.int .i64 z)).map SV.pv++SV.pv (ab k)::List.replicate (a -(e.n+1)) (SV.pv .bot)]) bw ba bt mp (pt mb' l ⟨H.length,e.n+1,a⟩) A T ⟨pt S.prs k ⟨p.lits,f,g⟩,qS S.byl k f g (i+1),S.late,S.head,S.seen⟩:=λa s=>by
      have:=v.newB l (zs++[k]) (List.replicate (a -(e.n+1)) (SV.pv .bot)) (λm=>ic m _) (e.n+1) a (by simp;omega) s (by simp;omega);rw[C,←U,B];rw[Vo _ _ N,u]at this;exact this
     have ER:∀x y,Ext H ((H.set e.b x).set bw y) (aR bw bt mp mb') (aR bw bt mp (pt mb' l ⟨e.b,e.n+1,e.cp⟩)):=λx y=>by
      refine(((Ext.set e.b x (.inr (.inr (.inr ⟨l,e,j,rfl⟩)))).trans (Ext.set bw y (.inl rfl))).dom (dom _ λc s q=>?_));exact⟨l,e,j,q⟩
     have EG:∀a x y,Ext H (H.set bw x++[y]) (aR bw bt mp mb') (aR bw bt mp (pt mb' l ⟨H.length,e.n+1,a⟩)):=λa x y=>by
      refine(((Ext.set bw x (.inl rfl)).trans (Ext.app _ [y] _)).dom (dom _ λc s q=>?_));simp only at q;omega
     clear B Q u;generalize hY:aN zs++sp=Y at*;simp[xT,N,v2,ce,j,GG,u1,u2,hA,e6,ad];and_intros
     all_goals first
      |omega
      |(refine⟨_,U,by simpa using e3,λhr=>⟨_,⟨_,LR hr,ER _ _⟩,ai.keep (by simp) rfl⟩,λhn a s=>⟨_,⟨_,LG a s,EG a _ _⟩,ai.keep (by simp) rfl⟩⟩)
   .rintro⟨H2,au⟩ ⟨LN,EN⟩;simp;refine⟨(i+1,H2,au),by(try dsimp only);omega,⟨by(try dsimp only);omega,LN,hE.trans EN,λl' av q=>?_⟩,ai.keep (by simp[ar]) rfl⟩;dsimp only at q⊢;rw[o]at q;unfold gL at q;rw[bJ]at q;split at q
    .cases q
     rw[SX,TZ];cases hq:lk (qS S.byl k f g i) l with
     |none=>simp only[Option.getD_none,List.length_nil];omega
     |some z0=>have:=D l z0 hq;simp only[Tx];omega
    .have:=D l' av q;omega
  .have:i=2:=by omega
   subst this;simp[N,v2,ce];exact⟨mb',v.setW (dl S.late k) S.head S.seen,(E1.trans hE).trans (Ext.set bw _ (.inl rfl))⟩
end Go.AX