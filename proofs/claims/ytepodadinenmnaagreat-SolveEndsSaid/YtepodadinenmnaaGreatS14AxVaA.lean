/-
  Contracts: watches: made anew, Attach, Detach, Attached.
  Contracts: a desk with clauses, of six variables, and a watch.
  Contracts: a desk with clauses: places; a clause is attached, or detached.
  A watch to which clauses are attached, and detached, goes with the document (plain law).
  Trails of any number of variables, told plainly (plain law).
  Watches: what always holds of them (plain law).
  Watches: what Propagate brings about (plain law).
  Watches: Propagate closes what is attached under units, or tells a conflict (plain law, and the call).
  What follows by units does not hang on the order (plain law).
  Contracts: a desk with clauses and a watch: a literal is decided, or taken back.
  Contracts: arenas whose clauses may be learnt, and dropped; literals made; models.
  Desks of any number of variables: what a conflict teaches, and what is left of it (plain law).
-/
import Derived.Test.YtepodadinenmnaaGreatS14AxWaG
import Derived.Test.YtepodadinenmnaaGreatS14AxLuA
import Derived.Test.YtepodadinenmnaaGreatS14AxTxG
import Derived.Test.YtepodadinenmnaaGreatS14AxTtA
import Derived.Test.YtepodadinenmnaaGreatS14AxDkQ
import Derived.Test.YtepodadinenmnaaGreatAxIs
import Derived.Test.YtepodadinenmnaaGreatAxTb
namespace Go.AX
open Go.Proofs
set_option linter.unusedSimpArgs false
theorem wL(T:Tr)(d:T.marks.length<=1000000)(c:T.lits.length<=1000000):an Tryz.prog 56 [bB T] (λr=>r=.pv (ae ((T.marks.length:Int) -1 -T.lits.length))):=by
 refine ax aG Tryz.func56 ?_;have hi:=ll T;have a:a8 ((T.marks.length:Int) -1)=(T.marks.length:Int) -1:=ap (by omega) (by omega);have b:a8 ((T.marks.length:Int) -1 -T.lits.length)=(T.marks.length:Int) -1 -T.lits.length:=ap (by omega) (by omega);simp only[bB,cF]at hi;simp[bB,cF];refine aj.intro hi ?_;simp[a,b]
theorem Ho(x v:Int):an Tryz.prog 208 [ae x,.iptr 1 [[ae v]] 0 0] (λr=>r=.pv (BL (!decide (au x v=0)))):=by
 refine ax aG Tryz.func208 ?_;simp;refine aj.intro (iA x v) ?_
 by_cases c:au x v=0
 .simp[c]
 .simp[c]
theorem EO(h:List (List SV))(b:Nat)(A:Ar)(e:h[b]?=some (lm A))(hk:jI A)(g:A.row.length<=1000000)(q:Int):aB Tryz.prog 158 [.ptr b 0,ae q] h (λr h'=>h'=h∧r=.pv (ae (lY A q))):=by
 refine gm [] [.tmp 4] aG Tryz.func158 ?_;obtain⟨d,a⟩:=N5.1 e;unfold lY;simp;refine am.intro (yy h b A e q) ?_;rintro _ _ ⟨rfl,rfl⟩
 by_cases c:isA A q=true
 .obtain⟨p,n,rfl,f⟩:=hk q c;have hp:p<A.row.length:=by have:=f.len;omega
  simp[a,d,lm,c,hp]
 .have c':isA A q=false:=by simpa using c
  simp[c']
theorem tn(h:List (List SV))(b:Nat)(A:Ar)(d:h[b]?=some (lm A))(hk:jI A)(f:A.row.length<=1000000)(q:Int)(hi:isA A q=true):
 aB Tryz.prog 160 [.ptr b 0,ae q] h (λr h'=>h'=h∧r=.pv (.seq false 1 (af (aq A q)))):=by
 obtain⟨p,n,rfl,a⟩:=hk q hi;have e:aq A (p:Int)=dq A p n:=by
  unfold aq;rw[N9 hi];have h1:p+1<A.row.length:=by have:=a.len;omega
  have c:A.row.getD ((p:Int).toNat+1) 0=(n:Int):=by rw[←a.num];rfl
  rw[c];rfl
 rw[e];exact DQ h b A d p n hi a f
theorem Hp(h:List (List SV))(ba bt:Nat):aB Tryz.prog 67 [.ptr ba 0,.ptr bt 0] h (λr h'=>h'=h++[[.pv (.ptr ba 0),.pv (.ptr bt 0),.omap true [],.omap true [],.omap true [],.pv (ae 0),.pv (.lit (.slice none 0 0))]]∧r=.pv (.ptr h.length 0)):=by
 refine cL [] [.tmp 4] aG Tryz.func67 ?_;simp
@[simp] theorem Hq:∀(l:List (Int×Nat))(k:Int),io k (aS tf l)=aS tf (dl l k)
 |[],k=>rfl
 |(j,x)::l,k=>by
  show(if j=k then aS tf l else(j,tf x)::io k (aS tf l))=aS tf (if j=k then l else(j,x)::dl l k);rw[Hq l k];split<;>rfl
theorem rl{α:Type}:∀{l:List (Int×α)}{k:Int},k∉l.map (·.1)->lk l k=none
 |[],_,_=>rfl
 |(j,x)::l,k,h=>by
  simp only[Ow,OB,SS]at h;rw[lk,N8 (λe=>h.1 e.symm)];exact rl h.2
theorem EP{α:Type}:∀{l:List (Int×α)},(l.map (·.1)).Nodup->∀k x:Int,lk (dl l k) x=if x=k then none else lk l x
 |[],_,k,x=>by show none=_;split<;>rfl
 |(j,y)::l,h,k,x=>by
  simp only[Ow,PC]at h;show lk (if j=k then l else(j,y)::dl l k) x=if x=k then none else if j=x then some y else lk l x
  by_cases e:j=k
  .rw[N9 e]
   by_cases c:x=k
   .rw[N9 c,c,←e];exact rl h.1
   .rw[N8 c,N8 (λa=>c (a.symm.trans e))]
  .rw[N8 e,lk,EP h.2 k x]
   by_cases c:x=k
   .rw[N9 c,N9 c,N8 (λa=>e (a.trans c))]
   .rw[N8 c,N8 c]
section
variable {h : List (List SV)} {bw ba bt : Nat} {mp : List (Int × Nat)} {mb : List (Int × By)} {A : Ar} {T : Tr} {S : WS}
theorem LayW.newP(L:LayW h bw ba bt mp mb A T S)(k:Int)(p:Pr)(late:List (Int×Int)):
    LayW ((h++[nO p]).set bw (ca ba bt ⟨pt mp k h.length,mb,late,S.head,S.seen⟩)) bw ba bt (pt mp k h.length) mb A T ⟨pt S.prs k p,S.byl,late,S.head,S.seen⟩:=by
  have hwl:=(N5.1 L.w).1
  have lt:∀{b:Nat}{x:List SV},h[b]?=some x->b<h.length:=λhx=>(N5.1 hx).1
  have up:∀{c:Nat}{x:List SV},c≠bw->h[c]?=some x->((h++[nO p]).set bw (ca ba bt ⟨pt mp k h.length,mb,late,S.head,S.seen⟩))[c]?=some x:=λn1 hx=>by
    rw[On (λe=>n1 e.symm),Oa (lt hx),hx]
  have self:((h++[nO p]).set bw (ca ba bt ⟨pt mp k h.length,mb,late,S.head,S.seen⟩))[h.length]?=some (nO p):=by
    rw[On (by omega)];simp
  have old:∀k' b,lk mp k'=some b->b<h.length:=λk' b hb=>by obtain⟨_,_,a2,_⟩:=L.pr k' b hb;exact lt a2
  exact { w := O4 (by simp; omega), a := up L.wa.symm L.a, t := up L.wt.symm L.t, wa := L.wa, wt := L.wt, at' := L.at', keys := wI _ _ _ _ _ L.keys, byn := L.byn, binj := L.binj
          pr:=λk' b hb=>by
            rw[bD]at hb
            show∃p',lk (pt S.prs k p) k'=some p'∧_
            rw[bD]
            by_cases c:k=k'
            · rw[N9 c]at hb;cases hb
              exact⟨p,N9 c,self,QY hwl,QY (lt L.a),QY (lt L.t)⟩
            · rw[N8 c]at hb
              obtain⟨p',a1,a2,a3⟩:=L.pr k' b hb
              exact⟨p',by rw[N8 c];exact a1,up a3.1 a2,a3⟩
          by':=λl e he=>by
            obtain⟨zs,a1,⟨sp,a2,a3⟩,a4⟩:=L.by' l e he
            exact⟨zs,a1,⟨sp,up a4.1 a2,a3⟩,a4⟩
          pinj:=λk1 k2 b h1 h2=>by
            rw[bD]at h1 h2
            by_cases c1:k=k1
            · by_cases c2:k=k2
              · exact c1.symm.trans c2
              · rw[N9 c1]at h1;rw[N8 c2]at h2;cases h1
                have:=old k2 _ h2;omega
            · rw[N8 c1]at h1
              by_cases c2:k=k2
              · rw[N9 c2]at h2;cases h2
                have:=old k1 _ h1;omega
              · rw[N8 c2]at h2
                exact L.pinj k1 k2 b h1 h2
          pb:=λk' b l e hb he=>by
            rw[bD]at hb
            by_cases c:k=k'
            · rw[N9 c]at hb;cases hb
              obtain⟨_,_,⟨_,a2,_⟩,_⟩:=L.by' l e he
              exact QY (lt a2)
            · rw[N8 c]at hb;exact L.pb k' b l e hb he}
end
def nS(A:Ar)(T:Tr)(S:WS)(k:Int):Int:=if lY A k=0 then 20 else if(lk S.prs k).isSome=true then 21 else if(aq A k).any (λl=>!decide (au l ((T.marks.length:Int) -1)=0))=true then 10 else 0
def nf(A:Ar)(T:Tr)(S:WS)(k:Int):WS:=if nS A T S k=0 then⟨pt S.prs k ⟨aq A k,0,0⟩,S.byl,pt S.late k (a8 ((lk S.late k).getD 0+1)),S.head,S.seen⟩else S
def EQ:Sch:=
 let g:Sch:=.fork [(13,.done)]
 let l:Sch:=.fork [(12,g)]
 let e:Sch:=.fork [(9,.take 10 (.take 11 g))]
 let h:Sch:=.fork [(9,.take 10 (.take 11 l)),(12,e)]
 let i:Sch:=.fork [(8,e)]
 let m:Sch:=.fork [(8,h),(12,i)]
 let f:Sch:=.fork [(4,e)]
 let j:Sch:=.fork [(4,h),(12,f)]
 let k:Sch:=.fork [(4,i),(8,f)]
 let n:Sch:=.fork [(4,m),(8,j),(12,k)]
 let a:Sch:=.fork [(3,f)]
 let b:Sch:=.fork [(3,j),(12,a)]
 let c:Sch:=.fork [(3,k),(8,a)]
 let d:Sch:=.fork [(3,n),(8,b),(12,c)]
 .take 0 (.take 1 (.take 2 (.take 5 (.take 6 (.take 7 d)))))
set_option maxRecDepth 16000 in
theorem yU(h:List (List SV))(bw ba bt:Nat)(mp:List (Int×Nat))(mb:List (Int×By))(A:Ar)(T:Tr)(S:WS)(L:LayW h bw ba bt mp mb A T S)(hk:jI A)(O:A.row.length<=1000000)(W:T.marks.length<=1000000)(s:T.lits.length<=1000000)(k:Int):
 aB Tryz.prog 128 [.ptr bw 0,ae k] h (λr h'=>r=.pv (ae (nS A T S k))∧∃mp',LayW h' bw ba bt mp' mb A T (nf A T S k)∧Ext h h' (aO bw bt mp mb) (aO bw bt mp' mb)):=by
 refine cL [8] [.tmp 4] aG Tryz.func128 ?_;obtain⟨i,j⟩:=N5.1 L.w;have kM:=wH h bw ba bt _ L.w;have Y:=EO h ba A L.a hk O k;simp;refine am.intro kM ?_;rintro _ q ⟨e,rfl⟩;rw[e];clear e q;simp[i,j,ca];refine am.intro Y ?_;rintro _ q ⟨e,rfl⟩;rw[e];clear e q
 by_cases c1:lY A k=0
 .have o:nS A T S k=20:=by unfold nS;rw[N9 c1]
  have F:nf A T S k=S:=by unfold nf;rw[o];rfl
  rw[o,F];simp[c1];exact⟨mp,L,Ext.refl _ _⟩
 have v:isA A k=true:=by
  unfold lY at c1
  by_cases c:isA A k=true
  .exact c
  .rw[N8 c]at c1;exact absurd rfl c1
 cases hp:lk mp k with
 |some b=>
  obtain⟨p,I,_⟩:=L.pr k b hp;have o:nS A T S k=21:=by unfold nS;rw[N8 c1,I];rfl
  have F:nf A T S k=S:=by unfold nf;rw[o];rfl
  rw[o,F];simp[c1,i,j,ca,hp,tf];exact⟨mp,L,Ext.refl _ _⟩
 |none=>
 have J:lk S.prs k=none:=by
  cases X:lk S.prs k with
  |none=>rfl
  |some p=>obtain⟨b,H,_⟩:=L.some_p X;rw[hp]at H;cases H
 have Z:=tn h ba A L.a hk O k v;simp[c1,i,j,ca,hp,tf];refine am.intro Z ?_;rintro _ q ⟨e,rfl⟩;rw[e];clear e q;simp;obtain⟨G,g⟩:∃G,G=h++[[SV.pv (ae ((T.marks.length:Int) -1))]]:=⟨_,rfl⟩;have L0:LayW G bw ba bt mp mb A T S:=by rw[g];exact L.app _
 have C:Ext h G (aO bw bt mp mb) (aO bw bt mp mb):=by rw[g];exact Ext.app _ _ _
 have hz:=cJ L.t 2;have f:=λx=>cJ (L.app [x]).t 2;have kO:=wL T W s;have kT:=ff T s;have N:a8 ((T.marks.length:Int) -1)=(T.marks.length:Int) -1:=ap (by omega) (by omega);obtain⟨z,g2⟩:=N5.1 L0.w;have D:∀x,(h++[x])[bw]?=some (ca ba bt ⟨mp,mb,S.late,S.head,S.seen⟩):=λx=>(L.app [x]).w;refine aX.meet EQ ⟨[(0,.pv (.ptr bw 0)),(1,.pv (ae k)),(5,.pv (.seq false 1 (af (aq A k)))),(6,.pv (.ptr h.length 0))],G⟩ (by kernel_rfl) ?_ ?_
 .simp[EQ,i,j,ca,hz,D,f]
  repeat' first
   |refine And.intro ?_ ?_
   |(refine am.introP kO ?_;simp[i,j,ca,hz,D,f,N])
   |(refine am.introP kT ?_;simp[i,j,ca,hz,D,f,N])
   |exact ai.keep (by simp) (by rw[g])
 have P:=fe (aq A k) (by have:=eQ A hk k;omega) 208 [.iptr 1 [[ae ((T.marks.length:Int) -1)]] 0 0] (λl=>!decide (au l ((T.marks.length:Int) -1)=0)) (λr=>by simp) rfl (λm=>by simp) (λx _=>Ho x _);have Q:h.length<G.length:=by rw[g];simp
 have n2:G[h.length]'Q=[.pv (ae ((T.marks.length:Int) -1))]:=by simp[g]
 generalize u:(aq A k).any (λl=>!decide (au l ((T.marks.length:Int) -1)=0))=B at P;have U:∀n,br G (n+1) h.length 0=.iptr 1 [[ae ((T.marks.length:Int) -1)]] 0 0:=λn=>by simp[br,Q,n2,frzC]
 have R:nS A T S k=if B=true then 10 else 0:=by unfold nS;rw[N8 c1,J,u];rfl
 have d:nf A T S k=if nS A T S k=0 then⟨pt S.prs k ⟨aq A k,0,0⟩,S.byl,pt S.late k (a8 ((lk S.late k).getD 0+1)),S.head,S.seen⟩else S:=rfl;rw[R]at d⊢;generalize nf A T S k=S2 at*;simp[U];refine aj.intro P ?_;cases B
 .have E:(if false=true then(10:Int)else 0)=0:=rfl;rw[E]at d⊢;rw[N9 rfl]at d;subst d;have M:=L0.newP k ⟨aq A k,0,0⟩ (pt S.late k (a8 ((lk S.late k).getD 0+1)));have K:Ext h ((G++[nO ⟨aq A k,0,0⟩]).set bw (ca ba bt ⟨pt mp k G.length,mb,pt S.late k (a8 ((lk S.late k).getD 0+1)),S.head,S.seen⟩)) (aO bw bt mp mb) (aO bw bt (pt mp k G.length) mb):=
   ((C.trans (Ext.app G _ _)).trans (Ext.set bw _ (.inl rfl))).dom λb H hd=>by
    rcases hd with h1|h1|⟨k',h1⟩|h1
    .exact .inl h1
    .exact .inr (.inl h1)
    .rw[bD]at h1
     by_cases c:k=k'
     .rw[N9 c]at h1;cases h1;have:=C.len;omega
     .rw[N8 c]at h1;exact .inr (.inr (.inl ⟨k',h1⟩))
    .exact .inr (.inr (.inr h1))
  have V:G.length=h.length+1:=by rw[g];simp
  have b1:∀x,(G++[x])[bw]?=some (ca ba bt ⟨mp,mb,S.late,S.head,S.seen⟩):=λx=>(L0.app [x]).w;have b2:∀x y,(G.set bw y++[x])[bw]?=some y:=λx y=>by rw[Oa (by simpa using z),O4 z]
  rw[Rf _ _ z]at M K;simp[z,g2,ca,b1,b2];exact⟨_,M,K⟩
 .have E:(if true=true then(10:Int)else 0)=10:=rfl;rw[E]at d⊢;rw[N8 (by omega)]at d;subst d;simp;exact⟨mp,L0,C⟩
theorem ka.to{P:Program}{k0:Nat}{ops:Array Oper}{K:St->Prop}{st:St}(b:St)(c:ai k0 st b)(h:ka P k0 ops K b):ka P k0 ops K st:=
 ka.weak (ι:=Unit) (λ_=>b) (λg a w h0 hs=>by obtain⟨g',t,s'⟩:=c g a w h0 hs;exact⟨g',(),t,s'⟩) λ_=>h
theorem LayW.other{h:List (List SV)}{bw ba bt:Nat}{mp:List (Int×Nat)}{mb:List (Int×By)}{A:Ar}{T:Tr}{S:WS}(L:LayW h bw ba bt mp mb A T S)(b:Nat)(x:List SV)(hd:¬aO bw bt mp mb b)(ha:b≠ba):LayW (h.set b x) bw ba bt mp mb A T S:=by
  have up:∀{c:Nat}{y:List SV},b≠c->h[c]?=some y->(h.set b x)[c]?=some y:=λhn hx=>by rw[On hn,hx]
  exact { w := up (λ e => hd (.inl e)) L.w, a := up ha L.a, t := up (λ e => hd (.inr (.inl e))) L.t, wa := L.wa, wt := L.wt, at' := L.at', keys := L.keys, pinj := L.pinj, byn := L.byn, binj := L.binj, pb := L.pb
          pr:=λk c hc=>by obtain⟨p,h1,h2,h3⟩:=L.pr k c hc;exact⟨p,h1,up (λe=>hd (.inr (.inr (.inl ⟨k,e▸hc⟩)))) h2,h3⟩
          by':=λl e he=>by
            obtain⟨zs,h1,⟨sp,h2,h3⟩,h4⟩:=L.by' l e he
            exact⟨zs,h1,⟨sp,up (λe2=>hd (.inr (.inr (.inr ⟨l,e,he,e2.symm⟩)))) h2,h3⟩,h4⟩}
theorem mem_keys{α:Type}:∀{l:List (Int×α)}{k:Int},(lk l k).isSome=true↔k∈l.map (·.1)
 |[],k=>by simp[lk]
 |(j,x)::l,k=>by
  rw[lk,Ow,OB]
  by_cases e:j=k
  .rw[N9 e];simp[e]
  .rw[N8 e,mem_keys];constructor
   .exactλh=>.inr h
   .rintro(h|h)
    .exact absurd h.symm e
    .exact h
theorem rm{α:Type}:∀(l:List (Int×α))(k:Int),(dl l k).map (·.1)=(l.map (·.1)).erase k
 |[],_=>rfl
 |(j,x)::l,k=>by
  rw[dl,Ow,List.erase_cons]
  by_cases e:j=k
  .rw[N9 e,N9 (by simpa using e)]
  .rw[N8 e,N8 (by simpa using e),Ow,rm l k]
theorem wM{l:List Int}(h:l.Nodup):(dE l).Nodup:=by
 unfold dE;exact(Rs l _).nodup_iff.2 h
theorem bm{n:Nat}(hn:n<=100000){l:Int}(h:au l n=0):l≠0∧-(n:Int)<=l∧l<=n∧1<=ab l∧ab l<=n∧ab l=eG l∧0<=bf l∧a8 (-l)=-l:=by
 obtain⟨a,b,c⟩:=(cR (by omega)).1 h;obtain⟨d,e,f,g⟩:=nD (by omega) h;exact⟨a,b,c,d,e,g,by rw[ur];exact f,ap (by omega) (by omega)⟩
theorem pc{n:Nat}(hn:n<=100000){l:Int}(h:au l n=0):au (-l) n=0:=by
 obtain⟨a,b,c⟩:=(cR (by omega)).1 h;exact(cR (by omega)).2 ⟨by omega,by omega,by omega⟩
theorem lA{n:Nat}(hn:n<=100000){x y:Int}(hx:au x n=0)(hy:au y n=0):ab x=ab y↔x=y∨x=-y:=by
 obtain⟨_,_,_,_,_,a,_⟩:=bm hn hx;obtain⟨_,_,_,_,_,b,_⟩:=bm hn hy;rw[a,b];unfold eG;constructor
 .intro h;split at h<;>split at h<;>omega
 .intro h;split<;>split<;>omega
def lB(beg:List Int)(i:Nat):Int:=((beg.filter λb=>decide (b<=(i:Int))).length:Nat)
def wN(l:Int):Int:=if l<0 then-1 else 1
structure TMk (n:Nat) (T:Tr):Prop where
  hn:n<=100000
  len:T.marks.length=n+1
  chk:∀y∈T.lits,au y n=0
  nd:(T.lits.map ab).Nodup
  mark:∀i (hi:i<T.lits.length),(bz T (ab T.lits[i])).v=wN T.lits[i]∧(bz T (ab T.lits[i])).lev=lB T.beg i∧(bz T (ab T.lits[i])).pla=i
  free:∀v:Int,v∉T.lits.map ab->(bz T v).v=0
structure TOk (n:Nat) (T:Tr):Prop extends TMk n T where
  bnd:∀b∈T.beg,0<=b∧b<T.lits.length
  rise:T.beg.Pairwise (·<·)
section
variable {n : Nat} {T : Tr}
theorem TMk.okT(h:TMk n T):T.ok:=⟨by rw[h.len];omega,by rw[h.len];have:=h.hn;omega⟩
theorem TMk.vars(h:TMk n T):(T.marks.length:Int) -1=n:=by rw[h.len];omega
theorem TMk.few(h:TMk n T):T.lits.length<=n:=by
 have h1:((T.lits.map ab).map Int.toNat).Nodup:=by
  refine Qa.2 (h.nd.imp_of_mem ?_);intro a b c g d e;obtain⟨x,hx,rfl⟩:=Of.1 c;obtain⟨y,hy,rfl⟩:=Of.1 g;have:=(bm h.hn (h.chk x hx)).2.2.2.1;have:=(bm h.hn (h.chk y hy)).2.2.2.1;exact d (by omega)
 have f:(T.lits.map ab).map Int.toNat⊆List.range' 1 n:=by
  intro v i;obtain⟨a,c,rfl⟩:=Of.1 i;obtain⟨x,hx,rfl⟩:=Of.1 c;obtain⟨_,_,_,p,q,_⟩:=bm h.hn (h.chk x hx);rw[List.mem_range'_1];omega
 have:=(cX _ _ h1 f);simpa using this
theorem TMk.inj(h:TMk n T){i j:Nat}(hi:i<T.lits.length)(hj:j<T.lits.length)(e:ab T.lits[i]=ab T.lits[j]):i=j:=by
 have hp:=OR.1 (Qa.1 h.nd);rcases PM i j with c|c|c
 .exact absurd e (hp i j hi hj c)
 .exact c
 .exact absurd e.symm (hp j i hj hi c)
theorem TMk.one(h:TMk n T){y:Int}(hy:y∈T.lits)(b:-y∈T.lits):False:=by
 obtain⟨i,hi,c⟩:=Oo hy;obtain⟨j,hj,d⟩:=Oo b;have e:ab T.lits[i]=ab T.lits[j]:=by rw[c,d,dr]
 have a:i=j:=h.inj hi hj e;subst a;have:=(bm h.hn (h.chk y hy)).1;omega
theorem TMk.val(h:TMk n T){l:Int}(b:au l n=0):bZ T l=if l∈T.lits then 1 else if-l∈T.lits then-1 else 0:=by
 unfold bZ;rw[h.vars,N8 (by simp[b])];have f:a8 (-1)=-1:=by decide
 have g:a8 (- -1)=1:=by decide
 have j:a8 (-0)=0:=by decide
 have l0:=(bm h.hn b).1
 by_cases c:l∈T.lits
 .obtain⟨i,hi,e⟩:=Oo c;have a:=(h.mark i hi).1;rw[e]at a;rw[N9 c,a];unfold wN
  by_cases d:l<0
  .rw[N9 d,N9 d,g]
  .rw[N8 d,N8 d]
 rw[N8 c]
 by_cases c2:-l∈T.lits
 .obtain⟨i,hi,e⟩:=Oo c2;have a:=(h.mark i hi).1;rw[e,dr]at a;rw[N9 c2,a];unfold wN
  by_cases d:l<0
  .rw[N9 d,N8 (by omega),f]
  .rw[N8 d,N9 (by omega)]
 .rw[N8 c2,h.free]
  .split
   .exact j
   .rfl
  .intro a;obtain⟨x,hx,e⟩:=Of.1 a;rcases(lA h.hn (h.chk x hx) b).1 e with rfl|rfl
   .exact c hx
   .exact c2 hx
theorem TMk.val1(h:TMk n T){l:Int}(a:au l n=0):bZ T l=1↔l∈T.lits:=by
 rw[h.val a];split
 .simp_all
 .split<;>simp_all
theorem TMk.valm(h:TMk n T){l:Int}(a:au l n=0):bZ T l=-1↔-l∈T.lits:=by
 rw[h.val a];split
 .rename_i c;simp;intro c2;exact h.one c c2
 .split<;>simp_all
theorem TMk.val0(h:TMk n T){l:Int}(a:au l n=0):bZ T l=0↔l∉T.lits∧-l∉T.lits:=by
 rw[h.val a];split
 .simp_all
 .split<;>simp_all
theorem TMk.may(h:TMk n T)(l:Int):eV T l=0↔au l n=0∧l∉T.lits∧-l∉T.lits:=by
 unfold eV;rw[h.vars]
 by_cases c:au l n=0
 .rw[N8 (by simp[c])];have f:=h.val c;have e:(bz T (ab l)).v=0↔bZ T l=0:=by
   unfold bZ;rw[h.vars,N8 (by simp[c])]
   by_cases d:l<0
   .rw[N9 d];constructor
    .intro e;rw[e];decide
    .intro e;have b:-1<=(bz T (ab l)).v∧(bz T (ab l)).v<=1:=by
      by_cases m:ab l∈T.lits.map ab
      .obtain⟨x,hx,a⟩:=Of.1 m;obtain⟨i,hi,rfl⟩:=Oo hx;rw[←a,(h.mark i hi).1];unfold wN;split<;>omega
      .rw[h.free _ m];omega
     rw[ap (by omega) (by omega)]at e;omega
   .rw[N8 d]
  rw[←h.val0 c,←e]
  by_cases d:(bz T (ab l)).v=0
  .simp[c,d]
  .simp[c,d]
 .rw[N9 c];simp[c]
theorem TOk.new(hn:n<=100000):TOk n (kb n)where
 hn:=hn
 len:=by simp[kb]
 chk:=by simp[kb]
 nd:=by simp[kb]
 mark:=λi hi=>absurd hi (by simp[kb])
 free:=λv _=>by
  unfold bz kb;rw[N7];simp only[Sp];split<;>rfl
 bnd:=by simp[kb]
 rise:=by simp[kb]
theorem ET{beg:List Int}{i:Nat}(h:∀b∈beg,b<=i):lB beg i=beg.length:=by
 unfold lB;rw[Qf.2 (λb a=>by simpa using h b a)]
theorem jb(T:Tr)(l rea:Int)(h1:1<=ab l)(a:ab l<T.marks.length)(v:Int)(b:0<=v):bz (f9 T l rea) v=if v=ab l then⟨wN l,T.beg.length,rea,T.lits.length⟩else bz T v:=by
 unfold bz f9;simp only[N7,OD]
 by_cases c:v=ab l
 .subst c;rw[N9 rfl,N9 rfl,N9 (by omega)];rfl
 .rw[N8 (by omega),N8 c]
theorem TMk.put(h:TMk n T){l:Int}(s:eV T l=0)(rea:Int)(m:∀b∈T.beg,b<=T.lits.length):TMk n (f9 T l rea):=by
 obtain⟨q,t,u⟩:=(h.may l).1 s;obtain⟨_,_,_,o,w,_⟩:=bm h.hn q;have d:ab l<T.marks.length:=by rw[h.len];omega
 have g:ab l∉T.lits.map ab:=λp=>by
  obtain⟨x,hx,e⟩:=Of.1 p;rcases(lA h.hn (h.chk x hx) q).1 e with rfl|rfl
  .exact t hx
  .exact u hx
 have k:∀y∈T.lits,0<=ab y:=λy hy=>by have:=(bm h.hn (h.chk y hy)).2.2.2.1;omega
 refine⟨h.hn,by simp[f9,h.len],?_,?_,?_,?_⟩
 .intro y hy;rcases Om.1 hy with hy|hy
  .exact h.chk y hy
  .simp at hy;subst hy;exact q
 .show((T.lits++[l]).map ab).Nodup;rw[OJ,QW];refine⟨h.nd,by simp,λa r b m e=>?_⟩;simp at m;subst m;subst e;exact g r
 .have key:∀i (hi:i<(T.lits++[l]).length),(bz (f9 T l rea) (ab (T.lits++[l])[i])).v=wN (T.lits++[l])[i]∧(bz (f9 T l rea) (ab (T.lits++[l])[i])).lev=lB T.beg i∧(bz (f9 T l rea) (ab (T.lits++[l])[i])).pla=i:=by
   intro i hi;have j:=hi;rw[Oi]at j;simp only[OC,List.length_nil]at j
   by_cases c:i<T.lits.length
   .rw[OZ c,jb T l rea o d _ (k _ (Od c)),N8 (λe:ab T.lits[i]=ab l=>g (e▸Qh (Od c)))];exact h.mark i c
   .have:i=T.lits.length:=by omega
    subst this;rw[Sg (Oc _)];simp only[P5,Q6];rw[jb T l rea o d _ (by omega),N9 rfl];exact⟨rfl,(ET m).symm,rfl⟩
  exact key
 .intro v p;have f:v∉(T.lits++[l]).map ab:=p;rw[OJ,Om,SS]at f;simp only[Ow,Qi,O7]at f
  by_cases c:0<=v
  .rw[jb T l rea o d v c,N8 f.2];exact h.free v f.1
  .have h0:=h.free 0 (λe=>by obtain⟨x,hx,e⟩:=Of.1 e;have:=(bm h.hn (h.chk x hx)).2.2.2.1;omega);have e:∀T':Tr,bz T' v=bz T' 0:=λT'=>by unfold bz;rw[show v.toNat=(0:Int).toNat by omega]
   rw[e,jb T l rea o d 0 (by omega),N8 (by omega)];exact h0
theorem TOk.imp(h:TOk n T){l:Int}(c:eV T l=0)(rea:Int):TOk n (f9 T l rea):=
 {h.toTMk.put c rea (λb a=>by have:=(h.bnd b a).2;omega)with
  bnd:=λb a=>by have:=h.bnd b a;show 0<=b∧b<((T.lits++[l]).length:Int);simp;omega
  rise:=h.rise}
theorem TMk.beg(h:TMk n T)(e:∀b∈T.beg,b<T.lits.length):TMk n (oD T)where
 hn:=h.hn
 len:=h.len
 chk:=h.chk
 nd:=h.nd
 mark:=λi hi=>by
  obtain⟨a,b,c⟩:=h.mark i hi;refine⟨a,b.trans ?_,c⟩;have d:i<T.lits.length:=hi;unfold lB oD;simp only[PD];rw[O5,N8 (by simp;omega)];simp
 free:=h.free
theorem TOk.dec(h:TOk n T)(l:Int):TOk n (fH T l):=by
 unfold fH;split
 .rename_i c;have h1:=h.toTMk.beg (λb d=>(h.bnd b d).2);have e:∀b∈(oD T).beg,0<=b∧b<=T.lits.length:=λb d=>by
   rcases Om.1 d with d|d
   .have:=h.bnd b d;omega
   .simp at d;omega
  exact{h1.put (l:=l) c (-1) (λb d=>(e b d).2)with
   bnd:=λb d=>by have:=e b d;show 0<=b∧b<((T.lits++[l]).length:Int);simp;omega
   rise:=by
    show(T.beg++[(T.lits.length:Int)]).Pairwise (·<·);rw[QN];refine⟨h.rise,by simp,λa f b d=>?_⟩;simp at d;have:=(h.bnd a f).2;omega}
 .exact h
theorem TMk.pop(h:TMk n T){m:Nat}(r:T.lits.length=m+1):TMk n (jN T):=by
 have a:T.lits.getD (T.lits.length -1) 0=T.lits[m]:=by
  have e:T.lits.length -1=m:=by omega
  rw[e,N7,N6 (by omega),OH]
 have f:m<T.lits.length:=by omega
 obtain⟨_,_,_,s,t,_⟩:=bm h.hn (h.chk _ (Od f));have d:∀v:Int,0<=v->bz (jN T) v=if v=ab T.lits[m]then⟨0,0,0,0⟩else bz T v:=λv j=>by
  unfold bz jN;rw[a];simp only[N7,OD]
  by_cases c:v=ab T.lits[m]
  .subst c;rw[N9 rfl,N9 rfl,N9 (by rw[h.len];omega)];rfl
  .rw[N8 (by omega),N8 c]
 have b:(jN T).lits=T.lits.take m:=by unfold jN;rw[r];rfl
 have g:∀y∈T.lits,0<=ab y:=λy hy=>by have:=(bm h.hn (h.chk y hy)).2.2.2.1;omega
 refine⟨h.hn,by simp[jN,h.len],?_,?_,?_,?_⟩
 .intro y hy;rw[b]at hy;exact h.chk y (OX hy)
 .rw[b];exact h.nd.sublist ((QR m T.lits).map ab)
 .intro i hi;have p:i<m:=by rw[b,Oe]at hi;omega
  have o:(jN T).lits[i]=T.lits[i]'(by omega):=by simp only[b];exact Pq
  rw[o,d _ (g _ (Od _)),N8 (λe=>by have:=h.inj (by omega) f e;omega)];exact h.mark i (by omega)
 .intro v j;rw[b]at j;have key:∀v:Int,0<=v->v∉(T.lits.take m).map ab->(bz (jN T) v).v=0:=λv c j=>by
   rw[d v c];split
   .rfl
   .rename_i k;refine h.free v λhx=>?_;obtain⟨x,l,e⟩:=Of.1 hx;subst e;obtain⟨i,hi,e⟩:=Oo l;subst e
    by_cases q:i=m
    .subst q;exact k rfl
    .exact j (Of.2 ⟨T.lits[i],by rw[Pm];exact⟨i,by omega,rfl⟩,rfl⟩)
  by_cases c:0<=v
  .exact key v c j
  .have e:bz (jN T) v=bz (jN T) 0:=by unfold bz;rw[show v.toNat=(0:Int).toNat by omega]
   rw[e];refine key 0 (by omega) λhx=>?_;obtain⟨x,hx,e⟩:=Of.1 hx;have:=(bm h.hn (h.chk x (OX hx))).2.2.2.1;omega
theorem TMk.popN(h:TMk n T):∀j,j<=T.lits.length->TMk n (popN T j)
 |0,_=>h
 |j+1,hj=>by
  have a:=TMk.popN h j (by omega);rw[Go.AX.popN];refine a.pop (m:=T.lits.length -j -1) ?_;rw[dI,Oe];omega
theorem TOk.back(h:TOk n T){k:Nat}(hk:k<T.beg.length):TOk n (cq T k)∧(cq T k).lits=T.lits.take (T.beg[k]).toNat∧(cq T k).beg=T.beg.take k:=by
 have f:T.beg.getD k 0=T.beg[k]:=by rw[N7,N6 hk];rfl
 obtain⟨b1,b2⟩:=h.bnd _ (Od hk);have g:(cq T k).lits=T.lits.take (T.beg[k]).toNat:=by
  unfold cq;rw[f,dI];congr 1;omega
 have m:=h.toTMk.popN (T.lits.length -(T.beg[k]).toNat) (by omega);have d:(Go.AX.popN T (T.lits.length -(T.beg[k]).toNat)).lits=T.lits.take (T.beg[k]).toNat:=by rw[dI];congr 1;omega
 have l:∀v,bz (cq T k) v=bz (Go.AX.popN T (T.lits.length -(T.beg[k]).toNat)) v:=λv=>by unfold bz cq;rw[f]
 have q:=OR.1 h.rise;have o:∀b∈T.beg.take k,0<=b∧b<T.beg[k]:=λb e=>by
  obtain⟨i,hi,rfl⟩:=Pm.1 e;exact⟨(h.bnd _ (Od _)).1,q i k (by omega) hk (by omega)⟩
 have a:(cq T k).lits.length=(T.beg[k]).toNat:=by rw[g,Oe];omega
 refine⟨{hn:=h.hn,len:=?_,chk:=?_,nd:=?_,mark:=?_,free:=?_,bnd:=?_,rise:=?_},g,rfl⟩
 .unfold cq;rw[f];exact m.len
 .intro y hy;rw[g]at hy;exact h.chk y (OX hy)
 .rw[g];exact h.nd.sublist ((QR _ T.lits).map ab)
 .intro i hi;have p:i<(Go.AX.popN T (T.lits.length -(T.beg[k]).toNat)).lits.length:=by rw[d,←g];exact hi
  have r:(cq T k).lits[i]=(Go.AX.popN T (T.lits.length -(T.beg[k]).toNat)).lits[i]:=by simp only[g,d]
  rw[l,r];obtain⟨t,u,w⟩:=m.mark i p;refine⟨t,u.trans ?_,w⟩;rw[rn];unfold lB;congr 1;rw[←O8 k T.beg,PD];have:((T.beg.take k++T.beg.drop k).take k)=T.beg.take k:=by rw[O8]
  show _=((cq T k).beg.filter _).length;have e:(cq T k).beg=T.beg.take k:=rfl;rw[e];have hd:(T.beg.drop k).filter (λb=>decide (b<=(i:Int)))=[]:=by
   rw[P0];intro b e;obtain⟨j,hj,rfl⟩:=Rg.1 e;have:T.beg[k]<=T.beg[k+j]:=by
    by_cases c:j=0
    .subst c;exact Qx _
    .exact Int.le_of_lt (q k (k+j) hk (by omega) (by omega))
   rw[a]at hi;simp;omega
  rw[hd,Pt]
 .intro v s;rw[l];refine m.free v ?_;rw[d,←g];exact s
 .intro b e;have:=o b e;rw[a];omega
 .exact h.rise.sublist (QR _ _)
end
def bF(byl:List (Int×List Int))(l:Int):List Int:=(lk byl l).getD []
theorem AI{byl:List (Int×List Int)}{l:Int}{zs:List Int}(h:lk byl l=some zs):bF byl l=zs:=by unfold bF;rw[h];rfl
theorem Me{byl:List (Int×List Int)}{l k:Int}(h:k∈bF byl l):∃zs,lk byl l=some zs∧k∈zs:=by
 unfold bF at h;cases a:lk byl l with
 |none=>rw[a]at h;cases h
 |some zs=>rw[a]at h;exact⟨zs,rfl,h⟩
theorem iE(byl:List (Int×List Int))(k l m:Int):bF (eI byl k l) m=if l≠0∧m=l then aV (λx=>decide (x=k)) (bF byl l)else bF byl m:=by
 unfold bF eI
 by_cases c:l=0
 .rw[N9 c,N8 (λh=>h.1 c)]
 .rw[N8 c,bD]
  by_cases d:m=l
  .rw[N9 d.symm,N9 ⟨c,d⟩];rfl
  .rw[N8 (λe=>d e.symm),N8 (λh=>d h.2)]
theorem EU{k j:Int}{l:List Int}:j∈aV (λx=>decide (x=k)) l↔j∈l∧j≠k:=by
 unfold aV;rw[OW];simp
theorem nT{byl:List (Int×List Int)}{k l m j:Int}:j∈bF (eI byl k l) m↔j∈bF byl m∧¬(l≠0∧m=l∧j=k):=by
 rw[iE]
 by_cases c:l≠0∧m=l
 .rw[N9 c,EU,c.2];constructor
  .exactλh=>⟨h.1,λq=>h.2 q.2.2⟩
  .exactλh=>⟨h.1,λq=>h.2 ⟨c.1,rfl,q⟩⟩
 .rw[N8 c];exact⟨λh=>⟨h,λq=>c ⟨q.1,q.2.1⟩⟩,λh=>h.1⟩
theorem uN{byl:List (Int×List Int)}(h:∀l,(bF byl l).Nodup)(k l m:Int):(bF (eI byl k l) m).Nodup:=by
 rw[iE];split
 .exact(h l).sublist R6
 .exact h m
theorem lZ(byl:List (Int×List Int))(k l m:Int):bF (fM byl k l) m=if m=l then bF byl l++[k]else bF byl m:=by
 unfold bF fM;rw[bD]
 by_cases d:m=l
 .rw[N9 d,N9 d.symm];rfl
 .rw[N8 d,N8 (λe=>d e.symm)]
theorem nU{byl:List (Int×List Int)}{k l m j:Int}:j∈bF (fM byl k l) m↔j∈bF byl m∨(m=l∧j=k):=by
 rw[lZ]
 by_cases d:m=l
 .rw[N9 d,d];simp
 .rw[N8 d];simp[d]
theorem uO{byl:List (Int×List Int)}(h:∀l,(bF byl l).Nodup){k l:Int}(hk:k∉bF byl l)(m:Int):(bF (fM byl k l) m).Nodup:=by
 rw[lZ];split
 .rw[QW];refine⟨h l,by simp,λa d b c e=>?_⟩;simp at c;subst c;subst e;exact hk d
 .exact h m
structure Wch (n:Nat) (S:WS):Prop where
  nd:(S.prs.map (·.1)).Nodup
  lits:∀k p,lk S.prs k=some p->(0<=k∧k<=20000000)∧p.lits.Nodup∧p.lits.length<=1000∧∀y∈p.lits,au y n=0
  lnd:(S.late.map (·.1)).Nodup
  lpr:∀k∈S.late.map (·.1),∃p,lk S.prs k=some p
  two:∀k p,lk S.prs k=some p->(k∈S.late.map (·.1)∧p.x=0∧p.y=0)∨(k∉S.late.map (·.1)∧p.x≠p.y∧p.x∈p.lits∧p.y∈p.lits)
  bnd:∀l,(bF S.byl l).Nodup
  mem:∀l k,k∈bF S.byl l↔l≠0∧∃p,lk S.prs k=some p∧(p.x=l∨p.y=l)
theorem oO{α:Type}{l:List (Int×α)}{k:Int}{x:α}(h:lk l k=some x):k∈l.map (·.1):=mem_keys.1 (by rw[h];rfl)
theorem pU{α:Type}{l:List (Int×α)}(h:(l.map (·.1)).Nodup)(k x:Int):x∈(dl l k).map (·.1)↔x∈l.map (·.1)∧x≠k:=by
 rw[rm,h.mem_erase_iff];exact⟨λq=>⟨q.2,q.1⟩,λq=>⟨q.2,q.1⟩⟩
theorem In{α:Type}{l:List (Int×α)}(h:(l.map (·.1)).Nodup)(k:Int):((dl l k).map (·.1)).Nodup:=by rw[rm];exact h.erase k
section
variable {n : Nat} {S : WS}
theorem Wch.pos(h:Wch n S){k:Int}{p:Pr}(hp:lk S.prs k=some p)(hk:k∉S.late.map (·.1)):p.x≠0∧p.y≠0∧p.x≠p.y∧p.x∈p.lits∧p.y∈p.lits:=by
 rcases h.two k p hp with⟨a,_⟩|⟨_,a,b,c⟩
 .exact absurd a hk
 .have d:=(h.lits k p hp).2.2.2;have z:∀y∈p.lits,y≠0:=λy hy e=>by
   have:=d y hy;rw[e]at this;unfold au pz at this;split at this
   .omega
   .simp at this
  exact⟨z _ b,z _ c,a,b,c⟩
theorem Wch.zer(h:Wch n S){k:Int}{p:Pr}(hp:lk S.prs k=some p)(hk:k∈S.late.map (·.1)):p.x=0∧p.y=0:=by
 rcases h.two k p hp with⟨_,a⟩|⟨a,_⟩
 .exact a
 .exact absurd hk a
theorem Wch.nby(h:Wch n S){k:Int}{p:Pr}(hp:lk S.prs k=some p)(hk:k∈S.late.map (·.1))(l:Int):k∉bF S.byl l:=λb=>by
 obtain⟨l0,q,a,e⟩:=(h.mem l k).1 b;rw[hp]at a;cases a
 obtain⟨c,d⟩:=h.zer hp hk;rw[c,d]at e;omega
theorem Wch.entry(h:Wch n S){k:Int}{p:Pr}(hp:lk S.prs k=some p){l:Int}(l0:l≠0)(a:p.x=l∨p.y=l):∃zs,lk S.byl l=some zs∧k∈zs:=Me ((h.mem l k).2 ⟨l0,p,hp,a⟩)
theorem Wch.hz(h:Wch n S)(b:S.prs.length<=1000000):∀l zs,lk S.byl l=some zs->zs.length<=1000000:=λl zs hz=>by
 have e:=AI hz;have h1:=h.bnd l;rw[e]at h1;have a:zs⊆S.prs.map (·.1):=λk hk=>by
  obtain⟨_,p,hp,_⟩:=(h.mem l k).1 (by rw[e];exact hk);exact oO hp
 have:=(cX _ _ h1 a);rw[Oj]at this;omega
theorem dJ{α:Type}{l:List (Int×α)}{k j:Int}{y:α}(hj:j≠k):lk (pt l k y) j=lk l j:=by rw[bD,N8 (λe=>hj e.symm)]
theorem dB{α:Type}{l:List (Int×α)}{k:Int}{y:α}:lk (pt l k y) k=some y:=by rw[bD,N9 rfl]
theorem Wch.toLate(h:Wch n S){k:Int}{p:Pr}(hp:lk S.prs k=some p)(hk:k∉S.late.map (·.1))(v:Int):Wch n ⟨(lr S k p).prs,(lr S k p).byl,pt S.late k v,S.head,S.seen⟩:=by
 obtain⟨s,t,r,hx,hy⟩:=h.pos hp hk;have f:(pt S.prs k ⟨p.lits,0,0⟩).map (·.1)=S.prs.map (·.1):=gY _ hp;have g:∀j,j∈(pt S.late k v).map (·.1)↔j=k∨j∈S.late.map (·.1):=λj=>lw _ _ _ _;refine⟨?_,?_,?_,?_,?_,?_,?_⟩
 .show((pt S.prs k _).map (·.1)).Nodup;rw[f];exact h.nd
 .intro j q d;have d:lk (pt S.prs k ⟨p.lits,0,0⟩) j=some q:=d
  by_cases e:j=k
  .subst e;rw[dB]at d;cases d;exact h.lits j p hp
  .rw[dJ e]at d;exact h.lits j q d
 .exact ja _ _ _ h.lnd
 .intro j hj;show∃q,lk (pt S.prs k ⟨p.lits,0,0⟩) j=some q
  by_cases e:j=k
  .subst e;exact⟨_,dB⟩
  .rw[dJ e];rcases(g j).1 hj with c|c
   .exact absurd c e
   .exact h.lpr j c
 .intro j q d;have d:lk (pt S.prs k ⟨p.lits,0,0⟩) j=some q:=d;show(j∈(pt S.late k v).map (·.1)∧_)∨(j∉(pt S.late k v).map (·.1)∧_);rw[g]
  by_cases e:j=k
  .subst e;rw[dB]at d;cases d;exact .inl ⟨.inl rfl,rfl,rfl⟩
  .rw[dJ e]at d;rcases h.two j q d with⟨a,b⟩|⟨a,b⟩
   .exact .inl ⟨.inr a,b⟩
   .exact .inr ⟨λc=>c.elim e a,b⟩
 .exactλm=>uN (λm=>uN h.bnd k p.x m) k p.y m
 .intro m j;show j∈bF (eI (eI S.byl k p.x) k p.y) m↔m≠0∧∃q,lk (pt S.prs k ⟨p.lits,0,0⟩) j=some q∧_;rw[nT,nT,h.mem]
  by_cases e:j=k
  .subst e;rw[dB];constructor
   .rintro⟨⟨⟨i,q,d,c⟩,l⟩,o⟩;rw[hp]at d;cases d
    rcases c with c|c
    .exact absurd ⟨s,c.symm,rfl⟩ l
    .exact absurd ⟨t,c.symm,rfl⟩ o
   .rintro⟨i,q,d,c⟩;cases d
    simp at c;exact absurd c.symm i
  .rw[dJ e];exact⟨λq=>q.1.1,λq=>⟨⟨q,λz=>e z.2.2⟩,λz=>e z.2.2⟩⟩
theorem Wch.watch(h:Wch n S){k:Int}{p:Pr}(hp:lk S.prs k=some p)(hk:k∈S.late.map (·.1)){a b:Int}(i:a≠b)(o:a∈p.lits)(r:b∈p.lits):Wch n ⟨pt S.prs k ⟨p.lits,a,b⟩,fM (fM S.byl k a) k b,dl S.late k,S.head,S.seen⟩:=by
 have g:(pt S.prs k ⟨p.lits,a,b⟩).map (·.1)=S.prs.map (·.1):=gY _ hp;have l:∀j,j∈(dl S.late k).map (·.1)↔j∈S.late.map (·.1)∧j≠k:=λj=>pU h.lnd k j;have hz:∀y∈p.lits,y≠0:=λy hy e=>by
  have:=(h.lits k p hp).2.2.2 y hy;rw[e]at this;unfold au pz at this;split at this
  .omega
  .simp at this
 refine⟨?_,?_,?_,?_,?_,?_,?_⟩
 .show((pt S.prs k _).map (·.1)).Nodup;rw[g];exact h.nd
 .intro j q f;have f:lk (pt S.prs k ⟨p.lits,a,b⟩) j=some q:=f
  by_cases e:j=k
  .subst e;rw[dB]at f;cases f;exact h.lits j p hp
  .rw[dJ e]at f;exact h.lits j q f
 .exact In h.lnd k
 .intro j hj;obtain⟨h1,s⟩:=(l j).1 hj;show∃q,lk (pt S.prs k ⟨p.lits,a,b⟩) j=some q;rw[dJ s];exact h.lpr j h1
 .intro j q f;have f:lk (pt S.prs k ⟨p.lits,a,b⟩) j=some q:=f;show(j∈(dl S.late k).map (·.1)∧_)∨(j∉(dl S.late k).map (·.1)∧_);rw[l]
  by_cases e:j=k
  .subst e;rw[dB]at f;cases f;exact .inr ⟨λc=>c.2 rfl,i,o,r⟩
  .rw[dJ e]at f;rcases h.two j q f with⟨c,d⟩|⟨c,d⟩
   .exact .inl ⟨⟨c,e⟩,d⟩
   .exact .inr ⟨λz=>c z.1,d⟩
 .intro m;refine uO (λm=>uO h.bnd (h.nby hp hk a) m) ?_ m;rw[nU];rintro(c|c)
  .exact h.nby hp hk b c
  .exact i c.1.symm
 .intro m j;show j∈bF (fM (fM S.byl k a) k b) m↔m≠0∧∃q,lk (pt S.prs k ⟨p.lits,a,b⟩) j=some q∧_;rw[nU,nU]
  by_cases e:j=k
  .subst e;rw[dB];constructor
   .rintro((c|c)|c)
    .exact absurd c (h.nby hp hk m)
    .rw[c.1];exact⟨hz a o,_,rfl,.inl rfl⟩
    .rw[c.1];exact⟨hz b r,_,rfl,.inr rfl⟩
   .rintro⟨t,q,f,c⟩;cases f
    rcases c with c|c
    .exact .inl (.inr ⟨c.symm,rfl⟩)
    .exact .inr ⟨c.symm,rfl⟩
  .rw[dJ e,h.mem];constructor
   .rintro((c|c)|c)
    .exact c
    .exact absurd c.2 e
    .exact absurd c.2 e
   .exactλc=>.inl (.inl c)
theorem Wch.move(h:Wch n S){k l x:Int}{p:Pr}(hp:lk S.prs k=some p)(l0:l≠0)(i:p.x=l∨p.y=l)(hx:x∈p.lits)(h1:x≠l)(b:x≠nP l p):Wch n (pF S k l p x):=by
 have hk:k∉S.late.map (·.1):=λhk=>by
  obtain⟨D,E⟩:=h.zer hp hk;rw[D,E]at i;omega
 obtain⟨F,G,s,o,r⟩:=h.pos hp hk;have hz:x≠0:=λe=>by
  have:=(h.lits k p hp).2.2.2 x hx;rw[e]at this;unfold au pz at this;split at this
  .omega
  .simp at this
 have f:∀q:Pr,(pt S.prs k q).map (·.1)=S.prs.map (·.1):=λq=>gY _ hp;have w:(ik l p x).lits=p.lits∧(ik l p x).x≠(ik l p x).y∧(ik l p x).x∈p.lits∧(ik l p x).y∈p.lits∧∀m,((ik l p x).x=m∨(ik l p x).y=m)↔(x=m∨(m≠l∧(p.x=m∨p.y=m))):=by
  unfold ik;unfold nP at b
  by_cases c:p.x=l
  .rw[N9 c]at b⊢;refine⟨rfl,b,hx,r,λm=>?_⟩;show(x=m∨p.y=m)↔_;constructor
   .rintro(e|e)
    .exact .inl e
    .exact .inr ⟨λq=>s (by rw[c,e,q]),.inr e⟩
   .rintro(e|⟨g,e|e⟩)
    .exact .inl e
    .exact absurd (e.symm.trans c) g
    .exact .inr e
  .rw[N8 c]at b⊢;have hy:p.y=l:=i.elim (λe=>absurd e c) id;refine⟨rfl,λe=>b e.symm,o,hx,λm=>?_⟩;show(p.x=m∨x=m)↔_;constructor
   .rintro(e|e)
    .exact .inr ⟨λq=>c (e.trans q),.inl e⟩
    .exact .inl e
   .rintro(e|⟨g,e|e⟩)
    .exact .inr e
    .exact .inl e
    .exact absurd (e.symm.trans hy) g
 obtain⟨v,A,B,C,u⟩:=w;refine⟨?_,?_,h.lnd,?_,?_,?_,?_⟩
 .show((pt S.prs k _).map (·.1)).Nodup;rw[f];exact h.nd
 .intro j q a;have a:lk (pt S.prs k (ik l p x)) j=some q:=a
  by_cases e:j=k
  .subst e;rw[dB]at a;cases a;rw[v];exact h.lits j p hp
  .rw[dJ e]at a;exact h.lits j q a
 .intro j hj;show∃q,lk (pt S.prs k (ik l p x)) j=some q
  by_cases e:j=k
  .subst e;exact⟨_,dB⟩
  .rw[dJ e];exact h.lpr j hj
 .intro j q a;have a:lk (pt S.prs k (ik l p x)) j=some q:=a
  by_cases e:j=k
  .subst e;rw[dB]at a;cases a;rw[v];exact .inr ⟨hk,A,B,C⟩
  .rw[dJ e]at a;exact h.two j q a
 .intro m;refine uO (λm=>uN h.bnd k l m) ?_ m;rw[nT,h.mem];rintro⟨⟨_,q,a,c⟩,_⟩;rw[hp]at a;cases a
  unfold nP at b
  by_cases d:p.x=l
  .rw[N9 d]at b;rcases c with c|c
   .exact h1 (c.symm.trans d)
   .exact b c.symm
  .rw[N8 d]at b;rcases c with c|c
   .exact b c.symm
   .exact h1 (c.symm.trans (i.elim (λe=>absurd e d) id))
 .intro m j;show j∈bF (fM (eI S.byl k l) k x) m↔m≠0∧∃q,lk (pt S.prs k (ik l p x)) j=some q∧_;rw[nU,nT,h.mem]
  by_cases e:j=k
  .subst e;rw[dB];constructor
   .rintro(⟨⟨t,q,a,c⟩,d⟩|⟨c,_⟩)
    .rw[hp]at a;cases a
     exact⟨t,_,rfl,(u m).2 (.inr ⟨λz=>d ⟨l0,z,rfl⟩,c⟩)⟩
    .rw[c];exact⟨hz,_,rfl,(u x).2 (.inl rfl)⟩
   .rintro⟨t,q,a,c⟩;cases a
    rcases(u m).1 c with c|⟨c1,c2⟩
    .exact .inr ⟨c.symm,rfl⟩
    .exact .inl ⟨⟨t,p,hp,c2⟩,λz=>c1 z.2.1⟩
  .rw[dJ e];constructor
   .rintro(⟨c,_⟩|⟨_,c⟩)
    .exact c
    .exact absurd c e
   .exactλc=>.inl ⟨c,λz=>e z.2.2⟩
theorem Wch.put(h:Wch n S){k:Int}(hk:k∉S.prs.map (·.1))(k0:0<=k∧k<=20000000){lits:List Int}(hn:lits.Nodup)(l:lits.length<=1000)(i:∀y∈lits,au y n=0)(v:Int):Wch n ⟨pt S.prs k ⟨lits,0,0⟩,S.byl,pt S.late k v,S.head,S.seen⟩:=by
 have g:lk S.prs k=none:=by
  cases d:lk S.prs k with
  |none=>rfl
  |some p=>exact absurd (oO d) hk
 have f:∀j,j∈(pt S.late k v).map (·.1)↔j=k∨j∈S.late.map (·.1):=λj=>lw _ _ _ _;refine⟨ja _ _ _ h.nd,?_,ja _ _ _ h.lnd,?_,?_,h.bnd,?_⟩
 .intro j q d;have d:lk (pt S.prs k ⟨lits,0,0⟩) j=some q:=d
  by_cases e:j=k
  .subst e;rw[dB]at d;cases d;exact⟨k0,hn,l,i⟩
  .rw[dJ e]at d;exact h.lits j q d
 .intro j hj;show∃q,lk (pt S.prs k ⟨lits,0,0⟩) j=some q
  by_cases e:j=k
  .subst e;exact⟨_,dB⟩
  .rw[dJ e];rcases(f j).1 hj with c|c
   .exact absurd c e
   .exact h.lpr j c
 .intro j q d;have d:lk (pt S.prs k ⟨lits,0,0⟩) j=some q:=d;show(j∈(pt S.late k v).map (·.1)∧_)∨(j∉(pt S.late k v).map (·.1)∧_);rw[f]
  by_cases e:j=k
  .subst e;rw[dB]at d;cases d;exact .inl ⟨.inl rfl,rfl,rfl⟩
  .rw[dJ e]at d;rcases h.two j q d with⟨a,b⟩|⟨a,b⟩
   .exact .inl ⟨.inr a,b⟩
   .exact .inr ⟨λc=>c.elim e a,b⟩
 .intro m j;show j∈bF S.byl m↔m≠0∧∃q,lk (pt S.prs k ⟨lits,0,0⟩) j=some q∧_;rw[h.mem]
  by_cases e:j=k
  .subst e;rw[dB,g];constructor
   .rintro⟨_,q,d,_⟩;cases d
   .rintro⟨o,q,d,c⟩;cases d
    simp at c;exact absurd c.symm o
  .rw[dJ e]
end
inductive Grow (C:Int->List Int->Prop) (n:Nat) (T0:Tr):Tr->Prop
  |refl:Grow C n T0 T0
  |step {T:Tr} {k o:Int} {c:List Int}:Grow C n T0 T->C k c->o∈c->eV T o=0->0<=k->(∀y∈c,y≠o->-y∈T.lits)->Grow C n T0 (f9 T o k)
theorem Grow.trans{C:Int->List Int->Prop}{n:Nat}{T0 c d:Tr}(a:Grow C n T0 c)(b:Grow C n c d):Grow C n T0 d:=by
 induction b with
 |refl=>exact a
 |step _ h1 e f g h i=>exact .step i h1 e f g h
theorem Grow.mono{C b:Int->List Int->Prop}{n:Nat}{T0 d:Tr}(h:∀k c,C k c->b k c)(a:Grow C n T0 d):Grow b n T0 d:=by
 induction a with
 |refl=>exact .refl
 |step _ h1 e f g i j=>exact .step j (h _ _ h1) e f g i
theorem Grow.pre{C:Int->List Int->Prop}{n:Nat}{T0 b:Tr}(a:Grow C n T0 b):T0.lits<+:b.lits∧b.beg=T0.beg:=by
 induction a with
 |refl=>exact⟨RP _,rfl⟩
 |step _ h1 d e f g c=>exact⟨c.1.trans (List.prefix_append _ _),c.2⟩
def CW(S:WS)(k:Int)(c:List Int):Prop:=∃p,lk S.prs k=some p∧p.lits=c
structure SameL (S S':WS):Prop where
  keys:S'.prs.map (·.1)=S.prs.map (·.1)
  lits:∀k c,CW S' k c↔CW S k c
theorem SameL.refl(S:WS):SameL S S:=⟨rfl,λ_ _=>Iff.rfl⟩
theorem SameL.trans{S S' d:WS}(a:SameL S S')(b:SameL S' d):SameL S d:=⟨b.keys.trans a.keys,λk c=>(b.lits k c).trans (a.lits k c)⟩
theorem SameL.pt{S:WS}{k:Int}{p q:Pr}(hp:lk S.prs k=some p)(d:q.lits=p.lits)(byl:List (Int×List Int))(late:List (Int×Int))(hd:Int)(sn:List Int):SameL S ⟨Go.AX.pt S.prs k q,byl,late,hd,sn⟩where
 keys:=gY _ hp
 lits:=λj c=>by
  unfold CW;show(∃f,lk (Go.AX.pt S.prs k q) j=some f∧_)↔_
  by_cases e:j=k
  .subst e;rw[dB,hp];constructor
   .rintro⟨_,a,b⟩;cases a;exact⟨p,rfl,d▸b⟩
   .rintro⟨_,a,b⟩;cases a;exact⟨q,rfl,d.trans b⟩
  .rw[dJ e]
structure Pro (n:Nat) (S0:WS) (T0:Tr) (S:WS) (T:Tr):Prop where
  wch:Wch n S
  tok:TOk n T
  same:SameL S0 S
  grow:Grow (CW S0) n T0 T
  head:S.head=S0.head
  seen:S.seen=S0.seen
def mB(S:WS)(P:List Int):Prop:=∀y∈P,bF S.byl (-y)=[]
def lC(S:WS)(T:Tr)(k:Int):Prop:=∀p,lk S.prs k=some p->∃x∈p.lits,x∈T.lits
theorem lC.up{S S':WS}{T T':Tr}{k:Int}(h:lC S T k)(hs:SameL S S')(b:∀x∈T.lits,x∈T'.lits):lC S' T' k:=λp hp=>by
 obtain⟨q,c,e⟩:=(hs.lits k p.lits).1 ⟨p,hp,rfl⟩;obtain⟨x,hx,a⟩:=h q c;exact⟨x,e▸hx,b x a⟩
section
variable {n : Nat}
theorem rq{T:Tr}(d:TMk n T){lits:List Int}(e:∀y∈lits,au y n=0){x:Int}:x∈d6 T lits↔x∈lits∧-x∉T.lits:=by
 unfold d6;rw[OW];constructor
 .rintro⟨a,b⟩;refine⟨a,λc=>?_⟩;have:=(d.valm (e x a)).2 c;simp[this]at b
 .rintro⟨a,b⟩;refine⟨a,?_⟩;have h1:=d.val (e x a);rw[N8 b]at h1;split at h1<;>simp[h1]
theorem EV{T:Tr}{lits:List Int}(h:lits.Nodup):(d6 T lits).Nodup:=h.sublist R6
theorem EW{T:Tr}(a:TMk n T){lits:List Int}(b:∀y∈lits,au y n=0):j0 T lits=true↔∃x∈lits,x∈T.lits:=by
 unfold j0;rw[Qe];constructor
 .rintro⟨x,hx,e⟩;exact⟨x,hx,(a.val1 (b x hx)).1 (by simpa using e)⟩
 .rintro⟨x,hx,e⟩;exact⟨x,hx,by simpa using(a.val1 (b x hx)).2 e⟩
theorem AJ{T:Tr}(c:TMk n T){p:Pr}(d:∀y∈p.lits,au y n=0):lu T p=true↔∀y∈p.lits,-y∈T.lits:=by
 unfold lu;rw[Ov,Qk,Qt];constructor
 .intro h y hy;apply OF;intro e;exact h y ((rq c d).2 ⟨hy,e⟩)
 .intro h y hy;obtain⟨a,b⟩:=(rq c d).1 hy;exact b (h y a)
theorem Pro.fresh{S0 S:WS}{T0 T:Tr}(h:Pro n S0 T0 S T){k:Int}{p:Pr}(hp:lk S.prs k=some p)(hk:k∈S.late.map (·.1))(w:lu T p=false):
 Pro n S0 T0 (iO S T k p) (ki T k p)∧(∀j,j∈(iO S T k p).late.map (·.1)->j∈S.late.map (·.1))∧(∀j,j∈S.late.map (·.1)->j≠k->j∈(iO S T k p).late.map (·.1))∧(k∈(iO S T k p).late.map (·.1)->lC (iO S T k p) (ki T k p) k)∧SameL S (iO S T k p)∧Grow (CW S0) n T (ki T k p)∧
 (∀y,y∈T.lits->bF (iO S T k p).byl (-y)=bF S.byl (-y)):=by
 obtain⟨k0,s,A,m⟩:=h.wch.lits k p hp;have hin:=λx=>rq (x:=x) h.tok.toTMk m;have u:=EV (T:=T) s;have t:=EW h.tok.toTMk m;unfold iO ki;unfold lu at w;generalize d6 T p.lits=O at*;rcases O with _|⟨a,_|⟨b,O⟩⟩
 .simp at w
 .rw[N8 (by simp)];obtain⟨d,g⟩:=(hin a).1 (OA ..);cases hd:j0 T p.lits
  .rw[N9 ⟨rfl,rfl⟩];have r:a∉T.lits:=λe=>by rw[t.2 ⟨a,d,e⟩]at hd;cases hd
   have o:eV T a=0:=(h.tok.may a).2 ⟨m a d,r,g⟩;have C:jE T a k=f9 T a k:=by
    have B:yo T a k=0:=by
     unfold yo;rw[N8 (by simp[o]),N8 (by omega)]
    unfold jE;rw[N9 B]
   have l:CW S0 k p.lits:=(h.same.lits _ _).1 ⟨p,hp,rfl⟩;have ho:∀y∈p.lits,y≠a->-y∈T.lits:=λy hy c=>by
    apply OF;intro l;have:=(hin y).2 ⟨hy,l⟩;simp at this;exact c this
   rw[PR,C];have z:Grow (CW S0) n T (f9 T a k):=.step .refl l d o k0.1 ho;refine⟨⟨h.wch,h.tok.imp o k,h.same,h.grow.trans z,h.head,h.seen⟩,λ_ hj=>hj,λ_ hj _=>hj,λ_=>?_,SameL.refl _,z,λ_ _=>rfl⟩;intro q f;rw[hp]at f;cases f
   exact⟨a,d,PQ _ (by simp)⟩
  .rw[N8 (by simp)];refine⟨h,λ_ hj=>hj,λ_ hj _=>hj,λ_=>?_,SameL.refl _,.refl,λ_ _=>rfl⟩;intro q f;rw[hp]at f;cases f
   exact t.1 hd
 .rw[N9 (by simp),N8 (by simp)];simp only[PR,Qg];obtain⟨d,g⟩:=(hin a).1 (OA ..);obtain⟨b1,b2⟩:=(hin b).1 (by simp);have i:a≠b:=λe=>by
   rw[PC]at u;exact u.1 (by rw[e];simp)
  have D:=h.wch.watch hp hk i d b1;have v:SameL S ⟨pt S.prs k ⟨p.lits,a,b⟩,fM (fM S.byl k a) k b,dl S.late k,S.head,S.seen⟩:=SameL.pt (q:=⟨p.lits,a,b⟩) hp rfl _ _ _ _;refine⟨⟨D,h.tok,h.same.trans v,h.grow,h.head,h.seen⟩,λj hj=>((pU h.wch.lnd k j).1 hj).1,λj hj c=>(pU h.wch.lnd k j).2 ⟨hj,c⟩,λhj=>absurd rfl ((pU h.wch.lnd k k).1 hj).2,v,.refl,λy hy=>?_⟩;show bF (fM (fM S.byl k a) k b) (-y)=_;rw[lZ,N8 (λe=>b2 (by rw[←e,P1];exact hy)),lZ,N8 (λe=>g (by rw[←e,P1];exact hy))]
structure JL (n:Nat) (S0:WS) (T0:Tr) (P:List Int) (ks:List Int) (S:WS) (T:Tr):Prop extends Pro n S0 T0 S T where
  clr:mB S P
  sub':∀y∈P,y∈T.lits
  knd:ks.Nodup
  kin:∀k∈ks,k∈S.late.map (·.1)
  all:∀k∈S.late.map (·.1),k∈ks∨lC S T k
theorem JL.step{S0 S:WS}{T0 T:Tr}{P ks:List Int}{k:Int}(h:JL n S0 T0 P (k::ks) S T){p:Pr}(hp:lk S.prs k=some p)(g:lu T p=false):JL n S0 T0 P ks (iO S T k p) (ki T k p):=by
 obtain⟨a,b,d,f,f5,f6,f7⟩:=h.toPro.fresh hp (h.kin k (OA ..)) g;have hn:=PC.1 h.knd;exact{a with
  clr:=λy hy=>by rw[f7 y (h.sub' y hy)];exact h.clr y hy
  sub':=λy hy=>f6.pre.1.subset (h.sub' y hy)
  knd:=hn.2
  kin:=λj hj=>d j (h.kin j (Ou _ hj)) λe=>hn.1 (e▸hj)
  all:=λj hj=>by
   rcases h.all j (b j hj)with c|c
   .rcases OB.1 c with rfl|c
    .exact .inr (f hj)
    .exact .inl c
   .exact .inr (c.up f5 λx hx=>f6.pre.1.subset hx)}
def pd(S:WS)(T:Tr)(k:Int):Prop:=0<=k∧∃p,lk S.prs k=some p∧∀y∈p.lits,-y∈T.lits
theorem AK{S0:WS}{T0:Tr}{P:List Int}:∀{ks:List Int}{S:WS}{T:Tr},JL n S0 T0 P ks S T->
 ((gq ks S T).2.2=-1∧JL n S0 T0 P [] (gq ks S T).1 (gq ks S T).2.1)∨(0<=(gq ks S T).2.2∧Pro n S0 T0 (gq ks S T).1 (gq ks S T).2.1∧mB (gq ks S T).1 P∧(∀y∈P,y∈(gq ks S T).2.1.lits)∧pd (gq ks S T).1 (gq ks S T).2.1 (gq ks S T).2.2)
 |[],S,T,h=>.inl ⟨rfl,h⟩
 |k::ks,S,T,h=>by
  obtain⟨p,hp⟩:=h.wch.lpr k (h.kin k (OA ..));obtain⟨k0,_,_,b⟩:=h.wch.lits k p hp;rw[gq,hp];simp only;cases a:lu T p
  .rw[N8 (by simp)];exact AK (h.step hp a)
  .rw[N9 rfl];exact .inr ⟨k0.1,h.toPro,h.clr,h.sub',k0.1,p,hp,(AJ h.tok.toTMk b).1 a⟩
structure JF (n:Nat) (S0:WS) (T0:Tr) (P:List Int) (l:Int) (zs:List Int) (S:WS) (T:Tr):Prop extends Pro n S0 T0 S T where
  clr:mB S P
  sub':∀y∈P,y∈T.lits
  by':bF S.byl l=zs
  fail:-l∈T.lits
  held:∀k∈S.late.map (·.1),lC S T k
theorem JF.look{S0 S:WS}{T0 T:Tr}{P zs:List Int}{l k:Int}(h:JF n S0 T0 P l (k::zs) S T):∃p,lk S.prs k=some p∧l≠0∧(p.x=l∨p.y=l)∧k∉S.late.map (·.1):=by
 have hk:k∈bF S.byl l:=by rw[h.by'];exact OA ..
 obtain⟨l0,p,hp,b⟩:=(h.wch.mem l k).1 hk;exact⟨p,hp,l0,b,λa=>h.wch.nby hp a l hk⟩
theorem oP{k:Int}{zs:List Int}(h:(k::zs).Nodup):aV (λx=>decide (x=k)) (k::zs)=zs:=by
 have hn:=PC.1 h;unfold aV;rw[O5,N8 (by simp),Qf];intro x hx;have:x≠k:=λe=>hn.1 (e▸hx);simp[this]
theorem gg{byl:List (Int×List Int)}{k l m:Int}(h:bF byl m=[]):bF (eI byl k l) m=[]:=by
 rw[iE];split
 .rename_i c;rw[←c.2,h];rfl
 .exact h
theorem Hr{l:Int}{p:Pr}(a:p.x≠p.y)(b:p.x=l∨p.y=l):(p.x=l∧nP l p=p.y∧p.y≠l)∨(p.y=l∧nP l p=p.x∧p.x≠l):=by
 unfold nP
 by_cases c:p.x=l
 .rw[N9 c];exact .inl ⟨c,rfl,λe=>a (c.trans e.symm)⟩
 .rw[N8 c];exact .inr ⟨b.elim (λe=>absurd e c) id,rfl,c⟩
theorem JF.step{S0 S:WS}{T0 T:Tr}{P zs:List Int}{l k:Int}(h:JF n S0 T0 P l (k::zs) S T){p:Pr}(hp:lk S.prs k=some p)(hb:oN T l p=false):JF n S0 T0 P l zs (nc S T l k p) (nR T l k p):=by
  obtain⟨q,hq,l0,hl,hk⟩:=h.look
  rw[hp]at hq
  cases hq
  obtain⟨x0,y0,hxy,hpx,hpy⟩:=h.wch.pos hp hk
  obtain⟨k0,hnd,hlen,hchk⟩:=h.wch.lits k p hp
  have hnz:(k::zs).Nodup:=by rw[←h.by'];exact h.wch.bnd l
  unfold nc nR
  unfold oN at hb
  cases hpk:lz T l p with
  |some x=>
    unfold lz at hpk
    have hx:=List.mem_of_find?_eq_some hpk
    have ho:=List.find?_some hpk
    unfold Jg at ho
    simp only[Og,Ov]at ho
    obtain⟨o1,o2,o3⟩:=ho
    have hW:=h.wch.move hp l0 hl hx o1 o2
    have hM:(ik l p x).lits=p.lits:=by unfold ik;split<;>rfl
    have hS:SameL S (pF S k l p x):=SameL.pt hp hM _ _ _ _
    have hnx:-x∉T.lits:=λe=>by
      have:=(h.tok.valm (hchk x hx)).2 e
      omega
    exact { wch := hW, tok := h.tok, same := h.same.trans hS, grow := h.grow, head := h.head, seen := h.seen
            clr:=λy hy=>by
              show bF (fM (eI S.byl k l) k x) (-y)=[]
              rw[lZ,N8 (λe=>hnx (by rw[←e,P1];exact h.sub' y hy))]
              exact gg (h.clr y hy)
            sub':=h.sub'
            by':=by
              show bF (fM (eI S.byl k l) k x) l=zs
              rw[lZ,N8 (λe=>o1 e.symm),iE,N9 ⟨l0,rfl⟩,h.by',oP hnz]
            fail:=h.fail
            held:=λj hj=>(h.held j hj).up hS λ_ hx=>hx}
  |none=>
    rw[hpk]at hb
    simp only at hb⊢
    have hL:=h.wch.toLate hp hk (a8 ((lk S.late k).getD 0+1))
    have hS1:SameL S (j7 (lr S k p) k):=SameL.pt (q:=⟨p.lits,0,0⟩) hp rfl _ _ _ _
    have hP1:Pro n S0 T0 (j7 (lr S k p) k) T:=⟨hL,h.tok,h.same.trans hS1,h.grow,h.head,h.seen⟩
    have hlk:∀j,j∈(j7 (lr S k p) k).late.map (·.1)↔j=k∨j∈S.late.map (·.1):=λj=>lw _ _ _ _
    have hp1:lk (j7 (lr S k p) k).prs k=some (nQ p):=dB
    obtain⟨f1,f2,f3,f4,f5,f6,f7⟩:=hP1.fresh hp1 ((hlk k).2 (.inl rfl)) hb
    have hby:bF (j7 (lr S k p) k).byl l=zs:=by
      show bF (eI (eI S.byl k p.x) k p.y) l=zs
      rcases Hr hxy hl with⟨c,_,d⟩|⟨c,_,d⟩
      · rw[iE,N8 (λe=>d e.2.symm),iE,N9 ⟨x0,c.symm⟩,c,h.by',oP hnz]
      · rw[iE,N9 ⟨y0,c.symm⟩,c,iE,N8 (λe=>d e.2.symm),h.by',oP hnz]
    have hsub:∀y∈T.lits,y∈(ki T k (nQ p)).lits:=λy hy=>f6.pre.1.subset hy
    exact{f1 with
      clr:=λy hy=>by
        rw[f7 y (h.sub' y hy)]
        exact gg (gg (h.clr y hy))
      sub':=λy hy=>hsub y (h.sub' y hy)
      by':=by
        have:=f7 (-l) h.fail
        rw[P1]at this
        rw[this];exact hby
      fail:=hsub _ h.fail
      held:=λj hj=>by
        rcases(hlk j).1 (f2 j hj)with rfl|c
        · exact f4 hj
        · exact((h.held j c).up (hS1.trans f5) hsub)}
theorem JF.bad{S0 S:WS}{T0 T:Tr}{P zs:List Int}{l k:Int}(h:JF n S0 T0 P l (k::zs) S T){p:Pr}(hp:lk S.prs k=some p)(a:oN T l p=true):
 Pro n S0 T0 (nc S T l k p) (nR T l k p)∧mB (nc S T l k p) P∧nR T l k p=T∧pd (nc S T l k p) T k:=by
 obtain⟨q,i,l0,s,hk⟩:=h.look;rw[hp]at i;cases i
 obtain⟨k0,r,g,b⟩:=h.wch.lits k p hp;unfold nc nR;unfold oN at a;cases c:lz T l p with
 |some x=>rw[c]at a;cases a
 |none=>
  rw[c]at a;simp only at a⊢;have f:=a;unfold lu at f;rw[Ov]at f;have j:iO (j7 (lr S k p) k) T k (nQ p)=j7 (lr S k p) k:=by unfold iO;rw[N8 (by omega)]
  have m:ki T k (nQ p)=T:=by unfold ki;rw[N8 (by omega)]
  rw[j,m];have o:=h.wch.toLate hp hk (a8 ((lk S.late k).getD 0+1));have d:SameL S (j7 (lr S k p) k):=SameL.pt (q:=⟨p.lits,0,0⟩) hp rfl _ _ _ _;have e:lk (j7 (lr S k p) k).prs k=some (nQ p):=dB;exact⟨⟨o,h.tok,h.same.trans d,h.grow,h.head,h.seen⟩,λy hy=>gg (gg (h.clr y hy)),rfl,k0.1,_,e,(AJ (p:=nQ p) h.tok.toTMk b).1 a⟩
theorem AL{S0:WS}{T0:Tr}{P:List Int}{l:Int}:∀{zs:List Int}{S:WS}{T:Tr},JF n S0 T0 P l zs S T->
 ((ge l zs S T).2.2=-1∧JF n S0 T0 P l [] (ge l zs S T).1 (ge l zs S T).2.1)∨(0<=(ge l zs S T).2.2∧Pro n S0 T0 (ge l zs S T).1 (ge l zs S T).2.1∧mB (ge l zs S T).1 P∧(∀y∈P,y∈(ge l zs S T).2.1.lits)∧pd (ge l zs S T).1 (ge l zs S T).2.1 (ge l zs S T).2.2)
 |[],S,T,h=>.inl ⟨rfl,h⟩
 |k::zs,S,T,h=>by
  obtain⟨p,hp,_⟩:=h.look;rw[ge,hp];simp only;cases a:oN T l p
  .rw[N8 (by simp)];exact AL (h.step hp a)
  .rw[N9 rfl];obtain⟨b1,b2,b3,b4⟩:=h.bad hp a;exact .inr ⟨b4.1,b1,b2,λy hy=>by rw[b3];exact h.sub' y hy,by rw[b3];exact b4⟩
end
structure JC (n:Nat) (S0:WS) (T0:Tr) (S:WS) (T:Tr):Prop where
  wch:Wch n S
  tok:TOk n T
  same:SameL S0 S
  grow:Grow (CW S0) n T0 T
  seen:S.seen=S0.seen
  h0:0<=S.head
  h1:S.head<=T.lits.length
  clr:mB S (T.lits.take S.head.toNat)
structure JP (n:Nat) (S0:WS) (T0:Tr) (S:WS) (T:Tr):Prop extends JC n S0 T0 S T where
  held:∀k∈S.late.map (·.1),lC S T k
section
variable {n : Nat} {S0 : WS} {T0 : Tr}
theorem CW.same{S S':WS}(h:SameL S S'){n:Nat}{T T':Tr}(g:Grow (CW S') n T T'):Grow (CW S) n T T':=g.mono λk c a=>(h.lits k c).1 a
theorem SameL.len{S S':WS}(h:SameL S S'):S'.prs.length=S.prs.length:=by
 have:=QH List.length h.keys;simpa using this
theorem rr{l l':List Int}(h:l<+:l'){k:Nat}(hk:k<=l.length):l'.take k=l.take k:=by
 obtain⟨t,rfl⟩:=h;exact PU hk
theorem JP.neg{S:WS}{T:Tr}(h:JP n S0 T0 S T)(hd:S.head<T.lits.length):∃i:Nat,∃hi:i<T.lits.length,S.head=i∧dt T S=-T.lits[i]:=by
 have h0:=h.h0;refine⟨S.head.toNat,by omega,by omega,?_⟩;have hi:S.head.toNat<T.lits.length:=by omega
 unfold dt;rw[N7,N6 hi,OH];exact(bm h.tok.hn (h.tok.chk _ (Od hi))).2.2.2.2.2.2.2
theorem JP.begin{S:WS}{T:Tr}(h:JP n S0 T0 S T){i:Nat}(hi:i<T.lits.length)(hh:S.head=i):JF n S T (T.lits.take i) (-T.lits[i]) (bF S.byl (-T.lits[i])) S T:=
  { wch := h.wch, tok := h.tok, same := SameL.refl _, grow := .refl, head := rfl, seen := rfl
    clr:=by have:=h.clr;rw[hh]at this;exact this
    sub':=λy hy=>OX hy
    by':=rfl
    fail:=by rw[P1];exact Od hi
    held:=h.held}
theorem Hs(S:WS)(T:Tr)(l:Int):eW S T l=ge l (bF S.byl l) S T:=by
 unfold eW bF;cases lk S.byl l with
 |none=>rfl
 |some zs=>rfl
theorem EX{S:WS}{i:Nat}(h:S.head=i)(hi:i<1000000):Jh S=⟨S.prs,S.byl,S.late,((i+1:Nat):Int),S.seen⟩:=by
 unfold Jh;rw[h,ap (by omega) (by omega)];rfl
theorem JP.go{S:WS}{T:Tr}(h:JP n S0 T0 S T)(hd:S.head<T.lits.length):
    ((eW S T (dt T S)).2.2=-1∧JP n S0 T0 (Jh (eW S T (dt T S)).1) (eW S T (dt T S)).2.1∧(eW S T (dt T S)).1.head=S.head∧T.lits<+:(eW S T (dt T S)).2.1.lits)∨
    (0<=(eW S T (dt T S)).2.2∧JC n S0 T0 (eW S T (dt T S)).1 (eW S T (dt T S)).2.1∧pd (eW S T (dt T S)).1 (eW S T (dt T S)).2.1 (eW S T (dt T S)).2.2):=by
  obtain⟨i,hi,hh,hn⟩:=h.neg hd
  have hfew:=h.tok.few
  have hn5:=h.tok.hn
  rw[hn,Hs]
  rcases AL (h.begin hi hh)with⟨r1,r2⟩|⟨r1,r2,r3,r4,r5⟩
  · left
    generalize ge (-T.lits[i]) (bF S.byl (-T.lits[i])) S T=R at*
    have hpre:=r2.grow.pre.1
    have hhd:R.1.head=i:=r2.head.trans hh
    rw[EX hhd (by omega)]
    refine⟨r1,?_,r2.head,hpre⟩
    have hle:=hpre.length_le
    exact { wch := ⟨r2.wch.nd, r2.wch.lits, r2.wch.lnd, r2.wch.lpr, r2.wch.two, r2.wch.bnd, r2.wch.mem⟩
            tok:=r2.tok,same:=h.same.trans ⟨r2.same.keys,r2.same.lits⟩,grow:=h.grow.trans (CW.same h.same r2.grow),seen:=r2.seen.trans h.seen
            h0:=by show(0:Int)<=((i+1:Nat):Int);omega
            h1:=by show((i+1:Nat):Int)<=_;omega
            clr:=by
              show mB _ (R.2.1.lits.take ((i+1:Nat):Int).toNat)
              rw[show((i+1:Nat):Int).toNat=i+1 by omega,rr hpre (by omega),Pj,N6 hi]
              intro y hy
              rcases Om.1 hy with hy|hy
              · exact r2.clr y hy
              · simp at hy;rw[hy];exact r2.by'
            held:=r2.held}
  · right
    generalize ge (-T.lits[i]) (bF S.byl (-T.lits[i])) S T=R at*
    have hpre:=r2.grow.pre.1
    have hle:=hpre.length_le
    refine⟨r1,?_,r5⟩
    have hhd:R.1.head=i:=r2.head.trans hh
    exact { wch := r2.wch, tok := r2.tok, same := h.same.trans r2.same, grow := h.grow.trans (CW.same h.same r2.grow), seen := r2.seen.trans h.seen
            h0:=by omega,h1:=by omega
            clr:=by rw[hhd,show(i:Int).toNat=i by omega,rr hpre (by omega)];exact r3}
theorem AM:∀{m:Nat}{S:WS}{T:Tr},JP n S0 T0 S T->1000001<=S.head+m->
 ((jM m S T).2.2=-1∧JP n S0 T0 (jM m S T).1 (jM m S T).2.1∧(jM m S T).1.head=(jM m S T).2.1.lits.length)∨
 (0<=(jM m S T).2.2∧JC n S0 T0 (jM m S T).1 (jM m S T).2.1∧pd (jM m S T).1 (jM m S T).2.1 (jM m S T).2.2)
 |0,S,T,h,d=>by
  have:=h.h1;have:=h.tok.few;have:=h.tok.hn;omega
 |m+1,S,T,h,d=>by
  rw[jM]
  by_cases hd:S.head<T.lits.length
  .rw[N9 hd];rcases h.go hd with⟨a,b,r3,e⟩|⟨a,b,r3⟩
   .rw[N8 (by omega)];refine AM b ?_;obtain⟨i,hi,c,_⟩:=h.neg hd;have:=h.tok.few;have:=h.tok.hn;rw[EX (r3.trans c) (by omega)];show 1000001<=((i+1:Nat):Int)+m;omega
   .rw[N9 a];exact .inr ⟨a,b,r3⟩
  .rw[N8 hd];have:=h.h1;exact .inl ⟨rfl,h,by show S.head=T.lits.length;omega⟩
theorem JF.stepOk{P zs:List Int}{l k:Int}{S:WS}{T:Tr}(h:JF n S0 T0 P l (k::zs) S T)(f:S.prs.length<=1000000):∃p,StepOk S T l k p:=by
 obtain⟨p,hp,l0,c,hk⟩:=h.look;obtain⟨d,r,b,i,j⟩:=h.wch.pos hp hk;have a:∀m:Int,m≠0->(p.x=m∨p.y=m)->∃zs,lk S.byl m=some zs∧zs≠[]:=λm o g=>by
  obtain⟨zs,e,hz⟩:=h.wch.entry hp o g;exact⟨zs,e,λq=>by rw[q]at hz;cases hz⟩
 have:=h.tok.few;have:=h.tok.hn;refine⟨p,hp,l0,c,by have:=(h.wch.lits k p hp).2.2.1;omega,a l l0 c,λ_=>a _ d (.inl rfl),λ_=>?_,h.wch.hz f,h.tok.okT,by omega⟩;obtain⟨zs,e,hz⟩:=a _ r (.inr rfl);refine⟨zs,?_,hz⟩;unfold eI;rw[N8 d,bD,N8 b];exact e
theorem Mf(f:S0.prs.length<=1000000):ProOk (JP n S0 T0)where
 ok:=λS T h=>by
  have:=h.tok.few;have:=h.tok.hn;exact⟨h.tok.okT,by omega,h.h0,h.h1⟩
 step:=λS T h hd zs b=>by
  obtain⟨i,hi,g,hn⟩:=h.neg hd;have a:S.prs.length<=1000000:=by rw[h.same.len];exact f
  refine⟨h.wch.hz a _ _ b,λj S' T'=>JF n S T (T.lits.take i) (dt T S) (zs.drop j) S' T',?_,λj S' T' hj c=>?_⟩
  .show JF n S T (T.lits.take i) (dt T S) zs S T;rw[←AI b,hn];exact h.begin hi g
  .have hj:JF n S T (T.lits.take i) (dt T S) (zs.drop j) S' T':=hj;rw[O0 c]at hj;obtain⟨p,d⟩:=hj.stepOk (by rw[hj.same.len];exact a);exact⟨p,d,λe=>hj.step d.hp e⟩
 len:=λS T h hd=>by
  have k:=h.tok.hn;rcases h.go hd with⟨_,r,_⟩|⟨_,r,_⟩
  .have:=r.tok.few;omega
  .have:=r.tok.few;omega
 next:=λS T h hd hk=>by
  rcases h.go hd with r|⟨r,_⟩
  .exact r
  .exact absurd r hk
end
structure WOk (n:Nat) (S:WS):Prop extends Wch n S where
  few:S.prs.length<=1000000
  h0:0<=S.head
  h1:S.head<=S.seen.length
  sl:S.seen.length<=1000000
  clr:mB S (S.seen.take S.head.toNat)
structure PrpOk (n:Nat) (S:WS) (T:Tr) (R:WS×Tr×Int):Prop where
  ok:WOk n R.1
  tok:TOk n R.2.1
  same:SameL S R.1
  grow:Grow (CW S) n T R.2.1
  seen:R.1.seen=R.2.1.lits
  res:(R.2.2=-1∧∀k p,lk R.1.prs k=some p->(∃x∈p.lits,x∈R.2.1.lits)∨∃x y,x∈p.lits∧y∈p.lits∧x≠y∧-x∉R.2.1.lits∧-y∉R.2.1.lits)∨pd R.1 R.2.1 R.2.2
theorem AN:∀(a b:List Int),gx a b<=a.length∧gx a b<=b.length
 |[],_=>⟨Oz _,Oz _⟩
 |_::_,[]=>⟨Oz _,Oz _⟩
 |x::a,y::b=>by
  rw[gx];have:=AN a b;simp only[OC];split<;>omega
theorem tp:∀(a b:List Int)(k:Nat),k<=gx a b->a.take k=b.take k
 |a,b,0,_=>by simp
 |[],_,k+1,h=>by rw[gx]at h;omega;intros;simp_all
 |_::_,[],k+1,h=>by rw[gx]at h;omega;intros;simp_all
 |x::a,y::b,k+1,h=>by
  rw[gx]at h;split at h
  .rename_i e;rw[Rt,Rt,e,tp a b k (by omega)]
  .omega
section
variable {n : Nat} {S : WS} {T : Tr}
theorem WOk.shr(h:WOk n S)(a:TOk n T):JC n (b9 S T.lits) T (b9 S T.lits) T:=by
 obtain⟨f,g⟩:=AN S.seen T.lits;have b:=h.h0;have e:(b9 S T.lits).head=if(gx S.seen T.lits:Int)<S.head then(gx S.seen T.lits:Int)else S.head:=rfl;have a0:0<=(b9 S T.lits).head:=by rw[e];split<;>omega
 have c:(b9 S T.lits).head<=gx S.seen T.lits:=by rw[e];split<;>omega
 have d:(b9 S T.lits).head<=S.head:=by rw[e];split<;>omega
 refine{wch:=⟨h.nd,h.lits,h.lnd,h.lpr,h.two,h.bnd,h.mem⟩,tok:=a,same:=SameL.refl _,grow:=.refl,seen:=rfl,h0:=a0,h1:=by omega,clr:=?_};rw[←tp S.seen T.lits _ (by omega)];intro y hy;refine h.clr y ?_;have:S.seen.take (b9 S T.lits).head.toNat<+:S.seen.take S.head.toNat:=List.take_prefix_take_left (by omega);exact this.subset hy
theorem WOk.jl(h:WOk n S)(hT:TOk n T):JL n (b9 S T.lits) T (T.lits.take (b9 S T.lits).head.toNat) (dE (S.late.map (·.1))) (b9 S T.lits) T:=
  have hc:=h.shr hT
  { wch := hc.wch, tok := hT, same := SameL.refl _, grow := .refl, head := rfl, seen := rfl
    clr:=hc.clr
    sub':=λy hy=>OX hy
    knd:=wM h.lnd
    kin:=λk hk=>ti.1 hk
    all:=λk hk=>.inl (ti.2 hk)}
theorem Pro.jc{S0 S':WS}{T0 T':Tr}(h:Pro n S0 T0 S' T')(h0:0<=S0.head)(h1:S0.head<=T0.lits.length)(hc:mB S' (T0.lits.take S0.head.toNat)):JC n S0 T0 S' T':=by
  have hpre:=h.grow.pre.1
  have hle:=hpre.length_le
  exact { wch := h.wch, tok := h.tok, same := h.same, grow := h.grow, seen := h.seen, h0 := by rw [h.head]; exact h0, h1 := by rw [h.head]; omega
          clr:=by rw[h.head,rr hpre (by omega)];exact hc}
theorem AO(h:WOk n S)(d:TOk n T):
 ((eX (b9 S T.lits) T).2.2=-1∧JP n (b9 S T.lits) T (eX (b9 S T.lits) T).1 (eX (b9 S T.lits) T).2.1)∨
 (0<=(eX (b9 S T.lits) T).2.2∧JC n (b9 S T.lits) T (eX (b9 S T.lits) T).1 (eX (b9 S T.lits) T).2.1∧pd (eX (b9 S T.lits) T).1 (eX (b9 S T.lits) T).2.1 (eX (b9 S T.lits) T).2.2):=by
 have b:=h.shr d;have e:eX (b9 S T.lits) T=gq (dE (S.late.map (·.1))) (b9 S T.lits) T:=rfl;rw[e];rcases AK (h.jl d)with⟨c,a⟩|⟨c,a,r3,g,f⟩
 .exact .inl ⟨c,{a.toPro.jc b.h0 b.h1 a.clr with held:=λk hk=>(a.all k hk).resolve_left (by simp)}⟩
 .exact .inr ⟨c,a.jc b.h0 b.h1 r3,f⟩
theorem JC.fin{S':WS}{T':Tr}{k:Int}(f:S.prs.length<=1000000)(h:JC n (b9 S T.lits) T S' T')
 (i:(k=-1∧(∀k∈S'.late.map (·.1),lC S' T' k)∧S'.head=T'.lits.length)∨pd S' T' k):PrpOk n S T (⟨S'.prs,S'.byl,S'.late,S'.head,T'.lits⟩,T',k):=by
 have d:=h.tok.few;have hn:=h.tok.hn;have e:Wch n ⟨S'.prs,S'.byl,S'.late,S'.head,T'.lits⟩:=⟨h.wch.nd,h.wch.lits,h.wch.lnd,h.wch.lpr,h.wch.two,h.wch.bnd,h.wch.mem⟩;refine⟨{e with few:=by show S'.prs.length<=_;rw[h.same.len];exact f,h0:=h.h0,h1:=h.h1,sl:=by show T'.lits.length<=_;omega,clr:=h.clr},h.tok,⟨h.same.keys,h.same.lits⟩,h.grow,rfl,?_⟩;rcases i with⟨rfl,j,l⟩|⟨k0,p,hp,r⟩
 .refine .inl ⟨rfl,λk p hp=>?_⟩;have hp:lk S'.prs k=some p:=hp
  by_cases c:k∈S'.late.map (·.1)
  .exact .inl (j k c p hp)
  .obtain⟨b,m,a,hx,hy⟩:=h.wch.pos hp c;have key:∀x,x≠0->(p.x=x∨p.y=x)->-x∉T'.lits:=λx b hx g=>by
    have:=h.clr (-x) (by rw[l,show(T'.lits.length:Int).toNat=T'.lits.length by omega,OT];exact g);rw[P1]at this;have hk:=(h.wch.mem x k).2 ⟨b,p,hp,hx⟩;rw[this]at hk;cases hk
   exact .inr ⟨p.x,p.y,hx,hy,a,key _ b (.inl rfl),key _ m (.inr rfl)⟩
 .exact .inr ⟨k0,p,hp,r⟩
theorem EY(h:WOk n S)(f:TOk n T):PrpOk n S T (er S T):=by
 have i:=h.shr f;have b:gy S T=if 0<=(eX (b9 S T.lits) T).2.2 then eX (b9 S T.lits) T else jM 1000001 (eX (b9 S T.lits) T).1 (eX (b9 S T.lits) T).2.1:=rfl;have hp:er S T=(⟨(gy S T).1.prs,(gy S T).1.byl,(gy S T).1.late,(gy S T).1.head,(gy S T).2.1.lits⟩,(gy S T).2.1,(gy S T).2.2):=rfl;rw[hp];rcases AO h f with⟨g,e⟩|⟨g,e,r3⟩
 .rw[N8 (by omega)]at b;have:=e.h0;rcases AM (m:=1000001) e (by omega)with⟨d,a,c⟩|⟨d,a,c⟩
  .rw[←b]at d a c;exact a.toJC.fin h.few (.inl ⟨d,a.held,c⟩)
  .rw[←b]at d a c;exact a.fin h.few (.inr c)
 .rw[N9 g]at b;rw[b];exact e.fin h.few (.inr r3)
theorem EZ(h:List (List SV))(bw ba bt:Nat)(mp:List (Int×Nat))(mb:List (Int×By))(A:Ar)(L:LayW h bw ba bt mp mb A T S)(b:WOk n S)(d:TOk n T):
 aB Tryz.prog 91 [.ptr bw 0] h (λr h'=>r=.pv (ae (er S T).2.2)∧∃mb',LayW h' bw ba bt mp mb' A (er S T).2.1 (er S T).1∧Ext h h' (aO bw bt mp mb) (aO bw bt mp mb')):=by
 have f:=d.few;have hn:=d.hn;have hj:=b.jl d;have c:=AO b d;refine rW h bw ba bt mp mb A T S L (by omega) b.sl (dE (S.late.map (·.1))) rfl (λi S' T'=>JL n (b9 S T.lits) T (T.lits.take (b9 S T.lits).head.toNat) ((dE (S.late.map (·.1))).drop i) S' T') (by rw[Q4];exact hj) ?_ ?_ ?_ ?_ ?_ (JP n (b9 S T.lits) T) (Mf b.few) ?_
 .intro q m;obtain⟨p,hp⟩:=b.lpr q.1 (Qh m);have:=(b.lits _ _ hp).1;exact Ew (by omega) (by omega)
 .have g:S.late.map (·.1)⊆S.prs.map (·.1):=λk hk=>by
   obtain⟨p,hp⟩:=b.lpr k hk;exact oO hp
  have:=(cX _ _ b.lnd g);rw[Oj,Oj]at this;have:=b.few;omega
 .intro i S' T' a hi;have a:JL n (b9 S T.lits) T (T.lits.take (b9 S T.lits).head.toNat) ((dE (S.late.map (·.1))).drop i) S' T':=a;rw[O0 hi]at a;have l:S'.prs.length<=1000000:=by rw[a.same.len];exact b.few
  obtain⟨p,hp⟩:=a.wch.lpr _ (a.kin _ (OA ..));have:=a.tok.few;exact⟨a.tok.okT,by omega,a.wch.hz l,p,hp,by have:=(a.wch.lits _ _ hp).2.2.1;omega⟩
 .intro i S' T' p a hi hp j;have a:JL n (b9 S T.lits) T (T.lits.take (b9 S T.lits).head.toNat) ((dE (S.late.map (·.1))).drop i) S' T':=a;rw[O0 hi]at a;exact a.step hp j
 .rcases c with⟨_,r⟩|⟨_,r,_⟩
  .have:=r.tok.few;omega
  .have:=r.tok.few;omega
 .intro hk;rcases c with⟨e,o⟩|⟨e,_⟩
  .exact⟨e,o⟩
  .exact absurd e hk
end
structure UOk (n:Nat) (cs:List (List Int)):Prop where
  hn:n<=100000
  nd:∀c∈cs,c.Nodup
  len:∀c∈cs,c.length<=1000
  chk:∀c∈cs,∀y∈c,au y n=0
def Cons(L:List Int):Prop:=∀y∈L,-y∉L
theorem Io{n:Nat}(hn:n<=100000){y:Int}(hy:au y n=0)(l:List Int):b8 l y=if y∈l then 1 else if-y∈l then-1 else 0:=by
 obtain⟨_,_,_,_,_,_,hx,a⟩:=bm hn hy;unfold b8;rw[N8 (by omega),a]
theorem uP{n:Nat}(hn:n<=100000){y:Int}(hy:au y n=0){l:List Int}:b8 l y=-1↔y∉l∧-y∈l:=by
 rw[Io hn hy];split
 .simp_all
 .split<;>simp_all
theorem Ht{n:Nat}(hn:n<=100000){y:Int}(hy:au y n=0){l:List Int}:b8 l y=0↔y∉l∧-y∉l:=by
 rw[Io hn hy];split
 .simp_all
 .split<;>simp_all
section
variable {n : Nat} {cs : List (List Int)} (h : UOk n cs)
include h
theorem UOk.unit_of{L c:List Int}(f:Cons L)(a:c∈cs){x:Int}(hx:x∈c)(h1:x∉L)(d:-x∉L)(ho:∀y∈c,y≠x->-y∈L):ft L c=(x,true):=
 Go.AX.unit_of (h.len c a) (h.nd c a) hx (bm h.hn (h.chk c a x hx)).2.2.2.2.2.2.1 ((Ht h.hn (h.chk c a x hx)).2 ⟨h1,d⟩)
  λy hy b=>(uP h.hn (h.chk c a y hy)).2 ⟨λe=>f y e (ho y hy b),ho y hy b⟩
theorem UOk.fail{L c:List Int}(b:Cons L)(a:c∈cs):DR L c=-1↔∀y∈c,-y∈L:=by
 rw[lp];constructor
 .exactλq y hy=>((uP h.hn (h.chk c a y hy)).1 (q y hy (bm h.hn (h.chk c a y hy)).2.2.2.2.2.2.1)).2
 .exactλq y hy _=>(uP h.hn (h.chk c a y hy)).2 ⟨λe=>b y e (q y hy),q y hy⟩
end
section
variable {n : Nat} {cs : List (List Int)} {L0 L : List Int}
end
end Go.AX
namespace Go.AX
set_option maxRecDepth 16000
open Go.Proofs
set_option linter.unusedSimpArgs false
def dW(T:Tr)(v:Int):Tr:=if(if v<0 then 0 else v)<(T.beg.length:Int)then cq T (if v<0 then(0:Int)else v).toNat else T
theorem TOk.bak{n:Nat}{T:Tr}(h:TOk n T)(v:Int):TOk n (dW T v):=by
 unfold dW;obtain⟨m,a⟩:∃m:Int,(if v<0 then(0:Int)else v)=m:=⟨_,rfl⟩;have b:0<=m:=by rw[←a];split<;>omega
 rw[a]
 by_cases c:m<(T.beg.length:Int)
 .rw[N9 c];exact(h.back (by omega)).1
 .rw[N8 c];exact h
theorem E8(h:List (List SV))(b:Nat)(T:Tr)(g:h[b]?=some (fD T))(v:Int)(j:¬(if v<0 then 0 else v)<(T.beg.length:Int)):
 aB Tryz.prog 131 [.ptr b 0,ae v] h (λr h'=>h'=h∧r=.pv (.seq true 1 (af []))):=by
 refine lj [] [.tmp 4] aG Tryz.func131 ?_;obtain⟨d,e⟩:=N5.1 g;have c:=ll T;have a:∀n,br h (n+1) b 0=bB T:=λn=>cJ g n;simp only[bB]at c a;obtain⟨m,i⟩:∃m:Int,(if v<0 then(0:Int)else v)=m:=⟨_,rfl⟩;rw[i]at j;have f:(T.beg.length:Int)<=m:=by omega
 simp[i];refine am.introP (r:=.pv (BL true)) (by simpa[a]using c) ?_ (by simp[d]) (by simp);simp[e,d,fD,f,af,cw,cE]
theorem E9(h:List (List SV))(b:Nat)(T:Tr)(F:h[b]?=some (fD T))(v:Int)(k:Nat)(K:(if v<0 then(0:Int)else v)=k)(hk:k<T.beg.length)(h0:0<=T.beg.getD k 0∧T.beg.getD k 0<=T.lits.length)(hs:T.lits.length<=1000000)(Q:∀y∈T.lits,0<=ab y∧ab y<T.marks.length):
 aB Tryz.prog 131 [.ptr b 0,ae v] h (λr h'=>h'=h.set b (fD (cq T k))∧r=.pv (.seq true 1 (af (ro T (T.lits.length -(T.beg.getD k 0).toNat))))):=by
 refine gR [] [.tmp 4] (h.set b (fD (cq T k))) (by simp) (λD=>by rw[OE];exact d0 (gT _ _) b D) aG Tryz.func131 ?_;obtain⟨a,G⟩:=N5.1 F;have x:T.beg.getD k 0=T.beg[k]:=by rw[N7,N6 hk];rfl
 rw[x]at h0⊢;obtain⟨m,C⟩:∃m:Nat,T.beg[k]=(m:Int):=⟨T.beg[k].toNat,by omega⟩;have M:cq T k=⟨(popN T (T.lits.length -m)).marks,(popN T (T.lits.length -m)).lits,T.beg.take k⟩:=by unfold cq;rw[x,C];rfl
 rw[M,C,Pe];rw[C]at h0;clear M;have B:=ll T;have A:∀n,br h (n+1) b 0=bB T:=λn=>cJ F n;simp only[bB]at B A;simp[K];refine am.introP (r:=.pv (BL true)) (by simpa[A]using B) ?_ (by simp[a]) (by simp);simp[G,a,fD,hk];refine am.intro (Cb h b) ?_;rintro _ _ ⟨rfl,rfl⟩;have E:h.set b (fD T)=h:=cN F;simp;refine aJ.intro (S:=λ(j:Nat)=>⟨[(0,.pv (.ptr b 0)),(1,.pv (ae k)),(5,.pv (.fn (.func 265) [] [.ptr h.length 0])),(6,.own true 1 (af (ro T j)))],h.set b (fD (popN T j))++[[.pv (.ptr b 0)]]⟩) (λj=>j<=T.lits.length -m) (λj=>T.lits.length -j) 0 ?_ (Oz _) ?_
 .rw[popN,E];exact(ai.nilOwn (s:=6) 1 true (by simp)).trans (ai.keep (by simp[ro,af]) rfl)
 intro j hj;have u:(popN T j).lits.length=T.lits.length -j:=by rw[dI,Oe];omega
 have g:=rn T j;have w:∀y∈(popN T j).lits,0<=ab y∧ab y<(popN T j).marks.length:=λy hy=>by
  rw[dI]at hy;rw[AH];exact Q y (OX hy)
 have t:popN T (j+1)=jN (popN T j):=rfl;have q:ro T (j+1)=ro T j++[(popN T j).lits.getD ((popN T j).lits.length -1) 0]:=rfl;have P:=rp T j;have d:=λ(h:List (List SV)) (n b:Nat) h1 N O=>yV h n b (popN T j) h1 N O (by omega) w;have l:∀(Y z:List SV) D,(h.set b Y++[z])[b]'D=Y:=λY z D=>by rw[OZ (by simpa using a)];simp
 have o:∀(Y z:List SV),(h.set b Y++[z])[b]?=some Y:=λY z=>by rw[Oa (by simpa using a)];simp[a]
 have p:∀(Y z W:List SV),(h.set b Y++[z]).set b W=h.set b W++[z]:=λY z W=>by rw[uo (by simpa using a),RJ]
 have f:b<h.length+1:=by omega
 by_cases c:m<T.lits.length -j
 .have L:(popN T j).lits≠[]:=λe=>by rw[e]at u;simp at u;omega
  have i:(m:Int)<((popN T j).lits.length:Int):=by omega
  have d:=d (h.set b (fD (popN T j))++[[.pv (.ptr b 0)]]) h.length b (by rw[Ot (by simp)];simp) (o _ _) L;rw[p]at d;generalize popN T j=X at*;simp only[fD,g]at d;simp[l,f,fD,g,hk,C,i];refine am.intro d ?_;rintro _ _ ⟨rfl,rfl⟩;simp;refine⟨by omega,j+1,by(try dsimp only);omega,by(try dsimp only);omega,ai.keep (by simp[q,af]) (by simp[t])⟩
 .have i:¬(m:Int)<((popN T j).lits.length:Int):=by omega
  have I:j=T.lits.length -m:=by omega
  subst I;have H:(af T.beg).take k=af (T.beg.take k):=by unfold af;rw[QI]
  have J:k<=T.beg.length:=by omega
  clear d w t q;generalize popN T (T.lits.length -m)=X at*;simp[l,p,f,fD,g,hk,C,i,H,J]
end Go.AX
namespace Go.AX
open Go.Proofs
set_option linter.unusedSimpArgs false
def eb(b:Bool):Int:=if b=true then 1 else 0
def cU(A:Ar)(id:Int)(lits:List Int)(b:Bool):Ar:=if iC id lits=0 then⟨A.row++([id,(lits.length:Int),eb b]++lits),pt A.hd A.row.length id⟩else A
set_option maxRecDepth 8000 in
theorem Fa(h:List (List SV))(b:Nat)(A:Ar)(g:h[b]?=some (lm A))(id:Int)(lits:List Int)(ln:Bool)(k:lits.length<=1000000)(l:A.row.length<=1000000000):
 aB Tryz.prog 127 [.ptr b 0,ae id,.seq false 1 (af lits),BL ln] h (λr h'=>h'=h.set b (lm (cU A id lits ln))∧r=.pv (.tup [ae (if iC id lits=0 then A.row.length else 0),ae (iC id lits)])):=by
 refine gR [] [.tmp 8,.tmp 9] (h.set b (lm (cU A id lits ln))) (by simp) (λi=>by rw[OE];exact d0 (yx _ _) b i) aG Tryz.func127 ?_;obtain⟨f,e⟩:=N5.1 g;have d:iC id lits=if id<1∨10000000<id then 2 else iM lits 100000:=rfl;have c:cU A id lits ln=if iC id lits=0 then⟨A.row++([id,(lits.length:Int),eb ln]++lits),pt A.hd A.row.length id⟩else A:=rfl;have a:h.set b (lm A)=h:=cN g;generalize cU A id lits ln=j at c⊢;generalize iC id lits=E at d c⊢;simp;refine am.intro (qQ h b A g) ?_;rintro _ _ ⟨rfl,rfl⟩
 by_cases c1:id<1
 .rw[N9 (.inl c1)]at d;subst d;rw[N8 (by omega)]at c;subst c;simp[c1,a]
 by_cases c2:10000000<id
 .rw[N9 (.inr c2)]at d;subst d;rw[N8 (by omega)]at c;subst c;simp[c1,c2,a]
 rw[N8 (by omega)]at d;simp[c1,c2];refine aj.intro (qO lits 100000 (by omega)) ?_;rw[←d]
 by_cases c3:E=0
 rotate_left
 .rw[N8 c3]at c;subst c;simp[c3,a]
 rw[N9 c3]at c;subst c;cases ln
 .simp[c3,e,f,lm,eb];refine⟨by omega,by omega,?_⟩;rw[Pf (by simp)];simp[af]
 .simp[c3,e,f,lm,eb];refine⟨by omega,by omega,?_⟩;rw[Pf (by simp)];simp[af]
def Ji(A:Ar)(k:Int):Int:=if(lk A.hd k).getD 0=0 then 20 else 0
def Mg(A:Ar)(k:Int):Ar:=if Ji A k=0 then⟨A.row.set (k.toNat+2) 2,dl A.hd k⟩else A
def nV(A:Ar)(k:Int):Bool:=isA A k&&decide (A.row.getD (k.toNat+2) 0=1)
theorem yW(h:List (List SV))(b:Nat)(A:Ar)(e:h[b]?=some (lm A))(k:Int)(hk:isA A k=true->0<=k∧k+2<A.row.length)(i:A.row.length<=1000000000):
 aB Tryz.prog 193 [.ptr b 0,ae k] h (λr h'=>h'=h∧r=.pv (BL (nV A k))):=by
 refine gm [] [.tmp 4] aG Tryz.func193 ?_;obtain⟨d,a⟩:=N5.1 e;unfold nV;simp;refine am.intro (yy h b A e k) ?_;rintro _ _ ⟨rfl,rfl⟩;cases c:isA A k
 .simp[c]
 .obtain⟨k0,j⟩:=hk c;obtain⟨p,rfl⟩:∃p:Nat,k=p:=⟨k.toNat,by omega⟩;have g:a8 ((p:Int)+2)=((p+2:Nat):Int):=by rw[ap (by omega) (by omega)];omega
  have hp:p+2<A.row.length:=by omega
  have f:((p:Int)+2).toNat=p+2:=by omega
  have g2:A.row[p+2]?=some A.row[p+2]:=N6 hp;simp[c,a,d,lm,g,hp,f,g2];omega
def Fb(v:Int)(b:Bool):Int:=if v<1∨da v=false then 0 else if b=true then v else-v
def Mh(v:Int):Int:=if v<1∨da v=false then 10 else 0
theorem Fc(v:Int)(b:Bool):an Tryz.prog 102 [ae v,BL b] (λr=>r=.pv (.tup [ae (Fb v b),ae (Mh v)])):=by
 refine iL [] [.tmp 4,.tmp 5] aG Tryz.func102 ?_;have c:=qH v;unfold Fb Mh
 by_cases c1:v<1
 .simp[c1];refine bK.intro (r:=.pv (BL true)) (λh=>h.elim) ?_;simp[c1]
 .simp[c1];refine bK.intro (λ_=>c) ?_;cases c2:da v
  .simp[c1,c2]
  .obtain⟨h1,d,e⟩:=(bk v).1 c2;have a:a8 (-v)=-v:=ap (by omega) (by omega);cases b<;>simp[c1,c2,a]
end Go.AX
namespace Go.AX.V
open Go.Proofs
set_option linter.unusedSimpArgs false
theorem litO{y:Int}(h:da y=true):y≠0∧-100000<=y∧y<=100000∧0<=bf y∧a8 (-y)=-y:=by
 obtain⟨a,b,c⟩:=(bk y).1 h;exact⟨a,b,c,by rw[ur];exact h,ap (by omega) (by omega)⟩
theorem nX{l:Int}(h:da l=true):1<=ab l∧ab l<=100000∧l≠0∧-100000<=l∧l<=100000∧ab l=eG l:=by
 obtain⟨a,b,c⟩:=(bk l).1 h;have e:ab l=eG l:=by unfold ab;rw[N9 h]
 refine⟨?_,?_,a,b,c,e⟩<;>rw[e]<;>unfold eG<;>split<;>omega
theorem rB{l:Int}(h:da l=true):da (-l)=true:=by
 obtain⟨a,b,c⟩:=(bk l).1 h;exact(bk _).2 ⟨by omega,by omega,by omega⟩
theorem Mi{y:Int}(h:da y=true):da y=true:=h
theorem okL_chk{l v:Int}(d:0<=v∧v<=100000)(h:au l v=0):da l=true:=by
 obtain⟨a,b,c⟩:=(cR d).1 h;exact(bk _).2 ⟨a,by omega,by omega⟩
structure RelT (T:Tr) (t:RT):Prop where
  vars:0<=t.vars∧t.vars<=100000
  len:(T.marks.length:Int)=t.vars+1
  lits:T.lits=t.rows.map (·.l)
  dep:t.dep=(T.beg.length:Int)
  chk:∀x∈t.rows,au x.l t.vars=0
  ok:∀x∈t.rows,da x.l=true∧0<=x.lev∧x.lev<=t.dep
  free:∀v:Int,oE t v<0->(bz T v).v=0
  mark:∀(v:Int)(i:Nat)(hi:i<t.rows.length),oE t v=(i:Int)->bz T v=⟨if t.rows[i].l<0 then-1 else 1,t.rows[i].lev,t.rows[i].rea,i⟩
theorem RelT.okT{T:Tr}{t:RT}(h:RelT T t):T.ok:=by
 have:=h.vars;have:=h.len;exact⟨by omega,by omega⟩
def RelD(T:Tr)(t:RT):Prop:=RelT T t∧T.beg.length<=t.rows.length
theorem uS{T:Tr}{t:RT}(h:RelT T t)(v:Int):(dm T v).1.lev=(Lu t v).1∧(dm T v).1.rea=(Lu t v).2∧(dm T v).1.pla=oE t v:=by
 unfold dm Lu;have g:=h.len;have j:=h.vars
 by_cases c:oE t v<0
 .rw[N9 c,N9]
  .refine⟨rfl,rfl,?_⟩;have:oE t v=-1:=by
    unfold oE iV at*;split at c
    .omega
    .rfl
   rw[this]
  .exact .inr (.inr (h.free v c))
 .obtain⟨i,hi,d,f⟩:=jF (t:=t) (v:=v) (by omega);obtain⟨a,_⟩:=nX (h.ok _ (Od hi)).1;have b:=(nD h.vars (h.chk _ (Od hi))).2.1;have e:=h.mark v i hi d;rw[N8 c,N8,e,d]
  .simp[hi]
  .rw[e];simp only;have:(if t.rows[i].l<0 then(-1:Int)else 1)≠0:=by split<;>omega
   simp[this];omega
theorem Fu{D:DK}(h:RelT D.T D.t){l:Int}{i:Nat}(hi:i<D.t.rows.length)(e:D.t.rows[i].l=l∨D.t.rows[i].l=-l):au l D.t.vars=0:=by
 have a:=(cR h.vars).1 (h.chk _ (Od hi));exact(cR h.vars).2 (by rcases e with e|e<;>omega)
theorem pY{D:DK}(h:RelT D.T D.t){l:Int}(k:da l=true){i:Nat}(hi:i<D.t.rows.length)(hp:oE D.t (ab l)=i):(D.t.rows[i].l=-l∧bZ D.T l=-1)∨(D.t.rows[i].l=l∧bZ D.T l=1):=by
 have c:((D.T.marks.length:Nat):Int) -1=D.t.vars:=by rw[h.len];omega
 have f:=h.mark _ i hi hp;obtain⟨j,hj,q,a⟩:=jF (t:=D.t) (v:=ab l) (by omega);have d:j=i:=by omega
 subst d;obtain⟨_,_,r,_,_,m⟩:=nX (h.ok _ (Od hi)).1;obtain⟨_,_,l0,_,_,n⟩:=nX k;rw[m,n]at a;have hs:D.t.rows[j].l=l∨D.t.rows[j].l=-l:=by unfold eG at a;split at a<;>split at a<;>omega
 unfold bZ;rw[c,f,N8 (λe=>e (Fu h hi hs))];unfold eG at a;dsimp only;have o:a8 (-1)=-1:=by decide
 have p:a8 (- -1)=1:=by decide
 by_cases g:l<0
 .rw[N9 g]at a⊢
  by_cases b:D.t.rows[j].l<0
  .rw[N9 b]at a⊢;rw[p];exact .inr ⟨by omega,rfl⟩
  .rw[N8 b]at a⊢;rw[o];exact .inl ⟨by omega,rfl⟩
 .rw[N8 g]at a⊢
  by_cases b:D.t.rows[j].l<0
  .rw[N9 b]at a⊢;exact .inl ⟨by omega,rfl⟩
  .rw[N8 b]at a⊢;exact .inr ⟨by omega,rfl⟩
theorem tx{D:DK}(h:RelT D.T D.t){l:Int}(a:bZ D.T l≠0):da l=true∧∃i,∃hi:i<D.t.rows.length,oE D.t (ab l)=i:=by
 have b:((D.T.marks.length:Nat):Int) -1=D.t.vars:=by rw[h.len];omega
 unfold bZ at a;rw[b]at a
 by_cases c:au l D.t.vars=0
 .refine⟨okL_chk h.vars c,?_⟩;rw[N8 (λe=>e c)]at a
  by_cases d:0<=oE D.t (ab l)
  .obtain⟨i,hi,e,_⟩:=jF d;exact⟨i,hi,e⟩
  .rw[h.free _ (by omega)]at a;have f:a8 (-0)=0:=by decide
   split at a
   .exact absurd f a
   .exact absurd rfl a
 .rw[N9 c]at a;exact absurd rfl a
def DkR(D:DK):Prop:=∀i (hi:i<D.t.rows.length),D.t.rows[i].rea<0∨(isA D.A D.t.rows[i].rea=true∧D.t.rows[i].l∈aq D.A D.t.rows[i].rea∧∀y∈aq D.A D.t.rows[i].rea,da y=true∧(y≠D.t.rows[i].l->a8 (-y)∈(D.t.rows.take i).map (·.l)))
structure DeskOk (D:DK):Prop where
  rel:RelD D.T D.t
  relA:RelA D.A D.a
  rea:DkR D
  len:D.A.row.length<=1000000
theorem Fv{D:DK}(h:RelT D.T D.t){v:Int}(a:0<=(dm D.T v).1.rea):∃i,∃hi:i<D.t.rows.length,oE D.t v=i∧ab D.t.rows[i].l=v∧(dm D.T v).1.rea=D.t.rows[i].rea∧(dm D.T v).1.pla=i:=by
 obtain⟨_,d,e⟩:=uS h v;rw[d]at a⊢;unfold Lu at a⊢
 by_cases c:oE D.t v<0
 .rw[N9 c]at a;dsimp only at a;omega
 .obtain⟨i,hi,b,f⟩:=jF (t:=D.t) (v:=v) (by omega);refine⟨i,hi,b,f,?_,by rw[e,b]⟩;rw[N8 c,b,Pe,N7,N6 hi];rfl
theorem DeskOk.sh{D:DK}(h:DeskOk D){c:List Int}(d:c.length<=1000000):ShOk D.A D.T c where
 tr:=h.rel.1.okT
 ar:=λq f=>by
  obtain⟨x,hx,e⟩:=h.relA.is q f;obtain⟨p,a,b,_⟩:=h.relA.rows x hx;exact⟨p,_,by rw[←e,a],b⟩
 len:=h.len
 few:=d
 hd:=λv g=>by
  obtain⟨i,hi,_,_,e,_⟩:=Fv h.rel.1 g;rcases h.rea i hi with h1|⟨h1,_⟩
  .omega
  .exact D7 h1
theorem Jj{D:DK}(h:DeskOk D){l:Int}(a:nK D.A D.T l=true):∃i,∃hi:i<D.t.rows.length,cr D.T l=i∧D.t.rows[i].l=a8 (-l)∧da l=true∧(dm D.T (ab l)).1.rea=D.t.rows[i].rea∧0<=D.t.rows[i].rea:=by
 unfold nK at a;simp only[OY,Re,P9]at a;obtain⟨⟨b1,b2⟩,_⟩:=a;obtain⟨i,hi,c,g,d,f⟩:=Fv h.rel.1 (v:=ab l) (by omega);obtain⟨b,_⟩:=tx h.rel.1 (l:=l) (by omega);refine⟨i,hi,f,?_,b,d,by omega⟩;rw[(litO b).2.2.2.2];rcases pY h.rel.1 b hi c with⟨e,_⟩|⟨_,e⟩
 .exact e
 .omega
theorem val3_m1_of{l:List Int}{y:Int}(hy:da y=true)(h:-y∈l)(a:y∉l):b8 l y=-1:=by
 obtain⟨_,_,_,hx,b⟩:=litO hy;unfold b8;rw[N8 (by omega),N8 a,N9 (by rw[b];exact h)]
structure TraF (cs:List (List Int)) (ats:List Int) (t:RT):Prop where
  dep:0<=t.dep
  chk:∀x∈t.rows,da x.l=true
  nd:(t.rows.map λx=>ab x.l).Nodup
  lev:∀x∈t.rows,0<=x.lev∧x.lev<=t.dep
  mono:∀i j (hi:i<t.rows.length)(hj:j<t.rows.length),i<j->t.rows[i].lev<=t.rows[j].lev
  dec:∀i (hi:i<t.rows.length),t.rows[i].rea<0->0<t.rows[i].lev∧∀j (hj:j<t.rows.length),j<i->t.rows[j].lev<t.rows[i].lev
  top:0<t.dep->Calm cs (bel t t.dep)
  fst:∀k:Int,0<k->k<=t.dep->∃x∈t.rows,x.lev=k∧x.rea<0
  imp:∀i (hi:i<t.rows.length),0<=t.rows[i].rea->∃k,∃hk:k<cs.length,t.rows[i].rea=ats.getD k 0∧t.rows[i].l∈cs[k]∧(∀y∈cs[k],y≠t.rows[i].l->∃j,∃hj:j<t.rows.length,j<i∧t.rows[j].l=-y)∧
    (0<t.rows[i].lev->∃y∈cs[k],y≠t.rows[i].l∧∃j,∃hj:j<t.rows.length,j<i∧t.rows[j].l=-y∧t.rows[j].lev=t.rows[i].lev)
theorem TraF.inj{cs:List (List Int)}{ats:List Int}{t:RT}(h:TraF cs ats t){i j:Nat}(hi:i<t.rows.length)(hj:j<t.rows.length)(e:ab t.rows[i].l=ab t.rows[j].l):i=j:=by
 have hn:=OR.1 (Qa.1 h.nd);rcases PM i j with c|c|c
 .exact absurd e (hn i j hi hj c)
 .exact c
 .exact absurd e.symm (hn j i hj hi c)
theorem TraF.one{cs:List (List Int)}{ats:List Int}{t:RT}(h:TraF cs ats t){y:Int}(hy:da y=true):¬(y∈dv t∧-y∈dv t):=by
 rintro⟨h1,d⟩;unfold dv at h1 d;obtain⟨a,g,e⟩:=Of.1 h1;obtain⟨b,k,f⟩:=Of.1 d;obtain⟨i,hi,rfl⟩:=Oo g;obtain⟨j,hj,rfl⟩:=Oo k;have m:ab t.rows[i].l=ab t.rows[j].l:=by rw[e,f,dr]
 have c:i=j:=h.inj hi hj m;subst c;obtain⟨n0,_⟩:=litO hy;omega
structure ClsN (cs:List (List Int)) (ats:List Int):Prop where
  len:∀c∈cs,c.length<=1000
  chk:∀c∈cs,∀y∈c,da y=true
  pos:∀k,k<cs.length->0<=ats.getD k 0
  nd:∀c∈cs,c.Nodup
theorem Fw{cs:List (List Int)}{ats:List Int}(o:ClsN cs ats){t:RT}(h:TraF cs ats t){c:List Int}(m:c∈cs)(k:DR (dv t) c=-1)(hd:0<t.dep):∃y∈c,∃x∈t.rows,x.l=-y∧x.lev=t.dep:=by
 apply OF;intro j;have b:=(h.top hd _ m).2;apply b;rw[lp]at k⊢;intro y hy hx;have d:=o.chk _ m y hy;have:=uE (k y hy hx);rw[(litO d).2.2.2.2]at this;unfold dv at this;obtain⟨a,g,e⟩:=Of.1 this;have p:=(h.lev _ g).2;have i:a.lev<t.dep:=by
  rcases Rw a.lev t.dep with c|c
  .exact c
  .exact absurd ⟨y,hy,a,g,e,by omega⟩ j
 have f:-y∈bel t t.dep:=by
  unfold bel;rw[Of];exact⟨a,OW.2 ⟨g,by simpa using i⟩,e⟩
 exact val3_m1_of d f (λn=>h.one d ⟨fh _ n,fh _ f⟩)
structure DeskT (cs:List (List Int)) (ats:List Int) (D:DK):Prop where
  ok:DeskOk D
  cls:ClsN cs ats
  facts:TraF cs ats D.t
  ars:∀k (hk:k<cs.length),isA D.A (ats.getD k 0)=true∧aq D.A (ats.getD k 0)=cs[k]
theorem TraF.pla{cs:List (List Int)}{ats:List Int}{t:RT}(h:TraF cs ats t){j:Nat}(hj:j<t.rows.length):oE t (ab t.rows[j].l)=j:=by
 have h1:=uF (p:=λx:En=>decide (ab x.l=ab t.rows[j].l)) hj (by simp);obtain⟨i,hi,a,b⟩:=jF (t:=t) (v:=ab t.rows[j].l) h1.1;have:=h.inj hi hj b;subst this;exact a
theorem mC{cs:List (List Int)}{ats:List Int}{T:Tr}{t:RT}(d:RelT T t)(h:TraF cs ats t){j:Nat}(hj:j<t.rows.length):(dm T (ab t.rows[j].l)).1.lev=t.rows[j].lev∧(dm T (ab t.rows[j].l)).1.rea=t.rows[j].rea∧(dm T (ab t.rows[j].l)).1.pla=j:=by
 obtain⟨a,b,c⟩:=uS d (ab t.rows[j].l);have hp:=h.pla hj;rw[a,b,c];unfold Lu;rw[hp,N8 (by omega),Pe,N7,N6 hj];exact⟨rfl,rfl,rfl⟩
theorem ng{cs:List (List Int)}{ats:List Int}{T:Tr}{t:RT}(a:RelT T t)(h:TraF cs ats t){j:Nat}(hj:j<t.rows.length){y:Int}(hy:t.rows[j].l=-y):dw T y=t.rows[j].lev:=by
 unfold dw;rw[oH hj hy];exact(mC a h hj).1
theorem HB{cs:List (List Int)}{ats:List Int}{T:Tr}{t:RT}(r:RelT T t)(k:TraF cs ats t){p:PS}{n:Nat}(h:LI t p n){y:Int}{j:Nat}(hj:j<t.rows.length)(hy:t.rows[j].l=-y)
 (hn:t.rows[j].lev=t.dep->j<n∨t.rows[j].rea<0) (but:Int):
 LI t (takeF T but p y) n∧(ab y=but∨t.rows[j].lev<=0∨ay (takeF T but p y).seen (ab y)=true)∧(∀v,ay p.seen v=true->ay (takeF T but p y).seen v=true)∧p.many<=(takeF T but p y).many:=by
 have u:=ng r k hj hy;have d:=oH hj hy;have hd:=r.dep;unfold takeF
 by_cases c:ab y=but∨ay p.seen (ab y)=true∨dw T y<=0
 .rw[N9 c];refine⟨h,?_,λv d=>d,Oc _⟩;rcases c with c|c|c
  .exact .inl c
  .exact .inr (.inr c)
  .exact .inr (.inl (by omega))
 rw[N8 c];have q:ay p.seen (ab y)=false:=by
  cases e:ay p.seen (ab y)
  .rfl
  .exact absurd (.inr (.inl e)) c
 have f:0<t.rows[j].lev:=by
  rcases Rw 0 t.rows[j].lev with e|e
  .exact e
  .exact absurd (.inr (.inr (by omega))) c
 have s:=(k.lev _ (Od hj)).2
 by_cases c2:dw T y=T.beg.length
 .rw[N9 c2];have hs:∀w,ay (pt p.seen (ab y) 1) w=if ab y=w then true else ay p.seen w:=λw=>by rw[lX];simp
  refine⟨⟨?_,h.li,?_,?_⟩,.inr (.inr (by rw[hs,N9 rfl])),λv d=>by rw[hs];split<;>simp[d],Qp _⟩
  .intro v b;rw[hs]at b;split at b
   .rename_i e;exact⟨j,hj,by rw[←d,e],f,hn⟩
   .exact h.sn v b
  .intro i hi a g;rw[hs]at a;split at a
   .rename_i e;have:=k.inj hj hi (d.symm.trans e);subst this;omega
   .exact h.ls i hi a g
  .dsimp only;rw[h.mn];symm;apply m6 hj
   .rw[←d,q];rfl
   .rw[←d,hs,N9 rfl];simp;omega
   .intro i hi o;rw[hs,N8];intro e;exact o (k.inj hi hj (e.symm.trans d))
 .rw[N8 c2];have hs:∀w,ay (pt p.seen (ab y) 1) w=if ab y=w then true else ay p.seen w:=λw=>by rw[lX];simp
  refine⟨⟨?_,?_,?_,?_⟩,.inr (.inr (by rw[hs,N9 rfl])),λv d=>by rw[hs];split<;>simp[d],Oc _⟩
  .intro v b;rw[hs]at b;split at b
   .rename_i e;exact⟨j,hj,by rw[←d,e],f,hn⟩
   .exact h.sn v b
  .intro l m;rcases Om.1 m with m|m
   .exact h.li l m
   .simp at m;subst m;exact⟨j,hj,hy,f,by omega⟩
  .intro i hi a g;rw[hs]at a;split at a
   .rename_i e;have:=k.inj hj hi (d.symm.trans e);subst this;rw[hy];simp
   .exact Pc _ (h.ls i hi a g)
  .dsimp only;rw[h.mn];apply List.countP_congr;intro x hx;rw[hs];split
   .rename_i e;obtain⟨i,hi,rfl⟩:=Oo hx;have:=k.inj hj hi (d.symm.trans e);subst this;have:¬t.rows[j].lev=t.dep:=by omega
    simp[this]
   .rfl
theorem rD{cs:List (List Int)}{ats:List Int}{T:Tr}{t:RT}(f:RelT T t)(d:TraF cs ats t){n:Nat}(but:Int):∀(c:List Int)(p:PS),LI t p n->
 (∀y∈c,ab y=but∨∃j,∃hj:j<t.rows.length,t.rows[j].l=-y∧(t.rows[j].lev=t.dep->j<n∨t.rows[j].rea<0))->
 LI t (c9 T but c p) n∧(∀y∈c,ab y=but∨dw T y<=0∨ay (c9 T but c p).seen (ab y)=true)∧(∀v,ay p.seen v=true->ay (c9 T but c p).seen v=true)∧p.many<=(c9 T but c p).many
 |[],p,h,_=>⟨h,by simp,λ_ b=>b,Oc _⟩
 |y::c,p,h,g=>by
  have key:LI t (takeF T but p y) n∧(ab y=but∨dw T y<=0∨ay (takeF T but p y).seen (ab y)=true)∧(∀v,ay p.seen v=true->ay (takeF T but p y).seen v=true)∧p.many<=(takeF T but p y).many:=by
   rcases g y (OA ..)with e|⟨j,hj,hy,hn⟩
   .have:takeF T but p y=p:=by unfold takeF;rw[N9 (.inl e)]
    rw[this];exact⟨h,.inl e,λ_ b=>b,Oc _⟩
   .have:=HB f d h hj hy hn but;rw[←ng f d hj hy]at this;exact this
  obtain⟨m,a,o,q⟩:=key;obtain⟨i,g2,g3,k⟩:=rD f d but c (takeF T but p y) m (λz hz=>g z (Ou _ hz));have e:c9 T but (y::c) p=c9 T but c (takeF T but p y):=rfl;rw[e];refine⟨i,?_,λv b=>g3 v (o v b),OM q k⟩;intro z hz;rcases OB.1 hz with rfl|hz
  .rcases a with a|a|a
   .exact .inl a
   .exact .inr (.inl a)
   .exact .inr (.inr (g3 _ a))
  .exact g2 z hz
theorem HC{cs:List (List Int)}{ats:List Int}{t:RT}(q:TraF cs ats t){p:PS}{n:Nat}(h:LI t p (n+1))(hn:n<t.rows.length)(hs:ay p.seen (ab t.rows[n].l)=true)(hd:t.rows[n].lev=t.dep):
 LI t ⟨pt p.seen (ab t.rows[n].l) 0,p.lits,p.many -1⟩ n:=by
 have a:∀w,ay (pt p.seen (ab t.rows[n].l) 0) w=if ab t.rows[n].l=w then false else ay p.seen w:=λw=>by rw[lX];simp
 refine⟨?_,h.li,?_,?_⟩
 .intro v d;rw[a]at d;split at d
  .cases d
  .rename_i e;obtain⟨j,hj,g,k,m⟩:=h.sn v d;refine⟨j,hj,g,k,λhd=>(m hd).imp (λc=>?_) id⟩;have:j≠n:=λo=>by subst o;exact e g
   omega
 .intro j hj b c;rw[a]at b;split at b
  .cases b
  .exact h.ls j hj b c
 .dsimp only; rw [h.mn]; have := m6 (l := t.rows) (P := λ x => ay (pt p.seen (ab t.rows[n].l) 0) (ab x.l) && decide (x.lev = t.dep)) (Q := λ x => ay p.seen (ab x.l) && decide (x.lev = t.dep)) hn (by
   rw[a,N9 rfl];rfl) (by rw[hs];simp[hd]) (λi hi f=>by
   rw[a,N8];intro e;exact f (q.inj hi hn e.symm))
  rw[this];omega
theorem cO{cs:List (List Int)}{ats:List Int}{D:DK}(h:DeskT cs ats D){n:Nat}(hn:n<D.t.rows.length)(i:0<=D.t.rows[n].rea):isA D.A D.t.rows[n].rea=true∧D.t.rows[n].l∈aq D.A D.t.rows[n].rea∧
 ∀y∈aq D.A D.t.rows[n].rea,da y=true∧(y≠D.t.rows[n].l->∃j,∃hj:j<D.t.rows.length,j<n∧D.t.rows[j].l=-y):=by
 rcases h.ok.rea n hn with h1|⟨h1,d,f⟩
 .omega
 .refine⟨h1,d,λy hy=>?_⟩;obtain⟨c,g⟩:=f y hy;refine⟨c,λb=>?_⟩;have:=g b;rw[(litO c).2.2.2.2,Of]at this;obtain⟨x,hx,e⟩:=this;obtain⟨j,hj,rfl⟩:=Oo hx;have a:j<n∧j<D.t.rows.length:=by simp at hj;omega
  refine⟨j,a.2,a.1,?_⟩;rw[←e];simp
theorem Fx{cs:List (List Int)}{ats:List Int}{D:DK}(h:DeskT cs ats D){p:PS}{n:Nat}(hi:LI D.t p (n+1))(hn:n<D.t.rows.length)(hp:my D.T p D.t.rows[n].l=true):
 LI D.t (mZ D.A D.T p D.t.rows[n].l) n∧p.many -1<=(mZ D.A D.T p D.t.rows[n].l).many∧
  (∀j (hj:j<D.t.rows.length),j≠n->ay p.seen (ab D.t.rows[j].l)=true->ay (mZ D.A D.T p D.t.rows[n].l).seen (ab D.t.rows[j].l)=true)∧
  (∀y∈aq D.A D.t.rows[n].rea,y≠D.t.rows[n].l->dw D.T y<=0∨ay (mZ D.A D.T p D.t.rows[n].l).seen (ab y)=true):=by
 have b:=h.facts;have g:=h.ok.rel.1;unfold my dw at hp;obtain⟨q,k,u⟩:=mC g b hn;rw[q,k]at hp;simp only[Og,Ov]at hp;obtain⟨r,v,s⟩:=hp;have hd:=g.dep;have h1:=HC b hi hn r (by omega);obtain⟨w,x,r3⟩:=cO h hn s;have d:mZ D.A D.T p D.t.rows[n].l=c9 D.T (ab D.t.rows[n].l) (aq D.A D.t.rows[n].rea) ⟨pt p.seen (ab D.t.rows[n].l) 0,p.lits,p.many -1⟩:=by
  unfold mZ;rw[k]
 obtain ⟨m, g2, g3, o⟩ := rD g b (ab D.t.rows[n].l) (aq D.A D.t.rows[n].rea) _ h1 (λ y hy => by
  by_cases e:y=D.t.rows[n].l
  .exact .inl (by rw[e])
  .obtain⟨j,hj,c,f⟩:=(r3 y hy).2 e;exact .inr ⟨j,hj,f,λ_=>.inl c⟩)
 rw[d];refine⟨m,o,λj hj a i=>?_,λy hy a=>?_⟩
 .apply g3;rw[lX,N8]
  .exact i
  .intro e;exact a (b.inj hj hn e.symm)
 .rcases g2 y hy with e|e|e
  .exfalso;obtain⟨j,hj,c,f⟩:=(r3 y hy).2 a;rw[oH hj f]at e;have:=b.inj hj hn e;omega
  .exact .inl e
  .exact .inr e
theorem AV{t:RT}{T:Tr}{cs:List (List Int)}{ats:List Int}(b:RelT T t)(i:TraF cs ats t){p:PS}{n:Nat}(h:LI t p (n+1))(hn:n<t.rows.length)(hp:¬my T p t.rows[n].l=true):LI t p n:=by
 refine⟨λv d=>?_,h.li,h.ls,h.mn⟩;obtain⟨j,hj,a,f,g⟩:=h.sn v d;refine⟨j,hj,a,f,λhd=>?_⟩;rcases g hd with e|e
 .by_cases c:j=n
  .subst c;right;apply OF;intro o;apply hp;unfold my dw;obtain⟨k,m,q⟩:=mC b i hj;rw[k,m,a,d];have:=b.dep;simp only[Og,Ov,true_and];omega
  .left;omega
 .exact .inr e
theorem HD{t:RT}{cs:List (List Int)}{ats:List Int}(d:TraF cs ats t){p:PS}(h:LI t p 0):p.many<=1:=by
 apply OF;intro m;have k:2<=t.rows.countP (λx=>ay p.seen (ab x.l)&&decide (x.lev=t.dep)):=by rw[←h.mn];omega
 obtain⟨i,j,hi,hj,a,o,c⟩:=qV k;simp only[Og,Ov]at o c;obtain⟨n,b,f,q,g⟩:=h.sn _ c.1;have:=d.inj b hj f;subst this;rcases g c.2 with e|e
 .omega
 .have:=(d.dec n hj e).2 i hi a;omega
theorem zb{T:Tr}{t:RT}(a:RelT T t){n:Nat}(hn:n<t.rows.length):T.lits.getD n 0=t.rows[n].l:=by
 rw[a.lits,N7,Oq,N6 hn];rfl
theorem uT{cs:List (List Int)}{ats:List Int}{D:DK}(h:DeskT cs ats D):∀(n:Nat)(p:PS),n<=D.t.rows.length->LI D.t p n->
 (∃m,LI D.t (cA D.A D.T D.T.lits n p) m)∧(cA D.A D.T D.T.lits n p).many<=1∧(1<=p.many->1<=(cA D.A D.T D.T.lits n p).many)
 |0,p,_,hi=>⟨⟨0,hi⟩,HD h.facts hi,λe=>e⟩
 |n+1,p,hn,hi=>by
  rw[cA];split
  .exact⟨⟨_,hi⟩,by assumption,λe=>e⟩
  rename_i c;have a:n<D.t.rows.length:=by omega
  rw[zb h.ok.rel.1 a];split
  .rename_i hp;obtain⟨b,g2,_⟩:=Fx h hi a hp;obtain⟨d,f,g⟩:=uT h n _ (by omega) b;exact⟨d,f,λ_=>g (by omega)⟩
  .rename_i hp;exact uT h n p (by omega) (AV h.ok.rel.1 h.facts hi a hp)
theorem Fy{cs:List (List Int)}{ats:List Int}{D:DK}(h:DeskT cs ats D){j:Nat}(hj:j<D.t.rows.length):bZ D.T (-D.t.rows[j].l)=-1∧bZ D.T D.t.rows[j].l=1:=by
 have b:=h.facts;have a:=b.chk _ (Od hj);have hp:=b.pla hj;obtain⟨n0,c,d,_⟩:=litO a;constructor
 .rcases pY h.ok.rel.1 (rB a) hj (by rw[dr];exact hp)with⟨_,e⟩|⟨e,_⟩
  .exact e
  .omega
 .rcases pY h.ok.rel.1 a hj hp with⟨e,_⟩|⟨_,e⟩
  .omega
  .exact e
theorem zc{cs:List (List Int)}{ats:List Int}{D:DK}(h:DeskT cs ats D){R:List Int}{j:Nat}(hj:j<D.t.rows.length)(c:0<=D.t.rows[j].rea)(hy:∀y∈aq D.A D.t.rows[j].rea,y≠D.t.rows[j].l->HOk D.A D.T R y):HOk D.A D.T R (-D.t.rows[j].l):=by
 obtain⟨f,b,g⟩:=mC h.ok.rel.1 h.facts hj;obtain⟨e,i,r3⟩:=cO h hj c;refine .why (by rw[(Fy h hj).1];omega) ?_ ?_ ?_
 .rw[dr,b];exact c
 .rw[dr,b];exact e
 .rw[dr,b];intro y d a;exact hy y d (by rw[P1]at a;exact a)
theorem uU{cs:List (List Int)}{ats:List Int}{D:DK}(h:DeskT cs ats D)(R:List Int):∀(n j:Nat)(hj:j<D.t.rows.length),j<n->D.t.rows[j].lev<=0->HOk D.A D.T R (-D.t.rows[j].l)
 |0,_,_,hn,_=>by omega
 |n+1,j,hj,hn,f=>by
  have c:=h.facts;have d:0<=D.t.rows[j].rea:=by
   rcases Rw D.t.rows[j].rea 0 with e|e
   .have:=(c.dec j hj e).1;omega
   .exact e
  refine zc h hj d λy hy b=>?_;obtain⟨i,hi,a,e⟩:=((cO h hj d).2.2 y hy).2 b;have g:=c.mono i j hi hj a;have:=uU h R n i hi (by omega) (by omega);rw[gW hi e];exact this
theorem Ip{cs:List (List Int)}{ats:List Int}{D:DK}(h:DeskT cs ats D){p:PS}{R:List Int}(a:Fr D p R){j:Nat}(hj:j<D.t.rows.length){y:Int}(hy:D.t.rows[j].l=-y)(hs:dw D.T y<=0∨ay p.seen (ab y)=true):HOk D.A D.T R y:=by
 have b:=ng h.ok.rel.1 h.facts hj hy;rw[gW hj hy];rcases hs with e|e
 .exact uU h R (j+1) j hj (by omega) (by omega)
 .rw[oH hj hy]at e;exact a j hj e
theorem uV{cs:List (List Int)}{ats:List Int}{D:DK}(h:DeskT cs ats D){R:List Int}:∀(n:Nat)(p:PS),n<=D.t.rows.length->LI D.t p n->Fr D (cA D.A D.T D.T.lits n p) R->Fr D p R
 |0,p,_,_,a=>a
 |n+1,p,hn,hi,a=>by
  rw[cA]at a;split at a
  .exact a
  have b:n<D.t.rows.length:=by omega
  rw[zb h.ok.rel.1 b]at a;split at a
  .rename_i hp;obtain⟨l,g2,g3,m⟩:=Fx h hi b hp;have g:=uV h n _ (by omega) l a;intro j hj hs
   by_cases e:j=n
   .subst e;obtain⟨q,o,r⟩:=mC h.ok.rel.1 h.facts hj;have f:0<=D.t.rows[j].rea:=by
     unfold my at hp;rw[o]at hp;simp only[Og,Ov]at hp;exact hp.2.2
    refine zc h hj f λy hy c=>?_;obtain⟨i,d,_,k⟩:=((cO h hj f).2.2 y hy).2 c;exact Ip h g d k (m y hy c)
   .exact g j hj (g3 j hj e hs)
  .rename_i hp;exact uV h n p (by omega) (AV h.ok.rel.1 h.facts hi b hp) a
structure Conf (D:DK) (con:Int):Prop where
  is:isA D.A con=true
  neg:∀y∈aq D.A con,da y=true∧∃j,∃hj:j<D.t.rows.length,D.t.rows[j].l=-y
  top:0<D.t.dep->∃y∈aq D.A con,∃j,∃hj:j<D.t.rows.length,D.t.rows[j].l=-y∧D.t.rows[j].lev=D.t.dep
theorem conf_at{cs:List (List Int)}{ats:List Int}{D:DK}(h:DeskT cs ats D){k:Nat}(hk:k<cs.length)(c:DR (dv D.t) cs[k]=-1):Conf D (ats.getD k 0):=by
 obtain⟨f,d⟩:=h.ars k hk;have e:=Od hk;refine⟨f,?_,?_⟩
 .rw[d];intro y hy;have a:=h.cls.chk _ e y hy;refine⟨a,?_⟩;rw[lp]at c;have:=uE (c y hy (litO a).2.2.2.1);rw[(litO a).2.2.2.2]at this;unfold dv at this;obtain⟨x,hx,b⟩:=Of.1 this;obtain⟨j,hj,rfl⟩:=Oo hx;exact⟨j,hj,b⟩
 .rw[d];intro hd;obtain⟨y,hy,x,hx,b,g⟩:=Fw h.cls h.facts e c hd;obtain⟨j,hj,rfl⟩:=Oo hx;exact⟨y,hy,j,hj,b,g⟩
theorem Jk{cs:List (List Int)}{ats:List Int}{D:DK}(h:DeskT cs ats D){con:Int}(a:Conf D con):
 LI D.t (gn D.A D.T con) D.t.rows.length∧(∀y∈aq D.A con,dw D.T y<=0∨ay (gn D.A D.T con).seen (ab y)=true)∧(0<D.t.dep->1<=(gn D.A D.T con).many):=by
 obtain ⟨d, g2, _, _⟩ := rD h.ok.rel.1 h.facts 0 (aq D.A con) _ (I6 D.t D.t.rows.length) (λ y hy => by
  obtain⟨_,j,hj,e⟩:=a.neg y hy;exact .inr ⟨j,hj,e,λ_=>.inl hj⟩)
 have g3:∀y∈aq D.A con,dw D.T y<=0∨ay (gn D.A D.T con).seen (ab y)=true:=λy hy=>by
  rcases g2 y hy with e|e
  .have:=(nX (a.neg y hy).1).1;omega
  .exact e
 refine⟨d,g3,λhd=>?_⟩;obtain⟨y,hy,j,hj,c,f⟩:=a.top hd;have i:=ng h.ok.rel.1 h.facts hj c;have hs:ay (gn D.A D.T con).seen (ab y)=true:=by
  rcases g3 y hy with e|e
  .omega
  .exact e
 have:=d.mn;unfold gn at this⊢;rw[this,Nat.one_le_iff_ne_zero,Ne,SR];intro b;have g:=b _ (Od hj);rw[oH hj c]at hs;unfold gn at hs;simp[hs,f]at g
structure Learnt (D:DK) (L:List Int):Prop where
  nd:L.Nodup
  neg:∀y∈L,da y=true∧∃j,∃hj:j<D.t.rows.length,D.t.rows[j].l=-y∧0<D.t.rows[j].lev
  nil:D.t.dep=0->L=[]
  top:0<D.t.dep->∃u r,L=u::r∧dw D.T u=D.t.dep∧∀y∈r,dw D.T y<D.t.dep
theorem Fz{cs:List (List Int)}{ats:List Int}{D:DK}(h:DeskT cs ats D)(p:PS)(y:Int):y∈pB D.T D.T.lits p↔y∈p.lits∨∃j,∃hj:j<D.t.rows.length,D.t.rows[j].l=-y∧ay p.seen (ab D.t.rows[j].l)=true∧D.t.rows[j].lev=D.t.dep:=by
 have b:=h.ok.rel.1;have c:=h.facts;have hd:=b.dep;unfold pB;rw[Om,Of];constructor
 .rintro(e|⟨l,f,e⟩)
  .exact .inl e
  .rw[OW,b.lits]at f;obtain⟨d,a⟩:=f;obtain⟨x,hx,rfl⟩:=Of.1 d;obtain⟨j,hj,rfl⟩:=Oo hx;have i:=(litO (c.chk _ hx)).2.2.2.2;simp only[Og,Ov]at a;have ho:=(mC b c hj).1;unfold dw at a;exact .inr ⟨j,hj,by omega,a.1,by omega⟩
 .rintro(e|⟨j,hj,k,g,m⟩)
  .exact .inl e
  .right;have i:=(litO (c.chk _ (Od hj))).2.2.2.2;have ho:=(mC b c hj).1;refine⟨D.t.rows[j].l,?_,by omega⟩;rw[OW,b.lits];refine⟨Of.2 ⟨_,Od hj,rfl⟩,?_⟩;unfold dw;simp only[Og,Ov];exact⟨g,by omega⟩
theorem learn_is{cs:List (List Int)}{ats:List Int}{D:DK}(h:DeskT cs ats D){con:Int}(hc:Conf D con):
 Learnt D (cY D.A D.T con)∧∀y∈aq D.A con,HOk D.A D.T (cY D.A D.T con) y:=by
 have K:=h.ok.rel.1;have n:=h.facts;have hd:=K.dep;have I:D.T.lits.length=D.t.rows.length:=by rw[K.lits,Oj]
 obtain⟨b1,b2,b3⟩:=Jk h hc;obtain⟨⟨m,M⟩,w2,w3⟩:=uT h D.t.rows.length (gn D.A D.T con) (Oc _) b1;have wf:=λR=>uV h (R:=R) D.t.rows.length (gn D.A D.T con) (Oc _) b1;have hL:cY D.A D.T con=Ea D.T (d4 (pB D.T D.T.lits (cA D.A D.T D.T.lits D.t.rows.length (gn D.A D.T con)))):=by
  unfold cY Eb;rw[I]
 have b:=Fz h (cA D.A D.T D.T.lits D.t.rows.length (gn D.A D.T con));generalize hp:cA D.A D.T D.T.lits D.t.rows.length (gn D.A D.T con)=p at*;generalize hE:pB D.T D.T.lits p=E at*;have g:∀y∈E,da y=true∧∃j,∃hj:j<D.t.rows.length,D.t.rows[j].l=-y∧0<D.t.rows[j].lev∧(D.t.rows[j].lev=D.t.dep->ay p.seen (ab D.t.rows[j].l)=true):=λy hy=>by
  rcases(b y).1 hy with e|⟨j,hj,f,s,N⟩
  .obtain⟨j,hj,f,s,N⟩:=M.li y e;refine⟨?_,j,hj,f,s,λe4=>by omega⟩;have:=rB (n.chk _ (Od hj));rw[f,P1]at this;exact this
  .obtain⟨j',X,q1,q2,_⟩:=M.sn _ s;have:=n.inj X hj q1;subst this;refine⟨?_,j',hj,f,q2,λ_=>s⟩;have:=rB (n.chk _ (Od hj));rw[f,P1]at this;exact this
 have S:∀y,y∈d4 E↔y∈E:=λy=>by
  rw[(nE E).2];exact⟨λe=>e.2,λe=>⟨Mi (g y e).1,e⟩⟩
 have B:=ww E;have u:∀L,(∀y,y∈L↔y∈E)->∀y∈aq D.A con,HOk D.A D.T L y:=λL Q=>by
  have W:Fr D p L:=λj hj hs=>by
   apply HOk.stop;rw[Q,b];rcases Rw D.t.rows[j].lev D.t.dep with e|e
   .exact .inl (M.ls j hj hs e)
   .exact .inr ⟨j,hj,by omega,hs,by have:=(n.lev _ (Od hj)).2;omega⟩
  have:=wf L W;intro y hy;obtain⟨_,j,hj,e⟩:=hc.neg y hy;exact Ip h this hj e (b2 y hy)
 by_cases c:D.t.dep=0
 .have C:E=[]:=by
   cases O:E with
   |nil=>rfl
   |cons y r=>
    obtain⟨_,j,hj,_,s,_⟩:=g y (by rw[O];simp);have:=(n.lev _ (Od hj)).2;omega
  have o:cY D.A D.T con=[]:=by rw[hL,C,BX];rfl
  refine⟨⟨by rw[o];exact List.nodup_nil,by rw[o];simp,λ_=>o,λe=>by omega⟩,u _ λy=>by rw[o,C]⟩
 have U:0<D.t.dep:=by have:=n.dep;omega
 have Z:p.many=1:=by have:=w3 (b3 U);omega
 have ae:D.t.rows.countP (λx=>ay p.seen (ab x.l)&&decide (x.lev=D.t.dep))=1:=by rw[←M.mn];exact Z
 have G:0<D.t.rows.countP (λx=>ay p.seen (ab x.l)&&decide (x.lev=D.t.dep)):=by omega
 rw[R7]at G;obtain⟨x,hx,a⟩:=G;obtain⟨j,hj,rfl⟩:=Oo hx;simp only[Og,Ov]at a;have aa:-D.t.rows[j].l∈E:=(b _).2 (.inr ⟨j,hj,by omega,a.1,a.2⟩);have ad:=(S _).2 aa;obtain⟨k,hk,H⟩:=Oo ad;have z:dw D.T (d4 E)[k]=D.t.dep:=by rw[H,ng K n hj (show D.t.rows[j].l=-(-D.t.rows[j].l) by omega)];exact a.2
 have J:∀i (hi:i<(d4 E).length),i≠k->dw D.T (d4 E)[i]<dw D.T (d4 E)[k]:=λi hi d=>by
  obtain⟨_,j2,w,f,s,N⟩:=g _ ((S _).1 (Od hi));have hl:=ng K n w f;have hle:=(n.lev _ (Od w)).2;rw[z,hl];rcases Rw D.t.rows[j2].lev D.t.dep with e|e
  .exact e
  .exfalso;have hs:=N (by omega);have Y:j2=j:=by
    rcases PM j2 j with q|q|q
    .have:=m7 (P:=λx=>ay p.seen (ab x.l)&&decide (x.lev=D.t.dep)) q hj (by simp only[Og,Ov];exact⟨hs,by omega⟩) (by simp only[Og,Ov];exact a);omega
    .exact q
    .have:=m7 (P:=λx=>ay p.seen (ab x.l)&&decide (x.lev=D.t.dep)) q w (by simp only[Og,Ov];exact a) (by simp only[Og,Ov];exact⟨hs,by omega⟩);omega
   subst Y;have V:(d4 E)[i]=(d4 E)[k]:=by rw[H];omega
   exact d (sV B hi hk V)
 have hP:=G9 hk (by rw[z];omega) J;have v:cY D.A D.T con=(d4 E)[k]::(d4 E).eraseIdx k:=hL.trans hP;have F:∀y,y∈cY D.A D.T con↔y∈E:=λy=>by rw[v,lq hk,S]
 refine⟨⟨?_,λy hy=>?_,λe=>absurd e c,λ_=>⟨_,_,v,z,λy hy=>?_⟩⟩,u _ F⟩
 .rw[v,PC];refine⟨λhm=>?_,B.sublist (List.eraseIdx_sublist _ _)⟩;rw[Q3]at hm;obtain⟨i,hi,d,e⟩:=hm;exact d (sV B hi hk e)
 .obtain⟨e0,j,hj,f,s,_⟩:=g y ((F y).1 hy);exact⟨e0,j,hj,f,s⟩
 .rw[Q3]at hy;obtain⟨i,hi,d,rfl⟩:=hy;have:=J i hi d;omega
structure DeskI (cs:List (List Int)) (ats:List Int) (D:DK):Prop extends DeskT cs ats D where
  id:∀x∈D.a.rows,1<=x.id
theorem id_is{cs:List (List Int)}{ats:List Int}{D:DK}(h:DeskI cs ats D){q:Int}(b:isA D.A q=true):lY D.A q≠0:=by
 obtain⟨x,hx,e⟩:=h.ok.relA.is q b;obtain⟨p,c,_,_,_,d⟩:=h.ok.relA.rows x hx;have hi:=h.id x hx;have a:q=(p:Int):=by rw[←e,c]
 unfold lY;rw[N9 b,a,Pe,d];omega
theorem rE{cs:List (List Int)}{ats:List Int}{D:DK}(h:DeskT cs ats D){j:Nat}(hj:j<D.t.rows.length){y:Int}(hy:D.t.rows[j].l=-y):pla D.T y=j∧rea D.T y=D.t.rows[j].rea:=by
 unfold pla rea;rw[oH hj hy];exact⟨(mC h.ok.rel.1 h.facts hj).2.2,(mC h.ok.rel.1 h.facts hj).2.1⟩
theorem val_neg{cs:List (List Int)}{ats:List Int}{D:DK}(h:DeskT cs ats D){l:Int}(b:bZ D.T l<0):da l=true∧∃j,∃hj:j<D.t.rows.length,D.t.rows[j].l=-l:=by
 obtain⟨a,i,hi,hp⟩:=tx h.ok.rel.1 (l:=l) (by omega);refine⟨a,i,hi,?_⟩;rcases pY h.ok.rel.1 a hi hp with⟨e,_⟩|⟨_,e⟩
 .exact e
 .omega
theorem val_of{cs:List (List Int)}{ats:List Int}{D:DK}(h:DeskT cs ats D){l:Int}{j:Nat}(hj:j<D.t.rows.length)(e:D.t.rows[j].l=-l):bZ D.T l=-1:=by
 have:=(Fy h hj).1;rw[e,P1]at this;exact this
theorem ahead_ok{cs:List (List Int)}{ats:List Int}{D:DK}(h:DeskT cs ats D)(h0:D.A.hd≠[]):AheadOk D.A D.T where
 tr:=h.ok.rel.1.okT
 hd:=h0
 ar:=λq k=>by
  obtain⟨x,hx,e⟩:=h.ok.relA.is q k;obtain⟨p,d,a,_⟩:=h.ok.relA.rows x hx;exact⟨p,_,by rw[←e,d],a⟩
 len:=h.ok.len
 ahead:=λl m c=>by
  obtain⟨f,j,hj,e⟩:=val_neg h m;obtain⟨o,r⟩:=rE h hj e;rw[o];refine⟨by omega,λy hy b=>?_⟩;rw[r]at hy c;have n:=(litO f).2.2.2.2;obtain⟨i,hi,g,a⟩:=((cO h hj c).2.2 y hy).2 (by rw[e,←n];exact b);rw[(rE h hi a).1];omega
theorem pla_lt{cs:List (List Int)}{ats:List Int}{D:DK}(h:DeskT cs ats D)(l:Int):pla D.T l<D.T.lits.length:=by
 unfold pla;rw[(uS h.ok.rel.1 (ab l)).2.2,h.ok.rel.1.lits,Oj];rcases Rw (oE D.t (ab l)) 0 with c|c
 .omega
 .obtain⟨i,hi,e,_⟩:=jF c;omega
theorem l4{cs:List (List Int)}{ats:List Int}{D:DK}(h:DeskI cs ats D){L:List Int}{stop:List (Int×Int)}(g:∀y,ay stop y=true↔y∈L){k:Nat}{f:NS->Int->Int->NS}
 (C:∀(s:NS)(j:Nat)(hj:j<D.t.rows.length),j<k->0<=D.t.rows[j].rea->NI D L s->Post D L s (f s D.t.rows[j].rea D.t.rows[j].l) (aq D.A D.t.rows[j].rea) D.t.rows[j].l) (but:Int):
 ∀(c:List Int)(s:NS),NI D L s->(∀y∈c,y≠but->da y=true∧∃j,∃hj:j<D.t.rows.length,D.t.rows[j].l=-y∧j<k)->Post D L s (qY f D.A D.T stop but c s) c but
 |[],s,hn,_=>⟨hn,λ_ e=>e,λe=>⟨e,by simp,λj hj h1 O=>by rw[qY]at h1;rw[h1]at O;cases O⟩,λ_=>rfl⟩
 |y::c,s,hn,B=>by
  have q:=λz hz=>B z (Ou _ hz);rw[qY]
  by_cases hs:sX D.T stop but s y=true
  .rw[N9 hs];have u:=l4 h g C but c s hn q;refine⟨u.ni,u.mono,λho=>?_,λhk=>u.ok λz hz=>hk z (Ou _ hz)⟩;obtain⟨w,x,a3⟩:=u.all ho;refine⟨w,λz hz a=>?_,a3⟩;rcases OB.1 hz with rfl|hz
   .unfold sX at hs;simp only[Pu,Og,Ov]at hs;rcases hs with(e|e)|⟨e,_⟩
    .exact absurd e a
    .exact .inl ((g _).1 e)
    .obtain⟨_,j,hj,b,_⟩:=B z (OA ..) a;rw[(rE h.toDeskT hj b).1]at e;exact .inr ⟨j,hj,b,u.mono _ e⟩
   .exact x z hz a
  rw[N8 hs];have J:y≠but∧y∉L∧¬(ay s.at' (pla D.T y)=true∧0<=pla D.T y):=by
   unfold sX at hs;simp only[Pu,Og,Ov,SS]at hs;exact⟨hs.1.1,λe=>hs.1.2 ((g _).2 e),hs.2⟩
  obtain⟨M,N,X⟩:=J;obtain⟨Y,j,hj,b,E⟩:=B y (OA ..) M;obtain⟨Q,R⟩:=rE h.toDeskT hj b;have P:=val_of h.toDeskT hj b
  by_cases m:B0 D.A D.T y=true
  .rw[N9 m];refine⟨⟨hn.val,hn.mem⟩,λ_ e=>e,λe=>(by cases e),λhk=>?_⟩;exfalso;unfold B0 at m;simp only[Pu,Ov]at m;have hy:=hk y (OA ..) M;cases hy with
   |stop e=>exact N e
   |why v1 v2 v3 _=>
    rcases m with(e|e)|e
    .omega
    .have:rea D.T y=(dm D.T (ab y)).1.rea:=rfl;omega
    .exact id_is h v3 e
  rw[N8 m];have n:0<=rea D.T y:=by
   unfold B0 at m;simp only[Pu,Ov,SS]at m;omega
  have W:=(litO Y).2.2.2.2;have K:a8 (-y)=D.t.rows[j].l:=by rw[W,b]
  rw[R]at n⊢;rw[K];have r:ay s.at' j=false:=by
   cases e:ay s.at' j
   .rfl
   .exact absurd ⟨by rw[Q];exact e,by omega⟩ X
  have h0:(lk s.at' (j:Int)).getD 0=0:=by
   have:=hn.val j;unfold ay at r;simp at r;omega
  have H:qX D.T s y=⟨pt s.at' j 1,s.ok⟩:=by
   unfold qX;rw[Q,h0];rfl
  rw[H];have d:∀p,ay (pt s.at' (j:Int) 1) p=if(j:Int)=p then true else ay s.at' p:=λp=>by rw[lX];simp
  have I:NI D L ⟨pt s.at' j 1,s.ok⟩:=by
   refine⟨λp=>?_,λp hp=>?_⟩
   .dsimp only;rw[bD];split
    .simp
    .exact hn.val p
   .dsimp only at hp;rw[d]at hp;split at hp
    .rename_i e;exact⟨j,hj,e.symm,n,by rw[b,P1];exact N⟩
    .exact hn.mem p hp
  have o:=C ⟨pt s.at' j 1,s.ok⟩ j hj E n I;generalize f ⟨pt s.at' j 1,s.ok⟩ D.t.rows[j].rea D.t.rows[j].l=v at*;have g2:=l4 h g C but c v o.ni q;generalize qY f D.A D.T stop but c v=Z at*;have F:∀p,ay s.at' p=true->ay (pt s.at' (j:Int) 1) p=true:=λp hp=>by rw[d];split<;>simp[hp]
  have G:ay v.at' j=true:=o.mono j (by dsimp only;rw[d,N9 rfl]);refine⟨g2.ni,λp hp=>g2.mono p (o.mono p (F p hp)),λho=>?_,λhk=>?_⟩
  .obtain⟨w,x,a3⟩:=g2.all ho;obtain⟨b1,b2,b3⟩:=o.all w;refine⟨b1,λz hz a=>?_,λi hi S U z hz a=>?_⟩
   .rcases OB.1 hz with rfl|hz
    .exact .inr ⟨j,hj,b,g2.mono _ G⟩
    .exact x z hz a
   .cases c2:ay v.at' i
    .exact a3 i hi S c2 z hz a
    .by_cases e:j=i
     .subst e;exact(b2 z hz a).mono g2.mono
     .exact(b3 i hi c2 (by dsimp only;rw[d,N8 (by omega)];exact U) z hz a).mono g2.mono
  .rw[g2.ok λz hz=>hk z (Ou _ hz)];have hy:=hk y (OA ..) M;cases hy with
   |stop e=>exact absurd e N
   |why _ _ _ v4=>
    refine o.ok λz hz a=>?_;have V:(dm D.T (ab y)).1.rea=D.t.rows[j].rea:=R;rw[V]at v4;exact v4 z hz (by rw[←b];exact a)
theorem tz{cs:List (List Int)}{ats:List Int}{D:DK}(h:DeskI cs ats D){L:List Int}{stop:List (Int×Int)}(a:∀y,ay stop y=true↔y∈L):∀(k:Nat)(q but:Int)(s:NS),NI D L s->
 (∀y∈aq D.A q,y≠but->da y=true∧∃j,∃hj:j<D.t.rows.length,D.t.rows[j].l=-y∧j<k)->Post D L s (pC D.A D.T stop (k+1) s q but) (aq D.A q) but
 |0,q,but,s,hn,c=>by
  rw[pC];exact l4 h a (k:=0) (λ_ j _ hj=>by omega) but _ s hn c
 |k+1,q,but,s,hn,c=>by
  rw[pC];refine l4 h a (k:=k+1) (λs j hj g m hn=>?_) but _ s hn c;refine tz h a k _ _ s hn λy hy b=>?_;obtain⟨n,d⟩:=(cO h.toDeskT hj m).2.2 y hy;obtain⟨i,hi,f,e⟩:=d b;exact⟨n,i,hi,e,by omega⟩
def AllNeg(D:DK)(L:List Int):Prop:=∀y∈L,da y=true∧∃j,∃hj:j<D.t.rows.length,D.t.rows[j].l=-y
theorem rF{cs:List (List Int)}{ats:List Int}{D:DK}(h:DeskT cs ats D){j:Nat}(hj:j<D.t.rows.length):rj D j=D.t.rows[j].rea:=by
 unfold rj rea;rw[zb h.ok.rel.1 hj];exact(mC h.ok.rel.1 h.facts hj).2.1
theorem wY{cs:List (List Int)}{ats:List Int}{D:DK}(h:DeskI cs ats D){con:Int}(b:Conf D con)(L:List Int):Post D L ⟨[],true⟩ (kg D.A D.T L con) (aq D.A con) 0:=by
 have a:D.T.lits.length=D.t.rows.length:=by rw[h.ok.rel.1.lits,Oj]
 unfold kg;refine tz h (λy=>?_) D.T.lits.length con 0 ⟨[],true⟩ ⟨λp=>by simp[lk],λp hp=>by simp[ay,lk]at hp⟩ λy hy _=>?_
 .have:=q6 L y L.length (Oc _)
  rwa [OT]at this
 .obtain⟨c,j,hj,e⟩:=b.neg y hy;exact⟨c,j,hj,e,by omega⟩
theorem FA{cs:List (List Int)}{ats:List Int}{D:DK}(h:DeskT cs ats D){i j:Nat}(hi:i<D.t.rows.length)(hj:j<D.t.rows.length)(o:i<j)(b:0<=D.t.rows[i].rea)(c:0<=D.t.rows[j].rea):D.t.rows[i].rea≠D.t.rows[j].rea:=by
 intro e;have d:=h.facts;have h1:=(cO h hi b).2.1;rw[e]at h1;obtain⟨n,m⟩:=(cO h hj c).2.2 _ h1;have a:D.t.rows[i].l≠D.t.rows[j].l:=λf=>by
  have:=d.inj hi hj (by rw[f]);omega
 obtain⟨k,hk,_,g⟩:=m a;exact d.one n ⟨fL hi,by rw[←g];exact fL hk⟩
theorem Jl{cs:List (List Int)}{ats:List Int}{D:DK}(h:DeskT cs ats D){con:Int}(d:Conf D con){i:Nat}(hi:i<D.t.rows.length)(a:0<=D.t.rows[i].rea):D.t.rows[i].rea≠con:=by
 intro e;have h1:=(cO h hi a).2.1;rw[e]at h1;obtain⟨c,k,hk,b⟩:=d.neg _ h1;exact h.facts.one c ⟨fL hi,by rw[←b];exact fL hk⟩
theorem wZ{cs:List (List Int)}{ats:List Int}{D:DK}(h:DeskT cs ats D){L:List Int}{s:NS}(hn:NI D L s):∀i,i<=D.t.rows.length->dQ D.T s.at' i=(B3 s i).map (rj D)
 |0,_=>rfl
 |i+1,hi=>by
  have o:=wZ h hn i (by omega);have n:rea D.T (D.T.lits.getD i 0)=rj D i:=rfl;rw[dQ,El];unfold Ej;rw[o,n]
  by_cases c:ay s.at' i=true
  .obtain⟨j,hj,p,k,_⟩:=hn.mem _ c;have b:i=j:=by omega
   subst b;have:¬rj D i∈(B3 s i).map (rj D):=by
    intro e;obtain⟨m,d,g⟩:=Of.1 e;rw[uI]at d;obtain⟨j,a,q,l,_⟩:=hn.mem _ d.2;have f:m=j:=by omega
    subst f;rw[rF h a,rF h hj]at g;exact FA h a hj d.1 l k g
   rw[N9 (by simp only[c,this,decide_false,Bool.not_false,Bool.and_self]),N9 c,OJ];rfl
  .have c':ay s.at' i=false:=by simpa using c
   rw[N8 (by simp[c']),N8 c]
theorem FB{cs:List (List Int)}{ats:List Int}{D:DK}(h:DeskT cs ats D){L:List Int}{s:NS}{l:List Int}{js:List Nat}(hi:CInv D L s l js){y:Int}(b:da y=true)(a:-y∈l):b8 l y=-1:=
 val3_m1_of b a (λe=>h.facts.one b ⟨hi.sub _ e,hi.sub _ a⟩)
theorem FC{cs:List (List Int)}{ats:List Int}{D:DK}(h:DeskI cs ats D){con:Int}(Q:Conf D con){L:List Int}{s:NS}(hn:NI D L s)
 (o:∀j (hj:j<D.t.rows.length),ay s.at' j=true->∀y∈aq D.A D.t.rows[j].rea,y≠D.t.rows[j].l->Met D L s y) (q:∀y∈aq D.A con,Met D L s y):
 ∀(js:List Nat)(l:List Int)(n:Nat),CInv D L s l js->∃l',kh l ((js.map (rj D)).map (aq D.A)++[aq D.A con]) n=(l',n+js.length+1,0)
 |[],l,n,hi=>by
  refine⟨l,?_⟩;have:DR l (aq D.A con)=-1:=by
   rw[lp];intro y hy _;have P:=(Q.neg y hy).1;refine FB h.toDeskT hi P ?_;rcases q y hy with e|⟨j,hj,m,z⟩
   .exact hi.neg y e
   .rw[←m];exact hi.don j hj z (by simp)
  simp[kh,this]
 |j::js,l,n,hi=>by
  obtain⟨hj,hs,I⟩:=hi.todo j (OA ..);obtain⟨Z,V,m,R,_⟩:=hn.mem _ hs;have E:j=Z:=by omega
  subst E;have w:=h.facts;obtain⟨r1,N,r3⟩:=cO h.toDeskT hj R;have O:=(r3 _ N).1;have v:=(litO O).2.2.2.1;have X:=(litO O).2.2.2.2;have p:=o j hj hs;have a:=QJ.1 hi.inc;obtain⟨k,hk,B,T⟩:∃k,∃hk:k<cs.length,aq D.A D.t.rows[j].rea=cs[k]∧True:=by
   obtain⟨k,hk,e,_⟩:=w.imp j hj R;rw[e];exact⟨k,hk,(h.ars k hk).2,trivial⟩
  have d:=h.cls.len _ (Od hk);have r:=h.cls.nd _ (Od hk);rw[←B]at d r;have K:b8 l D.t.rows[j].l=0:=by
   unfold b8;rw[N8 (by omega),N8 I,N8];rw[X];intro e;exact w.one O ⟨fL hj,hi.sub _ e⟩
  have M:∀y∈aq D.A D.t.rows[j].rea,y≠D.t.rows[j].l->b8 l y=-1:=λy hy u=>by
   have P:=(r3 y hy).1;refine FB h.toDeskT hi P ?_;rcases p y hy u with e|⟨i,b,m,z⟩
   .exact hi.neg y e
   .obtain⟨Y,C,U,S⟩:=(r3 y hy).2 u;have:i=Y:=w.inj b C (by rw[m,S]);subst this;rw[←m];refine hi.don i b z ?_;intro g;rcases OB.1 g with e|g
    .omega
    .have:=a.1 i g;omega
  have W:=unit_of d r N v K M;have G:¬DR l (aq D.A D.t.rows[j].rea)=-1:=by
   rw[lp];intro e;have:=e _ N v;omega
  have b:CInv D L s (l++[D.t.rows[j].l]) js:=by
   refine⟨?_,λy hy=>Pc _ (hi.neg y hy),?_,?_,a.2⟩
   .intro x hx;rcases Om.1 hx with hx|hx
    .exact hi.sub x hx
    .simp at hx;subst hx;exact fL hj
   .intro i c f J
    by_cases e:i=j
    .subst e;simp
    .exact Pc _ (hi.don i c f (by simp[e,J]))
   .intro i g;obtain⟨c,f,H⟩:=hi.todo i (Ou _ g);refine⟨c,f,?_⟩;intro e;rcases Om.1 e with e|e
    .exact H e
    .simp at e;have:=w.inj c hj (by rw[e]);have:=a.1 i g;omega
  obtain⟨l',F⟩:=FC h Q hn o q js _ (n+1) b;refine⟨l',?_⟩;rw[Ow,Ow,OU,kh,rF h.toDeskT hj,N8 G,W,N9 rfl,F,OC];congr 2;omega
theorem hints_show{cs:List (List Int)}{ats:List Int}{D:DK}(h:DeskI cs ats D){con:Int}(m:Conf D con){L:List Int}(u:AllNeg D L)(ho:(kg D.A D.T L con).ok=true):
 (pD D.T (kg D.A D.T L con).at' con).Nodup∧(∀q∈pD D.T (kg D.A D.T L con).at' con,isA D.A q=true)∧
  ∃l',kh (oJ L) ((pD D.T (kg D.A D.T L con).at' con).map (aq D.A)) 0=(l',(pD D.T (kg D.A D.T L con).at' con).length,0):=by
 have hp:=wY h m L;generalize kg D.A D.T L con=s at*;obtain⟨_,J,a3⟩:=hp.all ho;have Q:=h.facts;have o:D.T.lits.length=D.t.rows.length:=by rw[h.ok.rel.1.lits,Oj]
 have hin:=wZ h.toDeskT hp.ni D.t.rows.length (Oc _);have d:∀j∈B3 s D.t.rows.length,∃hj:j<D.t.rows.length,ay s.at' j=true∧0<=D.t.rows[j].rea∧-D.t.rows[j].l∉L:=λj hj=>by
  rw[uI]at hj;obtain⟨O,c,g,r,K⟩:=hp.ni.mem _ hj.2;have:j=O:=by omega
  subst this;exact⟨c,hj.2,r,K⟩
 have p:con∉(B3 s D.t.rows.length).map (rj D):=by
  intro e;obtain⟨j,hj,g⟩:=Of.1 e;obtain⟨c,_,F,_⟩:=d j hj;rw[rF h.toDeskT c]at g;exact Jl h.toDeskT m c F g
 have M:pD D.T s.at' con=(B3 s D.t.rows.length).map (rj D)++[con]:=by
  unfold pD;rw[o,hin,N8 p]
 have f:(B3 s D.t.rows.length).Pairwise (·<·):=List.Pairwise.filter _ List.pairwise_lt_range;rw[M];refine⟨?_,?_,?_⟩
 .rw[QW];refine⟨?_,by simp,λa N b I e=>?_⟩
  .refine Qa.2 (f.imp_of_mem λ{i j} hi hj w=>?_);obtain⟨n,_,G,_⟩:=d i hi;obtain⟨c,_,H,_⟩:=d j hj;rw[rF h.toDeskT n,rF h.toDeskT c];exact FA h.toDeskT n c w G H
  .simp at I;subst I;exact p (e▸N)
 .intro q k;rcases Om.1 k with k|k
  .obtain⟨j,hj,g⟩:=Of.1 k;obtain⟨c,_,F,_⟩:=d j hj;rw[rF h.toDeskT c]at g;rw[←g];exact(cO h.toDeskT c F).1
  .simp at k;subst k;exact m.is
 .have v:CInv D L s (oJ L) (B3 s D.t.rows.length):=by
   refine⟨?_,?_,?_,?_,f⟩
   .intro x hx;rw[nN]at hx;obtain⟨y,hy,rfl⟩:=hx;obtain⟨P,j,hj,e⟩:=u y hy;rw[(litO P).2.2.2.2,←e];exact fL hj
   .intro y hy;rw[nN];exact⟨y,hy,(litO (u y hy).1).2.2.2.2.symm⟩
   .intro j hj hs E;exact absurd ((uI s _ j).2 ⟨hj,hs⟩) E
   .intro j hj;obtain⟨c,hs,_,B⟩:=d j hj;refine⟨c,hs,λe=>?_⟩;rw[nN]at e;obtain⟨y,hy,r⟩:=e;rw[(litO (u y hy).1).2.2.2.2]at r;apply B;rw[r,P1];exact hy
  obtain⟨l',z⟩:=FC h m hp.ni (λj hj hs y hy C=>a3 j hj hs (by simp[ay,lk]) y hy C) (λy hy=>J y hy (by have:=litO (m.neg y hy).1;omega)) _ _ 0 v;refine⟨l',?_⟩;rw[OJ];have:List.map (aq D.A) [con]=[aq D.A con]:=rfl;rw[this,z];congr 2;simp
theorem hints_ok_of{cs:List (List Int)}{ats:List Int}{D:DK}(h:DeskI cs ats D){con:Int}(a:Conf D con){L:List Int}(hk:∀y∈aq D.A con,HOk D.A D.T L y):(kg D.A D.T L con).ok=true:=
 (wY h a L).ok λy hy _=>hk y hy
theorem w8{cs:List (List Int)}{ats:List Int}{D:DK}(h:DeskT cs ats D){L S:List Int}(f:∀x∈L,x∉S->jY D.A D.T L x=true):∀(n j:Nat)(hj:j<D.t.rows.length),j<n->(-D.t.rows[j].l∈L∨jY D.A D.T L (-D.t.rows[j].l)=true)->HOk D.A D.T S (-D.t.rows[j].l)
 |0,j,hj,hn,_=>by omega
 |n+1,j,hj,hn,hx=>by
  by_cases c:-D.t.rows[j].l∈S
  .exact .stop c
  have hd:jY D.A D.T L (-D.t.rows[j].l)=true:=hx.elim (λu=>f _ u c) id;rw[qU,Og]at hd;obtain⟨g,p⟩:=hd;obtain⟨i,hi,G,H,_,z,m⟩:=Jj h.ok g;have q:=h.facts.chk _ (Od hj);obtain⟨n0,E,F,_⟩:=litO q;have w:a8 (- -D.t.rows[j].l)=D.t.rows[j].l:=by rw[P1];exact ap (by omega) (by omega)
  have v:cr D.T (-D.t.rows[j].l)=j:=(rE h hj (by omega)).1;have b:i=j:=by omega
  subst b;refine zc h hj m λy hy a=>?_;obtain⟨I,_,B⟩:=cO h hj m;obtain⟨J,C⟩:=B y hy;obtain⟨k,hk,r,e⟩:=C a;have s:=ng h.ok.rel.1 h.facts hk e;rw[gW hk e]
  by_cases o:D.t.rows[k].lev<=0
  .exact uU h S (k+1) k hk (by omega) o
  have d:y∈qT D.A D.T (-D.t.rows[i].l):=by
   unfold qT;rw[N9 g,OW,z];refine⟨hy,?_⟩;unfold rV;unfold dw at s;simp only[OY,Re,P9];exact⟨by rw[w];exact a,by omega⟩
  have hp:=OP.1 p y d;unfold mw jX at hp;simp only[Pu,Og,Ov]at hp;refine w8 h f n k hk (by omega) ?_;rw[←gW hk e];rcases hp with⟨_,hp,_⟩|⟨_,hp⟩
  .exact .inl hp
  .exact .inr hp
theorem sho_hok{cs:List (List Int)}{ats:List Int}{D:DK}(h:DeskT cs ats D){L:List Int}(b:AllNeg D L):∀x∈L,HOk D.A D.T (oG D.A D.T L) x:=λx hx=>by
 obtain ⟨_, j, hj, e⟩ := b x hx; rw [gW hj e] at hx ⊢; refine w8 h (λ y hy hn => ?_) (j + 1) j hj (by omega) (.inl hx); have a : ga D.A D.T L y = true := OF λ a => hn (by
  unfold oG;rw[←O8 1 L,Om]at hy;rcases hy with hy|hy
  .exact Pc _ hy
  .refine PQ _ ?_;unfold aV;rw[OW];exact⟨hy,by simpa using a⟩)
 unfold ga gU at a;rw[Og]at a;exact a.2
theorem show_sound{m:List Bool}{S:List Int}{hs:List (List Int)}(a:∀y∈S,da y=true)(b:∀c∈hs,c.length<=1000000)(h:(kh (oJ S) hs 0).2.2=0)(d:∀c∈hs,b5 c m=true):b5 S m=true:=by
 refine OF λhn=>tw hs (oJ S) 0 b (λy hy=>?_) d h;obtain⟨x,hx,e⟩:=(nN S y).1 hy;obtain⟨n0,g,i,_,f⟩:=litO (a x hx);rw[e,f];refine Ft ((bk x).2 (by omega)) ?_;rw[Rn]at hn;have:=QS.1 hn x hx;simpa using this
end Go.AX.V