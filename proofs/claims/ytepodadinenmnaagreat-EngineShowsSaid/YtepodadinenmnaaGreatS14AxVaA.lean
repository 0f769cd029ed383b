/-
  Contracts: watches: made anew, Attach, Detach, Attached.
  Contracts: a desk with clauses, of six variables, and a watch.
  Contracts: a desk with clauses: places; a clause is attached, or detached.
  A watch to which clauses are attached, and detached, goes with the document (plain law).
  Trails of any number of variables, told plainly (plain law).
  Watches: what always holds of them (plain law).
  Watches: what Propagate brings about (plain law).
  Watches: Propagate closes what is attached under units, or tells a conflict (plain law, and the call).
  What follows by units does not hang on the order (plain law).
  Contracts: a desk with clauses and a watch: a literal is decided, or taken back.
  Contracts: arenas whose clauses may be learnt, and dropped; literals made; models.
  Desks of any number of variables: what a conflict teaches, and what is left of it (plain law).
-/
import Derived.Test.YtepodadinenmnaaGreatS14AxWaG
import Derived.Test.YtepodadinenmnaaGreatS14AxRnX
import Derived.Test.YtepodadinenmnaaGreatS14AxTxG
import Derived.Test.YtepodadinenmnaaGreatS14AxTtA
import Derived.Test.YtepodadinenmnaaGreatS14AxDkQ
import Derived.Test.YtepodadinenmnaaGreatAxIs
import Derived.Test.YtepodadinenmnaaGreatAxTb
import Derived.Test.YtepodadinenmnaaGreatS14AxWaD
namespace Go.AX
open Go.Proofs
set_option linter.unusedSimpArgs false
theorem yF(T:Tr)(d:T.marks.length<=1000000)(c:T.lits.length<=1000000):am Tryz.prog 56 [bE T] (λr=>r=.pv (af ((T.marks.length:Int) -1 -T.lits.length))):=by
 refine ao aD Tryz.func56 ?_;have hi:=l4 T;have a:aX ((T.marks.length:Int) -1)=(T.marks.length:Int) -1:=aq (by omega) (by omega);have b:aX ((T.marks.length:Int) -1 -T.lits.length)=(T.marks.length:Int) -1 -T.lits.length:=aq (by omega) (by omega);simp only[bE,cU]at hi;simp[bE,cU];refine ah.intro hi ?_;simp[a,b]
theorem J7(x v:Int):am Tryz.prog 208 [af x,.iptr 1 [[af v]] 0 0] (λr=>r=.pv (BL (!decide (ax x v=0)))):=by
 refine ao aD Tryz.func208 ?_;simp;refine ah.intro (i9 x v) ?_
 by_cases c:ax x v=0
 .simp[c]
 .simp[c]
theorem Hw(h:List (List SV))(b:Nat)(A:Ar)(e:h[b]?=some (l6 A))(hk:kJ A)(i:A.row.length<=1000000)(q:Int):ay Tryz.prog 158 [.ptr b 0,af q] h (λr h'=>h'=h∧r=.pv (af (je A q))):=by
 refine gh [] [.tmp 4] aD Tryz.func158 ?_;obtain⟨d,a⟩:=P7.1 e;unfold je;simp;refine ak.intro (Ax h b A e q) ?_;rintro _ _ ⟨rfl,rfl⟩
 by_cases c:isA A q=true
 .obtain⟨p,n,rfl,g⟩:=hk q c;have hp:p<A.row.length:=by have:=g.len;omega
  simp[a,d,l6,c,hp]
 .have f:isA A q=false:=by simpa using c
  simp[f]
theorem uR(h:List (List SV))(b:Nat)(A:Ar)(d:h[b]?=some (l6 A))(hk:kJ A)(f:A.row.length<=1000000)(q:Int)(hi:isA A q=true):
 ay Tryz.prog 160 [.ptr b 0,af q] h (λr h'=>h'=h∧r=.pv (.seq false 1 (ab (au A q)))):=by
 obtain⟨p,n,rfl,a⟩:=hk q hi;have e:au A (p:Int)=dB A p n:=by
  unfold au;rw[Qb hi];have h1:p+1<A.row.length:=by have:=a.len;omega
  have c:A.row.getD ((p:Int).toNat+1) 0=(n:Int):=by rw[←a.num];rfl
  rw[c];rfl
 rw[e];exact Gc h b A d p n hi a f
theorem J8(h:List (List SV))(ba bt:Nat):ay Tryz.prog 67 [.ptr ba 0,.ptr bt 0] h (λr h'=>h'=h++[[.pv (.ptr ba 0),.pv (.ptr bt 0),.omap true [],.omap true [],.omap true [],.pv (af 0),.pv (.lit (.slice none 0 0))]]∧r=.pv (.ptr h.length 0)):=by
 refine cY [] [.tmp 4] aD Tryz.func67 ?_;simp
@[simp] theorem J9:∀(l:List (Int×Nat))(k:Int),gX k (aC uM l)=aC uM (dl l k)
 |[],k=>rfl
 |(j,x)::l,k=>by
  show(if j=k then aC uM l else(j,uM x)::gX k (aC uM l))=aC uM (if j=k then l else(j,x)::dl l k);rw[J9 l k];split<;>rfl
theorem sH{α:Type}:∀{l:List (Int×α)}{k:Int},k∉l.map (·.1)->lk l k=none
 |[],_,_=>rfl
 |(j,x)::l,k,h=>by
  simp only[Qw,QC,U1]at h;rw[lk,Qa (λe=>h.1 e.symm)];exact sH h.2
theorem Hx{α:Type}:∀{l:List (Int×α)},(l.map (·.1)).Nodup->∀k x:Int,lk (dl l k) x=if x=k then none else lk l x
 |[],_,k,x=>by show none=_;split<;>rfl
 |(j,y)::l,h,k,x=>by
  simp only[Qw,RQ]at h;show lk (if j=k then l else(j,y)::dl l k) x=if x=k then none else if j=x then some y else lk l x
  by_cases e:j=k
  .rw[Qb e]
   by_cases c:x=k
   .rw[Qb c,c,←e];exact sH h.1
   .rw[Qa c,Qa (λa=>c (a.symm.trans e))]
  .rw[Qa e,lk,Hx h.2 k x]
   by_cases c:x=k
   .rw[Qb c,Qb c,Qa (λa=>e (a.trans c))]
   .rw[Qa c,Qa c]
section
variable {h : List (List SV)} {bw ba bt : Nat} {mp : List (Int × Nat)} {mb : List (Int × By)} {A : Ar} {T : Tr} {S : WS}
theorem LayW.newP(L:LayW h bw ba bt mp mb A T S)(k:Int)(p:Pr)(late:List (Int×Int)):
    LayW ((h++[oY p]).set bw (cB ba bt ⟨pt mp k h.length,mb,late,S.head,S.seen⟩)) bw ba bt (pt mp k h.length) mb A T ⟨pt S.prs k p,S.byl,late,S.head,S.seen⟩:=by
  have hwl:=(P7.1 L.w).1
  have lt:∀{b:Nat}{x:List SV},h[b]?=some x->b<h.length:=λhx=>(P7.1 hx).1
  have up:∀{c:Nat}{x:List SV},c≠bw->h[c]?=some x->((h++[oY p]).set bw (cB ba bt ⟨pt mp k h.length,mb,late,S.head,S.seen⟩))[c]?=some x:=λn1 hx=>by
    rw[Qt (λe=>n1 e.symm),Qd (lt hx),hx]
  have self:((h++[oY p]).set bw (cB ba bt ⟨pt mp k h.length,mb,late,S.head,S.seen⟩))[h.length]?=some (oY p):=by
    rw[Qt (by omega)];simp
  have old:∀k' b,lk mp k'=some b->b<h.length:=λk' b hb=>by obtain⟨_,_,a2,_⟩:=L.pr k' b hb;exact lt a2
  exact { w := Q0 (by simp; omega), a := up L.wa.symm L.a, t := up L.wt.symm L.t, wa := L.wa, wt := L.wt, at' := L.at', keys := yB _ _ _ _ _ L.keys, byn := L.byn, binj := L.binj
          pr:=λk' b hb=>by
            rw[bD]at hb
            show∃p',lk (pt S.prs k p) k'=some p'∧_
            rw[bD]
            by_cases c:k=k'
            · rw[Qb c]at hb;cases hb
              exact⟨p,Qb c,self,Ti hwl,Ti (lt L.a),Ti (lt L.t)⟩
            · rw[Qa c]at hb
              obtain⟨p',a1,a2,a3⟩:=L.pr k' b hb
              exact⟨p',by rw[Qa c];exact a1,up a3.1 a2,a3⟩
          by':=λl e he=>by
            obtain⟨zs,a1,⟨sp,a2,a3⟩,a4⟩:=L.by' l e he
            exact⟨zs,a1,⟨sp,up a4.1 a2,a3⟩,a4⟩
          pinj:=λk1 k2 b h1 h2=>by
            rw[bD]at h1 h2
            by_cases c1:k=k1
            · by_cases c2:k=k2
              · exact c1.symm.trans c2
              · rw[Qb c1]at h1;rw[Qa c2]at h2;cases h1
                have:=old k2 _ h2;omega
            · rw[Qa c1]at h1
              by_cases c2:k=k2
              · rw[Qb c2]at h2;cases h2
                have:=old k1 _ h1;omega
              · rw[Qa c2]at h2
                exact L.pinj k1 k2 b h1 h2
          pb:=λk' b l e hb he=>by
            rw[bD]at hb
            by_cases c:k=k'
            · rw[Qb c]at hb;cases hb
              obtain⟨_,_,⟨_,a2,_⟩,_⟩:=L.by' l e he
              exact Ti (lt a2)
            · rw[Qa c]at hb;exact L.pb k' b l e hb he}
end
def o7(A:Ar)(T:Tr)(S:WS)(k:Int):Int:=if je A k=0 then 20 else if(lk S.prs k).isSome=true then 21 else if(au A k).any (λl=>!decide (ax l ((T.marks.length:Int) -1)=0))=true then 10 else 0
def nZ(A:Ar)(T:Tr)(S:WS)(k:Int):WS:=if o7 A T S k=0 then⟨pt S.prs k ⟨au A k,0,0⟩,S.byl,pt S.late k (aX ((lk S.late k).getD 0+1)),S.head,S.seen⟩else S
def Hy:Sch:=
 let g:Sch:=.fork [(13,.done)]
 let l:Sch:=.fork [(12,g)]
 let e:Sch:=.fork [(9,.take 10 (.take 11 g))]
 let h:Sch:=.fork [(9,.take 10 (.take 11 l)),(12,e)]
 let i:Sch:=.fork [(8,e)]
 let m:Sch:=.fork [(8,h),(12,i)]
 let f:Sch:=.fork [(4,e)]
 let j:Sch:=.fork [(4,h),(12,f)]
 let k:Sch:=.fork [(4,i),(8,f)]
 let n:Sch:=.fork [(4,m),(8,j),(12,k)]
 let a:Sch:=.fork [(3,f)]
 let b:Sch:=.fork [(3,j),(12,a)]
 let c:Sch:=.fork [(3,k),(8,a)]
 let d:Sch:=.fork [(3,n),(8,b),(12,c)]
 .take 0 (.take 1 (.take 2 (.take 5 (.take 6 (.take 7 d)))))
set_option maxRecDepth 16000 in
theorem A5(h:List (List SV))(bw ba bt:Nat)(mp:List (Int×Nat))(mb:List (Int×By))(A:Ar)(T:Tr)(S:WS)(L:LayW h bw ba bt mp mb A T S)(hk:kJ A)(O:A.row.length<=1000000)(W:T.marks.length<=1000000)(s:T.lits.length<=1000000)(k:Int):
 ay Tryz.prog 128 [.ptr bw 0,af k] h (λr h'=>r=.pv (af (o7 A T S k))∧∃mp',LayW h' bw ba bt mp' mb A T (nZ A T S k)∧Ext h h' (aR bw bt mp mb) (aR bw bt mp' mb)):=by
 refine cY [8] [.tmp 4] aD Tryz.func128 ?_;obtain⟨i,j⟩:=P7.1 L.w;have kM:=yA h bw ba bt _ L.w;have Y:=Hw h ba A L.a hk O k;simp;refine ak.intro kM ?_;rintro _ q ⟨e,rfl⟩;rw[e];clear e q;simp[i,j,cB];refine ak.intro Y ?_;rintro _ q ⟨e,rfl⟩;rw[e];clear e q
 by_cases c1:je A k=0
 .have o:o7 A T S k=20:=by unfold o7;rw[Qb c1]
  have F:nZ A T S k=S:=by unfold nZ;rw[o];rfl
  rw[o,F];simp[c1];exact⟨mp,L,Ext.refl _ _⟩
 have v:isA A k=true:=by
  unfold je at c1
  by_cases c:isA A k=true
  .exact c
  .rw[Qa c]at c1;exact absurd rfl c1
 cases hp:lk mp k with
 |some b=>
  obtain⟨p,I,_⟩:=L.pr k b hp;have o:o7 A T S k=21:=by unfold o7;rw[Qa c1,I];rfl
  have F:nZ A T S k=S:=by unfold nZ;rw[o];rfl
  rw[o,F];simp[c1,i,j,cB,hp,uM];exact⟨mp,L,Ext.refl _ _⟩
 |none=>
 have J:lk S.prs k=none:=by
  cases X:lk S.prs k with
  |none=>rfl
  |some p=>obtain⟨b,H,_⟩:=L.some_p X;rw[hp]at H;cases H
 have Z:=uR h ba A L.a hk O k v;simp[c1,i,j,cB,hp,uM];refine ak.intro Z ?_;rintro _ q ⟨e,rfl⟩;rw[e];clear e q;simp;obtain⟨G,g⟩:∃G,G=h++[[SV.pv (af ((T.marks.length:Int) -1))]]:=⟨_,rfl⟩;have L0:LayW G bw ba bt mp mb A T S:=by rw[g];exact L.app _
 have C:Ext h G (aR bw bt mp mb) (aR bw bt mp mb):=by rw[g];exact Ext.app _ _ _
 have hz:=cG L.t 2;have f:=λx=>cG (L.app [x]).t 2;have kO:=yF T W s;have kT:=eY T s;have N:aX ((T.marks.length:Int) -1)=(T.marks.length:Int) -1:=aq (by omega) (by omega);obtain⟨z,g2⟩:=P7.1 L0.w;have D:∀x,(h++[x])[bw]?=some (cB ba bt ⟨mp,mb,S.late,S.head,S.seen⟩):=λx=>(L.app [x]).w;refine bd.meet Hy ⟨[(0,.pv (.ptr bw 0)),(1,.pv (af k)),(5,.pv (.seq false 1 (ab (au A k)))),(6,.pv (.ptr h.length 0))],G⟩ (by kernel_rfl) ?_ ?_
 .simp[Hy,i,j,cB,hz,D,f]
  repeat' first
   |refine And.intro ?_ ?_
   |(refine ak.introP kO ?_;simp[i,j,cB,hz,D,f,N])
   |(refine ak.introP kT ?_;simp[i,j,cB,hz,D,f,N])
   |exact ai.keep (by simp) (by rw[g])
 have P:=dM (au A k) (by have:=fA A hk k;omega) 208 [.iptr 1 [[af ((T.marks.length:Int) -1)]] 0 0] (λl=>!decide (ax l ((T.marks.length:Int) -1)=0)) (λr=>by simp) rfl (λm=>by simp) (λx _=>J7 x _);have Q:h.length<G.length:=by rw[g];simp
 have n2:G[h.length]'Q=[.pv (af ((T.marks.length:Int) -1))]:=by simp[g]
 generalize u:(au A k).any (λl=>!decide (ax l ((T.marks.length:Int) -1)=0))=B at P;have U:∀n,a8 G (n+1) h.length 0=.iptr 1 [[af ((T.marks.length:Int) -1)]] 0 0:=λn=>by simp[a8,Q,n2,frzC]
 have R:o7 A T S k=if B=true then 10 else 0:=by unfold o7;rw[Qa c1,J,u];rfl
 have d:nZ A T S k=if o7 A T S k=0 then⟨pt S.prs k ⟨au A k,0,0⟩,S.byl,pt S.late k (aX ((lk S.late k).getD 0+1)),S.head,S.seen⟩else S:=rfl;rw[R]at d⊢;generalize nZ A T S k=S2 at*;simp[U];refine ah.intro P ?_;cases B
 .have E:(if false=true then(10:Int)else 0)=0:=rfl;rw[E]at d⊢;rw[Qb rfl]at d;subst d;have M:=L0.newP k ⟨au A k,0,0⟩ (pt S.late k (aX ((lk S.late k).getD 0+1)));have K:Ext h ((G++[oY ⟨au A k,0,0⟩]).set bw (cB ba bt ⟨pt mp k G.length,mb,pt S.late k (aX ((lk S.late k).getD 0+1)),S.head,S.seen⟩)) (aR bw bt mp mb) (aR bw bt (pt mp k G.length) mb):=
   ((C.trans (Ext.app G _ _)).trans (Ext.set bw _ (.inl rfl))).dom λb H hd=>by
    rcases hd with h1|h1|⟨k',h1⟩|h1
    .exact .inl h1
    .exact .inr (.inl h1)
    .rw[bD]at h1
     by_cases c:k=k'
     .rw[Qb c]at h1;cases h1;have:=C.len;omega
     .rw[Qa c]at h1;exact .inr (.inr (.inl ⟨k',h1⟩))
    .exact .inr (.inr (.inr h1))
  have V:G.length=h.length+1:=by rw[g];simp
  have b1:∀x,(G++[x])[bw]?=some (cB ba bt ⟨mp,mb,S.late,S.head,S.seen⟩):=λx=>(L0.app [x]).w;have b2:∀x y,(G.set bw y++[x])[bw]?=some y:=λx y=>by rw[Qd (by simpa using z),Q0 z]
  rw[Su _ _ z]at M K;simp[z,g2,cB,b1,b2];exact⟨_,M,K⟩
 .have E:(if true=true then(10:Int)else 0)=10:=rfl;rw[E]at d⊢;rw[Qa (by omega)]at d;subst d;simp;exact⟨mp,L0,C⟩
theorem iF.to{P:Program}{k0:Nat}{ops:Array Oper}{K:St->Prop}{st:St}(b:St)(c:ai k0 st b)(h:iF P k0 ops K b):iF P k0 ops K st:=
 iF.weak (ι:=Unit) (λ_=>b) (λg a w h0 hs=>by obtain⟨g',t,s'⟩:=c g a w h0 hs;exact⟨g',(),t,s'⟩) λ_=>h
theorem LayW.other{h:List (List SV)}{bw ba bt:Nat}{mp:List (Int×Nat)}{mb:List (Int×By)}{A:Ar}{T:Tr}{S:WS}(L:LayW h bw ba bt mp mb A T S)(b:Nat)(x:List SV)(hd:¬aR bw bt mp mb b)(ha:b≠ba):LayW (h.set b x) bw ba bt mp mb A T S:=by
  have up:∀{c:Nat}{y:List SV},b≠c->h[c]?=some y->(h.set b x)[c]?=some y:=λhn hx=>by rw[Qt hn,hx]
  exact { w := up (λ e => hd (.inl e)) L.w, a := up ha L.a, t := up (λ e => hd (.inr (.inl e))) L.t, wa := L.wa, wt := L.wt, at' := L.at', keys := L.keys, pinj := L.pinj, byn := L.byn, binj := L.binj, pb := L.pb
          pr:=λk c hc=>by obtain⟨p,h1,h2,h3⟩:=L.pr k c hc;exact⟨p,h1,up (λe=>hd (.inr (.inr (.inl ⟨k,e▸hc⟩)))) h2,h3⟩
          by':=λl e he=>by
            obtain⟨zs,h1,⟨sp,h2,h3⟩,h4⟩:=L.by' l e he
            exact⟨zs,h1,⟨sp,up (λe2=>hd (.inr (.inr (.inr ⟨l,e,he,e2.symm⟩)))) h2,h3⟩,h4⟩}
theorem mem_keys{α:Type}:∀{l:List (Int×α)}{k:Int},(lk l k).isSome=true↔k∈l.map (·.1)
 |[],k=>by simp[lk]
 |(j,x)::l,k=>by
  rw[lk,Qw,QC]
  by_cases e:j=k
  .rw[Qb e];simp[e]
  .rw[Qa e,mem_keys];constructor
   .exactλh=>.inr h
   .rintro(h|h)
    .exact absurd h.symm e
    .exact h
theorem sI{α:Type}:∀(l:List (Int×α))(k:Int),(dl l k).map (·.1)=(l.map (·.1)).erase k
 |[],_=>rfl
 |(j,x)::l,k=>by
  rw[dl,Qw,List.erase_cons]
  by_cases e:j=k
  .rw[Qb e,Qb (by simpa using e)]
  .rw[Qa e,Qa (by simpa using e),Qw,sI l k]
theorem yG{l:List Int}(h:l.Nodup):(bK l).Nodup:=by
 unfold bK;exact(TL l _).nodup_iff.2 h
theorem b8{n:Nat}(hn:n<=100000){l:Int}(h:ax l n=0):l≠0∧-(n:Int)<=l∧l<=n∧1<=ae l∧ae l<=n∧ae l=du l∧0<=aV l∧aX (-l)=-l:=by
 obtain⟨a,b,c⟩:=(df (by omega)).1 h;obtain⟨d,e,f,g⟩:=oG (by omega) h;exact⟨a,b,c,d,e,g,by rw[gy];exact f,aq (by omega) (by omega)⟩
theorem qm{n:Nat}(hn:n<=100000){l:Int}(h:ax l n=0):ax (-l) n=0:=by
 obtain⟨a,b,c⟩:=(df (by omega)).1 h;exact(df (by omega)).2 ⟨by omega,by omega,by omega⟩
theorem o8{n:Nat}(hn:n<=100000){x y:Int}(hx:ax x n=0)(hy:ax y n=0):ae x=ae y↔x=y∨x=-y:=by
 obtain⟨_,_,_,_,_,a,_⟩:=b8 hn hx;obtain⟨_,_,_,_,_,b,_⟩:=b8 hn hy;rw[a,b];unfold du;constructor
 .intro h;split at h<;>split at h<;>omega
 .intro h;split<;>split<;>omega
def mi(beg:List Int)(i:Nat):Int:=((beg.filter λb=>decide (b<=(i:Int))).length:Nat)
def yH(l:Int):Int:=if l<0 then-1 else 1
structure TMk (n:Nat) (T:Tr):Prop where
  hn:n<=100000
  len:T.marks.length=n+1
  chk:∀y∈T.lits,ax y n=0
  nd:(T.lits.map ae).Nodup
  mark:∀i (hi:i<T.lits.length),(bC T (ae T.lits[i])).v=yH T.lits[i]∧(bC T (ae T.lits[i])).lev=mi T.beg i∧(bC T (ae T.lits[i])).pla=i
  free:∀v:Int,v∉T.lits.map ae->(bC T v).v=0
structure TOk (n:Nat) (T:Tr):Prop extends TMk n T where
  bnd:∀b∈T.beg,0<=b∧b<T.lits.length
  rise:T.beg.Pairwise (·<·)
section
variable {n : Nat} {T : Tr}
theorem TMk.okT(h:TMk n T):T.ok:=⟨by rw[h.len];omega,by rw[h.len];have:=h.hn;omega⟩
theorem TMk.vars(h:TMk n T):(T.marks.length:Int) -1=n:=by rw[h.len];omega
theorem TMk.few(h:TMk n T):T.lits.length<=n:=by
 have h1:((T.lits.map ae).map Int.toNat).Nodup:=by
  refine Sk.2 (h.nd.imp_of_mem ?_);intro a b c g d e;obtain⟨x,hx,rfl⟩:=Qk.1 c;obtain⟨y,hy,rfl⟩:=Qk.1 g;have:=(b8 h.hn (h.chk x hx)).2.2.2.1;have:=(b8 h.hn (h.chk y hy)).2.2.2.1;exact d (by omega)
 have f:(T.lits.map ae).map Int.toNat⊆List.range' 1 n:=by
  intro v i;obtain⟨a,c,rfl⟩:=Qk.1 i;obtain⟨x,hx,rfl⟩:=Qk.1 c;obtain⟨_,_,_,p,q,_⟩:=b8 h.hn (h.chk x hx);rw[List.mem_range'_1];omega
 have:=(fi _ _ h1 f);simpa using this
theorem TMk.inj(h:TMk n T){i j:Nat}(hi:i<T.lits.length)(hj:j<T.lits.length)(e:ae T.lits[i]=ae T.lits[j]):i=j:=by
 have hp:=QV.1 (Sk.1 h.nd);rcases RH i j with c|c|c
 .exact absurd e (hp i j hi hj c)
 .exact c
 .exact absurd e.symm (hp j i hj hi c)
theorem TMk.one(h:TMk n T){y:Int}(hy:y∈T.lits)(b:-y∈T.lits):False:=by
 obtain⟨i,hi,c⟩:=Qm hy;obtain⟨j,hj,d⟩:=Qm b;have e:ae T.lits[i]=ae T.lits[j]:=by rw[c,d,dC]
 have a:i=j:=h.inj hi hj e;subst a;have:=(b8 h.hn (h.chk y hy)).1;omega
theorem TMk.val(h:TMk n T){l:Int}(b:ax l n=0):cv T l=if l∈T.lits then 1 else if-l∈T.lits then-1 else 0:=by
 unfold cv;rw[h.vars,Qa (by simp[b])];have f:aX (-1)=-1:=by decide
 have g:aX (- -1)=1:=by decide
 have j:aX (-0)=0:=by decide
 have l0:=(b8 h.hn b).1
 by_cases c:l∈T.lits
 .obtain⟨i,hi,e⟩:=Qm c;have a:=(h.mark i hi).1;rw[e]at a;rw[Qb c,a];unfold yH
  by_cases d:l<0
  .rw[Qb d,Qb d,g]
  .rw[Qa d,Qa d]
 rw[Qa c]
 by_cases c2:-l∈T.lits
 .obtain⟨i,hi,e⟩:=Qm c2;have a:=(h.mark i hi).1;rw[e,dC]at a;rw[Qb c2,a];unfold yH
  by_cases d:l<0
  .rw[Qb d,Qa (by omega),f]
  .rw[Qa d,Qb (by omega)]
 .rw[Qa c2,h.free]
  .split
   .exact j
   .rfl
  .intro a;obtain⟨x,hx,e⟩:=Qk.1 a;rcases(o8 h.hn (h.chk x hx) b).1 e with rfl|rfl
   .exact c hx
   .exact c2 hx
theorem TMk.val1(h:TMk n T){l:Int}(a:ax l n=0):cv T l=1↔l∈T.lits:=by
 rw[h.val a];split
 .simp_all
 .split<;>simp_all
theorem TMk.valm(h:TMk n T){l:Int}(a:ax l n=0):cv T l=-1↔-l∈T.lits:=by
 rw[h.val a];split
 .rename_i c;simp;intro c2;exact h.one c c2
 .split<;>simp_all
theorem TMk.val0(h:TMk n T){l:Int}(a:ax l n=0):cv T l=0↔l∉T.lits∧-l∉T.lits:=by
 rw[h.val a];split
 .simp_all
 .split<;>simp_all
theorem TMk.may(h:TMk n T)(l:Int):fJ T l=0↔ax l n=0∧l∉T.lits∧-l∉T.lits:=by
 unfold fJ;rw[h.vars]
 by_cases c:ax l n=0
 .rw[Qa (by simp[c])];have f:=h.val c;have e:(bC T (ae l)).v=0↔cv T l=0:=by
   unfold cv;rw[h.vars,Qa (by simp[c])]
   by_cases d:l<0
   .rw[Qb d];constructor
    .intro e;rw[e];decide
    .intro e;have b:-1<=(bC T (ae l)).v∧(bC T (ae l)).v<=1:=by
      by_cases m:ae l∈T.lits.map ae
      .obtain⟨x,hx,a⟩:=Qk.1 m;obtain⟨i,hi,rfl⟩:=Qm hx;rw[←a,(h.mark i hi).1];unfold yH;split<;>omega
      .rw[h.free _ m];omega
     rw[aq (by omega) (by omega)]at e;omega
   .rw[Qa d]
  rw[←h.val0 c,←e]
  by_cases d:(bC T (ae l)).v=0
  .simp[c,d]
  .simp[c,d]
 .rw[Qb c];simp[c]
theorem TOk.new(hn:n<=100000):TOk n (jE n)where
 hn:=hn
 len:=by simp[jE]
 chk:=by simp[jE]
 nd:=by simp[jE]
 mark:=λi hi=>absurd hi (by simp[jE])
 free:=λv _=>by
  unfold bC jE;rw[P9];simp only[UF];split<;>rfl
 bnd:=by simp[jE]
 rise:=by simp[jE]
theorem Hz{beg:List Int}{i:Nat}(h:∀b∈beg,b<=i):mi beg i=beg.length:=by
 unfold mi;rw[Si.2 (λb a=>by simpa using h b a)]
theorem jN(T:Tr)(l rea:Int)(h1:1<=ae l)(a:ae l<T.marks.length)(v:Int)(b:0<=v):bC (gH T l rea) v=if v=ae l then⟨yH l,T.beg.length,rea,T.lits.length⟩else bC T v:=by
 unfold bC gH;simp only[P9,QB]
 by_cases c:v=ae l
 .subst c;rw[Qb rfl,Qb rfl,Qb (by omega)];rfl
 .rw[Qa (by omega),Qa c]
theorem TMk.put(h:TMk n T){l:Int}(s:fJ T l=0)(rea:Int)(m:∀b∈T.beg,b<=T.lits.length):TMk n (gH T l rea):=by
 obtain⟨q,t,u⟩:=(h.may l).1 s;obtain⟨_,_,_,o,w,_⟩:=b8 h.hn q;have d:ae l<T.marks.length:=by rw[h.len];omega
 have g:ae l∉T.lits.map ae:=λp=>by
  obtain⟨x,hx,e⟩:=Qk.1 p;rcases(o8 h.hn (h.chk x hx) q).1 e with rfl|rfl
  .exact t hx
  .exact u hx
 have k:∀y∈T.lits,0<=ae y:=λy hy=>by have:=(b8 h.hn (h.chk y hy)).2.2.2.1;omega
 refine⟨h.hn,by simp[gH,h.len],?_,?_,?_,?_⟩
 .intro y hy;rcases Qn.1 hy with hy|hy
  .exact h.chk y hy
  .simp at hy;subst hy;exact q
 .show((T.lits++[l]).map ae).Nodup;rw[QT,Ty];refine⟨h.nd,by simp,λa r b m e=>?_⟩;simp at m;subst m;subst e;exact g r
 .have key:∀i (hi:i<(T.lits++[l]).length),(bC (gH T l rea) (ae (T.lits++[l])[i])).v=yH (T.lits++[l])[i]∧(bC (gH T l rea) (ae (T.lits++[l])[i])).lev=mi T.beg i∧(bC (gH T l rea) (ae (T.lits++[l])[i])).pla=i:=by
   intro i hi;have j:=hi;rw[Qh]at j;simp only[QA,List.length_nil]at j
   by_cases c:i<T.lits.length
   .rw[QN c,jN T l rea o d _ (k _ (Qe c)),Qa (λe:ae T.lits[i]=ae l=>g (e▸Sy (Qe c)))];exact h.mark i c
   .have:i=T.lits.length:=by omega
    subst this;rw[SA (Qc _)];simp only[RM,Sv];rw[jN T l rea o d _ (by omega),Qb rfl];exact⟨rfl,(Hz m).symm,rfl⟩
  exact key
 .intro v p;have f:v∉(T.lits++[l]).map ae:=p;rw[QT,Qn,U1]at f;simp only[Qw,R1,QI]at f
  by_cases c:0<=v
  .rw[jN T l rea o d v c,Qa f.2];exact h.free v f.1
  .have h0:=h.free 0 (λe=>by obtain⟨x,hx,e⟩:=Qk.1 e;have:=(b8 h.hn (h.chk x hx)).2.2.2.1;omega);have e:∀T':Tr,bC T' v=bC T' 0:=λT'=>by unfold bC;rw[show v.toNat=(0:Int).toNat by omega]
   rw[e,jN T l rea o d 0 (by omega),Qa (by omega)];exact h0
theorem TOk.imp(h:TOk n T){l:Int}(c:fJ T l=0)(rea:Int):TOk n (gH T l rea):=
 {h.toTMk.put c rea (λb a=>by have:=(h.bnd b a).2;omega)with
  bnd:=λb a=>by have:=h.bnd b a;show 0<=b∧b<((T.lits++[l]).length:Int);simp;omega
  rise:=h.rise}
theorem TMk.beg(h:TMk n T)(e:∀b∈T.beg,b<T.lits.length):TMk n (pI T)where
 hn:=h.hn
 len:=h.len
 chk:=h.chk
 nd:=h.nd
 mark:=λi hi=>by
  obtain⟨a,b,c⟩:=h.mark i hi;refine⟨a,b.trans ?_,c⟩;have d:i<T.lits.length:=hi;unfold mi pI;simp only[RK];rw[Q9,Qa (by simp;omega)];simp
 free:=h.free
theorem TOk.dec(h:TOk n T)(l:Int):TOk n (km T l):=by
 unfold km;split
 .rename_i c;have h1:=h.toTMk.beg (λb d=>(h.bnd b d).2);have e:∀b∈(pI T).beg,0<=b∧b<=T.lits.length:=λb d=>by
   rcases Qn.1 d with d|d
   .have:=h.bnd b d;omega
   .simp at d;omega
  exact{h1.put (l:=l) c (-1) (λb d=>(e b d).2)with
   bnd:=λb d=>by have:=e b d;show 0<=b∧b<((T.lits++[l]).length:Int);simp;omega
   rise:=by
    show(T.beg++[(T.lits.length:Int)]).Pairwise (·<·);rw[S7];refine⟨h.rise,by simp,λa f b d=>?_⟩;simp at d;have:=(h.bnd a f).2;omega}
 .exact h
theorem TMk.pop(h:TMk n T){m:Nat}(r:T.lits.length=m+1):TMk n (lc T):=by
 have a:T.lits.getD (T.lits.length -1) 0=T.lits[m]:=by
  have e:T.lits.length -1=m:=by omega
  rw[e,P9,P8 (by omega),QF]
 have f:m<T.lits.length:=by omega
 obtain⟨_,_,_,s,t,_⟩:=b8 h.hn (h.chk _ (Qe f));have d:∀v:Int,0<=v->bC (lc T) v=if v=ae T.lits[m]then⟨0,0,0,0⟩else bC T v:=λv j=>by
  unfold bC lc;rw[a];simp only[P9,QB]
  by_cases c:v=ae T.lits[m]
  .subst c;rw[Qb rfl,Qb rfl,Qb (by rw[h.len];omega)];rfl
  .rw[Qa (by omega),Qa c]
 have b:(lc T).lits=T.lits.take m:=by unfold lc;rw[r];rfl
 have g:∀y∈T.lits,0<=ae y:=λy hy=>by have:=(b8 h.hn (h.chk y hy)).2.2.2.1;omega
 refine⟨h.hn,by simp[lc,h.len],?_,?_,?_,?_⟩
 .intro y hy;rw[b]at hy;exact h.chk y (Q4 hy)
 .rw[b];exact h.nd.sublist ((Td m T.lits).map ae)
 .intro i hi;have p:i<m:=by rw[b,Qg]at hi;omega
  have o:(lc T).lits[i]=T.lits[i]'(by omega):=by simp only[b];exact Rr
  rw[o,d _ (g _ (Qe _)),Qa (λe=>by have:=h.inj (by omega) f e;omega)];exact h.mark i (by omega)
 .intro v j;rw[b]at j;have key:∀v:Int,0<=v->v∉(T.lits.take m).map ae->(bC (lc T) v).v=0:=λv c j=>by
   rw[d v c];split
   .rfl
   .rename_i k;refine h.free v λhx=>?_;obtain⟨x,l,e⟩:=Qk.1 hx;subst e;obtain⟨i,hi,e⟩:=Qm l;subst e
    by_cases q:i=m
    .subst q;exact k rfl
    .exact j (Qk.2 ⟨T.lits[i],by rw[Rw];exact⟨i,by omega,rfl⟩,rfl⟩)
  by_cases c:0<=v
  .exact key v c j
  .have e:bC (lc T) v=bC (lc T) 0:=by unfold bC;rw[show v.toNat=(0:Int).toNat by omega]
   rw[e];refine key 0 (by omega) λhx=>?_;obtain⟨x,hx,e⟩:=Qk.1 hx;have:=(b8 h.hn (h.chk x (Q4 hx))).2.2.2.1;omega
theorem TMk.popN(h:TMk n T):∀j,j<=T.lits.length->TMk n (popN T j)
 |0,_=>h
 |j+1,hj=>by
  have a:=TMk.popN h j (by omega);rw[Go.AX.popN];refine a.pop (m:=T.lits.length -j -1) ?_;rw[dX,Qg];omega
theorem TOk.back(h:TOk n T){k:Nat}(hk:k<T.beg.length):TOk n (cE T k)∧(cE T k).lits=T.lits.take (T.beg[k]).toNat∧(cE T k).beg=T.beg.take k:=by
 have f:T.beg.getD k 0=T.beg[k]:=by rw[P9,P8 hk];rfl
 obtain⟨b1,b2⟩:=h.bnd _ (Qe hk);have g:(cE T k).lits=T.lits.take (T.beg[k]).toNat:=by
  unfold cE;rw[f,dX];congr 1;omega
 have m:=h.toTMk.popN (T.lits.length -(T.beg[k]).toNat) (by omega);have d:(Go.AX.popN T (T.lits.length -(T.beg[k]).toNat)).lits=T.lits.take (T.beg[k]).toNat:=by rw[dX];congr 1;omega
 have l:∀v,bC (cE T k) v=bC (Go.AX.popN T (T.lits.length -(T.beg[k]).toNat)) v:=λv=>by unfold bC cE;rw[f]
 have q:=QV.1 h.rise;have o:∀b∈T.beg.take k,0<=b∧b<T.beg[k]:=λb e=>by
  obtain⟨i,hi,rfl⟩:=Rw.1 e;exact⟨(h.bnd _ (Qe _)).1,q i k (by omega) hk (by omega)⟩
 have a:(cE T k).lits.length=(T.beg[k]).toNat:=by rw[g,Qg];omega
 refine⟨{hn:=h.hn,len:=?_,chk:=?_,nd:=?_,mark:=?_,free:=?_,bnd:=?_,rise:=?_},g,rfl⟩
 .unfold cE;rw[f];exact m.len
 .intro y hy;rw[g]at hy;exact h.chk y (Q4 hy)
 .rw[g];exact h.nd.sublist ((Td _ T.lits).map ae)
 .intro i hi;have p:i<(Go.AX.popN T (T.lits.length -(T.beg[k]).toNat)).lits.length:=by rw[d,←g];exact hi
  have r:(cE T k).lits[i]=(Go.AX.popN T (T.lits.length -(T.beg[k]).toNat)).lits[i]:=by simp only[g,d]
  rw[l,r];obtain⟨t,u,w⟩:=m.mark i p;refine⟨t,u.trans ?_,w⟩;rw[sJ];unfold mi;congr 1;rw[←Q7 k T.beg,RK];have:((T.beg.take k++T.beg.drop k).take k)=T.beg.take k:=by rw[Q7]
  show _=((cE T k).beg.filter _).length;have e:(cE T k).beg=T.beg.take k:=rfl;rw[e];have hd:(T.beg.drop k).filter (λb=>decide (b<=(i:Int)))=[]:=by
   rw[RD];intro b e;obtain⟨j,hj,rfl⟩:=TB.1 e;have:T.beg[k]<=T.beg[k+j]:=by
    by_cases c:j=0
    .subst c;exact Ss _
    .exact Int.le_of_lt (q k (k+j) hk (by omega) (by omega))
   rw[a]at hi;simp;omega
  rw[hd,Rx]
 .intro v s;rw[l];refine m.free v ?_;rw[d,←g];exact s
 .intro b e;have:=o b e;rw[a];omega
 .exact h.rise.sublist (Td _ _)
end
def bF(byl:List (Int×List Int))(l:Int):List Int:=(lk byl l).getD []
theorem CA{byl:List (Int×List Int)}{l:Int}{zs:List Int}(h:lk byl l=some zs):bF byl l=zs:=by unfold bF;rw[h];rfl
theorem OE{byl:List (Int×List Int)}{l k:Int}(h:k∈bF byl l):∃zs,lk byl l=some zs∧k∈zs:=by
 unfold bF at h;cases a:lk byl l with
 |none=>rw[a]at h;cases h
 |some zs=>rw[a]at h;exact⟨zs,rfl,h⟩
theorem jh(byl:List (Int×List Int))(k l m:Int):bF (fk byl k l) m=if l≠0∧m=l then bc (λx=>decide (x=k)) (bF byl l)else bF byl m:=by
 unfold bF fk
 by_cases c:l=0
 .rw[Qb c,Qa (λh=>h.1 c)]
 .rw[Qa c,bD]
  by_cases d:m=l
  .rw[Qb d.symm,Qb ⟨c,d⟩];rfl
  .rw[Qa (λe=>d e.symm),Qa (λh=>d h.2)]
theorem HA{k j:Int}{l:List Int}:j∈bc (λx=>decide (x=k)) l↔j∈l∧j≠k:=by
 unfold bc;rw[Q3];simp
theorem o9{byl:List (Int×List Int)}{k l m j:Int}:j∈bF (fk byl k l) m↔j∈bF byl m∧¬(l≠0∧m=l∧j=k):=by
 rw[jh]
 by_cases c:l≠0∧m=l
 .rw[Qb c,HA,c.2];constructor
  .exactλh=>⟨h.1,λq=>h.2 q.2.2⟩
  .exactλh=>⟨h.1,λq=>h.2 ⟨c.1,rfl,q⟩⟩
 .rw[Qa c];exact⟨λh=>⟨h,λq=>c ⟨q.1,q.2.1⟩⟩,λh=>h.1⟩
theorem wC{byl:List (Int×List Int)}(h:∀l,(bF byl l).Nodup)(k l m:Int):(bF (fk byl k l) m).Nodup:=by
 rw[jh];split
 .exact(h l).sublist Up
 .exact h m
theorem mL(byl:List (Int×List Int))(k l m:Int):bF (gp byl k l) m=if m=l then bF byl l++[k]else bF byl m:=by
 unfold bF gp;rw[bD]
 by_cases d:m=l
 .rw[Qb d,Qb d.symm];rfl
 .rw[Qa d,Qa (λe=>d e.symm)]
theorem pc{byl:List (Int×List Int)}{k l m j:Int}:j∈bF (gp byl k l) m↔j∈bF byl m∨(m=l∧j=k):=by
 rw[mL]
 by_cases d:m=l
 .rw[Qb d,d];simp
 .rw[Qa d];simp[d]
theorem wD{byl:List (Int×List Int)}(h:∀l,(bF byl l).Nodup){k l:Int}(hk:k∉bF byl l)(m:Int):(bF (gp byl k l) m).Nodup:=by
 rw[mL];split
 .rw[Ty];refine⟨h l,by simp,λa d b c e=>?_⟩;simp at c;subst c;subst e;exact hk d
 .exact h m
structure Wch (n:Nat) (S:WS):Prop where
  nd:(S.prs.map (·.1)).Nodup
  lits:∀k p,lk S.prs k=some p->(0<=k∧k<=20000000)∧p.lits.Nodup∧p.lits.length<=1000∧∀y∈p.lits,ax y n=0
  lnd:(S.late.map (·.1)).Nodup
  lpr:∀k∈S.late.map (·.1),∃p,lk S.prs k=some p
  two:∀k p,lk S.prs k=some p->(k∈S.late.map (·.1)∧p.x=0∧p.y=0)∨(k∉S.late.map (·.1)∧p.x≠p.y∧p.x∈p.lits∧p.y∈p.lits)
  bnd:∀l,(bF S.byl l).Nodup
  mem:∀l k,k∈bF S.byl l↔l≠0∧∃p,lk S.prs k=some p∧(p.x=l∨p.y=l)
theorem pX{α:Type}{l:List (Int×α)}{k:Int}{x:α}(h:lk l k=some x):k∈l.map (·.1):=mem_keys.1 (by rw[h];rfl)
theorem qU{α:Type}{l:List (Int×α)}(h:(l.map (·.1)).Nodup)(k x:Int):x∈(dl l k).map (·.1)↔x∈l.map (·.1)∧x≠k:=by
 rw[sI,h.mem_erase_iff];exact⟨λq=>⟨q.2,q.1⟩,λq=>⟨q.2,q.1⟩⟩
theorem KP{α:Type}{l:List (Int×α)}(h:(l.map (·.1)).Nodup)(k:Int):((dl l k).map (·.1)).Nodup:=by rw[sI];exact h.erase k
section
variable {n : Nat} {S : WS}
theorem Wch.pos(h:Wch n S){k:Int}{p:Pr}(hp:lk S.prs k=some p)(hk:k∉S.late.map (·.1)):p.x≠0∧p.y≠0∧p.x≠p.y∧p.x∈p.lits∧p.y∈p.lits:=by
 rcases h.two k p hp with⟨a,_⟩|⟨_,a,b,c⟩
 .exact absurd a hk
 .have d:=(h.lits k p hp).2.2.2;have z:∀y∈p.lits,y≠0:=λy hy e=>by
   have:=d y hy;rw[e]at this;unfold ax nH at this;split at this
   .omega
   .simp at this
  exact⟨z _ b,z _ c,a,b,c⟩
theorem Wch.zer(h:Wch n S){k:Int}{p:Pr}(hp:lk S.prs k=some p)(hk:k∈S.late.map (·.1)):p.x=0∧p.y=0:=by
 rcases h.two k p hp with⟨_,a⟩|⟨a,_⟩
 .exact a
 .exact absurd hk a
theorem Wch.nby(h:Wch n S){k:Int}{p:Pr}(hp:lk S.prs k=some p)(hk:k∈S.late.map (·.1))(l:Int):k∉bF S.byl l:=λb=>by
 obtain⟨l0,q,a,e⟩:=(h.mem l k).1 b;rw[hp]at a;cases a
 obtain⟨c,d⟩:=h.zer hp hk;rw[c,d]at e;omega
theorem Wch.entry(h:Wch n S){k:Int}{p:Pr}(hp:lk S.prs k=some p){l:Int}(l0:l≠0)(a:p.x=l∨p.y=l):∃zs,lk S.byl l=some zs∧k∈zs:=OE ((h.mem l k).2 ⟨l0,p,hp,a⟩)
theorem Wch.hz(h:Wch n S)(b:S.prs.length<=1000000):∀l zs,lk S.byl l=some zs->zs.length<=1000000:=λl zs hz=>by
 have e:=CA hz;have h1:=h.bnd l;rw[e]at h1;have a:zs⊆S.prs.map (·.1):=λk hk=>by
  obtain⟨_,p,hp,_⟩:=(h.mem l k).1 (by rw[e];exact hk);exact pX hp
 have:=(fi _ _ h1 a);rw[Ql]at this;omega
theorem dZ{α:Type}{l:List (Int×α)}{k j:Int}{y:α}(hj:j≠k):lk (pt l k y) j=lk l j:=by rw[bD,Qa (λe=>hj e.symm)]
theorem dP{α:Type}{l:List (Int×α)}{k:Int}{y:α}:lk (pt l k y) k=some y:=by rw[bD,Qb rfl]
theorem Wch.toLate(h:Wch n S){k:Int}{p:Pr}(hp:lk S.prs k=some p)(hk:k∉S.late.map (·.1))(v:Int):Wch n ⟨(md S k p).prs,(md S k p).byl,pt S.late k v,S.head,S.seen⟩:=by
 obtain⟨s,y0,r,hx,hy⟩:=h.pos hp hk;have f:(pt S.prs k ⟨p.lits,0,0⟩).map (·.1)=S.prs.map (·.1):=iO _ hp;have g:∀j,j∈(pt S.late k v).map (·.1)↔j=k∨j∈S.late.map (·.1):=λj=>mg _ _ _ _;refine⟨?_,?_,?_,?_,?_,?_,?_⟩
 .show((pt S.prs k _).map (·.1)).Nodup;rw[f];exact h.nd
 .intro j q d;have d:lk (pt S.prs k ⟨p.lits,0,0⟩) j=some q:=d
  by_cases e:j=k
  .subst e;rw[dP]at d;cases d;exact h.lits j p hp
  .rw[dZ e]at d;exact h.lits j q d
 .exact jM _ _ _ h.lnd
 .intro j hj;show∃q,lk (pt S.prs k ⟨p.lits,0,0⟩) j=some q
  by_cases e:j=k
  .subst e;exact⟨_,dP⟩
  .rw[dZ e];rcases(g j).1 hj with c|c
   .exact absurd c e
   .exact h.lpr j c
 .intro j q d;have d:lk (pt S.prs k ⟨p.lits,0,0⟩) j=some q:=d;show(j∈(pt S.late k v).map (·.1)∧_)∨(j∉(pt S.late k v).map (·.1)∧_);rw[g]
  by_cases e:j=k
  .subst e;rw[dP]at d;cases d;exact .inl ⟨.inl rfl,rfl,rfl⟩
  .rw[dZ e]at d;rcases h.two j q d with⟨a,b⟩|⟨a,b⟩
   .exact .inl ⟨.inr a,b⟩
   .exact .inr ⟨λc=>c.elim e a,b⟩
 .exactλm=>wC (λm=>wC h.bnd k p.x m) k p.y m
 .intro m j;show j∈bF (fk (fk S.byl k p.x) k p.y) m↔m≠0∧∃q,lk (pt S.prs k ⟨p.lits,0,0⟩) j=some q∧_;rw[o9,o9,h.mem]
  by_cases e:j=k
  .subst e;rw[dP];constructor
   .rintro⟨⟨⟨i,q,d,c⟩,l⟩,o⟩;rw[hp]at d;cases d
    rcases c with c|c
    .exact absurd ⟨s,c.symm,rfl⟩ l
    .exact absurd ⟨y0,c.symm,rfl⟩ o
   .rintro⟨i,q,d,c⟩;cases d
    simp at c;exact absurd c.symm i
  .rw[dZ e];exact⟨λq=>q.1.1,λq=>⟨⟨q,λz=>e z.2.2⟩,λz=>e z.2.2⟩⟩
theorem Wch.watch(h:Wch n S){k:Int}{p:Pr}(hp:lk S.prs k=some p)(hk:k∈S.late.map (·.1)){a b:Int}(i:a≠b)(o:a∈p.lits)(r:b∈p.lits):Wch n ⟨pt S.prs k ⟨p.lits,a,b⟩,gp (gp S.byl k a) k b,dl S.late k,S.head,S.seen⟩:=by
 have g:(pt S.prs k ⟨p.lits,a,b⟩).map (·.1)=S.prs.map (·.1):=iO _ hp;have l:∀j,j∈(dl S.late k).map (·.1)↔j∈S.late.map (·.1)∧j≠k:=λj=>qU h.lnd k j;have hz:∀y∈p.lits,y≠0:=λy hy e=>by
  have:=(h.lits k p hp).2.2.2 y hy;rw[e]at this;unfold ax nH at this;split at this
  .omega
  .simp at this
 refine⟨?_,?_,?_,?_,?_,?_,?_⟩
 .show((pt S.prs k _).map (·.1)).Nodup;rw[g];exact h.nd
 .intro j q f;have f:lk (pt S.prs k ⟨p.lits,a,b⟩) j=some q:=f
  by_cases e:j=k
  .subst e;rw[dP]at f;cases f;exact h.lits j p hp
  .rw[dZ e]at f;exact h.lits j q f
 .exact KP h.lnd k
 .intro j hj;obtain⟨h1,s⟩:=(l j).1 hj;show∃q,lk (pt S.prs k ⟨p.lits,a,b⟩) j=some q;rw[dZ s];exact h.lpr j h1
 .intro j q f;have f:lk (pt S.prs k ⟨p.lits,a,b⟩) j=some q:=f;show(j∈(dl S.late k).map (·.1)∧_)∨(j∉(dl S.late k).map (·.1)∧_);rw[l]
  by_cases e:j=k
  .subst e;rw[dP]at f;cases f;exact .inr ⟨λc=>c.2 rfl,i,o,r⟩
  .rw[dZ e]at f;rcases h.two j q f with⟨c,d⟩|⟨c,d⟩
   .exact .inl ⟨⟨c,e⟩,d⟩
   .exact .inr ⟨λz=>c z.1,d⟩
 .intro m;refine wD (λm=>wD h.bnd (h.nby hp hk a) m) ?_ m;rw[pc];rintro(c|c)
  .exact h.nby hp hk b c
  .exact i c.1.symm
 .intro m j;show j∈bF (gp (gp S.byl k a) k b) m↔m≠0∧∃q,lk (pt S.prs k ⟨p.lits,a,b⟩) j=some q∧_;rw[pc,pc]
  by_cases e:j=k
  .subst e;rw[dP];constructor
   .rintro((c|c)|c)
    .exact absurd c (h.nby hp hk m)
    .rw[c.1];exact⟨hz a o,_,rfl,.inl rfl⟩
    .rw[c.1];exact⟨hz b r,_,rfl,.inr rfl⟩
   .rintro⟨t,q,f,c⟩;cases f
    rcases c with c|c
    .exact .inl (.inr ⟨c.symm,rfl⟩)
    .exact .inr ⟨c.symm,rfl⟩
  .rw[dZ e,h.mem];constructor
   .rintro((c|c)|c)
    .exact c
    .exact absurd c.2 e
    .exact absurd c.2 e
   .exactλc=>.inl (.inl c)
theorem Wch.move(h:Wch n S){k l x:Int}{p:Pr}(hp:lk S.prs k=some p)(l0:l≠0)(i:p.x=l∨p.y=l)(hx:x∈p.lits)(h1:x≠l)(b:x≠oZ l p):Wch n (qG S k l p x):=by
 have hk:k∉S.late.map (·.1):=λhk=>by
  obtain⟨D,E⟩:=h.zer hp hk;rw[D,E]at i;omega
 obtain⟨F,y0,s,o,r⟩:=h.pos hp hk;have hz:x≠0:=λe=>by
  have:=(h.lits k p hp).2.2.2 x hx;rw[e]at this;unfold ax nH at this;split at this
  .omega
  .simp at this
 have f:∀q:Pr,(pt S.prs k q).map (·.1)=S.prs.map (·.1):=λq=>iO _ hp;have w:(iV l p x).lits=p.lits∧(iV l p x).x≠(iV l p x).y∧(iV l p x).x∈p.lits∧(iV l p x).y∈p.lits∧∀m,((iV l p x).x=m∨(iV l p x).y=m)↔(x=m∨(m≠l∧(p.x=m∨p.y=m))):=by
  unfold iV;unfold oZ at b
  by_cases c:p.x=l
  .rw[Qb c]at b⊢;refine⟨rfl,b,hx,r,λm=>?_⟩;show(x=m∨p.y=m)↔_;constructor
   .rintro(e|e)
    .exact .inl e
    .exact .inr ⟨λq=>s (by rw[c,e,q]),.inr e⟩
   .rintro(e|⟨g,e|e⟩)
    .exact .inl e
    .exact absurd (e.symm.trans c) g
    .exact .inr e
  .rw[Qa c]at b⊢;have hy:p.y=l:=i.elim (λe=>absurd e c) id;refine⟨rfl,λe=>b e.symm,o,hx,λm=>?_⟩;show(p.x=m∨x=m)↔_;constructor
   .rintro(e|e)
    .exact .inr ⟨λq=>c (e.trans q),.inl e⟩
    .exact .inl e
   .rintro(e|⟨g,e|e⟩)
    .exact .inr e
    .exact .inl e
    .exact absurd (e.symm.trans hy) g
 obtain⟨v,A,B,C,u⟩:=w;refine⟨?_,?_,h.lnd,?_,?_,?_,?_⟩
 .show((pt S.prs k _).map (·.1)).Nodup;rw[f];exact h.nd
 .intro j q a;have a:lk (pt S.prs k (iV l p x)) j=some q:=a
  by_cases e:j=k
  .subst e;rw[dP]at a;cases a;rw[v];exact h.lits j p hp
  .rw[dZ e]at a;exact h.lits j q a
 .intro j hj;show∃q,lk (pt S.prs k (iV l p x)) j=some q
  by_cases e:j=k
  .subst e;exact⟨_,dP⟩
  .rw[dZ e];exact h.lpr j hj
 .intro j q a;have a:lk (pt S.prs k (iV l p x)) j=some q:=a
  by_cases e:j=k
  .subst e;rw[dP]at a;cases a;rw[v];exact .inr ⟨hk,A,B,C⟩
  .rw[dZ e]at a;exact h.two j q a
 .intro m;refine wD (λm=>wC h.bnd k l m) ?_ m;rw[o9,h.mem];rintro⟨⟨_,q,a,c⟩,_⟩;rw[hp]at a;cases a
  unfold oZ at b
  by_cases d:p.x=l
  .rw[Qb d]at b;rcases c with c|c
   .exact h1 (c.symm.trans d)
   .exact b c.symm
  .rw[Qa d]at b;rcases c with c|c
   .exact b c.symm
   .exact h1 (c.symm.trans (i.elim (λe=>absurd e d) id))
 .intro m j;show j∈bF (gp (fk S.byl k l) k x) m↔m≠0∧∃q,lk (pt S.prs k (iV l p x)) j=some q∧_;rw[pc,o9,h.mem]
  by_cases e:j=k
  .subst e;rw[dP];constructor
   .rintro(⟨⟨t,q,a,c⟩,d⟩|⟨c,_⟩)
    .rw[hp]at a;cases a
     exact⟨t,_,rfl,(u m).2 (.inr ⟨λz=>d ⟨l0,z,rfl⟩,c⟩)⟩
    .rw[c];exact⟨hz,_,rfl,(u x).2 (.inl rfl)⟩
   .rintro⟨t,q,a,c⟩;cases a
    rcases(u m).1 c with c|⟨c1,c2⟩
    .exact .inr ⟨c.symm,rfl⟩
    .exact .inl ⟨⟨t,p,hp,c2⟩,λz=>c1 z.2.1⟩
  .rw[dZ e];constructor
   .rintro(⟨c,_⟩|⟨_,c⟩)
    .exact c
    .exact absurd c e
   .exactλc=>.inl ⟨c,λz=>e z.2.2⟩
theorem Wch.put(h:Wch n S){k:Int}(hk:k∉S.prs.map (·.1))(k0:0<=k∧k<=20000000){lits:List Int}(hn:lits.Nodup)(l:lits.length<=1000)(i:∀y∈lits,ax y n=0)(v:Int):Wch n ⟨pt S.prs k ⟨lits,0,0⟩,S.byl,pt S.late k v,S.head,S.seen⟩:=by
 have g:lk S.prs k=none:=by
  cases d:lk S.prs k with
  |none=>rfl
  |some p=>exact absurd (pX d) hk
 have f:∀j,j∈(pt S.late k v).map (·.1)↔j=k∨j∈S.late.map (·.1):=λj=>mg _ _ _ _;refine⟨jM _ _ _ h.nd,?_,jM _ _ _ h.lnd,?_,?_,h.bnd,?_⟩
 .intro j q d;have d:lk (pt S.prs k ⟨lits,0,0⟩) j=some q:=d
  by_cases e:j=k
  .subst e;rw[dP]at d;cases d;exact⟨k0,hn,l,i⟩
  .rw[dZ e]at d;exact h.lits j q d
 .intro j hj;show∃q,lk (pt S.prs k ⟨lits,0,0⟩) j=some q
  by_cases e:j=k
  .subst e;exact⟨_,dP⟩
  .rw[dZ e];rcases(f j).1 hj with c|c
   .exact absurd c e
   .exact h.lpr j c
 .intro j q d;have d:lk (pt S.prs k ⟨lits,0,0⟩) j=some q:=d;show(j∈(pt S.late k v).map (·.1)∧_)∨(j∉(pt S.late k v).map (·.1)∧_);rw[f]
  by_cases e:j=k
  .subst e;rw[dP]at d;cases d;exact .inl ⟨.inl rfl,rfl,rfl⟩
  .rw[dZ e]at d;rcases h.two j q d with⟨a,b⟩|⟨a,b⟩
   .exact .inl ⟨.inr a,b⟩
   .exact .inr ⟨λc=>c.elim e a,b⟩
 .intro m j;show j∈bF S.byl m↔m≠0∧∃q,lk (pt S.prs k ⟨lits,0,0⟩) j=some q∧_;rw[h.mem]
  by_cases e:j=k
  .subst e;rw[dP,g];constructor
   .rintro⟨_,q,d,_⟩;cases d
   .rintro⟨o,q,d,c⟩;cases d
    simp at c;exact absurd c.symm o
  .rw[dZ e]
end
inductive Grow (C:Int->List Int->Prop) (n:Nat) (T0:Tr):Tr->Prop
  |refl:Grow C n T0 T0
  |step {T:Tr} {k o:Int} {c:List Int}:Grow C n T0 T->C k c->o∈c->fJ T o=0->0<=k->(∀y∈c,y≠o->-y∈T.lits)->Grow C n T0 (gH T o k)
theorem Grow.trans{C:Int->List Int->Prop}{n:Nat}{T0 c d:Tr}(a:Grow C n T0 c)(b:Grow C n c d):Grow C n T0 d:=by
 induction b with
 |refl=>exact a
 |step _ h1 e f g h i=>exact .step i h1 e f g h
theorem Grow.mono{C b:Int->List Int->Prop}{n:Nat}{T0 d:Tr}(h:∀k c,C k c->b k c)(a:Grow C n T0 d):Grow b n T0 d:=by
 induction a with
 |refl=>exact .refl
 |step _ h1 e f g i j=>exact .step j (h _ _ h1) e f g i
theorem Grow.pre{C:Int->List Int->Prop}{n:Nat}{T0 b:Tr}(a:Grow C n T0 b):T0.lits<+:b.lits∧b.beg=T0.beg:=by
 induction a with
 |refl=>exact⟨Uc _,rfl⟩
 |step _ h1 d e f g c=>exact⟨c.1.trans (List.prefix_append _ _),c.2⟩
def CW(S:WS)(k:Int)(c:List Int):Prop:=∃p,lk S.prs k=some p∧p.lits=c
structure SameL (S S':WS):Prop where
  keys:S'.prs.map (·.1)=S.prs.map (·.1)
  lits:∀k c,CW S' k c↔CW S k c
theorem SameL.refl(S:WS):SameL S S:=⟨rfl,λ_ _=>Iff.rfl⟩
theorem SameL.trans{S S' d:WS}(a:SameL S S')(b:SameL S' d):SameL S d:=⟨b.keys.trans a.keys,λk c=>(b.lits k c).trans (a.lits k c)⟩
theorem SameL.pt{S:WS}{k:Int}{p q:Pr}(hp:lk S.prs k=some p)(d:q.lits=p.lits)(byl:List (Int×List Int))(late:List (Int×Int))(hd:Int)(sn:List Int):SameL S ⟨Go.AX.pt S.prs k q,byl,late,hd,sn⟩where
 keys:=iO _ hp
 lits:=λj c=>by
  unfold CW;show(∃f,lk (Go.AX.pt S.prs k q) j=some f∧_)↔_
  by_cases e:j=k
  .subst e;rw[dP,hp];constructor
   .rintro⟨_,a,b⟩;cases a;exact⟨p,rfl,d▸b⟩
   .rintro⟨_,a,b⟩;cases a;exact⟨q,rfl,d.trans b⟩
  .rw[dZ e]
structure Pro (n:Nat) (S0:WS) (T0:Tr) (S:WS) (T:Tr):Prop where
  wch:Wch n S
  tok:TOk n T
  same:SameL S0 S
  grow:Grow (CW S0) n T0 T
  head:S.head=S0.head
  seen:S.seen=S0.seen
def nl(S:WS)(P:List Int):Prop:=∀y∈P,bF S.byl (-y)=[]
def mj(S:WS)(T:Tr)(k:Int):Prop:=∀p,lk S.prs k=some p->∃x∈p.lits,x∈T.lits
theorem mj.up{S S':WS}{T T':Tr}{k:Int}(h:mj S T k)(hs:SameL S S')(b:∀x∈T.lits,x∈T'.lits):mj S' T' k:=λp hp=>by
 obtain⟨q,c,e⟩:=(hs.lits k p.lits).1 ⟨p,hp,rfl⟩;obtain⟨x,hx,a⟩:=h q c;exact⟨x,e▸hx,b x a⟩
section
variable {n : Nat}
theorem sM{T:Tr}(d:TMk n T){lits:List Int}(e:∀y∈lits,ax y n=0){x:Int}:x∈eD T lits↔x∈lits∧-x∉T.lits:=by
 unfold eD;rw[Q3];constructor
 .rintro⟨a,b⟩;refine⟨a,λc=>?_⟩;have:=(d.valm (e x a)).2 c;simp[this]at b
 .rintro⟨a,b⟩;refine⟨a,?_⟩;have h1:=d.val (e x a);rw[Qa b]at h1;split at h1<;>simp[h1]
theorem HB{T:Tr}{lits:List Int}(h:lits.Nodup):(eD T lits).Nodup:=h.sublist Up
theorem HC{T:Tr}(a:TMk n T){lits:List Int}(b:∀y∈lits,ax y n=0):lu T lits=true↔∃x∈lits,x∈T.lits:=by
 unfold lu;rw[R7];constructor
 .rintro⟨x,hx,e⟩;exact⟨x,hx,(a.val1 (b x hx)).1 (by simpa using e)⟩
 .rintro⟨x,hx,e⟩;exact⟨x,hx,by simpa using(a.val1 (b x hx)).2 e⟩
theorem CB{T:Tr}(c:TMk n T){p:Pr}(d:∀y∈p.lits,ax y n=0):mf T p=true↔∀y∈p.lits,-y∈T.lits:=by
 unfold mf;rw[Qs,Rj,Th];constructor
 .intro h y hy;apply QJ;intro e;exact h y ((sM c d).2 ⟨hy,e⟩)
 .intro h y hy;obtain⟨a,b⟩:=(sM c d).1 hy;exact b (h y a)
theorem Pro.fresh{S0 S:WS}{T0 T:Tr}(h:Pro n S0 T0 S T){k:Int}{p:Pr}(hp:lk S.prs k=some p)(hk:k∈S.late.map (·.1))(w:mf T p=false):
 Pro n S0 T0 (jt S T k p) (lH T k p)∧(∀j,j∈(jt S T k p).late.map (·.1)->j∈S.late.map (·.1))∧(∀j,j∈S.late.map (·.1)->j≠k->j∈(jt S T k p).late.map (·.1))∧(k∈(jt S T k p).late.map (·.1)->mj (jt S T k p) (lH T k p) k)∧SameL S (jt S T k p)∧Grow (CW S0) n T (lH T k p)∧
 (∀y,y∈T.lits->bF (jt S T k p).byl (-y)=bF S.byl (-y)):=by
 obtain⟨k0,s,A,m⟩:=h.wch.lits k p hp;have hin:=λx=>sM (x:=x) h.tok.toTMk m;have u:=HB (T:=T) s;have t:=HC h.tok.toTMk m;unfold jt lH;unfold mf at w;generalize eD T p.lits=O at*;rcases O with _|⟨a,_|⟨b,O⟩⟩
 .simp at w
 .rw[Qa (by simp)];obtain⟨d,g⟩:=(hin a).1 (Qy ..);cases hd:lu T p.lits
  .rw[Qb ⟨rfl,rfl⟩];have r:a∉T.lits:=λe=>by rw[t.2 ⟨a,d,e⟩]at hd;cases hd
   have o:fJ T a=0:=(h.tok.may a).2 ⟨m a d,r,g⟩;have C:kn T a k=gH T a k:=by
    have B:Ap T a k=0:=by
     unfold Ap;rw[Qa (by simp[o]),Qa (by omega)]
    unfold kn;rw[Qb B]
   have l:CW S0 k p.lits:=(h.same.lits _ _).1 ⟨p,hp,rfl⟩;have ho:∀y∈p.lits,y≠a->-y∈T.lits:=λy hy c=>by
    apply QJ;intro l;have:=(hin y).2 ⟨hy,l⟩;simp at this;exact c this
   rw[RU,C];have z:Grow (CW S0) n T (gH T a k):=.step .refl l d o k0.1 ho;refine⟨⟨h.wch,h.tok.imp o k,h.same,h.grow.trans z,h.head,h.seen⟩,λ_ hj=>hj,λ_ hj _=>hj,λ_=>?_,SameL.refl _,z,λ_ _=>rfl⟩;intro q f;rw[hp]at f;cases f
   exact⟨a,d,R5 _ (by simp)⟩
  .rw[Qa (by simp)];refine⟨h,λ_ hj=>hj,λ_ hj _=>hj,λ_=>?_,SameL.refl _,.refl,λ_ _=>rfl⟩;intro q f;rw[hp]at f;cases f
   exact t.1 hd
 .rw[Qb (by simp),Qa (by simp)];simp only[RU,Sj];obtain⟨d,g⟩:=(hin a).1 (Qy ..);obtain⟨b1,b2⟩:=(hin b).1 (by simp);have i:a≠b:=λe=>by
   rw[RQ]at u;exact u.1 (by rw[e];simp)
  have D:=h.wch.watch hp hk i d b1;have v:SameL S ⟨pt S.prs k ⟨p.lits,a,b⟩,gp (gp S.byl k a) k b,dl S.late k,S.head,S.seen⟩:=SameL.pt (q:=⟨p.lits,a,b⟩) hp rfl _ _ _ _;refine⟨⟨D,h.tok,h.same.trans v,h.grow,h.head,h.seen⟩,λj hj=>((qU h.wch.lnd k j).1 hj).1,λj hj c=>(qU h.wch.lnd k j).2 ⟨hj,c⟩,λhj=>absurd rfl ((qU h.wch.lnd k k).1 hj).2,v,.refl,λy hy=>?_⟩;show bF (gp (gp S.byl k a) k b) (-y)=_;rw[mL,Qa (λe=>b2 (by rw[←e,R2];exact hy)),mL,Qa (λe=>g (by rw[←e,R2];exact hy))]
structure JL (n:Nat) (S0:WS) (T0:Tr) (P:List Int) (ks:List Int) (S:WS) (T:Tr):Prop extends Pro n S0 T0 S T where
  clr:nl S P
  sub':∀y∈P,y∈T.lits
  knd:ks.Nodup
  kin:∀k∈ks,k∈S.late.map (·.1)
  all:∀k∈S.late.map (·.1),k∈ks∨mj S T k
theorem JL.step{S0 S:WS}{T0 T:Tr}{P ks:List Int}{k:Int}(h:JL n S0 T0 P (k::ks) S T){p:Pr}(hp:lk S.prs k=some p)(g:mf T p=false):JL n S0 T0 P ks (jt S T k p) (lH T k p):=by
 obtain⟨a,b,d,f,f5,f6,f7⟩:=h.toPro.fresh hp (h.kin k (Qy ..)) g;have hn:=RQ.1 h.knd;exact{a with
  clr:=λy hy=>by rw[f7 y (h.sub' y hy)];exact h.clr y hy
  sub':=λy hy=>f6.pre.1.subset (h.sub' y hy)
  knd:=hn.2
  kin:=λj hj=>d j (h.kin j (Qr _ hj)) λe=>hn.1 (e▸hj)
  all:=λj hj=>by
   rcases h.all j (b j hj)with c|c
   .rcases QC.1 c with rfl|c
    .exact .inr (f hj)
    .exact .inl c
   .exact .inr (c.up f5 λx hx=>f6.pre.1.subset hx)}
def qn(S:WS)(T:Tr)(k:Int):Prop:=0<=k∧∃p,lk S.prs k=some p∧∀y∈p.lits,-y∈T.lits
theorem CC{S0:WS}{T0:Tr}{P:List Int}:∀{ks:List Int}{S:WS}{T:Tr},JL n S0 T0 P ks S T->
 ((gV ks S T).2.2=-1∧JL n S0 T0 P [] (gV ks S T).1 (gV ks S T).2.1)∨(0<=(gV ks S T).2.2∧Pro n S0 T0 (gV ks S T).1 (gV ks S T).2.1∧nl (gV ks S T).1 P∧(∀y∈P,y∈(gV ks S T).2.1.lits)∧qn (gV ks S T).1 (gV ks S T).2.1 (gV ks S T).2.2)
 |[],S,T,h=>.inl ⟨rfl,h⟩
 |k::ks,S,T,h=>by
  obtain⟨p,hp⟩:=h.wch.lpr k (h.kin k (Qy ..));obtain⟨k0,_,_,b⟩:=h.wch.lits k p hp;rw[gV,hp];simp only;cases a:mf T p
  .rw[Qa (by simp)];exact CC (h.step hp a)
  .rw[Qb rfl];exact .inr ⟨k0.1,h.toPro,h.clr,h.sub',k0.1,p,hp,(CB h.tok.toTMk b).1 a⟩
structure JF (n:Nat) (S0:WS) (T0:Tr) (P:List Int) (l:Int) (zs:List Int) (S:WS) (T:Tr):Prop extends Pro n S0 T0 S T where
  clr:nl S P
  sub':∀y∈P,y∈T.lits
  by':bF S.byl l=zs
  fail:-l∈T.lits
  held:∀k∈S.late.map (·.1),mj S T k
theorem JF.look{S0 S:WS}{T0 T:Tr}{P zs:List Int}{l k:Int}(h:JF n S0 T0 P l (k::zs) S T):∃p,lk S.prs k=some p∧l≠0∧(p.x=l∨p.y=l)∧k∉S.late.map (·.1):=by
 have hk:k∈bF S.byl l:=by rw[h.by'];exact Qy ..
 obtain⟨l0,p,hp,b⟩:=(h.wch.mem l k).1 hk;exact⟨p,hp,l0,b,λa=>h.wch.nby hp a l hk⟩
theorem pY{k:Int}{zs:List Int}(h:(k::zs).Nodup):bc (λx=>decide (x=k)) (k::zs)=zs:=by
 have hn:=RQ.1 h;unfold bc;rw[Q9,Qa (by simp),Si];intro x hx;have:x≠k:=λe=>hn.1 (e▸hx);simp[this]
theorem gP{byl:List (Int×List Int)}{k l m:Int}(h:bF byl m=[]):bF (fk byl k l) m=[]:=by
 rw[jh];split
 .rename_i c;rw[←c.2,h];rfl
 .exact h
theorem Ka{l:Int}{p:Pr}(a:p.x≠p.y)(b:p.x=l∨p.y=l):(p.x=l∧oZ l p=p.y∧p.y≠l)∨(p.y=l∧oZ l p=p.x∧p.x≠l):=by
 unfold oZ
 by_cases c:p.x=l
 .rw[Qb c];exact .inl ⟨c,rfl,λe=>a (c.trans e.symm)⟩
 .rw[Qa c];exact .inr ⟨b.elim (λe=>absurd e c) id,rfl,c⟩
theorem JF.step{S0 S:WS}{T0 T:Tr}{P zs:List Int}{l k:Int}(h:JF n S0 T0 P l (k::zs) S T){p:Pr}(hp:lk S.prs k=some p)(hb:pW T l p=false):JF n S0 T0 P l zs (nY S T l k p) (o6 T l k p):=by
  obtain⟨q,hq,l0,hl,hk⟩:=h.look
  rw[hp]at hq
  cases hq
  obtain⟨x0,y0,hxy,hpx,hpy⟩:=h.wch.pos hp hk
  obtain⟨k0,hnd,hlen,hchk⟩:=h.wch.lits k p hp
  have hnz:(k::zs).Nodup:=by rw[←h.by'];exact h.wch.bnd l
  unfold nY o6
  unfold pW at hb
  cases hpk:mh T l p with
  |some x=>
    unfold mh at hpk
    have hx:=List.mem_of_find?_eq_some hpk
    have ho:=List.find?_some hpk
    unfold LM at ho
    simp only[Qj,Qs]at ho
    obtain⟨o1,o2,o3⟩:=ho
    have hW:=h.wch.move hp l0 hl hx o1 o2
    have hM:(iV l p x).lits=p.lits:=by unfold iV;split<;>rfl
    have hS:SameL S (qG S k l p x):=SameL.pt hp hM _ _ _ _
    have hnx:-x∉T.lits:=λe=>by
      have:=(h.tok.valm (hchk x hx)).2 e
      omega
    exact { wch := hW, tok := h.tok, same := h.same.trans hS, grow := h.grow, head := h.head, seen := h.seen
            clr:=λy hy=>by
              show bF (gp (fk S.byl k l) k x) (-y)=[]
              rw[mL,Qa (λe=>hnx (by rw[←e,R2];exact h.sub' y hy))]
              exact gP (h.clr y hy)
            sub':=h.sub'
            by':=by
              show bF (gp (fk S.byl k l) k x) l=zs
              rw[mL,Qa (λe=>o1 e.symm),jh,Qb ⟨l0,rfl⟩,h.by',pY hnz]
            fail:=h.fail
            held:=λj hj=>(h.held j hj).up hS λ_ hx=>hx}
  |none=>
    rw[hpk]at hb
    simp only at hb⊢
    have hL:=h.wch.toLate hp hk (aX ((lk S.late k).getD 0+1))
    have hS1:SameL S (lw (md S k p) k):=SameL.pt (q:=⟨p.lits,0,0⟩) hp rfl _ _ _ _
    have hP1:Pro n S0 T0 (lw (md S k p) k) T:=⟨hL,h.tok,h.same.trans hS1,h.grow,h.head,h.seen⟩
    have hlk:∀j,j∈(lw (md S k p) k).late.map (·.1)↔j=k∨j∈S.late.map (·.1):=λj=>mg _ _ _ _
    have hp1:lk (lw (md S k p) k).prs k=some (o5 p):=dP
    obtain⟨f1,f2,f3,f4,f5,f6,f7⟩:=hP1.fresh hp1 ((hlk k).2 (.inl rfl)) hb
    have hby:bF (lw (md S k p) k).byl l=zs:=by
      show bF (fk (fk S.byl k p.x) k p.y) l=zs
      rcases Ka hxy hl with⟨c,_,d⟩|⟨c,_,d⟩
      · rw[jh,Qa (λe=>d e.2.symm),jh,Qb ⟨x0,c.symm⟩,c,h.by',pY hnz]
      · rw[jh,Qb ⟨y0,c.symm⟩,c,jh,Qa (λe=>d e.2.symm),h.by',pY hnz]
    have hsub:∀y∈T.lits,y∈(lH T k (o5 p)).lits:=λy hy=>f6.pre.1.subset hy
    exact{f1 with
      clr:=λy hy=>by
        rw[f7 y (h.sub' y hy)]
        exact gP (gP (h.clr y hy))
      sub':=λy hy=>hsub y (h.sub' y hy)
      by':=by
        have:=f7 (-l) h.fail
        rw[R2]at this
        rw[this];exact hby
      fail:=hsub _ h.fail
      held:=λj hj=>by
        rcases(hlk j).1 (f2 j hj)with rfl|c
        · exact f4 hj
        · exact((h.held j c).up (hS1.trans f5) hsub)}
theorem JF.bad{S0 S:WS}{T0 T:Tr}{P zs:List Int}{l k:Int}(h:JF n S0 T0 P l (k::zs) S T){p:Pr}(hp:lk S.prs k=some p)(a:pW T l p=true):
 Pro n S0 T0 (nY S T l k p) (o6 T l k p)∧nl (nY S T l k p) P∧o6 T l k p=T∧qn (nY S T l k p) T k:=by
 obtain⟨q,i,l0,s,hk⟩:=h.look;rw[hp]at i;cases i
 obtain⟨k0,r,g,b⟩:=h.wch.lits k p hp;unfold nY o6;unfold pW at a;cases c:mh T l p with
 |some x=>rw[c]at a;cases a
 |none=>
  rw[c]at a;simp only at a⊢;have f:=a;unfold mf at f;rw[Qs]at f;have j:jt (lw (md S k p) k) T k (o5 p)=lw (md S k p) k:=by unfold jt;rw[Qa (by omega)]
  have m:lH T k (o5 p)=T:=by unfold lH;rw[Qa (by omega)]
  rw[j,m];have o:=h.wch.toLate hp hk (aX ((lk S.late k).getD 0+1));have d:SameL S (lw (md S k p) k):=SameL.pt (q:=⟨p.lits,0,0⟩) hp rfl _ _ _ _;have e:lk (lw (md S k p) k).prs k=some (o5 p):=dP;exact⟨⟨o,h.tok,h.same.trans d,h.grow,h.head,h.seen⟩,λy hy=>gP (gP (h.clr y hy)),rfl,k0.1,_,e,(CB (p:=o5 p) h.tok.toTMk b).1 a⟩
theorem CD{S0:WS}{T0:Tr}{P:List Int}{l:Int}:∀{zs:List Int}{S:WS}{T:Tr},JF n S0 T0 P l zs S T->
 ((gO l zs S T).2.2=-1∧JF n S0 T0 P l [] (gO l zs S T).1 (gO l zs S T).2.1)∨(0<=(gO l zs S T).2.2∧Pro n S0 T0 (gO l zs S T).1 (gO l zs S T).2.1∧nl (gO l zs S T).1 P∧(∀y∈P,y∈(gO l zs S T).2.1.lits)∧qn (gO l zs S T).1 (gO l zs S T).2.1 (gO l zs S T).2.2)
 |[],S,T,h=>.inl ⟨rfl,h⟩
 |k::zs,S,T,h=>by
  obtain⟨p,hp,_⟩:=h.look;rw[gO,hp];simp only;cases a:pW T l p
  .rw[Qa (by simp)];exact CD (h.step hp a)
  .rw[Qb rfl];obtain⟨b1,b2,b3,b4⟩:=h.bad hp a;exact .inr ⟨b4.1,b1,b2,λy hy=>by rw[b3];exact h.sub' y hy,by rw[b3];exact b4⟩
end
structure JC (n:Nat) (S0:WS) (T0:Tr) (S:WS) (T:Tr):Prop where
  wch:Wch n S
  tok:TOk n T
  same:SameL S0 S
  grow:Grow (CW S0) n T0 T
  seen:S.seen=S0.seen
  h0:0<=S.head
  h1:S.head<=T.lits.length
  clr:nl S (T.lits.take S.head.toNat)
structure JP (n:Nat) (S0:WS) (T0:Tr) (S:WS) (T:Tr):Prop extends JC n S0 T0 S T where
  held:∀k∈S.late.map (·.1),mj S T k
section
variable {n : Nat} {S0 : WS} {T0 : Tr}
theorem CW.same{S S':WS}(h:SameL S S'){n:Nat}{T T':Tr}(g:Grow (CW S') n T T'):Grow (CW S) n T T':=g.mono λk c a=>(h.lits k c).1 a
theorem SameL.len{S S':WS}(h:SameL S S'):S'.prs.length=S.prs.length:=by
 have:=SK List.length h.keys;simpa using this
theorem sN{l l':List Int}(h:l<+:l'){k:Nat}(hk:k<=l.length):l'.take k=l.take k:=by
 obtain⟨t,rfl⟩:=h;exact Rg hk
theorem JP.neg{S:WS}{T:Tr}(h:JP n S0 T0 S T)(hd:S.head<T.lits.length):∃i:Nat,∃hi:i<T.lits.length,S.head=i∧dD T S=-T.lits[i]:=by
 have h0:=h.h0;refine⟨S.head.toNat,by omega,by omega,?_⟩;have hi:S.head.toNat<T.lits.length:=by omega
 unfold dD;rw[P9,P8 hi,QF];exact(b8 h.tok.hn (h.tok.chk _ (Qe hi))).2.2.2.2.2.2.2
theorem JP.begin{S:WS}{T:Tr}(h:JP n S0 T0 S T){i:Nat}(hi:i<T.lits.length)(hh:S.head=i):JF n S T (T.lits.take i) (-T.lits[i]) (bF S.byl (-T.lits[i])) S T:=
  { wch := h.wch, tok := h.tok, same := SameL.refl _, grow := .refl, head := rfl, seen := rfl
    clr:=by have:=h.clr;rw[hh]at this;exact this
    sub':=λy hy=>Q4 hy
    by':=rfl
    fail:=by rw[R2];exact Qe hi
    held:=h.held}
theorem Kb(S:WS)(T:Tr)(l:Int):fL S T l=gO l (bF S.byl l) S T:=by
 unfold fL bF;cases lk S.byl l with
 |none=>rfl
 |some zs=>rfl
theorem HD{S:WS}{i:Nat}(h:S.head=i)(hi:i<1000000):LO S=⟨S.prs,S.byl,S.late,((i+1:Nat):Int),S.seen⟩:=by
 unfold LO;rw[h,aq (by omega) (by omega)];rfl
theorem JP.go{S:WS}{T:Tr}(h:JP n S0 T0 S T)(hd:S.head<T.lits.length):
    ((fL S T (dD T S)).2.2=-1∧JP n S0 T0 (LO (fL S T (dD T S)).1) (fL S T (dD T S)).2.1∧(fL S T (dD T S)).1.head=S.head∧T.lits<+:(fL S T (dD T S)).2.1.lits)∨
    (0<=(fL S T (dD T S)).2.2∧JC n S0 T0 (fL S T (dD T S)).1 (fL S T (dD T S)).2.1∧qn (fL S T (dD T S)).1 (fL S T (dD T S)).2.1 (fL S T (dD T S)).2.2):=by
  obtain⟨i,hi,hh,hn⟩:=h.neg hd
  have hfew:=h.tok.few
  have hn5:=h.tok.hn
  rw[hn,Kb]
  rcases CD (h.begin hi hh)with⟨r1,r2⟩|⟨r1,r2,r3,r4,r5⟩
  · left
    generalize gO (-T.lits[i]) (bF S.byl (-T.lits[i])) S T=R at*
    have hpre:=r2.grow.pre.1
    have hhd:R.1.head=i:=r2.head.trans hh
    rw[HD hhd (by omega)]
    refine⟨r1,?_,r2.head,hpre⟩
    have hle:=hpre.length_le
    exact { wch := ⟨r2.wch.nd, r2.wch.lits, r2.wch.lnd, r2.wch.lpr, r2.wch.two, r2.wch.bnd, r2.wch.mem⟩
            tok:=r2.tok,same:=h.same.trans ⟨r2.same.keys,r2.same.lits⟩,grow:=h.grow.trans (CW.same h.same r2.grow),seen:=r2.seen.trans h.seen
            h0:=by show(0:Int)<=((i+1:Nat):Int);omega
            h1:=by show((i+1:Nat):Int)<=_;omega
            clr:=by
              show nl _ (R.2.1.lits.take ((i+1:Nat):Int).toNat)
              rw[show((i+1:Nat):Int).toNat=i+1 by omega,sN hpre (by omega),Rl,P8 hi]
              intro y hy
              rcases Qn.1 hy with hy|hy
              · exact r2.clr y hy
              · simp at hy;rw[hy];exact r2.by'
            held:=r2.held}
  · right
    generalize gO (-T.lits[i]) (bF S.byl (-T.lits[i])) S T=R at*
    have hpre:=r2.grow.pre.1
    have hle:=hpre.length_le
    refine⟨r1,?_,r5⟩
    have hhd:R.1.head=i:=r2.head.trans hh
    exact { wch := r2.wch, tok := r2.tok, same := h.same.trans r2.same, grow := h.grow.trans (CW.same h.same r2.grow), seen := r2.seen.trans h.seen
            h0:=by omega,h1:=by omega
            clr:=by rw[hhd,show(i:Int).toNat=i by omega,sN hpre (by omega)];exact r3}
theorem CE:∀{m:Nat}{S:WS}{T:Tr},JP n S0 T0 S T->1000001<=S.head+m->
 ((la m S T).2.2=-1∧JP n S0 T0 (la m S T).1 (la m S T).2.1∧(la m S T).1.head=(la m S T).2.1.lits.length)∨
 (0<=(la m S T).2.2∧JC n S0 T0 (la m S T).1 (la m S T).2.1∧qn (la m S T).1 (la m S T).2.1 (la m S T).2.2)
 |0,S,T,h,d=>by
  have:=h.h1;have:=h.tok.few;have:=h.tok.hn;omega
 |m+1,S,T,h,d=>by
  rw[la]
  by_cases hd:S.head<T.lits.length
  .rw[Qb hd];rcases h.go hd with⟨a,b,r3,e⟩|⟨a,b,r3⟩
   .rw[Qa (by omega)];refine CE b ?_;obtain⟨i,hi,c,_⟩:=h.neg hd;have:=h.tok.few;have:=h.tok.hn;rw[HD (r3.trans c) (by omega)];show 1000001<=((i+1:Nat):Int)+m;omega
   .rw[Qb a];exact .inr ⟨a,b,r3⟩
  .rw[Qa hd];have:=h.h1;exact .inl ⟨rfl,h,by show S.head=T.lits.length;omega⟩
theorem JF.stepOk{P zs:List Int}{l k:Int}{S:WS}{T:Tr}(h:JF n S0 T0 P l (k::zs) S T)(f:S.prs.length<=1000000):∃p,StepOk S T l k p:=by
 obtain⟨p,hp,l0,c,hk⟩:=h.look;obtain⟨d,y0,b,i,j⟩:=h.wch.pos hp hk;have a:∀m:Int,m≠0->(p.x=m∨p.y=m)->∃zs,lk S.byl m=some zs∧zs≠[]:=λm o g=>by
  obtain⟨zs,e,hz⟩:=h.wch.entry hp o g;exact⟨zs,e,λq=>by rw[q]at hz;cases hz⟩
 have:=h.tok.few;have:=h.tok.hn;refine⟨p,hp,l0,c,by have:=(h.wch.lits k p hp).2.2.1;omega,a l l0 c,λ_=>a _ d (.inl rfl),λ_=>?_,h.wch.hz f,h.tok.okT,by omega⟩;obtain⟨zs,e,hz⟩:=a _ y0 (.inr rfl);refine⟨zs,?_,hz⟩;unfold fk;rw[Qa d,bD,Qa b];exact e
theorem OF(f:S0.prs.length<=1000000):ProOk (JP n S0 T0)where
 ok:=λS T h=>by
  have:=h.tok.few;have:=h.tok.hn;exact⟨h.tok.okT,by omega,h.h0,h.h1⟩
 step:=λS T h hd zs b=>by
  obtain⟨i,hi,g,hn⟩:=h.neg hd;have a:S.prs.length<=1000000:=by rw[h.same.len];exact f
  refine⟨h.wch.hz a _ _ b,λj S' T'=>JF n S T (T.lits.take i) (dD T S) (zs.drop j) S' T',?_,λj S' T' hj c=>?_⟩
  .show JF n S T (T.lits.take i) (dD T S) zs S T;rw[←CA b,hn];exact h.begin hi g
  .have hj:JF n S T (T.lits.take i) (dD T S) (zs.drop j) S' T':=hj;rw[QU c]at hj;obtain⟨p,d⟩:=hj.stepOk (by rw[hj.same.len];exact a);exact⟨p,d,λe=>hj.step d.hp e⟩
 len:=λS T h hd=>by
  have k:=h.tok.hn;rcases h.go hd with⟨_,r,_⟩|⟨_,r,_⟩
  .have:=r.tok.few;omega
  .have:=r.tok.few;omega
 next:=λS T h hd hk=>by
  rcases h.go hd with r|⟨r,_⟩
  .exact r
  .exact absurd r hk
end
structure WOk (n:Nat) (S:WS):Prop extends Wch n S where
  few:S.prs.length<=1000000
  h0:0<=S.head
  h1:S.head<=S.seen.length
  sl:S.seen.length<=1000000
  clr:nl S (S.seen.take S.head.toNat)
structure PrpOk (n:Nat) (S:WS) (T:Tr) (R:WS×Tr×Int):Prop where
  ok:WOk n R.1
  tok:TOk n R.2.1
  same:SameL S R.1
  grow:Grow (CW S) n T R.2.1
  seen:R.1.seen=R.2.1.lits
  res:(R.2.2=-1∧∀k p,lk R.1.prs k=some p->(∃x∈p.lits,x∈R.2.1.lits)∨∃x y,x∈p.lits∧y∈p.lits∧x≠y∧-x∉R.2.1.lits∧-y∉R.2.1.lits)∨qn R.1 R.2.1 R.2.2
theorem CF:∀(a b:List Int),ia a b<=a.length∧ia a b<=b.length
 |[],_=>⟨Qq _,Qq _⟩
 |_::_,[]=>⟨Qq _,Qq _⟩
 |x::a,y::b=>by
  rw[ia];have:=CF a b;simp only[QA];split<;>omega
theorem uS:∀(a b:List Int)(k:Nat),k<=ia a b->a.take k=b.take k
 |a,b,0,_=>by simp
 |[],_,k+1,h=>by rw[ia]at h;omega;intros;simp_all
 |_::_,[],k+1,h=>by rw[ia]at h;omega;intros;simp_all
 |x::a,y::b,k+1,h=>by
  rw[ia]at h;split at h
  .rename_i e;rw[TN,TN,e,uS a b k (by omega)]
  .omega
section
variable {n : Nat} {S : WS} {T : Tr}
theorem WOk.shr(h:WOk n S)(a:TOk n T):JC n (cA S T.lits) T (cA S T.lits) T:=by
 obtain⟨f,g⟩:=CF S.seen T.lits;have b:=h.h0;have e:(cA S T.lits).head=if(ia S.seen T.lits:Int)<S.head then(ia S.seen T.lits:Int)else S.head:=rfl;have a0:0<=(cA S T.lits).head:=by rw[e];split<;>omega
 have c:(cA S T.lits).head<=ia S.seen T.lits:=by rw[e];split<;>omega
 have d:(cA S T.lits).head<=S.head:=by rw[e];split<;>omega
 refine{wch:=⟨h.nd,h.lits,h.lnd,h.lpr,h.two,h.bnd,h.mem⟩,tok:=a,same:=SameL.refl _,grow:=.refl,seen:=rfl,h0:=a0,h1:=by omega,clr:=?_};rw[←uS S.seen T.lits _ (by omega)];intro y hy;refine h.clr y ?_;have:S.seen.take (cA S T.lits).head.toNat<+:S.seen.take S.head.toNat:=List.take_prefix_take_left (by omega);exact this.subset hy
theorem WOk.jl(h:WOk n S)(hT:TOk n T):JL n (cA S T.lits) T (T.lits.take (cA S T.lits).head.toNat) (bK (S.late.map (·.1))) (cA S T.lits) T:=
  have hc:=h.shr hT
  { wch := hc.wch, tok := hT, same := SameL.refl _, grow := .refl, head := rfl, seen := rfl
    clr:=hc.clr
    sub':=λy hy=>Q4 hy
    knd:=yG h.lnd
    kin:=λk hk=>uP.1 hk
    all:=λk hk=>.inl (uP.2 hk)}
theorem Pro.jc{S0 S':WS}{T0 T':Tr}(h:Pro n S0 T0 S' T')(h0:0<=S0.head)(h1:S0.head<=T0.lits.length)(hc:nl S' (T0.lits.take S0.head.toNat)):JC n S0 T0 S' T':=by
  have hpre:=h.grow.pre.1
  have hle:=hpre.length_le
  exact { wch := h.wch, tok := h.tok, same := h.same, grow := h.grow, seen := h.seen, h0 := by rw [h.head]; exact h0, h1 := by rw [h.head]; omega
          clr:=by rw[h.head,sN hpre (by omega)];exact hc}
theorem CG(h:WOk n S)(d:TOk n T):
 ((fM (cA S T.lits) T).2.2=-1∧JP n (cA S T.lits) T (fM (cA S T.lits) T).1 (fM (cA S T.lits) T).2.1)∨
 (0<=(fM (cA S T.lits) T).2.2∧JC n (cA S T.lits) T (fM (cA S T.lits) T).1 (fM (cA S T.lits) T).2.1∧qn (fM (cA S T.lits) T).1 (fM (cA S T.lits) T).2.1 (fM (cA S T.lits) T).2.2):=by
 have b:=h.shr d;have e:fM (cA S T.lits) T=gV (bK (S.late.map (·.1))) (cA S T.lits) T:=rfl;rw[e];rcases CC (h.jl d)with⟨c,a⟩|⟨c,a,r3,g,f⟩
 .exact .inl ⟨c,{a.toPro.jc b.h0 b.h1 a.clr with held:=λk hk=>(a.all k hk).resolve_left (by simp)}⟩
 .exact .inr ⟨c,a.jc b.h0 b.h1 r3,f⟩
theorem JC.fin{S':WS}{T':Tr}{k:Int}(f:S.prs.length<=1000000)(h:JC n (cA S T.lits) T S' T')
 (i:(k=-1∧(∀k∈S'.late.map (·.1),mj S' T' k)∧S'.head=T'.lits.length)∨qn S' T' k):PrpOk n S T (⟨S'.prs,S'.byl,S'.late,S'.head,T'.lits⟩,T',k):=by
 have d:=h.tok.few;have hn:=h.tok.hn;have e:Wch n ⟨S'.prs,S'.byl,S'.late,S'.head,T'.lits⟩:=⟨h.wch.nd,h.wch.lits,h.wch.lnd,h.wch.lpr,h.wch.two,h.wch.bnd,h.wch.mem⟩;refine⟨{e with few:=by show S'.prs.length<=_;rw[h.same.len];exact f,h0:=h.h0,h1:=h.h1,sl:=by show T'.lits.length<=_;omega,clr:=h.clr},h.tok,⟨h.same.keys,h.same.lits⟩,h.grow,rfl,?_⟩;rcases i with⟨rfl,j,l⟩|⟨k0,p,hp,r⟩
 .refine .inl ⟨rfl,λk p hp=>?_⟩;have hp:lk S'.prs k=some p:=hp
  by_cases c:k∈S'.late.map (·.1)
  .exact .inl (j k c p hp)
  .obtain⟨b,y0,a,hx,hy⟩:=h.wch.pos hp c;have key:∀x,x≠0->(p.x=x∨p.y=x)->-x∉T'.lits:=λx b hx g=>by
    have:=h.clr (-x) (by rw[l,show(T'.lits.length:Int).toNat=T'.lits.length by omega,QO];exact g);rw[R2]at this;have hk:=(h.wch.mem x k).2 ⟨b,p,hp,hx⟩;rw[this]at hk;cases hk
   exact .inr ⟨p.x,p.y,hx,hy,a,key _ b (.inl rfl),key _ y0 (.inr rfl)⟩
 .exact .inr ⟨k0,p,hp,r⟩
theorem HE(h:WOk n S)(f:TOk n T):PrpOk n S T (gq S T):=by
 have i:=h.shr f;have b:ib S T=if 0<=(fM (cA S T.lits) T).2.2 then fM (cA S T.lits) T else la 1000001 (fM (cA S T.lits) T).1 (fM (cA S T.lits) T).2.1:=rfl;have hp:gq S T=(⟨(ib S T).1.prs,(ib S T).1.byl,(ib S T).1.late,(ib S T).1.head,(ib S T).2.1.lits⟩,(ib S T).2.1,(ib S T).2.2):=rfl;rw[hp];rcases CG h f with⟨g,e⟩|⟨g,e,r3⟩
 .rw[Qa (by omega)]at b;have:=e.h0;rcases CE (m:=1000001) e (by omega)with⟨d,a,c⟩|⟨d,a,c⟩
  .rw[←b]at d a c;exact a.toJC.fin h.few (.inl ⟨d,a.held,c⟩)
  .rw[←b]at d a c;exact a.fin h.few (.inr c)
 .rw[Qb g]at b;rw[b];exact e.fin h.few (.inr r3)
theorem HF(h:List (List SV))(bw ba bt:Nat)(mp:List (Int×Nat))(mb:List (Int×By))(A:Ar)(L:LayW h bw ba bt mp mb A T S)(b:WOk n S)(d:TOk n T):
 ay Tryz.prog 91 [.ptr bw 0] h (λr h'=>r=.pv (af (gq S T).2.2)∧∃mb',LayW h' bw ba bt mp mb' A (gq S T).2.1 (gq S T).1∧Ext h h' (aR bw bt mp mb) (aR bw bt mp mb')):=by
 have f:=d.few;have hn:=d.hn;have hj:=b.jl d;have c:=CG b d;refine tF h bw ba bt mp mb A T S L (by omega) b.sl (bK (S.late.map (·.1))) rfl (λi S' T'=>JL n (cA S T.lits) T (T.lits.take (cA S T.lits).head.toNat) ((bK (S.late.map (·.1))).drop i) S' T') (by rw[To];exact hj) ?_ ?_ ?_ ?_ ?_ (JP n (cA S T.lits) T) (OF b.few) ?_
 .intro q m;obtain⟨p,hp⟩:=b.lpr q.1 (Sy m);have:=(b.lits _ _ hp).1;exact Hk (by omega) (by omega)
 .have g:S.late.map (·.1)⊆S.prs.map (·.1):=λk hk=>by
   obtain⟨p,hp⟩:=b.lpr k hk;exact pX hp
  have:=(fi _ _ b.lnd g);rw[Ql,Ql]at this;have:=b.few;omega
 .intro i S' T' a hi;have a:JL n (cA S T.lits) T (T.lits.take (cA S T.lits).head.toNat) ((bK (S.late.map (·.1))).drop i) S' T':=a;rw[QU hi]at a;have l:S'.prs.length<=1000000:=by rw[a.same.len];exact b.few
  obtain⟨p,hp⟩:=a.wch.lpr _ (a.kin _ (Qy ..));have:=a.tok.few;exact⟨a.tok.okT,by omega,a.wch.hz l,p,hp,by have:=(a.wch.lits _ _ hp).2.2.1;omega⟩
 .intro i S' T' p a hi hp j;have a:JL n (cA S T.lits) T (T.lits.take (cA S T.lits).head.toNat) ((bK (S.late.map (·.1))).drop i) S' T':=a;rw[QU hi]at a;exact a.step hp j
 .rcases c with⟨_,r⟩|⟨_,r,_⟩
  .have:=r.tok.few;omega
  .have:=r.tok.few;omega
 .intro hk;rcases c with⟨e,o⟩|⟨e,_⟩
  .exact⟨e,o⟩
  .exact absurd e hk
end
structure UOk (n:Nat) (cs:List (List Int)):Prop where
  hn:n<=100000
  nd:∀c∈cs,c.Nodup
  len:∀c∈cs,c.length<=1000
  chk:∀c∈cs,∀y∈c,ax y n=0
section
variable {n : Nat} {cs : List (List Int)} (h : UOk n cs)
include h
end
section
variable {n : Nat} {cs : List (List Int)} {L0 L : List Int}
end
end Go.AX
namespace Go.AX
set_option maxRecDepth 16000
open Go.Proofs
set_option linter.unusedSimpArgs false
def fl(T:Tr)(v:Int):Tr:=if(if v<0 then 0 else v)<(T.beg.length:Int)then cE T (if v<0 then(0:Int)else v).toNat else T
theorem TOk.bak{n:Nat}{T:Tr}(h:TOk n T)(v:Int):TOk n (fl T v):=by
 unfold fl;obtain⟨m,a⟩:∃m:Int,(if v<0 then(0:Int)else v)=m:=⟨_,rfl⟩;have b:0<=m:=by rw[←a];split<;>omega
 rw[a]
 by_cases c:m<(T.beg.length:Int)
 .rw[Qb c];exact(h.back (by omega)).1
 .rw[Qa c];exact h
theorem HH(h:List (List SV))(b:Nat)(T:Tr)(g:h[b]?=some (gi T))(v:Int)(j:¬(if v<0 then 0 else v)<(T.beg.length:Int)):
 ay Tryz.prog 131 [.ptr b 0,af v] h (λr h'=>h'=h∧r=.pv (.seq true 1 (ab []))):=by
 refine fh [] [.tmp 4] aD Tryz.func131 ?_;obtain⟨d,e⟩:=P7.1 g;have c:=l4 T;have a:∀n,a8 h (n+1) b 0=bE T:=λn=>cG g n;simp only[bE]at c a;obtain⟨m,i⟩:∃m:Int,(if v<0 then(0:Int)else v)=m:=⟨_,rfl⟩;rw[i]at j;have f:(T.beg.length:Int)<=m:=by omega
 simp[i];refine ak.introP (r:=.pv (BL true)) (by simpa[a]using c) ?_ (by simp[d]) (by simp);simp[e,d,gi,f,ab,bI,bG]
theorem HI(h:List (List SV))(b:Nat)(T:Tr)(F:h[b]?=some (gi T))(v:Int)(k:Nat)(K:(if v<0 then(0:Int)else v)=k)(hk:k<T.beg.length)(h0:0<=T.beg.getD k 0∧T.beg.getD k 0<=T.lits.length)(hs:T.lits.length<=1000000)(Q:∀y∈T.lits,0<=ae y∧ae y<T.marks.length):
 ay Tryz.prog 131 [.ptr b 0,af v] h (λr h'=>h'=h.set b (gi (cE T k))∧r=.pv (.seq true 1 (ab (sK T (T.lits.length -(T.beg.getD k 0).toNat))))):=by
 refine dY [] [.tmp 4] (h.set b (gi (cE T k))) (by simp) (λD=>by rw[Qz];exact bX (iJ _ _) b D) aD Tryz.func131 ?_;obtain⟨a,G⟩:=P7.1 F;have x:T.beg.getD k 0=T.beg[k]:=by rw[P9,P8 hk];rfl
 rw[x]at h0⊢;obtain⟨m,C⟩:∃m:Nat,T.beg[k]=(m:Int):=⟨T.beg[k].toNat,by omega⟩;have M:cE T k=⟨(popN T (T.lits.length -m)).marks,(popN T (T.lits.length -m)).lits,T.beg.take k⟩:=by unfold cE;rw[x,C];rfl
 rw[M,C,Rm];rw[C]at h0;clear M;have B:=l4 T;have A:∀n,a8 h (n+1) b 0=bE T:=λn=>cG F n;simp only[bE]at B A;simp[K];refine ak.introP (r:=.pv (BL true)) (by simpa[A]using B) ?_ (by simp[a]) (by simp);simp[G,a,gi,hk];refine ak.intro (Ei h b) ?_;rintro _ _ ⟨rfl,rfl⟩;have E:h.set b (gi T)=h:=da F;simp;refine aH.intro (S:=λ(j:Nat)=>⟨[(0,.pv (.ptr b 0)),(1,.pv (af k)),(5,.pv (.fn (.func 265) [] [.ptr h.length 0])),(6,.own true 1 (ab (sK T j)))],h.set b (gi (popN T j))++[[.pv (.ptr b 0)]]⟩) (λj=>j<=T.lits.length -m) (λj=>T.lits.length -j) 0 ?_ (Qq _) ?_
 .rw[popN,E];exact(ai.nilOwn (s:=6) 1 true (by simp)).trans (ai.keep (by simp[sK,ab]) rfl)
 intro j hj;have u:(popN T j).lits.length=T.lits.length -j:=by rw[dX,Qg];omega
 have g:=sJ T j;have w:∀y∈(popN T j).lits,0<=ae y∧ae y<(popN T j).marks.length:=λy hy=>by
  rw[dX]at hy;rw[Cz];exact Q y (Q4 hy)
 have t:popN T (j+1)=lc (popN T j):=rfl;have q:sK T (j+1)=sK T j++[(popN T j).lits.getD ((popN T j).lits.length -1) 0]:=rfl;have P:=sL T j;have d:=λ(h:List (List SV)) (n b:Nat) h1 N O=>A6 h n b (popN T j) h1 N O (by omega) w;have l:∀(Y z:List SV) D,(h.set b Y++[z])[b]'D=Y:=λY z D=>by rw[QN (by simpa using a)];simp
 have o:∀(Y z:List SV),(h.set b Y++[z])[b]?=some Y:=λY z=>by rw[Qd (by simpa using a)];simp[a]
 have p:∀(Y z W:List SV),(h.set b Y++[z]).set b W=h.set b W++[z]:=λY z W=>by rw[vY (by simpa using a),TO]
 have f:b<h.length+1:=by omega
 by_cases c:m<T.lits.length -j
 .have L:(popN T j).lits≠[]:=λe=>by rw[e]at u;simp at u;omega
  have i:(m:Int)<((popN T j).lits.length:Int):=by omega
  have d:=d (h.set b (gi (popN T j))++[[.pv (.ptr b 0)]]) h.length b (by rw[Qp (by simp)];simp) (o _ _) L;rw[p]at d;generalize popN T j=X at*;simp only[gi,g]at d;simp[l,f,gi,g,hk,C,i];refine ak.intro d ?_;rintro _ _ ⟨rfl,rfl⟩;simp;refine⟨by omega,j+1,by(try dsimp only);omega,by(try dsimp only);omega,ai.keep (by simp[q,ab]) (by simp[t])⟩
 .have i:¬(m:Int)<((popN T j).lits.length:Int):=by omega
  have I:j=T.lits.length -m:=by omega
  subst I;have H:(ab T.beg).take k=ab (T.beg.take k):=by unfold ab;rw[SI]
  have J:k<=T.beg.length:=by omega
  clear d w t q;generalize popN T (T.lits.length -m)=X at*;simp[l,p,f,gi,g,hk,C,i,H,J]
end Go.AX
namespace Go.AX
open Go.Proofs
set_option linter.unusedSimpArgs false
def eP(b:Bool):Int:=if b=true then 1 else 0
def dh(A:Ar)(id:Int)(lits:List Int)(b:Bool):Ar:=if jb id lits=0 then⟨A.row++([id,(lits.length:Int),eP b]++lits),pt A.hd A.row.length id⟩else A
set_option maxRecDepth 8000 in
theorem HJ(h:List (List SV))(b:Nat)(A:Ar)(g:h[b]?=some (l6 A))(id:Int)(lits:List Int)(ln:Bool)(k:lits.length<=1000000)(l:A.row.length<=1000000000):
 ay Tryz.prog 127 [.ptr b 0,af id,.seq false 1 (ab lits),BL ln] h (λr h'=>h'=h.set b (l6 (dh A id lits ln))∧r=.pv (.tup [af (if jb id lits=0 then A.row.length else 0),af (jb id lits)])):=by
 refine dY [] [.tmp 8,.tmp 9] (h.set b (l6 (dh A id lits ln))) (by simp) (λi=>by rw[Qz];exact bX (Aw _ _) b i) aD Tryz.func127 ?_;obtain⟨f,e⟩:=P7.1 g;have d:jb id lits=if id<1∨10000000<id then 2 else fj lits 100000:=rfl;have c:dh A id lits ln=if jb id lits=0 then⟨A.row++([id,(lits.length:Int),eP ln]++lits),pt A.hd A.row.length id⟩else A:=rfl;have a:h.set b (l6 A)=h:=da g;generalize dh A id lits ln=j at c⊢;generalize jb id lits=E at d c⊢;simp;refine ak.intro (rR h b A g) ?_;rintro _ _ ⟨rfl,rfl⟩
 by_cases c1:id<1
 .rw[Qb (.inl c1)]at d;subst d;rw[Qa (by omega)]at c;subst c;simp[c1,a]
 by_cases c2:10000000<id
 .rw[Qb (.inr c2)]at d;subst d;rw[Qa (by omega)]at c;subst c;simp[c1,c2,a]
 rw[Qa (by omega)]at d;simp[c1,c2];refine ah.intro (nM lits 100000 (by omega)) ?_;rw[←d]
 by_cases c3:E=0
 rotate_left
 .rw[Qa c3]at c;subst c;simp[c3,a]
 rw[Qb c3]at c;subst c;cases ln
 .simp[c3,e,f,l6,eP];refine⟨by omega,by omega,?_⟩;rw[QM (by simp)];simp[ab]
 .simp[c3,e,f,l6,eP];refine⟨by omega,by omega,?_⟩;rw[QM (by simp)];simp[ab]
def LP(A:Ar)(k:Int):Int:=if(lk A.hd k).getD 0=0 then 20 else 0
def OG(A:Ar)(k:Int):Ar:=if LP A k=0 then⟨A.row.set (k.toNat+2) 2,dl A.hd k⟩else A
def pd(A:Ar)(k:Int):Bool:=isA A k&&decide (A.row.getD (k.toNat+2) 0=1)
theorem A7(h:List (List SV))(b:Nat)(A:Ar)(e:h[b]?=some (l6 A))(k:Int)(hk:isA A k=true->0<=k∧k+2<A.row.length)(i:A.row.length<=1000000000):
 ay Tryz.prog 193 [.ptr b 0,af k] h (λr h'=>h'=h∧r=.pv (BL (pd A k))):=by
 refine gh [] [.tmp 4] aD Tryz.func193 ?_;obtain⟨d,a⟩:=P7.1 e;unfold pd;simp;refine ak.intro (Ax h b A e k) ?_;rintro _ _ ⟨rfl,rfl⟩;cases c:isA A k
 .simp[c]
 .obtain⟨k0,j⟩:=hk c;obtain⟨p,rfl⟩:∃p:Nat,k=p:=⟨k.toNat,by omega⟩;have g:aX ((p:Int)+2)=((p+2:Nat):Int):=by rw[aq (by omega) (by omega)];omega
  have hp:p+2<A.row.length:=by omega
  have f:((p:Int)+2).toNat=p+2:=by omega
  have g2:A.row[p+2]?=some A.row[p+2]:=P8 hp;simp[c,a,d,l6,g,hp,f,g2];omega
def HK(v:Int)(b:Bool):Int:=if v<1∨cK v=false then 0 else if b=true then v else-v
def OH(v:Int):Int:=if v<1∨cK v=false then 10 else 0
theorem HL(v:Int)(b:Bool):am Tryz.prog 102 [af v,BL b] (λr=>r=.pv (.tup [af (HK v b),af (OH v)])):=by
 refine nF [] [.tmp 4,.tmp 5] aD Tryz.func102 ?_;have c:=oF v;unfold HK OH
 by_cases c1:v<1
 .simp[c1];refine aO.intro (r:=.pv (BL true)) (λh=>h.elim) ?_;simp[c1]
 .simp[c1];refine aO.intro (λ_=>c) ?_;cases c2:cK v
  .simp[c1,c2]
  .obtain⟨h1,d,e⟩:=(aW v).1 c2;have a:aX (-v)=-v:=aq (by omega) (by omega);cases b<;>simp[c1,c2,a]
end Go.AX
namespace Go.AX.V
open Go.Proofs
set_option linter.unusedSimpArgs false
theorem litO{y:Int}(h:cK y=true):y≠0∧-100000<=y∧y<=100000∧0<=aV y∧aX (-y)=-y:=by
 obtain⟨a,b,c⟩:=(aW y).1 h;exact⟨a,b,c,by rw[gy];exact h,aq (by omega) (by omega)⟩
theorem pi{l:Int}(h:cK l=true):1<=ae l∧ae l<=100000∧l≠0∧-100000<=l∧l<=100000∧ae l=du l:=by
 obtain⟨a,b,c⟩:=(aW l).1 h;have e:ae l=du l:=by unfold ae;rw[Qb h]
 refine⟨?_,?_,a,b,c,e⟩<;>rw[e]<;>unfold du<;>split<;>omega
theorem sT{l:Int}(h:cK l=true):cK (-l)=true:=by
 obtain⟨a,b,c⟩:=(aW l).1 h;exact(aW _).2 ⟨by omega,by omega,by omega⟩
theorem OI{y:Int}(h:cK y=true):cK y=true:=h
theorem okL_chk{l v:Int}(d:0<=v∧v<=100000)(h:ax l v=0):cK l=true:=by
 obtain⟨a,b,c⟩:=(df d).1 h;exact(aW _).2 ⟨a,by omega,by omega⟩
structure RelT (T:Tr) (t:RT):Prop where
  vars:0<=t.vars∧t.vars<=100000
  len:(T.marks.length:Int)=t.vars+1
  lits:T.lits=t.rows.map (·.l)
  dep:t.dep=(T.beg.length:Int)
  chk:∀x∈t.rows,ax x.l t.vars=0
  ok:∀x∈t.rows,cK x.l=true∧0<=x.lev∧x.lev<=t.dep
  free:∀v:Int,pJ t v<0->(bC T v).v=0
  mark:∀(v:Int)(i:Nat)(hi:i<t.rows.length),pJ t v=(i:Int)->bC T v=⟨if t.rows[i].l<0 then-1 else 1,t.rows[i].lev,t.rows[i].rea,i⟩
theorem RelT.okT{T:Tr}{t:RT}(h:RelT T t):T.ok:=by
 have:=h.vars;have:=h.len;exact⟨by omega,by omega⟩
def RelD(T:Tr)(t:RT):Prop:=RelT T t∧T.beg.length<=t.rows.length
theorem wH{T:Tr}{t:RT}(h:RelT T t)(v:Int):(dA T v).1.lev=(Oi t v).1∧(dA T v).1.rea=(Oi t v).2∧(dA T v).1.pla=pJ t v:=by
 unfold dA Oi;have g:=h.len;have j:=h.vars
 by_cases c:pJ t v<0
 .rw[Qb c,Qb]
  .refine⟨rfl,rfl,?_⟩;have:pJ t v=-1:=by
    unfold pJ gG at*;split at c
    .omega
    .rfl
   rw[this]
  .exact .inr (.inr (h.free v c))
 .obtain⟨i,hi,d,f⟩:=ko (t:=t) (v:=v) (by omega);obtain⟨a,_⟩:=pi (h.ok _ (Qe hi)).1;have b:=(oG h.vars (h.chk _ (Qe hi))).2.1;have e:=h.mark v i hi d;rw[Qa c,Qa,e,d]
  .simp[hi]
  .rw[e];simp only;have:(if t.rows[i].l<0 then(-1:Int)else 1)≠0:=by split<;>omega
   simp[this];omega
theorem Ia{D:DK}(h:RelT D.T D.t){l:Int}{i:Nat}(hi:i<D.t.rows.length)(e:D.t.rows[i].l=l∨D.t.rows[i].l=-l):ax l D.t.vars=0:=by
 have a:=(df h.vars).1 (h.chk _ (Qe hi));exact(df h.vars).2 (by rcases e with e|e<;>omega)
theorem qY{D:DK}(h:RelT D.T D.t){l:Int}(k:cK l=true){i:Nat}(hi:i<D.t.rows.length)(hp:pJ D.t (ae l)=i):(D.t.rows[i].l=-l∧cv D.T l=-1)∨(D.t.rows[i].l=l∧cv D.T l=1):=by
 have c:((D.T.marks.length:Nat):Int) -1=D.t.vars:=by rw[h.len];omega
 have f:=h.mark _ i hi hp;obtain⟨j,hj,q,a⟩:=ko (t:=D.t) (v:=ae l) (by omega);have d:j=i:=by omega
 subst d;obtain⟨_,_,r,_,_,m⟩:=pi (h.ok _ (Qe hi)).1;obtain⟨_,_,l0,_,_,n⟩:=pi k;rw[m,n]at a;have hs:D.t.rows[j].l=l∨D.t.rows[j].l=-l:=by unfold du at a;split at a<;>split at a<;>omega
 unfold cv;rw[c,f,Qa (λe=>e (Ia h hi hs))];unfold du at a;dsimp only;have o:aX (-1)=-1:=by decide
 have p:aX (- -1)=1:=by decide
 by_cases g:l<0
 .rw[Qb g]at a⊢
  by_cases b:D.t.rows[j].l<0
  .rw[Qb b]at a⊢;rw[p];exact .inr ⟨by omega,rfl⟩
  .rw[Qa b]at a⊢;rw[o];exact .inl ⟨by omega,rfl⟩
 .rw[Qa g]at a⊢
  by_cases b:D.t.rows[j].l<0
  .rw[Qb b]at a⊢;exact .inl ⟨by omega,rfl⟩
  .rw[Qa b]at a⊢;exact .inr ⟨by omega,rfl⟩
theorem uY{D:DK}(h:RelT D.T D.t){l:Int}(a:cv D.T l≠0):cK l=true∧∃i,∃hi:i<D.t.rows.length,pJ D.t (ae l)=i:=by
 have b:((D.T.marks.length:Nat):Int) -1=D.t.vars:=by rw[h.len];omega
 unfold cv at a;rw[b]at a
 by_cases c:ax l D.t.vars=0
 .refine⟨okL_chk h.vars c,?_⟩;rw[Qa (λe=>e c)]at a
  by_cases d:0<=pJ D.t (ae l)
  .obtain⟨i,hi,e,_⟩:=ko d;exact⟨i,hi,e⟩
  .rw[h.free _ (by omega)]at a;have f:aX (-0)=0:=by decide
   split at a
   .exact absurd f a
   .exact absurd rfl a
 .rw[Qb c]at a;exact absurd rfl a
def DkR(D:DK):Prop:=∀i (hi:i<D.t.rows.length),D.t.rows[i].rea<0∨(isA D.A D.t.rows[i].rea=true∧D.t.rows[i].l∈au D.A D.t.rows[i].rea∧∀y∈au D.A D.t.rows[i].rea,cK y=true∧(y≠D.t.rows[i].l->aX (-y)∈(D.t.rows.take i).map (·.l)))
structure DeskOk (D:DK):Prop where
  rel:RelD D.T D.t
  relA:RelA D.A D.a
  rea:DkR D
  len:D.A.row.length<=1000000
theorem Ib{D:DK}(h:RelT D.T D.t){v:Int}(a:0<=(dA D.T v).1.rea):∃i,∃hi:i<D.t.rows.length,pJ D.t v=i∧ae D.t.rows[i].l=v∧(dA D.T v).1.rea=D.t.rows[i].rea∧(dA D.T v).1.pla=i:=by
 obtain⟨_,d,e⟩:=wH h v;rw[d]at a⊢;unfold Oi at a⊢
 by_cases c:pJ D.t v<0
 .rw[Qb c]at a;dsimp only at a;omega
 .obtain⟨i,hi,b,f⟩:=ko (t:=D.t) (v:=v) (by omega);refine⟨i,hi,b,f,?_,by rw[e,b]⟩;rw[Qa c,b,Rm,P9,P8 hi];rfl
theorem DeskOk.sh{D:DK}(h:DeskOk D){c:List Int}(d:c.length<=1000000):ShOk D.A D.T c where
 tr:=h.rel.1.okT
 ar:=λq f=>by
  obtain⟨x,hx,e⟩:=h.relA.is q f;obtain⟨p,a,b,_⟩:=h.relA.rows x hx;exact⟨p,_,by rw[←e,a],b⟩
 len:=h.len
 few:=d
 hd:=λv g=>by
  obtain⟨i,hi,_,_,e,_⟩:=Ib h.rel.1 g;rcases h.rea i hi with h1|⟨h1,_⟩
  .omega
  .exact Gs h1
theorem LQ{D:DK}(h:DeskOk D){l:Int}(a:oP D.A D.T l=true):∃i,∃hi:i<D.t.rows.length,cF D.T l=i∧D.t.rows[i].l=aX (-l)∧cK l=true∧(dA D.T (ae l)).1.rea=D.t.rows[i].rea∧0<=D.t.rows[i].rea:=by
 unfold oP at a;simp only[QZ,S4,RS]at a;obtain⟨⟨b1,b2⟩,_⟩:=a;obtain⟨i,hi,c,g,d,f⟩:=Ib h.rel.1 (v:=ae l) (by omega);obtain⟨b,_⟩:=uY h.rel.1 (l:=l) (by omega);refine⟨i,hi,f,?_,b,d,by omega⟩;rw[(litO b).2.2.2.2];rcases qY h.rel.1 b hi c with⟨e,_⟩|⟨_,e⟩
 .exact e
 .omega
theorem val3_m1_of{l:List Int}{y:Int}(hy:cK y=true)(h:-y∈l)(a:y∉l):bu l y=-1:=by
 obtain⟨_,_,_,hx,b⟩:=litO hy;unfold bu;rw[Qa (by omega),Qa a,Qb (by rw[b];exact h)]
structure TraF (cs:List (List Int)) (ats:List Int) (t:RT):Prop where
  dep:0<=t.dep
  chk:∀x∈t.rows,cK x.l=true
  nd:(t.rows.map λx=>ae x.l).Nodup
  lev:∀x∈t.rows,0<=x.lev∧x.lev<=t.dep
  mono:∀i j (hi:i<t.rows.length)(hj:j<t.rows.length),i<j->t.rows[i].lev<=t.rows[j].lev
  dec:∀i (hi:i<t.rows.length),t.rows[i].rea<0->0<t.rows[i].lev∧∀j (hj:j<t.rows.length),j<i->t.rows[j].lev<t.rows[i].lev
  top:0<t.dep->Calm cs (bel t t.dep)
  fst:∀k:Int,0<k->k<=t.dep->∃x∈t.rows,x.lev=k∧x.rea<0
  imp:∀i (hi:i<t.rows.length),0<=t.rows[i].rea->∃k,∃hk:k<cs.length,t.rows[i].rea=ats.getD k 0∧t.rows[i].l∈cs[k]∧(∀y∈cs[k],y≠t.rows[i].l->∃j,∃hj:j<t.rows.length,j<i∧t.rows[j].l=-y)∧
    (0<t.rows[i].lev->∃y∈cs[k],y≠t.rows[i].l∧∃j,∃hj:j<t.rows.length,j<i∧t.rows[j].l=-y∧t.rows[j].lev=t.rows[i].lev)
theorem TraF.inj{cs:List (List Int)}{ats:List Int}{t:RT}(h:TraF cs ats t){i j:Nat}(hi:i<t.rows.length)(hj:j<t.rows.length)(e:ae t.rows[i].l=ae t.rows[j].l):i=j:=by
 have hn:=QV.1 (Sk.1 h.nd);rcases RH i j with c|c|c
 .exact absurd e (hn i j hi hj c)
 .exact c
 .exact absurd e.symm (hn j i hj hi c)
theorem TraF.one{cs:List (List Int)}{ats:List Int}{t:RT}(h:TraF cs ats t){y:Int}(hy:cK y=true):¬(y∈dH t∧-y∈dH t):=by
 rintro⟨h1,d⟩;unfold dH at h1 d;obtain⟨a,g,e⟩:=Qk.1 h1;obtain⟨b,k,f⟩:=Qk.1 d;obtain⟨i,hi,rfl⟩:=Qm g;obtain⟨j,hj,rfl⟩:=Qm k;have m:ae t.rows[i].l=ae t.rows[j].l:=by rw[e,f,dC]
 have c:i=j:=h.inj hi hj m;subst c;obtain⟨n0,_⟩:=litO hy;omega
structure ClsN (cs:List (List Int)) (ats:List Int):Prop where
  len:∀c∈cs,c.length<=1000
  chk:∀c∈cs,∀y∈c,cK y=true
  pos:∀k,k<cs.length->0<=ats.getD k 0
  nd:∀c∈cs,c.Nodup
theorem Ic{cs:List (List Int)}{ats:List Int}(o:ClsN cs ats){t:RT}(h:TraF cs ats t){c:List Int}(m:c∈cs)(k:rS (dH t) c=-1)(hd:0<t.dep):∃y∈c,∃x∈t.rows,x.l=-y∧x.lev=t.dep:=by
 apply QJ;intro j;have b:=(h.top hd _ m).2;apply b;rw[l8]at k⊢;intro y hy hx;have d:=o.chk _ m y hy;have:=wm (k y hy hx);rw[(litO d).2.2.2.2]at this;unfold dH at this;obtain⟨a,g,e⟩:=Qk.1 this;have p:=(h.lev _ g).2;have i:a.lev<t.dep:=by
  rcases TP a.lev t.dep with c|c
  .exact c
  .exact absurd ⟨y,hy,a,g,e,by omega⟩ j
 have f:-y∈bel t t.dep:=by
  unfold bel;rw[Qk];exact⟨a,Q3.2 ⟨g,by simpa using i⟩,e⟩
 exact val3_m1_of d f (λn=>h.one d ⟨jd _ n,jd _ f⟩)
structure DeskT (cs:List (List Int)) (ats:List Int) (D:DK):Prop where
  ok:DeskOk D
  cls:ClsN cs ats
  facts:TraF cs ats D.t
  ars:∀k (hk:k<cs.length),isA D.A (ats.getD k 0)=true∧au D.A (ats.getD k 0)=cs[k]
theorem TraF.pla{cs:List (List Int)}{ats:List Int}{t:RT}(h:TraF cs ats t){j:Nat}(hj:j<t.rows.length):pJ t (ae t.rows[j].l)=j:=by
 have h1:=wn (p:=λx:En=>decide (ae x.l=ae t.rows[j].l)) hj (by simp);obtain⟨i,hi,a,b⟩:=ko (t:=t) (v:=ae t.rows[j].l) h1.1;have:=h.inj hi hj b;subst this;exact a
theorem nm{cs:List (List Int)}{ats:List Int}{T:Tr}{t:RT}(d:RelT T t)(h:TraF cs ats t){j:Nat}(hj:j<t.rows.length):(dA T (ae t.rows[j].l)).1.lev=t.rows[j].lev∧(dA T (ae t.rows[j].l)).1.rea=t.rows[j].rea∧(dA T (ae t.rows[j].l)).1.pla=j:=by
 obtain⟨a,b,c⟩:=wH d (ae t.rows[j].l);have hp:=h.pla hj;rw[a,b,c];unfold Oi;rw[hp,Qa (by omega),Rm,P9,P8 hj];exact⟨rfl,rfl,rfl⟩
theorem oa{cs:List (List Int)}{ats:List Int}{T:Tr}{t:RT}(a:RelT T t)(h:TraF cs ats t){j:Nat}(hj:j<t.rows.length){y:Int}(hy:t.rows[j].l=-y):dN T y=t.rows[j].lev:=by
 unfold dN;rw[pM hj hy];exact(nm a h hj).1
theorem Kj{cs:List (List Int)}{ats:List Int}{T:Tr}{t:RT}(r:RelT T t)(k:TraF cs ats t){p:PS}{n:Nat}(h:LI t p n){y:Int}{j:Nat}(hj:j<t.rows.length)(hy:t.rows[j].l=-y)
 (hn:t.rows[j].lev=t.dep->j<n∨t.rows[j].rea<0) (but:Int):
 LI t (takeF T but p y) n∧(ae y=but∨t.rows[j].lev<=0∨aA (takeF T but p y).seen (ae y)=true)∧(∀v,aA p.seen v=true->aA (takeF T but p y).seen v=true)∧p.many<=(takeF T but p y).many:=by
 have u:=oa r k hj hy;have d:=pM hj hy;have hd:=r.dep;unfold takeF
 by_cases c:ae y=but∨aA p.seen (ae y)=true∨dN T y<=0
 .rw[Qb c];refine⟨h,?_,λv d=>d,Qc _⟩;rcases c with c|c|c
  .exact .inl c
  .exact .inr (.inr c)
  .exact .inr (.inl (by omega))
 rw[Qa c];have q:aA p.seen (ae y)=false:=by
  cases e:aA p.seen (ae y)
  .rfl
  .exact absurd (.inr (.inl e)) c
 have f:0<t.rows[j].lev:=by
  rcases TP 0 t.rows[j].lev with e|e
  .exact e
  .exact absurd (.inr (.inr (by omega))) c
 have s:=(k.lev _ (Qe hj)).2
 by_cases c2:dN T y=T.beg.length
 .rw[Qb c2];have hs:∀w,aA (pt p.seen (ae y) 1) w=if ae y=w then true else aA p.seen w:=λw=>by rw[mJ];simp
  refine⟨⟨?_,h.li,?_,?_⟩,.inr (.inr (by rw[hs,Qb rfl])),λv d=>by rw[hs];split<;>simp[d],RO _⟩
  .intro v b;rw[hs]at b;split at b
   .rename_i e;exact⟨j,hj,by rw[←d,e],f,hn⟩
   .exact h.sn v b
  .intro i hi a g;rw[hs]at a;split at a
   .rename_i e;have:=k.inj hj hi (d.symm.trans e);subst this;omega
   .exact h.ls i hi a g
  .dsimp only;rw[h.mn];symm;apply nR hj
   .rw[←d,q];rfl
   .rw[←d,hs,Qb rfl];simp;omega
   .intro i hi o;rw[hs,Qa];intro e;exact o (k.inj hi hj (e.symm.trans d))
 .rw[Qa c2];have hs:∀w,aA (pt p.seen (ae y) 1) w=if ae y=w then true else aA p.seen w:=λw=>by rw[mJ];simp
  refine⟨⟨?_,?_,?_,?_⟩,.inr (.inr (by rw[hs,Qb rfl])),λv d=>by rw[hs];split<;>simp[d],Qc _⟩
  .intro v b;rw[hs]at b;split at b
   .rename_i e;exact⟨j,hj,by rw[←d,e],f,hn⟩
   .exact h.sn v b
  .intro l m;rcases Qn.1 m with m|m
   .exact h.li l m
   .simp at m;subst m;exact⟨j,hj,hy,f,by omega⟩
  .intro i hi a g;rw[hs]at a;split at a
   .rename_i e;have:=k.inj hj hi (d.symm.trans e);subst this;rw[hy];simp
   .exact Rv _ (h.ls i hi a g)
  .dsimp only;rw[h.mn];apply List.countP_congr;intro x hx;rw[hs];split
   .rename_i e;obtain⟨i,hi,rfl⟩:=Qm hx;have:=k.inj hj hi (d.symm.trans e);subst this;have:¬t.rows[j].lev=t.dep:=by omega
    simp[this]
   .rfl
theorem sU{cs:List (List Int)}{ats:List Int}{T:Tr}{t:RT}(f:RelT T t)(d:TraF cs ats t){n:Nat}(but:Int):∀(c:List Int)(p:PS),LI t p n->
 (∀y∈c,ae y=but∨∃j,∃hj:j<t.rows.length,t.rows[j].l=-y∧(t.rows[j].lev=t.dep->j<n∨t.rows[j].rea<0))->
 LI t (dt T but c p) n∧(∀y∈c,ae y=but∨dN T y<=0∨aA (dt T but c p).seen (ae y)=true)∧(∀v,aA p.seen v=true->aA (dt T but c p).seen v=true)∧p.many<=(dt T but c p).many
 |[],p,h,_=>⟨h,by simp,λ_ b=>b,Qc _⟩
 |y::c,p,h,g=>by
  have key:LI t (takeF T but p y) n∧(ae y=but∨dN T y<=0∨aA (takeF T but p y).seen (ae y)=true)∧(∀v,aA p.seen v=true->aA (takeF T but p y).seen v=true)∧p.many<=(takeF T but p y).many:=by
   rcases g y (Qy ..)with e|⟨j,hj,hy,hn⟩
   .have:takeF T but p y=p:=by unfold takeF;rw[Qb (.inl e)]
    rw[this];exact⟨h,.inl e,λ_ b=>b,Qc _⟩
   .have:=Kj f d h hj hy hn but;rw[←oa f d hj hy]at this;exact this
  obtain⟨m,a,o,q⟩:=key;obtain⟨i,g2,g3,k⟩:=sU f d but c (takeF T but p y) m (λz hz=>g z (Qr _ hz));have e:dt T but (y::c) p=dt T but c (takeF T but p y):=rfl;rw[e];refine⟨i,?_,λv b=>g3 v (o v b),QP q k⟩;intro z hz;rcases QC.1 hz with rfl|hz
  .rcases a with a|a|a
   .exact .inl a
   .exact .inr (.inl a)
   .exact .inr (.inr (g3 _ a))
  .exact g2 z hz
theorem Kk{cs:List (List Int)}{ats:List Int}{t:RT}(q:TraF cs ats t){p:PS}{n:Nat}(h:LI t p (n+1))(hn:n<t.rows.length)(hs:aA p.seen (ae t.rows[n].l)=true)(hd:t.rows[n].lev=t.dep):
 LI t ⟨pt p.seen (ae t.rows[n].l) 0,p.lits,p.many -1⟩ n:=by
 have a:∀w,aA (pt p.seen (ae t.rows[n].l) 0) w=if ae t.rows[n].l=w then false else aA p.seen w:=λw=>by rw[mJ];simp
 refine⟨?_,h.li,?_,?_⟩
 .intro v d;rw[a]at d;split at d
  .cases d
  .rename_i e;obtain⟨j,hj,g,k,m⟩:=h.sn v d;refine⟨j,hj,g,k,λhd=>(m hd).imp (λc=>?_) id⟩;have:j≠n:=λo=>by subst o;exact e g
   omega
 .intro j hj b c;rw[a]at b;split at b
  .cases b
  .exact h.ls j hj b c
 .dsimp only; rw [h.mn]; have := nR (l := t.rows) (P := λ x => aA (pt p.seen (ae t.rows[n].l) 0) (ae x.l) && decide (x.lev = t.dep)) (Q := λ x => aA p.seen (ae x.l) && decide (x.lev = t.dep)) hn (by
   rw[a,Qb rfl];rfl) (by rw[hs];simp[hd]) (λi hi f=>by
   rw[a,Qa];intro e;exact f (q.inj hi hn e.symm))
  rw[this];omega
theorem db{cs:List (List Int)}{ats:List Int}{D:DK}(h:DeskT cs ats D){n:Nat}(hn:n<D.t.rows.length)(i:0<=D.t.rows[n].rea):isA D.A D.t.rows[n].rea=true∧D.t.rows[n].l∈au D.A D.t.rows[n].rea∧
 ∀y∈au D.A D.t.rows[n].rea,cK y=true∧(y≠D.t.rows[n].l->∃j,∃hj:j<D.t.rows.length,j<n∧D.t.rows[j].l=-y):=by
 rcases h.ok.rea n hn with h1|⟨h1,d,f⟩
 .omega
 .refine⟨h1,d,λy hy=>?_⟩;obtain⟨c,g⟩:=f y hy;refine⟨c,λb=>?_⟩;have:=g b;rw[(litO c).2.2.2.2,Qk]at this;obtain⟨x,hx,e⟩:=this;obtain⟨j,hj,rfl⟩:=Qm hx;have a:j<n∧j<D.t.rows.length:=by simp at hj;omega
  refine⟨j,a.2,a.1,?_⟩;rw[←e];simp
theorem Ie{cs:List (List Int)}{ats:List Int}{D:DK}(h:DeskT cs ats D){p:PS}{n:Nat}(hi:LI D.t p (n+1))(hn:n<D.t.rows.length)(hp:nh D.T p D.t.rows[n].l=true):
 LI D.t (nQ D.A D.T p D.t.rows[n].l) n∧p.many -1<=(nQ D.A D.T p D.t.rows[n].l).many∧
  (∀j (hj:j<D.t.rows.length),j≠n->aA p.seen (ae D.t.rows[j].l)=true->aA (nQ D.A D.T p D.t.rows[n].l).seen (ae D.t.rows[j].l)=true)∧
  (∀y∈au D.A D.t.rows[n].rea,y≠D.t.rows[n].l->dN D.T y<=0∨aA (nQ D.A D.T p D.t.rows[n].l).seen (ae y)=true):=by
 have b:=h.facts;have g:=h.ok.rel.1;unfold nh dN at hp;obtain⟨q,k,u⟩:=nm g b hn;rw[q,k]at hp;simp only[Qj,Qs]at hp;obtain⟨r,v,s⟩:=hp;have hd:=g.dep;have h1:=Kk b hi hn r (by omega);obtain⟨w,x,r3⟩:=db h hn s;have d:nQ D.A D.T p D.t.rows[n].l=dt D.T (ae D.t.rows[n].l) (au D.A D.t.rows[n].rea) ⟨pt p.seen (ae D.t.rows[n].l) 0,p.lits,p.many -1⟩:=by
  unfold nQ;rw[k]
 obtain ⟨m, g2, g3, o⟩ := sU g b (ae D.t.rows[n].l) (au D.A D.t.rows[n].rea) _ h1 (λ y hy => by
  by_cases e:y=D.t.rows[n].l
  .exact .inl (by rw[e])
  .obtain⟨j,hj,c,f⟩:=(r3 y hy).2 e;exact .inr ⟨j,hj,f,λ_=>.inl c⟩)
 rw[d];refine⟨m,o,λj hj a i=>?_,λy hy a=>?_⟩
 .apply g3;rw[mJ,Qa]
  .exact i
  .intro e;exact a (b.inj hj hn e.symm)
 .rcases g2 y hy with e|e|e
  .exfalso;obtain⟨j,hj,c,f⟩:=(r3 y hy).2 a;rw[pM hj f]at e;have:=b.inj hj hn e;omega
  .exact .inl e
  .exact .inr e
theorem CM{t:RT}{T:Tr}{cs:List (List Int)}{ats:List Int}(b:RelT T t)(i:TraF cs ats t){p:PS}{n:Nat}(h:LI t p (n+1))(hn:n<t.rows.length)(hp:¬nh T p t.rows[n].l=true):LI t p n:=by
 refine⟨λv d=>?_,h.li,h.ls,h.mn⟩;obtain⟨j,hj,a,f,g⟩:=h.sn v d;refine⟨j,hj,a,f,λhd=>?_⟩;rcases g hd with e|e
 .by_cases c:j=n
  .subst c;right;apply QJ;intro o;apply hp;unfold nh dN;obtain⟨k,m,q⟩:=nm b i hj;rw[k,m,a,d];have:=b.dep;simp only[Qj,Qs,U0];omega
  .left;omega
 .exact .inr e
theorem Kl{t:RT}{cs:List (List Int)}{ats:List Int}(d:TraF cs ats t){p:PS}(h:LI t p 0):p.many<=1:=by
 apply QJ;intro m;have k:2<=t.rows.countP (λx=>aA p.seen (ae x.l)&&decide (x.lev=t.dep)):=by rw[←h.mn];omega
 obtain⟨i,j,hi,hj,a,o,c⟩:=rZ k;simp only[Qj,Qs]at o c;obtain⟨n,b,f,q,g⟩:=h.sn _ c.1;have:=d.inj b hj f;subst this;rcases g c.2 with e|e
 .omega
 .have:=(d.dec n hj e).2 i hi a;omega
theorem Bf{T:Tr}{t:RT}(a:RelT T t){n:Nat}(hn:n<t.rows.length):T.lits.getD n 0=t.rows[n].l:=by
 rw[a.lits,P9,Qu,P8 hn];rfl
theorem wI{cs:List (List Int)}{ats:List Int}{D:DK}(h:DeskT cs ats D):∀(n:Nat)(p:PS),n<=D.t.rows.length->LI D.t p n->
 (∃m,LI D.t (cN D.A D.T D.T.lits n p) m)∧(cN D.A D.T D.T.lits n p).many<=1∧(1<=p.many->1<=(cN D.A D.T D.T.lits n p).many)
 |0,p,_,hi=>⟨⟨0,hi⟩,Kl h.facts hi,λe=>e⟩
 |n+1,p,hn,hi=>by
  rw[cN];split
  .exact⟨⟨_,hi⟩,by assumption,λe=>e⟩
  rename_i c;have a:n<D.t.rows.length:=by omega
  rw[Bf h.ok.rel.1 a];split
  .rename_i hp;obtain⟨b,g2,_⟩:=Ie h hi a hp;obtain⟨d,f,g⟩:=wI h n _ (by omega) b;exact⟨d,f,λ_=>g (by omega)⟩
  .rename_i hp;exact wI h n p (by omega) (CM h.ok.rel.1 h.facts hi a hp)
theorem If{cs:List (List Int)}{ats:List Int}{D:DK}(h:DeskT cs ats D){j:Nat}(hj:j<D.t.rows.length):cv D.T (-D.t.rows[j].l)=-1∧cv D.T D.t.rows[j].l=1:=by
 have b:=h.facts;have a:=b.chk _ (Qe hj);have hp:=b.pla hj;obtain⟨n0,c,d,_⟩:=litO a;constructor
 .rcases qY h.ok.rel.1 (sT a) hj (by rw[dC];exact hp)with⟨_,e⟩|⟨e,_⟩
  .exact e
  .omega
 .rcases qY h.ok.rel.1 a hj hp with⟨e,_⟩|⟨_,e⟩
  .omega
  .exact e
theorem Bg{cs:List (List Int)}{ats:List Int}{D:DK}(h:DeskT cs ats D){R:List Int}{j:Nat}(hj:j<D.t.rows.length)(c:0<=D.t.rows[j].rea)(hy:∀y∈au D.A D.t.rows[j].rea,y≠D.t.rows[j].l->HOk D.A D.T R y):HOk D.A D.T R (-D.t.rows[j].l):=by
 obtain⟨f,b,g⟩:=nm h.ok.rel.1 h.facts hj;obtain⟨e,i,r3⟩:=db h hj c;refine .why (by rw[(If h hj).1];omega) ?_ ?_ ?_
 .rw[dC,b];exact c
 .rw[dC,b];exact e
 .rw[dC,b];intro y d a;exact hy y d (by rw[R2]at a;exact a)
theorem wJ{cs:List (List Int)}{ats:List Int}{D:DK}(h:DeskT cs ats D)(R:List Int):∀(n j:Nat)(hj:j<D.t.rows.length),j<n->D.t.rows[j].lev<=0->HOk D.A D.T R (-D.t.rows[j].l)
 |0,_,_,hn,_=>by omega
 |n+1,j,hj,hn,f=>by
  have c:=h.facts;have d:0<=D.t.rows[j].rea:=by
   rcases TP D.t.rows[j].rea 0 with e|e
   .have:=(c.dec j hj e).1;omega
   .exact e
  refine Bg h hj d λy hy b=>?_;obtain⟨i,hi,a,e⟩:=((db h hj d).2.2 y hy).2 b;have g:=c.mono i j hi hj a;have:=wJ h R n i hi (by omega) (by omega);rw[iN hi e];exact this
theorem KQ{cs:List (List Int)}{ats:List Int}{D:DK}(h:DeskT cs ats D){p:PS}{R:List Int}(a:Fr D p R){j:Nat}(hj:j<D.t.rows.length){y:Int}(hy:D.t.rows[j].l=-y)(hs:dN D.T y<=0∨aA p.seen (ae y)=true):HOk D.A D.T R y:=by
 have b:=oa h.ok.rel.1 h.facts hj hy;rw[iN hj hy];rcases hs with e|e
 .exact wJ h R (j+1) j hj (by omega) (by omega)
 .rw[pM hj hy]at e;exact a j hj e
theorem wK{cs:List (List Int)}{ats:List Int}{D:DK}(h:DeskT cs ats D){R:List Int}:∀(n:Nat)(p:PS),n<=D.t.rows.length->LI D.t p n->Fr D (cN D.A D.T D.T.lits n p) R->Fr D p R
 |0,p,_,_,a=>a
 |n+1,p,hn,hi,a=>by
  rw[cN]at a;split at a
  .exact a
  have b:n<D.t.rows.length:=by omega
  rw[Bf h.ok.rel.1 b]at a;split at a
  .rename_i hp;obtain⟨l,g2,g3,m⟩:=Ie h hi b hp;have g:=wK h n _ (by omega) l a;intro j hj hs
   by_cases e:j=n
   .subst e;obtain⟨q,o,r⟩:=nm h.ok.rel.1 h.facts hj;have f:0<=D.t.rows[j].rea:=by
     unfold nh at hp;rw[o]at hp;simp only[Qj,Qs]at hp;exact hp.2.2
    refine Bg h hj f λy hy c=>?_;obtain⟨i,d,_,k⟩:=((db h hj f).2.2 y hy).2 c;exact KQ h g d k (m y hy c)
   .exact g j hj (g3 j hj e hs)
  .rename_i hp;exact wK h n p (by omega) (CM h.ok.rel.1 h.facts hi b hp) a
structure Conf (D:DK) (con:Int):Prop where
  is:isA D.A con=true
  neg:∀y∈au D.A con,cK y=true∧∃j,∃hj:j<D.t.rows.length,D.t.rows[j].l=-y
  top:0<D.t.dep->∃y∈au D.A con,∃j,∃hj:j<D.t.rows.length,D.t.rows[j].l=-y∧D.t.rows[j].lev=D.t.dep
theorem conf_at{cs:List (List Int)}{ats:List Int}{D:DK}(h:DeskT cs ats D){k:Nat}(hk:k<cs.length)(c:rS (dH D.t) cs[k]=-1):Conf D (ats.getD k 0):=by
 obtain⟨f,d⟩:=h.ars k hk;have e:=Qe hk;refine⟨f,?_,?_⟩
 .rw[d];intro y hy;have a:=h.cls.chk _ e y hy;refine⟨a,?_⟩;rw[l8]at c;have:=wm (c y hy (litO a).2.2.2.1);rw[(litO a).2.2.2.2]at this;unfold dH at this;obtain⟨x,hx,b⟩:=Qk.1 this;obtain⟨j,hj,rfl⟩:=Qm hx;exact⟨j,hj,b⟩
 .rw[d];intro hd;obtain⟨y,hy,x,hx,b,g⟩:=Ic h.cls h.facts e c hd;obtain⟨j,hj,rfl⟩:=Qm hx;exact⟨y,hy,j,hj,b,g⟩
theorem LS{cs:List (List Int)}{ats:List Int}{D:DK}(h:DeskT cs ats D){con:Int}(a:Conf D con):
 LI D.t (gT D.A D.T con) D.t.rows.length∧(∀y∈au D.A con,dN D.T y<=0∨aA (gT D.A D.T con).seen (ae y)=true)∧(0<D.t.dep->1<=(gT D.A D.T con).many):=by
 obtain ⟨d, g2, _, _⟩ := sU h.ok.rel.1 h.facts 0 (au D.A con) _ (Lu D.t D.t.rows.length) (λ y hy => by
  obtain⟨_,j,hj,e⟩:=a.neg y hy;exact .inr ⟨j,hj,e,λ_=>.inl hj⟩)
 have g3:∀y∈au D.A con,dN D.T y<=0∨aA (gT D.A D.T con).seen (ae y)=true:=λy hy=>by
  rcases g2 y hy with e|e
  .have:=(pi (a.neg y hy).1).1;omega
  .exact e
 refine⟨d,g3,λhd=>?_⟩;obtain⟨y,hy,j,hj,c,f⟩:=a.top hd;have i:=oa h.ok.rel.1 h.facts hj c;have hs:aA (gT D.A D.T con).seen (ae y)=true:=by
  rcases g3 y hy with e|e
  .omega
  .exact e
 have:=d.mn;unfold gT at this⊢;rw[this,Nat.one_le_iff_ne_zero,Ne,Ur];intro b;have g:=b _ (Qe hj);rw[pM hj c]at hs;unfold gT at hs;simp[hs,f]at g
structure Learnt (D:DK) (L:List Int):Prop where
  nd:L.Nodup
  neg:∀y∈L,cK y=true∧∃j,∃hj:j<D.t.rows.length,D.t.rows[j].l=-y∧0<D.t.rows[j].lev
  nil:D.t.dep=0->L=[]
  top:0<D.t.dep->∃u r,L=u::r∧dN D.T u=D.t.dep∧∀y∈r,dN D.T y<D.t.dep
theorem Ig{cs:List (List Int)}{ats:List Int}{D:DK}(h:DeskT cs ats D)(p:PS)(y:Int):y∈qA D.T D.T.lits p↔y∈p.lits∨∃j,∃hj:j<D.t.rows.length,D.t.rows[j].l=-y∧aA p.seen (ae D.t.rows[j].l)=true∧D.t.rows[j].lev=D.t.dep:=by
 have b:=h.ok.rel.1;have c:=h.facts;have hd:=b.dep;unfold qA;rw[Qn,Qk];constructor
 .rintro(e|⟨l,f,e⟩)
  .exact .inl e
  .rw[Q3,b.lits]at f;obtain⟨d,a⟩:=f;obtain⟨x,hx,rfl⟩:=Qk.1 d;obtain⟨j,hj,rfl⟩:=Qm hx;have i:=(litO (c.chk _ hx)).2.2.2.2;simp only[Qj,Qs]at a;have ho:=(nm b c hj).1;unfold dN at a;exact .inr ⟨j,hj,by omega,a.1,by omega⟩
 .rintro(e|⟨j,hj,k,g,m⟩)
  .exact .inl e
  .right;have i:=(litO (c.chk _ (Qe hj))).2.2.2.2;have ho:=(nm b c hj).1;refine⟨D.t.rows[j].l,?_,by omega⟩;rw[Q3,b.lits];refine⟨Qk.2 ⟨_,Qe hj,rfl⟩,?_⟩;unfold dN;simp only[Qj,Qs];exact⟨g,by omega⟩
theorem learn_is{cs:List (List Int)}{ats:List Int}{D:DK}(h:DeskT cs ats D){con:Int}(hc:Conf D con):
 Learnt D (dq D.A D.T con)∧∀y∈au D.A con,HOk D.A D.T (dq D.A D.T con) y:=by
 have K:=h.ok.rel.1;have n:=h.facts;have hd:=K.dep;have I:D.T.lits.length=D.t.rows.length:=by rw[K.lits,Ql]
 obtain⟨b1,b2,b3⟩:=LS h hc;obtain⟨⟨m,M⟩,w2,w3⟩:=wI h D.t.rows.length (gT D.A D.T con) (Qc _) b1;have wf:=λR=>wK h (R:=R) D.t.rows.length (gT D.A D.T con) (Qc _) b1;have hL:dq D.A D.T con=Gv D.T (eA (qA D.T D.T.lits (cN D.A D.T D.T.lits D.t.rows.length (gT D.A D.T con)))):=by
  unfold dq Gw;rw[I]
 have b:=Ig h (cN D.A D.T D.T.lits D.t.rows.length (gT D.A D.T con));generalize hp:cN D.A D.T D.T.lits D.t.rows.length (gT D.A D.T con)=p at*;generalize hE:qA D.T D.T.lits p=E at*;have g:∀y∈E,cK y=true∧∃j,∃hj:j<D.t.rows.length,D.t.rows[j].l=-y∧0<D.t.rows[j].lev∧(D.t.rows[j].lev=D.t.dep->aA p.seen (ae D.t.rows[j].l)=true):=λy hy=>by
  rcases(b y).1 hy with e|⟨j,hj,f,s,N⟩
  .obtain⟨j,hj,f,s,N⟩:=M.li y e;refine⟨?_,j,hj,f,s,λe4=>by omega⟩;have:=sT (n.chk _ (Qe hj));rw[f,R2]at this;exact this
  .obtain⟨j',X,q1,q2,_⟩:=M.sn _ s;have:=n.inj X hj q1;subst this;refine⟨?_,j',hj,f,q2,λ_=>s⟩;have:=sT (n.chk _ (Qe hj));rw[f,R2]at this;exact this
 have S:∀y,y∈eA E↔y∈E:=λy=>by
  rw[(oH E).2];exact⟨λe=>e.2,λe=>⟨OI (g y e).1,e⟩⟩
 have B:=x8 E;have u:∀L,(∀y,y∈L↔y∈E)->∀y∈au D.A con,HOk D.A D.T L y:=λL Q=>by
  have W:Fr D p L:=λj hj hs=>by
   apply HOk.stop;rw[Q,b];rcases TP D.t.rows[j].lev D.t.dep with e|e
   .exact .inl (M.ls j hj hs e)
   .exact .inr ⟨j,hj,by omega,hs,by have:=(n.lev _ (Qe hj)).2;omega⟩
  have:=wf L W;intro y hy;obtain⟨_,j,hj,e⟩:=hc.neg y hy;exact KQ h this hj e (b2 y hy)
 by_cases c:D.t.dep=0
 .have C:E=[]:=by
   cases O:E with
   |nil=>rfl
   |cons y r=>
    obtain⟨_,j,hj,_,s,_⟩:=g y (by rw[O];simp);have:=(n.lev _ (Qe hj)).2;omega
  have o:dq D.A D.T con=[]:=by rw[hL,C,DN];rfl
  refine⟨⟨by rw[o];exact List.nodup_nil,by rw[o];simp,λ_=>o,λe=>by omega⟩,u _ λy=>by rw[o,C]⟩
 have U:0<D.t.dep:=by have:=n.dep;omega
 have Z:p.many=1:=by have:=w3 (b3 U);omega
 have ad:D.t.rows.countP (λx=>aA p.seen (ae x.l)&&decide (x.lev=D.t.dep))=1:=by rw[←M.mn];exact Z
 have G:0<D.t.rows.countP (λx=>aA p.seen (ae x.l)&&decide (x.lev=D.t.dep)):=by omega
 rw[Uq]at G;obtain⟨x,hx,a⟩:=G;obtain⟨j,hj,rfl⟩:=Qm hx;simp only[Qj,Qs]at a;have aa:-D.t.rows[j].l∈E:=(b _).2 (.inr ⟨j,hj,by omega,a.1,a.2⟩);have ab:=(S _).2 aa;obtain⟨k,hk,H⟩:=Qm ab;have z:dN D.T (eA E)[k]=D.t.dep:=by rw[H,oa K n hj (show D.t.rows[j].l=-(-D.t.rows[j].l) by omega)];exact a.2
 have J:∀i (hi:i<(eA E).length),i≠k->dN D.T (eA E)[i]<dN D.T (eA E)[k]:=λi hi d=>by
  obtain⟨_,j2,w,f,s,N⟩:=g _ ((S _).1 (Qe hi));have hl:=oa K n w f;have hle:=(n.lev _ (Qe w)).2;rw[z,hl];rcases TP D.t.rows[j2].lev D.t.dep with e|e
  .exact e
  .exfalso;have hs:=N (by omega);have Y:j2=j:=by
    rcases RH j2 j with q|q|q
    .have:=nS (P:=λx=>aA p.seen (ae x.l)&&decide (x.lev=D.t.dep)) q hj (by simp only[Qj,Qs];exact⟨hs,by omega⟩) (by simp only[Qj,Qs];exact a);omega
    .exact q
    .have:=nS (P:=λx=>aA p.seen (ae x.l)&&decide (x.lev=D.t.dep)) q w (by simp only[Qj,Qs];exact a) (by simp only[Qj,Qs];exact⟨hs,by omega⟩);omega
   subst Y;have V:(eA E)[i]=(eA E)[k]:=by rw[H];omega
   exact d (ux B hi hk V)
 have hP:=JD hk (by rw[z];omega) J;have v:dq D.A D.T con=(eA E)[k]::(eA E).eraseIdx k:=hL.trans hP;have F:∀y,y∈dq D.A D.T con↔y∈E:=λy=>by rw[v,l9 hk,S]
 refine⟨⟨?_,λy hy=>?_,λe=>absurd e c,λ_=>⟨_,_,v,z,λy hy=>?_⟩⟩,u _ F⟩
 .rw[v,RQ];refine⟨λhm=>?_,B.sublist (List.eraseIdx_sublist _ _)⟩;rw[Tn]at hm;obtain⟨i,hi,d,e⟩:=hm;exact d (ux B hi hk e)
 .obtain⟨e0,j,hj,f,s,_⟩:=g y ((F y).1 hy);exact⟨e0,j,hj,f,s⟩
 .rw[Tn]at hy;obtain⟨i,hi,d,rfl⟩:=hy;have:=J i hi d;omega
structure DeskI (cs:List (List Int)) (ats:List Int) (D:DK):Prop extends DeskT cs ats D where
  id:∀x∈D.a.rows,1<=x.id
theorem id_is{cs:List (List Int)}{ats:List Int}{D:DK}(h:DeskI cs ats D){q:Int}(b:isA D.A q=true):je D.A q≠0:=by
 obtain⟨x,hx,e⟩:=h.ok.relA.is q b;obtain⟨p,c,_,_,_,d⟩:=h.ok.relA.rows x hx;have hi:=h.id x hx;have a:q=(p:Int):=by rw[←e,c]
 unfold je;rw[Qb b,a,Rm,d];omega
theorem sV{cs:List (List Int)}{ats:List Int}{D:DK}(h:DeskT cs ats D){j:Nat}(hj:j<D.t.rows.length){y:Int}(hy:D.t.rows[j].l=-y):pla D.T y=j∧rea D.T y=D.t.rows[j].rea:=by
 unfold pla rea;rw[pM hj hy];exact⟨(nm h.ok.rel.1 h.facts hj).2.2,(nm h.ok.rel.1 h.facts hj).2.1⟩
theorem val_neg{cs:List (List Int)}{ats:List Int}{D:DK}(h:DeskT cs ats D){l:Int}(b:cv D.T l<0):cK l=true∧∃j,∃hj:j<D.t.rows.length,D.t.rows[j].l=-l:=by
 obtain⟨a,i,hi,hp⟩:=uY h.ok.rel.1 (l:=l) (by omega);refine⟨a,i,hi,?_⟩;rcases qY h.ok.rel.1 a hi hp with⟨e,_⟩|⟨_,e⟩
 .exact e
 .omega
theorem val_of{cs:List (List Int)}{ats:List Int}{D:DK}(h:DeskT cs ats D){l:Int}{j:Nat}(hj:j<D.t.rows.length)(e:D.t.rows[j].l=-l):cv D.T l=-1:=by
 have:=(If h hj).1;rw[e,R2]at this;exact this
theorem ahead_ok{cs:List (List Int)}{ats:List Int}{D:DK}(h:DeskT cs ats D)(h0:D.A.hd≠[]):AheadOk D.A D.T where
 tr:=h.ok.rel.1.okT
 hd:=h0
 ar:=λq k=>by
  obtain⟨x,hx,e⟩:=h.ok.relA.is q k;obtain⟨p,d,a,_⟩:=h.ok.relA.rows x hx;exact⟨p,_,by rw[←e,d],a⟩
 len:=h.ok.len
 ahead:=λl m c=>by
  obtain⟨f,j,hj,e⟩:=val_neg h m;obtain⟨o,r⟩:=sV h hj e;rw[o];refine⟨by omega,λy hy b=>?_⟩;rw[r]at hy c;have n:=(litO f).2.2.2.2;obtain⟨i,hi,g,a⟩:=((db h hj c).2.2 y hy).2 (by rw[e,←n];exact b);rw[(sV h hi a).1];omega
theorem pla_lt{cs:List (List Int)}{ats:List Int}{D:DK}(h:DeskT cs ats D)(l:Int):pla D.T l<D.T.lits.length:=by
 unfold pla;rw[(wH h.ok.rel.1 (ae l)).2.2,h.ok.rel.1.lits,Ql];rcases TP (pJ D.t (ae l)) 0 with c|c
 .omega
 .obtain⟨i,hi,e,_⟩:=ko c;omega
theorem mN{cs:List (List Int)}{ats:List Int}{D:DK}(h:DeskI cs ats D){L:List Int}{stop:List (Int×Int)}(g:∀y,aA stop y=true↔y∈L){k:Nat}{f:NS->Int->Int->NS}
 (C:∀(s:NS)(j:Nat)(hj:j<D.t.rows.length),j<k->0<=D.t.rows[j].rea->NI D L s->Post D L s (f s D.t.rows[j].rea D.t.rows[j].l) (au D.A D.t.rows[j].rea) D.t.rows[j].l) (but:Int):
 ∀(c:List Int)(s:NS),NI D L s->(∀y∈c,y≠but->cK y=true∧∃j,∃hj:j<D.t.rows.length,D.t.rows[j].l=-y∧j<k)->Post D L s (sa f D.A D.T stop but c s) c but
 |[],s,hn,_=>⟨hn,λ_ e=>e,λe=>⟨e,by simp,λj hj h1 O=>by rw[sa]at h1;rw[h1]at O;cases O⟩,λ_=>rfl⟩
 |y::c,s,hn,B=>by
  have q:=λz hz=>B z (Qr _ hz);rw[sa]
  by_cases hs:uz D.T stop but s y=true
  .rw[Qb hs];have u:=mN h g C but c s hn q;refine⟨u.ni,u.mono,λho=>?_,λhk=>u.ok λz hz=>hk z (Qr _ hz)⟩;obtain⟨w,x,a3⟩:=u.all ho;refine⟨w,λz hz a=>?_,a3⟩;rcases QC.1 hz with rfl|hz
   .unfold uz at hs;simp only[Rq,Qj,Qs]at hs;rcases hs with(e|e)|⟨e,_⟩
    .exact absurd e a
    .exact .inl ((g _).1 e)
    .obtain⟨_,j,hj,b,_⟩:=B z (Qy ..) a;rw[(sV h.toDeskT hj b).1]at e;exact .inr ⟨j,hj,b,u.mono _ e⟩
   .exact x z hz a
  rw[Qa hs];have J:y≠but∧y∉L∧¬(aA s.at' (pla D.T y)=true∧0<=pla D.T y):=by
   unfold uz at hs;simp only[Rq,Qj,Qs,U1]at hs;exact⟨hs.1.1,λe=>hs.1.2 ((g _).2 e),hs.2⟩
  obtain⟨M,N,X⟩:=J;obtain⟨Y,j,hj,b,E⟩:=B y (Qy ..) M;obtain⟨Q,R⟩:=sV h.toDeskT hj b;have P:=val_of h.toDeskT hj b
  by_cases m:DQ D.A D.T y=true
  .rw[Qb m];refine⟨⟨hn.val,hn.mem⟩,λ_ e=>e,λe=>(by cases e),λhk=>?_⟩;exfalso;unfold DQ at m;simp only[Rq,Qs]at m;have hy:=hk y (Qy ..) M;cases hy with
   |stop e=>exact N e
   |why v1 v2 v3 _=>
    rcases m with(e|e)|e
    .omega
    .have:rea D.T y=(dA D.T (ae y)).1.rea:=rfl;omega
    .exact id_is h v3 e
  rw[Qa m];have n:0<=rea D.T y:=by
   unfold DQ at m;simp only[Rq,Qs,U1]at m;omega
  have W:=(litO Y).2.2.2.2;have K:aX (-y)=D.t.rows[j].l:=by rw[W,b]
  rw[R]at n⊢;rw[K];have r:aA s.at' j=false:=by
   cases e:aA s.at' j
   .rfl
   .exact absurd ⟨by rw[Q];exact e,by omega⟩ X
  have h0:(lk s.at' (j:Int)).getD 0=0:=by
   have:=hn.val j;unfold aA at r;simp at r;omega
  have H:r9 D.T s y=⟨pt s.at' j 1,s.ok⟩:=by
   unfold r9;rw[Q,h0];rfl
  rw[H];have d:∀p,aA (pt s.at' (j:Int) 1) p=if(j:Int)=p then true else aA s.at' p:=λp=>by rw[mJ];simp
  have I:NI D L ⟨pt s.at' j 1,s.ok⟩:=by
   refine⟨λp=>?_,λp hp=>?_⟩
   .dsimp only;rw[bD];split
    .simp
    .exact hn.val p
   .dsimp only at hp;rw[d]at hp;split at hp
    .rename_i e;exact⟨j,hj,e.symm,n,by rw[b,R2];exact N⟩
    .exact hn.mem p hp
  have o:=C ⟨pt s.at' j 1,s.ok⟩ j hj E n I;generalize f ⟨pt s.at' j 1,s.ok⟩ D.t.rows[j].rea D.t.rows[j].l=v at*;have g2:=mN h g C but c v o.ni q;generalize sa f D.A D.T stop but c v=Z at*;have F:∀p,aA s.at' p=true->aA (pt s.at' (j:Int) 1) p=true:=λp hp=>by rw[d];split<;>simp[hp]
  have G:aA v.at' j=true:=o.mono j (by dsimp only;rw[d,Qb rfl]);refine⟨g2.ni,λp hp=>g2.mono p (o.mono p (F p hp)),λho=>?_,λhk=>?_⟩
  .obtain⟨w,x,a3⟩:=g2.all ho;obtain⟨b1,b2,b3⟩:=o.all w;refine⟨b1,λz hz a=>?_,λi hi S U z hz a=>?_⟩
   .rcases QC.1 hz with rfl|hz
    .exact .inr ⟨j,hj,b,g2.mono _ G⟩
    .exact x z hz a
   .cases c2:aA v.at' i
    .exact a3 i hi S c2 z hz a
    .by_cases e:j=i
     .subst e;exact(b2 z hz a).mono g2.mono
     .exact(b3 i hi c2 (by dsimp only;rw[d,Qa (by omega)];exact U) z hz a).mono g2.mono
  .rw[g2.ok λz hz=>hk z (Qr _ hz)];have hy:=hk y (Qy ..) M;cases hy with
   |stop e=>exact absurd e N
   |why _ _ _ v4=>
    refine o.ok λz hz a=>?_;have V:(dA D.T (ae y)).1.rea=D.t.rows[j].rea:=R;rw[V]at v4;exact v4 z hz (by rw[←b];exact a)
theorem uZ{cs:List (List Int)}{ats:List Int}{D:DK}(h:DeskI cs ats D){L:List Int}{stop:List (Int×Int)}(a:∀y,aA stop y=true↔y∈L):∀(k:Nat)(q but:Int)(s:NS),NI D L s->
 (∀y∈au D.A q,y≠but->cK y=true∧∃j,∃hj:j<D.t.rows.length,D.t.rows[j].l=-y∧j<k)->Post D L s (qB D.A D.T stop (k+1) s q but) (au D.A q) but
 |0,q,but,s,hn,c=>by
  rw[qB];exact mN h a (k:=0) (λ_ j _ hj=>by omega) but _ s hn c
 |k+1,q,but,s,hn,c=>by
  rw[qB];refine mN h a (k:=k+1) (λs j hj g m hn=>?_) but _ s hn c;refine uZ h a k _ _ s hn λy hy b=>?_;obtain⟨n,d⟩:=(db h.toDeskT hj m).2.2 y hy;obtain⟨i,hi,f,e⟩:=d b;exact⟨n,i,hi,e,by omega⟩
def AllNeg(D:DK)(L:List Int):Prop:=∀y∈L,cK y=true∧∃j,∃hj:j<D.t.rows.length,D.t.rows[j].l=-y
theorem sW{cs:List (List Int)}{ats:List Int}{D:DK}(h:DeskT cs ats D){j:Nat}(hj:j<D.t.rows.length):rj D j=D.t.rows[j].rea:=by
 unfold rj rea;rw[Bf h.ok.rel.1 hj];exact(nm h.ok.rel.1 h.facts hj).2.1
theorem yT{cs:List (List Int)}{ats:List Int}{D:DK}(h:DeskI cs ats D){con:Int}(b:Conf D con)(L:List Int):Post D L ⟨[],true⟩ (lE D.A D.T L con) (au D.A con) 0:=by
 have a:D.T.lits.length=D.t.rows.length:=by rw[h.ok.rel.1.lits,Ql]
 unfold lE;refine uZ h (λy=>?_) D.T.lits.length con 0 ⟨[],true⟩ ⟨λp=>by simp[lk],λp hp=>by simp[aA,lk]at hp⟩ λy hy _=>?_
 .have:=se L y L.length (Qc _)
  rwa [QO]at this
 .obtain⟨c,j,hj,e⟩:=b.neg y hy;exact⟨c,j,hj,e,by omega⟩
theorem Ih{cs:List (List Int)}{ats:List Int}{D:DK}(h:DeskT cs ats D){i j:Nat}(hi:i<D.t.rows.length)(hj:j<D.t.rows.length)(o:i<j)(b:0<=D.t.rows[i].rea)(c:0<=D.t.rows[j].rea):D.t.rows[i].rea≠D.t.rows[j].rea:=by
 intro e;have d:=h.facts;have h1:=(db h hi b).2.1;rw[e]at h1;obtain⟨n,m⟩:=(db h hj c).2.2 _ h1;have a:D.t.rows[i].l≠D.t.rows[j].l:=λf=>by
  have:=d.inj hi hj (by rw[f]);omega
 obtain⟨k,hk,_,g⟩:=m a;exact d.one n ⟨gn hi,by rw[←g];exact gn hk⟩
theorem LT{cs:List (List Int)}{ats:List Int}{D:DK}(h:DeskT cs ats D){con:Int}(d:Conf D con){i:Nat}(hi:i<D.t.rows.length)(a:0<=D.t.rows[i].rea):D.t.rows[i].rea≠con:=by
 intro e;have h1:=(db h hi a).2.1;rw[e]at h1;obtain⟨c,k,hk,b⟩:=d.neg _ h1;exact h.facts.one c ⟨gn hi,by rw[←b];exact gn hk⟩
theorem yU{cs:List (List Int)}{ats:List Int}{D:DK}(h:DeskT cs ats D){L:List Int}{s:NS}(hn:NI D L s):∀i,i<=D.t.rows.length->d6 D.T s.at' i=(DU s i).map (rj D)
 |0,_=>rfl
 |i+1,hi=>by
  have p:=yU h hn i (by omega);have o:rea D.T (D.T.lits.getD i 0)=rj D i:=rfl;rw[d6,GG];unfold GE;rw[p,o]
  by_cases c:aA s.at' i=true
  .obtain⟨j,hj,q,l,_⟩:=hn.mem _ c;have b:i=j:=by omega
   subst b;have:¬rj D i∈(DU s i).map (rj D):=by
    intro e;obtain⟨m,d,g⟩:=Qk.1 e;rw[wu]at d;obtain⟨j,a,r,n,_⟩:=hn.mem _ d.2;have f:m=j:=by omega
    subst f;rw[sW h a,sW h hj]at g;exact Ih h a hj d.1 n l g
   rw[Qb (by simp only[c,this,decide_false,Bool.not_false,Bool.and_self]),Qb c,QT];rfl
  .have k:aA s.at' i=false:=by simpa using c
   rw[Qa (by simp[k]),Qa c]
theorem Ii{cs:List (List Int)}{ats:List Int}{D:DK}(h:DeskT cs ats D){L:List Int}{s:NS}{l:List Int}{js:List Nat}(hi:CInv D L s l js){y:Int}(b:cK y=true)(a:-y∈l):bu l y=-1:=
 val3_m1_of b a (λe=>h.facts.one b ⟨hi.sub _ e,hi.sub _ a⟩)
theorem Ij{cs:List (List Int)}{ats:List Int}{D:DK}(h:DeskI cs ats D){con:Int}(Q:Conf D con){L:List Int}{s:NS}(hn:NI D L s)
 (o:∀j (hj:j<D.t.rows.length),aA s.at' j=true->∀y∈au D.A D.t.rows[j].rea,y≠D.t.rows[j].l->Met D L s y) (q:∀y∈au D.A con,Met D L s y):
 ∀(js:List Nat)(l:List Int)(n:Nat),CInv D L s l js->∃l',eM l ((js.map (rj D)).map (au D.A)++[au D.A con]) n=(l',n+js.length+1,0)
 |[],l,n,hi=>by
  refine⟨l,?_⟩;have:rS l (au D.A con)=-1:=by
   rw[l8];intro y hy _;have P:=(Q.neg y hy).1;refine Ii h.toDeskT hi P ?_;rcases q y hy with e|⟨j,hj,m,z⟩
   .exact hi.neg y e
   .rw[←m];exact hi.don j hj z (by simp)
  simp[eM,this]
 |j::js,l,n,hi=>by
  obtain⟨hj,hs,I⟩:=hi.todo j (Qy ..);obtain⟨Z,V,m,R,_⟩:=hn.mem _ hs;have E:j=Z:=by omega
  subst E;have w:=h.facts;obtain⟨r1,N,r3⟩:=db h.toDeskT hj R;have O:=(r3 _ N).1;have v:=(litO O).2.2.2.1;have X:=(litO O).2.2.2.2;have p:=o j hj hs;have a:=SU.1 hi.inc;obtain⟨k,hk,B,T⟩:∃k,∃hk:k<cs.length,au D.A D.t.rows[j].rea=cs[k]∧True:=by
   obtain⟨k,hk,e,_⟩:=w.imp j hj R;rw[e];exact⟨k,hk,(h.ars k hk).2,trivial⟩
  have d:=h.cls.len _ (Qe hk);have r:=h.cls.nd _ (Qe hk);rw[←B]at d r;have K:bu l D.t.rows[j].l=0:=by
   unfold bu;rw[Qa (by omega),Qa I,Qa];rw[X];intro e;exact w.one O ⟨gn hj,hi.sub _ e⟩
  have M:∀y∈au D.A D.t.rows[j].rea,y≠D.t.rows[j].l->bu l y=-1:=λy hy u=>by
   have P:=(r3 y hy).1;refine Ii h.toDeskT hi P ?_;rcases p y hy u with e|⟨i,b,m,z⟩
   .exact hi.neg y e
   .obtain⟨Y,C,U,S⟩:=(r3 y hy).2 u;have:i=Y:=w.inj b C (by rw[m,S]);subst this;rw[←m];refine hi.don i b z ?_;intro g;rcases QC.1 g with e|g
    .omega
    .have:=a.1 i g;omega
  have W:=Cs d r N v K M;have G:¬rS l (au D.A D.t.rows[j].rea)=-1:=by
   rw[l8];intro e;have:=e _ N v;omega
  have b:CInv D L s (l++[D.t.rows[j].l]) js:=by
   refine⟨?_,λy hy=>Rv _ (hi.neg y hy),?_,?_,a.2⟩
   .intro x hx;rcases Qn.1 hx with hx|hx
    .exact hi.sub x hx
    .simp at hx;subst hx;exact gn hj
   .intro i c f J
    by_cases e:i=j
    .subst e;simp
    .exact Rv _ (hi.don i c f (by simp[e,J]))
   .intro i g;obtain⟨c,f,H⟩:=hi.todo i (Qr _ g);refine⟨c,f,?_⟩;intro e;rcases Qn.1 e with e|e
    .exact H e
    .simp at e;have:=w.inj c hj (by rw[e]);have:=a.1 i g;omega
  obtain⟨l',F⟩:=Ij h Q hn o q js _ (n+1) b;refine⟨l',?_⟩;rw[Qw,Qw,QW,eM,sW h.toDeskT hj,Qa G,W,Qb rfl,F,QA];congr 2;omega
theorem hints_show{cs:List (List Int)}{ats:List Int}{D:DK}(h:DeskI cs ats D){con:Int}(m:Conf D con){L:List Int}(u:AllNeg D L)(ho:(lE D.A D.T L con).ok=true):
 (qC D.T (lE D.A D.T L con).at' con).Nodup∧(∀q∈qC D.T (lE D.A D.T L con).at' con,isA D.A q=true)∧
  ∃l',eM (fX L) ((qC D.T (lE D.A D.T L con).at' con).map (au D.A)) 0=(l',(qC D.T (lE D.A D.T L con).at' con).length,0):=by
 have hp:=yT h m L;generalize lE D.A D.T L con=s at*;obtain⟨_,J,a3⟩:=hp.all ho;have Q:=h.facts;have o:D.T.lits.length=D.t.rows.length:=by rw[h.ok.rel.1.lits,Ql]
 have hin:=yU h.toDeskT hp.ni D.t.rows.length (Qc _);have d:∀j∈DU s D.t.rows.length,∃hj:j<D.t.rows.length,aA s.at' j=true∧0<=D.t.rows[j].rea∧-D.t.rows[j].l∉L:=λj hj=>by
  rw[wu]at hj;obtain⟨O,c,g,r,K⟩:=hp.ni.mem _ hj.2;have:j=O:=by omega
  subst this;exact⟨c,hj.2,r,K⟩
 have p:con∉(DU s D.t.rows.length).map (rj D):=by
  intro e;obtain⟨j,hj,g⟩:=Qk.1 e;obtain⟨c,_,F,_⟩:=d j hj;rw[sW h.toDeskT c]at g;exact LT h.toDeskT m c F g
 have M:qC D.T s.at' con=(DU s D.t.rows.length).map (rj D)++[con]:=by
  unfold qC;rw[o,hin,Qa p]
 have f:(DU s D.t.rows.length).Pairwise (·<·):=List.Pairwise.filter _ List.pairwise_lt_range;rw[M];refine⟨?_,?_,?_⟩
 .rw[Ty];refine⟨?_,by simp,λa N b I e=>?_⟩
  .refine Sk.2 (f.imp_of_mem λ{i j} hi hj w=>?_);obtain⟨n,_,G,_⟩:=d i hi;obtain⟨c,_,H,_⟩:=d j hj;rw[sW h.toDeskT n,sW h.toDeskT c];exact Ih h.toDeskT n c w G H
  .simp at I;subst I;exact p (e▸N)
 .intro q k;rcases Qn.1 k with k|k
  .obtain⟨j,hj,g⟩:=Qk.1 k;obtain⟨c,_,F,_⟩:=d j hj;rw[sW h.toDeskT c]at g;rw[←g];exact(db h.toDeskT c F).1
  .simp at k;subst k;exact m.is
 .have v:CInv D L s (fX L) (DU s D.t.rows.length):=by
   refine⟨?_,?_,?_,?_,f⟩
   .intro x hx;rw[oT]at hx;obtain⟨y,hy,rfl⟩:=hx;obtain⟨P,j,hj,e⟩:=u y hy;rw[(litO P).2.2.2.2,←e];exact gn hj
   .intro y hy;rw[oT];exact⟨y,hy,(litO (u y hy).1).2.2.2.2.symm⟩
   .intro j hj hs E;exact absurd ((wu s _ j).2 ⟨hj,hs⟩) E
   .intro j hj;obtain⟨c,hs,_,B⟩:=d j hj;refine⟨c,hs,λe=>?_⟩;rw[oT]at e;obtain⟨y,hy,r⟩:=e;rw[(litO (u y hy).1).2.2.2.2]at r;apply B;rw[r,R2];exact hy
  obtain⟨l',z⟩:=Ij h m hp.ni (λj hj hs y hy C=>a3 j hj hs (by simp[aA,lk]) y hy C) (λy hy=>J y hy (by have:=litO (m.neg y hy).1;omega)) _ _ 0 v;refine⟨l',?_⟩;rw[QT];have:List.map (au D.A) [con]=[au D.A con]:=rfl;rw[this,z];congr 2;simp
theorem hints_ok_of{cs:List (List Int)}{ats:List Int}{D:DK}(h:DeskI cs ats D){con:Int}(a:Conf D con){L:List Int}(hk:∀y∈au D.A con,HOk D.A D.T L y):(lE D.A D.T L con).ok=true:=
 (yT h a L).ok λy hy _=>hk y hy
theorem yV{cs:List (List Int)}{ats:List Int}{D:DK}(h:DeskT cs ats D){L S:List Int}(f:∀x∈L,x∉S->lp D.A D.T L x=true):∀(n j:Nat)(hj:j<D.t.rows.length),j<n->(-D.t.rows[j].l∈L∨lp D.A D.T L (-D.t.rows[j].l)=true)->HOk D.A D.T S (-D.t.rows[j].l)
 |0,j,hj,hn,_=>by omega
 |n+1,j,hj,hn,hx=>by
  by_cases c:-D.t.rows[j].l∈S
  .exact .stop c
  have hd:lp D.A D.T L (-D.t.rows[j].l)=true:=hx.elim (λu=>f _ u c) id;rw[rW,Qj]at hd;obtain⟨g,p⟩:=hd;obtain⟨i,hi,G,H,_,z,m⟩:=LQ h.ok g;have q:=h.facts.chk _ (Qe hj);obtain⟨n0,E,F,_⟩:=litO q;have w:aX (- -D.t.rows[j].l)=D.t.rows[j].l:=by rw[R2];exact aq (by omega) (by omega)
  have v:cF D.T (-D.t.rows[j].l)=j:=(sV h hj (by omega)).1;have b:i=j:=by omega
  subst b;refine Bg h hj m λy hy a=>?_;obtain⟨I,_,B⟩:=db h hj m;obtain⟨J,C⟩:=B y hy;obtain⟨k,hk,r,e⟩:=C a;have s:=oa h.ok.rel.1 h.facts hk e;rw[iN hk e]
  by_cases o:D.t.rows[k].lev<=0
  .exact wJ h S (k+1) k hk (by omega) o
  have d:y∈rV D.A D.T (-D.t.rows[i].l):=by
   unfold rV;rw[Qb g,Q3,z];refine⟨hy,?_⟩;unfold tD;unfold dN at s;simp only[QZ,S4,RS];exact⟨by rw[w];exact a,by omega⟩
  have hp:=QR.1 p y d;unfold ng lm at hp;simp only[Rq,Qj,Qs]at hp;refine yV h f n k hk (by omega) ?_;rw[←iN hk e];rcases hp with⟨_,hp,_⟩|⟨_,hp⟩
  .exact .inl hp
  .exact .inr hp
theorem sho_hok{cs:List (List Int)}{ats:List Int}{D:DK}(h:DeskT cs ats D){L:List Int}(b:AllNeg D L):∀x∈L,HOk D.A D.T (pL D.A D.T L) x:=λx hx=>by
 obtain ⟨_, j, hj, e⟩ := b x hx; rw [iN hj e] at hx ⊢; refine yV h (λ y hy hn => ?_) (j + 1) j hj (by omega) (.inl hx); have a : gI D.A D.T L y = true := QJ λ a => hn (by
  unfold pL;rw[←Q7 1 L,Qn]at hy;rcases hy with hy|hy
  .exact Rv _ hy
  .refine R5 _ ?_;unfold bc;rw[Q3];exact⟨hy,by simpa using a⟩)
 unfold gI iL at a;rw[Qj]at a;exact a.2
theorem show_sound{m:List Bool}{S:List Int}{hs:List (List Int)}(a:∀y∈S,cK y=true)(b:∀c∈hs,c.length<=1000000)(h:(eM (fX S) hs 0).2.2=0)(d:∀c∈hs,d0 c m=true):d0 S m=true:=by
 refine QJ λhn=>uX hs (fX S) 0 b (λy hy=>?_) d h;obtain⟨x,hx,e⟩:=(oT S y).1 hy;obtain⟨n0,g,i,_,f⟩:=litO (a x hx);rw[e,f];refine H9 ((aW x).2 (by omega)) ?_;rw[SP]at hn;have:=Sa.1 hn x hx;simpa using this
end Go.AX.V