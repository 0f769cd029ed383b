/-
  Contracts: watches: made anew, Attach, Detach, Attached.
  Contracts: a desk with clauses, of six variables, and a watch.
  Contracts: a desk with clauses: places; a clause is attached, or detached.
  A watch to which clauses are attached, and detached, goes with the document (plain law).
  Trails of any number of variables, told plainly (plain law).
  Watches: what always holds of them (plain law).
  Watches: what Propagate brings about (plain law).
  Watches: Propagate closes what is attached under units, or tells a conflict (plain law, and the call).
  What follows by units does not hang on the order (plain law).
  Contracts: a desk with clauses and a watch: a literal is decided, or taken back.
  Contracts: arenas whose clauses may be learnt, and dropped; literals made; models.
  Desks of any number of variables: what a conflict teaches, and what is left of it (plain law).
-/
import Derived.Test.YtepodadinenmnaaGreatS14AxWaG
import Derived.Test.YtepodadinenmnaaGreatS14AxRnX
import Derived.Test.YtepodadinenmnaaGreatS14AxTyA
import Derived.Test.YtepodadinenmnaaGreatS14AxDkQ
import Derived.Test.YtepodadinenmnaaGreatAxIs
import Derived.Test.YtepodadinenmnaaGreatAxTb
import Derived.Test.YtepodadinenmnaaGreatS14AxWaD
namespace Go.AX
open Go.Proofs
set_option linter.unusedSimpArgs false
theorem zI(T:Tr)(d:T.marks.length<=1000000)(c:T.lits.length<=1000000):am Tryz.prog 56 [bM T] (λr=>r=.pv (ae ((T.marks.length:Int) -1 -T.lits.length))):=by
 refine aq aE Tryz.func56 ?_;have hi:=mz T;have a:aS ((T.marks.length:Int) -1)=(T.marks.length:Int) -1:=ap (by omega) (by omega);have b:aS ((T.marks.length:Int) -1 -T.lits.length)=(T.marks.length:Int) -1 -T.lits.length:=ap (by omega) (by omega);simp only[bM,cV]at hi;simp[bM,cV];refine ai.intro hi ?_;simp[a,b]
theorem Lc(x v:Int):am Tryz.prog 208 [ae x,.iptr 1 [[ae v]] 0 0] (λr=>r=.pv (BL (!decide (ax x v=0)))):=by
 refine aq aE Tryz.func208 ?_;simp;refine ai.intro (jo x v) ?_
 by_cases c:ax x v=0
 .simp[c]
 .simp[c]
theorem II(h:List (List SV))(b:Nat)(A:Ar)(e:h[b]?=some (mA A))(hk:lr A)(g:A.row.length<=1000000)(q:Int):aB Tryz.prog 158 [.ptr b 0,ae q] h (λr h'=>h'=h∧r=.pv (ae (iW A q))):=by
 refine fC [] [.tmp 4] aE Tryz.func158 ?_;obtain⟨d,a⟩:=Rt.1 e;unfold iW;simp;refine aj.intro (Bx h b A e q) ?_;rintro _ _ ⟨rfl,rfl⟩
 by_cases c:isA A q=true
 .obtain⟨p,n,rfl,f⟩:=hk q c;have hp:p<A.row.length:=by have:=f.len;omega
  simp[a,d,mA,c,hp]
 .have c':isA A q=false:=by simpa using c
  simp[c']
theorem vH(h:List (List SV))(b:Nat)(A:Ar)(d:h[b]?=some (mA A))(hk:lr A)(f:A.row.length<=1000000)(q:Int)(hi:isA A q=true):
 aB Tryz.prog 160 [.ptr b 0,ae q] h (λr h'=>h'=h∧r=.pv (.seq false 1 (aa (av A q)))):=by
 obtain⟨p,n,rfl,a⟩:=hk q hi;have e:av A (p:Int)=dF A p n:=by
  unfold av;rw[Rx hi];have h1:p+1<A.row.length:=by have:=a.len;omega
  have c:A.row.getD ((p:Int).toNat+1) 0=(n:Int):=by rw[←a.num];rfl
  rw[c];rfl
 rw[e];exact Hx h b A d p n hi a f
theorem Ld(h:List (List SV))(ba bt:Nat):aB Tryz.prog 67 [.ptr ba 0,.ptr bt 0] h (λr h'=>h'=h++[[.pv (.ptr ba 0),.pv (.ptr bt 0),.omap true [],.omap true [],.omap true [],.pv (ae 0),.pv (.lit (.slice none 0 0))]]∧r=.pv (.ptr h.length 0)):=by
 refine cO [] [.tmp 4] aE Tryz.func67 ?_;simp
@[simp] theorem Le:∀(l:List (Int×Nat))(k:Int),jd k (a8 vz l)=a8 vz (dl l k)
 |[],k=>rfl
 |(j,x)::l,k=>by
  show(if j=k then a8 vz l else(j,vz x)::jd k (a8 vz l))=a8 vz (if j=k then l else(j,x)::dl l k);rw[Le l k];split<;>rfl
theorem tv{α:Type}:∀{l:List (Int×α)}{k:Int},k∉l.map (·.1)->lk l k=none
 |[],_,_=>rfl
 |(j,x)::l,k,h=>by
  simp only[RU,RZ,Wn]at h;rw[lk,Rw (λe=>h.1 e.symm)];exact tv h.2
theorem IJ{α:Type}:∀{l:List (Int×α)},(l.map (·.1)).Nodup->∀k x:Int,lk (dl l k) x=if x=k then none else lk l x
 |[],_,k,x=>by show none=_;split<;>rfl
 |(j,y)::l,h,k,x=>by
  simp only[RU,S4]at h;show lk (if j=k then l else(j,y)::dl l k) x=if x=k then none else if j=x then some y else lk l x
  by_cases e:j=k
  .rw[Rx e]
   by_cases c:x=k
   .rw[Rx c,c,←e];exact tv h.1
   .rw[Rw c,Rw (λa=>c (a.symm.trans e))]
  .rw[Rw e,lk,IJ h.2 k x]
   by_cases c:x=k
   .rw[Rx c,Rx c,Rw (λa=>e (a.trans c))]
   .rw[Rw c,Rw c]
section
variable {h : List (List SV)} {bw ba bt : Nat} {mp : List (Int × Nat)} {mb : List (Int × By)} {A : Ar} {T : Tr} {S : WS}
theorem LayW.newP(L:LayW h bw ba bt mp mb A T S)(k:Int)(p:Pr)(late:List (Int×Int)):
    LayW ((h++[pw p]).set bw (cA ba bt ⟨pt mp k h.length,mb,late,S.head,S.seen⟩)) bw ba bt (pt mp k h.length) mb A T ⟨pt S.prs k p,S.byl,late,S.head,S.seen⟩:=by
  have hwl:=(Rt.1 L.w).1
  have lt:∀{b:Nat}{x:List SV},h[b]?=some x->b<h.length:=λhx=>(Rt.1 hx).1
  have up:∀{c:Nat}{x:List SV},c≠bw->h[c]?=some x->((h++[pw p]).set bw (cA ba bt ⟨pt mp k h.length,mb,late,S.head,S.seen⟩))[c]?=some x:=λn1 hx=>by
    rw[RN (λe=>n1 e.symm),RB (lt hx),hx]
  have self:((h++[pw p]).set bw (cA ba bt ⟨pt mp k h.length,mb,late,S.head,S.seen⟩))[h.length]?=some (pw p):=by
    rw[RN (by omega)];simp
  have old:∀k' b,lk mp k'=some b->b<h.length:=λk' b hb=>by obtain⟨_,_,a2,_⟩:=L.pr k' b hb;exact lt a2
  exact { w := Si (by simp; omega), a := up L.wa.symm L.a, t := up L.wt.symm L.t, wa := L.wa, wt := L.wt, at' := L.at', keys := zt _ _ _ _ _ L.keys, byn := L.byn, binj := L.binj
          pr:=λk' b hb=>by
            rw[bK]at hb
            show∃p',lk (pt S.prs k p) k'=some p'∧_
            rw[bK]
            by_cases c:k=k'
            · rw[Rx c]at hb;cases hb
              exact⟨p,Rx c,self,UF hwl,UF (lt L.a),UF (lt L.t)⟩
            · rw[Rw c]at hb
              obtain⟨p',a1,a2,a3⟩:=L.pr k' b hb
              exact⟨p',by rw[Rw c];exact a1,up a3.1 a2,a3⟩
          by':=λl e he=>by
            obtain⟨zs,a1,⟨sp,a2,a3⟩,a4⟩:=L.by' l e he
            exact⟨zs,a1,⟨sp,up a4.1 a2,a3⟩,a4⟩
          pinj:=λk1 k2 b h1 h2=>by
            rw[bK]at h1 h2
            by_cases c1:k=k1
            · by_cases c2:k=k2
              · exact c1.symm.trans c2
              · rw[Rx c1]at h1;rw[Rw c2]at h2;cases h1
                have:=old k2 _ h2;omega
            · rw[Rw c1]at h1
              by_cases c2:k=k2
              · rw[Rx c2]at h2;cases h2
                have:=old k1 _ h1;omega
              · rw[Rw c2]at h2
                exact L.pinj k1 k2 b h1 h2
          pb:=λk' b l e hb he=>by
            rw[bK]at hb
            by_cases c:k=k'
            · rw[Rx c]at hb;cases hb
              obtain⟨_,_,⟨_,a2,_⟩,_⟩:=L.by' l e he
              exact UF (lt a2)
            · rw[Rw c]at hb;exact L.pb k' b l e hb he}
end
def pB(A:Ar)(T:Tr)(S:WS)(k:Int):Int:=if iW A k=0 then 20 else if(lk S.prs k).isSome=true then 21 else if(av A k).any (λl=>!decide (ax l ((T.marks.length:Int) -1)=0))=true then 10 else 0
def oA(A:Ar)(T:Tr)(S:WS)(k:Int):WS:=if pB A T S k=0 then⟨pt S.prs k ⟨av A k,0,0⟩,S.byl,pt S.late k (aS ((lk S.late k).getD 0+1)),S.head,S.seen⟩else S
def IK:Sch:=
 let g:Sch:=.fork [(13,.done)]
 let l:Sch:=.fork [(12,g)]
 let e:Sch:=.fork [(9,.take 10 (.take 11 g))]
 let h:Sch:=.fork [(9,.take 10 (.take 11 l)),(12,e)]
 let i:Sch:=.fork [(8,e)]
 let m:Sch:=.fork [(8,h),(12,i)]
 let f:Sch:=.fork [(4,e)]
 let j:Sch:=.fork [(4,h),(12,f)]
 let k:Sch:=.fork [(4,i),(8,f)]
 let n:Sch:=.fork [(4,m),(8,j),(12,k)]
 let a:Sch:=.fork [(3,f)]
 let b:Sch:=.fork [(3,j),(12,a)]
 let c:Sch:=.fork [(3,k),(8,a)]
 let d:Sch:=.fork [(3,n),(8,b),(12,c)]
 .take 0 (.take 1 (.take 2 (.take 5 (.take 6 (.take 7 d)))))
set_option maxRecDepth 16000 in
theorem B8(h:List (List SV))(bw ba bt:Nat)(mp:List (Int×Nat))(mb:List (Int×By))(A:Ar)(T:Tr)(S:WS)(L:LayW h bw ba bt mp mb A T S)(hk:lr A)(O:A.row.length<=1000000)(W:T.marks.length<=1000000)(s:T.lits.length<=1000000)(k:Int):
 aB Tryz.prog 128 [.ptr bw 0,ae k] h (λr h'=>r=.pv (ae (pB A T S k))∧∃mp',LayW h' bw ba bt mp' mb A T (oA A T S k)∧Ext h h' (aU bw bt mp mb) (aU bw bt mp' mb)):=by
 refine cO [8] [.tmp 4] aE Tryz.func128 ?_;obtain⟨i,j⟩:=Rt.1 L.w;have kM:=zr h bw ba bt _ L.w;have Y:=II h ba A L.a hk O k;simp;refine aj.intro kM ?_;rintro _ q ⟨e,rfl⟩;rw[e];clear e q;simp[i,j,cA];refine aj.intro Y ?_;rintro _ q ⟨e,rfl⟩;rw[e];clear e q
 by_cases c1:iW A k=0
 .have o:pB A T S k=20:=by unfold pB;rw[Rx c1]
  have F:oA A T S k=S:=by unfold oA;rw[o];rfl
  rw[o,F];simp[c1];exact⟨mp,L,Ext.refl _ _⟩
 have v:isA A k=true:=by
  unfold iW at c1
  by_cases c:isA A k=true
  .exact c
  .rw[Rw c]at c1;exact absurd rfl c1
 cases hp:lk mp k with
 |some b=>
  obtain⟨p,I,_⟩:=L.pr k b hp;have o:pB A T S k=21:=by unfold pB;rw[Rw c1,I];rfl
  have F:oA A T S k=S:=by unfold oA;rw[o];rfl
  rw[o,F];simp[c1,i,j,cA,hp,vz];exact⟨mp,L,Ext.refl _ _⟩
 |none=>
 have J:lk S.prs k=none:=by
  cases X:lk S.prs k with
  |none=>rfl
  |some p=>obtain⟨b,H,_⟩:=L.some_p X;rw[hp]at H;cases H
 have Z:=vH h ba A L.a hk O k v;simp[c1,i,j,cA,hp,vz];refine aj.intro Z ?_;rintro _ q ⟨e,rfl⟩;rw[e];clear e q;simp;obtain⟨G,g⟩:∃G,G=h++[[SV.pv (ae ((T.marks.length:Int) -1))]]:=⟨_,rfl⟩;have L0:LayW G bw ba bt mp mb A T S:=by rw[g];exact L.app _
 have C:Ext h G (aU bw bt mp mb) (aU bw bt mp mb):=by rw[g];exact Ext.app _ _ _
 have hz:=cH L.t 2;have f:=λx=>cH (L.app [x]).t 2;have kO:=zI T W s;have kT:=fo T s;have N:aS ((T.marks.length:Int) -1)=(T.marks.length:Int) -1:=ap (by omega) (by omega);obtain⟨z,g2⟩:=Rt.1 L0.w;have D:∀x,(h++[x])[bw]?=some (cA ba bt ⟨mp,mb,S.late,S.head,S.seen⟩):=λx=>(L.app [x]).w;refine aQ.meet IK ⟨[(0,.pv (.ptr bw 0)),(1,.pv (ae k)),(5,.pv (.seq false 1 (aa (av A k)))),(6,.pv (.ptr h.length 0))],G⟩ (by kernel_rfl) ?_ ?_
 .simp[IK,i,j,cA,hz,D,f]
  repeat' first
   |refine And.intro ?_ ?_
   |(refine aj.introP kO ?_;simp[i,j,cA,hz,D,f,N])
   |(refine aj.introP kT ?_;simp[i,j,cA,hz,D,f,N])
   |exact ah.keep (by simp) (by rw[g])
 have P:=fY (av A k) (by have:=fO A hk k;omega) 208 [.iptr 1 [[ae ((T.marks.length:Int) -1)]] 0 0] (λl=>!decide (ax l ((T.marks.length:Int) -1)=0)) (λr=>by simp) rfl (λm=>by simp) (λx _=>Lc x _);have Q:h.length<G.length:=by rw[g];simp
 have n2:G[h.length]'Q=[.pv (ae ((T.marks.length:Int) -1))]:=by simp[g]
 generalize u:(av A k).any (λl=>!decide (ax l ((T.marks.length:Int) -1)=0))=B at P;have U:∀n,bG G (n+1) h.length 0=.iptr 1 [[ae ((T.marks.length:Int) -1)]] 0 0:=λn=>by simp[bG,Q,n2,frzC]
 have R:pB A T S k=if B=true then 10 else 0:=by unfold pB;rw[Rw c1,J,u];rfl
 have d:oA A T S k=if pB A T S k=0 then⟨pt S.prs k ⟨av A k,0,0⟩,S.byl,pt S.late k (aS ((lk S.late k).getD 0+1)),S.head,S.seen⟩else S:=rfl;rw[R]at d⊢;generalize oA A T S k=S2 at*;simp[U];refine ai.intro P ?_;cases B
 .have E:(if false=true then(10:Int)else 0)=0:=rfl;rw[E]at d⊢;rw[Rx rfl]at d;subst d;have M:=L0.newP k ⟨av A k,0,0⟩ (pt S.late k (aS ((lk S.late k).getD 0+1)));have K:Ext h ((G++[pw ⟨av A k,0,0⟩]).set bw (cA ba bt ⟨pt mp k G.length,mb,pt S.late k (aS ((lk S.late k).getD 0+1)),S.head,S.seen⟩)) (aU bw bt mp mb) (aU bw bt (pt mp k G.length) mb):=
   ((C.trans (Ext.app G _ _)).trans (Ext.set bw _ (.inl rfl))).dom λb H hd=>by
    rcases hd with h1|h1|⟨k',h1⟩|h1
    .exact .inl h1
    .exact .inr (.inl h1)
    .rw[bK]at h1
     by_cases c:k=k'
     .rw[Rx c]at h1;cases h1;have:=C.len;omega
     .rw[Rw c]at h1;exact .inr (.inr (.inl ⟨k',h1⟩))
    .exact .inr (.inr (.inr h1))
  have V:G.length=h.length+1:=by rw[g];simp
  have b1:∀x,(G++[x])[bw]?=some (cA ba bt ⟨mp,mb,S.late,S.head,S.seen⟩):=λx=>(L0.app [x]).w;have b2:∀x y,(G.set bw y++[x])[bw]?=some y:=λx y=>by rw[RB (by simpa using z),Si z]
  rw[UW _ _ z]at M K;simp[z,g2,cA,b1,b2];exact⟨_,M,K⟩
 .have E:(if true=true then(10:Int)else 0)=10:=rfl;rw[E]at d⊢;rw[Rw (by omega)]at d;subst d;simp;exact⟨mp,L0,C⟩
theorem lU.to{P:Program}{k0:Nat}{ops:Array Oper}{K:St->Prop}{st:St}(b:St)(c:ah k0 st b)(h:lU P k0 ops K b):lU P k0 ops K st:=
 lU.weak (ι:=Unit) (λ_=>b) (λg a w h0 hs=>by obtain⟨g',t,s'⟩:=c g a w h0 hs;exact⟨g',(),t,s'⟩) λ_=>h
theorem LayW.other{h:List (List SV)}{bw ba bt:Nat}{mp:List (Int×Nat)}{mb:List (Int×By)}{A:Ar}{T:Tr}{S:WS}(L:LayW h bw ba bt mp mb A T S)(b:Nat)(x:List SV)(hd:¬aU bw bt mp mb b)(ha:b≠ba):LayW (h.set b x) bw ba bt mp mb A T S:=by
  have up:∀{c:Nat}{y:List SV},b≠c->h[c]?=some y->(h.set b x)[c]?=some y:=λhn hx=>by rw[RN hn,hx]
  exact { w := up (λ e => hd (.inl e)) L.w, a := up ha L.a, t := up (λ e => hd (.inr (.inl e))) L.t, wa := L.wa, wt := L.wt, at' := L.at', keys := L.keys, pinj := L.pinj, byn := L.byn, binj := L.binj, pb := L.pb
          pr:=λk c hc=>by obtain⟨p,h1,h2,h3⟩:=L.pr k c hc;exact⟨p,h1,up (λe=>hd (.inr (.inr (.inl ⟨k,e▸hc⟩)))) h2,h3⟩
          by':=λl e he=>by
            obtain⟨zs,h1,⟨sp,h2,h3⟩,h4⟩:=L.by' l e he
            exact⟨zs,h1,⟨sp,up (λe2=>hd (.inr (.inr (.inr ⟨l,e,he,e2.symm⟩)))) h2,h3⟩,h4⟩}
theorem mem_keys{α:Type}:∀{l:List (Int×α)}{k:Int},(lk l k).isSome=true↔k∈l.map (·.1)
 |[],k=>by simp[lk]
 |(j,x)::l,k=>by
  rw[lk,RU,RZ]
  by_cases e:j=k
  .rw[Rx e];simp[e]
  .rw[Rw e,mem_keys];constructor
   .exactλh=>.inr h
   .rintro(h|h)
    .exact absurd h.symm e
    .exact h
theorem tw{α:Type}:∀(l:List (Int×α))(k:Int),(dl l k).map (·.1)=(l.map (·.1)).erase k
 |[],_=>rfl
 |(j,x)::l,k=>by
  rw[dl,RU,List.erase_cons]
  by_cases e:j=k
  .rw[Rx e,Rx (by simpa using e)]
  .rw[Rw e,Rw (by simpa using e),RU,tw l k]
theorem zJ{l:List Int}(h:l.Nodup):(cK l).Nodup:=by
 unfold cK;exact(Uq l _).nodup_iff.2 h
theorem bA{n:Nat}(hn:n<=100000){l:Int}(h:ax l n=0):l≠0∧-(n:Int)<=l∧l<=n∧1<=af l∧af l<=n∧af l=dg l∧0<=aW l∧aS (-l)=-l:=by
 obtain⟨a,b,c⟩:=(dt (by omega)).1 h;obtain⟨d,e,f,g⟩:=o5 (by omega) h;exact⟨a,b,c,d,e,g,by rw[ll];exact f,ap (by omega) (by omega)⟩
theorem qO{n:Nat}(hn:n<=100000){l:Int}(h:ax l n=0):ax (-l) n=0:=by
 obtain⟨a,b,c⟩:=(dt (by omega)).1 h;exact(dt (by omega)).2 ⟨by omega,by omega,by omega⟩
theorem pC{n:Nat}(hn:n<=100000){x y:Int}(hx:ax x n=0)(hy:ax y n=0):af x=af y↔x=y∨x=-y:=by
 obtain⟨_,_,_,_,_,a,_⟩:=bA hn hx;obtain⟨_,_,_,_,_,b,_⟩:=bA hn hy;rw[a,b];unfold dg;constructor
 .intro h;split at h<;>split at h<;>omega
 .intro h;split<;>split<;>omega
def mJ(beg:List Int)(i:Nat):Int:=((beg.filter λb=>decide (b<=(i:Int))).length:Nat)
def zK(l:Int):Int:=if l<0 then-1 else 1
structure TMk (n:Nat) (T:Tr):Prop where
  hn:n<=100000
  len:T.marks.length=n+1
  chk:∀y∈T.lits,ax y n=0
  nd:(T.lits.map af).Nodup
  mark:∀i (hi:i<T.lits.length),(bI T (af T.lits[i])).v=zK T.lits[i]∧(bI T (af T.lits[i])).lev=mJ T.beg i∧(bI T (af T.lits[i])).pla=i
  free:∀v:Int,v∉T.lits.map af->(bI T v).v=0
structure TOk (n:Nat) (T:Tr):Prop extends TMk n T where
  bnd:∀b∈T.beg,0<=b∧b<T.lits.length
  rise:T.beg.Pairwise (·<·)
section
variable {n : Nat} {T : Tr}
theorem TMk.okT(h:TMk n T):T.ok:=⟨by rw[h.len];omega,by rw[h.len];have:=h.hn;omega⟩
theorem TMk.vars(h:TMk n T):(T.marks.length:Int) -1=n:=by rw[h.len];omega
theorem TMk.few(h:TMk n T):T.lits.length<=n:=by
 have h1:((T.lits.map af).map Int.toNat).Nodup:=by
  refine Tj.2 (h.nd.imp_of_mem ?_);intro a b c g d e;obtain⟨x,hx,rfl⟩:=RE.1 c;obtain⟨y,hy,rfl⟩:=RE.1 g;have:=(bA h.hn (h.chk x hx)).2.2.2.1;have:=(bA h.hn (h.chk y hy)).2.2.2.1;exact d (by omega)
 have f:(T.lits.map af).map Int.toNat⊆List.range' 1 n:=by
  intro v i;obtain⟨a,c,rfl⟩:=RE.1 i;obtain⟨x,hx,rfl⟩:=RE.1 c;obtain⟨_,_,_,p,q,_⟩:=bA h.hn (h.chk x hx);rw[List.mem_range'_1];omega
 have:=(cW _ _ h1 f);simpa using this
theorem TMk.inj(h:TMk n T){i j:Nat}(hi:i<T.lits.length)(hj:j<T.lits.length)(e:af T.lits[i]=af T.lits[j]):i=j:=by
 have hp:=R9.1 (Tj.1 h.nd);rcases TM i j with c|c|c
 .exact absurd e (hp i j hi hj c)
 .exact c
 .exact absurd e.symm (hp j i hj hi c)
theorem TMk.one(h:TMk n T){y:Int}(hy:y∈T.lits)(b:-y∈T.lits):False:=by
 obtain⟨i,hi,c⟩:=RJ hy;obtain⟨j,hj,d⟩:=RJ b;have e:af T.lits[i]=af T.lits[j]:=by rw[c,d,dG]
 have a:i=j:=h.inj hi hj e;subst a;have:=(bA h.hn (h.chk y hy)).1;omega
theorem TMk.nodup(h:TMk n T):T.lits.Nodup:=by
 have:=Tj.1 h.nd;exact this.imp λa e=>a (by rw[e])
theorem TMk.val(h:TMk n T){l:Int}(b:ax l n=0):cr T l=if l∈T.lits then 1 else if-l∈T.lits then-1 else 0:=by
 unfold cr;rw[h.vars,Rw (by simp[b])];have f:aS (-1)=-1:=by decide
 have g:aS (- -1)=1:=by decide
 have j:aS (-0)=0:=by decide
 have l0:=(bA h.hn b).1
 by_cases c:l∈T.lits
 .obtain⟨i,hi,e⟩:=RJ c;have a:=(h.mark i hi).1;rw[e]at a;rw[Rx c,a];unfold zK
  by_cases d:l<0
  .rw[Rx d,Rx d,g]
  .rw[Rw d,Rw d]
 rw[Rw c]
 by_cases c2:-l∈T.lits
 .obtain⟨i,hi,e⟩:=RJ c2;have a:=(h.mark i hi).1;rw[e,dG]at a;rw[Rx c2,a];unfold zK
  by_cases d:l<0
  .rw[Rx d,Rw (by omega),f]
  .rw[Rw d,Rx (by omega)]
 .rw[Rw c2,h.free]
  .split
   .exact j
   .rfl
  .intro a;obtain⟨x,hx,e⟩:=RE.1 a;rcases(pC h.hn (h.chk x hx) b).1 e with rfl|rfl
   .exact c hx
   .exact c2 hx
theorem TMk.val1(h:TMk n T){l:Int}(a:ax l n=0):cr T l=1↔l∈T.lits:=by
 rw[h.val a];split
 .simp_all
 .split<;>simp_all
theorem TMk.valm(h:TMk n T){l:Int}(a:ax l n=0):cr T l=-1↔-l∈T.lits:=by
 rw[h.val a];split
 .rename_i c;simp;intro c2;exact h.one c c2
 .split<;>simp_all
theorem TMk.val0(h:TMk n T){l:Int}(a:ax l n=0):cr T l=0↔l∉T.lits∧-l∉T.lits:=by
 rw[h.val a];split
 .simp_all
 .split<;>simp_all
theorem TMk.may(h:TMk n T)(l:Int):fD T l=0↔ax l n=0∧l∉T.lits∧-l∉T.lits:=by
 unfold fD;rw[h.vars]
 by_cases c:ax l n=0
 .rw[Rw (by simp[c])];have f:=h.val c;have e:(bI T (af l)).v=0↔cr T l=0:=by
   unfold cr;rw[h.vars,Rw (by simp[c])]
   by_cases d:l<0
   .rw[Rx d];constructor
    .intro e;rw[e];decide
    .intro e;have b:-1<=(bI T (af l)).v∧(bI T (af l)).v<=1:=by
      by_cases m:af l∈T.lits.map af
      .obtain⟨x,hx,a⟩:=RE.1 m;obtain⟨i,hi,rfl⟩:=RJ hx;rw[←a,(h.mark i hi).1];unfold zK;split<;>omega
      .rw[h.free _ m];omega
     rw[ap (by omega) (by omega)]at e;omega
   .rw[Rw d]
  rw[←h.val0 c,←e]
  by_cases d:(bI T (af l)).v=0
  .simp[c,d]
  .simp[c,d]
 .rw[Rx c];simp[c]
theorem TOk.new(hn:n<=100000):TOk n (jQ n)where
 hn:=hn
 len:=by simp[jQ]
 chk:=by simp[jQ]
 nd:=by simp[jQ]
 mark:=λi hi=>absurd hi (by simp[jQ])
 free:=λv _=>by
  unfold bI jQ;rw[Rv];simp only[VX];split<;>rfl
 bnd:=by simp[jQ]
 rise:=by simp[jQ]
theorem IL{beg:List Int}{i:Nat}(h:∀b∈beg,b<=i):mJ beg i=beg.length:=by
 unfold mJ;rw[Tw.2 (λb a=>by simpa using h b a)]
theorem j7(T:Tr)(l rea:Int)(h1:1<=af l)(a:af l<T.marks.length)(v:Int)(b:0<=v):bI (gu T l rea) v=if v=af l then⟨zK l,T.beg.length,rea,T.lits.length⟩else bI T v:=by
 unfold bI gu;simp only[Rv,R4]
 by_cases c:v=af l
 .subst c;rw[Rx rfl,Rx rfl,Rx (by omega)];rfl
 .rw[Rw (by omega),Rw c]
theorem TMk.put(h:TMk n T){l:Int}(s:fD T l=0)(rea:Int)(m:∀b∈T.beg,b<=T.lits.length):TMk n (gu T l rea):=by
 obtain⟨q,t,u⟩:=(h.may l).1 s;obtain⟨_,_,_,o,w,_⟩:=bA h.hn q;have d:af l<T.marks.length:=by rw[h.len];omega
 have g:af l∉T.lits.map af:=λp=>by
  obtain⟨x,hx,e⟩:=RE.1 p;rcases(pC h.hn (h.chk x hx) q).1 e with rfl|rfl
  .exact t hx
  .exact u hx
 have k:∀y∈T.lits,0<=af y:=λy hy=>by have:=(bA h.hn (h.chk y hy)).2.2.2.1;omega
 refine⟨h.hn,by simp[gu,h.len],?_,?_,?_,?_⟩
 .intro y hy;rcases RI.1 hy with hy|hy
  .exact h.chk y hy
  .simp at hy;subst hy;exact q
 .show((T.lits++[l]).map af).Nodup;rw[R1,Up];refine⟨h.nd,by simp,λa r b m e=>?_⟩;simp at m;subst m;subst e;exact g r
 .have key:∀i (hi:i<(T.lits++[l]).length),(bI (gu T l rea) (af (T.lits++[l])[i])).v=zK (T.lits++[l])[i]∧(bI (gu T l rea) (af (T.lits++[l])[i])).lev=mJ T.beg i∧(bI (gu T l rea) (af (T.lits++[l])[i])).pla=i:=by
   intro i hi;have j:=hi;rw[RF]at j;simp only[R0,List.length_nil]at j
   by_cases c:i<T.lits.length
   .rw[Su c,j7 T l rea o d _ (k _ (Rz c)),Rw (λe:af T.lits[i]=af l=>g (e▸Ty (Rz c)))];exact h.mark i c
   .have:i=T.lits.length:=by omega
    subst this;rw[VQ (Ry _)];simp only[TV,UL];rw[j7 T l rea o d _ (by omega),Rx rfl];exact⟨rfl,(IL m).symm,rfl⟩
  exact key
 .intro v p;have f:v∉(T.lits++[l]).map af:=p;rw[R1,RI,Wn]at f;simp only[RU,TW,Sc]at f
  by_cases c:0<=v
  .rw[j7 T l rea o d v c,Rw f.2];exact h.free v f.1
  .have h0:=h.free 0 (λe=>by obtain⟨x,hx,e⟩:=RE.1 e;have:=(bA h.hn (h.chk x hx)).2.2.2.1;omega);have e:∀T':Tr,bI T' v=bI T' 0:=λT'=>by unfold bI;rw[show v.toNat=(0:Int).toNat by omega]
   rw[e,j7 T l rea o d 0 (by omega),Rw (by omega)];exact h0
theorem TOk.imp(h:TOk n T){l:Int}(c:fD T l=0)(rea:Int):TOk n (gu T l rea):=
 {h.toTMk.put c rea (λb a=>by have:=(h.bnd b a).2;omega)with
  bnd:=λb a=>by have:=h.bnd b a;show 0<=b∧b<((T.lits++[l]).length:Int);simp;omega
  rise:=h.rise}
theorem TMk.beg(h:TMk n T)(e:∀b∈T.beg,b<T.lits.length):TMk n (p8 T)where
 hn:=h.hn
 len:=h.len
 chk:=h.chk
 nd:=h.nd
 mark:=λi hi=>by
  obtain⟨a,b,c⟩:=h.mark i hi;refine⟨a,b.trans ?_,c⟩;have d:i<T.lits.length:=hi;unfold mJ p8;simp only[SO];rw[Sn,Rw (by simp;omega)];simp
 free:=h.free
theorem TOk.dec(h:TOk n T)(l:Int):TOk n (gP T l):=by
 unfold gP;split
 .rename_i c;have h1:=h.toTMk.beg (λb d=>(h.bnd b d).2);have e:∀b∈(p8 T).beg,0<=b∧b<=T.lits.length:=λb d=>by
   rcases RI.1 d with d|d
   .have:=h.bnd b d;omega
   .simp at d;omega
  exact{h1.put (l:=l) c (-1) (λb d=>(e b d).2)with
   bnd:=λb d=>by have:=e b d;show 0<=b∧b<((T.lits++[l]).length:Int);simp;omega
   rise:=by
    show(T.beg++[(T.lits.length:Int)]).Pairwise (·<·);rw[Uk];refine⟨h.rise,by simp,λa f b d=>?_⟩;simp at d;have:=(h.bnd a f).2;omega}
 .exact h
theorem TMk.pop(h:TMk n T){m:Nat}(r:T.lits.length=m+1):TMk n (lC T):=by
 have a:T.lits.getD (T.lits.length -1) 0=T.lits[m]:=by
  have e:T.lits.length -1=m:=by omega
  rw[e,Rv,Ru (by omega),Sa]
 have f:m<T.lits.length:=by omega
 obtain⟨_,_,_,s,t,_⟩:=bA h.hn (h.chk _ (Rz f));have d:∀v:Int,0<=v->bI (lC T) v=if v=af T.lits[m]then⟨0,0,0,0⟩else bI T v:=λv j=>by
  unfold bI lC;rw[a];simp only[Rv,R4]
  by_cases c:v=af T.lits[m]
  .subst c;rw[Rx rfl,Rx rfl,Rx (by rw[h.len];omega)];rfl
  .rw[Rw (by omega),Rw c]
 have b:(lC T).lits=T.lits.take m:=by unfold lC;rw[r];rfl
 have g:∀y∈T.lits,0<=af y:=λy hy=>by have:=(bA h.hn (h.chk y hy)).2.2.2.1;omega
 refine⟨h.hn,by simp[lC,h.len],?_,?_,?_,?_⟩
 .intro y hy;rw[b]at hy;exact h.chk y (Sl hy)
 .rw[b];exact h.nd.sublist ((UC m T.lits).map af)
 .intro i hi;have p:i<m:=by rw[b,RD]at hi;omega
  have o:(lC T).lits[i]=T.lits[i]'(by omega):=by simp only[b];exact SQ
  rw[o,d _ (g _ (Rz _)),Rw (λe=>by have:=h.inj (by omega) f e;omega)];exact h.mark i (by omega)
 .intro v j;rw[b]at j;have key:∀v:Int,0<=v->v∉(T.lits.take m).map af->(bI (lC T) v).v=0:=λv c j=>by
   rw[d v c];split
   .rfl
   .rename_i k;refine h.free v λhx=>?_;obtain⟨x,l,e⟩:=RE.1 hx;subst e;obtain⟨i,hi,e⟩:=RJ l;subst e
    by_cases q:i=m
    .subst q;exact k rfl
    .exact j (RE.2 ⟨T.lits[i],by rw[SH];exact⟨i,by omega,rfl⟩,rfl⟩)
  by_cases c:0<=v
  .exact key v c j
  .have e:bI (lC T) v=bI (lC T) 0:=by unfold bI;rw[show v.toNat=(0:Int).toNat by omega]
   rw[e];refine key 0 (by omega) λhx=>?_;obtain⟨x,hx,e⟩:=RE.1 hx;have:=(bA h.hn (h.chk x (Sl hx))).2.2.2.1;omega
theorem TMk.popN(h:TMk n T):∀j,j<=T.lits.length->TMk n (popN T j)
 |0,_=>h
 |j+1,hj=>by
  have a:=TMk.popN h j (by omega);rw[Go.AX.popN];refine a.pop (m:=T.lits.length -j -1) ?_;rw[d9,RD];omega
theorem TOk.back(h:TOk n T){k:Nat}(hk:k<T.beg.length):TOk n (bz T k)∧(bz T k).lits=T.lits.take (T.beg[k]).toNat∧(bz T k).beg=T.beg.take k:=by
 have f:T.beg.getD k 0=T.beg[k]:=by rw[Rv,Ru hk];rfl
 obtain⟨b1,b2⟩:=h.bnd _ (Rz hk);have g:(bz T k).lits=T.lits.take (T.beg[k]).toNat:=by
  unfold bz;rw[f,d9];congr 1;omega
 have m:=h.toTMk.popN (T.lits.length -(T.beg[k]).toNat) (by omega);have d:(Go.AX.popN T (T.lits.length -(T.beg[k]).toNat)).lits=T.lits.take (T.beg[k]).toNat:=by rw[d9];congr 1;omega
 have l:∀v,bI (bz T k) v=bI (Go.AX.popN T (T.lits.length -(T.beg[k]).toNat)) v:=λv=>by unfold bI bz;rw[f]
 have q:=R9.1 h.rise;have o:∀b∈T.beg.take k,0<=b∧b<T.beg[k]:=λb e=>by
  obtain⟨i,hi,rfl⟩:=SH.1 e;exact⟨(h.bnd _ (Rz _)).1,q i k (by omega) hk (by omega)⟩
 have a:(bz T k).lits.length=(T.beg[k]).toNat:=by rw[g,RD];omega
 refine⟨{hn:=h.hn,len:=?_,chk:=?_,nd:=?_,mark:=?_,free:=?_,bnd:=?_,rise:=?_},g,rfl⟩
 .unfold bz;rw[f];exact m.len
 .intro y hy;rw[g]at hy;exact h.chk y (Sl hy)
 .rw[g];exact h.nd.sublist ((UC _ T.lits).map af)
 .intro i hi;have p:i<(Go.AX.popN T (T.lits.length -(T.beg[k]).toNat)).lits.length:=by rw[d,←g];exact hi
  have r:(bz T k).lits[i]=(Go.AX.popN T (T.lits.length -(T.beg[k]).toNat)).lits[i]:=by simp only[g,d]
  rw[l,r];obtain⟨t,u,w⟩:=m.mark i p;refine⟨t,u.trans ?_,w⟩;rw[tx];unfold mJ;congr 1;rw[←Sy k T.beg,SO];have:((T.beg.take k++T.beg.drop k).take k)=T.beg.take k:=by rw[Sy]
  show _=((bz T k).beg.filter _).length;have e:(bz T k).beg=T.beg.take k:=rfl;rw[e];have hd:(T.beg.drop k).filter (λb=>decide (b<=(i:Int)))=[]:=by
   rw[Tn];intro b e;obtain⟨j,hj,rfl⟩:=Ub.1 e;have:T.beg[k]<=T.beg[k+j]:=by
    by_cases c:j=0
    .subst c;exact TU _
    .exact Wk (q k (k+j) hk (by omega) (by omega))
   rw[a]at hi;simp;omega
  rw[hd,SX]
 .intro v s;rw[l];refine m.free v ?_;rw[d,←g];exact s
 .intro b e;have:=o b e;rw[a];omega
 .exact h.rise.sublist (UC _ _)
end
def bF(byl:List (Int×List Int))(l:Int):List Int:=(lk byl l).getD []
theorem DF{byl:List (Int×List Int)}{l:Int}{zs:List Int}(h:lk byl l=some zs):bF byl l=zs:=by unfold bF;rw[h];rfl
theorem PN{byl:List (Int×List Int)}{l k:Int}(h:k∈bF byl l):∃zs,lk byl l=some zs∧k∈zs:=by
 unfold bF at h;cases a:lk byl l with
 |none=>rw[a]at h;cases h
 |some zs=>rw[a]at h;exact⟨zs,rfl,h⟩
theorem jA(byl:List (Int×List Int))(k l m:Int):bF (fE byl k l) m=if l≠0∧m=l then bk (λx=>decide (x=k)) (bF byl l)else bF byl m:=by
 unfold bF fE
 by_cases c:l=0
 .rw[Rx c,Rw (λh=>h.1 c)]
 .rw[Rw c,bK]
  by_cases d:m=l
  .rw[Rx d.symm,Rx ⟨c,d⟩];rfl
  .rw[Rw (λe=>d e.symm),Rw (λh=>d h.2)]
theorem IM{k j:Int}{l:List Int}:j∈bk (λx=>decide (x=k)) l↔j∈l∧j≠k:=by
 unfold bk;rw[Ss];simp
theorem pD{byl:List (Int×List Int)}{k l m j:Int}:j∈bF (fE byl k l) m↔j∈bF byl m∧¬(l≠0∧m=l∧j=k):=by
 rw[jA]
 by_cases c:l≠0∧m=l
 .rw[Rx c,IM,c.2];constructor
  .exactλh=>⟨h.1,λq=>h.2 q.2.2⟩
  .exactλh=>⟨h.1,λq=>h.2 ⟨c.1,rfl,q⟩⟩
 .rw[Rw c];exact⟨λh=>⟨h,λq=>c ⟨q.1,q.2.1⟩⟩,λh=>h.1⟩
theorem xu{byl:List (Int×List Int)}(h:∀l,(bF byl l).Nodup)(k l m:Int):(bF (fE byl k l) m).Nodup:=by
 rw[jA];split
 .exact(h l).sublist VH
 .exact h m
theorem m8(byl:List (Int×List Int))(k l m:Int):bF (gB byl k l) m=if m=l then bF byl l++[k]else bF byl m:=by
 unfold bF gB;rw[bK]
 by_cases d:m=l
 .rw[Rx d,Rx d.symm];rfl
 .rw[Rw d,Rw (λe=>d e.symm)]
theorem pE{byl:List (Int×List Int)}{k l m j:Int}:j∈bF (gB byl k l) m↔j∈bF byl m∨(m=l∧j=k):=by
 rw[m8]
 by_cases d:m=l
 .rw[Rx d,d];simp
 .rw[Rw d];simp[d]
theorem xv{byl:List (Int×List Int)}(h:∀l,(bF byl l).Nodup){k l:Int}(hk:k∉bF byl l)(m:Int):(bF (gB byl k l) m).Nodup:=by
 rw[m8];split
 .rw[Up];refine⟨h l,by simp,λa d b c e=>?_⟩;simp at c;subst c;subst e;exact hk d
 .exact h m
structure Wch (n:Nat) (S:WS):Prop where
  nd:(S.prs.map (·.1)).Nodup
  lits:∀k p,lk S.prs k=some p->(0<=k∧k<=20000000)∧p.lits.Nodup∧p.lits.length<=1000∧∀y∈p.lits,ax y n=0
  lnd:(S.late.map (·.1)).Nodup
  lpr:∀k∈S.late.map (·.1),∃p,lk S.prs k=some p
  two:∀k p,lk S.prs k=some p->(k∈S.late.map (·.1)∧p.x=0∧p.y=0)∨(k∉S.late.map (·.1)∧p.x≠p.y∧p.x∈p.lits∧p.y∈p.lits)
  bnd:∀l,(bF S.byl l).Nodup
  mem:∀l k,k∈bF S.byl l↔l≠0∧∃p,lk S.prs k=some p∧(p.x=l∨p.y=l)
theorem qs{α:Type}{l:List (Int×α)}{k:Int}{x:α}(h:lk l k=some x):k∈l.map (·.1):=mem_keys.1 (by rw[h];rfl)
theorem rB{α:Type}{l:List (Int×α)}(h:(l.map (·.1)).Nodup)(k x:Int):x∈(dl l k).map (·.1)↔x∈l.map (·.1)∧x≠k:=by
 rw[tw,h.mem_erase_iff];exact⟨λq=>⟨q.2,q.1⟩,λq=>⟨q.2,q.1⟩⟩
theorem Mb{α:Type}{l:List (Int×α)}(h:(l.map (·.1)).Nodup)(k:Int):((dl l k).map (·.1)).Nodup:=by rw[tw];exact h.erase k
section
variable {n : Nat} {S : WS}
theorem Wch.pos(h:Wch n S){k:Int}{p:Pr}(hp:lk S.prs k=some p)(hk:k∉S.late.map (·.1)):p.x≠0∧p.y≠0∧p.x≠p.y∧p.x∈p.lits∧p.y∈p.lits:=by
 rcases h.two k p hp with⟨a,_⟩|⟨_,a,b,c⟩
 .exact absurd a hk
 .have d:=(h.lits k p hp).2.2.2;have z:∀y∈p.lits,y≠0:=λy hy e=>by
   have:=d y hy;rw[e]at this;unfold ax nZ at this;split at this
   .omega
   .simp at this
  exact⟨z _ b,z _ c,a,b,c⟩
theorem Wch.zer(h:Wch n S){k:Int}{p:Pr}(hp:lk S.prs k=some p)(hk:k∈S.late.map (·.1)):p.x=0∧p.y=0:=by
 rcases h.two k p hp with⟨_,a⟩|⟨a,_⟩
 .exact a
 .exact absurd hk a
theorem Wch.nby(h:Wch n S){k:Int}{p:Pr}(hp:lk S.prs k=some p)(hk:k∈S.late.map (·.1))(l:Int):k∉bF S.byl l:=λb=>by
 obtain⟨l0,q,a,e⟩:=(h.mem l k).1 b;rw[hp]at a;cases a
 obtain⟨c,d⟩:=h.zer hp hk;rw[c,d]at e;omega
theorem Wch.entry(h:Wch n S){k:Int}{p:Pr}(hp:lk S.prs k=some p){l:Int}(l0:l≠0)(a:p.x=l∨p.y=l):∃zs,lk S.byl l=some zs∧k∈zs:=PN ((h.mem l k).2 ⟨l0,p,hp,a⟩)
theorem Wch.hz(h:Wch n S)(b:S.prs.length<=1000000):∀l zs,lk S.byl l=some zs->zs.length<=1000000:=λl zs hz=>by
 have e:=DF hz;have h1:=h.bnd l;rw[e]at h1;have a:zs⊆S.prs.map (·.1):=λk hk=>by
  obtain⟨_,p,hp,_⟩:=(h.mem l k).1 (by rw[e];exact hk);exact qs hp
 have:=(cW _ _ h1 a);rw[RH]at this;omega
theorem eb{α:Type}{l:List (Int×α)}{k j:Int}{y:α}(hj:j≠k):lk (pt l k y) j=lk l j:=by rw[bK,Rw (λe=>hj e.symm)]
theorem dX{α:Type}{l:List (Int×α)}{k:Int}{y:α}:lk (pt l k y) k=some y:=by rw[bK,Rx rfl]
theorem Wch.toLate(h:Wch n S){k:Int}{p:Pr}(hp:lk S.prs k=some p)(hk:k∉S.late.map (·.1))(v:Int):Wch n ⟨(mE S k p).prs,(mE S k p).byl,pt S.late k v,S.head,S.seen⟩:=by
 obtain⟨s,t,r,hx,hy⟩:=h.pos hp hk;have f:(pt S.prs k ⟨p.lits,0,0⟩).map (·.1)=S.prs.map (·.1):=iP _ hp;have g:∀j,j∈(pt S.late k v).map (·.1)↔j=k∨j∈S.late.map (·.1):=λj=>mG _ _ _ _;refine⟨?_,?_,?_,?_,?_,?_,?_⟩
 .show((pt S.prs k _).map (·.1)).Nodup;rw[f];exact h.nd
 .intro j q d;have d:lk (pt S.prs k ⟨p.lits,0,0⟩) j=some q:=d
  by_cases e:j=k
  .subst e;rw[dX]at d;cases d;exact h.lits j p hp
  .rw[eb e]at d;exact h.lits j q d
 .exact j0 _ _ _ h.lnd
 .intro j hj;show∃q,lk (pt S.prs k ⟨p.lits,0,0⟩) j=some q
  by_cases e:j=k
  .subst e;exact⟨_,dX⟩
  .rw[eb e];rcases(g j).1 hj with c|c
   .exact absurd c e
   .exact h.lpr j c
 .intro j q d;have d:lk (pt S.prs k ⟨p.lits,0,0⟩) j=some q:=d;show(j∈(pt S.late k v).map (·.1)∧_)∨(j∉(pt S.late k v).map (·.1)∧_);rw[g]
  by_cases e:j=k
  .subst e;rw[dX]at d;cases d;exact .inl ⟨.inl rfl,rfl,rfl⟩
  .rw[eb e]at d;rcases h.two j q d with⟨a,b⟩|⟨a,b⟩
   .exact .inl ⟨.inr a,b⟩
   .exact .inr ⟨λc=>c.elim e a,b⟩
 .exactλm=>xu (λm=>xu h.bnd k p.x m) k p.y m
 .intro m j;show j∈bF (fE (fE S.byl k p.x) k p.y) m↔m≠0∧∃q,lk (pt S.prs k ⟨p.lits,0,0⟩) j=some q∧_;rw[pD,pD,h.mem]
  by_cases e:j=k
  .subst e;rw[dX];constructor
   .rintro⟨⟨⟨i,q,d,c⟩,l⟩,o⟩;rw[hp]at d;cases d
    rcases c with c|c
    .exact absurd ⟨s,c.symm,rfl⟩ l
    .exact absurd ⟨t,c.symm,rfl⟩ o
   .rintro⟨i,q,d,c⟩;cases d
    simp at c;exact absurd c.symm i
  .rw[eb e];exact⟨λq=>q.1.1,λq=>⟨⟨q,λz=>e z.2.2⟩,λz=>e z.2.2⟩⟩
theorem Wch.watch(h:Wch n S){k:Int}{p:Pr}(hp:lk S.prs k=some p)(hk:k∈S.late.map (·.1)){a b:Int}(i:a≠b)(o:a∈p.lits)(r:b∈p.lits):Wch n ⟨pt S.prs k ⟨p.lits,a,b⟩,gB (gB S.byl k a) k b,dl S.late k,S.head,S.seen⟩:=by
 have g:(pt S.prs k ⟨p.lits,a,b⟩).map (·.1)=S.prs.map (·.1):=iP _ hp;have l:∀j,j∈(dl S.late k).map (·.1)↔j∈S.late.map (·.1)∧j≠k:=λj=>rB h.lnd k j;have hz:∀y∈p.lits,y≠0:=λy hy e=>by
  have:=(h.lits k p hp).2.2.2 y hy;rw[e]at this;unfold ax nZ at this;split at this
  .omega
  .simp at this
 refine⟨?_,?_,?_,?_,?_,?_,?_⟩
 .show((pt S.prs k _).map (·.1)).Nodup;rw[g];exact h.nd
 .intro j q f;have f:lk (pt S.prs k ⟨p.lits,a,b⟩) j=some q:=f
  by_cases e:j=k
  .subst e;rw[dX]at f;cases f;exact h.lits j p hp
  .rw[eb e]at f;exact h.lits j q f
 .exact Mb h.lnd k
 .intro j hj;obtain⟨h1,s⟩:=(l j).1 hj;show∃q,lk (pt S.prs k ⟨p.lits,a,b⟩) j=some q;rw[eb s];exact h.lpr j h1
 .intro j q f;have f:lk (pt S.prs k ⟨p.lits,a,b⟩) j=some q:=f;show(j∈(dl S.late k).map (·.1)∧_)∨(j∉(dl S.late k).map (·.1)∧_);rw[l]
  by_cases e:j=k
  .subst e;rw[dX]at f;cases f;exact .inr ⟨λc=>c.2 rfl,i,o,r⟩
  .rw[eb e]at f;rcases h.two j q f with⟨c,d⟩|⟨c,d⟩
   .exact .inl ⟨⟨c,e⟩,d⟩
   .exact .inr ⟨λz=>c z.1,d⟩
 .intro m;refine xv (λm=>xv h.bnd (h.nby hp hk a) m) ?_ m;rw[pE];rintro(c|c)
  .exact h.nby hp hk b c
  .exact i c.1.symm
 .intro m j;show j∈bF (gB (gB S.byl k a) k b) m↔m≠0∧∃q,lk (pt S.prs k ⟨p.lits,a,b⟩) j=some q∧_;rw[pE,pE]
  by_cases e:j=k
  .subst e;rw[dX];constructor
   .rintro((c|c)|c)
    .exact absurd c (h.nby hp hk m)
    .rw[c.1];exact⟨hz a o,_,rfl,.inl rfl⟩
    .rw[c.1];exact⟨hz b r,_,rfl,.inr rfl⟩
   .rintro⟨t,q,f,c⟩;cases f
    rcases c with c|c
    .exact .inl (.inr ⟨c.symm,rfl⟩)
    .exact .inr ⟨c.symm,rfl⟩
  .rw[eb e,h.mem];constructor
   .rintro((c|c)|c)
    .exact c
    .exact absurd c.2 e
    .exact absurd c.2 e
   .exactλc=>.inl (.inl c)
theorem Wch.move(h:Wch n S){k l x:Int}{p:Pr}(hp:lk S.prs k=some p)(l0:l≠0)(i:p.x=l∨p.y=l)(hx:x∈p.lits)(h1:x≠l)(b:x≠px l p):Wch n (rb S k l p x):=by
 have hk:k∉S.late.map (·.1):=λhk=>by
  obtain⟨D,E⟩:=h.zer hp hk;rw[D,E]at i;omega
 obtain⟨F,G,s,o,r⟩:=h.pos hp hk;have hz:x≠0:=λe=>by
  have:=(h.lits k p hp).2.2.2 x hx;rw[e]at this;unfold ax nZ at this;split at this
  .omega
  .simp at this
 have f:∀q:Pr,(pt S.prs k q).map (·.1)=S.prs.map (·.1):=λq=>iP _ hp;have w:(i9 l p x).lits=p.lits∧(i9 l p x).x≠(i9 l p x).y∧(i9 l p x).x∈p.lits∧(i9 l p x).y∈p.lits∧∀m,((i9 l p x).x=m∨(i9 l p x).y=m)↔(x=m∨(m≠l∧(p.x=m∨p.y=m))):=by
  unfold i9;unfold px at b
  by_cases c:p.x=l
  .rw[Rx c]at b⊢;refine⟨rfl,b,hx,r,λm=>?_⟩;show(x=m∨p.y=m)↔_;constructor
   .rintro(e|e)
    .exact .inl e
    .exact .inr ⟨λq=>s (by rw[c,e,q]),.inr e⟩
   .rintro(e|⟨g,e|e⟩)
    .exact .inl e
    .exact absurd (e.symm.trans c) g
    .exact .inr e
  .rw[Rw c]at b⊢;have hy:p.y=l:=i.elim (λe=>absurd e c) id;refine⟨rfl,λe=>b e.symm,o,hx,λm=>?_⟩;show(p.x=m∨x=m)↔_;constructor
   .rintro(e|e)
    .exact .inr ⟨λq=>c (e.trans q),.inl e⟩
    .exact .inl e
   .rintro(e|⟨g,e|e⟩)
    .exact .inr e
    .exact .inl e
    .exact absurd (e.symm.trans hy) g
 obtain⟨v,A,B,C,u⟩:=w;refine⟨?_,?_,h.lnd,?_,?_,?_,?_⟩
 .show((pt S.prs k _).map (·.1)).Nodup;rw[f];exact h.nd
 .intro j q a;have a:lk (pt S.prs k (i9 l p x)) j=some q:=a
  by_cases e:j=k
  .subst e;rw[dX]at a;cases a;rw[v];exact h.lits j p hp
  .rw[eb e]at a;exact h.lits j q a
 .intro j hj;show∃q,lk (pt S.prs k (i9 l p x)) j=some q
  by_cases e:j=k
  .subst e;exact⟨_,dX⟩
  .rw[eb e];exact h.lpr j hj
 .intro j q a;have a:lk (pt S.prs k (i9 l p x)) j=some q:=a
  by_cases e:j=k
  .subst e;rw[dX]at a;cases a;rw[v];exact .inr ⟨hk,A,B,C⟩
  .rw[eb e]at a;exact h.two j q a
 .intro m;refine xv (λm=>xu h.bnd k l m) ?_ m;rw[pD,h.mem];rintro⟨⟨_,q,a,c⟩,_⟩;rw[hp]at a;cases a
  unfold px at b
  by_cases d:p.x=l
  .rw[Rx d]at b;rcases c with c|c
   .exact h1 (c.symm.trans d)
   .exact b c.symm
  .rw[Rw d]at b;rcases c with c|c
   .exact b c.symm
   .exact h1 (c.symm.trans (i.elim (λe=>absurd e d) id))
 .intro m j;show j∈bF (gB (fE S.byl k l) k x) m↔m≠0∧∃q,lk (pt S.prs k (i9 l p x)) j=some q∧_;rw[pE,pD,h.mem]
  by_cases e:j=k
  .subst e;rw[dX];constructor
   .rintro(⟨⟨t,q,a,c⟩,d⟩|⟨c,_⟩)
    .rw[hp]at a;cases a
     exact⟨t,_,rfl,(u m).2 (.inr ⟨λz=>d ⟨l0,z,rfl⟩,c⟩)⟩
    .rw[c];exact⟨hz,_,rfl,(u x).2 (.inl rfl)⟩
   .rintro⟨t,q,a,c⟩;cases a
    rcases(u m).1 c with c|⟨c1,c2⟩
    .exact .inr ⟨c.symm,rfl⟩
    .exact .inl ⟨⟨t,p,hp,c2⟩,λz=>c1 z.2.1⟩
  .rw[eb e];constructor
   .rintro(⟨c,_⟩|⟨_,c⟩)
    .exact c
    .exact absurd c e
   .exactλc=>.inl ⟨c,λz=>e z.2.2⟩
theorem Wch.put(h:Wch n S){k:Int}(hk:k∉S.prs.map (·.1))(k0:0<=k∧k<=20000000){lits:List Int}(hn:lits.Nodup)(l:lits.length<=1000)(i:∀y∈lits,ax y n=0)(v:Int):Wch n ⟨pt S.prs k ⟨lits,0,0⟩,S.byl,pt S.late k v,S.head,S.seen⟩:=by
 have g:lk S.prs k=none:=by
  cases d:lk S.prs k with
  |none=>rfl
  |some p=>exact absurd (qs d) hk
 have f:∀j,j∈(pt S.late k v).map (·.1)↔j=k∨j∈S.late.map (·.1):=λj=>mG _ _ _ _;refine⟨j0 _ _ _ h.nd,?_,j0 _ _ _ h.lnd,?_,?_,h.bnd,?_⟩
 .intro j q d;have d:lk (pt S.prs k ⟨lits,0,0⟩) j=some q:=d
  by_cases e:j=k
  .subst e;rw[dX]at d;cases d;exact⟨k0,hn,l,i⟩
  .rw[eb e]at d;exact h.lits j q d
 .intro j hj;show∃q,lk (pt S.prs k ⟨lits,0,0⟩) j=some q
  by_cases e:j=k
  .subst e;exact⟨_,dX⟩
  .rw[eb e];rcases(f j).1 hj with c|c
   .exact absurd c e
   .exact h.lpr j c
 .intro j q d;have d:lk (pt S.prs k ⟨lits,0,0⟩) j=some q:=d;show(j∈(pt S.late k v).map (·.1)∧_)∨(j∉(pt S.late k v).map (·.1)∧_);rw[f]
  by_cases e:j=k
  .subst e;rw[dX]at d;cases d;exact .inl ⟨.inl rfl,rfl,rfl⟩
  .rw[eb e]at d;rcases h.two j q d with⟨a,b⟩|⟨a,b⟩
   .exact .inl ⟨.inr a,b⟩
   .exact .inr ⟨λc=>c.elim e a,b⟩
 .intro m j;show j∈bF S.byl m↔m≠0∧∃q,lk (pt S.prs k ⟨lits,0,0⟩) j=some q∧_;rw[h.mem]
  by_cases e:j=k
  .subst e;rw[dX,g];constructor
   .rintro⟨_,q,d,_⟩;cases d
   .rintro⟨o,q,d,c⟩;cases d
    simp at c;exact absurd c.symm o
  .rw[eb e]
end
inductive Grow (C:Int->List Int->Prop) (n:Nat) (T0:Tr):Tr->Prop
  |refl:Grow C n T0 T0
  |step {T:Tr} {k o:Int} {c:List Int}:Grow C n T0 T->C k c->o∈c->fD T o=0->0<=k->(∀y∈c,y≠o->-y∈T.lits)->Grow C n T0 (gu T o k)
theorem Grow.trans{C:Int->List Int->Prop}{n:Nat}{T0 c d:Tr}(a:Grow C n T0 c)(b:Grow C n c d):Grow C n T0 d:=by
 induction b with
 |refl=>exact a
 |step _ h1 e f g h i=>exact .step i h1 e f g h
theorem Grow.mono{C b:Int->List Int->Prop}{n:Nat}{T0 d:Tr}(h:∀k c,C k c->b k c)(a:Grow C n T0 d):Grow b n T0 d:=by
 induction a with
 |refl=>exact .refl
 |step _ h1 e f g i j=>exact .step j (h _ _ h1) e f g i
theorem Grow.pre{C:Int->List Int->Prop}{n:Nat}{T0 b:Tr}(a:Grow C n T0 b):T0.lits<+:b.lits∧b.beg=T0.beg:=by
 induction a with
 |refl=>exact⟨Vt _,rfl⟩
 |step _ h1 d e f g c=>exact⟨c.1.trans (List.prefix_append _ _),c.2⟩
def CW(S:WS)(k:Int)(c:List Int):Prop:=∃p,lk S.prs k=some p∧p.lits=c
structure SameL (S S':WS):Prop where
  keys:S'.prs.map (·.1)=S.prs.map (·.1)
  lits:∀k c,CW S' k c↔CW S k c
theorem SameL.refl(S:WS):SameL S S:=⟨rfl,λ_ _=>Iff.rfl⟩
theorem SameL.trans{S S' d:WS}(a:SameL S S')(b:SameL S' d):SameL S d:=⟨b.keys.trans a.keys,λk c=>(b.lits k c).trans (a.lits k c)⟩
theorem SameL.pt{S:WS}{k:Int}{p q:Pr}(hp:lk S.prs k=some p)(d:q.lits=p.lits)(byl:List (Int×List Int))(late:List (Int×Int))(hd:Int)(sn:List Int):SameL S ⟨Go.AX.pt S.prs k q,byl,late,hd,sn⟩where
 keys:=iP _ hp
 lits:=λj c=>by
  unfold CW;show(∃f,lk (Go.AX.pt S.prs k q) j=some f∧_)↔_
  by_cases e:j=k
  .subst e;rw[dX,hp];constructor
   .rintro⟨_,a,b⟩;cases a;exact⟨p,rfl,d▸b⟩
   .rintro⟨_,a,b⟩;cases a;exact⟨q,rfl,d.trans b⟩
  .rw[eb e]
structure Pro (n:Nat) (S0:WS) (T0:Tr) (S:WS) (T:Tr):Prop where
  wch:Wch n S
  tok:TOk n T
  same:SameL S0 S
  grow:Grow (CW S0) n T0 T
  head:S.head=S0.head
  seen:S.seen=S0.seen
def nJ(S:WS)(P:List Int):Prop:=∀y∈P,bF S.byl (-y)=[]
def mK(S:WS)(T:Tr)(k:Int):Prop:=∀p,lk S.prs k=some p->∃x∈p.lits,x∈T.lits
theorem mK.up{S S':WS}{T T':Tr}{k:Int}(h:mK S T k)(hs:SameL S S')(b:∀x∈T.lits,x∈T'.lits):mK S' T' k:=λp hp=>by
 obtain⟨q,c,e⟩:=(hs.lits k p.lits).1 ⟨p,hp,rfl⟩;obtain⟨x,hx,a⟩:=h q c;exact⟨x,e▸hx,b x a⟩
section
variable {n : Nat}
theorem tB{T:Tr}(d:TMk n T){lits:List Int}(e:∀y∈lits,ax y n=0){x:Int}:x∈eX T lits↔x∈lits∧-x∉T.lits:=by
 unfold eX;rw[Ss];constructor
 .rintro⟨a,b⟩;refine⟨a,λc=>?_⟩;have:=(d.valm (e x a)).2 c;simp[this]at b
 .rintro⟨a,b⟩;refine⟨a,?_⟩;have h1:=d.val (e x a);rw[Rw b]at h1;split at h1<;>simp[h1]
theorem IN{T:Tr}{lits:List Int}(h:lits.Nodup):(eX T lits).Nodup:=h.sublist VH
theorem IP{T:Tr}(a:TMk n T){lits:List Int}(b:∀y∈lits,ax y n=0):lO T lits=true↔∃x∈lits,x∈T.lits:=by
 unfold lO;rw[Ti];constructor
 .rintro⟨x,hx,e⟩;exact⟨x,hx,(a.val1 (b x hx)).1 (by simpa using e)⟩
 .rintro⟨x,hx,e⟩;exact⟨x,hx,by simpa using(a.val1 (b x hx)).2 e⟩
theorem DG{T:Tr}(c:TMk n T){p:Pr}(d:∀y∈p.lits,ax y n=0):mF T p=true↔∀y∈p.lits,-y∈T.lits:=by
 unfold mF;rw[RP,SY,UE];constructor
 .intro h y hy;apply RW;intro e;exact h y ((tB c d).2 ⟨hy,e⟩)
 .intro h y hy;obtain⟨a,b⟩:=(tB c d).1 hy;exact b (h y a)
theorem Pro.fresh{S0 S:WS}{T0 T:Tr}(h:Pro n S0 T0 S T){k:Int}{p:Pr}(hp:lk S.prs k=some p)(hk:k∈S.late.map (·.1))(w:mF T p=false):
 Pro n S0 T0 (jI S T k p) (l3 T k p)∧(∀j,j∈(jI S T k p).late.map (·.1)->j∈S.late.map (·.1))∧(∀j,j∈S.late.map (·.1)->j≠k->j∈(jI S T k p).late.map (·.1))∧(k∈(jI S T k p).late.map (·.1)->mK (jI S T k p) (l3 T k p) k)∧SameL S (jI S T k p)∧Grow (CW S0) n T (l3 T k p)∧
 (∀y,y∈T.lits->bF (jI S T k p).byl (-y)=bF S.byl (-y)):=by
 obtain⟨k0,s,A,m⟩:=h.wch.lits k p hp;have hin:=λx=>tB (x:=x) h.tok.toTMk m;have u:=IN (T:=T) s;have t:=IP h.tok.toTMk m;unfold jI l3;unfold mF at w;generalize eX T p.lits=O at*;rcases O with _|⟨a,_|⟨b,O⟩⟩
 .simp at w
 .rw[Rw (by simp)];obtain⟨d,g⟩:=(hin a).1 (RR ..);cases hd:lO T p.lits
  .rw[Rx ⟨rfl,rfl⟩];have r:a∉T.lits:=λe=>by rw[t.2 ⟨a,d,e⟩]at hd;cases hd
   have o:fD T a=0:=(h.tok.may a).2 ⟨m a d,r,g⟩;have C:i8 T a k=gu T a k:=by
    have B:wQ T a k=0:=by
     unfold wQ;rw[Rw (by simp[o]),Rw (by omega)]
    unfold i8;rw[Rx B]
   have l:CW S0 k p.lits:=(h.same.lits _ _).1 ⟨p,hp,rfl⟩;have ho:∀y∈p.lits,y≠a->-y∈T.lits:=λy hy c=>by
    apply RW;intro l;have:=(hin y).2 ⟨hy,l⟩;simp at this;exact c this
   rw[Te,C];have z:Grow (CW S0) n T (gu T a k):=.step .refl l d o k0.1 ho;refine⟨⟨h.wch,h.tok.imp o k,h.same,h.grow.trans z,h.head,h.seen⟩,λ_ hj=>hj,λ_ hj _=>hj,λ_=>?_,SameL.refl _,z,λ_ _=>rfl⟩;intro q f;rw[hp]at f;cases f
   exact⟨a,d,TJ _ (by simp)⟩
  .rw[Rw (by simp)];refine⟨h,λ_ hj=>hj,λ_ hj _=>hj,λ_=>?_,SameL.refl _,.refl,λ_ _=>rfl⟩;intro q f;rw[hp]at f;cases f
   exact t.1 hd
 .rw[Rx (by simp),Rw (by simp)];simp only[Te,Tx];obtain⟨d,g⟩:=(hin a).1 (RR ..);obtain⟨b1,b2⟩:=(hin b).1 (by simp);have i:a≠b:=λe=>by
   rw[S4]at u;exact u.1 (by rw[e];simp)
  have D:=h.wch.watch hp hk i d b1;have v:SameL S ⟨pt S.prs k ⟨p.lits,a,b⟩,gB (gB S.byl k a) k b,dl S.late k,S.head,S.seen⟩:=SameL.pt (q:=⟨p.lits,a,b⟩) hp rfl _ _ _ _;refine⟨⟨D,h.tok,h.same.trans v,h.grow,h.head,h.seen⟩,λj hj=>((rB h.wch.lnd k j).1 hj).1,λj hj c=>(rB h.wch.lnd k j).2 ⟨hj,c⟩,λhj=>absurd rfl ((rB h.wch.lnd k k).1 hj).2,v,.refl,λy hy=>?_⟩;show bF (gB (gB S.byl k a) k b) (-y)=_;rw[m8,Rw (λe=>b2 (by rw[←e,Tz];exact hy)),m8,Rw (λe=>g (by rw[←e,Tz];exact hy))]
structure JL (n:Nat) (S0:WS) (T0:Tr) (P:List Int) (ks:List Int) (S:WS) (T:Tr):Prop extends Pro n S0 T0 S T where
  clr:nJ S P
  sub':∀y∈P,y∈T.lits
  knd:ks.Nodup
  kin:∀k∈ks,k∈S.late.map (·.1)
  all:∀k∈S.late.map (·.1),k∈ks∨mK S T k
theorem JL.step{S0 S:WS}{T0 T:Tr}{P ks:List Int}{k:Int}(h:JL n S0 T0 P (k::ks) S T){p:Pr}(hp:lk S.prs k=some p)(g:mF T p=false):JL n S0 T0 P ks (jI S T k p) (l3 T k p):=by
 obtain⟨a,b,d,f,f5,f6,f7⟩:=h.toPro.fresh hp (h.kin k (RR ..)) g;have hn:=S4.1 h.knd;exact{a with
  clr:=λy hy=>by rw[f7 y (h.sub' y hy)];exact h.clr y hy
  sub':=λy hy=>f6.pre.1.subset (h.sub' y hy)
  knd:=hn.2
  kin:=λj hj=>d j (h.kin j (RO _ hj)) λe=>hn.1 (e▸hj)
  all:=λj hj=>by
   rcases h.all j (b j hj)with c|c
   .rcases RZ.1 c with rfl|c
    .exact .inr (f hj)
    .exact .inl c
   .exact .inr (c.up f5 λx hx=>f6.pre.1.subset hx)}
def qP(S:WS)(T:Tr)(k:Int):Prop:=0<=k∧∃p,lk S.prs k=some p∧∀y∈p.lits,-y∈T.lits
theorem DH{S0:WS}{T0:Tr}{P:List Int}:∀{ks:List Int}{S:WS}{T:Tr},JL n S0 T0 P ks S T->
 ((g8 ks S T).2.2=-1∧JL n S0 T0 P [] (g8 ks S T).1 (g8 ks S T).2.1)∨(0<=(g8 ks S T).2.2∧Pro n S0 T0 (g8 ks S T).1 (g8 ks S T).2.1∧nJ (g8 ks S T).1 P∧(∀y∈P,y∈(g8 ks S T).2.1.lits)∧qP (g8 ks S T).1 (g8 ks S T).2.1 (g8 ks S T).2.2)
 |[],S,T,h=>.inl ⟨rfl,h⟩
 |k::ks,S,T,h=>by
  obtain⟨p,hp⟩:=h.wch.lpr k (h.kin k (RR ..));obtain⟨k0,_,_,b⟩:=h.wch.lits k p hp;rw[g8,hp];simp only;cases a:mF T p
  .rw[Rw (by simp)];exact DH (h.step hp a)
  .rw[Rx rfl];exact .inr ⟨k0.1,h.toPro,h.clr,h.sub',k0.1,p,hp,(DG h.tok.toTMk b).1 a⟩
structure JF (n:Nat) (S0:WS) (T0:Tr) (P:List Int) (l:Int) (zs:List Int) (S:WS) (T:Tr):Prop extends Pro n S0 T0 S T where
  clr:nJ S P
  sub':∀y∈P,y∈T.lits
  by':bF S.byl l=zs
  fail:-l∈T.lits
  held:∀k∈S.late.map (·.1),mK S T k
theorem JF.look{S0 S:WS}{T0 T:Tr}{P zs:List Int}{l k:Int}(h:JF n S0 T0 P l (k::zs) S T):∃p,lk S.prs k=some p∧l≠0∧(p.x=l∨p.y=l)∧k∉S.late.map (·.1):=by
 have hk:k∈bF S.byl l:=by rw[h.by'];exact RR ..
 obtain⟨l0,p,hp,b⟩:=(h.wch.mem l k).1 hk;exact⟨p,hp,l0,b,λa=>h.wch.nby hp a l hk⟩
theorem qt{k:Int}{zs:List Int}(h:(k::zs).Nodup):bk (λx=>decide (x=k)) (k::zs)=zs:=by
 have hn:=S4.1 h;unfold bk;rw[Sn,Rw (by simp),Tw];intro x hx;have:x≠k:=λe=>hn.1 (e▸hx);simp[this]
theorem gV{byl:List (Int×List Int)}{k l m:Int}(h:bF byl m=[]):bF (fE byl k l) m=[]:=by
 rw[jA];split
 .rename_i c;rw[←c.2,h];rfl
 .exact h
theorem Lf{l:Int}{p:Pr}(a:p.x≠p.y)(b:p.x=l∨p.y=l):(p.x=l∧px l p=p.y∧p.y≠l)∨(p.y=l∧px l p=p.x∧p.x≠l):=by
 unfold px
 by_cases c:p.x=l
 .rw[Rx c];exact .inl ⟨c,rfl,λe=>a (c.trans e.symm)⟩
 .rw[Rw c];exact .inr ⟨b.elim (λe=>absurd e c) id,rfl,c⟩
theorem JF.step{S0 S:WS}{T0 T:Tr}{P zs:List Int}{l k:Int}(h:JF n S0 T0 P l (k::zs) S T){p:Pr}(hp:lk S.prs k=some p)(hb:qm T l p=false):JF n S0 T0 P l zs (oy S T l k p) (pA T l k p):=by
  obtain⟨q,hq,l0,hl,hk⟩:=h.look
  rw[hp]at hq
  cases hq
  obtain⟨x0,y0,hxy,hpx,hpy⟩:=h.wch.pos hp hk
  obtain⟨k0,hnd,hlen,hchk⟩:=h.wch.lits k p hp
  have hnz:(k::zs).Nodup:=by rw[←h.by'];exact h.wch.bnd l
  unfold oy pA
  unfold qm at hb
  cases hpk:mH T l p with
  |some x=>
    unfold mH at hpk
    have hx:=List.mem_of_find?_eq_some hpk
    have ho:=List.find?_some hpk
    unfold M4 at ho
    simp only[RG,RP]at ho
    obtain⟨o1,o2,o3⟩:=ho
    have hW:=h.wch.move hp l0 hl hx o1 o2
    have hM:(i9 l p x).lits=p.lits:=by unfold i9;split<;>rfl
    have hS:SameL S (rb S k l p x):=SameL.pt hp hM _ _ _ _
    have hnx:-x∉T.lits:=λe=>by
      have:=(h.tok.valm (hchk x hx)).2 e
      omega
    exact { wch := hW, tok := h.tok, same := h.same.trans hS, grow := h.grow, head := h.head, seen := h.seen
            clr:=λy hy=>by
              show bF (gB (fE S.byl k l) k x) (-y)=[]
              rw[m8,Rw (λe=>hnx (by rw[←e,Tz];exact h.sub' y hy))]
              exact gV (h.clr y hy)
            sub':=h.sub'
            by':=by
              show bF (gB (fE S.byl k l) k x) l=zs
              rw[m8,Rw (λe=>o1 e.symm),jA,Rx ⟨l0,rfl⟩,h.by',qt hnz]
            fail:=h.fail
            held:=λj hj=>(h.held j hj).up hS λ_ hx=>hx}
  |none=>
    rw[hpk]at hb
    simp only at hb⊢
    have hL:=h.wch.toLate hp hk (aS ((lk S.late k).getD 0+1))
    have hS1:SameL S (lP (mE S k p) k):=SameL.pt (q:=⟨p.lits,0,0⟩) hp rfl _ _ _ _
    have hP1:Pro n S0 T0 (lP (mE S k p) k) T:=⟨hL,h.tok,h.same.trans hS1,h.grow,h.head,h.seen⟩
    have hlk:∀j,j∈(lP (mE S k p) k).late.map (·.1)↔j=k∨j∈S.late.map (·.1):=λj=>mG _ _ _ _
    have hp1:lk (lP (mE S k p) k).prs k=some (pz p):=dX
    obtain⟨f1,f2,f3,f4,f5,f6,f7⟩:=hP1.fresh hp1 ((hlk k).2 (.inl rfl)) hb
    have hby:bF (lP (mE S k p) k).byl l=zs:=by
      show bF (fE (fE S.byl k p.x) k p.y) l=zs
      rcases Lf hxy hl with⟨c,_,d⟩|⟨c,_,d⟩
      · rw[jA,Rw (λe=>d e.2.symm),jA,Rx ⟨x0,c.symm⟩,c,h.by',qt hnz]
      · rw[jA,Rx ⟨y0,c.symm⟩,c,jA,Rw (λe=>d e.2.symm),h.by',qt hnz]
    have hsub:∀y∈T.lits,y∈(l3 T k (pz p)).lits:=λy hy=>f6.pre.1.subset hy
    exact{f1 with
      clr:=λy hy=>by
        rw[f7 y (h.sub' y hy)]
        exact gV (gV (h.clr y hy))
      sub':=λy hy=>hsub y (h.sub' y hy)
      by':=by
        have:=f7 (-l) h.fail
        rw[Tz]at this
        rw[this];exact hby
      fail:=hsub _ h.fail
      held:=λj hj=>by
        rcases(hlk j).1 (f2 j hj)with rfl|c
        · exact f4 hj
        · exact((h.held j c).up (hS1.trans f5) hsub)}
theorem JF.bad{S0 S:WS}{T0 T:Tr}{P zs:List Int}{l k:Int}(h:JF n S0 T0 P l (k::zs) S T){p:Pr}(hp:lk S.prs k=some p)(a:qm T l p=true):
 Pro n S0 T0 (oy S T l k p) (pA T l k p)∧nJ (oy S T l k p) P∧pA T l k p=T∧qP (oy S T l k p) T k:=by
 obtain⟨q,i,l0,s,hk⟩:=h.look;rw[hp]at i;cases i
 obtain⟨k0,r,g,b⟩:=h.wch.lits k p hp;unfold oy pA;unfold qm at a;cases c:mH T l p with
 |some x=>rw[c]at a;cases a
 |none=>
  rw[c]at a;simp only at a⊢;have f:=a;unfold mF at f;rw[RP]at f;have j:jI (lP (mE S k p) k) T k (pz p)=lP (mE S k p) k:=by unfold jI;rw[Rw (by omega)]
  have m:l3 T k (pz p)=T:=by unfold l3;rw[Rw (by omega)]
  rw[j,m];have o:=h.wch.toLate hp hk (aS ((lk S.late k).getD 0+1));have d:SameL S (lP (mE S k p) k):=SameL.pt (q:=⟨p.lits,0,0⟩) hp rfl _ _ _ _;have e:lk (lP (mE S k p) k).prs k=some (pz p):=dX;exact⟨⟨o,h.tok,h.same.trans d,h.grow,h.head,h.seen⟩,λy hy=>gV (gV (h.clr y hy)),rfl,k0.1,_,e,(DG (p:=pz p) h.tok.toTMk b).1 a⟩
theorem DI{S0:WS}{T0:Tr}{P:List Int}{l:Int}:∀{zs:List Int}{S:WS}{T:Tr},JF n S0 T0 P l zs S T->
 ((gU l zs S T).2.2=-1∧JF n S0 T0 P l [] (gU l zs S T).1 (gU l zs S T).2.1)∨(0<=(gU l zs S T).2.2∧Pro n S0 T0 (gU l zs S T).1 (gU l zs S T).2.1∧nJ (gU l zs S T).1 P∧(∀y∈P,y∈(gU l zs S T).2.1.lits)∧qP (gU l zs S T).1 (gU l zs S T).2.1 (gU l zs S T).2.2)
 |[],S,T,h=>.inl ⟨rfl,h⟩
 |k::zs,S,T,h=>by
  obtain⟨p,hp,_⟩:=h.look;rw[gU,hp];simp only;cases a:qm T l p
  .rw[Rw (by simp)];exact DI (h.step hp a)
  .rw[Rx rfl];obtain⟨b1,b2,b3,b4⟩:=h.bad hp a;exact .inr ⟨b4.1,b1,b2,λy hy=>by rw[b3];exact h.sub' y hy,by rw[b3];exact b4⟩
end
structure JC (n:Nat) (S0:WS) (T0:Tr) (S:WS) (T:Tr):Prop where
  wch:Wch n S
  tok:TOk n T
  same:SameL S0 S
  grow:Grow (CW S0) n T0 T
  seen:S.seen=S0.seen
  h0:0<=S.head
  h1:S.head<=T.lits.length
  clr:nJ S (T.lits.take S.head.toNat)
structure JP (n:Nat) (S0:WS) (T0:Tr) (S:WS) (T:Tr):Prop extends JC n S0 T0 S T where
  held:∀k∈S.late.map (·.1),mK S T k
section
variable {n : Nat} {S0 : WS} {T0 : Tr}
theorem CW.same{S S':WS}(h:SameL S S'){n:Nat}{T T':Tr}(g:Grow (CW S') n T T'):Grow (CW S) n T T':=g.mono λk c a=>(h.lits k c).1 a
theorem SameL.len{S S':WS}(h:SameL S S'):S'.prs.length=S.prs.length:=by
 have:=Ua List.length h.keys;simpa using this
theorem tC{l l':List Int}(h:l<+:l'){k:Nat}(hk:k<=l.length):l'.take k=l.take k:=by
 obtain⟨t,rfl⟩:=h;exact TB hk
theorem JP.neg{S:WS}{T:Tr}(h:JP n S0 T0 S T)(hd:S.head<T.lits.length):∃i:Nat,∃hi:i<T.lits.length,S.head=i∧dH T S=-T.lits[i]:=by
 have h0:=h.h0;refine⟨S.head.toNat,by omega,by omega,?_⟩;have hi:S.head.toNat<T.lits.length:=by omega
 unfold dH;rw[Rv,Ru hi,Sa];exact(bA h.tok.hn (h.tok.chk _ (Rz hi))).2.2.2.2.2.2.2
theorem JP.begin{S:WS}{T:Tr}(h:JP n S0 T0 S T){i:Nat}(hi:i<T.lits.length)(hh:S.head=i):JF n S T (T.lits.take i) (-T.lits[i]) (bF S.byl (-T.lits[i])) S T:=
  { wch := h.wch, tok := h.tok, same := SameL.refl _, grow := .refl, head := rfl, seen := rfl
    clr:=by have:=h.clr;rw[hh]at this;exact this
    sub':=λy hy=>Sl hy
    by':=rfl
    fail:=by rw[Tz];exact Rz hi
    held:=h.held}
theorem Lg(S:WS)(T:Tr)(l:Int):fQ S T l=gU l (bF S.byl l) S T:=by
 unfold fQ bF;cases lk S.byl l with
 |none=>rfl
 |some zs=>rfl
theorem IQ{S:WS}{i:Nat}(h:S.head=i)(hi:i<1000000):M5 S=⟨S.prs,S.byl,S.late,((i+1:Nat):Int),S.seen⟩:=by
 unfold M5;rw[h,ap (by omega) (by omega)];rfl
theorem JP.go{S:WS}{T:Tr}(h:JP n S0 T0 S T)(hd:S.head<T.lits.length):
    ((fQ S T (dH T S)).2.2=-1∧JP n S0 T0 (M5 (fQ S T (dH T S)).1) (fQ S T (dH T S)).2.1∧(fQ S T (dH T S)).1.head=S.head∧T.lits<+:(fQ S T (dH T S)).2.1.lits)∨
    (0<=(fQ S T (dH T S)).2.2∧JC n S0 T0 (fQ S T (dH T S)).1 (fQ S T (dH T S)).2.1∧qP (fQ S T (dH T S)).1 (fQ S T (dH T S)).2.1 (fQ S T (dH T S)).2.2):=by
  obtain⟨i,hi,hh,hn⟩:=h.neg hd
  have hfew:=h.tok.few
  have hn5:=h.tok.hn
  rw[hn,Lg]
  rcases DI (h.begin hi hh)with⟨r1,r2⟩|⟨r1,r2,r3,r4,r5⟩
  · left
    generalize gU (-T.lits[i]) (bF S.byl (-T.lits[i])) S T=R at*
    have hpre:=r2.grow.pre.1
    have hhd:R.1.head=i:=r2.head.trans hh
    rw[IQ hhd (by omega)]
    refine⟨r1,?_,r2.head,hpre⟩
    have hle:=hpre.length_le
    exact { wch := ⟨r2.wch.nd, r2.wch.lits, r2.wch.lnd, r2.wch.lpr, r2.wch.two, r2.wch.bnd, r2.wch.mem⟩
            tok:=r2.tok,same:=h.same.trans ⟨r2.same.keys,r2.same.lits⟩,grow:=h.grow.trans (CW.same h.same r2.grow),seen:=r2.seen.trans h.seen
            h0:=by show(0:Int)<=((i+1:Nat):Int);omega
            h1:=by show((i+1:Nat):Int)<=_;omega
            clr:=by
              show nJ _ (R.2.1.lits.take ((i+1:Nat):Int).toNat)
              rw[show((i+1:Nat):Int).toNat=i+1 by omega,tC hpre (by omega),Sp,Ru hi]
              intro y hy
              rcases RI.1 hy with hy|hy
              · exact r2.clr y hy
              · simp at hy;rw[hy];exact r2.by'
            held:=r2.held}
  · right
    generalize gU (-T.lits[i]) (bF S.byl (-T.lits[i])) S T=R at*
    have hpre:=r2.grow.pre.1
    have hle:=hpre.length_le
    refine⟨r1,?_,r5⟩
    have hhd:R.1.head=i:=r2.head.trans hh
    exact { wch := r2.wch, tok := r2.tok, same := h.same.trans r2.same, grow := h.grow.trans (CW.same h.same r2.grow), seen := r2.seen.trans h.seen
            h0:=by omega,h1:=by omega
            clr:=by rw[hhd,show(i:Int).toNat=i by omega,tC hpre (by omega)];exact r3}
theorem DJ:∀{m:Nat}{S:WS}{T:Tr},JP n S0 T0 S T->1000001<=S.head+m->
 ((lB m S T).2.2=-1∧JP n S0 T0 (lB m S T).1 (lB m S T).2.1∧(lB m S T).1.head=(lB m S T).2.1.lits.length)∨
 (0<=(lB m S T).2.2∧JC n S0 T0 (lB m S T).1 (lB m S T).2.1∧qP (lB m S T).1 (lB m S T).2.1 (lB m S T).2.2)
 |0,S,T,h,d=>by
  have:=h.h1;have:=h.tok.few;have:=h.tok.hn;omega
 |m+1,S,T,h,d=>by
  rw[lB]
  by_cases hd:S.head<T.lits.length
  .rw[Rx hd];rcases h.go hd with⟨a,b,r3,e⟩|⟨a,b,r3⟩
   .rw[Rw (by omega)];refine DJ b ?_;obtain⟨i,hi,c,_⟩:=h.neg hd;have:=h.tok.few;have:=h.tok.hn;rw[IQ (r3.trans c) (by omega)];show 1000001<=((i+1:Nat):Int)+m;omega
   .rw[Rx a];exact .inr ⟨a,b,r3⟩
  .rw[Rw hd];have:=h.h1;exact .inl ⟨rfl,h,by show S.head=T.lits.length;omega⟩
theorem JF.stepOk{P zs:List Int}{l k:Int}{S:WS}{T:Tr}(h:JF n S0 T0 P l (k::zs) S T)(f:S.prs.length<=1000000):∃p,StepOk S T l k p:=by
 obtain⟨p,hp,l0,c,hk⟩:=h.look;obtain⟨d,r,b,i,j⟩:=h.wch.pos hp hk;have a:∀m:Int,m≠0->(p.x=m∨p.y=m)->∃zs,lk S.byl m=some zs∧zs≠[]:=λm o g=>by
  obtain⟨zs,e,hz⟩:=h.wch.entry hp o g;exact⟨zs,e,λq=>by rw[q]at hz;cases hz⟩
 have:=h.tok.few;have:=h.tok.hn;refine⟨p,hp,l0,c,by have:=(h.wch.lits k p hp).2.2.1;omega,a l l0 c,λ_=>a _ d (.inl rfl),λ_=>?_,h.wch.hz f,h.tok.okT,by omega⟩;obtain⟨zs,e,hz⟩:=a _ r (.inr rfl);refine⟨zs,?_,hz⟩;unfold fE;rw[Rw d,bK,Rw b];exact e
theorem PO(f:S0.prs.length<=1000000):ProOk (JP n S0 T0)where
 ok:=λS T h=>by
  have:=h.tok.few;have:=h.tok.hn;exact⟨h.tok.okT,by omega,h.h0,h.h1⟩
 step:=λS T h hd zs b=>by
  obtain⟨i,hi,g,hn⟩:=h.neg hd;have a:S.prs.length<=1000000:=by rw[h.same.len];exact f
  refine⟨h.wch.hz a _ _ b,λj S' T'=>JF n S T (T.lits.take i) (dH T S) (zs.drop j) S' T',?_,λj S' T' hj c=>?_⟩
  .show JF n S T (T.lits.take i) (dH T S) zs S T;rw[←DF b,hn];exact h.begin hi g
  .have hj:JF n S T (T.lits.take i) (dH T S) (zs.drop j) S' T':=hj;rw[R8 c]at hj;obtain⟨p,d⟩:=hj.stepOk (by rw[hj.same.len];exact a);exact⟨p,d,λe=>hj.step d.hp e⟩
 len:=λS T h hd=>by
  have k:=h.tok.hn;rcases h.go hd with⟨_,r,_⟩|⟨_,r,_⟩
  .have:=r.tok.few;omega
  .have:=r.tok.few;omega
 next:=λS T h hd hk=>by
  rcases h.go hd with r|⟨r,_⟩
  .exact r
  .exact absurd r hk
end
structure WOk (n:Nat) (S:WS):Prop extends Wch n S where
  few:S.prs.length<=1000000
  h0:0<=S.head
  h1:S.head<=S.seen.length
  sl:S.seen.length<=1000000
  clr:nJ S (S.seen.take S.head.toNat)
structure PrpOk (n:Nat) (S:WS) (T:Tr) (R:WS×Tr×Int):Prop where
  ok:WOk n R.1
  tok:TOk n R.2.1
  same:SameL S R.1
  grow:Grow (CW S) n T R.2.1
  seen:R.1.seen=R.2.1.lits
  res:(R.2.2=-1∧∀k p,lk R.1.prs k=some p->(∃x∈p.lits,x∈R.2.1.lits)∨∃x y,x∈p.lits∧y∈p.lits∧x≠y∧-x∉R.2.1.lits∧-y∉R.2.1.lits)∨qP R.1 R.2.1 R.2.2
theorem DL:∀(a b:List Int),im a b<=a.length∧im a b<=b.length
 |[],_=>⟨RL _,RL _⟩
 |_::_,[]=>⟨RL _,RL _⟩
 |x::a,y::b=>by
  rw[im];have:=DL a b;simp only[R0];split<;>omega
theorem vI:∀(a b:List Int)(k:Nat),k<=im a b->a.take k=b.take k
 |a,b,0,_=>by simp
 |[],_,k+1,h=>by rw[im]at h;omega;intros;simp_all
 |_::_,[],k+1,h=>by rw[im]at h;omega;intros;simp_all
 |x::a,y::b,k+1,h=>by
  rw[im]at h;split at h
  .rename_i e;rw[U6,U6,e,vI a b k (by omega)]
  .omega
section
variable {n : Nat} {S : WS} {T : Tr}
theorem WOk.shr(h:WOk n S)(a:TOk n T):JC n (cz S T.lits) T (cz S T.lits) T:=by
 obtain⟨f,g⟩:=DL S.seen T.lits;have b:=h.h0;have e:(cz S T.lits).head=if(im S.seen T.lits:Int)<S.head then(im S.seen T.lits:Int)else S.head:=rfl;have a0:0<=(cz S T.lits).head:=by rw[e];split<;>omega
 have c:(cz S T.lits).head<=im S.seen T.lits:=by rw[e];split<;>omega
 have d:(cz S T.lits).head<=S.head:=by rw[e];split<;>omega
 refine{wch:=⟨h.nd,h.lits,h.lnd,h.lpr,h.two,h.bnd,h.mem⟩,tok:=a,same:=SameL.refl _,grow:=.refl,seen:=rfl,h0:=a0,h1:=by omega,clr:=?_};rw[←vI S.seen T.lits _ (by omega)];intro y hy;refine h.clr y ?_;have:S.seen.take (cz S T.lits).head.toNat<+:S.seen.take S.head.toNat:=List.take_prefix_take_left (by omega);exact this.subset hy
theorem WOk.jl(h:WOk n S)(hT:TOk n T):JL n (cz S T.lits) T (T.lits.take (cz S T.lits).head.toNat) (cK (S.late.map (·.1))) (cz S T.lits) T:=
  have hc:=h.shr hT
  { wch := hc.wch, tok := hT, same := SameL.refl _, grow := .refl, head := rfl, seen := rfl
    clr:=hc.clr
    sub':=λy hy=>Sl hy
    knd:=zJ h.lnd
    kin:=λk hk=>vC.1 hk
    all:=λk hk=>.inl (vC.2 hk)}
theorem Pro.jc{S0 S':WS}{T0 T':Tr}(h:Pro n S0 T0 S' T')(h0:0<=S0.head)(h1:S0.head<=T0.lits.length)(hc:nJ S' (T0.lits.take S0.head.toNat)):JC n S0 T0 S' T':=by
  have hpre:=h.grow.pre.1
  have hle:=hpre.length_le
  exact { wch := h.wch, tok := h.tok, same := h.same, grow := h.grow, seen := h.seen, h0 := by rw [h.head]; exact h0, h1 := by rw [h.head]; omega
          clr:=by rw[h.head,tC hpre (by omega)];exact hc}
theorem DM(h:WOk n S)(d:TOk n T):
 ((fR (cz S T.lits) T).2.2=-1∧JP n (cz S T.lits) T (fR (cz S T.lits) T).1 (fR (cz S T.lits) T).2.1)∨
 (0<=(fR (cz S T.lits) T).2.2∧JC n (cz S T.lits) T (fR (cz S T.lits) T).1 (fR (cz S T.lits) T).2.1∧qP (fR (cz S T.lits) T).1 (fR (cz S T.lits) T).2.1 (fR (cz S T.lits) T).2.2):=by
 have b:=h.shr d;have e:fR (cz S T.lits) T=g8 (cK (S.late.map (·.1))) (cz S T.lits) T:=rfl;rw[e];rcases DH (h.jl d)with⟨c,a⟩|⟨c,a,r3,g,f⟩
 .exact .inl ⟨c,{a.toPro.jc b.h0 b.h1 a.clr with held:=λk hk=>(a.all k hk).resolve_left (by simp)}⟩
 .exact .inr ⟨c,a.jc b.h0 b.h1 r3,f⟩
theorem JC.fin{S':WS}{T':Tr}{k:Int}(f:S.prs.length<=1000000)(h:JC n (cz S T.lits) T S' T')
 (i:(k=-1∧(∀k∈S'.late.map (·.1),mK S' T' k)∧S'.head=T'.lits.length)∨qP S' T' k):PrpOk n S T (⟨S'.prs,S'.byl,S'.late,S'.head,T'.lits⟩,T',k):=by
 have d:=h.tok.few;have hn:=h.tok.hn;have e:Wch n ⟨S'.prs,S'.byl,S'.late,S'.head,T'.lits⟩:=⟨h.wch.nd,h.wch.lits,h.wch.lnd,h.wch.lpr,h.wch.two,h.wch.bnd,h.wch.mem⟩;refine⟨{e with few:=by show S'.prs.length<=_;rw[h.same.len];exact f,h0:=h.h0,h1:=h.h1,sl:=by show T'.lits.length<=_;omega,clr:=h.clr},h.tok,⟨h.same.keys,h.same.lits⟩,h.grow,rfl,?_⟩;rcases i with⟨rfl,j,l⟩|⟨k0,p,hp,r⟩
 .refine .inl ⟨rfl,λk p hp=>?_⟩;have hp:lk S'.prs k=some p:=hp
  by_cases c:k∈S'.late.map (·.1)
  .exact .inl (j k c p hp)
  .obtain⟨b,m,a,hx,hy⟩:=h.wch.pos hp c;have key:∀x,x≠0->(p.x=x∨p.y=x)->-x∉T'.lits:=λx b hx g=>by
    have:=h.clr (-x) (by rw[l,show(T'.lits.length:Int).toNat=T'.lits.length by omega,RY];exact g);rw[Tz]at this;have hk:=(h.wch.mem x k).2 ⟨b,p,hp,hx⟩;rw[this]at hk;cases hk
   exact .inr ⟨p.x,p.y,hx,hy,a,key _ b (.inl rfl),key _ m (.inr rfl)⟩
 .exact .inr ⟨k0,p,hp,r⟩
theorem xw(h:WOk n S)(f:TOk n T):PrpOk n S T (dz S T):=by
 have i:=h.shr f;have b:io S T=if 0<=(fR (cz S T.lits) T).2.2 then fR (cz S T.lits) T else lB 1000001 (fR (cz S T.lits) T).1 (fR (cz S T.lits) T).2.1:=rfl;have hp:dz S T=(⟨(io S T).1.prs,(io S T).1.byl,(io S T).1.late,(io S T).1.head,(io S T).2.1.lits⟩,(io S T).2.1,(io S T).2.2):=rfl;rw[hp];rcases DM h f with⟨g,e⟩|⟨g,e,r3⟩
 .rw[Rw (by omega)]at b;have:=e.h0;rcases DJ (m:=1000001) e (by omega)with⟨d,a,c⟩|⟨d,a,c⟩
  .rw[←b]at d a c;exact a.toJC.fin h.few (.inl ⟨d,a.held,c⟩)
  .rw[←b]at d a c;exact a.fin h.few (.inr c)
 .rw[Rx g]at b;rw[b];exact e.fin h.few (.inr r3)
theorem IR(h:List (List SV))(bw ba bt:Nat)(mp:List (Int×Nat))(mb:List (Int×By))(A:Ar)(L:LayW h bw ba bt mp mb A T S)(b:WOk n S)(d:TOk n T):
 aB Tryz.prog 91 [.ptr bw 0] h (λr h'=>r=.pv (ae (dz S T).2.2)∧∃mb',LayW h' bw ba bt mp mb' A (dz S T).2.1 (dz S T).1∧Ext h h' (aU bw bt mp mb) (aU bw bt mp mb')):=by
 have f:=d.few;have hn:=d.hn;have hj:=b.jl d;have c:=DM b d;refine um h bw ba bt mp mb A T S L (by omega) b.sl (cK (S.late.map (·.1))) rfl (λi S' T'=>JL n (cz S T.lits) T (T.lits.take (cz S T.lits).head.toNat) ((cK (S.late.map (·.1))).drop i) S' T') (by rw[UJ];exact hj) ?_ ?_ ?_ ?_ ?_ (JP n (cz S T.lits) T) (PO b.few) ?_
 .intro q m;obtain⟨p,hp⟩:=b.lpr q.1 (Ty m);have:=(b.lits _ _ hp).1;exact BU (by omega) (by omega)
 .have g:S.late.map (·.1)⊆S.prs.map (·.1):=λk hk=>by
   obtain⟨p,hp⟩:=b.lpr k hk;exact qs hp
  have:=(cW _ _ b.lnd g);rw[RH,RH]at this;have:=b.few;omega
 .intro i S' T' a hi;have a:JL n (cz S T.lits) T (T.lits.take (cz S T.lits).head.toNat) ((cK (S.late.map (·.1))).drop i) S' T':=a;rw[R8 hi]at a;have l:S'.prs.length<=1000000:=by rw[a.same.len];exact b.few
  obtain⟨p,hp⟩:=a.wch.lpr _ (a.kin _ (RR ..));have:=a.tok.few;exact⟨a.tok.okT,by omega,a.wch.hz l,p,hp,by have:=(a.wch.lits _ _ hp).2.2.1;omega⟩
 .intro i S' T' p a hi hp j;have a:JL n (cz S T.lits) T (T.lits.take (cz S T.lits).head.toNat) ((cK (S.late.map (·.1))).drop i) S' T':=a;rw[R8 hi]at a;exact a.step hp j
 .rcases c with⟨_,r⟩|⟨_,r,_⟩
  .have:=r.tok.few;omega
  .have:=r.tok.few;omega
 .intro hk;rcases c with⟨e,o⟩|⟨e,_⟩
  .exact⟨e,o⟩
  .exact absurd e hk
end
structure UOk (n:Nat) (cs:List (List Int)):Prop where
  hn:n<=100000
  nd:∀c∈cs,c.Nodup
  len:∀c∈cs,c.length<=1000
  chk:∀c∈cs,∀y∈c,ax y n=0
def Cons(L:List Int):Prop:=∀y∈L,-y∉L
theorem Mc{n:Nat}(hn:n<=100000){y:Int}(hy:ax y n=0)(l:List Int):bJ l y=if y∈l then 1 else if-y∈l then-1 else 0:=by
 obtain⟨_,_,_,_,_,_,hx,a⟩:=bA hn hy;unfold bJ;rw[Rw (by omega),a]
theorem rD{n:Nat}(hn:n<=100000){y:Int}(hy:ax y n=0){l:List Int}:bJ l y=-1↔y∉l∧-y∈l:=by
 rw[Mc hn hy];split
 .simp_all
 .split<;>simp_all
theorem DN{n:Nat}(hn:n<=100000){y:Int}(hy:ax y n=0){l:List Int}:bJ l y=0↔y∉l∧-y∉l:=by
 rw[Mc hn hy];split
 .simp_all
 .split<;>simp_all
section
variable {n : Nat} {cs : List (List Int)} (h : UOk n cs)
include h
theorem UOk.unit{L c:List Int}(e:c∈cs)(g:(bD L c).2=true):(bD L c).1∈c∧(bD L c).1∉L∧-(bD L c).1∉L∧∀y∈c,y≠(bD L c).1->-y∈L:=by
 obtain⟨a,b,d⟩:=Dr (h.len c e) (λy hy=>(bA h.hn (h.chk c e y hy)).2.2.2.2.2.2.1) g;obtain⟨b1,b2⟩:=(DN h.hn (h.chk c e _ a)).1 b;exact⟨a,b1,b2,λy hy f=>((rD h.hn (h.chk c e y hy)).1 (d y hy f)).2⟩
theorem UOk.unit_of{L c:List Int}(f:Cons L)(a:c∈cs){x:Int}(hx:x∈c)(h1:x∉L)(d:-x∉L)(ho:∀y∈c,y≠x->-y∈L):bD L c=(x,true):=
 Go.AX.unit_of (h.len c a) (h.nd c a) hx (bA h.hn (h.chk c a x hx)).2.2.2.2.2.2.1 ((DN h.hn (h.chk c a x hx)).2 ⟨h1,d⟩)
  λy hy b=>(rD h.hn (h.chk c a y hy)).2 ⟨λe=>f y e (ho y hy b),ho y hy b⟩
theorem UOk.fail{L c:List Int}(b:Cons L)(a:c∈cs):pN L c=-1↔∀y∈c,-y∈L:=by
 rw[mB];constructor
 .exactλq y hy=>((rD h.hn (h.chk c a y hy)).1 (q y hy (bA h.hn (h.chk c a y hy)).2.2.2.2.2.2.1)).2
 .exactλq y hy _=>(rD h.hn (h.chk c a y hy)).2 ⟨λe=>b y e (q y hy),q y hy⟩
end
inductive Der (cs:List (List Int)) (L0:List Int):List Int->Prop
  |base:Der cs L0 L0
  |step {L c:List Int} {x:Int}:Der cs L0 L->c∈cs->x∈c->x∉L->-x∉L->(∀y∈c,y≠x->-y∈L)->Der cs L0 (L++[x])
section
variable {n : Nat} {cs : List (List Int)} {L0 L : List Int}
theorem IS(c:Cons L){x:Int}(d:x≠0)(b:-x∉L):Cons (L++[x]):=by
 intro y hy a;rcases RI.1 hy with hy|hy
 .rcases RI.1 a with a|a
  .exact c y hy a
  .simp at a;exact b (by rw[←a,Tz];exact hy)
 .simp at hy;subst hy;rcases RI.1 a with a|a
  .exact b a
  .simp at a;omega
theorem Der.facts(h:UOk n cs)(d:Der cs L0 L)(j:Cons L0)(k:L0.Nodup):Cons L∧L.Nodup∧∃xs,L=L0++xs∧∀x∈xs,x∈cs.flatten:=by
 induction d with
 |base=>exact⟨j,k,[],by simp,by simp⟩
 |@step L c x _ g hx h1 i ho q=>
  obtain⟨m,o,xs,i3,p⟩:=q;refine⟨IS m (bA h.hn (h.chk c g x hx)).1 i,?_,xs++[x],by rw[i3,R6],λy hy=>?_⟩
  .rw[Up];exact⟨o,by simp,λa l b f e=>by simp at f;subst f;subst e;exact h1 l⟩
  .rcases RI.1 hy with hy|hy
   .exact p y hy
   .simp at hy;subst hy;exact Vr.2 ⟨c,g,hx⟩
theorem Der.in_calm(h:UOk n cs)(d:Der cs L0 L){M:List Int}(i:Cons M)(hs:∀x∈L0,x∈M)(j:Calm cs M):∀x∈L,x∈M:=by
 induction d with
 |base=>exact hs
 |@step L c x _ a hx h1 f ho k=>
  intro y hy;rcases RI.1 hy with hy|hy
  .exact k y hy
  .simp at hy;subst hy;apply RW;intro hn;have b:∀z∈c,z≠y->-z∈M:=λz hz g=>k _ (ho z hz g)
   by_cases q:-y∈M
   .refine(j c a).2 ((h.fail i a).2 λz hz=>?_)
    by_cases e:z=y
    .rw[e];exact q
    .exact b z hz e
   .have:=h.unit_of i a hx hn q b;have f:=(j c a).1;rw[this]at f;cases f
theorem vJ(h:UOk n cs):∀(k:Nat)(L by':List Int),Der cs L0 L->Cons L0->L0.Nodup->
 ∃xs,(jT cs k L by').1=L++xs∧Der cs L0 (L++xs)∧(0<=(jT cs k L by').2.2->∃c∈cs,pN (L++xs) c=-1)∧((jT cs k L by').2.2<0->xs.length=k∨Calm cs (L++xs))
 |0,L,by',d,_,_=>⟨[],by simp[jT],by simpa using d,λh=>by simp[jT]at h,λ_=>.inl rfl⟩
 |k+1,L,by',d,r,s=>by
  rw[sL]
  by_cases c1:0<=ii cs L
  .rw[Rx c1];obtain⟨i,hi,f,o⟩:=Ds c1;exact⟨[],by simp,by simpa using d,λ_=>⟨_,Rz hi,by rw[SX];exact o⟩,λh=>by dsimp only at h;omega⟩
  rw[Rw c1]
  by_cases c2:(eP cs L).2.2=false
  .rw[Rx c2];exact⟨[],by simp,by simpa using d,λh=>by dsimp only at h;omega,λ_=>.inr (by rw[SX];exact KS (by omega) c2)⟩
  rw[Rw c2];have b:∃c∈cs,(bD L c).2=true∧(eP cs L).1=(bD L c).1:=by
   unfold eP at*;split at c2
   .rename_i i m;rw[SG]at m;obtain⟨h1,p,_⟩:=m;have e:cs.getD i []=cs[i]:=by rw[Rv,Ru h1];rfl
    dsimp only;rw[e];exact⟨_,Rz h1,p,rfl⟩
   .exact absurd rfl c2
  obtain⟨c,l,t,f⟩:=b;rw[f];obtain⟨u,v,w,y⟩:=h.unit l t;generalize(bD L c).1=x at*;obtain⟨xs,g,g2,g3,j⟩:=vJ h k (L++[x]) (by'++[(eP cs L).2.1]) (.step d l u v w y) r s;have a:L++[x]++xs=L++x::xs:=by simp
  rw[a]at g g2 g3 j;exact⟨x::xs,g,g2,g3,λq=>(j q).imp (λe=>by simp[e]) id⟩
theorem IT(h:UOk n cs)(d:Cons L0)(f:L0.Nodup):Der cs L0 (eQ cs L0).1∧(0<=(eQ cs L0).2.2->∃c∈cs,pN (eQ cs L0).1 c=-1)∧((eQ cs L0).2.2<0->Calm cs (eQ cs L0).1):=by
 obtain⟨xs,j,g2,g3,k⟩:=vJ h (qM cs+1) L0 [] .base d f;have e:eQ cs L0=jT cs (qM cs+1) L0 []:=rfl;rw[e,j];refine⟨g2,g3,λq=>(k q).resolve_left λhk=>?_⟩;obtain⟨_,b,ys,g,i⟩:=g2.facts h d f;have hx:ys=xs:=(List.append_cancel_left g).symm;subst hx;have a:ys.Nodup:=by rw[Up]at b;exact b.2.1
 have:=(cW _ _ a i);rw[BF]at hk;omega
theorem IU(h:UOk n cs)(k:Cons L0)(l:L0.Nodup){M:List Int}(d:Der cs L0 M)(f:Calm cs M∨∃c∈cs,pN M c=-1):
 (0<=(eQ cs L0).2.2↔∃c∈cs,pN M c=-1)∧(Calm cs M->(eQ cs L0).2.2<0∧M.length=(eQ cs L0).1.length∧∀x∈M,x∈(eQ cs L0).1):=by
 obtain⟨o,B,p⟩:=IT h k l;obtain⟨i,v,xs,w,D⟩:=d.facts h k l;obtain⟨j,z,ys,A,E⟩:=o.facts h k l;have s:∀x∈L0,x∈M:=λx hx=>by rw[w];exact SJ _ hx
 have t:∀x∈L0,x∈(eQ cs L0).1:=λx hx=>by rw[A];exact SJ _ hx
 have e:∀{M:List Int},Calm cs M->¬∃c∈cs,pN M c=-1:=λb ⟨c,h1,u⟩=>(b c h1).2 u;have key:Calm cs M->(eQ cs L0).2.2<0:=λb=>by
  apply RW;intro hn;obtain⟨c,a,m⟩:=B (by omega);refine(b c a).2 ((h.fail i a).2 λy hy=>o.in_calm h i s b _ ((h.fail j a).1 m y hy))
 refine⟨⟨λq=>?_,λ⟨c,a,m⟩=>?_⟩,λb=>?_⟩
 .rcases f with f|f
  .have:=key f;omega
  .exact f
 .apply RW;intro hn;have g:=p (by omega);exact(g c a).2 ((h.fail j a).2 λy hy=>d.in_calm h j t g _ ((h.fail i a).1 m y hy))
 .have hk:=key b;have g:=p hk;have r:=d.in_calm h j t g;have C:=o.in_calm h i s b;exact⟨hk,VE (cW _ _ v r) (cW _ _ z C),r⟩
end
def zL(cs:List (List Int))(l:List Int):Bool:=!(eP cs l).2.2&&decide (ii cs l<0)
theorem IV{cs:List (List Int)}{l:List Int}(h:Calm cs l):zL cs l=true:=by
 unfold zL;rw[RG];constructor
 .unfold eP;split
  .rename_i i b;rw[SG]at b;obtain⟨h1,a,_⟩:=b;have:=(h _ (Rz h1)).1;rw[this]at a;cases a
  .rfl
 .rw[RP];apply RW;intro hn;obtain⟨i,hi,_,e⟩:=Ds (show 0<=ii cs l by omega);exact(h _ (Rz hi)).2 e
theorem Ca(cs:List (List Int))(l:List Int)(b:l.length<=1000000)(a:fewC cs):am Tryz.prog 109 [.seq false 1 (cs.map ao),.seq false 1 (aa l)] (λr=>r=.pv (BL (zL cs l))):=by
 refine aq aE Tryz.func109 ?_;have c:=sK cs l b a;have d:=qL cs l b a;unfold zL;simp;refine ai.intro c ?_;simp;refine aP.intro (λ_=>d) ?_;simp
end Go.AX
namespace Go.AX
set_option maxRecDepth 16000
open Go.Proofs
set_option linter.unusedSimpArgs false
def ed(T:Tr)(v:Int):Tr:=if(if v<0 then 0 else v)<(T.beg.length:Int)then bz T (if v<0 then(0:Int)else v).toNat else T
theorem TOk.bak{n:Nat}{T:Tr}(h:TOk n T)(v:Int):TOk n (ed T v):=by
 unfold ed;obtain⟨m,a⟩:∃m:Int,(if v<0 then(0:Int)else v)=m:=⟨_,rfl⟩;have b:0<=m:=by rw[←a];split<;>omega
 rw[a]
 by_cases c:m<(T.beg.length:Int)
 .rw[Rx c];exact(h.back (by omega)).1
 .rw[Rw c];exact h
theorem IW(h:List (List SV))(b:Nat)(T:Tr)(g:h[b]?=some (gr T))(v:Int)(j:¬(if v<0 then 0 else v)<(T.beg.length:Int)):
 aB Tryz.prog 131 [.ptr b 0,ae v] h (λr h'=>h'=h∧r=.pv (.seq true 1 (aa []))):=by
 refine dQ [] [.tmp 4] aE Tryz.func131 ?_;obtain⟨d,e⟩:=Rt.1 g;have c:=mz T;have a:∀n,bG h (n+1) b 0=bM T:=λn=>cH g n;simp only[bM]at c a;obtain⟨m,i⟩:∃m:Int,(if v<0 then(0:Int)else v)=m:=⟨_,rfl⟩;rw[i]at j;have f:(T.beg.length:Int)<=m:=by omega
 simp[i];refine aj.introP (r:=.pv (BL true)) (by simpa[a]using c) ?_ (by simp[d]) (by simp);simp[e,d,gr,f,aa,bu,bd]
theorem IX(h:List (List SV))(b:Nat)(T:Tr)(F:h[b]?=some (gr T))(v:Int)(k:Nat)(K:(if v<0 then(0:Int)else v)=k)(hk:k<T.beg.length)(h0:0<=T.beg.getD k 0∧T.beg.getD k 0<=T.lits.length)(hs:T.lits.length<=1000000)(Q:∀y∈T.lits,0<=af y∧af y<T.marks.length):
 aB Tryz.prog 131 [.ptr b 0,ae v] h (λr h'=>h'=h.set b (gr (bz T k))∧r=.pv (.seq true 1 (aa (tz T (T.lits.length -(T.beg.getD k 0).toNat))))):=by
 refine iH [] [.tmp 4] (h.set b (gr (bz T k))) (by simp) (λD=>by rw[R5];exact dN (iI _ _) b D) aE Tryz.func131 ?_;obtain⟨a,G⟩:=Rt.1 F;have x:T.beg.getD k 0=T.beg[k]:=by rw[Rv,Ru hk];rfl
 rw[x]at h0⊢;obtain⟨m,C⟩:∃m:Nat,T.beg[k]=(m:Int):=⟨T.beg[k].toNat,by omega⟩;have M:bz T k=⟨(popN T (T.lits.length -m)).marks,(popN T (T.lits.length -m)).lits,T.beg.take k⟩:=by unfold bz;rw[x,C];rfl
 rw[M,C,SF];rw[C]at h0;clear M;have B:=mz T;have A:∀n,bG h (n+1) b 0=bM T:=λn=>cH F n;simp only[bM]at B A;simp[K];refine aj.introP (r:=.pv (BL true)) (by simpa[A]using B) ?_ (by simp[a]) (by simp);simp[G,a,gr,hk];refine aj.intro (FC h b) ?_;rintro _ _ ⟨rfl,rfl⟩;have E:h.set b (gr T)=h:=dh F;simp;refine aw.intro (S:=λ(j:Nat)=>⟨[(0,.pv (.ptr b 0)),(1,.pv (ae k)),(5,.pv (.fn (.func 265) [] [.ptr h.length 0])),(6,.own true 1 (aa (tz T j)))],h.set b (gr (popN T j))++[[.pv (.ptr b 0)]]⟩) (λj=>j<=T.lits.length -m) (λj=>T.lits.length -j) 0 ?_ (RL _) ?_
 .rw[popN,E];exact(ah.nilOwn (s:=6) 1 true (by simp)).trans (ah.keep (by simp[tz,aa]) rfl)
 intro j hj;have u:(popN T j).lits.length=T.lits.length -j:=by rw[d9,RD];omega
 have g:=tx T j;have w:∀y∈(popN T j).lits,0<=af y∧af y<(popN T j).marks.length:=λy hy=>by
  rw[d9]at hy;rw[DE];exact Q y (Sl hy)
 have t:popN T (j+1)=lC (popN T j):=rfl;have q:tz T (j+1)=tz T j++[(popN T j).lits.getD ((popN T j).lits.length -1) 0]:=rfl;have P:=tA T j;have d:=λ(h:List (List SV)) (n b:Nat) h1 N O=>B9 h n b (popN T j) h1 N O (by omega) w;have l:∀(Y z:List SV) D,(h.set b Y++[z])[b]'D=Y:=λY z D=>by rw[Su (by simpa using a)];simp
 have o:∀(Y z:List SV),(h.set b Y++[z])[b]?=some Y:=λY z=>by rw[RB (by simpa using a)];simp[a]
 have p:∀(Y z W:List SV),(h.set b Y++[z]).set b W=h.set b W++[z]:=λY z W=>by rw[wP (by simpa using a),UO]
 have f:b<h.length+1:=by omega
 by_cases c:m<T.lits.length -j
 .have L:(popN T j).lits≠[]:=λe=>by rw[e]at u;simp at u;omega
  have i:(m:Int)<((popN T j).lits.length:Int):=by omega
  have d:=d (h.set b (gr (popN T j))++[[.pv (.ptr b 0)]]) h.length b (by rw[RV (by simp)];simp) (o _ _) L;rw[p]at d;generalize popN T j=X at*;simp only[gr,g]at d;simp[l,f,gr,g,hk,C,i];refine aj.intro d ?_;rintro _ _ ⟨rfl,rfl⟩;simp;refine⟨by omega,j+1,by(try dsimp only);omega,by(try dsimp only);omega,ah.keep (by simp[q,aa]) (by simp[t])⟩
 .have i:¬(m:Int)<((popN T j).lits.length:Int):=by omega
  have I:j=T.lits.length -m:=by omega
  subst I;have H:(aa T.beg).take k=aa (T.beg.take k):=by unfold aa;rw[TG]
  have J:k<=T.beg.length:=by omega
  clear d w t q;generalize popN T (T.lits.length -m)=X at*;simp[l,p,f,gr,g,hk,C,i,H,J]
end Go.AX
namespace Go.AX
open Go.Proofs
set_option linter.unusedSimpArgs false
def fj(b:Bool):Int:=if b=true then 1 else 0
def du(A:Ar)(id:Int)(lits:List Int)(b:Bool):Ar:=if jr id lits=0 then⟨A.row++([id,(lits.length:Int),fj b]++lits),pt A.hd A.row.length id⟩else A
set_option maxRecDepth 8000 in
theorem IY(h:List (List SV))(b:Nat)(A:Ar)(g:h[b]?=some (mA A))(id:Int)(lits:List Int)(ln:Bool)(k:lits.length<=1000000)(l:A.row.length<=1000000000):
 aB Tryz.prog 127 [.ptr b 0,ae id,.seq false 1 (aa lits),BL ln] h (λr h'=>h'=h.set b (mA (du A id lits ln))∧r=.pv (.tup [ae (if jr id lits=0 then A.row.length else 0),ae (jr id lits)])):=by
 refine iH [] [.tmp 8,.tmp 9] (h.set b (mA (du A id lits ln))) (by simp) (λi=>by rw[R5];exact dN (Bw _ _) b i) aE Tryz.func127 ?_;obtain⟨f,e⟩:=Rt.1 g;have d:jr id lits=if id<1∨10000000<id then 2 else fp lits 100000:=rfl;have c:du A id lits ln=if jr id lits=0 then⟨A.row++([id,(lits.length:Int),fj ln]++lits),pt A.hd A.row.length id⟩else A:=rfl;have a:h.set b (mA A)=h:=dh g;generalize du A id lits ln=j at c⊢;generalize jr id lits=E at d c⊢;simp;refine aj.intro (sJ h b A g) ?_;rintro _ _ ⟨rfl,rfl⟩
 by_cases c1:id<1
 .rw[Rx (.inl c1)]at d;subst d;rw[Rw (by omega)]at c;subst c;simp[c1,a]
 by_cases c2:10000000<id
 .rw[Rx (.inr c2)]at d;subst d;rw[Rw (by omega)]at c;subst c;simp[c1,c2,a]
 rw[Rw (by omega)]at d;simp[c1,c2];refine ai.intro (sH lits 100000 (by omega)) ?_;rw[←d]
 by_cases c3:E=0
 rotate_left
 .rw[Rw c3]at c;subst c;simp[c3,a]
 rw[Rx c3]at c;subst c;cases ln
 .simp[c3,e,f,mA,fj];refine⟨by omega,by omega,?_⟩;rw[SA (by simp)];simp[aa]
 .simp[c3,e,f,mA,fj];refine⟨by omega,by omega,?_⟩;rw[SA (by simp)];simp[aa]
def M7(A:Ar)(k:Int):Int:=if(lk A.hd k).getD 0=0 then 20 else 0
def PP(A:Ar)(k:Int):Ar:=if M7 A k=0 then⟨A.row.set (k.toNat+2) 2,dl A.hd k⟩else A
def pF(A:Ar)(k:Int):Bool:=isA A k&&decide (A.row.getD (k.toNat+2) 0=1)
theorem Cb(h:List (List SV))(b:Nat)(A:Ar)(e:h[b]?=some (mA A))(k:Int)(hk:isA A k=true->0<=k∧k+2<A.row.length)(i:A.row.length<=1000000000):
 aB Tryz.prog 193 [.ptr b 0,ae k] h (λr h'=>h'=h∧r=.pv (BL (pF A k))):=by
 refine fC [] [.tmp 4] aE Tryz.func193 ?_;obtain⟨d,a⟩:=Rt.1 e;unfold pF;simp;refine aj.intro (Bx h b A e k) ?_;rintro _ _ ⟨rfl,rfl⟩;cases c:isA A k
 .simp[c]
 .obtain⟨k0,j⟩:=hk c;obtain⟨p,rfl⟩:∃p:Nat,k=p:=⟨k.toNat,by omega⟩;have g:aS ((p:Int)+2)=((p+2:Nat):Int):=by rw[ap (by omega) (by omega)];omega
  have hp:p+2<A.row.length:=by omega
  have f:((p:Int)+2).toNat=p+2:=by omega
  have g2:A.row[p+2]?=some A.row[p+2]:=Ru hp;simp[c,a,d,mA,g,hp,f,g2];omega
def IZ(v:Int)(b:Bool):Int:=if v<1∨cE v=false then 0 else if b=true then v else-v
def PQ(v:Int):Int:=if v<1∨cE v=false then 10 else 0
theorem I0(v:Int)(b:Bool):am Tryz.prog 102 [ae v,BL b] (λr=>r=.pv (.tup [ae (IZ v b),ae (PQ v)])):=by
 refine mq [] [.tmp 4,.tmp 5] aE Tryz.func102 ?_;have c:=sB v;unfold IZ PQ
 by_cases c1:v<1
 .simp[c1];refine aP.intro (r:=.pv (BL true)) (λh=>h.elim) ?_;simp[c1]
 .simp[c1];refine aP.intro (λ_=>c) ?_;cases c2:cE v
  .simp[c1,c2]
  .obtain⟨h1,d,e⟩:=(aY v).1 c2;have a:aS (-v)=-v:=ap (by omega) (by omega);cases b<;>simp[c1,c2,a]
end Go.AX
namespace Go.AX.V
open Go.Proofs
set_option linter.unusedSimpArgs false
theorem litO{y:Int}(h:cE y=true):y≠0∧-100000<=y∧y<=100000∧0<=aW y∧aS (-y)=-y:=by
 obtain⟨a,b,c⟩:=(aY y).1 h;exact⟨a,b,c,by rw[ll];exact h,ap (by omega) (by omega)⟩
theorem pH{l:Int}(h:cE l=true):1<=af l∧af l<=100000∧l≠0∧-100000<=l∧l<=100000∧af l=dg l:=by
 obtain⟨a,b,c⟩:=(aY l).1 h;have e:af l=dg l:=by unfold af;rw[Rx h]
 refine⟨?_,?_,a,b,c,e⟩<;>rw[e]<;>unfold dg<;>split<;>omega
theorem tI{l:Int}(h:cE l=true):cE (-l)=true:=by
 obtain⟨a,b,c⟩:=(aY l).1 h;exact(aY _).2 ⟨by omega,by omega,by omega⟩
theorem PR{y:Int}(h:cE y=true):cE y=true:=h
theorem okL_chk{l v:Int}(d:0<=v∧v<=100000)(h:ax l v=0):cE l=true:=by
 obtain⟨a,b,c⟩:=(dt d).1 h;exact(aY _).2 ⟨a,by omega,by omega⟩
structure RelT (T:Tr) (t:RT):Prop where
  vars:0<=t.vars∧t.vars<=100000
  len:(T.marks.length:Int)=t.vars+1
  lits:T.lits=t.rows.map (·.l)
  dep:t.dep=(T.beg.length:Int)
  chk:∀x∈t.rows,ax x.l t.vars=0
  ok:∀x∈t.rows,cE x.l=true∧0<=x.lev∧x.lev<=t.dep
  free:∀v:Int,p9 t v<0->(bI T v).v=0
  mark:∀(v:Int)(i:Nat)(hi:i<t.rows.length),p9 t v=(i:Int)->bI T v=⟨if t.rows[i].l<0 then-1 else 1,t.rows[i].lev,t.rows[i].rea,i⟩
theorem RelT.okT{T:Tr}{t:RT}(h:RelT T t):T.ok:=by
 have:=h.vars;have:=h.len;exact⟨by omega,by omega⟩
def RelD(T:Tr)(t:RT):Prop:=RelT T t∧T.beg.length<=t.rows.length
theorem xA{T:Tr}{t:RT}(h:RelT T t)(v:Int):(dE T v).1.lev=(Ps t v).1∧(dE T v).1.rea=(Ps t v).2∧(dE T v).1.pla=p9 t v:=by
 unfold dE Ps;have g:=h.len;have j:=h.vars
 by_cases c:p9 t v<0
 .rw[Rx c,Rx]
  .refine⟨rfl,rfl,?_⟩;have:p9 t v=-1:=by
    unfold p9 i7 at*;split at c
    .omega
    .rfl
   rw[this]
  .exact .inr (.inr (h.free v c))
 .obtain⟨i,hi,d,f⟩:=lj (t:=t) (v:=v) (by omega);obtain⟨a,_⟩:=pH (h.ok _ (Rz hi)).1;have b:=(o5 h.vars (h.chk _ (Rz hi))).2.1;have e:=h.mark v i hi d;rw[Rw c,Rw,e,d]
  .simp[hi]
  .rw[e];simp only;have:(if t.rows[i].l<0 then(-1:Int)else 1)≠0:=by split<;>omega
   simp[this];omega
theorem Jj{D:DK}(h:RelT D.T D.t){l:Int}{i:Nat}(hi:i<D.t.rows.length)(e:D.t.rows[i].l=l∨D.t.rows[i].l=-l):ax l D.t.vars=0:=by
 have a:=(dt h.vars).1 (h.chk _ (Rz hi));exact(dt h.vars).2 (by rcases e with e|e<;>omega)
theorem rH{D:DK}(h:RelT D.T D.t){l:Int}(k:cE l=true){i:Nat}(hi:i<D.t.rows.length)(hp:p9 D.t (af l)=i):(D.t.rows[i].l=-l∧cr D.T l=-1)∨(D.t.rows[i].l=l∧cr D.T l=1):=by
 have c:((D.T.marks.length:Nat):Int) -1=D.t.vars:=by rw[h.len];omega
 have f:=h.mark _ i hi hp;obtain⟨j,hj,q,a⟩:=lj (t:=D.t) (v:=af l) (by omega);have d:j=i:=by omega
 subst d;obtain⟨_,_,r,_,_,m⟩:=pH (h.ok _ (Rz hi)).1;obtain⟨_,_,l0,_,_,n⟩:=pH k;rw[m,n]at a;have hs:D.t.rows[j].l=l∨D.t.rows[j].l=-l:=by unfold dg at a;split at a<;>split at a<;>omega
 unfold cr;rw[c,f,Rw (λe=>e (Jj h hi hs))];unfold dg at a;dsimp only;have o:aS (-1)=-1:=by decide
 have p:aS (- -1)=1:=by decide
 by_cases g:l<0
 .rw[Rx g]at a⊢
  by_cases b:D.t.rows[j].l<0
  .rw[Rx b]at a⊢;rw[p];exact .inr ⟨by omega,rfl⟩
  .rw[Rw b]at a⊢;rw[o];exact .inl ⟨by omega,rfl⟩
 .rw[Rw g]at a⊢
  by_cases b:D.t.rows[j].l<0
  .rw[Rx b]at a⊢;exact .inl ⟨by omega,rfl⟩
  .rw[Rw b]at a⊢;exact .inr ⟨by omega,rfl⟩
theorem vP{D:DK}(h:RelT D.T D.t){l:Int}(a:cr D.T l≠0):cE l=true∧∃i,∃hi:i<D.t.rows.length,p9 D.t (af l)=i:=by
 have b:((D.T.marks.length:Nat):Int) -1=D.t.vars:=by rw[h.len];omega
 unfold cr at a;rw[b]at a
 by_cases c:ax l D.t.vars=0
 .refine⟨okL_chk h.vars c,?_⟩;rw[Rw (λe=>e c)]at a
  by_cases d:0<=p9 D.t (af l)
  .obtain⟨i,hi,e,_⟩:=lj d;exact⟨i,hi,e⟩
  .rw[h.free _ (by omega)]at a;have f:aS (-0)=0:=by decide
   split at a
   .exact absurd f a
   .exact absurd rfl a
 .rw[Rx c]at a;exact absurd rfl a
def DkR(D:DK):Prop:=∀i (hi:i<D.t.rows.length),D.t.rows[i].rea<0∨(isA D.A D.t.rows[i].rea=true∧D.t.rows[i].l∈av D.A D.t.rows[i].rea∧∀y∈av D.A D.t.rows[i].rea,cE y=true∧(y≠D.t.rows[i].l->aS (-y)∈(D.t.rows.take i).map (·.l)))
structure DeskOk (D:DK):Prop where
  rel:RelD D.T D.t
  relA:RelA D.A D.a
  rea:DkR D
  len:D.A.row.length<=1000000
theorem Jk{D:DK}(h:RelT D.T D.t){v:Int}(a:0<=(dE D.T v).1.rea):∃i,∃hi:i<D.t.rows.length,p9 D.t v=i∧af D.t.rows[i].l=v∧(dE D.T v).1.rea=D.t.rows[i].rea∧(dE D.T v).1.pla=i:=by
 obtain⟨_,d,e⟩:=xA h v;rw[d]at a⊢;unfold Ps at a⊢
 by_cases c:p9 D.t v<0
 .rw[Rx c]at a;dsimp only at a;omega
 .obtain⟨i,hi,b,f⟩:=lj (t:=D.t) (v:=v) (by omega);refine⟨i,hi,b,f,?_,by rw[e,b]⟩;rw[Rw c,b,SF,Rv,Ru hi];rfl
theorem DeskOk.sh{D:DK}(h:DeskOk D){c:List Int}(d:c.length<=1000000):ShOk D.A D.T c where
 tr:=h.rel.1.okT
 ar:=λq f=>by
  obtain⟨x,hx,e⟩:=h.relA.is q f;obtain⟨p,a,b,_⟩:=h.relA.rows x hx;exact⟨p,_,by rw[←e,a],b⟩
 len:=h.len
 few:=d
 hd:=λv g=>by
  obtain⟨i,hi,_,_,e,_⟩:=Jk h.rel.1 g;rcases h.rea i hi with h1|⟨h1,_⟩
  .omega
  .exact HL h1
theorem M8{D:DK}(h:DeskOk D){l:Int}(a:pi D.A D.T l=true):∃i,∃hi:i<D.t.rows.length,cF D.T l=i∧D.t.rows[i].l=aS (-l)∧cE l=true∧(dE D.T (af l)).1.rea=D.t.rows[i].rea∧0<=D.t.rows[i].rea:=by
 unfold pi at a;simp only[Sk,T5,S5]at a;obtain⟨⟨b1,b2⟩,_⟩:=a;obtain⟨i,hi,c,g,d,f⟩:=Jk h.rel.1 (v:=af l) (by omega);obtain⟨b,_⟩:=vP h.rel.1 (l:=l) (by omega);refine⟨i,hi,f,?_,b,d,by omega⟩;rw[(litO b).2.2.2.2];rcases rH h.rel.1 b hi c with⟨e,_⟩|⟨_,e⟩
 .exact e
 .omega
theorem val3_m1_of{l:List Int}{y:Int}(hy:cE y=true)(h:-y∈l)(a:y∉l):bJ l y=-1:=by
 obtain⟨_,_,_,hx,b⟩:=litO hy;unfold bJ;rw[Rw (by omega),Rw a,Rx (by rw[b];exact h)]
structure TraF (cs:List (List Int)) (ats:List Int) (t:RT):Prop where
  dep:0<=t.dep
  chk:∀x∈t.rows,cE x.l=true
  nd:(t.rows.map λx=>af x.l).Nodup
  lev:∀x∈t.rows,0<=x.lev∧x.lev<=t.dep
  mono:∀i j (hi:i<t.rows.length)(hj:j<t.rows.length),i<j->t.rows[i].lev<=t.rows[j].lev
  dec:∀i (hi:i<t.rows.length),t.rows[i].rea<0->0<t.rows[i].lev∧∀j (hj:j<t.rows.length),j<i->t.rows[j].lev<t.rows[i].lev
  top:0<t.dep->Calm cs (bel t t.dep)
  fst:∀k:Int,0<k->k<=t.dep->∃x∈t.rows,x.lev=k∧x.rea<0
  imp:∀i (hi:i<t.rows.length),0<=t.rows[i].rea->∃k,∃hk:k<cs.length,t.rows[i].rea=ats.getD k 0∧t.rows[i].l∈cs[k]∧(∀y∈cs[k],y≠t.rows[i].l->∃j,∃hj:j<t.rows.length,j<i∧t.rows[j].l=-y)∧
    (0<t.rows[i].lev->∃y∈cs[k],y≠t.rows[i].l∧∃j,∃hj:j<t.rows.length,j<i∧t.rows[j].l=-y∧t.rows[j].lev=t.rows[i].lev)
theorem TraF.inj{cs:List (List Int)}{ats:List Int}{t:RT}(h:TraF cs ats t){i j:Nat}(hi:i<t.rows.length)(hj:j<t.rows.length)(e:af t.rows[i].l=af t.rows[j].l):i=j:=by
 have hn:=R9.1 (Tj.1 h.nd);rcases TM i j with c|c|c
 .exact absurd e (hn i j hi hj c)
 .exact c
 .exact absurd e.symm (hn j i hj hi c)
theorem TraF.one{cs:List (List Int)}{ats:List Int}{t:RT}(h:TraF cs ats t){y:Int}(hy:cE y=true):¬(y∈dO t∧-y∈dO t):=by
 rintro⟨h1,d⟩;unfold dO at h1 d;obtain⟨a,g,e⟩:=RE.1 h1;obtain⟨b,k,f⟩:=RE.1 d;obtain⟨i,hi,rfl⟩:=RJ g;obtain⟨j,hj,rfl⟩:=RJ k;have m:af t.rows[i].l=af t.rows[j].l:=by rw[e,f,dG]
 have c:i=j:=h.inj hi hj m;subst c;obtain⟨n0,_⟩:=litO hy;omega
structure ClsN (cs:List (List Int)) (ats:List Int):Prop where
  len:∀c∈cs,c.length<=1000
  chk:∀c∈cs,∀y∈c,cE y=true
  pos:∀k,k<cs.length->0<=ats.getD k 0
  nd:∀c∈cs,c.Nodup
theorem Jl{cs:List (List Int)}{ats:List Int}(o:ClsN cs ats){t:RT}(h:TraF cs ats t){c:List Int}(m:c∈cs)(k:pN (dO t) c=-1)(hd:0<t.dep):∃y∈c,∃x∈t.rows,x.l=-y∧x.lev=t.dep:=by
 apply RW;intro j;have b:=(h.top hd _ m).2;apply b;rw[mB]at k⊢;intro y hy hx;have d:=o.chk _ m y hy;have:=w8 (k y hy hx);rw[(litO d).2.2.2.2]at this;unfold dO at this;obtain⟨a,g,e⟩:=RE.1 this;have p:=(h.lev _ g).2;have i:a.lev<t.dep:=by
  rcases Vb a.lev t.dep with c|c
  .exact c
  .exact absurd ⟨y,hy,a,g,e,by omega⟩ j
 have f:-y∈bel t t.dep:=by
  unfold bel;rw[RE];exact⟨a,Ss.2 ⟨g,by simpa using i⟩,e⟩
 exact val3_m1_of d f (λn=>h.one d ⟨jt _ n,jt _ f⟩)
structure DeskT (cs:List (List Int)) (ats:List Int) (D:DK):Prop where
  ok:DeskOk D
  cls:ClsN cs ats
  facts:TraF cs ats D.t
  ars:∀k (hk:k<cs.length),isA D.A (ats.getD k 0)=true∧av D.A (ats.getD k 0)=cs[k]
theorem TraF.pla{cs:List (List Int)}{ats:List Int}{t:RT}(h:TraF cs ats t){j:Nat}(hj:j<t.rows.length):p9 t (af t.rows[j].l)=j:=by
 have h1:=ry (p:=λx:En=>decide (af x.l=af t.rows[j].l)) hj (by simp);obtain⟨i,hi,a,b⟩:=lj (t:=t) (v:=af t.rows[j].l) h1.1;have:=h.inj hi hj b;subst this;exact a
theorem nK{cs:List (List Int)}{ats:List Int}{T:Tr}{t:RT}(d:RelT T t)(h:TraF cs ats t){j:Nat}(hj:j<t.rows.length):(dE T (af t.rows[j].l)).1.lev=t.rows[j].lev∧(dE T (af t.rows[j].l)).1.rea=t.rows[j].rea∧(dE T (af t.rows[j].l)).1.pla=j:=by
 obtain⟨a,b,c⟩:=xA d (af t.rows[j].l);have hp:=h.pla hj;rw[a,b,c];unfold Ps;rw[hp,Rw (by omega),SF,Rv,Ru hj];exact⟨rfl,rfl,rfl⟩
theorem oB{cs:List (List Int)}{ats:List Int}{T:Tr}{t:RT}(a:RelT T t)(h:TraF cs ats t){j:Nat}(hj:j<t.rows.length){y:Int}(hy:t.rows[j].l=-y):dL T y=t.rows[j].lev:=by
 unfold dL;rw[qc hj hy];exact(nK a h hj).1
theorem Lo{cs:List (List Int)}{ats:List Int}{T:Tr}{t:RT}(r:RelT T t)(k:TraF cs ats t){p:PS}{n:Nat}(h:LI t p n){y:Int}{j:Nat}(hj:j<t.rows.length)(hy:t.rows[j].l=-y)
 (hn:t.rows[j].lev=t.dep->j<n∨t.rows[j].rea<0) (but:Int):
 LI t (takeF T but p y) n∧(af y=but∨t.rows[j].lev<=0∨aC (takeF T but p y).seen (af y)=true)∧(∀v,aC p.seen v=true->aC (takeF T but p y).seen v=true)∧p.many<=(takeF T but p y).many:=by
 have u:=oB r k hj hy;have d:=qc hj hy;have hd:=r.dep;unfold takeF
 by_cases c:af y=but∨aC p.seen (af y)=true∨dL T y<=0
 .rw[Rx c];refine⟨h,?_,λv d=>d,Ry _⟩;rcases c with c|c|c
  .exact .inl c
  .exact .inr (.inr c)
  .exact .inr (.inl (by omega))
 rw[Rw c];have q:aC p.seen (af y)=false:=by
  cases e:aC p.seen (af y)
  .rfl
  .exact absurd (.inr (.inl e)) c
 have f:0<t.rows[j].lev:=by
  rcases Vb 0 t.rows[j].lev with e|e
  .exact e
  .exact absurd (.inr (.inr (by omega))) c
 have s:=(k.lev _ (Rz hj)).2
 by_cases c2:dL T y=T.beg.length
 .rw[Rx c2];have hs:∀w,aC (pt p.seen (af y) 1) w=if af y=w then true else aC p.seen w:=λw=>by rw[m6];simp
  refine⟨⟨?_,h.li,?_,?_⟩,.inr (.inr (by rw[hs,Rx rfl])),λv d=>by rw[hs];split<;>simp[d],Tv _⟩
  .intro v b;rw[hs]at b;split at b
   .rename_i e;exact⟨j,hj,by rw[←d,e],f,hn⟩
   .exact h.sn v b
  .intro i hi a g;rw[hs]at a;split at a
   .rename_i e;have:=k.inj hj hi (d.symm.trans e);subst this;omega
   .exact h.ls i hi a g
  .dsimp only;rw[h.mn];symm;apply ot hj
   .rw[←d,q];rfl
   .rw[←d,hs,Rx rfl];simp;omega
   .intro i hi o;rw[hs,Rw];intro e;exact o (k.inj hi hj (e.symm.trans d))
 .rw[Rw c2];have hs:∀w,aC (pt p.seen (af y) 1) w=if af y=w then true else aC p.seen w:=λw=>by rw[m6];simp
  refine⟨⟨?_,?_,?_,?_⟩,.inr (.inr (by rw[hs,Rx rfl])),λv d=>by rw[hs];split<;>simp[d],Ry _⟩
  .intro v b;rw[hs]at b;split at b
   .rename_i e;exact⟨j,hj,by rw[←d,e],f,hn⟩
   .exact h.sn v b
  .intro l m;rcases RI.1 m with m|m
   .exact h.li l m
   .simp at m;subst m;exact⟨j,hj,hy,f,by omega⟩
  .intro i hi a g;rw[hs]at a;split at a
   .rename_i e;have:=k.inj hj hi (d.symm.trans e);subst this;rw[hy];simp
   .exact SJ _ (h.ls i hi a g)
  .dsimp only;rw[h.mn];apply List.countP_congr;intro x hx;rw[hs];split
   .rename_i e;obtain⟨i,hi,rfl⟩:=RJ hx;have:=k.inj hj hi (d.symm.trans e);subst this;have:¬t.rows[j].lev=t.dep:=by omega
    simp[this]
   .rfl
theorem tJ{cs:List (List Int)}{ats:List Int}{T:Tr}{t:RT}(f:RelT T t)(d:TraF cs ats t){n:Nat}(but:Int):∀(c:List Int)(p:PS),LI t p n->
 (∀y∈c,af y=but∨∃j,∃hj:j<t.rows.length,t.rows[j].l=-y∧(t.rows[j].lev=t.dep->j<n∨t.rows[j].rea<0))->
 LI t (dx T but c p) n∧(∀y∈c,af y=but∨dL T y<=0∨aC (dx T but c p).seen (af y)=true)∧(∀v,aC p.seen v=true->aC (dx T but c p).seen v=true)∧p.many<=(dx T but c p).many
 |[],p,h,_=>⟨h,by simp,λ_ b=>b,Ry _⟩
 |y::c,p,h,g=>by
  have key:LI t (takeF T but p y) n∧(af y=but∨dL T y<=0∨aC (takeF T but p y).seen (af y)=true)∧(∀v,aC p.seen v=true->aC (takeF T but p y).seen v=true)∧p.many<=(takeF T but p y).many:=by
   rcases g y (RR ..)with e|⟨j,hj,hy,hn⟩
   .have:takeF T but p y=p:=by unfold takeF;rw[Rx (.inl e)]
    rw[this];exact⟨h,.inl e,λ_ b=>b,Ry _⟩
   .have:=Lo f d h hj hy hn but;rw[←oB f d hj hy]at this;exact this
  obtain⟨m,a,o,q⟩:=key;obtain⟨i,g2,g3,k⟩:=tJ f d but c (takeF T but p y) m (λz hz=>g z (RO _ hz));have e:dx T but (y::c) p=dx T but c (takeF T but p y):=rfl;rw[e];refine⟨i,?_,λv b=>g3 v (o v b),Sb q k⟩;intro z hz;rcases RZ.1 hz with rfl|hz
  .rcases a with a|a|a
   .exact .inl a
   .exact .inr (.inl a)
   .exact .inr (.inr (g3 _ a))
  .exact g2 z hz
theorem Lp{cs:List (List Int)}{ats:List Int}{t:RT}(q:TraF cs ats t){p:PS}{n:Nat}(h:LI t p (n+1))(hn:n<t.rows.length)(hs:aC p.seen (af t.rows[n].l)=true)(hd:t.rows[n].lev=t.dep):
 LI t ⟨pt p.seen (af t.rows[n].l) 0,p.lits,p.many -1⟩ n:=by
 have a:∀w,aC (pt p.seen (af t.rows[n].l) 0) w=if af t.rows[n].l=w then false else aC p.seen w:=λw=>by rw[m6];simp
 refine⟨?_,h.li,?_,?_⟩
 .intro v d;rw[a]at d;split at d
  .cases d
  .rename_i e;obtain⟨j,hj,g,k,m⟩:=h.sn v d;refine⟨j,hj,g,k,λhd=>(m hd).imp (λc=>?_) id⟩;have:j≠n:=λo=>by subst o;exact e g
   omega
 .intro j hj b c;rw[a]at b;split at b
  .cases b
  .exact h.ls j hj b c
 .dsimp only; rw [h.mn]; have := ot (l := t.rows) (P := λ x => aC (pt p.seen (af t.rows[n].l) 0) (af x.l) && decide (x.lev = t.dep)) (Q := λ x => aC p.seen (af x.l) && decide (x.lev = t.dep)) hn (by
   rw[a,Rx rfl];rfl) (by rw[hs];simp[hd]) (λi hi f=>by
   rw[a,Rw];intro e;exact f (q.inj hi hn e.symm))
  rw[this];omega
theorem dm{cs:List (List Int)}{ats:List Int}{D:DK}(h:DeskT cs ats D){n:Nat}(hn:n<D.t.rows.length)(i:0<=D.t.rows[n].rea):isA D.A D.t.rows[n].rea=true∧D.t.rows[n].l∈av D.A D.t.rows[n].rea∧
 ∀y∈av D.A D.t.rows[n].rea,cE y=true∧(y≠D.t.rows[n].l->∃j,∃hj:j<D.t.rows.length,j<n∧D.t.rows[j].l=-y):=by
 rcases h.ok.rea n hn with h1|⟨h1,d,f⟩
 .omega
 .refine⟨h1,d,λy hy=>?_⟩;obtain⟨c,g⟩:=f y hy;refine⟨c,λb=>?_⟩;have:=g b;rw[(litO c).2.2.2.2,RE]at this;obtain⟨x,hx,e⟩:=this;obtain⟨j,hj,rfl⟩:=RJ hx;have a:j<n∧j<D.t.rows.length:=by simp at hj;omega
  refine⟨j,a.2,a.1,?_⟩;rw[←e];simp
theorem Jm{cs:List (List Int)}{ats:List Int}{D:DK}(h:DeskT cs ats D){p:PS}{n:Nat}(hi:LI D.t p (n+1))(hn:n<D.t.rows.length)(hp:nF D.T p D.t.rows[n].l=true):
 LI D.t (oq D.A D.T p D.t.rows[n].l) n∧p.many -1<=(oq D.A D.T p D.t.rows[n].l).many∧
  (∀j (hj:j<D.t.rows.length),j≠n->aC p.seen (af D.t.rows[j].l)=true->aC (oq D.A D.T p D.t.rows[n].l).seen (af D.t.rows[j].l)=true)∧
  (∀y∈av D.A D.t.rows[n].rea,y≠D.t.rows[n].l->dL D.T y<=0∨aC (oq D.A D.T p D.t.rows[n].l).seen (af y)=true):=by
 have b:=h.facts;have g:=h.ok.rel.1;unfold nF dL at hp;obtain⟨q,k,u⟩:=nK g b hn;rw[q,k]at hp;simp only[RG,RP]at hp;obtain⟨r,v,s⟩:=hp;have hd:=g.dep;have h1:=Lp b hi hn r (by omega);obtain⟨w,x,r3⟩:=dm h hn s;have d:oq D.A D.T p D.t.rows[n].l=dx D.T (af D.t.rows[n].l) (av D.A D.t.rows[n].rea) ⟨pt p.seen (af D.t.rows[n].l) 0,p.lits,p.many -1⟩:=by
  unfold oq;rw[k]
 obtain ⟨m, g2, g3, o⟩ := tJ g b (af D.t.rows[n].l) (av D.A D.t.rows[n].rea) _ h1 (λ y hy => by
  by_cases e:y=D.t.rows[n].l
  .exact .inl (by rw[e])
  .obtain⟨j,hj,c,f⟩:=(r3 y hy).2 e;exact .inr ⟨j,hj,f,λ_=>.inl c⟩)
 rw[d];refine⟨m,o,λj hj a i=>?_,λy hy a=>?_⟩
 .apply g3;rw[m6,Rw]
  .exact i
  .intro e;exact a (b.inj hj hn e.symm)
 .rcases g2 y hy with e|e|e
  .exfalso;obtain⟨j,hj,c,f⟩:=(r3 y hy).2 a;rw[qc hj f]at e;have:=b.inj hj hn e;omega
  .exact .inl e
  .exact .inr e
theorem DU{t:RT}{T:Tr}{cs:List (List Int)}{ats:List Int}(b:RelT T t)(i:TraF cs ats t){p:PS}{n:Nat}(h:LI t p (n+1))(hn:n<t.rows.length)(hp:¬nF T p t.rows[n].l=true):LI t p n:=by
 refine⟨λv d=>?_,h.li,h.ls,h.mn⟩;obtain⟨j,hj,a,f,g⟩:=h.sn v d;refine⟨j,hj,a,f,λhd=>?_⟩;rcases g hd with e|e
 .by_cases c:j=n
  .subst c;right;apply RW;intro o;apply hp;unfold nF dL;obtain⟨k,m,q⟩:=nK b i hj;rw[k,m,a,d];have:=b.dep;simp only[RG,RP,true_and];omega
  .left;omega
 .exact .inr e
theorem Lq{t:RT}{cs:List (List Int)}{ats:List Int}(d:TraF cs ats t){p:PS}(h:LI t p 0):p.many<=1:=by
 apply RW;intro m;have k:2<=t.rows.countP (λx=>aC p.seen (af x.l)&&decide (x.lev=t.dep)):=by rw[←h.mn];omega
 obtain⟨i,j,hi,hj,a,o,c⟩:=sS k;simp only[RG,RP]at o c;obtain⟨n,b,f,q,g⟩:=h.sn _ c.1;have:=d.inj b hj f;subst this;rcases g c.2 with e|e
 .omega
 .have:=(d.dec n hj e).2 i hi a;omega
theorem Cj{T:Tr}{t:RT}(a:RelT T t){n:Nat}(hn:n<t.rows.length):T.lits.getD n 0=t.rows[n].l:=by
 rw[a.lits,Rv,RS,Ru hn];rfl
theorem xB{cs:List (List Int)}{ats:List Int}{D:DK}(h:DeskT cs ats D):∀(n:Nat)(p:PS),n<=D.t.rows.length->LI D.t p n->
 (∃m,LI D.t (cL D.A D.T D.T.lits n p) m)∧(cL D.A D.T D.T.lits n p).many<=1∧(1<=p.many->1<=(cL D.A D.T D.T.lits n p).many)
 |0,p,_,hi=>⟨⟨0,hi⟩,Lq h.facts hi,λe=>e⟩
 |n+1,p,hn,hi=>by
  rw[cL];split
  .exact⟨⟨_,hi⟩,by assumption,λe=>e⟩
  rename_i c;have a:n<D.t.rows.length:=by omega
  rw[Cj h.ok.rel.1 a];split
  .rename_i hp;obtain⟨b,g2,_⟩:=Jm h hi a hp;obtain⟨d,f,g⟩:=xB h n _ (by omega) b;exact⟨d,f,λ_=>g (by omega)⟩
  .rename_i hp;exact xB h n p (by omega) (DU h.ok.rel.1 h.facts hi a hp)
theorem Jn{cs:List (List Int)}{ats:List Int}{D:DK}(h:DeskT cs ats D){j:Nat}(hj:j<D.t.rows.length):cr D.T (-D.t.rows[j].l)=-1∧cr D.T D.t.rows[j].l=1:=by
 have b:=h.facts;have a:=b.chk _ (Rz hj);have hp:=b.pla hj;obtain⟨n0,c,d,_⟩:=litO a;constructor
 .rcases rH h.ok.rel.1 (tI a) hj (by rw[dG];exact hp)with⟨_,e⟩|⟨e,_⟩
  .exact e
  .omega
 .rcases rH h.ok.rel.1 a hj hp with⟨e,_⟩|⟨_,e⟩
  .omega
  .exact e
theorem Cl{cs:List (List Int)}{ats:List Int}{D:DK}(h:DeskT cs ats D){R:List Int}{j:Nat}(hj:j<D.t.rows.length)(c:0<=D.t.rows[j].rea)(hy:∀y∈av D.A D.t.rows[j].rea,y≠D.t.rows[j].l->HOk D.A D.T R y):HOk D.A D.T R (-D.t.rows[j].l):=by
 obtain⟨f,b,g⟩:=nK h.ok.rel.1 h.facts hj;obtain⟨e,i,r3⟩:=dm h hj c;refine .why (by rw[(Jn h hj).1];omega) ?_ ?_ ?_
 .rw[dG,b];exact c
 .rw[dG,b];exact e
 .rw[dG,b];intro y d a;exact hy y d (by rw[Tz]at a;exact a)
theorem xC{cs:List (List Int)}{ats:List Int}{D:DK}(h:DeskT cs ats D)(R:List Int):∀(n j:Nat)(hj:j<D.t.rows.length),j<n->D.t.rows[j].lev<=0->HOk D.A D.T R (-D.t.rows[j].l)
 |0,_,_,hn,_=>by omega
 |n+1,j,hj,hn,f=>by
  have c:=h.facts;have d:0<=D.t.rows[j].rea:=by
   rcases Vb D.t.rows[j].rea 0 with e|e
   .have:=(c.dec j hj e).1;omega
   .exact e
  refine Cl h hj d λy hy b=>?_;obtain⟨i,hi,a,e⟩:=((dm h hj d).2.2 y hy).2 b;have g:=c.mono i j hi hj a;have:=xC h R n i hi (by omega) (by omega);rw[iN hi e];exact this
theorem Md{cs:List (List Int)}{ats:List Int}{D:DK}(h:DeskT cs ats D){p:PS}{R:List Int}(a:Fr D p R){j:Nat}(hj:j<D.t.rows.length){y:Int}(hy:D.t.rows[j].l=-y)(hs:dL D.T y<=0∨aC p.seen (af y)=true):HOk D.A D.T R y:=by
 have b:=oB h.ok.rel.1 h.facts hj hy;rw[iN hj hy];rcases hs with e|e
 .exact xC h R (j+1) j hj (by omega) (by omega)
 .rw[qc hj hy]at e;exact a j hj e
theorem xD{cs:List (List Int)}{ats:List Int}{D:DK}(h:DeskT cs ats D){R:List Int}:∀(n:Nat)(p:PS),n<=D.t.rows.length->LI D.t p n->Fr D (cL D.A D.T D.T.lits n p) R->Fr D p R
 |0,p,_,_,a=>a
 |n+1,p,hn,hi,a=>by
  rw[cL]at a;split at a
  .exact a
  have b:n<D.t.rows.length:=by omega
  rw[Cj h.ok.rel.1 b]at a;split at a
  .rename_i hp;obtain⟨l,g2,g3,m⟩:=Jm h hi b hp;have g:=xD h n _ (by omega) l a;intro j hj hs
   by_cases e:j=n
   .subst e;obtain⟨q,o,r⟩:=nK h.ok.rel.1 h.facts hj;have f:0<=D.t.rows[j].rea:=by
     unfold nF at hp;rw[o]at hp;simp only[RG,RP]at hp;exact hp.2.2
    refine Cl h hj f λy hy c=>?_;obtain⟨i,d,_,k⟩:=((dm h hj f).2.2 y hy).2 c;exact Md h g d k (m y hy c)
   .exact g j hj (g3 j hj e hs)
  .rename_i hp;exact xD h n p (by omega) (DU h.ok.rel.1 h.facts hi b hp) a
structure Conf (D:DK) (con:Int):Prop where
  is:isA D.A con=true
  neg:∀y∈av D.A con,cE y=true∧∃j,∃hj:j<D.t.rows.length,D.t.rows[j].l=-y
  top:0<D.t.dep->∃y∈av D.A con,∃j,∃hj:j<D.t.rows.length,D.t.rows[j].l=-y∧D.t.rows[j].lev=D.t.dep
theorem conf_at{cs:List (List Int)}{ats:List Int}{D:DK}(h:DeskT cs ats D){k:Nat}(hk:k<cs.length)(c:pN (dO D.t) cs[k]=-1):Conf D (ats.getD k 0):=by
 obtain⟨f,d⟩:=h.ars k hk;have e:=Rz hk;refine⟨f,?_,?_⟩
 .rw[d];intro y hy;have a:=h.cls.chk _ e y hy;refine⟨a,?_⟩;rw[mB]at c;have:=w8 (c y hy (litO a).2.2.2.1);rw[(litO a).2.2.2.2]at this;unfold dO at this;obtain⟨x,hx,b⟩:=RE.1 this;obtain⟨j,hj,rfl⟩:=RJ hx;exact⟨j,hj,b⟩
 .rw[d];intro hd;obtain⟨y,hy,x,hx,b,g⟩:=Jl h.cls h.facts e c hd;obtain⟨j,hj,rfl⟩:=RJ hx;exact⟨y,hy,j,hj,b,g⟩
theorem M9{cs:List (List Int)}{ats:List Int}{D:DK}(h:DeskT cs ats D){con:Int}(a:Conf D con):
 LI D.t (gZ D.A D.T con) D.t.rows.length∧(∀y∈av D.A con,dL D.T y<=0∨aC (gZ D.A D.T con).seen (af y)=true)∧(0<D.t.dep->1<=(gZ D.A D.T con).many):=by
 obtain ⟨d, g2, _, _⟩ := tJ h.ok.rel.1 h.facts 0 (av D.A con) _ (MR D.t D.t.rows.length) (λ y hy => by
  obtain⟨_,j,hj,e⟩:=a.neg y hy;exact .inr ⟨j,hj,e,λ_=>.inl hj⟩)
 have g3:∀y∈av D.A con,dL D.T y<=0∨aC (gZ D.A D.T con).seen (af y)=true:=λy hy=>by
  rcases g2 y hy with e|e
  .have:=(pH (a.neg y hy).1).1;omega
  .exact e
 refine⟨d,g3,λhd=>?_⟩;obtain⟨y,hy,j,hj,c,f⟩:=a.top hd;have i:=oB h.ok.rel.1 h.facts hj c;have hs:aC (gZ D.A D.T con).seen (af y)=true:=by
  rcases g3 y hy with e|e
  .omega
  .exact e
 have:=d.mn;unfold gZ at this⊢;rw[this,Nat.one_le_iff_ne_zero,Ne,VJ];intro b;have g:=b _ (Rz hj);rw[qc hj c]at hs;unfold gZ at hs;simp[hs,f]at g
structure Learnt (D:DK) (L:List Int):Prop where
  nd:L.Nodup
  neg:∀y∈L,cE y=true∧∃j,∃hj:j<D.t.rows.length,D.t.rows[j].l=-y∧0<D.t.rows[j].lev
  nil:D.t.dep=0->L=[]
  top:0<D.t.dep->∃u r,L=u::r∧dL D.T u=D.t.dep∧∀y∈r,dL D.T y<D.t.dep
theorem Jo{cs:List (List Int)}{ats:List Int}{D:DK}(h:DeskT cs ats D)(p:PS)(y:Int):y∈q6 D.T D.T.lits p↔y∈p.lits∨∃j,∃hj:j<D.t.rows.length,D.t.rows[j].l=-y∧aC p.seen (af D.t.rows[j].l)=true∧D.t.rows[j].lev=D.t.dep:=by
 have b:=h.ok.rel.1;have c:=h.facts;have hd:=b.dep;unfold q6;rw[RI,RE];constructor
 .rintro(e|⟨l,f,e⟩)
  .exact .inl e
  .rw[Ss,b.lits]at f;obtain⟨d,a⟩:=f;obtain⟨x,hx,rfl⟩:=RE.1 d;obtain⟨j,hj,rfl⟩:=RJ hx;have i:=(litO (c.chk _ hx)).2.2.2.2;simp only[RG,RP]at a;have ho:=(nK b c hj).1;unfold dL at a;exact .inr ⟨j,hj,by omega,a.1,by omega⟩
 .rintro(e|⟨j,hj,k,g,m⟩)
  .exact .inl e
  .right;have i:=(litO (c.chk _ (Rz hj))).2.2.2.2;have ho:=(nK b c hj).1;refine⟨D.t.rows[j].l,?_,by omega⟩;rw[Ss,b.lits];refine⟨RE.2 ⟨_,Rz hj,rfl⟩,?_⟩;unfold dL;simp only[RG,RP];exact⟨g,by omega⟩
theorem learn_is{cs:List (List Int)}{ats:List Int}{D:DK}(h:DeskT cs ats D){con:Int}(hc:Conf D con):
 Learnt D (dw D.A D.T con)∧∀y∈av D.A con,HOk D.A D.T (dw D.A D.T con) y:=by
 have K:=h.ok.rel.1;have n:=h.facts;have hd:=K.dep;have I:D.T.lits.length=D.t.rows.length:=by rw[K.lits,RH]
 obtain⟨b1,b2,b3⟩:=M9 h hc;obtain⟨⟨m,M⟩,w2,w3⟩:=xB h D.t.rows.length (gZ D.A D.T con) (Ry _) b1;have wf:=λR=>xD h (R:=R) D.t.rows.length (gZ D.A D.T con) (Ry _) b1;have hL:dw D.A D.T con=HP D.T (eO (q6 D.T D.T.lits (cL D.A D.T D.T.lits D.t.rows.length (gZ D.A D.T con)))):=by
  unfold dw HQ;rw[I]
 have b:=Jo h (cL D.A D.T D.T.lits D.t.rows.length (gZ D.A D.T con));generalize hp:cL D.A D.T D.T.lits D.t.rows.length (gZ D.A D.T con)=p at*;generalize hE:q6 D.T D.T.lits p=E at*;have g:∀y∈E,cE y=true∧∃j,∃hj:j<D.t.rows.length,D.t.rows[j].l=-y∧0<D.t.rows[j].lev∧(D.t.rows[j].lev=D.t.dep->aC p.seen (af D.t.rows[j].l)=true):=λy hy=>by
  rcases(b y).1 hy with e|⟨j,hj,f,s,N⟩
  .obtain⟨j,hj,f,s,N⟩:=M.li y e;refine⟨?_,j,hj,f,s,λe4=>by omega⟩;have:=tI (n.chk _ (Rz hj));rw[f,Tz]at this;exact this
  .obtain⟨j',X,q1,q2,_⟩:=M.sn _ s;have:=n.inj X hj q1;subst this;refine⟨?_,j',hj,f,q2,λ_=>s⟩;have:=tI (n.chk _ (Rz hj));rw[f,Tz]at this;exact this
 have S:∀y,y∈eO E↔y∈E:=λy=>by
  rw[(o6 E).2];exact⟨λe=>e.2,λe=>⟨PR (g y e).1,e⟩⟩
 have B:=y9 E;have u:∀L,(∀y,y∈L↔y∈E)->∀y∈av D.A con,HOk D.A D.T L y:=λL Q=>by
  have W:Fr D p L:=λj hj hs=>by
   apply HOk.stop;rw[Q,b];rcases Vb D.t.rows[j].lev D.t.dep with e|e
   .exact .inl (M.ls j hj hs e)
   .exact .inr ⟨j,hj,by omega,hs,by have:=(n.lev _ (Rz hj)).2;omega⟩
  have:=wf L W;intro y hy;obtain⟨_,j,hj,e⟩:=hc.neg y hy;exact Md h this hj e (b2 y hy)
 by_cases c:D.t.dep=0
 .have C:E=[]:=by
   cases O:E with
   |nil=>rfl
   |cons y r=>
    obtain⟨_,j,hj,_,s,_⟩:=g y (by rw[O];simp);have:=(n.lev _ (Rz hj)).2;omega
  have o:dw D.A D.T con=[]:=by rw[hL,C,Fc];rfl
  refine⟨⟨by rw[o];exact List.nodup_nil,by rw[o];simp,λ_=>o,λe=>by omega⟩,u _ λy=>by rw[o,C]⟩
 have U:0<D.t.dep:=by have:=n.dep;omega
 have Z:p.many=1:=by have:=w3 (b3 U);omega
 have ad:D.t.rows.countP (λx=>aC p.seen (af x.l)&&decide (x.lev=D.t.dep))=1:=by rw[←M.mn];exact Z
 have G:0<D.t.rows.countP (λx=>aC p.seen (af x.l)&&decide (x.lev=D.t.dep)):=by omega
 rw[VI]at G;obtain⟨x,hx,a⟩:=G;obtain⟨j,hj,rfl⟩:=RJ hx;simp only[RG,RP]at a;have aa:-D.t.rows[j].l∈E:=(b _).2 (.inr ⟨j,hj,by omega,a.1,a.2⟩);have ab:=(S _).2 aa;obtain⟨k,hk,H⟩:=RJ ab;have z:dL D.T (eO E)[k]=D.t.dep:=by rw[H,oB K n hj (show D.t.rows[j].l=-(-D.t.rows[j].l) by omega)];exact a.2
 have J:∀i (hi:i<(eO E).length),i≠k->dL D.T (eO E)[i]<dL D.T (eO E)[k]:=λi hi d=>by
  obtain⟨_,j2,w,f,s,N⟩:=g _ ((S _).1 (Rz hi));have hl:=oB K n w f;have hle:=(n.lev _ (Rz w)).2;rw[z,hl];rcases Vb D.t.rows[j2].lev D.t.dep with e|e
  .exact e
  .exfalso;have hs:=N (by omega);have Y:j2=j:=by
    rcases TM j2 j with q|q|q
    .have:=ou (P:=λx=>aC p.seen (af x.l)&&decide (x.lev=D.t.dep)) q hj (by simp only[RG,RP];exact⟨hs,by omega⟩) (by simp only[RG,RP];exact a);omega
    .exact q
    .have:=ou (P:=λx=>aC p.seen (af x.l)&&decide (x.lev=D.t.dep)) q w (by simp only[RG,RP];exact a) (by simp only[RG,RP];exact⟨hs,by omega⟩);omega
   subst Y;have V:(eO E)[i]=(eO E)[k]:=by rw[H];omega
   exact d (vg B hi hk V)
 have hP:=KT hk (by rw[z];omega) J;have v:dw D.A D.T con=(eO E)[k]::(eO E).eraseIdx k:=hL.trans hP;have F:∀y,y∈dw D.A D.T con↔y∈E:=λy=>by rw[v,mC hk,S]
 refine⟨⟨?_,λy hy=>?_,λe=>absurd e c,λ_=>⟨_,_,v,z,λy hy=>?_⟩⟩,u _ F⟩
 .rw[v,S4];refine⟨λhm=>?_,B.sublist (List.eraseIdx_sublist _ _)⟩;rw[UI]at hm;obtain⟨i,hi,d,e⟩:=hm;exact d (vg B hi hk e)
 .obtain⟨e0,j,hj,f,s,_⟩:=g y ((F y).1 hy);exact⟨e0,j,hj,f,s⟩
 .rw[UI]at hy;obtain⟨i,hi,d,rfl⟩:=hy;have:=J i hi d;omega
structure DeskI (cs:List (List Int)) (ats:List Int) (D:DK):Prop extends DeskT cs ats D where
  id:∀x∈D.a.rows,1<=x.id
theorem id_is{cs:List (List Int)}{ats:List Int}{D:DK}(h:DeskI cs ats D){q:Int}(b:isA D.A q=true):iW D.A q≠0:=by
 obtain⟨x,hx,e⟩:=h.ok.relA.is q b;obtain⟨p,c,_,_,_,d⟩:=h.ok.relA.rows x hx;have hi:=h.id x hx;have a:q=(p:Int):=by rw[←e,c]
 unfold iW;rw[Rx b,a,SF,d];omega
theorem tL{cs:List (List Int)}{ats:List Int}{D:DK}(h:DeskT cs ats D){j:Nat}(hj:j<D.t.rows.length){y:Int}(hy:D.t.rows[j].l=-y):pla D.T y=j∧rea D.T y=D.t.rows[j].rea:=by
 unfold pla rea;rw[qc hj hy];exact⟨(nK h.ok.rel.1 h.facts hj).2.2,(nK h.ok.rel.1 h.facts hj).2.1⟩
theorem val_neg{cs:List (List Int)}{ats:List Int}{D:DK}(h:DeskT cs ats D){l:Int}(b:cr D.T l<0):cE l=true∧∃j,∃hj:j<D.t.rows.length,D.t.rows[j].l=-l:=by
 obtain⟨a,i,hi,hp⟩:=vP h.ok.rel.1 (l:=l) (by omega);refine⟨a,i,hi,?_⟩;rcases rH h.ok.rel.1 a hi hp with⟨e,_⟩|⟨_,e⟩
 .exact e
 .omega
theorem val_of{cs:List (List Int)}{ats:List Int}{D:DK}(h:DeskT cs ats D){l:Int}{j:Nat}(hj:j<D.t.rows.length)(e:D.t.rows[j].l=-l):cr D.T l=-1:=by
 have:=(Jn h hj).1;rw[e,Tz]at this;exact this
theorem ahead_ok{cs:List (List Int)}{ats:List Int}{D:DK}(h:DeskT cs ats D)(h0:D.A.hd≠[]):AheadOk D.A D.T where
 tr:=h.ok.rel.1.okT
 hd:=h0
 ar:=λq k=>by
  obtain⟨x,hx,e⟩:=h.ok.relA.is q k;obtain⟨p,d,a,_⟩:=h.ok.relA.rows x hx;exact⟨p,_,by rw[←e,d],a⟩
 len:=h.ok.len
 ahead:=λl m c=>by
  obtain⟨f,j,hj,e⟩:=val_neg h m;obtain⟨o,r⟩:=tL h hj e;rw[o];refine⟨by omega,λy hy b=>?_⟩;rw[r]at hy c;have n:=(litO f).2.2.2.2;obtain⟨i,hi,g,a⟩:=((dm h hj c).2.2 y hy).2 (by rw[e,←n];exact b);rw[(tL h hi a).1];omega
theorem pla_lt{cs:List (List Int)}{ats:List Int}{D:DK}(h:DeskT cs ats D)(l:Int):pla D.T l<D.T.lits.length:=by
 unfold pla;rw[(xA h.ok.rel.1 (af l)).2.2,h.ok.rel.1.lits,RH];rcases Vb (p9 D.t (af l)) 0 with c|c
 .omega
 .obtain⟨i,hi,e,_⟩:=lj c;omega
theorem nc{cs:List (List Int)}{ats:List Int}{D:DK}(h:DeskI cs ats D){L:List Int}{stop:List (Int×Int)}(g:∀y,aC stop y=true↔y∈L){k:Nat}{f:NS->Int->Int->NS}
 (C:∀(s:NS)(j:Nat)(hj:j<D.t.rows.length),j<k->0<=D.t.rows[j].rea->NI D L s->Post D L s (f s D.t.rows[j].rea D.t.rows[j].l) (av D.A D.t.rows[j].rea) D.t.rows[j].l) (but:Int):
 ∀(c:List Int)(s:NS),NI D L s->(∀y∈c,y≠but->cE y=true∧∃j,∃hj:j<D.t.rows.length,D.t.rows[j].l=-y∧j<k)->Post D L s (sV f D.A D.T stop but c s) c but
 |[],s,hn,_=>⟨hn,λ_ e=>e,λe=>⟨e,by simp,λj hj h1 O=>by rw[sV]at h1;rw[h1]at O;cases O⟩,λ_=>rfl⟩
 |y::c,s,hn,B=>by
  have q:=λz hz=>B z (RO _ hz);rw[sV]
  by_cases hs:vi D.T stop but s y=true
  .rw[Rx hs];have u:=nc h g C but c s hn q;refine⟨u.ni,u.mono,λho=>?_,λhk=>u.ok λz hz=>hk z (RO _ hz)⟩;obtain⟨w,x,a3⟩:=u.all ho;refine⟨w,λz hz a=>?_,a3⟩;rcases RZ.1 hz with rfl|hz
   .unfold vi at hs;simp only[SN,RG,RP]at hs;rcases hs with(e|e)|⟨e,_⟩
    .exact absurd e a
    .exact .inl ((g _).1 e)
    .obtain⟨_,j,hj,b,_⟩:=B z (RR ..) a;rw[(tL h.toDeskT hj b).1]at e;exact .inr ⟨j,hj,b,u.mono _ e⟩
   .exact x z hz a
  rw[Rw hs];have J:y≠but∧y∉L∧¬(aC s.at' (pla D.T y)=true∧0<=pla D.T y):=by
   unfold vi at hs;simp only[SN,RG,RP,Wn]at hs;exact⟨hs.1.1,λe=>hs.1.2 ((g _).2 e),hs.2⟩
  obtain⟨M,N,X⟩:=J;obtain⟨Y,j,hj,b,E⟩:=B y (RR ..) M;obtain⟨Q,R⟩:=tL h.toDeskT hj b;have P:=val_of h.toDeskT hj b
  by_cases m:Ff D.A D.T y=true
  .rw[Rx m];refine⟨⟨hn.val,hn.mem⟩,λ_ e=>e,λe=>(by cases e),λhk=>?_⟩;exfalso;unfold Ff at m;simp only[SN,RP]at m;have hy:=hk y (RR ..) M;cases hy with
   |stop e=>exact N e
   |why v1 v2 v3 _=>
    rcases m with(e|e)|e
    .omega
    .have:rea D.T y=(dE D.T (af y)).1.rea:=rfl;omega
    .exact id_is h v3 e
  rw[Rw m];have n:0<=rea D.T y:=by
   unfold Ff at m;simp only[SN,RP,Wn]at m;omega
  have W:=(litO Y).2.2.2.2;have K:aS (-y)=D.t.rows[j].l:=by rw[W,b]
  rw[R]at n⊢;rw[K];have r:aC s.at' j=false:=by
   cases e:aC s.at' j
   .rfl
   .exact absurd ⟨by rw[Q];exact e,by omega⟩ X
  have h0:(lk s.at' (j:Int)).getD 0=0:=by
   have:=hn.val j;unfold aC at r;simp at r;omega
  have H:sU D.T s y=⟨pt s.at' j 1,s.ok⟩:=by
   unfold sU;rw[Q,h0];rfl
  rw[H];have d:∀p,aC (pt s.at' (j:Int) 1) p=if(j:Int)=p then true else aC s.at' p:=λp=>by rw[m6];simp
  have I:NI D L ⟨pt s.at' j 1,s.ok⟩:=by
   refine⟨λp=>?_,λp hp=>?_⟩
   .dsimp only;rw[bK];split
    .simp
    .exact hn.val p
   .dsimp only at hp;rw[d]at hp;split at hp
    .rename_i e;exact⟨j,hj,e.symm,n,by rw[b,Tz];exact N⟩
    .exact hn.mem p hp
  have o:=C ⟨pt s.at' j 1,s.ok⟩ j hj E n I;generalize f ⟨pt s.at' j 1,s.ok⟩ D.t.rows[j].rea D.t.rows[j].l=v at*;have g2:=nc h g C but c v o.ni q;generalize sV f D.A D.T stop but c v=Z at*;have F:∀p,aC s.at' p=true->aC (pt s.at' (j:Int) 1) p=true:=λp hp=>by rw[d];split<;>simp[hp]
  have G:aC v.at' j=true:=o.mono j (by dsimp only;rw[d,Rx rfl]);refine⟨g2.ni,λp hp=>g2.mono p (o.mono p (F p hp)),λho=>?_,λhk=>?_⟩
  .obtain⟨w,x,a3⟩:=g2.all ho;obtain⟨b1,b2,b3⟩:=o.all w;refine⟨b1,λz hz a=>?_,λi hi S U z hz a=>?_⟩
   .rcases RZ.1 hz with rfl|hz
    .exact .inr ⟨j,hj,b,g2.mono _ G⟩
    .exact x z hz a
   .cases c2:aC v.at' i
    .exact a3 i hi S c2 z hz a
    .by_cases e:j=i
     .subst e;exact(b2 z hz a).mono g2.mono
     .exact(b3 i hi c2 (by dsimp only;rw[d,Rw (by omega)];exact U) z hz a).mono g2.mono
  .rw[g2.ok λz hz=>hk z (RO _ hz)];have hy:=hk y (RR ..) M;cases hy with
   |stop e=>exact absurd e N
   |why _ _ _ v4=>
    refine o.ok λz hz a=>?_;have V:(dE D.T (af y)).1.rea=D.t.rows[j].rea:=R;rw[V]at v4;exact v4 z hz (by rw[←b];exact a)
theorem vQ{cs:List (List Int)}{ats:List Int}{D:DK}(h:DeskI cs ats D){L:List Int}{stop:List (Int×Int)}(a:∀y,aC stop y=true↔y∈L):∀(k:Nat)(q but:Int)(s:NS),NI D L s->
 (∀y∈av D.A q,y≠but->cE y=true∧∃j,∃hj:j<D.t.rows.length,D.t.rows[j].l=-y∧j<k)->Post D L s (q7 D.A D.T stop (k+1) s q but) (av D.A q) but
 |0,q,but,s,hn,c=>by
  rw[q7];exact nc h a (k:=0) (λ_ j _ hj=>by omega) but _ s hn c
 |k+1,q,but,s,hn,c=>by
  rw[q7];refine nc h a (k:=k+1) (λs j hj g m hn=>?_) but _ s hn c;refine vQ h a k _ _ s hn λy hy b=>?_;obtain⟨n,d⟩:=(dm h.toDeskT hj m).2.2 y hy;obtain⟨i,hi,f,e⟩:=d b;exact⟨n,i,hi,e,by omega⟩
def AllNeg(D:DK)(L:List Int):Prop:=∀y∈L,cE y=true∧∃j,∃hj:j<D.t.rows.length,D.t.rows[j].l=-y
theorem tM{cs:List (List Int)}{ats:List Int}{D:DK}(h:DeskT cs ats D){j:Nat}(hj:j<D.t.rows.length):rj D j=D.t.rows[j].rea:=by
 unfold rj rea;rw[Cj h.ok.rel.1 hj];exact(nK h.ok.rel.1 h.facts hj).2.1
theorem zX{cs:List (List Int)}{ats:List Int}{D:DK}(h:DeskI cs ats D){con:Int}(b:Conf D con)(L:List Int):Post D L ⟨[],true⟩ (lX D.A D.T L con) (av D.A con) 0:=by
 have a:D.T.lits.length=D.t.rows.length:=by rw[h.ok.rel.1.lits,RH]
 unfold lX;refine vQ h (λy=>?_) D.T.lits.length con 0 ⟨[],true⟩ ⟨λp=>by simp[lk],λp hp=>by simp[aC,lk]at hp⟩ λy hy _=>?_
 .have:=sX L y L.length (Ry _)
  rwa [RY]at this
 .obtain⟨c,j,hj,e⟩:=b.neg y hy;exact⟨c,j,hj,e,by omega⟩
theorem Jp{cs:List (List Int)}{ats:List Int}{D:DK}(h:DeskT cs ats D){i j:Nat}(hi:i<D.t.rows.length)(hj:j<D.t.rows.length)(o:i<j)(b:0<=D.t.rows[i].rea)(c:0<=D.t.rows[j].rea):D.t.rows[i].rea≠D.t.rows[j].rea:=by
 intro e;have d:=h.facts;have h1:=(dm h hi b).2.1;rw[e]at h1;obtain⟨n,m⟩:=(dm h hj c).2.2 _ h1;have a:D.t.rows[i].l≠D.t.rows[j].l:=λf=>by
  have:=d.inj hi hj (by rw[f]);omega
 obtain⟨k,hk,_,g⟩:=m a;exact d.one n ⟨gx hi,by rw[←g];exact gx hk⟩
theorem Na{cs:List (List Int)}{ats:List Int}{D:DK}(h:DeskT cs ats D){con:Int}(d:Conf D con){i:Nat}(hi:i<D.t.rows.length)(a:0<=D.t.rows[i].rea):D.t.rows[i].rea≠con:=by
 intro e;have h1:=(dm h hi a).2.1;rw[e]at h1;obtain⟨c,k,hk,b⟩:=d.neg _ h1;exact h.facts.one c ⟨gx hi,by rw[←b];exact gx hk⟩
theorem zY{cs:List (List Int)}{ats:List Int}{D:DK}(h:DeskT cs ats D){L:List Int}{s:NS}(hn:NI D L s):∀i,i<=D.t.rows.length->eu D.T s.at' i=(Fi s i).map (rj D)
 |0,_=>rfl
 |i+1,hi=>by
  have o:=zY h hn i (by omega);have n:rea D.T (D.T.lits.getD i 0)=rj D i:=rfl;rw[eu,H9];unfold HZ;rw[o,n]
  by_cases c:aC s.at' i=true
  .obtain⟨j,hj,p,k,_⟩:=hn.mem _ c;have b:i=j:=by omega
   subst b;have:¬rj D i∈(Fi s i).map (rj D):=by
    intro e;obtain⟨m,d,g⟩:=RE.1 e;rw[xc]at d;obtain⟨j,a,q,l,_⟩:=hn.mem _ d.2;have f:m=j:=by omega
    subst f;rw[tM h a,tM h hj]at g;exact Jp h a hj d.1 l k g
   rw[Rx (by simp only[c,this,decide_false,Bool.not_false,Bool.and_self]),Rx c,R1];rfl
  .have c':aC s.at' i=false:=by simpa using c
   rw[Rw (by simp[c']),Rw c]
theorem Jq{cs:List (List Int)}{ats:List Int}{D:DK}(h:DeskT cs ats D){L:List Int}{s:NS}{l:List Int}{js:List Nat}(hi:CInv D L s l js){y:Int}(b:cE y=true)(a:-y∈l):bJ l y=-1:=
 val3_m1_of b a (λe=>h.facts.one b ⟨hi.sub _ e,hi.sub _ a⟩)
theorem Jr{cs:List (List Int)}{ats:List Int}{D:DK}(h:DeskI cs ats D){con:Int}(Q:Conf D con){L:List Int}{s:NS}(hn:NI D L s)
 (o:∀j (hj:j<D.t.rows.length),aC s.at' j=true->∀y∈av D.A D.t.rows[j].rea,y≠D.t.rows[j].l->Met D L s y) (q:∀y∈av D.A con,Met D L s y):
 ∀(js:List Nat)(l:List Int)(n:Nat),CInv D L s l js->∃l',fg l ((js.map (rj D)).map (av D.A)++[av D.A con]) n=(l',n+js.length+1,0)
 |[],l,n,hi=>by
  refine⟨l,?_⟩;have:pN l (av D.A con)=-1:=by
   rw[mB];intro y hy _;have P:=(Q.neg y hy).1;refine Jq h.toDeskT hi P ?_;rcases q y hy with e|⟨j,hj,m,z⟩
   .exact hi.neg y e
   .rw[←m];exact hi.don j hj z (by simp)
  simp[fg,this]
 |j::js,l,n,hi=>by
  obtain⟨hj,hs,I⟩:=hi.todo j (RR ..);obtain⟨Z,V,m,R,_⟩:=hn.mem _ hs;have E:j=Z:=by omega
  subst E;have w:=h.facts;obtain⟨r1,N,r3⟩:=dm h.toDeskT hj R;have O:=(r3 _ N).1;have v:=(litO O).2.2.2.1;have X:=(litO O).2.2.2.2;have p:=o j hj hs;have a:=T4.1 hi.inc;obtain⟨k,hk,B,T⟩:∃k,∃hk:k<cs.length,av D.A D.t.rows[j].rea=cs[k]∧True:=by
   obtain⟨k,hk,e,_⟩:=w.imp j hj R;rw[e];exact⟨k,hk,(h.ars k hk).2,trivial⟩
  have d:=h.cls.len _ (Rz hk);have r:=h.cls.nd _ (Rz hk);rw[←B]at d r;have K:bJ l D.t.rows[j].l=0:=by
   unfold bJ;rw[Rw (by omega),Rw I,Rw];rw[X];intro e;exact w.one O ⟨gx hj,hi.sub _ e⟩
  have M:∀y∈av D.A D.t.rows[j].rea,y≠D.t.rows[j].l->bJ l y=-1:=λy hy u=>by
   have P:=(r3 y hy).1;refine Jq h.toDeskT hi P ?_;rcases p y hy u with e|⟨i,b,m,z⟩
   .exact hi.neg y e
   .obtain⟨Y,C,U,S⟩:=(r3 y hy).2 u;have:i=Y:=w.inj b C (by rw[m,S]);subst this;rw[←m];refine hi.don i b z ?_;intro g;rcases RZ.1 g with e|g
    .omega
    .have:=a.1 i g;omega
  have W:=unit_of d r N v K M;have G:¬pN l (av D.A D.t.rows[j].rea)=-1:=by
   rw[mB];intro e;have:=e _ N v;omega
  have b:CInv D L s (l++[D.t.rows[j].l]) js:=by
   refine⟨?_,λy hy=>SJ _ (hi.neg y hy),?_,?_,a.2⟩
   .intro x hx;rcases RI.1 hx with hx|hx
    .exact hi.sub x hx
    .simp at hx;subst hx;exact gx hj
   .intro i c f J
    by_cases e:i=j
    .subst e;simp
    .exact SJ _ (hi.don i c f (by simp[e,J]))
   .intro i g;obtain⟨c,f,H⟩:=hi.todo i (RO _ g);refine⟨c,f,?_⟩;intro e;rcases RI.1 e with e|e
    .exact H e
    .simp at e;have:=w.inj c hj (by rw[e]);have:=a.1 i g;omega
  obtain⟨l',F⟩:=Jr h Q hn o q js _ (n+1) b;refine⟨l',?_⟩;rw[RU,RU,Se,fg,tM h.toDeskT hj,Rw G,W,Rx rfl,F,R0];congr 2;omega
theorem hints_show{cs:List (List Int)}{ats:List Int}{D:DK}(h:DeskI cs ats D){con:Int}(m:Conf D con){L:List Int}(u:AllNeg D L)(ho:(lX D.A D.T L con).ok=true):
 (q8 D.T (lX D.A D.T L con).at' con).Nodup∧(∀q∈q8 D.T (lX D.A D.T L con).at' con,isA D.A q=true)∧
  ∃l',fg (gi L) ((q8 D.T (lX D.A D.T L con).at' con).map (av D.A)) 0=(l',(q8 D.T (lX D.A D.T L con).at' con).length,0):=by
 have hp:=zX h m L;generalize lX D.A D.T L con=s at*;obtain⟨_,J,a3⟩:=hp.all ho;have Q:=h.facts;have o:D.T.lits.length=D.t.rows.length:=by rw[h.ok.rel.1.lits,RH]
 have hin:=zY h.toDeskT hp.ni D.t.rows.length (Ry _);have d:∀j∈Fi s D.t.rows.length,∃hj:j<D.t.rows.length,aC s.at' j=true∧0<=D.t.rows[j].rea∧-D.t.rows[j].l∉L:=λj hj=>by
  rw[xc]at hj;obtain⟨O,c,g,r,K⟩:=hp.ni.mem _ hj.2;have:j=O:=by omega
  subst this;exact⟨c,hj.2,r,K⟩
 have p:con∉(Fi s D.t.rows.length).map (rj D):=by
  intro e;obtain⟨j,hj,g⟩:=RE.1 e;obtain⟨c,_,F,_⟩:=d j hj;rw[tM h.toDeskT c]at g;exact Na h.toDeskT m c F g
 have M:q8 D.T s.at' con=(Fi s D.t.rows.length).map (rj D)++[con]:=by
  unfold q8;rw[o,hin,Rw p]
 have f:(Fi s D.t.rows.length).Pairwise (·<·):=List.Pairwise.filter _ List.pairwise_lt_range;rw[M];refine⟨?_,?_,?_⟩
 .rw[Up];refine⟨?_,by simp,λa N b I e=>?_⟩
  .refine Tj.2 (f.imp_of_mem λ{i j} hi hj w=>?_);obtain⟨n,_,G,_⟩:=d i hi;obtain⟨c,_,H,_⟩:=d j hj;rw[tM h.toDeskT n,tM h.toDeskT c];exact Jp h.toDeskT n c w G H
  .simp at I;subst I;exact p (e▸N)
 .intro q k;rcases RI.1 k with k|k
  .obtain⟨j,hj,g⟩:=RE.1 k;obtain⟨c,_,F,_⟩:=d j hj;rw[tM h.toDeskT c]at g;rw[←g];exact(dm h.toDeskT c F).1
  .simp at k;subst k;exact m.is
 .have v:CInv D L s (gi L) (Fi s D.t.rows.length):=by
   refine⟨?_,?_,?_,?_,f⟩
   .intro x hx;rw[pn]at hx;obtain⟨y,hy,rfl⟩:=hx;obtain⟨P,j,hj,e⟩:=u y hy;rw[(litO P).2.2.2.2,←e];exact gx hj
   .intro y hy;rw[pn];exact⟨y,hy,(litO (u y hy).1).2.2.2.2.symm⟩
   .intro j hj hs E;exact absurd ((xc s _ j).2 ⟨hj,hs⟩) E
   .intro j hj;obtain⟨c,hs,_,B⟩:=d j hj;refine⟨c,hs,λe=>?_⟩;rw[pn]at e;obtain⟨y,hy,r⟩:=e;rw[(litO (u y hy).1).2.2.2.2]at r;apply B;rw[r,Tz];exact hy
  obtain⟨l',z⟩:=Jr h m hp.ni (λj hj hs y hy C=>a3 j hj hs (by simp[aC,lk]) y hy C) (λy hy=>J y hy (by have:=litO (m.neg y hy).1;omega)) _ _ 0 v;refine⟨l',?_⟩;rw[R1];have:List.map (av D.A) [con]=[av D.A con]:=rfl;rw[this,z];congr 2;simp
theorem hints_ok_of{cs:List (List Int)}{ats:List Int}{D:DK}(h:DeskI cs ats D){con:Int}(a:Conf D con){L:List Int}(hk:∀y∈av D.A con,HOk D.A D.T L y):(lX D.A D.T L con).ok=true:=
 (zX h a L).ok λy hy _=>hk y hy
theorem zZ{cs:List (List Int)}{ats:List Int}{D:DK}(h:DeskT cs ats D){L S:List Int}(f:∀x∈L,x∉S->lN D.A D.T L x=true):∀(n j:Nat)(hj:j<D.t.rows.length),j<n->(-D.t.rows[j].l∈L∨lN D.A D.T L (-D.t.rows[j].l)=true)->HOk D.A D.T S (-D.t.rows[j].l)
 |0,j,hj,hn,_=>by omega
 |n+1,j,hj,hn,hx=>by
  by_cases c:-D.t.rows[j].l∈S
  .exact .stop c
  have hd:lN D.A D.T L (-D.t.rows[j].l)=true:=hx.elim (λu=>f _ u c) id;rw[sR,RG]at hd;obtain⟨g,p⟩:=hd;obtain⟨i,hi,G,H,_,z,m⟩:=M8 h.ok g;have q:=h.facts.chk _ (Rz hj);obtain⟨n0,E,F,_⟩:=litO q;have w:aS (- -D.t.rows[j].l)=D.t.rows[j].l:=by rw[Tz];exact ap (by omega) (by omega)
  have v:cF D.T (-D.t.rows[j].l)=j:=(tL h hj (by omega)).1;have b:i=j:=by omega
  subst b;refine Cl h hj m λy hy a=>?_;obtain⟨I,_,B⟩:=dm h hj m;obtain⟨J,C⟩:=B y hy;obtain⟨k,hk,r,e⟩:=C a;have s:=oB h.ok.rel.1 h.facts hk e;rw[iN hk e]
  by_cases o:D.t.rows[k].lev<=0
  .exact xC h S (k+1) k hk (by omega) o
  have d:y∈sQ D.A D.T (-D.t.rows[i].l):=by
   unfold sQ;rw[Rx g,Ss,z];refine⟨hy,?_⟩;unfold uj;unfold dL at s;simp only[Sk,T5,S5];exact⟨by rw[w];exact a,by omega⟩
  have hp:=R3.1 p y d;unfold nE lM at hp;simp only[SN,RG,RP]at hp;refine zZ h f n k hk (by omega) ?_;rw[←iN hk e];rcases hp with⟨_,hp,_⟩|⟨_,hp⟩
  .exact .inl hp
  .exact .inr hp
theorem sho_hok{cs:List (List Int)}{ats:List Int}{D:DK}(h:DeskT cs ats D){L:List Int}(b:AllNeg D L):∀x∈L,HOk D.A D.T (qb D.A D.T L) x:=λx hx=>by
 obtain ⟨_, j, hj, e⟩ := b x hx; rw [iN hj e] at hx ⊢; refine zZ h (λ y hy hn => ?_) (j + 1) j hj (by omega) (.inl hx); have a : gR D.A D.T L y = true := RW λ a => hn (by
  unfold qb;rw[←Sy 1 L,RI]at hy;rcases hy with hy|hy
  .exact SJ _ hy
  .refine TJ _ ?_;unfold bk;rw[Ss];exact⟨hy,by simpa using a⟩)
 unfold gR iL at a;rw[RG]at a;exact a.2
theorem show_sound{m:List Bool}{S:List Int}{hs:List (List Int)}(a:∀y∈S,cE y=true)(b:∀c∈hs,c.length<=1000000)(h:(fg (gi S) hs 0).2.2=0)(d:∀c∈hs,eh c m=true):eh S m=true:=by
 refine RW λhn=>vO hs (gi S) 0 b (λy hy=>?_) d h;obtain⟨x,hx,e⟩:=(pn S y).1 hy;obtain⟨n0,g,i,_,f⟩:=litO (a x hx);rw[e,f];refine Ji ((aY x).2 (by omega)) ?_;rw[Uj]at hn;have:=Tp.1 hn x hx;simpa using this
end Go.AX.V