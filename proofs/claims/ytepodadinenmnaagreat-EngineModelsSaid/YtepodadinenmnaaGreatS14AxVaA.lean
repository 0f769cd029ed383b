/-
  Contracts: watches: made anew, Attach, Detach, Attached.
  Contracts: a desk with clauses, of six variables, and a watch.
  Contracts: a desk with clauses: places; a clause is attached, or detached.
  A watch to which clauses are attached, and detached, goes with the document (plain law).
  Trails of any number of variables, told plainly (plain law).
  Watches: what always holds of them (plain law).
  Watches: what Propagate brings about (plain law).
  Watches: Propagate closes what is attached under units, or tells a conflict (plain law, and the call).
  What follows by units does not hang on the order (plain law).
  Contracts: a desk with clauses and a watch: a literal is decided, or taken back.
  Contracts: arenas whose clauses may be learnt, and dropped; literals made; models.
  Desks of any number of variables: what a conflict teaches, and what is left of it (plain law).
-/
import Derived.Test.YtepodadinenmnaaGreatS14AxWaG
import Derived.Test.YtepodadinenmnaaGreatS14AxRnX
import Derived.Test.YtepodadinenmnaaGreatS14AxTyA
import Derived.Test.YtepodadinenmnaaGreatS14AxDkQ
import Derived.Test.YtepodadinenmnaaGreatAxIs
import Derived.Test.YtepodadinenmnaaGreatAxTb
import Derived.Test.YtepodadinenmnaaGreatS14AxWaD
namespace Go.AX
open Go.Proofs
set_option linter.unusedSimpArgs false
theorem zO(T:Tr)(d:T.marks.length<=1000000)(c:T.lits.length<=1000000):am Tryz.prog 56 [bM T] (λr=>r=.pv (ae ((T.marks.length:Int) -1 -T.lits.length))):=by
 refine aq aE Tryz.func56 ?_;have hi:=mC T;have a:aR ((T.marks.length:Int) -1)=(T.marks.length:Int) -1:=ap (by omega) (by omega);have b:aR ((T.marks.length:Int) -1 -T.lits.length)=(T.marks.length:Int) -1 -T.lits.length:=ap (by omega) (by omega);simp only[bM,cY]at hi;simp[bM,cY];refine ai.intro hi ?_;simp[a,b]
theorem Ln(x v:Int):am Tryz.prog 208 [ae x,.iptr 1 [[ae v]] 0 0] (λr=>r=.pv (BL (!decide (ax x v=0)))):=by
 refine aq aE Tryz.func208 ?_;simp;refine ai.intro (jt x v) ?_
 by_cases c:ax x v=0
 .simp[c]
 .simp[c]
theorem IR(h:List (List SV))(b:Nat)(A:Ar)(e:h[b]?=some (mD A))(hk:lw A)(g:A.row.length<=1000000)(q:Int):aB Tryz.prog 158 [.ptr b 0,ae q] h (λr h'=>h'=h∧r=.pv (ae (i7 A q))):=by
 refine fD [] [.tmp 4] aE Tryz.func158 ?_;obtain⟨d,a⟩:=RE.1 e;unfold i7;simp;refine aj.intro (BI h b A e q) ?_;rintro _ _ ⟨rfl,rfl⟩
 by_cases c:isA A q=true
 .obtain⟨p,n,rfl,f⟩:=hk q c;have hp:p<A.row.length:=by have:=f.len;omega
  simp[a,d,mD,c,hp]
 .have c':isA A q=false:=by simpa using c
  simp[c']
theorem vL(h:List (List SV))(b:Nat)(A:Ar)(d:h[b]?=some (mD A))(hk:lw A)(f:A.row.length<=1000000)(q:Int)(hi:isA A q=true):
 aB Tryz.prog 160 [.ptr b 0,ae q] h (λr h'=>h'=h∧r=.pv (.seq false 1 (aa (aw A q)))):=by
 obtain⟨p,n,rfl,a⟩:=hk q hi;have e:aw A (p:Int)=dI A p n:=by
  unfold aw;rw[RI hi];have h1:p+1<A.row.length:=by have:=a.len;omega
  have c:A.row.getD ((p:Int).toNat+1) 0=(n:Int):=by rw[←a.num];rfl
  rw[c];rfl
 rw[e];exact HF h b A d p n hi a f
theorem Lo(h:List (List SV))(ba bt:Nat):aB Tryz.prog 67 [.ptr ba 0,.ptr bt 0] h (λr h'=>h'=h++[[.pv (.ptr ba 0),.pv (.ptr bt 0),.omap true [],.omap true [],.omap true [],.pv (ae 0),.pv (.lit (.slice none 0 0))]]∧r=.pv (.ptr h.length 0)):=by
 refine cR [] [.tmp 4] aE Tryz.func67 ?_;simp
@[simp] theorem Lp:∀(l:List (Int×Nat))(k:Int),jg k (a8 vD l)=a8 vD (dl l k)
 |[],k=>rfl
 |(j,x)::l,k=>by
  show(if j=k then a8 vD l else(j,vD x)::jg k (a8 vD l))=a8 vD (if j=k then l else(j,x)::dl l k);rw[Lp l k];split<;>rfl
theorem tH{α:Type}:∀{l:List (Int×α)}{k:Int},k∉l.map (·.1)->lk l k=none
 |[],_,_=>rfl
 |(j,x)::l,k,h=>by
  simp only[R4,R9,Wy]at h;rw[lk,RH (λe=>h.1 e.symm)];exact tH h.2
theorem IS{α:Type}:∀{l:List (Int×α)},(l.map (·.1)).Nodup->∀k x:Int,lk (dl l k) x=if x=k then none else lk l x
 |[],_,k,x=>by show none=_;split<;>rfl
 |(j,y)::l,h,k,x=>by
  simp only[R4,Tg]at h;show lk (if j=k then l else(j,y)::dl l k) x=if x=k then none else if j=x then some y else lk l x
  by_cases e:j=k
  .rw[RI e]
   by_cases c:x=k
   .rw[RI c,c,←e];exact tH h.1
   .rw[RH c,RH (λa=>c (a.symm.trans e))]
  .rw[RH e,lk,IS h.2 k x]
   by_cases c:x=k
   .rw[RI c,RI c,RH (λa=>e (a.trans c))]
   .rw[RH c,RH c]
section
variable {h : List (List SV)} {bw ba bt : Nat} {mp : List (Int × Nat)} {mb : List (Int × By)} {A : Ar} {T : Tr} {S : WS}
theorem LayW.newP(L:LayW h bw ba bt mp mb A T S)(k:Int)(p:Pr)(late:List (Int×Int)):
    LayW ((h++[pB p]).set bw (cB ba bt ⟨pt mp k h.length,mb,late,S.head,S.seen⟩)) bw ba bt (pt mp k h.length) mb A T ⟨pt S.prs k p,S.byl,late,S.head,S.seen⟩:=by
  have hwl:=(RE.1 L.w).1
  have lt:∀{b:Nat}{x:List SV},h[b]?=some x->b<h.length:=λhx=>(RE.1 hx).1
  have up:∀{c:Nat}{x:List SV},c≠bw->h[c]?=some x->((h++[pB p]).set bw (cB ba bt ⟨pt mp k h.length,mb,late,S.head,S.seen⟩))[c]?=some x:=λn1 hx=>by
    rw[RY (λe=>n1 e.symm),RL (lt hx),hx]
  have self:((h++[pB p]).set bw (cB ba bt ⟨pt mp k h.length,mb,late,S.head,S.seen⟩))[h.length]?=some (pB p):=by
    rw[RY (by omega)];simp
  have old:∀k' b,lk mp k'=some b->b<h.length:=λk' b hb=>by obtain⟨_,_,a2,_⟩:=L.pr k' b hb;exact lt a2
  exact { w := Su (by simp; omega), a := up L.wa.symm L.a, t := up L.wt.symm L.t, wa := L.wa, wt := L.wt, at' := L.at', keys := zB _ _ _ _ _ L.keys, byn := L.byn, binj := L.binj
          pr:=λk' b hb=>by
            rw[bK]at hb
            show∃p',lk (pt S.prs k p) k'=some p'∧_
            rw[bK]
            by_cases c:k=k'
            · rw[RI c]at hb;cases hb
              exact⟨p,RI c,self,UP hwl,UP (lt L.a),UP (lt L.t)⟩
            · rw[RH c]at hb
              obtain⟨p',a1,a2,a3⟩:=L.pr k' b hb
              exact⟨p',by rw[RH c];exact a1,up a3.1 a2,a3⟩
          by':=λl e he=>by
            obtain⟨zs,a1,⟨sp,a2,a3⟩,a4⟩:=L.by' l e he
            exact⟨zs,a1,⟨sp,up a4.1 a2,a3⟩,a4⟩
          pinj:=λk1 k2 b h1 h2=>by
            rw[bK]at h1 h2
            by_cases c1:k=k1
            · by_cases c2:k=k2
              · exact c1.symm.trans c2
              · rw[RI c1]at h1;rw[RH c2]at h2;cases h1
                have:=old k2 _ h2;omega
            · rw[RH c1]at h1
              by_cases c2:k=k2
              · rw[RI c2]at h2;cases h2
                have:=old k1 _ h1;omega
              · rw[RH c2]at h2
                exact L.pinj k1 k2 b h1 h2
          pb:=λk' b l e hb he=>by
            rw[bK]at hb
            by_cases c:k=k'
            · rw[RI c]at hb;cases hb
              obtain⟨_,_,⟨_,a2,_⟩,_⟩:=L.by' l e he
              exact UP (lt a2)
            · rw[RH c]at hb;exact L.pb k' b l e hb he}
end
def pF(A:Ar)(T:Tr)(S:WS)(k:Int):Int:=if i7 A k=0 then 20 else if(lk S.prs k).isSome=true then 21 else if(aw A k).any (λl=>!decide (ax l ((T.marks.length:Int) -1)=0))=true then 10 else 0
def oE(A:Ar)(T:Tr)(S:WS)(k:Int):WS:=if pF A T S k=0 then⟨pt S.prs k ⟨aw A k,0,0⟩,S.byl,pt S.late k (aR ((lk S.late k).getD 0+1)),S.head,S.seen⟩else S
def IT:Sch:=
 let g:Sch:=.fork [(13,.done)]
 let l:Sch:=.fork [(12,g)]
 let e:Sch:=.fork [(9,.take 10 (.take 11 g))]
 let h:Sch:=.fork [(9,.take 10 (.take 11 l)),(12,e)]
 let i:Sch:=.fork [(8,e)]
 let m:Sch:=.fork [(8,h),(12,i)]
 let f:Sch:=.fork [(4,e)]
 let j:Sch:=.fork [(4,h),(12,f)]
 let k:Sch:=.fork [(4,i),(8,f)]
 let n:Sch:=.fork [(4,m),(8,j),(12,k)]
 let a:Sch:=.fork [(3,f)]
 let b:Sch:=.fork [(3,j),(12,a)]
 let c:Sch:=.fork [(3,k),(8,a)]
 let d:Sch:=.fork [(3,n),(8,b),(12,c)]
 .take 0 (.take 1 (.take 2 (.take 5 (.take 6 (.take 7 d)))))
set_option maxRecDepth 16000 in
theorem Ci(h:List (List SV))(bw ba bt:Nat)(mp:List (Int×Nat))(mb:List (Int×By))(A:Ar)(T:Tr)(S:WS)(L:LayW h bw ba bt mp mb A T S)(hk:lw A)(O:A.row.length<=1000000)(W:T.marks.length<=1000000)(s:T.lits.length<=1000000)(k:Int):
 aB Tryz.prog 128 [.ptr bw 0,ae k] h (λr h'=>r=.pv (ae (pF A T S k))∧∃mp',LayW h' bw ba bt mp' mb A T (oE A T S k)∧Ext h h' (aU bw bt mp mb) (aU bw bt mp' mb)):=by
 refine cR [8] [.tmp 4] aE Tryz.func128 ?_;obtain⟨i,j⟩:=RE.1 L.w;have kM:=zA h bw ba bt _ L.w;have Y:=IR h ba A L.a hk O k;simp;refine aj.intro kM ?_;rintro _ q ⟨e,rfl⟩;rw[e];clear e q;simp[i,j,cB];refine aj.intro Y ?_;rintro _ q ⟨e,rfl⟩;rw[e];clear e q
 by_cases c1:i7 A k=0
 .have o:pF A T S k=20:=by unfold pF;rw[RI c1]
  have F:oE A T S k=S:=by unfold oE;rw[o];rfl
  rw[o,F];simp[c1];exact⟨mp,L,Ext.refl _ _⟩
 have v:isA A k=true:=by
  unfold i7 at c1
  by_cases c:isA A k=true
  .exact c
  .rw[RH c]at c1;exact absurd rfl c1
 cases hp:lk mp k with
 |some b=>
  obtain⟨p,I,_⟩:=L.pr k b hp;have o:pF A T S k=21:=by unfold pF;rw[RH c1,I];rfl
  have F:oE A T S k=S:=by unfold oE;rw[o];rfl
  rw[o,F];simp[c1,i,j,cB,hp,vD];exact⟨mp,L,Ext.refl _ _⟩
 |none=>
 have J:lk S.prs k=none:=by
  cases X:lk S.prs k with
  |none=>rfl
  |some p=>obtain⟨b,H,_⟩:=L.some_p X;rw[hp]at H;cases H
 have Z:=vL h ba A L.a hk O k v;simp[c1,i,j,cB,hp,vD];refine aj.intro Z ?_;rintro _ q ⟨e,rfl⟩;rw[e];clear e q;simp;obtain⟨G,g⟩:∃G,G=h++[[SV.pv (ae ((T.marks.length:Int) -1))]]:=⟨_,rfl⟩;have L0:LayW G bw ba bt mp mb A T S:=by rw[g];exact L.app _
 have C:Ext h G (aU bw bt mp mb) (aU bw bt mp mb):=by rw[g];exact Ext.app _ _ _
 have hz:=cI L.t 2;have f:=λx=>cI (L.app [x]).t 2;have kO:=zO T W s;have kT:=ft T s;have N:aR ((T.marks.length:Int) -1)=(T.marks.length:Int) -1:=ap (by omega) (by omega);obtain⟨z,g2⟩:=RE.1 L0.w;have D:∀x,(h++[x])[bw]?=some (cB ba bt ⟨mp,mb,S.late,S.head,S.seen⟩):=λx=>(L.app [x]).w;refine aQ.meet IT ⟨[(0,.pv (.ptr bw 0)),(1,.pv (ae k)),(5,.pv (.seq false 1 (aa (aw A k)))),(6,.pv (.ptr h.length 0))],G⟩ (by kernel_rfl) ?_ ?_
 .simp[IT,i,j,cB,hz,D,f]
  repeat' first
   |refine And.intro ?_ ?_
   |(refine aj.introP kO ?_;simp[i,j,cB,hz,D,f,N])
   |(refine aj.introP kT ?_;simp[i,j,cB,hz,D,f,N])
   |exact af.keep (by simp) (by rw[g])
 have P:=ga (aw A k) (by have:=fQ A hk k;omega) 208 [.iptr 1 [[ae ((T.marks.length:Int) -1)]] 0 0] (λl=>!decide (ax l ((T.marks.length:Int) -1)=0)) (λr=>by simp) rfl (λm=>by simp) (λx _=>Ln x _);have Q:h.length<G.length:=by rw[g];simp
 have n2:G[h.length]'Q=[.pv (ae ((T.marks.length:Int) -1))]:=by simp[g]
 generalize u:(aw A k).any (λl=>!decide (ax l ((T.marks.length:Int) -1)=0))=B at P;have U:∀n,bG G (n+1) h.length 0=.iptr 1 [[ae ((T.marks.length:Int) -1)]] 0 0:=λn=>by simp[bG,Q,n2,frzC]
 have R:pF A T S k=if B=true then 10 else 0:=by unfold pF;rw[RH c1,J,u];rfl
 have d:oE A T S k=if pF A T S k=0 then⟨pt S.prs k ⟨aw A k,0,0⟩,S.byl,pt S.late k (aR ((lk S.late k).getD 0+1)),S.head,S.seen⟩else S:=rfl;rw[R]at d⊢;generalize oE A T S k=S2 at*;simp[U];refine ai.intro P ?_;cases B
 .have E:(if false=true then(10:Int)else 0)=0:=rfl;rw[E]at d⊢;rw[RI rfl]at d;subst d;have M:=L0.newP k ⟨aw A k,0,0⟩ (pt S.late k (aR ((lk S.late k).getD 0+1)));have K:Ext h ((G++[pB ⟨aw A k,0,0⟩]).set bw (cB ba bt ⟨pt mp k G.length,mb,pt S.late k (aR ((lk S.late k).getD 0+1)),S.head,S.seen⟩)) (aU bw bt mp mb) (aU bw bt (pt mp k G.length) mb):=
   ((C.trans (Ext.app G _ _)).trans (Ext.set bw _ (.inl rfl))).dom λb H hd=>by
    rcases hd with h1|h1|⟨k',h1⟩|h1
    .exact .inl h1
    .exact .inr (.inl h1)
    .rw[bK]at h1
     by_cases c:k=k'
     .rw[RI c]at h1;cases h1;have:=C.len;omega
     .rw[RH c]at h1;exact .inr (.inr (.inl ⟨k',h1⟩))
    .exact .inr (.inr (.inr h1))
  have V:G.length=h.length+1:=by rw[g];simp
  have b1:∀x,(G++[x])[bw]?=some (cB ba bt ⟨mp,mb,S.late,S.head,S.seen⟩):=λx=>(L0.app [x]).w;have b2:∀x y,(G.set bw y++[x])[bw]?=some y:=λx y=>by rw[RL (by simpa using z),Su z]
  rw[U7 _ _ z]at M K;simp[z,g2,cB,b1,b2];exact⟨_,M,K⟩
 .have E:(if true=true then(10:Int)else 0)=10:=rfl;rw[E]at d⊢;rw[RH (by omega)]at d;subst d;simp;exact⟨mp,L0,C⟩
theorem lW.to{P:Program}{k0:Nat}{ops:Array Oper}{K:St->Prop}{st:St}(b:St)(c:af k0 st b)(h:lW P k0 ops K b):lW P k0 ops K st:=
 lW.weak (ι:=Unit) (λ_=>b) (λg a w h0 hs=>by obtain⟨g',t,s'⟩:=c g a w h0 hs;exact⟨g',(),t,s'⟩) λ_=>h
theorem LayW.other{h:List (List SV)}{bw ba bt:Nat}{mp:List (Int×Nat)}{mb:List (Int×By)}{A:Ar}{T:Tr}{S:WS}(L:LayW h bw ba bt mp mb A T S)(b:Nat)(x:List SV)(hd:¬aU bw bt mp mb b)(ha:b≠ba):LayW (h.set b x) bw ba bt mp mb A T S:=by
  have up:∀{c:Nat}{y:List SV},b≠c->h[c]?=some y->(h.set b x)[c]?=some y:=λhn hx=>by rw[RY hn,hx]
  exact { w := up (λ e => hd (.inl e)) L.w, a := up ha L.a, t := up (λ e => hd (.inr (.inl e))) L.t, wa := L.wa, wt := L.wt, at' := L.at', keys := L.keys, pinj := L.pinj, byn := L.byn, binj := L.binj, pb := L.pb
          pr:=λk c hc=>by obtain⟨p,h1,h2,h3⟩:=L.pr k c hc;exact⟨p,h1,up (λe=>hd (.inr (.inr (.inl ⟨k,e▸hc⟩)))) h2,h3⟩
          by':=λl e he=>by
            obtain⟨zs,h1,⟨sp,h2,h3⟩,h4⟩:=L.by' l e he
            exact⟨zs,h1,⟨sp,up (λe2=>hd (.inr (.inr (.inr ⟨l,e,he,e2.symm⟩)))) h2,h3⟩,h4⟩}
theorem mem_keys{α:Type}:∀{l:List (Int×α)}{k:Int},(lk l k).isSome=true↔k∈l.map (·.1)
 |[],k=>by simp[lk]
 |(j,x)::l,k=>by
  rw[lk,R4,R9]
  by_cases e:j=k
  .rw[RI e];simp[e]
  .rw[RH e,mem_keys];constructor
   .exactλh=>.inr h
   .rintro(h|h)
    .exact absurd h.symm e
    .exact h
theorem tI{α:Type}:∀(l:List (Int×α))(k:Int),(dl l k).map (·.1)=(l.map (·.1)).erase k
 |[],_=>rfl
 |(j,x)::l,k=>by
  rw[dl,R4,List.erase_cons]
  by_cases e:j=k
  .rw[RI e,RI (by simpa using e)]
  .rw[RH e,RH (by simpa using e),R4,tI l k]
theorem zP{l:List Int}(h:l.Nodup):(cL l).Nodup:=by
 unfold cL;exact(UB l _).nodup_iff.2 h
theorem bA{n:Nat}(hn:n<=100000){l:Int}(h:ax l n=0):l≠0∧-(n:Int)<=l∧l<=n∧1<=ah l∧ah l<=n∧ah l=dr l∧0<=aW l∧aR (-l)=-l:=by
 obtain⟨a,b,c⟩:=(dw (by omega)).1 h;obtain⟨d,e,f,g⟩:=o9 (by omega) h;exact⟨a,b,c,d,e,g,by rw[lp];exact f,ap (by omega) (by omega)⟩
theorem qT{n:Nat}(hn:n<=100000){l:Int}(h:ax l n=0):ax (-l) n=0:=by
 obtain⟨a,b,c⟩:=(dw (by omega)).1 h;exact(dw (by omega)).2 ⟨by omega,by omega,by omega⟩
theorem pG{n:Nat}(hn:n<=100000){x y:Int}(hx:ax x n=0)(hy:ax y n=0):ah x=ah y↔x=y∨x=-y:=by
 obtain⟨_,_,_,_,_,a,_⟩:=bA hn hx;obtain⟨_,_,_,_,_,b,_⟩:=bA hn hy;rw[a,b];unfold dr;constructor
 .intro h;split at h<;>split at h<;>omega
 .intro h;split<;>split<;>omega
def mM(beg:List Int)(i:Nat):Int:=((beg.filter λb=>decide (b<=(i:Int))).length:Nat)
def zQ(l:Int):Int:=if l<0 then-1 else 1
structure TMk (n:Nat) (T:Tr):Prop where
  hn:n<=100000
  len:T.marks.length=n+1
  chk:∀y∈T.lits,ax y n=0
  nd:(T.lits.map ah).Nodup
  mark:∀i (hi:i<T.lits.length),(bJ T (ah T.lits[i])).v=zQ T.lits[i]∧(bJ T (ah T.lits[i])).lev=mM T.beg i∧(bJ T (ah T.lits[i])).pla=i
  free:∀v:Int,v∉T.lits.map ah->(bJ T v).v=0
structure TOk (n:Nat) (T:Tr):Prop extends TMk n T where
  bnd:∀b∈T.beg,0<=b∧b<T.lits.length
  rise:T.beg.Pairwise (·<·)
section
variable {n : Nat} {T : Tr}
theorem TMk.okT(h:TMk n T):T.ok:=⟨by rw[h.len];omega,by rw[h.len];have:=h.hn;omega⟩
theorem TMk.vars(h:TMk n T):(T.marks.length:Int) -1=n:=by rw[h.len];omega
theorem TMk.few(h:TMk n T):T.lits.length<=n:=by
 have h1:((T.lits.map ah).map Int.toNat).Nodup:=by
  refine Tu.2 (h.nd.imp_of_mem ?_);intro a b c g d e;obtain⟨x,hx,rfl⟩:=RO.1 c;obtain⟨y,hy,rfl⟩:=RO.1 g;have:=(bA h.hn (h.chk x hx)).2.2.2.1;have:=(bA h.hn (h.chk y hy)).2.2.2.1;exact d (by omega)
 have f:(T.lits.map ah).map Int.toNat⊆List.range' 1 n:=by
  intro v i;obtain⟨a,c,rfl⟩:=RO.1 i;obtain⟨x,hx,rfl⟩:=RO.1 c;obtain⟨_,_,_,p,q,_⟩:=bA h.hn (h.chk x hx);rw[List.mem_range'_1];omega
 have:=(cZ _ _ h1 f);simpa using this
theorem TMk.inj(h:TMk n T){i j:Nat}(hi:i<T.lits.length)(hj:j<T.lits.length)(e:ah T.lits[i]=ah T.lits[j]):i=j:=by
 have hp:=Sl.1 (Tu.1 h.nd);rcases TY i j with c|c|c
 .exact absurd e (hp i j hi hj c)
 .exact c
 .exact absurd e.symm (hp j i hj hi c)
theorem TMk.one(h:TMk n T){y:Int}(hy:y∈T.lits)(b:-y∈T.lits):False:=by
 obtain⟨i,hi,c⟩:=RU hy;obtain⟨j,hj,d⟩:=RU b;have e:ah T.lits[i]=ah T.lits[j]:=by rw[c,d,dJ]
 have a:i=j:=h.inj hi hj e;subst a;have:=(bA h.hn (h.chk y hy)).1;omega
theorem TMk.nodup(h:TMk n T):T.lits.Nodup:=by
 have:=Tu.1 h.nd;exact this.imp λa e=>a (by rw[e])
theorem TMk.val(h:TMk n T){l:Int}(b:ax l n=0):cu T l=if l∈T.lits then 1 else if-l∈T.lits then-1 else 0:=by
 unfold cu;rw[h.vars,RH (by simp[b])];have f:aR (-1)=-1:=by decide
 have g:aR (- -1)=1:=by decide
 have j:aR (-0)=0:=by decide
 have l0:=(bA h.hn b).1
 by_cases c:l∈T.lits
 .obtain⟨i,hi,e⟩:=RU c;have a:=(h.mark i hi).1;rw[e]at a;rw[RI c,a];unfold zQ
  by_cases d:l<0
  .rw[RI d,RI d,g]
  .rw[RH d,RH d]
 rw[RH c]
 by_cases c2:-l∈T.lits
 .obtain⟨i,hi,e⟩:=RU c2;have a:=(h.mark i hi).1;rw[e,dJ]at a;rw[RI c2,a];unfold zQ
  by_cases d:l<0
  .rw[RI d,RH (by omega),f]
  .rw[RH d,RI (by omega)]
 .rw[RH c2,h.free]
  .split
   .exact j
   .rfl
  .intro a;obtain⟨x,hx,e⟩:=RO.1 a;rcases(pG h.hn (h.chk x hx) b).1 e with rfl|rfl
   .exact c hx
   .exact c2 hx
theorem TMk.val1(h:TMk n T){l:Int}(a:ax l n=0):cu T l=1↔l∈T.lits:=by
 rw[h.val a];split
 .simp_all
 .split<;>simp_all
theorem TMk.valm(h:TMk n T){l:Int}(a:ax l n=0):cu T l=-1↔-l∈T.lits:=by
 rw[h.val a];split
 .rename_i c;simp;intro c2;exact h.one c c2
 .split<;>simp_all
theorem TMk.val0(h:TMk n T){l:Int}(a:ax l n=0):cu T l=0↔l∉T.lits∧-l∉T.lits:=by
 rw[h.val a];split
 .simp_all
 .split<;>simp_all
theorem TMk.may(h:TMk n T)(l:Int):fE T l=0↔ax l n=0∧l∉T.lits∧-l∉T.lits:=by
 unfold fE;rw[h.vars]
 by_cases c:ax l n=0
 .rw[RH (by simp[c])];have f:=h.val c;have e:(bJ T (ah l)).v=0↔cu T l=0:=by
   unfold cu;rw[h.vars,RH (by simp[c])]
   by_cases d:l<0
   .rw[RI d];constructor
    .intro e;rw[e];decide
    .intro e;have b:-1<=(bJ T (ah l)).v∧(bJ T (ah l)).v<=1:=by
      by_cases m:ah l∈T.lits.map ah
      .obtain⟨x,hx,a⟩:=RO.1 m;obtain⟨i,hi,rfl⟩:=RU hx;rw[←a,(h.mark i hi).1];unfold zQ;split<;>omega
      .rw[h.free _ m];omega
     rw[ap (by omega) (by omega)]at e;omega
   .rw[RH d]
  rw[←h.val0 c,←e]
  by_cases d:(bJ T (ah l)).v=0
  .simp[c,d]
  .simp[c,d]
 .rw[RI c];simp[c]
theorem TOk.new(hn:n<=100000):TOk n (jT n)where
 hn:=hn
 len:=by simp[jT]
 chk:=by simp[jT]
 nd:=by simp[jT]
 mark:=λi hi=>absurd hi (by simp[jT])
 free:=λv _=>by
  unfold bJ jT;rw[RG];simp only[V7];split<;>rfl
 bnd:=by simp[jT]
 rise:=by simp[jT]
theorem IU{beg:List Int}{i:Nat}(h:∀b∈beg,b<=i):mM beg i=beg.length:=by
 unfold mM;rw[TG.2 (λb a=>by simpa using h b a)]
theorem ka(T:Tr)(l rea:Int)(h1:1<=ah l)(a:ah l<T.marks.length)(v:Int)(b:0<=v):bJ (gy T l rea) v=if v=ah l then⟨zQ l,T.beg.length,rea,T.lits.length⟩else bJ T v:=by
 unfold bJ gy;simp only[RG,Sf]
 by_cases c:v=ah l
 .subst c;rw[RI rfl,RI rfl,RI (by omega)];rfl
 .rw[RH (by omega),RH c]
theorem TMk.put(h:TMk n T){l:Int}(s:fE T l=0)(rea:Int)(m:∀b∈T.beg,b<=T.lits.length):TMk n (gy T l rea):=by
 obtain⟨q,t,u⟩:=(h.may l).1 s;obtain⟨_,_,_,o,w,_⟩:=bA h.hn q;have d:ah l<T.marks.length:=by rw[h.len];omega
 have g:ah l∉T.lits.map ah:=λp=>by
  obtain⟨x,hx,e⟩:=RO.1 p;rcases(pG h.hn (h.chk x hx) q).1 e with rfl|rfl
  .exact t hx
  .exact u hx
 have k:∀y∈T.lits,0<=ah y:=λy hy=>by have:=(bA h.hn (h.chk y hy)).2.2.2.1;omega
 refine⟨h.hn,by simp[gy,h.len],?_,?_,?_,?_⟩
 .intro y hy;rcases RS.1 hy with hy|hy
  .exact h.chk y hy
  .simp at hy;subst hy;exact q
 .show((T.lits++[l]).map ah).Nodup;rw[Sb,UA];refine⟨h.nd,by simp,λa r b m e=>?_⟩;simp at m;subst m;subst e;exact g r
 .have key:∀i (hi:i<(T.lits++[l]).length),(bJ (gy T l rea) (ah (T.lits++[l])[i])).v=zQ (T.lits++[l])[i]∧(bJ (gy T l rea) (ah (T.lits++[l])[i])).lev=mM T.beg i∧(bJ (gy T l rea) (ah (T.lits++[l])[i])).pla=i:=by
   intro i hi;have j:=hi;rw[RP]at j;simp only[Sa,List.length_nil]at j
   by_cases c:i<T.lits.length
   .rw[SE c,ka T l rea o d _ (k _ (RK c)),RH (λe:ah T.lits[i]=ah l=>g (e▸TI (RK c)))];exact h.mark i c
   .have:i=T.lits.length:=by omega
    subst this;rw[V0 (RJ _)];simp only[T9,UV];rw[ka T l rea o d _ (by omega),RI rfl];exact⟨rfl,(IU m).symm,rfl⟩
  exact key
 .intro v p;have f:v∉(T.lits++[l]).map ah:=p;rw[Sb,RS,Wy]at f;simp only[R4,Ua,Sp]at f
  by_cases c:0<=v
  .rw[ka T l rea o d v c,RH f.2];exact h.free v f.1
  .have h0:=h.free 0 (λe=>by obtain⟨x,hx,e⟩:=RO.1 e;have:=(bA h.hn (h.chk x hx)).2.2.2.1;omega);have e:∀T':Tr,bJ T' v=bJ T' 0:=λT'=>by unfold bJ;rw[show v.toNat=(0:Int).toNat by omega]
   rw[e,ka T l rea o d 0 (by omega),RH (by omega)];exact h0
theorem TOk.imp(h:TOk n T){l:Int}(c:fE T l=0)(rea:Int):TOk n (gy T l rea):=
 {h.toTMk.put c rea (λb a=>by have:=(h.bnd b a).2;omega)with
  bnd:=λb a=>by have:=h.bnd b a;show 0<=b∧b<((T.lits++[l]).length:Int);simp;omega
  rise:=h.rise}
theorem TMk.beg(h:TMk n T)(e:∀b∈T.beg,b<T.lits.length):TMk n (qd T)where
 hn:=h.hn
 len:=h.len
 chk:=h.chk
 nd:=h.nd
 mark:=λi hi=>by
  obtain⟨a,b,c⟩:=h.mark i hi;refine⟨a,b.trans ?_,c⟩;have d:i<T.lits.length:=hi;unfold mM qd;simp only[S5];rw[Sz,RH (by simp;omega)];simp
 free:=h.free
theorem TOk.dec(h:TOk n T)(l:Int):TOk n (gQ T l):=by
 unfold gQ;split
 .rename_i c;have h1:=h.toTMk.beg (λb d=>(h.bnd b d).2);have e:∀b∈(qd T).beg,0<=b∧b<=T.lits.length:=λb d=>by
   rcases RS.1 d with d|d
   .have:=h.bnd b d;omega
   .simp at d;omega
  exact{h1.put (l:=l) c (-1) (λb d=>(e b d).2)with
   bnd:=λb d=>by have:=e b d;show 0<=b∧b<((T.lits++[l]).length:Int);simp;omega
   rise:=by
    show(T.beg++[(T.lits.length:Int)]).Pairwise (·<·);rw[Uv];refine⟨h.rise,by simp,λa f b d=>?_⟩;simp at d;have:=(h.bnd a f).2;omega}
 .exact h
theorem TMk.pop(h:TMk n T){m:Nat}(r:T.lits.length=m+1):TMk n (lE T):=by
 have a:T.lits.getD (T.lits.length -1) 0=T.lits[m]:=by
  have e:T.lits.length -1=m:=by omega
  rw[e,RG,RF (by omega),Sm]
 have f:m<T.lits.length:=by omega
 obtain⟨_,_,_,s,t,_⟩:=bA h.hn (h.chk _ (RK f));have d:∀v:Int,0<=v->bJ (lE T) v=if v=ah T.lits[m]then⟨0,0,0,0⟩else bJ T v:=λv j=>by
  unfold bJ lE;rw[a];simp only[RG,Sf]
  by_cases c:v=ah T.lits[m]
  .subst c;rw[RI rfl,RI rfl,RI (by rw[h.len];omega)];rfl
  .rw[RH (by omega),RH c]
 have b:(lE T).lits=T.lits.take m:=by unfold lE;rw[r];rfl
 have g:∀y∈T.lits,0<=ah y:=λy hy=>by have:=(bA h.hn (h.chk y hy)).2.2.2.1;omega
 refine⟨h.hn,by simp[lE,h.len],?_,?_,?_,?_⟩
 .intro y hy;rw[b]at hy;exact h.chk y (Sx hy)
 .rw[b];exact h.nd.sublist ((UM m T.lits).map ah)
 .intro i hi;have p:i<m:=by rw[b,RN]at hi;omega
  have o:(lE T).lits[i]=T.lits[i]'(by omega):=by simp only[b];exact S7
  rw[o,d _ (g _ (RK _)),RH (λe=>by have:=h.inj (by omega) f e;omega)];exact h.mark i (by omega)
 .intro v j;rw[b]at j;have key:∀v:Int,0<=v->v∉(T.lits.take m).map ah->(bJ (lE T) v).v=0:=λv c j=>by
   rw[d v c];split
   .rfl
   .rename_i k;refine h.free v λhx=>?_;obtain⟨x,l,e⟩:=RO.1 hx;subst e;obtain⟨i,hi,e⟩:=RU l;subst e
    by_cases q:i=m
    .subst q;exact k rfl
    .exact j (RO.2 ⟨T.lits[i],by rw[SS];exact⟨i,by omega,rfl⟩,rfl⟩)
  by_cases c:0<=v
  .exact key v c j
  .have e:bJ (lE T) v=bJ (lE T) 0:=by unfold bJ;rw[show v.toNat=(0:Int).toNat by omega]
   rw[e];refine key 0 (by omega) λhx=>?_;obtain⟨x,hx,e⟩:=RO.1 hx;have:=(bA h.hn (h.chk x (Sx hx))).2.2.2.1;omega
theorem TMk.popN(h:TMk n T):∀j,j<=T.lits.length->TMk n (popN T j)
 |0,_=>h
 |j+1,hj=>by
  have a:=TMk.popN h j (by omega);rw[Go.AX.popN];refine a.pop (m:=T.lits.length -j -1) ?_;rw[eh,RN];omega
theorem TOk.back(h:TOk n T){k:Nat}(hk:k<T.beg.length):TOk n (bz T k)∧(bz T k).lits=T.lits.take (T.beg[k]).toNat∧(bz T k).beg=T.beg.take k:=by
 have f:T.beg.getD k 0=T.beg[k]:=by rw[RG,RF hk];rfl
 obtain⟨b1,b2⟩:=h.bnd _ (RK hk);have g:(bz T k).lits=T.lits.take (T.beg[k]).toNat:=by
  unfold bz;rw[f,eh];congr 1;omega
 have m:=h.toTMk.popN (T.lits.length -(T.beg[k]).toNat) (by omega);have d:(Go.AX.popN T (T.lits.length -(T.beg[k]).toNat)).lits=T.lits.take (T.beg[k]).toNat:=by rw[eh];congr 1;omega
 have l:∀v,bJ (bz T k) v=bJ (Go.AX.popN T (T.lits.length -(T.beg[k]).toNat)) v:=λv=>by unfold bJ bz;rw[f]
 have q:=Sl.1 h.rise;have o:∀b∈T.beg.take k,0<=b∧b<T.beg[k]:=λb e=>by
  obtain⟨i,hi,rfl⟩:=SS.1 e;exact⟨(h.bnd _ (RK _)).1,q i k (by omega) hk (by omega)⟩
 have a:(bz T k).lits.length=(T.beg[k]).toNat:=by rw[g,RN];omega
 refine⟨{hn:=h.hn,len:=?_,chk:=?_,nd:=?_,mark:=?_,free:=?_,bnd:=?_,rise:=?_},g,rfl⟩
 .unfold bz;rw[f];exact m.len
 .intro y hy;rw[g]at hy;exact h.chk y (Sx hy)
 .rw[g];exact h.nd.sublist ((UM _ T.lits).map ah)
 .intro i hi;have p:i<(Go.AX.popN T (T.lits.length -(T.beg[k]).toNat)).lits.length:=by rw[d,←g];exact hi
  have r:(bz T k).lits[i]=(Go.AX.popN T (T.lits.length -(T.beg[k]).toNat)).lits[i]:=by simp only[g,d]
  rw[l,r];obtain⟨t,u,w⟩:=m.mark i p;refine⟨t,u.trans ?_,w⟩;rw[tJ];unfold mM;congr 1;rw[←SI k T.beg,S5];have:((T.beg.take k++T.beg.drop k).take k)=T.beg.take k:=by rw[SI]
  show _=((bz T k).beg.filter _).length;have e:(bz T k).beg=T.beg.take k:=rfl;rw[e];have hd:(T.beg.drop k).filter (λb=>decide (b<=(i:Int)))=[]:=by
   rw[Tz];intro b e;obtain⟨j,hj,rfl⟩:=Um.1 e;have:T.beg[k]<=T.beg[k+j]:=by
    by_cases c:j=0
    .subst c;exact T8 _
    .exact Wv (q k (k+j) hk (by omega) (by omega))
   rw[a]at hi;simp;omega
  rw[hd,Tc]
 .intro v s;rw[l];refine m.free v ?_;rw[d,←g];exact s
 .intro b e;have:=o b e;rw[a];omega
 .exact h.rise.sublist (UM _ _)
end
def bF(byl:List (Int×List Int))(l:Int):List Int:=(lk byl l).getD []
theorem DP{byl:List (Int×List Int)}{l:Int}{zs:List Int}(h:lk byl l=some zs):bF byl l=zs:=by unfold bF;rw[h];rfl
theorem PZ{byl:List (Int×List Int)}{l k:Int}(h:k∈bF byl l):∃zs,lk byl l=some zs∧k∈zs:=by
 unfold bF at h;cases a:lk byl l with
 |none=>rw[a]at h;cases h
 |some zs=>rw[a]at h;exact⟨zs,rfl,h⟩
theorem jD(byl:List (Int×List Int))(k l m:Int):bF (fH byl k l) m=if l≠0∧m=l then bk (λx=>decide (x=k)) (bF byl l)else bF byl m:=by
 unfold bF fH
 by_cases c:l=0
 .rw[RI c,RH (λh=>h.1 c)]
 .rw[RH c,bK]
  by_cases d:m=l
  .rw[RI d.symm,RI ⟨c,d⟩];rfl
  .rw[RH (λe=>d e.symm),RH (λh=>d h.2)]
theorem IV{k j:Int}{l:List Int}:j∈bk (λx=>decide (x=k)) l↔j∈l∧j≠k:=by
 unfold bk;rw[SD];simp
theorem pH{byl:List (Int×List Int)}{k l m j:Int}:j∈bF (fH byl k l) m↔j∈bF byl m∧¬(l≠0∧m=l∧j=k):=by
 rw[jD]
 by_cases c:l≠0∧m=l
 .rw[RI c,IV,c.2];constructor
  .exactλh=>⟨h.1,λq=>h.2 q.2.2⟩
  .exactλh=>⟨h.1,λq=>h.2 ⟨c.1,rfl,q⟩⟩
 .rw[RH c];exact⟨λh=>⟨h,λq=>c ⟨q.1,q.2.1⟩⟩,λh=>h.1⟩
theorem xA{byl:List (Int×List Int)}(h:∀l,(bF byl l).Nodup)(k l m:Int):(bF (fH byl k l) m).Nodup:=by
 rw[jD];split
 .exact(h l).sublist VR
 .exact h m
theorem nf(byl:List (Int×List Int))(k l m:Int):bF (gE byl k l) m=if m=l then bF byl l++[k]else bF byl m:=by
 unfold bF gE;rw[bK]
 by_cases d:m=l
 .rw[RI d,RI d.symm];rfl
 .rw[RH d,RH (λe=>d e.symm)]
theorem pI{byl:List (Int×List Int)}{k l m j:Int}:j∈bF (gE byl k l) m↔j∈bF byl m∨(m=l∧j=k):=by
 rw[nf]
 by_cases d:m=l
 .rw[RI d,d];simp
 .rw[RH d];simp[d]
theorem xB{byl:List (Int×List Int)}(h:∀l,(bF byl l).Nodup){k l:Int}(hk:k∉bF byl l)(m:Int):(bF (gE byl k l) m).Nodup:=by
 rw[nf];split
 .rw[UA];refine⟨h l,by simp,λa d b c e=>?_⟩;simp at c;subst c;subst e;exact hk d
 .exact h m
structure Wch (n:Nat) (S:WS):Prop where
  nd:(S.prs.map (·.1)).Nodup
  lits:∀k p,lk S.prs k=some p->(0<=k∧k<=20000000)∧p.lits.Nodup∧p.lits.length<=1000∧∀y∈p.lits,ax y n=0
  lnd:(S.late.map (·.1)).Nodup
  lpr:∀k∈S.late.map (·.1),∃p,lk S.prs k=some p
  two:∀k p,lk S.prs k=some p->(k∈S.late.map (·.1)∧p.x=0∧p.y=0)∨(k∉S.late.map (·.1)∧p.x≠p.y∧p.x∈p.lits∧p.y∈p.lits)
  bnd:∀l,(bF S.byl l).Nodup
  mem:∀l k,k∈bF S.byl l↔l≠0∧∃p,lk S.prs k=some p∧(p.x=l∨p.y=l)
theorem qx{α:Type}{l:List (Int×α)}{k:Int}{x:α}(h:lk l k=some x):k∈l.map (·.1):=mem_keys.1 (by rw[h];rfl)
theorem rN{α:Type}{l:List (Int×α)}(h:(l.map (·.1)).Nodup)(k x:Int):x∈(dl l k).map (·.1)↔x∈l.map (·.1)∧x≠k:=by
 rw[tI,h.mem_erase_iff];exact⟨λq=>⟨q.2,q.1⟩,λq=>⟨q.2,q.1⟩⟩
theorem Mn{α:Type}{l:List (Int×α)}(h:(l.map (·.1)).Nodup)(k:Int):((dl l k).map (·.1)).Nodup:=by rw[tI];exact h.erase k
section
variable {n : Nat} {S : WS}
theorem Wch.pos(h:Wch n S){k:Int}{p:Pr}(hp:lk S.prs k=some p)(hk:k∉S.late.map (·.1)):p.x≠0∧p.y≠0∧p.x≠p.y∧p.x∈p.lits∧p.y∈p.lits:=by
 rcases h.two k p hp with⟨a,_⟩|⟨_,a,b,c⟩
 .exact absurd a hk
 .have d:=(h.lits k p hp).2.2.2;have z:∀y∈p.lits,y≠0:=λy hy e=>by
   have:=d y hy;rw[e]at this;unfold ax nD at this;split at this
   .omega
   .simp at this
  exact⟨z _ b,z _ c,a,b,c⟩
theorem Wch.zer(h:Wch n S){k:Int}{p:Pr}(hp:lk S.prs k=some p)(hk:k∈S.late.map (·.1)):p.x=0∧p.y=0:=by
 rcases h.two k p hp with⟨_,a⟩|⟨a,_⟩
 .exact a
 .exact absurd hk a
theorem Wch.nby(h:Wch n S){k:Int}{p:Pr}(hp:lk S.prs k=some p)(hk:k∈S.late.map (·.1))(l:Int):k∉bF S.byl l:=λb=>by
 obtain⟨l0,q,a,e⟩:=(h.mem l k).1 b;rw[hp]at a;cases a
 obtain⟨c,d⟩:=h.zer hp hk;rw[c,d]at e;omega
theorem Wch.entry(h:Wch n S){k:Int}{p:Pr}(hp:lk S.prs k=some p){l:Int}(l0:l≠0)(a:p.x=l∨p.y=l):∃zs,lk S.byl l=some zs∧k∈zs:=PZ ((h.mem l k).2 ⟨l0,p,hp,a⟩)
theorem Wch.hz(h:Wch n S)(b:S.prs.length<=1000000):∀l zs,lk S.byl l=some zs->zs.length<=1000000:=λl zs hz=>by
 have e:=DP hz;have h1:=h.bnd l;rw[e]at h1;have a:zs⊆S.prs.map (·.1):=λk hk=>by
  obtain⟨_,p,hp,_⟩:=(h.mem l k).1 (by rw[e];exact hk);exact qx hp
 have:=(cZ _ _ h1 a);rw[RR]at this;omega
theorem eq{α:Type}{l:List (Int×α)}{k j:Int}{y:α}(hj:j≠k):lk (pt l k y) j=lk l j:=by rw[bK,RH (λe=>hj e.symm)]
theorem d0{α:Type}{l:List (Int×α)}{k:Int}{y:α}:lk (pt l k y) k=some y:=by rw[bK,RI rfl]
theorem Wch.toLate(h:Wch n S){k:Int}{p:Pr}(hp:lk S.prs k=some p)(hk:k∉S.late.map (·.1))(v:Int):Wch n ⟨(mH S k p).prs,(mH S k p).byl,pt S.late k v,S.head,S.seen⟩:=by
 obtain⟨s,t,r,hx,hy⟩:=h.pos hp hk;have f:(pt S.prs k ⟨p.lits,0,0⟩).map (·.1)=S.prs.map (·.1):=iS _ hp;have g:∀j,j∈(pt S.late k v).map (·.1)↔j=k∨j∈S.late.map (·.1):=λj=>mJ _ _ _ _;refine⟨?_,?_,?_,?_,?_,?_,?_⟩
 .show((pt S.prs k _).map (·.1)).Nodup;rw[f];exact h.nd
 .intro j q d;have d:lk (pt S.prs k ⟨p.lits,0,0⟩) j=some q:=d
  by_cases e:j=k
  .subst e;rw[d0]at d;cases d;exact h.lits j p hp
  .rw[eq e]at d;exact h.lits j q d
 .exact j9 _ _ _ h.lnd
 .intro j hj;show∃q,lk (pt S.prs k ⟨p.lits,0,0⟩) j=some q
  by_cases e:j=k
  .subst e;exact⟨_,d0⟩
  .rw[eq e];rcases(g j).1 hj with c|c
   .exact absurd c e
   .exact h.lpr j c
 .intro j q d;have d:lk (pt S.prs k ⟨p.lits,0,0⟩) j=some q:=d;show(j∈(pt S.late k v).map (·.1)∧_)∨(j∉(pt S.late k v).map (·.1)∧_);rw[g]
  by_cases e:j=k
  .subst e;rw[d0]at d;cases d;exact .inl ⟨.inl rfl,rfl,rfl⟩
  .rw[eq e]at d;rcases h.two j q d with⟨a,b⟩|⟨a,b⟩
   .exact .inl ⟨.inr a,b⟩
   .exact .inr ⟨λc=>c.elim e a,b⟩
 .exactλm=>xA (λm=>xA h.bnd k p.x m) k p.y m
 .intro m j;show j∈bF (fH (fH S.byl k p.x) k p.y) m↔m≠0∧∃q,lk (pt S.prs k ⟨p.lits,0,0⟩) j=some q∧_;rw[pH,pH,h.mem]
  by_cases e:j=k
  .subst e;rw[d0];constructor
   .rintro⟨⟨⟨i,q,d,c⟩,l⟩,o⟩;rw[hp]at d;cases d
    rcases c with c|c
    .exact absurd ⟨s,c.symm,rfl⟩ l
    .exact absurd ⟨t,c.symm,rfl⟩ o
   .rintro⟨i,q,d,c⟩;cases d
    simp at c;exact absurd c.symm i
  .rw[eq e];exact⟨λq=>q.1.1,λq=>⟨⟨q,λz=>e z.2.2⟩,λz=>e z.2.2⟩⟩
theorem Wch.watch(h:Wch n S){k:Int}{p:Pr}(hp:lk S.prs k=some p)(hk:k∈S.late.map (·.1)){a b:Int}(i:a≠b)(o:a∈p.lits)(r:b∈p.lits):Wch n ⟨pt S.prs k ⟨p.lits,a,b⟩,gE (gE S.byl k a) k b,dl S.late k,S.head,S.seen⟩:=by
 have g:(pt S.prs k ⟨p.lits,a,b⟩).map (·.1)=S.prs.map (·.1):=iS _ hp;have l:∀j,j∈(dl S.late k).map (·.1)↔j∈S.late.map (·.1)∧j≠k:=λj=>rN h.lnd k j;have hz:∀y∈p.lits,y≠0:=λy hy e=>by
  have:=(h.lits k p hp).2.2.2 y hy;rw[e]at this;unfold ax nD at this;split at this
  .omega
  .simp at this
 refine⟨?_,?_,?_,?_,?_,?_,?_⟩
 .show((pt S.prs k _).map (·.1)).Nodup;rw[g];exact h.nd
 .intro j q f;have f:lk (pt S.prs k ⟨p.lits,a,b⟩) j=some q:=f
  by_cases e:j=k
  .subst e;rw[d0]at f;cases f;exact h.lits j p hp
  .rw[eq e]at f;exact h.lits j q f
 .exact Mn h.lnd k
 .intro j hj;obtain⟨h1,s⟩:=(l j).1 hj;show∃q,lk (pt S.prs k ⟨p.lits,a,b⟩) j=some q;rw[eq s];exact h.lpr j h1
 .intro j q f;have f:lk (pt S.prs k ⟨p.lits,a,b⟩) j=some q:=f;show(j∈(dl S.late k).map (·.1)∧_)∨(j∉(dl S.late k).map (·.1)∧_);rw[l]
  by_cases e:j=k
  .subst e;rw[d0]at f;cases f;exact .inr ⟨λc=>c.2 rfl,i,o,r⟩
  .rw[eq e]at f;rcases h.two j q f with⟨c,d⟩|⟨c,d⟩
   .exact .inl ⟨⟨c,e⟩,d⟩
   .exact .inr ⟨λz=>c z.1,d⟩
 .intro m;refine xB (λm=>xB h.bnd (h.nby hp hk a) m) ?_ m;rw[pI];rintro(c|c)
  .exact h.nby hp hk b c
  .exact i c.1.symm
 .intro m j;show j∈bF (gE (gE S.byl k a) k b) m↔m≠0∧∃q,lk (pt S.prs k ⟨p.lits,a,b⟩) j=some q∧_;rw[pI,pI]
  by_cases e:j=k
  .subst e;rw[d0];constructor
   .rintro((c|c)|c)
    .exact absurd c (h.nby hp hk m)
    .rw[c.1];exact⟨hz a o,_,rfl,.inl rfl⟩
    .rw[c.1];exact⟨hz b r,_,rfl,.inr rfl⟩
   .rintro⟨t,q,f,c⟩;cases f
    rcases c with c|c
    .exact .inl (.inr ⟨c.symm,rfl⟩)
    .exact .inr ⟨c.symm,rfl⟩
  .rw[eq e,h.mem];constructor
   .rintro((c|c)|c)
    .exact c
    .exact absurd c.2 e
    .exact absurd c.2 e
   .exactλc=>.inl (.inl c)
theorem Wch.move(h:Wch n S){k l x:Int}{p:Pr}(hp:lk S.prs k=some p)(l0:l≠0)(i:p.x=l∨p.y=l)(hx:x∈p.lits)(h1:x≠l)(b:x≠pC l p):Wch n (rl S k l p x):=by
 have hk:k∉S.late.map (·.1):=λhk=>by
  obtain⟨D,E⟩:=h.zer hp hk;rw[D,E]at i;omega
 obtain⟨F,G,s,o,r⟩:=h.pos hp hk;have hz:x≠0:=λe=>by
  have:=(h.lits k p hp).2.2.2 x hx;rw[e]at this;unfold ax nD at this;split at this
  .omega
  .simp at this
 have f:∀q:Pr,(pt S.prs k q).map (·.1)=S.prs.map (·.1):=λq=>iS _ hp;have w:(jd l p x).lits=p.lits∧(jd l p x).x≠(jd l p x).y∧(jd l p x).x∈p.lits∧(jd l p x).y∈p.lits∧∀m,((jd l p x).x=m∨(jd l p x).y=m)↔(x=m∨(m≠l∧(p.x=m∨p.y=m))):=by
  unfold jd;unfold pC at b
  by_cases c:p.x=l
  .rw[RI c]at b⊢;refine⟨rfl,b,hx,r,λm=>?_⟩;show(x=m∨p.y=m)↔_;constructor
   .rintro(e|e)
    .exact .inl e
    .exact .inr ⟨λq=>s (by rw[c,e,q]),.inr e⟩
   .rintro(e|⟨g,e|e⟩)
    .exact .inl e
    .exact absurd (e.symm.trans c) g
    .exact .inr e
  .rw[RH c]at b⊢;have hy:p.y=l:=i.elim (λe=>absurd e c) id;refine⟨rfl,λe=>b e.symm,o,hx,λm=>?_⟩;show(p.x=m∨x=m)↔_;constructor
   .rintro(e|e)
    .exact .inr ⟨λq=>c (e.trans q),.inl e⟩
    .exact .inl e
   .rintro(e|⟨g,e|e⟩)
    .exact .inr e
    .exact .inl e
    .exact absurd (e.symm.trans hy) g
 obtain⟨v,A,B,C,u⟩:=w;refine⟨?_,?_,h.lnd,?_,?_,?_,?_⟩
 .show((pt S.prs k _).map (·.1)).Nodup;rw[f];exact h.nd
 .intro j q a;have a:lk (pt S.prs k (jd l p x)) j=some q:=a
  by_cases e:j=k
  .subst e;rw[d0]at a;cases a;rw[v];exact h.lits j p hp
  .rw[eq e]at a;exact h.lits j q a
 .intro j hj;show∃q,lk (pt S.prs k (jd l p x)) j=some q
  by_cases e:j=k
  .subst e;exact⟨_,d0⟩
  .rw[eq e];exact h.lpr j hj
 .intro j q a;have a:lk (pt S.prs k (jd l p x)) j=some q:=a
  by_cases e:j=k
  .subst e;rw[d0]at a;cases a;rw[v];exact .inr ⟨hk,A,B,C⟩
  .rw[eq e]at a;exact h.two j q a
 .intro m;refine xB (λm=>xA h.bnd k l m) ?_ m;rw[pH,h.mem];rintro⟨⟨_,q,a,c⟩,_⟩;rw[hp]at a;cases a
  unfold pC at b
  by_cases d:p.x=l
  .rw[RI d]at b;rcases c with c|c
   .exact h1 (c.symm.trans d)
   .exact b c.symm
  .rw[RH d]at b;rcases c with c|c
   .exact b c.symm
   .exact h1 (c.symm.trans (i.elim (λe=>absurd e d) id))
 .intro m j;show j∈bF (gE (fH S.byl k l) k x) m↔m≠0∧∃q,lk (pt S.prs k (jd l p x)) j=some q∧_;rw[pI,pH,h.mem]
  by_cases e:j=k
  .subst e;rw[d0];constructor
   .rintro(⟨⟨t,q,a,c⟩,d⟩|⟨c,_⟩)
    .rw[hp]at a;cases a
     exact⟨t,_,rfl,(u m).2 (.inr ⟨λz=>d ⟨l0,z,rfl⟩,c⟩)⟩
    .rw[c];exact⟨hz,_,rfl,(u x).2 (.inl rfl)⟩
   .rintro⟨t,q,a,c⟩;cases a
    rcases(u m).1 c with c|⟨c1,c2⟩
    .exact .inr ⟨c.symm,rfl⟩
    .exact .inl ⟨⟨t,p,hp,c2⟩,λz=>c1 z.2.1⟩
  .rw[eq e];constructor
   .rintro(⟨c,_⟩|⟨_,c⟩)
    .exact c
    .exact absurd c e
   .exactλc=>.inl ⟨c,λz=>e z.2.2⟩
theorem Wch.put(h:Wch n S){k:Int}(hk:k∉S.prs.map (·.1))(k0:0<=k∧k<=20000000){lits:List Int}(hn:lits.Nodup)(l:lits.length<=1000)(i:∀y∈lits,ax y n=0)(v:Int):Wch n ⟨pt S.prs k ⟨lits,0,0⟩,S.byl,pt S.late k v,S.head,S.seen⟩:=by
 have g:lk S.prs k=none:=by
  cases d:lk S.prs k with
  |none=>rfl
  |some p=>exact absurd (qx d) hk
 have f:∀j,j∈(pt S.late k v).map (·.1)↔j=k∨j∈S.late.map (·.1):=λj=>mJ _ _ _ _;refine⟨j9 _ _ _ h.nd,?_,j9 _ _ _ h.lnd,?_,?_,h.bnd,?_⟩
 .intro j q d;have d:lk (pt S.prs k ⟨lits,0,0⟩) j=some q:=d
  by_cases e:j=k
  .subst e;rw[d0]at d;cases d;exact⟨k0,hn,l,i⟩
  .rw[eq e]at d;exact h.lits j q d
 .intro j hj;show∃q,lk (pt S.prs k ⟨lits,0,0⟩) j=some q
  by_cases e:j=k
  .subst e;exact⟨_,d0⟩
  .rw[eq e];rcases(f j).1 hj with c|c
   .exact absurd c e
   .exact h.lpr j c
 .intro j q d;have d:lk (pt S.prs k ⟨lits,0,0⟩) j=some q:=d;show(j∈(pt S.late k v).map (·.1)∧_)∨(j∉(pt S.late k v).map (·.1)∧_);rw[f]
  by_cases e:j=k
  .subst e;rw[d0]at d;cases d;exact .inl ⟨.inl rfl,rfl,rfl⟩
  .rw[eq e]at d;rcases h.two j q d with⟨a,b⟩|⟨a,b⟩
   .exact .inl ⟨.inr a,b⟩
   .exact .inr ⟨λc=>c.elim e a,b⟩
 .intro m j;show j∈bF S.byl m↔m≠0∧∃q,lk (pt S.prs k ⟨lits,0,0⟩) j=some q∧_;rw[h.mem]
  by_cases e:j=k
  .subst e;rw[d0,g];constructor
   .rintro⟨_,q,d,_⟩;cases d
   .rintro⟨o,q,d,c⟩;cases d
    simp at c;exact absurd c.symm o
  .rw[eq e]
end
inductive Grow (C:Int->List Int->Prop) (n:Nat) (T0:Tr):Tr->Prop
  |refl:Grow C n T0 T0
  |step {T:Tr} {k o:Int} {c:List Int}:Grow C n T0 T->C k c->o∈c->fE T o=0->0<=k->(∀y∈c,y≠o->-y∈T.lits)->Grow C n T0 (gy T o k)
theorem Grow.trans{C:Int->List Int->Prop}{n:Nat}{T0 c d:Tr}(a:Grow C n T0 c)(b:Grow C n c d):Grow C n T0 d:=by
 induction b with
 |refl=>exact a
 |step _ h1 e f g h i=>exact .step i h1 e f g h
theorem Grow.mono{C b:Int->List Int->Prop}{n:Nat}{T0 d:Tr}(h:∀k c,C k c->b k c)(a:Grow C n T0 d):Grow b n T0 d:=by
 induction a with
 |refl=>exact .refl
 |step _ h1 e f g i j=>exact .step j (h _ _ h1) e f g i
theorem Grow.pre{C:Int->List Int->Prop}{n:Nat}{T0 b:Tr}(a:Grow C n T0 b):T0.lits<+:b.lits∧b.beg=T0.beg:=by
 induction a with
 |refl=>exact⟨VE _,rfl⟩
 |step _ h1 d e f g c=>exact⟨c.1.trans (List.prefix_append _ _),c.2⟩
def CW(S:WS)(k:Int)(c:List Int):Prop:=∃p,lk S.prs k=some p∧p.lits=c
structure SameL (S S':WS):Prop where
  keys:S'.prs.map (·.1)=S.prs.map (·.1)
  lits:∀k c,CW S' k c↔CW S k c
theorem SameL.refl(S:WS):SameL S S:=⟨rfl,λ_ _=>Iff.rfl⟩
theorem SameL.trans{S S' d:WS}(a:SameL S S')(b:SameL S' d):SameL S d:=⟨b.keys.trans a.keys,λk c=>(b.lits k c).trans (a.lits k c)⟩
theorem SameL.pt{S:WS}{k:Int}{p q:Pr}(hp:lk S.prs k=some p)(d:q.lits=p.lits)(byl:List (Int×List Int))(late:List (Int×Int))(hd:Int)(sn:List Int):SameL S ⟨Go.AX.pt S.prs k q,byl,late,hd,sn⟩where
 keys:=iS _ hp
 lits:=λj c=>by
  unfold CW;show(∃f,lk (Go.AX.pt S.prs k q) j=some f∧_)↔_
  by_cases e:j=k
  .subst e;rw[d0,hp];constructor
   .rintro⟨_,a,b⟩;cases a;exact⟨p,rfl,d▸b⟩
   .rintro⟨_,a,b⟩;cases a;exact⟨q,rfl,d.trans b⟩
  .rw[eq e]
structure Pro (n:Nat) (S0:WS) (T0:Tr) (S:WS) (T:Tr):Prop where
  wch:Wch n S
  tok:TOk n T
  same:SameL S0 S
  grow:Grow (CW S0) n T0 T
  head:S.head=S0.head
  seen:S.seen=S0.seen
def nN(S:WS)(P:List Int):Prop:=∀y∈P,bF S.byl (-y)=[]
def mN(S:WS)(T:Tr)(k:Int):Prop:=∀p,lk S.prs k=some p->∃x∈p.lits,x∈T.lits
theorem mN.up{S S':WS}{T T':Tr}{k:Int}(h:mN S T k)(hs:SameL S S')(b:∀x∈T.lits,x∈T'.lits):mN S' T' k:=λp hp=>by
 obtain⟨q,c,e⟩:=(hs.lits k p.lits).1 ⟨p,hp,rfl⟩;obtain⟨x,hx,a⟩:=h q c;exact⟨x,e▸hx,b x a⟩
section
variable {n : Nat}
theorem tN{T:Tr}(d:TMk n T){lits:List Int}(e:∀y∈lits,ax y n=0){x:Int}:x∈eZ T lits↔x∈lits∧-x∉T.lits:=by
 unfold eZ;rw[SD];constructor
 .rintro⟨a,b⟩;refine⟨a,λc=>?_⟩;have:=(d.valm (e x a)).2 c;simp[this]at b
 .rintro⟨a,b⟩;refine⟨a,?_⟩;have h1:=d.val (e x a);rw[RH b]at h1;split at h1<;>simp[h1]
theorem IW{T:Tr}{lits:List Int}(h:lits.Nodup):(eZ T lits).Nodup:=h.sublist VR
theorem IX{T:Tr}(a:TMk n T){lits:List Int}(b:∀y∈lits,ax y n=0):lQ T lits=true↔∃x∈lits,x∈T.lits:=by
 unfold lQ;rw[Tm];constructor
 .rintro⟨x,hx,e⟩;exact⟨x,hx,(a.val1 (b x hx)).1 (by simpa using e)⟩
 .rintro⟨x,hx,e⟩;exact⟨x,hx,by simpa using(a.val1 (b x hx)).2 e⟩
theorem DQ{T:Tr}(c:TMk n T){p:Pr}(d:∀y∈p.lits,ax y n=0):mI T p=true↔∀y∈p.lits,-y∈T.lits:=by
 unfold mI;rw[R0,Td,UO];constructor
 .intro h y hy;apply R6;intro e;exact h y ((tN c d).2 ⟨hy,e⟩)
 .intro h y hy;obtain⟨a,b⟩:=(tN c d).1 hy;exact b (h y a)
theorem Pro.fresh{S0 S:WS}{T0 T:Tr}(h:Pro n S0 T0 S T){k:Int}{p:Pr}(hp:lk S.prs k=some p)(hk:k∈S.late.map (·.1))(w:mI T p=false):
 Pro n S0 T0 (jK S T k p) (l5 T k p)∧(∀j,j∈(jK S T k p).late.map (·.1)->j∈S.late.map (·.1))∧(∀j,j∈S.late.map (·.1)->j≠k->j∈(jK S T k p).late.map (·.1))∧(k∈(jK S T k p).late.map (·.1)->mN (jK S T k p) (l5 T k p) k)∧SameL S (jK S T k p)∧Grow (CW S0) n T (l5 T k p)∧
 (∀y,y∈T.lits->bF (jK S T k p).byl (-y)=bF S.byl (-y)):=by
 obtain⟨k0,s,A,m⟩:=h.wch.lits k p hp;have hin:=λx=>tN (x:=x) h.tok.toTMk m;have u:=IW (T:=T) s;have t:=IX h.tok.toTMk m;unfold jK l5;unfold mI at w;generalize eZ T p.lits=O at*;rcases O with _|⟨a,_|⟨b,O⟩⟩
 .simp at w
 .rw[RH (by simp)];obtain⟨d,g⟩:=(hin a).1 (R2 ..);cases hd:lQ T p.lits
  .rw[RI ⟨rfl,rfl⟩];have r:a∉T.lits:=λe=>by rw[t.2 ⟨a,d,e⟩]at hd;cases hd
   have o:fE T a=0:=(h.tok.may a).2 ⟨m a d,r,g⟩;have C:jb T a k=gy T a k:=by
    have B:wW T a k=0:=by
     unfold wW;rw[RH (by simp[o]),RH (by omega)]
    unfold jb;rw[RI B]
   have l:CW S0 k p.lits:=(h.same.lits _ _).1 ⟨p,hp,rfl⟩;have ho:∀y∈p.lits,y≠a->-y∈T.lits:=λy hy c=>by
    apply R6;intro l;have:=(hin y).2 ⟨hy,l⟩;simp at this;exact c this
   rw[Tp,C];have z:Grow (CW S0) n T (gy T a k):=.step .refl l d o k0.1 ho;refine⟨⟨h.wch,h.tok.imp o k,h.same,h.grow.trans z,h.head,h.seen⟩,λ_ hj=>hj,λ_ hj _=>hj,λ_=>?_,SameL.refl _,z,λ_ _=>rfl⟩;intro q f;rw[hp]at f;cases f
   exact⟨a,d,TV _ (by simp)⟩
  .rw[RH (by simp)];refine⟨h,λ_ hj=>hj,λ_ hj _=>hj,λ_=>?_,SameL.refl _,.refl,λ_ _=>rfl⟩;intro q f;rw[hp]at f;cases f
   exact t.1 hd
 .rw[RI (by simp),RH (by simp)];simp only[Tp,TH];obtain⟨d,g⟩:=(hin a).1 (R2 ..);obtain⟨b1,b2⟩:=(hin b).1 (by simp);have i:a≠b:=λe=>by
   rw[Tg]at u;exact u.1 (by rw[e];simp)
  have D:=h.wch.watch hp hk i d b1;have v:SameL S ⟨pt S.prs k ⟨p.lits,a,b⟩,gE (gE S.byl k a) k b,dl S.late k,S.head,S.seen⟩:=SameL.pt (q:=⟨p.lits,a,b⟩) hp rfl _ _ _ _;refine⟨⟨D,h.tok,h.same.trans v,h.grow,h.head,h.seen⟩,λj hj=>((rN h.wch.lnd k j).1 hj).1,λj hj c=>(rN h.wch.lnd k j).2 ⟨hj,c⟩,λhj=>absurd rfl ((rN h.wch.lnd k k).1 hj).2,v,.refl,λy hy=>?_⟩;show bF (gE (gE S.byl k a) k b) (-y)=_;rw[nf,RH (λe=>b2 (by rw[←e,TJ];exact hy)),nf,RH (λe=>g (by rw[←e,TJ];exact hy))]
structure JL (n:Nat) (S0:WS) (T0:Tr) (P:List Int) (ks:List Int) (S:WS) (T:Tr):Prop extends Pro n S0 T0 S T where
  clr:nN S P
  sub':∀y∈P,y∈T.lits
  knd:ks.Nodup
  kin:∀k∈ks,k∈S.late.map (·.1)
  all:∀k∈S.late.map (·.1),k∈ks∨mN S T k
theorem JL.step{S0 S:WS}{T0 T:Tr}{P ks:List Int}{k:Int}(h:JL n S0 T0 P (k::ks) S T){p:Pr}(hp:lk S.prs k=some p)(g:mI T p=false):JL n S0 T0 P ks (jK S T k p) (l5 T k p):=by
 obtain⟨a,b,d,f,f5,f6,f7⟩:=h.toPro.fresh hp (h.kin k (R2 ..)) g;have hn:=Tg.1 h.knd;exact{a with
  clr:=λy hy=>by rw[f7 y (h.sub' y hy)];exact h.clr y hy
  sub':=λy hy=>f6.pre.1.subset (h.sub' y hy)
  knd:=hn.2
  kin:=λj hj=>d j (h.kin j (RZ _ hj)) λe=>hn.1 (e▸hj)
  all:=λj hj=>by
   rcases h.all j (b j hj)with c|c
   .rcases R9.1 c with rfl|c
    .exact .inr (f hj)
    .exact .inl c
   .exact .inr (c.up f5 λx hx=>f6.pre.1.subset hx)}
def qU(S:WS)(T:Tr)(k:Int):Prop:=0<=k∧∃p,lk S.prs k=some p∧∀y∈p.lits,-y∈T.lits
theorem DR{S0:WS}{T0:Tr}{P:List Int}:∀{ks:List Int}{S:WS}{T:Tr},JL n S0 T0 P ks S T->
 ((ia ks S T).2.2=-1∧JL n S0 T0 P [] (ia ks S T).1 (ia ks S T).2.1)∨(0<=(ia ks S T).2.2∧Pro n S0 T0 (ia ks S T).1 (ia ks S T).2.1∧nN (ia ks S T).1 P∧(∀y∈P,y∈(ia ks S T).2.1.lits)∧qU (ia ks S T).1 (ia ks S T).2.1 (ia ks S T).2.2)
 |[],S,T,h=>.inl ⟨rfl,h⟩
 |k::ks,S,T,h=>by
  obtain⟨p,hp⟩:=h.wch.lpr k (h.kin k (R2 ..));obtain⟨k0,_,_,b⟩:=h.wch.lits k p hp;rw[ia,hp];simp only;cases a:mI T p
  .rw[RH (by simp)];exact DR (h.step hp a)
  .rw[RI rfl];exact .inr ⟨k0.1,h.toPro,h.clr,h.sub',k0.1,p,hp,(DQ h.tok.toTMk b).1 a⟩
structure JF (n:Nat) (S0:WS) (T0:Tr) (P:List Int) (l:Int) (zs:List Int) (S:WS) (T:Tr):Prop extends Pro n S0 T0 S T where
  clr:nN S P
  sub':∀y∈P,y∈T.lits
  by':bF S.byl l=zs
  fail:-l∈T.lits
  held:∀k∈S.late.map (·.1),mN S T k
theorem JF.look{S0 S:WS}{T0 T:Tr}{P zs:List Int}{l k:Int}(h:JF n S0 T0 P l (k::zs) S T):∃p,lk S.prs k=some p∧l≠0∧(p.x=l∨p.y=l)∧k∉S.late.map (·.1):=by
 have hk:k∈bF S.byl l:=by rw[h.by'];exact R2 ..
 obtain⟨l0,p,hp,b⟩:=(h.wch.mem l k).1 hk;exact⟨p,hp,l0,b,λa=>h.wch.nby hp a l hk⟩
theorem qz{k:Int}{zs:List Int}(h:(k::zs).Nodup):bk (λx=>decide (x=k)) (k::zs)=zs:=by
 have hn:=Tg.1 h;unfold bk;rw[Sz,RH (by simp),TG];intro x hx;have:x≠k:=λe=>hn.1 (e▸hx);simp[this]
theorem gV{byl:List (Int×List Int)}{k l m:Int}(h:bF byl m=[]):bF (fH byl k l) m=[]:=by
 rw[jD];split
 .rename_i c;rw[←c.2,h];rfl
 .exact h
theorem Lq{l:Int}{p:Pr}(a:p.x≠p.y)(b:p.x=l∨p.y=l):(p.x=l∧pC l p=p.y∧p.y≠l)∨(p.y=l∧pC l p=p.x∧p.x≠l):=by
 unfold pC
 by_cases c:p.x=l
 .rw[RI c];exact .inl ⟨c,rfl,λe=>a (c.trans e.symm)⟩
 .rw[RH c];exact .inr ⟨b.elim (λe=>absurd e c) id,rfl,c⟩
theorem JF.step{S0 S:WS}{T0 T:Tr}{P zs:List Int}{l k:Int}(h:JF n S0 T0 P l (k::zs) S T){p:Pr}(hp:lk S.prs k=some p)(hb:qs T l p=false):JF n S0 T0 P l zs (oC S T l k p) (pE T l k p):=by
  obtain⟨q,hq,l0,hl,hk⟩:=h.look
  rw[hp]at hq
  cases hq
  obtain⟨x0,y0,hxy,hpx,hpy⟩:=h.wch.pos hp hk
  obtain⟨k0,hnd,hlen,hchk⟩:=h.wch.lits k p hp
  have hnz:(k::zs).Nodup:=by rw[←h.by'];exact h.wch.bnd l
  unfold oC pE
  unfold qs at hb
  cases hpk:mK T l p with
  |some x=>
    unfold mK at hpk
    have hx:=List.mem_of_find?_eq_some hpk
    have ho:=List.find?_some hpk
    unfold Nf at ho
    simp only[RQ,R0]at ho
    obtain⟨o1,o2,o3⟩:=ho
    have hW:=h.wch.move hp l0 hl hx o1 o2
    have hM:(jd l p x).lits=p.lits:=by unfold jd;split<;>rfl
    have hS:SameL S (rl S k l p x):=SameL.pt hp hM _ _ _ _
    have hnx:-x∉T.lits:=λe=>by
      have:=(h.tok.valm (hchk x hx)).2 e
      omega
    exact { wch := hW, tok := h.tok, same := h.same.trans hS, grow := h.grow, head := h.head, seen := h.seen
            clr:=λy hy=>by
              show bF (gE (fH S.byl k l) k x) (-y)=[]
              rw[nf,RH (λe=>hnx (by rw[←e,TJ];exact h.sub' y hy))]
              exact gV (h.clr y hy)
            sub':=h.sub'
            by':=by
              show bF (gE (fH S.byl k l) k x) l=zs
              rw[nf,RH (λe=>o1 e.symm),jD,RI ⟨l0,rfl⟩,h.by',qz hnz]
            fail:=h.fail
            held:=λj hj=>(h.held j hj).up hS λ_ hx=>hx}
  |none=>
    rw[hpk]at hb
    simp only at hb⊢
    have hL:=h.wch.toLate hp hk (aR ((lk S.late k).getD 0+1))
    have hS1:SameL S (lS (mH S k p) k):=SameL.pt (q:=⟨p.lits,0,0⟩) hp rfl _ _ _ _
    have hP1:Pro n S0 T0 (lS (mH S k p) k) T:=⟨hL,h.tok,h.same.trans hS1,h.grow,h.head,h.seen⟩
    have hlk:∀j,j∈(lS (mH S k p) k).late.map (·.1)↔j=k∨j∈S.late.map (·.1):=λj=>mJ _ _ _ _
    have hp1:lk (lS (mH S k p) k).prs k=some (pD p):=d0
    obtain⟨f1,f2,f3,f4,f5,f6,f7⟩:=hP1.fresh hp1 ((hlk k).2 (.inl rfl)) hb
    have hby:bF (lS (mH S k p) k).byl l=zs:=by
      show bF (fH (fH S.byl k p.x) k p.y) l=zs
      rcases Lq hxy hl with⟨c,_,d⟩|⟨c,_,d⟩
      · rw[jD,RH (λe=>d e.2.symm),jD,RI ⟨x0,c.symm⟩,c,h.by',qz hnz]
      · rw[jD,RI ⟨y0,c.symm⟩,c,jD,RH (λe=>d e.2.symm),h.by',qz hnz]
    have hsub:∀y∈T.lits,y∈(l5 T k (pD p)).lits:=λy hy=>f6.pre.1.subset hy
    exact{f1 with
      clr:=λy hy=>by
        rw[f7 y (h.sub' y hy)]
        exact gV (gV (h.clr y hy))
      sub':=λy hy=>hsub y (h.sub' y hy)
      by':=by
        have:=f7 (-l) h.fail
        rw[TJ]at this
        rw[this];exact hby
      fail:=hsub _ h.fail
      held:=λj hj=>by
        rcases(hlk j).1 (f2 j hj)with rfl|c
        · exact f4 hj
        · exact((h.held j c).up (hS1.trans f5) hsub)}
theorem JF.bad{S0 S:WS}{T0 T:Tr}{P zs:List Int}{l k:Int}(h:JF n S0 T0 P l (k::zs) S T){p:Pr}(hp:lk S.prs k=some p)(a:qs T l p=true):
 Pro n S0 T0 (oC S T l k p) (pE T l k p)∧nN (oC S T l k p) P∧pE T l k p=T∧qU (oC S T l k p) T k:=by
 obtain⟨q,i,l0,s,hk⟩:=h.look;rw[hp]at i;cases i
 obtain⟨k0,r,g,b⟩:=h.wch.lits k p hp;unfold oC pE;unfold qs at a;cases c:mK T l p with
 |some x=>rw[c]at a;cases a
 |none=>
  rw[c]at a;simp only at a⊢;have f:=a;unfold mI at f;rw[R0]at f;have j:jK (lS (mH S k p) k) T k (pD p)=lS (mH S k p) k:=by unfold jK;rw[RH (by omega)]
  have m:l5 T k (pD p)=T:=by unfold l5;rw[RH (by omega)]
  rw[j,m];have o:=h.wch.toLate hp hk (aR ((lk S.late k).getD 0+1));have d:SameL S (lS (mH S k p) k):=SameL.pt (q:=⟨p.lits,0,0⟩) hp rfl _ _ _ _;have e:lk (lS (mH S k p) k).prs k=some (pD p):=d0;exact⟨⟨o,h.tok,h.same.trans d,h.grow,h.head,h.seen⟩,λy hy=>gV (gV (h.clr y hy)),rfl,k0.1,_,e,(DQ (p:=pD p) h.tok.toTMk b).1 a⟩
theorem DS{S0:WS}{T0:Tr}{P:List Int}{l:Int}:∀{zs:List Int}{S:WS}{T:Tr},JF n S0 T0 P l zs S T->
 ((gU l zs S T).2.2=-1∧JF n S0 T0 P l [] (gU l zs S T).1 (gU l zs S T).2.1)∨(0<=(gU l zs S T).2.2∧Pro n S0 T0 (gU l zs S T).1 (gU l zs S T).2.1∧nN (gU l zs S T).1 P∧(∀y∈P,y∈(gU l zs S T).2.1.lits)∧qU (gU l zs S T).1 (gU l zs S T).2.1 (gU l zs S T).2.2)
 |[],S,T,h=>.inl ⟨rfl,h⟩
 |k::zs,S,T,h=>by
  obtain⟨p,hp,_⟩:=h.look;rw[gU,hp];simp only;cases a:qs T l p
  .rw[RH (by simp)];exact DS (h.step hp a)
  .rw[RI rfl];obtain⟨b1,b2,b3,b4⟩:=h.bad hp a;exact .inr ⟨b4.1,b1,b2,λy hy=>by rw[b3];exact h.sub' y hy,by rw[b3];exact b4⟩
end
structure JC (n:Nat) (S0:WS) (T0:Tr) (S:WS) (T:Tr):Prop where
  wch:Wch n S
  tok:TOk n T
  same:SameL S0 S
  grow:Grow (CW S0) n T0 T
  seen:S.seen=S0.seen
  h0:0<=S.head
  h1:S.head<=T.lits.length
  clr:nN S (T.lits.take S.head.toNat)
structure JP (n:Nat) (S0:WS) (T0:Tr) (S:WS) (T:Tr):Prop extends JC n S0 T0 S T where
  held:∀k∈S.late.map (·.1),mN S T k
section
variable {n : Nat} {S0 : WS} {T0 : Tr}
theorem CW.same{S S':WS}(h:SameL S S'){n:Nat}{T T':Tr}(g:Grow (CW S') n T T'):Grow (CW S) n T T':=g.mono λk c a=>(h.lits k c).1 a
theorem SameL.len{S S':WS}(h:SameL S S'):S'.prs.length=S.prs.length:=by
 have:=Ul List.length h.keys;simpa using this
theorem tO{l l':List Int}(h:l<+:l'){k:Nat}(hk:k<=l.length):l'.take k=l.take k:=by
 obtain⟨t,rfl⟩:=h;exact TM hk
theorem JP.neg{S:WS}{T:Tr}(h:JP n S0 T0 S T)(hd:S.head<T.lits.length):∃i:Nat,∃hi:i<T.lits.length,S.head=i∧dL T S=-T.lits[i]:=by
 have h0:=h.h0;refine⟨S.head.toNat,by omega,by omega,?_⟩;have hi:S.head.toNat<T.lits.length:=by omega
 unfold dL;rw[RG,RF hi,Sm];exact(bA h.tok.hn (h.tok.chk _ (RK hi))).2.2.2.2.2.2.2
theorem JP.begin{S:WS}{T:Tr}(h:JP n S0 T0 S T){i:Nat}(hi:i<T.lits.length)(hh:S.head=i):JF n S T (T.lits.take i) (-T.lits[i]) (bF S.byl (-T.lits[i])) S T:=
  { wch := h.wch, tok := h.tok, same := SameL.refl _, grow := .refl, head := rfl, seen := rfl
    clr:=by have:=h.clr;rw[hh]at this;exact this
    sub':=λy hy=>Sx hy
    by':=rfl
    fail:=by rw[TJ];exact RK hi
    held:=h.held}
theorem Ls(S:WS)(T:Tr)(l:Int):fT S T l=gU l (bF S.byl l) S T:=by
 unfold fT bF;cases lk S.byl l with
 |none=>rfl
 |some zs=>rfl
theorem IY{S:WS}{i:Nat}(h:S.head=i)(hi:i<1000000):Ng S=⟨S.prs,S.byl,S.late,((i+1:Nat):Int),S.seen⟩:=by
 unfold Ng;rw[h,ap (by omega) (by omega)];rfl
theorem JP.go{S:WS}{T:Tr}(h:JP n S0 T0 S T)(hd:S.head<T.lits.length):
    ((fT S T (dL T S)).2.2=-1∧JP n S0 T0 (Ng (fT S T (dL T S)).1) (fT S T (dL T S)).2.1∧(fT S T (dL T S)).1.head=S.head∧T.lits<+:(fT S T (dL T S)).2.1.lits)∨
    (0<=(fT S T (dL T S)).2.2∧JC n S0 T0 (fT S T (dL T S)).1 (fT S T (dL T S)).2.1∧qU (fT S T (dL T S)).1 (fT S T (dL T S)).2.1 (fT S T (dL T S)).2.2):=by
  obtain⟨i,hi,hh,hn⟩:=h.neg hd
  have hfew:=h.tok.few
  have hn5:=h.tok.hn
  rw[hn,Ls]
  rcases DS (h.begin hi hh)with⟨r1,r2⟩|⟨r1,r2,r3,r4,r5⟩
  · left
    generalize gU (-T.lits[i]) (bF S.byl (-T.lits[i])) S T=R at*
    have hpre:=r2.grow.pre.1
    have hhd:R.1.head=i:=r2.head.trans hh
    rw[IY hhd (by omega)]
    refine⟨r1,?_,r2.head,hpre⟩
    have hle:=hpre.length_le
    exact { wch := ⟨r2.wch.nd, r2.wch.lits, r2.wch.lnd, r2.wch.lpr, r2.wch.two, r2.wch.bnd, r2.wch.mem⟩
            tok:=r2.tok,same:=h.same.trans ⟨r2.same.keys,r2.same.lits⟩,grow:=h.grow.trans (CW.same h.same r2.grow),seen:=r2.seen.trans h.seen
            h0:=by show(0:Int)<=((i+1:Nat):Int);omega
            h1:=by show((i+1:Nat):Int)<=_;omega
            clr:=by
              show nN _ (R.2.1.lits.take ((i+1:Nat):Int).toNat)
              rw[show((i+1:Nat):Int).toNat=i+1 by omega,tO hpre (by omega),SA,RF hi]
              intro y hy
              rcases RS.1 hy with hy|hy
              · exact r2.clr y hy
              · simp at hy;rw[hy];exact r2.by'
            held:=r2.held}
  · right
    generalize gU (-T.lits[i]) (bF S.byl (-T.lits[i])) S T=R at*
    have hpre:=r2.grow.pre.1
    have hle:=hpre.length_le
    refine⟨r1,?_,r5⟩
    have hhd:R.1.head=i:=r2.head.trans hh
    exact { wch := r2.wch, tok := r2.tok, same := h.same.trans r2.same, grow := h.grow.trans (CW.same h.same r2.grow), seen := r2.seen.trans h.seen
            h0:=by omega,h1:=by omega
            clr:=by rw[hhd,show(i:Int).toNat=i by omega,tO hpre (by omega)];exact r3}
theorem DU:∀{m:Nat}{S:WS}{T:Tr},JP n S0 T0 S T->1000001<=S.head+m->
 ((lD m S T).2.2=-1∧JP n S0 T0 (lD m S T).1 (lD m S T).2.1∧(lD m S T).1.head=(lD m S T).2.1.lits.length)∨
 (0<=(lD m S T).2.2∧JC n S0 T0 (lD m S T).1 (lD m S T).2.1∧qU (lD m S T).1 (lD m S T).2.1 (lD m S T).2.2)
 |0,S,T,h,d=>by
  have:=h.h1;have:=h.tok.few;have:=h.tok.hn;omega
 |m+1,S,T,h,d=>by
  rw[lD]
  by_cases hd:S.head<T.lits.length
  .rw[RI hd];rcases h.go hd with⟨a,b,r3,e⟩|⟨a,b,r3⟩
   .rw[RH (by omega)];refine DU b ?_;obtain⟨i,hi,c,_⟩:=h.neg hd;have:=h.tok.few;have:=h.tok.hn;rw[IY (r3.trans c) (by omega)];show 1000001<=((i+1:Nat):Int)+m;omega
   .rw[RI a];exact .inr ⟨a,b,r3⟩
  .rw[RH hd];have:=h.h1;exact .inl ⟨rfl,h,by show S.head=T.lits.length;omega⟩
theorem JF.stepOk{P zs:List Int}{l k:Int}{S:WS}{T:Tr}(h:JF n S0 T0 P l (k::zs) S T)(f:S.prs.length<=1000000):∃p,StepOk S T l k p:=by
 obtain⟨p,hp,l0,c,hk⟩:=h.look;obtain⟨d,r,b,i,j⟩:=h.wch.pos hp hk;have a:∀m:Int,m≠0->(p.x=m∨p.y=m)->∃zs,lk S.byl m=some zs∧zs≠[]:=λm o g=>by
  obtain⟨zs,e,hz⟩:=h.wch.entry hp o g;exact⟨zs,e,λq=>by rw[q]at hz;cases hz⟩
 have:=h.tok.few;have:=h.tok.hn;refine⟨p,hp,l0,c,by have:=(h.wch.lits k p hp).2.2.1;omega,a l l0 c,λ_=>a _ d (.inl rfl),λ_=>?_,h.wch.hz f,h.tok.okT,by omega⟩;obtain⟨zs,e,hz⟩:=a _ r (.inr rfl);refine⟨zs,?_,hz⟩;unfold fH;rw[RH d,bK,RH b];exact e
theorem P0(f:S0.prs.length<=1000000):ProOk (JP n S0 T0)where
 ok:=λS T h=>by
  have:=h.tok.few;have:=h.tok.hn;exact⟨h.tok.okT,by omega,h.h0,h.h1⟩
 step:=λS T h hd zs b=>by
  obtain⟨i,hi,g,hn⟩:=h.neg hd;have a:S.prs.length<=1000000:=by rw[h.same.len];exact f
  refine⟨h.wch.hz a _ _ b,λj S' T'=>JF n S T (T.lits.take i) (dL T S) (zs.drop j) S' T',?_,λj S' T' hj c=>?_⟩
  .show JF n S T (T.lits.take i) (dL T S) zs S T;rw[←DP b,hn];exact h.begin hi g
  .have hj:JF n S T (T.lits.take i) (dL T S) (zs.drop j) S' T':=hj;rw[Sk c]at hj;obtain⟨p,d⟩:=hj.stepOk (by rw[hj.same.len];exact a);exact⟨p,d,λe=>hj.step d.hp e⟩
 len:=λS T h hd=>by
  have k:=h.tok.hn;rcases h.go hd with⟨_,r,_⟩|⟨_,r,_⟩
  .have:=r.tok.few;omega
  .have:=r.tok.few;omega
 next:=λS T h hd hk=>by
  rcases h.go hd with r|⟨r,_⟩
  .exact r
  .exact absurd r hk
end
structure WOk (n:Nat) (S:WS):Prop extends Wch n S where
  few:S.prs.length<=1000000
  h0:0<=S.head
  h1:S.head<=S.seen.length
  sl:S.seen.length<=1000000
  clr:nN S (S.seen.take S.head.toNat)
structure PrpOk (n:Nat) (S:WS) (T:Tr) (R:WS×Tr×Int):Prop where
  ok:WOk n R.1
  tok:TOk n R.2.1
  same:SameL S R.1
  grow:Grow (CW S) n T R.2.1
  seen:R.1.seen=R.2.1.lits
  res:(R.2.2=-1∧∀k p,lk R.1.prs k=some p->(∃x∈p.lits,x∈R.2.1.lits)∨∃x y,x∈p.lits∧y∈p.lits∧x≠y∧-x∉R.2.1.lits∧-y∉R.2.1.lits)∨qU R.1 R.2.1 R.2.2
theorem DV:∀(a b:List Int),io a b<=a.length∧io a b<=b.length
 |[],_=>⟨RW _,RW _⟩
 |_::_,[]=>⟨RW _,RW _⟩
 |x::a,y::b=>by
  rw[io];have:=DV a b;simp only[Sa];split<;>omega
theorem vM:∀(a b:List Int)(k:Nat),k<=io a b->a.take k=b.take k
 |a,b,0,_=>by simp
 |[],_,k+1,h=>by rw[io]at h;omega;intros;simp_all
 |_::_,[],k+1,h=>by rw[io]at h;omega;intros;simp_all
 |x::a,y::b,k+1,h=>by
  rw[io]at h;split at h
  .rename_i e;rw[Vh,Vh,e,vM a b k (by omega)]
  .omega
section
variable {n : Nat} {S : WS} {T : Tr}
theorem WOk.shr(h:WOk n S)(a:TOk n T):JC n (cA S T.lits) T (cA S T.lits) T:=by
 obtain⟨f,g⟩:=DV S.seen T.lits;have b:=h.h0;have e:(cA S T.lits).head=if(io S.seen T.lits:Int)<S.head then(io S.seen T.lits:Int)else S.head:=rfl;have a0:0<=(cA S T.lits).head:=by rw[e];split<;>omega
 have c:(cA S T.lits).head<=io S.seen T.lits:=by rw[e];split<;>omega
 have d:(cA S T.lits).head<=S.head:=by rw[e];split<;>omega
 refine{wch:=⟨h.nd,h.lits,h.lnd,h.lpr,h.two,h.bnd,h.mem⟩,tok:=a,same:=SameL.refl _,grow:=.refl,seen:=rfl,h0:=a0,h1:=by omega,clr:=?_};rw[←vM S.seen T.lits _ (by omega)];intro y hy;refine h.clr y ?_;have:S.seen.take (cA S T.lits).head.toNat<+:S.seen.take S.head.toNat:=List.take_prefix_take_left (by omega);exact this.subset hy
theorem WOk.jl(h:WOk n S)(hT:TOk n T):JL n (cA S T.lits) T (T.lits.take (cA S T.lits).head.toNat) (cL (S.late.map (·.1))) (cA S T.lits) T:=
  have hc:=h.shr hT
  { wch := hc.wch, tok := hT, same := SameL.refl _, grow := .refl, head := rfl, seen := rfl
    clr:=hc.clr
    sub':=λy hy=>Sx hy
    knd:=zP h.lnd
    kin:=λk hk=>vG.1 hk
    all:=λk hk=>.inl (vG.2 hk)}
theorem Pro.jc{S0 S':WS}{T0 T':Tr}(h:Pro n S0 T0 S' T')(h0:0<=S0.head)(h1:S0.head<=T0.lits.length)(hc:nN S' (T0.lits.take S0.head.toNat)):JC n S0 T0 S' T':=by
  have hpre:=h.grow.pre.1
  have hle:=hpre.length_le
  exact { wch := h.wch, tok := h.tok, same := h.same, grow := h.grow, seen := h.seen, h0 := by rw [h.head]; exact h0, h1 := by rw [h.head]; omega
          clr:=by rw[h.head,tO hpre (by omega)];exact hc}
theorem DW(h:WOk n S)(d:TOk n T):
 ((fU (cA S T.lits) T).2.2=-1∧JP n (cA S T.lits) T (fU (cA S T.lits) T).1 (fU (cA S T.lits) T).2.1)∨
 (0<=(fU (cA S T.lits) T).2.2∧JC n (cA S T.lits) T (fU (cA S T.lits) T).1 (fU (cA S T.lits) T).2.1∧qU (fU (cA S T.lits) T).1 (fU (cA S T.lits) T).2.1 (fU (cA S T.lits) T).2.2):=by
 have b:=h.shr d;have e:fU (cA S T.lits) T=ia (cL (S.late.map (·.1))) (cA S T.lits) T:=rfl;rw[e];rcases DR (h.jl d)with⟨c,a⟩|⟨c,a,r3,g,f⟩
 .exact .inl ⟨c,{a.toPro.jc b.h0 b.h1 a.clr with held:=λk hk=>(a.all k hk).resolve_left (by simp)}⟩
 .exact .inr ⟨c,a.jc b.h0 b.h1 r3,f⟩
theorem JC.fin{S':WS}{T':Tr}{k:Int}(f:S.prs.length<=1000000)(h:JC n (cA S T.lits) T S' T')
 (i:(k=-1∧(∀k∈S'.late.map (·.1),mN S' T' k)∧S'.head=T'.lits.length)∨qU S' T' k):PrpOk n S T (⟨S'.prs,S'.byl,S'.late,S'.head,T'.lits⟩,T',k):=by
 have d:=h.tok.few;have hn:=h.tok.hn;have e:Wch n ⟨S'.prs,S'.byl,S'.late,S'.head,T'.lits⟩:=⟨h.wch.nd,h.wch.lits,h.wch.lnd,h.wch.lpr,h.wch.two,h.wch.bnd,h.wch.mem⟩;refine⟨{e with few:=by show S'.prs.length<=_;rw[h.same.len];exact f,h0:=h.h0,h1:=h.h1,sl:=by show T'.lits.length<=_;omega,clr:=h.clr},h.tok,⟨h.same.keys,h.same.lits⟩,h.grow,rfl,?_⟩;rcases i with⟨rfl,j,l⟩|⟨k0,p,hp,r⟩
 .refine .inl ⟨rfl,λk p hp=>?_⟩;have hp:lk S'.prs k=some p:=hp
  by_cases c:k∈S'.late.map (·.1)
  .exact .inl (j k c p hp)
  .obtain⟨b,m,a,hx,hy⟩:=h.wch.pos hp c;have key:∀x,x≠0->(p.x=x∨p.y=x)->-x∉T'.lits:=λx b hx g=>by
    have:=h.clr (-x) (by rw[l,show(T'.lits.length:Int).toNat=T'.lits.length by omega,R8];exact g);rw[TJ]at this;have hk:=(h.wch.mem x k).2 ⟨b,p,hp,hx⟩;rw[this]at hk;cases hk
   exact .inr ⟨p.x,p.y,hx,hy,a,key _ b (.inl rfl),key _ m (.inr rfl)⟩
 .exact .inr ⟨k0,p,hp,r⟩
theorem xC(h:WOk n S)(f:TOk n T):PrpOk n S T (dC S T):=by
 have i:=h.shr f;have b:ip S T=if 0<=(fU (cA S T.lits) T).2.2 then fU (cA S T.lits) T else lD 1000001 (fU (cA S T.lits) T).1 (fU (cA S T.lits) T).2.1:=rfl;have hp:dC S T=(⟨(ip S T).1.prs,(ip S T).1.byl,(ip S T).1.late,(ip S T).1.head,(ip S T).2.1.lits⟩,(ip S T).2.1,(ip S T).2.2):=rfl;rw[hp];rcases DW h f with⟨g,e⟩|⟨g,e,r3⟩
 .rw[RH (by omega)]at b;have:=e.h0;rcases DU (m:=1000001) e (by omega)with⟨d,a,c⟩|⟨d,a,c⟩
  .rw[←b]at d a c;exact a.toJC.fin h.few (.inl ⟨d,a.held,c⟩)
  .rw[←b]at d a c;exact a.fin h.few (.inr c)
 .rw[RI g]at b;rw[b];exact e.fin h.few (.inr r3)
theorem IZ(h:List (List SV))(bw ba bt:Nat)(mp:List (Int×Nat))(mb:List (Int×By))(A:Ar)(L:LayW h bw ba bt mp mb A T S)(b:WOk n S)(d:TOk n T):
 aB Tryz.prog 91 [.ptr bw 0] h (λr h'=>r=.pv (ae (dC S T).2.2)∧∃mb',LayW h' bw ba bt mp mb' A (dC S T).2.1 (dC S T).1∧Ext h h' (aU bw bt mp mb) (aU bw bt mp mb')):=by
 have f:=d.few;have hn:=d.hn;have hj:=b.jl d;have c:=DW b d;refine ut h bw ba bt mp mb A T S L (by omega) b.sl (cL (S.late.map (·.1))) rfl (λi S' T'=>JL n (cA S T.lits) T (T.lits.take (cA S T.lits).head.toNat) ((cL (S.late.map (·.1))).drop i) S' T') (by rw[UT];exact hj) ?_ ?_ ?_ ?_ ?_ (JP n (cA S T.lits) T) (P0 b.few) ?_
 .intro q m;obtain⟨p,hp⟩:=b.lpr q.1 (TI m);have:=(b.lits _ _ hp).1;exact B4 (by omega) (by omega)
 .have g:S.late.map (·.1)⊆S.prs.map (·.1):=λk hk=>by
   obtain⟨p,hp⟩:=b.lpr k hk;exact qx hp
  have:=(cZ _ _ b.lnd g);rw[RR,RR]at this;have:=b.few;omega
 .intro i S' T' a hi;have a:JL n (cA S T.lits) T (T.lits.take (cA S T.lits).head.toNat) ((cL (S.late.map (·.1))).drop i) S' T':=a;rw[Sk hi]at a;have l:S'.prs.length<=1000000:=by rw[a.same.len];exact b.few
  obtain⟨p,hp⟩:=a.wch.lpr _ (a.kin _ (R2 ..));have:=a.tok.few;exact⟨a.tok.okT,by omega,a.wch.hz l,p,hp,by have:=(a.wch.lits _ _ hp).2.2.1;omega⟩
 .intro i S' T' p a hi hp j;have a:JL n (cA S T.lits) T (T.lits.take (cA S T.lits).head.toNat) ((cL (S.late.map (·.1))).drop i) S' T':=a;rw[Sk hi]at a;exact a.step hp j
 .rcases c with⟨_,r⟩|⟨_,r,_⟩
  .have:=r.tok.few;omega
  .have:=r.tok.few;omega
 .intro hk;rcases c with⟨e,o⟩|⟨e,_⟩
  .exact⟨e,o⟩
  .exact absurd e hk
end
structure UOk (n:Nat) (cs:List (List Int)):Prop where
  hn:n<=100000
  nd:∀c∈cs,c.Nodup
  len:∀c∈cs,c.length<=1000
  chk:∀c∈cs,∀y∈c,ax y n=0
def Cons(L:List Int):Prop:=∀y∈L,-y∉L
theorem I0{n:Nat}(hn:n<=100000){y:Int}(hy:ax y n=0)(l:List Int):bH l y=if y∈l then 1 else if-y∈l then-1 else 0:=by
 obtain⟨_,_,_,_,_,_,hx,a⟩:=bA hn hy;unfold bH;rw[RH (by omega),a]
theorem rO{n:Nat}(hn:n<=100000){y:Int}(hy:ax y n=0){l:List Int}:bH l y=-1↔y∉l∧-y∈l:=by
 rw[I0 hn hy];split
 .simp_all
 .split<;>simp_all
theorem DX{n:Nat}(hn:n<=100000){y:Int}(hy:ax y n=0){l:List Int}:bH l y=0↔y∉l∧-y∉l:=by
 rw[I0 hn hy];split
 .simp_all
 .split<;>simp_all
section
variable {n : Nat} {cs : List (List Int)} (h : UOk n cs)
include h
theorem UOk.unit{L c:List Int}(e:c∈cs)(g:(bD L c).2=true):(bD L c).1∈c∧(bD L c).1∉L∧-(bD L c).1∉L∧∀y∈c,y≠(bD L c).1->-y∈L:=by
 obtain⟨a,b,d⟩:=DA (h.len c e) (λy hy=>(bA h.hn (h.chk c e y hy)).2.2.2.2.2.2.1) g;obtain⟨b1,b2⟩:=(DX h.hn (h.chk c e _ a)).1 b;exact⟨a,b1,b2,λy hy f=>((rO h.hn (h.chk c e y hy)).1 (d y hy f)).2⟩
theorem UOk.unit_of{L c:List Int}(f:Cons L)(a:c∈cs){x:Int}(hx:x∈c)(h1:x∉L)(d:-x∉L)(ho:∀y∈c,y≠x->-y∈L):bD L c=(x,true):=
 Go.AX.unit_of (h.len c a) (h.nd c a) hx (bA h.hn (h.chk c a x hx)).2.2.2.2.2.2.1 ((DX h.hn (h.chk c a x hx)).2 ⟨h1,d⟩)
  λy hy b=>(rO h.hn (h.chk c a y hy)).2 ⟨λe=>f y e (ho y hy b),ho y hy b⟩
theorem UOk.fail{L c:List Int}(b:Cons L)(a:c∈cs):pS L c=-1↔∀y∈c,-y∈L:=by
 rw[mE];constructor
 .exactλq y hy=>((rO h.hn (h.chk c a y hy)).1 (q y hy (bA h.hn (h.chk c a y hy)).2.2.2.2.2.2.1)).2
 .exactλq y hy _=>(rO h.hn (h.chk c a y hy)).2 ⟨λe=>b y e (q y hy),q y hy⟩
end
inductive Der (cs:List (List Int)) (L0:List Int):List Int->Prop
  |base:Der cs L0 L0
  |step {L c:List Int} {x:Int}:Der cs L0 L->c∈cs->x∈c->x∉L->-x∉L->(∀y∈c,y≠x->-y∈L)->Der cs L0 (L++[x])
section
variable {n : Nat} {cs : List (List Int)} {L0 L : List Int}
theorem I4(c:Cons L){x:Int}(d:x≠0)(b:-x∉L):Cons (L++[x]):=by
 intro y hy a;rcases RS.1 hy with hy|hy
 .rcases RS.1 a with a|a
  .exact c y hy a
  .simp at a;exact b (by rw[←a,TJ];exact hy)
 .simp at hy;subst hy;rcases RS.1 a with a|a
  .exact b a
  .simp at a;omega
theorem Der.facts(h:UOk n cs)(d:Der cs L0 L)(j:Cons L0)(k:L0.Nodup):Cons L∧L.Nodup∧∃xs,L=L0++xs∧∀x∈xs,x∈cs.flatten:=by
 induction d with
 |base=>exact⟨j,k,[],by simp,by simp⟩
 |@step L c x _ g hx h1 i ho q=>
  obtain⟨m,o,xs,i3,p⟩:=q;refine⟨I4 m (bA h.hn (h.chk c g x hx)).1 i,?_,xs++[x],by rw[i3,Si],λy hy=>?_⟩
  .rw[UA];exact⟨o,by simp,λa l b f e=>by simp at f;subst f;subst e;exact h1 l⟩
  .rcases RS.1 hy with hy|hy
   .exact p y hy
   .simp at hy;subst hy;exact VC.2 ⟨c,g,hx⟩
theorem Der.in_calm(h:UOk n cs)(d:Der cs L0 L){M:List Int}(i:Cons M)(hs:∀x∈L0,x∈M)(j:Calm cs M):∀x∈L,x∈M:=by
 induction d with
 |base=>exact hs
 |@step L c x _ a hx h1 f ho k=>
  intro y hy;rcases RS.1 hy with hy|hy
  .exact k y hy
  .simp at hy;subst hy;apply R6;intro hn;have b:∀z∈c,z≠y->-z∈M:=λz hz g=>k _ (ho z hz g)
   by_cases q:-y∈M
   .refine(j c a).2 ((h.fail i a).2 λz hz=>?_)
    by_cases e:z=y
    .rw[e];exact q
    .exact b z hz e
   .have:=h.unit_of i a hx hn q b;have f:=(j c a).1;rw[this]at f;cases f
theorem vN(h:UOk n cs):∀(k:Nat)(L by':List Int),Der cs L0 L->Cons L0->L0.Nodup->
 ∃xs,(jW cs k L by').1=L++xs∧Der cs L0 (L++xs)∧(0<=(jW cs k L by').2.2->∃c∈cs,pS (L++xs) c=-1)∧((jW cs k L by').2.2<0->xs.length=k∨Calm cs (L++xs))
 |0,L,by',d,_,_=>⟨[],by simp[jW],by simpa using d,λh=>by simp[jW]at h,λ_=>.inl rfl⟩
 |k+1,L,by',d,r,s=>by
  rw[sY]
  by_cases c1:0<=ij cs L
  .rw[RI c1];obtain⟨i,hi,f,o⟩:=DB c1;exact⟨[],by simp,by simpa using d,λ_=>⟨_,RK hi,by rw[Tc];exact o⟩,λh=>by dsimp only at h;omega⟩
  rw[RH c1]
  by_cases c2:(eU cs L).2.2=false
  .rw[RI c2];exact⟨[],by simp,by simpa using d,λh=>by dsimp only at h;omega,λ_=>.inr (by rw[Tc];exact K6 (by omega) c2)⟩
  rw[RH c2];have b:∃c∈cs,(bD L c).2=true∧(eU cs L).1=(bD L c).1:=by
   unfold eU at*;split at c2
   .rename_i i m;rw[SR]at m;obtain⟨h1,p,_⟩:=m;have e:cs.getD i []=cs[i]:=by rw[RG,RF h1];rfl
    dsimp only;rw[e];exact⟨_,RK h1,p,rfl⟩
   .exact absurd rfl c2
  obtain⟨c,l,t,f⟩:=b;rw[f];obtain⟨u,v,w,y⟩:=h.unit l t;generalize(bD L c).1=x at*;obtain⟨xs,g,g2,g3,j⟩:=vN h k (L++[x]) (by'++[(eU cs L).2.1]) (.step d l u v w y) r s;have a:L++[x]++xs=L++x::xs:=by simp
  rw[a]at g g2 g3 j;exact⟨x::xs,g,g2,g3,λq=>(j q).imp (λe=>by simp[e]) id⟩
theorem I5(h:UOk n cs)(d:Cons L0)(f:L0.Nodup):Der cs L0 (eV cs L0).1∧(0<=(eV cs L0).2.2->∃c∈cs,pS (eV cs L0).1 c=-1)∧((eV cs L0).2.2<0->Calm cs (eV cs L0).1):=by
 obtain⟨xs,j,g2,g3,k⟩:=vN h (qR cs+1) L0 [] .base d f;have e:eV cs L0=jW cs (qR cs+1) L0 []:=rfl;rw[e,j];refine⟨g2,g3,λq=>(k q).resolve_left λhk=>?_⟩;obtain⟨_,b,ys,g,i⟩:=g2.facts h d f;have hx:ys=xs:=(List.append_cancel_left g).symm;subst hx;have a:ys.Nodup:=by rw[UA]at b;exact b.2.1
 have:=(cZ _ _ a i);rw[BQ]at hk;omega
theorem I6(h:UOk n cs)(k:Cons L0)(l:L0.Nodup){M:List Int}(d:Der cs L0 M)(f:Calm cs M∨∃c∈cs,pS M c=-1):
 (0<=(eV cs L0).2.2↔∃c∈cs,pS M c=-1)∧(Calm cs M->(eV cs L0).2.2<0∧M.length=(eV cs L0).1.length∧∀x∈M,x∈(eV cs L0).1):=by
 obtain⟨o,B,p⟩:=I5 h k l;obtain⟨i,v,xs,w,D⟩:=d.facts h k l;obtain⟨j,z,ys,A,E⟩:=o.facts h k l;have s:∀x∈L0,x∈M:=λx hx=>by rw[w];exact SX _ hx
 have t:∀x∈L0,x∈(eV cs L0).1:=λx hx=>by rw[A];exact SX _ hx
 have e:∀{M:List Int},Calm cs M->¬∃c∈cs,pS M c=-1:=λb ⟨c,h1,u⟩=>(b c h1).2 u;have key:Calm cs M->(eV cs L0).2.2<0:=λb=>by
  apply R6;intro hn;obtain⟨c,a,m⟩:=B (by omega);refine(b c a).2 ((h.fail i a).2 λy hy=>o.in_calm h i s b _ ((h.fail j a).1 m y hy))
 refine⟨⟨λq=>?_,λ⟨c,a,m⟩=>?_⟩,λb=>?_⟩
 .rcases f with f|f
  .have:=key f;omega
  .exact f
 .apply R6;intro hn;have g:=p (by omega);exact(g c a).2 ((h.fail j a).2 λy hy=>d.in_calm h j t g _ ((h.fail i a).1 m y hy))
 .have hk:=key b;have g:=p hk;have r:=d.in_calm h j t g;have C:=o.in_calm h i s b;exact⟨hk,VO (cZ _ _ v r) (cZ _ _ z C),r⟩
end
def zR(cs:List (List Int))(l:List Int):Bool:=!(eU cs l).2.2&&decide (ij cs l<0)
theorem I7{cs:List (List Int)}{l:List Int}(h:Calm cs l):zR cs l=true:=by
 unfold zR;rw[RQ];constructor
 .unfold eU;split
  .rename_i i b;rw[SR]at b;obtain⟨h1,a,_⟩:=b;have:=(h _ (RK h1)).1;rw[this]at a;cases a
  .rfl
 .rw[R0];apply R6;intro hn;obtain⟨i,hi,_,e⟩:=DB (show 0<=ij cs l by omega);exact(h _ (RK hi)).2 e
theorem Cl(cs:List (List Int))(l:List Int)(b:l.length<=1000000)(a:fewC cs):am Tryz.prog 109 [.seq false 1 (cs.map an),.seq false 1 (aa l)] (λr=>r=.pv (BL (zR cs l))):=by
 refine aq aE Tryz.func109 ?_;have c:=sX cs l b a;have d:=qQ cs l b a;unfold zR;simp;refine ai.intro c ?_;simp;refine aH.intro (λ_=>d) ?_;simp
end Go.AX
namespace Go.AX
set_option maxRecDepth 16000
open Go.Proofs
set_option linter.unusedSimpArgs false
def er(T:Tr)(v:Int):Tr:=if(if v<0 then 0 else v)<(T.beg.length:Int)then bz T (if v<0 then(0:Int)else v).toNat else T
theorem TOk.bak{n:Nat}{T:Tr}(h:TOk n T)(v:Int):TOk n (er T v):=by
 unfold er;obtain⟨m,a⟩:∃m:Int,(if v<0 then(0:Int)else v)=m:=⟨_,rfl⟩;have b:0<=m:=by rw[←a];split<;>omega
 rw[a]
 by_cases c:m<(T.beg.length:Int)
 .rw[RI c];exact(h.back (by omega)).1
 .rw[RH c];exact h
theorem I8(h:List (List SV))(b:Nat)(T:Tr)(g:h[b]?=some (gv T))(v:Int)(j:¬(if v<0 then 0 else v)<(T.beg.length:Int)):
 aB Tryz.prog 131 [.ptr b 0,ae v] h (λr h'=>h'=h∧r=.pv (.seq true 1 (aa []))):=by
 refine dV [] [.tmp 4] aE Tryz.func131 ?_;obtain⟨d,e⟩:=RE.1 g;have c:=mC T;have a:∀n,bG h (n+1) b 0=bM T:=λn=>cI g n;simp only[bM]at c a;obtain⟨m,i⟩:∃m:Int,(if v<0 then(0:Int)else v)=m:=⟨_,rfl⟩;rw[i]at j;have f:(T.beg.length:Int)<=m:=by omega
 simp[i];refine aj.introP (r:=.pv (BL true)) (by simpa[a]using c) ?_ (by simp[d]) (by simp);simp[e,d,gv,f,aa,bu,bd]
theorem I9(h:List (List SV))(b:Nat)(T:Tr)(F:h[b]?=some (gv T))(v:Int)(k:Nat)(K:(if v<0 then(0:Int)else v)=k)(hk:k<T.beg.length)(h0:0<=T.beg.getD k 0∧T.beg.getD k 0<=T.lits.length)(hs:T.lits.length<=1000000)(Q:∀y∈T.lits,0<=ah y∧ah y<T.marks.length):
 aB Tryz.prog 131 [.ptr b 0,ae v] h (λr h'=>h'=h.set b (gv (bz T k))∧r=.pv (.seq true 1 (aa (tL T (T.lits.length -(T.beg.getD k 0).toNat))))):=by
 refine iK [] [.tmp 4] (h.set b (gv (bz T k))) (by simp) (λD=>by rw[Sg];exact dQ (iL _ _) b D) aE Tryz.func131 ?_;obtain⟨a,G⟩:=RE.1 F;have x:T.beg.getD k 0=T.beg[k]:=by rw[RG,RF hk];rfl
 rw[x]at h0⊢;obtain⟨m,C⟩:∃m:Nat,T.beg[k]=(m:Int):=⟨T.beg[k].toNat,by omega⟩;have M:bz T k=⟨(popN T (T.lits.length -m)).marks,(popN T (T.lits.length -m)).lits,T.beg.take k⟩:=by unfold bz;rw[x,C];rfl
 rw[M,C,SQ];rw[C]at h0;clear M;have B:=mC T;have A:∀n,bG h (n+1) b 0=bM T:=λn=>cI F n;simp only[bM]at B A;simp[K];refine aj.introP (r:=.pv (BL true)) (by simpa[A]using B) ?_ (by simp[a]) (by simp);simp[G,a,gv,hk];refine aj.intro (FN h b) ?_;rintro _ _ ⟨rfl,rfl⟩;have E:h.set b (gv T)=h:=dt F;simp;refine av.intro (S:=λ(j:Nat)=>⟨[(0,.pv (.ptr b 0)),(1,.pv (ae k)),(5,.pv (.fn (.func 265) [] [.ptr h.length 0])),(6,.own true 1 (aa (tL T j)))],h.set b (gv (popN T j))++[[.pv (.ptr b 0)]]⟩) (λj=>j<=T.lits.length -m) (λj=>T.lits.length -j) 0 ?_ (RW _) ?_
 .rw[popN,E];exact(af.nilOwn (s:=6) 1 true (by simp)).trans (af.keep (by simp[tL,aa]) rfl)
 intro j hj;have u:(popN T j).lits.length=T.lits.length -j:=by rw[eh,RN];omega
 have g:=tJ T j;have w:∀y∈(popN T j).lits,0<=ah y∧ah y<(popN T j).marks.length:=λy hy=>by
  rw[eh]at hy;rw[DO];exact Q y (Sx hy)
 have t:popN T (j+1)=lE (popN T j):=rfl;have q:tL T (j+1)=tL T j++[(popN T j).lits.getD ((popN T j).lits.length -1) 0]:=rfl;have P:=tM T j;have d:=λ(h:List (List SV)) (n b:Nat) h1 N O=>Cj h n b (popN T j) h1 N O (by omega) w;have l:∀(Y z:List SV) D,(h.set b Y++[z])[b]'D=Y:=λY z D=>by rw[SE (by simpa using a)];simp
 have o:∀(Y z:List SV),(h.set b Y++[z])[b]?=some Y:=λY z=>by rw[RL (by simpa using a)];simp[a]
 have p:∀(Y z W:List SV),(h.set b Y++[z]).set b W=h.set b W++[z]:=λY z W=>by rw[wV (by simpa using a),UY]
 have f:b<h.length+1:=by omega
 by_cases c:m<T.lits.length -j
 .have L:(popN T j).lits≠[]:=λe=>by rw[e]at u;simp at u;omega
  have i:(m:Int)<((popN T j).lits.length:Int):=by omega
  have d:=d (h.set b (gv (popN T j))++[[.pv (.ptr b 0)]]) h.length b (by rw[R5 (by simp)];simp) (o _ _) L;rw[p]at d;generalize popN T j=X at*;simp only[gv,g]at d;simp[l,f,gv,g,hk,C,i];refine aj.intro d ?_;rintro _ _ ⟨rfl,rfl⟩;simp;refine⟨by omega,j+1,by(try dsimp only);omega,by(try dsimp only);omega,af.keep (by simp[q,aa]) (by simp[t])⟩
 .have i:¬(m:Int)<((popN T j).lits.length:Int):=by omega
  have I:j=T.lits.length -m:=by omega
  subst I;have H:(aa T.beg).take k=aa (T.beg.take k):=by unfold aa;rw[TR]
  have J:k<=T.beg.length:=by omega
  clear d w t q;generalize popN T (T.lits.length -m)=X at*;simp[l,p,f,gv,g,hk,C,i,H,J]
end Go.AX
namespace Go.AX
open Go.Proofs
set_option linter.unusedSimpArgs false
def fo(b:Bool):Int:=if b=true then 1 else 0
def dx(A:Ar)(id:Int)(lits:List Int)(b:Bool):Ar:=if jw id lits=0 then⟨A.row++([id,(lits.length:Int),fo b]++lits),pt A.hd A.row.length id⟩else A
set_option maxRecDepth 8000 in
theorem Ja(h:List (List SV))(b:Nat)(A:Ar)(g:h[b]?=some (mD A))(id:Int)(lits:List Int)(ln:Bool)(k:lits.length<=1000000)(l:A.row.length<=1000000000):
 aB Tryz.prog 127 [.ptr b 0,ae id,.seq false 1 (aa lits),BL ln] h (λr h'=>h'=h.set b (mD (dx A id lits ln))∧r=.pv (.tup [ae (if jw id lits=0 then A.row.length else 0),ae (jw id lits)])):=by
 refine iK [] [.tmp 8,.tmp 9] (h.set b (mD (dx A id lits ln))) (by simp) (λi=>by rw[Sg];exact dQ (BH _ _) b i) aE Tryz.func127 ?_;obtain⟨f,e⟩:=RE.1 g;have d:jw id lits=if id<1∨10000000<id then 2 else fu lits 100000:=rfl;have c:dx A id lits ln=if jw id lits=0 then⟨A.row++([id,(lits.length:Int),fo ln]++lits),pt A.hd A.row.length id⟩else A:=rfl;have a:h.set b (mD A)=h:=dt g;generalize dx A id lits ln=j at c⊢;generalize jw id lits=E at d c⊢;simp;refine aj.intro (sW h b A g) ?_;rintro _ _ ⟨rfl,rfl⟩
 by_cases c1:id<1
 .rw[RI (.inl c1)]at d;subst d;rw[RH (by omega)]at c;subst c;simp[c1,a]
 by_cases c2:10000000<id
 .rw[RI (.inr c2)]at d;subst d;rw[RH (by omega)]at c;subst c;simp[c1,c2,a]
 rw[RH (by omega)]at d;simp[c1,c2];refine ai.intro (sU lits 100000 (by omega)) ?_;rw[←d]
 by_cases c3:E=0
 rotate_left
 .rw[RH c3]at c;subst c;simp[c3,a]
 rw[RI c3]at c;subst c;cases ln
 .simp[c3,e,f,mD,fo];refine⟨by omega,by omega,?_⟩;rw[SK (by simp)];simp[aa]
 .simp[c3,e,f,mD,fo];refine⟨by omega,by omega,?_⟩;rw[SK (by simp)];simp[aa]
def Ni(A:Ar)(k:Int):Int:=if(lk A.hd k).getD 0=0 then 20 else 0
def P1(A:Ar)(k:Int):Ar:=if Ni A k=0 then⟨A.row.set (k.toNat+2) 2,dl A.hd k⟩else A
def pJ(A:Ar)(k:Int):Bool:=isA A k&&decide (A.row.getD (k.toNat+2) 0=1)
theorem Cm(h:List (List SV))(b:Nat)(A:Ar)(e:h[b]?=some (mD A))(k:Int)(hk:isA A k=true->0<=k∧k+2<A.row.length)(i:A.row.length<=1000000000):
 aB Tryz.prog 193 [.ptr b 0,ae k] h (λr h'=>h'=h∧r=.pv (BL (pJ A k))):=by
 refine fD [] [.tmp 4] aE Tryz.func193 ?_;obtain⟨d,a⟩:=RE.1 e;unfold pJ;simp;refine aj.intro (BI h b A e k) ?_;rintro _ _ ⟨rfl,rfl⟩;cases c:isA A k
 .simp[c]
 .obtain⟨k0,j⟩:=hk c;obtain⟨p,rfl⟩:∃p:Nat,k=p:=⟨k.toNat,by omega⟩;have g:aR ((p:Int)+2)=((p+2:Nat):Int):=by rw[ap (by omega) (by omega)];omega
  have hp:p+2<A.row.length:=by omega
  have f:((p:Int)+2).toNat=p+2:=by omega
  have g2:A.row[p+2]?=some A.row[p+2]:=RF hp;simp[c,a,d,mD,g,hp,f,g2];omega
def Jb(v:Int)(b:Bool):Int:=if v<1∨cF v=false then 0 else if b=true then v else-v
def P2(v:Int):Int:=if v<1∨cF v=false then 10 else 0
theorem Jc(v:Int)(b:Bool):am Tryz.prog 102 [ae v,BL b] (λr=>r=.pv (.tup [ae (Jb v b),ae (P2 v)])):=by
 refine mu [] [.tmp 4,.tmp 5] aE Tryz.func102 ?_;have c:=sN v;unfold Jb P2
 by_cases c1:v<1
 .simp[c1];refine aH.intro (r:=.pv (BL true)) (λh=>h.elim) ?_;simp[c1]
 .simp[c1];refine aH.intro (λ_=>c) ?_;cases c2:cF v
  .simp[c1,c2]
  .obtain⟨h1,d,e⟩:=(aY v).1 c2;have a:aR (-v)=-v:=ap (by omega) (by omega);cases b<;>simp[c1,c2,a]
end Go.AX
namespace Go.AX.V
open Go.Proofs
set_option linter.unusedSimpArgs false
theorem litO{y:Int}(h:cF y=true):y≠0∧-100000<=y∧y<=100000∧0<=aW y∧aR (-y)=-y:=by
 obtain⟨a,b,c⟩:=(aY y).1 h;exact⟨a,b,c,by rw[lp];exact h,ap (by omega) (by omega)⟩
theorem pL{l:Int}(h:cF l=true):1<=ah l∧ah l<=100000∧l≠0∧-100000<=l∧l<=100000∧ah l=dr l:=by
 obtain⟨a,b,c⟩:=(aY l).1 h;have e:ah l=dr l:=by unfold ah;rw[RI h]
 refine⟨?_,?_,a,b,c,e⟩<;>rw[e]<;>unfold dr<;>split<;>omega
theorem tW{l:Int}(h:cF l=true):cF (-l)=true:=by
 obtain⟨a,b,c⟩:=(aY l).1 h;exact(aY _).2 ⟨by omega,by omega,by omega⟩
theorem P3{y:Int}(h:cF y=true):cF y=true:=h
theorem okL_chk{l v:Int}(d:0<=v∧v<=100000)(h:ax l v=0):cF l=true:=by
 obtain⟨a,b,c⟩:=(dw d).1 h;exact(aY _).2 ⟨a,by omega,by omega⟩
structure RelT (T:Tr) (t:RT):Prop where
  vars:0<=t.vars∧t.vars<=100000
  len:(T.marks.length:Int)=t.vars+1
  lits:T.lits=t.rows.map (·.l)
  dep:t.dep=(T.beg.length:Int)
  chk:∀x∈t.rows,ax x.l t.vars=0
  ok:∀x∈t.rows,cF x.l=true∧0<=x.lev∧x.lev<=t.dep
  free:∀v:Int,qf t v<0->(bJ T v).v=0
  mark:∀(v:Int)(i:Nat)(hi:i<t.rows.length),qf t v=(i:Int)->bJ T v=⟨if t.rows[i].l<0 then-1 else 1,t.rows[i].lev,t.rows[i].rea,i⟩
theorem RelT.okT{T:Tr}{t:RT}(h:RelT T t):T.ok:=by
 have:=h.vars;have:=h.len;exact⟨by omega,by omega⟩
def RelD(T:Tr)(t:RT):Prop:=RelT T t∧T.beg.length<=t.rows.length
theorem xF{T:Tr}{t:RT}(h:RelT T t)(v:Int):(dH T v).1.lev=(PC t v).1∧(dH T v).1.rea=(PC t v).2∧(dH T v).1.pla=qf t v:=by
 unfold dH PC;have g:=h.len;have j:=h.vars
 by_cases c:qf t v<0
 .rw[RI c,RI]
  .refine⟨rfl,rfl,?_⟩;have:qf t v=-1:=by
    unfold qf iH at*;split at c
    .omega
    .rfl
   rw[this]
  .exact .inr (.inr (h.free v c))
 .obtain⟨i,hi,d,f⟩:=lm (t:=t) (v:=v) (by omega);obtain⟨a,_⟩:=pL (h.ok _ (RK hi)).1;have b:=(o9 h.vars (h.chk _ (RK hi))).2.1;have e:=h.mark v i hi d;rw[RH c,RH,e,d]
  .simp[hi]
  .rw[e];simp only;have:(if t.rows[i].l<0 then(-1:Int)else 1)≠0:=by split<;>omega
   simp[this];omega
theorem Jt{D:DK}(h:RelT D.T D.t){l:Int}{i:Nat}(hi:i<D.t.rows.length)(e:D.t.rows[i].l=l∨D.t.rows[i].l=-l):ax l D.t.vars=0:=by
 have a:=(dw h.vars).1 (h.chk _ (RK hi));exact(dw h.vars).2 (by rcases e with e|e<;>omega)
theorem rS{D:DK}(h:RelT D.T D.t){l:Int}(k:cF l=true){i:Nat}(hi:i<D.t.rows.length)(hp:qf D.t (ah l)=i):(D.t.rows[i].l=-l∧cu D.T l=-1)∨(D.t.rows[i].l=l∧cu D.T l=1):=by
 have c:((D.T.marks.length:Nat):Int) -1=D.t.vars:=by rw[h.len];omega
 have f:=h.mark _ i hi hp;obtain⟨j,hj,q,a⟩:=lm (t:=D.t) (v:=ah l) (by omega);have d:j=i:=by omega
 subst d;obtain⟨_,_,r,_,_,m⟩:=pL (h.ok _ (RK hi)).1;obtain⟨_,_,l0,_,_,n⟩:=pL k;rw[m,n]at a;have hs:D.t.rows[j].l=l∨D.t.rows[j].l=-l:=by unfold dr at a;split at a<;>split at a<;>omega
 unfold cu;rw[c,f,RH (λe=>e (Jt h hi hs))];unfold dr at a;dsimp only;have o:aR (-1)=-1:=by decide
 have p:aR (- -1)=1:=by decide
 by_cases g:l<0
 .rw[RI g]at a⊢
  by_cases b:D.t.rows[j].l<0
  .rw[RI b]at a⊢;rw[p];exact .inr ⟨by omega,rfl⟩
  .rw[RH b]at a⊢;rw[o];exact .inl ⟨by omega,rfl⟩
 .rw[RH g]at a⊢
  by_cases b:D.t.rows[j].l<0
  .rw[RI b]at a⊢;exact .inl ⟨by omega,rfl⟩
  .rw[RH b]at a⊢;exact .inr ⟨by omega,rfl⟩
theorem vU{D:DK}(h:RelT D.T D.t){l:Int}(a:cu D.T l≠0):cF l=true∧∃i,∃hi:i<D.t.rows.length,qf D.t (ah l)=i:=by
 have b:((D.T.marks.length:Nat):Int) -1=D.t.vars:=by rw[h.len];omega
 unfold cu at a;rw[b]at a
 by_cases c:ax l D.t.vars=0
 .refine⟨okL_chk h.vars c,?_⟩;rw[RH (λe=>e c)]at a
  by_cases d:0<=qf D.t (ah l)
  .obtain⟨i,hi,e,_⟩:=lm d;exact⟨i,hi,e⟩
  .rw[h.free _ (by omega)]at a;have f:aR (-0)=0:=by decide
   split at a
   .exact absurd f a
   .exact absurd rfl a
 .rw[RI c]at a;exact absurd rfl a
def DkR(D:DK):Prop:=∀i (hi:i<D.t.rows.length),D.t.rows[i].rea<0∨(isA D.A D.t.rows[i].rea=true∧D.t.rows[i].l∈aw D.A D.t.rows[i].rea∧∀y∈aw D.A D.t.rows[i].rea,cF y=true∧(y≠D.t.rows[i].l->aR (-y)∈(D.t.rows.take i).map (·.l)))
structure DeskOk (D:DK):Prop where
  rel:RelD D.T D.t
  relA:RelA D.A D.a
  rea:DkR D
  len:D.A.row.length<=1000000
theorem Ju{D:DK}(h:RelT D.T D.t){v:Int}(a:0<=(dH D.T v).1.rea):∃i,∃hi:i<D.t.rows.length,qf D.t v=i∧ah D.t.rows[i].l=v∧(dH D.T v).1.rea=D.t.rows[i].rea∧(dH D.T v).1.pla=i:=by
 obtain⟨_,d,e⟩:=xF h v;rw[d]at a⊢;unfold PC at a⊢
 by_cases c:qf D.t v<0
 .rw[RI c]at a;dsimp only at a;omega
 .obtain⟨i,hi,b,f⟩:=lm (t:=D.t) (v:=v) (by omega);refine⟨i,hi,b,f,?_,by rw[e,b]⟩;rw[RH c,b,SQ,RG,RF hi];rfl
theorem DeskOk.sh{D:DK}(h:DeskOk D){c:List Int}(d:c.length<=1000000):ShOk D.A D.T c where
 tr:=h.rel.1.okT
 ar:=λq f=>by
  obtain⟨x,hx,e⟩:=h.relA.is q f;obtain⟨p,a,b,_⟩:=h.relA.rows x hx;exact⟨p,_,by rw[←e,a],b⟩
 len:=h.len
 few:=d
 hd:=λv g=>by
  obtain⟨i,hi,_,_,e,_⟩:=Ju h.rel.1 g;rcases h.rea i hi with h1|⟨h1,_⟩
  .omega
  .exact HV h1
theorem Nj{D:DK}(h:DeskOk D){l:Int}(a:po D.A D.T l=true):∃i,∃hi:i<D.t.rows.length,cH D.T l=i∧D.t.rows[i].l=aR (-l)∧cF l=true∧(dH D.T (ah l)).1.rea=D.t.rows[i].rea∧0<=D.t.rows[i].rea:=by
 unfold po at a;simp only[Sw,Ug,Th]at a;obtain⟨⟨b1,b2⟩,_⟩:=a;obtain⟨i,hi,c,g,d,f⟩:=Ju h.rel.1 (v:=ah l) (by omega);obtain⟨b,_⟩:=vU h.rel.1 (l:=l) (by omega);refine⟨i,hi,f,?_,b,d,by omega⟩;rw[(litO b).2.2.2.2];rcases rS h.rel.1 b hi c with⟨e,_⟩|⟨_,e⟩
 .exact e
 .omega
theorem val3_m1_of{l:List Int}{y:Int}(hy:cF y=true)(h:-y∈l)(a:y∉l):bH l y=-1:=by
 obtain⟨_,_,_,hx,b⟩:=litO hy;unfold bH;rw[RH (by omega),RH a,RI (by rw[b];exact h)]
structure TraF (cs:List (List Int)) (ats:List Int) (t:RT):Prop where
  dep:0<=t.dep
  chk:∀x∈t.rows,cF x.l=true
  nd:(t.rows.map λx=>ah x.l).Nodup
  lev:∀x∈t.rows,0<=x.lev∧x.lev<=t.dep
  mono:∀i j (hi:i<t.rows.length)(hj:j<t.rows.length),i<j->t.rows[i].lev<=t.rows[j].lev
  dec:∀i (hi:i<t.rows.length),t.rows[i].rea<0->0<t.rows[i].lev∧∀j (hj:j<t.rows.length),j<i->t.rows[j].lev<t.rows[i].lev
  top:0<t.dep->Calm cs (bel t t.dep)
  fst:∀k:Int,0<k->k<=t.dep->∃x∈t.rows,x.lev=k∧x.rea<0
  imp:∀i (hi:i<t.rows.length),0<=t.rows[i].rea->∃k,∃hk:k<cs.length,t.rows[i].rea=ats.getD k 0∧t.rows[i].l∈cs[k]∧(∀y∈cs[k],y≠t.rows[i].l->∃j,∃hj:j<t.rows.length,j<i∧t.rows[j].l=-y)∧
    (0<t.rows[i].lev->∃y∈cs[k],y≠t.rows[i].l∧∃j,∃hj:j<t.rows.length,j<i∧t.rows[j].l=-y∧t.rows[j].lev=t.rows[i].lev)
theorem TraF.inj{cs:List (List Int)}{ats:List Int}{t:RT}(h:TraF cs ats t){i j:Nat}(hi:i<t.rows.length)(hj:j<t.rows.length)(e:ah t.rows[i].l=ah t.rows[j].l):i=j:=by
 have hn:=Sl.1 (Tu.1 h.nd);rcases TY i j with c|c|c
 .exact absurd e (hn i j hi hj c)
 .exact c
 .exact absurd e.symm (hn j i hj hi c)
theorem TraF.one{cs:List (List Int)}{ats:List Int}{t:RT}(h:TraF cs ats t){y:Int}(hy:cF y=true):¬(y∈dR t∧-y∈dR t):=by
 rintro⟨h1,d⟩;unfold dR at h1 d;obtain⟨a,g,e⟩:=RO.1 h1;obtain⟨b,k,f⟩:=RO.1 d;obtain⟨i,hi,rfl⟩:=RU g;obtain⟨j,hj,rfl⟩:=RU k;have m:ah t.rows[i].l=ah t.rows[j].l:=by rw[e,f,dJ]
 have c:i=j:=h.inj hi hj m;subst c;obtain⟨n0,_⟩:=litO hy;omega
structure ClsN (cs:List (List Int)) (ats:List Int):Prop where
  len:∀c∈cs,c.length<=1000
  chk:∀c∈cs,∀y∈c,cF y=true
  pos:∀k,k<cs.length->0<=ats.getD k 0
  nd:∀c∈cs,c.Nodup
theorem Jv{cs:List (List Int)}{ats:List Int}(o:ClsN cs ats){t:RT}(h:TraF cs ats t){c:List Int}(m:c∈cs)(k:pS (dR t) c=-1)(hd:0<t.dep):∃y∈c,∃x∈t.rows,x.l=-y∧x.lev=t.dep:=by
 apply R6;intro j;have b:=(h.top hd _ m).2;apply b;rw[mE]at k⊢;intro y hy hx;have d:=o.chk _ m y hy;have:=xf (k y hy hx);rw[(litO d).2.2.2.2]at this;unfold dR at this;obtain⟨a,g,e⟩:=RO.1 this;have p:=(h.lev _ g).2;have i:a.lev<t.dep:=by
  rcases Vm a.lev t.dep with c|c
  .exact c
  .exact absurd ⟨y,hy,a,g,e,by omega⟩ j
 have f:-y∈bel t t.dep:=by
  unfold bel;rw[RO];exact⟨a,SD.2 ⟨g,by simpa using i⟩,e⟩
 exact val3_m1_of d f (λn=>h.one d ⟨jx _ n,jx _ f⟩)
structure DeskT (cs:List (List Int)) (ats:List Int) (D:DK):Prop where
  ok:DeskOk D
  cls:ClsN cs ats
  facts:TraF cs ats D.t
  ars:∀k (hk:k<cs.length),isA D.A (ats.getD k 0)=true∧aw D.A (ats.getD k 0)=cs[k]
theorem TraF.pla{cs:List (List Int)}{ats:List Int}{t:RT}(h:TraF cs ats t){j:Nat}(hj:j<t.rows.length):qf t (ah t.rows[j].l)=j:=by
 have h1:=rL (p:=λx:En=>decide (ah x.l=ah t.rows[j].l)) hj (by simp);obtain⟨i,hi,a,b⟩:=lm (t:=t) (v:=ah t.rows[j].l) h1.1;have:=h.inj hi hj b;subst this;exact a
theorem nO{cs:List (List Int)}{ats:List Int}{T:Tr}{t:RT}(d:RelT T t)(h:TraF cs ats t){j:Nat}(hj:j<t.rows.length):(dH T (ah t.rows[j].l)).1.lev=t.rows[j].lev∧(dH T (ah t.rows[j].l)).1.rea=t.rows[j].rea∧(dH T (ah t.rows[j].l)).1.pla=j:=by
 obtain⟨a,b,c⟩:=xF d (ah t.rows[j].l);have hp:=h.pla hj;rw[a,b,c];unfold PC;rw[hp,RH (by omega),SQ,RG,RF hj];exact⟨rfl,rfl,rfl⟩
theorem oF{cs:List (List Int)}{ats:List Int}{T:Tr}{t:RT}(a:RelT T t)(h:TraF cs ats t){j:Nat}(hj:j<t.rows.length){y:Int}(hy:t.rows[j].l=-y):dO T y=t.rows[j].lev:=by
 unfold dO;rw[qi hj hy];exact(nO a h hj).1
theorem LA{cs:List (List Int)}{ats:List Int}{T:Tr}{t:RT}(r:RelT T t)(k:TraF cs ats t){p:PS}{n:Nat}(h:LI t p n){y:Int}{j:Nat}(hj:j<t.rows.length)(hy:t.rows[j].l=-y)
 (hn:t.rows[j].lev=t.dep->j<n∨t.rows[j].rea<0) (but:Int):
 LI t (takeF T but p y) n∧(ah y=but∨t.rows[j].lev<=0∨aC (takeF T but p y).seen (ah y)=true)∧(∀v,aC p.seen v=true->aC (takeF T but p y).seen v=true)∧p.many<=(takeF T but p y).many:=by
 have u:=oF r k hj hy;have d:=qi hj hy;have hd:=r.dep;unfold takeF
 by_cases c:ah y=but∨aC p.seen (ah y)=true∨dO T y<=0
 .rw[RI c];refine⟨h,?_,λv d=>d,RJ _⟩;rcases c with c|c|c
  .exact .inl c
  .exact .inr (.inr c)
  .exact .inr (.inl (by omega))
 rw[RH c];have q:aC p.seen (ah y)=false:=by
  cases e:aC p.seen (ah y)
  .rfl
  .exact absurd (.inr (.inl e)) c
 have f:0<t.rows[j].lev:=by
  rcases Vm 0 t.rows[j].lev with e|e
  .exact e
  .exact absurd (.inr (.inr (by omega))) c
 have s:=(k.lev _ (RK hj)).2
 by_cases c2:dO T y=T.beg.length
 .rw[RI c2];have hs:∀w,aC (pt p.seen (ah y) 1) w=if ah y=w then true else aC p.seen w:=λw=>by rw[m9];simp
  refine⟨⟨?_,h.li,?_,?_⟩,.inr (.inr (by rw[hs,RI rfl])),λv d=>by rw[hs];split<;>simp[d],TF _⟩
  .intro v b;rw[hs]at b;split at b
   .rename_i e;exact⟨j,hj,by rw[←d,e],f,hn⟩
   .exact h.sn v b
  .intro i hi a g;rw[hs]at a;split at a
   .rename_i e;have:=k.inj hj hi (d.symm.trans e);subst this;omega
   .exact h.ls i hi a g
  .dsimp only;rw[h.mn];symm;apply oy hj
   .rw[←d,q];rfl
   .rw[←d,hs,RI rfl];simp;omega
   .intro i hi o;rw[hs,RH];intro e;exact o (k.inj hi hj (e.symm.trans d))
 .rw[RH c2];have hs:∀w,aC (pt p.seen (ah y) 1) w=if ah y=w then true else aC p.seen w:=λw=>by rw[m9];simp
  refine⟨⟨?_,?_,?_,?_⟩,.inr (.inr (by rw[hs,RI rfl])),λv d=>by rw[hs];split<;>simp[d],RJ _⟩
  .intro v b;rw[hs]at b;split at b
   .rename_i e;exact⟨j,hj,by rw[←d,e],f,hn⟩
   .exact h.sn v b
  .intro l m;rcases RS.1 m with m|m
   .exact h.li l m
   .simp at m;subst m;exact⟨j,hj,hy,f,by omega⟩
  .intro i hi a g;rw[hs]at a;split at a
   .rename_i e;have:=k.inj hj hi (d.symm.trans e);subst this;rw[hy];simp
   .exact SX _ (h.ls i hi a g)
  .dsimp only;rw[h.mn];apply List.countP_congr;intro x hx;rw[hs];split
   .rename_i e;obtain⟨i,hi,rfl⟩:=RU hx;have:=k.inj hj hi (d.symm.trans e);subst this;have:¬t.rows[j].lev=t.dep:=by omega
    simp[this]
   .rfl
theorem tX{cs:List (List Int)}{ats:List Int}{T:Tr}{t:RT}(f:RelT T t)(d:TraF cs ats t){n:Nat}(but:Int):∀(c:List Int)(p:PS),LI t p n->
 (∀y∈c,ah y=but∨∃j,∃hj:j<t.rows.length,t.rows[j].l=-y∧(t.rows[j].lev=t.dep->j<n∨t.rows[j].rea<0))->
 LI t (dA T but c p) n∧(∀y∈c,ah y=but∨dO T y<=0∨aC (dA T but c p).seen (ah y)=true)∧(∀v,aC p.seen v=true->aC (dA T but c p).seen v=true)∧p.many<=(dA T but c p).many
 |[],p,h,_=>⟨h,by simp,λ_ b=>b,RJ _⟩
 |y::c,p,h,g=>by
  have key:LI t (takeF T but p y) n∧(ah y=but∨dO T y<=0∨aC (takeF T but p y).seen (ah y)=true)∧(∀v,aC p.seen v=true->aC (takeF T but p y).seen v=true)∧p.many<=(takeF T but p y).many:=by
   rcases g y (R2 ..)with e|⟨j,hj,hy,hn⟩
   .have:takeF T but p y=p:=by unfold takeF;rw[RI (.inl e)]
    rw[this];exact⟨h,.inl e,λ_ b=>b,RJ _⟩
   .have:=LA f d h hj hy hn but;rw[←oF f d hj hy]at this;exact this
  obtain⟨m,a,o,q⟩:=key;obtain⟨i,g2,g3,k⟩:=tX f d but c (takeF T but p y) m (λz hz=>g z (RZ _ hz));have e:dA T but (y::c) p=dA T but c (takeF T but p y):=rfl;rw[e];refine⟨i,?_,λv b=>g3 v (o v b),Sn q k⟩;intro z hz;rcases R9.1 hz with rfl|hz
  .rcases a with a|a|a
   .exact .inl a
   .exact .inr (.inl a)
   .exact .inr (.inr (g3 _ a))
  .exact g2 z hz
theorem LB{cs:List (List Int)}{ats:List Int}{t:RT}(q:TraF cs ats t){p:PS}{n:Nat}(h:LI t p (n+1))(hn:n<t.rows.length)(hs:aC p.seen (ah t.rows[n].l)=true)(hd:t.rows[n].lev=t.dep):
 LI t ⟨pt p.seen (ah t.rows[n].l) 0,p.lits,p.many -1⟩ n:=by
 have a:∀w,aC (pt p.seen (ah t.rows[n].l) 0) w=if ah t.rows[n].l=w then false else aC p.seen w:=λw=>by rw[m9];simp
 refine⟨?_,h.li,?_,?_⟩
 .intro v d;rw[a]at d;split at d
  .cases d
  .rename_i e;obtain⟨j,hj,g,k,m⟩:=h.sn v d;refine⟨j,hj,g,k,λhd=>(m hd).imp (λc=>?_) id⟩;have:j≠n:=λo=>by subst o;exact e g
   omega
 .intro j hj b c;rw[a]at b;split at b
  .cases b
  .exact h.ls j hj b c
 .dsimp only; rw [h.mn]; have := oy (l := t.rows) (P := λ x => aC (pt p.seen (ah t.rows[n].l) 0) (ah x.l) && decide (x.lev = t.dep)) (Q := λ x => aC p.seen (ah x.l) && decide (x.lev = t.dep)) hn (by
   rw[a,RI rfl];rfl) (by rw[hs];simp[hd]) (λi hi f=>by
   rw[a,RH];intro e;exact f (q.inj hi hn e.symm))
  rw[this];omega
theorem du{cs:List (List Int)}{ats:List Int}{D:DK}(h:DeskT cs ats D){n:Nat}(hn:n<D.t.rows.length)(i:0<=D.t.rows[n].rea):isA D.A D.t.rows[n].rea=true∧D.t.rows[n].l∈aw D.A D.t.rows[n].rea∧
 ∀y∈aw D.A D.t.rows[n].rea,cF y=true∧(y≠D.t.rows[n].l->∃j,∃hj:j<D.t.rows.length,j<n∧D.t.rows[j].l=-y):=by
 rcases h.ok.rea n hn with h1|⟨h1,d,f⟩
 .omega
 .refine⟨h1,d,λy hy=>?_⟩;obtain⟨c,g⟩:=f y hy;refine⟨c,λb=>?_⟩;have:=g b;rw[(litO c).2.2.2.2,RO]at this;obtain⟨x,hx,e⟩:=this;obtain⟨j,hj,rfl⟩:=RU hx;have a:j<n∧j<D.t.rows.length:=by simp at hj;omega
  refine⟨j,a.2,a.1,?_⟩;rw[←e];simp
theorem Jw{cs:List (List Int)}{ats:List Int}{D:DK}(h:DeskT cs ats D){p:PS}{n:Nat}(hi:LI D.t p (n+1))(hn:n<D.t.rows.length)(hp:nJ D.T p D.t.rows[n].l=true):
 LI D.t (ox D.A D.T p D.t.rows[n].l) n∧p.many -1<=(ox D.A D.T p D.t.rows[n].l).many∧
  (∀j (hj:j<D.t.rows.length),j≠n->aC p.seen (ah D.t.rows[j].l)=true->aC (ox D.A D.T p D.t.rows[n].l).seen (ah D.t.rows[j].l)=true)∧
  (∀y∈aw D.A D.t.rows[n].rea,y≠D.t.rows[n].l->dO D.T y<=0∨aC (ox D.A D.T p D.t.rows[n].l).seen (ah y)=true):=by
 have b:=h.facts;have g:=h.ok.rel.1;unfold nJ dO at hp;obtain⟨q,k,u⟩:=nO g b hn;rw[q,k]at hp;simp only[RQ,R0]at hp;obtain⟨r,v,s⟩:=hp;have hd:=g.dep;have h1:=LB b hi hn r (by omega);obtain⟨w,x,r3⟩:=du h hn s;have d:ox D.A D.T p D.t.rows[n].l=dA D.T (ah D.t.rows[n].l) (aw D.A D.t.rows[n].rea) ⟨pt p.seen (ah D.t.rows[n].l) 0,p.lits,p.many -1⟩:=by
  unfold ox;rw[k]
 obtain ⟨m, g2, g3, o⟩ := tX g b (ah D.t.rows[n].l) (aw D.A D.t.rows[n].rea) _ h1 (λ y hy => by
  by_cases e:y=D.t.rows[n].l
  .exact .inl (by rw[e])
  .obtain⟨j,hj,c,f⟩:=(r3 y hy).2 e;exact .inr ⟨j,hj,f,λ_=>.inl c⟩)
 rw[d];refine⟨m,o,λj hj a i=>?_,λy hy a=>?_⟩
 .apply g3;rw[m9,RH]
  .exact i
  .intro e;exact a (b.inj hj hn e.symm)
 .rcases g2 y hy with e|e|e
  .exfalso;obtain⟨j,hj,c,f⟩:=(r3 y hy).2 a;rw[qi hj f]at e;have:=b.inj hj hn e;omega
  .exact .inl e
  .exact .inr e
theorem D7{t:RT}{T:Tr}{cs:List (List Int)}{ats:List Int}(b:RelT T t)(i:TraF cs ats t){p:PS}{n:Nat}(h:LI t p (n+1))(hn:n<t.rows.length)(hp:¬nJ T p t.rows[n].l=true):LI t p n:=by
 refine⟨λv d=>?_,h.li,h.ls,h.mn⟩;obtain⟨j,hj,a,f,g⟩:=h.sn v d;refine⟨j,hj,a,f,λhd=>?_⟩;rcases g hd with e|e
 .by_cases c:j=n
  .subst c;right;apply R6;intro o;apply hp;unfold nJ dO;obtain⟨k,m,q⟩:=nO b i hj;rw[k,m,a,d];have:=b.dep;simp only[RQ,R0,true_and];omega
  .left;omega
 .exact .inr e
theorem LC{t:RT}{cs:List (List Int)}{ats:List Int}(d:TraF cs ats t){p:PS}(h:LI t p 0):p.many<=1:=by
 apply R6;intro m;have k:2<=t.rows.countP (λx=>aC p.seen (ah x.l)&&decide (x.lev=t.dep)):=by rw[←h.mn];omega
 obtain⟨i,j,hi,hj,a,o,c⟩:=td k;simp only[RQ,R0]at o c;obtain⟨n,b,f,q,g⟩:=h.sn _ c.1;have:=d.inj b hj f;subst this;rcases g c.2 with e|e
 .omega
 .have:=(d.dec n hj e).2 i hi a;omega
theorem Ct{T:Tr}{t:RT}(a:RelT T t){n:Nat}(hn:n<t.rows.length):T.lits.getD n 0=t.rows[n].l:=by
 rw[a.lits,RG,R3,RF hn];rfl
theorem xG{cs:List (List Int)}{ats:List Int}{D:DK}(h:DeskT cs ats D):∀(n:Nat)(p:PS),n<=D.t.rows.length->LI D.t p n->
 (∃m,LI D.t (cP D.A D.T D.T.lits n p) m)∧(cP D.A D.T D.T.lits n p).many<=1∧(1<=p.many->1<=(cP D.A D.T D.T.lits n p).many)
 |0,p,_,hi=>⟨⟨0,hi⟩,LC h.facts hi,λe=>e⟩
 |n+1,p,hn,hi=>by
  rw[cP];split
  .exact⟨⟨_,hi⟩,by assumption,λe=>e⟩
  rename_i c;have a:n<D.t.rows.length:=by omega
  rw[Ct h.ok.rel.1 a];split
  .rename_i hp;obtain⟨b,g2,_⟩:=Jw h hi a hp;obtain⟨d,f,g⟩:=xG h n _ (by omega) b;exact⟨d,f,λ_=>g (by omega)⟩
  .rename_i hp;exact xG h n p (by omega) (D7 h.ok.rel.1 h.facts hi a hp)
theorem Jx{cs:List (List Int)}{ats:List Int}{D:DK}(h:DeskT cs ats D){j:Nat}(hj:j<D.t.rows.length):cu D.T (-D.t.rows[j].l)=-1∧cu D.T D.t.rows[j].l=1:=by
 have b:=h.facts;have a:=b.chk _ (RK hj);have hp:=b.pla hj;obtain⟨n0,c,d,_⟩:=litO a;constructor
 .rcases rS h.ok.rel.1 (tW a) hj (by rw[dJ];exact hp)with⟨_,e⟩|⟨e,_⟩
  .exact e
  .omega
 .rcases rS h.ok.rel.1 a hj hp with⟨e,_⟩|⟨_,e⟩
  .omega
  .exact e
theorem Cu{cs:List (List Int)}{ats:List Int}{D:DK}(h:DeskT cs ats D){R:List Int}{j:Nat}(hj:j<D.t.rows.length)(c:0<=D.t.rows[j].rea)(hy:∀y∈aw D.A D.t.rows[j].rea,y≠D.t.rows[j].l->HOk D.A D.T R y):HOk D.A D.T R (-D.t.rows[j].l):=by
 obtain⟨f,b,g⟩:=nO h.ok.rel.1 h.facts hj;obtain⟨e,i,r3⟩:=du h hj c;refine .why (by rw[(Jx h hj).1];omega) ?_ ?_ ?_
 .rw[dJ,b];exact c
 .rw[dJ,b];exact e
 .rw[dJ,b];intro y d a;exact hy y d (by rw[TJ]at a;exact a)
theorem xH{cs:List (List Int)}{ats:List Int}{D:DK}(h:DeskT cs ats D)(R:List Int):∀(n j:Nat)(hj:j<D.t.rows.length),j<n->D.t.rows[j].lev<=0->HOk D.A D.T R (-D.t.rows[j].l)
 |0,_,_,hn,_=>by omega
 |n+1,j,hj,hn,f=>by
  have c:=h.facts;have d:0<=D.t.rows[j].rea:=by
   rcases Vm D.t.rows[j].rea 0 with e|e
   .have:=(c.dec j hj e).1;omega
   .exact e
  refine Cu h hj d λy hy b=>?_;obtain⟨i,hi,a,e⟩:=((du h hj d).2.2 y hy).2 b;have g:=c.mono i j hi hj a;have:=xH h R n i hi (by omega) (by omega);rw[iQ hi e];exact this
theorem Mo{cs:List (List Int)}{ats:List Int}{D:DK}(h:DeskT cs ats D){p:PS}{R:List Int}(a:Fr D p R){j:Nat}(hj:j<D.t.rows.length){y:Int}(hy:D.t.rows[j].l=-y)(hs:dO D.T y<=0∨aC p.seen (ah y)=true):HOk D.A D.T R y:=by
 have b:=oF h.ok.rel.1 h.facts hj hy;rw[iQ hj hy];rcases hs with e|e
 .exact xH h R (j+1) j hj (by omega) (by omega)
 .rw[qi hj hy]at e;exact a j hj e
theorem xI{cs:List (List Int)}{ats:List Int}{D:DK}(h:DeskT cs ats D){R:List Int}:∀(n:Nat)(p:PS),n<=D.t.rows.length->LI D.t p n->Fr D (cP D.A D.T D.T.lits n p) R->Fr D p R
 |0,p,_,_,a=>a
 |n+1,p,hn,hi,a=>by
  rw[cP]at a;split at a
  .exact a
  have b:n<D.t.rows.length:=by omega
  rw[Ct h.ok.rel.1 b]at a;split at a
  .rename_i hp;obtain⟨l,g2,g3,m⟩:=Jw h hi b hp;have g:=xI h n _ (by omega) l a;intro j hj hs
   by_cases e:j=n
   .subst e;obtain⟨q,o,r⟩:=nO h.ok.rel.1 h.facts hj;have f:0<=D.t.rows[j].rea:=by
     unfold nJ at hp;rw[o]at hp;simp only[RQ,R0]at hp;exact hp.2.2
    refine Cu h hj f λy hy c=>?_;obtain⟨i,d,_,k⟩:=((du h hj f).2.2 y hy).2 c;exact Mo h g d k (m y hy c)
   .exact g j hj (g3 j hj e hs)
  .rename_i hp;exact xI h n p (by omega) (D7 h.ok.rel.1 h.facts hi b hp) a
structure Conf (D:DK) (con:Int):Prop where
  is:isA D.A con=true
  neg:∀y∈aw D.A con,cF y=true∧∃j,∃hj:j<D.t.rows.length,D.t.rows[j].l=-y
  top:0<D.t.dep->∃y∈aw D.A con,∃j,∃hj:j<D.t.rows.length,D.t.rows[j].l=-y∧D.t.rows[j].lev=D.t.dep
theorem conf_at{cs:List (List Int)}{ats:List Int}{D:DK}(h:DeskT cs ats D){k:Nat}(hk:k<cs.length)(c:pS (dR D.t) cs[k]=-1):Conf D (ats.getD k 0):=by
 obtain⟨f,d⟩:=h.ars k hk;have e:=RK hk;refine⟨f,?_,?_⟩
 .rw[d];intro y hy;have a:=h.cls.chk _ e y hy;refine⟨a,?_⟩;rw[mE]at c;have:=xf (c y hy (litO a).2.2.2.1);rw[(litO a).2.2.2.2]at this;unfold dR at this;obtain⟨x,hx,b⟩:=RO.1 this;obtain⟨j,hj,rfl⟩:=RU hx;exact⟨j,hj,b⟩
 .rw[d];intro hd;obtain⟨y,hy,x,hx,b,g⟩:=Jv h.cls h.facts e c hd;obtain⟨j,hj,rfl⟩:=RU hx;exact⟨y,hy,j,hj,b,g⟩
theorem Nk{cs:List (List Int)}{ats:List Int}{D:DK}(h:DeskT cs ats D){con:Int}(a:Conf D con):
 LI D.t (g8 D.A D.T con) D.t.rows.length∧(∀y∈aw D.A con,dO D.T y<=0∨aC (g8 D.A D.T con).seen (ah y)=true)∧(0<D.t.dep->1<=(g8 D.A D.T con).many):=by
 obtain ⟨d, g2, _, _⟩ := tX h.ok.rel.1 h.facts 0 (aw D.A con) _ (M4 D.t D.t.rows.length) (λ y hy => by
  obtain⟨_,j,hj,e⟩:=a.neg y hy;exact .inr ⟨j,hj,e,λ_=>.inl hj⟩)
 have g3:∀y∈aw D.A con,dO D.T y<=0∨aC (g8 D.A D.T con).seen (ah y)=true:=λy hy=>by
  rcases g2 y hy with e|e
  .have:=(pL (a.neg y hy).1).1;omega
  .exact e
 refine⟨d,g3,λhd=>?_⟩;obtain⟨y,hy,j,hj,c,f⟩:=a.top hd;have i:=oF h.ok.rel.1 h.facts hj c;have hs:aC (g8 D.A D.T con).seen (ah y)=true:=by
  rcases g3 y hy with e|e
  .omega
  .exact e
 have:=d.mn;unfold g8 at this⊢;rw[this,Nat.one_le_iff_ne_zero,Ne,VT];intro b;have g:=b _ (RK hj);rw[qi hj c]at hs;unfold g8 at hs;simp[hs,f]at g
structure Learnt (D:DK) (L:List Int):Prop where
  nd:L.Nodup
  neg:∀y∈L,cF y=true∧∃j,∃hj:j<D.t.rows.length,D.t.rows[j].l=-y∧0<D.t.rows[j].lev
  nil:D.t.dep=0->L=[]
  top:0<D.t.dep->∃u r,L=u::r∧dO D.T u=D.t.dep∧∀y∈r,dO D.T y<D.t.dep
theorem Jy{cs:List (List Int)}{ats:List Int}{D:DK}(h:DeskT cs ats D)(p:PS)(y:Int):y∈rb D.T D.T.lits p↔y∈p.lits∨∃j,∃hj:j<D.t.rows.length,D.t.rows[j].l=-y∧aC p.seen (ah D.t.rows[j].l)=true∧D.t.rows[j].lev=D.t.dep:=by
 have b:=h.ok.rel.1;have c:=h.facts;have hd:=b.dep;unfold rb;rw[RS,RO];constructor
 .rintro(e|⟨l,f,e⟩)
  .exact .inl e
  .rw[SD,b.lits]at f;obtain⟨d,a⟩:=f;obtain⟨x,hx,rfl⟩:=RO.1 d;obtain⟨j,hj,rfl⟩:=RU hx;have i:=(litO (c.chk _ hx)).2.2.2.2;simp only[RQ,R0]at a;have ho:=(nO b c hj).1;unfold dO at a;exact .inr ⟨j,hj,by omega,a.1,by omega⟩
 .rintro(e|⟨j,hj,k,g,m⟩)
  .exact .inl e
  .right;have i:=(litO (c.chk _ (RK hj))).2.2.2.2;have ho:=(nO b c hj).1;refine⟨D.t.rows[j].l,?_,by omega⟩;rw[SD,b.lits];refine⟨RO.2 ⟨_,RK hj,rfl⟩,?_⟩;unfold dO;simp only[RQ,R0];exact⟨g,by omega⟩
theorem learn_is{cs:List (List Int)}{ats:List Int}{D:DK}(h:DeskT cs ats D){con:Int}(hc:Conf D con):
 Learnt D (dz D.A D.T con)∧∀y∈aw D.A con,HOk D.A D.T (dz D.A D.T con) y:=by
 have K:=h.ok.rel.1;have n:=h.facts;have hd:=K.dep;have I:D.T.lits.length=D.t.rows.length:=by rw[K.lits,RR]
 obtain⟨b1,b2,b3⟩:=Nk h hc;obtain⟨⟨m,M⟩,w2,w3⟩:=xG h D.t.rows.length (g8 D.A D.T con) (RJ _) b1;have wf:=λR=>xI h (R:=R) D.t.rows.length (g8 D.A D.T con) (RJ _) b1;have hL:dz D.A D.T con=HY D.T (eQ (rb D.T D.T.lits (cP D.A D.T D.T.lits D.t.rows.length (g8 D.A D.T con)))):=by
  unfold dz HZ;rw[I]
 have b:=Jy h (cP D.A D.T D.T.lits D.t.rows.length (g8 D.A D.T con));generalize hp:cP D.A D.T D.T.lits D.t.rows.length (g8 D.A D.T con)=p at*;generalize hE:rb D.T D.T.lits p=E at*;have g:∀y∈E,cF y=true∧∃j,∃hj:j<D.t.rows.length,D.t.rows[j].l=-y∧0<D.t.rows[j].lev∧(D.t.rows[j].lev=D.t.dep->aC p.seen (ah D.t.rows[j].l)=true):=λy hy=>by
  rcases(b y).1 hy with e|⟨j,hj,f,s,N⟩
  .obtain⟨j,hj,f,s,N⟩:=M.li y e;refine⟨?_,j,hj,f,s,λe4=>by omega⟩;have:=tW (n.chk _ (RK hj));rw[f,TJ]at this;exact this
  .obtain⟨j',X,q1,q2,_⟩:=M.sn _ s;have:=n.inj X hj q1;subst this;refine⟨?_,j',hj,f,q2,λ_=>s⟩;have:=tW (n.chk _ (RK hj));rw[f,TJ]at this;exact this
 have S:∀y,y∈eQ E↔y∈E:=λy=>by
  rw[(pc E).2];exact⟨λe=>e.2,λe=>⟨P3 (g y e).1,e⟩⟩
 have B:=zf E;have u:∀L,(∀y,y∈L↔y∈E)->∀y∈aw D.A con,HOk D.A D.T L y:=λL Q=>by
  have W:Fr D p L:=λj hj hs=>by
   apply HOk.stop;rw[Q,b];rcases Vm D.t.rows[j].lev D.t.dep with e|e
   .exact .inl (M.ls j hj hs e)
   .exact .inr ⟨j,hj,by omega,hs,by have:=(n.lev _ (RK hj)).2;omega⟩
  have:=wf L W;intro y hy;obtain⟨_,j,hj,e⟩:=hc.neg y hy;exact Mo h this hj e (b2 y hy)
 by_cases c:D.t.dep=0
 .have C:E=[]:=by
   cases O:E with
   |nil=>rfl
   |cons y r=>
    obtain⟨_,j,hj,_,s,_⟩:=g y (by rw[O];simp);have:=(n.lev _ (RK hj)).2;omega
  have o:dz D.A D.T con=[]:=by rw[hL,C,Fl];rfl
  refine⟨⟨by rw[o];exact List.nodup_nil,by rw[o];simp,λ_=>o,λe=>by omega⟩,u _ λy=>by rw[o,C]⟩
 have U:0<D.t.dep:=by have:=n.dep;omega
 have Z:p.many=1:=by have:=w3 (b3 U);omega
 have ad:D.t.rows.countP (λx=>aC p.seen (ah x.l)&&decide (x.lev=D.t.dep))=1:=by rw[←M.mn];exact Z
 have G:0<D.t.rows.countP (λx=>aC p.seen (ah x.l)&&decide (x.lev=D.t.dep)):=by omega
 rw[VS]at G;obtain⟨x,hx,a⟩:=G;obtain⟨j,hj,rfl⟩:=RU hx;simp only[RQ,R0]at a;have aa:-D.t.rows[j].l∈E:=(b _).2 (.inr ⟨j,hj,by omega,a.1,a.2⟩);have ab:=(S _).2 aa;obtain⟨k,hk,H⟩:=RU ab;have z:dO D.T (eQ E)[k]=D.t.dep:=by rw[H,oF K n hj (show D.t.rows[j].l=-(-D.t.rows[j].l) by omega)];exact a.2
 have J:∀i (hi:i<(eQ E).length),i≠k->dO D.T (eQ E)[i]<dO D.T (eQ E)[k]:=λi hi d=>by
  obtain⟨_,j2,w,f,s,N⟩:=g _ ((S _).1 (RK hi));have hl:=oF K n w f;have hle:=(n.lev _ (RK w)).2;rw[z,hl];rcases Vm D.t.rows[j2].lev D.t.dep with e|e
  .exact e
  .exfalso;have hs:=N (by omega);have Y:j2=j:=by
    rcases TY j2 j with q|q|q
    .have:=oz (P:=λx=>aC p.seen (ah x.l)&&decide (x.lev=D.t.dep)) q hj (by simp only[RQ,R0];exact⟨hs,by omega⟩) (by simp only[RQ,R0];exact a);omega
    .exact q
    .have:=oz (P:=λx=>aC p.seen (ah x.l)&&decide (x.lev=D.t.dep)) q w (by simp only[RQ,R0];exact a) (by simp only[RQ,R0];exact⟨hs,by omega⟩);omega
   subst Y;have V:(eQ E)[i]=(eQ E)[k]:=by rw[H];omega
   exact d (vl B hi hk V)
 have hP:=K7 hk (by rw[z];omega) J;have v:dz D.A D.T con=(eQ E)[k]::(eQ E).eraseIdx k:=hL.trans hP;have F:∀y,y∈dz D.A D.T con↔y∈E:=λy=>by rw[v,mF hk,S]
 refine⟨⟨?_,λy hy=>?_,λe=>absurd e c,λ_=>⟨_,_,v,z,λy hy=>?_⟩⟩,u _ F⟩
 .rw[v,Tg];refine⟨λhm=>?_,B.sublist (List.eraseIdx_sublist _ _)⟩;rw[US]at hm;obtain⟨i,hi,d,e⟩:=hm;exact d (vl B hi hk e)
 .obtain⟨e0,j,hj,f,s,_⟩:=g y ((F y).1 hy);exact⟨e0,j,hj,f,s⟩
 .rw[US]at hy;obtain⟨i,hi,d,rfl⟩:=hy;have:=J i hi d;omega
structure DeskI (cs:List (List Int)) (ats:List Int) (D:DK):Prop extends DeskT cs ats D where
  id:∀x∈D.a.rows,1<=x.id
theorem id_is{cs:List (List Int)}{ats:List Int}{D:DK}(h:DeskI cs ats D){q:Int}(b:isA D.A q=true):i7 D.A q≠0:=by
 obtain⟨x,hx,e⟩:=h.ok.relA.is q b;obtain⟨p,c,_,_,_,d⟩:=h.ok.relA.rows x hx;have hi:=h.id x hx;have a:q=(p:Int):=by rw[←e,c]
 unfold i7;rw[RI b,a,SQ,d];omega
theorem tY{cs:List (List Int)}{ats:List Int}{D:DK}(h:DeskT cs ats D){j:Nat}(hj:j<D.t.rows.length){y:Int}(hy:D.t.rows[j].l=-y):pla D.T y=j∧rea D.T y=D.t.rows[j].rea:=by
 unfold pla rea;rw[qi hj hy];exact⟨(nO h.ok.rel.1 h.facts hj).2.2,(nO h.ok.rel.1 h.facts hj).2.1⟩
theorem val_neg{cs:List (List Int)}{ats:List Int}{D:DK}(h:DeskT cs ats D){l:Int}(b:cu D.T l<0):cF l=true∧∃j,∃hj:j<D.t.rows.length,D.t.rows[j].l=-l:=by
 obtain⟨a,i,hi,hp⟩:=vU h.ok.rel.1 (l:=l) (by omega);refine⟨a,i,hi,?_⟩;rcases rS h.ok.rel.1 a hi hp with⟨e,_⟩|⟨_,e⟩
 .exact e
 .omega
theorem val_of{cs:List (List Int)}{ats:List Int}{D:DK}(h:DeskT cs ats D){l:Int}{j:Nat}(hj:j<D.t.rows.length)(e:D.t.rows[j].l=-l):cu D.T l=-1:=by
 have:=(Jx h hj).1;rw[e,TJ]at this;exact this
theorem ahead_ok{cs:List (List Int)}{ats:List Int}{D:DK}(h:DeskT cs ats D)(h0:D.A.hd≠[]):AheadOk D.A D.T where
 tr:=h.ok.rel.1.okT
 hd:=h0
 ar:=λq k=>by
  obtain⟨x,hx,e⟩:=h.ok.relA.is q k;obtain⟨p,d,a,_⟩:=h.ok.relA.rows x hx;exact⟨p,_,by rw[←e,d],a⟩
 len:=h.ok.len
 ahead:=λl m c=>by
  obtain⟨f,j,hj,e⟩:=val_neg h m;obtain⟨o,r⟩:=tY h hj e;rw[o];refine⟨by omega,λy hy b=>?_⟩;rw[r]at hy c;have n:=(litO f).2.2.2.2;obtain⟨i,hi,g,a⟩:=((du h hj c).2.2 y hy).2 (by rw[e,←n];exact b);rw[(tY h hi a).1];omega
theorem pla_lt{cs:List (List Int)}{ats:List Int}{D:DK}(h:DeskT cs ats D)(l:Int):pla D.T l<D.T.lits.length:=by
 unfold pla;rw[(xF h.ok.rel.1 (ah l)).2.2,h.ok.rel.1.lits,RR];rcases Vm (qf D.t (ah l)) 0 with c|c
 .omega
 .obtain⟨i,hi,e,_⟩:=lm c;omega
theorem nh{cs:List (List Int)}{ats:List Int}{D:DK}(h:DeskI cs ats D){L:List Int}{stop:List (Int×Int)}(g:∀y,aC stop y=true↔y∈L){k:Nat}{f:NS->Int->Int->NS}
 (C:∀(s:NS)(j:Nat)(hj:j<D.t.rows.length),j<k->0<=D.t.rows[j].rea->NI D L s->Post D L s (f s D.t.rows[j].rea D.t.rows[j].l) (aw D.A D.t.rows[j].rea) D.t.rows[j].l) (but:Int):
 ∀(c:List Int)(s:NS),NI D L s->(∀y∈c,y≠but->cF y=true∧∃j,∃hj:j<D.t.rows.length,D.t.rows[j].l=-y∧j<k)->Post D L s (tg f D.A D.T stop but c s) c but
 |[],s,hn,_=>⟨hn,λ_ e=>e,λe=>⟨e,by simp,λj hj h1 O=>by rw[tg]at h1;rw[h1]at O;cases O⟩,λ_=>rfl⟩
 |y::c,s,hn,B=>by
  have q:=λz hz=>B z (RZ _ hz);rw[tg]
  by_cases hs:vn D.T stop but s y=true
  .rw[RI hs];have u:=nh h g C but c s hn q;refine⟨u.ni,u.mono,λho=>?_,λhk=>u.ok λz hz=>hk z (RZ _ hz)⟩;obtain⟨w,x,a3⟩:=u.all ho;refine⟨w,λz hz a=>?_,a3⟩;rcases R9.1 hz with rfl|hz
   .unfold vn at hs;simp only[S4,RQ,R0]at hs;rcases hs with(e|e)|⟨e,_⟩
    .exact absurd e a
    .exact .inl ((g _).1 e)
    .obtain⟨_,j,hj,b,_⟩:=B z (R2 ..) a;rw[(tY h.toDeskT hj b).1]at e;exact .inr ⟨j,hj,b,u.mono _ e⟩
   .exact x z hz a
  rw[RH hs];have J:y≠but∧y∉L∧¬(aC s.at' (pla D.T y)=true∧0<=pla D.T y):=by
   unfold vn at hs;simp only[S4,RQ,R0,Wy]at hs;exact⟨hs.1.1,λe=>hs.1.2 ((g _).2 e),hs.2⟩
  obtain⟨M,N,X⟩:=J;obtain⟨Y,j,hj,b,E⟩:=B y (R2 ..) M;obtain⟨Q,R⟩:=tY h.toDeskT hj b;have P:=val_of h.toDeskT hj b
  by_cases m:Fp D.A D.T y=true
  .rw[RI m];refine⟨⟨hn.val,hn.mem⟩,λ_ e=>e,λe=>(by cases e),λhk=>?_⟩;exfalso;unfold Fp at m;simp only[S4,R0]at m;have hy:=hk y (R2 ..) M;cases hy with
   |stop e=>exact N e
   |why v1 v2 v3 _=>
    rcases m with(e|e)|e
    .omega
    .have:rea D.T y=(dH D.T (ah y)).1.rea:=rfl;omega
    .exact id_is h v3 e
  rw[RH m];have n:0<=rea D.T y:=by
   unfold Fp at m;simp only[S4,R0,Wy]at m;omega
  have W:=(litO Y).2.2.2.2;have K:aR (-y)=D.t.rows[j].l:=by rw[W,b]
  rw[R]at n⊢;rw[K];have r:aC s.at' j=false:=by
   cases e:aC s.at' j
   .rfl
   .exact absurd ⟨by rw[Q];exact e,by omega⟩ X
  have h0:(lk s.at' (j:Int)).getD 0=0:=by
   have:=hn.val j;unfold aC at r;simp at r;omega
  have H:tf D.T s y=⟨pt s.at' j 1,s.ok⟩:=by
   unfold tf;rw[Q,h0];rfl
  rw[H];have d:∀p,aC (pt s.at' (j:Int) 1) p=if(j:Int)=p then true else aC s.at' p:=λp=>by rw[m9];simp
  have I:NI D L ⟨pt s.at' j 1,s.ok⟩:=by
   refine⟨λp=>?_,λp hp=>?_⟩
   .dsimp only;rw[bK];split
    .simp
    .exact hn.val p
   .dsimp only at hp;rw[d]at hp;split at hp
    .rename_i e;exact⟨j,hj,e.symm,n,by rw[b,TJ];exact N⟩
    .exact hn.mem p hp
  have o:=C ⟨pt s.at' j 1,s.ok⟩ j hj E n I;generalize f ⟨pt s.at' j 1,s.ok⟩ D.t.rows[j].rea D.t.rows[j].l=v at*;have g2:=nh h g C but c v o.ni q;generalize tg f D.A D.T stop but c v=Z at*;have F:∀p,aC s.at' p=true->aC (pt s.at' (j:Int) 1) p=true:=λp hp=>by rw[d];split<;>simp[hp]
  have G:aC v.at' j=true:=o.mono j (by dsimp only;rw[d,RI rfl]);refine⟨g2.ni,λp hp=>g2.mono p (o.mono p (F p hp)),λho=>?_,λhk=>?_⟩
  .obtain⟨w,x,a3⟩:=g2.all ho;obtain⟨b1,b2,b3⟩:=o.all w;refine⟨b1,λz hz a=>?_,λi hi S U z hz a=>?_⟩
   .rcases R9.1 hz with rfl|hz
    .exact .inr ⟨j,hj,b,g2.mono _ G⟩
    .exact x z hz a
   .cases c2:aC v.at' i
    .exact a3 i hi S c2 z hz a
    .by_cases e:j=i
     .subst e;exact(b2 z hz a).mono g2.mono
     .exact(b3 i hi c2 (by dsimp only;rw[d,RH (by omega)];exact U) z hz a).mono g2.mono
  .rw[g2.ok λz hz=>hk z (RZ _ hz)];have hy:=hk y (R2 ..) M;cases hy with
   |stop e=>exact absurd e N
   |why _ _ _ v4=>
    refine o.ok λz hz a=>?_;have V:(dH D.T (ah y)).1.rea=D.t.rows[j].rea:=R;rw[V]at v4;exact v4 z hz (by rw[←b];exact a)
theorem vV{cs:List (List Int)}{ats:List Int}{D:DK}(h:DeskI cs ats D){L:List Int}{stop:List (Int×Int)}(a:∀y,aC stop y=true↔y∈L):∀(k:Nat)(q but:Int)(s:NS),NI D L s->
 (∀y∈aw D.A q,y≠but->cF y=true∧∃j,∃hj:j<D.t.rows.length,D.t.rows[j].l=-y∧j<k)->Post D L s (re D.A D.T stop (k+1) s q but) (aw D.A q) but
 |0,q,but,s,hn,c=>by
  rw[re];exact nh h a (k:=0) (λ_ j _ hj=>by omega) but _ s hn c
 |k+1,q,but,s,hn,c=>by
  rw[re];refine nh h a (k:=k+1) (λs j hj g m hn=>?_) but _ s hn c;refine vV h a k _ _ s hn λy hy b=>?_;obtain⟨n,d⟩:=(du h.toDeskT hj m).2.2 y hy;obtain⟨i,hi,f,e⟩:=d b;exact⟨n,i,hi,e,by omega⟩
def AllNeg(D:DK)(L:List Int):Prop:=∀y∈L,cF y=true∧∃j,∃hj:j<D.t.rows.length,D.t.rows[j].l=-y
theorem tZ{cs:List (List Int)}{ats:List Int}{D:DK}(h:DeskT cs ats D){j:Nat}(hj:j<D.t.rows.length):rj D j=D.t.rows[j].rea:=by
 unfold rj rea;rw[Ct h.ok.rel.1 hj];exact(nO h.ok.rel.1 h.facts hj).2.1
theorem Ac{cs:List (List Int)}{ats:List Int}{D:DK}(h:DeskI cs ats D){con:Int}(b:Conf D con)(L:List Int):Post D L ⟨[],true⟩ (lZ D.A D.T L con) (aw D.A con) 0:=by
 have a:D.T.lits.length=D.t.rows.length:=by rw[h.ok.rel.1.lits,RR]
 unfold lZ;refine vV h (λy=>?_) D.T.lits.length con 0 ⟨[],true⟩ ⟨λp=>by simp[lk],λp hp=>by simp[aC,lk]at hp⟩ λy hy _=>?_
 .have:=ti L y L.length (RJ _)
  rwa [R8]at this
 .obtain⟨c,j,hj,e⟩:=b.neg y hy;exact⟨c,j,hj,e,by omega⟩
theorem Jz{cs:List (List Int)}{ats:List Int}{D:DK}(h:DeskT cs ats D){i j:Nat}(hi:i<D.t.rows.length)(hj:j<D.t.rows.length)(o:i<j)(b:0<=D.t.rows[i].rea)(c:0<=D.t.rows[j].rea):D.t.rows[i].rea≠D.t.rows[j].rea:=by
 intro e;have d:=h.facts;have h1:=(du h hi b).2.1;rw[e]at h1;obtain⟨n,m⟩:=(du h hj c).2.2 _ h1;have a:D.t.rows[i].l≠D.t.rows[j].l:=λf=>by
  have:=d.inj hi hj (by rw[f]);omega
 obtain⟨k,hk,_,g⟩:=m a;exact d.one n ⟨gB hi,by rw[←g];exact gB hk⟩
theorem Nl{cs:List (List Int)}{ats:List Int}{D:DK}(h:DeskT cs ats D){con:Int}(d:Conf D con){i:Nat}(hi:i<D.t.rows.length)(a:0<=D.t.rows[i].rea):D.t.rows[i].rea≠con:=by
 intro e;have h1:=(du h hi a).2.1;rw[e]at h1;obtain⟨c,k,hk,b⟩:=d.neg _ h1;exact h.facts.one c ⟨gB hi,by rw[←b];exact gB hk⟩
theorem Ad{cs:List (List Int)}{ats:List Int}{D:DK}(h:DeskT cs ats D){L:List Int}{s:NS}(hn:NI D L s):∀i,i<=D.t.rows.length->eC D.T s.at' i=(Ft s i).map (rj D)
 |0,_=>rfl
 |i+1,hi=>by
  have o:=Ad h hn i (by omega);have n:rea D.T (D.T.lits.getD i 0)=rj D i:=rfl;rw[eC,Ii];unfold Ig;rw[o,n]
  by_cases c:aC s.at' i=true
  .obtain⟨j,hj,p,k,_⟩:=hn.mem _ c;have b:i=j:=by omega
   subst b;have:¬rj D i∈(Ft s i).map (rj D):=by
    intro e;obtain⟨m,d,g⟩:=RO.1 e;rw[xi]at d;obtain⟨j,a,q,l,_⟩:=hn.mem _ d.2;have f:m=j:=by omega
    subst f;rw[tZ h a,tZ h hj]at g;exact Jz h a hj d.1 l k g
   rw[RI (by simp only[c,this,decide_false,Bool.not_false,Bool.and_self]),RI c,Sb];rfl
  .have c':aC s.at' i=false:=by simpa using c
   rw[RH (by simp[c']),RH c]
theorem JA{cs:List (List Int)}{ats:List Int}{D:DK}(h:DeskT cs ats D){L:List Int}{s:NS}{l:List Int}{js:List Nat}(hi:CInv D L s l js){y:Int}(b:cF y=true)(a:-y∈l):bH l y=-1:=
 val3_m1_of b a (λe=>h.facts.one b ⟨hi.sub _ e,hi.sub _ a⟩)
theorem JB{cs:List (List Int)}{ats:List Int}{D:DK}(h:DeskI cs ats D){con:Int}(Q:Conf D con){L:List Int}{s:NS}(hn:NI D L s)
 (o:∀j (hj:j<D.t.rows.length),aC s.at' j=true->∀y∈aw D.A D.t.rows[j].rea,y≠D.t.rows[j].l->Met D L s y) (q:∀y∈aw D.A con,Met D L s y):
 ∀(js:List Nat)(l:List Int)(n:Nat),CInv D L s l js->∃l',fk l ((js.map (rj D)).map (aw D.A)++[aw D.A con]) n=(l',n+js.length+1,0)
 |[],l,n,hi=>by
  refine⟨l,?_⟩;have:pS l (aw D.A con)=-1:=by
   rw[mE];intro y hy _;have P:=(Q.neg y hy).1;refine JA h.toDeskT hi P ?_;rcases q y hy with e|⟨j,hj,m,z⟩
   .exact hi.neg y e
   .rw[←m];exact hi.don j hj z (by simp)
  simp[fk,this]
 |j::js,l,n,hi=>by
  obtain⟨hj,hs,I⟩:=hi.todo j (R2 ..);obtain⟨Z,V,m,R,_⟩:=hn.mem _ hs;have E:j=Z:=by omega
  subst E;have w:=h.facts;obtain⟨r1,N,r3⟩:=du h.toDeskT hj R;have O:=(r3 _ N).1;have v:=(litO O).2.2.2.1;have X:=(litO O).2.2.2.2;have p:=o j hj hs;have a:=Ue.1 hi.inc;obtain⟨k,hk,B,T⟩:∃k,∃hk:k<cs.length,aw D.A D.t.rows[j].rea=cs[k]∧True:=by
   obtain⟨k,hk,e,_⟩:=w.imp j hj R;rw[e];exact⟨k,hk,(h.ars k hk).2,trivial⟩
  have d:=h.cls.len _ (RK hk);have r:=h.cls.nd _ (RK hk);rw[←B]at d r;have K:bH l D.t.rows[j].l=0:=by
   unfold bH;rw[RH (by omega),RH I,RH];rw[X];intro e;exact w.one O ⟨gB hj,hi.sub _ e⟩
  have M:∀y∈aw D.A D.t.rows[j].rea,y≠D.t.rows[j].l->bH l y=-1:=λy hy u=>by
   have P:=(r3 y hy).1;refine JA h.toDeskT hi P ?_;rcases p y hy u with e|⟨i,b,m,z⟩
   .exact hi.neg y e
   .obtain⟨Y,C,U,S⟩:=(r3 y hy).2 u;have:i=Y:=w.inj b C (by rw[m,S]);subst this;rw[←m];refine hi.don i b z ?_;intro g;rcases R9.1 g with e|g
    .omega
    .have:=a.1 i g;omega
  have W:=unit_of d r N v K M;have G:¬pS l (aw D.A D.t.rows[j].rea)=-1:=by
   rw[mE];intro e;have:=e _ N v;omega
  have b:CInv D L s (l++[D.t.rows[j].l]) js:=by
   refine⟨?_,λy hy=>SX _ (hi.neg y hy),?_,?_,a.2⟩
   .intro x hx;rcases RS.1 hx with hx|hx
    .exact hi.sub x hx
    .simp at hx;subst hx;exact gB hj
   .intro i c f J
    by_cases e:i=j
    .subst e;simp
    .exact SX _ (hi.don i c f (by simp[e,J]))
   .intro i g;obtain⟨c,f,H⟩:=hi.todo i (RZ _ g);refine⟨c,f,?_⟩;intro e;rcases RS.1 e with e|e
    .exact H e
    .simp at e;have:=w.inj c hj (by rw[e]);have:=a.1 i g;omega
  obtain⟨l',F⟩:=JB h Q hn o q js _ (n+1) b;refine⟨l',?_⟩;rw[R4,R4,Sq,fk,tZ h.toDeskT hj,RH G,W,RI rfl,F,Sa];congr 2;omega
theorem hints_show{cs:List (List Int)}{ats:List Int}{D:DK}(h:DeskI cs ats D){con:Int}(m:Conf D con){L:List Int}(u:AllNeg D L)(ho:(lZ D.A D.T L con).ok=true):
 (rf D.T (lZ D.A D.T L con).at' con).Nodup∧(∀q∈rf D.T (lZ D.A D.T L con).at' con,isA D.A q=true)∧
  ∃l',fk (gm L) ((rf D.T (lZ D.A D.T L con).at' con).map (aw D.A)) 0=(l',(rf D.T (lZ D.A D.T L con).at' con).length,0):=by
 have hp:=Ac h m L;generalize lZ D.A D.T L con=s at*;obtain⟨_,J,a3⟩:=hp.all ho;have Q:=h.facts;have o:D.T.lits.length=D.t.rows.length:=by rw[h.ok.rel.1.lits,RR]
 have hin:=Ad h.toDeskT hp.ni D.t.rows.length (RJ _);have d:∀j∈Ft s D.t.rows.length,∃hj:j<D.t.rows.length,aC s.at' j=true∧0<=D.t.rows[j].rea∧-D.t.rows[j].l∉L:=λj hj=>by
  rw[xi]at hj;obtain⟨O,c,g,r,K⟩:=hp.ni.mem _ hj.2;have:j=O:=by omega
  subst this;exact⟨c,hj.2,r,K⟩
 have p:con∉(Ft s D.t.rows.length).map (rj D):=by
  intro e;obtain⟨j,hj,g⟩:=RO.1 e;obtain⟨c,_,F,_⟩:=d j hj;rw[tZ h.toDeskT c]at g;exact Nl h.toDeskT m c F g
 have M:rf D.T s.at' con=(Ft s D.t.rows.length).map (rj D)++[con]:=by
  unfold rf;rw[o,hin,RH p]
 have f:(Ft s D.t.rows.length).Pairwise (·<·):=List.Pairwise.filter _ List.pairwise_lt_range;rw[M];refine⟨?_,?_,?_⟩
 .rw[UA];refine⟨?_,by simp,λa N b I e=>?_⟩
  .refine Tu.2 (f.imp_of_mem λ{i j} hi hj w=>?_);obtain⟨n,_,G,_⟩:=d i hi;obtain⟨c,_,H,_⟩:=d j hj;rw[tZ h.toDeskT n,tZ h.toDeskT c];exact Jz h.toDeskT n c w G H
  .simp at I;subst I;exact p (e▸N)
 .intro q k;rcases RS.1 k with k|k
  .obtain⟨j,hj,g⟩:=RO.1 k;obtain⟨c,_,F,_⟩:=d j hj;rw[tZ h.toDeskT c]at g;rw[←g];exact(du h.toDeskT c F).1
  .simp at k;subst k;exact m.is
 .have v:CInv D L s (gm L) (Ft s D.t.rows.length):=by
   refine⟨?_,?_,?_,?_,f⟩
   .intro x hx;rw[pw]at hx;obtain⟨y,hy,rfl⟩:=hx;obtain⟨P,j,hj,e⟩:=u y hy;rw[(litO P).2.2.2.2,←e];exact gB hj
   .intro y hy;rw[pw];exact⟨y,hy,(litO (u y hy).1).2.2.2.2.symm⟩
   .intro j hj hs E;exact absurd ((xi s _ j).2 ⟨hj,hs⟩) E
   .intro j hj;obtain⟨c,hs,_,B⟩:=d j hj;refine⟨c,hs,λe=>?_⟩;rw[pw]at e;obtain⟨y,hy,r⟩:=e;rw[(litO (u y hy).1).2.2.2.2]at r;apply B;rw[r,TJ];exact hy
  obtain⟨l',z⟩:=JB h m hp.ni (λj hj hs y hy C=>a3 j hj hs (by simp[aC,lk]) y hy C) (λy hy=>J y hy (by have:=litO (m.neg y hy).1;omega)) _ _ 0 v;refine⟨l',?_⟩;rw[Sb];have:List.map (aw D.A) [con]=[aw D.A con]:=rfl;rw[this,z];congr 2;simp
theorem hints_ok_of{cs:List (List Int)}{ats:List Int}{D:DK}(h:DeskI cs ats D){con:Int}(a:Conf D con){L:List Int}(hk:∀y∈aw D.A con,HOk D.A D.T L y):(lZ D.A D.T L con).ok=true:=
 (Ac h a L).ok λy hy _=>hk y hy
theorem Ae{cs:List (List Int)}{ats:List Int}{D:DK}(h:DeskT cs ats D){L S:List Int}(f:∀x∈L,x∉S->lP D.A D.T L x=true):∀(n j:Nat)(hj:j<D.t.rows.length),j<n->(-D.t.rows[j].l∈L∨lP D.A D.T L (-D.t.rows[j].l)=true)->HOk D.A D.T S (-D.t.rows[j].l)
 |0,j,hj,hn,_=>by omega
 |n+1,j,hj,hn,hx=>by
  by_cases c:-D.t.rows[j].l∈S
  .exact .stop c
  have hd:lP D.A D.T L (-D.t.rows[j].l)=true:=hx.elim (λu=>f _ u c) id;rw[tc,RQ]at hd;obtain⟨g,p⟩:=hd;obtain⟨i,hi,G,H,_,z,m⟩:=Nj h.ok g;have q:=h.facts.chk _ (RK hj);obtain⟨n0,E,F,_⟩:=litO q;have w:aR (- -D.t.rows[j].l)=D.t.rows[j].l:=by rw[TJ];exact ap (by omega) (by omega)
  have v:cH D.T (-D.t.rows[j].l)=j:=(tY h hj (by omega)).1;have b:i=j:=by omega
  subst b;refine Cu h hj m λy hy a=>?_;obtain⟨I,_,B⟩:=du h hj m;obtain⟨J,C⟩:=B y hy;obtain⟨k,hk,r,e⟩:=C a;have s:=oF h.ok.rel.1 h.facts hk e;rw[iQ hk e]
  by_cases o:D.t.rows[k].lev<=0
  .exact xH h S (k+1) k hk (by omega) o
  have d:y∈tb D.A D.T (-D.t.rows[i].l):=by
   unfold tb;rw[RI g,SD,z];refine⟨hy,?_⟩;unfold uo;unfold dO at s;simp only[Sw,Ug,Th];exact⟨by rw[w];exact a,by omega⟩
  have hp:=Se.1 p y d;unfold nI lO at hp;simp only[S4,RQ,R0]at hp;refine Ae h f n k hk (by omega) ?_;rw[←iQ hk e];rcases hp with⟨_,hp,_⟩|⟨_,hp⟩
  .exact .inl hp
  .exact .inr hp
theorem sho_hok{cs:List (List Int)}{ats:List Int}{D:DK}(h:DeskT cs ats D){L:List Int}(b:AllNeg D L):∀x∈L,HOk D.A D.T (qh D.A D.T L) x:=λx hx=>by
 obtain ⟨_, j, hj, e⟩ := b x hx; rw [iQ hj e] at hx ⊢; refine Ae h (λ y hy hn => ?_) (j + 1) j hj (by omega) (.inl hx); have a : gR D.A D.T L y = true := R6 λ a => hn (by
  unfold qh;rw[←SI 1 L,RS]at hy;rcases hy with hy|hy
  .exact SX _ hy
  .refine TV _ ?_;unfold bk;rw[SD];exact⟨hy,by simpa using a⟩)
 unfold gR iO at a;rw[RQ]at a;exact a.2
theorem show_sound{m:List Bool}{S:List Int}{hs:List (List Int)}(a:∀y∈S,cF y=true)(b:∀c∈hs,c.length<=1000000)(h:(fk (gm S) hs 0).2.2=0)(d:∀c∈hs,cO c m=true):cO S m=true:=by
 refine R6 λhn=>vT hs (gm S) 0 b (λy hy=>?_) d h;obtain⟨x,hx,e⟩:=(pw S y).1 hy;obtain⟨n0,g,i,_,f⟩:=litO (a x hx);rw[e,f];refine Js ((aY x).2 (by omega)) ?_;rw[Uu]at hn;have:=Tv.1 hn x hx;simpa using this
end Go.AX.V