/-
  Engines: how they lie in memory, told as plain data.
  Engines: what always holds of their trails (plain law).
  Contracts: engines: what only asks, and Propagate.
  Contracts: engines: numbers of clauses, better variables, a level gone back to, a clause added.
-/
import Derived.Test.YtepodadinenmnaaGreatS14AxVaA
import Derived.Test.YtepodadinenmnaaGreatS14AxHpG
import Derived.Test.YtepodadinenmnaaGreatS14AxRnX
import Derived.Test.YtepodadinenmnaaGreatS14AxEvC
namespace Go.AX
open Go.Proofs
set_option linter.unusedSimpArgs false
structure ES where
  T:Tr
  A:Ar
  S:WS
  q:HS
  vars:Int
  cs:List (List Int)
  ph:List Bool
  keep:Int
  decay:Int
  inc:Int
  id:Int
  con:Int
  calm:Bool
  many:Int
  over:Bool
  pf:List Stp
  gl:List (Int×Int)
def bQ(bt ba bw bh:Nat)(E:ES):List SV:=[.pv (.ptr bt 0),.pv (ae E.vars),.pv (.seq false 1 (E.cs.map ao)),.pv (.ptr ba 0),.pv (.ptr bw 0),.pv (.ptr bh 0),.own true 1 (eF E.ph),.pv (ae E.keep),.pv (ae E.decay),.pv (ae E.inc),.pv (ae E.id),.pv (ae E.con),.pv (BL E.calm),.pv (ae E.many),.pv (BL E.over),.own true 4 (E.pf.map gA),.omap true (a8 fI E.gl)]
structure LayE (h:List (List SV)) (be bt ba bw bh:Nat) (mp:List (Int×Nat)) (mb:List (Int×By)) (E:ES):Prop where
  w:LayW h bw ba bt mp mb E.A E.T E.S
  e:h[be]?=some (bQ bt ba bw bh E)
  q:h[bh]?=some (au E.q)
  ne:be≠bh
  eo:¬aU bw bt mp mb be∧be≠ba
  ho:¬aU bw bt mp mb bh∧bh≠ba
def da(be bt ba bw bh:Nat)(mp:List (Int×Nat))(mb:List (Int×By))(b:Nat):Prop:=b=be∨b=bh∨b=ba∨aU bw bt mp mb b
section
variable {h h' : List (List SV)} {be bt ba bw bh : Nat} {mp mp' : List (Int × Nat)} {mb mb' : List (Int × By)} {E : ES}
theorem LayW.setA{A:Ar}{T:Tr}{S:WS}(L:LayW h bw ba bt mp mb A T S)(f:Ar):LayW (h.set ba (mA f)) bw ba bt mp mb f T S where
 w:=(RN L.wa.symm).trans L.w
 a:=Si (Rt.1 L.a).1
 t:=(RN L.at').trans L.t
 wa:=L.wa
 wt:=L.wt
 at':=L.at'
 keys:=L.keys
 pr:=λk b i=>by
  obtain⟨p,h1,d,c⟩:=L.pr k b i;exact⟨p,h1,(RN c.2.1.symm).trans d,c⟩
 pinj:=L.pinj
 by':=λl e j=>by
  obtain⟨zs,h1,⟨sp,d,c⟩,g⟩:=L.by' l e j
  exact⟨zs,h1,⟨sp,(RN g.2.1.symm).trans d,c⟩,g⟩
 byn:=L.byn
 binj:=L.binj
 pb:=L.pb
theorem LayE.lt(L:LayE h be bt ba bw bh mp mb E):be<h.length∧bh<h.length:=⟨(Rt.1 L.e).1,(Rt.1 L.q).1⟩
theorem LayE.watch(L:LayE h be bt ba bw bh mp mb E){T:Tr}{S:WS}(W:LayW h' bw ba bt mp' mb' E.A T S)(X:Ext h h' (aU bw bt mp mb) (aU bw bt mp' mb')):LayE h' be bt ba bw bh mp' mb' {E with T:=T,S:=S}where
 w:=W
 e:=(X.same _ L.lt.1 L.eo.1).trans L.e
 q:=(X.same _ L.lt.2 L.ho.1).trans L.q
 ne:=L.ne
 eo:=⟨λd=>L.eo.1 (X.sub _ L.lt.1 d),L.eo.2⟩
 ho:=⟨λd=>L.ho.1 (X.sub _ L.lt.2 d),L.ho.2⟩
theorem LayE.trail(L:LayE h be bt ba bw bh mp mb E)(T:Tr):LayE (h.set bt (gr T)) be bt ba bw bh mp mb {E with T:=T}:=
 L.watch (L.w.setT T) (Ext.set bt _ (.inr (.inl rfl)))
theorem LayE.arena(L:LayE h be bt ba bw bh mp mb E)(A:Ar):LayE (h.set ba (mA A)) be bt ba bw bh mp mb {E with A:=A}where
 w:=L.w.setA A
 e:=(RN L.eo.2.symm).trans L.e
 q:=(RN L.ho.2.symm).trans L.q
 ne:=L.ne
 eo:=L.eo
 ho:=L.ho
theorem LayE.heap(L:LayE h be bt ba bw bh mp mb E)(q:HS):LayE (h.set bh (au q)) be bt ba bw bh mp mb {E with q:=q}where
 w:=L.w.other bh (au q) L.ho.1 L.ho.2
 e:=(RN L.ne.symm).trans L.e
 q:=Si L.lt.2
 ne:=L.ne
 eo:=L.eo
 ho:=L.ho
theorem LayE.eng(L:LayE h be bt ba bw bh mp mb E)(a:ES)(d:a.T=E.T)(b:a.A=E.A)(c:a.S=E.S)(f:a.q=E.q):LayE (h.set be (bQ bt ba bw bh a)) be bt ba bw bh mp mb a where
 w:=by
  rw[d,b,c];exact L.w.other be _ L.eo.1 L.eo.2
 e:=Si L.lt.1
 q:=by rw[f];exact(RN L.ne).trans L.q
 ne:=L.ne
 eo:=L.eo
 ho:=L.ho
theorem Ext.eng(X:Ext h h' (aU bw bt mp mb) (aU bw bt mp' mb')):Ext h h' (da be bt ba bw bh mp mb) (da be bt ba bw bh mp' mb')where
 len:=X.len
 same:=λb a hn=>X.same b a λd=>hn (.inr (.inr (.inr d)))
 sub:=λb a d=>d.imp id (Or.imp id (Or.imp id (X.sub b a)))
end
def Cm(T:Tr)(l:Int):En:=⟨l,(bI T (af l)).lev,(bI T (af l)).rea⟩
def fT(T:Tr):RT:=⟨(T.marks.length:Int) -1,T.lits.map (Cm T),T.beg.length⟩
theorem DV(beg:List Int)(i:Nat):0<=mJ beg i∧mJ beg i<=beg.length:=by
 unfold mJ;have:=SU (λb=>decide (b<=(i:Int))) beg;omega
theorem DW{beg:List Int}(h:beg.Pairwise (·<·)){k:Nat}(hk:k<beg.length)(i:Nat):mJ beg i<=k↔(i:Int)<beg[k]:=by
 have hp:=R9.1 h;have key:∀n,n<=beg.length->(((beg.take n).filter λb=>decide (b<=(i:Int))).length=n∨∃j,∃hj:j<beg.length,j<n∧(i:Int)<beg[j]):=by
  intro n hn
  by_cases c:∃j,∃hj:j<beg.length,j<n∧(i:Int)<beg[j]
  .exact .inr c
  .left;rw[Tw.2,RD]
   .omega
   .intro b a;obtain⟨j,hj,rfl⟩:=SH.1 a;have:¬(i:Int)<beg[j]:=λq=>c ⟨j,by omega,by omega,q⟩;simp;omega
 unfold mJ;constructor
 .intro f;rcases key (k+1) (by omega)with e|⟨j,hj,d,e⟩
  .have:=(UC (k+1) beg).filter (λb=>decide (b<=(i:Int)));have:=this.length_le;omega
  .by_cases q:j=k
   .subst q;exact e
   .have:=hp j k hj hk (by omega);omega
 .intro hi;have e:beg.filter (λb=>decide (b<=(i:Int)))=(beg.take k).filter (λb=>decide (b<=(i:Int))):=by
   conv=>lhs;rw[←Sy k beg,SO]
   have:(beg.drop k).filter (λb=>decide (b<=(i:Int)))=[]:=by
    rw[Tn];intro b a;obtain⟨j,hj,rfl⟩:=Ub.1 a
    by_cases q:j=0
    .subst q;simp;omega
    .have:=hp k (k+j) hk (by omega) (by omega);simp;omega
   rw[this,SX]
  rw[e];have:=SU (λb=>decide (b<=(i:Int))) (beg.take k);rw[RD]at this;omega
section
variable {n : Nat} {T : Tr}
theorem TOk.rows(h:TOk n T){i:Nat}(hi:i<(fT T).rows.length):∃a:i<T.lits.length,(fT T).rows[i]=⟨T.lits[i],mJ T.beg i,(bI T (af T.lits[i])).rea⟩:=by
 have a:i<T.lits.length:=by simpa[fT]using hi
 refine⟨a,?_⟩;have:(fT T).rows[i]=Cm T T.lits[i]:=by simp only[fT,Vq]
 rw[this];unfold Cm;rw[(h.mark i a).2.1]
theorem TOk.deep(h:TOk n T):T.beg.length<=T.lits.length:=by
 have h1:(T.beg.map Int.toNat).Nodup:=by
  refine Tj.2 (h.rise.imp_of_mem ?_);intro a b d c f e;have:=h.bnd a d;have:=h.bnd b c;omega
 have:=cW (T.beg.map Int.toNat) (List.range T.lits.length) h1 λx hx=>by
  obtain⟨b,c,rfl⟩:=RE.1 hx;have:=h.bnd b c;rw[SK];omega
 simpa using this
theorem TOk.rel(h:TOk n T):V.RelD T (fT T):=by
 have c:=h.vars;have hn:=h.hn;have hin:∀x∈(fT T).rows,∃i,∃hi:i<T.lits.length,x=⟨T.lits[i],mJ T.beg i,(bI T (af T.lits[i])).rea⟩:=λx hx=>by
  obtain⟨i,hi,rfl⟩:=RJ hx;obtain⟨a,e⟩:=h.rows hi;exact⟨i,a,e⟩
 refine⟨⟨?_,?_,?_,rfl,?_,?_,?_,?_⟩,?_⟩
 .show 0<=(T.marks.length:Int) -1∧(T.marks.length:Int) -1<=100000;omega
 .show(T.marks.length:Int)=(T.marks.length:Int) -1+1;omega
 .show T.lits=(T.lits.map (Cm T)).map (·.l);simp[Sz,Uo,Cm]
 .intro x hx;obtain⟨i,hi,rfl⟩:=hin x hx;show ax T.lits[i] ((T.marks.length:Int) -1)=0;rw[c];exact h.chk _ (Rz hi)
 .intro x hx;obtain⟨i,hi,rfl⟩:=hin x hx;exact⟨V.okL_chk (v:=n) (by omega) (h.chk _ (Rz hi)),DV _ _⟩
 .intro v c;refine h.free v λg=>?_;obtain⟨x,hx,e⟩:=RE.1 g;exact xa c (Cm T x) (Ty hx) e
 .intro v i hi e;obtain⟨j,hj,p,d⟩:=lj (t:=fT T) (v:=v) (by omega);have:j=i:=by omega
  subst this;obtain⟨b,f⟩:=h.rows hj;rw[f]at d⊢;obtain⟨k,m,o⟩:=h.mark j b;subst d;show bI T (af T.lits[j])=⟨zK T.lits[j],mJ T.beg j,(bI T (af T.lits[j])).rea,j⟩;rw[←k,←m,←o]
 .show T.beg.length<=(T.lits.map (Cm T)).length;rw[RH];exact h.deep
theorem TOk.mayR(h:TOk n T){l:Int}(f:fD T l=0):Go.AX.mayR (fT T) l=0:=by
 obtain⟨b,g,j⟩:=(h.may l).1 f;have hp:p9 (fT T) (af l)<0:=by
  refine Int.lt_of_not_ge λc=>?_;obtain⟨i,hi,_,e⟩:=lj c;obtain⟨a,d⟩:=h.rows hi;rw[d]at e;rcases(pC h.hn (h.chk _ (Rz a)) b).1 e with q|q
  .exact g (q▸Rz a)
  .exact j (q▸Rz a)
 unfold Go.AX.mayR;have:(fT T).vars=n:=h.vars;rw[this,Rw (by simp[b]),Rw (by omega)]
theorem xE(h:TMk n T){l:Int}(f:fD T l=0)(rea:Int):fT (gu T l rea)=⟨(fT T).vars,(fT T).rows++[⟨l,T.beg.length,rea⟩],T.beg.length⟩:=by
 obtain⟨b,j,k⟩:=(h.may l).1 f;obtain⟨_,_,_,c,m,_⟩:=bA h.hn b;have a:af l<T.marks.length:=by rw[h.len];omega
 have g:(T.lits++[l]).map (Cm (gu T l rea))=T.lits.map (Cm T)++[⟨l,T.beg.length,rea⟩]:=by
  rw[R1];congr 1
  .refine TT λx hx=>?_;unfold Cm;have i:=(bA h.hn (h.chk x hx)).2.2.2.1;rw[j7 T l rea c a _ (by omega),Rw];intro e;rcases(pC h.hn (h.chk x hx) b).1 e with q|q
   .exact j (q▸hx)
   .exact k (q▸hx)
  .simp only[RU,TW];unfold Cm;rw[j7 T l rea c a _ (by omega),Rx rfl]
 have d:(gu T l rea).marks.length=T.marks.length:=by simp[gu]
 unfold fT;rw[d];exact Ua (λr=>(⟨(T.marks.length:Int) -1,r,T.beg.length⟩:RT)) g
theorem DX(h:TOk n T):∀j,j<=T.lits.length->∀i (hi:i<T.lits.length),i<T.lits.length -j->bI (popN T j) (af T.lits[i])=bI T (af T.lits[i])
 |0,_,_,_,_=>rfl
 |j+1,hj,i,hi,d=>by
  have f:=DX h j (by omega) i hi (by omega);rw[←f,popN];have c:(popN T j).lits.length=T.lits.length -j:=by rw[d9,RD];omega
  have b:T.lits.length -j -1<T.lits.length:=by omega
  have a:(popN T j).lits.getD ((popN T j).lits.length -1) 0=T.lits[T.lits.length -j -1]:=by
   rw[c,d9,Rv,SB,Rx (by omega),Ru b];rfl
  unfold bI lC;rw[a];simp only[Rv,R4];have g:=(bA h.hn (h.chk _ (Rz hi))).2.2.2.1;have k:=(bA h.hn (h.chk _ (Rz b))).2.2.2.1;rw[Rw];intro e;have:=h.inj b hi (by omega);omega
theorem z6(h:TOk n T){k:Nat}(hk:k<T.beg.length):fT (bz T k)=⟨(fT T).vars,(fT T).rows.take (T.beg[k]).toNat,k⟩:=by
 obtain⟨f,j,g⟩:=h.back hk;have a:T.beg.getD k 0=T.beg[k]:=by rw[Rv,Ru hk];rfl
 obtain⟨b1,b2⟩:=h.bnd _ (Rz hk);have c:(bz T k).marks.length=T.marks.length:=by rw[f.len,h.len]
 have d:(bz T k).lits.map (Cm (bz T k))=(T.lits.map (Cm T)).take (T.beg[k]).toNat:=by
  rw[j,←TG];refine TT λx hx=>?_;obtain⟨i,hi,rfl⟩:=SH.1 hx;have b:i<T.lits.length:=by omega
  have l:bI (bz T k) (af T.lits[i])=bI T (af T.lits[i]):=by
   have e:bI (bz T k) (af T.lits[i])=bI (popN T (T.lits.length -(T.beg[k]).toNat)) (af T.lits[i]):=by unfold bI bz;rw[a]
   rw[e];exact DX h _ (by omega) i b (by omega)
  unfold Cm;rw[l]
 unfold fT;rw[c,d,g,RD,Tc (by omega)]
end
structure EF (cs:List (List Int)) (ats:List Int) (t:RT):Prop extends V.TraF cs ats t where
  clm:∀k:Int,0<k->k<=t.dep->Calm cs (bel t k)
def Cn(ls c:List Int):Prop:=(∃x∈c,x∈ls)∨∃x y,x∈c∧y∈c∧x≠y∧-x∉ls∧-y∉ls
theorem xF{cs:List (List Int)}{ls:List Int}(m:∀c∈cs,c.length<=1000∧∀y∈c,cE y=true)(one:∀y,cE y=true->¬(y∈ls∧-y∈ls))(h:∀c∈cs,Cn ls c):Calm cs ls:=by
 intro c g;obtain⟨o,d⟩:=m c g;have i:∀y∈c,bJ ls y=-1->-y∈ls:=λy hy e=>by
  have:=w8 e
  rwa [(V.litO (d y hy)).2.2.2.2]at this
 have key:∀b,(b∈c->bJ ls b≠-1->bJ ls b=0)->¬∀y∈c,y≠b->bJ ls y=-1:=λb h0 a=>by
  rcases h c g with⟨x,hx,e⟩|⟨x,y,hx,hy,f,j,k⟩
  .have n:bJ ls x=1:=by
    unfold bJ;rw[Rw (by have:=(V.litO (d x hx)).2.2.2.1;omega),Rx e]
   by_cases q:x=b
   .subst q;have:=h0 hx (by omega);omega
   .have:=a x hx q;omega
  .by_cases q:x=b
   .exact k (i y hy (a y hy (λe=>f (q.trans e.symm))))
   .exact j (i x hx (a x hx q))
 refine⟨?_,λe=>?_⟩
 .rw[←Uj];intro e;obtain⟨s,p,r⟩:=Dr (l:=ls) o (λy hy=>(V.litO (d y hy)).2.2.2.1) e;exact key _ (λ_ _=>p) r
 .rw[mB]at e;exact key 0 (λhx _=>absurd rfl (V.litO (d 0 hx)).1) λy hy _=>e y hy (V.litO (d y hy)).2.2.2.1
section
variable {cs : List (List Int)} {ats : List Int} {t : RT}
theorem EF.new(v:Int):EF cs ats ⟨v,[],0⟩:=
 ⟨⟨by simp,by simp,by simp,by simp,λi j hi=>by simp at hi,λi hi=>by simp at hi,λh=>by simp at h,λk h1 a=>by simp at a;omega,λi hi=>by simp at hi⟩,λk h1 a=>by simp at a;omega⟩
theorem EF.app(h:EF cs ats t)(M:0<=t.vars∧t.vars<=100000){x:En}(hx:mayR t x.l=0){d:Int}(hd:x.lev=d)(L:t.dep<=d)(K:d<=t.dep+1)
 (r:x.rea<0->d=t.dep+1) (G:0<=x.rea->d=t.dep) (w:d=t.dep+1->Calm cs (dO t))
 (s:d=t.dep+1->x.rea<0)
 (C : 0 <= x.rea -> ∃ k, ∃ hk : k < cs.length, x.rea = ats.getD k 0 ∧ x.l ∈ cs[k] ∧ (∀ y ∈ cs[k], y ≠ x.l -> ∃ j, ∃ hj : j < t.rows.length, t.rows[j].l = -y) ∧
  (0<x.lev->∃y∈cs[k],y≠x.l∧∃j,∃hj:j<t.rows.length,t.rows[j].l=-y∧t.rows[j].lev=x.lev)):
 EF cs ats ⟨t.vars,t.rows++[x],d⟩:=by
 obtain⟨F,N⟩:=HN hx;have F:=V.okL_chk M F;have H:(t.rows++[x]).length=t.rows.length+1:=by simp
 have o:∀k:Int,0<k->k<=d->Calm cs (bel ⟨t.vars,t.rows++[x],d⟩ k):=by
  intro k D v;have z:bel ⟨t.vars,t.rows++[x],d⟩ k=bel t k:=by
   unfold bel;dsimp only;rw[SO];have:List.filter (λx:En=>decide (x.lev<k)) [x]=[]:=by simp;omega
   rw[this,SX]
  rw[z]
  by_cases c:k<=t.dep
  .exact h.clm k D c
  .have:k=t.dep+1:=by omega
   rw[this,KR (λx hx=>(h.lev x hx).2)];exact w (by omega)
 refine⟨⟨by have:=h.dep;dsimp only;omega,?_,?_,?_,?_,?_,λh0=>o d h0 (TU _),?_,?_⟩,o⟩
 .intro y hy;rcases RI.1 hy with hy|hy
  .exact h.chk y hy
  .simp at hy;subst hy;exact F
 .dsimp only;rw[R1,Up];refine⟨h.nd,by simp,?_⟩;intro a I b z e;obtain⟨y,hy,rfl⟩:=RE.1 I;simp at z;exact xa N y hy (e.trans z)
 .intro y hy;rcases RI.1 hy with hy|hy
  .have:=h.lev y hy;dsimp only;omega
  .simp at hy;subst hy;have:=h.dep;dsimp only;omega
 .intro i j hi hj n;dsimp only at hi hj⊢;rcases iM hj with⟨u,e⟩|⟨u,e⟩
  .rcases iM hi with⟨f,e'⟩|⟨f,e'⟩
   .rw[e,e'];exact h.mono i j f u n
   .omega
  .rcases iM hi with⟨f,e'⟩|⟨f,e'⟩
   .rw[e,e',hd];have:=(h.lev _ (Rz f)).2;omega
   .omega
 .intro i hi m;dsimp only at hi m⊢;rcases iM hi with⟨f,e'⟩|⟨f,e'⟩
  .rw[e']at m⊢;obtain⟨q,g2⟩:=h.dec i f m;refine⟨q,λj hj n=>?_⟩;rw[Su (by omega)];exact g2 j (by omega) n
  .rw[e']at m⊢;have J:=r m;refine⟨by have:=h.dep;omega,λj hj n=>?_⟩;rw[Su (by omega)];have:=(h.lev _ (Rz (show j<t.rows.length by omega))).2;omega
 .intro k hk v;dsimp only at v⊢
  by_cases c:k<=t.dep
  .obtain⟨y,hy,e⟩:=h.fst k hk c;exact⟨y,SJ _ hy,e⟩
  .exact⟨x,by simp,by omega,s (by omega)⟩
 .intro i hi m;dsimp only at hi m⊢;rcases iM hi with⟨f,e'⟩|⟨f,e'⟩
  .rw[e']at m⊢;obtain⟨k,hk,q,g2,g3,B⟩:=h.imp i f m;refine⟨k,hk,q,g2,λy hy g=>?_,λE=>?_⟩
   .obtain⟨j,hj,p,e⟩:=g3 y hy g;exact⟨j,by omega,p,by rw[Su hj];exact e⟩
   .obtain⟨y,hy,g,j,hj,p,e,A⟩:=B E;exact⟨y,hy,g,j,by omega,p,by rw[Su hj];exact e,by rw[Su hj];exact A⟩
  .rw[e']at m⊢;obtain⟨k,hk,q,g2,g3,B⟩:=C m;refine⟨k,hk,q,g2,λy hy g=>?_,λE=>?_⟩
   .obtain⟨j,hj,e⟩:=g3 y hy g;exact⟨j,by omega,by omega,by rw[Su hj];exact e⟩
   .obtain⟨y,hy,g,j,hj,e,A⟩:=B E;exact⟨y,hy,g,j,by omega,by omega,by rw[Su hj];exact e,by rw[Su hj];exact A⟩
theorem EF.unit(h:EF cs ats t)(p:V.ClsN cs ats)(F:0<=t.vars∧t.vars<=100000){k:Nat}(hk:k<cs.length){x:Int}(A:x∈cs[k])(C:mayR t x=0)(ho:∀y∈cs[k],y≠x->-y∈dO t):EF cs ats ⟨t.vars,t.rows++[⟨x,t.dep,ats.getD k 0⟩],t.dep⟩:=by
 have b:=Rz hk;have f:=p.chk _ b;have hp:=p.pos k hk;have m:∀y∈cs[k],y≠x->∃j,∃hj:j<t.rows.length,t.rows[j].l=-y:=λy hy i=>by
  obtain⟨a,q,e⟩:=RE.1 (ho y hy i);obtain⟨j,hj,rfl⟩:=RJ q;exact⟨j,hj,e⟩
 refine h.app F (x:=⟨x,t.dep,ats.getD k 0⟩) C rfl (by omega) (by omega) (λh=>by dsimp only at h;omega) (λ_=>rfl) (λh=>by omega) (λh=>by omega) (λ_=>⟨k,hk,rfl,A,m,λB=>?_⟩);dsimp only at B⊢;apply RW;intro s;have d:=h.top B _ b;have o:=f x A;obtain⟨H,_,_,w,_⟩:=V.litO o;obtain⟨_,G⟩:=HN C;have g:∀z∈dO t,af z≠af x:=λz hz=>by
  obtain⟨a,q,rfl⟩:=RE.1 hz;exact xa G a q
 have u:bJ (bel t t.dep) x=0:=by
  unfold bJ;rw[Rw (by omega),Rw (λe=>g x (jt _ e) rfl),Rw (λe=>g _ (jt _ e) (by rw[(V.litO o).2.2.2.2,dG]))]
 have v:∀y∈cs[k],y≠x->bJ (bel t t.dep) y=-1:=λy hy i=>by
  obtain⟨j,hj,e⟩:=m y hy i;have E:=(h.lev _ (Rz hj)).2;have r:t.rows[j].lev<t.dep:=by
   rcases Vb t.rows[j].lev t.dep with c|c
   .exact c
   .exact absurd ⟨y,hy,i,j,hj,e,by omega⟩ s
  have n:-y∈bel t t.dep:=by
   unfold bel;rw[RE];exact⟨t.rows[j],Ss.2 ⟨Rz hj,by simpa using r⟩,e⟩
  exact V.val3_m1_of (f y hy) n (λD=>h.one (f y hy) ⟨jt _ D,jt _ n⟩)
 have:=unit_of (p.len _ b) (p.nd _ b) A w u v;rw[this]at d;exact absurd d.1 (by simp)
theorem EF.back(h:EF cs ats t){m:Nat}{k:Int}(v:0<=k)(hk:k<t.dep)(z:∀i (hi:i<t.rows.length),i<m↔t.rows[i].lev<=k):EF cs ats ⟨t.vars,t.rows.take m,k⟩:=by
 have p:∀x∈t.rows.take m,x∈t.rows:=λx hx=>Sl hx;have b:∀{i},i<(t.rows.take m).length->i<m∧i<t.rows.length:=λhi=>by rw[RD]at hi;omega
 have hin:∀{j},(hj:j<t.rows.length)->t.rows[j].lev<=k->∃F:j<(t.rows.take m).length,(t.rows.take m)[j]=t.rows[j]:=λ{j} hj w=>by
  have:=(z j hj).2 w;exact⟨by rw[RD];omega,SQ⟩
 have c:∀j:Int,0<j->j<=k->Calm cs (bel ⟨t.vars,t.rows.take m,k⟩ j):=by
  intro j f o;have E:bel ⟨t.vars,t.rows.take m,k⟩ j=bel t j:=by
   unfold bel;dsimp only
   conv=>rhs;rw[←Sy m t.rows,SO]
   have:(t.rows.drop m).filter (λx:En=>decide (x.lev<j))=[]:=by
    rw[Tn];intro x hx;obtain⟨i,hi,rfl⟩:=Ub.1 hx;have:=z (m+i) (by omega);simp;omega
   rw[this,SX]
  rw[E];exact h.clm j f (by omega)
 refine⟨⟨v,λx hx=>h.chk x (p x hx),?_,?_,?_,?_,λh0=>c k h0 (TU _),?_,?_⟩,c⟩
 .exact h.nd.sublist ((UC m t.rows).map _)
 .intro x hx;obtain⟨i,hi,rfl⟩:=RJ hx;obtain⟨A,r⟩:=b hi;have e:(t.rows.take m)[i]=t.rows[i]:=SQ;dsimp only at e⊢;rw[e];exact⟨(h.lev _ (Rz r)).1,(z i r).1 A⟩
 .intro i j hi hj d;dsimp only at hi hj⊢;rw[SQ,SQ];exact h.mono i j (b hi).2 (b hj).2 d
 .intro i hi n;dsimp only at hi n⊢;rw[SQ]at n⊢;obtain⟨u,g2⟩:=h.dec i (b hi).2 n;refine⟨u,λj hj d=>?_⟩;rw[SQ];exact g2 j (b hj).2 d
 .intro j f o;dsimp only at o⊢;obtain⟨x,hx,B,s⟩:=h.fst j f (by omega);obtain⟨i,hi,rfl⟩:=RJ hx;obtain⟨q,e⟩:=hin hi (by omega);exact⟨_,Rz q,by rw[e];exact B,by rw[e];exact s⟩
 .intro i hi n;dsimp only at hi n⊢;rw[SQ]at n⊢;obtain⟨A,r⟩:=b hi;obtain⟨a,D,u,g2,g3,C⟩:=h.imp i r n;refine⟨a,D,u,g2,λy hy l=>?_,λw=>?_⟩
  .obtain⟨j,hj,g,e⟩:=g3 y hy l;exact⟨j,by rw[RD];omega,g,by rw[SQ];exact e⟩
  .obtain⟨y,hy,l,j,hj,g,e,s⟩:=C w;exact⟨y,hy,l,j,by rw[RD];omega,g,by rw[SQ];exact e,by rw[SQ];exact s⟩
theorem EF.cls{a:List (List Int)}{b:List Int}(h:EF cs ats t)(g:∀k:Int,0<k->k<=t.dep->Calm a (bel t k))
 (n:∀i (hi:i<t.rows.length),0<=t.rows[i].rea->∀k (hk:k<cs.length),t.rows[i].rea=ats.getD k 0->t.rows[i].l∈cs[k]->∃k',∃c:k'<a.length,b.getD k' 0=ats.getD k 0∧a[k']=cs[k]):EF a b t:=
 ⟨⟨h.dep,h.chk,h.nd,h.lev,h.mono,h.dec,λh0=>g _ h0 (TU _),h.fst,λi hi d=>by
  obtain⟨k,hk,f,g2,g3,m⟩:=h.imp i hi d;obtain⟨k',c,j,e⟩:=n i hi d k hk f g2;exact⟨k',c,f.trans j.symm,by rw[e];exact g2,by rw[e];exact g3,by rw[e];exact m⟩⟩,g⟩
def NZ(F:List (List Int))(c:List Int):Prop:=∀m:List Bool,(∀d∈F,eh d m=true)->eh c m=true
theorem EF.zero(h:EF cs ats t)(o:V.ClsN cs ats){F:List (List Int)}(d:∀c∈cs,NZ F c):∀(n i:Nat)(hi:i<t.rows.length),i<n->t.rows[i].lev<=0->NZ F [t.rows[i].l]
 |0,_,_,hn,_=>absurd hn (by omega)
 |n+1,i,hi,hn,u=>by
  by_cases s:t.rows[i].rea<0
  .have:=(h.dec i hi s).1;omega
  obtain⟨k,hk,_,_,g3,_⟩:=h.imp i hi (by omega);intro m f;have p:=d _ (Rz hk) m f;obtain⟨y,hy,e⟩:=Ti.1 p
  by_cases q:y=t.rows[i].l
  .subst q;show List.any [t.rows[i].l] (ka m)=true;simp[e]
  .obtain⟨j,hj,b,g⟩:=g3 y hy q;have r:=h.mono j i hj hi b;have a:=h.zero o d n j hj (by omega) (by omega) m f;rw[g]at a;have a:ka m (-y)=true:=by
    have a:List.any [-y] (ka m)=true:=a;simpa using a
   rw[zW e]at a;cases a
end
section
variable {h : List (List SV)} {be bt ba bw bh : Nat} {mp : List (Int × Nat)} {mb : List (Int × By)} {E : ES}
theorem dI(c:h[be]?=some (bQ bt ba bw bh E)):aB Tryz.prog 55 [.ptr be 0] h (λr h'=>h'=h∧r=.pv (BL true)):=by
 refine fC [] [.tmp 2] aE Tryz.func55 ?_;obtain⟨b,a⟩:=Rt.1 c;simp[a,b,bQ]
theorem vS:am Tryz.prog 55 [.lit (.pointer none)] (λr=>r=.pv (BL false)):=by
 refine aq aE Tryz.func55 ?_;simp
theorem fu(c:h[be]?=some (bQ bt ba bw bh E)):aB Tryz.prog 17 [.ptr be 0] h (λr h'=>h'=h∧r=.pv (BL E.over)):=by
 refine fC [] [.tmp 2] aE Tryz.func17 ?_;obtain⟨b,a⟩:=Rt.1 c;simp;refine aj.intro (dI c) ?_;rintro _ _ ⟨rfl,rfl⟩;simp[a,b,bQ]
theorem nf(c:h[be]?=some (bQ bt ba bw bh E)):aB Tryz.prog 45 [.ptr be 0] h (λr h'=>h'=h∧r=.pv (ae E.many)):=by
 refine fC [] [.tmp 2] aE Tryz.func45 ?_;obtain⟨b,a⟩:=Rt.1 c;simp;refine aj.intro (dI c) ?_;rintro _ _ ⟨rfl,rfl⟩;simp[a,b,bQ]
theorem gE(L:LayE h be bt ba bw bh mp mb E):aB Tryz.prog 47 [.ptr be 0] h (λr h'=>h'=h∧r=.pv (ae E.T.beg.length)):=by
 refine fC [] [.tmp 2] aE Tryz.func47 ?_;obtain⟨b,a⟩:=Rt.1 L.e;have hz:=cH L.w.t 2;have ht:=(Rt.1 L.w.t).1;have c:=jU E.T;simp;refine aj.intro (dI L.e) ?_;rintro _ _ ⟨rfl,rfl⟩;simp[a,b,bQ,hz];refine aj.introP c ?_ (by simp[ht]) (by simp);simp
theorem fv(L:LayE h be bt ba bw bh mp mb E)(c:E.T.lits.length<=1000000):aB Tryz.prog 16 [.ptr be 0] h (λr h'=>h'=h∧r=.pv (.seq true 1 (aa E.T.lits))):=by
 refine dQ [] [.tmp 2] aE Tryz.func16 ?_;obtain⟨b,a⟩:=Rt.1 L.e;have hz:=cH L.w.t 2;have ht:=(Rt.1 L.w.t).1;have d:=fo E.T c;simp;refine aj.intro (dI L.e) ?_;rintro _ _ ⟨rfl,rfl⟩;simp[a,b,bQ,hz];refine aj.introP d ?_ (by simp[ht]) (by simp);simp[bu,bd]
def aO(E:ES):ES:=if E.over=true then E else{E with S:=(dz E.S E.T).1,T:=(dz E.S E.T).2.1,con:=(dz E.S E.T).2.2,calm:=decide ((dz E.S E.T).2.2<0)}
set_option maxRecDepth 16000 in
theorem tN(L:LayE h be bt ba bw bh mp mb E){n:Nat}(p:WOk n E.S)(o:TOk n E.T):aB Tryz.prog 43 [.ptr be 0] h (λr h'=>r=.pv (BL (!E.over&&!(aO E).calm))∧∃mb',LayE h' be bt ba bw bh mp mb' (aO E)∧Ext h h' (da be bt ba bw bh mp mb) (da be bt ba bw bh mp mb')):=by
 refine cO [] [.tmp 2] aE Tryz.func43 ?_;obtain⟨c,b⟩:=Rt.1 L.e;have q:=IR h bw ba bt mp mb E.A L.w p o;have a:aO E=if E.over=true then E else{E with S:=(dz E.S E.T).1,T:=(dz E.S E.T).2.1,con:=(dz E.S E.T).2.2,calm:=decide ((dz E.S E.T).2.2<0)}:=rfl;generalize aO E=f at*;simp;refine aj.intro (dI L.e) ?_;rintro _ _ ⟨rfl,rfl⟩;cases ho:E.over
 rotate_left
 .rw[Rx ho]at a;subst a;simp[b,c,bQ,ho];exact⟨mb,L,Ext.refl _ _⟩
 rw[Rw (by simp[ho])]at a;generalize dz E.S E.T=R at*;obtain⟨t,u,k⟩:=R;dsimp only at*;simp[b,c,bQ,ho];refine aj.intro q ?_;rintro _ s ⟨rfl,d,l,i⟩;have g:=L.watch l i;obtain⟨m,g2⟩:=Rt.1 g.e;have L3:=g.eng f (by rw[a]) (by rw[a]) (by rw[a]) (by rw[a]);have j:=(Ext.eng (be:=be) (bh:=bh) (ba:=ba) i).trans (Ext.set be (bQ bt ba bw bh f) (.inl rfl));subst a;simp[m,g2,bQ,ho]at L3 j⊢;exact⟨d,L3,j⟩
end
end Go.AX
namespace Go.AX
set_option maxRecDepth 16000
open Go.Proofs
set_option linter.unusedSimpArgs false
def xI(f:Int->Int)(l:List Int)(i:Nat):List Int:=(l.take i).map f++List.replicate (l.length -i) 0
theorem Ju(f:Int->Int)(l:List Int)(i:Nat)(h:i<=l.length):(xI f l i).length=l.length:=by unfold xI;simp;omega
theorem Jv(f:Int->Int)(l:List Int)(i:Nat)(h:i<l.length):(xI f l i).set i (f l[i])=xI f l (i+1):=by
 unfold xI;have e:l.length -i=(l.length -(i+1))+1:=by omega
 rw[e,U4,Uz _ _ (by simp;omega)];have a:i -((l.take i).map f).length=0:=by simp;omega
 rw[a,Vc,SC h,R1,RU,TW,R6];rfl
theorem Jw(f:Int->Int)(l:List Int):xI f l l.length=l.map f:=by unfold xI;simp
section
variable {h : List (List SV)} {be bt ba bw bh : Nat} {mp : List (Int × Nat)} {mb : List (Int × By)} {E : ES}
theorem D4(L:LayE h be bt ba bw bh mp mb E)(hk:lr E.A)(j:E.A.row.length<=1000000)(l:List Int)(m:l.length<=1000000):aB Tryz.prog 95 [.ptr be 0,.seq false 1 (aa l)] h (λr h'=>h'=h∧r=.pv (.seq true 1 (aa (l.map (iW E.A))))):=by
 refine dQ [] [.tmp 4] aE Tryz.func95 ?_;obtain⟨g,b⟩:=Rt.1 L.e;have o:=λk=>II h ba E.A L.w.a hk j k;simp[b,g,bQ];refine⟨by omega,?_⟩;refine aw.intro (S:=λ(i:Nat)=>⟨[(5,.pv (.fn (.func 158) [.ptr ba 0] [])),(6,.own true 1 (aa (xI (iW E.A) l i))),(17,.pv (.seq false 1 (aa l))),(18,.pv (ae l.length)),(19,.pv (ae i))],h⟩) (λi=>i<=l.length) (λi=>l.length -i) 0 ?_ (RL _) ?_
 .exact ah.keep (by simp[xI,aa]) rfl
 intro i hi;have d:=Ju (iW E.A) l i hi
 by_cases c:i<l.length
 .have n:=dr i;have hs:=Jv (iW E.A) l i c;simp[c];refine aj.intro (o l[i]) ?_;rintro _ _ ⟨rfl,rfl⟩;simp[d,c];exact⟨i+1,by(try dsimp only);omega,by(try dsimp only);omega,ah.keep (by simp[n,iR,hs]) rfl⟩
 .have f:i=l.length:=by omega
  subst f;simp[Jw,bu,bd]
structure HpTo (n:Nat) (q q':HS):Prop where
  hp:HpG n 1000000000000 q'
  mem:∀v,v∈q.row->v∈q'.row
theorem HpTo.refl{n:Nat}{q:HS}(g:HpG n 1000000000000 q):HpTo n q q:=⟨g,λ_ h=>h⟩
theorem HpTo.trans{n:Nat}{a b c:HS}(x:HpTo n a b)(y:HpTo n b c):HpTo n a c:=⟨y.hp,λv h=>y.mem v (x.mem v h)⟩
theorem HpTo.bump{n:Nat}{q:HS}(g:HpG n 1000000000000 q)(v b:Int):HpTo n q (eY q v b).1:=⟨(vM g v b).1,λx hx=>(vM g v b).2.1.symm.subset hx⟩
theorem HpTo.halve{n:Nat}{q:HS}(g:HpG n 1000000000000 q):HpTo n q (cu q):=by
 obtain⟨a,b,_⟩:=lD (M:=500000000000) (g.mono (by decide)) (by decide) (by decide);exact⟨a.mono (by decide),λx hx=>b.symm.subset hx⟩
theorem HpTo.put{n:Nat}{q:HS}(g:HpG n 1000000000000 q)(v:Int):HpTo n q (eC q v).1:=by
 obtain⟨a,_,b,c⟩:=zS g v;refine⟨a,λx hx=>?_⟩
 by_cases e:(eC q v).2=0
 .exact(b e).symm.subset (SJ _ hx)
 .rw[c e];exact hx
def D5:Sch:=
 let a:Sch:=.fork [(10,.done)]
 let b:Sch:=.fork [(9,a)]
 let c:Sch:=.fork [(5,a)]
 let e:Sch:=.fork [(5,b),(9,c)]
 let d:Sch:=.fork [(3,a)]
 let f:Sch:=.fork [(3,b),(9,d)]
 let g:Sch:=.fork [(3,c),(5,d)]
 let h:Sch:=.fork [(3,e),(5,f),(9,g)]
 .take 0 (.take 1 (.take 2 (.take 4 (.take 6 (.take 7 (.take 8 h))))))
theorem Jx(L:LayE h be bt ba bw bh mp mb E){n:Nat}(hn:n<=100000)(g:HpG n 1000000000000 E.q)(hd:0<=E.decay∧E.decay<=100)(hi:0<=E.inc∧E.inc<=1000000000)(l:List Int)(K:l.length<=1000000):aB Tryz.prog 96 [.ptr be 0,.seq false 1 (aa l)] h (λr h'=>r=.pv (.tup [])∧∃q k,LayE h' be bt ba bw bh mp mb {E with q:=q,inc:=k}∧Ext h h' (da be bt ba bw bh mp mb) (da be bt ba bw bh mp mb)∧HpTo n E.q q∧0<=k∧k<=1000000000):=by
 refine cO [3] [] aE Tryz.func96 ?_;simp;refine aw.intro (S:=λ(x:Nat×List (List SV)×HS)=>⟨[(0,.pv (.ptr be 0)),(6,.pv (.seq false 1 (aa l))),(7,.pv (ae l.length)),(8,.pv (ae x.1))],x.2.1⟩)
  (λx=>x.1<=l.length∧LayE x.2.1 be bt ba bw bh mp mb {E with q:=x.2.2}∧Ext h x.2.1 (da be bt ba bw bh mp mb) (da be bt ba bw bh mp mb)∧HpTo n E.q x.2.2) (λx=>l.length -x.1) (0,h,E.q) ?_ ⟨RL _,L,Ext.refl _ _,.refl g⟩ ?_
 .exact ah.keep (by simp) rfl
 rintro⟨i,H,q⟩ ⟨z,f,o,j⟩;dsimp only at z f o j;obtain⟨b,a⟩:=Rt.1 f.e
 by_cases c:i<l.length
 .have B:=dr i;have T:=aI l[i];have P:=zT H bh q f.q j.hp hn (af l[i]) E.inc;have m:=f.heap (eY q (af l[i]) E.inc).1;have s:=o.trans (Ext.set bh (au (eY q (af l[i]) E.inc).1) (.inr (.inl rfl)));have w:=j.trans (HpTo.bump j.hp (af l[i]) E.inc);generalize af l[i]=v at*;generalize eY q v E.inc=R at*;simp[c];refine aQ.meet D5 ⟨[(0,.pv (.ptr be 0)),(6,.pv (.seq false 1 (aa l))),(7,.pv (ae l.length)),(8,.pv (ae i))],H.set bh (au R.1)⟩ (by kernel_rfl) ?_ ?_
  .simp[D5,a,b,bQ]
   repeat' first
    |trivial
    |refine And.intro ?_ ?_
    |(refine ai.intro T ?_;simp[a,b,bQ])
    |(refine aj.intro P ?_;rintro _ _ ⟨rfl,rfl⟩;simp;exact ah.keep (by simp) rfl)
  .simp;exact⟨(i+1,_,R.1),by(try dsimp only);omega,⟨by(try dsimp only);omega,m,s,w⟩,ah.keep (by simp[B]) rfl⟩
 .have A:i=l.length:=by omega
  subst A;obtain⟨F,J⟩:=hd;obtain⟨N,O⟩:=hi;have M:0<=E.inc*E.decay∧E.inc*E.decay<=1000000000*100:=⟨Int.mul_nonneg N F,Int.mul_le_mul O J F (by decide)⟩;have G:aS (E.inc*E.decay)=E.inc*E.decay:=ap (by omega) (by omega);have t1:(E.inc*E.decay).tdiv 100=E.inc*E.decay/100:=UV M.1;have I:aS (E.inc*E.decay/100)=E.inc*E.decay/100:=ap (by omega) (by omega);have C:aS (E.inc+E.inc*E.decay/100)=E.inc+E.inc*E.decay/100:=ap (by omega) (by omega);obtain⟨k,hk⟩:∃k,E.inc+E.inc*E.decay/100=k:=⟨_,rfl⟩;have m:=f.eng {E with q:=q,inc:=k} rfl rfl rfl rfl;have s:=o.trans (Ext.set be (bQ bt ba bw bh {E with q:=q,inc:=k}) (.inl rfl));have d:0<=k∧k<=2000000000:=by omega
  rw[hk]at C;simp[a,b,bQ,G,t1,I,C,hk];simp only[bQ]at m s;refine aw.intro (S:=λ(x:List (List SV)×HS×Int)=>⟨[(0,.pv (.ptr be 0))],x.1⟩)
   (λx=>LayE x.1 be bt ba bw bh mp mb {E with q:=x.2.1,inc:=x.2.2}∧Ext h x.1 (da be bt ba bw bh mp mb) (da be bt ba bw bh mp mb)∧HpTo n E.q x.2.1∧0<=x.2.2∧x.2.2<=2000000000) (λx=>x.2.2.toNat) (_,q,k) ?_ ⟨m,s,j,d⟩ ?_
  .exact ah.keep (by simp) rfl
  clear f o j m s b a G t1 I C hk d;rintro⟨H,q,k⟩ ⟨f,o,j,d⟩;dsimp only at f o j d;obtain⟨b,a⟩:=Rt.1 f.e
  by_cases c:1000000000<k
  .have B:aS (k.tdiv 2)=k/2:=by rw[UV d.1,ap (by omega) (by omega)]
   have p:=j.hp;have Q:=qu H bh q f.q (by rw[p.sl];omega) (by rw[p.pll];exact p.inr) (by rw[p.pll,p.sl]) (by have:=p.few;omega) (by rw[p.sl];omega);have m:=f.heap (cu q);have s:=o.trans (Ext.set bh (au (cu q)) (.inr (.inl rfl)));have w:=j.trans (HpTo.halve p);generalize cu q=u at*;simp[c,a,b,bQ];refine aj.intro Q ?_;rintro _ _ ⟨rfl,rfl⟩;obtain⟨t,y⟩:=Rt.1 m.e;have L3:=m.eng {E with q:=u,inc:=k/2} rfl rfl rfl rfl;have D:=s.trans (Ext.set be (bQ bt ba bw bh {E with q:=u,inc:=k/2}) (.inl rfl));generalize H.set bh (au u)=U at*;simp only[bQ]at L3 D;simp[y,t,bQ,B];exact⟨(_,u,k/2),by(try dsimp only);omega,⟨L3,D,w,by(try dsimp only);omega,by(try dsimp only);omega⟩,ah.keep (by simp) rfl⟩
  .simp[c,a,b,bQ];exact⟨q,k,f,o,j,d.1,by omega⟩
end
end Go.AX