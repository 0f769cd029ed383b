/-
  Engines: how they lie in memory, told as plain data; and what follows.
-/
import Derived.Test.YtepodadinenmnaaGreatS14AxVaA
import Derived.Test.YtepodadinenmnaaGreatS14AxHpG
namespace Go.AX
open Go.Proofs
set_option linter.unusedSimpArgs false
structure ES where
  T:Tr
  A:Ar
  S:WS
  q:HS
  vars:Int
  cs:List (List Int)
  ph:List Bool
  keep:Int
  decay:Int
  inc:Int
  id:Int
  con:Int
  calm:Bool
  many:Int
  over:Bool
  pf:List Stp
  gl:List (Int×Int)
def bO(bt ba bw bh:Nat)(E:ES):List SV:=[.pv (.ptr bt 0),.pv (ab E.vars),.pv (.seq false 1 (E.cs.map aq)),.pv (.ptr ba 0),.pv (.ptr bw 0),.pv (.ptr bh 0),.own true 1 (de E.ph),.pv (ab E.keep),.pv (ab E.decay),.pv (ab E.inc),.pv (ab E.id),.pv (ab E.con),.pv (BL E.calm),.pv (ab E.many),.pv (BL E.over),.own true 4 (E.pf.map dX),.omap true (aZ fI E.gl)]
structure LayE (h:List (List SV)) (be bt ba bw bh:Nat) (mp:List (Int×Nat)) (mb:List (Int×By)) (E:ES):Prop where
  w:LayW h bw ba bt mp mb E.A E.T E.S
  e:h[be]?=some (bO bt ba bw bh E)
  q:h[bh]?=some (au E.q)
  ne:be≠bh
  eo:¬aQ bw bt mp mb be∧be≠ba
  ho:¬aQ bw bt mp mb bh∧bh≠ba
def cO(be bt ba bw bh:Nat)(mp:List (Int×Nat))(mb:List (Int×By))(b:Nat):Prop:=b=be∨b=bh∨b=ba∨aQ bw bt mp mb b
section
variable {h h' : List (List SV)} {be bt ba bw bh : Nat} {mp mp' : List (Int × Nat)} {mb mb' : List (Int × By)} {E : ES}
theorem LayW.setA{A:Ar}{T:Tr}{S:WS}(L:LayW h bw ba bt mp mb A T S)(f:Ar):LayW (h.set ba (ja f)) bw ba bt mp mb f T S where
 w:=(Tj L.wa.symm).trans L.w
 a:=TH (SQ.1 L.a).1
 t:=(Tj L.at').trans L.t
 wa:=L.wa
 wt:=L.wt
 at':=L.at'
 keys:=L.keys
 pr:=λk b i=>by
  obtain⟨p,h1,d,c⟩:=L.pr k b i;exact⟨p,h1,(Tj c.2.1.symm).trans d,c⟩
 pinj:=L.pinj
 by':=λl e j=>by
  obtain⟨zs,h1,⟨sp,d,c⟩,g⟩:=L.by' l e j
  exact⟨zs,h1,⟨sp,(Tj g.2.1.symm).trans d,c⟩,g⟩
 byn:=L.byn
 binj:=L.binj
 pb:=L.pb
theorem LayE.lt(L:LayE h be bt ba bw bh mp mb E):be<h.length∧bh<h.length:=⟨(SQ.1 L.e).1,(SQ.1 L.q).1⟩
theorem LayE.watch(L:LayE h be bt ba bw bh mp mb E){T:Tr}{S:WS}(W:LayW h' bw ba bt mp' mb' E.A T S)(X:Ext h h' (aQ bw bt mp mb) (aQ bw bt mp' mb')):LayE h' be bt ba bw bh mp' mb' {E with T:=T,S:=S}where
 w:=W
 e:=(X.same _ L.lt.1 L.eo.1).trans L.e
 q:=(X.same _ L.lt.2 L.ho.1).trans L.q
 ne:=L.ne
 eo:=⟨λd=>L.eo.1 (X.sub _ L.lt.1 d),L.eo.2⟩
 ho:=⟨λd=>L.ho.1 (X.sub _ L.lt.2 d),L.ho.2⟩
theorem LayE.trail(L:LayE h be bt ba bw bh mp mb E)(T:Tr):LayE (h.set bt (gA T)) be bt ba bw bh mp mb {E with T:=T}:=
 L.watch (L.w.setT T) (Ext.set bt _ (.inr (.inl rfl)))
theorem LayE.arena(L:LayE h be bt ba bw bh mp mb E)(A:Ar):LayE (h.set ba (ja A)) be bt ba bw bh mp mb {E with A:=A}where
 w:=L.w.setA A
 e:=(Tj L.eo.2.symm).trans L.e
 q:=(Tj L.ho.2.symm).trans L.q
 ne:=L.ne
 eo:=L.eo
 ho:=L.ho
theorem LayE.heap(L:LayE h be bt ba bw bh mp mb E)(q:HS):LayE (h.set bh (au q)) be bt ba bw bh mp mb {E with q:=q}where
 w:=L.w.other bh (au q) L.ho.1 L.ho.2
 e:=(Tj L.ne.symm).trans L.e
 q:=TH L.lt.2
 ne:=L.ne
 eo:=L.eo
 ho:=L.ho
theorem LayE.eng(L:LayE h be bt ba bw bh mp mb E)(E':ES)(c:E'.T=E.T)(a:E'.A=E.A)(b:E'.S=E.S)(d:E'.q=E.q):LayE (h.set be (bO bt ba bw bh E')) be bt ba bw bh mp mb E' where
 w:=by
  rw[c,a,b];exact L.w.other be _ L.eo.1 L.eo.2
 e:=TH L.lt.1
 q:=by rw[d];exact(Tj L.ne).trans L.q
 ne:=L.ne
 eo:=L.eo
 ho:=L.ho
theorem Ext.eng(X:Ext h h' (aQ bw bt mp mb) (aQ bw bt mp' mb')):Ext h h' (cO be bt ba bw bh mp mb) (cO be bt ba bw bh mp' mb')where
 len:=X.len
 same:=λb a hn=>X.same b a λd=>hn (.inr (.inr (.inr d)))
 sub:=λb a d=>d.imp id (Or.imp id (Or.imp id (X.sub b a)))
end
def CZ(T:Tr)(l:Int):En:=⟨l,(bG T (af l)).lev,(bG T (af l)).rea⟩
def ff(T:Tr):RT:=⟨(T.marks.length:Int) -1,T.lits.map (CZ T),T.beg.length⟩
theorem MJ(beg:List Int)(i:Nat):0<=mY beg i∧mY beg i<=beg.length:=by
 unfold mY;have:=Uq (λb=>decide (b<=(i:Int))) beg;omega
theorem yg{beg:List Int}(h:beg.Pairwise (·<·)){k:Nat}(hk:k<beg.length)(i:Nat):mY beg i<=k↔(i:Int)<beg[k]:=by
 have hp:=TB.1 h;have key:∀n,n<=beg.length->(((beg.take n).filter λb=>decide (b<=(i:Int))).length=n∨∃j,∃hj:j<beg.length,j<n∧(i:Int)<beg[j]):=by
  intro n hn
  by_cases c:∃j,∃hj:j<beg.length,j<n∧(i:Int)<beg[j]
  .exact .inr c
  .left;rw[Uz.2,S6]
   .omega
   .intro b a;obtain⟨j,hj,rfl⟩:=Uj.1 a;have:¬(i:Int)<beg[j]:=λq=>c ⟨j,by omega,by omega,q⟩;simp;omega
 unfold mY;constructor
 .intro f;rcases key (k+1) (by omega)with e|⟨j,hj,d,e⟩
  .have:=(Vl (k+1) beg).filter (λb=>decide (b<=(i:Int)));have:=this.length_le;omega
  .by_cases q:j=k
   .subst q;exact e
   .have:=hp j k hj hk (by omega);omega
 .intro hi;have e:beg.filter (λb=>decide (b<=(i:Int)))=(beg.take k).filter (λb=>decide (b<=(i:Int))):=by
   conv=>lhs;rw[←T7 k beg,Uu]
   have:(beg.drop k).filter (λb=>decide (b<=(i:Int)))=[]:=by
    rw[US];intro b a;obtain⟨j,hj,rfl⟩:=Wk.1 a
    by_cases q:j=0
    .subst q;simp;omega
    .have:=hp k (k+j) hk (by omega) (by omega);simp;omega
   rw[this,Ut]
  rw[e];have:=Uq (λb=>decide (b<=(i:Int))) (beg.take k);rw[S6]at this;omega
section
variable {n : Nat} {T : Tr}
theorem TOk.rows(h:TOk n T){i:Nat}(hi:i<(ff T).rows.length):∃a:i<T.lits.length,(ff T).rows[i]=⟨T.lits[i],mY T.beg i,(bG T (af T.lits[i])).rea⟩:=by
 have a:i<T.lits.length:=by simpa[ff]using hi
 refine⟨a,?_⟩;have:(ff T).rows[i]=CZ T T.lits[i]:=by simp only[ff,WV]
 rw[this];unfold CZ;rw[(h.mark i a).2.1]
theorem TOk.deep(h:TOk n T):T.beg.length<=T.lits.length:=by
 have h1:(T.beg.map Int.toNat).Nodup:=by
  refine Ux.2 (h.rise.imp_of_mem ?_);intro a b d c f e;have:=h.bnd a d;have:=h.bnd b c;omega
 have:=dq (T.beg.map Int.toNat) (List.range T.lits.length) h1 λx hx=>by
  obtain⟨b,c,rfl⟩:=S8.1 hx;have:=h.bnd b c;rw[Ug];omega
 simpa using this
theorem TOk.rel(h:TOk n T):V.RelD T (ff T):=by
 have c:=h.vars;have hn:=h.hn;have hin:∀x∈(ff T).rows,∃i,∃hi:i<T.lits.length,x=⟨T.lits[i],mY T.beg i,(bG T (af T.lits[i])).rea⟩:=λx hx=>by
  obtain⟨i,hi,rfl⟩:=Tc hx;obtain⟨a,e⟩:=h.rows hi;exact⟨i,a,e⟩
 refine⟨⟨?_,?_,?_,rfl,?_,?_,?_,?_⟩,?_⟩
 .show 0<=(T.marks.length:Int) -1∧(T.marks.length:Int) -1<=100000;omega
 .show(T.marks.length:Int)=(T.marks.length:Int) -1+1;omega
 .show T.lits=(T.lits.map (CZ T)).map (·.l);simp[TX,VV,CZ]
 .intro x hx;obtain⟨i,hi,rfl⟩:=hin x hx;show aw T.lits[i] ((T.marks.length:Int) -1)=0;rw[c];exact h.chk _ (S5 hi)
 .intro x hx;obtain⟨i,hi,rfl⟩:=hin x hx;exact⟨V.okL_chk (v:=n) (by omega) (h.chk _ (S5 hi)),MJ _ _⟩
 .intro v c;refine h.free v λg=>?_;obtain⟨x,hx,e⟩:=S8.1 g;exact xN c (CZ T x) (UX hx) e
 .intro v i hi e;obtain⟨j,hj,p,d⟩:=lw (t:=ff T) (v:=v) (by omega);have:j=i:=by omega
  subst this;obtain⟨b,f⟩:=h.rows hj;rw[f]at d⊢;obtain⟨k,m,o⟩:=h.mark j b;subst d;show bG T (af T.lits[j])=⟨x5 T.lits[j],mY T.beg j,(bG T (af T.lits[j])).rea,j⟩;rw[←k,←m,←o]
 .show T.beg.length<=(T.lits.map (CZ T)).length;rw[S7];exact h.deep
theorem TOk.mayR(h:TOk n T){l:Int}(f:fP T l=0):Go.AX.mayR (ff T) l=0:=by
 obtain⟨b,g,j⟩:=(h.may l).1 f;have hp:qx (ff T) (af l)<0:=by
  refine Int.lt_of_not_ge λc=>?_;obtain⟨i,hi,_,e⟩:=lw c;obtain⟨a,d⟩:=h.rows hi;rw[d]at e;rcases(mX h.hn (h.chk _ (S5 a)) b).1 e with q|q
  .exact g (q▸S5 a)
  .exact j (q▸S5 a)
 unfold Go.AX.mayR;have:(ff T).vars=n:=h.vars;rw[this,SU (by simp[b]),SU (by omega)]
theorem yh(h:TMk n T){l:Int}(f:fP T l=0)(rea:Int):ff (gT T l rea)=⟨(ff T).vars,(ff T).rows++[⟨l,T.beg.length,rea⟩],T.beg.length⟩:=by
 obtain⟨b,j,k⟩:=(h.may l).1 f;obtain⟨_,_,_,c,m,_⟩:=br h.hn b;have a:af l<T.marks.length:=by rw[h.len];omega
 have g:(T.lits++[l]).map (CZ (gT T l rea))=T.lits.map (CZ T)++[⟨l,T.beg.length,rea⟩]:=by
  rw[Tu];congr 1
  .refine UW λx hx=>?_;unfold CZ;have i:=(br h.hn (h.chk x hx)).2.2.2.1;rw[kh T l rea c a _ (by omega),SU];intro e;rcases(mX h.hn (h.chk x hx) b).1 e with q|q
   .exact j (q▸hx)
   .exact k (q▸hx)
  .simp only[Tn,Vg];unfold CZ;rw[kh T l rea c a _ (by omega),SX rfl]
 have d:(gT T l rea).marks.length=T.marks.length:=by simp[gT]
 unfold ff;rw[d];exact Vm (λr=>(⟨(T.marks.length:Int) -1,r,T.beg.length⟩:RT)) g
theorem EP(h:TOk n T):∀j,j<=T.lits.length->∀i (hi:i<T.lits.length),i<T.lits.length -j->bG (popN T j) (af T.lits[i])=bG T (af T.lits[i])
 |0,_,_,_,_=>rfl
 |j+1,hj,i,hi,d=>by
  have f:=EP h j (by omega) i hi (by omega);rw[←f,popN];have c:(popN T j).lits.length=T.lits.length -j:=by rw[d6,S6];omega
  have b:T.lits.length -j -1<T.lits.length:=by omega
  have a:(popN T j).lits.getD ((popN T j).lits.length -1) 0=T.lits[T.lits.length -j -1]:=by
   rw[c,d6,SS,TY,SX (by omega),SR b];rfl
  unfold bG lO;rw[a];simp only[SS,Tz];have g:=(br h.hn (h.chk _ (S5 hi))).2.2.2.1;have k:=(br h.hn (h.chk _ (S5 b))).2.2.2.1;rw[SU];intro e;have:=h.inj b hi (by omega);omega
theorem AJ(h:TOk n T){k:Nat}(hk:k<T.beg.length):ff (cw T k)=⟨(ff T).vars,(ff T).rows.take (T.beg[k]).toNat,k⟩:=by
 obtain⟨f,j,g⟩:=h.back hk;have a:T.beg.getD k 0=T.beg[k]:=by rw[SS,SR hk];rfl
 obtain⟨b1,b2⟩:=h.bnd _ (S5 hk);have c:(cw T k).marks.length=T.marks.length:=by rw[f.len,h.len]
 have d:(cw T k).lits.map (CZ (cw T k))=(T.lits.map (CZ T)).take (T.beg[k]).toNat:=by
  rw[j,←UB];refine UW λx hx=>?_;obtain⟨i,hi,rfl⟩:=Uj.1 hx;have b:i<T.lits.length:=by omega
  have l:bG (cw T k) (af T.lits[i])=bG T (af T.lits[i]):=by
   have e:bG (cw T k) (af T.lits[i])=bG (popN T (T.lits.length -(T.beg[k]).toNat)) (af T.lits[i]):=by unfold bG cw;rw[a]
   rw[e];exact EP h _ (by omega) i b (by omega)
  unfold CZ;rw[l]
 unfold ff;rw[c,d,g,S6,Uw (by omega)]
end
structure EF (cs:List (List Int)) (ats:List Int) (t:RT):Prop extends V.TraF cs ats t where
  clm:∀k:Int,0<k->k<=t.dep->Calm cs (bel t k)
def C0(ls c:List Int):Prop:=(∃x∈c,x∈ls)∨∃x y,x∈c∧y∈c∧x≠y∧-x∉ls∧-y∉ls
theorem EQ{cs:List (List Int)}{ls:List Int}(m:∀c∈cs,c.length<=1000∧∀y∈c,cF y=true)(one:∀y,cF y=true->¬(y∈ls∧-y∈ls))(h:∀c∈cs,C0 ls c):Calm cs ls:=by
 intro c g;obtain⟨o,d⟩:=m c g;have i:∀y∈c,bK ls y=-1->-y∈ls:=λy hy e=>by
  have:=xL e
  rwa [(V.litO (d y hy)).2.2.2.2]at this
 have key:∀b,(b∈c->bK ls b≠-1->bK ls b=0)->¬∀y∈c,y≠b->bK ls y=-1:=λb h0 a=>by
  rcases h c g with⟨x,hx,e⟩|⟨x,y,hx,hy,f,j,k⟩
  .have n:bK ls x=1:=by
    unfold bK;rw[SU (by have:=(V.litO (d x hx)).2.2.2.1;omega),SX e]
   by_cases q:x=b
   .subst q;have:=h0 hx (by omega);omega
   .have:=a x hx q;omega
  .by_cases q:x=b
   .exact k (i y hy (a y hy (λe=>f (q.trans e.symm))))
   .exact j (i x hx (a x hx q))
 refine⟨?_,λe=>?_⟩
 .rw[←VL];intro e;obtain⟨s,p,r⟩:=LY (l:=ls) o (λy hy=>(V.litO (d y hy)).2.2.2.1) e;exact key _ (λ_ _=>p) r
 .rw[mQ]at e;exact key 0 (λhx _=>absurd rfl (V.litO (d 0 hx)).1) λy hy _=>e y hy (V.litO (d y hy)).2.2.2.1
section
variable {cs : List (List Int)} {ats : List Int} {t : RT}
theorem EF.new(v:Int):EF cs ats ⟨v,[],0⟩:=
 ⟨⟨by simp,by simp,by simp,by simp,λi j hi=>by simp at hi,λi hi=>by simp at hi,λh=>by simp at h,λk h1 a=>by simp at a;omega,λi hi=>by simp at hi⟩,λk h1 a=>by simp at a;omega⟩
theorem EF.app(h:EF cs ats t)(M:0<=t.vars∧t.vars<=100000){x:En}(hx:mayR t x.l=0){d:Int}(hd:x.lev=d)(L:t.dep<=d)(K:d<=t.dep+1)
 (r:x.rea<0->d=t.dep+1) (G:0<=x.rea->d=t.dep) (w:d=t.dep+1->Calm cs (dL t))
 (s:d=t.dep+1->x.rea<0)
 (C : 0 <= x.rea -> ∃ k, ∃ hk : k < cs.length, x.rea = ats.getD k 0 ∧ x.l ∈ cs[k] ∧ (∀ y ∈ cs[k], y ≠ x.l -> ∃ j, ∃ hj : j < t.rows.length, t.rows[j].l = -y) ∧
  (0<x.lev->∃y∈cs[k],y≠x.l∧∃j,∃hj:j<t.rows.length,t.rows[j].l=-y∧t.rows[j].lev=x.lev)):
 EF cs ats ⟨t.vars,t.rows++[x],d⟩:=by
 obtain⟨F,N⟩:=IS hx;have F:=V.okL_chk M F;have H:(t.rows++[x]).length=t.rows.length+1:=by simp
 have o:∀k:Int,0<k->k<=d->Calm cs (bel ⟨t.vars,t.rows++[x],d⟩ k):=by
  intro k D v;have z:bel ⟨t.vars,t.rows++[x],d⟩ k=bel t k:=by
   unfold bel;dsimp only;rw[Uu];have:List.filter (λx:En=>decide (x.lev<k)) [x]=[]:=by simp;omega
   rw[this,Ut]
  rw[z]
  by_cases c:k<=t.dep
  .exact h.clm k D c
  .have:k=t.dep+1:=by omega
   rw[this,LZ (λx hx=>(h.lev x hx).2)];exact w (by omega)
 refine⟨⟨by have:=h.dep;dsimp only;omega,?_,?_,?_,?_,?_,λh0=>o d h0 (Vn _),?_,?_⟩,o⟩
 .intro y hy;rcases Te.1 hy with hy|hy
  .exact h.chk y hy
  .simp at hy;subst hy;exact F
 .dsimp only;rw[Tu,VY];refine⟨h.nd,by simp,?_⟩;intro a I b z e;obtain⟨y,hy,rfl⟩:=S8.1 I;simp at z;exact xN N y hy (e.trans z)
 .intro y hy;rcases Te.1 hy with hy|hy
  .have:=h.lev y hy;dsimp only;omega
  .simp at hy;subst hy;have:=h.dep;dsimp only;omega
 .intro i j hi hj n;dsimp only at hi hj⊢;rcases iW hj with⟨u,e⟩|⟨u,e⟩
  .rcases iW hi with⟨f,e'⟩|⟨f,e'⟩
   .rw[e,e'];exact h.mono i j f u n
   .omega
  .rcases iW hi with⟨f,e'⟩|⟨f,e'⟩
   .rw[e,e',hd];have:=(h.lev _ (S5 f)).2;omega
   .omega
 .intro i hi m;dsimp only at hi m⊢;rcases iW hi with⟨f,e'⟩|⟨f,e'⟩
  .rw[e']at m⊢;obtain⟨q,g2⟩:=h.dec i f m;refine⟨q,λj hj n=>?_⟩;rw[T5 (by omega)];exact g2 j (by omega) n
  .rw[e']at m⊢;have J:=r m;refine⟨by have:=h.dep;omega,λj hj n=>?_⟩;rw[T5 (by omega)];have:=(h.lev _ (S5 (show j<t.rows.length by omega))).2;omega
 .intro k hk v;dsimp only at v⊢
  by_cases c:k<=t.dep
  .obtain⟨y,hy,e⟩:=h.fst k hk c;exact⟨y,Up _ hy,e⟩
  .exact⟨x,by simp,by omega,s (by omega)⟩
 .intro i hi m;dsimp only at hi m⊢;rcases iW hi with⟨f,e'⟩|⟨f,e'⟩
  .rw[e']at m⊢;obtain⟨k,hk,q,g2,g3,B⟩:=h.imp i f m;refine⟨k,hk,q,g2,λy hy g=>?_,λE=>?_⟩
   .obtain⟨j,hj,p,e⟩:=g3 y hy g;exact⟨j,by omega,p,by rw[T5 hj];exact e⟩
   .obtain⟨y,hy,g,j,hj,p,e,A⟩:=B E;exact⟨y,hy,g,j,by omega,p,by rw[T5 hj];exact e,by rw[T5 hj];exact A⟩
  .rw[e']at m⊢;obtain⟨k,hk,q,g2,g3,B⟩:=C m;refine⟨k,hk,q,g2,λy hy g=>?_,λE=>?_⟩
   .obtain⟨j,hj,e⟩:=g3 y hy g;exact⟨j,by omega,by omega,by rw[T5 hj];exact e⟩
   .obtain⟨y,hy,g,j,hj,e,A⟩:=B E;exact⟨y,hy,g,j,by omega,by omega,by rw[T5 hj];exact e,by rw[T5 hj];exact A⟩
theorem EF.unit(h:EF cs ats t)(p:V.ClsN cs ats)(F:0<=t.vars∧t.vars<=100000){k:Nat}(hk:k<cs.length){x:Int}(A:x∈cs[k])(C:mayR t x=0)(ho:∀y∈cs[k],y≠x->-y∈dL t):EF cs ats ⟨t.vars,t.rows++[⟨x,t.dep,ats.getD k 0⟩],t.dep⟩:=by
 have b:=S5 hk;have f:=p.chk _ b;have hp:=p.pos k hk;have m:∀y∈cs[k],y≠x->∃j,∃hj:j<t.rows.length,t.rows[j].l=-y:=λy hy i=>by
  obtain⟨a,q,e⟩:=S8.1 (ho y hy i);obtain⟨j,hj,rfl⟩:=Tc q;exact⟨j,hj,e⟩
 refine h.app F (x:=⟨x,t.dep,ats.getD k 0⟩) C rfl (by omega) (by omega) (λh=>by dsimp only at h;omega) (λ_=>rfl) (λh=>by omega) (λh=>by omega) (λ_=>⟨k,hk,rfl,A,m,λB=>?_⟩);dsimp only at B⊢;apply Ts;intro s;have d:=h.top B _ b;have o:=f x A;obtain⟨H,_,_,w,_⟩:=V.litO o;obtain⟨_,G⟩:=IS C;have g:∀z∈dL t,af z≠af x:=λz hz=>by
  obtain⟨a,q,rfl⟩:=S8.1 hz;exact xN G a q
 have u:bK (bel t t.dep) x=0:=by
  unfold bK;rw[SU (by omega),SU (λe=>g x (gJ _ e) rfl),SU (λe=>g _ (gJ _ e) (by rw[(V.litO o).2.2.2.2,dD]))]
 have v:∀y∈cs[k],y≠x->bK (bel t t.dep) y=-1:=λy hy i=>by
  obtain⟨j,hj,e⟩:=m y hy i;have E:=(h.lev _ (S5 hj)).2;have r:t.rows[j].lev<t.dep:=by
   rcases Wz t.rows[j].lev t.dep with c|c
   .exact c
   .exact absurd ⟨y,hy,i,j,hj,e,by omega⟩ s
  have n:-y∈bel t t.dep:=by
   unfold bel;rw[S8];exact⟨t.rows[j],TJ.2 ⟨S5 hj,by simpa using r⟩,e⟩
  exact V.val3_m1_of (f y hy) n (λD=>h.one (f y hy) ⟨gJ _ D,gJ _ n⟩)
 have:=unit_of (p.len _ b) (p.nd _ b) A w u v;rw[this]at d;exact absurd d.1 (by simp)
theorem EF.back(h:EF cs ats t){m:Nat}{k:Int}(v:0<=k)(hk:k<t.dep)(z:∀i (hi:i<t.rows.length),i<m↔t.rows[i].lev<=k):EF cs ats ⟨t.vars,t.rows.take m,k⟩:=by
 have p:∀x∈t.rows.take m,x∈t.rows:=λx hx=>TV hx;have b:∀{i},i<(t.rows.take m).length->i<m∧i<t.rows.length:=λhi=>by rw[S6]at hi;omega
 have hin:∀{j},(hj:j<t.rows.length)->t.rows[j].lev<=k->∃F:j<(t.rows.take m).length,(t.rows.take m)[j]=t.rows[j]:=λ{j} hj w=>by
  have:=(z j hj).2 w;exact⟨by rw[S6];omega,Uh⟩
 have c:∀j:Int,0<j->j<=k->Calm cs (bel ⟨t.vars,t.rows.take m,k⟩ j):=by
  intro j f o;have E:bel ⟨t.vars,t.rows.take m,k⟩ j=bel t j:=by
   unfold bel;dsimp only
   conv=>rhs;rw[←T7 m t.rows,Uu]
   have:(t.rows.drop m).filter (λx:En=>decide (x.lev<j))=[]:=by
    rw[US];intro x hx;obtain⟨i,hi,rfl⟩:=Wk.1 hx;have:=z (m+i) (by omega);simp;omega
   rw[this,Ut]
  rw[E];exact h.clm j f (by omega)
 refine⟨⟨v,λx hx=>h.chk x (p x hx),?_,?_,?_,?_,λh0=>c k h0 (Vn _),?_,?_⟩,c⟩
 .exact h.nd.sublist ((Vl m t.rows).map _)
 .intro x hx;obtain⟨i,hi,rfl⟩:=Tc hx;obtain⟨A,r⟩:=b hi;have e:(t.rows.take m)[i]=t.rows[i]:=Uh;dsimp only at e⊢;rw[e];exact⟨(h.lev _ (S5 r)).1,(z i r).1 A⟩
 .intro i j hi hj d;dsimp only at hi hj⊢;rw[Uh,Uh];exact h.mono i j (b hi).2 (b hj).2 d
 .intro i hi n;dsimp only at hi n⊢;rw[Uh]at n⊢;obtain⟨u,g2⟩:=h.dec i (b hi).2 n;refine⟨u,λj hj d=>?_⟩;rw[Uh];exact g2 j (b hj).2 d
 .intro j f o;dsimp only at o⊢;obtain⟨x,hx,B,s⟩:=h.fst j f (by omega);obtain⟨i,hi,rfl⟩:=Tc hx;obtain⟨q,e⟩:=hin hi (by omega);exact⟨_,S5 q,by rw[e];exact B,by rw[e];exact s⟩
 .intro i hi n;dsimp only at hi n⊢;rw[Uh]at n⊢;obtain⟨A,r⟩:=b hi;obtain⟨a,D,u,g2,g3,C⟩:=h.imp i r n;refine⟨a,D,u,g2,λy hy l=>?_,λw=>?_⟩
  .obtain⟨j,hj,g,e⟩:=g3 y hy l;exact⟨j,by rw[S6];omega,g,by rw[Uh];exact e⟩
  .obtain⟨y,hy,l,j,hj,g,e,s⟩:=C w;exact⟨y,hy,l,j,by rw[S6];omega,g,by rw[Uh];exact e,by rw[Uh];exact s⟩
theorem EF.cls{a:List (List Int)}{b:List Int}(h:EF cs ats t)(g:∀k:Int,0<k->k<=t.dep->Calm a (bel t k))
 (n:∀i (hi:i<t.rows.length),0<=t.rows[i].rea->∀k (hk:k<cs.length),t.rows[i].rea=ats.getD k 0->t.rows[i].l∈cs[k]->∃k',∃c:k'<a.length,b.getD k' 0=ats.getD k 0∧a[k']=cs[k]):EF a b t:=
 ⟨⟨h.dep,h.chk,h.nd,h.lev,h.mono,h.dec,λh0=>g _ h0 (Vn _),h.fst,λi hi d=>by
  obtain⟨k,hk,f,g2,g3,m⟩:=h.imp i hi d;obtain⟨k',c,j,e⟩:=n i hi d k hk f g2;exact⟨k',c,f.trans j.symm,by rw[e];exact g2,by rw[e];exact g3,by rw[e];exact m⟩⟩,g⟩
def O7(F:List (List Int))(c:List Int):Prop:=∀m:List Bool,(∀d∈F,cI d m=true)->cI c m=true
end
structure Rc where
  id:Int
  side:Int
  lits:List Int
def Rc.sz(x:Rc):Nat:=3+x.lits.length
def bq:List Rc->List Int
 |[]=>[]
 |x::l=>x.id::x.lits.length::x.side::(x.lits++bq l)
def aP:Nat->List Rc->List Ro
 |_,[]=>[]
 |p,x::l=>if x.side=2 then aP (p+x.sz) l else⟨p,x.id,x.lits⟩::aP (p+x.sz) l
def eu(k:Int):Nat->List Rc->List Rc
 |_,[]=>[]
 |p,x::l=>(if(p:Int)=k then⟨x.id,2,x.lits⟩else x)::eu k (p+x.sz) l
theorem kn:∀(l l':List Rc),bq (l++l')=bq l++bq l'
 |[],_=>rfl
 |x::l,l'=>by show _::_::_::(x.lits++bq (l++l'))=_;rw[kn l l'];simp[bq]
theorem ia:∀(l l':List Rc)(p:Nat),aP p (l++l')=aP p l++aP (p+(bq l).length) l'
 |[],_,_=>rfl
 |x::l,l',p=>by
  have e:p+x.sz+(bq l).length=p+(bq (x::l)).length:=by simp[bq,Rc.sz];omega
  show(if x.side=2 then aP (p+x.sz) (l++l')else _::aP (p+x.sz) (l++l'))=(if x.side=2 then aP (p+x.sz) l else _::aP (p+x.sz) l)++_;rw[ia l l',e];split<;>rfl
theorem nE:∀(l:List Rc)(p:Nat)(y:Ro),y∈aP p l->∃a x b,l=a++x::b∧x.side≠2∧y=⟨((p+(bq a).length:Nat):Int),x.id,x.lits⟩
 |[],_,_,h=>by cases h
 |x::l,p,y,h=>by
  have key:y∈aP (p+x.sz) l->∃a d b,x::l=a++d::b∧d.side≠2∧y=⟨((p+(bq a).length:Nat):Int),d.id,d.lits⟩:=λh=>by
   obtain⟨a,d,b,e,hs,f⟩:=nE l _ y h;refine⟨x::a,d,b,by rw[e];rfl,hs,?_⟩;rw[f];have:p+x.sz+(bq a).length=p+(bq (x::a)).length:=by simp[bq,Rc.sz];omega
   rw[this]
  rw[aP]at h
  by_cases c:x.side=2
  .rw[SX c]at h;exact key h
  .rw[SU c]at h;rcases Tx.1 h with h|h
   .exact⟨[],x,l,rfl,c,h⟩
   .exact key h
theorem gM:∀(l:List Rc)(p:Nat)(y:Ro),y∈aP p l->(p:Int)<=y.at'∧y.at'+3+y.lits.length<=p+(bq l).length:=λl p y h=>by
 obtain⟨a,x,b,e,_,c⟩:=nE l p y h;rw[e,c,kn];simp[bq];omega
theorem yi:∀(l:List Rc)(p:Nat),(aP p l).Pairwise (λx y=>x.at'<y.at')
 |[],_=>List.Pairwise.nil
 |x::l,p=>by
  have a:=yi l (p+x.sz);rw[aP];split
  .exact a
  .refine U6.2 ⟨λy hy=>?_,a⟩;have:=(gM l _ y hy).1;unfold Rc.sz at this;show(p:Int)<y.at';omega
theorem AK:∀(l:List Rc)(p:Nat)(k:Int),(eu k p l).length=l.length∧(bq (eu k p l)).length=(bq l).length
 |[],_,_=>⟨rfl,rfl⟩
 |x::l,p,k=>by
  have a:=AK l (p+x.sz) k;refine⟨by simp[eu,a.1],?_⟩;rw[eu];split<;>simp[bq,a.2]
theorem ET:∀(l:List Rc)(p:Nat)(k:Int),k<p->eu k p l=l
 |[],_,_,_=>rfl
 |x::l,p,k,h=>by rw[eu,SU (by omega),ET l _ k (by omega)]
theorem m7:∀(l:List Rc)(p:Nat)(k:Int),aP p (eu k p l)=(aP p l).filter λy=>decide (y.at'≠k)
 |[],_,_=>rfl
 |x::l,p,k=>by
  have a:=m7 l (p+x.sz) k
  by_cases c:(p:Int)=k
  .have hn:(aP (p+x.sz) l).filter (λy=>decide (y.at'≠k))=aP (p+x.sz) l:=by
    rw[Uz];intro y hy;have:=(gM l _ y hy).1;unfold Rc.sz at this;simp;omega
   rw[eu,SX c,aP,aP,SX rfl];have e:(⟨x.id,2,x.lits⟩:Rc).sz=x.sz:=rfl;rw[e,a,hn];split
   .exact hn.symm
   .rw[TO,SU (by simp[c]),hn]
  .rw[eu,SU c,aP,aP,a];split
   .rfl
   .rw[TO,SX (by simp[c])]
theorem AL:∀(a:List Rc)(x:Rc)(b:List Rc)(p:Nat),(bq (a++x::b)).set ((bq a).length+2) 2=bq (eu ((p+(bq a).length:Nat):Int) p (a++x::b))
 |[],x,b,p=>by
  show _=bq (eu _ p (x::b));rw[eu,SX (by simp[bq]),ET b _ _ (by simp[bq,Rc.sz];omega)];simp[bq]
 |y::a,x,b,p=>by
  have f:=AL a x b (p+y.sz);have e:(bq (y::a)).length=y.sz+(bq a).length:=by simp[bq,Rc.sz];omega
  have c:p+(bq (y::a)).length=p+y.sz+(bq a).length:=by omega
  show(bq (y::(a++x::b))).set _ 2=bq (eu _ p (y::(a++x::b)));rw[eu,SU (by unfold Rc.sz at e;omega),c];generalize eu (((p+y.sz+(bq a).length:Nat):Int)) (p+y.sz) (a++x::b)=D at*;have d:(bq (y::a)).length+2=(y.lits.length+((bq a).length+2))+3:=by unfold Rc.sz at e;omega
  rw[d,bq,bq,←f];simp only[List.set_cons_succ];rw[VR _ _ (by omega),Vd]
structure ArI (A:Ar) (l:List Rc):Prop where
  row:A.row=bq l
  hd:∀k v,lk A.hd k=some v↔∃x∈aP 0 l,x.at'=k∧x.id=v
  nd:(A.hd.map (·.1)).Nodup
  id:∀x∈l,1<=x.id
section
variable {A : Ar} {l : List Rc}
theorem ArI.ids(h:ArI A l):∀x∈aP 0 l,1<=x.id:=λy hy=>by
 obtain⟨a,x,b,e,_,c⟩:=nE l 0 y hy;rw[c];exact h.id x (by rw[e];simp)
theorem ArI.isA(h:ArI A l)(k:Int):Go.AX.isA A k=true↔∃x∈aP 0 l,x.at'=k:=by
 unfold Go.AX.isA;rw[Th];constructor
 .intro hp;cases e:lk A.hd k with
  |none=>rw[e]at hp;simp at hp
  |some v=>
   obtain⟨x,hx,a,_⟩:=(h.hd k v).1 e;exact⟨x,hx,a⟩
 .rintro⟨x,hx,a⟩;rw[(h.hd k x.id).2 ⟨x,hx,a,rfl⟩];have:=h.ids x hx;simp;omega
theorem sm(a:List Rc)(x:Rc)(b:List Rc):let r:=bq (a++x::b);let p:=(bq a).length
 r.getD p 0=x.id∧r.getD (p+1) 0=x.lits.length∧r.getD (p+2) 0=x.side∧(r.drop (p+3)).take x.lits.length=x.lits∧p+3+x.lits.length<=r.length:=by
 dsimp only;rw[kn];have e:∀j,(bq a++bq (x::b)).getD ((bq a).length+j) 0=(bq (x::b)).getD j 0:=λj=>by
  simp only[SS];rw[Tk (by omega)];congr 2;omega
 refine⟨?_,?_,?_,?_,?_⟩
 .exact(e 0).trans rfl
 .exact(e 1).trans rfl
 .exact(e 2).trans rfl
 .rw[Xu,List.drop_of_length_le (by omega),show(bq a).length+3 -(bq a).length=3 by omega];simp[bq]
 .simp[bq];omega
theorem ArI.rel(h:ArI A l):RelA A ⟨aP 0 l,A.row.length⟩where
 size:=rfl
 rows:=λy hy=>by
  obtain⟨a,x,b,e,_,c⟩:=nE l 0 y hy;obtain⟨d,f,k,g,i⟩:=sm a x b;rw[←e,←h.row]at d f k g i;rw[T4]at c;subst c;exact⟨(bq a).length,rfl,⟨i,f⟩,g,(h.isA _).2 ⟨_,hy,rfl⟩,d⟩
 is:=λq j=>(h.isA q).1 j
theorem ArI.new:ArI ⟨[],[]⟩ []:=⟨rfl,λk v=>by simp[lk,aP],by simp,by simp⟩
theorem ArI.put(h:ArI A l){id:Int}{c:List Int}(f:jt id c=0)(b:Bool):ArI (dg A id c b) (l++[⟨id,fc b,c⟩]):=by
 have nh:1<=id:=by
  unfold jt at f;split at f
  .omega
  .omega
 have hs:fc b≠2:=by unfold fc;split<;>omega
 unfold dg;rw[SX f];have g:aP 0 (l++[⟨id,fc b,c⟩])=aP 0 l++[⟨A.row.length,id,c⟩]:=by
  rw[ia,h.row,T4];show aP 0 l++(if fc b=2 then _ else _)=_;rw[SU hs];rfl
 refine⟨?_,λk v=>?_,?_,?_⟩
 .show A.row++_=_;rw[kn,h.row];simp[bq]
 .show lk (pt A.hd A.row.length id) k=some v↔_;rw[bJ,g]
  by_cases q:(A.row.length:Int)=k
  .rw[SX q];constructor
   .intro e;cases e;exact⟨⟨A.row.length,id,c⟩,by simp,q,rfl⟩
   .rintro⟨x,hx,d,a⟩;rcases Te.1 hx with hx|hx
    .have:=(gM l 0 x hx).2;rw[h.row]at q;omega
    .simp at hx;subst hx;simp at a;rw[a]
  .rw[SU q,h.hd];constructor
   .rintro⟨x,hx,e⟩;exact⟨x,by simp[hx],e⟩
   .rintro⟨x,hx,d,a⟩;rcases Te.1 hx with hx|hx
    .exact⟨x,hx,d,a⟩
    .simp at hx;subst hx;exact absurd d q
 .exact kg _ _ _ h.nd
 .intro x hx;rcases Te.1 hx with hx|hx
  .exact h.id x hx
  .simp at hx;subst hx;exact nh
theorem ArI.drop(h:ArI A l){k:Int}(hk:Go.AX.isA A k=true):ArI (rN A k) (eu k 0 l):=by
 obtain⟨y,hy,c⟩:=(h.isA k).1 hk;obtain⟨a,x,b,e,hs,g⟩:=nE l 0 y hy;have d:k=(((bq a).length:Nat):Int):=by rw[←c,g];simp
 have i:As A k=0:=by
  unfold As;unfold Go.AX.isA at hk;rw[Th]at hk;rw[SU (by omega)]
 unfold rN;rw[SX i];refine⟨?_,λj v=>?_,?_,?_⟩
 .show A.row.set (k.toNat+2) 2=_;have:=AL a x b 0;rw[T4,←d,←e]at this;rw[h.row,←this];congr 1;omega
 .show lk (dl A.hd k) j=some v↔_;rw[oX h.nd,m7]
  by_cases q:j=k
  .rw[SX q];constructor
   .intro e;cases e
   .rintro⟨x,hx,c,_⟩;have:=(TJ.1 hx).2;simp[c,q]at this
  .rw[SU q,h.hd];constructor
   .rintro⟨x,hx,c,f⟩;exact⟨x,TJ.2 ⟨hx,by simp[c,q]⟩,c,f⟩
   .rintro⟨x,hx,e⟩;exact⟨x,(TJ.1 hx).1,e⟩
 .exact Ex h.nd k
 .have:∀(l:List Rc)(p:Nat),(∀x∈l,1<=x.id)->∀x∈eu k p l,1<=x.id:=by
   intro l
   induction l with
   |nil=>intro p _ x hx;cases hx
   |cons z l m=>
    intro p hz x hx;rw[eu]at hx;rcases Tx.1 hx with hx|hx
    .rw[hx];split<;>exact hz z (by simp)
    .exact m _ (λx hx=>hz x (Tl _ hx)) x hx
  exact this l 0 h.id
theorem ArI.at(h:ArI A l){y:Ro}(hy:y∈aP 0 l):av A y.at'=y.lits∧gn A y.at'=y.id:=by
 obtain⟨p,b,c,d,a,e⟩:=h.rel.rows y hy;rw[b];unfold av gn;rw[SX a,SX a,Uc,c.num,Uc,d,e];exact⟨rfl,rfl⟩
end
end Go.AX