/-
  Engines: how they lie in memory, told as plain data.
  Engines: what always holds of their trails (plain law).
  Contracts: engines: what only asks, and Propagate.
  Contracts: engines: numbers of clauses, better variables, a level gone back to, a clause added.
-/
import Derived.Test.YtepodadinenmnaaGreatS14AxVaA
import Derived.Test.YtepodadinenmnaaGreatS14AxHpG
import Derived.Test.YtepodadinenmnaaGreatS14AxLuA
import Derived.Test.YtepodadinenmnaaGreatS14AxEvC
namespace Go.AX
open Go.Proofs
set_option linter.unusedSimpArgs false
structure ES where
  T:Tr
  A:Ar
  S:WS
  q:HS
  vars:Int
  cs:List (List Int)
  ph:List Bool
  keep:Int
  decay:Int
  inc:Int
  id:Int
  con:Int
  calm:Bool
  many:Int
  over:Bool
  pf:List Stp
  gl:List (Int×Int)
def bV(bt ba bw bh:Nat)(E:ES):List SV:=[.pv (.ptr bt 0),.pv (ae E.vars),.pv (.seq false 1 (E.cs.map aK)),.pv (.ptr ba 0),.pv (.ptr bw 0),.pv (.ptr bh 0),.own true 1 (cz E.ph),.pv (ae E.keep),.pv (ae E.decay),.pv (ae E.inc),.pv (ae E.id),.pv (ae E.con),.pv (BL E.calm),.pv (ae E.many),.pv (BL E.over),.own true 4 (E.pf.map l9),.omap true (aS fI E.gl)]
structure LayE (h:List (List SV)) (be bt ba bw bh:Nat) (mp:List (Int×Nat)) (mb:List (Int×By)) (E:ES):Prop where
  w:LayW h bw ba bt mp mb E.A E.T E.S
  e:h[be]?=some (bV bt ba bw bh E)
  q:h[bh]?=some (ao E.q)
  ne:be≠bh
  eo:¬aO bw bt mp mb be∧be≠ba
  ho:¬aO bw bt mp mb bh∧bh≠ba
def cZ(be bt ba bw bh:Nat)(mp:List (Int×Nat))(mb:List (Int×By))(b:Nat):Prop:=b=be∨b=bh∨b=ba∨aO bw bt mp mb b
section
variable {h h' : List (List SV)} {be bt ba bw bh : Nat} {mp mp' : List (Int × Nat)} {mb mb' : List (Int × By)} {E : ES}
theorem LayW.setA{A:Ar}{T:Tr}{S:WS}(L:LayW h bw ba bt mp mb A T S)(f:Ar):LayW (h.set ba (lm f)) bw ba bt mp mb f T S where
 w:=(On L.wa.symm).trans L.w
 a:=O4 (N5.1 L.a).1
 t:=(On L.at').trans L.t
 wa:=L.wa
 wt:=L.wt
 at':=L.at'
 keys:=L.keys
 pr:=λk b i=>by
  obtain⟨p,h1,d,c⟩:=L.pr k b i;exact⟨p,h1,(On c.2.1.symm).trans d,c⟩
 pinj:=L.pinj
 by':=λl e j=>by
  obtain⟨zs,h1,⟨sp,d,c⟩,g⟩:=L.by' l e j
  exact⟨zs,h1,⟨sp,(On g.2.1.symm).trans d,c⟩,g⟩
 byn:=L.byn
 binj:=L.binj
 pb:=L.pb
theorem LayE.lt(L:LayE h be bt ba bw bh mp mb E):be<h.length∧bh<h.length:=⟨(N5.1 L.e).1,(N5.1 L.q).1⟩
theorem LayE.watch(L:LayE h be bt ba bw bh mp mb E){T:Tr}{S:WS}(W:LayW h' bw ba bt mp' mb' E.A T S)(X:Ext h h' (aO bw bt mp mb) (aO bw bt mp' mb')):LayE h' be bt ba bw bh mp' mb' {E with T:=T,S:=S}where
 w:=W
 e:=(X.same _ L.lt.1 L.eo.1).trans L.e
 q:=(X.same _ L.lt.2 L.ho.1).trans L.q
 ne:=L.ne
 eo:=⟨λd=>L.eo.1 (X.sub _ L.lt.1 d),L.eo.2⟩
 ho:=⟨λd=>L.ho.1 (X.sub _ L.lt.2 d),L.ho.2⟩
theorem LayE.trail(L:LayE h be bt ba bw bh mp mb E)(T:Tr):LayE (h.set bt (fD T)) be bt ba bw bh mp mb {E with T:=T}:=
 L.watch (L.w.setT T) (Ext.set bt _ (.inr (.inl rfl)))
theorem LayE.arena(L:LayE h be bt ba bw bh mp mb E)(A:Ar):LayE (h.set ba (lm A)) be bt ba bw bh mp mb {E with A:=A}where
 w:=L.w.setA A
 e:=(On L.eo.2.symm).trans L.e
 q:=(On L.ho.2.symm).trans L.q
 ne:=L.ne
 eo:=L.eo
 ho:=L.ho
theorem LayE.heap(L:LayE h be bt ba bw bh mp mb E)(q:HS):LayE (h.set bh (ao q)) be bt ba bw bh mp mb {E with q:=q}where
 w:=L.w.other bh (ao q) L.ho.1 L.ho.2
 e:=(On L.ne.symm).trans L.e
 q:=O4 L.lt.2
 ne:=L.ne
 eo:=L.eo
 ho:=L.ho
theorem LayE.eng(L:LayE h be bt ba bw bh mp mb E)(E':ES)(c:E'.T=E.T)(a:E'.A=E.A)(b:E'.S=E.S)(d:E'.q=E.q):LayE (h.set be (bV bt ba bw bh E')) be bt ba bw bh mp mb E' where
 w:=by
  rw[c,a,b];exact L.w.other be _ L.eo.1 L.eo.2
 e:=O4 L.lt.1
 q:=by rw[d];exact(On L.ne).trans L.q
 ne:=L.ne
 eo:=L.eo
 ho:=L.ho
theorem Ext.eng(X:Ext h h' (aO bw bt mp mb) (aO bw bt mp' mb')):Ext h h' (cZ be bt ba bw bh mp mb) (cZ be bt ba bw bh mp' mb')where
 len:=X.len
 same:=λb a hn=>X.same b a λd=>hn (.inr (.inr (.inr d)))
 sub:=λb a d=>d.imp id (Or.imp id (Or.imp id (X.sub b a)))
end
def zd(T:Tr)(l:Int):En:=⟨l,(bz T (ab l)).lev,(bz T (ab l)).rea⟩
def dL(T:Tr):RT:=⟨(T.marks.length:Int) -1,T.lits.map (zd T),T.beg.length⟩
theorem HE(beg:List Int)(i:Nat):0<=lB beg i∧lB beg i<=beg.length:=by
 unfold lB;have:=P6 (λb=>decide (b<=(i:Int))) beg;omega
theorem uW{beg:List Int}(h:beg.Pairwise (·<·)){k:Nat}(hk:k<beg.length)(i:Nat):lB beg i<=k↔(i:Int)<beg[k]:=by
 have hp:=OR.1 h;have key:∀n,n<=beg.length->(((beg.take n).filter λb=>decide (b<=(i:Int))).length=n∨∃j,∃hj:j<beg.length,j<n∧(i:Int)<beg[j]):=by
  intro n hn
  by_cases c:∃j,∃hj:j<beg.length,j<n∧(i:Int)<beg[j]
  .exact .inr c
  .left;rw[Qf.2,Oe]
   .omega
   .intro b a;obtain⟨j,hj,rfl⟩:=Pm.1 a;have:¬(i:Int)<beg[j]:=λq=>c ⟨j,by omega,by omega,q⟩;simp;omega
 unfold lB;constructor
 .intro f;rcases key (k+1) (by omega)with e|⟨j,hj,d,e⟩
  .have:=(QR (k+1) beg).filter (λb=>decide (b<=(i:Int)));have:=this.length_le;omega
  .by_cases q:j=k
   .subst q;exact e
   .have:=hp j k hj hk (by omega);omega
 .intro hi;have e:beg.filter (λb=>decide (b<=(i:Int)))=(beg.take k).filter (λb=>decide (b<=(i:Int))):=by
   conv=>lhs;rw[←O8 k beg,PD]
   have:(beg.drop k).filter (λb=>decide (b<=(i:Int)))=[]:=by
    rw[P0];intro b a;obtain⟨j,hj,rfl⟩:=Rg.1 a
    by_cases q:j=0
    .subst q;simp;omega
    .have:=hp k (k+j) hk (by omega) (by omega);simp;omega
   rw[this,Pt]
  rw[e];have:=P6 (λb=>decide (b<=(i:Int))) (beg.take k);rw[Oe]at this;omega
section
variable {n : Nat} {T : Tr}
theorem TOk.rows(h:TOk n T){i:Nat}(hi:i<(dL T).rows.length):∃a:i<T.lits.length,(dL T).rows[i]=⟨T.lits[i],lB T.beg i,(bz T (ab T.lits[i])).rea⟩:=by
 have a:i<T.lits.length:=by simpa[dL]using hi
 refine⟨a,?_⟩;have:(dL T).rows[i]=zd T T.lits[i]:=by simp only[dL,RN]
 rw[this];unfold zd;rw[(h.mark i a).2.1]
theorem TOk.deep(h:TOk n T):T.beg.length<=T.lits.length:=by
 have h1:(T.beg.map Int.toNat).Nodup:=by
  refine Qa.2 (h.rise.imp_of_mem ?_);intro a b d c f e;have:=h.bnd a d;have:=h.bnd b c;omega
 have:=cX (T.beg.map Int.toNat) (List.range T.lits.length) h1 λx hx=>by
  obtain⟨b,c,rfl⟩:=Of.1 hx;have:=h.bnd b c;rw[Pg];omega
 simpa using this
theorem TOk.rel(h:TOk n T):V.RelD T (dL T):=by
 have c:=h.vars;have hn:=h.hn;have hin:∀x∈(dL T).rows,∃i,∃hi:i<T.lits.length,x=⟨T.lits[i],lB T.beg i,(bz T (ab T.lits[i])).rea⟩:=λx hx=>by
  obtain⟨i,hi,rfl⟩:=Oo hx;obtain⟨a,e⟩:=h.rows hi;exact⟨i,a,e⟩
 refine⟨⟨?_,?_,?_,rfl,?_,?_,?_,?_⟩,?_⟩
 .show 0<=(T.marks.length:Int) -1∧(T.marks.length:Int) -1<=100000;omega
 .show(T.marks.length:Int)=(T.marks.length:Int) -1+1;omega
 .show T.lits=(T.lits.map (zd T)).map (·.l);simp[Pa,Q8,zd]
 .intro x hx;obtain⟨i,hi,rfl⟩:=hin x hx;show au T.lits[i] ((T.marks.length:Int) -1)=0;rw[c];exact h.chk _ (Od hi)
 .intro x hx;obtain⟨i,hi,rfl⟩:=hin x hx;exact⟨V.okL_chk (v:=n) (by omega) (h.chk _ (Od hi)),HE _ _⟩
 .intro v c;refine h.free v λg=>?_;obtain⟨x,hx,e⟩:=Of.1 g;exact uG c (zd T x) (Qh hx) e
 .intro v i hi e;obtain⟨j,hj,p,d⟩:=jF (t:=dL T) (v:=v) (by omega);have:j=i:=by omega
  subst this;obtain⟨b,f⟩:=h.rows hj;rw[f]at d⊢;obtain⟨k,m,o⟩:=h.mark j b;subst d;show bz T (ab T.lits[j])=⟨wN T.lits[j],lB T.beg j,(bz T (ab T.lits[j])).rea,j⟩;rw[←k,←m,←o]
 .show T.beg.length<=(T.lits.map (zd T)).length;rw[Oj];exact h.deep
theorem TOk.mayR(h:TOk n T){l:Int}(f:eV T l=0):Go.AX.mayR (dL T) l=0:=by
 obtain⟨b,g,j⟩:=(h.may l).1 f;have hp:oE (dL T) (ab l)<0:=by
  refine Int.lt_of_not_ge λc=>?_;obtain⟨i,hi,_,e⟩:=jF c;obtain⟨a,d⟩:=h.rows hi;rw[d]at e;rcases(lA h.hn (h.chk _ (Od a)) b).1 e with q|q
  .exact g (q▸Od a)
  .exact j (q▸Od a)
 unfold Go.AX.mayR;have:(dL T).vars=n:=h.vars;rw[this,N8 (by simp[b]),N8 (by omega)]
theorem uX(h:TMk n T){l:Int}(f:eV T l=0)(rea:Int):dL (f9 T l rea)=⟨(dL T).vars,(dL T).rows++[⟨l,T.beg.length,rea⟩],T.beg.length⟩:=by
 obtain⟨b,j,k⟩:=(h.may l).1 f;obtain⟨_,_,_,c,m,_⟩:=bm h.hn b;have a:ab l<T.marks.length:=by rw[h.len];omega
 have g:(T.lits++[l]).map (zd (f9 T l rea))=T.lits.map (zd T)++[⟨l,T.beg.length,rea⟩]:=by
  rw[OJ];congr 1
  .refine Q1 λx hx=>?_;unfold zd;have i:=(bm h.hn (h.chk x hx)).2.2.2.1;rw[jb T l rea c a _ (by omega),N8];intro e;rcases(lA h.hn (h.chk x hx) b).1 e with q|q
   .exact j (q▸hx)
   .exact k (q▸hx)
  .simp only[Ow,Qi];unfold zd;rw[jb T l rea c a _ (by omega),N9 rfl]
 have d:(f9 T l rea).marks.length=T.marks.length:=by simp[f9]
 unfold dL;rw[d];exact QH (λr=>(⟨(T.marks.length:Int) -1,r,T.beg.length⟩:RT)) g
theorem AW(h:TOk n T):∀j,j<=T.lits.length->∀i (hi:i<T.lits.length),i<T.lits.length -j->bz (popN T j) (ab T.lits[i])=bz T (ab T.lits[i])
 |0,_,_,_,_=>rfl
 |j+1,hj,i,hi,d=>by
  have f:=AW h j (by omega) i hi (by omega);rw[←f,popN];have c:(popN T j).lits.length=T.lits.length -j:=by rw[dI,Oe];omega
  have b:T.lits.length -j -1<T.lits.length:=by omega
  have a:(popN T j).lits.getD ((popN T j).lits.length -1) 0=T.lits[T.lits.length -j -1]:=by
   rw[c,dI,N7,O6,N9 (by omega),N6 b];rfl
  unfold bz jN;rw[a];simp only[N7,OD];have g:=(bm h.hn (h.chk _ (Od hi))).2.2.2.1;have k:=(bm h.hn (h.chk _ (Od b))).2.2.2.1;rw[N8];intro e;have:=h.inj b hi (by omega);omega
theorem xa(h:TOk n T){k:Nat}(hk:k<T.beg.length):dL (cq T k)=⟨(dL T).vars,(dL T).rows.take (T.beg[k]).toNat,k⟩:=by
 obtain⟨f,j,g⟩:=h.back hk;have a:T.beg.getD k 0=T.beg[k]:=by rw[N7,N6 hk];rfl
 obtain⟨b1,b2⟩:=h.bnd _ (Od hk);have c:(cq T k).marks.length=T.marks.length:=by rw[f.len,h.len]
 have d:(cq T k).lits.map (zd (cq T k))=(T.lits.map (zd T)).take (T.beg[k]).toNat:=by
  rw[j,←QI];refine Q1 λx hx=>?_;obtain⟨i,hi,rfl⟩:=Pm.1 hx;have b:i<T.lits.length:=by omega
  have l:bz (cq T k) (ab T.lits[i])=bz T (ab T.lits[i]):=by
   have e:bz (cq T k) (ab T.lits[i])=bz (popN T (T.lits.length -(T.beg[k]).toNat)) (ab T.lits[i]):=by unfold bz cq;rw[a]
   rw[e];exact AW h _ (by omega) i b (by omega)
  unfold zd;rw[l]
 unfold dL;rw[c,d,g,Oe,Ps (by omega)]
end
structure EF (cs:List (List Int)) (ats:List Int) (t:RT):Prop extends V.TraF cs ats t where
  clm:∀k:Int,0<k->k<=t.dep->Calm cs (bel t k)
def ze(ls c:List Int):Prop:=(∃x∈c,x∈ls)∨∃x y,x∈c∧y∈c∧x≠y∧-x∉ls∧-y∉ls
theorem AY{cs:List (List Int)}{ls:List Int}(m:∀c∈cs,c.length<=1000∧∀y∈c,da y=true)(one:∀y,da y=true->¬(y∈ls∧-y∈ls))(h:∀c∈cs,ze ls c):Calm cs ls:=by
 intro c g;obtain⟨o,d⟩:=m c g;have i:∀y∈c,b8 ls y=-1->-y∈ls:=λy hy e=>by
  have:=uE e
  rwa [(V.litO (d y hy)).2.2.2.2]at this
 have key:∀b,(b∈c->b8 ls b≠-1->b8 ls b=0)->¬∀y∈c,y≠b->b8 ls y=-1:=λb h0 a=>by
  rcases h c g with⟨x,hx,e⟩|⟨x,y,hx,hy,f,j,k⟩
  .have n:b8 ls x=1:=by
    unfold b8;rw[N8 (by have:=(V.litO (d x hx)).2.2.2.1;omega),N9 e]
   by_cases q:x=b
   .subst q;have:=h0 hx (by omega);omega
   .have:=a x hx q;omega
  .by_cases q:x=b
   .exact k (i y hy (a y hy (λe=>f (q.trans e.symm))))
   .exact j (i x hx (a x hx q))
 refine⟨?_,λe=>?_⟩
 .rw[←Rn];intro e;obtain⟨s,p,r⟩:=G6 (l:=ls) o (λy hy=>(V.litO (d y hy)).2.2.2.1) e;exact key _ (λ_ _=>p) r
 .rw[lp]at e;exact key 0 (λhx _=>absurd rfl (V.litO (d 0 hx)).1) λy hy _=>e y hy (V.litO (d y hy)).2.2.2.1
section
variable {cs : List (List Int)} {ats : List Int} {t : RT}
theorem EF.new(v:Int):EF cs ats ⟨v,[],0⟩:=
 ⟨⟨by simp,by simp,by simp,by simp,λi j hi=>by simp at hi,λi hi=>by simp at hi,λh=>by simp at h,λk h1 a=>by simp at a;omega,λi hi=>by simp at hi⟩,λk h1 a=>by simp at a;omega⟩
theorem EF.app(h:EF cs ats t)(M:0<=t.vars∧t.vars<=100000){x:En}(hx:mayR t x.l=0){d:Int}(hd:x.lev=d)(L:t.dep<=d)(K:d<=t.dep+1)
 (r:x.rea<0->d=t.dep+1) (G:0<=x.rea->d=t.dep) (w:d=t.dep+1->Calm cs (dv t))
 (s:d=t.dep+1->x.rea<0)
 (C : 0 <= x.rea -> ∃ k, ∃ hk : k < cs.length, x.rea = ats.getD k 0 ∧ x.l ∈ cs[k] ∧ (∀ y ∈ cs[k], y ≠ x.l -> ∃ j, ∃ hj : j < t.rows.length, t.rows[j].l = -y) ∧
  (0<x.lev->∃y∈cs[k],y≠x.l∧∃j,∃hj:j<t.rows.length,t.rows[j].l=-y∧t.rows[j].lev=x.lev)):
 EF cs ats ⟨t.vars,t.rows++[x],d⟩:=by
 obtain⟨F,N⟩:=D9 hx;have F:=V.okL_chk M F;have H:(t.rows++[x]).length=t.rows.length+1:=by simp
 have o:∀k:Int,0<k->k<=d->Calm cs (bel ⟨t.vars,t.rows++[x],d⟩ k):=by
  intro k D v;have z:bel ⟨t.vars,t.rows++[x],d⟩ k=bel t k:=by
   unfold bel;dsimp only;rw[PD];have:List.filter (λx:En=>decide (x.lev<k)) [x]=[]:=by simp;omega
   rw[this,Pt]
  rw[z]
  by_cases c:k<=t.dep
  .exact h.clm k D c
  .have:k=t.dep+1:=by omega
   rw[this,G8 (λx hx=>(h.lev x hx).2)];exact w (by omega)
 refine⟨⟨by have:=h.dep;dsimp only;omega,?_,?_,?_,?_,?_,λh0=>o d h0 (Qx _),?_,?_⟩,o⟩
 .intro y hy;rcases Om.1 hy with hy|hy
  .exact h.chk y hy
  .simp at hy;subst hy;exact F
 .dsimp only;rw[OJ,QW];refine⟨h.nd,by simp,?_⟩;intro a I b z e;obtain⟨y,hy,rfl⟩:=Of.1 I;simp at z;exact uG N y hy (e.trans z)
 .intro y hy;rcases Om.1 hy with hy|hy
  .have:=h.lev y hy;dsimp only;omega
  .simp at hy;subst hy;have:=h.dep;dsimp only;omega
 .intro i j hi hj n;dsimp only at hi hj⊢;rcases gV hj with⟨u,e⟩|⟨u,e⟩
  .rcases gV hi with⟨f,e'⟩|⟨f,e'⟩
   .rw[e,e'];exact h.mono i j f u n
   .omega
  .rcases gV hi with⟨f,e'⟩|⟨f,e'⟩
   .rw[e,e',hd];have:=(h.lev _ (Od f)).2;omega
   .omega
 .intro i hi m;dsimp only at hi m⊢;rcases gV hi with⟨f,e'⟩|⟨f,e'⟩
  .rw[e']at m⊢;obtain⟨q,g2⟩:=h.dec i f m;refine⟨q,λj hj n=>?_⟩;rw[OZ (by omega)];exact g2 j (by omega) n
  .rw[e']at m⊢;have J:=r m;refine⟨by have:=h.dep;omega,λj hj n=>?_⟩;rw[OZ (by omega)];have:=(h.lev _ (Od (show j<t.rows.length by omega))).2;omega
 .intro k hk v;dsimp only at v⊢
  by_cases c:k<=t.dep
  .obtain⟨y,hy,e⟩:=h.fst k hk c;exact⟨y,Pc _ hy,e⟩
  .exact⟨x,by simp,by omega,s (by omega)⟩
 .intro i hi m;dsimp only at hi m⊢;rcases gV hi with⟨f,e'⟩|⟨f,e'⟩
  .rw[e']at m⊢;obtain⟨k,hk,q,g2,g3,B⟩:=h.imp i f m;refine⟨k,hk,q,g2,λy hy g=>?_,λE=>?_⟩
   .obtain⟨j,hj,p,e⟩:=g3 y hy g;exact⟨j,by omega,p,by rw[OZ hj];exact e⟩
   .obtain⟨y,hy,g,j,hj,p,e,A⟩:=B E;exact⟨y,hy,g,j,by omega,p,by rw[OZ hj];exact e,by rw[OZ hj];exact A⟩
  .rw[e']at m⊢;obtain⟨k,hk,q,g2,g3,B⟩:=C m;refine⟨k,hk,q,g2,λy hy g=>?_,λE=>?_⟩
   .obtain⟨j,hj,e⟩:=g3 y hy g;exact⟨j,by omega,by omega,by rw[OZ hj];exact e⟩
   .obtain⟨y,hy,g,j,hj,e,A⟩:=B E;exact⟨y,hy,g,j,by omega,by omega,by rw[OZ hj];exact e,by rw[OZ hj];exact A⟩
theorem EF.unit(h:EF cs ats t)(p:V.ClsN cs ats)(F:0<=t.vars∧t.vars<=100000){k:Nat}(hk:k<cs.length){x:Int}(A:x∈cs[k])(C:mayR t x=0)(ho:∀y∈cs[k],y≠x->-y∈dv t):EF cs ats ⟨t.vars,t.rows++[⟨x,t.dep,ats.getD k 0⟩],t.dep⟩:=by
 have b:=Od hk;have f:=p.chk _ b;have hp:=p.pos k hk;have m:∀y∈cs[k],y≠x->∃j,∃hj:j<t.rows.length,t.rows[j].l=-y:=λy hy i=>by
  obtain⟨a,q,e⟩:=Of.1 (ho y hy i);obtain⟨j,hj,rfl⟩:=Oo q;exact⟨j,hj,e⟩
 refine h.app F (x:=⟨x,t.dep,ats.getD k 0⟩) C rfl (by omega) (by omega) (λh=>by dsimp only at h;omega) (λ_=>rfl) (λh=>by omega) (λh=>by omega) (λ_=>⟨k,hk,rfl,A,m,λB=>?_⟩);dsimp only at B⊢;apply OF;intro s;have d:=h.top B _ b;have o:=f x A;obtain⟨H,_,_,w,_⟩:=V.litO o;obtain⟨_,G⟩:=D9 C;have g:∀z∈dv t,ab z≠ab x:=λz hz=>by
  obtain⟨a,q,rfl⟩:=Of.1 hz;exact uG G a q
 have u:b8 (bel t t.dep) x=0:=by
  unfold b8;rw[N8 (by omega),N8 (λe=>g x (fh _ e) rfl),N8 (λe=>g _ (fh _ e) (by rw[(V.litO o).2.2.2.2,dr]))]
 have v:∀y∈cs[k],y≠x->b8 (bel t t.dep) y=-1:=λy hy i=>by
  obtain⟨j,hj,e⟩:=m y hy i;have E:=(h.lev _ (Od hj)).2;have r:t.rows[j].lev<t.dep:=by
   rcases Rw t.rows[j].lev t.dep with c|c
   .exact c
   .exact absurd ⟨y,hy,i,j,hj,e,by omega⟩ s
  have n:-y∈bel t t.dep:=by
   unfold bel;rw[Of];exact⟨t.rows[j],OW.2 ⟨Od hj,by simpa using r⟩,e⟩
  exact V.val3_m1_of (f y hy) n (λD=>h.one (f y hy) ⟨fh _ D,fh _ n⟩)
 have:=unit_of (p.len _ b) (p.nd _ b) A w u v;rw[this]at d;exact absurd d.1 (by simp)
theorem EF.back(h:EF cs ats t){m:Nat}{k:Int}(v:0<=k)(hk:k<t.dep)(z:∀i (hi:i<t.rows.length),i<m↔t.rows[i].lev<=k):EF cs ats ⟨t.vars,t.rows.take m,k⟩:=by
 have p:∀x∈t.rows.take m,x∈t.rows:=λx hx=>OX hx;have b:∀{i},i<(t.rows.take m).length->i<m∧i<t.rows.length:=λhi=>by rw[Oe]at hi;omega
 have hin:∀{j},(hj:j<t.rows.length)->t.rows[j].lev<=k->∃F:j<(t.rows.take m).length,(t.rows.take m)[j]=t.rows[j]:=λ{j} hj w=>by
  have:=(z j hj).2 w;exact⟨by rw[Oe];omega,Pq⟩
 have c:∀j:Int,0<j->j<=k->Calm cs (bel ⟨t.vars,t.rows.take m,k⟩ j):=by
  intro j f o;have E:bel ⟨t.vars,t.rows.take m,k⟩ j=bel t j:=by
   unfold bel;dsimp only
   conv=>rhs;rw[←O8 m t.rows,PD]
   have:(t.rows.drop m).filter (λx:En=>decide (x.lev<j))=[]:=by
    rw[P0];intro x hx;obtain⟨i,hi,rfl⟩:=Rg.1 hx;have:=z (m+i) (by omega);simp;omega
   rw[this,Pt]
  rw[E];exact h.clm j f (by omega)
 refine⟨⟨v,λx hx=>h.chk x (p x hx),?_,?_,?_,?_,λh0=>c k h0 (Qx _),?_,?_⟩,c⟩
 .exact h.nd.sublist ((QR m t.rows).map _)
 .intro x hx;obtain⟨i,hi,rfl⟩:=Oo hx;obtain⟨A,r⟩:=b hi;have e:(t.rows.take m)[i]=t.rows[i]:=Pq;dsimp only at e⊢;rw[e];exact⟨(h.lev _ (Od r)).1,(z i r).1 A⟩
 .intro i j hi hj d;dsimp only at hi hj⊢;rw[Pq,Pq];exact h.mono i j (b hi).2 (b hj).2 d
 .intro i hi n;dsimp only at hi n⊢;rw[Pq]at n⊢;obtain⟨u,g2⟩:=h.dec i (b hi).2 n;refine⟨u,λj hj d=>?_⟩;rw[Pq];exact g2 j (b hj).2 d
 .intro j f o;dsimp only at o⊢;obtain⟨x,hx,B,s⟩:=h.fst j f (by omega);obtain⟨i,hi,rfl⟩:=Oo hx;obtain⟨q,e⟩:=hin hi (by omega);exact⟨_,Od q,by rw[e];exact B,by rw[e];exact s⟩
 .intro i hi n;dsimp only at hi n⊢;rw[Pq]at n⊢;obtain⟨A,r⟩:=b hi;obtain⟨a,D,u,g2,g3,C⟩:=h.imp i r n;refine⟨a,D,u,g2,λy hy l=>?_,λw=>?_⟩
  .obtain⟨j,hj,g,e⟩:=g3 y hy l;exact⟨j,by rw[Oe];omega,g,by rw[Pq];exact e⟩
  .obtain⟨y,hy,l,j,hj,g,e,s⟩:=C w;exact⟨y,hy,l,j,by rw[Oe];omega,g,by rw[Pq];exact e,by rw[Pq];exact s⟩
theorem EF.cls{a:List (List Int)}{b:List Int}(h:EF cs ats t)(g:∀k:Int,0<k->k<=t.dep->Calm a (bel t k))
 (n:∀i (hi:i<t.rows.length),0<=t.rows[i].rea->∀k (hk:k<cs.length),t.rows[i].rea=ats.getD k 0->t.rows[i].l∈cs[k]->∃k',∃c:k'<a.length,b.getD k' 0=ats.getD k 0∧a[k']=cs[k]):EF a b t:=
 ⟨⟨h.dep,h.chk,h.nd,h.lev,h.mono,h.dec,λh0=>g _ h0 (Qx _),h.fst,λi hi d=>by
  obtain⟨k,hk,f,g2,g3,m⟩:=h.imp i hi d;obtain⟨k',c,j,e⟩:=n i hi d k hk f g2;exact⟨k',c,f.trans j.symm,by rw[e];exact g2,by rw[e];exact g3,by rw[e];exact m⟩⟩,g⟩
def J9(F:List (List Int))(c:List Int):Prop:=∀m:List Bool,(∀d∈F,b5 d m=true)->b5 c m=true
end
section
variable {h : List (List SV)} {be bt ba bw bh : Nat} {mp : List (Int × Nat)} {mb : List (Int × By)} {E : ES}
theorem fk(c:h[be]?=some (bV bt ba bw bh E)):aB Tryz.prog 55 [.ptr be 0] h (λr h'=>h'=h∧r=.pv (BL true)):=by
 refine gm [] [.tmp 2] aG Tryz.func55 ?_;obtain⟨b,a⟩:=N5.1 c;simp[a,b,bV]
theorem FF(c:h[be]?=some (bV bt ba bw bh E)):aB Tryz.prog 17 [.ptr be 0] h (λr h'=>h'=h∧r=.pv (BL E.over)):=by
 refine gm [] [.tmp 2] aG Tryz.func17 ?_;obtain⟨b,a⟩:=N5.1 c;simp;refine am.intro (fk c) ?_;rintro _ _ ⟨rfl,rfl⟩;simp[a,b,bV]
theorem l5(c:h[be]?=some (bV bt ba bw bh E)):aB Tryz.prog 45 [.ptr be 0] h (λr h'=>h'=h∧r=.pv (ae E.many)):=by
 refine gm [] [.tmp 2] aG Tryz.func45 ?_;obtain⟨b,a⟩:=N5.1 c;simp;refine am.intro (fk c) ?_;rintro _ _ ⟨rfl,rfl⟩;simp[a,b,bV]
def kj(E:ES):ES:=if E.over=true then E else{E with S:=(er E.S E.T).1,T:=(er E.S E.T).2.1,con:=(er E.S E.T).2.2,calm:=decide ((er E.S E.T).2.2<0)}
set_option maxRecDepth 16000 in
theorem FH(L:LayE h be bt ba bw bh mp mb E){n:Nat}(o:WOk n E.S)(m:TOk n E.T):aB Tryz.prog 43 [.ptr be 0] h (λr h'=>r=.pv (BL (!E.over&&!(kj E).calm))∧∃mb',LayE h' be bt ba bw bh mp mb' (kj E)∧Ext h h' (cZ be bt ba bw bh mp mb) (cZ be bt ba bw bh mp mb')):=by
 refine cL [] [.tmp 2] aG Tryz.func43 ?_;obtain⟨c,b⟩:=N5.1 L.e;have p:=EZ h bw ba bt mp mb E.A L.w o m;have a:kj E=if E.over=true then E else{E with S:=(er E.S E.T).1,T:=(er E.S E.T).2.1,con:=(er E.S E.T).2.2,calm:=decide ((er E.S E.T).2.2<0)}:=rfl;generalize kj E=E' at*;simp;refine am.intro (fk L.e) ?_;rintro _ _ ⟨rfl,rfl⟩;cases ho:E.over
 rotate_left
 .rw[N9 ho]at a;subst a;simp[b,c,bV,ho];exact⟨mb,L,Ext.refl _ _⟩
 rw[N8 (by simp[ho])]at a;generalize er E.S E.T=R at*;obtain⟨s,t,k⟩:=R;dsimp only at*;simp[b,c,bV,ho];refine am.intro p ?_;rintro _ q ⟨rfl,d,j,g⟩;have f:=L.watch j g;obtain⟨l,g2⟩:=N5.1 f.e;have L3:=f.eng E' (by rw[a]) (by rw[a]) (by rw[a]) (by rw[a]);have i:=(Ext.eng (be:=be) (bh:=bh) (ba:=ba) g).trans (Ext.set be (bV bt ba bw bh E') (.inl rfl));subst a;simp[l,g2,bV,ho]at L3 i⊢;exact⟨d,L3,i⟩
end
end Go.AX
namespace Go.AX
set_option maxRecDepth 16000
open Go.Proofs
set_option linter.unusedSimpArgs false
def uZ(f:Int->Int)(l:List Int)(i:Nat):List Int:=(l.take i).map f++List.replicate (l.length -i) 0
theorem FJ(f:Int->Int)(l:List Int)(i:Nat)(h:i<=l.length):(uZ f l i).length=l.length:=by unfold uZ;simp;omega
theorem FK(f:Int->Int)(l:List Int)(i:Nat)(h:i<l.length):(uZ f l i).set i (f l[i])=uZ f l (i+1):=by
 unfold uZ;have e:l.length -i=(l.length -(i+1))+1:=by omega
 rw[e,Rq,QL _ _ (by simp;omega)];have a:i -((l.take i).map f).length=0:=by simp;omega
 rw[a,Rz,PH h,OJ,Ow,Qi,OG];rfl
theorem FL(f:Int->Int)(l:List Int):uZ f l l.length=l.map f:=by unfold uZ;simp
section
variable {h : List (List SV)} {be bt ba bw bh : Nat} {mp : List (Int × Nat)} {mb : List (Int × By)} {E : ES}
theorem A1(L:LayE h be bt ba bw bh mp mb E)(hk:jI E.A)(j:E.A.row.length<=1000000)(l:List Int)(m:l.length<=1000000):aB Tryz.prog 95 [.ptr be 0,.seq false 1 (af l)] h (λr h'=>h'=h∧r=.pv (.seq true 1 (af (l.map (lY E.A))))):=by
 refine lj [] [.tmp 4] aG Tryz.func95 ?_;obtain⟨g,b⟩:=N5.1 L.e;have o:=λk=>EO h ba E.A L.w.a hk j k;simp[b,g,bV];refine⟨by omega,?_⟩;refine aJ.intro (S:=λ(i:Nat)=>⟨[(5,.pv (.fn (.func 158) [.ptr ba 0] [])),(6,.own true 1 (af (uZ (lY E.A) l i))),(17,.pv (.seq false 1 (af l))),(18,.pv (ae l.length)),(19,.pv (ae i))],h⟩) (λi=>i<=l.length) (λi=>l.length -i) 0 ?_ (Oz _) ?_
 .exact ai.keep (by simp[uZ,af]) rfl
 intro i hi;have d:=FJ (lY E.A) l i hi
 by_cases c:i<l.length
 .have n:=fQ i;have hs:=FK (lY E.A) l i c;simp[c];refine am.intro (o l[i]) ?_;rintro _ _ ⟨rfl,rfl⟩;simp[d,c];exact⟨i+1,by(try dsimp only);omega,by(try dsimp only);omega,ai.keep (by simp[n,g8,hs]) rfl⟩
 .have f:i=l.length:=by omega
  subst f;simp[FL,cw,cE]
structure HpTo (n:Nat) (q q':HS):Prop where
  hp:HpG n 1000000000000 q'
  mem:∀v,v∈q.row->v∈q'.row
theorem HpTo.refl{n:Nat}{q:HS}(g:HpG n 1000000000000 q):HpTo n q q:=⟨g,λ_ h=>h⟩
theorem HpTo.trans{n:Nat}{a b c:HS}(x:HpTo n a b)(y:HpTo n b c):HpTo n a c:=⟨y.hp,λv h=>y.mem v (x.mem v h)⟩
theorem HpTo.bump{n:Nat}{q:HS}(g:HpG n 1000000000000 q)(v b:Int):HpTo n q (d7 q v b).1:=⟨(tu g v b).1,λx hx=>(tu g v b).2.1.symm.subset hx⟩
theorem HpTo.halve{n:Nat}{q:HS}(g:HpG n 1000000000000 q):HpTo n q (b6 q):=by
 obtain⟨a,b,_⟩:=jO (M:=500000000000) (g.mono (by decide)) (by decide) (by decide);exact⟨a.mono (by decide),λx hx=>b.symm.subset hx⟩
theorem HpTo.put{n:Nat}{q:HS}(g:HpG n 1000000000000 q)(v:Int):HpTo n q (dV q v).1:=by
 obtain⟨a,_,b,c⟩:=wU g v;refine⟨a,λx hx=>?_⟩
 by_cases e:(dV q v).2=0
 .exact(b e).symm.subset (Pc _ hx)
 .rw[c e];exact hx
def A2:Sch:=
 let a:Sch:=.fork [(10,.done)]
 let b:Sch:=.fork [(9,a)]
 let c:Sch:=.fork [(5,a)]
 let e:Sch:=.fork [(5,b),(9,c)]
 let d:Sch:=.fork [(3,a)]
 let f:Sch:=.fork [(3,b),(9,d)]
 let g:Sch:=.fork [(3,c),(5,d)]
 let h:Sch:=.fork [(3,e),(5,f),(9,g)]
 .take 0 (.take 1 (.take 2 (.take 4 (.take 6 (.take 7 (.take 8 h))))))
theorem FM(L:LayE h be bt ba bw bh mp mb E){n:Nat}(hn:n<=100000)(g:HpG n 1000000000000 E.q)(hd:0<=E.decay∧E.decay<=100)(hi:0<=E.inc∧E.inc<=1000000000)(l:List Int)(K:l.length<=1000000):aB Tryz.prog 96 [.ptr be 0,.seq false 1 (af l)] h (λr h'=>r=.pv (.tup [])∧∃q k,LayE h' be bt ba bw bh mp mb {E with q:=q,inc:=k}∧Ext h h' (cZ be bt ba bw bh mp mb) (cZ be bt ba bw bh mp mb)∧HpTo n E.q q∧0<=k∧k<=1000000000):=by
 refine cL [3] [] aG Tryz.func96 ?_;simp;refine aJ.intro (S:=λ(x:Nat×List (List SV)×HS)=>⟨[(0,.pv (.ptr be 0)),(6,.pv (.seq false 1 (af l))),(7,.pv (ae l.length)),(8,.pv (ae x.1))],x.2.1⟩)
  (λx=>x.1<=l.length∧LayE x.2.1 be bt ba bw bh mp mb {E with q:=x.2.2}∧Ext h x.2.1 (cZ be bt ba bw bh mp mb) (cZ be bt ba bw bh mp mb)∧HpTo n E.q x.2.2) (λx=>l.length -x.1) (0,h,E.q) ?_ ⟨Oz _,L,Ext.refl _ _,.refl g⟩ ?_
 .exact ai.keep (by simp) rfl
 rintro⟨i,H,q⟩ ⟨z,f,o,j⟩;dsimp only at z f o j;obtain⟨b,a⟩:=N5.1 f.e
 by_cases c:i<l.length
 .have B:=fQ i;have T:=aF l[i];have P:=wV H bh q f.q j.hp hn (ab l[i]) E.inc;have m:=f.heap (d7 q (ab l[i]) E.inc).1;have s:=o.trans (Ext.set bh (ao (d7 q (ab l[i]) E.inc).1) (.inr (.inl rfl)));have w:=j.trans (HpTo.bump j.hp (ab l[i]) E.inc);generalize ab l[i]=v at*;generalize d7 q v E.inc=R at*;simp[c];refine aX.meet A2 ⟨[(0,.pv (.ptr be 0)),(6,.pv (.seq false 1 (af l))),(7,.pv (ae l.length)),(8,.pv (ae i))],H.set bh (ao R.1)⟩ (by kernel_rfl) ?_ ?_
  .simp[A2,a,b,bV]
   repeat' first
    |trivial
    |refine And.intro ?_ ?_
    |(refine aj.intro T ?_;simp[a,b,bV])
    |(refine am.intro P ?_;rintro _ _ ⟨rfl,rfl⟩;simp;exact ai.keep (by simp) rfl)
  .simp;exact⟨(i+1,_,R.1),by(try dsimp only);omega,⟨by(try dsimp only);omega,m,s,w⟩,ai.keep (by simp[B]) rfl⟩
 .have A:i=l.length:=by omega
  subst A;obtain⟨F,J⟩:=hd;obtain⟨N,O⟩:=hi;have M:0<=E.inc*E.decay∧E.inc*E.decay<=1000000000*100:=⟨Int.mul_nonneg N F,Int.mul_le_mul O J F (by decide)⟩;have G:a8 (E.inc*E.decay)=E.inc*E.decay:=ap (by omega) (by omega);have t1:(E.inc*E.decay).tdiv 100=E.inc*E.decay/100:=Rb M.1;have I:a8 (E.inc*E.decay/100)=E.inc*E.decay/100:=ap (by omega) (by omega);have C:a8 (E.inc+E.inc*E.decay/100)=E.inc+E.inc*E.decay/100:=ap (by omega) (by omega);obtain⟨k,hk⟩:∃k,E.inc+E.inc*E.decay/100=k:=⟨_,rfl⟩;have m:=f.eng {E with q:=q,inc:=k} rfl rfl rfl rfl;have s:=o.trans (Ext.set be (bV bt ba bw bh {E with q:=q,inc:=k}) (.inl rfl));have d:0<=k∧k<=2000000000:=by omega
  rw[hk]at C;simp[a,b,bV,G,t1,I,C,hk];simp only[bV]at m s;refine aJ.intro (S:=λ(x:List (List SV)×HS×Int)=>⟨[(0,.pv (.ptr be 0))],x.1⟩)
   (λx=>LayE x.1 be bt ba bw bh mp mb {E with q:=x.2.1,inc:=x.2.2}∧Ext h x.1 (cZ be bt ba bw bh mp mb) (cZ be bt ba bw bh mp mb)∧HpTo n E.q x.2.1∧0<=x.2.2∧x.2.2<=2000000000) (λx=>x.2.2.toNat) (_,q,k) ?_ ⟨m,s,j,d⟩ ?_
  .exact ai.keep (by simp) rfl
  clear f o j m s b a G t1 I C hk d;rintro⟨H,q,k⟩ ⟨f,o,j,d⟩;dsimp only at f o j d;obtain⟨b,a⟩:=N5.1 f.e
  by_cases c:1000000000<k
  .have B:a8 (k.tdiv 2)=k/2:=by rw[Rb d.1,ap (by omega) (by omega)]
   have p:=j.hp;have Q:=oQ H bh q f.q (by rw[p.sl];omega) (by rw[p.pll];exact p.inr) (by rw[p.pll,p.sl]) (by have:=p.few;omega) (by rw[p.sl];omega);have m:=f.heap (b6 q);have s:=o.trans (Ext.set bh (ao (b6 q)) (.inr (.inl rfl)));have w:=j.trans (HpTo.halve p);generalize b6 q=u at*;simp[c,a,b,bV];refine am.intro Q ?_;rintro _ _ ⟨rfl,rfl⟩;obtain⟨t,y⟩:=N5.1 m.e;have L3:=m.eng {E with q:=u,inc:=k/2} rfl rfl rfl rfl;have D:=s.trans (Ext.set be (bV bt ba bw bh {E with q:=u,inc:=k/2}) (.inl rfl));generalize H.set bh (ao u)=U at*;simp only[bV]at L3 D;simp[y,t,bV,B];exact⟨(_,u,k/2),by(try dsimp only);omega,⟨L3,D,w,by(try dsimp only);omega,by(try dsimp only);omega⟩,ai.keep (by simp) rfl⟩
  .simp[c,a,b,bV];exact⟨q,k,f,o,j,d.1,by omega⟩
end
end Go.AX