/-
  Engines: how they lie in memory, told as plain data; and what follows.
-/
import Derived.Test.YtepodadinenmnaaGreatS14AxVaA
import Derived.Test.YtepodadinenmnaaGreatS14AxHpG
namespace Go.AX
open Go.Proofs
set_option linter.unusedSimpArgs false
structure ES where
  T:Tr
  A:Ar
  S:WS
  q:HS
  vars:Int
  cs:List (List Int)
  ph:List Bool
  keep:Int
  decay:Int
  inc:Int
  id:Int
  con:Int
  calm:Bool
  many:Int
  over:Bool
  pf:List Stp
  gl:List (Int×Int)
def bN(bt ba bw bh:Nat)(E:ES):List SV:=[.pv (.ptr bt 0),.pv (ab E.vars),.pv (.seq false 1 (E.cs.map aw)),.pv (.ptr ba 0),.pv (.ptr bw 0),.pv (.ptr bh 0),.own true 1 (cT E.ph),.pv (ab E.keep),.pv (ab E.decay),.pv (ab E.inc),.pv (ab E.id),.pv (ab E.con),.pv (BL E.calm),.pv (ab E.many),.pv (BL E.over),.own true 4 (E.pf.map dq),.omap true (aG fI E.gl)]
structure LayE (h:List (List SV)) (be bt ba bw bh:Nat) (mp:List (Int×Nat)) (mb:List (Int×By)) (E:ES):Prop where
  w:LayW h bw ba bt mp mb E.A E.T E.S
  e:h[be]?=some (bN bt ba bw bh E)
  q:h[bh]?=some (aq E.q)
  ne:be≠bh
  eo:¬aR bw bt mp mb be∧be≠ba
  ho:¬aR bw bt mp mb bh∧bh≠ba
def cV(be bt ba bw bh:Nat)(mp:List (Int×Nat))(mb:List (Int×By))(b:Nat):Prop:=b=be∨b=bh∨b=ba∨aR bw bt mp mb b
section
variable {h h' : List (List SV)} {be bt ba bw bh : Nat} {mp mp' : List (Int × Nat)} {mb mb' : List (Int × By)} {E : ES}
theorem LayW.setA{A:Ar}{T:Tr}{S:WS}(L:LayW h bw ba bt mp mb A T S)(f:Ar):LayW (h.set ba (ji f)) bw ba bt mp mb f T S where
 w:=(Tc L.wa.symm).trans L.w
 a:=Tu (SG.1 L.a).1
 t:=(Tc L.at').trans L.t
 wa:=L.wa
 wt:=L.wt
 at':=L.at'
 keys:=L.keys
 pr:=λk b i=>by
  obtain⟨p,h1,d,c⟩:=L.pr k b i;exact⟨p,h1,(Tc c.2.1.symm).trans d,c⟩
 pinj:=L.pinj
 by':=λl e j=>by
  obtain⟨zs,h1,⟨sp,d,c⟩,g⟩:=L.by' l e j
  exact⟨zs,h1,⟨sp,(Tc g.2.1.symm).trans d,c⟩,g⟩
 byn:=L.byn
 binj:=L.binj
 pb:=L.pb
theorem LayE.lt(L:LayE h be bt ba bw bh mp mb E):be<h.length∧bh<h.length:=⟨(SG.1 L.e).1,(SG.1 L.q).1⟩
theorem LayE.watch(L:LayE h be bt ba bw bh mp mb E){T:Tr}{S:WS}(W:LayW h' bw ba bt mp' mb' E.A T S)(X:Ext h h' (aR bw bt mp mb) (aR bw bt mp' mb')):LayE h' be bt ba bw bh mp' mb' {E with T:=T,S:=S}where
 w:=W
 e:=(X.same _ L.lt.1 L.eo.1).trans L.e
 q:=(X.same _ L.lt.2 L.ho.1).trans L.q
 ne:=L.ne
 eo:=⟨λd=>L.eo.1 (X.sub _ L.lt.1 d),L.eo.2⟩
 ho:=⟨λd=>L.ho.1 (X.sub _ L.lt.2 d),L.ho.2⟩
theorem LayE.trail(L:LayE h be bt ba bw bh mp mb E)(T:Tr):LayE (h.set bt (gD T)) be bt ba bw bh mp mb {E with T:=T}:=
 L.watch (L.w.setT T) (Ext.set bt _ (.inr (.inl rfl)))
theorem LayE.arena(L:LayE h be bt ba bw bh mp mb E)(A:Ar):LayE (h.set ba (ji A)) be bt ba bw bh mp mb {E with A:=A}where
 w:=L.w.setA A
 e:=(Tc L.eo.2.symm).trans L.e
 q:=(Tc L.ho.2.symm).trans L.q
 ne:=L.ne
 eo:=L.eo
 ho:=L.ho
theorem LayE.heap(L:LayE h be bt ba bw bh mp mb E)(q:HS):LayE (h.set bh (aq q)) be bt ba bw bh mp mb {E with q:=q}where
 w:=L.w.other bh (aq q) L.ho.1 L.ho.2
 e:=(Tc L.ne.symm).trans L.e
 q:=Tu L.lt.2
 ne:=L.ne
 eo:=L.eo
 ho:=L.ho
theorem LayE.eng(L:LayE h be bt ba bw bh mp mb E)(E':ES)(c:E'.T=E.T)(a:E'.A=E.A)(b:E'.S=E.S)(d:E'.q=E.q):LayE (h.set be (bN bt ba bw bh E')) be bt ba bw bh mp mb E' where
 w:=by
  rw[c,a,b];exact L.w.other be _ L.eo.1 L.eo.2
 e:=Tu L.lt.1
 q:=by rw[d];exact(Tc L.ne).trans L.q
 ne:=L.ne
 eo:=L.eo
 ho:=L.ho
theorem Ext.eng(X:Ext h h' (aR bw bt mp mb) (aR bw bt mp' mb')):Ext h h' (cV be bt ba bw bh mp mb) (cV be bt ba bw bh mp' mb')where
 len:=X.len
 same:=λb a hn=>X.same b a λd=>hn (.inr (.inr (.inr d)))
 sub:=λb a d=>d.imp id (Or.imp id (Or.imp id (X.sub b a)))
end
def CN(T:Tr)(l:Int):En:=⟨l,(bH T (af l)).lev,(bH T (af l)).rea⟩
def fh(T:Tr):RT:=⟨(T.marks.length:Int) -1,T.lits.map (CN T),T.beg.length⟩
theorem ME(beg:List Int)(i:Nat):0<=mU beg i∧mU beg i<=beg.length:=by
 unfold mU;have:=UM (λb=>decide (b<=(i:Int))) beg;omega
theorem x8{beg:List Int}(h:beg.Pairwise (·<·)){k:Nat}(hk:k<beg.length)(i:Nat):mU beg i<=k↔(i:Int)<beg[k]:=by
 have hp:=Tv.1 h;have key:∀n,n<=beg.length->(((beg.take n).filter λb=>decide (b<=(i:Int))).length=n∨∃j,∃hj:j<beg.length,j<n∧(i:Int)<beg[j]):=by
  intro n hn
  by_cases c:∃j,∃hj:j<beg.length,j<n∧(i:Int)<beg[j]
  .exact .inr c
  .left;rw[Uw.2,SU]
   .omega
   .intro b a;obtain⟨j,hj,rfl⟩:=Ug.1 a;have:¬(i:Int)<beg[j]:=λq=>c ⟨j,by omega,by omega,q⟩;simp;omega
 unfold mU;constructor
 .intro f;rcases key (k+1) (by omega)with e|⟨j,hj,d,e⟩
  .have:=(Vi (k+1) beg).filter (λb=>decide (b<=(i:Int)));have:=this.length_le;omega
  .by_cases q:j=k
   .subst q;exact e
   .have:=hp j k hj hk (by omega);omega
 .intro hi;have e:beg.filter (λb=>decide (b<=(i:Int)))=(beg.take k).filter (λb=>decide (b<=(i:Int))):=by
   conv=>lhs;rw[←TY k beg,Uv]
   have:(beg.drop k).filter (λb=>decide (b<=(i:Int)))=[]:=by
    rw[Uz];intro b a;obtain⟨j,hj,rfl⟩:=Wl.1 a
    by_cases q:j=0
    .subst q;simp;omega
    .have:=hp k (k+j) hk (by omega) (by omega);simp;omega
   rw[this,Ui]
  rw[e];have:=UM (λb=>decide (b<=(i:Int))) (beg.take k);rw[SU]at this;omega
section
variable {n : Nat} {T : Tr}
theorem TOk.rows(h:TOk n T){i:Nat}(hi:i<(fh T).rows.length):∃a:i<T.lits.length,(fh T).rows[i]=⟨T.lits[i],mU T.beg i,(bH T (af T.lits[i])).rea⟩:=by
 have a:i<T.lits.length:=by simpa[fh]using hi
 refine⟨a,?_⟩;have:(fh T).rows[i]=CN T T.lits[i]:=by simp only[fh,WQ]
 rw[this];unfold CN;rw[(h.mark i a).2.1]
theorem TOk.deep(h:TOk n T):T.beg.length<=T.lits.length:=by
 have h1:(T.beg.map Int.toNat).Nodup:=by
  refine UC.2 (h.rise.imp_of_mem ?_);intro a b d c f e;have:=h.bnd a d;have:=h.bnd b c;omega
 have:=dx (T.beg.map Int.toNat) (List.range T.lits.length) h1 λx hx=>by
  obtain⟨b,c,rfl⟩:=SY.1 hx;have:=h.bnd b c;rw[Uf];omega
 simpa using this
theorem TOk.rel(h:TOk n T):V.RelD T (fh T):=by
 have c:=h.vars;have hn:=h.hn;have hin:∀x∈(fh T).rows,∃i,∃hi:i<T.lits.length,x=⟨T.lits[i],mU T.beg i,(bH T (af T.lits[i])).rea⟩:=λx hx=>by
  obtain⟨i,hi,rfl⟩:=S6 hx;obtain⟨a,e⟩:=h.rows hi;exact⟨i,a,e⟩
 refine⟨⟨?_,?_,?_,rfl,?_,?_,?_,?_⟩,?_⟩
 .show 0<=(T.marks.length:Int) -1∧(T.marks.length:Int) -1<=100000;omega
 .show(T.marks.length:Int)=(T.marks.length:Int) -1+1;omega
 .show T.lits=(T.lits.map (CN T)).map (·.l);simp[TT,VR,CN]
 .intro x hx;obtain⟨i,hi,rfl⟩:=hin x hx;show ay T.lits[i] ((T.marks.length:Int) -1)=0;rw[c];exact h.chk _ (SS hi)
 .intro x hx;obtain⟨i,hi,rfl⟩:=hin x hx;exact⟨V.okL_chk (v:=n) (by omega) (h.chk _ (SS hi)),ME _ _⟩
 .intro v c;refine h.free v λg=>?_;obtain⟨x,hx,e⟩:=SY.1 g;exact xL c (CN T x) (UQ hx) e
 .intro v i hi e;obtain⟨j,hj,p,d⟩:=lw (t:=fh T) (v:=v) (by omega);have:j=i:=by omega
  subst this;obtain⟨b,f⟩:=h.rows hj;rw[f]at d⊢;obtain⟨k,m,o⟩:=h.mark j b;subst d;show bH T (af T.lits[j])=⟨xV T.lits[j],mU T.beg j,(bH T (af T.lits[j])).rea,j⟩;rw[←k,←m,←o]
 .show T.beg.length<=(T.lits.map (CN T)).length;rw[SZ];exact h.deep
theorem TOk.mayR(h:TOk n T){l:Int}(f:fX T l=0):Go.AX.mayR (fh T) l=0:=by
 obtain⟨b,g,j⟩:=(h.may l).1 f;have hp:qG (fh T) (af l)<0:=by
  refine Int.lt_of_not_ge λc=>?_;obtain⟨i,hi,_,e⟩:=lw c;obtain⟨a,d⟩:=h.rows hi;rw[d]at e;rcases(mT h.hn (h.chk _ (SS a)) b).1 e with q|q
  .exact g (q▸SS a)
  .exact j (q▸SS a)
 unfold Go.AX.mayR;have:(fh T).vars=n:=h.vars;rw[this,SM (by simp[b]),SM (by omega)]
theorem x9(h:TMk n T){l:Int}(f:fX T l=0)(rea:Int):fh (gY T l rea)=⟨(fh T).vars,(fh T).rows++[⟨l,T.beg.length,rea⟩],T.beg.length⟩:=by
 obtain⟨b,j,k⟩:=(h.may l).1 f;obtain⟨_,_,_,c,m,_⟩:=bA h.hn b;have a:af l<T.marks.length:=by rw[h.len];omega
 have g:(T.lits++[l]).map (CN (gY T l rea))=T.lits.map (CN T)++[⟨l,T.beg.length,rea⟩]:=by
  rw[TA];congr 1
  .refine Vb λx hx=>?_;unfold CN;have i:=(bA h.hn (h.chk x hx)).2.2.2.1;rw[ki T l rea c a _ (by omega),SM];intro e;rcases(mT h.hn (h.chk x hx) b).1 e with q|q
   .exact j (q▸hx)
   .exact k (q▸hx)
  .simp only[Th,UL];unfold CN;rw[ki T l rea c a _ (by omega),SN rfl]
 have d:(gY T l rea).marks.length=T.marks.length:=by simp[gY]
 unfold fh;rw[d];exact Vk (λr=>(⟨(T.marks.length:Int) -1,r,T.beg.length⟩:RT)) g
theorem Es(h:TOk n T):∀j,j<=T.lits.length->∀i (hi:i<T.lits.length),i<T.lits.length -j->bH (popN T j) (af T.lits[i])=bH T (af T.lits[i])
 |0,_,_,_,_=>rfl
 |j+1,hj,i,hi,d=>by
  have f:=Es h j (by omega) i hi (by omega);rw[←f,popN];have c:(popN T j).lits.length=T.lits.length -j:=by rw[d6,SU];omega
  have b:T.lits.length -j -1<T.lits.length:=by omega
  have a:(popN T j).lits.getD ((popN T j).lits.length -1) 0=T.lits[T.lits.length -j -1]:=by
   rw[c,d6,SI,TR,SN (by omega),SH b];rfl
  unfold bH lL;rw[a];simp only[SI,Ts];have g:=(bA h.hn (h.chk _ (SS hi))).2.2.2.1;have k:=(bA h.hn (h.chk _ (SS b))).2.2.2.1;rw[SM];intro e;have:=h.inj b hi (by omega);omega
theorem Aw(h:TOk n T){k:Nat}(hk:k<T.beg.length):fh (cF T k)=⟨(fh T).vars,(fh T).rows.take (T.beg[k]).toNat,k⟩:=by
 obtain⟨f,j,g⟩:=h.back hk;have a:T.beg.getD k 0=T.beg[k]:=by rw[SI,SH hk];rfl
 obtain⟨b1,b2⟩:=h.bnd _ (SS hk);have c:(cF T k).marks.length=T.marks.length:=by rw[f.len,h.len]
 have d:(cF T k).lits.map (CN (cF T k))=(T.lits.map (CN T)).take (T.beg[k]).toNat:=by
  rw[j,←U3];refine Vb λx hx=>?_;obtain⟨i,hi,rfl⟩:=Ug.1 hx;have b:i<T.lits.length:=by omega
  have l:bH (cF T k) (af T.lits[i])=bH T (af T.lits[i]):=by
   have e:bH (cF T k) (af T.lits[i])=bH (popN T (T.lits.length -(T.beg[k]).toNat)) (af T.lits[i]):=by unfold bH cF;rw[a]
   rw[e];exact Es h _ (by omega) i b (by omega)
  unfold CN;rw[l]
 unfold fh;rw[c,d,g,SU,Ud (by omega)]
end
structure EF (cs:List (List Int)) (ats:List Int) (t:RT):Prop extends V.TraF cs ats t where
  clm:∀k:Int,0<k->k<=t.dep->Calm cs (bel t k)
def CO(ls c:List Int):Prop:=(∃x∈c,x∈ls)∨∃x y,x∈c∧y∈c∧x≠y∧-x∉ls∧-y∉ls
theorem Et{cs:List (List Int)}{ls:List Int}(m:∀c∈cs,c.length<=1000∧∀y∈c,cX y=true)(one:∀y,cX y=true->¬(y∈ls∧-y∈ls))(h:∀c∈cs,CO ls c):Calm cs ls:=by
 intro c g;obtain⟨o,d⟩:=m c g;have i:∀y∈c,bn ls y=-1->-y∈ls:=λy hy e=>by
  have:=xJ e
  rwa [(V.litO (d y hy)).2.2.2.2]at this
 have key:∀b,(b∈c->bn ls b≠-1->bn ls b=0)->¬∀y∈c,y≠b->bn ls y=-1:=λb h0 a=>by
  rcases h c g with⟨x,hx,e⟩|⟨x,y,hx,hy,f,j,k⟩
  .have n:bn ls x=1:=by
    unfold bn;rw[SM (by have:=(V.litO (d x hx)).2.2.2.1;omega),SN e]
   by_cases q:x=b
   .subst q;have:=h0 hx (by omega);omega
   .have:=a x hx q;omega
  .by_cases q:x=b
   .exact k (i y hy (a y hy (λe=>f (q.trans e.symm))))
   .exact j (i x hx (a x hx q))
 refine⟨?_,λe=>?_⟩
 .rw[←V4];intro e;obtain⟨s,p,r⟩:=LK (l:=ls) o (λy hy=>(V.litO (d y hy)).2.2.2.1) e;exact key _ (λ_ _=>p) r
 .rw[lG]at e;exact key 0 (λhx _=>absurd rfl (V.litO (d 0 hx)).1) λy hy _=>e y hy (V.litO (d y hy)).2.2.2.1
section
variable {cs : List (List Int)} {ats : List Int} {t : RT}
theorem EF.new(v:Int):EF cs ats ⟨v,[],0⟩:=
 ⟨⟨by simp,by simp,by simp,by simp,λi j hi=>by simp at hi,λi hi=>by simp at hi,λh=>by simp at h,λk h1 a=>by simp at a;omega,λi hi=>by simp at hi⟩,λk h1 a=>by simp at a;omega⟩
theorem EF.app(h:EF cs ats t)(M:0<=t.vars∧t.vars<=100000){x:En}(hx:mayR t x.l=0){d:Int}(hd:x.lev=d)(L:t.dep<=d)(K:d<=t.dep+1)
 (r:x.rea<0->d=t.dep+1) (G:0<=x.rea->d=t.dep) (w:d=t.dep+1->Calm cs (dL t))
 (s:d=t.dep+1->x.rea<0)
 (C : 0 <= x.rea -> ∃ k, ∃ hk : k < cs.length, x.rea = ats.getD k 0 ∧ x.l ∈ cs[k] ∧ (∀ y ∈ cs[k], y ≠ x.l -> ∃ j, ∃ hj : j < t.rows.length, t.rows[j].l = -y) ∧
  (0<x.lev->∃y∈cs[k],y≠x.l∧∃j,∃hj:j<t.rows.length,t.rows[j].l=-y∧t.rows[j].lev=x.lev)):
 EF cs ats ⟨t.vars,t.rows++[x],d⟩:=by
 obtain⟨F,N⟩:=Iu hx;have F:=V.okL_chk M F;have H:(t.rows++[x]).length=t.rows.length+1:=by simp
 have o:∀k:Int,0<k->k<=d->Calm cs (bel ⟨t.vars,t.rows++[x],d⟩ k):=by
  intro k D v;have z:bel ⟨t.vars,t.rows++[x],d⟩ k=bel t k:=by
   unfold bel;dsimp only;rw[Uv];have:List.filter (λx:En=>decide (x.lev<k)) [x]=[]:=by simp;omega
   rw[this,Ui]
  rw[z]
  by_cases c:k<=t.dep
  .exact h.clm k D c
  .have:k=t.dep+1:=by omega
   rw[this,LL (λx hx=>(h.lev x hx).2)];exact w (by omega)
 refine⟨⟨by have:=h.dep;dsimp only;omega,?_,?_,?_,?_,?_,λh0=>o d h0 (Vc _),?_,?_⟩,o⟩
 .intro y hy;rcases S7.1 hy with hy|hy
  .exact h.chk y hy
  .simp at hy;subst hy;exact F
 .dsimp only;rw[TA,VU];refine⟨h.nd,by simp,?_⟩;intro a I b z e;obtain⟨y,hy,rfl⟩:=SY.1 I;simp at z;exact xL N y hy (e.trans z)
 .intro y hy;rcases S7.1 hy with hy|hy
  .have:=h.lev y hy;dsimp only;omega
  .simp at hy;subst hy;have:=h.dep;dsimp only;omega
 .intro i j hi hj n;dsimp only at hi hj⊢;rcases ja hj with⟨u,e⟩|⟨u,e⟩
  .rcases ja hi with⟨f,e'⟩|⟨f,e'⟩
   .rw[e,e'];exact h.mono i j f u n
   .omega
  .rcases ja hi with⟨f,e'⟩|⟨f,e'⟩
   .rw[e,e',hd];have:=(h.lev _ (SS f)).2;omega
   .omega
 .intro i hi m;dsimp only at hi m⊢;rcases ja hi with⟨f,e'⟩|⟨f,e'⟩
  .rw[e']at m⊢;obtain⟨q,g2⟩:=h.dec i f m;refine⟨q,λj hj n=>?_⟩;rw[TB (by omega)];exact g2 j (by omega) n
  .rw[e']at m⊢;have J:=r m;refine⟨by have:=h.dep;omega,λj hj n=>?_⟩;rw[TB (by omega)];have:=(h.lev _ (SS (show j<t.rows.length by omega))).2;omega
 .intro k hk v;dsimp only at v⊢
  by_cases c:k<=t.dep
  .obtain⟨y,hy,e⟩:=h.fst k hk c;exact⟨y,Um _ hy,e⟩
  .exact⟨x,by simp,by omega,s (by omega)⟩
 .intro i hi m;dsimp only at hi m⊢;rcases ja hi with⟨f,e'⟩|⟨f,e'⟩
  .rw[e']at m⊢;obtain⟨k,hk,q,g2,g3,B⟩:=h.imp i f m;refine⟨k,hk,q,g2,λy hy g=>?_,λE=>?_⟩
   .obtain⟨j,hj,p,e⟩:=g3 y hy g;exact⟨j,by omega,p,by rw[TB hj];exact e⟩
   .obtain⟨y,hy,g,j,hj,p,e,A⟩:=B E;exact⟨y,hy,g,j,by omega,p,by rw[TB hj];exact e,by rw[TB hj];exact A⟩
  .rw[e']at m⊢;obtain⟨k,hk,q,g2,g3,B⟩:=C m;refine⟨k,hk,q,g2,λy hy g=>?_,λE=>?_⟩
   .obtain⟨j,hj,e⟩:=g3 y hy g;exact⟨j,by omega,by omega,by rw[TB hj];exact e⟩
   .obtain⟨y,hy,g,j,hj,e,A⟩:=B E;exact⟨y,hy,g,j,by omega,by omega,by rw[TB hj];exact e,by rw[TB hj];exact A⟩
theorem EF.unit(h:EF cs ats t)(p:V.ClsN cs ats)(F:0<=t.vars∧t.vars<=100000){k:Nat}(hk:k<cs.length){x:Int}(A:x∈cs[k])(C:mayR t x=0)(ho:∀y∈cs[k],y≠x->-y∈dL t):EF cs ats ⟨t.vars,t.rows++[⟨x,t.dep,ats.getD k 0⟩],t.dep⟩:=by
 have b:=SS hk;have f:=p.chk _ b;have hp:=p.pos k hk;have m:∀y∈cs[k],y≠x->∃j,∃hj:j<t.rows.length,t.rows[j].l=-y:=λy hy i=>by
  obtain⟨a,q,e⟩:=SY.1 (ho y hy i);obtain⟨j,hj,rfl⟩:=S6 q;exact⟨j,hj,e⟩
 refine h.app F (x:=⟨x,t.dep,ats.getD k 0⟩) C rfl (by omega) (by omega) (λh=>by dsimp only at h;omega) (λ_=>rfl) (λh=>by omega) (λh=>by omega) (λ_=>⟨k,hk,rfl,A,m,λB=>?_⟩);dsimp only at B⊢;apply Tl;intro s;have d:=h.top B _ b;have o:=f x A;obtain⟨H,_,_,w,_⟩:=V.litO o;obtain⟨_,G⟩:=Iu C;have g:∀z∈dL t,af z≠af x:=λz hz=>by
  obtain⟨a,q,rfl⟩:=SY.1 hz;exact xL G a q
 have u:bn (bel t t.dep) x=0:=by
  unfold bn;rw[SM (by omega),SM (λe=>g x (gQ _ e) rfl),SM (λe=>g _ (gQ _ e) (by rw[(V.litO o).2.2.2.2,dF]))]
 have v:∀y∈cs[k],y≠x->bn (bel t t.dep) y=-1:=λy hy i=>by
  obtain⟨j,hj,e⟩:=m y hy i;have E:=(h.lev _ (SS hj)).2;have r:t.rows[j].lev<t.dep:=by
   rcases Wz t.rows[j].lev t.dep with c|c
   .exact c
   .exact absurd ⟨y,hy,i,j,hj,e,by omega⟩ s
  have n:-y∈bel t t.dep:=by
   unfold bel;rw[SY];exact⟨t.rows[j],TE.2 ⟨SS hj,by simpa using r⟩,e⟩
  exact V.val3_m1_of (f y hy) n (λD=>h.one (f y hy) ⟨gQ _ D,gQ _ n⟩)
 have:=unit_of (p.len _ b) (p.nd _ b) A w u v;rw[this]at d;exact absurd d.1 (by simp)
theorem EF.back(h:EF cs ats t){m:Nat}{k:Int}(v:0<=k)(hk:k<t.dep)(z:∀i (hi:i<t.rows.length),i<m↔t.rows[i].lev<=k):EF cs ats ⟨t.vars,t.rows.take m,k⟩:=by
 have p:∀x∈t.rows.take m,x∈t.rows:=λx hx=>TL hx;have b:∀{i},i<(t.rows.take m).length->i<m∧i<t.rows.length:=λhi=>by rw[SU]at hi;omega
 have hin:∀{j},(hj:j<t.rows.length)->t.rows[j].lev<=k->∃F:j<(t.rows.take m).length,(t.rows.take m)[j]=t.rows[j]:=λ{j} hj w=>by
  have:=(z j hj).2 w;exact⟨by rw[SU];omega,Ua⟩
 have c:∀j:Int,0<j->j<=k->Calm cs (bel ⟨t.vars,t.rows.take m,k⟩ j):=by
  intro j f o;have E:bel ⟨t.vars,t.rows.take m,k⟩ j=bel t j:=by
   unfold bel;dsimp only
   conv=>rhs;rw[←TY m t.rows,Uv]
   have:(t.rows.drop m).filter (λx:En=>decide (x.lev<j))=[]:=by
    rw[Uz];intro x hx;obtain⟨i,hi,rfl⟩:=Wl.1 hx;have:=z (m+i) (by omega);simp;omega
   rw[this,Ui]
  rw[E];exact h.clm j f (by omega)
 refine⟨⟨v,λx hx=>h.chk x (p x hx),?_,?_,?_,?_,λh0=>c k h0 (Vc _),?_,?_⟩,c⟩
 .exact h.nd.sublist ((Vi m t.rows).map _)
 .intro x hx;obtain⟨i,hi,rfl⟩:=S6 hx;obtain⟨A,r⟩:=b hi;have e:(t.rows.take m)[i]=t.rows[i]:=Ua;dsimp only at e⊢;rw[e];exact⟨(h.lev _ (SS r)).1,(z i r).1 A⟩
 .intro i j hi hj d;dsimp only at hi hj⊢;rw[Ua,Ua];exact h.mono i j (b hi).2 (b hj).2 d
 .intro i hi n;dsimp only at hi n⊢;rw[Ua]at n⊢;obtain⟨u,g2⟩:=h.dec i (b hi).2 n;refine⟨u,λj hj d=>?_⟩;rw[Ua];exact g2 j (b hj).2 d
 .intro j f o;dsimp only at o⊢;obtain⟨x,hx,B,s⟩:=h.fst j f (by omega);obtain⟨i,hi,rfl⟩:=S6 hx;obtain⟨q,e⟩:=hin hi (by omega);exact⟨_,SS q,by rw[e];exact B,by rw[e];exact s⟩
 .intro i hi n;dsimp only at hi n⊢;rw[Ua]at n⊢;obtain⟨A,r⟩:=b hi;obtain⟨a,D,u,g2,g3,C⟩:=h.imp i r n;refine⟨a,D,u,g2,λy hy l=>?_,λw=>?_⟩
  .obtain⟨j,hj,g,e⟩:=g3 y hy l;exact⟨j,by rw[SU];omega,g,by rw[Ua];exact e⟩
  .obtain⟨y,hy,l,j,hj,g,e,s⟩:=C w;exact⟨y,hy,l,j,by rw[SU];omega,g,by rw[Ua];exact e,by rw[Ua];exact s⟩
theorem EF.cls{a:List (List Int)}{b:List Int}(h:EF cs ats t)(g:∀k:Int,0<k->k<=t.dep->Calm a (bel t k))
 (n:∀i (hi:i<t.rows.length),0<=t.rows[i].rea->∀k (hk:k<cs.length),t.rows[i].rea=ats.getD k 0->t.rows[i].l∈cs[k]->∃k',∃c:k'<a.length,b.getD k' 0=ats.getD k 0∧a[k']=cs[k]):EF a b t:=
 ⟨⟨h.dep,h.chk,h.nd,h.lev,h.mono,h.dec,λh0=>g _ h0 (Vc _),h.fst,λi hi d=>by
  obtain⟨k,hk,f,g2,g3,m⟩:=h.imp i hi d;obtain⟨k',c,j,e⟩:=n i hi d k hk f g2;exact⟨k',c,f.trans j.symm,by rw[e];exact g2,by rw[e];exact g3,by rw[e];exact m⟩⟩,g⟩
def Of(F:List (List Int))(c:List Int):Prop:=∀m:List Bool,(∀d∈F,cd d m=true)->cd c m=true
end
structure Rc where
  id:Int
  side:Int
  lits:List Int
def Rc.sz(x:Rc):Nat:=3+x.lits.length
def br:List Rc->List Int
 |[]=>[]
 |x::l=>x.id::x.lits.length::x.side::(x.lits++br l)
def aQ:Nat->List Rc->List Ro
 |_,[]=>[]
 |p,x::l=>if x.side=2 then aQ (p+x.sz) l else⟨p,x.id,x.lits⟩::aQ (p+x.sz) l
def er(k:Int):Nat->List Rc->List Rc
 |_,[]=>[]
 |p,x::l=>(if(p:Int)=k then⟨x.id,2,x.lits⟩else x)::er k (p+x.sz) l
theorem ko:∀(l l':List Rc),br (l++l')=br l++br l'
 |[],_=>rfl
 |x::l,l'=>by show _::_::_::(x.lits++br (l++l'))=_;rw[ko l l'];simp[br]
theorem il:∀(l l':List Rc)(p:Nat),aQ p (l++l')=aQ p l++aQ (p+(br l).length) l'
 |[],_,_=>rfl
 |x::l,l',p=>by
  have e:p+x.sz+(br l).length=p+(br (x::l)).length:=by simp[br,Rc.sz];omega
  show(if x.side=2 then aQ (p+x.sz) (l++l')else _::aQ (p+x.sz) (l++l'))=(if x.side=2 then aQ (p+x.sz) l else _::aQ (p+x.sz) l)++_;rw[il l l',e];split<;>rfl
theorem nC:∀(l:List Rc)(p:Nat)(y:Ro),y∈aQ p l->∃a x b,l=a++x::b∧x.side≠2∧y=⟨((p+(br a).length:Nat):Int),x.id,x.lits⟩
 |[],_,_,h=>by cases h
 |x::l,p,y,h=>by
  have key:y∈aQ (p+x.sz) l->∃a d b,x::l=a++d::b∧d.side≠2∧y=⟨((p+(br a).length:Nat):Int),d.id,d.lits⟩:=λh=>by
   obtain⟨a,d,b,e,hs,f⟩:=nC l _ y h;refine⟨x::a,d,b,by rw[e];rfl,hs,?_⟩;rw[f];have:p+x.sz+(br a).length=p+(br (x::a)).length:=by simp[br,Rc.sz];omega
   rw[this]
  rw[aQ]at h
  by_cases c:x.side=2
  .rw[SN c]at h;exact key h
  .rw[SM c]at h;rcases Tp.1 h with h|h
   .exact⟨[],x,l,rfl,c,h⟩
   .exact key h
theorem gT:∀(l:List Rc)(p:Nat)(y:Ro),y∈aQ p l->(p:Int)<=y.at'∧y.at'+3+y.lits.length<=p+(br l).length:=λl p y h=>by
 obtain⟨a,x,b,e,_,c⟩:=nC l p y h;rw[e,c,ko];simp[br];omega
theorem ya:∀(l:List Rc)(p:Nat),(aQ p l).Pairwise (λx y=>x.at'<y.at')
 |[],_=>List.Pairwise.nil
 |x::l,p=>by
  have a:=ya l (p+x.sz);rw[aQ];split
  .exact a
  .refine Vm.2 ⟨λy hy=>?_,a⟩;have:=(gT l _ y hy).1;unfold Rc.sz at this;show(p:Int)<y.at';omega
theorem Ax:∀(l:List Rc)(p:Nat)(k:Int),(er k p l).length=l.length∧(br (er k p l)).length=(br l).length
 |[],_,_=>⟨rfl,rfl⟩
 |x::l,p,k=>by
  have a:=Ax l (p+x.sz) k;refine⟨by simp[er,a.1],?_⟩;rw[er];split<;>simp[br,a.2]
theorem Eu:∀(l:List Rc)(p:Nat)(k:Int),k<p->er k p l=l
 |[],_,_,_=>rfl
 |x::l,p,k,h=>by rw[er,SM (by omega),Eu l _ k (by omega)]
theorem mX:∀(l:List Rc)(p:Nat)(k:Int),aQ p (er k p l)=(aQ p l).filter λy=>decide (y.at'≠k)
 |[],_,_=>rfl
 |x::l,p,k=>by
  have a:=mX l (p+x.sz) k
  by_cases c:(p:Int)=k
  .have hn:(aQ (p+x.sz) l).filter (λy=>decide (y.at'≠k))=aQ (p+x.sz) l:=by
    rw[Uw];intro y hy;have:=(gT l _ y hy).1;unfold Rc.sz at this;simp;omega
   rw[er,SN c,aQ,aQ,SN rfl];have e:(⟨x.id,2,x.lits⟩:Rc).sz=x.sz:=rfl;rw[e,a,hn];split
   .exact hn.symm
   .rw[TQ,SM (by simp[c]),hn]
  .rw[er,SM c,aQ,aQ,a];split
   .rfl
   .rw[TQ,SN (by simp[c])]
theorem Ay:∀(a:List Rc)(x:Rc)(b:List Rc)(p:Nat),(br (a++x::b)).set ((br a).length+2) 2=br (er ((p+(br a).length:Nat):Int) p (a++x::b))
 |[],x,b,p=>by
  show _=br (er _ p (x::b));rw[er,SN (by simp[br]),Eu b _ _ (by simp[br,Rc.sz];omega)];simp[br]
 |y::a,x,b,p=>by
  have f:=Ay a x b (p+y.sz);have e:(br (y::a)).length=y.sz+(br a).length:=by simp[br,Rc.sz];omega
  have c:p+(br (y::a)).length=p+y.sz+(br a).length:=by omega
  show(br (y::(a++x::b))).set _ 2=br (er _ p (y::(a++x::b)));rw[er,SM (by unfold Rc.sz at e;omega),c];generalize er (((p+y.sz+(br a).length:Nat):Int)) (p+y.sz) (a++x::b)=D at*;have d:(br (y::a)).length+2=(y.lits.length+((br a).length+2))+3:=by unfold Rc.sz at e;omega
  rw[d,br,br,←f];simp only[List.set_cons_succ];rw[Vj _ _ (by omega),U4]
structure ArI (A:Ar) (l:List Rc):Prop where
  row:A.row=br l
  hd:∀k v,lk A.hd k=some v↔∃x∈aQ 0 l,x.at'=k∧x.id=v
  nd:(A.hd.map (·.1)).Nodup
  id:∀x∈l,1<=x.id
section
variable {A : Ar} {l : List Rc}
theorem ArI.ids(h:ArI A l):∀x∈aQ 0 l,1<=x.id:=λy hy=>by
 obtain⟨a,x,b,e,_,c⟩:=nC l 0 y hy;rw[c];exact h.id x (by rw[e];simp)
theorem ArI.isA(h:ArI A l)(k:Int):Go.AX.isA A k=true↔∃x∈aQ 0 l,x.at'=k:=by
 unfold Go.AX.isA;rw[S9];constructor
 .intro hp;cases e:lk A.hd k with
  |none=>rw[e]at hp;simp at hp
  |some v=>
   obtain⟨x,hx,a,_⟩:=(h.hd k v).1 e;exact⟨x,hx,a⟩
 .rintro⟨x,hx,a⟩;rw[(h.hd k x.id).2 ⟨x,hx,a,rfl⟩];have:=h.ids x hx;simp;omega
theorem sA(a:List Rc)(x:Rc)(b:List Rc):let r:=br (a++x::b);let p:=(br a).length
 r.getD p 0=x.id∧r.getD (p+1) 0=x.lits.length∧r.getD (p+2) 0=x.side∧(r.drop (p+3)).take x.lits.length=x.lits∧p+3+x.lits.length<=r.length:=by
 dsimp only;rw[ko];have e:∀j,(br a++br (x::b)).getD ((br a).length+j) 0=(br (x::b)).getD j 0:=λj=>by
  simp only[SI];rw[Td (by omega)];congr 2;omega
 refine⟨?_,?_,?_,?_,?_⟩
 .exact(e 0).trans rfl
 .exact(e 1).trans rfl
 .exact(e 2).trans rfl
 .rw[WT,Xt (by omega),show(br a).length+3 -(br a).length=3 by omega];simp[br]
 .simp[br];omega
theorem ArI.rel(h:ArI A l):RelA A ⟨aQ 0 l,A.row.length⟩where
 size:=rfl
 rows:=λy hy=>by
  obtain⟨a,x,b,e,_,c⟩:=nC l 0 y hy;obtain⟨d,f,k,g,i⟩:=sA a x b;rw[←e,←h.row]at d f k g i;rw[TP]at c;subst c;exact⟨(br a).length,rfl,⟨i,f⟩,g,(h.isA _).2 ⟨_,hy,rfl⟩,d⟩
 is:=λq j=>(h.isA q).1 j
theorem ArI.new:ArI ⟨[],[]⟩ []:=⟨rfl,λk v=>by simp[lk,aQ],by simp,by simp⟩
theorem ArI.put(h:ArI A l){id:Int}{c:List Int}(f:jA id c=0)(b:Bool):ArI (dt A id c b) (l++[⟨id,ff b,c⟩]):=by
 have pd:1<=id:=by
  unfold jA at f;split at f
  .omega
  .omega
 have hs:ff b≠2:=by unfold ff;split<;>omega
 unfold dt;rw[SN f];have g:aQ 0 (l++[⟨id,ff b,c⟩])=aQ 0 l++[⟨A.row.length,id,c⟩]:=by
  rw[il,h.row,TP];show aQ 0 l++(if ff b=2 then _ else _)=_;rw[SM hs];rfl
 refine⟨?_,λk v=>?_,?_,?_⟩
 .show A.row++_=_;rw[ko,h.row];simp[br]
 .show lk (pt A.hd A.row.length id) k=some v↔_;rw[bJ,g]
  by_cases q:(A.row.length:Int)=k
  .rw[SN q];constructor
   .intro e;cases e;exact⟨⟨A.row.length,id,c⟩,by simp,q,rfl⟩
   .rintro⟨x,hx,d,a⟩;rcases S7.1 hx with hx|hx
    .have:=(gT l 0 x hx).2;rw[h.row]at q;omega
    .simp at hx;subst hx;simp at a;rw[a]
  .rw[SM q,h.hd];constructor
   .rintro⟨x,hx,e⟩;exact⟨x,by simp[hx],e⟩
   .rintro⟨x,hx,d,a⟩;rcases S7.1 hx with hx|hx
    .exact⟨x,hx,d,a⟩
    .simp at hx;subst hx;exact absurd d q
 .exact kh _ _ _ h.nd
 .intro x hx;rcases S7.1 hx with hx|hx
  .exact h.id x hx
  .simp at hx;subst hx;exact pd
theorem ArI.drop(h:ArI A l){k:Int}(hk:Go.AX.isA A k=true):ArI (rS A k) (er k 0 l):=by
 obtain⟨y,hy,c⟩:=(h.isA k).1 hk;obtain⟨a,x,b,e,hs,g⟩:=nC l 0 y hy;have d:k=(((br a).length:Nat):Int):=by rw[←c,g];simp
 have i:Ah A k=0:=by
  unfold Ah;unfold Go.AX.isA at hk;rw[S9]at hk;rw[SM (by omega)]
 unfold rS;rw[SN i];refine⟨?_,λj v=>?_,?_,?_⟩
 .show A.row.set (k.toNat+2) 2=_;have:=Ay a x b 0;rw[TP,←d,←e]at this;rw[h.row,←this];congr 1;omega
 .show lk (dl A.hd k) j=some v↔_;rw[oZ h.nd,mX]
  by_cases q:j=k
  .rw[SN q];constructor
   .intro e;cases e
   .rintro⟨x,hx,c,_⟩;have:=(TE.1 hx).2;simp[c,q]at this
  .rw[SM q,h.hd];constructor
   .rintro⟨x,hx,c,f⟩;exact⟨x,TE.2 ⟨hx,by simp[c,q]⟩,c,f⟩
   .rintro⟨x,hx,e⟩;exact⟨x,(TE.1 hx).1,e⟩
 .exact Ed h.nd k
 .have:∀(l:List Rc)(p:Nat),(∀x∈l,1<=x.id)->∀x∈er k p l,1<=x.id:=by
   intro l
   induction l with
   |nil=>intro p _ x hx;cases hx
   |cons z l m=>
    intro p hz x hx;rw[er]at hx;rcases Tp.1 hx with hx|hx
    .rw[hx];split<;>exact hz z (by simp)
    .exact m _ (λx hx=>hz x (Tf _ hx)) x hx
  exact this l 0 h.id
theorem ArI.at(h:ArI A l){y:Ro}(hy:y∈aQ 0 l):au A y.at'=y.lits∧gt A y.at'=y.id:=by
 obtain⟨p,b,c,d,a,e⟩:=h.rel.rows y hy;rw[b];unfold au gt;rw[SN a,SN a,Ub,c.num,Ub,d,e];exact⟨rfl,rfl⟩
end
end Go.AX