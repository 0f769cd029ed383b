/-
  Engines: how they lie in memory, told as plain data; and what follows.
-/
import Derived.Test.YtepodadinenmnaaGreatZC
import Derived.Test.YtepodadinenmnaaGreatZD
set_option linter.unusedSimpArgs false
namespace Go.AX
open Go.Proofs
structure ES where
  T:Tr
  A:Ar
  S:WS
  q:HS
  vars:Int
  cs:au
  ph:dC
  keep:Int
  decay:Int
  inc:Int
  id:Int
  con:Int
  calm:Bool
  many:Int
  over:Bool
  pf:List Stp
  gl:aS
def cE(bt ba bw bh:Nat)(E:ES):bj:=[.pv (.ptr bt 0),.pv (ak E.vars),.pv (.seq false 1 (E.cs.map aF)),.pv (.ptr ba 0),.pv (.ptr bw 0),.pv (.ptr bh 0),.own true 1 (fM E.ph),.pv (ak E.keep),.pv (ak E.decay),.pv (ak E.inc),.pv (ak E.id),.pv (ak E.con),.pv (BL E.calm),.pv (ak E.many),.pv (BL E.over),.own true 4 (E.pf.map bd),.omap true (aL fI E.gl)]
structure LayE (h:ao) (be bt ba bw bh:Nat) (mp:cg) (mb:List (Int×By)) (E:ES):Prop where
  w:LayW h bw ba bt mp mb E.A E.T E.S
  e:h[be]?=some (cE bt ba bw bh E)
  q:h[bh]?=some (aH E.q)
  ne:be≠bh
  eo:¬bA bw bt mp mb be∧be≠ba
  ho:¬bA bw bt mp mb bh∧bh≠ba
def dH(be bt ba bw bh:Nat)(mp:cg)(mb:List (Int×By))(b:Nat):Prop:=b=be∨b=bh∨b=ba∨bA bw bt mp mb b
section
variable {h h' : ao} {be bt ba bw bh : Nat} {mp mp' : cg} {mb mb' : List (Int × By)} {E : ES}
theorem LayW.setA{A:Ar}{T:Tr}{S:WS}(L:LayW h bw ba bt mp mb A T S)(f:Ar):LayW (h.set ba (kJ f)) bw ba bt mp mb f T S where
 w:=(VL L.wa.symm).trans L.w
 a:=VZ (Vp.1 L.a).1
 t:=(VL L.at').trans L.t
 wa:=L.wa
 wt:=L.wt
 at':=L.at'
 keys:=L.keys
 pr:=λk b i=>by
  obtain⟨p,h1,d,c⟩:=L.pr k b i;exact⟨p,h1,(VL c.2.1.symm).trans d,c⟩
 pinj:=L.pinj
 by':=λl e j=>by
  obtain⟨zs,h1,⟨sp,d,c⟩,g⟩:=L.by' l e j
  exact⟨zs,h1,⟨sp,(VL g.2.1.symm).trans d,c⟩,g⟩
 byn:=L.byn
 binj:=L.binj
 pb:=L.pb
theorem LayE.lt(L:LayE h be bt ba bw bh mp mb E):be<h.length∧bh<h.length:=⟨(Vp.1 L.e).1,(Vp.1 L.q).1⟩
theorem LayE.watch(L:LayE h be bt ba bw bh mp mb E){T:Tr}{S:WS}(W:LayW h' bw ba bt mp' mb' E.A T S)(X:Ext h h' (bA bw bt mp mb) (bA bw bt mp' mb')):LayE h' be bt ba bw bh mp' mb' {E with T:=T,S:=S}where
 w:=W
 e:=(X.same _ L.lt.1 L.eo.1).trans L.e
 q:=(X.same _ L.lt.2 L.ho.1).trans L.q
 ne:=L.ne
 eo:=⟨λd=>L.eo.1 (X.sub _ L.lt.1 d),L.eo.2⟩
 ho:=⟨λd=>L.ho.1 (X.sub _ L.lt.2 d),L.ho.2⟩
theorem LayE.trail(L:LayE h be bt ba bw bh mp mb E)(T:Tr):LayE (h.set bt (iI T)) be bt ba bw bh mp mb {E with T:=T}:=
 L.watch (L.w.setT T) (Ext.set bt _ (.inr (.inl rfl)))
theorem LayE.arena(L:LayE h be bt ba bw bh mp mb E)(A:Ar):LayE (h.set ba (kJ A)) be bt ba bw bh mp mb {E with A:=A}where
 w:=L.w.setA A
 e:=(VL L.eo.2.symm).trans L.e
 q:=(VL L.ho.2.symm).trans L.q
 ne:=L.ne
 eo:=L.eo
 ho:=L.ho
theorem LayE.heap(L:LayE h be bt ba bw bh mp mb E)(q:HS):LayE (h.set bh (aH q)) be bt ba bw bh mp mb {E with q:=q}where
 w:=L.w.other bh (aH q) L.ho.1 L.ho.2
 e:=(VL L.ne.symm).trans L.e
 q:=VZ L.lt.2
 ne:=L.ne
 eo:=L.eo
 ho:=L.ho
theorem LayE.eng(L:LayE h be bt ba bw bh mp mb E)(E':ES)(c:E'.T=E.T)(a:E'.A=E.A)(b:E'.S=E.S)(d:E'.q=E.q):LayE (h.set be (cE bt ba bw bh E')) be bt ba bw bh mp mb E' where
 w:=by
  rw[c,a,b];exact L.w.other be _ L.eo.1 L.eo.2
 e:=VZ L.lt.1
 q:=by rw[d];exact(VL L.ne).trans L.q
 ne:=L.ne
 eo:=L.eo
 ho:=L.ho
theorem Ext.eng(X:Ext h h' (bA bw bt mp mb) (bA bw bt mp' mb')):Ext h h' (dH be bt ba bw bh mp mb) (dH be bt ba bw bh mp' mb')where
 len:=X.len
 same:=λb a hn=>X.same b a λd=>hn (.inr (.inr (.inr d)))
 sub:=λb a d=>d.imp id (Or.imp id (Or.imp id (X.sub b a)))
end
def Fs(T:Tr)(l:Int):En:=⟨l,(cv T (aq l)).lev,(cv T (aq l)).rea⟩
def gV(T:Tr):RT:=⟨(T.marks.length:Int) -1,T.lits.map (Fs T),T.beg.length⟩
theorem Py(beg:af)(i:Nat):0<=oB beg i∧oB beg i<=beg.length:=by
 unfold oB;have:=WR (λb=>decide (b<=(i:Int))) beg;omega
theorem Ho{beg:af}(h:beg.Pairwise (·<·)){k:Nat}(hk:k<beg.length)(i:Nat):oB beg i<=k↔(i:Int)<beg[k]:=by
 have hp:=V5.1 h;have key:∀n,n<=beg.length->(((beg.take n).filter λb=>decide (b<=(i:Int))).length=n∨∃j,∃hj:j<beg.length,j<n∧(i:Int)<beg[j]):=by
  intro n hn;by_cases c:∃j,∃hj:j<beg.length,j<n∧(i:Int)<beg[j];exact .inr c;left;rw[WU.2,Vy];omega;intro b a;obtain⟨j,hj,rfl⟩:=WO.1 a;have:¬(i:Int)<beg[j]:=λq=>c ⟨j,by omega,by omega,q⟩;simp;omega
 unfold oB;constructor;intro f;rcases key (k+1) (by omega)with e|⟨j,hj,d,e⟩;have:=(XZ (k+1) beg).filter (λb=>decide (b<=(i:Int)));have:=this.length_le;omega;by_cases q:j=k;subst q;exact e;have:=hp j k hj hk (by omega);omega
 .intro hi;have e:beg.filter (λb=>decide (b<=(i:Int)))=(beg.take k).filter (λb=>decide (b<=(i:Int))):=by
   conv=>lhs;rw[←Wz k beg,WT]
   have:(beg.drop k).filter (λb=>decide (b<=(i:Int)))=[]:=by
    rw[Xa];intro b a;obtain⟨j,hj,rfl⟩:=Zc.1 a;by_cases q:j=0;subst q;simp;omega;have:=hp k (k+j) hk (by omega) (by omega);simp;omega
   rw[this,WF]
  rw[e];have:=WR (λb=>decide (b<=(i:Int))) (beg.take k);rw[Vy]at this;omega
section
variable {n : Nat} {T : Tr}
theorem TOk.rows(h:TOk n T){i:Nat}(hi:i<(gV T).rows.length):∃a:i<T.lits.length,(gV T).rows[i]=⟨T.lits[i],oB T.beg i,(cv T (aq T.lits[i])).rea⟩:=by
 have a:i<T.lits.length:=by simpa[gV]using hi
 refine⟨a,?_⟩;have:(gV T).rows[i]=Fs T T.lits[i]:=by simp only[gV,ZC]
 rw[this];unfold Fs;rw[(h.mark i a).2.1]
theorem TOk.deep(h:TOk n T):T.beg.length<=T.lits.length:=by
 have h1:(T.beg.map Int.toNat).Nodup:=by
  refine Xe.2 (h.rise.imp_of_mem ?_);intro a b d c f e;have:=h.bnd a d;have:=h.bnd b c;omega
 have:=eb (T.beg.map Int.toNat) (List.range T.lits.length) h1 λx hx=>by
  obtain⟨b,c,rfl⟩:=VB.1 hx;have:=h.bnd b c;rw[WN];omega
 simpa using this
theorem TOk.rel(h:TOk n T):V.RelD T (gV T):=by
 have c:=h.vars;have hn:=h.hn;have hin:∀x∈(gV T).rows,∃i,∃hi:i<T.lits.length,x=⟨T.lits[i],oB T.beg i,(cv T (aq T.lits[i])).rea⟩:=λx hx=>by
  obtain⟨i,hi,rfl⟩:=VE hx;obtain⟨a,e⟩:=h.rows hi;exact⟨i,a,e⟩
 refine⟨⟨?_,?_,?_,rfl,?_,?_,?_,?_⟩,?_⟩;show 0<=(T.marks.length:Int) -1∧(T.marks.length:Int) -1<=100000;omega;show(T.marks.length:Int)=(T.marks.length:Int) -1+1;omega;show T.lits=(T.lits.map (Fs T)).map (·.l);simp[Wo,YL,Fs];intro x hx;obtain⟨i,hi,rfl⟩:=hin x hx;show aQ T.lits[i] ((T.marks.length:Int) -1)=0;rw[c];exact h.chk _ (Vx hi);intro x hx;obtain⟨i,hi,rfl⟩:=hin x hx;exact⟨V.okL_chk (v:=n) (by omega) (h.chk _ (Vx hi)),Py _ _⟩;intro v c;refine h.free v λg=>?_;obtain⟨x,hx,e⟩:=VB.1 g;exact zW c (Fs T x) (WV hx) e;intro v i hi e;obtain⟨j,hj,p,d⟩:=mO (t:=gV T) (v:=v) (by omega);have:j=i:=by omega
 subst this;obtain⟨b,f⟩:=h.rows hj;rw[f]at d⊢;obtain⟨k,m,o⟩:=h.mark j b;subst d;show cv T (aq T.lits[j])=⟨Ak T.lits[j],oB T.beg j,(cv T (aq T.lits[j])).rea,j⟩;rw[←k,←m,←o];show T.beg.length<=(T.lits.map (Fs T)).length;rw[VA];exact h.deep
theorem TOk.mayR(h:TOk n T){l:Int}(f:gZ T l=0):Go.AX.mayR (gV T) l=0:=by
 obtain⟨b,g,j⟩:=(h.may l).1 f;have hp:sD (gV T) (aq l)<0:=by
  refine Int.lt_of_not_ge λc=>?_;obtain⟨i,hi,_,e⟩:=mO c;obtain⟨a,d⟩:=h.rows hi;rw[d]at e;rcases(oA h.hn (h.chk _ (Vx a)) b).1 e with q|q;exact g (q▸Vx a);exact j (q▸Vx a)
 unfold Go.AX.mayR;have:(gV T).vars=n:=h.vars;rw[this,Vs (by simp[b]),Vs (by omega)]
theorem At(h:TMk n T){l:Int}(f:gZ T l=0)(rea:Int):gV (ja T l rea)=⟨(gV T).vars,(gV T).rows++[⟨l,T.beg.length,rea⟩],T.beg.length⟩:=by
 obtain⟨b,j,k⟩:=(h.may l).1 f;obtain⟨_,_,_,c,m,_⟩:=cC h.hn b;have a:aq l<T.marks.length:=by rw[h.len];omega
 have g:(T.lits++[l]).map (Fs (ja T l rea))=T.lits.map (Fs T)++[⟨l,T.beg.length,rea⟩]:=by
  rw[V1];congr 1;refine XE λx hx=>?_;unfold Fs;have i:=(cC h.hn (h.chk x hx)).2.2.2.1;rw[l9 T l rea c a _ (by omega),Vs];intro e;rcases(oA h.hn (h.chk x hx) b).1 e with q|q;exact j (q▸hx);exact k (q▸hx);simp only[VP,Xg];unfold Fs;rw[l9 T l rea c a _ (by omega),Vt rfl]
 have d:(ja T l rea).marks.length=T.marks.length:=by simp[ja]
 unfold gV;rw[d];exact Xp (λr=>(⟨(T.marks.length:Int) -1,r,T.beg.length⟩:RT)) g
theorem Hp(h:TOk n T):∀j,j<=T.lits.length->∀i (hi:i<T.lits.length),i<T.lits.length -j->cv (popN T j) (aq T.lits[i])=cv T (aq T.lits[i])
 |0,_,_,_,_=>rfl
 |j+1,hj,i,hi,d=>by
  have f:=Hp h j (by omega) i hi (by omega);rw[←f,popN];have c:(popN T j).lits.length=T.lits.length -j:=by rw[fj,Vy];omega
  have b:T.lits.length -j -1<T.lits.length:=by omega
  have a:(popN T j).lits.getD ((popN T j).lits.length -1) 0=T.lits[T.lits.length -j -1]:=by
   rw[c,fj,Vr,Wg,Vt (by omega),Vq b];rfl
  unfold cv nc;rw[a];simp only[Vr,V2];have g:=(cC h.hn (h.chk _ (Vx hi))).2.2.2.1;have k:=(cC h.hn (h.chk _ (Vx b))).2.2.2.1;rw[Vs];intro e;have:=h.inj b hi (by omega);omega
theorem CH(h:TOk n T){k:Nat}(hk:k<T.beg.length):gV (dt T k)=⟨(gV T).vars,(gV T).rows.take (T.beg[k]).toNat,k⟩:=by
 obtain⟨f,j,g⟩:=h.back hk;have a:T.beg.getD k 0=T.beg[k]:=by rw[Vr,Vq hk];rfl
 obtain⟨b1,b2⟩:=h.bnd _ (Vx hk);have c:(dt T k).marks.length=T.marks.length:=by rw[f.len,h.len]
 have d:(dt T k).lits.map (Fs (dt T k))=(T.lits.map (Fs T)).take (T.beg[k]).toNat:=by
  rw[j,←Xn];refine XE λx hx=>?_;obtain⟨i,hi,rfl⟩:=WO.1 hx;have b:i<T.lits.length:=by omega
  have l:cv (dt T k) (aq T.lits[i])=cv T (aq T.lits[i]):=by
   have e:cv (dt T k) (aq T.lits[i])=cv (popN T (T.lits.length -(T.beg[k]).toNat)) (aq T.lits[i]):=by unfold cv dt;rw[a]
   rw[e];exact Hp h _ (by omega) i b (by omega)
  unfold Fs;rw[l]
 unfold gV;rw[c,d,g,Vy,WL (by omega)]
end
structure EF (cs:au) (ats:af) (t:RT):Prop extends V.TraF cs ats t where
  clm:∀k:Int,0<k->k<=t.dep->Calm cs (bel t k)
def Ft(ls c:af):Prop:=(∃x∈c,x∈ls)∨∃x y,x∈c∧y∈c∧x≠y∧-x∉ls∧-y∉ls
theorem Hq{cs:au}{ls:af}(m:∀c∈cs,c.length<=1000∧∀y∈c,dF y=true)(one:∀y,dF y=true->¬(y∈ls∧-y∈ls))(h:∀c∈cs,Ft ls c):Calm cs ls:=by
 intro c g;obtain⟨o,d⟩:=m c g;have i:∀y∈c,ca ls y=-1->-y∈ls:=λy hy e=>by
  have:=zU e
  rwa [(V.litO (d y hy)).2.2.2.2]at this
 have key:∀b,(b∈c->ca ls b≠-1->ca ls b=0)->¬∀y∈c,y≠b->ca ls y=-1:=λb h0 a=>by
  rcases h c g with⟨x,hx,e⟩|⟨x,y,hx,hy,f,j,k⟩;have n:ca ls x=1:=by
   unfold ca;rw[Vs (by have:=(V.litO (d x hx)).2.2.2.1;omega),Vt e]
  by_cases q:x=b;subst q;have:=h0 hx (by omega);omega;have:=a x hx q;omega;by_cases q:x=b;exact k (i y hy (a y hy (λe=>f (q.trans e.symm))));exact j (i x hx (a x hx q))
 refine⟨?_,λe=>?_⟩;rw[←YA];intro e;obtain⟨s,p,r⟩:=OP (l:=ls) o (λy hy=>(V.litO (d y hy)).2.2.2.1) e;exact key _ (λ_ _=>p) r;rw[oi]at e;exact key 0 (λhx _=>absurd rfl (V.litO (d 0 hx)).1) λy hy _=>e y hy (V.litO (d y hy)).2.2.2.1
section
variable {cs : au} {ats : af} {t : RT}
theorem EF.new(v:Int):EF cs ats ⟨v,[],0⟩:=
 ⟨⟨by simp,by simp,by simp,by simp,λi j hi=>by simp at hi,λi hi=>by simp at hi,λh=>by simp at h,λk h1 a=>by simp at a;omega,λi hi=>by simp at hi⟩,λk h1 a=>by simp at a;omega⟩
theorem EF.app(h:EF cs ats t)(M:0<=t.vars∧t.vars<=100000){x:En}(hx:mayR t x.l=0){d:Int}(hd:x.lev=d)(L:t.dep<=d)(K:d<=t.dep+1)
 (r:x.rea<0->d=t.dep+1) (G:0<=x.rea->d=t.dep) (w:d=t.dep+1->Calm cs (eK t))
 (s:d=t.dep+1->x.rea<0)
 (C : 0 <= x.rea -> ∃ k, ∃ hk : k < cs.length, x.rea = ats.getD k 0 ∧ x.l ∈ cs[k] ∧ (∀ y ∈ cs[k], y ≠ x.l -> ∃ j, ∃ hj : j < t.rows.length, t.rows[j].l = -y) ∧
  (0<x.lev->∃y∈cs[k],y≠x.l∧∃j,∃hj:j<t.rows.length,t.rows[j].l=-y∧t.rows[j].lev=x.lev)):
 EF cs ats ⟨t.vars,t.rows++[x],d⟩:=by
 obtain⟨F,N⟩:=Lh hx;have F:=V.okL_chk M F;have H:(t.rows++[x]).length=t.rows.length+1:=by simp
 have o:∀k:Int,0<k->k<=d->Calm cs (bel ⟨t.vars,t.rows++[x],d⟩ k):=by
  intro k D v;have z:bel ⟨t.vars,t.rows++[x],d⟩ k=bel t k:=by
   unfold bel;dsimp only;rw[WT];have:List.filter (λx:En=>decide (x.lev<k)) [x]=[]:=by simp;omega
   rw[this,WF]
  rw[z];by_cases c:k<=t.dep;exact h.clm k D c;have:k=t.dep+1:=by omega
  rw[this,OQ (λx hx=>(h.lev x hx).2)];exact w (by omega)
 refine⟨⟨by have:=h.dep;dsimp only;omega,?_,?_,?_,?_,?_,λh0=>o d h0 (XF _),?_,?_⟩,o⟩;intro y hy;rcases VF.1 hy with hy|hy;exact h.chk y hy;simp at hy;subst hy;exact F;dsimp only;rw[V1,YN];refine⟨h.nd,by simp,?_⟩;intro a I b z e;obtain⟨y,hy,rfl⟩:=VB.1 I;simp at z;exact zW N y hy (e.trans z);intro y hy;rcases VF.1 hy with hy|hy;have:=h.lev y hy;dsimp only;omega;simp at hy;subst hy;have:=h.dep;dsimp only;omega;intro i j hi hj n;dsimp only at hi hj⊢;rcases kg hj with⟨u,e⟩|⟨u,e⟩;rcases kg hi with⟨f,e'⟩|⟨f,e'⟩;rw[e,e'];exact h.mono i j f u n;omega;rcases kg hi with⟨f,e'⟩|⟨f,e'⟩;rw[e,e',hd];have:=(h.lev _ (Vx f)).2;omega;omega;intro i hi m;dsimp only at hi m⊢;rcases kg hi with⟨f,e'⟩|⟨f,e'⟩;rw[e']at m⊢;obtain⟨q,g2⟩:=h.dec i f m;refine⟨q,λj hj n=>?_⟩;rw[V6 (by omega)];exact g2 j (by omega) n;rw[e']at m⊢;have J:=r m;refine⟨by have:=h.dep;omega,λj hj n=>?_⟩;rw[V6 (by omega)];have:=(h.lev _ (Vx (show j<t.rows.length by omega))).2;omega;intro k hk v;dsimp only at v⊢;by_cases c:k<=t.dep;obtain⟨y,hy,e⟩:=h.fst k hk c;exact⟨y,WG _ hy,e⟩;exact⟨x,by simp,by omega,s (by omega)⟩;intro i hi m;dsimp only at hi m⊢;rcases kg hi with⟨f,e'⟩|⟨f,e'⟩;rw[e']at m⊢;obtain⟨k,hk,q,g2,g3,B⟩:=h.imp i f m;refine⟨k,hk,q,g2,λy hy g=>?_,λE=>?_⟩;obtain⟨j,hj,p,e⟩:=g3 y hy g;exact⟨j,by omega,p,by rw[V6 hj];exact e⟩;obtain⟨y,hy,g,j,hj,p,e,A⟩:=B E;exact⟨y,hy,g,j,by omega,p,by rw[V6 hj];exact e,by rw[V6 hj];exact A⟩;rw[e']at m⊢;obtain⟨k,hk,q,g2,g3,B⟩:=C m;refine⟨k,hk,q,g2,λy hy g=>?_,λE=>?_⟩;obtain⟨j,hj,e⟩:=g3 y hy g;exact⟨j,by omega,by omega,by rw[V6 hj];exact e⟩;obtain⟨y,hy,g,j,hj,e,A⟩:=B E;exact⟨y,hy,g,j,by omega,by omega,by rw[V6 hj];exact e,by rw[V6 hj];exact A⟩
theorem EF.unit(h:EF cs ats t)(p:V.ClsN cs ats)(F:0<=t.vars∧t.vars<=100000){k:Nat}(hk:k<cs.length){x:Int}(A:x∈cs[k])(C:mayR t x=0)(ho:∀y∈cs[k],y≠x->-y∈eK t):EF cs ats ⟨t.vars,t.rows++[⟨x,t.dep,ats.getD k 0⟩],t.dep⟩:=by
 have b:=Vx hk;have f:=p.chk _ b;have hp:=p.pos k hk;have m:∀y∈cs[k],y≠x->∃j,∃hj:j<t.rows.length,t.rows[j].l=-y:=λy hy i=>by
  obtain⟨a,q,e⟩:=VB.1 (ho y hy i);obtain⟨j,hj,rfl⟩:=VE q;exact⟨j,hj,e⟩
 refine h.app F (x:=⟨x,t.dep,ats.getD k 0⟩) C rfl (by omega) (by omega) (λh=>by dsimp only at h;omega) (λ_=>rfl) (λh=>by omega) (λh=>by omega) (λ_=>⟨k,hk,rfl,A,m,λB=>?_⟩);dsimp only at B⊢;apply V0;intro s;have d:=h.top B _ b;have o:=f x A;obtain⟨H,_,_,w,_⟩:=V.litO o;obtain⟨_,G⟩:=Lh C;have g:∀z∈eK t,aq z≠aq x:=λz hz=>by
  obtain⟨a,q,rfl⟩:=VB.1 hz;exact zW G a q
 have u:ca (bel t t.dep) x=0:=by
  unfold ca;rw[Vs (by omega),Vs (λe=>g x (lr _ e) rfl),Vs (λe=>g _ (lr _ e) (by rw[(V.litO o).2.2.2.2,eC]))]
 have v:∀y∈cs[k],y≠x->ca (bel t t.dep) y=-1:=λy hy i=>by
  obtain⟨j,hj,e⟩:=m y hy i;have E:=(h.lev _ (Vx hj)).2;have r:t.rows[j].lev<t.dep:=by
   rcases Zo t.rows[j].lev t.dep with c|c;exact c;exact absurd ⟨y,hy,i,j,hj,e,by omega⟩ s
  have n:-y∈bel t t.dep:=by
   unfold bel;rw[VB];exact⟨t.rows[j],V9.2 ⟨Vx hj,by simpa using r⟩,e⟩
  exact V.val3_m1_of (f y hy) n (λD=>h.one (f y hy) ⟨lr _ D,lr _ n⟩)
 have:=GI (p.len _ b) (p.nd _ b) A w u v;rw[this]at d;exact absurd d.1 (by simp)
theorem EF.back(h:EF cs ats t){m:Nat}{k:Int}(v:0<=k)(hk:k<t.dep)(z:∀i (hi:i<t.rows.length),i<m↔t.rows[i].lev<=k):EF cs ats ⟨t.vars,t.rows.take m,k⟩:=by
 have p:∀x∈t.rows.take m,x∈t.rows:=λx hx=>Wn hx;have b:∀{i},i<(t.rows.take m).length->i<m∧i<t.rows.length:=λhi=>by rw[Vy]at hi;omega
 have hin:∀{j},(hj:j<t.rows.length)->t.rows[j].lev<=k->∃F:j<(t.rows.take m).length,(t.rows.take m)[j]=t.rows[j]:=λ{j} hj w=>by
  have:=(z j hj).2 w;exact⟨by rw[Vy];omega,WE⟩
 have c:∀j:Int,0<j->j<=k->Calm cs (bel ⟨t.vars,t.rows.take m,k⟩ j):=by
  intro j f o;have E:bel ⟨t.vars,t.rows.take m,k⟩ j=bel t j:=by
   unfold bel;dsimp only
   conv=>rhs;rw[←Wz m t.rows,WT]
   have:(t.rows.drop m).filter (λx:En=>decide (x.lev<j))=[]:=by
    rw[Xa];intro x hx;obtain⟨i,hi,rfl⟩:=Zc.1 hx;have:=z (m+i) (by omega);simp;omega
   rw[this,WF]
  rw[E];exact h.clm j f (by omega)
 refine⟨⟨v,λx hx=>h.chk x (p x hx),?_,?_,?_,?_,λh0=>c k h0 (XF _),?_,?_⟩,c⟩;exact h.nd.sublist ((XZ m t.rows).map _);intro x hx;obtain⟨i,hi,rfl⟩:=VE hx;obtain⟨A,r⟩:=b hi;have e:(t.rows.take m)[i]=t.rows[i]:=WE;dsimp only at e⊢;rw[e];exact⟨(h.lev _ (Vx r)).1,(z i r).1 A⟩;intro i j hi hj d;dsimp only at hi hj⊢;rw[WE,WE];exact h.mono i j (b hi).2 (b hj).2 d;intro i hi n;dsimp only at hi n⊢;rw[WE]at n⊢;obtain⟨u,g2⟩:=h.dec i (b hi).2 n;refine⟨u,λj hj d=>?_⟩;rw[WE];exact g2 j (b hj).2 d;intro j f o;dsimp only at o⊢;obtain⟨x,hx,B,s⟩:=h.fst j f (by omega);obtain⟨i,hi,rfl⟩:=VE hx;obtain⟨q,e⟩:=hin hi (by omega);exact⟨_,Vx q,by rw[e];exact B,by rw[e];exact s⟩;intro i hi n;dsimp only at hi n⊢;rw[WE]at n⊢;obtain⟨A,r⟩:=b hi;obtain⟨a,D,u,g2,g3,C⟩:=h.imp i r n;refine⟨a,D,u,g2,λy hy l=>?_,λw=>?_⟩;obtain⟨j,hj,g,e⟩:=g3 y hy l;exact⟨j,by rw[Vy];omega,g,by rw[WE];exact e⟩;obtain⟨y,hy,l,j,hj,g,e,s⟩:=C w;exact⟨y,hy,l,j,by rw[Vy];omega,g,by rw[WE];exact e,by rw[WE];exact s⟩
theorem EF.cls{a:au}{b:af}(h:EF cs ats t)(g:∀k:Int,0<k->k<=t.dep->Calm a (bel t k))
 (n:∀i (hi:i<t.rows.length),0<=t.rows[i].rea->∀k (hk:k<cs.length),t.rows[i].rea=ats.getD k 0->t.rows[i].l∈cs[k]->∃k',∃c:k'<a.length,b.getD k' 0=ats.getD k 0∧a[k']=cs[k]):EF a b t:=
 ⟨⟨h.dep,h.chk,h.nd,h.lev,h.mono,h.dec,λh0=>g _ h0 (XF _),h.fst,λi hi d=>by
  obtain⟨k,hk,f,g2,g3,m⟩:=h.imp i hi d;obtain⟨k',c,j,e⟩:=n i hi d k hk f g2;exact⟨k',c,f.trans j.symm,by rw[e];exact g2,by rw[e];exact g3,by rw[e];exact m⟩⟩,g⟩
def RU(F:au)(c:af):Prop:=∀m:dC,(∀d∈F,dP d m=true)->dP c m=true
end
structure Rc where
  id:Int
  side:Int
  lits:af
def Rc.sz(x:Rc):Nat:=3+x.lits.length
def bY:List Rc->af
 |[]=>[]
 |x::l=>x.id::x.lits.length::x.side::(x.lits++bY l)
def bs:Nat->List Rc->List Ro
 |_,[]=>[]
 |p,x::l=>if x.side=2 then bs (p+x.sz) l else⟨p,x.id,x.lits⟩::bs (p+x.sz) l
def fv(k:Int):Nat->List Rc->List Rc
 |_,[]=>[]
 |p,x::l=>(if(p:Int)=k then⟨x.id,2,x.lits⟩else x)::fv k (p+x.sz) l
theorem mg:∀(l l':List Rc),bY (l++l')=bY l++bY l'
 |[],_=>rfl
 |x::l,l'=>by show _::_::_::(x.lits++bY (l++l'))=_;rw[mg l l'];simp[bY]
theorem jp:∀(l l':List Rc)(p:Nat),bs p (l++l')=bs p l++bs (p+(bY l).length) l'
 |[],_,_=>rfl
 |x::l,l',p=>by
  have e:p+x.sz+(bY l).length=p+(bY (x::l)).length:=by simp[bY,Rc.sz];omega
  show(if x.side=2 then bs (p+x.sz) (l++l')else _::bs (p+x.sz) (l++l'))=(if x.side=2 then bs (p+x.sz) l else _::bs (p+x.sz) l)++_;rw[jp l l',e];split<;>rfl
theorem pj:∀(l:List Rc)(p:Nat)(y:Ro),y∈bs p l->∃a x b,l=a++x::b∧x.side≠2∧y=⟨((p+(bY a).length:Nat):Int),x.id,x.lits⟩
 |[],_,_,h=>by cases h
 |x::l,p,y,h=>by
  have key:y∈bs (p+x.sz) l->∃a d b,x::l=a++d::b∧d.side≠2∧y=⟨((p+(bY a).length:Nat):Int),d.id,d.lits⟩:=λh=>by
   obtain⟨a,d,b,e,hs,f⟩:=pj l _ y h;refine⟨x::a,d,b,by rw[e];rfl,hs,?_⟩;rw[f];have:p+x.sz+(bY a).length=p+(bY (x::a)).length:=by simp[bY,Rc.sz];omega
   rw[this]
  rw[bs]at h;by_cases c:x.side=2;rw[Vt c]at h;exact key h;rw[Vs c]at h;rcases VU.1 h with h|h;exact⟨[],x,l,rfl,c,h⟩;exact key h
theorem iX:∀(l:List Rc)(p:Nat)(y:Ro),y∈bs p l->(p:Int)<=y.at'∧y.at'+3+y.lits.length<=p+(bY l).length:=λl p y h=>by
 obtain⟨a,x,b,e,_,c⟩:=pj l p y h;rw[e,c,mg];simp[bY];omega
theorem Au:∀(l:List Rc)(p:Nat),(bs p l).Pairwise (λx y=>x.at'<y.at')
 |[],_=>List.Pairwise.nil
 |x::l,p=>by
  have a:=Au l (p+x.sz);rw[bs];split;exact a;refine XP.2 ⟨λy hy=>?_,a⟩;have:=(iX l _ y hy).1;unfold Rc.sz at this;show(p:Int)<y.at';omega
theorem CI:∀(l:List Rc)(p:Nat)(k:Int),(fv k p l).length=l.length∧(bY (fv k p l)).length=(bY l).length
 |[],_,_=>⟨rfl,rfl⟩
 |x::l,p,k=>by
  have a:=CI l (p+x.sz) k;refine⟨by simp[fv,a.1],?_⟩;rw[fv];split<;>simp[bY,a.2]
theorem Hr:∀(l:List Rc)(p:Nat)(k:Int),k<p->fv k p l=l
 |[],_,_,_=>rfl
 |x::l,p,k,h=>by rw[fv,Vs (by omega),Hr l _ k (by omega)]
theorem oE:∀(l:List Rc)(p:Nat)(k:Int),bs p (fv k p l)=(bs p l).filter λy=>decide (y.at'≠k)
 |[],_,_=>rfl
 |x::l,p,k=>by
  have a:=oE l (p+x.sz) k;by_cases c:(p:Int)=k;have hn:(bs (p+x.sz) l).filter (λy=>decide (y.at'≠k))=bs (p+x.sz) l:=by
   rw[WU];intro y hy;have:=(iX l _ y hy).1;unfold Rc.sz at this;simp;omega
  rw[fv,Vt c,bs,bs,Vt rfl];have e:(⟨x.id,2,x.lits⟩:Rc).sz=x.sz:=rfl;rw[e,a,hn];split;exact hn.symm;rw[Wl,Vs (by simp[c]),hn];rw[fv,Vs c,bs,bs,a];split;rfl;rw[Wl,Vt (by simp[c])]
theorem CJ:∀(a:List Rc)(x:Rc)(b:List Rc)(p:Nat),(bY (a++x::b)).set ((bY a).length+2) 2=bY (fv ((p+(bY a).length:Nat):Int) p (a++x::b))
 |[],x,b,p=>by
  show _=bY (fv _ p (x::b));rw[fv,Vt (by simp[bY]),Hr b _ _ (by simp[bY,Rc.sz];omega)];simp[bY]
 |y::a,x,b,p=>by
  have f:=CJ a x b (p+y.sz);have e:(bY (y::a)).length=y.sz+(bY a).length:=by simp[bY,Rc.sz];omega
  have c:p+(bY (y::a)).length=p+y.sz+(bY a).length:=by omega
  show(bY (y::(a++x::b))).set _ 2=bY (fv _ p (y::(a++x::b)));rw[fv,Vs (by unfold Rc.sz at e;omega),c];generalize fv (((p+y.sz+(bY a).length:Nat):Int)) (p+y.sz) (a++x::b)=D at*;have d:(bY (y::a)).length+2=(y.lits.length+((bY a).length+2))+3:=by unfold Rc.sz at e;omega
  rw[d,bY,bY,←f];simp only[List.set_cons_succ];rw[XG _ _ (by omega),XL]
structure ArI (A:Ar) (l:List Rc):Prop where
  row:A.row=bY l
  hd:∀k v,lk A.hd k=some v↔∃x∈bs 0 l,x.at'=k∧x.id=v
  nd:(A.hd.map (·.1)).Nodup
  id:∀x∈l,1<=x.id
section
variable {A : Ar} {l : List Rc}
theorem ArI.ids(h:ArI A l):∀x∈bs 0 l,1<=x.id:=λy hy=>by
 obtain⟨a,x,b,e,_,c⟩:=pj l 0 y hy;rw[c];exact h.id x (by rw[e];simp)
theorem ArI.isA(h:ArI A l)(k:Int):Go.AX.isA A k=true↔∃x∈bs 0 l,x.at'=k:=by
 unfold Go.AX.isA;rw[VI];constructor;intro hp;cases e:lk A.hd k with
 |none=>rw[e]at hp;simp at hp
 |some v=>
  obtain⟨x,hx,a,_⟩:=(h.hd k v).1 e;exact⟨x,hx,a⟩
 rintro⟨x,hx,a⟩;rw[(h.hd k x.id).2 ⟨x,hx,a,rfl⟩];have:=h.ids x hx;simp;omega
theorem uo(a:List Rc)(x:Rc)(b:List Rc):let r:=bY (a++x::b);let p:=(bY a).length
 r.getD p 0=x.id∧r.getD (p+1) 0=x.lits.length∧r.getD (p+2) 0=x.side∧(r.drop (p+3)).take x.lits.length=x.lits∧p+3+x.lits.length<=r.length:=by
 dsimp only;rw[mg];have e:∀j,(bY a++bY (x::b)).getD ((bY a).length+j) 0=(bY (x::b)).getD j 0:=λj=>by
  simp only[Vr];rw[VM (by omega)];congr 2;omega
 refine⟨?_,?_,?_,?_,?_⟩;exact(e 0).trans rfl;exact(e 1).trans rfl;exact(e 2).trans rfl;rw[ZG,Z8 (by omega),show(bY a).length+3 -(bY a).length=3 by omega];simp[bY];simp[bY];omega
theorem ArI.rel(h:ArI A l):RelA A ⟨bs 0 l,A.row.length⟩where
 size:=rfl
 rows:=λy hy=>by
  obtain⟨a,x,b,e,_,c⟩:=pj l 0 y hy;obtain⟨d,f,k,g,i⟩:=uo a x b;rw[←e,←h.row]at d f k g i;rw[Wr]at c;subst c;exact⟨(bY a).length,rfl,⟨i,f⟩,g,(h.isA _).2 ⟨_,hy,rfl⟩,d⟩
 is:=λq j=>(h.isA q).1 j
theorem ArI.new:ArI ⟨[],[]⟩ []:=⟨rfl,λk v=>by simp[lk,bs],by simp,by simp⟩
theorem ArI.put(h:ArI A l){id:Int}{c:af}(f:lp id c=0)(b:Bool):ArI (d7 A id c b) (l++[⟨id,gj b,c⟩]):=by
 have oL:1<=id:=by
  unfold lp at f;split at f;omega;omega
 have hs:gj b≠2:=by unfold gj;split<;>omega
 unfold d7;rw[Vt f];have g:bs 0 (l++[⟨id,gj b,c⟩])=bs 0 l++[⟨A.row.length,id,c⟩]:=by
  rw[jp,h.row,Wr];show bs 0 l++(if gj b=2 then _ else _)=_;rw[Vs hs];rfl
 refine⟨?_,λk v=>?_,?_,?_⟩;show A.row++_=_;rw[mg,h.row];simp[bY];show lk (pt A.hd A.row.length id) k=some v↔_;rw[cm,g];by_cases q:(A.row.length:Int)=k;rw[Vt q];constructor;intro e;cases e;exact⟨⟨A.row.length,id,c⟩,by simp,q,rfl⟩;rintro⟨x,hx,d,a⟩;rcases VF.1 hx with hx|hx;have:=(iX l 0 x hx).2;rw[h.row]at q;omega;simp at hx;subst hx;simp at a;rw[a];rw[Vs q,h.hd];constructor;rintro⟨x,hx,e⟩;exact⟨x,by simp[hx],e⟩;rintro⟨x,hx,d,a⟩;rcases VF.1 hx with hx|hx;exact⟨x,hx,d,a⟩;simp at hx;subst hx;exact absurd d q;exact gU _ _ _ h.nd;intro x hx;rcases VF.1 hx with hx|hx;exact h.id x hx;simp at hx;subst hx;exact oL
theorem ArI.drop(h:ArI A l){k:Int}(hk:Go.AX.isA A k=true):ArI (tV A k) (fv k 0 l):=by
 obtain⟨y,hy,c⟩:=(h.isA k).1 hk;obtain⟨a,x,b,e,hs,g⟩:=pj l 0 y hy;have d:k=(((bY a).length:Nat):Int):=by rw[←c,g];simp
 have i:Ct A k=0:=by
  unfold Ct;unfold Go.AX.isA at hk;rw[VI]at hk;rw[Vs (by omega)]
 unfold tV;rw[Vt i];refine⟨?_,λj v=>?_,?_,?_⟩;show A.row.set (k.toNat+2) 2=_;have:=CJ a x b 0;rw[Wr,←d,←e]at this;rw[h.row,←this];congr 1;omega;show lk (dl A.hd k) j=some v↔_;rw[qH h.nd,oE];by_cases q:j=k;rw[Vt q];constructor;intro e;cases e;rintro⟨x,hx,c,_⟩;have:=(V9.1 hx).2;simp[c,q]at this;rw[Vs q,h.hd];constructor;rintro⟨x,hx,c,f⟩;exact⟨x,V9.2 ⟨hx,by simp[c,q]⟩,c,f⟩;rintro⟨x,hx,e⟩;exact⟨x,(V9.1 hx).1,e⟩;exact G9 h.nd k;have:∀(l:List Rc)(p:Nat),(∀x∈l,1<=x.id)->∀x∈fv k p l,1<=x.id:=by
  intro l
  induction l with
  |nil=>intro p _ x hx;cases hx
  |cons z l m=>
   intro p hz x hx;rw[fv]at hx;rcases VU.1 hx with hx|hx;rw[hx];split<;>exact hz z (by simp);exact m _ (λx hx=>hz x (VG _ hx)) x hx
 exact this l 0 h.id
theorem ArI.at(h:ArI A l){y:Ro}(hy:y∈bs 0 l):aJ A y.at'=y.lits∧iv A y.at'=y.id:=by
 obtain⟨p,b,c,d,a,e⟩:=h.rel.rows y hy;rw[b];unfold aJ iv;rw[Vt a,Vt a,WH,c.num,WH,d,e];exact⟨rfl,rfl⟩
end
end Go.AX
