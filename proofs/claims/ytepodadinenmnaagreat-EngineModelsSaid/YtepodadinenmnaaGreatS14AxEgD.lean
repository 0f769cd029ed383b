/-
  Engines: how they lie in memory, told as plain data.
  Engines: what always holds of their trails (plain law).
  Contracts: engines: what only asks, and Propagate.
  Contracts: engines: numbers of clauses, better variables, a level gone back to, a clause added.
-/
import Derived.Test.YtepodadinenmnaaGreatS14AxVaA
import Derived.Test.YtepodadinenmnaaGreatS14AxHpG
import Derived.Test.YtepodadinenmnaaGreatS14AxRnX
import Derived.Test.YtepodadinenmnaaGreatS14AxEvC
namespace Go.AX
open Go.Proofs
set_option linter.unusedSimpArgs false
structure ES where
  T:Tr
  A:Ar
  S:WS
  q:HS
  vars:Int
  cs:List (List Int)
  ph:List Bool
  keep:Int
  decay:Int
  inc:Int
  id:Int
  con:Int
  calm:Bool
  many:Int
  over:Bool
  pf:List Stp
  gl:List (Int×Int)
def bQ(bt ba bw bh:Nat)(E:ES):List SV:=[.pv (.ptr bt 0),.pv (ae E.vars),.pv (.seq false 1 (E.cs.map an)),.pv (.ptr ba 0),.pv (.ptr bw 0),.pv (.ptr bh 0),.own true 1 (cM E.ph),.pv (ae E.keep),.pv (ae E.decay),.pv (ae E.inc),.pv (ae E.id),.pv (ae E.con),.pv (BL E.calm),.pv (ae E.many),.pv (BL E.over),.own true 4 (E.pf.map gD),.omap true (a8 fI E.gl)]
structure LayE (h:List (List SV)) (be bt ba bw bh:Nat) (mp:List (Int×Nat)) (mb:List (Int×By)) (E:ES):Prop where
  w:LayW h bw ba bt mp mb E.A E.T E.S
  e:h[be]?=some (bQ bt ba bw bh E)
  q:h[bh]?=some (au E.q)
  ne:be≠bh
  eo:¬aU bw bt mp mb be∧be≠ba
  ho:¬aU bw bt mp mb bh∧bh≠ba
def df(be bt ba bw bh:Nat)(mp:List (Int×Nat))(mb:List (Int×By))(b:Nat):Prop:=b=be∨b=bh∨b=ba∨aU bw bt mp mb b
section
variable {h h' : List (List SV)} {be bt ba bw bh : Nat} {mp mp' : List (Int × Nat)} {mb mb' : List (Int × By)} {E : ES}
theorem LayW.setA{A:Ar}{T:Tr}{S:WS}(L:LayW h bw ba bt mp mb A T S)(f:Ar):LayW (h.set ba (mD f)) bw ba bt mp mb f T S where
 w:=(RY L.wa.symm).trans L.w
 a:=Su (RE.1 L.a).1
 t:=(RY L.at').trans L.t
 wa:=L.wa
 wt:=L.wt
 at':=L.at'
 keys:=L.keys
 pr:=λk b i=>by
  obtain⟨p,h1,d,c⟩:=L.pr k b i;exact⟨p,h1,(RY c.2.1.symm).trans d,c⟩
 pinj:=L.pinj
 by':=λl e j=>by
  obtain⟨zs,h1,⟨sp,d,c⟩,g⟩:=L.by' l e j
  exact⟨zs,h1,⟨sp,(RY g.2.1.symm).trans d,c⟩,g⟩
 byn:=L.byn
 binj:=L.binj
 pb:=L.pb
theorem LayE.lt(L:LayE h be bt ba bw bh mp mb E):be<h.length∧bh<h.length:=⟨(RE.1 L.e).1,(RE.1 L.q).1⟩
theorem LayE.watch(L:LayE h be bt ba bw bh mp mb E){T:Tr}{S:WS}(W:LayW h' bw ba bt mp' mb' E.A T S)(X:Ext h h' (aU bw bt mp mb) (aU bw bt mp' mb')):LayE h' be bt ba bw bh mp' mb' {E with T:=T,S:=S}where
 w:=W
 e:=(X.same _ L.lt.1 L.eo.1).trans L.e
 q:=(X.same _ L.lt.2 L.ho.1).trans L.q
 ne:=L.ne
 eo:=⟨λd=>L.eo.1 (X.sub _ L.lt.1 d),L.eo.2⟩
 ho:=⟨λd=>L.ho.1 (X.sub _ L.lt.2 d),L.ho.2⟩
theorem LayE.trail(L:LayE h be bt ba bw bh mp mb E)(T:Tr):LayE (h.set bt (gv T)) be bt ba bw bh mp mb {E with T:=T}:=
 L.watch (L.w.setT T) (Ext.set bt _ (.inr (.inl rfl)))
theorem LayE.arena(L:LayE h be bt ba bw bh mp mb E)(A:Ar):LayE (h.set ba (mD A)) be bt ba bw bh mp mb {E with A:=A}where
 w:=L.w.setA A
 e:=(RY L.eo.2.symm).trans L.e
 q:=(RY L.ho.2.symm).trans L.q
 ne:=L.ne
 eo:=L.eo
 ho:=L.ho
theorem LayE.heap(L:LayE h be bt ba bw bh mp mb E)(q:HS):LayE (h.set bh (au q)) be bt ba bw bh mp mb {E with q:=q}where
 w:=L.w.other bh (au q) L.ho.1 L.ho.2
 e:=(RY L.ne.symm).trans L.e
 q:=Su L.lt.2
 ne:=L.ne
 eo:=L.eo
 ho:=L.ho
theorem LayE.eng(L:LayE h be bt ba bw bh mp mb E)(a:ES)(d:a.T=E.T)(b:a.A=E.A)(c:a.S=E.S)(f:a.q=E.q):LayE (h.set be (bQ bt ba bw bh a)) be bt ba bw bh mp mb a where
 w:=by
  rw[d,b,c];exact L.w.other be _ L.eo.1 L.eo.2
 e:=Su L.lt.1
 q:=by rw[f];exact(RY L.ne).trans L.q
 ne:=L.ne
 eo:=L.eo
 ho:=L.ho
theorem Ext.eng(X:Ext h h' (aU bw bt mp mb) (aU bw bt mp' mb')):Ext h h' (df be bt ba bw bh mp mb) (df be bt ba bw bh mp' mb')where
 len:=X.len
 same:=λb a hn=>X.same b a λd=>hn (.inr (.inr (.inr d)))
 sub:=λb a d=>d.imp id (Or.imp id (Or.imp id (X.sub b a)))
end
def Cv(T:Tr)(l:Int):En:=⟨l,(bJ T (ah l)).lev,(bJ T (ah l)).rea⟩
def fV(T:Tr):RT:=⟨(T.marks.length:Int) -1,T.lits.map (Cv T),T.beg.length⟩
theorem D8(beg:List Int)(i:Nat):0<=mM beg i∧mM beg i<=beg.length:=by
 unfold mM;have:=Ta (λb=>decide (b<=(i:Int))) beg;omega
theorem D9{beg:List Int}(h:beg.Pairwise (·<·)){k:Nat}(hk:k<beg.length)(i:Nat):mM beg i<=k↔(i:Int)<beg[k]:=by
 have hp:=Sl.1 h;have key:∀n,n<=beg.length->(((beg.take n).filter λb=>decide (b<=(i:Int))).length=n∨∃j,∃hj:j<beg.length,j<n∧(i:Int)<beg[j]):=by
  intro n hn
  by_cases c:∃j,∃hj:j<beg.length,j<n∧(i:Int)<beg[j]
  .exact .inr c
  .left;rw[TG.2,RN]
   .omega
   .intro b a;obtain⟨j,hj,rfl⟩:=SS.1 a;have:¬(i:Int)<beg[j]:=λq=>c ⟨j,by omega,by omega,q⟩;simp;omega
 unfold mM;constructor
 .intro f;rcases key (k+1) (by omega)with e|⟨j,hj,d,e⟩
  .have:=(UM (k+1) beg).filter (λb=>decide (b<=(i:Int)));have:=this.length_le;omega
  .by_cases q:j=k
   .subst q;exact e
   .have:=hp j k hj hk (by omega);omega
 .intro hi;have e:beg.filter (λb=>decide (b<=(i:Int)))=(beg.take k).filter (λb=>decide (b<=(i:Int))):=by
   conv=>lhs;rw[←SI k beg,S5]
   have:(beg.drop k).filter (λb=>decide (b<=(i:Int)))=[]:=by
    rw[Tz];intro b a;obtain⟨j,hj,rfl⟩:=Um.1 a
    by_cases q:j=0
    .subst q;simp;omega
    .have:=hp k (k+j) hk (by omega) (by omega);simp;omega
   rw[this,Tc]
  rw[e];have:=Ta (λb=>decide (b<=(i:Int))) (beg.take k);rw[RN]at this;omega
section
variable {n : Nat} {T : Tr}
theorem TOk.rows(h:TOk n T){i:Nat}(hi:i<(fV T).rows.length):∃a:i<T.lits.length,(fV T).rows[i]=⟨T.lits[i],mM T.beg i,(bJ T (ah T.lits[i])).rea⟩:=by
 have a:i<T.lits.length:=by simpa[fV]using hi
 refine⟨a,?_⟩;have:(fV T).rows[i]=Cv T T.lits[i]:=by simp only[fV,VB]
 rw[this];unfold Cv;rw[(h.mark i a).2.1]
theorem TOk.deep(h:TOk n T):T.beg.length<=T.lits.length:=by
 have h1:(T.beg.map Int.toNat).Nodup:=by
  refine Tu.2 (h.rise.imp_of_mem ?_);intro a b d c f e;have:=h.bnd a d;have:=h.bnd b c;omega
 have:=cZ (T.beg.map Int.toNat) (List.range T.lits.length) h1 λx hx=>by
  obtain⟨b,c,rfl⟩:=RO.1 hx;have:=h.bnd b c;rw[SY];omega
 simpa using this
theorem TOk.rel(h:TOk n T):V.RelD T (fV T):=by
 have c:=h.vars;have hn:=h.hn;have hin:∀x∈(fV T).rows,∃i,∃hi:i<T.lits.length,x=⟨T.lits[i],mM T.beg i,(bJ T (ah T.lits[i])).rea⟩:=λx hx=>by
  obtain⟨i,hi,rfl⟩:=RU hx;obtain⟨a,e⟩:=h.rows hi;exact⟨i,a,e⟩
 refine⟨⟨?_,?_,?_,rfl,?_,?_,?_,?_⟩,?_⟩
 .show 0<=(T.marks.length:Int) -1∧(T.marks.length:Int) -1<=100000;omega
 .show(T.marks.length:Int)=(T.marks.length:Int) -1+1;omega
 .show T.lits=(T.lits.map (Cv T)).map (·.l);simp[SJ,Uz,Cv]
 .intro x hx;obtain⟨i,hi,rfl⟩:=hin x hx;show ax T.lits[i] ((T.marks.length:Int) -1)=0;rw[c];exact h.chk _ (RK hi)
 .intro x hx;obtain⟨i,hi,rfl⟩:=hin x hx;exact⟨V.okL_chk (v:=n) (by omega) (h.chk _ (RK hi)),D8 _ _⟩
 .intro v c;refine h.free v λg=>?_;obtain⟨x,hx,e⟩:=RO.1 g;exact xg c (Cv T x) (TI hx) e
 .intro v i hi e;obtain⟨j,hj,p,d⟩:=lm (t:=fV T) (v:=v) (by omega);have:j=i:=by omega
  subst this;obtain⟨b,f⟩:=h.rows hj;rw[f]at d⊢;obtain⟨k,m,o⟩:=h.mark j b;subst d;show bJ T (ah T.lits[j])=⟨zQ T.lits[j],mM T.beg j,(bJ T (ah T.lits[j])).rea,j⟩;rw[←k,←m,←o]
 .show T.beg.length<=(T.lits.map (Cv T)).length;rw[RR];exact h.deep
theorem TOk.mayR(h:TOk n T){l:Int}(f:fE T l=0):Go.AX.mayR (fV T) l=0:=by
 obtain⟨b,g,j⟩:=(h.may l).1 f;have hp:qf (fV T) (ah l)<0:=by
  refine Int.lt_of_not_ge λc=>?_;obtain⟨i,hi,_,e⟩:=lm c;obtain⟨a,d⟩:=h.rows hi;rw[d]at e;rcases(pG h.hn (h.chk _ (RK a)) b).1 e with q|q
  .exact g (q▸RK a)
  .exact j (q▸RK a)
 unfold Go.AX.mayR;have:(fV T).vars=n:=h.vars;rw[this,RH (by simp[b]),RH (by omega)]
theorem xJ(h:TMk n T){l:Int}(f:fE T l=0)(rea:Int):fV (gy T l rea)=⟨(fV T).vars,(fV T).rows++[⟨l,T.beg.length,rea⟩],T.beg.length⟩:=by
 obtain⟨b,j,k⟩:=(h.may l).1 f;obtain⟨_,_,_,c,m,_⟩:=bA h.hn b;have a:ah l<T.marks.length:=by rw[h.len];omega
 have g:(T.lits++[l]).map (Cv (gy T l rea))=T.lits.map (Cv T)++[⟨l,T.beg.length,rea⟩]:=by
  rw[Sb];congr 1
  .refine TW λx hx=>?_;unfold Cv;have i:=(bA h.hn (h.chk x hx)).2.2.2.1;rw[ka T l rea c a _ (by omega),RH];intro e;rcases(pG h.hn (h.chk x hx) b).1 e with q|q
   .exact j (q▸hx)
   .exact k (q▸hx)
  .simp only[R4,Ua];unfold Cv;rw[ka T l rea c a _ (by omega),RI rfl]
 have d:(gy T l rea).marks.length=T.marks.length:=by simp[gy]
 unfold fV;rw[d];exact Ul (λr=>(⟨(T.marks.length:Int) -1,r,T.beg.length⟩:RT)) g
theorem Ea(h:TOk n T):∀j,j<=T.lits.length->∀i (hi:i<T.lits.length),i<T.lits.length -j->bJ (popN T j) (ah T.lits[i])=bJ T (ah T.lits[i])
 |0,_,_,_,_=>rfl
 |j+1,hj,i,hi,d=>by
  have f:=Ea h j (by omega) i hi (by omega);rw[←f,popN];have c:(popN T j).lits.length=T.lits.length -j:=by rw[eh,RN];omega
  have b:T.lits.length -j -1<T.lits.length:=by omega
  have a:(popN T j).lits.getD ((popN T j).lits.length -1) 0=T.lits[T.lits.length -j -1]:=by
   rw[c,eh,RG,SM,RI (by omega),RF b];rfl
  unfold bJ lE;rw[a];simp only[RG,Sf];have g:=(bA h.hn (h.chk _ (RK hi))).2.2.2.1;have k:=(bA h.hn (h.chk _ (RK b))).2.2.2.1;rw[RH];intro e;have:=h.inj b hi (by omega);omega
theorem Af(h:TOk n T){k:Nat}(hk:k<T.beg.length):fV (bz T k)=⟨(fV T).vars,(fV T).rows.take (T.beg[k]).toNat,k⟩:=by
 obtain⟨f,j,g⟩:=h.back hk;have a:T.beg.getD k 0=T.beg[k]:=by rw[RG,RF hk];rfl
 obtain⟨b1,b2⟩:=h.bnd _ (RK hk);have c:(bz T k).marks.length=T.marks.length:=by rw[f.len,h.len]
 have d:(bz T k).lits.map (Cv (bz T k))=(T.lits.map (Cv T)).take (T.beg[k]).toNat:=by
  rw[j,←TR];refine TW λx hx=>?_;obtain⟨i,hi,rfl⟩:=SS.1 hx;have b:i<T.lits.length:=by omega
  have l:bJ (bz T k) (ah T.lits[i])=bJ T (ah T.lits[i]):=by
   have e:bJ (bz T k) (ah T.lits[i])=bJ (popN T (T.lits.length -(T.beg[k]).toNat)) (ah T.lits[i]):=by unfold bJ bz;rw[a]
   rw[e];exact Ea h _ (by omega) i b (by omega)
  unfold Cv;rw[l]
 unfold fV;rw[c,d,g,RN,Tn (by omega)]
end
structure EF (cs:List (List Int)) (ats:List Int) (t:RT):Prop extends V.TraF cs ats t where
  clm:∀k:Int,0<k->k<=t.dep->Calm cs (bel t k)
def Cw(ls c:List Int):Prop:=(∃x∈c,x∈ls)∨∃x y,x∈c∧y∈c∧x≠y∧-x∉ls∧-y∉ls
theorem xK{cs:List (List Int)}{ls:List Int}(m:∀c∈cs,c.length<=1000∧∀y∈c,cF y=true)(one:∀y,cF y=true->¬(y∈ls∧-y∈ls))(h:∀c∈cs,Cw ls c):Calm cs ls:=by
 intro c g;obtain⟨o,d⟩:=m c g;have i:∀y∈c,bH ls y=-1->-y∈ls:=λy hy e=>by
  have:=xf e
  rwa [(V.litO (d y hy)).2.2.2.2]at this
 have key:∀b,(b∈c->bH ls b≠-1->bH ls b=0)->¬∀y∈c,y≠b->bH ls y=-1:=λb h0 a=>by
  rcases h c g with⟨x,hx,e⟩|⟨x,y,hx,hy,f,j,k⟩
  .have n:bH ls x=1:=by
    unfold bH;rw[RH (by have:=(V.litO (d x hx)).2.2.2.1;omega),RI e]
   by_cases q:x=b
   .subst q;have:=h0 hx (by omega);omega
   .have:=a x hx q;omega
  .by_cases q:x=b
   .exact k (i y hy (a y hy (λe=>f (q.trans e.symm))))
   .exact j (i x hx (a x hx q))
 refine⟨?_,λe=>?_⟩
 .rw[←Uu];intro e;obtain⟨s,p,r⟩:=DA (l:=ls) o (λy hy=>(V.litO (d y hy)).2.2.2.1) e;exact key _ (λ_ _=>p) r
 .rw[mE]at e;exact key 0 (λhx _=>absurd rfl (V.litO (d 0 hx)).1) λy hy _=>e y hy (V.litO (d y hy)).2.2.2.1
section
variable {cs : List (List Int)} {ats : List Int} {t : RT}
theorem EF.new(v:Int):EF cs ats ⟨v,[],0⟩:=
 ⟨⟨by simp,by simp,by simp,by simp,λi j hi=>by simp at hi,λi hi=>by simp at hi,λh=>by simp at h,λk h1 a=>by simp at a;omega,λi hi=>by simp at hi⟩,λk h1 a=>by simp at a;omega⟩
theorem EF.app(h:EF cs ats t)(M:0<=t.vars∧t.vars<=100000){x:En}(hx:mayR t x.l=0){d:Int}(hd:x.lev=d)(L:t.dep<=d)(K:d<=t.dep+1)
 (r:x.rea<0->d=t.dep+1) (G:0<=x.rea->d=t.dep) (w:d=t.dep+1->Calm cs (dR t))
 (s:d=t.dep+1->x.rea<0)
 (C : 0 <= x.rea -> ∃ k, ∃ hk : k < cs.length, x.rea = ats.getD k 0 ∧ x.l ∈ cs[k] ∧ (∀ y ∈ cs[k], y ≠ x.l -> ∃ j, ∃ hj : j < t.rows.length, t.rows[j].l = -y) ∧
  (0<x.lev->∃y∈cs[k],y≠x.l∧∃j,∃hj:j<t.rows.length,t.rows[j].l=-y∧t.rows[j].lev=x.lev)):
 EF cs ats ⟨t.vars,t.rows++[x],d⟩:=by
 obtain⟨F,N⟩:=HX hx;have F:=V.okL_chk M F;have H:(t.rows++[x]).length=t.rows.length+1:=by simp
 have o:∀k:Int,0<k->k<=d->Calm cs (bel ⟨t.vars,t.rows++[x],d⟩ k):=by
  intro k D v;have z:bel ⟨t.vars,t.rows++[x],d⟩ k=bel t k:=by
   unfold bel;dsimp only;rw[S5];have:List.filter (λx:En=>decide (x.lev<k)) [x]=[]:=by simp;omega
   rw[this,Tc]
  rw[z]
  by_cases c:k<=t.dep
  .exact h.clm k D c
  .have:k=t.dep+1:=by omega
   rw[this,K5 (λx hx=>(h.lev x hx).2)];exact w (by omega)
 refine⟨⟨by have:=h.dep;dsimp only;omega,?_,?_,?_,?_,?_,λh0=>o d h0 (T8 _),?_,?_⟩,o⟩
 .intro y hy;rcases RS.1 hy with hy|hy
  .exact h.chk y hy
  .simp at hy;subst hy;exact F
 .dsimp only;rw[Sb,UA];refine⟨h.nd,by simp,?_⟩;intro a I b z e;obtain⟨y,hy,rfl⟩:=RO.1 I;simp at z;exact xg N y hy (e.trans z)
 .intro y hy;rcases RS.1 hy with hy|hy
  .have:=h.lev y hy;dsimp only;omega
  .simp at hy;subst hy;have:=h.dep;dsimp only;omega
 .intro i j hi hj n;dsimp only at hi hj⊢;rcases iP hj with⟨u,e⟩|⟨u,e⟩
  .rcases iP hi with⟨f,e'⟩|⟨f,e'⟩
   .rw[e,e'];exact h.mono i j f u n
   .omega
  .rcases iP hi with⟨f,e'⟩|⟨f,e'⟩
   .rw[e,e',hd];have:=(h.lev _ (RK f)).2;omega
   .omega
 .intro i hi m;dsimp only at hi m⊢;rcases iP hi with⟨f,e'⟩|⟨f,e'⟩
  .rw[e']at m⊢;obtain⟨q,g2⟩:=h.dec i f m;refine⟨q,λj hj n=>?_⟩;rw[SE (by omega)];exact g2 j (by omega) n
  .rw[e']at m⊢;have J:=r m;refine⟨by have:=h.dep;omega,λj hj n=>?_⟩;rw[SE (by omega)];have:=(h.lev _ (RK (show j<t.rows.length by omega))).2;omega
 .intro k hk v;dsimp only at v⊢
  by_cases c:k<=t.dep
  .obtain⟨y,hy,e⟩:=h.fst k hk c;exact⟨y,SX _ hy,e⟩
  .exact⟨x,by simp,by omega,s (by omega)⟩
 .intro i hi m;dsimp only at hi m⊢;rcases iP hi with⟨f,e'⟩|⟨f,e'⟩
  .rw[e']at m⊢;obtain⟨k,hk,q,g2,g3,B⟩:=h.imp i f m;refine⟨k,hk,q,g2,λy hy g=>?_,λE=>?_⟩
   .obtain⟨j,hj,p,e⟩:=g3 y hy g;exact⟨j,by omega,p,by rw[SE hj];exact e⟩
   .obtain⟨y,hy,g,j,hj,p,e,A⟩:=B E;exact⟨y,hy,g,j,by omega,p,by rw[SE hj];exact e,by rw[SE hj];exact A⟩
  .rw[e']at m⊢;obtain⟨k,hk,q,g2,g3,B⟩:=C m;refine⟨k,hk,q,g2,λy hy g=>?_,λE=>?_⟩
   .obtain⟨j,hj,e⟩:=g3 y hy g;exact⟨j,by omega,by omega,by rw[SE hj];exact e⟩
   .obtain⟨y,hy,g,j,hj,e,A⟩:=B E;exact⟨y,hy,g,j,by omega,by omega,by rw[SE hj];exact e,by rw[SE hj];exact A⟩
theorem EF.unit(h:EF cs ats t)(p:V.ClsN cs ats)(F:0<=t.vars∧t.vars<=100000){k:Nat}(hk:k<cs.length){x:Int}(A:x∈cs[k])(C:mayR t x=0)(ho:∀y∈cs[k],y≠x->-y∈dR t):EF cs ats ⟨t.vars,t.rows++[⟨x,t.dep,ats.getD k 0⟩],t.dep⟩:=by
 have b:=RK hk;have f:=p.chk _ b;have hp:=p.pos k hk;have m:∀y∈cs[k],y≠x->∃j,∃hj:j<t.rows.length,t.rows[j].l=-y:=λy hy i=>by
  obtain⟨a,q,e⟩:=RO.1 (ho y hy i);obtain⟨j,hj,rfl⟩:=RU q;exact⟨j,hj,e⟩
 refine h.app F (x:=⟨x,t.dep,ats.getD k 0⟩) C rfl (by omega) (by omega) (λh=>by dsimp only at h;omega) (λ_=>rfl) (λh=>by omega) (λh=>by omega) (λ_=>⟨k,hk,rfl,A,m,λB=>?_⟩);dsimp only at B⊢;apply R6;intro s;have d:=h.top B _ b;have o:=f x A;obtain⟨H,_,_,w,_⟩:=V.litO o;obtain⟨_,G⟩:=HX C;have g:∀z∈dR t,ah z≠ah x:=λz hz=>by
  obtain⟨a,q,rfl⟩:=RO.1 hz;exact xg G a q
 have u:bH (bel t t.dep) x=0:=by
  unfold bH;rw[RH (by omega),RH (λe=>g x (jx _ e) rfl),RH (λe=>g _ (jx _ e) (by rw[(V.litO o).2.2.2.2,dJ]))]
 have v:∀y∈cs[k],y≠x->bH (bel t t.dep) y=-1:=λy hy i=>by
  obtain⟨j,hj,e⟩:=m y hy i;have E:=(h.lev _ (RK hj)).2;have r:t.rows[j].lev<t.dep:=by
   rcases Vm t.rows[j].lev t.dep with c|c
   .exact c
   .exact absurd ⟨y,hy,i,j,hj,e,by omega⟩ s
  have n:-y∈bel t t.dep:=by
   unfold bel;rw[RO];exact⟨t.rows[j],SD.2 ⟨RK hj,by simpa using r⟩,e⟩
  exact V.val3_m1_of (f y hy) n (λD=>h.one (f y hy) ⟨jx _ D,jx _ n⟩)
 have:=unit_of (p.len _ b) (p.nd _ b) A w u v;rw[this]at d;exact absurd d.1 (by simp)
theorem EF.back(h:EF cs ats t){m:Nat}{k:Int}(v:0<=k)(hk:k<t.dep)(z:∀i (hi:i<t.rows.length),i<m↔t.rows[i].lev<=k):EF cs ats ⟨t.vars,t.rows.take m,k⟩:=by
 have p:∀x∈t.rows.take m,x∈t.rows:=λx hx=>Sx hx;have b:∀{i},i<(t.rows.take m).length->i<m∧i<t.rows.length:=λhi=>by rw[RN]at hi;omega
 have hin:∀{j},(hj:j<t.rows.length)->t.rows[j].lev<=k->∃F:j<(t.rows.take m).length,(t.rows.take m)[j]=t.rows[j]:=λ{j} hj w=>by
  have:=(z j hj).2 w;exact⟨by rw[RN];omega,S7⟩
 have c:∀j:Int,0<j->j<=k->Calm cs (bel ⟨t.vars,t.rows.take m,k⟩ j):=by
  intro j f o;have E:bel ⟨t.vars,t.rows.take m,k⟩ j=bel t j:=by
   unfold bel;dsimp only
   conv=>rhs;rw[←SI m t.rows,S5]
   have:(t.rows.drop m).filter (λx:En=>decide (x.lev<j))=[]:=by
    rw[Tz];intro x hx;obtain⟨i,hi,rfl⟩:=Um.1 hx;have:=z (m+i) (by omega);simp;omega
   rw[this,Tc]
  rw[E];exact h.clm j f (by omega)
 refine⟨⟨v,λx hx=>h.chk x (p x hx),?_,?_,?_,?_,λh0=>c k h0 (T8 _),?_,?_⟩,c⟩
 .exact h.nd.sublist ((UM m t.rows).map _)
 .intro x hx;obtain⟨i,hi,rfl⟩:=RU hx;obtain⟨A,r⟩:=b hi;have e:(t.rows.take m)[i]=t.rows[i]:=S7;dsimp only at e⊢;rw[e];exact⟨(h.lev _ (RK r)).1,(z i r).1 A⟩
 .intro i j hi hj d;dsimp only at hi hj⊢;rw[S7,S7];exact h.mono i j (b hi).2 (b hj).2 d
 .intro i hi n;dsimp only at hi n⊢;rw[S7]at n⊢;obtain⟨u,g2⟩:=h.dec i (b hi).2 n;refine⟨u,λj hj d=>?_⟩;rw[S7];exact g2 j (b hj).2 d
 .intro j f o;dsimp only at o⊢;obtain⟨x,hx,B,s⟩:=h.fst j f (by omega);obtain⟨i,hi,rfl⟩:=RU hx;obtain⟨q,e⟩:=hin hi (by omega);exact⟨_,RK q,by rw[e];exact B,by rw[e];exact s⟩
 .intro i hi n;dsimp only at hi n⊢;rw[S7]at n⊢;obtain⟨A,r⟩:=b hi;obtain⟨a,D,u,g2,g3,C⟩:=h.imp i r n;refine⟨a,D,u,g2,λy hy l=>?_,λw=>?_⟩
  .obtain⟨j,hj,g,e⟩:=g3 y hy l;exact⟨j,by rw[RN];omega,g,by rw[S7];exact e⟩
  .obtain⟨y,hy,l,j,hj,g,e,s⟩:=C w;exact⟨y,hy,l,j,by rw[RN];omega,g,by rw[S7];exact e,by rw[S7];exact s⟩
theorem EF.cls{a:List (List Int)}{b:List Int}(h:EF cs ats t)(g:∀k:Int,0<k->k<=t.dep->Calm a (bel t k))
 (n:∀i (hi:i<t.rows.length),0<=t.rows[i].rea->∀k (hk:k<cs.length),t.rows[i].rea=ats.getD k 0->t.rows[i].l∈cs[k]->∃k',∃c:k'<a.length,b.getD k' 0=ats.getD k 0∧a[k']=cs[k]):EF a b t:=
 ⟨⟨h.dep,h.chk,h.nd,h.lev,h.mono,h.dec,λh0=>g _ h0 (T8 _),h.fst,λi hi d=>by
  obtain⟨k,hk,f,g2,g3,m⟩:=h.imp i hi d;obtain⟨k',c,j,e⟩:=n i hi d k hk f g2;exact⟨k',c,f.trans j.symm,by rw[e];exact g2,by rw[e];exact g3,by rw[e];exact m⟩⟩,g⟩
def Oa(F:List (List Int))(c:List Int):Prop:=∀m:List Bool,(∀d∈F,cO d m=true)->cO c m=true
theorem EF.zero(h:EF cs ats t)(o:V.ClsN cs ats){F:List (List Int)}(d:∀c∈cs,Oa F c):∀(n i:Nat)(hi:i<t.rows.length),i<n->t.rows[i].lev<=0->Oa F [t.rows[i].l]
 |0,_,_,hn,_=>absurd hn (by omega)
 |n+1,i,hi,hn,u=>by
  by_cases s:t.rows[i].rea<0
  .have:=(h.dec i hi s).1;omega
  obtain⟨k,hk,_,_,g3,_⟩:=h.imp i hi (by omega);intro m f;have p:=d _ (RK hk) m f;obtain⟨y,hy,e⟩:=Tm.1 p
  by_cases q:y=t.rows[i].l
  .subst q;show List.any [t.rows[i].l] (gY m)=true;simp[e]
  .obtain⟨j,hj,b,g⟩:=g3 y hy q;have r:=h.mono j i hj hi b;have a:=h.zero o d n j hj (by omega) (by omega) m f;rw[g]at a;have a:gY m (-y)=true:=by
    have a:List.any [-y] (gY m)=true:=a;simpa using a
   rw[Ab e]at a;cases a
end
section
variable {h : List (List SV)} {be bt ba bw bh : Nat} {mp : List (Int × Nat)} {mb : List (Int × By)} {E : ES}
theorem dM(c:h[be]?=some (bQ bt ba bw bh E)):aB Tryz.prog 55 [.ptr be 0] h (λr h'=>h'=h∧r=.pv (BL true)):=by
 refine fD [] [.tmp 2] aE Tryz.func55 ?_;obtain⟨b,a⟩:=RE.1 c;simp[a,b,bQ]
theorem vX:am Tryz.prog 55 [.lit (.pointer none)] (λr=>r=.pv (BL false)):=by
 refine aq aE Tryz.func55 ?_;simp
theorem fg(c:h[be]?=some (bQ bt ba bw bh E)):aB Tryz.prog 17 [.ptr be 0] h (λr h'=>h'=h∧r=.pv (BL E.over)):=by
 refine fD [] [.tmp 2] aE Tryz.func17 ?_;obtain⟨b,a⟩:=RE.1 c;simp;refine aj.intro (dM c) ?_;rintro _ _ ⟨rfl,rfl⟩;simp[a,b,bQ]
theorem nj(c:h[be]?=some (bQ bt ba bw bh E)):aB Tryz.prog 45 [.ptr be 0] h (λr h'=>h'=h∧r=.pv (ae E.many)):=by
 refine fD [] [.tmp 2] aE Tryz.func45 ?_;obtain⟨b,a⟩:=RE.1 c;simp;refine aj.intro (dM c) ?_;rintro _ _ ⟨rfl,rfl⟩;simp[a,b,bQ]
theorem gG(L:LayE h be bt ba bw bh mp mb E):aB Tryz.prog 47 [.ptr be 0] h (λr h'=>h'=h∧r=.pv (ae E.T.beg.length)):=by
 refine fD [] [.tmp 2] aE Tryz.func47 ?_;obtain⟨b,a⟩:=RE.1 L.e;have hz:=cI L.w.t 2;have ht:=(RE.1 L.w.t).1;have c:=jX E.T;simp;refine aj.intro (dM L.e) ?_;rintro _ _ ⟨rfl,rfl⟩;simp[a,b,bQ,hz];refine aj.introP c ?_ (by simp[ht]) (by simp);simp
theorem fh(L:LayE h be bt ba bw bh mp mb E)(c:E.T.lits.length<=1000000):aB Tryz.prog 16 [.ptr be 0] h (λr h'=>h'=h∧r=.pv (.seq true 1 (aa E.T.lits))):=by
 refine dV [] [.tmp 2] aE Tryz.func16 ?_;obtain⟨b,a⟩:=RE.1 L.e;have hz:=cI L.w.t 2;have ht:=(RE.1 L.w.t).1;have d:=ft E.T c;simp;refine aj.intro (dM L.e) ?_;rintro _ _ ⟨rfl,rfl⟩;simp[a,b,bQ,hz];refine aj.introP d ?_ (by simp[ht]) (by simp);simp[bu,bd]
def aP(E:ES):ES:=if E.over=true then E else{E with S:=(dC E.S E.T).1,T:=(dC E.S E.T).2.1,con:=(dC E.S E.T).2.2,calm:=decide ((dC E.S E.T).2.2<0)}
set_option maxRecDepth 16000 in
theorem t6(L:LayE h be bt ba bw bh mp mb E){n:Nat}(p:WOk n E.S)(o:TOk n E.T):aB Tryz.prog 43 [.ptr be 0] h (λr h'=>r=.pv (BL (!E.over&&!(aP E).calm))∧∃mb',LayE h' be bt ba bw bh mp mb' (aP E)∧Ext h h' (df be bt ba bw bh mp mb) (df be bt ba bw bh mp mb')):=by
 refine cR [] [.tmp 2] aE Tryz.func43 ?_;obtain⟨c,b⟩:=RE.1 L.e;have q:=IZ h bw ba bt mp mb E.A L.w p o;have a:aP E=if E.over=true then E else{E with S:=(dC E.S E.T).1,T:=(dC E.S E.T).2.1,con:=(dC E.S E.T).2.2,calm:=decide ((dC E.S E.T).2.2<0)}:=rfl;generalize aP E=f at*;simp;refine aj.intro (dM L.e) ?_;rintro _ _ ⟨rfl,rfl⟩;cases ho:E.over
 rotate_left
 .rw[RI ho]at a;subst a;simp[b,c,bQ,ho];exact⟨mb,L,Ext.refl _ _⟩
 rw[RH (by simp[ho])]at a;generalize dC E.S E.T=R at*;obtain⟨t,u,k⟩:=R;dsimp only at*;simp[b,c,bQ,ho];refine aj.intro q ?_;rintro _ s ⟨rfl,d,l,i⟩;have g:=L.watch l i;obtain⟨m,g2⟩:=RE.1 g.e;have L3:=g.eng f (by rw[a]) (by rw[a]) (by rw[a]) (by rw[a]);have j:=(Ext.eng (be:=be) (bh:=bh) (ba:=ba) i).trans (Ext.set be (bQ bt ba bw bh f) (.inl rfl));subst a;simp[m,g2,bQ,ho]at L3 j⊢;exact⟨d,L3,j⟩
end
end Go.AX
namespace Go.AX
set_option maxRecDepth 16000
open Go.Proofs
set_option linter.unusedSimpArgs false
def xN(f:Int->Int)(l:List Int)(i:Nat):List Int:=(l.take i).map f++List.replicate (l.length -i) 0
theorem JH(f:Int->Int)(l:List Int)(i:Nat)(h:i<=l.length):(xN f l i).length=l.length:=by unfold xN;simp;omega
theorem JI(f:Int->Int)(l:List Int)(i:Nat)(h:i<l.length):(xN f l i).set i (f l[i])=xN f l (i+1):=by
 unfold xN;have e:l.length -i=(l.length -(i+1))+1:=by omega
 rw[e,Vf,UJ _ _ (by simp;omega)];have a:i -((l.take i).map f).length=0:=by simp;omega
 rw[a,Vn,SN h,Sb,R4,Ua,Si];rfl
theorem JJ(f:Int->Int)(l:List Int):xN f l l.length=l.map f:=by unfold xN;simp
section
variable {h : List (List SV)} {be bt ba bw bh : Nat} {mp : List (Int × Nat)} {mb : List (Int × By)} {E : ES}
theorem Ed(L:LayE h be bt ba bw bh mp mb E)(hk:lw E.A)(j:E.A.row.length<=1000000)(l:List Int)(m:l.length<=1000000):aB Tryz.prog 95 [.ptr be 0,.seq false 1 (aa l)] h (λr h'=>h'=h∧r=.pv (.seq true 1 (aa (l.map (i7 E.A))))):=by
 refine dV [] [.tmp 4] aE Tryz.func95 ?_;obtain⟨g,b⟩:=RE.1 L.e;have o:=λk=>IR h ba E.A L.w.a hk j k;simp[b,g,bQ];refine⟨by omega,?_⟩;refine av.intro (S:=λ(i:Nat)=>⟨[(5,.pv (.fn (.func 158) [.ptr ba 0] [])),(6,.own true 1 (aa (xN (i7 E.A) l i))),(17,.pv (.seq false 1 (aa l))),(18,.pv (ae l.length)),(19,.pv (ae i))],h⟩) (λi=>i<=l.length) (λi=>l.length -i) 0 ?_ (RW _) ?_
 .exact af.keep (by simp[xN,aa]) rfl
 intro i hi;have d:=JH (i7 E.A) l i hi
 by_cases c:i<l.length
 .have n:=dq i;have hs:=JI (i7 E.A) l i c;simp[c];refine aj.intro (o l[i]) ?_;rintro _ _ ⟨rfl,rfl⟩;simp[d,c];exact⟨i+1,by(try dsimp only);omega,by(try dsimp only);omega,af.keep (by simp[n,iU,hs]) rfl⟩
 .have f:i=l.length:=by omega
  subst f;simp[JJ,bu,bd]
structure HpTo (n:Nat) (q q':HS):Prop where
  hp:HpG n 1000000000000 q'
  mem:∀v,v∈q.row->v∈q'.row
theorem HpTo.refl{n:Nat}{q:HS}(g:HpG n 1000000000000 q):HpTo n q q:=⟨g,λ_ h=>h⟩
theorem HpTo.trans{n:Nat}{a b c:HS}(x:HpTo n a b)(y:HpTo n b c):HpTo n a c:=⟨y.hp,λv h=>y.mem v (x.mem v h)⟩
theorem HpTo.bump{n:Nat}{q:HS}(g:HpG n 1000000000000 q)(v b:Int):HpTo n q (fc q v b).1:=⟨(vQ g v b).1,λx hx=>(vQ g v b).2.1.symm.subset hx⟩
theorem HpTo.halve{n:Nat}{q:HS}(g:HpG n 1000000000000 q):HpTo n q (cv q):=by
 obtain⟨a,b,_⟩:=lF (M:=500000000000) (g.mono (by decide)) (by decide) (by decide);exact⟨a.mono (by decide),λx hx=>b.symm.subset hx⟩
theorem HpTo.put{n:Nat}{q:HS}(g:HpG n 1000000000000 q)(v:Int):HpTo n q (eG q v).1:=by
 obtain⟨a,_,b,c⟩:=zY g v;refine⟨a,λx hx=>?_⟩
 by_cases e:(eG q v).2=0
 .exact(b e).symm.subset (SX _ hx)
 .rw[c e];exact hx
def Ee:Sch:=
 let a:Sch:=.fork [(10,.done)]
 let b:Sch:=.fork [(9,a)]
 let c:Sch:=.fork [(5,a)]
 let e:Sch:=.fork [(5,b),(9,c)]
 let d:Sch:=.fork [(3,a)]
 let f:Sch:=.fork [(3,b),(9,d)]
 let g:Sch:=.fork [(3,c),(5,d)]
 let h:Sch:=.fork [(3,e),(5,f),(9,g)]
 .take 0 (.take 1 (.take 2 (.take 4 (.take 6 (.take 7 (.take 8 h))))))
theorem JK(L:LayE h be bt ba bw bh mp mb E){n:Nat}(hn:n<=100000)(g:HpG n 1000000000000 E.q)(hd:0<=E.decay∧E.decay<=100)(hi:0<=E.inc∧E.inc<=1000000000)(l:List Int)(K:l.length<=1000000):aB Tryz.prog 96 [.ptr be 0,.seq false 1 (aa l)] h (λr h'=>r=.pv (.tup [])∧∃q k,LayE h' be bt ba bw bh mp mb {E with q:=q,inc:=k}∧Ext h h' (df be bt ba bw bh mp mb) (df be bt ba bw bh mp mb)∧HpTo n E.q q∧0<=k∧k<=1000000000):=by
 refine cR [3] [] aE Tryz.func96 ?_;simp;refine av.intro (S:=λ(x:Nat×List (List SV)×HS)=>⟨[(0,.pv (.ptr be 0)),(6,.pv (.seq false 1 (aa l))),(7,.pv (ae l.length)),(8,.pv (ae x.1))],x.2.1⟩)
  (λx=>x.1<=l.length∧LayE x.2.1 be bt ba bw bh mp mb {E with q:=x.2.2}∧Ext h x.2.1 (df be bt ba bw bh mp mb) (df be bt ba bw bh mp mb)∧HpTo n E.q x.2.2) (λx=>l.length -x.1) (0,h,E.q) ?_ ⟨RW _,L,Ext.refl _ _,.refl g⟩ ?_
 .exact af.keep (by simp) rfl
 rintro⟨i,H,q⟩ ⟨z,f,o,j⟩;dsimp only at z f o j;obtain⟨b,a⟩:=RE.1 f.e
 by_cases c:i<l.length
 .have B:=dq i;have T:=aJ l[i];have P:=zZ H bh q f.q j.hp hn (ah l[i]) E.inc;have m:=f.heap (fc q (ah l[i]) E.inc).1;have s:=o.trans (Ext.set bh (au (fc q (ah l[i]) E.inc).1) (.inr (.inl rfl)));have w:=j.trans (HpTo.bump j.hp (ah l[i]) E.inc);generalize ah l[i]=v at*;generalize fc q v E.inc=R at*;simp[c];refine aQ.meet Ee ⟨[(0,.pv (.ptr be 0)),(6,.pv (.seq false 1 (aa l))),(7,.pv (ae l.length)),(8,.pv (ae i))],H.set bh (au R.1)⟩ (by kernel_rfl) ?_ ?_
  .simp[Ee,a,b,bQ]
   repeat' first
    |trivial
    |refine And.intro ?_ ?_
    |(refine ai.intro T ?_;simp[a,b,bQ])
    |(refine aj.intro P ?_;rintro _ _ ⟨rfl,rfl⟩;simp;exact af.keep (by simp) rfl)
  .simp;exact⟨(i+1,_,R.1),by(try dsimp only);omega,⟨by(try dsimp only);omega,m,s,w⟩,af.keep (by simp[B]) rfl⟩
 .have A:i=l.length:=by omega
  subst A;obtain⟨F,J⟩:=hd;obtain⟨N,O⟩:=hi;have M:0<=E.inc*E.decay∧E.inc*E.decay<=1000000000*100:=⟨Int.mul_nonneg N F,Int.mul_le_mul O J F (by decide)⟩;have G:aR (E.inc*E.decay)=E.inc*E.decay:=ap (by omega) (by omega);have t1:(E.inc*E.decay).tdiv 100=E.inc*E.decay/100:=U5 M.1;have I:aR (E.inc*E.decay/100)=E.inc*E.decay/100:=ap (by omega) (by omega);have C:aR (E.inc+E.inc*E.decay/100)=E.inc+E.inc*E.decay/100:=ap (by omega) (by omega);obtain⟨k,hk⟩:∃k,E.inc+E.inc*E.decay/100=k:=⟨_,rfl⟩;have m:=f.eng {E with q:=q,inc:=k} rfl rfl rfl rfl;have s:=o.trans (Ext.set be (bQ bt ba bw bh {E with q:=q,inc:=k}) (.inl rfl));have d:0<=k∧k<=2000000000:=by omega
  rw[hk]at C;simp[a,b,bQ,G,t1,I,C,hk];simp only[bQ]at m s;refine av.intro (S:=λ(x:List (List SV)×HS×Int)=>⟨[(0,.pv (.ptr be 0))],x.1⟩)
   (λx=>LayE x.1 be bt ba bw bh mp mb {E with q:=x.2.1,inc:=x.2.2}∧Ext h x.1 (df be bt ba bw bh mp mb) (df be bt ba bw bh mp mb)∧HpTo n E.q x.2.1∧0<=x.2.2∧x.2.2<=2000000000) (λx=>x.2.2.toNat) (_,q,k) ?_ ⟨m,s,j,d⟩ ?_
  .exact af.keep (by simp) rfl
  clear f o j m s b a G t1 I C hk d;rintro⟨H,q,k⟩ ⟨f,o,j,d⟩;dsimp only at f o j d;obtain⟨b,a⟩:=RE.1 f.e
  by_cases c:1000000000<k
  .have B:aR (k.tdiv 2)=k/2:=by rw[U5 d.1,ap (by omega) (by omega)]
   have p:=j.hp;have Q:=qA H bh q f.q (by rw[p.sl];omega) (by rw[p.pll];exact p.inr) (by rw[p.pll,p.sl]) (by have:=p.few;omega) (by rw[p.sl];omega);have m:=f.heap (cv q);have s:=o.trans (Ext.set bh (au (cv q)) (.inr (.inl rfl)));have w:=j.trans (HpTo.halve p);generalize cv q=u at*;simp[c,a,b,bQ];refine aj.intro Q ?_;rintro _ _ ⟨rfl,rfl⟩;obtain⟨t,y⟩:=RE.1 m.e;have L3:=m.eng {E with q:=u,inc:=k/2} rfl rfl rfl rfl;have D:=s.trans (Ext.set be (bQ bt ba bw bh {E with q:=u,inc:=k/2}) (.inl rfl));generalize H.set bh (au u)=U at*;simp only[bQ]at L3 D;simp[y,t,bQ,B];exact⟨(_,u,k/2),by(try dsimp only);omega,⟨L3,D,w,by(try dsimp only);omega,by(try dsimp only);omega⟩,af.keep (by simp) rfl⟩
  .simp[c,a,b,bQ];exact⟨q,k,f,o,j,d.1,by omega⟩
end
end Go.AX