/-
  Engines: what always holds of them, and that it stays (plain law); and what follows.
-/
import Derived.Test.YtepodadinenmnaaGreatZE
set_option linter.unusedSimpArgs false
namespace Go.AX
open Go.Proofs
theorem CK{l:af}(h:l.Nodup):∀n,n<=l.length->nm l n=0
 |0,_=>rfl
 |n+1,hn=>by
  have b:l.getD n 0=l[n]:=by simp[show n<l.length by omega]
  rw[nm,CK h n (by omega),b,Vs];intro c;obtain⟨j,hj,a⟩:=WO.1 c;exact V5.1 h j n (by omega) (by omega) (by omega) a
theorem yF{c:af}(d:c.length<=1000)(b:∀y∈c,dF y=true)(hn:c.Nodup):iM c 100000=0:=by
 have a:(c.all λx=>uY x 100000)=true:=Wa.2 λx hx=>b x hx;unfold iM;rw[Vs (by omega),Vs (by omega),Vs (by rw[a];simp),Vt (CK hn _ (Vu _))]
def rC(l:List Rc):au:=(bs 0 l).map (·.lits)
def rA(l:List Rc):af:=(bs 0 l).map (·.at')
theorem No{l:List Rc}{i:Nat}(hi:i<(rC l).length):∃y∈bs 0 l,(rC l)[i]=y.lits∧(rA l).getD i 0=y.at':=by
 have a:i<(bs 0 l).length:=by simpa[rC]using hi
 exact⟨_,Vx a,by simp[rC],by simp[rA,Vr,a]⟩
theorem Ht{l:List Rc}{y:Ro}(hy:y∈bs 0 l):∃i,∃hi:i<(rC l).length,(rC l)[i]=y.lits∧(rA l).getD i 0=y.at':=by
 obtain⟨i,hi,rfl⟩:=VE hy;exact⟨i,by simpa[rC]using hi,by simp[rC],by simp[rA,Vr,hi]⟩
theorem Np{l:List Rc}{x y:Ro}(hx:x∈bs 0 l)(hy:y∈bs 0 l)(e:x.at'=y.at'):x=y:=by
 have hp:=V5.1 (Au l 0);obtain⟨i,hi,rfl⟩:=VE hx;obtain⟨j,hj,rfl⟩:=VE hy;rcases Xd i j with c|c|c;have:=hp i j hi hj c;omega;subst c;rfl;have:=hp j i hj hi c;omega
structure EI (n:Nat) (F:au) (r s:Nat) (l:List Rc) (E:ES):Prop where
  n9:n<=400
  tok:TOk n E.T
  wok:WOk n E.S
  prz:E.S.prs.length+r<=1000000
  ari:ArI E.A l
  rsz:E.A.row.length+s<=1000000
  idz:0<=E.id∧E.id+r<=1000000
  ids:(∀x∈l,x.id<=E.id)∧(l.map (·.id)).Pairwise (·<·)
  cls:∀x∈bs 0 l,x.lits.length<=1000∧x.lits.Nodup∧∀y∈x.lits,aQ y n=0
  att:∀k c,CW E.S k c↔∃x∈bs 0 l,x.at'=k∧x.lits=c
  ef:EF (rC l) (rA l) (gV E.T)
  ent:∀x∈bs 0 l,RU F x.lits
  ovr:E.over=true↔∃x∈bs 0 l,x.lits=[]
  hp:HpG n 1000000000000 E.q
  inh:∀v:Int,1<=v->v<=n->v∉E.T.lits.map aq->v∈E.q.row
  ph:E.ph.length=n+1
  cal:E.calm=true->∀x∈bs 0 l,Ft E.T.lits x.lits
  con:0<=E.con->∃x∈bs 0 l,x.at'=E.con∧∀y∈x.lits,-y∈E.T.lits
  dcy:0<=E.decay∧E.decay<=100
  inc:0<=E.inc∧E.inc<=1000000000
section
variable {n r s : Nat} {F : au} {l : List Rc} {E : ES}
theorem EI.mono(h:EI n F r s l E){a s':Nat}(b:a<=r)(hs:s'<=s):EI n F a s' l E:=
 {h with prz:=by have:=h.prz;omega,rsz:=by have:=h.rsz;omega,idz:=by have:=h.idz;omega}
theorem EI.cl(h:EI n F r s l E){y:Ro}(hy:y∈bs 0 l):y.lits.length<=1000∧∀z∈y.lits,dF z=true:=by
 obtain⟨a,_,c⟩:=h.cls y hy;have:=h.n9;exact⟨a,λz hz=>V.okL_chk (v:=n) (by omega) (c z hz)⟩
theorem EI.clsN(h:EI n F r s l E):V.ClsN (rC l) (rA l)where
 len:=λc a=>by obtain⟨y,hy,rfl⟩:=VB.1 a;exact(h.cl hy).1
 chk:=λc a=>by obtain⟨y,hy,rfl⟩:=VB.1 a;exact(h.cl hy).2
 pos:=λk hk=>by obtain⟨y,hy,_,e⟩:=No hk;rw[e];have:=(iX l 0 y hy).1;omega
 nd:=λc a=>by obtain⟨y,hy,rfl⟩:=VB.1 a;exact(h.cls y hy).2.1
def RV(l:List Rc)(E:ES)(con:Int):DK:=⟨E.A,E.T,⟨bs 0 l,E.A.row.length⟩,gV E.T,con⟩
theorem EI.ars(h:EI n F r s l E){k:Nat}(hk:k<(rC l).length):isA E.A ((rA l).getD k 0)=true∧aJ E.A ((rA l).getD k 0)=(rC l)[k]:=by
 obtain⟨y,hy,a,b⟩:=No hk;rw[a,b];exact⟨(h.ari.isA _).2 ⟨y,hy,rfl⟩,(h.ari.at hy).1⟩
theorem EI.desk(h:EI n F r s l E)(con:Int):V.DeskI (rC l) (rA l) (RV l E con)where
 ok:={
  rel:=h.tok.rel
  relA:=h.ari.rel
  rea:=λi hi=>by
   by_cases c:(gV E.T).rows[i].rea<0;exact .inl c;obtain⟨k,hk,f,g2,g3,_⟩:=h.ef.imp i hi (by omega);obtain⟨b,d⟩:=h.ars hk;refine .inr ?_;show isA E.A (gV E.T).rows[i].rea=true∧(gV E.T).rows[i].l∈aJ E.A (gV E.T).rows[i].rea∧∀y∈aJ E.A (gV E.T).rows[i].rea,dF y=true∧(y≠(gV E.T).rows[i].l->bG (-y)∈((gV E.T).rows.take i).map (·.l));rw[f,d];refine⟨b,g2,λy hy=>?_⟩;have ho:=h.clsN.chk _ (Vx hk) y hy;refine⟨ho,λa=>?_⟩;obtain⟨j,hj,g,e⟩:=g3 y hy a;rw[(V.litO ho).2.2.2.2];exact VB.2 ⟨_,WO.2 ⟨j,by omega,rfl⟩,e⟩
  len:=by have:=h.rsz;show E.A.row.length<=1000000;omega}
 cls:=h.clsN
 facts:=h.ef.toTraF
 ars:=λ_ hk=>h.ars hk
 id:=λx hx=>h.ari.ids x hx
theorem EI.rt(h:EI n F r s l E):(gV E.T).vars=n:=h.tok.vars
theorem ku(T:Tr):eK (gV T)=T.lits:=by
 unfold eK gV;simp[Wo,YL,Fs]
theorem EF.grow{cs:au}{ats:af}{C:Int->af->Prop}{T T':Tr}(q:V.ClsN cs ats)(s:∀k c,C k c->∃i,∃hi:i<cs.length,cs[i]=c∧ats.getD i 0=k)(r:TOk n T)(h:EF cs ats (gV T))(g:Grow C n T T'):TOk n T'∧EF cs ats (gV T'):=by
 induction g with
 |refl=>exact⟨r,h⟩
 |@step f k o c _ h1 m b u p t=>
  obtain⟨a,e⟩:=t;refine⟨a.imp b k,?_⟩;obtain⟨i,hi,j,l⟩:=s k c h1;rw[At a.toTMk b,←l];have:=a.hn;refine e.unit q (by show 0<=(f.marks.length:Int) -1∧(f.marks.length:Int) -1<=100000;rw[a.len];omega) hi (by rw[j];exact m) (a.mayR b) λy hy d=>?_;rw[ku];exact p y (by rw[j]at hy;exact hy) d
theorem EI.prp(h:EI n F r s l E):EI n F r s l {E with S:=(gv E.S E.T).1,T:=(gv E.S E.T).2.1,con:=(gv E.S E.T).2.2,calm:=decide ((gv E.S E.T).2.2<0)}:=by
 have hp := MP h.wok h.tok; obtain ⟨A, g2⟩ := EF.grow h.clsN (λ k c b => by
  obtain⟨x,hx,e,f⟩:=(h.att k c).1 b;obtain⟨i,hi,o,q⟩:=Ht hx;exact⟨i,hi,o.trans f,q.trans e⟩) h.tok h.ef hp.grow
 have a:∀k c,CW (gv E.S E.T).1 k c↔∃x∈bs 0 l,x.at'=k∧x.lits=c:=λk c=>(hp.same.lits k c).trans (h.att k c);have d:=hp.grow.pre.1;exact{h with
  tok:=hp.tok
  wok:=hp.ok
  prz:=by have:=h.prz;show(gv E.S E.T).1.prs.length+r<=_;rw[hp.same.len];exact this
  att:=a
  ef:=g2
  inh:=λv y z u=>h.inh v y z λt=>u ((d.map aq).subset t)
  cal:=λb x hx=>by
   have b:(gv E.S E.T).2.2<0:=by simpa using b
   obtain⟨p,g,j⟩:=(a x.at' x.lits).2 ⟨x,hx,rfl,rfl⟩;rcases hp.res with⟨_,m⟩|⟨w,_⟩;have:=m _ p g;rw[j]at this;exact this;omega
  con:=λb=>by
   have b:0<=(gv E.S E.T).2.2:=b;rcases hp.res with⟨w,_⟩|⟨_,p,m,r3⟩;omega;obtain⟨x,hx,e,f⟩:=(a _ _).1 ⟨p,m,rfl⟩;exact⟨x,hx,e,by rw[f];exact r3⟩}
theorem EI.dec(h:EI n F r s l E)(f:E.calm=true){x:Int}(hx:gZ E.T x=0)(q:HS)(p:HpG n 1000000000000 q)(hin:∀v∈E.q.row,v∈q.row∨v∈E.T.lits.map aq∨v=aq x)(i:E.con<0):EI n F r s l {E with T:=jt E.T x,calm:=false,q:=q}:=by
 have k:=h.tok.toTMk.beg (λb m=>(h.tok.bnd b m).2);have o:gZ (sC E.T) x=0:=hx;have j:jt E.T x=ja (sC E.T) x (-1):=by unfold jt;rw[Vt hx]
 have t:gV (jt E.T x)=⟨(gV E.T).vars,(gV E.T).rows++[⟨x,(gV E.T).dep+1,-1⟩],(gV E.T).dep+1⟩:=by
  rw[j,At k o];have:((sC E.T).beg.length:Int)=(gV E.T).dep+1:=by simp[sC,gV]
  rw[this];rfl
 have z:=h.rt;have hn:=h.n9;have d:(jt E.T x).lits=E.T.lits++[x]:=by rw[j];rfl
 exact{h with
  tok:=h.tok.dec x
  ef:=by
   show EF _ _ (gV (jt E.T x));rw[t];refine h.ef.app (by omega) (x:=⟨x,(gV E.T).dep+1,-1⟩) (h.tok.mayR hx) rfl (by omega) (by omega) (λ_=>rfl) (λe=>by dsimp only at e;omega) (λ_=>?_) (λ_=>by dsimp only;omega) (λe=>by dsimp only at e;omega);rw[ku];refine Hq (λc f=>?_) (λy hy=>by have:=h.ef.one hy;rwa [ku]at this) λc g=>?_;obtain⟨y,hy,rfl⟩:=VB.1 f;exact h.cl hy;obtain⟨y,hy,rfl⟩:=VB.1 g;exact h.cal f y hy
  hp:=p
  inh:=λv u w a=>by
   have a:v∉(jt E.T x).lits.map aq:=a;rw[d,V1,VF,aac]at a;rcases hin v (h.inh v u w a.1)with e|e|e;exact e;exact absurd e a.1;exact absurd (by simp[e]) a.2
  cal:=λe=>by cases e
  con:=λe=>by have e:0<=E.con:=e;omega}
theorem EI.back(h:EI n F r s l E){k:Nat}(hk:k<E.T.beg.length)(q:HS)(d:HpG n 1000000000000 q)(hin:∀v∈E.q.row,v∈q.row)(a:∀z∈E.T.lits,z∉(dt E.T k).lits->aq z∈q.row)(p:dC)(hp:p.length=n+1):EI n F r s l {E with T:=dt E.T k,q:=q,ph:=p,con:=-1,calm:=false}:=by
 obtain⟨t1,o,t3⟩:=h.tok.back hk;have m:=h.tok.bnd _ (Vx hk);exact{h with
  tok:=t1
  ef:=by
   show EF _ _ (gV (dt E.T k));rw[CH h.tok hk];refine h.ef.back (by omega) (by show(k:Int)<(E.T.beg.length:Int);omega) λi hi=>?_;obtain⟨b,e⟩:=h.tok.rows hi;rw[e];show _↔oB E.T.beg i<=k;rw[Ho h.tok.rise hk];omega
  hp:=d
  inh:=λv g j f=>by
   by_cases c:v∈E.T.lits.map aq;obtain⟨z,hz,rfl⟩:=VB.1 c;exact a z hz λe=>f (WV e);exact hin v (h.inh v g j c)
  ph:=hp
  cal:=λe=>by cases e
  con:=λe=>by simp at e}
theorem Nq{A:Ar}{T:Tr}{S:WS}(c:TOk n T){k:Int}(h0:iv A k≠0)(h1:lk S.prs k=none)(b:∀y∈aJ A k,aQ y n=0):rT A T S k=0∧qI A T S k=⟨pt S.prs k ⟨aJ A k,0,0⟩,S.byl,pt S.late k (bG ((lk S.late k).getD 0+1)),S.head,S.seen⟩:=by
 have a:rT A T S k=0:=by
  unfold rT;rw[Vs h0,h1,Vs (by simp),Vs];rw[c.vars,YA,Xo];intro y hy;simp[b y hy]
 refine⟨a,?_⟩;unfold qI;rw[Vt a]
theorem EI.add{c:af}(h:EI n F (r+1) (s+(3+c.length)) l E)(b:Bool)(I:c.length<=1000)(hn:c.Nodup)(u:∀y∈c,aQ y n=0)(Z:RU F c)(B:∀k:Int,0<k->k<=(gV E.T).dep->Ft (bel (gV E.T) k) c)(w:E.calm=false)(Q:E.con<0)
 (q:HS) (N:HpG n 1000000000000 q) (hin:∀v∈E.q.row,v∈q.row):
 lp (E.id+1) c=0∧rT (d7 E.A (E.id+1) c b) E.T E.S E.A.row.length=0∧EI n F r s (l++[⟨E.id+1,gj b,c⟩]) {E with id:=E.id+1,A:=d7 E.A (E.id+1) c b,over:=E.over||decide (c.length=0),S:=qI (d7 E.A (E.id+1) c b) E.T E.S E.A.row.length,q:=q}:=by
 have aa:=h.n9;have j:lp (E.id+1) c=0:=by
  have:=h.idz;unfold lp;rw[Vs (by omega)];exact yF I (λy hy=>V.okL_chk (v:=n) (by omega) (u y hy)) hn
 have P:=h.ari.put j b;have hs:gj b≠2:=by unfold gj;split<;>omega
 have D:(bY l).length=E.A.row.length:=by rw[h.ari.row]
 have t:bs 0 (l++[⟨E.id+1,gj b,c⟩])=bs 0 l++[⟨E.A.row.length,E.id+1,c⟩]:=by
  rw[jp,D,Wr];show bs 0 l++(if gj b=2 then _ else _)=_;rw[Vs hs];rfl
 have M:(⟨E.A.row.length,E.id+1,c⟩:Ro)∈bs 0 (l++[⟨E.id+1,gj b,c⟩]):=by rw[t];simp
 obtain⟨J,O⟩:=P.at M;dsimp only at J O;have G:E.A.row.length∉(E.S.prs.map (·.1)).map Int.toNat∧lk E.S.prs E.A.row.length=none:=by
  have key:lk E.S.prs E.A.row.length=none:=by
   cases e:lk E.S.prs (E.A.row.length:Int)with
   |none=>rfl
   |some p=>
    obtain⟨x,hx,f,_⟩:=(h.att _ p.lits).1 ⟨p,e,rfl⟩;have:=(iX l 0 x hx).2;omega
  refine⟨λL=>?_,key⟩;obtain⟨z,hz,e⟩:=VB.1 L;have h1:=mem_keys.2 hz;obtain⟨p,hp⟩:=XV.1 h1;obtain⟨x,hx,f,_⟩:=(h.att _ p.lits).1 ⟨p,hp,rfl⟩;have:=iX l 0 x hx;omega
 have oL:iv (d7 E.A (E.id+1) c b) E.A.row.length≠0:=by rw[O];have:=h.idz;omega
 obtain⟨t1,t2⟩:=Nq (A:=d7 E.A (E.id+1) c b) h.tok oL G.2 (by rw[J];exact u);refine⟨j,t1,?_⟩;rw[t2,J];have H:(d7 E.A (E.id+1) c b).row.length=E.A.row.length+(3+c.length):=by
  unfold d7;rw[Vt j];simp;omega
 have m:(E.A.row.length:Int)∉E.S.prs.map (·.1):=λL=>by
  have:=mem_keys.2 L;rw[G.2]at this;cases this
 have C:pt E.S.prs (E.A.row.length:Int) ⟨c,0,0⟩=E.S.prs++[((E.A.row.length:Int),⟨c,0,0⟩)]:=vY λq N e=>m (VB.2 ⟨q,N,e⟩);have W:=h.rsz;have X:=h.wok.put m ⟨by omega,by omega⟩ hn I u (bG ((lk E.S.late (E.A.row.length:Int)).getD 0+1));have U:=h.prz;have R:=h.idz;exact{h with
  wok:={X with
   few:=by show(pt E.S.prs _ _).length<=_;rw[C,Vz];simp;omega
   h0:=h.wok.h0,h1:=h.wok.h1,sl:=h.wok.sl,clr:=h.wok.clr}
  prz:=by show(pt E.S.prs _ _).length+r<=_;rw[C,Vz];simp;omega
  ari:=P
  rsz:=by show(d7 E.A (E.id+1) c b).row.length+s<=_;rw[H];omega
  idz:=by show 0<=E.id+1∧E.id+1+(r:Int)<=_;omega
  ids:=by
   refine⟨λx hx=>?_,?_⟩;rcases VF.1 hx with hx|hx;have:=h.ids.1 x hx;show x.id<=E.id+1;omega;simp at hx;subst hx;exact XF _;rw[V1,Yt];refine⟨h.ids.2,by simp,λa Y d hd=>?_⟩;obtain⟨x,hx,rfl⟩:=VB.1 Y;simp at hd;have:=h.ids.1 x hx;omega
  cls:=λx hx=>by
   rw[t]at hx;rcases VF.1 hx with hx|hx;exact h.cls x hx;simp at hx;subst hx;exact⟨I,hn,u⟩
  att:=λk d=>by
   rw[t];unfold CW;show(∃p,lk (pt E.S.prs (E.A.row.length:Int) ⟨c,0,0⟩) k=some p∧p.lits=d)↔_;by_cases e:k=E.A.row.length;subst e;rw[eX];constructor;rintro⟨_,f,o⟩;cases f;exact⟨⟨E.A.row.length,E.id+1,c⟩,by simp,rfl,o⟩;rintro⟨x,hx,f,o⟩;rcases VF.1 hx with hx|hx;have:=(iX l 0 x hx).2;omega;simp at hx;subst hx;exact⟨_,rfl,o⟩;rw[eF e];refine(h.att k d).trans ⟨λ⟨x,hx,f⟩=>⟨x,by simp[hx],f⟩,λ⟨x,hx,f,o⟩=>?_⟩;rcases VF.1 hx with hx|hx;exact⟨x,hx,f,o⟩;simp at hx;subst hx;exact absurd f.symm e
  ef:=by
   have f:rC (l++[⟨E.id+1,gj b,c⟩])=rC l++[c]:=by unfold rC;rw[t];simp
   have o:rA (l++[⟨E.id+1,gj b,c⟩])=rA l++[(E.A.row.length:Int)]:=by unfold rA;rw[t];simp
   rw[f,o];refine h.ef.cls (λk k0 kd d hd=>?_) λi hi _ k hk _ _=>?_;rcases VF.1 hd with hd|hd;exact h.ef.clm k k0 kd d hd;simp at hd;subst hd;refine Hq (cs:=[d]) (λc' g=>?_) (λy hy=>?_) (λc' g=>?_) d (by simp);simp at g;subst g;exact⟨I,λy hy=>V.okL_chk (v:=n) (by omega) (u y hy)⟩;rintro⟨u1,u2⟩;exact h.ef.one hy ⟨lr _ u1,lr _ u2⟩;simp at g;subst g;exact B k k0 kd;have K:k<(rA l).length:=by simpa[rA,rC]using hk
   exact⟨k,by simp;omega,by simp only[Vr];rw[Vv K],V6 hk⟩
  ent:=λx hx=>by
   rw[t]at hx;rcases VF.1 hx with hx|hx;exact h.ent x hx;simp at hx;subst hx;exact Z
  ovr:=by
   show(E.over||decide (c.length=0))=true↔_;rw[t,WI,h.ovr,VI,WA];constructor;rintro(⟨x,hx,e⟩|e);exact⟨x,by simp[hx],e⟩;exact⟨⟨E.A.row.length,E.id+1,c⟩,by simp,e⟩;rintro⟨x,hx,e⟩;rcases VF.1 hx with hx|hx;exact .inl ⟨x,hx,e⟩;simp at hx;subst hx;exact .inr e
  hp:=N
  inh:=λv v1 v2 hv=>hin v (h.inh v v1 v2 hv)
  cal:=λe=>by have e:E.calm=true:=e;rw[w]at e;cases e
  con:=λe=>by have e:0<=E.con:=e;omega}
end
theorem Fu{n:Nat}{T:Tr}(a:TOk n T){i:Nat}(hi:i<T.lits.length):eU T (-T.lits[i])=oB T.beg i:=by
 have b:em T (aq T.lits[i])=(cv T (aq T.lits[i]),true):=by
  obtain⟨_,_,_,d,e,_⟩:=cC a.hn (a.chk _ (Vx hi));have c:=(a.mark i hi).1;unfold em;rw[Vs];rintro(h|h|h);omega;rw[a.len]at h;omega;rw[c]at h;unfold Ak at h;split at h<;>omega
 unfold eU;rw[eC,b];exact(a.mark i hi).2.1
theorem Hu{n:Nat}{T:Tr}(a:TOk n T){k:Nat}(hk:k<T.beg.length){y:Int}(hy:-y∈T.lits):-y∈(dt T k).lits↔eU T y<=k:=by
 obtain⟨i,hi,e⟩:=VE hy;have d:=a.bnd _ (Vx hk);have c:eU T y=oB T.beg i:=by rw[←Fu a hi,e,XI]
 rw[c,Ho a.rise hk,(a.back hk).2.1,WO];constructor;rintro⟨j,hj,b⟩;have:j=i:=a.inj (by omega) hi (by rw[b,e]);omega;exactλh=>⟨i,by omega,e⟩
theorem Hv{n:Nat}{T:Tr}(c:TOk n T){y k:Int}(h:-y∈bel (gV T) k):eU T y<k:=by
 obtain⟨x,hx,e⟩:=VB.1 h;obtain⟨hx,a⟩:=V9.1 hx;obtain⟨i,hi,rfl⟩:=VE hx;obtain⟨b,d⟩:=c.rows hi;rw[d]at e a;dsimp only at e a;rw[VI]at a;rw[show y=-T.lits[i] by omega,Fu c b];exact a
section
variable {n r s : Nat} {F : au} {l : List Rc} {E : ES}
theorem EI.conf(h:EI n F r s l E)(g:0<=E.con):V.Conf (RV l E E.con) E.con:=by
 obtain⟨x,hx,c,d⟩:=h.con g;obtain⟨k,hk,e,f⟩:=Ht hx;have i:ve (eK (gV E.T)) (rC l)[k]=-1:=by
  rw[oi,e];intro y hy _;have ho:=(h.cl hx).2 y hy;have b:-y∈eK (gV E.T):=by rw[ku];exact d y hy
  exact V.val3_m1_of ho b λa=>h.ef.one ho ⟨a,b⟩
 have:=V.conf_at (h.desk E.con).toDeskT hk i;rw[f,c]at this;exact this
def aY(E:ES):af:=sF E.A E.T (ed E.A E.T E.con)
def gy(E:ES):af:=(tR E.A E.T (aY E) E.con).1
structure ResOk (n:Nat) (F:au) (l:List Rc) (E:ES):Prop where
  le:mV E.A E.T E.con=0
  ln:(ed E.A E.T E.con).length<=n
  yes:(tR E.A E.T (aY E) E.con).2=true
  nd:(aY E).Nodup
  len:(aY E).length<=n
  chk:∀y∈aY E,aQ y n=0
  neg:∀y∈aY E,-y∈E.T.lits
  hin:(gy E).Nodup∧∀q∈gy E,∃x∈bs 0 l,x.at'=q
  hle:(gy E).length<=n+1
  shw:(gg (iw (aY E)) ((gy E).map (aJ E.A)) 0).2.2=0
  ent:RU F (aY E)
  lev:(E.T.beg.length=0∧aY E=[])∨∃u w,aY E=u::w∧0<=gi E.T (aY E)∧gi E.T (aY E)<E.T.beg.length∧eU E.T u=E.T.beg.length∧(∀y∈w,eU E.T y<=gi E.T (aY E))∧(gi E.T (aY E)=0∨∃y∈w,eU E.T y=gi E.T (aY E))
theorem EI.res(h:EI n F r s l E)(D:0<=E.con):ResOk n F l E:=by
 have N:=h.desk E.con;have M:=N.toDeskT;have C:=h.conf D;obtain⟨t1,Y⟩:=V.learn_is M C;have o:=h.tok;have hd:(gV E.T).dep=E.T.beg.length:=rfl;have Q:aY E=sF E.A E.T (ed E.A E.T E.con):=rfl;have eH:gy E=(tR E.A E.T (aY E) E.con).1:=rfl;have I:iv E.A E.con≠0:=V.id_is N C.is;have le:mV E.A E.T E.con=0:=by
  unfold mV;rw[Vs I,Vs];have:qv E.T (aJ E.A E.con)=true:=by
   unfold qv;rw[Wp,Xo];intro y hy;obtain⟨_,j,hj,e⟩:=C.neg y hy;have:=V.val_of M hj e;have:df E.T y=-1:=this;simp[this]
  rw[this];decide
 have t1:V.Learnt (RV l E E.con) (ed E.A E.T E.con):=t1;have Y:∀y∈aJ E.A E.con,HOk E.A E.T (ed E.A E.T E.con) y:=Y;generalize R:ed E.A E.T E.con=L at*;have f:(aY E).Sublist L:=by rw[Q];exact Pt _ _ _
 have b:∀y∈aY E,y∈L:=λy hy=>f.subset hy;have d:∀y∈L,dF y=true∧-y∈E.T.lits∧0<eU E.T y:=λy hy=>by
  obtain⟨a,j,hj,e,B⟩:=t1.neg y hy;obtain⟨H,O⟩:=o.rows (i:=j) hj;have e:(gV E.T).rows[j].l=-y:=e;have B:0<(gV E.T).rows[j].lev:=B;rw[O]at e B;dsimp only at e B;refine⟨a,e▸Vx H,?_⟩;rw[show y=-E.T.lits[j] by omega,Fu o H];exact B
 have W:∀y∈L,df E.T y=-1:=λy hy=>by
  obtain⟨_,j,hj,e,_⟩:=t1.neg y hy;exact V.val_of M hj e
 have hN:V.AllNeg (RV l E E.con) L:=λy hy=>by obtain⟨a,j,hj,e,_⟩:=t1.neg y hy;exact⟨a,j,hj,e⟩
 have S:V.AllNeg (RV l E E.con) (aY E):=λy hy=>hN y (b y hy);have G:∀y∈L,aQ y n=0:=λy hy=>by
  have:=tA o.hn (o.chk _ (d y hy).2.1)
  rwa [XI]at this
 have ln:L.length<=n:=by
  have h1:(L.map λy=>-y).Nodup:=Xe.2 (t1.nd.imp λU e=>U (by omega));have:=eb _ E.T.lits h1 λx hx=>by obtain⟨y,hy,rfl⟩:=VB.1 hx;exact(d y hy).2.1
  rw[VA]at this;have:=o.few;omega
 have hk:=V.sho_hok M hN;have hk:∀x∈L,HOk E.A E.T (aY E) x:=by rw[Q];exact hk
 have g:=V.hints_ok_of N C (L:=aY E) λy hy=>Jr hk (Y y hy);have g:(nB E.A E.T (aY E) E.con).ok=true:=g;have Z:tR E.A E.T (aY E) E.con=(tQ E.T (nB E.A E.T (aY E) E.con).at' E.con,true):=by
  unfold tR;rw[Vs I,Vs (by rw[g];decide)]
 obtain⟨X,J,l',v⟩:=V.hints_show N C S g;have K:gy E=tQ E.T (nB E.A E.T (aY E) E.con).at' E.con:=by rw[eH,Z]
 have X:(gy E).Nodup:=by rw[K];exact X
 have J:∀q∈gy E,∃x∈bs 0 l,x.at'=q:=λq p=>by rw[K]at p;exact(h.ari.isA q).1 (J q p)
 have v:(gg (iw (aY E)) ((gy E).map (aJ E.A)) 0).2.2=0:=by
  have v:gg (iw (aY E)) ((tQ E.T (nB E.A E.T (aY E) E.con).at' E.con).map (aJ E.A)) 0=_:=v;rw[K,v]
 refine⟨le,by rw[R];exact ln,by rw[Z],t1.nd.sublist f,Wb f.length_le ln,λy hy=>G y (b y hy),λy hy=>(d y (b y hy)).2.1,⟨X,J⟩,by
  rw[K];have:=vC E.T (nB E.A E.T (aY E) E.con).at' E.T.lits.length;have:=o.few;unfold tQ;split;omega;rw[Vz];simp;omega,v,λm hm=>?_,?_⟩
 refine V.show_sound (λy hy=>(d y (b y hy)).1) (λc D=>?_) v λc D=>?_;obtain⟨q,p,rfl⟩:=VB.1 D;obtain⟨x,hx,rfl⟩:=J q p;rw[(h.ari.at hx).1];have:=(h.cl hx).1;omega;obtain⟨q,p,rfl⟩:=VB.1 D;obtain⟨x,hx,rfl⟩:=J q p;rw[(h.ari.at hx).1];exact h.ent x hx m hm;have k:(RV l E E.con).t.dep=E.T.beg.length:=rfl;rcases Yp E.T.beg.length with c|c;left;have:=t1.nil (by rw[k];omega);refine⟨c,?_⟩;rw[this]at f;exact List.sublist_nil.1 f;right;obtain⟨u,w,e,z,u2⟩:=t1.top (by rw[k];omega);obtain⟨w',O,e4⟩:=Nb E.A E.T u w;have P:aY E=u::w':=by rw[Q,e];exact O
 rw[k]at z u2;have hv:∀y∈aY E,df E.T y≠0:=λy hy=>by rw[W y (b y hy)];decide
 have hp:∀y∈aY E,0<eU E.T y:=λy hy=>(d y (b y hy)).2.2;have hr:∀y∈w',eU E.T y<eU E.T u:=λy hy=>by
  have:=u2 y (e4 y hy);have z:eU E.T u=E.T.beg.length:=z;have:eU E.T y<E.T.beg.length:=this;omega
 obtain⟨b0,b1,b2⟩:=Hl P hv hp hr;have z:eU E.T u=E.T.beg.length:=z;exact⟨u,w',P,b0,by omega,z,b2,(back_mem P hv hp hr).imp id λ⟨y,hy,e⟩=>⟨y,hy,e.symm⟩⟩
theorem EI.upd(h:EI n F r s l E)(q:HS)(a:HpG n 1000000000000 q)(hin:∀v,v∈E.q.row->v∈q.row)(k:Int)(hk:0<=k∧k<=1000000000)(pf:List Stp)(m:Int)(gl:aS):EI n F r s l {E with q:=q,inc:=k,pf:=pf,many:=m,gl:=gl}:=
 {h with hp:=a,inh:=λv c d b=>hin v (h.inh v c d b),inc:=hk}
theorem EI.rest(h:EI n F r s l E):EI n F r s l {E with con:=-1,calm:=false}:=
 {h with cal:=(λe=>by cases e),con:=(λe=>by simp at e)}
theorem EI.imp(h:EI n F r s l E){x:Ro}(hx:x∈bs 0 l){u:Int}(j:u∈x.lits)(b:gZ E.T u=0)(ho:∀y∈x.lits,y≠u->-y∈E.T.lits)(a:E.calm=false)(f:E.con<0):EI n F r s l {E with T:=mN E.T u x.at'}:=by
 have m:=(iX l 0 x hx).1;have e:mN E.T u x.at'=ja E.T u x.at':=by
  have:D6 E.T u x.at'=0:=by unfold D6;rw[Vs (by simp[b]),Vs (by omega)]
  unfold mN;rw[Vt this]
 rw[e];obtain⟨i,hi,d,g⟩:=Ht hx;have:=h.tok.hn;exact{h with
  tok:=h.tok.imp b _
  ef:=by
   show EF _ _ (gV (ja E.T u x.at'));rw[At h.tok.toTMk b,←g];refine h.ef.unit h.clsN (by rw[h.rt];omega) hi (by rw[d];exact j) (h.tok.mayR b) λy hy c=>?_;rw[ku];exact ho y (by rw[d]at hy;exact hy) c
  inh:=λv o p k=>h.inh v o p λe=>k (by show v∈(E.T.lits++[u]).map aq;rw[V1];exact WG _ e)
  cal:=λe=>by have e:E.calm=true:=e;rw[a]at e;cases e
  con:=λe=>by have e:0<=E.con:=e;omega}
end
end Go.AX
