/-
  Engines: what always holds of them, and that it stays (plain law).
  Engines: what is learnt of a conflict (plain law).
-/
import Derived.Test.YtepodadinenmnaaGreatS14AxEgD
import Derived.Test.YtepodadinenmnaaGreatS14AxEgR
namespace Go.AX
open Go.Proofs
set_option linter.unusedSimpArgs false
theorem xd{l:List Int}(h:l.Nodup):∀n,n<=l.length->jW l n=0
 |0,_=>rfl
 |n+1,hn=>by
  have b:l.getD n 0=l[n]:=by simp[show n<l.length by omega]
  rw[jW,xd h n (by omega),b,N8];intro c;obtain⟨j,hj,a⟩:=Pm.1 c;exact OR.1 h j n (by omega) (by omega) (by omega) a
theorem Cn{c:List Int}(d:c.length<=1000)(b:∀y∈c,da y=true)(hn:c.Nodup):iM c 100000=0:=by
 have a:(c.all λx=>pz x 100000)=true:=OP.2 λx hx=>b x hx;unfold iM;rw[N8 (by omega),N8 (by omega),N8 (by rw[a];simp),N9 (xd hn _ (Oc _))]
def rC(l:List Rc):List (List Int):=(bi 0 l).map (·.lits)
def rA(l:List Rc):List Int:=(bi 0 l).map (·.at')
theorem Iq{l:List Rc}{i:Nat}(hi:i<(rC l).length):∃y∈bi 0 l,(rC l)[i]=y.lits∧(rA l).getD i 0=y.at':=by
 have a:i<(bi 0 l).length:=by simpa[rC]using hi
 exact⟨_,Od a,by simp[rC],by simp[rA,N7,a]⟩
theorem FD{l:List Rc}{y:Ro}(hy:y∈bi 0 l):∃i,∃hi:i<(rC l).length,(rC l)[i]=y.lits∧(rA l).getD i 0=y.at':=by
 obtain⟨i,hi,rfl⟩:=Oo hy;exact⟨i,by simpa[rC]using hi,by simp[rC],by simp[rA,N7,hi]⟩
structure EI (n:Nat) (F:List (List Int)) (r s:Nat) (l:List Rc) (E:ES):Prop where
  n9:n<=400
  tok:TOk n E.T
  wok:WOk n E.S
  prz:E.S.prs.length+r<=1000000
  ari:ArI E.A l
  rsz:E.A.row.length+s<=1000000
  idz:0<=E.id∧E.id+r<=1000000
  ids:(∀x∈l,x.id<=E.id)∧(l.map (·.id)).Pairwise (·<·)
  cls:∀x∈bi 0 l,x.lits.length<=1000∧x.lits.Nodup∧∀y∈x.lits,au y n=0
  att:∀k c,CW E.S k c↔∃x∈bi 0 l,x.at'=k∧x.lits=c
  ef:EF (rC l) (rA l) (dL E.T)
  ent:∀x∈bi 0 l,J9 F x.lits
  ovr:E.over=true↔∃x∈bi 0 l,x.lits=[]
  hp:HpG n 1000000000000 E.q
  inh:∀v:Int,1<=v->v<=n->v∉E.T.lits.map ab->v∈E.q.row
  ph:E.ph.length=n+1
  cal:E.calm=true->∀x∈bi 0 l,ze E.T.lits x.lits
  con:0<=E.con->∃x∈bi 0 l,x.at'=E.con∧∀y∈x.lits,-y∈E.T.lits
  dcy:0<=E.decay∧E.decay<=100
  inc:0<=E.inc∧E.inc<=1000000000
section
variable {n r s : Nat} {F : List (List Int)} {l : List Rc} {E : ES}
theorem EI.mono(h:EI n F r s l E){a s':Nat}(b:a<=r)(hs:s'<=s):EI n F a s' l E:=
 {h with prz:=by have:=h.prz;omega,rsz:=by have:=h.rsz;omega,idz:=by have:=h.idz;omega}
theorem EI.cl(h:EI n F r s l E){y:Ro}(hy:y∈bi 0 l):y.lits.length<=1000∧∀z∈y.lits,da z=true:=by
 obtain⟨a,_,c⟩:=h.cls y hy;have:=h.n9;exact⟨a,λz hz=>V.okL_chk (v:=n) (by omega) (c z hz)⟩
theorem EI.clsN(h:EI n F r s l E):V.ClsN (rC l) (rA l)where
 len:=λc a=>by obtain⟨y,hy,rfl⟩:=Of.1 a;exact(h.cl hy).1
 chk:=λc a=>by obtain⟨y,hy,rfl⟩:=Of.1 a;exact(h.cl hy).2
 pos:=λk hk=>by obtain⟨y,hy,_,e⟩:=Iq hk;rw[e];have:=(iG l 0 y hy).1;omega
 nd:=λc a=>by obtain⟨y,hy,rfl⟩:=Of.1 a;exact(h.cls y hy).2.1
def Ka(l:List Rc)(E:ES)(con:Int):DK:=⟨E.A,E.T,⟨bi 0 l,E.A.row.length⟩,dL E.T,con⟩
theorem EI.ars(h:EI n F r s l E){k:Nat}(hk:k<(rC l).length):isA E.A ((rA l).getD k 0)=true∧aq E.A ((rA l).getD k 0)=(rC l)[k]:=by
 obtain⟨y,hy,a,b⟩:=Iq hk;rw[a,b];exact⟨(h.ari.isA _).2 ⟨y,hy,rfl⟩,(h.ari.at hy).1⟩
theorem EI.desk(h:EI n F r s l E)(con:Int):V.DeskI (rC l) (rA l) (Ka l E con)where
 ok:={
  rel:=h.tok.rel
  relA:=h.ari.rel
  rea:=λi hi=>by
   by_cases c:(dL E.T).rows[i].rea<0
   .exact .inl c
   .obtain⟨k,hk,f,g2,g3,_⟩:=h.ef.imp i hi (by omega);obtain⟨b,d⟩:=h.ars hk;refine .inr ?_;show isA E.A (dL E.T).rows[i].rea=true∧(dL E.T).rows[i].l∈aq E.A (dL E.T).rows[i].rea∧∀y∈aq E.A (dL E.T).rows[i].rea,da y=true∧(y≠(dL E.T).rows[i].l->a8 (-y)∈((dL E.T).rows.take i).map (·.l));rw[f,d];refine⟨b,g2,λy hy=>?_⟩;have ho:=h.clsN.chk _ (Od hk) y hy;refine⟨ho,λa=>?_⟩;obtain⟨j,hj,g,e⟩:=g3 y hy a;rw[(V.litO ho).2.2.2.2];exact Of.2 ⟨_,Pm.2 ⟨j,by omega,rfl⟩,e⟩
  len:=by have:=h.rsz;show E.A.row.length<=1000000;omega}
 cls:=h.clsN
 facts:=h.ef.toTraF
 ars:=λ_ hk=>h.ars hk
 id:=λx hx=>h.ari.ids x hx
theorem EI.rt(h:EI n F r s l E):(dL E.T).vars=n:=h.tok.vars
theorem ez(T:Tr):dv (dL T)=T.lits:=by
 unfold dv dL;simp[Pa,Q8,zd]
theorem EF.grow{cs:List (List Int)}{ats:List Int}{C:Int->List Int->Prop}{T T':Tr}(q:V.ClsN cs ats)(s:∀k c,C k c->∃i,∃hi:i<cs.length,cs[i]=c∧ats.getD i 0=k)(r:TOk n T)(h:EF cs ats (dL T))(g:Grow C n T T'):TOk n T'∧EF cs ats (dL T'):=by
 induction g with
 |refl=>exact⟨r,h⟩
 |@step f k o c _ h1 m b u p t=>
  obtain⟨a,e⟩:=t;refine⟨a.imp b k,?_⟩;obtain⟨i,hi,j,l⟩:=s k c h1;rw[uX a.toTMk b,←l];have:=a.hn;refine e.unit q (by show 0<=(f.marks.length:Int) -1∧(f.marks.length:Int) -1<=100000;rw[a.len];omega) hi (by rw[j];exact m) (a.mayR b) λy hy d=>?_;rw[ez];exact p y (by rw[j]at hy;exact hy) d
theorem EI.prp(h:EI n F r s l E):EI n F r s l {E with S:=(er E.S E.T).1,T:=(er E.S E.T).2.1,con:=(er E.S E.T).2.2,calm:=decide ((er E.S E.T).2.2<0)}:=by
 have hp := EY h.wok h.tok; obtain ⟨A, g2⟩ := EF.grow h.clsN (λ k c b => by
  obtain⟨x,hx,e,f⟩:=(h.att k c).1 b;obtain⟨i,hi,o,q⟩:=FD hx;exact⟨i,hi,o.trans f,q.trans e⟩) h.tok h.ef hp.grow
 have a:∀k c,CW (er E.S E.T).1 k c↔∃x∈bi 0 l,x.at'=k∧x.lits=c:=λk c=>(hp.same.lits k c).trans (h.att k c);have d:=hp.grow.pre.1;exact{h with
  tok:=hp.tok
  wok:=hp.ok
  prz:=by have:=h.prz;show(er E.S E.T).1.prs.length+r<=_;rw[hp.same.len];exact this
  att:=a
  ef:=g2
  inh:=λv y z u=>h.inh v y z λt=>u ((d.map ab).subset t)
  cal:=λb x hx=>by
   have b:(er E.S E.T).2.2<0:=by simpa using b
   obtain⟨p,g,j⟩:=(a x.at' x.lits).2 ⟨x,hx,rfl,rfl⟩;rcases hp.res with⟨_,m⟩|⟨w,_⟩
   .have:=m _ p g;rw[j]at this;exact this
   .omega
  con:=λb=>by
   have b:0<=(er E.S E.T).2.2:=b;rcases hp.res with⟨w,_⟩|⟨_,p,m,r3⟩
   .omega
   .obtain⟨x,hx,e,f⟩:=(a _ _).1 ⟨p,m,rfl⟩;exact⟨x,hx,e,by rw[f];exact r3⟩}
theorem EI.dec(h:EI n F r s l E)(f:E.calm=true){x:Int}(hx:eV E.T x=0)(q:HS)(p:HpG n 1000000000000 q)(hin:∀v∈E.q.row,v∈q.row∨v∈E.T.lits.map ab∨v=ab x)(i:E.con<0):EI n F r s l {E with T:=fH E.T x,calm:=false,q:=q}:=by
 have k:=h.tok.toTMk.beg (λb m=>(h.tok.bnd b m).2);have o:eV (oD E.T) x=0:=hx;have j:fH E.T x=f9 (oD E.T) x (-1):=by unfold fH;rw[N9 hx]
 have t:dL (fH E.T x)=⟨(dL E.T).vars,(dL E.T).rows++[⟨x,(dL E.T).dep+1,-1⟩],(dL E.T).dep+1⟩:=by
  rw[j,uX k o];have:((oD E.T).beg.length:Int)=(dL E.T).dep+1:=by simp[oD,dL]
  rw[this];rfl
 have z:=h.rt;have hn:=h.n9;have d:(fH E.T x).lits=E.T.lits++[x]:=by rw[j];rfl
 exact{h with
  tok:=h.tok.dec x
  ef:=by
   show EF _ _ (dL (fH E.T x));rw[t];refine h.ef.app (by omega) (x:=⟨x,(dL E.T).dep+1,-1⟩) (h.tok.mayR hx) rfl (by omega) (by omega) (λ_=>rfl) (λe=>by dsimp only at e;omega) (λ_=>?_) (λ_=>by dsimp only;omega) (λe=>by dsimp only at e;omega);rw[ez];refine AY (λc f=>?_) (λy hy=>by have:=h.ef.one hy;rwa [ez]at this) λc g=>?_
   .obtain⟨y,hy,rfl⟩:=Of.1 f;exact h.cl hy
   .obtain⟨y,hy,rfl⟩:=Of.1 g;exact h.cal f y hy
  hp:=p
  inh:=λv u w a=>by
   have a:v∉(fH E.T x).lits.map ab:=a;rw[d,OJ,Om,SS]at a;rcases hin v (h.inh v u w a.1)with e|e|e
   .exact e
   .exact absurd e a.1
   .exact absurd (by simp[e]) a.2
  cal:=λe=>by cases e
  con:=λe=>by have e:0<=E.con:=e;omega}
theorem EI.back(h:EI n F r s l E){k:Nat}(hk:k<E.T.beg.length)(q:HS)(d:HpG n 1000000000000 q)(hin:∀v∈E.q.row,v∈q.row)(a:∀z∈E.T.lits,z∉(cq E.T k).lits->ab z∈q.row)(p:List Bool)(hp:p.length=n+1):EI n F r s l {E with T:=cq E.T k,q:=q,ph:=p,con:=-1,calm:=false}:=by
 obtain⟨t1,o,t3⟩:=h.tok.back hk;have m:=h.tok.bnd _ (Od hk);exact{h with
  tok:=t1
  ef:=by
   show EF _ _ (dL (cq E.T k));rw[xa h.tok hk];refine h.ef.back (by omega) (by show(k:Int)<(E.T.beg.length:Int);omega) λi hi=>?_;obtain⟨b,e⟩:=h.tok.rows hi;rw[e];show _↔lB E.T.beg i<=k;rw[uW h.tok.rise hk];omega
  hp:=d
  inh:=λv g j f=>by
   by_cases c:v∈E.T.lits.map ab
   .obtain⟨z,hz,rfl⟩:=Of.1 c;exact a z hz λe=>f (Qh e)
   .exact hin v (h.inh v g j c)
  ph:=hp
  cal:=λe=>by cases e
  con:=λe=>by simp at e}
theorem FE{A:Ar}{T:Tr}{S:WS}(c:TOk n T){k:Int}(h0:lY A k≠0)(h1:lk S.prs k=none)(b:∀y∈aq A k,au y n=0):nS A T S k=0∧nf A T S k=⟨pt S.prs k ⟨aq A k,0,0⟩,S.byl,pt S.late k (a8 ((lk S.late k).getD 0+1)),S.head,S.seen⟩:=by
 have a:nS A T S k=0:=by
  unfold nS;rw[N8 h0,h1,N8 (by simp),N8];rw[c.vars,Rn,QS];intro y hy;simp[b y hy]
 refine⟨a,?_⟩;unfold nf;rw[N9 a]
theorem EI.add{c:List Int}(h:EI n F (r+1) (s+(3+c.length)) l E)(b:Bool)(I:c.length<=1000)(hn:c.Nodup)(u:∀y∈c,au y n=0)(Z:J9 F c)(B:∀k:Int,0<k->k<=(dL E.T).dep->ze (bel (dL E.T) k) c)(w:E.calm=false)(Q:E.con<0)
 (q:HS) (N:HpG n 1000000000000 q) (hin:∀v∈E.q.row,v∈q.row):
 iC (E.id+1) c=0∧nS (cU E.A (E.id+1) c b) E.T E.S E.A.row.length=0∧EI n F r s (l++[⟨E.id+1,eb b,c⟩]) {E with id:=E.id+1,A:=cU E.A (E.id+1) c b,over:=E.over||decide (c.length=0),S:=nf (cU E.A (E.id+1) c b) E.T E.S E.A.row.length,q:=q}:=by
 have aa:=h.n9;have j:iC (E.id+1) c=0:=by
  have:=h.idz;unfold iC;rw[N8 (by omega)];exact Cn I (λy hy=>V.okL_chk (v:=n) (by omega) (u y hy)) hn
 have P:=h.ari.put j b;have hs:eb b≠2:=by unfold eb;split<;>omega
 have D:(aZ l).length=E.A.row.length:=by rw[h.ari.row]
 have t:bi 0 (l++[⟨E.id+1,eb b,c⟩])=bi 0 l++[⟨E.A.row.length,E.id+1,c⟩]:=by
  rw[gj,D,O3];show bi 0 l++(if eb b=2 then _ else _)=_;rw[N8 hs];rfl
 have M:(⟨E.A.row.length,E.id+1,c⟩:Ro)∈bi 0 (l++[⟨E.id+1,eb b,c⟩]):=by rw[t];simp
 obtain⟨J,O⟩:=P.at M;dsimp only at J O;have G:E.A.row.length∉(E.S.prs.map (·.1)).map Int.toNat∧lk E.S.prs E.A.row.length=none:=by
  have key:lk E.S.prs E.A.row.length=none:=by
   cases e:lk E.S.prs (E.A.row.length:Int)with
   |none=>rfl
   |some p=>
    obtain⟨x,hx,f,_⟩:=(h.att _ p.lits).1 ⟨p,e,rfl⟩;have:=(iG l 0 x hx).2;omega
  refine⟨λL=>?_,key⟩;obtain⟨z,hz,e⟩:=Of.1 L;have h1:=mem_keys.2 hz;obtain⟨p,hp⟩:=QO.1 h1;obtain⟨x,hx,f,_⟩:=(h.att _ p.lits).1 ⟨p,hp,rfl⟩;have:=iG l 0 x hx;omega
 have qj:lY (cU E.A (E.id+1) c b) E.A.row.length≠0:=by rw[O];have:=h.idz;omega
 obtain⟨t1,t2⟩:=FE (A:=cU E.A (E.id+1) c b) h.tok qj G.2 (by rw[J];exact u);refine⟨j,t1,?_⟩;rw[t2,J];have H:(cU E.A (E.id+1) c b).row.length=E.A.row.length+(3+c.length):=by
  unfold cU;rw[N9 j];simp;omega
 have m:(E.A.row.length:Int)∉E.S.prs.map (·.1):=λL=>by
  have:=mem_keys.2 L;rw[G.2]at this;cases this
 have C:pt E.S.prs (E.A.row.length:Int) ⟨c,0,0⟩=E.S.prs++[((E.A.row.length:Int),⟨c,0,0⟩)]:=rf λq N e=>m (Of.2 ⟨q,N,e⟩);have W:=h.rsz;have X:=h.wok.put m ⟨by omega,by omega⟩ hn I u (a8 ((lk E.S.late (E.A.row.length:Int)).getD 0+1));have U:=h.prz;have R:=h.idz;exact{h with
  wok:={X with
   few:=by show(pt E.S.prs _ _).length<=_;rw[C,Oi];simp;omega
   h0:=h.wok.h0,h1:=h.wok.h1,sl:=h.wok.sl,clr:=h.wok.clr}
  prz:=by show(pt E.S.prs _ _).length+r<=_;rw[C,Oi];simp;omega
  ari:=P
  rsz:=by show(cU E.A (E.id+1) c b).row.length+s<=_;rw[H];omega
  idz:=by show 0<=E.id+1∧E.id+1+(r:Int)<=_;omega
  ids:=by
   refine⟨λx hx=>?_,?_⟩
   .rcases Om.1 hx with hx|hx
    .have:=h.ids.1 x hx;show x.id<=E.id+1;omega
    .simp at hx;subst hx;exact Qx _
   .rw[OJ,QN];refine⟨h.ids.2,by simp,λa Y d hd=>?_⟩;obtain⟨x,hx,rfl⟩:=Of.1 Y;simp at hd;have:=h.ids.1 x hx;omega
  cls:=λx hx=>by
   rw[t]at hx;rcases Om.1 hx with hx|hx
   .exact h.cls x hx
   .simp at hx;subst hx;exact⟨I,hn,u⟩
  att:=λk d=>by
   rw[t];unfold CW;show(∃p,lk (pt E.S.prs (E.A.row.length:Int) ⟨c,0,0⟩) k=some p∧p.lits=d)↔_
   by_cases e:k=E.A.row.length
   .subst e;rw[dB];constructor
    .rintro⟨_,f,o⟩;cases f;exact⟨⟨E.A.row.length,E.id+1,c⟩,by simp,rfl,o⟩
    .rintro⟨x,hx,f,o⟩;rcases Om.1 hx with hx|hx
     .have:=(iG l 0 x hx).2;omega
     .simp at hx;subst hx;exact⟨_,rfl,o⟩
   .rw[dJ e];refine(h.att k d).trans ⟨λ⟨x,hx,f⟩=>⟨x,by simp[hx],f⟩,λ⟨x,hx,f,o⟩=>?_⟩;rcases Om.1 hx with hx|hx
    .exact⟨x,hx,f,o⟩
    .simp at hx;subst hx;exact absurd f.symm e
  ef:=by
   have f:rC (l++[⟨E.id+1,eb b,c⟩])=rC l++[c]:=by unfold rC;rw[t];simp
   have o:rA (l++[⟨E.id+1,eb b,c⟩])=rA l++[(E.A.row.length:Int)]:=by unfold rA;rw[t];simp
   rw[f,o];refine h.ef.cls (λk k0 kd d hd=>?_) λi hi _ k hk _ _=>?_
   .rcases Om.1 hd with hd|hd
    .exact h.ef.clm k k0 kd d hd
    .simp at hd;subst hd;refine AY (cs:=[d]) (λc' g=>?_) (λy hy=>?_) (λc' g=>?_) d (by simp)
     .simp at g;subst g;exact⟨I,λy hy=>V.okL_chk (v:=n) (by omega) (u y hy)⟩
     .rintro⟨u1,u2⟩;exact h.ef.one hy ⟨fh _ u1,fh _ u2⟩
     .simp at g;subst g;exact B k k0 kd
   .have K:k<(rA l).length:=by simpa[rA,rC]using hk
    exact⟨k,by simp;omega,by simp only[N7];rw[Oa K],OZ hk⟩
  ent:=λx hx=>by
   rw[t]at hx;rcases Om.1 hx with hx|hx
   .exact h.ent x hx
   .simp at hx;subst hx;exact Z
  ovr:=by
   show(E.over||decide (c.length=0))=true↔_;rw[t,Pu,h.ovr,Ov,Qk];constructor
   .rintro(⟨x,hx,e⟩|e)
    .exact⟨x,by simp[hx],e⟩
    .exact⟨⟨E.A.row.length,E.id+1,c⟩,by simp,e⟩
   .rintro⟨x,hx,e⟩;rcases Om.1 hx with hx|hx
    .exact .inl ⟨x,hx,e⟩
    .simp at hx;subst hx;exact .inr e
  hp:=N
  inh:=λv v1 v2 hv=>hin v (h.inh v v1 v2 hv)
  cal:=λe=>by have e:E.calm=true:=e;rw[w]at e;cases e
  con:=λe=>by have e:0<=E.con:=e;omega}
end
theorem rG{n:Nat}{T:Tr}(a:TOk n T){i:Nat}(hi:i<T.lits.length):dw T (-T.lits[i])=lB T.beg i:=by
 have b:dm T (ab T.lits[i])=(bz T (ab T.lits[i]),true):=by
  obtain⟨_,_,_,d,e,_⟩:=bm a.hn (a.chk _ (Od hi));have c:=(a.mark i hi).1;unfold dm;rw[N8];rintro(h|h|h)
  .omega
  .rw[a.len]at h;omega
  .rw[c]at h;unfold wN at h;split at h<;>omega
 unfold dw;rw[dr,b];exact(a.mark i hi).2.1
theorem A0{n:Nat}{T:Tr}(a:TOk n T){k:Nat}(hk:k<T.beg.length){y:Int}(hy:-y∈T.lits):-y∈(cq T k).lits↔dw T y<=k:=by
 obtain⟨i,hi,e⟩:=Oo hy;have d:=a.bnd _ (Od hk);have c:dw T y=lB T.beg i:=by rw[←rG a hi,e,P1]
 rw[c,uW a.rise hk,(a.back hk).2.1,Pm];constructor
 .rintro⟨j,hj,b⟩;have:j=i:=a.inj (by omega) hi (by rw[b,e]);omega
 .exactλh=>⟨i,by omega,e⟩
theorem nZ{n:Nat}{T:Tr}(c:TOk n T){y k:Int}(h:-y∈bel (dL T) k):dw T y<k:=by
 obtain⟨x,hx,e⟩:=Of.1 h;obtain⟨hx,a⟩:=OW.1 hx;obtain⟨i,hi,rfl⟩:=Oo hx;obtain⟨b,d⟩:=c.rows hi;rw[d]at e a;dsimp only at e a;rw[Ov]at a;rw[show y=-T.lits[i] by omega,rG c b];exact a
section
variable {n r s : Nat} {F : List (List Int)} {l : List Rc} {E : ES}
theorem EI.conf(h:EI n F r s l E)(g:0<=E.con):V.Conf (Ka l E E.con) E.con:=by
 obtain⟨x,hx,c,d⟩:=h.con g;obtain⟨k,hk,e,f⟩:=FD hx;have i:DR (dv (dL E.T)) (rC l)[k]=-1:=by
  rw[lp,e];intro y hy _;have ho:=(h.cl hx).2 y hy;have b:-y∈dv (dL E.T):=by rw[ez];exact d y hy
  exact V.val3_m1_of ho b λa=>h.ef.one ho ⟨a,b⟩
 have:=V.conf_at (h.desk E.con).toDeskT hk i;rw[f,c]at this;exact this
def aE(E:ES):List Int:=oG E.A E.T (cY E.A E.T E.con)
def iP(E:ES):List Int:=(pE E.A E.T (aE E) E.con).1
structure ResOk (n:Nat) (F:List (List Int)) (l:List Rc) (E:ES):Prop where
  le:jK E.A E.T E.con=0
  ln:(cY E.A E.T E.con).length<=n
  yes:(pE E.A E.T (aE E) E.con).2=true
  nd:(aE E).Nodup
  len:(aE E).length<=n
  chk:∀y∈aE E,au y n=0
  neg:∀y∈aE E,-y∈E.T.lits
  hin:(iP E).Nodup∧∀q∈iP E,∃x∈bi 0 l,x.at'=q
  hle:(iP E).length<=n+1
  shw:(kh (oJ (aE E)) ((iP E).map (aq E.A)) 0).2.2=0
  ent:J9 F (aE E)
  lev:(E.T.beg.length=0∧aE E=[])∨∃u w,aE E=u::w∧0<=ea E.T (aE E)∧ea E.T (aE E)<E.T.beg.length∧dw E.T u=E.T.beg.length∧(∀y∈w,dw E.T y<=ea E.T (aE E))∧(ea E.T (aE E)=0∨∃y∈w,dw E.T y=ea E.T (aE E))
theorem EI.res(h:EI n F r s l E)(D:0<=E.con):ResOk n F l E:=by
 have N:=h.desk E.con;have M:=N.toDeskT;have C:=h.conf D;obtain⟨t1,Y⟩:=V.learn_is M C;have o:=h.tok;have hd:(dL E.T).dep=E.T.beg.length:=rfl;have Q:aE E=oG E.A E.T (cY E.A E.T E.con):=rfl;have eH:iP E=(pE E.A E.T (aE E) E.con).1:=rfl;have I:lY E.A E.con≠0:=V.id_is N C.is;have le:jK E.A E.T E.con=0:=by
  unfold jK;rw[N8 I,N8];have:m8 E.T (aq E.A E.con)=true:=by
   unfold m8;rw[OY,QS];intro y hy;obtain⟨_,j,hj,e⟩:=C.neg y hy;have:=V.val_of M hj e;have:bZ E.T y=-1:=this;simp[this]
  rw[this];decide
 have t1:V.Learnt (Ka l E E.con) (cY E.A E.T E.con):=t1;have Y:∀y∈aq E.A E.con,HOk E.A E.T (cY E.A E.T E.con) y:=Y;generalize R:cY E.A E.T E.con=L at*;have f:(aE E).Sublist L:=by rw[Q];exact Hz _ _ _
 have b:∀y∈aE E,y∈L:=λy hy=>f.subset hy;have d:∀y∈L,da y=true∧-y∈E.T.lits∧0<dw E.T y:=λy hy=>by
  obtain⟨a,j,hj,e,B⟩:=t1.neg y hy;obtain⟨H,O⟩:=o.rows (i:=j) hj;have e:(dL E.T).rows[j].l=-y:=e;have B:0<(dL E.T).rows[j].lev:=B;rw[O]at e B;dsimp only at e B;refine⟨a,e▸Od H,?_⟩;rw[show y=-E.T.lits[j] by omega,rG o H];exact B
 have W:∀y∈L,bZ E.T y=-1:=λy hy=>by
  obtain⟨_,j,hj,e,_⟩:=t1.neg y hy;exact V.val_of M hj e
 have hN:V.AllNeg (Ka l E E.con) L:=λy hy=>by obtain⟨a,j,hj,e,_⟩:=t1.neg y hy;exact⟨a,j,hj,e⟩
 have S:V.AllNeg (Ka l E E.con) (aE E):=λy hy=>hN y (b y hy);have G:∀y∈L,au y n=0:=λy hy=>by
  have:=pc o.hn (o.chk _ (d y hy).2.1)
  rwa [P1]at this
 have ln:L.length<=n:=by
  have h1:(L.map λy=>-y).Nodup:=Qa.2 (t1.nd.imp λU e=>U (by omega));have:=cX _ E.T.lits h1 λx hx=>by obtain⟨y,hy,rfl⟩:=Of.1 hx;exact(d y hy).2.1
  rw[Oj]at this;have:=o.few;omega
 have hk:=V.sho_hok M hN;have hk:∀x∈L,HOk E.A E.T (aE E) x:=by rw[Q];exact hk
 have g:=V.hints_ok_of N C (L:=aE E) λy hy=>Cm hk (Y y hy);have g:(kg E.A E.T (aE E) E.con).ok=true:=g;have Z:pE E.A E.T (aE E) E.con=(pD E.T (kg E.A E.T (aE E) E.con).at' E.con,true):=by
  unfold pE;rw[N8 I,N8 (by rw[g];decide)]
 obtain⟨X,J,l',v⟩:=V.hints_show N C S g;have K:iP E=pD E.T (kg E.A E.T (aE E) E.con).at' E.con:=by rw[eH,Z]
 have X:(iP E).Nodup:=by rw[K];exact X
 have J:∀q∈iP E,∃x∈bi 0 l,x.at'=q:=λq p=>by rw[K]at p;exact(h.ari.isA q).1 (J q p)
 have v:(kh (oJ (aE E)) ((iP E).map (aq E.A)) 0).2.2=0:=by
  have v:kh (oJ (aE E)) ((pD E.T (kg E.A E.T (aE E) E.con).at' E.con).map (aq E.A)) 0=_:=v;rw[K,v]
 refine⟨le,by rw[R];exact ln,by rw[Z],t1.nd.sublist f,OM f.length_le ln,λy hy=>G y (b y hy),λy hy=>(d y (b y hy)).2.1,⟨X,J⟩,by
  rw[K];have:=q7 E.T (kg E.A E.T (aE E) E.con).at' E.T.lits.length;have:=o.few;unfold pD;split
  .omega
  .rw[Oi];simp;omega,v,λm hm=>?_,?_⟩
 .refine V.show_sound (λy hy=>(d y (b y hy)).1) (λc D=>?_) v λc D=>?_
  .obtain⟨q,p,rfl⟩:=Of.1 D;obtain⟨x,hx,rfl⟩:=J q p;rw[(h.ari.at hx).1];have:=(h.cl hx).1;omega
  .obtain⟨q,p,rfl⟩:=Of.1 D;obtain⟨x,hx,rfl⟩:=J q p;rw[(h.ari.at hx).1];exact h.ent x hx m hm
 .have k:(Ka l E E.con).t.dep=E.T.beg.length:=rfl;rcases Qn E.T.beg.length with c|c
  .left;have:=t1.nil (by rw[k];omega);refine⟨c,?_⟩;rw[this]at f;exact List.sublist_nil.1 f
  .right;obtain⟨u,w,e,z,u2⟩:=t1.top (by rw[k];omega);obtain⟨w',O,e4⟩:=Fq E.A E.T u w;have P:aE E=u::w':=by rw[Q,e];exact O
   rw[k]at z u2;have hv:∀y∈aE E,bZ E.T y≠0:=λy hy=>by rw[W y (b y hy)];decide
   have hp:∀y∈aE E,0<dw E.T y:=λy hy=>(d y (b y hy)).2.2;have hr:∀y∈w',dw E.T y<dw E.T u:=λy hy=>by
    have:=u2 y (e4 y hy);have z:dw E.T u=E.T.beg.length:=z;have:dw E.T y<E.T.beg.length:=this;omega
   obtain⟨b0,b1,b2⟩:=AT P hv hp hr;have z:dw E.T u=E.T.beg.length:=z;exact⟨u,w',P,b0,by omega,z,b2,(back_mem P hv hp hr).imp id λ⟨y,hy,e⟩=>⟨y,hy,e.symm⟩⟩
theorem EI.upd(h:EI n F r s l E)(q:HS)(a:HpG n 1000000000000 q)(hin:∀v,v∈E.q.row->v∈q.row)(k:Int)(hk:0<=k∧k<=1000000000)(pf:List Stp)(m:Int)(gl:List (Int×Int)):EI n F r s l {E with q:=q,inc:=k,pf:=pf,many:=m,gl:=gl}:=
 {h with hp:=a,inh:=λv c d b=>hin v (h.inh v c d b),inc:=hk}
theorem EI.rest(h:EI n F r s l E):EI n F r s l {E with con:=-1,calm:=false}:=
 {h with cal:=(λe=>by cases e),con:=(λe=>by simp at e)}
theorem EI.imp(h:EI n F r s l E){x:Ro}(hx:x∈bi 0 l){u:Int}(j:u∈x.lits)(b:eV E.T u=0)(ho:∀y∈x.lits,y≠u->-y∈E.T.lits)(a:E.calm=false)(f:E.con<0):EI n F r s l {E with T:=jE E.T u x.at'}:=by
 have m:=(iG l 0 x hx).1;have e:jE E.T u x.at'=f9 E.T u x.at':=by
  have:yo E.T u x.at'=0:=by unfold yo;rw[N8 (by simp[b]),N8 (by omega)]
  unfold jE;rw[N9 this]
 rw[e];obtain⟨i,hi,d,g⟩:=FD hx;have:=h.tok.hn;exact{h with
  tok:=h.tok.imp b _
  ef:=by
   show EF _ _ (dL (f9 E.T u x.at'));rw[uX h.tok.toTMk b,←g];refine h.ef.unit h.clsN (by rw[h.rt];omega) hi (by rw[d];exact j) (h.tok.mayR b) λy hy c=>?_;rw[ez];exact ho y (by rw[d]at hy;exact hy) c
  inh:=λv o p k=>h.inh v o p λe=>k (by show v∈(E.T.lits++[u]).map ab;rw[OJ];exact Pc _ e)
  cal:=λe=>by have e:E.calm=true:=e;rw[a]at e;cases e
  con:=λe=>by have e:0<=E.con:=e;omega}
end
end Go.AX