/-
  Engines: what always holds of them, and that it stays (plain law).
  Engines: what is learnt of a conflict (plain law).
-/
import Derived.Test.YtepodadinenmnaaGreatS14AxEgD
import Derived.Test.YtepodadinenmnaaGreatS14AxEgR
namespace Go.AX
open Go.Proofs
set_option linter.unusedSimpArgs false
theorem w6{l:List Int}(h:l.Nodup):∀n,n≤l.length→jO l n=0
 |0,_=>rfl
 |n+1,hn=>by
  have hg:l.getD n 0=l[n]:=by simp[show n<l.length by omega]
  rw[jO,w6 h n (by omega),hg,if_neg];intro hm;obtain⟨j,hj,he⟩:=List.mem_take_iff_getElem.1 hm;exact List.pairwise_iff_getElem.1 h j n (by omega) (by omega) (by omega) he
theorem Cc{c:List Int}(hl:c.length≤1000)(hc:∀y∈c,da y=true)(hn:c.Nodup):iR c 100000=0:=by
 have hall:(c.all fun x=>rK x 100000)=true:=List.all_eq_true.2 fun x hx=>hc x hx;unfold iR;rw[if_neg (by omega),if_neg (by omega),if_neg (by rw[hall];simp),if_pos (w6 hn _ (Nat.le_refl _))]
def rC(l:List Rc):List (List Int):=(bk 0 l).map (·.lits)
def rA(l:List Rc):List Int:=(bk 0 l).map (·.at')
theorem HQ{l:List Rc}{i:Nat}(hi:i<(rC l).length):∃y∈bk 0 l,(rC l)[i]=y.lits∧(rA l).getD i 0=y.at':=by
 have hi':i<(bk 0 l).length:=by simpa[rC]using hi
 exact⟨_,List.getElem_mem hi',by simp[rC],by simp[rA,List.getD_eq_getElem?_getD,hi']⟩
theorem Fs{l:List Rc}{y:Ro}(hy:y∈bk 0 l):∃i,∃hi:i<(rC l).length,(rC l)[i]=y.lits∧(rA l).getD i 0=y.at':=by
 obtain⟨i,hi,rfl⟩:=List.getElem_of_mem hy;exact⟨i,by simpa[rC]using hi,by simp[rC],by simp[rA,List.getD_eq_getElem?_getD,hi]⟩
structure EI (n:Nat) (F:List (List Int)) (r s:Nat) (l:List Rc) (E:ES):Prop where
  n9:n≤400
  tok:TOk n E.T
  wok:WOk n E.S
  prz:E.S.prs.length+r≤1000000
  ari:ArI E.A l
  rsz:E.A.row.length+s≤1000000
  idz:0≤E.id∧E.id+r≤1000000
  ids:(∀x∈l,x.id≤E.id)∧(l.map (·.id)).Pairwise (·<·)
  cls:∀x∈bk 0 l,x.lits.length≤1000∧x.lits.Nodup∧∀y∈x.lits,ax y n=0
  att:∀k c,CW E.S k c↔∃x∈bk 0 l,x.at'=k∧x.lits=c
  ef:EF (rC l) (rA l) (eZ E.T)
  ent:∀x∈bk 0 l,IR F x.lits
  ovr:E.over=true↔∃x∈bk 0 l,x.lits=[]
  hp:HpG n 1000000000000 E.q
  inh:∀v:Int,1≤v→v≤n→v∉E.T.lits.map ab→v∈E.q.row
  ph:E.ph.length=n+1
  cal:E.calm=true→∀x∈bk 0 l,yZ E.T.lits x.lits
  con:0≤E.con→∃x∈bk 0 l,x.at'=E.con∧∀y∈x.lits,-y∈E.T.lits
  dcy:0≤E.decay∧E.decay≤100
  inc:0≤E.inc∧E.inc≤1000000000
section
variable {n r s : Nat} {F : List (List Int)} {l : List Rc} {E : ES}
theorem EI.mono(h:EI n F r s l E){r' s':Nat}(hr:r'≤r)(hs:s'≤s):EI n F r' s' l E:=
 {h with prz:=by have:=h.prz;omega,rsz:=by have:=h.rsz;omega,idz:=by have:=h.idz;omega}
theorem EI.cl(h:EI n F r s l E){y:Ro}(hy:y∈bk 0 l):y.lits.length≤1000∧∀z∈y.lits,da z=true:=by
 obtain⟨a,_,c⟩:=h.cls y hy;have:=h.n9;exact⟨a,fun z hz=>V.okL_chk (v:=n) (by omega) (c z hz)⟩
theorem EI.clsN(h:EI n F r s l E):V.ClsN (rC l) (rA l)where
 len:=fun c hc=>by obtain⟨y,hy,rfl⟩:=List.mem_map.1 hc;exact(h.cl hy).1
 chk:=fun c hc=>by obtain⟨y,hy,rfl⟩:=List.mem_map.1 hc;exact(h.cl hy).2
 pos:=fun k hk=>by obtain⟨y,hy,_,e⟩:=HQ hk;rw[e];have:=(iD l 0 y hy).1;omega
 nd:=fun c hc=>by obtain⟨y,hy,rfl⟩:=List.mem_map.1 hc;exact(h.cls y hy).2.1
def JA(l:List Rc)(E:ES)(con:Int):DK:=⟨E.A,E.T,⟨bk 0 l,E.A.row.length⟩,eZ E.T,con⟩
theorem EI.ars(h:EI n F r s l E){k:Nat}(hk:k<(rC l).length):isA E.A ((rA l).getD k 0)=true∧aq E.A ((rA l).getD k 0)=(rC l)[k]:=by
 obtain⟨y,hy,e1,e2⟩:=HQ hk;rw[e1,e2];exact⟨(h.ari.isA _).2 ⟨y,hy,rfl⟩,(h.ari.at hy).1⟩
theorem EI.desk(h:EI n F r s l E)(con:Int):V.DeskI (rC l) (rA l) (JA l E con)where
 ok:={
  rel:=h.tok.rel
  relA:=h.ari.rel
  rea:=fun i hi=>by
   by_cases c:(eZ E.T).rows[i].rea<0
   ·exact .inl c
   ·obtain⟨k,hk,g1,g2,g3,_⟩:=h.ef.imp i hi (by omega);obtain⟨a1,a2⟩:=h.ars hk;refine .inr ?_;show isA E.A (eZ E.T).rows[i].rea=true∧(eZ E.T).rows[i].l∈aq E.A (eZ E.T).rows[i].rea∧∀y∈aq E.A (eZ E.T).rows[i].rea,da y=true∧(y≠(eZ E.T).rows[i].l→aM (-y)∈((eZ E.T).rows.take i).map (·.l));rw[g1,a2];refine⟨a1,g2,fun y hy=>?_⟩;have ho:=h.clsN.chk _ (List.getElem_mem hk) y hy;refine⟨ho,fun hne=>?_⟩;obtain⟨j,hj,hji,e⟩:=g3 y hy hne;rw[(V.litO ho).2.2.2.2];exact List.mem_map.2 ⟨_,List.mem_take_iff_getElem.2 ⟨j,by omega,rfl⟩,e⟩
  len:=by have:=h.rsz;show E.A.row.length≤1000000;omega}
 cls:=h.clsN
 facts:=h.ef.toTraF
 ars:=fun _ hk=>h.ars hk
 id:=fun x hx=>h.ari.ids x hx
theorem EI.rt(h:EI n F r s l E):(eZ E.T).vars=n:=h.tok.vars
theorem gX(T:Tr):dx (eZ T)=T.lits:=by
 unfold dx eZ;simp[List.map_map,Function.comp_def,yY]
theorem EF.grow{cs:List (List Int)}{ats:List Int}{C:Int→List Int→Prop}{T T':Tr}(hC:V.ClsN cs ats)(hW:∀k c,C k c→∃i,∃hi:i<cs.length,cs[i]=c∧ats.getD i 0=k)(hT:TOk n T)(h:EF cs ats (eZ T))(g:Grow C n T T'):TOk n T'∧EF cs ats (eZ T'):=by
 induction g with
 |refl=>exact⟨hT,h⟩
 |@step T1 k o c _ h1 h2 h3 h4 h5 ih=>
  obtain⟨ih1,ih2⟩:=ih;refine⟨ih1.imp h3 k,?_⟩;obtain⟨i,hi,e1,e2⟩:=hW k c h1;rw[uT ih1.toTMk h3,←e2];have:=ih1.hn;refine ih2.unit hC (by show 0≤(T1.marks.length:Int) -1∧(T1.marks.length:Int) -1≤100000;rw[ih1.len];omega) hi (by rw[e1];exact h2) (ih1.mayR h3) fun y hy hne=>?_;rw[gX];exact h5 y (by rw[e1]at hy;exact hy) hne
theorem EI.prp(h:EI n F r s l E):EI n F r s l {E with S:=(fJ E.S E.T).1,T:=(fJ E.S E.T).2.1,con:=(fJ E.S E.T).2.2,calm:=decide ((fJ E.S E.T).2.2<0)}:=by
 have hp := EK h.wok h.tok; obtain ⟨g1, g2⟩ := EF.grow h.clsN (fun k c hc => by
  obtain⟨x,hx,e1,e2⟩:=(h.att k c).1 hc;obtain⟨i,hi,e3,e4⟩:=Fs hx;exact⟨i,hi,e3.trans e2,e4.trans e1⟩) h.tok h.ef hp.grow
 have hatt:∀k c,CW (fJ E.S E.T).1 k c↔∃x∈bk 0 l,x.at'=k∧x.lits=c:=fun k c=>(hp.same.lits k c).trans (h.att k c);have hpre:=hp.grow.pre.1;exact{h with
  tok:=hp.tok
  wok:=hp.ok
  prz:=by have:=h.prz;show(fJ E.S E.T).1.prs.length+r≤_;rw[hp.same.len];exact this
  att:=hatt
  ef:=g2
  inh:=fun v v1 v2 hv=>h.inh v v1 v2 fun hm=>hv ((hpre.map ab).subset hm)
  cal:=fun hc x hx=>by
   have hc:(fJ E.S E.T).2.2<0:=by simpa using hc
   obtain⟨p,hp1,hp2⟩:=(hatt x.at' x.lits).2 ⟨x,hx,rfl,rfl⟩;rcases hp.res with⟨_,r2⟩|⟨r1,_⟩
   ·have:=r2 _ p hp1;rw[hp2]at this;exact this
   ·omega
  con:=fun hc=>by
   have hc:0≤(fJ E.S E.T).2.2:=hc;rcases hp.res with⟨r1,_⟩|⟨_,p,r2,r3⟩
   ·omega
   ·obtain⟨x,hx,e1,e2⟩:=(hatt _ _).1 ⟨p,r2,rfl⟩;exact⟨x,hx,e1,by rw[e2];exact r3⟩}
theorem EI.dec(h:EI n F r s l E)(hc:E.calm=true){x:Int}(hx:eW E.T x=0)(q:HS)(hq:HpG n 1000000000000 q)(hin:∀v∈E.q.row,v∈q.row∨v∈E.T.lits.map ab∨v=ab x)(hcon:E.con<0):EI n F r s l {E with T:=jw E.T x,calm:=false,q:=q}:=by
 have hB:=h.tok.toTMk.beg (fun b hb=>(h.tok.bnd b hb).2);have hm:eW (ou E.T) x=0:=hx;have he:jw E.T x=fW (ou E.T) x (-1):=by unfold jw;rw[if_pos hx]
 have hr:eZ (jw E.T x)=⟨(eZ E.T).vars,(eZ E.T).rows++[⟨x,(eZ E.T).dep+1,-1⟩],(eZ E.T).dep+1⟩:=by
  rw[he,uT hB hm];have:((ou E.T).beg.length:Int)=(eZ E.T).dep+1:=by simp[ou,eZ]
  rw[this];rfl
 have hv:=h.rt;have hn:=h.n9;have hlit:(jw E.T x).lits=E.T.lits++[x]:=by rw[he];rfl
 exact{h with
  tok:=h.tok.dec x
  ef:=by
   show EF _ _ (eZ (jw E.T x));rw[hr];refine h.ef.app (by omega) (x:=⟨x,(eZ E.T).dep+1,-1⟩) (h.tok.mayR hx) rfl (by omega) (by omega) (fun _=>rfl) (fun e=>by dsimp only at e;omega) (fun _=>?_) (fun _=>by dsimp only;omega) (fun e=>by dsimp only at e;omega);rw[gX];refine AN (fun c hc=>?_) (fun y hy=>by have:=h.ef.one hy;rwa [gX]at this) fun c hc2=>?_
   ·obtain⟨y,hy,rfl⟩:=List.mem_map.1 hc;exact h.cl hy
   ·obtain⟨y,hy,rfl⟩:=List.mem_map.1 hc2;exact h.cal hc y hy
  hp:=hq
  inh:=fun v v1 v2 hvv=>by
   have hvv:v∉(jw E.T x).lits.map ab:=hvv;rw[hlit,List.map_append,List.mem_append,not_or]at hvv;rcases hin v (h.inh v v1 v2 hvv.1)with e|e|e
   ·exact e
   ·exact absurd e hvv.1
   ·exact absurd (by simp[e]) hvv.2
  cal:=fun e=>by cases e
  con:=fun e=>by have e:0≤E.con:=e;omega}
theorem EI.back(h:EI n F r s l E){k:Nat}(hk:k<E.T.beg.length)(q:HS)(hq:HpG n 1000000000000 q)(hin:∀v∈E.q.row,v∈q.row)(hin2:∀z∈E.T.lits,z∉(bZ E.T k).lits→ab z∈q.row)(p:List Bool)(hp:p.length=n+1):EI n F r s l {E with T:=bZ E.T k,q:=q,ph:=p,con:=-1,calm:=false}:=by
 obtain⟨t1,t2,t3⟩:=h.tok.back hk;have hb:=h.tok.bnd _ (List.getElem_mem hk);exact{h with
  tok:=t1
  ef:=by
   show EF _ _ (eZ (bZ E.T k));rw[wY h.tok hk];refine h.ef.back (by omega) (by show(k:Int)<(E.T.beg.length:Int);omega) fun i hi=>?_;obtain⟨hi',e⟩:=h.tok.rows hi;rw[e];show _↔lq E.T.beg i≤k;rw[AL h.tok.rise hk];omega
  hp:=hq
  inh:=fun v v1 v2 hv=>by
   by_cases c:v∈E.T.lits.map ab
   ·obtain⟨z,hz,rfl⟩:=List.mem_map.1 c;exact hin2 z hz fun e=>hv (List.mem_map_of_mem e)
   ·exact hin v (h.inh v v1 v2 c)
  ph:=hp
  cal:=fun e=>by cases e
  con:=fun e=>by simp at e}
theorem Ft{A:Ar}{T:Tr}{S:WS}(hT:TOk n T){k:Int}(h0:lh A k≠0)(h1:lk S.prs k=none)(h2:∀y∈aq A k,ax y n=0):nM A T S k=0∧mY A T S k=⟨pt S.prs k ⟨aq A k,0,0⟩,S.byl,pt S.late k (aM ((lk S.late k).getD 0+1)),S.head,S.seen⟩:=by
 have he:nM A T S k=0:=by
  unfold nM;rw[if_neg h0,h1,if_neg (by simp),if_neg];rw[hT.vars,Bool.not_eq_true,List.any_eq_false];intro y hy;simp[h2 y hy]
 refine⟨he,?_⟩;unfold mY;rw[if_pos he]
theorem EI.add{c:List Int}(h:EI n F (r+1) (s+(3+c.length)) l E)(b:Bool)(hl:c.length≤1000)(hn:c.Nodup)(hc:∀y∈c,ax y n=0)(he:IR F c)(hclm:∀k:Int,0<k→k≤(eZ E.T).dep→yZ (bel (eZ E.T) k) c)(hcal:E.calm=false)(hcon:E.con<0)
 (q:HS) (hq:HpG n 1000000000000 q) (hin:∀v∈E.q.row,v∈q.row):
 iw (E.id+1) c=0∧nM (cX E.A (E.id+1) c b) E.T E.S E.A.row.length=0∧EI n F r s (l++[⟨E.id+1,eh b,c⟩]) {E with id:=E.id+1,A:=cX E.A (E.id+1) c b,over:=E.over||decide (c.length=0),S:=mY (cX E.A (E.id+1) c b) E.T E.S E.A.row.length,q:=q}:=by
 have hn9:=h.n9;have hput:iw (E.id+1) c=0:=by
  have:=h.idz;unfold iw;rw[if_neg (by omega)];exact Cc hl (fun y hy=>V.okL_chk (v:=n) (by omega) (hc y hy)) hn
 have hA:=h.ari.put hput b;have hs:eh b≠2:=by unfold eh;split<;>omega
 have hlen:(bd l).length=E.A.row.length:=by rw[h.ari.row]
 have hr:bk 0 (l++[⟨E.id+1,eh b,c⟩])=bk 0 l++[⟨E.A.row.length,E.id+1,c⟩]:=by
  rw[ja,hlen,Nat.zero_add];show bk 0 l++(if eh b=2 then _ else _)=_;rw[if_neg hs];rfl
 have hme:(⟨E.A.row.length,E.id+1,c⟩:Ro)∈bk 0 (l++[⟨E.id+1,eh b,c⟩]):=by rw[hr];simp
 obtain⟨a1,a2⟩:=hA.at hme;dsimp only at a1 a2;have hnk:E.A.row.length∉(E.S.prs.map (·.1)).map Int.toNat∧lk E.S.prs E.A.row.length=none:=by
  have key:lk E.S.prs E.A.row.length=none:=by
   cases e:lk E.S.prs (E.A.row.length:Int)with
   |none=>rfl
   |some p=>
    obtain⟨x,hx,e1,_⟩:=(h.att _ p.lits).1 ⟨p,e,rfl⟩;have:=(iD l 0 x hx).2;omega
  refine⟨fun hm=>?_,key⟩;obtain⟨z,hz,e⟩:=List.mem_map.1 hm;have h1:=mem_keys.2 hz;obtain⟨p,hp⟩:=Option.isSome_iff_exists.1 h1;obtain⟨x,hx,e1,_⟩:=(h.att _ p.lits).1 ⟨p,hp,rfl⟩;have:=iD l 0 x hx;omega
 have vm:lh (cX E.A (E.id+1) c b) E.A.row.length≠0:=by rw[a2];have:=h.idz;omega
 obtain⟨t1,t2⟩:=Ft (A:=cX E.A (E.id+1) c b) h.tok vm hnk.2 (by rw[a1];exact hc);refine⟨hput,t1,?_⟩;rw[t2,a1];have hrow:(cX E.A (E.id+1) c b).row.length=E.A.row.length+(3+c.length):=by
  unfold cX;rw[if_pos hput];simp;omega
 have hnk2:(E.A.row.length:Int)∉E.S.prs.map (·.1):=fun hm=>by
  have:=mem_keys.2 hm;rw[hnk.2]at this;cases this
 have hfr:pt E.S.prs (E.A.row.length:Int) ⟨c,0,0⟩=E.S.prs++[((E.A.row.length:Int),⟨c,0,0⟩)]:=q6 fun q hq e=>hnk2 (List.mem_map.2 ⟨q,hq,e⟩);have hrsz:=h.rsz;have hW:=h.wok.put hnk2 ⟨by omega,by omega⟩ hn hl hc (aM ((lk E.S.late (E.A.row.length:Int)).getD 0+1));have hprz:=h.prz;have hidz:=h.idz;exact{h with
  wok:={hW with
   few:=by show(pt E.S.prs _ _).length≤_;rw[hfr,List.length_append];simp;omega
   h0:=h.wok.h0,h1:=h.wok.h1,sl:=h.wok.sl,clr:=h.wok.clr}
  prz:=by show(pt E.S.prs _ _).length+r≤_;rw[hfr,List.length_append];simp;omega
  ari:=hA
  rsz:=by show(cX E.A (E.id+1) c b).row.length+s≤_;rw[hrow];omega
  idz:=by show 0≤E.id+1∧E.id+1+(r:Int)≤_;omega
  ids:=by
   refine⟨fun x hx=>?_,?_⟩
   ·rcases List.mem_append.1 hx with hx|hx
    ·have:=h.ids.1 x hx;show x.id≤E.id+1;omega
    ·simp at hx;subst hx;exact Int.le_refl _
   ·rw[List.map_append,List.pairwise_append];refine⟨h.ids.2,by simp,fun a ha d hd=>?_⟩;obtain⟨x,hx,rfl⟩:=List.mem_map.1 ha;simp at hd;have:=h.ids.1 x hx;omega
  cls:=fun x hx=>by
   rw[hr]at hx;rcases List.mem_append.1 hx with hx|hx
   ·exact h.cls x hx
   ·simp at hx;subst hx;exact⟨hl,hn,hc⟩
  att:=fun k d=>by
   rw[hr];unfold CW;show(∃p,lk (pt E.S.prs (E.A.row.length:Int) ⟨c,0,0⟩) k=some p∧p.lits=d)↔_
   by_cases e:k=E.A.row.length
   ·subst e;rw[dD];constructor
    ·rintro⟨_,e1,e2⟩;cases e1;exact⟨⟨E.A.row.length,E.id+1,c⟩,by simp,rfl,e2⟩
    ·rintro⟨x,hx,e1,e2⟩;rcases List.mem_append.1 hx with hx|hx
     ·have:=(iD l 0 x hx).2;omega
     ·simp at hx;subst hx;exact⟨_,rfl,e2⟩
   ·rw[dL e];refine(h.att k d).trans ⟨fun⟨x,hx,e1⟩=>⟨x,by simp[hx],e1⟩,fun⟨x,hx,e1,e2⟩=>?_⟩;rcases List.mem_append.1 hx with hx|hx
    ·exact⟨x,hx,e1,e2⟩
    ·simp at hx;subst hx;exact absurd e1.symm e
  ef:=by
   have e1:rC (l++[⟨E.id+1,eh b,c⟩])=rC l++[c]:=by unfold rC;rw[hr];simp
   have e2:rA (l++[⟨E.id+1,eh b,c⟩])=rA l++[(E.A.row.length:Int)]:=by unfold rA;rw[hr];simp
   rw[e1,e2];refine h.ef.cls (fun k k0 kd d hd=>?_) fun i hi _ k hk _ _=>?_
   ·rcases List.mem_append.1 hd with hd|hd
    ·exact h.ef.clm k k0 kd d hd
    ·simp at hd;subst hd;refine AN (cs:=[d]) (fun c' hc'=>?_) (fun y hy=>?_) (fun c' hc'=>?_) d (by simp)
     ·simp at hc';subst hc';exact⟨hl,fun y hy=>V.okL_chk (v:=n) (by omega) (hc y hy)⟩
     ·rintro⟨u1,u2⟩;exact h.ef.one hy ⟨iz _ u1,iz _ u2⟩
     ·simp at hc';subst hc';exact hclm k k0 kd
   ·have hkA:k<(rA l).length:=by simpa[rA,rC]using hk
    exact⟨k,by simp;omega,by simp only[List.getD_eq_getElem?_getD];rw[List.getElem?_append_left hkA],List.getElem_append_left hk⟩
  ent:=fun x hx=>by
   rw[hr]at hx;rcases List.mem_append.1 hx with hx|hx
   ·exact h.ent x hx
   ·simp at hx;subst hx;exact he
  ovr:=by
   show(E.over||decide (c.length=0))=true↔_;rw[hr,Bool.or_eq_true,h.ovr,decide_eq_true_eq,List.length_eq_zero_iff];constructor
   ·rintro(⟨x,hx,e⟩|e)
    ·exact⟨x,by simp[hx],e⟩
    ·exact⟨⟨E.A.row.length,E.id+1,c⟩,by simp,e⟩
   ·rintro⟨x,hx,e⟩;rcases List.mem_append.1 hx with hx|hx
    ·exact .inl ⟨x,hx,e⟩
    ·simp at hx;subst hx;exact .inr e
  hp:=hq
  inh:=fun v v1 v2 hv=>hin v (h.inh v v1 v2 hv)
  cal:=fun e=>by have e:E.calm=true:=e;rw[hcal]at e;cases e
  con:=fun e=>by have e:0≤E.con:=e;omega}
end
theorem y8{n:Nat}{T:Tr}(hT:TOk n T){i:Nat}(hi:i<T.lits.length):dB T (-T.lits[i])=lq T.beg i:=by
 have hof:dq T (ab T.lits[i])=(br T (ab T.lits[i]),true):=by
  obtain⟨_,_,_,v1,v2,_⟩:=bQ hT.hn (hT.chk _ (List.getElem_mem hi));have hm:=(hT.mark i hi).1;unfold dq;rw[if_neg];rintro(h|h|h)
  ·omega
  ·rw[hT.len]at h;omega
  ·rw[hm]at h;unfold wI at h;split at h<;>omega
 unfold dB;rw[dt,hof];exact(hT.mark i hi).2.1
theorem AP{n:Nat}{T:Tr}(hT:TOk n T){k:Nat}(hk:k<T.beg.length){y:Int}(hy:-y∈T.lits):-y∈(bZ T k).lits↔dB T y≤k:=by
 obtain⟨i,hi,e⟩:=List.getElem_of_mem hy;have hb:=hT.bnd _ (List.getElem_mem hk);have he:dB T y=lq T.beg i:=by rw[←y8 hT hi,e,Int.neg_neg]
 rw[he,AL hT.rise hk,(hT.back hk).2.1,List.mem_take_iff_getElem];constructor
 ·rintro⟨j,hj,e2⟩;have:j=i:=hT.inj (by omega) hi (by rw[e2,e]);omega
 ·exact fun h=>⟨i,by omega,e⟩
theorem AR{n:Nat}{T:Tr}(hT:TOk n T){y k:Int}(h:-y∈bel (eZ T) k):dB T y<k:=by
 obtain⟨x,hx,e⟩:=List.mem_map.1 h;obtain⟨hx,hl⟩:=List.mem_filter.1 hx;obtain⟨i,hi,rfl⟩:=List.getElem_of_mem hx;obtain⟨hi',e2⟩:=hT.rows hi;rw[e2]at e hl;dsimp only at e hl;rw[decide_eq_true_eq]at hl;rw[show y=-T.lits[i] by omega,y8 hT hi'];exact hl
section
variable {n r s : Nat} {F : List (List Int)} {l : List Rc} {E : ES}
theorem EI.conf(h:EI n F r s l E)(hc:0≤E.con):V.Conf (JA l E E.con) E.con:=by
 obtain⟨x,hx,e1,e2⟩:=h.con hc;obtain⟨k,hk,e3,e4⟩:=Fs hx;have hf:FX (dx (eZ E.T)) (rC l)[k]=-1:=by
  rw[mR,e3];intro y hy _;have ho:=(h.cl hx).2 y hy;have hm:-y∈dx (eZ E.T):=by rw[gX];exact e2 y hy
  exact V.val3_m1_of ho hm fun hm2=>h.ef.one ho ⟨hm2,hm⟩
 have:=V.conf_at (h.desk E.con).toDeskT hk hf;rw[e4,e1]at this;exact this
def aI(E:ES):List Int:=oy E.A E.T (cZ E.A E.T E.con)
def ic(E:ES):List Int:=(po E.A E.T (aI E) E.con).1
structure ResOk (n:Nat) (F:List (List Int)) (l:List Rc) (E:ES):Prop where
  le:jE E.A E.T E.con=0
  ln:(cZ E.A E.T E.con).length≤n
  yes:(po E.A E.T (aI E) E.con).2=true
  nd:(aI E).Nodup
  len:(aI E).length≤n
  chk:∀y∈aI E,ax y n=0
  neg:∀y∈aI E,-y∈E.T.lits
  hin:(ic E).Nodup∧∀q∈ic E,∃x∈bk 0 l,x.at'=q
  hle:(ic E).length≤n+1
  shw:(pp (wy (aI E)) ((ic E).map (aq E.A)) 0).2.2=0
  ent:IR F (aI E)
  lev:(E.T.beg.length=0∧aI E=[])∨∃u w,aI E=u::w∧0≤ed E.T (aI E)∧ed E.T (aI E)<E.T.beg.length∧dB E.T u=E.T.beg.length∧(∀y∈w,dB E.T y≤ed E.T (aI E))∧(ed E.T (aI E)=0∨∃y∈w,dB E.T y=ed E.T (aI E))
theorem EI.res(h:EI n F r s l E)(hc:0≤E.con):ResOk n F l E:=by
 have hI:=h.desk E.con;have hD:=hI.toDeskT;have hC:=h.conf hc;obtain⟨t1,t2⟩:=V.learn_is hD hC;have hT:=h.tok;have hd:(eZ E.T).dep=E.T.beg.length:=rfl;have eL:aI E=oy E.A E.T (cZ E.A E.T E.con):=rfl;have eH:ic E=(po E.A E.T (aI E) E.con).1:=rfl;have id0:lh E.A E.con≠0:=V.id_is hI hC.is;have le:jE E.A E.T E.con=0:=by
  unfold jE;rw[if_neg id0,if_neg];have:mV E.T (aq E.A E.con)=true:=by
   unfold mV;rw[Bool.not_eq_true',List.any_eq_false];intro y hy;obtain⟨_,j,hj,e⟩:=hC.neg y hy;have:=V.val_of hD hj e;have:bV E.T y=-1:=this;simp[this]
  rw[this];decide
 have t1:V.Learnt (JA l E E.con) (cZ E.A E.T E.con):=t1;have t2:∀y∈aq E.A E.con,HOk E.A E.T (cZ E.A E.T E.con) y:=t2;generalize hLe:cZ E.A E.T E.con=L at*;have hsl:(aI E).Sublist L:=by rw[eL];exact Hf _ _ _
 have hsub:∀y∈aI E,y∈L:=fun y hy=>hsl.subset hy;have hrow:∀y∈L,da y=true∧-y∈E.T.lits∧0<dB E.T y:=fun y hy=>by
  obtain⟨a,j,hj,e,e2⟩:=t1.neg y hy;obtain⟨hj',e3⟩:=hT.rows (i:=j) hj;have e:(eZ E.T).rows[j].l=-y:=e;have e2:0<(eZ E.T).rows[j].lev:=e2;rw[e3]at e e2;dsimp only at e e2;refine⟨a,e▸List.getElem_mem hj',?_⟩;rw[show y=-E.T.lits[j] by omega,y8 hT hj'];exact e2
 have hvl:∀y∈L,bV E.T y=-1:=fun y hy=>by
  obtain⟨_,j,hj,e,_⟩:=t1.neg y hy;exact V.val_of hD hj e
 have hN:V.AllNeg (JA l E E.con) L:=fun y hy=>by obtain⟨a,j,hj,e,_⟩:=t1.neg y hy;exact⟨a,j,hj,e⟩
 have hN2:V.AllNeg (JA l E E.con) (aI E):=fun y hy=>hN y (hsub y hy);have hchk:∀y∈L,ax y n=0:=fun y hy=>by
  have:=oV hT.hn (hT.chk _ (hrow y hy).2.1)
  rwa [Int.neg_neg]at this
 have ln:L.length≤n:=by
  have h1:(L.map fun y=>-y).Nodup:=List.pairwise_map.2 (t1.nd.imp fun hne e=>hne (by omega));have:=eG _ E.T.lits h1 fun x hx=>by obtain⟨y,hy,rfl⟩:=List.mem_map.1 hx;exact(hrow y hy).2.1
  rw[List.length_map]at this;have:=hT.few;omega
 have hk:=V.sho_hok hD hN;have hk:∀x∈L,HOk E.A E.T (aI E) x:=by rw[eL];exact hk
 have hok:=V.hints_ok_of hI hC (L:=aI E) fun y hy=>Cb hk (t2 y hy);have hok:(jZ E.A E.T (aI E) E.con).ok=true:=hok;have eS:po E.A E.T (aI E) E.con=(pn E.T (jZ E.A E.T (aI E) E.con).at' E.con,true):=by
  unfold po;rw[if_neg id0,if_neg (by rw[hok];decide)]
 obtain⟨s1,s2,l',s3⟩:=V.hints_show hI hC hN2 hok;have e1:ic E=pn E.T (jZ E.A E.T (aI E) E.con).at' E.con:=by rw[eH,eS]
 have s1:(ic E).Nodup:=by rw[e1];exact s1
 have s2:∀q∈ic E,∃x∈bk 0 l,x.at'=q:=fun q hq=>by rw[e1]at hq;exact(h.ari.isA q).1 (s2 q hq)
 have s3:(pp (wy (aI E)) ((ic E).map (aq E.A)) 0).2.2=0:=by
  have s3:pp (wy (aI E)) ((pn E.T (jZ E.A E.T (aI E) E.con).at' E.con).map (aq E.A)) 0=_:=s3;rw[e1,s3]
 refine⟨le,by rw[hLe];exact ln,by rw[eS],t1.nd.sublist hsl,Nat.le_trans hsl.length_le ln,fun y hy=>hchk y (hsub y hy),fun y hy=>(hrow y (hsub y hy)).2.1,⟨s1,s2⟩,by
  rw[e1];have:=qW E.T (jZ E.A E.T (aI E) E.con).at' E.T.lits.length;have:=hT.few;unfold pn;split
  ·omega
  ·rw[List.length_append];simp;omega,s3,fun m hm=>?_,?_⟩
 ·refine V.show_sound (fun y hy=>(hrow y (hsub y hy)).1) (fun c hc=>?_) s3 fun c hc=>?_
  ·obtain⟨q,hq,rfl⟩:=List.mem_map.1 hc;obtain⟨x,hx,rfl⟩:=s2 q hq;rw[(h.ari.at hx).1];have:=(h.cl hx).1;omega
  ·obtain⟨q,hq,rfl⟩:=List.mem_map.1 hc;obtain⟨x,hx,rfl⟩:=s2 q hq;rw[(h.ari.at hx).1];exact h.ent x hx m hm
 ·have hd2:(JA l E E.con).t.dep=E.T.beg.length:=rfl;rcases Nat.eq_zero_or_pos E.T.beg.length with c|c
  ·left;have:=t1.nil (by rw[hd2];omega);refine⟨c,?_⟩;rw[this]at hsl;exact List.sublist_nil.1 hsl
  ·right;obtain⟨u,w,e,u1,u2⟩:=t1.top (by rw[hd2];omega);obtain⟨w',e3,e4⟩:=Ff E.A E.T u w;have e5:aI E=u::w':=by rw[eL,e];exact e3
   rw[hd2]at u1 u2;have hv:∀y∈aI E,bV E.T y≠0:=fun y hy=>by rw[hvl y (hsub y hy)];decide
   have hp:∀y∈aI E,0<dB E.T y:=fun y hy=>(hrow y (hsub y hy)).2.2;have hr:∀y∈w',dB E.T y<dB E.T u:=fun y hy=>by
    have:=u2 y (e4 y hy);have u1:dB E.T u=E.T.beg.length:=u1;have:dB E.T y<E.T.beg.length:=this;omega
   obtain⟨b0,b1,b2⟩:=AH e5 hv hp hr;have u1:dB E.T u=E.T.beg.length:=u1;exact⟨u,w',e5,b0,by omega,u1,b2,(back_mem e5 hv hp hr).imp id fun⟨y,hy,e⟩=>⟨y,hy,e.symm⟩⟩
theorem EI.upd(h:EI n F r s l E)(q:HS)(hq:HpG n 1000000000000 q)(hin:∀v,v∈E.q.row→v∈q.row)(k:Int)(hk:0≤k∧k≤1000000000)(pf:List Stp)(m:Int)(gl:List (Int×Int)):EI n F r s l {E with q:=q,inc:=k,pf:=pf,many:=m,gl:=gl}:=
 {h with hp:=hq,inh:=fun v v1 v2 hv=>hin v (h.inh v v1 v2 hv),inc:=hk}
theorem EI.rest(h:EI n F r s l E):EI n F r s l {E with con:=-1,calm:=false}:=
 {h with cal:=(fun e=>by cases e),con:=(fun e=>by simp at e)}
theorem EI.imp(h:EI n F r s l E){x:Ro}(hx:x∈bk 0 l){u:Int}(hu:u∈x.lits)(hm:eW E.T u=0)(ho:∀y∈x.lits,y≠u→-y∈E.T.lits)(hcal:E.calm=false)(hcon:E.con<0):EI n F r s l {E with T:=jx E.T u x.at'}:=by
 have hx0:=(iD l 0 x hx).1;have e:jx E.T u x.at'=fW E.T u x.at':=by
  have:yg E.T u x.at'=0:=by unfold yg;rw[if_neg (by simp[hm]),if_neg (by omega)]
  unfold jx;rw[if_pos this]
 rw[e];obtain⟨i,hi,e1,e2⟩:=Fs hx;have:=h.tok.hn;exact{h with
  tok:=h.tok.imp hm _
  ef:=by
   show EF _ _ (eZ (fW E.T u x.at'));rw[uT h.tok.toTMk hm,←e2];refine h.ef.unit h.clsN (by rw[h.rt];omega) hi (by rw[e1];exact hu) (h.tok.mayR hm) fun y hy hne=>?_;rw[gX];exact ho y (by rw[e1]at hy;exact hy) hne
  inh:=fun v v1 v2 hv=>h.inh v v1 v2 fun e=>hv (by show v∈(E.T.lits++[u]).map ab;rw[List.map_append];exact List.mem_append_left _ e)
  cal:=fun e=>by have e:E.calm=true:=e;rw[hcal]at e;cases e
  con:=fun e=>by have e:0≤E.con:=e;omega}
end
end Go.AX