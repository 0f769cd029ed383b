/-
  A call of the law: what holds of an engine stays.
  Two engines that the document fixes (plain law).
  Contracts: what the document fixes.
  The law's contract: EngineAgrees.
-/
import Derived.Test.YtepodadinenmnaaGreatS14AxEhA
import Derived.Test.YtepodadinenmnaaGreatS14AxEgI
import Derived.Test.YtepodadinenmnaaGreatS14AxEgQ
namespace Go.AX
open Go.Proofs
set_option linter.unusedSimpArgs false
theorem AW{A:Ar}:∀(l a:List Rc),A.row=bd (a++l)→(((bk (bd a).length l).map (·.at')).filter (nQ A)).length≤(l.filter fun x=>decide (x.side=1)).length
 |[],_,_=>by simp[bk]
 |x::l,a,h=>by
  have ih:=AW l (a++[x]) (by simpa using h);have e:(bd (a++[x])).length=(bd a).length+x.sz:=by rw[i9];simp[bd,Rc.sz];omega
  rw[e]at ih;have hr:=(uU a x l).2.2.1;rw[←h]at hr;rw[bk]
  by_cases c:x.side=2
  ·rw[if_pos c];exact Nat.le_trans ih (by rw[List.filter_cons];split<;>simp)
  ·rw[if_neg c,List.map_cons]
   by_cases d:x.side=1
   ·have h1:∀(f:Int→Bool)(k:Int)(ks:List Int),((k::ks).filter f).length≤(ks.filter f).length+1:=fun f k ks=>by
     rw[List.filter_cons];split<;>simp
    rw[List.filter_cons_of_pos (p:=fun x:Rc=>decide (x.side=1)) (by simp[d]),List.length_cons];exact Nat.le_trans (h1 _ _ _) (by omega)
   ·have:nQ A (((bd a).length:Nat):Int)=false:=by
     unfold nQ;rw[Int.toNat_natCast,hr,decide_eq_false d,Bool.and_false]
    rw[List.filter_cons,List.filter_cons,if_neg (by simp[this]),if_neg (by simp[d])];exact ih
structure EJ (n:Nat) (F:List (List Int)) (r s:Nat) (l:List Rc) (E:ES):Prop extends EI n F r s l E where
  kp:(((l.filter fun x=>decide (x.side=1)).length+r:Nat):Int)≤E.keep
  mny:0≤E.many∧E.many+r≤1000000
  pfz:E.pf.length+r≤1000000
  pfs:∀x∈E.pf,x.lits.length≤1000000∧x.hints.length≤1000000
  vr:E.vars=n
  fm:E.cs=F
section
variable {n r s : Nat} {F : List (List Int)} {l : List Rc} {E : ES}
theorem EJ.less(h:EJ n F (r+1) (s+(n+3)) l E):EJ n F r s l E:=
 {h.toEI.mono (Nat.le_succ _) (Nat.le_add_right _ _)with
  kp:=by have:=h.kp;omega
  mny:=by have:=h.mny;omega
  pfz:=by have:=h.pfz;omega
  pfs:=h.pfs,vr:=h.vr,fm:=h.fm}
theorem EJ.to{E':ES}{l':List Rc}(h:EJ n F r s l E)(hI:EI n F r s l' E')(hl:l'=l)(hk:E'.keep=E.keep)(hm:E'.many=E.many)(hp:E'.pf=E.pf)(hv:E'.vars=E.vars)(hc:E'.cs=E.cs):EJ n F r s l' E':=
 {hI with kp:=by rw[hl,hk];exact h.kp,mny:=by rw[hm];exact h.mny,pfz:=by rw[hp];exact h.pfz,pfs:=by rw[hp];exact h.pfs,vr:=hv.trans h.vr,fm:=hc.trans h.fm}
theorem EI.calmc(h:EI n F r s l E)(hc:E.calm=true):E.con<0:=by
 apply Classical.byContradiction;intro hn;obtain⟨x,hx,_,h2⟩:=h.con (by omega);have ho:=(h.cl hx).2;rcases h.cal hc x hx with⟨y,h3,h4⟩|⟨y,z,h3,_,_,h4,_⟩
 ·have:=h.ef.one (ho y h3);rw[gX]at this;exact this ⟨h4,h2 y h3⟩
 ·exact h4 (h2 y h3)
theorem EI.again(h:EI n F r s l E)(q:HS)(hq:HpTo n E.q q)(p:List Bool)(hp:p.length=n+1)(hin:∀z∈E.T.lits,z∉(d7 E.T 0).lits→ab z∈q.row):EI n F r s l {E with T:=d7 E.T 0,q:=q,ph:=p,con:=-1,calm:=false}:=by
 unfold d7 at hin⊢
 by_cases c:0<E.T.beg.length
 ·rw[if_pos (by simp;omega)]at hin⊢;exact h.back c q hq.hp hq.mem hin p hp
 ·rw[if_neg (by simpa using c)];exact{h.rest with hp:=hq.hp,inh:=fun v v1 v2 hv=>hq.mem v (h.inh v v1 v2 hv),ph:=hp}
theorem EI.decs(h:EI n F r s l E){E':ES}{b:Bool}(hd:AV n E E' b):EI n F r s l E':=by
 rcases hd with⟨_,rfl,_⟩|⟨_,hc,q,hq,⟨_,x,hx,rfl,hin⟩|⟨_,rfl,hr,hin⟩⟩
 ·exact h
 ·exact h.dec hc hx q hq hin (h.calmc hc)
 ·exact{h with hp:=hq,inh:=fun v v1 v2 hv=>absurd (hin v (h.inh v v1 v2 hv)) hv}
theorem EI.prps(h:EI n F r s l E):EI n F r s l (bf E):=by
 unfold bf;split
 ·exact h
 ·exact h.prp
end
section
variable {h : List (List SV)} {be bt ba bw bh : Nat} {mp : List (Int × Nat)} {mb : List (Int × By)} {E : ES} {n r s : Nat} {F : List (List Int)} {l : List Rc}
def HT(h:List (List SV))(be bt ba bw bh:Nat)(mp:List (Int×Nat))(mb:List (Int×By))(n:Nat)(F:List (List Int))(r s:Nat)(h':List (List SV)):Prop:=∃mp' mb' E' l',LayE h' be bt ba bw bh mp' mb' E'∧Ext h h' (d9 be bt ba bw bh mp mb) (d9 be bt ba bw bh mp' mb')∧EJ n F r s l' E'
theorem FM(L:LayE h be bt ba bw bh mp mb E)(I:EJ n F (r+1) (s+(n+3)) l E)(k:Int):
 aE Tryz.prog 22 [.ptr be 0,ae k] h (fun y h'=>y=.pv (.tup [])∧HT h be bt ba bw bh mp mb n F r s h'):=by
 refine dh [] [] aG Tryz.func22 (by kernel_rfl) rfl rfl (by kernel_rfl) (Nat.le_of_ble_eq_true rfl) ?_; have J := I.less; have hI := I.toEI; have hn9 := hI.n9; have hT := hI.tok; have hself : HT h be bt ba bw bh mp mb n F r s h := ⟨mp, mb, E, l, L, Ext.refl _ _, J⟩; have k0 := rz L hI.wok hT; have k2 := zc L hT hI.hp hI.ph; have k3 := o5 L hT hI.hp hI.ph; have k4 := xb L hI.ari (by have := hI.rsz; omega) hT.okT (by
  have h1:=AW (A:=E.A) l [] (by rw[List.nil_append];exact hI.ari.row);have h2:=I.kp;have h3:(((rA l).filter (nQ E.A)).length)≤(l.filter fun x=>decide (x.side=1)).length:=h1;omega)
 by_cases c0:k=0
 ·simp[c0];refine ak.intro k0 (by simp) ?_;rintro _ H ⟨rfl,mb',L',X'⟩;simp;exact⟨mp,mb',bf E,l,L',X',J.to J.toEI.prps rfl (by unfold bf;split<;>rfl) (by unfold bf;split<;>rfl) (by unfold bf;split<;>rfl) (by unfold bf;split<;>rfl) (by unfold bf;split<;>rfl)⟩
 by_cases c1:k=1
 ·simp[c1]
  by_cases cc:E.over=true∨E.con<0
  ·refine ak.intro (uX L.e cc) (by simp) ?_;rintro _ _ ⟨rfl,rfl⟩;simpa using hself
  ·have ho:E.over=false:=by cases e:E.over<;>simp[e]at cc⊢
   have hc:0≤E.con:=by omega
   have hR:=hI.res hc;refine ak.intro (o6 L hI ho hc (by have:=I.pfz;omega) (by have:=I.mny;omega)) (by simp) ?_;rintro _ H ⟨rfl,mp',q,p,k',L',X',I'⟩;simp;have hln:=hR.len;have hle:=hR.hle;refine⟨mp',mb,_,_,L',X',{I' with kp:=?_,mny:=?_,pfz:=?_,pfs:=?_,vr:=I.vr,fm:=I.fm}⟩
   ·have h2:=I.kp;show _≤E.keep;rw[List.filter_append];simp;omega
   ·have:=I.mny;show 0≤E.many+1∧E.many+1+r≤1000000;omega
   ·have:=I.pfz;show(E.pf++[_]).length+r≤1000000;simp;omega
   ·intro x hx;rcases List.mem_append.1 hx with hx|hx
    ·exact I.pfs x hx
    ·simp at hx;subst hx;exact⟨by show(aI E).length≤_;omega,by simp;omega⟩
 by_cases c2:k=2
 ·simp[c2];refine ak.intro k2 (by simp) ?_;rintro _ H ⟨E',b,rfl,hd,L',X'⟩;simp;refine⟨mp,mb,E',l,L',X',?_⟩;have hE:=J.toEI.decs hd;rcases hd with⟨_,rfl,_⟩|⟨_,_,q,_,⟨_,x,_,rfl,_⟩|⟨_,rfl,_,_⟩⟩
  ·exact J
  ·exact J.to hE rfl rfl rfl rfl rfl rfl
  ·exact J.to hE rfl rfl rfl rfl rfl rfl
 by_cases c3:k=3
 ·simp[c3];refine ak.intro k3 (by simp) ?_;rintro _ H ⟨rfl,⟨_,rfl⟩|⟨_,q,p,L',X',hq,hp,hin⟩⟩
  ·simpa using hself
  ·simp;exact⟨mp,mb,_,l,L',X',J.to (J.toEI.again q hq p hp hin) rfl rfl rfl rfl rfl rfl⟩
 simp[c0,c1,c2,c3];refine ak.intro k4 (by simp) ?_;rintro _ _ ⟨rfl,rfl⟩;simpa using hself
end
section
variable {n r s : Nat} {F : List (List Int)} {l : List Rc} {E : ES}
theorem rF{c:List Int}(h:c∈rC l):∃x∈bk 0 l,x.lits=c:=by
 obtain⟨x,hx,e⟩:=List.mem_map.1 h;exact⟨x,hx,e⟩
theorem FN{x:Ro}(h:x∈bk 0 l):x.lits∈rC l:=List.mem_map_of_mem h
theorem EI.notover(h:EI n F r s l E)(hn:[]∉rC l):E.over=false:=by
 cases e:E.over
 ·rfl
 ·obtain⟨x,hx,e2⟩:=h.ovr.1 e;exact absurd (e2▸FN hx) hn
theorem EI.one(h:EI n F r s l E){y:Int}(hy:da y=true):¬(y∈E.T.lits∧-y∈E.T.lits):=by
 have:=h.ef.one hy
 rwa [gX]at this
theorem EI.prpbeg(h:EI n F r s l E):(bf E).T.beg=E.T.beg:=by
 unfold bf;split
 ·rfl
 ·exact(EK h.wok h.tok).grow.pre.2
theorem EI.prpover:(bf E).over=E.over:=by unfold bf;split<;>rfl
theorem EI.zero(h:EI n F r s l E)(hb:E.T.beg.length=0){y:Int}(hy:y∈E.T.lits):IR F [y]:=by
 obtain⟨i,hi,rfl⟩:=List.getElem_of_mem hy;have hi2:i<(eZ E.T).rows.length:=by simpa[eZ]using hi
 obtain⟨_,e⟩:=h.tok.rows hi2;have hz:=h.ef.zero h.clsN (F:=F) (fun c hc=>by obtain⟨x,hx,rfl⟩:=rF hc;exact h.ent x hx) (i+1) i hi2 (by omega)
  (by rw[e];have:=AK E.T.beg i;dsimp only;omega)
 rw[e]at hz;exact hz
theorem xi(ho:E.over=false):(bf E).calm=decide ((bf E).con<0):=by
 unfold bf;rw[if_neg (by simp[ho])]
theorem IU(I:EI 1 [[1],[-1]] r s l E)(hr:rC l=[[1],[-1]])(hT:E.T=iP 1):E.over=false∧(bf E).calm=false∧0≤(bf E).con∧(bf E).over=false∧(bf E).T.beg.length=0:=by
 have ho:=I.notover (by rw[hr];simp);have J:=I.prps;have hc:(bf E).calm=false:=by
  cases e:(bf E).calm
  ·rfl
  ·obtain⟨x,hx,e1⟩:=rF (l:=l) (c:=[1]) (by rw[hr];simp);obtain⟨y,hy,e2⟩:=rF (l:=l) (c:=[-1]) (by rw[hr];simp);have h1:=J.cal e x hx;have h2:=J.cal e y hy;rw[e1]at h1;rw[e2]at h2;have g1:(1:Int)∈(bf E).T.lits:=by
    rcases h1 with⟨z,h3,h4⟩|⟨z,w,h3,h4,h5,_⟩
    ·simp at h3;subst h3;exact h4
    ·simp at h3 h4;omega
   have g2:(-1:Int)∈(bf E).T.lits:=by
    rcases h2 with⟨z,h3,h4⟩|⟨z,w,h3,h4,h5,_⟩
    ·simp at h3;subst h3;exact h4
    ·simp at h3 h4;omega
   exact absurd ⟨g1,g2⟩ (J.one (y:=1) (by decide))
 have hcon:=xi ho;rw[hc]at hcon;exact⟨ho,hc,by have:=of_decide_eq_false hcon.symm;omega,EI.prpover.trans ho,by rw[I.prpbeg,hT];rfl⟩
theorem IV(I:EI 2 [[1,2],[-1]] r s l E)(hr:rC l=[[1,2],[-1]])(hT:E.T=iP 2):E.over=false∧(bf E).calm=true∧(bf E).con<0∧(bf E).over=false∧(bf E).T.beg.length=0∧(bf E).T.lits.length=2∧lX (bf E).T.lits 2=[false,true]:=by
 have ho:=I.notover (by rw[hr];simp);have J:=I.prps;have hb:(bf E).T.beg.length=0:=by rw[I.prpbeg,hT];rfl
 have hm:∀d∈([[1,2],[-1]]:List (List Int)),cD d [false,true]=true:=by decide
 have hz:∀y∈(bf E).T.lits,cD [y] [false,true]=true:=fun y hy=>J.zero hb hy _ hm;have hn1:(1:Int)∉(bf E).T.lits:=fun h=>absurd (hz 1 h) (by decide);have hn2:(-2:Int)∉(bf E).T.lits:=fun h=>absurd (hz (-2) h) (by decide);have hcon:(bf E).con<0:=by
  apply Classical.byContradiction;intro hc;obtain⟨x,hx,_,h2⟩:=J.con (by omega);have hx:=FN hx;rw[hr]at hx;simp at hx;rcases hx with e|e
  ·exact hn2 (h2 2 (by rw[e];simp))
  ·have:=h2 (-1) (by rw[e];simp);simp only[Int.neg_neg]at this;exact hn1 this
 have hc:(bf E).calm=true:=by rw[xi ho];exact decide_eq_true hcon
 obtain⟨x,hx,e1⟩:=rF (l:=l) (c:=[1,2]) (by rw[hr];simp);obtain⟨y,hy,e2⟩:=rF (l:=l) (c:=[-1]) (by rw[hr];simp);have h1:=J.cal hc x hx;have h2:=J.cal hc y hy;rw[e1]at h1;rw[e2]at h2;have g2:(-1:Int)∈(bf E).T.lits:=by
  rcases h2 with⟨z,h3,h4⟩|⟨z,w,h3,h4,h5,_⟩
  ·simp at h3;subst h3;exact h4
  ·simp at h3 h4;omega
 have g1:(2:Int)∈(bf E).T.lits:=by
  rcases h1 with⟨z,h3,h4⟩|⟨z,w,h3,h4,h5,h6,h7⟩
  ·simp at h3;rcases h3 with rfl|rfl
   ·exact absurd h4 hn1
   ·exact h4
  ·simp at h3 h4;rcases h3 with rfl|rfl
   ·exact absurd g2 h6
   ·rcases h4 with rfl|rfl
    ·exact absurd g2 h7
    ·exact absurd rfl h5
 have hl:(bf E).T.lits.length=2:=by
  have:=J.tok.few;have h3:2≤(bf E).T.lits.length:=by
   generalize(bf E).T.lits=L at*
   match L,g1,g2 with
   |[],h,_=>cases h
   |[a],h,h'=>simp at h h';omega
   |_::_::_,_,_=>simp
  omega
 refine⟨ho,hc,hcon,EI.prpover.trans ho,hb,hl,?_⟩;unfold lX;have e1:¬(0:Int)+1∈(bf E).T.lits:=hn1;have e2:(1:Int)+1∈(bf E).T.lits:=g1;simp[List.range_succ,e1,e2];exact⟨hn1,g1⟩
end
theorem Ext.some{h h':List (List SV)}{D:Nat→Prop}(x:Ext h h' (fun _=>False) D):∃g,h'=h++g:=by
 refine⟨h'.drop h.length,?_⟩;have:h'.take h.length=h:=by
  refine List.ext_getElem? fun i=>?_
  by_cases c:i<h.length
  ·rw[List.getElem?_take,if_pos c,x.same i c (fun e=>e)]
  ·rw[List.getElem?_take,if_neg c,List.getElem?_eq_none (by omega)]
 conv=>lhs;rw[←List.take_append_drop h.length h',this]
theorem LayE.old{h h':List (List SV)}{be bt ba bw bh:Nat}{mp:List (Int×Nat)}{mb:List (Int×By)}{E:ES}{D:Nat→Prop}(L:LayE h be bt ba bw bh mp mb E)(x:Ext h h' (fun _=>False) D):LayE h' be bt ba bw bh mp mb E:=by
 obtain⟨g,rfl⟩:=x.some;exact L.app g
theorem xj{h:List (List SV)}{be bt ba bw bh:Nat}{E:ES}(hb:h[be]?=some (bI bt ba bw bh E))(hc:E.over=true∨E.calm=false):aE Tryz.prog 46 [.ptr be 0] h (fun r h'=>h'=h∧r=.pv (BL false)):=by
 refine dh [] [.tmp 2] aG Tryz.func46 (by kernel_rfl) rfl rfl (by kernel_rfl) (Nat.le_of_ble_eq_true rfl) ?_;obtain⟨hlt,hb'⟩:=List.getElem?_eq_some_iff.1 hb;simp;refine ak.intro (dv hb) (by simp) ?_;rintro _ _ ⟨rfl,rfl⟩;cases ho:E.over
 ·have hc:E.calm=false:=hc.resolve_left (by simp[ho]);simp[hb',hlt,bI,ho,hc]
 ·simp[hb',hlt,bI,ho]
set_option maxRecDepth 16000 in
set_option maxHeartbeats 1000000 in
theorem gY:ao Tryz.prog 12 [] (fun r=>r=.pv (BL true)):=by
 refine aw aG Tryz.func12 (by kernel_rfl) rfl rfl (by kernel_rfl) (Nat.le_of_ble_eq_true rfl) ?_;have kN:=uW [] 1 (by decide) [[1],[-1]] 0 0 0 (by decide) (by decide) (by decide) (r:=10) (s:=1000) (by decide) (by decide);simp;refine am.introM kN (by simp) ?_;rintro _ H1 ⟨be,bt,ba,bw,bh,mp,E,l,rfl,L1,X1,I1,N1⟩;clear kN;obtain⟨a1,a2,a3,a4,a5⟩:=IU I1 N1.rc N1.T;have I2:=I1.prps;have hp2:(bf E).pf=[]:=by unfold bf;split<;>exact N1.pf
 have hm2:(bf E).many=0:=by unfold bf;split<;>exact N1.many
 have k1:=rz L1 I1.wok I1.tok;rw[a1,a2]at k1;simp;refine ak.intro k1 (by simp) ?_;rintro _ H2 ⟨rfl,mb2,L2,X2⟩;clear k1;have k2:=o6 (n:=1) (r:=9) (s:=996) (F:=[[1],[-1]]) L2 I2 a4 a3 (by rw[hp2];decide) (by rw[hm2];decide);simp;refine ak.intro k2 (by simp) ?_;rintro _ H3 ⟨rfl,mp3,q,p,k,L3,X3,I3⟩;clear k2;have hR:=I2.res a3;have hL:aI (bf E)=[]:=by
  rcases hR.lev with⟨_,h⟩|⟨u,w,_,h1,h2,_⟩
  ·exact h
  ·omega
 have hle:=hR.hle;have hpf:(rB (bf E) q p k).pf=[⟨1,(bf E).id+1,[],(ic (bf E)).map (lh (bf E).A)⟩]:=by
  show(bf E).pf++[_]=_;rw[hp2,hL];rfl
 have hov:(rB (bf E) q p k).over=true:=by
  show((bf E).over||decide ((aI (bf E)).length=0))=true;rw[hL];simp
 have hmy:(rB (bf E) q p k).many=1:=by
  show(bf E).many+1=1;rw[hm2];rfl
 have k3:=Ch L3.e (by rw[hpf];simp) (by rw[hpf];intro s hs;simp at hs;subst hs;simp;omega);rw[hpf]at k3;obtain⟨Hn,hHn⟩:∃H,(ic (bf E)).map (lh (bf E).A)=H:=⟨_,rfl⟩;obtain⟨Id,hId⟩:∃H,(bf E).id+1=H:=⟨_,rfl⟩;rw[hHn,hId]at k3;generalize hE3:rB (bf E) q p k=E3 at*;simp;refine ak.intro k3 (by simp) ?_;rintro _ H3 ⟨rfl,rfl⟩;simp[Ek];have kM:=uW H3 2 (by decide) [[1,2],[-1]] 0 5 5 (by decide) (by decide) (by decide) (r:=10) (s:=1000) (by decide) (by decide);refine am.introM kM (by simp) ?_;clear kM;rintro _ H4 ⟨ce,ct,ca,cw,ch,np,G,m,rfl,M1,Y1,J1,O1⟩;obtain⟨b1,b2,b3,b4,b5,b6,b7⟩:=IV J1 O1.rc O1.T;have J2:=J1.prps;have hvr:(bf G).vars=((2:Nat):Int):=by unfold bf;split<;>exact O1.vars
 have hcs:(bf G).cs=[[1,2],[-1]]:=by unfold bf;split<;>exact O1.cs
 have q1:=rz M1 J1.wok J1.tok;rw[b1,b2]at q1;simp;refine ak.intro q1 (by simp) ?_;clear q1;rintro _ H5 ⟨rfl,nb,M2,Y2⟩;have Y3:=Y1.trans Y2;have hmd:Cq (bf G) 2=true:=by
  unfold Cq;rw[b4,hcs,b6,b7];simp[b3];decide
 have q2:=Cr M2 J2.tok hvr (by rw[hcs];decide) (by rw[hcs];decide);rw[hmd,b7]at q2;simp;refine ak.intro q2 (by simp) ?_;rintro _ H5 ⟨rfl,rfl⟩;have kE:=(xc H5 901 [] 0 0 0 (by simp) (.inr (by decide))).args (xs:=[.agg [ae 901,.lit (.slice none 0 0)],.agg [ae 0,ae 0,ae 0]]) (by simp[cI,cz,ig]);rw[show(oB 901 []).2=0 from rfl,if_neg (by simp)]at kE;simp;refine am.introM kE (by simp) ?_;rintro _ H6 ⟨rfl,Y4⟩;clear kE;have L4:=(L3.old Y3).old Y4;have M3:=M2.old Y4;have k4:=ry L4.e;have k5:=Cd L4.e;have k6:=xj L4.e (.inl hov);have k7:=ry M3.e;have k8:=Ce M3;have k9:=w7 M3 (by rw[b6];decide);rw[hov]at k4;rw[hmy]at k5;rw[b4]at k7;rw[b5]at k8;have kS:=rV [false,true] [false,true] (by decide);simp;refine ak.intro k4 (by simp) ?_;rintro _ H6 ⟨rfl,rfl⟩;simp;refine ak.intro k5 (by simp) ?_;rintro _ H6 ⟨rfl,rfl⟩;simp;refine ak.intro k6 (by simp) ?_;rintro _ H6 ⟨rfl,rfl⟩;simp;refine bY.introK (fun _=>?_) (fun e=>absurd trivial e);refine am.intro kS (by simp) ?_;simp;refine ak.intro k7 (by simp) ?_;rintro _ H6 ⟨rfl,rfl⟩;simp;refine ak.intro k8 (by simp) ?_;rintro _ H6 ⟨rfl,rfl⟩;simp;refine ak.intro k9 (by simp) ?_;rintro _ H6 ⟨rfl,rfl⟩;simp[b6];refine bY.introK (fun _=>?_) (fun e=>absurd trivial e);refine am.intro Cf (by simp) ?_;simp;refine bY.introK (fun _=>?_) (fun e=>absurd trivial e);refine am.intro Cg (by simp) ?_;simp
theorem FO{v:Int}{cs:List (List Int)}{acts:List Int}(h:xh v cs acts=true):(0≤v∧v≤10)∧(cs.length≤60∧acts.length≤60)∧∀c∈cs,c.length≤50:=by
 unfold xh wF at h;simp only[Bool.and_eq_true,decide_eq_true_eq,List.all_eq_true]at h;exact⟨⟨h.2.2.1,h.2.1⟩,⟨h.2.2.2.1,h.2.2.2.2⟩,h.1.2⟩
theorem FP(k:Int):100≤mq k:=by
 unfold mq;split<;>omega
theorem NewOk.ej{n:Nat}{cs:List (List Int)}{kp:Int}{r s:Nat}{l:List Rc}{E:ES}(I:EI n cs r s l E)(h:NewOk n cs kp E l cs)(hr:r≤100):EJ n cs r s l E:=
 {I with
  kp:=by
   have:(l.filter fun x=>decide (x.side=1))=[]:=by
    rw[List.filter_eq_nil_iff];intro x hx;simp[h.side x hx]
   rw[this,h.keep];have:=FP kp;simp;omega
  mny:=by rw[h.many];omega
  pfz:=by rw[h.pf];simp;omega
  pfs:=by rw[h.pf];simp
  vr:=h.vars
  fm:=h.cs}
theorem Cs(T:Tr):(d7 T 0).beg.length=0:=by
 unfold d7
 by_cases c:0<T.beg.length
 ·rw[if_pos (by simpa using c)];simp[bZ]
 ·rw[if_neg (by simpa using c)];omega
set_option maxRecDepth 16000 in
set_option maxHeartbeats 1000000 in
theorem pu(v:Int)(cs:List (List Int))(rs kp dc:Int)(acts:List Int):
 ao Tryz.prog 5 [.agg [ae v,.seq false 1 (cs.map aO)],.agg [ae rs,ae kp,ae dc],.seq false 1 (af acts)] (fun r=>r=.pv (BL true)):=by
 refine aw aG Tryz.func5 (by kernel_rfl) rfl rfl (by kernel_rfl) (Nat.le_of_ble_eq_true rfl) ?_;simp;refine am.intro (FD v cs acts) (by simp) ?_;cases hf:xh v cs acts
 ·simp;refine am.intro gY (by simp) ?_;simp
 obtain⟨⟨f1,f2⟩,⟨f3,f4⟩,f5⟩:=FO hf;have hcl:∀c∈cs,c.length≤1000000:=fun c hc=>by have:=f5 c hc;omega
 simp
 by_cases hk:(oB v cs).2=0
 rotate_left
 ·have kE:=xc [[.pv (ae v),.pv (.seq false 1 (cs.map aO))],[.pv (ae rs),.pv (ae kp),.pv (ae dc)]] v cs rs kp dc hcl (.inl hk);rw[if_pos hk]at kE;refine am.introM kE (by simp) ?_;rintro _ H ⟨rfl,_⟩;simp[hk];refine am.intro gY (by simp) ?_;simp
 obtain ⟨n, rfl⟩ := Int.eq_ofNat_of_zero_le f1; have kN := uW [[.pv (ae n), .pv (.seq false 1 (cs.map aO))], [.pv (ae rs), .pv (ae kp), .pv (ae dc)]] n (by omega) cs rs kp dc (by omega) hcl hk (r := acts.length) (s := acts.length * (n + 3)) (by omega) (by
  have:acts.length*(n+3)≤60*13:=Nat.mul_le_mul f4 (by omega);omega)
 refine am.introM kN (by simp) ?_;rintro _ H ⟨be,bt,ba,bw,bh,mp,E,l,rfl,L1,X1,I1,N1⟩;clear kN;simp;refine aH.intro (S:=fun(x:Nat×List (List SV)×List (Int×Nat)×List (Int×By)×ES×List Rc)=>⟨[(2,.pv (.seq false 1 (af acts))),(3,.pv (.ptr 0 0)),(7,.pv (.ptr be 0)),(9,.pv (ae x.1))],x.2.1⟩)
  (fun x=>x.1≤acts.length∧LayE x.2.1 be bt ba bw bh x.2.2.1 x.2.2.2.1 x.2.2.2.2.1∧Ext [[.pv (ae n),.pv (.seq false 1 (cs.map aO))],[.pv (ae rs),.pv (ae kp),.pv (ae dc)]] x.2.1 (fun _=>False) (d9 be bt ba bw bh x.2.2.1 x.2.2.2.1)∧EJ n cs (acts.length -x.1) ((acts.length -x.1)*(n+3)) x.2.2.2.2.2 x.2.2.2.2.1) (fun x=>acts.length -x.1)
  (0,H,mp,[],E,l) ?_ ⟨Nat.zero_le _,L1,X1,N1.ej I1 (by omega)⟩ ?_
 ·exact aj.keep (by simp) rfl
 clear L1 X1 I1 N1 H mp E l;rintro⟨i,H,mp,mb,E,l⟩ ⟨hi,L,X,J⟩;dsimp only at hi L X J
 by_cases d:i<acts.length
 ·have hw:aM ((i:Int)+1)=((i+1:Nat):Int):=by rw[ah (by omega) (by omega)];omega
  have hd:acts.length -i=(acts.length -(i+1))+1:=by omega
  rw[hd,Nat.succ_mul]at J;simp[d];refine ak.intro (FM L J acts[i]) (by simp) ?_;rintro _ H' ⟨rfl,mp',mb',E',l',L',X',J'⟩;simp;exact⟨(i+1,H',mp',mb',E',l'),by(try dsimp only);omega,⟨by(try dsimp only);omega,L',X.trans X',J'⟩,aj.keep (by simp[hw]) rfl⟩
 have hie:i=acts.length:=by omega
 subst hie;have hH0:H[0]?=some [.pv (ae n),.pv (.seq false 1 (cs.map aO))]:=X.same 0 (by simp) (fun e=>e);obtain⟨hl0,hb0⟩:=List.getElem?_eq_some_iff.1 hH0;have hI:=J.toEI;simp[hH0,hl0,hb0];refine .inl ⟨_,Ci n n (by omega) cs (by omega) (fun c hc=>by have:=f5 c hc;omega),?_⟩;rintro r ⟨many,y,rfl,hy⟩;refine⟨by rcases hy with⟨_,rfl⟩|⟨_,m,rfl,_⟩<;>simp,?_⟩;simp;refine ak.intro (ry L.e) (by simp) ?_;rintro _ H ⟨rfl,rfl⟩;cases ho:E.over
 rotate_left
 ·have hz:many=0:=by
   rcases hy with⟨h,_⟩|⟨_,m,_,_,hm⟩
   ·exact h
   ·obtain⟨x,hx,e⟩:=hI.ovr.1 ho;have:=hI.ent x hx m hm;rw[e]at this;cases this
  simp[hz];refine bY.introK (fun _=>?_) (fun e=>absurd trivial e);refine am.intro gY (by simp) ?_;simp
 simp;refine ak.intro (o5 L hI.tok hI.hp hI.ph) (by simp) ?_;rintro _ H' ⟨rfl,⟨e,_⟩|⟨_,q,p,L',X',hq,hp,hin⟩⟩
 ·rw[ho]at e;cases e
 have hI':=hI.again q hq p hp hin;have hz:∀y∈(d7 E.T 0).lits,IR cs [y]:=fun y hy=>hI'.zero (Cs E.T) hy;have hfw:=hI'.tok.few;have hn9:=hI'.n9;simp;refine ak.intro (w7 L' (by dsimp only at hfw⊢;omega)) (by simp) ?_;rintro _ H' ⟨rfl,rfl⟩;dsimp only at hfw⊢;generalize(d7 E.T 0).lits=K at*;simp;refine aH.intro (S:=fun(i:Nat)=>⟨[(10,.pv (ae many)),(11,.pv y),(12,.pv (.seq true 1 (af K))),(13,.pv (ae i))],H'⟩) (fun i=>i≤K.length) (fun i=>K.length -i) 0 ?_ (Nat.zero_le _) ?_
 ·exact aj.keep (by simp) rfl
 intro i hi
 by_cases d:i<K.length
 ·have hw:aM ((i:Int)+1)=((i+1:Nat):Int):=by rw[ah (by omega) (by omega)];omega
  rcases hy with⟨rfl,rfl⟩|⟨hm0,m,rfl,hml,hm⟩
  ·simp[d];refine am.intro gY (by simp) ?_;simp
  ·have hh:=hz K[i] (List.getElem_mem d) m hm;have hsl:(List.take (i+1) (af K)).drop i=af [K[i]]:=by
    have hd:i<(af K).length:=by simpa[af]using d
    rw[List.take_succ_eq_append_getElem hd,List.drop_append_of_le_length (by simp;omega),List.drop_of_length_le (by simp;omega)];simp[af]
   simp[d,hm0,hw,hsl];refine⟨⟨by omega,by omega⟩,am.intro (oZ [K[i]] m (by simp)) (by simp) ?_⟩;simp[hh];exact⟨i+1,by(try dsimp only);omega,by(try dsimp only);omega,aj.keep (by simp[hw]) rfl⟩
 ·have hie:i=K.length:=by omega
  subst hie;simp;refine am.intro gY (by simp) ?_;simp
end Go.AX