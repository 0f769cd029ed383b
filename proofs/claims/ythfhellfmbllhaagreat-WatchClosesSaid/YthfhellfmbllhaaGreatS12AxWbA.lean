/-
  A desk with clauses and a watch, whatever is done: what always holds, and that all is as the document says (plain law).
  Contracts: a desk with clauses and a watch: whatever is done; the law's contract WatchCloses.
-/
import Derived.Test.YthfhellfmbllhaaGreatS12AxWaY
import Derived.Test.YthfhellfmbllhaaGreatS12AxWaO
namespace Go.AX
open Go.Proofs
set_option linter.unusedSimpArgs false
structure CloOk (n:Nat) (D:DW):Prop where
  rel:RelP D.A D.a
  hn:n≤1000
  vars:D.t.vars=n
  tok:TOk n D.T
  on:sortZ (D.S.prs.map (·.1))=D.on
  wok:WOk n D.S
  lits:∀k p,lk D.S.prs k=some p→isA D.A k=true∧p.lits=litsA D.A k
  cls:∀x∈D.a.rows,x.lits.Nodup∧x.lits.length≤1000
  row:D.A.row.length≤1000000
  rows:D.a.rows.length≤1000000
  ats:D.ats.length≤1000000
  few:D.on.length≤500
section
variable {n : Nat} {D : DW}
theorem CloOk.len (h:CloOk n D):(D.T.marks.length:Int) -1=D.t.vars:=by rw[h.vars,h.tok.len];omega
theorem CloOk.mem (h:CloOk n D) {k:Int}:k∈D.on↔∃p,lk D.S.prs k=some p:=by
 rw[←h.on,mem_sortZ,←mem_keys,Option.isSome_iff_exists]
theorem CloOk.find (h:CloOk n D) {k:Int} {p:Pr} (hp:lk D.S.prs k=some p):∃q:Nat,findA D.a k=q∧∃hq:q<D.a.rows.length,D.a.rows[q].lits=p.lits:=by
 obtain⟨h1,h2⟩:=h.lits k p hp;obtain⟨f1,f2⟩:=(findA_is h.rel.toRelA k).1 h1;obtain⟨q,hq,hql⟩:=findA_lt f1;refine⟨q,hq,hql,?_⟩;rw[h2,←f2];unfold litsD;rw[hq];simp[List.getD_eq_getElem?_getD,List.getElem?_eq_getElem hql]
theorem CloOk.cls_is (h:CloOk n D) (c:List Int):c∈clsW D.a D.on↔∃k p,lk D.S.prs k=some p∧p.lits=c:=by
 unfold clsW;rw[List.mem_map];constructor
 ·rintro⟨k,hk,rfl⟩;obtain⟨hk,_⟩:=List.mem_filter.1 hk;obtain⟨p,hp⟩:=h.mem.1 hk;obtain⟨q,hq,hql,e⟩:=h.find hp;refine⟨k,p,hp,?_⟩;rw[←e];unfold litsD;rw[hq];simp[List.getD_eq_getElem?_getD,List.getElem?_eq_getElem hql]
 ·rintro⟨k,p,hp,rfl⟩;obtain⟨q,hq,hql,e⟩:=h.find hp;refine⟨k,List.mem_filter.2 ⟨h.mem.2 ⟨p,hp⟩,by rw[decide_eq_true_eq,hq];omega⟩,?_⟩;rw[←e];unfold litsD;rw[hq];simp[List.getD_eq_getElem?_getD,List.getElem?_eq_getElem hql]
theorem CloOk.uok (h:CloOk n D):UOk n (clsW D.a D.on)where
 hn:=h.tok.hn
 nd:=fun c hc=>by obtain⟨k,p,hp,rfl⟩:=(h.cls_is c).1 hc;exact(h.wok.lits k p hp).2.1
 len:=fun c hc=>by obtain⟨k,p,hp,rfl⟩:=(h.cls_is c).1 hc;exact(h.wok.lits k p hp).2.2.1
 chk:=fun c hc=>by obtain⟨k,p,hp,rfl⟩:=(h.cls_is c).1 hc;exact(h.wok.lits k p hp).2.2.2
theorem CloOk.fewC (h:CloOk n D):fewC (clsW D.a D.on):=⟨Nat.le_trans (clsW_len _ _) h.few,h.uok.len⟩
theorem CloOk.lit (h:CloOk n D):∀x∈D.a.rows,x.lits.length≤1000000:=fun x hx=>by have:=(h.cls x hx).2;omega
theorem TMk.cons {n:Nat} {T:Tr} (h:TMk n T):Cons T.lits:=fun _ hy hy2=>h.one hy hy2
theorem Grow.der {S:WS} {T0 T:Tr} (hT:TOk n T0) {cs:List (List Int)} (hc:∀k c,CW S k c→c∈cs) (g:Grow (CW S) n T0 T):TOk n T∧Der cs T0.lits T.lits:=by
 induction g with
 |refl=>exact⟨hT,.base⟩
 |@step T k o c _ h1 h2 h3 h4 h5 ih=>
  obtain⟨m1,m2,m3⟩:=(ih.1.may o).1 h3;exact⟨ih.1.imp h3 k,.step ih.2 (hc _ _ h1) h2 m2 m3 h5⟩
def RowG (C:Int→List Int→Prop) (T:Tr) (i:Nat) (hi:i<T.lits.length):Prop:=
 ∃c,C (ofT T (litV T.lits[i])).1.rea c∧0≤(ofT T (litV T.lits[i])).1.rea∧T.lits[i]∈c∧(∀y∈c,y≠T.lits[i]→-y∈T.lits.take i)∧(ofT T (litV T.lits[i])).1.lev=T.beg.length
theorem ofT_in {T:Tr} (hT:TMk n T) {i:Nat} (hi:i<T.lits.length):ofT T (litV T.lits[i])=(mkAt T (litV T.lits[i]),true):=by
 obtain⟨_,_,_,v1,v2,_⟩:=litN_ok hT.hn (hT.chk _ (List.getElem_mem hi));have hm:=(hT.mark i hi).1;unfold ofT;rw[if_neg];rintro(h|h|h)
 ·omega
 ·rw[hT.len]at h;omega
 ·rw[hm]at h;unfold sgnM at h;split at h<;>omega
theorem Grow.rows {C:Int→List Int→Prop} {T0 T:Tr} (hT:TOk n T0) (g:Grow C n T0 T):TOk n T∧∀i,T0.lits.length≤i→∀(hi:i<T.lits.length),RowG C T i hi:=by
 induction g with
 |refl=>exact⟨hT,fun i h1 h2=>absurd h2 (by omega)⟩
 |@step T k o c g0 h1 h2 h3 h4 h5 ih=>
  obtain⟨ihT,ih⟩:=ih;obtain⟨m1,m2,m3⟩:=(ihT.may o).1 h3;obtain⟨_,_,_,v1,v2,_⟩:=litN_ok ihT.hn m1;have hN:=ihT.imp h3 k;have hlt:litV o<T.marks.length:=by rw[ihT.len];omega
  have hle:=g0.pre.1.length_le;refine⟨hN,fun i i1 hi=>?_⟩;have hi0:i<(T.lits++[o]).length:=hi;have hi':i<T.lits.length+1:=by simpa using hi0
  have hof:=ofT_in hN.toTMk hi;have hlev:=(hN.mark i hi).2.1;unfold RowG;rw[hof]
  by_cases e:i<T.lits.length
  ·have hg:∀h',(putT T o k).lits[i]'h'=T.lits[i]:=fun h'=>List.getElem_append_left e;rw[hg]at hlev⊢;obtain⟨c',r1,r2,r3,r4,r5⟩:=ih i i1 e;have hne:litV T.lits[i]≠litV o:=fun q=>by
    rcases(litV_eqN ihT.hn (ihT.chk _ (List.getElem_mem e)) m1).1 q with q|q
    ·exact m2 (q▸List.getElem_mem e)
    ·exact m3 (q▸List.getElem_mem e)
   have hpos:0≤litV T.lits[i]:=by have:=(litN_ok ihT.hn (ihT.chk _ (List.getElem_mem e))).2.2.2.1;omega
   have hmk:mkAt (putT T o k) (litV T.lits[i])=mkAt T (litV T.lits[i]):=by rw[mkAt_put T o k v1 hlt _ hpos,if_neg hne]
   rw[ofT_in ihT.toTMk e]at r1 r2 r5;simp only[hmk];refine⟨c',r1,r2,r3,?_,r5⟩;have ht:(putT T o k).lits.take i=T.lits.take i:=List.take_append_of_le_length (Nat.le_of_lt e);rw[ht];exact r4
  ·have hie:i=T.lits.length:=by omega
   subst hie;have hg:∀h',(putT T o k).lits[T.lits.length]'h'=o:=fun h'=>by
    show(T.lits++[o])[T.lits.length]'hi0=o;rw[List.getElem_append_right (Nat.le_refl _)];simp
   rw[hg];have hmk:mkAt (putT T o k) (litV o)=⟨sgnM o,T.beg.length,k,T.lits.length⟩:=by rw[mkAt_put T o k v1 hlt _ (by omega),if_pos rfl]
   simp only[hmk];refine⟨c,h1,h4,h2,?_,rfl⟩;have ht:(putT T o k).lits.take T.lits.length=T.lits:=List.take_left;rw[ht];exact h5
theorem CloOk.fol (h:CloOk n D):FolOk D (prpS D.S D.T).2.1 (prpS D.S D.T).2.2:=by
 have hP:=prp_is h.wok h.tok;have hU:=h.uok;generalize prpS D.S D.T=Q at*;obtain⟨S2,T2,k⟩:=Q;obtain⟨p1,p2,p3,p4,p5,p6⟩:=hP;simp only at p1 p2 p3 p4 p5 p6;have hCW:∀k c,CW D.S k c→c∈clsW D.a D.on:=fun k c ⟨p,hp,e⟩=>(h.cls_is c).2 ⟨k,p,hp,e⟩;obtain⟨_,hD⟩:=p4.der h.tok hCW;obtain⟨_,hR⟩:=p4.rows h.tok;have hcons:=p2.toTMk.cons;have hpre:=p4.pre.1;have hle:=hpre.length_le;have hcls:∀c∈clsW D.a D.on,∃k p,lk S2.prs k=some p∧p.lits=c:=fun c hc=>by
  obtain⟨k,p,hp,e⟩:=(h.cls_is c).1 hc;obtain⟨p',hp',e'⟩:=(p3.lits k c).2 ⟨p,hp,e⟩;exact⟨k,p',hp',e'⟩
 have hfails:∀{c},c∈clsW D.a D.on→(clS T2.lits c=-1↔∀y∈c,-y∈T2.lits):=fun hc=>hU.fail hcons hc;have hend:(k=-1∧Calm (clsW D.a D.on) T2.lits)∨(0≤k∧∃p,lk D.S.prs k=some p∧clS T2.lits p.lits=-1):=by
  rcases p6 with⟨rfl,q⟩|⟨k0,p,hp,q⟩
  ·refine .inl ⟨rfl,fun c hc=>?_⟩;obtain⟨k,p,hp,rfl⟩:=hcls c hc;constructor
   ·cases hu:(unitS T2.lits p.lits).2
    ·rfl
    ·obtain⟨u1,u2,u3,u4⟩:=hU.unit hc hu;rcases q k p hp with⟨x,x1,x2⟩|⟨x,y,x1,y1,hxy,x2,y2⟩
     ·by_cases e:x=(unitS T2.lits p.lits).1
      ·exact absurd (e▸x2) u2
      ·exact absurd (u4 x x1 e) (hcons x x2)
     ·by_cases e:x=(unitS T2.lits p.lits).1
      ·exact absurd (u4 y y1 (fun e2=>hxy (e.trans e2.symm))) y2
      ·exact absurd (u4 x x1 e) x2
   ·intro hf;have hf:=(hfails hc).1 hf;rcases q k p hp with⟨x,x1,x2⟩|⟨x,y,x1,y1,hxy,x2,y2⟩
    ·exact hcons x x2 (hf x x1)
    ·exact x2 (hf x x1)
  ·obtain⟨p',hp',e⟩:=(p3.lits k p.lits).1 ⟨p,hp,rfl⟩;refine .inr ⟨k0,p',hp',?_⟩;rw[e];exact(hfails ((h.cls_is _).2 ⟨k,p',hp',e⟩)).2 q
 have hsame := der_same hU h.tok.toTMk.cons h.tok.toTMk.nodup hD (by
  rcases hend with⟨_,q⟩|⟨_,p,hp,q⟩
  ·exact .inl q
  ·exact .inr ⟨p.lits,(h.cls_is _).2 ⟨k,p,hp,rfl⟩,q⟩)
 refine⟨hle,?_,?_,?_,?_⟩
 ·obtain⟨t,ht⟩:=hpre;rw[←ht];exact List.take_left
 ·show decide (0≤k)=_;rw[decide_eq_decide];rcases hend with⟨rfl,q⟩|⟨k0,p,hp,q⟩
  ·have:=(hsame.2 q).1;omega
  ·exact⟨fun _=>hsame.1.2 ⟨p.lits,(h.cls_is _).2 ⟨k,p,hp,rfl⟩,q⟩,fun _=>k0⟩
 ·intro i h1 hi;have hx:=p2.chk _ (List.getElem_mem hi);obtain⟨l0,l1,l2,_,_,lv,_⟩:=litN_ok p2.hn hx;have hnn:=p2.hn;refine⟨by omega,by omega,?_⟩;obtain⟨c,⟨p,hp,hpc⟩,r2,r3,r4,r5⟩:=hR i h1 hi;rw[lv]at hp r2 r5;obtain⟨q,hq,hql,e⟩:=h.find hp;refine⟨q,hq,hql,h.mem.2 ⟨p,hp⟩,?_,r5⟩;rw[e,hpc];unfold rightS;rw[Bool.and_eq_true];refine⟨by simpa using r3,List.all_eq_true.2 fun x hx=>?_⟩
  by_cases c1:x=T2.lits[i]
  ·simp[c1]
  ·have hxc:=(h.wok.lits _ p hp).2.2.2 x (by rw[hpc];exact hx);have:=(val3N_m p2.hn hxc (l:=T2.lits.take i)).2 ⟨fun hm=>hcons x (List.mem_of_mem_take hm) (List.mem_of_mem_take (r4 x hx c1)),r4 x hx c1⟩;simp[this]
 ·rcases hend with⟨rfl,q⟩|⟨k0,p,hp,q⟩
  ·obtain⟨s1,s2,s3⟩:=hsame.2 q;refine .inr ⟨rfl,s2,?_,closS_is q⟩;unfold subS;rw[List.all_eq_true];intro x hx;unfold hasS;have:=s3 x hx;cases okL x<;>simp[this]
  ·obtain⟨q2,hq,hql,e⟩:=h.find hp;exact .inl ⟨k0,q2,hq,hql,h.mem.2 ⟨p,hp⟩,by rw[e];exact q⟩
theorem CloOk.folK (h:CloOk n D):CloOk n ⟨D.A,(prpS D.S D.T).2.1,(prpS D.S D.T).1,D.a,D.t,D.on,D.ats⟩:=by
  have hP:=prp_is h.wok h.tok
  exact { rel := h.rel, hn := h.hn, vars := h.vars, tok := hP.tok, on := by show sortZ ((prpS D.S D.T).1.prs.map (·.1)) = D.on; rw [hP.same.keys]; exact h.on
          wok:=hP.ok,cls:=h.cls,row:=h.row,rows:=h.rows,ats:=h.ats,few:=h.few
          lits:=fun k p hp=>by
            obtain⟨p',hp',e⟩:=(hP.same.lits k p.lits).1 ⟨p,hp,rfl⟩
            have:=h.lits k p' hp'
            rw[e]at this
            exact this}
theorem CloOk.decK (h:CloOk n D) (l:Int):CloOk n ⟨D.A,decT D.T l,D.S,D.a,D.t,D.on,D.ats⟩:=
 {rel:=h.rel,hn:=h.hn,vars:=h.vars,tok:=h.tok.dec l,on:=h.on,wok:=h.wok,cls:=h.cls,row:=h.row,rows:=h.rows,ats:=h.ats,few:=h.few,lits:=h.lits}
theorem CloOk.bakK (h:CloOk n D) (l:Int):CloOk n ⟨D.A,bakT D.T l,D.S,D.a,D.t,D.on,D.ats⟩:=
 {rel:=h.rel,hn:=h.hn,vars:=h.vars,tok:=h.tok.bak l,on:=h.on,wok:=h.wok,cls:=h.cls,row:=h.row,rows:=h.rows,ats:=h.ats,few:=h.few,lits:=h.lits}
theorem CloOk.att (h:CloOk n D) (k:Int):attE D.A D.T D.S k=rattE D.a D.t.vars D.on k:=att_same h.rel h.len h.on k
theorem CloOk.attK (h:CloOk n D) (k:Int) (hf:D.on.length<500):CloOk n ⟨D.A,D.T,attS D.A D.T D.S k,D.a,D.t,rattL D.a D.t.vars D.on k,D.ats⟩:=by
 have e:=h.att k;unfold attS rattL;rw[e]
 by_cases c:rattE D.a D.t.vars D.on k=0
 rotate_left
 ·rw[if_neg c,if_neg c];exact h
 rw[if_pos c,if_pos c];rw[←e]at c;unfold attE at c;split at c
 ·omega
 rename_i c1;split at c
 ·omega
 rename_i c2;split at c
 ·omega
 rename_i c3;have hno:(lk D.S.prs k).isSome=false:=by simpa using c2
 have hnk:k∉D.S.prs.map (·.1):=fun hm=>by rw[mem_keys.2 hm]at hno;cases hno
 have his:isA D.A k=true:=by
  cases hq:isA D.A k
  ·exact absurd ((h.rel.id0 k).2 hq) c1
  ·rfl
 obtain⟨f1,f2⟩:=(findA_is h.rel.toRelA k).1 his;obtain⟨q,hq,hql⟩:=findA_lt f1;have hrow:litsA D.A k=D.a.rows[q].lits:=by
  rw[←f2];unfold litsD;rw[hq];simp[List.getD_eq_getElem?_getD,List.getElem?_eq_getElem hql]
 obtain⟨n1,n2⟩:=h.cls _ (List.getElem_mem hql);rw[←hrow]at n1 n2;have hchk:∀y∈litsA D.A k,litChk y n=0:=fun y hy=>by
  apply Classical.byContradiction;intro hn;apply c3;rw[List.any_eq_true];refine⟨y,hy,?_⟩;rw[h.len,h.vars];simp[hn]
 obtain⟨p,m,rfl,ha⟩:=h.rel.arok k his;have hal:=ha.len;have hro:=h.row;have hW:=h.wok.put hnk ⟨by omega,by omega⟩ n1 n2 hchk (w64 ((lk D.S.late (p:Int)).getD 0+1));have hfr:pt D.S.prs (p:Int) ⟨litsA D.A p,0,0⟩=D.S.prs++[((p:Int),⟨litsA D.A p,0,0⟩)]:=pt_fresh fun q hq e=>hnk (List.mem_map.2 ⟨q,hq,e⟩);have hol:D.S.prs.length=D.on.length:=by rw[←h.on];unfold sortZ;rw[List.length_mergeSort,List.length_map]
 refine{rel:=h.rel,hn:=h.hn,vars:=h.vars,tok:=h.tok,cls:=h.cls,row:=h.row,rows:=h.rows,ats:=h.ats,on:=?_,wok:=?_,lits:=?_,few:=by show(insW D.on p).length≤500;rw[insW_len];omega}
 ·show sortZ ((pt D.S.prs (p:Int) _).map (·.1))=insW D.on p;rw[hfr,insW_is,←h.on];refine sortZ_of ?_ (insR_rise p (sortZ_pairwise _));rw[List.map_append];refine List.perm_append_comm.trans ?_;refine List.Perm.trans ?_ (insR_perm p _).symm;refine List.Perm.cons _ ?_;unfold sortZ;exact(List.mergeSort_perm _ _).symm
 ·exact{hW with
   few:=by show(pt D.S.prs (p:Int) _).length≤1000000;rw[hfr,List.length_append,hol];simp;omega
   h0:=h.wok.h0,h1:=h.wok.h1,sl:=h.wok.sl,clr:=h.wok.clr}
 ·intro k' p' hp';have hp':lk (pt D.S.prs (p:Int) ⟨litsA D.A p,0,0⟩) k'=some p':=hp'
  by_cases e:k'=p
  ·subst e;rw[lk_ptS]at hp';cases hp';exact⟨his,rfl⟩
  ·rw[lk_ptN e]at hp';exact h.lits k' p' hp'
theorem CloOk.det (h:CloOk n D) (k:Int):detE D.S k=rdetE D.on k:=by
 unfold detE rdetE;have hm:(lk D.S.prs k).isSome=true↔k∈D.on:=by rw[mem_keys,←h.on,mem_sortZ]
 by_cases c:k∈D.on
 ·rw[if_pos c,if_pos (hm.2 c)]
 ·rw[if_neg c,if_neg (fun e=>c (hm.1 e))]
theorem CloOk.detK (h:CloOk n D) (k:Int):CloOk n ⟨D.A,D.T,detS D.S k,D.a,D.t,rdetL D.on k,D.ats⟩:=by
 have hm:(lk D.S.prs k).isSome=true↔k∈D.on:=by rw[mem_keys,←h.on,mem_sortZ]
 have hW:=h.wok.toWch.del k;unfold rdetL;unfold detS at hW⊢;cases hp:lk D.S.prs k with
 |none=>
  rw[hp]at hm;rw[if_neg (fun e=>by have:=hm.2 e;cases this)];exact h
 |some p=>
  rw[hp]at hm hW;rw[if_pos (hm.1 rfl)];simp only at hW⊢;have hk:(pt D.S.prs k ⟨p.lits,0,0⟩).map (·.1)=D.S.prs.map (·.1):=pt_keepW _ hp;have hn:((pt D.S.prs k ⟨p.lits,0,0⟩).map (·.1)).Nodup:=by rw[hk];exact h.wok.nd
  have hle:(dl (pt D.S.prs k ⟨p.lits,0,0⟩) k).length≤D.S.prs.length:=by
   have h1:=dl_le (pt D.S.prs k ⟨p.lits,0,0⟩) k;have h2:=congrArg List.length hk;rw[List.length_map,List.length_map]at h2;omega
  refine{rel:=h.rel,hn:=h.hn,vars:=h.vars,tok:=h.tok,cls:=h.cls,row:=h.row,rows:=h.rows,ats:=h.ats,on:=?_,wok:=?_,lits:=?_,few:=Nat.le_trans (remW_len _ _) h.few}
  ·show sortZ ((dl (pt D.S.prs k _) k).map (·.1))=remW D.on k;rw[dl_erase,hk,sortZ_erase,h.on,remW_erase];rw[←h.on];exact sortZ_nodup h.wok.nd
  ·exact{hW with
    few:=by have:=h.wok.few;show(dl (pt D.S.prs k ⟨p.lits,0,0⟩) k).length≤1000000;omega
    h0:=h.wok.h0,h1:=h.wok.h1,sl:=h.wok.sl
    clr:=fun y hy=>bF_nil_forB (bF_nil_forB (h.wok.clr y hy))}
  ·intro k' p' hp';have hp':lk (dl (pt D.S.prs k ⟨p.lits,0,0⟩) k) k'=some p':=hp';rw[lk_dlN hn]at hp';split at hp'
   ·cases hp'
   ·rename_i hne;rw[lk_ptN hne]at hp';exact h.lits k' p' hp'
theorem CloOk.hx (h:CloOk n D) (k:Int):∀p,lk D.S.prs k=some p→(p.x≠0→∃zs,lk D.S.byl p.x=some zs∧zs≠[])∧(p.y≠0→∃zs,lk (forB D.S.byl k p.x) p.y=some zs∧zs≠[]):=fun p hp=>by
 have hne:∀m:Int,m≠0→(p.x=m∨p.y=m)→∃zs,lk D.S.byl m=some zs∧zs≠[]:=fun m m0 hm=>by
  obtain⟨zs,e,hz⟩:=h.wok.toWch.entry hp m0 hm;exact⟨zs,e,fun q=>by rw[q]at hz;cases hz⟩
 refine⟨fun x0=>hne _ x0 (.inl rfl),fun y0=>?_⟩;obtain⟨zs,e,hz⟩:=hne _ y0 (.inr rfl);refine⟨zs,?_,hz⟩;unfold forB
 by_cases c:p.x=0
 ·rw[if_pos c];exact e
 ·have hxy:p.x≠p.y:=by
   rcases h.wok.two k p hp with⟨_,z,_⟩|⟨_,z,_⟩
   ·exact absurd z c
   ·exact z
  rw[if_neg c,lk_pt,if_neg hxy];exact e
end
def dw12Sch:Sch:=
 let s0:Sch:=.fork [(6,.done)]
 let s1:Sch:=.fork [(5,s0)]
 let s2:Sch:=.fork [(3,s0)]
 let s3:Sch:=.fork [(3,s1),(5,s2)]
 .take 0 (.take 1 (.take 2 (.take 4 s3)))
theorem LayD.setT {h:List (List SV)} {bd ba bt bw:Nat} {mp:List (Int×Nat)} {mb:List (Int×By)} {D:DW} (L:LayD h bd ba bt bw mp mb D) (T:Tr):LayD (h.set bt (trB T)) bd ba bt bw mp mb ⟨D.A,T,D.S,D.a,D.t,D.on,D.ats⟩:=
 ⟨L.lay.setT T,by rw[List.getElem?_set_ne (fun e=>L.nd (.inr (.inl e.symm)))];exact L.d,L.nd,L.na⟩
section
variable {n : Nat}
theorem wdoT_ok (h:List (List SV)) (bd ba bt bw:Nat) (mp:List (Int×Nat)) (mb:List (Int×By)) (D:DW) (L:LayD h bd ba bt bw mp mb D) (hC:CloOk n D) (l:Int):
 AMut Tryz.prog 9 [.ptr bd 0,.agg [I64 2,I64 l]] h (fun r h'=>r=.pv (BL true)∧LayD h' bd ba bt bw mp mb ⟨D.A,decT D.T l,D.S,D.a,D.t,D.on,D.ats⟩∧Ext h h' (DomD bd bw bt mp mb) (DomD bd bw bt mp mb)):=by
 refine amutX [12] [.tmp 4] hmo Tryz.func9 (by kernel_rfl) rfl rfl (by kernel_rfl) (Nat.le_of_ble_eq_true rfl) ?_;obtain⟨d1,d2⟩:=List.getElem?_eq_some_iff.1 L.d;have hf:=hC.tok.few;have hn:=hC.hn;obtain⟨G,hG⟩:∃G,G=h++[[SV.pv (I64 2),SV.pv (I64 l)]]:=⟨_,rfl⟩;simp;rw[←hG];have LG:LayD G bd ba bt bw mp mb D:=by rw[hG];exact L.app _
 have EG:Ext h G (DomD bd bw bt mp mb) (DomD bd bw bt mp mb):=by rw[hG];exact Ext.app _ _ _
 obtain⟨g1,g2⟩:=List.getElem?_eq_some_iff.1 LG.d;have b1:h.length<G.length:=by rw[hG];simp
 have b2:G[h.length]'b1=[SV.pv (I64 2),SV.pv (I64 l)]:=by simp[hG]
 have hbl:D.T.beg.length≤1000000:=by
  have h1 : D.T.beg.Nodup := hC.tok.rise.imp (fun h => Int.ne_of_lt h); have := len_of_sub D.T.beg ((List.range D.T.lits.length).map Int.ofNat) h1 (fun b hb => by
   have:=hC.tok.bnd b hb;exact List.mem_map.2 ⟨b.toNat,List.mem_range.2 (by omega),by show((b.toNat:Nat):Int)=b;omega⟩)
  rw[List.length_map,List.length_range]at this;omega
 have kT:=tdecide_ok G bt D.T LG.lay.t l hC.tok.okT (by omega) hbl;refine AAnyD.one dw12Sch (by kernel_rfl) ?_;simp[dw12Sch,g1,g2,b1,b2,dwB];and_intros
 all_goals
  refine CallB.intro kT (by simp) ?_;rintro _ _ ⟨rfl,rfl⟩;simp;exact⟨LG.setT _,EG.trans (Ext.set bt _ (.inr (.inr (.inl rfl))))⟩
theorem wdoB_ok (h:List (List SV)) (bd ba bt bw:Nat) (mp:List (Int×Nat)) (mb:List (Int×By)) (D:DW) (L:LayD h bd ba bt bw mp mb D) (hC:CloOk n D) (l:Int):
 AMut Tryz.prog 9 [.ptr bd 0,.agg [I64 3,I64 l]] h (fun r h'=>r=.pv (BL true)∧LayD h' bd ba bt bw mp mb ⟨D.A,bakT D.T l,D.S,D.a,D.t,D.on,D.ats⟩∧Ext h h' (DomD bd bw bt mp mb) (DomD bd bw bt mp mb)):=by
 refine amutX [15] [.tmp 4] hmo Tryz.func9 (by kernel_rfl) rfl rfl (by kernel_rfl) (Nat.le_of_ble_eq_true rfl) ?_;obtain⟨d1,d2⟩:=List.getElem?_eq_some_iff.1 L.d;obtain⟨G,hG⟩:∃G,G=h++[[SV.pv (I64 3),SV.pv (I64 l)]]:=⟨_,rfl⟩;simp;rw[←hG];have LG:LayD G bd ba bt bw mp mb D:=by rw[hG];exact L.app _
 have EG:Ext h G (DomD bd bw bt mp mb) (DomD bd bw bt mp mb):=by rw[hG];exact Ext.app _ _ _
 obtain⟨g1,g2⟩:=List.getElem?_eq_some_iff.1 LG.d;have b1:h.length<G.length:=by rw[hG];simp
 have b2:G[h.length]'b1=[SV.pv (I64 3),SV.pv (I64 l)]:=by simp[hG]
 have kT:=bak_ok G bt D.T LG.lay.t hC.tok l;refine AAnyD.one dw12Sch (by kernel_rfl) ?_;simp[dw12Sch,g1,g2,b1,b2,dwB];and_intros
 all_goals
  refine CallB.intro kT (by simp) ?_;rintro _ _ ⟨rfl,zs,rfl⟩;simp;exact⟨LG.setT _,EG.trans (Ext.set bt _ (.inr (.inr (.inl rfl))))⟩
theorem wdoF_ok (h:List (List SV)) (bd ba bt bw:Nat) (mp:List (Int×Nat)) (mb:List (Int×By)) (D:DW) (L:LayD h bd ba bt bw mp mb D) (hC:CloOk n D) (k l:Int) (c0:k≠0) (c1:k≠1) (c2:k≠2) (c3:k≠3):
 AMut Tryz.prog 9 [.ptr bd 0,.agg [I64 k,I64 l]] h (fun r h'=>r=.pv (BL true)∧∃mb',LayD h' bd ba bt bw mp mb' ⟨D.A,(prpS D.S D.T).2.1,(prpS D.S D.T).1,D.a,D.t,D.on,D.ats⟩∧Ext h h' (DomD bd bw bt mp mb) (DomD bd bw bt mp mb')):=by
 refine amutX [] [.tmp 4] hmo Tryz.func9 (by kernel_rfl) rfl rfl (by kernel_rfl) (Nat.le_of_ble_eq_true rfl) ?_;have hf:=hC.tok.few;have hn:=hC.hn;obtain⟨G,hG⟩:∃G,G=h++[[SV.pv (I64 k),SV.pv (I64 l)]]:=⟨_,rfl⟩;simp;rw[←hG];have LG:LayD G bd ba bt bw mp mb D:=by rw[hG];exact L.app _
 have EG:Ext h G (DomD bd bw bt mp mb) (DomD bd bw bt mp mb):=by rw[hG];exact Ext.app _ _ _
 have b1:h.length<G.length:=by rw[hG];simp
 have b2:G[h.length]'b1=[SV.pv (I64 k),SV.pv (I64 l)]:=by simp[hG]
 have kW:=wfollow_ok G bd ba bt bw mp mb D LG hC.wok hC.tok hC.rows hC.lit (by have:=hC.few;omega) (by omega) hC.fewC hC.fol;simp[b1,b2,c0,c1,c2,c3];refine CallB.intro kW (by simp) ?_;rintro _ H ⟨rfl,mb2,L2,E2⟩;simp;exact⟨mb2,L2,EG.trans E2⟩
theorem wdo_ok (h:List (List SV)) (bd ba bt bw:Nat) (mp:List (Int×Nat)) (mb:List (Int×By)) (D:DW) (L:LayD h bd ba bt bw mp mb D) (hC:CloOk n D) (hf:D.on.length<500) (k l:Int):
 AMut Tryz.prog 9 [.ptr bd 0,.agg [I64 k,I64 l]] h (fun r h'=>r=.pv (BL true)∧∃mp' mb' D',LayD h' bd ba bt bw mp' mb' D'∧CloOk n D'∧D'.on.length≤D.on.length+1∧Ext h h' (DomD bd bw bt mp mb) (DomD bd bw bt mp' mb')):=by
 have hT:=hC.tok.few;have hn:=hC.hn;have hml:D.T.marks.length≤1000000:=by rw[hC.tok.len];omega
 by_cases c0:k=0
 ·subst c0;refine(wdoA_ok h bd ba bt bw mp mb D L l hC.rel.arok hC.row hml (by omega) hC.rows hC.lit (by omega) hC.ats).mono ?_;rintro r h' ⟨rfl,mp',L',E'⟩;refine⟨by rw[hC.att];simp,mp',mb,_,L',hC.attK _ hf,rattL_len _ _ _ _,E'⟩
 by_cases c1:k=1
 ·subst c1;refine(wdoD_ok h bd ba bt bw mp mb D L l (by omega) hC.ats hC.wok.nd (hC.hx _) (hC.wok.toWch.hz hC.wok.few)).mono ?_;rintro r h' ⟨rfl,mp',mb',L',E'⟩;refine⟨by rw[hC.det];simp,mp',mb',_,L',hC.detK _,rdetL_len _ _,E'⟩
 by_cases c2:k=2
 ·subst c2;refine(wdoT_ok h bd ba bt bw mp mb D L hC l).mono ?_;rintro r h' ⟨rfl,L',E'⟩;exact⟨rfl,mp,mb,_,L',hC.decK _,Nat.le_succ _,E'⟩
 by_cases c3:k=3
 ·subst c3;refine(wdoB_ok h bd ba bt bw mp mb D L hC l).mono ?_;rintro r h' ⟨rfl,L',E'⟩;exact⟨rfl,mp,mb,_,L',hC.bakK _,Nat.le_succ _,E'⟩
 ·refine(wdoF_ok h bd ba bt bw mp mb D L hC k l c0 c1 c2 c3).mono ?_;rintro r h' ⟨rfl,mb',L',E'⟩;exact⟨rfl,mp,mb',_,L',hC.folK,Nat.le_succ _,E'⟩
end
theorem chkC_nodupN {c:List Int} {m:Int} (h:chkC c m=0):c.Nodup∧c.length≤1000:=by
 unfold chkC at h;split at h
 ·omega
 ·split at h
  ·omega
  ·split at h
   ·omega
   ·split at h
    ·rename_i h1 h2 h3 h4;exact⟨dup_nodup h4,by omega⟩
    ·omega
theorem putJ_cls (cs:List (List Int)):∀i,∀x∈(putJ cs i).a.rows,x.lits.Nodup∧x.lits.length≤1000
 |0=>by simp[putJ]
 |i+1=>by
  intro x hx;rw[putJ,putJ1]at hx;have hx:x∈(putRA (putJ cs i).a ((i+1:Nat):Int) (cs.getD i [])).rows:=hx;unfold putRA at hx;split at hx
  ·rename_i h;rcases List.mem_append.1 hx with hx|hx
   ·exact putJ_cls cs i x hx
   ·simp at hx;rw[hx];unfold putEA at h;split at h
    ·omega
    ·exact chkC_nodupN h
  ·exact putJ_cls cs i x hx
theorem begW_clo {cs:List (List Int)} (hc:fewC cs):CloOk 6 (begW cs):=by
  have hS:=begW_small hc
  have hP:=begW_play hc
  exact { rel := hP.rel, hn := by omega, vars := rfl, tok := TOk.new (n := 6) (by omega), on := hP.on
          wok := { nd := by simp [begW], lits := fun k p hp => by (cases hp), lnd := by simp [begW], lpr := fun k hk => by simp [begW] at hk
                   two:=fun k p hp=>by(cases hp),bnd:=fun l=>by simp[begW,bF,lk]
                   mem:=fun l k=>by
                     constructor
                     · intro h;simp[begW,bF,lk]at h
                     · rintro⟨_,p,hp,_⟩;cases hp
                   few:=by simp[begW],h0:=by simp[begW],h1:=by simp[begW],sl:=by simp[begW]
                   clr:=fun y hy=>by simp[begW]at hy}
          lits:=fun k p hp=>by(cases hp)
          cls:=putJ_cls cs cs.length,row:=hS.row,rows:=hS.rows,ats:=hS.ats,few:=by simp[begW]}
set_option maxRecDepth 16000 in
set_option maxHeartbeats 1000000 in
theorem watchCloses_ok (cs:List (List Int)) (l:List (Int×Int)):APure Tryz.prog 4 [.seq false 1 (cs.map crowF),.seq false 2 (l.map actR)] (fun r=>r=.pv (BL true)):=by
 refine apure1 hmo Tryz.func4 (by kernel_rfl) rfl rfl (by kernel_rfl) (Nat.le_of_ble_eq_true rfl) ?_;have kFew:=few8_ok cs [];have hF:few14 cs l=(few8 cs []&&decide (cs.length≤30)&&decide (l.length≤60)):=rfl;have hf':few14 cs l=true→fewC cs∧cs.length≤30∧l.length≤60:=few14_few;generalize few14 cs l=F at*;replace kFew:=kFew.conv (xs:=[.seq false 1 (cs.map crowF),.lit (.slice none 0 0)]) ⟨_,_,rfl,.refl _,_,_,rfl,PV.as_nil 1,rfl⟩;simp;refine CallK.intro kFew (by simp) ?_;have hz:F=false→(few8 cs []=false∨¬cs.length≤30∨¬l.length≤60):=fun h=>by
  rw[hF]at h;cases h8:few8 cs []
  ·exact .inl rfl
  ·rw[h8]at h
   by_cases h9:cs.length≤30
   ·by_cases h10:l.length≤60
    ·simp[h9,h10]at h
    ·exact .inr (.inr h10)
   ·exact .inr (.inl h9)
 cases F with
 |false=>
  have h:=hz rfl;have e1:decide ((30:Int)<cs.length)=!decide (cs.length≤30):=by
   by_cases c:cs.length≤30
   ·have c2:¬(30:Int)<cs.length:=by omega
    simp[c,c2]
   ·have c2:(30:Int)<cs.length:=by omega
    simp[c,c2]
  have e2:decide ((60:Int)<l.length)=!decide (l.length≤60):=by
   by_cases c:l.length≤60
   ·have c2:¬(60:Int)<l.length:=by omega
    simp[c,c2]
   ·have c2:(60:Int)<l.length:=by omega
    simp[c,c2]
  rcases h with h|h|h
  ·simp[h];refine CallK.intro w14Awake_ok (by simp) ?_;simp
  ·simp[e1,h];cases few8 cs []<;>simp<;>refine CallK.intro w14Awake_ok (by simp) ?_<;>simp
  ·simp[e1,e2,h];refine CallK.intro w14Awake_ok (by simp) ?_;simp
 |true=>
 obtain⟨hc,f2,f3⟩:=hf' rfl;have f2':¬(30:Int)<cs.length:=by omega
 have f3':¬(60:Int)<l.length:=by omega
 have f8:few8 cs []=true:=by
  cases h8:few8 cs []
  ·rw[h8]at hF;cases hF
  ·rfl
 have kB:=wbegun_ok [] cs hc;have hC0:=begW_clo hc;simp[f8,f2',f3'];refine CallK.introM kB (by simp) ?_;rintro _ _ ⟨⟨bx,bz,rfl⟩,rfl⟩;simp[dwA];refine ALoop.intro (S:=fun(x:Nat×List (List SV)×List (Int×Nat)×List (Int×By)×DW)=>⟨[(1,.pv (.seq false 2 (l.map actR))),(5,.pv (.ptr 5 0)),(6,.pv (I64 x.1))],x.2.1⟩)
  (fun x=>x.1≤l.length∧LayD x.2.1 5 1 3 4 x.2.2.1 x.2.2.2.1 x.2.2.2.2∧CloOk 6 x.2.2.2.2∧x.2.2.2.2.on.length≤x.1) (fun x=>l.length -x.1)
  (0,[bx,arB (begW cs).A,bz,trB (begW cs).T,wtB 1 3 ⟨[],[],[],0,[]⟩,dwB 1 3 4 (begW cs)],[],[],begW cs) ?_ ⟨Nat.zero_le _,begW_lay bx bz cs,hC0,Nat.le_refl _⟩ ?_
 ·refine Weak.le (by simp) ?_;simp[dwB,wkCs_refl,begW]
 rintro⟨i,H,mp,mb,D⟩ ⟨hi,L,hC,hon⟩;dsimp only at hi L hC hon
 by_cases d:i<l.length
 ·have hw':w64 ((i:Int)+1)=((i+1:Nat):Int):=by rw[w64_id (by omega) (by omega)];omega
  obtain⟨⟨k,n⟩,hx⟩:∃x,l[i]=x:=⟨_,rfl⟩;have kD:=wdo_ok H 5 1 3 4 mp mb D L hC (by omega) k n;simp[d,hx,actR];refine CallB.intro kD (by simp) ?_;rintro _ H2 ⟨rfl,mp2,mb2,D2,L2,C2,n2,-⟩;simp;exact⟨(i+1,H2,mp2,mb2,D2),by(try dsimp only);omega,⟨by(try dsimp only);omega,L2,C2,by(try dsimp only);omega⟩,Weak.keep (by simp[hw']) rfl⟩
 ·have hie:i=l.length:=by omega
  subst hie;have hT:=hC.tok.few;have hfe:=hC.few;have kW:=wfollow_ok H 5 1 3 4 mp mb D L hC.wok hC.tok hC.rows hC.lit (by omega) (by omega) hC.fewC hC.fol;simp;refine CallB.intro kW (by simp) ?_;rintro _ H2 ⟨rfl,mb2,L2,-⟩;simp;refine CallG.intro (fun _=>w14Awake_ok) (by simp) ?_;simp
end Go.AX