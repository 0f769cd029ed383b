/-
  Engines: how they lie in memory, told as plain data.
  Engines: what always holds of their trails (plain law).
  Contracts: engines: what only asks, and Propagate.
  Contracts: engines: numbers of clauses, better variables, a level gone back to, a clause added.
-/
import Derived.Test.YtepodadinenmnaaGreatS14AxVaA
import Derived.Test.YtepodadinenmnaaGreatS14AxHpG
import Derived.Test.YtepodadinenmnaaGreatS14AxRnX
import Derived.Test.YtepodadinenmnaaGreatS14AxEvC
namespace Go.AX
open Go.Proofs
set_option linter.unusedSimpArgs false
structure ES where
  T:Tr
  A:Ar
  S:WS
  q:HS
  vars:Int
  cs:List (List Int)
  ph:List Bool
  keep:Int
  decay:Int
  inc:Int
  id:Int
  con:Int
  calm:Bool
  many:Int
  over:Bool
  pf:List Stp
  gl:List (Int×Int)
def bI(bt ba bw bh:Nat)(E:ES):List SV:=[.pv (.ptr bt 0),.pv (ae E.vars),.pv (.seq false 1 (E.cs.map aO)),.pv (.ptr ba 0),.pv (.ptr bw 0),.pv (.ptr bh 0),.own true 1 (cF E.ph),.pv (ae E.keep),.pv (ae E.decay),.pv (ae E.inc),.pv (ae E.id),.pv (ae E.con),.pv (BL E.calm),.pv (ae E.many),.pv (BL E.over),.own true 4 (E.pf.map lV),.omap true (aT fI E.gl)]
structure LayE (h:List (List SV)) (be bt ba bw bh:Nat) (mp:List (Int×Nat)) (mb:List (Int×By)) (E:ES):Prop where
  w:LayW h bw ba bt mp mb E.A E.T E.S
  e:h[be]?=some (bI bt ba bw bh E)
  q:h[bh]?=some (ap E.q)
  ne:be≠bh
  eo:¬aP bw bt mp mb be∧be≠ba
  ho:¬aP bw bt mp mb bh∧bh≠ba
def d9(be bt ba bw bh:Nat)(mp:List (Int×Nat))(mb:List (Int×By))(b:Nat):Prop:=b=be∨b=bh∨b=ba∨aP bw bt mp mb b
section
variable {h h' : List (List SV)} {be bt ba bw bh : Nat} {mp mp' : List (Int × Nat)} {mb mb' : List (Int × By)} {E : ES}
theorem LayW.setA{A:Ar}{T:Tr}{S:WS}(L:LayW h bw ba bt mp mb A T S)(A':Ar):LayW (h.set ba (lf A')) bw ba bt mp mb A' T S where
 w:=(List.getElem?_set_ne L.wa.symm).trans L.w
 a:=List.getElem?_set_self (List.getElem?_eq_some_iff.1 L.a).1
 t:=(List.getElem?_set_ne L.at').trans L.t
 wa:=L.wa
 wt:=L.wt
 at':=L.at'
 keys:=L.keys
 pr:=fun k b hb=>by
  obtain⟨p,h1,h2,h3⟩:=L.pr k b hb;exact⟨p,h1,(List.getElem?_set_ne h3.2.1.symm).trans h2,h3⟩
 pinj:=L.pinj
 by':=fun l e he=>by
  obtain⟨zs,h1,⟨sp,h2,h3⟩,h4⟩:=L.by' l e he
  exact⟨zs,h1,⟨sp,(List.getElem?_set_ne h4.2.1.symm).trans h2,h3⟩,h4⟩
 byn:=L.byn
 binj:=L.binj
 pb:=L.pb
theorem LayE.lt(L:LayE h be bt ba bw bh mp mb E):be<h.length∧bh<h.length:=⟨(List.getElem?_eq_some_iff.1 L.e).1,(List.getElem?_eq_some_iff.1 L.q).1⟩
theorem LayE.watch(L:LayE h be bt ba bw bh mp mb E){T:Tr}{S:WS}(W:LayW h' bw ba bt mp' mb' E.A T S)(X:Ext h h' (aP bw bt mp mb) (aP bw bt mp' mb')):LayE h' be bt ba bw bh mp' mb' {E with T:=T,S:=S}where
 w:=W
 e:=(X.same _ L.lt.1 L.eo.1).trans L.e
 q:=(X.same _ L.lt.2 L.ho.1).trans L.q
 ne:=L.ne
 eo:=⟨fun d=>L.eo.1 (X.sub _ L.lt.1 d),L.eo.2⟩
 ho:=⟨fun d=>L.ho.1 (X.sub _ L.lt.2 d),L.ho.2⟩
theorem LayE.trail(L:LayE h be bt ba bw bh mp mb E)(T:Tr):LayE (h.set bt (fB T)) be bt ba bw bh mp mb {E with T:=T}:=
 L.watch (L.w.setT T) (Ext.set bt _ (.inr (.inl rfl)))
theorem LayE.arena(L:LayE h be bt ba bw bh mp mb E)(A:Ar):LayE (h.set ba (lf A)) be bt ba bw bh mp mb {E with A:=A}where
 w:=L.w.setA A
 e:=(List.getElem?_set_ne L.eo.2.symm).trans L.e
 q:=(List.getElem?_set_ne L.ho.2.symm).trans L.q
 ne:=L.ne
 eo:=L.eo
 ho:=L.ho
theorem LayE.heap(L:LayE h be bt ba bw bh mp mb E)(q:HS):LayE (h.set bh (ap q)) be bt ba bw bh mp mb {E with q:=q}where
 w:=L.w.other bh (ap q) L.ho.1 L.ho.2
 e:=(List.getElem?_set_ne L.ne.symm).trans L.e
 q:=List.getElem?_set_self L.lt.2
 ne:=L.ne
 eo:=L.eo
 ho:=L.ho
theorem LayE.eng(L:LayE h be bt ba bw bh mp mb E)(E':ES)(hT:E'.T=E.T)(hA:E'.A=E.A)(hS:E'.S=E.S)(hq:E'.q=E.q):LayE (h.set be (bI bt ba bw bh E')) be bt ba bw bh mp mb E' where
 w:=by
  rw[hT,hA,hS];exact L.w.other be _ L.eo.1 L.eo.2
 e:=List.getElem?_set_self L.lt.1
 q:=by rw[hq];exact(List.getElem?_set_ne L.ne).trans L.q
 ne:=L.ne
 eo:=L.eo
 ho:=L.ho
theorem Ext.eng(X:Ext h h' (aP bw bt mp mb) (aP bw bt mp' mb')):Ext h h' (d9 be bt ba bw bh mp mb) (d9 be bt ba bw bh mp' mb')where
 len:=X.len
 same:=fun b hb hn=>X.same b hb fun d=>hn (.inr (.inr (.inr d)))
 sub:=fun b hb d=>d.imp id (Or.imp id (Or.imp id (X.sub b hb)))
end
def yY(T:Tr)(l:Int):En:=⟨l,(br T (ab l)).lev,(br T (ab l)).rea⟩
def eZ(T:Tr):RT:=⟨(T.marks.length:Int) -1,T.lits.map (yY T),T.beg.length⟩
theorem AK(beg:List Int)(i:Nat):0≤lq beg i∧lq beg i≤beg.length:=by
 unfold lq;have:=List.length_filter_le (fun b=>decide (b≤(i:Int))) beg;omega
theorem AL{beg:List Int}(h:beg.Pairwise (·<·)){k:Nat}(hk:k<beg.length)(i:Nat):lq beg i≤k↔(i:Int)<beg[k]:=by
 have hp:=List.pairwise_iff_getElem.1 h;have key:∀n,n≤beg.length→(((beg.take n).filter fun b=>decide (b≤(i:Int))).length=n∨∃j,∃hj:j<beg.length,j<n∧(i:Int)<beg[j]):=by
  intro n hn
  by_cases c:∃j,∃hj:j<beg.length,j<n∧(i:Int)<beg[j]
  ·exact .inr c
  ·left;rw[List.filter_eq_self.2,List.length_take]
   ·omega
   ·intro b hb;obtain⟨j,hj,rfl⟩:=List.mem_take_iff_getElem.1 hb;have:¬(i:Int)<beg[j]:=fun q=>c ⟨j,by omega,by omega,q⟩;simp;omega
 unfold lq;constructor
 ·intro hl;rcases key (k+1) (by omega)with e|⟨j,hj,hjk,e⟩
  ·have:=(List.take_sublist (k+1) beg).filter (fun b=>decide (b≤(i:Int)));have:=this.length_le;omega
  ·by_cases q:j=k
   ·subst q;exact e
   ·have:=hp j k hj hk (by omega);omega
 ·intro hi;have e:beg.filter (fun b=>decide (b≤(i:Int)))=(beg.take k).filter (fun b=>decide (b≤(i:Int))):=by
   conv=>lhs;rw[←List.take_append_drop k beg,List.filter_append]
   have:(beg.drop k).filter (fun b=>decide (b≤(i:Int)))=[]:=by
    rw[List.filter_eq_nil_iff];intro b hb;obtain⟨j,hj,rfl⟩:=List.mem_drop_iff_getElem.1 hb
    by_cases q:j=0
    ·subst q;simp;omega
    ·have:=hp k (k+j) hk (by omega) (by omega);simp;omega
   rw[this,List.append_nil]
  rw[e];have:=List.length_filter_le (fun b=>decide (b≤(i:Int))) (beg.take k);rw[List.length_take]at this;omega
section
variable {n : Nat} {T : Tr}
theorem TOk.rows(h:TOk n T){i:Nat}(hi:i<(eZ T).rows.length):∃hi':i<T.lits.length,(eZ T).rows[i]=⟨T.lits[i],lq T.beg i,(br T (ab T.lits[i])).rea⟩:=by
 have hi':i<T.lits.length:=by simpa[eZ]using hi
 refine⟨hi',?_⟩;have:(eZ T).rows[i]=yY T T.lits[i]:=by simp only[eZ,List.getElem_map]
 rw[this];unfold yY;rw[(h.mark i hi').2.1]
theorem TOk.deep(h:TOk n T):T.beg.length≤T.lits.length:=by
 have h1:(T.beg.map Int.toNat).Nodup:=by
  refine List.pairwise_map.2 (h.rise.imp_of_mem ?_);intro a b ha hb hl e;have:=h.bnd a ha;have:=h.bnd b hb;omega
 have:=eG (T.beg.map Int.toNat) (List.range T.lits.length) h1 fun x hx=>by
  obtain⟨b,hb,rfl⟩:=List.mem_map.1 hx;have:=h.bnd b hb;rw[List.mem_range];omega
 simpa using this
theorem TOk.rel(h:TOk n T):V.RelD T (eZ T):=by
 have hv:=h.vars;have hn:=h.hn;have hin:∀x∈(eZ T).rows,∃i,∃hi:i<T.lits.length,x=⟨T.lits[i],lq T.beg i,(br T (ab T.lits[i])).rea⟩:=fun x hx=>by
  obtain⟨i,hi,rfl⟩:=List.getElem_of_mem hx;obtain⟨hi',e⟩:=h.rows hi;exact⟨i,hi',e⟩
 refine⟨⟨?_,?_,?_,rfl,?_,?_,?_,?_⟩,?_⟩
 ·show 0≤(T.marks.length:Int) -1∧(T.marks.length:Int) -1≤100000;omega
 ·show(T.marks.length:Int)=(T.marks.length:Int) -1+1;omega
 ·show T.lits=(T.lits.map (yY T)).map (·.l);simp[List.map_map,Function.comp_def,yY]
 ·intro x hx;obtain⟨i,hi,rfl⟩:=hin x hx;show ax T.lits[i] ((T.marks.length:Int) -1)=0;rw[hv];exact h.chk _ (List.getElem_mem hi)
 ·intro x hx;obtain⟨i,hi,rfl⟩:=hin x hx;exact⟨V.okL_chk (v:=n) (by omega) (h.chk _ (List.getElem_mem hi)),AK _ _⟩
 ·intro v hv;refine h.free v fun hm=>?_;obtain⟨x,hx,e⟩:=List.mem_map.1 hm;exact uE hv (yY T x) (List.mem_map_of_mem hx) e
 ·intro v i hi e;obtain⟨j,hj,p1,p2⟩:=jy (t:=eZ T) (v:=v) (by omega);have:j=i:=by omega
  subst this;obtain⟨hj',e2⟩:=h.rows hj;rw[e2]at p2⊢;obtain⟨m1,m2,m3⟩:=h.mark j hj';subst p2;show br T (ab T.lits[j])=⟨wI T.lits[j],lq T.beg j,(br T (ab T.lits[j])).rea,j⟩;rw[←m1,←m2,←m3]
 ·show T.beg.length≤(T.lits.map (yY T)).length;rw[List.length_map];exact h.deep
theorem TOk.mayR(h:TOk n T){l:Int}(hm:eW T l=0):Go.AX.mayR (eZ T) l=0:=by
 obtain⟨m1,m2,m3⟩:=(h.may l).1 hm;have hp:ow (eZ T) (ab l)<0:=by
  refine Int.lt_of_not_ge fun c=>?_;obtain⟨i,hi,_,e⟩:=jy c;obtain⟨hi',e2⟩:=h.rows hi;rw[e2]at e;rcases(nN h.hn (h.chk _ (List.getElem_mem hi')) m1).1 e with q|q
  ·exact m2 (q▸List.getElem_mem hi')
  ·exact m3 (q▸List.getElem_mem hi')
 unfold Go.AX.mayR;have:(eZ T).vars=n:=h.vars;rw[this,if_neg (by simp[m1]),if_neg (by omega)]
theorem uT(h:TMk n T){l:Int}(hm:eW T l=0)(rea:Int):eZ (fW T l rea)=⟨(eZ T).vars,(eZ T).rows++[⟨l,T.beg.length,rea⟩],T.beg.length⟩:=by
 obtain⟨m1,m2,m3⟩:=(h.may l).1 hm;obtain⟨_,_,_,v1,v2,_⟩:=bQ h.hn m1;have hlt:ab l<T.marks.length:=by rw[h.len];omega
 have hr:(T.lits++[l]).map (yY (fW T l rea))=T.lits.map (yY T)++[⟨l,T.beg.length,rea⟩]:=by
  rw[List.map_append];congr 1
  ·refine List.map_congr_left fun x hx=>?_;unfold yY;have hx0:=(bQ h.hn (h.chk x hx)).2.2.2.1;rw[iZ T l rea v1 hlt _ (by omega),if_neg];intro e;rcases(nN h.hn (h.chk x hx) m1).1 e with q|q
   ·exact m2 (q▸hx)
   ·exact m3 (q▸hx)
  ·simp only[List.map_cons,List.map_nil];unfold yY;rw[iZ T l rea v1 hlt _ (by omega),if_pos rfl]
 have hl:(fW T l rea).marks.length=T.marks.length:=by simp[fW]
 unfold eZ;rw[hl];exact congrArg (fun r=>(⟨(T.marks.length:Int) -1,r,T.beg.length⟩:RT)) hr
theorem AM(h:TOk n T):∀j,j≤T.lits.length→∀i (hi:i<T.lits.length),i<T.lits.length -j→br (popN T j) (ab T.lits[i])=br T (ab T.lits[i])
 |0,_,_,_,_=>rfl
 |j+1,hj,i,hi,hij=>by
  have ih:=AM h j (by omega) i hi (by omega);rw[←ih,popN];have hlen:(popN T j).lits.length=T.lits.length -j:=by rw[dJ,List.length_take];omega
  have hml:T.lits.length -j -1<T.lits.length:=by omega
  have hlast:(popN T j).lits.getD ((popN T j).lits.length -1) 0=T.lits[T.lits.length -j -1]:=by
   rw[hlen,dJ,List.getD_eq_getElem?_getD,List.getElem?_take,if_pos (by omega),List.getElem?_eq_getElem hml];rfl
  unfold br jG;rw[hlast];simp only[List.getD_eq_getElem?_getD,List.getElem?_set];have v1:=(bQ h.hn (h.chk _ (List.getElem_mem hi))).2.2.2.1;have v2:=(bQ h.hn (h.chk _ (List.getElem_mem hml))).2.2.2.1;rw[if_neg];intro e;have:=h.inj hml hi (by omega);omega
theorem wY(h:TOk n T){k:Nat}(hk:k<T.beg.length):eZ (bZ T k)=⟨(eZ T).vars,(eZ T).rows.take (T.beg[k]).toNat,k⟩:=by
 obtain⟨hB,hl,hb⟩:=h.back hk;have hbg:T.beg.getD k 0=T.beg[k]:=by rw[List.getD_eq_getElem?_getD,List.getElem?_eq_getElem hk];rfl
 obtain⟨b1,b2⟩:=h.bnd _ (List.getElem_mem hk);have e1:(bZ T k).marks.length=T.marks.length:=by rw[hB.len,h.len]
 have e2:(bZ T k).lits.map (yY (bZ T k))=(T.lits.map (yY T)).take (T.beg[k]).toNat:=by
  rw[hl,←List.map_take];refine List.map_congr_left fun x hx=>?_;obtain⟨i,hi,rfl⟩:=List.mem_take_iff_getElem.1 hx;have hi':i<T.lits.length:=by omega
  have hm:br (bZ T k) (ab T.lits[i])=br T (ab T.lits[i]):=by
   have e3:br (bZ T k) (ab T.lits[i])=br (popN T (T.lits.length -(T.beg[k]).toNat)) (ab T.lits[i]):=by unfold br bZ;rw[hbg]
   rw[e3];exact AM h _ (by omega) i hi' (by omega)
  unfold yY;rw[hm]
 unfold eZ;rw[e1,e2,hb,List.length_take,Nat.min_eq_left (by omega)]
end
structure EF (cs:List (List Int)) (ats:List Int) (t:RT):Prop extends V.TraF cs ats t where
  clm:∀k:Int,0<k→k≤t.dep→Calm cs (bel t k)
def yZ(ls c:List Int):Prop:=(∃x∈c,x∈ls)∨∃x y,x∈c∧y∈c∧x≠y∧-x∉ls∧-y∉ls
theorem AN{cs:List (List Int)}{ls:List Int}(hl:∀c∈cs,c.length≤1000∧∀y∈c,da y=true)(one:∀y,da y=true→¬(y∈ls∧-y∈ls))(h:∀c∈cs,yZ ls c):Calm cs ls:=by
 intro c hc;obtain⟨l1,l2⟩:=hl c hc;have hm:∀y∈c,cG ls y=-1→-y∈ls:=fun y hy e=>by
  have:=uC e
  rwa [(V.litO (l2 y hy)).2.2.2.2]at this
 have key:∀x0,(x0∈c→cG ls x0≠-1→cG ls x0=0)→¬∀y∈c,y≠x0→cG ls y=-1:=fun x0 h0 hall=>by
  rcases h c hc with⟨x,hx,e⟩|⟨x,y,hx,hy,hne,e1,e2⟩
  ·have hx1:cG ls x=1:=by
    unfold cG;rw[if_neg (by have:=(V.litO (l2 x hx)).2.2.2.1;omega),if_pos e]
   by_cases q:x=x0
   ·subst q;have:=h0 hx (by omega);omega
   ·have:=hall x hx q;omega
  ·by_cases q:x=x0
   ·exact e2 (hm y hy (hall y hy (fun e=>hne (q.trans e.symm))))
   ·exact e1 (hm x hx (hall x hx q))
 refine⟨?_,fun e=>?_⟩
 ·rw[←Bool.not_eq_true];intro e;obtain⟨u1,u2,u3⟩:=GL (l:=ls) l1 (fun y hy=>(V.litO (l2 y hy)).2.2.2.1) e;exact key _ (fun _ _=>u2) u3
 ·rw[mR]at e;exact key 0 (fun hx _=>absurd rfl (V.litO (l2 0 hx)).1) fun y hy _=>e y hy (V.litO (l2 y hy)).2.2.2.1
section
variable {cs : List (List Int)} {ats : List Int} {t : RT}
theorem EF.new(v:Int):EF cs ats ⟨v,[],0⟩:=
 ⟨⟨by simp,by simp,by simp,by simp,fun i j hi=>by simp at hi,fun i hi=>by simp at hi,fun h=>by simp at h,fun k h1 h2=>by simp at h2;omega,fun i hi=>by simp at hi⟩,fun k h1 h2=>by simp at h2;omega⟩
theorem EF.app(h:EF cs ats t)(hv:0≤t.vars∧t.vars≤100000){x:En}(hx:mayR t x.l=0){d:Int}(hd:x.lev=d)(hdt:t.dep≤d)(hdd:d≤t.dep+1)
 (hdec:x.rea<0→d=t.dep+1) (himp:0≤x.rea→d=t.dep) (htop:d=t.dep+1→Calm cs (dx t))
 (hfst:d=t.dep+1→x.rea<0)
 (hi2 : 0 ≤ x.rea → ∃ k, ∃ hk : k < cs.length, x.rea = ats.getD k 0 ∧ x.l ∈ cs[k] ∧ (∀ y ∈ cs[k], y ≠ x.l → ∃ j, ∃ hj : j < t.rows.length, t.rows[j].l = -y) ∧
  (0<x.lev→∃y∈cs[k],y≠x.l∧∃j,∃hj:j<t.rows.length,t.rows[j].l=-y∧t.rows[j].lev=x.lev)):
 EF cs ats ⟨t.vars,t.rows++[x],d⟩:=by
 obtain⟨m1,m2⟩:=DW hx;have m1:=V.okL_chk hv m1;have hlen:(t.rows++[x]).length=t.rows.length+1:=by simp
 have hclm:∀k:Int,0<k→k≤d→Calm cs (bel ⟨t.vars,t.rows++[x],d⟩ k):=by
  intro k hk0 hkd;have hb:bel ⟨t.vars,t.rows++[x],d⟩ k=bel t k:=by
   unfold bel;dsimp only;rw[List.filter_append];have:List.filter (fun x:En=>decide (x.lev<k)) [x]=[]:=by simp;omega
   rw[this,List.append_nil]
  rw[hb]
  by_cases c:k≤t.dep
  ·exact h.clm k hk0 c
  ·have:k=t.dep+1:=by omega
   rw[this,GM (fun x hx=>(h.lev x hx).2)];exact htop (by omega)
 refine⟨⟨by have:=h.dep;dsimp only;omega,?_,?_,?_,?_,?_,fun h0=>hclm d h0 (Int.le_refl _),?_,?_⟩,hclm⟩
 ·intro y hy;rcases List.mem_append.1 hy with hy|hy
  ·exact h.chk y hy
  ·simp at hy;subst hy;exact m1
 ·dsimp only;rw[List.map_append,List.nodup_append];refine⟨h.nd,by simp,?_⟩;intro a ha b hb e;obtain⟨y,hy,rfl⟩:=List.mem_map.1 ha;simp at hb;exact uE m2 y hy (e.trans hb)
 ·intro y hy;rcases List.mem_append.1 hy with hy|hy
  ·have:=h.lev y hy;dsimp only;omega
  ·simp at hy;subst hy;have:=h.dep;dsimp only;omega
 ·intro i j hi hj hij;dsimp only at hi hj⊢;rcases gQ hj with⟨hj',e⟩|⟨hj',e⟩
  ·rcases gQ hi with⟨hi',e'⟩|⟨hi',e'⟩
   ·rw[e,e'];exact h.mono i j hi' hj' hij
   ·omega
  ·rcases gQ hi with⟨hi',e'⟩|⟨hi',e'⟩
   ·rw[e,e',hd];have:=(h.lev _ (List.getElem_mem hi')).2;omega
   ·omega
 ·intro i hi hr;dsimp only at hi hr⊢;rcases gQ hi with⟨hi',e'⟩|⟨hi',e'⟩
  ·rw[e']at hr⊢;obtain⟨g1,g2⟩:=h.dec i hi' hr;refine⟨g1,fun j hj hij=>?_⟩;rw[List.getElem_append_left (by omega)];exact g2 j (by omega) hij
  ·rw[e']at hr⊢;have hd1:=hdec hr;refine⟨by have:=h.dep;omega,fun j hj hij=>?_⟩;rw[List.getElem_append_left (by omega)];have:=(h.lev _ (List.getElem_mem (show j<t.rows.length by omega))).2;omega
 ·intro k hk hkd;dsimp only at hkd⊢
  by_cases c:k≤t.dep
  ·obtain⟨y,hy,e⟩:=h.fst k hk c;exact⟨y,List.mem_append_left _ hy,e⟩
  ·exact⟨x,by simp,by omega,hfst (by omega)⟩
 ·intro i hi hr;dsimp only at hi hr⊢;rcases gQ hi with⟨hi',e'⟩|⟨hi',e'⟩
  ·rw[e']at hr⊢;obtain⟨k,hk,g1,g2,g3,g4⟩:=h.imp i hi' hr;refine⟨k,hk,g1,g2,fun y hy hne=>?_,fun hl=>?_⟩
   ·obtain⟨j,hj,hji,e⟩:=g3 y hy hne;exact⟨j,by omega,hji,by rw[List.getElem_append_left hj];exact e⟩
   ·obtain⟨y,hy,hne,j,hj,hji,e,e2⟩:=g4 hl;exact⟨y,hy,hne,j,by omega,hji,by rw[List.getElem_append_left hj];exact e,by rw[List.getElem_append_left hj];exact e2⟩
  ·rw[e']at hr⊢;obtain⟨k,hk,g1,g2,g3,g4⟩:=hi2 hr;refine⟨k,hk,g1,g2,fun y hy hne=>?_,fun hl=>?_⟩
   ·obtain⟨j,hj,e⟩:=g3 y hy hne;exact⟨j,by omega,by omega,by rw[List.getElem_append_left hj];exact e⟩
   ·obtain⟨y,hy,hne,j,hj,e,e2⟩:=g4 hl;exact⟨y,hy,hne,j,by omega,by omega,by rw[List.getElem_append_left hj];exact e,by rw[List.getElem_append_left hj];exact e2⟩
theorem EF.unit(h:EF cs ats t)(hC:V.ClsN cs ats)(hv:0≤t.vars∧t.vars≤100000){k:Nat}(hk:k<cs.length){x:Int}(u1:x∈cs[k])(hm:mayR t x=0)(ho:∀y∈cs[k],y≠x→-y∈dx t):EF cs ats ⟨t.vars,t.rows++[⟨x,t.dep,ats.getD k 0⟩],t.dep⟩:=by
 have hmem:=List.getElem_mem hk;have hchk:=hC.chk _ hmem;have hp:=hC.pos k hk;have hoth:∀y∈cs[k],y≠x→∃j,∃hj:j<t.rows.length,t.rows[j].l=-y:=fun y hy hne=>by
  obtain⟨a,ha,e⟩:=List.mem_map.1 (ho y hy hne);obtain⟨j,hj,rfl⟩:=List.getElem_of_mem ha;exact⟨j,hj,e⟩
 refine h.app hv (x:=⟨x,t.dep,ats.getD k 0⟩) hm rfl (by omega) (by omega) (fun h=>by dsimp only at h;omega) (fun _=>rfl) (fun h=>by omega) (fun h=>by omega) (fun _=>⟨k,hk,rfl,u1,hoth,fun hl=>?_⟩);dsimp only at hl⊢;apply Classical.byContradiction;intro hno;have hcalm:=h.top hl _ hmem;have hx6:=hchk x u1;obtain⟨x00,_,_,hx0,_⟩:=V.litO hx6;obtain⟨_,mm⟩:=DW hm;have hfree:∀z∈dx t,ab z≠ab x:=fun z hz=>by
  obtain⟨a,ha,rfl⟩:=List.mem_map.1 hz;exact uE mm a ha
 have hv0:cG (bel t t.dep) x=0:=by
  unfold cG;rw[if_neg (by omega),if_neg (fun e=>hfree x (iz _ e) rfl),if_neg (fun e=>hfree _ (iz _ e) (by rw[(V.litO hx6).2.2.2.2,dt]))]
 have hv1:∀y∈cs[k],y≠x→cG (bel t t.dep) y=-1:=fun y hy hne=>by
  obtain⟨j,hj,e⟩:=hoth y hy hne;have hlv:=(h.lev _ (List.getElem_mem hj)).2;have hlt:t.rows[j].lev<t.dep:=by
   rcases Int.lt_or_le t.rows[j].lev t.dep with c|c
   ·exact c
   ·exact absurd ⟨y,hy,hne,j,hj,e,by omega⟩ hno
  have hmb:-y∈bel t t.dep:=by
   unfold bel;rw[List.mem_map];exact⟨t.rows[j],List.mem_filter.2 ⟨List.getElem_mem hj,by simpa using hlt⟩,e⟩
  exact V.val3_m1_of (hchk y hy) hmb (fun e2=>h.one (hchk y hy) ⟨iz _ e2,iz _ hmb⟩)
 have:=Aj (hC.len _ hmem) (hC.nd _ hmem) u1 hx0 hv0 hv1;rw[this]at hcalm;exact absurd hcalm.1 (by simp)
theorem EF.back(h:EF cs ats t){m:Nat}{k:Int}(hk0:0≤k)(hk:k<t.dep)(hm:∀i (hi:i<t.rows.length),i<m↔t.rows[i].lev≤k):EF cs ats ⟨t.vars,t.rows.take m,k⟩:=by
 have hsub:∀x∈t.rows.take m,x∈t.rows:=fun x hx=>List.mem_of_mem_take hx;have hlen:∀{i},i<(t.rows.take m).length→i<m∧i<t.rows.length:=fun hi=>by rw[List.length_take]at hi;omega
 have hin:∀{j},(hj:j<t.rows.length)→t.rows[j].lev≤k→∃hj2:j<(t.rows.take m).length,(t.rows.take m)[j]=t.rows[j]:=fun{j} hj hl=>by
  have:=(hm j hj).2 hl;exact⟨by rw[List.length_take];omega,List.getElem_take⟩
 have hclm:∀j:Int,0<j→j≤k→Calm cs (bel ⟨t.vars,t.rows.take m,k⟩ j):=by
  intro j hj0 hjk;have hb:bel ⟨t.vars,t.rows.take m,k⟩ j=bel t j:=by
   unfold bel;dsimp only
   conv=>rhs;rw[←List.take_append_drop m t.rows,List.filter_append]
   have:(t.rows.drop m).filter (fun x:En=>decide (x.lev<j))=[]:=by
    rw[List.filter_eq_nil_iff];intro x hx;obtain⟨i,hi,rfl⟩:=List.mem_drop_iff_getElem.1 hx;have:=hm (m+i) (by omega);simp;omega
   rw[this,List.append_nil]
  rw[hb];exact h.clm j hj0 (by omega)
 refine⟨⟨hk0,fun x hx=>h.chk x (hsub x hx),?_,?_,?_,?_,fun h0=>hclm k h0 (Int.le_refl _),?_,?_⟩,hclm⟩
 ·exact h.nd.sublist ((List.take_sublist m t.rows).map _)
 ·intro x hx;obtain⟨i,hi,rfl⟩:=List.getElem_of_mem hx;obtain⟨q1,q2⟩:=hlen hi;have e:(t.rows.take m)[i]=t.rows[i]:=List.getElem_take;dsimp only at e⊢;rw[e];exact⟨(h.lev _ (List.getElem_mem q2)).1,(hm i q2).1 q1⟩
 ·intro i j hi hj hij;dsimp only at hi hj⊢;rw[List.getElem_take,List.getElem_take];exact h.mono i j (hlen hi).2 (hlen hj).2 hij
 ·intro i hi hr;dsimp only at hi hr⊢;rw[List.getElem_take]at hr⊢;obtain⟨g1,g2⟩:=h.dec i (hlen hi).2 hr;refine⟨g1,fun j hj hij=>?_⟩;rw[List.getElem_take];exact g2 j (hlen hj).2 hij
 ·intro j hj0 hjk;dsimp only at hjk⊢;obtain⟨x,hx,e1,e2⟩:=h.fst j hj0 (by omega);obtain⟨i,hi,rfl⟩:=List.getElem_of_mem hx;obtain⟨q,e⟩:=hin hi (by omega);exact⟨_,List.getElem_mem q,by rw[e];exact e1,by rw[e];exact e2⟩
 ·intro i hi hr;dsimp only at hi hr⊢;rw[List.getElem_take]at hr⊢;obtain⟨q1,q2⟩:=hlen hi;obtain⟨a,ha,g1,g2,g3,g4⟩:=h.imp i q2 hr;refine⟨a,ha,g1,g2,fun y hy hne=>?_,fun hl=>?_⟩
  ·obtain⟨j,hj,hji,e⟩:=g3 y hy hne;exact⟨j,by rw[List.length_take];omega,hji,by rw[List.getElem_take];exact e⟩
  ·obtain⟨y,hy,hne,j,hj,hji,e,e2⟩:=g4 hl;exact⟨y,hy,hne,j,by rw[List.length_take];omega,hji,by rw[List.getElem_take];exact e,by rw[List.getElem_take];exact e2⟩
theorem EF.cls{cs':List (List Int)}{ats':List Int}(h:EF cs ats t)(hc:∀k:Int,0<k→k≤t.dep→Calm cs' (bel t k))
 (hr:∀i (hi:i<t.rows.length),0≤t.rows[i].rea→∀k (hk:k<cs.length),t.rows[i].rea=ats.getD k 0→t.rows[i].l∈cs[k]→∃k',∃hk':k'<cs'.length,ats'.getD k' 0=ats.getD k 0∧cs'[k']=cs[k]):EF cs' ats' t:=
 ⟨⟨h.dep,h.chk,h.nd,h.lev,h.mono,h.dec,fun h0=>hc _ h0 (Int.le_refl _),h.fst,fun i hi hrr=>by
  obtain⟨k,hk,g1,g2,g3,g4⟩:=h.imp i hi hrr;obtain⟨k',hk',e1,e2⟩:=hr i hi hrr k hk g1 g2;exact⟨k',hk',g1.trans e1.symm,by rw[e2];exact g2,by rw[e2];exact g3,by rw[e2];exact g4⟩⟩,hc⟩
def IR(F:List (List Int))(c:List Int):Prop:=∀m:List Bool,(∀d∈F,cD d m=true)→cD c m=true
theorem EF.zero(h:EF cs ats t)(hC:V.ClsN cs ats){F:List (List Int)}(hE:∀c∈cs,IR F c):∀(n i:Nat)(hi:i<t.rows.length),i<n→t.rows[i].lev≤0→IR F [t.rows[i].l]
 |0,_,_,hn,_=>absurd hn (by omega)
 |n+1,i,hi,hn,hl=>by
  by_cases hr:t.rows[i].rea<0
  ·have:=(h.dec i hi hr).1;omega
  obtain⟨k,hk,_,_,g3,_⟩:=h.imp i hi (by omega);intro m hm;have hc:=hE _ (List.getElem_mem hk) m hm;obtain⟨y,hy,e⟩:=List.any_eq_true.1 hc
  by_cases q:y=t.rows[i].l
  ·subst q;show List.any [t.rows[i].l] (gg m)=true;simp[e]
  ·obtain⟨j,hj,hji,e2⟩:=g3 y hy q;have hlj:=h.mono j i hj hi hji;have ih:=h.zero hC hE n j hj (by omega) (by omega) m hm;rw[e2]at ih;have ih:gg m (-y)=true:=by
    have ih:List.any [-y] (gg m)=true:=ih;simpa using ih
   rw[wU e]at ih;cases ih
end
section
variable {h : List (List SV)} {be bt ba bw bh : Nat} {mp : List (Int × Nat)} {mb : List (Int × By)} {E : ES}
theorem dv(hb:h[be]?=some (bI bt ba bw bh E)):aE Tryz.prog 55 [.ptr be 0] h (fun r h'=>h'=h∧r=.pv (BL true)):=by
 refine fA [] [.tmp 2] aG Tryz.func55 (by kernel_rfl) rfl rfl (by kernel_rfl) (Nat.le_of_ble_eq_true rfl) ?_;obtain⟨hlt,hb'⟩:=List.getElem?_eq_some_iff.1 hb;simp[hb',hlt,bI]
theorem tw:ao Tryz.prog 55 [.lit (.pointer none)] (fun r=>r=.pv (BL false)):=by
 refine aw aG Tryz.func55 (by kernel_rfl) rfl rfl (by kernel_rfl) (Nat.le_of_ble_eq_true rfl) ?_;simp
theorem ry(hb:h[be]?=some (bI bt ba bw bh E)):aE Tryz.prog 17 [.ptr be 0] h (fun r h'=>h'=h∧r=.pv (BL E.over)):=by
 refine fA [] [.tmp 2] aG Tryz.func17 (by kernel_rfl) rfl rfl (by kernel_rfl) (Nat.le_of_ble_eq_true rfl) ?_;obtain⟨hlt,hb'⟩:=List.getElem?_eq_some_iff.1 hb;simp;refine ak.intro (dv hb) (by simp) ?_;rintro _ _ ⟨rfl,rfl⟩;simp[hb',hlt,bI]
theorem Cd(hb:h[be]?=some (bI bt ba bw bh E)):aE Tryz.prog 45 [.ptr be 0] h (fun r h'=>h'=h∧r=.pv (ae E.many)):=by
 refine fA [] [.tmp 2] aG Tryz.func45 (by kernel_rfl) rfl rfl (by kernel_rfl) (Nat.le_of_ble_eq_true rfl) ?_;obtain⟨hlt,hb'⟩:=List.getElem?_eq_some_iff.1 hb;simp;refine ak.intro (dv hb) (by simp) ?_;rintro _ _ ⟨rfl,rfl⟩;simp[hb',hlt,bI]
theorem Ce(L:LayE h be bt ba bw bh mp mb E):aE Tryz.prog 47 [.ptr be 0] h (fun r h'=>h'=h∧r=.pv (ae E.T.beg.length)):=by
 refine fA [] [.tmp 2] aG Tryz.func47 (by kernel_rfl) rfl rfl (by kernel_rfl) (Nat.le_of_ble_eq_true rfl) ?_;obtain⟨hlt,hb'⟩:=List.getElem?_eq_some_iff.1 L.e;have hz:=cu L.w.t 2;have ht:=(List.getElem?_eq_some_iff.1 L.w.t).1;have kD:=iT E.T;simp;refine ak.intro (dv L.e) (by simp) ?_;rintro _ _ ⟨rfl,rfl⟩;simp[hb',hlt,bI,hz];refine ak.introP kD (by simp[ht]) (by simp) ?_;simp
theorem w7(L:LayE h be bt ba bw bh mp mb E)(hl:E.T.lits.length≤1000000):aE Tryz.prog 16 [.ptr be 0] h (fun r h'=>h'=h∧r=.pv (.seq true 1 (af E.T.lits))):=by
 refine lc [] [.tmp 2] aG Tryz.func16 (by kernel_rfl) rfl rfl (by kernel_rfl) (Nat.le_of_ble_eq_true rfl) ?_;obtain⟨hlt,hb'⟩:=List.getElem?_eq_some_iff.1 L.e;have hz:=cu L.w.t 2;have ht:=(List.getElem?_eq_some_iff.1 L.w.t).1;have kD:=er E.T hl;simp;refine ak.intro (dv L.e) (by simp) ?_;rintro _ _ ⟨rfl,rfl⟩;simp[hb',hlt,bI,hz];refine ak.introP kD (by simp[ht]) (by simp) ?_;simp[cz,cI]
def bf(E:ES):ES:=if E.over=true then E else{E with S:=(fJ E.S E.T).1,T:=(fJ E.S E.T).2.1,con:=(fJ E.S E.T).2.2,calm:=decide ((fJ E.S E.T).2.2<0)}
set_option maxRecDepth 16000 in
theorem rz(L:LayE h be bt ba bw bh mp mb E){n:Nat}(hW:WOk n E.S)(hT:TOk n E.T):aE Tryz.prog 43 [.ptr be 0] h (fun r h'=>r=.pv (BL (!E.over&&!(bf E).calm))∧∃mb',LayE h' be bt ba bw bh mp mb' (bf E)∧Ext h h' (d9 be bt ba bw bh mp mb) (d9 be bt ba bw bh mp mb')):=by
 refine dh [] [.tmp 2] aG Tryz.func43 (by kernel_rfl) rfl rfl (by kernel_rfl) (Nat.le_of_ble_eq_true rfl) ?_;obtain⟨hlt,hb'⟩:=List.getElem?_eq_some_iff.1 L.e;have kW:=EL h bw ba bt mp mb E.A L.w hW hT;have hE:bf E=if E.over=true then E else{E with S:=(fJ E.S E.T).1,T:=(fJ E.S E.T).2.1,con:=(fJ E.S E.T).2.2,calm:=decide ((fJ E.S E.T).2.2<0)}:=rfl;generalize bf E=E' at*;simp;refine ak.intro (dv L.e) (by simp) ?_;rintro _ _ ⟨rfl,rfl⟩;cases ho:E.over
 rotate_left
 ·rw[if_pos ho]at hE;subst hE;simp[hb',hlt,bI,ho];exact⟨mb,L,Ext.refl _ _⟩
 rw[if_neg (by simp[ho])]at hE;generalize fJ E.S E.T=R at*;obtain⟨S2,T2,k⟩:=R;dsimp only at*;simp[hb',hlt,bI,ho];refine ak.intro kW (by simp) ?_;rintro _ H2 ⟨rfl,mb2,W2,X2⟩;have L2:=L.watch W2 X2;obtain⟨g1,g2⟩:=List.getElem?_eq_some_iff.1 L2.e;have L3:=L2.eng E' (by rw[hE]) (by rw[hE]) (by rw[hE]) (by rw[hE]);have X3:=(Ext.eng (be:=be) (bh:=bh) (ba:=ba) X2).trans (Ext.set be (bI bt ba bw bh E') (.inl rfl));subst hE;simp[g1,g2,bI,ho]at L3 X3⊢;exact⟨mb2,L3,X3⟩
end
def uV(f:Int→Int)(l:List Int)(i:Nat):List Int:=(l.take i).map f++List.replicate (l.length -i) 0
theorem Fu(f:Int→Int)(l:List Int)(i:Nat)(h:i≤l.length):(uV f l i).length=l.length:=by unfold uV;simp;omega
theorem Fv(f:Int→Int)(l:List Int)(i:Nat)(h:i<l.length):(uV f l i).set i (f l[i])=uV f l (i+1):=by
 unfold uV;have e:l.length -i=(l.length -(i+1))+1:=by omega
 rw[e,List.replicate_succ,List.set_append_right _ _ (by simp;omega)];have e2:i -((l.take i).map f).length=0:=by simp;omega
 rw[e2,List.set_cons_zero,List.take_succ_eq_append_getElem h,List.map_append,List.map_cons,List.map_nil,List.append_assoc];rfl
theorem Fw(f:Int→Int)(l:List Int):uV f l l.length=l.map f:=by unfold uV;simp
section
variable {h : List (List SV)} {be bt ba bw bh : Nat} {mp : List (Int × Nat)} {mb : List (Int × By)} {E : ES}
set_option maxRecDepth 16000 in
theorem AS(L:LayE h be bt ba bw bh mp mb E)(hk:jC E.A)(hl:E.A.row.length≤1000000)(l:List Int)(hll:l.length≤1000000):aE Tryz.prog 95 [.ptr be 0,.seq false 1 (af l)] h (fun r h'=>h'=h∧r=.pv (.seq true 1 (af (l.map (lh E.A))))):=by
 refine lc [] [.tmp 4] aG Tryz.func95 (by kernel_rfl) rfl rfl (by kernel_rfl) (Nat.le_of_ble_eq_true rfl) ?_;obtain⟨hlt,hb'⟩:=List.getElem?_eq_some_iff.1 L.e;have kI:=fun k=>Ey h ba E.A L.w.a hk hl k;simp[hb',hlt,bI];refine⟨by omega,?_⟩;refine aH.intro (S:=fun(i:Nat)=>⟨[(5,.pv (.fn (.func 158) [.ptr ba 0] [])),(6,.own true 1 (af (uV (lh E.A) l i))),(17,.pv (.seq false 1 (af l))),(18,.pv (ae l.length)),(19,.pv (ae i))],h⟩) (fun i=>i≤l.length) (fun i=>l.length -i) 0 ?_ (Nat.zero_le _) ?_
 ·exact aj.keep (by simp[uV,af]) rfl
 intro i hi;have hfl:=Fu (lh E.A) l i hi
 by_cases c:i<l.length
 ·have hw:aM ((i:Int)+1)=((i+1:Nat):Int):=by rw[ah (by omega) (by omega)];omega
  have hs:=Fv (lh E.A) l i c;simp[c];refine ak.intro (kI l[i]) (by simp) ?_;rintro _ _ ⟨rfl,rfl⟩;simp[hfl,c];exact⟨i+1,by(try dsimp only);omega,by(try dsimp only);omega,aj.keep (by simp[hw,gV,hs]) rfl⟩
 ·have hie:i=l.length:=by omega
  subst hie;simp[Fw,cz,cI]
structure HpTo (n:Nat) (q q':HS):Prop where
  hp:HpG n 1000000000000 q'
  mem:∀v,v∈q.row→v∈q'.row
theorem HpTo.refl{n:Nat}{q:HS}(g:HpG n 1000000000000 q):HpTo n q q:=⟨g,fun _ h=>h⟩
theorem HpTo.trans{n:Nat}{a b c:HS}(x:HpTo n a b)(y:HpTo n b c):HpTo n a c:=⟨y.hp,fun v h=>y.mem v (x.mem v h)⟩
theorem HpTo.bump{n:Nat}{q:HS}(g:HpG n 1000000000000 q)(v b:Int):HpTo n q (d8 q v b).1:=⟨(tn g v b).1,fun x hx=>(tn g v b).2.1.symm.subset hx⟩
theorem HpTo.halve{n:Nat}{q:HS}(g:HpG n 1000000000000 q):HpTo n q (bW q):=by
 obtain⟨a,b,_⟩:=jH (M:=500000000000) (g.mono (by decide)) (by decide) (by decide);exact⟨a.mono (by decide),fun x hx=>b.symm.subset hx⟩
theorem HpTo.put{n:Nat}{q:HS}(g:HpG n 1000000000000 q)(v:Int):HpTo n q (dV q v).1:=by
 obtain⟨a,_,b,c⟩:=wP g v;refine⟨a,fun x hx=>?_⟩
 by_cases e:(dV q v).2=0
 ·exact(b e).symm.subset (List.mem_append_left _ hx)
 ·rw[c e];exact hx
def AT:Sch:=
 let s0:Sch:=.fork [(10,.done)]
 let s1:Sch:=.fork [(9,s0)]
 let s2:Sch:=.fork [(5,s0)]
 let s3:Sch:=.fork [(5,s1),(9,s2)]
 let s4:Sch:=.fork [(3,s0)]
 let s5:Sch:=.fork [(3,s1),(9,s4)]
 let s6:Sch:=.fork [(3,s2),(5,s4)]
 let s7:Sch:=.fork [(3,s3),(5,s5),(9,s6)]
 .take 0 (.take 1 (.take 2 (.take 4 (.take 6 (.take 7 (.take 8 s7))))))
set_option maxRecDepth 16000 in
theorem Fx(L:LayE h be bt ba bw bh mp mb E){n:Nat}(hn:n≤100000)(g:HpG n 1000000000000 E.q)(hd:0≤E.decay∧E.decay≤100)(hi:0≤E.inc∧E.inc≤1000000000)(l:List Int)(hll:l.length≤1000000):aE Tryz.prog 96 [.ptr be 0,.seq false 1 (af l)] h (fun r h'=>r=.pv (.tup [])∧∃q k,LayE h' be bt ba bw bh mp mb {E with q:=q,inc:=k}∧Ext h h' (d9 be bt ba bw bh mp mb) (d9 be bt ba bw bh mp mb)∧HpTo n E.q q∧0≤k∧k≤1000000000):=by
 refine dh [3] [] aG Tryz.func96 (by kernel_rfl) rfl rfl (by kernel_rfl) (Nat.le_of_ble_eq_true rfl) ?_;simp;refine aH.intro (S:=fun(x:Nat×List (List SV)×HS)=>⟨[(0,.pv (.ptr be 0)),(6,.pv (.seq false 1 (af l))),(7,.pv (ae l.length)),(8,.pv (ae x.1))],x.2.1⟩)
  (fun x=>x.1≤l.length∧LayE x.2.1 be bt ba bw bh mp mb {E with q:=x.2.2}∧Ext h x.2.1 (d9 be bt ba bw bh mp mb) (d9 be bt ba bw bh mp mb)∧HpTo n E.q x.2.2) (fun x=>l.length -x.1) (0,h,E.q) ?_ ⟨Nat.zero_le _,L,Ext.refl _ _,.refl g⟩ ?_
 ·exact aj.keep (by simp) rfl
 rintro⟨i,H,q⟩ ⟨hi',LH,XH,GH⟩;dsimp only at hi' LH XH GH;obtain⟨hlt,hb'⟩:=List.getElem?_eq_some_iff.1 LH.e
 by_cases c:i<l.length
 ·have hw:aM ((i:Int)+1)=((i+1:Nat):Int):=by rw[ah (by omega) (by omega)];omega
  have kV:=aD l[i];have kB:=wQ H bh q LH.q GH.hp hn (ab l[i]) E.inc;have L2:=LH.heap (d8 q (ab l[i]) E.inc).1;have X2:=XH.trans (Ext.set bh (ap (d8 q (ab l[i]) E.inc).1) (.inr (.inl rfl)));have G2:=GH.trans (HpTo.bump GH.hp (ab l[i]) E.inc);generalize ab l[i]=v at*;generalize d8 q v E.inc=R at*;simp[c];refine aY.meet AT ⟨[(0,.pv (.ptr be 0)),(6,.pv (.seq false 1 (af l))),(7,.pv (ae l.length)),(8,.pv (ae i))],H.set bh (ap R.1)⟩ (by kernel_rfl) ?_ ?_
  ·simp[AT,hb',hlt,bI]
   repeat' first
    |trivial
    |refine And.intro ?_ ?_
    |(refine am.intro kV (by simp) ?_;simp[hb',hlt,bI])
    |(refine ak.intro kB (by simp) ?_;rintro _ _ ⟨rfl,rfl⟩;simp;exact aj.keep (by simp) rfl)
  ·simp;exact⟨(i+1,_,R.1),by(try dsimp only);omega,⟨by(try dsimp only);omega,L2,X2,G2⟩,aj.keep (by simp[hw]) rfl⟩
 ·have hie:i=l.length:=by omega
  subst hie;obtain⟨d1,d2⟩:=hd;obtain⟨i1,i2⟩:=hi;have hm:0≤E.inc*E.decay∧E.inc*E.decay≤1000000000*100:=⟨Int.mul_nonneg i1 d1,Int.mul_le_mul i2 d2 d1 (by decide)⟩;have w1:aM (E.inc*E.decay)=E.inc*E.decay:=ah (by omega) (by omega);have t1:(E.inc*E.decay).tdiv 100=E.inc*E.decay/100:=Int.tdiv_eq_ediv_of_nonneg hm.1;have w2:aM (E.inc*E.decay/100)=E.inc*E.decay/100:=ah (by omega) (by omega);have w3:aM (E.inc+E.inc*E.decay/100)=E.inc+E.inc*E.decay/100:=ah (by omega) (by omega);obtain⟨k,hk⟩:∃k,E.inc+E.inc*E.decay/100=k:=⟨_,rfl⟩;have L2:=LH.eng {E with q:=q,inc:=k} rfl rfl rfl rfl;have X2:=XH.trans (Ext.set be (bI bt ba bw bh {E with q:=q,inc:=k}) (.inl rfl));have hk2:0≤k∧k≤2000000000:=by omega
  rw[hk]at w3;simp[hb',hlt,bI,w1,t1,w2,w3,hk];simp only[bI]at L2 X2;refine aH.intro (S:=fun(x:List (List SV)×HS×Int)=>⟨[(0,.pv (.ptr be 0))],x.1⟩)
   (fun x=>LayE x.1 be bt ba bw bh mp mb {E with q:=x.2.1,inc:=x.2.2}∧Ext h x.1 (d9 be bt ba bw bh mp mb) (d9 be bt ba bw bh mp mb)∧HpTo n E.q x.2.1∧0≤x.2.2∧x.2.2≤2000000000) (fun x=>x.2.2.toNat) (_,q,k) ?_ ⟨L2,X2,GH,hk2⟩ ?_
  ·exact aj.keep (by simp) rfl
  clear LH XH GH L2 X2 hlt hb' w1 t1 w2 w3 hk hk2;rintro⟨H,q,k⟩ ⟨LH,XH,GH,hk2⟩;dsimp only at LH XH GH hk2;obtain⟨hlt,hb'⟩:=List.getElem?_eq_some_iff.1 LH.e
  by_cases c:1000000000<k
  ·have hw:aM (k.tdiv 2)=k/2:=by rw[Int.tdiv_eq_ediv_of_nonneg hk2.1,ah (by omega) (by omega)]
   have hq:=GH.hp;have kH:=oH H bh q LH.q (by rw[hq.sl];omega) (by rw[hq.pll];exact hq.inr) (by rw[hq.pll,hq.sl]) (by have:=hq.few;omega) (by rw[hq.sl];omega);have L2:=LH.heap (bW q);have X2:=XH.trans (Ext.set bh (ap (bW q)) (.inr (.inl rfl)));have G2:=GH.trans (HpTo.halve hq);generalize bW q=q2 at*;simp[c,hb',hlt,bI];refine ak.intro kH (by simp) ?_;rintro _ _ ⟨rfl,rfl⟩;obtain⟨hlt2,hb2⟩:=List.getElem?_eq_some_iff.1 L2.e;have L3:=L2.eng {E with q:=q2,inc:=k/2} rfl rfl rfl rfl;have X3:=X2.trans (Ext.set be (bI bt ba bw bh {E with q:=q2,inc:=k/2}) (.inl rfl));generalize H.set bh (ap q2)=H2 at*;simp only[bI]at L3 X3;simp[hb2,hlt2,bI,hw];exact⟨(_,q2,k/2),by(try dsimp only);omega,⟨L3,X3,G2,by(try dsimp only);omega,by(try dsimp only);omega⟩,aj.keep (by simp) rfl⟩
  ·simp[c,hb',hlt,bI];exact⟨q,k,LH,XH,GH,hk2.1,by omega⟩
end
end Go.AX