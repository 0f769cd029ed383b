/-
  Trails of any number of variables, told plainly (plain law).
  Watches: what always holds of them (plain law).
  Watches: what Propagate brings about (plain law).
  Watches: Propagate closes what is attached under units, or tells a conflict (plain law, and the call).
  What follows by units does not hang on the order (plain law).
  Contracts: the document's watches: Clauses, Follows, Right.
  Contracts: a desk with clauses and a watch: a literal is decided, or taken back.
  Contracts: a desk with clauses and a watch: all follows.
-/
import Derived.Test.YthfhellfmbllhaaGreatS12AxWaO
import Derived.Test.YthfhellfmbllhaaGreatS12AxRnS
namespace Go.AX
open Go.Proofs
set_option linter.unusedSimpArgs false
theorem litN_ok {n:Nat} (hn:n≤100000) {l:Int} (h:litChk l n=0):l≠0∧-(n:Int)≤l∧l≤n∧1≤litV l∧litV l≤n∧litV l=absS l∧0≤litX l∧w64 (-l)=-l:=by
 obtain⟨a,b,c⟩:=(litChk_zero (by omega)).1 h;obtain⟨d,e,f,g⟩:=litV_in (by omega) h;exact⟨a,b,c,d,e,g,by rw[litX_nn];exact f,w64_id (by omega) (by omega)⟩
theorem litV_eqN {n:Nat} (hn:n≤100000) {x y:Int} (hx:litChk x n=0) (hy:litChk y n=0):litV x=litV y↔x=y∨x=-y:=by
 obtain⟨_,_,_,_,_,e1,_⟩:=litN_ok hn hx;obtain⟨_,_,_,_,_,e2,_⟩:=litN_ok hn hy;rw[e1,e2];unfold absS;constructor
 ·intro h;split at h<;>split at h<;>omega
 ·intro h;split<;>split<;>omega
def levT (beg:List Int) (i:Nat):Int:=((beg.filter fun b=>decide (b≤(i:Int))).length:Nat)
def sgnM (l:Int):Int:=if l<0 then-1 else 1
structure TMk (n:Nat) (T:Tr):Prop where
  hn:n≤100000
  len:T.marks.length=n+1
  chk:∀y∈T.lits,litChk y n=0
  nd:(T.lits.map litV).Nodup
  mark:∀i (hi:i<T.lits.length),(mkAt T (litV T.lits[i])).v=sgnM T.lits[i]∧(mkAt T (litV T.lits[i])).lev=levT T.beg i∧(mkAt T (litV T.lits[i])).pla=i
  free:∀v:Int,v∉T.lits.map litV→(mkAt T v).v=0
structure TOk (n:Nat) (T:Tr):Prop extends TMk n T where
  bnd:∀b∈T.beg,0≤b∧b<T.lits.length
  rise:T.beg.Pairwise (·<·)
section
variable {n : Nat} {T : Tr}
theorem TMk.okT (h:TMk n T):T.ok:=⟨by rw[h.len];omega,by rw[h.len];have:=h.hn;omega⟩
theorem TMk.vars (h:TMk n T):(T.marks.length:Int) -1=n:=by rw[h.len];omega
theorem TMk.few (h:TMk n T):T.lits.length≤n:=by
 have h1:((T.lits.map litV).map Int.toNat).Nodup:=by
  refine List.pairwise_map.2 (h.nd.imp_of_mem ?_);intro a b ha hb hne e;obtain⟨x,hx,rfl⟩:=List.mem_map.1 ha;obtain⟨y,hy,rfl⟩:=List.mem_map.1 hb;have:=(litN_ok h.hn (h.chk x hx)).2.2.2.1;have:=(litN_ok h.hn (h.chk y hy)).2.2.2.1;exact hne (by omega)
 have h2:(T.lits.map litV).map Int.toNat⊆List.range' 1 n:=by
  intro v hv;obtain⟨a,ha,rfl⟩:=List.mem_map.1 hv;obtain⟨x,hx,rfl⟩:=List.mem_map.1 ha;obtain⟨_,_,_,p,q,_⟩:=litN_ok h.hn (h.chk x hx);rw[List.mem_range'_1];omega
 have:=(len_of_sub _ _ h1 h2);simpa using this
theorem TMk.inj (h:TMk n T) {i j:Nat} (hi:i<T.lits.length) (hj:j<T.lits.length) (e:litV T.lits[i]=litV T.lits[j]):i=j:=by
 have hp:=List.pairwise_iff_getElem.1 (List.pairwise_map.1 h.nd);rcases Nat.lt_trichotomy i j with c|c|c
 ·exact absurd e (hp i j hi hj c)
 ·exact c
 ·exact absurd e.symm (hp j i hj hi c)
theorem TMk.one (h:TMk n T) {y:Int} (hy:y∈T.lits) (hy2:-y∈T.lits):False:=by
 obtain⟨i,hi,e1⟩:=List.getElem_of_mem hy;obtain⟨j,hj,e2⟩:=List.getElem_of_mem hy2;have hv:litV T.lits[i]=litV T.lits[j]:=by rw[e1,e2,litV_neg]
 have hij:i=j:=h.inj hi hj hv;subst hij;have:=(litN_ok h.hn (h.chk y hy)).1;omega
theorem TMk.nodup (h:TMk n T):T.lits.Nodup:=by
 have:=List.pairwise_map.1 h.nd;exact this.imp fun hne e=>hne (by rw[e])
theorem TMk.val (h:TMk n T) {l:Int} (hl:litChk l n=0):valT T l=if l∈T.lits then 1 else if-l∈T.lits then-1 else 0:=by
 unfold valT;rw[h.vars,if_neg (by simp[hl])];have w1:w64 (-1)=-1:=by decide
 have w2:w64 (- -1)=1:=by decide
 have w3:w64 (-0)=0:=by decide
 have l0:=(litN_ok h.hn hl).1
 by_cases c:l∈T.lits
 ·obtain⟨i,hi,e⟩:=List.getElem_of_mem c;have hm:=(h.mark i hi).1;rw[e]at hm;rw[if_pos c,hm];unfold sgnM
  by_cases d:l<0
  ·rw[if_pos d,if_pos d,w2]
  ·rw[if_neg d,if_neg d]
 rw[if_neg c]
 by_cases c2:-l∈T.lits
 ·obtain⟨i,hi,e⟩:=List.getElem_of_mem c2;have hm:=(h.mark i hi).1;rw[e,litV_neg]at hm;rw[if_pos c2,hm];unfold sgnM
  by_cases d:l<0
  ·rw[if_pos d,if_neg (by omega),w1]
  ·rw[if_neg d,if_pos (by omega)]
 ·rw[if_neg c2,h.free]
  ·split
   ·exact w3
   ·rfl
  ·intro hm;obtain⟨x,hx,e⟩:=List.mem_map.1 hm;rcases(litV_eqN h.hn (h.chk x hx) hl).1 e with rfl|rfl
   ·exact c hx
   ·exact c2 hx
theorem TMk.val1 (h:TMk n T) {l:Int} (hl:litChk l n=0):valT T l=1↔l∈T.lits:=by
 rw[h.val hl];split
 ·simp_all
 ·split<;>simp_all
theorem TMk.valm (h:TMk n T) {l:Int} (hl:litChk l n=0):valT T l=-1↔-l∈T.lits:=by
 rw[h.val hl];split
 ·rename_i c;simp;intro c2;exact h.one c c2
 ·split<;>simp_all
theorem TMk.val0 (h:TMk n T) {l:Int} (hl:litChk l n=0):valT T l=0↔l∉T.lits∧-l∉T.lits:=by
 rw[h.val hl];split
 ·simp_all
 ·split<;>simp_all
theorem TMk.may (h:TMk n T) (l:Int):mayT T l=0↔litChk l n=0∧l∉T.lits∧-l∉T.lits:=by
 unfold mayT;rw[h.vars]
 by_cases c:litChk l n=0
 ·rw[if_neg (by simp[c])];have hv:=h.val c;have e:(mkAt T (litV l)).v=0↔valT T l=0:=by
   unfold valT;rw[h.vars,if_neg (by simp[c])]
   by_cases d:l<0
   ·rw[if_pos d];constructor
    ·intro e;rw[e];decide
    ·intro e;have hb:-1≤(mkAt T (litV l)).v∧(mkAt T (litV l)).v≤1:=by
      by_cases m:litV l∈T.lits.map litV
      ·obtain⟨x,hx,e1⟩:=List.mem_map.1 m;obtain⟨i,hi,rfl⟩:=List.getElem_of_mem hx;rw[←e1,(h.mark i hi).1];unfold sgnM;split<;>omega
      ·rw[h.free _ m];omega
     rw[w64_id (by omega) (by omega)]at e;omega
   ·rw[if_neg d]
  rw[←h.val0 c,←e]
  by_cases d:(mkAt T (litV l)).v=0
  ·simp[c,d]
  ·simp[c,d]
 ·rw[if_pos c];simp[c]
theorem TOk.new (hn:n≤100000):TOk n (newT n)where
 hn:=hn
 len:=by simp[newT]
 chk:=by simp[newT]
 nd:=by simp[newT]
 mark:=fun i hi=>absurd hi (by simp[newT])
 free:=fun v _=>by
  unfold mkAt newT;rw[List.getD_eq_getElem?_getD];simp only[List.getElem?_replicate];split<;>rfl
 bnd:=by simp[newT]
 rise:=by simp[newT]
theorem levT_all {beg:List Int} {i:Nat} (h:∀b∈beg,b≤i):levT beg i=beg.length:=by
 unfold levT;rw[List.filter_eq_self.2 (fun b hb=>by simpa using h b hb)]
theorem mkAt_put (T:Tr) (l rea:Int) (h1:1≤litV l) (h2:litV l<T.marks.length) (v:Int) (hv:0≤v):mkAt (putT T l rea) v=if v=litV l then⟨sgnM l,T.beg.length,rea,T.lits.length⟩else mkAt T v:=by
 unfold mkAt putT;simp only[List.getD_eq_getElem?_getD,List.getElem?_set]
 by_cases c:v=litV l
 ·subst c;rw[if_pos rfl,if_pos rfl,if_pos (by omega)];rfl
 ·rw[if_neg (by omega),if_neg c]
theorem TMk.put (h:TMk n T) {l:Int} (hm:mayT T l=0) (rea:Int) (hb:∀b∈T.beg,b≤T.lits.length):TMk n (putT T l rea):=by
 obtain⟨m1,m2,m3⟩:=(h.may l).1 hm;obtain⟨_,_,_,v1,v2,_⟩:=litN_ok h.hn m1;have hlt:litV l<T.marks.length:=by rw[h.len];omega
 have hnew:litV l∉T.lits.map litV:=fun hv=>by
  obtain⟨x,hx,e⟩:=List.mem_map.1 hv;rcases(litV_eqN h.hn (h.chk x hx) m1).1 e with rfl|rfl
  ·exact m2 hx
  ·exact m3 hx
 have hpos:∀y∈T.lits,0≤litV y:=fun y hy=>by have:=(litN_ok h.hn (h.chk y hy)).2.2.2.1;omega
 refine⟨h.hn,by simp[putT,h.len],?_,?_,?_,?_⟩
 ·intro y hy;rcases List.mem_append.1 hy with hy|hy
  ·exact h.chk y hy
  ·simp at hy;subst hy;exact m1
 ·show((T.lits++[l]).map litV).Nodup;rw[List.map_append,List.nodup_append];refine⟨h.nd,by simp,fun a ha b hb e=>?_⟩;simp at hb;subst hb;subst e;exact hnew ha
 ·have key:∀i (hi:i<(T.lits++[l]).length),(mkAt (putT T l rea) (litV (T.lits++[l])[i])).v=sgnM (T.lits++[l])[i]∧(mkAt (putT T l rea) (litV (T.lits++[l])[i])).lev=levT T.beg i∧(mkAt (putT T l rea) (litV (T.lits++[l])[i])).pla=i:=by
   intro i hi;have hi':=hi;rw[List.length_append]at hi';simp only[List.length_cons,List.length_nil]at hi'
   by_cases c:i<T.lits.length
   ·rw[List.getElem_append_left c,mkAt_put T l rea v1 hlt _ (hpos _ (List.getElem_mem c)),if_neg (fun e:litV T.lits[i]=litV l=>hnew (e▸List.mem_map_of_mem (List.getElem_mem c)))];exact h.mark i c
   ·have:i=T.lits.length:=by omega
    subst this;rw[List.getElem_append_right (Nat.le_refl _)];simp only[Nat.sub_self,List.getElem_cons_zero];rw[mkAt_put T l rea v1 hlt _ (by omega),if_pos rfl];exact⟨rfl,(levT_all hb).symm,rfl⟩
  exact key
 ·intro v hv;have hv':v∉(T.lits++[l]).map litV:=hv;rw[List.map_append,List.mem_append,not_or]at hv';simp only[List.map_cons,List.map_nil,List.mem_singleton]at hv'
  by_cases c:0≤v
  ·rw[mkAt_put T l rea v1 hlt v c,if_neg hv'.2];exact h.free v hv'.1
  ·have h0:=h.free 0 (fun e=>by obtain⟨x,hx,e⟩:=List.mem_map.1 e;have:=(litN_ok h.hn (h.chk x hx)).2.2.2.1;omega);have e:∀T':Tr,mkAt T' v=mkAt T' 0:=fun T'=>by unfold mkAt;rw[show v.toNat=(0:Int).toNat by omega]
   rw[e,mkAt_put T l rea v1 hlt 0 (by omega),if_neg (by omega)];exact h0
theorem TOk.imp (h:TOk n T) {l:Int} (hm:mayT T l=0) (rea:Int):TOk n (putT T l rea):=
 {h.toTMk.put hm rea (fun b hb=>by have:=(h.bnd b hb).2;omega)with
  bnd:=fun b hb=>by have:=h.bnd b hb;show 0≤b∧b<((T.lits++[l]).length:Int);simp;omega
  rise:=h.rise}
theorem TMk.beg (h:TMk n T) (hb:∀b∈T.beg,b<T.lits.length):TMk n (begT T)where
 hn:=h.hn
 len:=h.len
 chk:=h.chk
 nd:=h.nd
 mark:=fun i hi=>by
  obtain⟨a,b,c⟩:=h.mark i hi;refine⟨a,b.trans ?_,c⟩;have hi':i<T.lits.length:=hi;unfold levT begT;simp only[List.filter_append];rw[List.filter_cons,if_neg (by simp;omega)];simp
 free:=h.free
theorem TOk.dec (h:TOk n T) (l:Int):TOk n (decT T l):=by
 unfold decT;split
 ·rename_i c;have h1:=h.toTMk.beg (fun b hb=>(h.bnd b hb).2);have hbm:∀b∈(begT T).beg,0≤b∧b≤T.lits.length:=fun b hb=>by
   rcases List.mem_append.1 hb with hb|hb
   ·have:=h.bnd b hb;omega
   ·simp at hb;omega
  exact{h1.put (l:=l) c (-1) (fun b hb=>(hbm b hb).2)with
   bnd:=fun b hb=>by have:=hbm b hb;show 0≤b∧b<((T.lits++[l]).length:Int);simp;omega
   rise:=by
    show(T.beg++[(T.lits.length:Int)]).Pairwise (·<·);rw[List.pairwise_append];refine⟨h.rise,by simp,fun a ha b hb=>?_⟩;simp at hb;have:=(h.bnd a ha).2;omega}
 ·exact h
theorem TMk.pop (h:TMk n T) {m:Nat} (hm:T.lits.length=m+1):TMk n (popT T):=by
 have hlast:T.lits.getD (T.lits.length -1) 0=T.lits[m]:=by
  have e:T.lits.length -1=m:=by omega
  rw[e,List.getD_eq_getElem?_getD,List.getElem?_eq_getElem (by omega),Option.getD_some]
 have hml:m<T.lits.length:=by omega
 obtain⟨_,_,_,v1,v2,_⟩:=litN_ok h.hn (h.chk _ (List.getElem_mem hml));have hmk:∀v:Int,0≤v→mkAt (popT T) v=if v=litV T.lits[m]then⟨0,0,0,0⟩else mkAt T v:=fun v hv=>by
  unfold mkAt popT;rw[hlast];simp only[List.getD_eq_getElem?_getD,List.getElem?_set]
  by_cases c:v=litV T.lits[m]
  ·subst c;rw[if_pos rfl,if_pos rfl,if_pos (by rw[h.len];omega)];rfl
  ·rw[if_neg (by omega),if_neg c]
 have hl:(popT T).lits=T.lits.take m:=by unfold popT;rw[hm];rfl
 have hpos:∀y∈T.lits,0≤litV y:=fun y hy=>by have:=(litN_ok h.hn (h.chk y hy)).2.2.2.1;omega
 refine⟨h.hn,by simp[popT,h.len],?_,?_,?_,?_⟩
 ·intro y hy;rw[hl]at hy;exact h.chk y (List.mem_of_mem_take hy)
 ·rw[hl];exact h.nd.sublist ((List.take_sublist m T.lits).map litV)
 ·intro i hi;have hi':i<m:=by rw[hl,List.length_take]at hi;omega
  have he:(popT T).lits[i]=T.lits[i]'(by omega):=by simp only[hl];exact List.getElem_take
  rw[he,hmk _ (hpos _ (List.getElem_mem _)),if_neg (fun e=>by have:=h.inj (by omega) hml e;omega)];exact h.mark i (by omega)
 ·intro v hv;rw[hl]at hv;have key:∀v:Int,0≤v→v∉(T.lits.take m).map litV→(mkAt (popT T) v).v=0:=fun v c hv=>by
   rw[hmk v c];split
   ·rfl
   ·rename_i hne;refine h.free v fun hx=>?_;obtain⟨x,hx2,e⟩:=List.mem_map.1 hx;subst e;obtain⟨i,hi,e⟩:=List.getElem_of_mem hx2;subst e
    by_cases q:i=m
    ·subst q;exact hne rfl
    ·exact hv (List.mem_map.2 ⟨T.lits[i],by rw[List.mem_take_iff_getElem];exact⟨i,by omega,rfl⟩,rfl⟩)
  by_cases c:0≤v
  ·exact key v c hv
  ·have e:mkAt (popT T) v=mkAt (popT T) 0:=by unfold mkAt;rw[show v.toNat=(0:Int).toNat by omega]
   rw[e];refine key 0 (by omega) fun hx=>?_;obtain⟨x,hx,e⟩:=List.mem_map.1 hx;have:=(litN_ok h.hn (h.chk x (List.mem_of_mem_take hx))).2.2.2.1;omega
theorem TMk.popN (h:TMk n T):∀j,j≤T.lits.length→TMk n (popN T j)
 |0,_=>h
 |j+1,hj=>by
  have ih:=TMk.popN h j (by omega);rw[Go.AX.popN];refine ih.pop (m:=T.lits.length -j -1) ?_;rw[popN_lits,List.length_take];omega
theorem TOk.back (h:TOk n T) {k:Nat} (hk:k<T.beg.length):TOk n (backT T k)∧(backT T k).lits=T.lits.take (T.beg[k]).toNat∧(backT T k).beg=T.beg.take k:=by
 have hbg:T.beg.getD k 0=T.beg[k]:=by rw[List.getD_eq_getElem?_getD,List.getElem?_eq_getElem hk];rfl
 obtain⟨b1,b2⟩:=h.bnd _ (List.getElem_mem hk);have hl:(backT T k).lits=T.lits.take (T.beg[k]).toNat:=by
  unfold backT;rw[hbg,popN_lits];congr 1;omega
 have hP:=h.toTMk.popN (T.lits.length -(T.beg[k]).toNat) (by omega);have hPl:(Go.AX.popN T (T.lits.length -(T.beg[k]).toNat)).lits=T.lits.take (T.beg[k]).toNat:=by rw[popN_lits];congr 1;omega
 have hmk:∀v,mkAt (backT T k) v=mkAt (Go.AX.popN T (T.lits.length -(T.beg[k]).toNat)) v:=fun v=>by unfold mkAt backT;rw[hbg]
 have hr:=List.pairwise_iff_getElem.1 h.rise;have hbk:∀b∈T.beg.take k,0≤b∧b<T.beg[k]:=fun b hb=>by
  obtain⟨i,hi,rfl⟩:=List.mem_take_iff_getElem.1 hb;exact⟨(h.bnd _ (List.getElem_mem _)).1,hr i k (by omega) hk (by omega)⟩
 have hlen:(backT T k).lits.length=(T.beg[k]).toNat:=by rw[hl,List.length_take];omega
 refine⟨{hn:=h.hn,len:=?_,chk:=?_,nd:=?_,mark:=?_,free:=?_,bnd:=?_,rise:=?_},hl,rfl⟩
 ·unfold backT;rw[hbg];exact hP.len
 ·intro y hy;rw[hl]at hy;exact h.chk y (List.mem_of_mem_take hy)
 ·rw[hl];exact h.nd.sublist ((List.take_sublist _ T.lits).map litV)
 ·intro i hi;have hi':i<(Go.AX.popN T (T.lits.length -(T.beg[k]).toNat)).lits.length:=by rw[hPl,←hl];exact hi
  have he:(backT T k).lits[i]=(Go.AX.popN T (T.lits.length -(T.beg[k]).toNat)).lits[i]:=by simp only[hl,hPl]
  rw[hmk,he];obtain⟨m1,m2,m3⟩:=hP.mark i hi';refine⟨m1,m2.trans ?_,m3⟩;rw[popN_beg];unfold levT;congr 1;rw[←List.take_append_drop k T.beg,List.filter_append];have:((T.beg.take k++T.beg.drop k).take k)=T.beg.take k:=by rw[List.take_append_drop]
  show _=((backT T k).beg.filter _).length;have hb:(backT T k).beg=T.beg.take k:=rfl;rw[hb];have hd:(T.beg.drop k).filter (fun b=>decide (b≤(i:Int)))=[]:=by
   rw[List.filter_eq_nil_iff];intro b hb;obtain⟨j,hj,rfl⟩:=List.mem_drop_iff_getElem.1 hb;have:T.beg[k]≤T.beg[k+j]:=by
    by_cases c:j=0
    ·subst c;exact Int.le_refl _
    ·exact Int.le_of_lt (hr k (k+j) hk (by omega) (by omega))
   rw[hlen]at hi;simp;omega
  rw[hd,List.append_nil]
 ·intro v hv;rw[hmk];refine hP.free v ?_;rw[hPl,←hl];exact hv
 ·intro b hb;have:=hbk b hb;rw[hlen];omega
 ·exact h.rise.sublist (List.take_sublist _ _)
end
def bF (byl:List (Int×List Int)) (l:Int):List Int:=(lk byl l).getD []
theorem bF_some {byl:List (Int×List Int)} {l:Int} {zs:List Int} (h:lk byl l=some zs):bF byl l=zs:=by unfold bF;rw[h];rfl
theorem bF_ne {byl:List (Int×List Int)} {l k:Int} (h:k∈bF byl l):∃zs,lk byl l=some zs∧k∈zs:=by
 unfold bF at h;cases hq:lk byl l with
 |none=>rw[hq]at h;cases h
 |some zs=>rw[hq]at h;exact⟨zs,rfl,h⟩
theorem bF_forB (byl:List (Int×List Int)) (k l m:Int):bF (forB byl k l) m=if l≠0∧m=l then delS (fun x=>decide (x=k)) (bF byl l)else bF byl m:=by
 unfold bF forB
 by_cases c:l=0
 ·rw[if_pos c,if_neg (fun h=>h.1 c)]
 ·rw[if_neg c,lk_pt]
  by_cases d:m=l
  ·rw[if_pos d.symm,if_pos ⟨c,d⟩];rfl
  ·rw[if_neg (fun e=>d e.symm),if_neg (fun h=>d h.2)]
theorem mem_delK {k j:Int} {l:List Int}:j∈delS (fun x=>decide (x=k)) l↔j∈l∧j≠k:=by
 unfold delS;rw[List.mem_filter];simp
theorem mem_forB {byl:List (Int×List Int)} {k l m j:Int}:j∈bF (forB byl k l) m↔j∈bF byl m∧¬(l≠0∧m=l∧j=k):=by
 rw[bF_forB]
 by_cases c:l≠0∧m=l
 ·rw[if_pos c,mem_delK,c.2];constructor
  ·exact fun h=>⟨h.1,fun q=>h.2 q.2.2⟩
  ·exact fun h=>⟨h.1,fun q=>h.2 ⟨c.1,rfl,q⟩⟩
 ·rw[if_neg c];exact⟨fun h=>⟨h,fun q=>c ⟨q.1,q.2.1⟩⟩,fun h=>h.1⟩
theorem nd_forB {byl:List (Int×List Int)} (h:∀l,(bF byl l).Nodup) (k l m:Int):(bF (forB byl k l) m).Nodup:=by
 rw[bF_forB];split
 ·exact(h l).sublist List.filter_sublist
 ·exact h m
theorem bF_addB (byl:List (Int×List Int)) (k l m:Int):bF (addB byl k l) m=if m=l then bF byl l++[k]else bF byl m:=by
 unfold bF addB;rw[lk_pt]
 by_cases d:m=l
 ·rw[if_pos d,if_pos d.symm];rfl
 ·rw[if_neg d,if_neg (fun e=>d e.symm)]
theorem mem_addB {byl:List (Int×List Int)} {k l m j:Int}:j∈bF (addB byl k l) m↔j∈bF byl m∨(m=l∧j=k):=by
 rw[bF_addB]
 by_cases d:m=l
 ·rw[if_pos d,d];simp
 ·rw[if_neg d];simp[d]
theorem nd_addB {byl:List (Int×List Int)} (h:∀l,(bF byl l).Nodup) {k l:Int} (hk:k∉bF byl l) (m:Int):(bF (addB byl k l) m).Nodup:=by
 rw[bF_addB];split
 ·rw[List.nodup_append];refine⟨h l,by simp,fun a ha b hb e=>?_⟩;simp at hb;subst hb;subst e;exact hk ha
 ·exact h m
structure Wch (n:Nat) (S:WS):Prop where
  nd:(S.prs.map (·.1)).Nodup
  lits:∀k p,lk S.prs k=some p→(0≤k∧k≤20000000)∧p.lits.Nodup∧p.lits.length≤1000∧∀y∈p.lits,litChk y n=0
  lnd:(S.late.map (·.1)).Nodup
  lpr:∀k∈S.late.map (·.1),∃p,lk S.prs k=some p
  two:∀k p,lk S.prs k=some p→(k∈S.late.map (·.1)∧p.x=0∧p.y=0)∨(k∉S.late.map (·.1)∧p.x≠p.y∧p.x∈p.lits∧p.y∈p.lits)
  bnd:∀l,(bF S.byl l).Nodup
  mem:∀l k,k∈bF S.byl l↔l≠0∧∃p,lk S.prs k=some p∧(p.x=l∨p.y=l)
theorem mem_of_lk {α:Type} {l:List (Int×α)} {k:Int} {x:α} (h:lk l k=some x):k∈l.map (·.1):=mem_keys.1 (by rw[h];rfl)
theorem dl_keys {α:Type} {l:List (Int×α)} (h:(l.map (·.1)).Nodup) (k x:Int):x∈(dl l k).map (·.1)↔x∈l.map (·.1)∧x≠k:=by
 rw[dl_erase,h.mem_erase_iff];exact⟨fun q=>⟨q.2,q.1⟩,fun q=>⟨q.2,q.1⟩⟩
theorem dl_nd {α:Type} {l:List (Int×α)} (h:(l.map (·.1)).Nodup) (k:Int):((dl l k).map (·.1)).Nodup:=by rw[dl_erase];exact h.erase k
section
variable {n : Nat} {S : WS}
theorem Wch.pos (h:Wch n S) {k:Int} {p:Pr} (hp:lk S.prs k=some p) (hk:k∉S.late.map (·.1)):p.x≠0∧p.y≠0∧p.x≠p.y∧p.x∈p.lits∧p.y∈p.lits:=by
 rcases h.two k p hp with⟨a,_⟩|⟨_,a,b,c⟩
 ·exact absurd a hk
 ·have hl:=(h.lits k p hp).2.2.2;have z:∀y∈p.lits,y≠0:=fun y hy e=>by
   have:=hl y hy;rw[e]at this;unfold litChk inS at this;split at this
   ·omega
   ·simp at this
  exact⟨z _ b,z _ c,a,b,c⟩
theorem Wch.zer (h:Wch n S) {k:Int} {p:Pr} (hp:lk S.prs k=some p) (hk:k∈S.late.map (·.1)):p.x=0∧p.y=0:=by
 rcases h.two k p hp with⟨_,a⟩|⟨a,_⟩
 ·exact a
 ·exact absurd hk a
theorem Wch.nby (h:Wch n S) {k:Int} {p:Pr} (hp:lk S.prs k=some p) (hk:k∈S.late.map (·.1)) (l:Int):k∉bF S.byl l:=fun hb=>by
 obtain⟨l0,q,hq,e⟩:=(h.mem l k).1 hb;rw[hp]at hq;cases hq
 obtain⟨z1,z2⟩:=h.zer hp hk;rw[z1,z2]at e;omega
theorem Wch.entry (h:Wch n S) {k:Int} {p:Pr} (hp:lk S.prs k=some p) {l:Int} (l0:l≠0) (hl:p.x=l∨p.y=l):∃zs,lk S.byl l=some zs∧k∈zs:=bF_ne ((h.mem l k).2 ⟨l0,p,hp,hl⟩)
theorem Wch.hz (h:Wch n S) (hf:S.prs.length≤1000000):∀l zs,lk S.byl l=some zs→zs.length≤1000000:=fun l zs hz=>by
 have e:=bF_some hz;have h1:=h.bnd l;rw[e]at h1;have h2:zs⊆S.prs.map (·.1):=fun k hk=>by
  obtain⟨_,p,hp,_⟩:=(h.mem l k).1 (by rw[e];exact hk);exact mem_of_lk hp
 have:=(len_of_sub _ _ h1 h2);rw[List.length_map]at this;omega
theorem lk_ptN {α:Type} {l:List (Int×α)} {k j:Int} {y:α} (hj:j≠k):lk (pt l k y) j=lk l j:=by rw[lk_pt,if_neg (fun e=>hj e.symm)]
theorem lk_ptS {α:Type} {l:List (Int×α)} {k:Int} {y:α}:lk (pt l k y) k=some y:=by rw[lk_pt,if_pos rfl]
theorem Wch.toLate (h:Wch n S) {k:Int} {p:Pr} (hp:lk S.prs k=some p) (hk:k∉S.late.map (·.1)) (v:Int):Wch n ⟨(forS S k p).prs,(forS S k p).byl,pt S.late k v,S.head,S.seen⟩:=by
 obtain⟨x0,y0,hxy,hx,hy⟩:=h.pos hp hk;have hkeys:(pt S.prs k ⟨p.lits,0,0⟩).map (·.1)=S.prs.map (·.1):=pt_keepW _ hp;have hlk:∀j,j∈(pt S.late k v).map (·.1)↔j=k∨j∈S.late.map (·.1):=fun j=>pt_keysT _ _ _ _;refine⟨?_,?_,?_,?_,?_,?_,?_⟩
 ·show((pt S.prs k _).map (·.1)).Nodup;rw[hkeys];exact h.nd
 ·intro j q hq;have hq:lk (pt S.prs k ⟨p.lits,0,0⟩) j=some q:=hq
  by_cases e:j=k
  ·subst e;rw[lk_ptS]at hq;cases hq;exact h.lits j p hp
  ·rw[lk_ptN e]at hq;exact h.lits j q hq
 ·exact pt_nodupT _ _ _ h.lnd
 ·intro j hj;show∃q,lk (pt S.prs k ⟨p.lits,0,0⟩) j=some q
  by_cases e:j=k
  ·subst e;exact⟨_,lk_ptS⟩
  ·rw[lk_ptN e];rcases(hlk j).1 hj with c|c
   ·exact absurd c e
   ·exact h.lpr j c
 ·intro j q hq;have hq:lk (pt S.prs k ⟨p.lits,0,0⟩) j=some q:=hq;show(j∈(pt S.late k v).map (·.1)∧_)∨(j∉(pt S.late k v).map (·.1)∧_);rw[hlk]
  by_cases e:j=k
  ·subst e;rw[lk_ptS]at hq;cases hq;exact .inl ⟨.inl rfl,rfl,rfl⟩
  ·rw[lk_ptN e]at hq;rcases h.two j q hq with⟨a,b⟩|⟨a,b⟩
   ·exact .inl ⟨.inr a,b⟩
   ·exact .inr ⟨fun c=>c.elim e a,b⟩
 ·exact fun m=>nd_forB (fun m=>nd_forB h.bnd k p.x m) k p.y m
 ·intro m j;show j∈bF (forB (forB S.byl k p.x) k p.y) m↔m≠0∧∃q,lk (pt S.prs k ⟨p.lits,0,0⟩) j=some q∧_;rw[mem_forB,mem_forB,h.mem]
  by_cases e:j=k
  ·subst e;rw[lk_ptS];constructor
   ·rintro⟨⟨⟨m0,q,hq,c⟩,d1⟩,d2⟩;rw[hp]at hq;cases hq
    rcases c with c|c
    ·exact absurd ⟨x0,c.symm,rfl⟩ d1
    ·exact absurd ⟨y0,c.symm,rfl⟩ d2
   ·rintro⟨m0,q,hq,c⟩;cases hq
    simp at c;exact absurd c.symm m0
  ·rw[lk_ptN e];exact⟨fun q=>q.1.1,fun q=>⟨⟨q,fun z=>e z.2.2⟩,fun z=>e z.2.2⟩⟩
theorem Wch.watch (h:Wch n S) {k:Int} {p:Pr} (hp:lk S.prs k=some p) (hk:k∈S.late.map (·.1)) {a b:Int} (hab:a≠b) (ha:a∈p.lits) (hb:b∈p.lits):Wch n ⟨pt S.prs k ⟨p.lits,a,b⟩,addB (addB S.byl k a) k b,dl S.late k,S.head,S.seen⟩:=by
 have hkeys:(pt S.prs k ⟨p.lits,a,b⟩).map (·.1)=S.prs.map (·.1):=pt_keepW _ hp;have hlk:∀j,j∈(dl S.late k).map (·.1)↔j∈S.late.map (·.1)∧j≠k:=fun j=>dl_keys h.lnd k j;have hz:∀y∈p.lits,y≠0:=fun y hy e=>by
  have:=(h.lits k p hp).2.2.2 y hy;rw[e]at this;unfold litChk inS at this;split at this
  ·omega
  ·simp at this
 refine⟨?_,?_,?_,?_,?_,?_,?_⟩
 ·show((pt S.prs k _).map (·.1)).Nodup;rw[hkeys];exact h.nd
 ·intro j q hq;have hq:lk (pt S.prs k ⟨p.lits,a,b⟩) j=some q:=hq
  by_cases e:j=k
  ·subst e;rw[lk_ptS]at hq;cases hq;exact h.lits j p hp
  ·rw[lk_ptN e]at hq;exact h.lits j q hq
 ·exact dl_nd h.lnd k
 ·intro j hj;obtain⟨h1,h2⟩:=(hlk j).1 hj;show∃q,lk (pt S.prs k ⟨p.lits,a,b⟩) j=some q;rw[lk_ptN h2];exact h.lpr j h1
 ·intro j q hq;have hq:lk (pt S.prs k ⟨p.lits,a,b⟩) j=some q:=hq;show(j∈(dl S.late k).map (·.1)∧_)∨(j∉(dl S.late k).map (·.1)∧_);rw[hlk]
  by_cases e:j=k
  ·subst e;rw[lk_ptS]at hq;cases hq;exact .inr ⟨fun c=>c.2 rfl,hab,ha,hb⟩
  ·rw[lk_ptN e]at hq;rcases h.two j q hq with⟨c,d⟩|⟨c,d⟩
   ·exact .inl ⟨⟨c,e⟩,d⟩
   ·exact .inr ⟨fun z=>c z.1,d⟩
 ·intro m;refine nd_addB (fun m=>nd_addB h.bnd (h.nby hp hk a) m) ?_ m;rw[mem_addB];rintro(c|c)
  ·exact h.nby hp hk b c
  ·exact hab c.1.symm
 ·intro m j;show j∈bF (addB (addB S.byl k a) k b) m↔m≠0∧∃q,lk (pt S.prs k ⟨p.lits,a,b⟩) j=some q∧_;rw[mem_addB,mem_addB]
  by_cases e:j=k
  ·subst e;rw[lk_ptS];constructor
   ·rintro((c|c)|c)
    ·exact absurd c (h.nby hp hk m)
    ·rw[c.1];exact⟨hz a ha,_,rfl,.inl rfl⟩
    ·rw[c.1];exact⟨hz b hb,_,rfl,.inr rfl⟩
   ·rintro⟨m0,q,hq,c⟩;cases hq
    rcases c with c|c
    ·exact .inl (.inr ⟨c.symm,rfl⟩)
    ·exact .inr ⟨c.symm,rfl⟩
  ·rw[lk_ptN e,h.mem];constructor
   ·rintro((c|c)|c)
    ·exact c
    ·exact absurd c.2 e
    ·exact absurd c.2 e
   ·exact fun c=>.inl (.inl c)
theorem Wch.move (h:Wch n S) {k l x:Int} {p:Pr} (hp:lk S.prs k=some p) (l0:l≠0) (hl:p.x=l∨p.y=l) (hx:x∈p.lits) (h1:x≠l) (h2:x≠othS l p):Wch n (movS S k l p x):=by
 have hk:k∉S.late.map (·.1):=fun hk=>by
  obtain⟨z1,z2⟩:=h.zer hp hk;rw[z1,z2]at hl;omega
 obtain⟨x0,y0,hxy,hpx,hpy⟩:=h.pos hp hk;have hz:x≠0:=fun e=>by
  have:=(h.lits k p hp).2.2.2 x hx;rw[e]at this;unfold litChk inS at this;split at this
  ·omega
  ·simp at this
 have hkeys:∀q:Pr,(pt S.prs k q).map (·.1)=S.prs.map (·.1):=fun q=>pt_keepW _ hp;have hM:(movP l p x).lits=p.lits∧(movP l p x).x≠(movP l p x).y∧(movP l p x).x∈p.lits∧(movP l p x).y∈p.lits∧∀m,((movP l p x).x=m∨(movP l p x).y=m)↔(x=m∨(m≠l∧(p.x=m∨p.y=m))):=by
  unfold movP;unfold othS at h2
  by_cases c:p.x=l
  ·rw[if_pos c]at h2⊢;refine⟨rfl,h2,hx,hpy,fun m=>?_⟩;show(x=m∨p.y=m)↔_;constructor
   ·rintro(e|e)
    ·exact .inl e
    ·exact .inr ⟨fun q=>hxy (by rw[c,e,q]),.inr e⟩
   ·rintro(e|⟨e1,e|e⟩)
    ·exact .inl e
    ·exact absurd (e.symm.trans c) e1
    ·exact .inr e
  ·rw[if_neg c]at h2⊢;have hy:p.y=l:=hl.elim (fun e=>absurd e c) id;refine⟨rfl,fun e=>h2 e.symm,hpx,hx,fun m=>?_⟩;show(p.x=m∨x=m)↔_;constructor
   ·rintro(e|e)
    ·exact .inr ⟨fun q=>c (e.trans q),.inl e⟩
    ·exact .inl e
   ·rintro(e|⟨e1,e|e⟩)
    ·exact .inr e
    ·exact .inl e
    ·exact absurd (e.symm.trans hy) e1
 obtain⟨m1,m2,m3,m4,m5⟩:=hM;refine⟨?_,?_,h.lnd,?_,?_,?_,?_⟩
 ·show((pt S.prs k _).map (·.1)).Nodup;rw[hkeys];exact h.nd
 ·intro j q hq;have hq:lk (pt S.prs k (movP l p x)) j=some q:=hq
  by_cases e:j=k
  ·subst e;rw[lk_ptS]at hq;cases hq;rw[m1];exact h.lits j p hp
  ·rw[lk_ptN e]at hq;exact h.lits j q hq
 ·intro j hj;show∃q,lk (pt S.prs k (movP l p x)) j=some q
  by_cases e:j=k
  ·subst e;exact⟨_,lk_ptS⟩
  ·rw[lk_ptN e];exact h.lpr j hj
 ·intro j q hq;have hq:lk (pt S.prs k (movP l p x)) j=some q:=hq
  by_cases e:j=k
  ·subst e;rw[lk_ptS]at hq;cases hq;rw[m1];exact .inr ⟨hk,m2,m3,m4⟩
  ·rw[lk_ptN e]at hq;exact h.two j q hq
 ·intro m;refine nd_addB (fun m=>nd_forB h.bnd k l m) ?_ m;rw[mem_forB,h.mem];rintro⟨⟨_,q,hq,c⟩,_⟩;rw[hp]at hq;cases hq
  unfold othS at h2
  by_cases d:p.x=l
  ·rw[if_pos d]at h2;rcases c with c|c
   ·exact h1 (c.symm.trans d)
   ·exact h2 c.symm
  ·rw[if_neg d]at h2;rcases c with c|c
   ·exact h2 c.symm
   ·exact h1 (c.symm.trans (hl.elim (fun e=>absurd e d) id))
 ·intro m j;show j∈bF (addB (forB S.byl k l) k x) m↔m≠0∧∃q,lk (pt S.prs k (movP l p x)) j=some q∧_;rw[mem_addB,mem_forB,h.mem]
  by_cases e:j=k
  ·subst e;rw[lk_ptS];constructor
   ·rintro(⟨⟨m0,q,hq,c⟩,d⟩|⟨c,_⟩)
    ·rw[hp]at hq;cases hq
     exact⟨m0,_,rfl,(m5 m).2 (.inr ⟨fun z=>d ⟨l0,z,rfl⟩,c⟩)⟩
    ·rw[c];exact⟨hz,_,rfl,(m5 x).2 (.inl rfl)⟩
   ·rintro⟨m0,q,hq,c⟩;cases hq
    rcases(m5 m).1 c with c|⟨c1,c2⟩
    ·exact .inr ⟨c.symm,rfl⟩
    ·exact .inl ⟨⟨m0,p,hp,c2⟩,fun z=>c1 z.2.1⟩
  ·rw[lk_ptN e];constructor
   ·rintro(⟨c,_⟩|⟨_,c⟩)
    ·exact c
    ·exact absurd c e
   ·exact fun c=>.inl ⟨c,fun z=>e z.2.2⟩
theorem Wch.put (h:Wch n S) {k:Int} (hk:k∉S.prs.map (·.1)) (k0:0≤k∧k≤20000000) {lits:List Int} (hn:lits.Nodup) (hl:lits.length≤1000) (hc:∀y∈lits,litChk y n=0) (v:Int):Wch n ⟨pt S.prs k ⟨lits,0,0⟩,S.byl,pt S.late k v,S.head,S.seen⟩:=by
 have hno:lk S.prs k=none:=by
  cases hq:lk S.prs k with
  |none=>rfl
  |some p=>exact absurd (mem_of_lk hq) hk
 have hlk:∀j,j∈(pt S.late k v).map (·.1)↔j=k∨j∈S.late.map (·.1):=fun j=>pt_keysT _ _ _ _;refine⟨pt_nodupT _ _ _ h.nd,?_,pt_nodupT _ _ _ h.lnd,?_,?_,h.bnd,?_⟩
 ·intro j q hq;have hq:lk (pt S.prs k ⟨lits,0,0⟩) j=some q:=hq
  by_cases e:j=k
  ·subst e;rw[lk_ptS]at hq;cases hq;exact⟨k0,hn,hl,hc⟩
  ·rw[lk_ptN e]at hq;exact h.lits j q hq
 ·intro j hj;show∃q,lk (pt S.prs k ⟨lits,0,0⟩) j=some q
  by_cases e:j=k
  ·subst e;exact⟨_,lk_ptS⟩
  ·rw[lk_ptN e];rcases(hlk j).1 hj with c|c
   ·exact absurd c e
   ·exact h.lpr j c
 ·intro j q hq;have hq:lk (pt S.prs k ⟨lits,0,0⟩) j=some q:=hq;show(j∈(pt S.late k v).map (·.1)∧_)∨(j∉(pt S.late k v).map (·.1)∧_);rw[hlk]
  by_cases e:j=k
  ·subst e;rw[lk_ptS]at hq;cases hq;exact .inl ⟨.inl rfl,rfl,rfl⟩
  ·rw[lk_ptN e]at hq;rcases h.two j q hq with⟨a,b⟩|⟨a,b⟩
   ·exact .inl ⟨.inr a,b⟩
   ·exact .inr ⟨fun c=>c.elim e a,b⟩
 ·intro m j;show j∈bF S.byl m↔m≠0∧∃q,lk (pt S.prs k ⟨lits,0,0⟩) j=some q∧_;rw[h.mem]
  by_cases e:j=k
  ·subst e;rw[lk_ptS,hno];constructor
   ·rintro⟨_,q,hq,_⟩;cases hq
   ·rintro⟨m0,q,hq,c⟩;cases hq
    simp at c;exact absurd c.symm m0
  ·rw[lk_ptN e]
theorem Wch.del (h:Wch n S) (k:Int):Wch n (detS S k):=by
 unfold detS;cases hp:lk S.prs k with
 |none=>exact h
 |some p=>
  have hkeys:((forS S k p).prs).map (·.1)=S.prs.map (·.1):=pt_keepW _ hp;have hn':(((forS S k p).prs).map (·.1)).Nodup:=by rw[hkeys];exact h.nd
  have hlk:∀j,lk (dl (forS S k p).prs k) j=if j=k then none else lk S.prs j:=fun j=>by
   rw[lk_dlN hn']
   by_cases e:j=k
   ·rw[if_pos e,if_pos e]
   ·rw[if_neg e,if_neg e];exact lk_ptN e
  have hla:∀j,j∈(dl S.late k).map (·.1)↔j∈S.late.map (·.1)∧j≠k:=fun j=>dl_keys h.lnd k j;refine⟨dl_nd hn' k,?_,dl_nd h.lnd k,?_,?_,?_,?_⟩
  ·intro j q hq;have hq:lk (dl (forS S k p).prs k) j=some q:=hq;rw[hlk]at hq;split at hq
   ·cases hq
   ·exact h.lits j q hq
  ·intro j hj;obtain⟨h1,h2⟩:=(hla j).1 hj;show∃q,lk (dl (forS S k p).prs k) j=some q;rw[hlk,if_neg h2];exact h.lpr j h1
  ·intro j q hq;have hq:lk (dl (forS S k p).prs k) j=some q:=hq;show(j∈(dl S.late k).map (·.1)∧_)∨(j∉(dl S.late k).map (·.1)∧_);rw[hla];rw[hlk]at hq;split at hq
   ·cases hq
   ·rename_i e;rcases h.two j q hq with⟨a,b⟩|⟨a,b⟩
    ·exact .inl ⟨⟨a,e⟩,b⟩
    ·exact .inr ⟨fun c=>a c.1,b⟩
  ·exact fun m=>nd_forB (fun m=>nd_forB h.bnd k p.x m) k p.y m
  ·intro m j;show j∈bF (forB (forB S.byl k p.x) k p.y) m↔m≠0∧∃q,lk (dl (forS S k p).prs k) j=some q∧_;rw[mem_forB,mem_forB,h.mem,hlk]
   by_cases e:j=k
   ·subst e;rw[if_pos rfl];constructor
    ·rintro⟨⟨⟨m0,q,hq,c⟩,d1⟩,d2⟩;rw[hp]at hq;cases hq
     rcases c with c|c
     ·exact absurd ⟨fun z=>m0 (c.symm.trans z),c.symm,rfl⟩ d1
     ·exact absurd ⟨fun z=>m0 (c.symm.trans z),c.symm,rfl⟩ d2
    ·rintro⟨m0,q,hq,c⟩;cases hq
   ·rw[if_neg e];exact⟨fun q=>q.1.1,fun q=>⟨⟨q,fun z=>e z.2.2⟩,fun z=>e z.2.2⟩⟩
end
inductive Grow (C:Int→List Int→Prop) (n:Nat) (T0:Tr):Tr→Prop
  |refl:Grow C n T0 T0
  |step {T:Tr} {k o:Int} {c:List Int}:Grow C n T0 T→C k c→o∈c→mayT T o=0→0≤k→(∀y∈c,y≠o→-y∈T.lits)→Grow C n T0 (putT T o k)
theorem Grow.trans {C:Int→List Int→Prop} {n:Nat} {T0 T1 T2:Tr} (a:Grow C n T0 T1) (b:Grow C n T1 T2):Grow C n T0 T2:=by
 induction b with
 |refl=>exact a
 |step _ h1 h2 h3 h4 h5 ih=>exact .step ih h1 h2 h3 h4 h5
theorem Grow.mono {C C':Int→List Int→Prop} {n:Nat} {T0 T1:Tr} (h:∀k c,C k c→C' k c) (a:Grow C n T0 T1):Grow C' n T0 T1:=by
 induction a with
 |refl=>exact .refl
 |step _ h1 h2 h3 h4 h5 ih=>exact .step ih (h _ _ h1) h2 h3 h4 h5
theorem Grow.pre {C:Int→List Int→Prop} {n:Nat} {T0 T1:Tr} (a:Grow C n T0 T1):T0.lits<+:T1.lits∧T1.beg=T0.beg:=by
 induction a with
 |refl=>exact⟨List.prefix_refl _,rfl⟩
 |step _ h1 h2 h3 h4 h5 ih=>exact⟨ih.1.trans (List.prefix_append _ _),ih.2⟩
def CW (S:WS) (k:Int) (c:List Int):Prop:=∃p,lk S.prs k=some p∧p.lits=c
structure SameL (S S':WS):Prop where
  keys:S'.prs.map (·.1)=S.prs.map (·.1)
  lits:∀k c,CW S' k c↔CW S k c
theorem SameL.refl (S:WS):SameL S S:=⟨rfl,fun _ _=>Iff.rfl⟩
theorem SameL.trans {S S' S2:WS} (a:SameL S S') (b:SameL S' S2):SameL S S2:=⟨b.keys.trans a.keys,fun k c=>(b.lits k c).trans (a.lits k c)⟩
theorem SameL.pt {S:WS} {k:Int} {p q:Pr} (hp:lk S.prs k=some p) (hq:q.lits=p.lits) (byl:List (Int×List Int)) (late:List (Int×Int)) (hd:Int) (sn:List Int):SameL S ⟨Go.AX.pt S.prs k q,byl,late,hd,sn⟩where
 keys:=pt_keepW _ hp
 lits:=fun j c=>by
  unfold CW;show(∃p',lk (Go.AX.pt S.prs k q) j=some p'∧_)↔_
  by_cases e:j=k
  ·subst e;rw[lk_ptS,hp];constructor
   ·rintro⟨_,a,b⟩;cases a;exact⟨p,rfl,hq▸b⟩
   ·rintro⟨_,a,b⟩;cases a;exact⟨q,rfl,hq.trans b⟩
  ·rw[lk_ptN e]
structure Pro (n:Nat) (S0:WS) (T0:Tr) (S:WS) (T:Tr):Prop where
  wch:Wch n S
  tok:TOk n T
  same:SameL S0 S
  grow:Grow (CW S0) n T0 T
  head:S.head=S0.head
  seen:S.seen=S0.seen
def Clear (S:WS) (P:List Int):Prop:=∀y∈P,bF S.byl (-y)=[]
def HeldAt (S:WS) (T:Tr) (k:Int):Prop:=∀p,lk S.prs k=some p→∃x∈p.lits,x∈T.lits
theorem HeldAt.up {S S':WS} {T T':Tr} {k:Int} (h:HeldAt S T k) (hs:SameL S S') (hT:∀x∈T.lits,x∈T'.lits):HeldAt S' T' k:=fun p hp=>by
 obtain⟨q,hq,e⟩:=(hs.lits k p.lits).1 ⟨p,hp,rfl⟩;obtain⟨x,hx,hx2⟩:=h q hq;exact⟨x,e▸hx,hT x hx2⟩
section
variable {n : Nat}
theorem opn14_in {T:Tr} (hT:TMk n T) {lits:List Int} (hl:∀y∈lits,litChk y n=0) {x:Int}:x∈opn14 T lits↔x∈lits∧-x∉T.lits:=by
 unfold opn14;rw[List.mem_filter];constructor
 ·rintro⟨a,b⟩;refine⟨a,fun c=>?_⟩;have:=(hT.valm (hl x a)).2 c;simp[this]at b
 ·rintro⟨a,b⟩;refine⟨a,?_⟩;have h1:=hT.val (hl x a);rw[if_neg b]at h1;split at h1<;>simp[h1]
theorem opn14_nd {T:Tr} {lits:List Int} (h:lits.Nodup):(opn14 T lits).Nodup:=h.sublist List.filter_sublist
theorem hld14_is {T:Tr} (hT:TMk n T) {lits:List Int} (hl:∀y∈lits,litChk y n=0):hld14 T lits=true↔∃x∈lits,x∈T.lits:=by
 unfold hld14;rw[List.any_eq_true];constructor
 ·rintro⟨x,hx,e⟩;exact⟨x,hx,(hT.val1 (hl x hx)).1 (by simpa using e)⟩
 ·rintro⟨x,hx,e⟩;exact⟨x,hx,by simpa using(hT.val1 (hl x hx)).2 e⟩
theorem freB_is {T:Tr} (hT:TMk n T) {p:Pr} (hl:∀y∈p.lits,litChk y n=0):freB T p=true↔∀y∈p.lits,-y∈T.lits:=by
 unfold freB;rw[decide_eq_true_eq,List.length_eq_zero_iff,List.eq_nil_iff_forall_not_mem];constructor
 ·intro h y hy;apply Classical.byContradiction;intro hc;exact h y ((opn14_in hT hl).2 ⟨hy,hc⟩)
 ·intro h y hy;obtain⟨a,b⟩:=(opn14_in hT hl).1 hy;exact b (h y a)
theorem Pro.fresh {S0 S:WS} {T0 T:Tr} (h:Pro n S0 T0 S T) {k:Int} {p:Pr} (hp:lk S.prs k=some p) (hk:k∈S.late.map (·.1)) (hb:freB T p=false):
 Pro n S0 T0 (freS S T k p) (freT T k p)∧(∀j,j∈(freS S T k p).late.map (·.1)→j∈S.late.map (·.1))∧(∀j,j∈S.late.map (·.1)→j≠k→j∈(freS S T k p).late.map (·.1))∧(k∈(freS S T k p).late.map (·.1)→HeldAt (freS S T k p) (freT T k p) k)∧SameL S (freS S T k p)∧Grow (CW S0) n T (freT T k p)∧
 (∀y,y∈T.lits→bF (freS S T k p).byl (-y)=bF S.byl (-y)):=by
 obtain⟨k0,hnd,hlen,hl⟩:=h.wch.lits k p hp;have hin:=fun x=>opn14_in (x:=x) h.tok.toTMk hl;have hO:=opn14_nd (T:=T) hnd;have hH:=hld14_is h.tok.toTMk hl;unfold freS freT;unfold freB at hb;generalize opn14 T p.lits=O at*;rcases O with _|⟨a,_|⟨b,O⟩⟩
 ·simp at hb
 ·rw[if_neg (by simp)];obtain⟨a1,a2⟩:=(hin a).1 (List.mem_cons_self ..);cases hd:hld14 T p.lits
  ·rw[if_pos ⟨rfl,rfl⟩];have hna:a∉T.lits:=fun e=>by rw[hH.2 ⟨a,a1,e⟩]at hd;cases hd
   have hm:mayT T a=0:=(h.tok.may a).2 ⟨hl a a1,hna,a2⟩;have hI:impT T a k=putT T a k:=by
    have hE:impE T a k=0:=by
     unfold impE;rw[if_neg (by simp[hm]),if_neg (by omega)]
    unfold impT;rw[if_pos hE]
   have hc:CW S0 k p.lits:=(h.same.lits _ _).1 ⟨p,hp,rfl⟩;have ho:∀y∈p.lits,y≠a→-y∈T.lits:=fun y hy hne=>by
    apply Classical.byContradiction;intro hc;have:=(hin y).2 ⟨hy,hc⟩;simp at this;exact hne this
   rw[List.getD_cons_zero,hI];have hg:Grow (CW S0) n T (putT T a k):=.step .refl hc a1 hm k0.1 ho;refine⟨⟨h.wch,h.tok.imp hm k,h.same,h.grow.trans hg,h.head,h.seen⟩,fun _ hj=>hj,fun _ hj _=>hj,fun _=>?_,SameL.refl _,hg,fun _ _=>rfl⟩;intro q hq;rw[hp]at hq;cases hq
   exact⟨a,a1,List.mem_append_right _ (by simp)⟩
  ·rw[if_neg (by simp)];refine⟨h,fun _ hj=>hj,fun _ hj _=>hj,fun _=>?_,SameL.refl _,.refl,fun _ _=>rfl⟩;intro q hq;rw[hp]at hq;cases hq
   exact hH.1 hd
 ·rw[if_pos (by simp),if_neg (by simp)];simp only[List.getD_cons_zero,List.getD_cons_succ];obtain⟨a1,a2⟩:=(hin a).1 (List.mem_cons_self ..);obtain⟨b1,b2⟩:=(hin b).1 (by simp);have hab:a≠b:=fun e=>by
   rw[List.nodup_cons]at hO;exact hO.1 (by rw[e];simp)
  have hW:=h.wch.watch hp hk hab a1 b1;have hS:SameL S ⟨pt S.prs k ⟨p.lits,a,b⟩,addB (addB S.byl k a) k b,dl S.late k,S.head,S.seen⟩:=SameL.pt (q:=⟨p.lits,a,b⟩) hp rfl _ _ _ _;refine⟨⟨hW,h.tok,h.same.trans hS,h.grow,h.head,h.seen⟩,fun j hj=>((dl_keys h.wch.lnd k j).1 hj).1,fun j hj hne=>(dl_keys h.wch.lnd k j).2 ⟨hj,hne⟩,fun hj=>absurd rfl ((dl_keys h.wch.lnd k k).1 hj).2,hS,.refl,fun y hy=>?_⟩;show bF (addB (addB S.byl k a) k b) (-y)=_;rw[bF_addB,if_neg (fun e=>b2 (by rw[←e,Int.neg_neg];exact hy)),bF_addB,if_neg (fun e=>a2 (by rw[←e,Int.neg_neg];exact hy))]
theorem Pro.sub {S0 S:WS} {T0 T:Tr} (h:Pro n S0 T0 S T) {C:Int→List Int→Prop} {T':Tr} (g:Grow C n T T'):∀x∈T.lits,x∈T'.lits:=fun _ hx=>g.pre.1.subset hx
structure JL (n:Nat) (S0:WS) (T0:Tr) (P:List Int) (ks:List Int) (S:WS) (T:Tr):Prop extends Pro n S0 T0 S T where
  clr:Clear S P
  sub':∀y∈P,y∈T.lits
  knd:ks.Nodup
  kin:∀k∈ks,k∈S.late.map (·.1)
  all:∀k∈S.late.map (·.1),k∈ks∨HeldAt S T k
theorem JL.step {S0 S:WS} {T0 T:Tr} {P ks:List Int} {k:Int} (h:JL n S0 T0 P (k::ks) S T) {p:Pr} (hp:lk S.prs k=some p) (hb:freB T p=false):JL n S0 T0 P ks (freS S T k p) (freT T k p):=by
 obtain⟨f1,f2,f3,f4,f5,f6,f7⟩:=h.toPro.fresh hp (h.kin k (List.mem_cons_self ..)) hb;have hn:=List.nodup_cons.1 h.knd;exact{f1 with
  clr:=fun y hy=>by rw[f7 y (h.sub' y hy)];exact h.clr y hy
  sub':=fun y hy=>f6.pre.1.subset (h.sub' y hy)
  knd:=hn.2
  kin:=fun j hj=>f3 j (h.kin j (List.mem_cons_of_mem _ hj)) fun e=>hn.1 (e▸hj)
  all:=fun j hj=>by
   rcases h.all j (f2 j hj)with c|c
   ·rcases List.mem_cons.1 c with rfl|c
    ·exact .inr (f4 hj)
    ·exact .inl c
   ·exact .inr (c.up f5 fun x hx=>f6.pre.1.subset hx)}
def Fails (S:WS) (T:Tr) (k:Int):Prop:=0≤k∧∃p,lk S.prs k=some p∧∀y∈p.lits,-y∈T.lits
theorem latF_is {S0:WS} {T0:Tr} {P:List Int}:∀{ks:List Int} {S:WS} {T:Tr},JL n S0 T0 P ks S T→
 ((latF ks S T).2.2=-1∧JL n S0 T0 P [] (latF ks S T).1 (latF ks S T).2.1)∨(0≤(latF ks S T).2.2∧Pro n S0 T0 (latF ks S T).1 (latF ks S T).2.1∧Clear (latF ks S T).1 P∧(∀y∈P,y∈(latF ks S T).2.1.lits)∧Fails (latF ks S T).1 (latF ks S T).2.1 (latF ks S T).2.2)
 |[],S,T,h=>.inl ⟨rfl,h⟩
 |k::ks,S,T,h=>by
  obtain⟨p,hp⟩:=h.wch.lpr k (h.kin k (List.mem_cons_self ..));obtain⟨k0,_,_,hl⟩:=h.wch.lits k p hp;rw[latF,hp];simp only;cases hb:freB T p
  ·rw[if_neg (by simp)];exact latF_is (h.step hp hb)
  ·rw[if_pos rfl];exact .inr ⟨k0.1,h.toPro,h.clr,h.sub',k0.1,p,hp,(freB_is h.tok.toTMk hl).1 hb⟩
structure JF (n:Nat) (S0:WS) (T0:Tr) (P:List Int) (l:Int) (zs:List Int) (S:WS) (T:Tr):Prop extends Pro n S0 T0 S T where
  clr:Clear S P
  sub':∀y∈P,y∈T.lits
  by':bF S.byl l=zs
  fail:-l∈T.lits
  held:∀k∈S.late.map (·.1),HeldAt S T k
theorem JF.look {S0 S:WS} {T0 T:Tr} {P zs:List Int} {l k:Int} (h:JF n S0 T0 P l (k::zs) S T):∃p,lk S.prs k=some p∧l≠0∧(p.x=l∨p.y=l)∧k∉S.late.map (·.1):=by
 have hk:k∈bF S.byl l:=by rw[h.by'];exact List.mem_cons_self ..
 obtain⟨l0,p,hp,hl⟩:=(h.wch.mem l k).1 hk;exact⟨p,hp,l0,hl,fun hc=>h.wch.nby hp hc l hk⟩
theorem delK_cons {k:Int} {zs:List Int} (h:(k::zs).Nodup):delS (fun x=>decide (x=k)) (k::zs)=zs:=by
 have hn:=List.nodup_cons.1 h;unfold delS;rw[List.filter_cons,if_neg (by simp),List.filter_eq_self];intro x hx;have:x≠k:=fun e=>hn.1 (e▸hx);simp[this]
theorem bF_nil_forB {byl:List (Int×List Int)} {k l m:Int} (h:bF byl m=[]):bF (forB byl k l) m=[]:=by
 rw[bF_forB];split
 ·rename_i c;rw[←c.2,h];rfl
 ·exact h
theorem othS_ne {l:Int} {p:Pr} (hxy:p.x≠p.y) (hl:p.x=l∨p.y=l):(p.x=l∧othS l p=p.y∧p.y≠l)∨(p.y=l∧othS l p=p.x∧p.x≠l):=by
 unfold othS
 by_cases c:p.x=l
 ·rw[if_pos c];exact .inl ⟨c,rfl,fun e=>hxy (c.trans e.symm)⟩
 ·rw[if_neg c];exact .inr ⟨hl.elim (fun e=>absurd e c) id,rfl,c⟩
theorem JF.step {S0 S:WS} {T0 T:Tr} {P zs:List Int} {l k:Int} (h:JF n S0 T0 P l (k::zs) S T) {p:Pr} (hp:lk S.prs k=some p) (hb:wstB T l p=false):JF n S0 T0 P l zs (wstS S T l k p) (wstT T l k p):=by
  obtain⟨q,hq,l0,hl,hk⟩:=h.look
  rw[hp]at hq
  cases hq
  obtain⟨x0,y0,hxy,hpx,hpy⟩:=h.wch.pos hp hk
  obtain⟨k0,hnd,hlen,hchk⟩:=h.wch.lits k p hp
  have hnz:(k::zs).Nodup:=by rw[←h.by'];exact h.wch.bnd l
  unfold wstS wstT
  unfold wstB at hb
  cases hpk:pick14 T l p with
  |some x=>
    unfold pick14 at hpk
    have hx:=List.mem_of_find?_eq_some hpk
    have ho:=List.find?_some hpk
    unfold opB at ho
    simp only[Bool.and_eq_true,decide_eq_true_eq]at ho
    obtain⟨o1,o2,o3⟩:=ho
    have hW:=h.wch.move hp l0 hl hx o1 o2
    have hM:(movP l p x).lits=p.lits:=by unfold movP;split<;>rfl
    have hS:SameL S (movS S k l p x):=SameL.pt hp hM _ _ _ _
    have hnx:-x∉T.lits:=fun e=>by
      have:=(h.tok.valm (hchk x hx)).2 e
      omega
    exact { wch := hW, tok := h.tok, same := h.same.trans hS, grow := h.grow, head := h.head, seen := h.seen
            clr:=fun y hy=>by
              show bF (addB (forB S.byl k l) k x) (-y)=[]
              rw[bF_addB,if_neg (fun e=>hnx (by rw[←e,Int.neg_neg];exact h.sub' y hy))]
              exact bF_nil_forB (h.clr y hy)
            sub':=h.sub'
            by':=by
              show bF (addB (forB S.byl k l) k x) l=zs
              rw[bF_addB,if_neg (fun e=>o1 e.symm),bF_forB,if_pos ⟨l0,rfl⟩,h.by',delK_cons hnz]
            fail:=h.fail
            held:=fun j hj=>(h.held j hj).up hS fun _ hx=>hx}
  |none=>
    rw[hpk]at hb
    simp only at hb⊢
    have hL:=h.wch.toLate hp hk (w64 ((lk S.late k).getD 0+1))
    have hS1:SameL S (lateS (forS S k p) k):=SameL.pt (q:=⟨p.lits,0,0⟩) hp rfl _ _ _ _
    have hP1:Pro n S0 T0 (lateS (forS S k p) k) T:=⟨hL,h.tok,h.same.trans hS1,h.grow,h.head,h.seen⟩
    have hlk:∀j,j∈(lateS (forS S k p) k).late.map (·.1)↔j=k∨j∈S.late.map (·.1):=fun j=>pt_keysT _ _ _ _
    have hp1:lk (lateS (forS S k p) k).prs k=some (zerP p):=lk_ptS
    obtain⟨f1,f2,f3,f4,f5,f6,f7⟩:=hP1.fresh hp1 ((hlk k).2 (.inl rfl)) hb
    have hby:bF (lateS (forS S k p) k).byl l=zs:=by
      show bF (forB (forB S.byl k p.x) k p.y) l=zs
      rcases othS_ne hxy hl with⟨c,_,d⟩|⟨c,_,d⟩
      · rw[bF_forB,if_neg (fun e=>d e.2.symm),bF_forB,if_pos ⟨x0,c.symm⟩,c,h.by',delK_cons hnz]
      · rw[bF_forB,if_pos ⟨y0,c.symm⟩,c,bF_forB,if_neg (fun e=>d e.2.symm),h.by',delK_cons hnz]
    have hsub:∀y∈T.lits,y∈(freT T k (zerP p)).lits:=fun y hy=>f6.pre.1.subset hy
    exact{f1 with
      clr:=fun y hy=>by
        rw[f7 y (h.sub' y hy)]
        exact bF_nil_forB (bF_nil_forB (h.clr y hy))
      sub':=fun y hy=>hsub y (h.sub' y hy)
      by':=by
        have:=f7 (-l) h.fail
        rw[Int.neg_neg]at this
        rw[this];exact hby
      fail:=hsub _ h.fail
      held:=fun j hj=>by
        rcases(hlk j).1 (f2 j hj)with rfl|c
        · exact f4 hj
        · exact((h.held j c).up (hS1.trans f5) hsub)}
theorem JF.bad {S0 S:WS} {T0 T:Tr} {P zs:List Int} {l k:Int} (h:JF n S0 T0 P l (k::zs) S T) {p:Pr} (hp:lk S.prs k=some p) (hb:wstB T l p=true):
 Pro n S0 T0 (wstS S T l k p) (wstT T l k p)∧Clear (wstS S T l k p) P∧wstT T l k p=T∧Fails (wstS S T l k p) T k:=by
 obtain⟨q,hq,l0,hl,hk⟩:=h.look;rw[hp]at hq;cases hq
 obtain⟨k0,hnd,hlen,hchk⟩:=h.wch.lits k p hp;unfold wstS wstT;unfold wstB at hb;cases hpk:pick14 T l p with
 |some x=>rw[hpk]at hb;cases hb
 |none=>
  rw[hpk]at hb;simp only at hb⊢;have hO:=hb;unfold freB at hO;rw[decide_eq_true_eq]at hO;have e1:freS (lateS (forS S k p) k) T k (zerP p)=lateS (forS S k p) k:=by unfold freS;rw[if_neg (by omega)]
  have e2:freT T k (zerP p)=T:=by unfold freT;rw[if_neg (by omega)]
  rw[e1,e2];have hL:=h.wch.toLate hp hk (w64 ((lk S.late k).getD 0+1));have hS1:SameL S (lateS (forS S k p) k):=SameL.pt (q:=⟨p.lits,0,0⟩) hp rfl _ _ _ _;have hp1:lk (lateS (forS S k p) k).prs k=some (zerP p):=lk_ptS;exact⟨⟨hL,h.tok,h.same.trans hS1,h.grow,h.head,h.seen⟩,fun y hy=>bF_nil_forB (bF_nil_forB (h.clr y hy)),rfl,k0.1,_,hp1,(freB_is (p:=zerP p) h.tok.toTMk hchk).1 hb⟩
theorem faiF_is {S0:WS} {T0:Tr} {P:List Int} {l:Int}:∀{zs:List Int} {S:WS} {T:Tr},JF n S0 T0 P l zs S T→
 ((faiF l zs S T).2.2=-1∧JF n S0 T0 P l [] (faiF l zs S T).1 (faiF l zs S T).2.1)∨(0≤(faiF l zs S T).2.2∧Pro n S0 T0 (faiF l zs S T).1 (faiF l zs S T).2.1∧Clear (faiF l zs S T).1 P∧(∀y∈P,y∈(faiF l zs S T).2.1.lits)∧Fails (faiF l zs S T).1 (faiF l zs S T).2.1 (faiF l zs S T).2.2)
 |[],S,T,h=>.inl ⟨rfl,h⟩
 |k::zs,S,T,h=>by
  obtain⟨p,hp,_⟩:=h.look;rw[faiF,hp];simp only;cases hb:wstB T l p
  ·rw[if_neg (by simp)];exact faiF_is (h.step hp hb)
  ·rw[if_pos rfl];obtain⟨b1,b2,b3,b4⟩:=h.bad hp hb;exact .inr ⟨b4.1,b1,b2,fun y hy=>by rw[b3];exact h.sub' y hy,by rw[b3];exact b4⟩
end
structure JC (n:Nat) (S0:WS) (T0:Tr) (S:WS) (T:Tr):Prop where
  wch:Wch n S
  tok:TOk n T
  same:SameL S0 S
  grow:Grow (CW S0) n T0 T
  seen:S.seen=S0.seen
  h0:0≤S.head
  h1:S.head≤T.lits.length
  clr:Clear S (T.lits.take S.head.toNat)
structure JP (n:Nat) (S0:WS) (T0:Tr) (S:WS) (T:Tr):Prop extends JC n S0 T0 S T where
  held:∀k∈S.late.map (·.1),HeldAt S T k
section
variable {n : Nat} {S0 : WS} {T0 : Tr}
theorem CW.same {S S':WS} (h:SameL S S') {n:Nat} {T T':Tr} (g:Grow (CW S') n T T'):Grow (CW S) n T T':=g.mono fun k c hc=>(h.lits k c).1 hc
theorem SameL.len {S S':WS} (h:SameL S S'):S'.prs.length=S.prs.length:=by
 have:=congrArg List.length h.keys;simpa using this
theorem take_pre {l l':List Int} (h:l<+:l') {k:Nat} (hk:k≤l.length):l'.take k=l.take k:=by
 obtain⟨t,rfl⟩:=h;exact List.take_append_of_le_length hk
theorem JP.neg {S:WS} {T:Tr} (h:JP n S0 T0 S T) (hd:S.head<T.lits.length):∃i:Nat,∃hi:i<T.lits.length,S.head=i∧negL T S=-T.lits[i]:=by
 have h0:=h.h0;refine⟨S.head.toNat,by omega,by omega,?_⟩;have hi:S.head.toNat<T.lits.length:=by omega
 unfold negL;rw[List.getD_eq_getElem?_getD,List.getElem?_eq_getElem hi,Option.getD_some];exact(litN_ok h.tok.hn (h.tok.chk _ (List.getElem_mem hi))).2.2.2.2.2.2.2
theorem JP.begin {S:WS} {T:Tr} (h:JP n S0 T0 S T) {i:Nat} (hi:i<T.lits.length) (hh:S.head=i):JF n S T (T.lits.take i) (-T.lits[i]) (bF S.byl (-T.lits[i])) S T:=
  { wch := h.wch, tok := h.tok, same := SameL.refl _, grow := .refl, head := rfl, seen := rfl
    clr:=by have:=h.clr;rw[hh]at this;exact this
    sub':=fun y hy=>List.mem_of_mem_take hy
    by':=rfl
    fail:=by rw[Int.neg_neg];exact List.getElem_mem hi
    held:=h.held}
theorem faiS_bF (S:WS) (T:Tr) (l:Int):faiS S T l=faiF l (bF S.byl l) S T:=by
 unfold faiS bF;cases lk S.byl l with
 |none=>rfl
 |some zs=>rfl
theorem upH_is {S:WS} {i:Nat} (h:S.head=i) (hi:i<1000000):upH S=⟨S.prs,S.byl,S.late,((i+1:Nat):Int),S.seen⟩:=by
 unfold upH;rw[h,w64_id (by omega) (by omega)];rfl
theorem JP.go {S:WS} {T:Tr} (h:JP n S0 T0 S T) (hd:S.head<T.lits.length):
    ((faiS S T (negL T S)).2.2=-1∧JP n S0 T0 (upH (faiS S T (negL T S)).1) (faiS S T (negL T S)).2.1∧(faiS S T (negL T S)).1.head=S.head∧T.lits<+:(faiS S T (negL T S)).2.1.lits)∨
    (0≤(faiS S T (negL T S)).2.2∧JC n S0 T0 (faiS S T (negL T S)).1 (faiS S T (negL T S)).2.1∧Fails (faiS S T (negL T S)).1 (faiS S T (negL T S)).2.1 (faiS S T (negL T S)).2.2):=by
  obtain⟨i,hi,hh,hn⟩:=h.neg hd
  have hfew:=h.tok.few
  have hn5:=h.tok.hn
  rw[hn,faiS_bF]
  rcases faiF_is (h.begin hi hh)with⟨r1,r2⟩|⟨r1,r2,r3,r4,r5⟩
  · left
    generalize faiF (-T.lits[i]) (bF S.byl (-T.lits[i])) S T=R at*
    have hpre:=r2.grow.pre.1
    have hhd:R.1.head=i:=r2.head.trans hh
    rw[upH_is hhd (by omega)]
    refine⟨r1,?_,r2.head,hpre⟩
    have hle:=hpre.length_le
    exact { wch := ⟨r2.wch.nd, r2.wch.lits, r2.wch.lnd, r2.wch.lpr, r2.wch.two, r2.wch.bnd, r2.wch.mem⟩
            tok:=r2.tok,same:=h.same.trans ⟨r2.same.keys,r2.same.lits⟩,grow:=h.grow.trans (CW.same h.same r2.grow),seen:=r2.seen.trans h.seen
            h0:=by show(0:Int)≤((i+1:Nat):Int);omega
            h1:=by show((i+1:Nat):Int)≤_;omega
            clr:=by
              show Clear _ (R.2.1.lits.take ((i+1:Nat):Int).toNat)
              rw[show((i+1:Nat):Int).toNat=i+1 by omega,take_pre hpre (by omega),List.take_add_one,List.getElem?_eq_getElem hi]
              intro y hy
              rcases List.mem_append.1 hy with hy|hy
              · exact r2.clr y hy
              · simp at hy;rw[hy];exact r2.by'
            held:=r2.held}
  · right
    generalize faiF (-T.lits[i]) (bF S.byl (-T.lits[i])) S T=R at*
    have hpre:=r2.grow.pre.1
    have hle:=hpre.length_le
    refine⟨r1,?_,r5⟩
    have hhd:R.1.head=i:=r2.head.trans hh
    exact { wch := r2.wch, tok := r2.tok, same := h.same.trans r2.same, grow := h.grow.trans (CW.same h.same r2.grow), seen := r2.seen.trans h.seen
            h0:=by omega,h1:=by omega
            clr:=by rw[hhd,show(i:Int).toNat=i by omega,take_pre hpre (by omega)];exact r3}
theorem proF_is:∀{m:Nat} {S:WS} {T:Tr},JP n S0 T0 S T→1000001≤S.head+m→
 ((proF m S T).2.2=-1∧JP n S0 T0 (proF m S T).1 (proF m S T).2.1∧(proF m S T).1.head=(proF m S T).2.1.lits.length)∨
 (0≤(proF m S T).2.2∧JC n S0 T0 (proF m S T).1 (proF m S T).2.1∧Fails (proF m S T).1 (proF m S T).2.1 (proF m S T).2.2)
 |0,S,T,h,hm=>by
  have:=h.h1;have:=h.tok.few;have:=h.tok.hn;omega
 |m+1,S,T,h,hm=>by
  rw[proF]
  by_cases hd:S.head<T.lits.length
  ·rw[if_pos hd];rcases h.go hd with⟨r1,r2,r3,r4⟩|⟨r1,r2,r3⟩
   ·rw[if_neg (by omega)];refine proF_is r2 ?_;obtain⟨i,hi,hh,_⟩:=h.neg hd;have:=h.tok.few;have:=h.tok.hn;rw[upH_is (r3.trans hh) (by omega)];show 1000001≤((i+1:Nat):Int)+m;omega
   ·rw[if_pos r1];exact .inr ⟨r1,r2,r3⟩
  ·rw[if_neg hd];have:=h.h1;exact .inl ⟨rfl,h,by show S.head=T.lits.length;omega⟩
theorem JF.stepOk {P zs:List Int} {l k:Int} {S:WS} {T:Tr} (h:JF n S0 T0 P l (k::zs) S T) (hf:S.prs.length≤1000000):∃p,StepOk S T l k p:=by
 obtain⟨p,hp,l0,hl,hk⟩:=h.look;obtain⟨x0,y0,hxy,hpx,hpy⟩:=h.wch.pos hp hk;have hne:∀m:Int,m≠0→(p.x=m∨p.y=m)→∃zs,lk S.byl m=some zs∧zs≠[]:=fun m m0 hm=>by
  obtain⟨zs,e,hz⟩:=h.wch.entry hp m0 hm;exact⟨zs,e,fun q=>by rw[q]at hz;cases hz⟩
 have:=h.tok.few;have:=h.tok.hn;refine⟨p,hp,l0,hl,by have:=(h.wch.lits k p hp).2.2.1;omega,hne l l0 hl,fun _=>hne _ x0 (.inl rfl),fun _=>?_,h.wch.hz hf,h.tok.okT,by omega⟩;obtain⟨zs,e,hz⟩:=hne _ y0 (.inr rfl);refine⟨zs,?_,hz⟩;unfold forB;rw[if_neg x0,lk_pt,if_neg hxy];exact e
theorem proOk (hf:S0.prs.length≤1000000):ProOk (JP n S0 T0)where
 ok:=fun S T h=>by
  have:=h.tok.few;have:=h.tok.hn;exact⟨h.tok.okT,by omega,h.h0,h.h1⟩
 step:=fun S T h hd zs hzs=>by
  obtain⟨i,hi,hh,hn⟩:=h.neg hd;have hfS:S.prs.length≤1000000:=by rw[h.same.len];exact hf
  refine⟨h.wch.hz hfS _ _ hzs,fun j S' T'=>JF n S T (T.lits.take i) (negL T S) (zs.drop j) S' T',?_,fun j S' T' hj hjl=>?_⟩
  ·show JF n S T (T.lits.take i) (negL T S) zs S T;rw[←bF_some hzs,hn];exact h.begin hi hh
  ·have hj:JF n S T (T.lits.take i) (negL T S) (zs.drop j) S' T':=hj;rw[List.drop_eq_getElem_cons hjl]at hj;obtain⟨p,hS⟩:=hj.stepOk (by rw[hj.same.len];exact hfS);exact⟨p,hS,fun hb=>hj.step hS.hp hb⟩
 len:=fun S T h hd=>by
  have hn5:=h.tok.hn;rcases h.go hd with⟨_,r,_⟩|⟨_,r,_⟩
  ·have:=r.tok.few;omega
  ·have:=r.tok.few;omega
 next:=fun S T h hd hk=>by
  rcases h.go hd with r|⟨r,_⟩
  ·exact r
  ·exact absurd r hk
end
structure WOk (n:Nat) (S:WS):Prop extends Wch n S where
  few:S.prs.length≤1000000
  h0:0≤S.head
  h1:S.head≤S.seen.length
  sl:S.seen.length≤1000000
  clr:Clear S (S.seen.take S.head.toNat)
structure PrpOk (n:Nat) (S:WS) (T:Tr) (R:WS×Tr×Int):Prop where
  ok:WOk n R.1
  tok:TOk n R.2.1
  same:SameL S R.1
  grow:Grow (CW S) n T R.2.1
  seen:R.1.seen=R.2.1.lits
  res:(R.2.2=-1∧∀k p,lk R.1.prs k=some p→(∃x∈p.lits,x∈R.2.1.lits)∨∃x y,x∈p.lits∧y∈p.lits∧x≠y∧-x∉R.2.1.lits∧-y∉R.2.1.lits)∨Fails R.1 R.2.1 R.2.2
theorem preN_le:∀(a b:List Int),preN a b≤a.length∧preN a b≤b.length
 |[],_=>⟨Nat.zero_le _,Nat.zero_le _⟩
 |_::_,[]=>⟨Nat.zero_le _,Nat.zero_le _⟩
 |x::a,y::b=>by
  rw[preN];have:=preN_le a b;simp only[List.length_cons];split<;>omega
theorem preN_take:∀(a b:List Int) (k:Nat),k≤preN a b→a.take k=b.take k
 |a,b,0,_=>by simp
 |[],_,k+1,h=>by rw[preN]at h;omega;intros;simp_all
 |_::_,[],k+1,h=>by rw[preN]at h;omega;intros;simp_all
 |x::a,y::b,k+1,h=>by
  rw[preN]at h;split at h
  ·rename_i e;rw[List.take_succ_cons,List.take_succ_cons,e,preN_take a b k (by omega)]
  ·omega
section
variable {n : Nat} {S : WS} {T : Tr}
theorem WOk.shr (h:WOk n S) (hT:TOk n T):JC n (shrS S T.lits) T (shrS S T.lits) T:=by
 obtain⟨p1,p2⟩:=preN_le S.seen T.lits;have hh0:=h.h0;have e:(shrS S T.lits).head=if(preN S.seen T.lits:Int)<S.head then(preN S.seen T.lits:Int)else S.head:=rfl;have a0:0≤(shrS S T.lits).head:=by rw[e];split<;>omega
 have a1:(shrS S T.lits).head≤preN S.seen T.lits:=by rw[e];split<;>omega
 have a2:(shrS S T.lits).head≤S.head:=by rw[e];split<;>omega
 refine{wch:=⟨h.nd,h.lits,h.lnd,h.lpr,h.two,h.bnd,h.mem⟩,tok:=hT,same:=SameL.refl _,grow:=.refl,seen:=rfl,h0:=a0,h1:=by omega,clr:=?_};rw[←preN_take S.seen T.lits _ (by omega)];intro y hy;refine h.clr y ?_;have:S.seen.take (shrS S T.lits).head.toNat<+:S.seen.take S.head.toNat:=List.take_prefix_take_left (by omega);exact this.subset hy
theorem WOk.jl (h:WOk n S) (hT:TOk n T):JL n (shrS S T.lits) T (T.lits.take (shrS S T.lits).head.toNat) (sortZ (S.late.map (·.1))) (shrS S T.lits) T:=
  have hc:=h.shr hT
  { wch := hc.wch, tok := hT, same := SameL.refl _, grow := .refl, head := rfl, seen := rfl
    clr:=hc.clr
    sub':=fun y hy=>List.mem_of_mem_take hy
    knd:=sortZ_nodup h.lnd
    kin:=fun k hk=>mem_sortZ.1 hk
    all:=fun k hk=>.inl (mem_sortZ.2 hk)}
theorem Pro.jc {S0 S':WS} {T0 T':Tr} (h:Pro n S0 T0 S' T') (h0:0≤S0.head) (h1:S0.head≤T0.lits.length) (hc:Clear S' (T0.lits.take S0.head.toNat)):JC n S0 T0 S' T':=by
  have hpre:=h.grow.pre.1
  have hle:=hpre.length_le
  exact { wch := h.wch, tok := h.tok, same := h.same, grow := h.grow, seen := h.seen, h0 := by rw [h.head]; exact h0, h1 := by rw [h.head]; omega
          clr:=by rw[h.head,take_pre hpre (by omega)];exact hc}
theorem lasS_is (h:WOk n S) (hT:TOk n T):
 ((lasS (shrS S T.lits) T).2.2=-1∧JP n (shrS S T.lits) T (lasS (shrS S T.lits) T).1 (lasS (shrS S T.lits) T).2.1)∨
 (0≤(lasS (shrS S T.lits) T).2.2∧JC n (shrS S T.lits) T (lasS (shrS S T.lits) T).1 (lasS (shrS S T.lits) T).2.1∧Fails (lasS (shrS S T.lits) T).1 (lasS (shrS S T.lits) T).2.1 (lasS (shrS S T.lits) T).2.2):=by
 have hc:=h.shr hT;have e:lasS (shrS S T.lits) T=latF (sortZ (S.late.map (·.1))) (shrS S T.lits) T:=rfl;rw[e];rcases latF_is (h.jl hT)with⟨r1,r2⟩|⟨r1,r2,r3,r4,r5⟩
 ·exact .inl ⟨r1,{r2.toPro.jc hc.h0 hc.h1 r2.clr with held:=fun k hk=>(r2.all k hk).resolve_left (by simp)}⟩
 ·exact .inr ⟨r1,r2.jc hc.h0 hc.h1 r3,r5⟩
theorem JC.fin {S':WS} {T':Tr} {k:Int} (hf:S.prs.length≤1000000) (h:JC n (shrS S T.lits) T S' T')
 (hr:(k=-1∧(∀k∈S'.late.map (·.1),HeldAt S' T' k)∧S'.head=T'.lits.length)∨Fails S' T' k):PrpOk n S T (⟨S'.prs,S'.byl,S'.late,S'.head,T'.lits⟩,T',k):=by
 have hfew:=h.tok.few;have hn:=h.tok.hn;have hW:Wch n ⟨S'.prs,S'.byl,S'.late,S'.head,T'.lits⟩:=⟨h.wch.nd,h.wch.lits,h.wch.lnd,h.wch.lpr,h.wch.two,h.wch.bnd,h.wch.mem⟩;refine⟨{hW with few:=by show S'.prs.length≤_;rw[h.same.len];exact hf,h0:=h.h0,h1:=h.h1,sl:=by show T'.lits.length≤_;omega,clr:=h.clr},h.tok,⟨h.same.keys,h.same.lits⟩,h.grow,rfl,?_⟩;rcases hr with⟨rfl,r1,r2⟩|⟨k0,p,hp,r⟩
 ·refine .inl ⟨rfl,fun k p hp=>?_⟩;have hp:lk S'.prs k=some p:=hp
  by_cases c:k∈S'.late.map (·.1)
  ·exact .inl (r1 k c p hp)
  ·obtain⟨x0,y0,hxy,hx,hy⟩:=h.wch.pos hp c;have key:∀x,x≠0→(p.x=x∨p.y=x)→-x∉T'.lits:=fun x x0 hx hm=>by
    have:=h.clr (-x) (by rw[r2,show(T'.lits.length:Int).toNat=T'.lits.length by omega,List.take_length];exact hm);rw[Int.neg_neg]at this;have hk:=(h.wch.mem x k).2 ⟨x0,p,hp,hx⟩;rw[this]at hk;cases hk
   exact .inr ⟨p.x,p.y,hx,hy,hxy,key _ x0 (.inl rfl),key _ y0 (.inr rfl)⟩
 ·exact .inr ⟨k0,p,hp,r⟩
theorem prp_is (h:WOk n S) (hT:TOk n T):PrpOk n S T (prpS S T):=by
 have hc:=h.shr hT;have hm:midS S T=if 0≤(lasS (shrS S T.lits) T).2.2 then lasS (shrS S T.lits) T else proF 1000001 (lasS (shrS S T.lits) T).1 (lasS (shrS S T.lits) T).2.1:=rfl;have hp:prpS S T=(⟨(midS S T).1.prs,(midS S T).1.byl,(midS S T).1.late,(midS S T).1.head,(midS S T).2.1.lits⟩,(midS S T).2.1,(midS S T).2.2):=rfl;rw[hp];rcases lasS_is h hT with⟨r1,r2⟩|⟨r1,r2,r3⟩
 ·rw[if_neg (by omega)]at hm;have:=r2.h0;rcases proF_is (m:=1000001) r2 (by omega)with⟨q1,q2,q3⟩|⟨q1,q2,q3⟩
  ·rw[←hm]at q1 q2 q3;exact q2.toJC.fin h.few (.inl ⟨q1,q2.held,q3⟩)
  ·rw[←hm]at q1 q2 q3;exact q2.fin h.few (.inr q3)
 ·rw[if_pos r1]at hm;rw[hm];exact r2.fin h.few (.inr r3)
theorem wprop_ok (h:List (List SV)) (bw ba bt:Nat) (mp:List (Int×Nat)) (mb:List (Int×By)) (A:Ar) (L:LayW h bw ba bt mp mb A T S) (hW:WOk n S) (hT:TOk n T):
 AMut Tryz.prog 33 [.ptr bw 0] h (fun r h'=>r=.pv (I64 (prpS S T).2.2)∧∃mb',LayW h' bw ba bt mp mb' A (prpS S T).2.1 (prpS S T).1∧Ext h h' (DomW bw bt mp mb) (DomW bw bt mp mb')):=by
 have hfew:=hT.few;have hn:=hT.hn;have hj:=hW.jl hT;have hlas:=lasS_is hW hT;refine wpropagate_ok h bw ba bt mp mb A T S L (by omega) hW.sl (sortZ (S.late.map (·.1))) rfl (fun i S' T'=>JL n (shrS S T.lits) T (T.lits.take (shrS S T.lits).head.toNat) ((sortZ (S.late.map (·.1))).drop i) S' T') (by rw[List.drop_zero];exact hj) ?_ ?_ ?_ ?_ ?_ (JP n (shrS S T.lits) T) (proOk hW.few) ?_
 ·intro q hq;obtain⟨p,hp⟩:=hW.lpr q.1 (List.mem_map_of_mem hq);have:=(hW.lits _ _ hp).1;exact wfI_of (by omega) (by omega)
 ·have h2:S.late.map (·.1)⊆S.prs.map (·.1):=fun k hk=>by
   obtain⟨p,hp⟩:=hW.lpr k hk;exact mem_of_lk hp
  have:=(len_of_sub _ _ hW.lnd h2);rw[List.length_map,List.length_map]at this;have:=hW.few;omega
 ·intro i S' T' hJ hi;have hJ:JL n (shrS S T.lits) T (T.lits.take (shrS S T.lits).head.toNat) ((sortZ (S.late.map (·.1))).drop i) S' T':=hJ;rw[List.drop_eq_getElem_cons hi]at hJ;have hf:S'.prs.length≤1000000:=by rw[hJ.same.len];exact hW.few
  obtain⟨p,hp⟩:=hJ.wch.lpr _ (hJ.kin _ (List.mem_cons_self ..));have:=hJ.tok.few;exact⟨hJ.tok.okT,by omega,hJ.wch.hz hf,p,hp,by have:=(hJ.wch.lits _ _ hp).2.2.1;omega⟩
 ·intro i S' T' p hJ hi hp hb;have hJ:JL n (shrS S T.lits) T (T.lits.take (shrS S T.lits).head.toNat) ((sortZ (S.late.map (·.1))).drop i) S' T':=hJ;rw[List.drop_eq_getElem_cons hi]at hJ;exact hJ.step hp hb
 ·rcases hlas with⟨_,r⟩|⟨_,r,_⟩
  ·have:=r.tok.few;omega
  ·have:=r.tok.few;omega
 ·intro hk;rcases hlas with⟨r1,r2⟩|⟨r1,_⟩
  ·exact⟨r1,r2⟩
  ·exact absurd r1 hk
end
structure UOk (n:Nat) (cs:List (List Int)):Prop where
  hn:n≤100000
  nd:∀c∈cs,c.Nodup
  len:∀c∈cs,c.length≤1000
  chk:∀c∈cs,∀y∈c,litChk y n=0
def Cons (L:List Int):Prop:=∀y∈L,-y∉L
theorem val3N {n:Nat} (hn:n≤100000) {y:Int} (hy:litChk y n=0) (l:List Int):val3 l y=if y∈l then 1 else if-y∈l then-1 else 0:=by
 obtain⟨_,_,_,_,_,_,hx,hw⟩:=litN_ok hn hy;unfold val3;rw[if_neg (by omega),hw]
theorem val3N_m {n:Nat} (hn:n≤100000) {y:Int} (hy:litChk y n=0) {l:List Int}:val3 l y=-1↔y∉l∧-y∈l:=by
 rw[val3N hn hy];split
 ·simp_all
 ·split<;>simp_all
theorem val3N_0 {n:Nat} (hn:n≤100000) {y:Int} (hy:litChk y n=0) {l:List Int}:val3 l y=0↔y∉l∧-y∉l:=by
 rw[val3N hn hy];split
 ·simp_all
 ·split<;>simp_all
section
variable {n : Nat} {cs : List (List Int)} (h : UOk n cs)
include h
theorem UOk.unit {L c:List Int} (hc:c∈cs) (hu:(unitS L c).2=true):(unitS L c).1∈c∧(unitS L c).1∉L∧-(unitS L c).1∉L∧∀y∈c,y≠(unitS L c).1→-y∈L:=by
 obtain⟨a,b,d⟩:=unit_is (h.len c hc) (fun y hy=>(litN_ok h.hn (h.chk c hc y hy)).2.2.2.2.2.2.1) hu;obtain⟨b1,b2⟩:=(val3N_0 h.hn (h.chk c hc _ a)).1 b;exact⟨a,b1,b2,fun y hy hne=>((val3N_m h.hn (h.chk c hc y hy)).1 (d y hy hne)).2⟩
theorem UOk.unit_of {L c:List Int} (hL:Cons L) (hc:c∈cs) {x:Int} (hx:x∈c) (h1:x∉L) (h2:-x∉L) (ho:∀y∈c,y≠x→-y∈L):unitS L c=(x,true):=
 Go.AX.unit_of (h.len c hc) (h.nd c hc) hx (litN_ok h.hn (h.chk c hc x hx)).2.2.2.2.2.2.1 ((val3N_0 h.hn (h.chk c hc x hx)).2 ⟨h1,h2⟩)
  fun y hy hne=>(val3N_m h.hn (h.chk c hc y hy)).2 ⟨fun e=>hL y e (ho y hy hne),ho y hy hne⟩
theorem UOk.fail {L c:List Int} (hL:Cons L) (hc:c∈cs):clS L c=-1↔∀y∈c,-y∈L:=by
 rw[clS_m1];constructor
 ·exact fun q y hy=>((val3N_m h.hn (h.chk c hc y hy)).1 (q y hy (litN_ok h.hn (h.chk c hc y hy)).2.2.2.2.2.2.1)).2
 ·exact fun q y hy _=>(val3N_m h.hn (h.chk c hc y hy)).2 ⟨fun e=>hL y e (q y hy),q y hy⟩
end
inductive Der (cs:List (List Int)) (L0:List Int):List Int→Prop
  |base:Der cs L0 L0
  |step {L c:List Int} {x:Int}:Der cs L0 L→c∈cs→x∈c→x∉L→-x∉L→(∀y∈c,y≠x→-y∈L)→Der cs L0 (L++[x])
section
variable {n : Nat} {cs : List (List Int)} {L0 L : List Int}
theorem cons_app (hL:Cons L) {x:Int} (x0:x≠0) (h2:-x∉L):Cons (L++[x]):=by
 intro y hy hm;rcases List.mem_append.1 hy with hy|hy
 ·rcases List.mem_append.1 hm with hm|hm
  ·exact hL y hy hm
  ·simp at hm;exact h2 (by rw[←hm,Int.neg_neg];exact hy)
 ·simp at hy;subst hy;rcases List.mem_append.1 hm with hm|hm
  ·exact h2 hm
  ·simp at hm;omega
theorem Der.facts (h:UOk n cs) (d:Der cs L0 L) (hL:Cons L0) (hN:L0.Nodup):Cons L∧L.Nodup∧∃xs,L=L0++xs∧∀x∈xs,x∈cs.flatten:=by
 induction d with
 |base=>exact⟨hL,hN,[],by simp,by simp⟩
 |@step L c x _ hc hx h1 h2 ho ih=>
  obtain⟨i1,i2,xs,i3,i4⟩:=ih;refine⟨cons_app i1 (litN_ok h.hn (h.chk c hc x hx)).1 h2,?_,xs++[x],by rw[i3,List.append_assoc],fun y hy=>?_⟩
  ·rw[List.nodup_append];exact⟨i2,by simp,fun a ha b hb e=>by simp at hb;subst hb;subst e;exact h1 ha⟩
  ·rcases List.mem_append.1 hy with hy|hy
   ·exact i4 y hy
   ·simp at hy;subst hy;exact List.mem_flatten.2 ⟨c,hc,hx⟩
theorem Der.in_calm (h:UOk n cs) (d:Der cs L0 L) {M:List Int} (hM:Cons M) (hs:∀x∈L0,x∈M) (hc:Calm cs M):∀x∈L,x∈M:=by
 induction d with
 |base=>exact hs
 |@step L c x _ hcm hx h1 h2 ho ih=>
  intro y hy;rcases List.mem_append.1 hy with hy|hy
  ·exact ih y hy
  ·simp at hy;subst hy;apply Classical.byContradiction;intro hn;have hoM:∀z∈c,z≠y→-z∈M:=fun z hz hne=>ih _ (ho z hz hne)
   by_cases q:-y∈M
   ·refine(hc c hcm).2 ((h.fail hM hcm).2 fun z hz=>?_)
    by_cases e:z=y
    ·rw[e];exact q
    ·exact hoM z hz e
   ·have:=h.unit_of hM hcm hx hn q hoM;have h2:=(hc c hcm).1;rw[this]at h2;cases h2
theorem propF_der (h:UOk n cs):∀(k:Nat) (L by':List Int),Der cs L0 L→Cons L0→L0.Nodup→
 ∃xs,(propF cs k L by').1=L++xs∧Der cs L0 (L++xs)∧(0≤(propF cs k L by').2.2→∃c∈cs,clS (L++xs) c=-1)∧((propF cs k L by').2.2<0→xs.length=k∨Calm cs (L++xs))
 |0,L,by',d,_,_=>⟨[],by simp[propF],by simpa using d,fun h=>by simp[propF]at h,fun _=>.inl rfl⟩
 |k+1,L,by',d,hL,hN=>by
  rw[propF_step]
  by_cases c1:0≤failS cs L
  ·rw[if_pos c1];obtain⟨i,hi,e1,e2⟩:=fail_of c1;exact⟨[],by simp,by simpa using d,fun _=>⟨_,List.getElem_mem hi,by rw[List.append_nil];exact e2⟩,fun h=>by dsimp only at h;omega⟩
  rw[if_neg c1]
  by_cases c2:(nextS cs L).2.2=false
  ·rw[if_pos c2];exact⟨[],by simp,by simpa using d,fun h=>by dsimp only at h;omega,fun _=>.inr (by rw[List.append_nil];exact calm_of (by omega) c2)⟩
  rw[if_neg c2];have hfi:∃c∈cs,(unitS L c).2=true∧(nextS cs L).1=(unitS L c).1:=by
   unfold nextS at*;split at c2
   ·rename_i i hf;rw[List.findIdx?_eq_some_iff_getElem]at hf;obtain⟨h1,h2,_⟩:=hf;have e:cs.getD i []=cs[i]:=by rw[List.getD_eq_getElem?_getD,List.getElem?_eq_getElem h1];rfl
    dsimp only;rw[e];exact⟨_,List.getElem_mem h1,h2,rfl⟩
   ·exact absurd rfl c2
  obtain⟨c,hc,hu,e1⟩:=hfi;rw[e1];obtain⟨u1,u2,u3,u4⟩:=h.unit hc hu;generalize(unitS L c).1=x at*;obtain⟨xs,g1,g2,g3,g4⟩:=propF_der h k (L++[x]) (by'++[(nextS cs L).2.1]) (.step d hc u1 u2 u3 u4) hL hN;have hap:L++[x]++xs=L++x::xs:=by simp
  rw[hap]at g1 g2 g3 g4;exact⟨x::xs,g1,g2,g3,fun q=>(g4 q).imp (fun e=>by simp[e]) id⟩
theorem propS_is (h:UOk n cs) (hL:Cons L0) (hN:L0.Nodup):Der cs L0 (propS cs L0).1∧(0≤(propS cs L0).2.2→∃c∈cs,clS (propS cs L0).1 c=-1)∧((propS cs L0).2.2<0→Calm cs (propS cs L0).1):=by
 obtain⟨xs,g1,g2,g3,g4⟩:=propF_der h (mostP cs+1) L0 [] .base hL hN;have e:propS cs L0=propF cs (mostP cs+1) L0 []:=rfl;rw[e,g1];refine⟨g2,g3,fun q=>(g4 q).resolve_left fun hk=>?_⟩;obtain⟨_,f2,ys,f3,f4⟩:=g2.facts h hL hN;have hx:ys=xs:=(List.append_cancel_left f3).symm;subst hx;have hnd:ys.Nodup:=by rw[List.nodup_append]at f2;exact f2.2.1
 have:=(len_of_sub _ _ hnd f4);rw[mostP_flat]at hk;omega
theorem der_same (h:UOk n cs) (hL:Cons L0) (hN:L0.Nodup) {M:List Int} (d:Der cs L0 M) (hr:Calm cs M∨∃c∈cs,clS M c=-1):
 (0≤(propS cs L0).2.2↔∃c∈cs,clS M c=-1)∧(Calm cs M→(propS cs L0).2.2<0∧M.length=(propS cs L0).1.length∧∀x∈M,x∈(propS cs L0).1):=by
 obtain⟨p1,p2,p3⟩:=propS_is h hL hN;obtain⟨m1,m2,xs,m3,m4⟩:=d.facts h hL hN;obtain⟨o1,o2,ys,o3,o4⟩:=p1.facts h hL hN;have sM:∀x∈L0,x∈M:=fun x hx=>by rw[m3];exact List.mem_append_left _ hx
 have sO:∀x∈L0,x∈(propS cs L0).1:=fun x hx=>by rw[o3];exact List.mem_append_left _ hx
 have calm_no:∀{M:List Int},Calm cs M→¬∃c∈cs,clS M c=-1:=fun hc ⟨c,h1,h2⟩=>(hc c h1).2 h2;have key:Calm cs M→(propS cs L0).2.2<0:=fun hc=>by
  apply Classical.byContradiction;intro hn;obtain⟨c,hcm,hf⟩:=p2 (by omega);refine(hc c hcm).2 ((h.fail m1 hcm).2 fun y hy=>p1.in_calm h m1 sM hc _ ((h.fail o1 hcm).1 hf y hy))
 refine⟨⟨fun q=>?_,fun⟨c,hcm,hf⟩=>?_⟩,fun hc=>?_⟩
 ·rcases hr with hr|hr
  ·have:=key hr;omega
  ·exact hr
 ·apply Classical.byContradiction;intro hn;have hO:=p3 (by omega);exact(hO c hcm).2 ((h.fail o1 hcm).2 fun y hy=>d.in_calm h o1 sO hO _ ((h.fail m1 hcm).1 hf y hy))
 ·have hk:=key hc;have hO:=p3 hk;have s1:=d.in_calm h o1 sO hO;have s2:=p1.in_calm h m1 sM hc;exact⟨hk,Nat.le_antisymm (len_of_sub _ _ m2 s1) (len_of_sub _ _ o2 s2),s1⟩
end
def closS (cs:List (List Int)) (l:List Int):Bool:=!(nextS cs l).2.2&&decide (failS cs l<0)
theorem closS_is {cs:List (List Int)} {l:List Int} (h:Calm cs l):closS cs l=true:=by
 unfold closS;rw[Bool.and_eq_true];constructor
 ·unfold nextS;split
  ·rename_i i hf;rw[List.findIdx?_eq_some_iff_getElem]at hf;obtain⟨h1,h2,_⟩:=hf;have:=(h _ (List.getElem_mem h1)).1;rw[this]at h2;cases h2
  ·rfl
 ·rw[decide_eq_true_eq];apply Classical.byContradiction;intro hn;obtain⟨i,hi,_,e⟩:=fail_of (show 0≤failS cs l by omega);exact(h _ (List.getElem_mem hi)).2 e
theorem closed7_ok (cs:List (List Int)) (l:List Int) (hl:l.length≤1000000) (hc:fewC cs):APure Tryz.prog 55 [.seq false 1 (cs.map crowF),.seq false 1 (irow l)] (fun r=>r=.pv (BL (closS cs l))):=by
 refine apure1 hmo Tryz.func55 (by kernel_rfl) rfl rfl (by kernel_rfl) (Nat.le_of_ble_eq_true rfl) ?_;have k1:=rf7next_ok cs l hl hc;have k2:=rf7fails_ok cs l hl hc;unfold closS;simp;refine CallK.intro k1 (by simp) ?_;simp;refine CallG.intro (fun _=>k2) (by simp) ?_;simp
def clsW (a:RA) (l:List Int):List (List Int):=(l.filter fun q=>decide (0≤findA a q)).map (litsD a)
theorem clsW_take (a:RA) (l:List Int) {i:Nat} (h:i<l.length):clsW a (l.take (i+1))=if 0≤findA a l[i]then clsW a (l.take i)++[litsD a l[i]]else clsW a (l.take i):=by
 unfold clsW;rw[List.take_add_one,List.getElem?_eq_getElem h,Option.toList_some,List.filter_append,List.filter_cons,List.filter_nil]
 by_cases c:0≤findA a l[i]
 ·rw[if_pos c,if_pos (by simpa using c),List.map_append];rfl
 ·rw[if_neg c,if_neg (by simpa using c),List.append_nil]
theorem clsW_len (a:RA) (l:List Int):(clsW a l).length≤l.length:=by unfold clsW;rw[List.length_map];exact List.length_filter_le _ _
theorem findA_lt {a:RA} {k:Int} (h:0≤findA a k):∃p:Nat,findA a k=p∧p<a.rows.length:=by
 unfold findA idxS at*;cases hq:a.rows.findIdx? (fun x=>decide (x.at'=k))with
 |none=>rw[hq]at h;have h:(0:Int)≤-1:=h;omega
 |some i=>
  rw[List.findIdx?_eq_some_iff_getElem]at hq;obtain⟨h1,_⟩:=hq;exact⟨i,rfl,h1⟩
set_option maxRecDepth 16000 in
theorem rclauses_ok (h:List (List SV)) (a:RA) (l:List Int) (ha:a.rows.length≤1000000) (hl:l.length≤1000000):
 AMut Tryz.prog 56 [raV a,.seq false 1 (irow l)] h (fun r h'=>h'=h∧r=.pv (.seq true 1 ((clsW a l).map crowF))):=by
 refine amutXW [] [.tmp 4] hmo Tryz.func56 (by kernel_rfl) rfl rfl (by kernel_rfl) (Nat.le_of_ble_eq_true rfl) ?_;have kF:=fun q=>refFind_ok a q ha;simp only[raV]at kF;simp[raV];obtain⟨G,hG⟩:∃G,G=h++[[SV.pv (.seq false 5 (a.rows.map roR)),SV.pv (I64 a.size)]]:=⟨_,rfl⟩;have hGt:List.take h.length G=h:=by rw[hG];simp
 have g1:h.length<G.length:=by rw[hG];simp
 have g2:G[h.length]'g1=[SV.pv (.seq false 5 (a.rows.map roR)),SV.pv (I64 a.size)]:=by simp[hG]
 refine ALoop.intro (S:=fun(i:Nat)=>⟨[(1,.pv (.seq false 1 (irow l))),(2,.pv (.ptr h.length 0)),(5,.own true 1 ((clsW a (l.take i)).map crowF)),(6,.pv (I64 i))],G⟩) (fun i=>i≤l.length) (fun i=>l.length -i) 0 ?_ (Nat.zero_le _) ?_
 ·refine(Weak.nilOwn (s:=5) 1 true (by simp)).trans (Weak.keep (by simp[clsW]) (by simp[hG]))
 intro i hi;have hol:=Nat.le_trans (clsW_len a (l.take i)) (by rw[List.length_take];exact Nat.min_le_left _ _)
 by_cases d:i<l.length
 ·have hw':w64 ((i:Int)+1)=((i+1:Nat):Int):=by rw[w64_id (by omega) (by omega)];omega
  have hs:=clsW_take a l d;simp[g1,g2,d];refine CallQ0.intro (kF l[i]) (by simp) ?_
  by_cases c:0≤findA a l[i]
  ·obtain⟨p,hp,hpl⟩:=findA_lt c;have hd:litsD a l[i]=a.rows[p].lits:=by unfold litsD;rw[hp];simp[List.getD_eq_getElem?_getD,List.getElem?_eq_getElem hpl]
   rw[if_pos c]at hs;simp[g1,g2,hp,hpl,roR];refine⟨by omega,i+1,by(try dsimp only);omega,by(try dsimp only);omega,Weak.keep (by simp[hw',hs,hd,crowF]) rfl⟩
  ·rw[if_neg c]at hs;simp[c];refine⟨i+1,by(try dsimp only);omega,by(try dsimp only);omega,Weak.keep (by simp[hw',hs]) rfl⟩
 ·have hie:i=l.length:=by omega
  subst hie;simp[wkPL,wkP,hGt]
set_option maxRecDepth 16000 in
theorem rfollows_ok (h:List (List SV)) (a:RA) (l lits:List Int) (ha:a.rows.length≤1000000) (hl:l.length≤1000000) (hs:lits.length≤1000) (hc:fewC (clsW a l)):
 AMut Tryz.prog 47 [raV a,.seq false 1 (irow l),.seq false 1 (irow lits)] h (fun r h'=>h'=h∧r=.pv (.tup [.seq true 1 (irow (propS (clsW a l) lits).1),BL (decide (0≤(propS (clsW a l) lits).2.2))])):=by
 refine amutXW [] [.tmp 6,.tmp 7] hmo Tryz.func47 (by kernel_rfl) rfl rfl (by kernel_rfl) (Nat.le_of_ble_eq_true rfl) ?_;have kC:=fun H=>rclauses_ok H a l ha hl;have kP:=rf7prop_ok (clsW a l) lits hs hc;generalize clsW a l=cs at*;generalize propS cs lits=R at*;simp only[raV]at kC;simp[raV];refine CallK.introM (kC _) (by simp) ?_;rintro _ _ ⟨rfl,rfl⟩;simp;refine CallK.intro kP (by simp) ?_;simp[wkPL,wkP]
def rightS (ahead:List Int) (lit:Int) (c:List Int):Bool:=decide (lit∈c)&&c.all fun x=>decide (x=lit)||decide (val3 ahead x=-1)
set_option maxRecDepth 16000 in
theorem rright_ok (ahead:List Int) (lit:Int) (c:List Int) (hl:ahead.length≤1000000) (hc:c.length≤1000000):
 APure Tryz.prog 50 [.seq false 1 (irow ahead),I64 lit,.seq false 1 (irow c)] (fun r=>r=.pv (BL (rightS ahead lit c))):=by
 refine apure1 hmo Tryz.func50 (by kernel_rfl) rfl rfl (by kernel_rfl) (Nat.le_of_ble_eq_true rfl) ?_;have hR:rightS ahead lit c=(decide (lit∈c)&&c.all fun x=>decide (x=lit)||decide (val3 ahead x=-1)):=rfl;generalize rightS ahead lit c=R at*;simp;refine ALoop.intro (S:=fun(i:Nat)=>⟨[(0,.pv (.seq false 1 (irow ahead))),(1,.pv (I64 lit)),(2,.pv (.seq false 1 (irow c))),(7,.pv (BL (decide (lit∈c.take i)))),(8,.pv (I64 i))],[]⟩) (fun i=>i≤c.length∧∀j (hj:j<c.length),j<i→c[j]=lit∨val3 ahead c[j]=-1) (fun i=>c.length -i) 0 ?_ ⟨Nat.zero_le _,fun j _ h=>absurd h (Nat.not_lt_zero _)⟩ ?_
 ·exact Weak.keep (by simp) rfl
 rintro i ⟨hi,ho⟩
 by_cases d:i<c.length
 ·have hw':w64 ((i:Int)+1)=((i+1:Nat):Int):=by rw[w64_id (by omega) (by omega)];omega
  have ht:(lit∈c.take (i+1))↔(lit∈c.take i∨c[i]=lit):=by
   rw[List.take_add_one,List.getElem?_eq_getElem d,Option.toList_some,List.mem_append];simp[eq_comm]
  by_cases e:c[i]=lit
  ·have hm:decide (lit∈c.take (i+1))=true:=by simp only[ht];simp[e]
   simp[d,e];refine⟨i+1,by(try dsimp only);omega,⟨by(try dsimp only);omega,fun j hj hji=>?_⟩,Weak.keep (by rw[hm];simp[hw']) rfl⟩
   by_cases e2:j=i
   ·subst e2;exact .inl e
   ·exact ho j hj (by omega)
  ·have hm:decide (lit∈c.take (i+1))=decide (lit∈c.take i):=by simp only[ht];simp[e]
   simp[d,e];refine CallK.intro (rf3Value_ok ahead c[i] hl) (by simp) ?_
   by_cases e3:val3 ahead c[i]=-1
   ·simp[e3];refine⟨i+1,by(try dsimp only);omega,⟨by(try dsimp only);omega,fun j hj hji=>?_⟩,Weak.keep (by rw[hm];simp[hw']) rfl⟩
    by_cases e2:j=i
    ·subst e2;exact .inr e3
    ·exact ho j hj (by omega)
   ·have hall:(c.all fun x=>decide (x=lit)||decide (val3 ahead x=-1))=false:=by
     rw[List.all_eq_false];exact⟨c[i],List.getElem_mem d,by simp[e,e3]⟩
    rw[hall,Bool.and_false]at hR;subst hR;simp[e3]
 ·have hie:i=c.length:=by omega
  subst hie;have hall:(c.all fun x=>decide (x=lit)||decide (val3 ahead x=-1))=true:=by
   rw[List.all_eq_true];intro x hx;obtain⟨j,hj,rfl⟩:=List.getElem_of_mem hx;simpa using ho j hj hj
  rw[hall,Bool.and_true]at hR;subst hR;simp
def bakT (T:Tr) (v:Int):Tr:=if(if v<0 then 0 else v)<(T.beg.length:Int)then backT T (if v<0 then(0:Int)else v).toNat else T
theorem TOk.bak {n:Nat} {T:Tr} (h:TOk n T) (v:Int):TOk n (bakT T v):=by
 unfold bakT;obtain⟨m,hm⟩:∃m:Int,(if v<0 then(0:Int)else v)=m:=⟨_,rfl⟩;have m0:0≤m:=by rw[←hm];split<;>omega
 rw[hm]
 by_cases c:m<(T.beg.length:Int)
 ·rw[if_pos c];exact(h.back (by omega)).1
 ·rw[if_neg c];exact h
set_option maxRecDepth 16000 in
theorem backN_ok (h:List (List SV)) (b:Nat) (T:Tr) (hb:h[b]?=some (trB T)) (v:Int) (hv:¬(if v<0 then 0 else v)<(T.beg.length:Int)):
 AMut Tryz.prog 43 [.ptr b 0,I64 v] h (fun r h'=>h'=h∧r=.pv (.seq true 1 (irow []))):=by
 refine amutXW [] [.tmp 4] hmo Tryz.func43 (by kernel_rfl) rfl rfl (by kernel_rfl) (Nat.le_of_ble_eq_true rfl) ?_;obtain⟨hlt,hb'⟩:=List.getElem?_eq_some_iff.1 hb;have his:=tis_ok T;have hfr:∀n,frzP h (n+1) b 0=trP T:=fun n=>frz_tr0 hb n;simp only[trP]at his hfr;obtain⟨m,hm⟩:∃m:Int,(if v<0 then(0:Int)else v)=m:=⟨_,rfl⟩;rw[hm]at hv;have hv2:(T.beg.length:Int)≤m:=by omega
 simp[hm];refine CallB.introP (r:=.pv (BL true)) (by simpa[hfr]using his) (by simp[hlt]) (by simp) ?_;simp[hb',hlt,trB,hv2,irow,wkP,wkPL]
set_option maxRecDepth 16000 in
theorem backV_ok (h:List (List SV)) (b:Nat) (T:Tr) (hb:h[b]?=some (trB T)) (v:Int) (k:Nat) (hmx:(if v<0 then(0:Int)else v)=k) (hk:k<T.beg.length) (h0:0≤T.beg.getD k 0∧T.beg.getD k 0≤T.lits.length) (hs:T.lits.length≤1000000) (hv:∀y∈T.lits,0≤litV y∧litV y<T.marks.length):
 AMut Tryz.prog 43 [.ptr b 0,I64 v] h (fun r h'=>h'=h.set b (trB (backT T k))∧r=.pv (.seq true 1 (irow (popO T (T.lits.length -(T.beg.getD k 0).toNat))))):=by
 refine amutXD [] [.tmp 4] (h.set b (trB (backT T k))) (by simp) (fun hh=>by rw[List.length_set];exact belowH_setT (belowC_trB _ _) b hh) hmo Tryz.func43 (by kernel_rfl) rfl rfl (by kernel_rfl) (Nat.le_of_ble_eq_true rfl) ?_;obtain⟨hlt,hb'⟩:=List.getElem?_eq_some_iff.1 hb;have hbg:T.beg.getD k 0=T.beg[k]:=by rw[List.getD_eq_getElem?_getD,List.getElem?_eq_getElem hk];rfl
 rw[hbg]at h0⊢;obtain⟨m,hm⟩:∃m:Nat,T.beg[k]=(m:Int):=⟨T.beg[k].toNat,by omega⟩;have hB:backT T k=⟨(popN T (T.lits.length -m)).marks,(popN T (T.lits.length -m)).lits,T.beg.take k⟩:=by unfold backT;rw[hbg,hm];rfl
 rw[hB,hm,Int.toNat_natCast];rw[hm]at h0;clear hB;have his:=tis_ok T;have hfr:∀n,frzP h (n+1) b 0=trP T:=fun n=>frz_tr0 hb n;simp only[trP]at his hfr;simp[hmx];refine CallB.introP (r:=.pv (BL true)) (by simpa[hfr]using his) (by simp[hlt]) (by simp) ?_;simp[hb',hlt,trB,hk];refine CallB.intro (popper_ok h b) (by simp) ?_;rintro _ _ ⟨rfl,rfl⟩;have hH0:h.set b (trB T)=h:=set_sameT hb;simp;refine ALoop.intro (S:=fun(j:Nat)=>⟨[(0,.pv (.ptr b 0)),(1,.pv (I64 k)),(5,.pv (.fn (.func 144) [] [.ptr h.length 0])),(6,.own true 1 (irow (popO T j)))],h.set b (trB (popN T j))++[[.pv (.ptr b 0)]]⟩) (fun j=>j≤T.lits.length -m) (fun j=>T.lits.length -j) 0 ?_ (Nat.zero_le _) ?_
 ·rw[popN,hH0];exact(Weak.nilOwn (s:=6) 1 true (by simp)).trans (Weak.keep (by simp[popO,irow]) rfl)
 intro j hj;have hXl:(popN T j).lits.length=T.lits.length -j:=by rw[popN_lits,List.length_take];omega
 have hXb:=popN_beg T j;have hXv:∀y∈(popN T j).lits,0≤litV y∧litV y<(popN T j).marks.length:=fun y hy=>by
  rw[popN_lits]at hy;rw[popN_mk];exact hv y (List.mem_of_mem_take hy)
 have hX1:popN T (j+1)=popT (popN T j):=rfl;have hO1:popO T (j+1)=popO T j++[(popN T j).lits.getD ((popN T j).lits.length -1) 0]:=rfl;have hOl:=popO_len T j;have hpp:=fun(h:List (List SV)) (n b:Nat) h1 h2 h3=>popper1_ok h n b (popN T j) h1 h2 h3 (by omega) hXv;have hHb:∀(Y z:List SV) hh,(h.set b Y++[z])[b]'hh=Y:=fun Y z hh=>by rw[List.getElem_append_left (by simpa using hlt)];simp
 have hHb2:∀(Y z:List SV),(h.set b Y++[z])[b]?=some Y:=fun Y z=>by rw[List.getElem?_append_left (by simpa using hlt)];simp[hlt]
 have hHs:∀(Y z W:List SV),(h.set b Y++[z]).set b W=h.set b W++[z]:=fun Y z W=>by rw[set_app (by simpa using hlt),List.set_set]
 have hlt1:b<h.length+1:=by omega
 by_cases c:m<T.lits.length -j
 ·have hne:(popN T j).lits≠[]:=fun e=>by rw[e]at hXl;simp at hXl;omega
  have hc1:(m:Int)<((popN T j).lits.length:Int):=by omega
  have hpp:=hpp (h.set b (trB (popN T j))++[[.pv (.ptr b 0)]]) h.length b (by rw[List.getElem?_append_right (by simp)];simp) (hHb2 _ _) hne;rw[hHs]at hpp;generalize popN T j=X at*;simp only[trB,hXb]at hpp;simp[hHb,hlt1,trB,hXb,hk,hm,hc1];refine CallB.intro hpp (by simp) ?_;rintro _ _ ⟨rfl,rfl⟩;simp;refine⟨by omega,j+1,by(try dsimp only);omega,by(try dsimp only);omega,Weak.keep (by simp[hO1,irow]) (by simp[hX1])⟩
 ·have hc1:¬(m:Int)<((popN T j).lits.length:Int):=by omega
  have hje:j=T.lits.length -m:=by omega
  subst hje;have hbt:(irow T.beg).take k=irow (T.beg.take k):=by unfold irow;rw[List.map_take]
  have hkl:k≤T.beg.length:=by omega
  clear hpp hXv hX1 hO1;generalize popN T (T.lits.length -m)=X at*;simp[hHb,hHs,hlt1,trB,hXb,hk,hm,hc1,hbt,hkl]
theorem bak_ok (h:List (List SV)) (b:Nat) {n:Nat} (T:Tr) (hb:h[b]?=some (trB T)) (hT:TOk n T) (v:Int):
 AMut Tryz.prog 43 [.ptr b 0,I64 v] h (fun r h'=>h'=h.set b (trB (bakT T v))∧∃zs,r=.pv (.seq true 1 (irow zs))):=by
 have hf:=hT.few;have hn:=hT.hn
 by_cases c:(if v<0 then(0:Int)else v)<(T.beg.length:Int)
 ·obtain⟨k,hk⟩:∃k:Nat,(if v<0 then(0:Int)else v)=k:=⟨(if v<0 then(0:Int)else v).toNat,by split<;>omega⟩;have hkl:k<T.beg.length:=by rw[hk]at c;omega
  have hbg:T.beg.getD k 0=T.beg[k]:=by rw[List.getD_eq_getElem?_getD,List.getElem?_eq_getElem hkl];rfl
  have hbd:=hT.bnd _ (List.getElem_mem hkl);have hB:bakT T v=backT T k:=by unfold bakT;rw[if_pos c,hk];rfl
  rw[hB];refine(backV_ok h b T hb v k hk hkl (by rw[hbg];omega) (by omega) fun y hy=>?_).mono ?_
  ·obtain⟨_,_,_,p,q,_⟩:=litN_ok hn (hT.chk y hy);rw[hT.len];omega
  ·rintro r h' ⟨rfl,rfl⟩;exact⟨rfl,_,rfl⟩
 ·have hB:bakT T v=T:=by unfold bakT;rw[if_neg c]
  rw[hB,set_sameT hb];refine(backN_ok h b T hb v c).mono ?_;rintro r h' ⟨rfl,rfl⟩;exact⟨rfl,_,rfl⟩
def fo4Sch:Sch:=
 let s0:Sch:=.fork [(9,.take 10 (.take 11 (.take 12 (.take 13 (.take 14 .done)))))]
 let s1:Sch:=.fork [(7,s0)]
 let s2:Sch:=.fork [(3,s0)]
 let s3:Sch:=.fork [(3,s1),(7,s2)]
 .take 0 (.take 1 (.take 2 (.take 4 (.take 5 (.take 6 (.take 8 s3))))))
def fo17Sch:Sch:=
 let s0:Sch:=.fork [(25,.take 26 (.take 27 .done))]
 let s1:Sch:=.fork [(23,s0)]
 let s2:Sch:=.fork [(22,s1)]
 let s3:Sch:=.fork [(18,s1)]
 let s4:Sch:=.fork [(18,s2),(22,s3)]
 let s5:Sch:=.fork [(12,.take 13 (.take 14 (.take 15 (.take 16 (.take 17 (.take 19 (.take 20 (.take 21 (.take 24 s4)))))))))]
 .take 0 (.take 1 (.take 2 (.take 3 (.take 4 (.take 5 (.take 6 (.take 7 (.take 8 (.take 9 (.take 10 (.take 11 s5)))))))))))
structure FolOk (D:DW) (T2:Tr) (k:Int):Prop where
  le:D.T.lits.length≤T2.lits.length
  pre:T2.lits.take D.T.lits.length=D.T.lits
  bad:decide (0≤k)=decide (0≤(propS (clsW D.a D.on) D.T.lits).2.2)
  row:∀i,D.T.lits.length≤i→∀(hi:i<T2.lits.length),-100000≤T2.lits[i]∧T2.lits[i]≤100000∧∃p:Nat,findA D.a (ofT T2 (absS T2.lits[i])).1.rea=p∧∃hp:p<D.a.rows.length,(ofT T2 (absS T2.lits[i])).1.rea∈D.on∧rightS (T2.lits.take i) T2.lits[i] D.a.rows[p].lits=true∧(ofT T2 (absS T2.lits[i])).1.lev=T2.beg.length
  fin:(0≤k∧∃p:Nat,findA D.a k=p∧∃hp:p<D.a.rows.length,k∈D.on∧clS T2.lits D.a.rows[p].lits=-1)∨(k=-1∧T2.lits.length=(propS (clsW D.a D.on) D.T.lits).1.length∧subS T2.lits (propS (clsW D.a D.on) D.T.lits).1=true∧closS (clsW D.a D.on) T2.lits=true)
set_option maxRecDepth 32000 in
set_option maxHeartbeats 1000000 in
theorem wfollow_ok (h:List (List SV)) (bd ba bt bw:Nat) (mp:List (Int×Nat)) (mb:List (Int×By)) (D:DW) (L:LayD h bd ba bt bw mp mb D) {n:Nat} (hW:WOk n D.S) (hT:TOk n D.T)
 (ha:D.a.rows.length≤1000000) (hr:∀x∈D.a.rows,x.lits.length≤1000000) (hon:D.on.length≤1000000) (hs:D.T.lits.length≤1000) (hc:fewC (clsW D.a D.on)) (hF:FolOk D (prpS D.S D.T).2.1 (prpS D.S D.T).2.2):
 AMut Tryz.prog 12 [.ptr bd 0] h (fun r h'=>r=.pv (BL true)∧∃mb',LayD h' bd ba bt bw mp mb' ⟨D.A,(prpS D.S D.T).2.1,(prpS D.S D.T).1,D.a,D.t,D.on,D.ats⟩∧Ext h h' (DomD bd bw bt mp mb) (DomD bd bw bt mp mb')):=by
 refine amutX [3,4,17] [.tmp 2] hmo Tryz.func12 (by kernel_rfl) rfl rfl (by kernel_rfl) (Nat.le_of_ble_eq_true rfl) ?_;obtain⟨d1,d2⟩:=List.getElem?_eq_some_iff.1 L.d;have hfw:=hT.few;have hn:=hT.hn;have hP:=prp_is hW hT;have hfw2:=hP.tok.few;have hz:=frz_tr0 L.lay.t 2;have kL:=tlits_ok D.T (by omega);have kW:=wprop_ok h bw ba bt mp mb D.A L.lay hW hT;have okT2:=hP.tok.okT;clear hP;generalize prpS D.S D.T=Q at*;obtain⟨S2,T2,k⟩:=Q;simp only at*;simp[d1,d2,dwB,hz];refine CallB.introP kL (by simp) (by simp) ?_;simp[d1,d2,dwB];refine CallB.intro kW (by simp) ?_;rintro _ H ⟨rfl,mb2,L2,E2⟩;have g?:H[bd]?=some (dwB ba bt bw D):=by rw[E2.same bd d1 L.nd,L.d]
 obtain⟨g1,g2⟩:=List.getElem?_eq_some_iff.1 g?;have hz2:=frz_tr0 L2.t 2;have kL2:=tlits_ok T2 (by omega);simp;refine ASem.to ⟨[(0,.pv (.ptr bd 0)),(3,.pv (.seq false 1 (irow D.T.lits))),(4,.pv (I64 k))],H⟩ (((Weak.ownOld (s:=3) (e:=1) (nw:=true) (rows:=irow D.T.lits) (by simp)).trans (Weak.frz (s:=3) (e:=1) (nw:=false) (rows:=irow D.T.lits) (by simp))).trans (Weak.keep (by simp) rfl)) (ASem.ops ?_);simp[g1,g2,dwB,hz2];refine CallB.introP kL2 (by simp) (by simp) ?_;simp;have kF:=fun G=>rfollows_ok G D.a D.on D.T.lits ha hon hs hc;have kCl:=fun G=>rclauses_ok G D.a D.on ha hon;have kSb:=fun w hw=>refSubset_ok T2.lits w (by omega) hw;have kC7:=closed7_ok (clsW D.a D.on) T2.lits (by omega) hc;obtain⟨f1,f2,f3,f4,f5⟩:=hF;have hwl:(propS (clsW D.a D.on) D.T.lits).1.length≤1000000∨0≤k:=by
  rcases f5 with⟨q,_⟩|⟨_,q,_⟩
  ·exact .inr q
  ·exact .inl (by omega)
 have hRA:raV D.a=.agg [.seq false 5 (D.a.rows.map roR),I64 D.a.size]:=rfl;rw[hRA]at kF kCl;generalize clsW D.a D.on=cs at*;generalize propS cs D.T.lits=W at*;refine AAnyD.meet fo4Sch ⟨[(0,.pv (.ptr bd 0)),(3,.pv (.seq false 1 (irow D.T.lits))),(4,.pv (I64 k)),(5,.pv (.seq false 1 (irow T2.lits))),(6,.pv (.seq true 1 (irow W.1))),(7,.pv (BL (decide (0≤W.2.2))))],H⟩ (by kernel_rfl) ?_ ?_
 ·simp[fo4Sch,g1,g2,dwB];and_intros
  all_goals
   refine CallK.introM (kF _) (by simp) ?_;rintro _ _ ⟨rfl,rfl⟩;simp;exact((Weak.ownOld (s:=5) (e:=1) (nw:=true) (rows:=irow T2.lits) (by simp)).trans (Weak.frz (s:=5) (e:=1) (nw:=false) (rows:=irow T2.lits) (by simp))).trans (Weak.keep (by simp) rfl)
 have hlt:¬(T2.lits.length:Int)<D.T.lits.length:=by omega
 have kS:=sameInts_ok (T2.lits.take D.T.lits.length) D.T.lits (by rw[List.length_take];omega);rw[f2]at kS;have ht2:List.take D.T.lits.length (irow T2.lits)=irow D.T.lits:=by unfold irow;rw[←List.map_take,f2]
 simp[hlt,ht2,f1];refine CallG.intro (fun _=>kS) (by simp) ?_;simp[f3];refine ALoop.intro (S:=fun(i:Nat)=>⟨[(0,.pv (.ptr bd 0)),(4,.pv (I64 k)),(5,.pv (.seq false 1 (irow T2.lits))),(6,.pv (.seq true 1 (irow W.1))),(8,.pv (I64 i))],H⟩) (fun i=>D.T.lits.length≤i∧i≤T2.lits.length) (fun i=>T2.lits.length -i) D.T.lits.length ?_ ⟨Nat.le_refl _,f1⟩ ?_
 ·exact Weak.keep (by simp) rfl
 rintro i ⟨i1,i2⟩
 by_cases d:i<T2.lits.length
 ·have hw':w64 ((i:Int)+1)=((i+1:Nat):Int):=by rw[w64_id (by omega) (by omega)];omega
  have hq:T2.lits[i]?=some T2.lits[i]:=List.getElem?_eq_getElem d;obtain⟨b1,b2,p,p1,p2,p3,p4,p5⟩:=f4 i i1 d;have hneg:w64 (-T2.lits[i])=-T2.lits[i]:=w64_id (by omega) (by omega);have hmx:(if T2.lits[i]< -T2.lits[i]then-T2.lits[i]else T2.lits[i])=absS T2.lits[i]:=by unfold absS;split<;>split<;>omega
  have kRe:=treason_ok T2 (absS T2.lits[i]) okT2;have kLe:=tlevel_ok T2 (absS T2.lits[i]) okT2;have kDe:=tdepth_ok T2;have kFi:=refFind_ok D.a (ofT T2 (absS T2.lits[i])).1.rea ha;have kHa:=refHas_ok D.on (ofT T2 (absS T2.lits[i])).1.rea (by omega);have kRi:=rright_ok (T2.lits.take i) T2.lits[i] D.a.rows[p].lits (by rw[List.length_take];omega) (hr _ (List.getElem_mem p2));rw[p1]at kFi;rw[p4]at kRi;rw[p5]at kLe;rw[hRA]at kFi;have htk:List.take i (irow T2.lits)=irow (T2.lits.take i):=by unfold irow;rw[List.map_take]
  generalize(ofT T2 (absS T2.lits[i])).1.rea=rea at*;generalize absS T2.lits[i]=v at*;simp[d,hq,hneg,hmx];simp[g1,g2,dwB,hz2];refine CallQ0.intro kRe (by simp) ?_;simp;refine CallQ0.intro kFi (by simp) ?_;have hp0:¬(p:Int)<0:=by omega
  simp[g1,g2,dwB,hz2,hp0,hq,htk,d,p2,roR];refine CallQ.intro (fun _=>kRe) (by simp) ?_;simp;refine CallQ.intro (fun _=>kHa) (by simp) ?_;have hil:i≤T2.lits.length:=by omega
  simp[g1,g2,dwB,hz2,hp0,hq,htk,d,p2,roR,p3,hil];refine CallQ.intro (fun _=>kRi) (by simp) ?_;simp[g1,g2,dwB,hz2];refine CallQ.intro (fun _=>kLe) (by simp) ?_;simp[g1,g2,dwB,hz2];refine CallQ.intro (fun _=>kDe) (by simp) ?_;simp;exact⟨i+1,by(try dsimp only);omega,⟨by(try dsimp only);omega,by(try dsimp only);omega⟩,Weak.keep (by simp[hw']) rfl⟩
 have hie:i=T2.lits.length:=by omega
 subst hie;have hfinD:LayD H bd ba bt bw mp mb2 ⟨D.A,T2,S2,D.a,D.t,D.on,D.ats⟩:=⟨L2,g?,fun hd=>L.nd (E2.sub bd d1 hd),L.na⟩;rcases f5 with⟨k0,p,p1,p2,p3,p4⟩|⟨k1,q2,q3,q4⟩
 ·have kFi:=refFind_ok D.a k ha;have kHa:=refHas_ok D.on k (by omega);have kCl3:=rf3Clause_ok T2.lits D.a.rows[p].lits (by omega) (hr _ (List.getElem_mem p2));rw[p1,hRA]at kFi;rw[p4]at kCl3;have hp0:(0:Int)≤p:=by omega
  simp[k0,g1,g2,dwB];refine CallK.intro kFi (by simp) ?_;simp[hp0,g1,g2,dwB];refine CallG.intro (fun _=>kHa) (by simp) ?_;simp[p3,g1,g2,dwB,p2,roR];refine CallG.intro (fun _=>kCl3) (by simp) ?_;simp;exact⟨mb2,hfinD,E2.wide bd⟩
 ·subst k1;have kSb2:=kSb W.1 (by omega);rw[q3]at kSb2;rw[q4]at kC7;simp[g1,g2,dwB,q2];refine AAnyD.one fo17Sch (by kernel_rfl) ?_;simp[fo17Sch,g1,g2,dwB,q2];refine CallG.intro (fun _=>kSb2) (by simp) ?_;simp[g1,g2,dwB,q2];and_intros
  all_goals
   refine CallG.introK (fun _=>?_) (fun h=>absurd True.intro h);refine CallK.introM (kCl _) (by simp) ?_;rintro _ _ ⟨rfl,rfl⟩;simp;refine CallG.intro (fun _=>kC7) (by simp) ?_;simp;exact⟨mb2,hfinD,E2.wide bd⟩
end Go.AX