/-
  AX, part Aq: regions that draw their order, where appends write blocks in place, or make new ones.
  AX, part Ar: slices of arrays that lie in a block, in regions that draw their order.
  AX, part As: regions that draw their order, by what is carried out, where appends write blocks in place.
-/
import Derived.Test.YthfhellfmbllhaaGreatAxAf
namespace Go.AX
def AStepMI (P:Program) (D:List Nat) (ops:List Oper) (i:Nat) (K:St→Prop) (st:St):Prop:=
 match ops[i]?with
 |some o=>AStepM P D ops o K st
 |none=>False
mutual
def AScM (P:Program) (D:List Nat) (ops:List Oper) (K:St→Prop):Sch→St→Prop
  |.done,st=>K st
  |.take i r,st=>AStepI P ops i (AScM P D ops K r) st
  |.fork l,st=>AScML P D ops K l st
def AScML (P:Program) (D:List Nat) (ops:List Oper) (K:St→Prop):List (Nat×Sch)→St→Prop
  |[],_=>True
  |(i,r)::l,st=>AStepMI P D ops i (AScM P D ops K r) st∧AScML P D ops K l st
end
mutual
theorem AScM_ok {P:Program} {D:List Nat} {ops:Array Oper} {K:St→Prop} {Q:Exit→Act→World→Prop} (hsel:Region.noSelect ops=true) (hQp:∀c a w,¬Q (.panic c) a w):∀(S:Sch) (n:Nat) (listed:Array Bool) (_:schB P ops n listed S=true) {st:St} (_:AScM P D ops.toList K S st) {g:Gh} {a:Act} {w:World} (_:Sim g st a w) (_:dstsOk g.N ops.toList=true)
    (_:∀st' g' a' w',K st'→g.to g'→Sim g' st' a' w'→Q .normal a' w'),wpAny P .any ops Q n listed a w
  |.done,n,listed,hb,st,h,g,a,w,hs,_,hQ=>by
    have hb':(Region.ready .any ops listed).isEmpty=true:=by cases n<;>simpa[schB]using hb
    exact wpAny_done (List.isEmpty_iff.1 hb') (hQ st g a w h hs.refl_to hs) n
  |.take i r,0,listed,hb,st,h,g,a,w,hs,hd,hQ=>by simp[schB]at hb
  |.take i r,n+1,listed,hb,st,h,g,a,w,hs,hd,hQ=>by
    simp only[schB,Bool.and_eq_true]at hb
    obtain⟨⟨hb1,hb2⟩,hb3⟩:=hb
    simp only[AScM,AStepI]at h
    cases ho:ops[i]?with
    |none=>rw[ho]at hb1;cases hb1
    |some o=>
      rw[ho]at hb1
      rw[Array.getElem?_toList,ho]at h
      simp only[Bool.and_eq_true]at hb1
      obtain⟨v,hy,st',g',h1,h2,h3⟩:=take_ok o hb1.1 h hs (dstsOk_get hd (by rw[Array.getElem?_toList];exact ho))
      exact wpAny_take ho hsel hb1.2 hb2 (fun c a w hq=>absurd hq (hQp c _ w)) hy (AScM_ok hsel hQp r n _ hb3 h1 h3 (by rw[h2.N];exact hd) fun st2 g2 a2 w2 k2 t2 s2=>hQ st2 g2 a2 w2 k2 (h2.trans t2) s2)
  |.fork l,0,listed,hb,st,h,g,a,w,hs,hd,hQ=>by simp[schB]at hb
  |.fork l,n+1,listed,hb,st,h,g,a,w,hs,hd,hQ=>by
    simp only[schB,Bool.and_eq_true]at hb
    obtain⟨⟨hb1,hb2⟩,hb3⟩:=hb
    simp only[AScM]at h
    have hr:Region.ready .any ops listed=l.map (·.1):=by simpa using hb1
    refine wpAny_all hr (fun e=>?_) fun i hi=>AScML_ok hsel hQp l n listed hb3 h hs hd hQ i hi
    cases l with
    |nil=>simp at hb2
    |cons _ _=>cases e
theorem AScML_ok {P:Program} {D:List Nat} {ops:Array Oper} {K:St→Prop} {Q:Exit→Act→World→Prop} (hsel:Region.noSelect ops=true) (hQp:∀c a w,¬Q (.panic c) a w):∀(l:List (Nat×Sch)) (n:Nat) (listed:Array Bool) (_:schL P ops n listed l=true) {st:St} (_:AScML P D ops.toList K l st) {g:Gh} {a:Act} {w:World} (_:Sim g st a w) (_:dstsOk g.N ops.toList=true)
    (_:∀st' g' a' w',K st'→g.to g'→Sim g' st' a' w'→Q .normal a' w'),∀i∈l.map (·.1),wpOp P ops Q i (wpAny P .any ops Q n (listed.setIfInBounds i true)) a w
  |[],n,listed,_,st,_,g,a,w,_,_,_,i,hi=>by cases hi
  |(i0,r)::l,n,listed,hb,st,h,g,a,w,hs,hd,hQ,i,hi=>by
    simp only[schL,Bool.and_eq_true]at hb
    simp only[AScML]at h
    simp only[List.map_cons,List.mem_cons]at hi
    rcases hi with e|hi
    · subst e
      have h1:=h.1
      simp only[AStepMI]at h1
      unfold wpOp
      cases ho:ops[i]?with
      |none=>rw[Array.getElem?_toList,ho]at h1;exact h1.elim
      |some o=>
        rw[Array.getElem?_toList,ho]at h1
        have key:=AStepM_ok (ops:=ops) o h1 hs (dstsOk_get hd (by rw[Array.getElem?_toList];exact ho)) (K':=wpAny P .any ops Q n (listed.setIfInBounds i true)) (Q:=Q) fun st' g' a' w' k' t' s'=>
          AScM_ok hsel hQp r n _ hb.1 k' s' (by rw[t'.N];exact hd) fun st2 g2 a2 w2 k2 t2 s2=>hQ st2 g2 a2 w2 k2 (t'.trans t2) s2
        simp only
        split
        · rename_i hw;rw[if_pos hw]at key;exact .inl key
        · rename_i hw;rw[if_neg hw]at key;exact key
    · exact AScML_ok hsel hQp l n listed hb.2 h.2 hs hd hQ i hi
end
theorem AAnyD.blk {P:Program} {k0:Nat} {ops:Array Oper} {K:St→Prop} {st:St} (D:List Nat) (S:Sch) {ι:Type} (S1:ι→St) (J:ι→Prop) (hS:schOk P ops S=true) (h:AScM P D ops.toList (fun s=>∃i,J i∧Weak k0 s (S1 i)) S st) (hK:∀i,J i→K (S1 i)):AAnyD P k0 ops K st:=by
 simp only[schOk,Bool.and_eq_true]at hS;refine .inr fun g a w h0 hs hd Q hp hQ=>AScM_ok hS.1 hp S _ _ hS.2 h hs hd fun st' g' a' w' hk t' s'=>?_;obtain⟨i,hj,hw⟩:=hk;obtain⟨g2,t2,s2⟩:=hw g' a' w' (by rw[t'.n0];exact h0) s';exact hQ _ g2 a' w' (hK i hj) (t'.trans t2) s2
section
variable {P : Program} {D : List Nat} {ops : List Oper} {K : St → Prop} {st : St}
@[simp] theorem AScM_done:AScM P D ops K .done st=K st:=by simp only[AScM]
@[simp] theorem AScM_take (i:Nat) (r:Sch):AScM P D ops K (.take i r) st=AStepI P ops i (AScM P D ops K r) st:=by simp only[AScM]
@[simp] theorem AScM_fork (l:List (Nat×Sch)):AScM P D ops K (.fork l) st=AScML P D ops K l st:=by simp only[AScM]
@[simp] theorem AScML_nil:AScML P D ops K [] st=True:=by simp only[AScML]
@[simp] theorem AScML_cons (i:Nat) (r:Sch) (l:List (Nat×Sch)):AScML P D ops K ((i,r)::l) st=(AStepMI P D ops i (AScM P D ops K r) st∧AScML P D ops K l st):=by simp only[AScML]
end
attribute [simp] AStepMI
end Go.AX
namespace Go.AX
def arrCut (P:Program) (t:TypeId) (x:SV):SV×Prop:=
 match arSize P t,x with
 |some (n,e),.pv (.ptr b off)=>(.pv (.bsl b 1 off n n),e=1∧0<n)
 |_,_=>(.pv .bot,False)
theorem arrCut_ok {P:Program} {st:St} (o:Oper) (t:TypeId) (x:Operand) (ho:o.op=.slice t x none none none):PopS P st o ((arrCut P t (mv st x)).1,gc st x∧(arrCut P t (mv st x)).2):=by
 intro g a w h ⟨hx,hd⟩;unfold arrCut at hd⊢;split at hd
 case h_2=>exact hd.elim
 rename_i n e b off hs hm;obtain⟨rfl,hn⟩:=hd;obtain⟨hf,_⟩:=mv_ok h x hx;rw[hm]at hf;obtain⟨_,hb,hv⟩:=hf;unfold arSize at hs;split at hs
 case h_2=>cases hs
 rename_i n' el hu;simp only[Option.map_eq_some_iff,Prod.mk.injEq]at hs;obtain⟨inf,hinf,rfl,hsz⟩:=hs;have hb2:=run_bounds (P:=P) h false n' n' none none trivial trivial (Int.le_refl _) (by simp[bnd]) (by simp[bnd]) (Nat.le_refl _);refine⟨.slice (some ⟨g.μ b,off,none⟩) n' n',?_,⟨rfl,hb,Nat.le_refl _,rfl⟩,trivial⟩;intro w';have hne:¬n'=0:=by omega
 simp only[execOp,ho,hv,Option.map_none,Instr.sliceAt,Sem.run_bind,run_underlying hu,Result.andThen_ok,Instr.sureAddr,Sem.run_pure];have hb3:=hb2 w';simp only[Option.map_none]at hb3;rw[hb3];simp[bnd,run_sizeOf hinf,hne,Addr.add_lit]
def isArrCut (P:Program) (o:Oper):Option (TypeId×Operand×Tmp):=
 match o.guard,o.dst,o.op with
 |none,some d,.slice t x none none none=>if(arSize P t).isSome then some (t,x,d)else none
 |_,_,_=>none
theorem isArrCut_ok {P:Program} {o:Oper} {t:TypeId} {x:Operand} {d:Tmp} (h:isArrCut P o=some (t,x,d)):o.guard=none∧o.dst=some d∧o.op=.slice t x none none none:=by
 unfold isArrCut at h;split at h
 ·rename_i h1 h2 h3;split at h
  ·cases h;exact⟨h1,h2,h3⟩
  ·cases h
 ·cases h
def AStepTI (P:Program) (ops:List Oper) (i:Nat) (K:St→Prop) (st:St):Prop:=
 match ops[i]?with
 |some o=>match isArrCut P o with
  |some (t,x,d)=>(gc st x∧(arrCut P t (mv st x)).2)∧K (st.put d (arrCut P t (mv st x)).1)
  |none=>AStep P ops o K st
 |none=>False
mutual
def AScN (P:Program) (D:List Nat) (ops:List Oper) (K:St→Prop):Sch→St→Prop
  |.done,st=>K st
  |.take i r,st=>AStepTI P ops i (AScN P D ops K r) st
  |.fork l,st=>AScNL P D ops K l st
def AScNL (P:Program) (D:List Nat) (ops:List Oper) (K:St→Prop):List (Nat×Sch)→St→Prop
  |[],_=>True
  |(i,r)::l,st=>AStepMI P D ops i (AScN P D ops K r) st∧AScNL P D ops K l st
end
theorem take_okT {P:Program} {ops:Array Oper} {st:St} {i:Nat} {o:Oper} (ho:ops.toList[i]?=some o) (hb:stillB P o.op=true) {K:St→Prop} (h:AStepTI P ops.toList i K st) {g:Gh} {a:Act} {w:World} (hs:Sim g st a w) (hd:dstOk g.N o.dst):
 ∃v,Yields P ops o v a∧∃st' g',K st'∧g.to g'∧Sim g' st' (a.put o.dst v) w:=by
 unfold AStepTI at h;rw[ho]at h;simp only at h;split at h
 ·rename_i t x d hc;obtain⟨h1,h2,h3⟩:=isArrCut_ok hc;obtain⟨v,hv,hf,ha⟩:=arrCut_ok (st:=st) o t x h3 g a w hs h.1;refine⟨v,.inl ⟨by simp[Region.wanted,h1],hv⟩,_,g,h.2,hs.refl_to,?_⟩;rw[h2]at hd⊢;refine hs.put hd hf ha ?_;unfold arrCut;split<;>rfl
 ·exact take_ok o hb h hs hd
mutual
theorem AScN_ok {P:Program} {D:List Nat} {ops:Array Oper} {K:St→Prop} {Q:Exit→Act→World→Prop} (hsel:Region.noSelect ops=true) (hQp:∀c a w,¬Q (.panic c) a w):∀(S:Sch) (n:Nat) (listed:Array Bool) (_:schB P ops n listed S=true) {st:St} (_:AScN P D ops.toList K S st) {g:Gh} {a:Act} {w:World} (_:Sim g st a w) (_:dstsOk g.N ops.toList=true)
    (_:∀st' g' a' w',K st'→g.to g'→Sim g' st' a' w'→Q .normal a' w'),wpAny P .any ops Q n listed a w
  |.done,n,listed,hb,st,h,g,a,w,hs,_,hQ=>by
    have hb':(Region.ready .any ops listed).isEmpty=true:=by cases n<;>simpa[schB]using hb
    simp only[AScN]at h
    exact wpAny_done (List.isEmpty_iff.1 hb') (hQ st g a w h hs.refl_to hs) n
  |.take i r,0,listed,hb,st,h,g,a,w,hs,hd,hQ=>by simp[schB]at hb
  |.take i r,n+1,listed,hb,st,h,g,a,w,hs,hd,hQ=>by
    simp only[schB,Bool.and_eq_true]at hb
    obtain⟨⟨hb1,hb2⟩,hb3⟩:=hb
    simp only[AScN]at h
    cases ho:ops[i]?with
    |none=>rw[ho]at hb1;cases hb1
    |some o=>
      rw[ho]at hb1
      simp only[Bool.and_eq_true]at hb1
      have ho':ops.toList[i]?=some o:=by rw[Array.getElem?_toList];exact ho
      obtain⟨v,hy,st',g',h1,h2,h3⟩:=take_okT ho' hb1.1 h hs (dstsOk_get hd ho')
      exact wpAny_take ho hsel hb1.2 hb2 (fun c a w hq=>absurd hq (hQp c _ w)) hy (AScN_ok hsel hQp r n _ hb3 h1 h3 (by rw[h2.N];exact hd) fun st2 g2 a2 w2 k2 t2 s2=>hQ st2 g2 a2 w2 k2 (h2.trans t2) s2)
  |.fork l,0,listed,hb,st,h,g,a,w,hs,hd,hQ=>by simp[schB]at hb
  |.fork l,n+1,listed,hb,st,h,g,a,w,hs,hd,hQ=>by
    simp only[schB,Bool.and_eq_true]at hb
    obtain⟨⟨hb1,hb2⟩,hb3⟩:=hb
    simp only[AScN]at h
    have hr:Region.ready .any ops listed=l.map (·.1):=by simpa using hb1
    refine wpAny_all hr (fun e=>?_) fun i hi=>AScNL_ok hsel hQp l n listed hb3 h hs hd hQ i hi
    cases l with
    |nil=>simp at hb2
    |cons _ _=>cases e
theorem AScNL_ok {P:Program} {D:List Nat} {ops:Array Oper} {K:St→Prop} {Q:Exit→Act→World→Prop} (hsel:Region.noSelect ops=true) (hQp:∀c a w,¬Q (.panic c) a w):∀(l:List (Nat×Sch)) (n:Nat) (listed:Array Bool) (_:schL P ops n listed l=true) {st:St} (_:AScNL P D ops.toList K l st) {g:Gh} {a:Act} {w:World} (_:Sim g st a w) (_:dstsOk g.N ops.toList=true)
    (_:∀st' g' a' w',K st'→g.to g'→Sim g' st' a' w'→Q .normal a' w'),∀i∈l.map (·.1),wpOp P ops Q i (wpAny P .any ops Q n (listed.setIfInBounds i true)) a w
  |[],n,listed,_,st,_,g,a,w,_,_,_,i,hi=>by cases hi
  |(i0,r)::l,n,listed,hb,st,h,g,a,w,hs,hd,hQ,i,hi=>by
    simp only[schL,Bool.and_eq_true]at hb
    simp only[AScNL]at h
    simp only[List.map_cons,List.mem_cons]at hi
    rcases hi with e|hi
    · subst e
      have h1:=h.1
      simp only[AStepMI]at h1
      unfold wpOp
      cases ho:ops[i]?with
      |none=>rw[Array.getElem?_toList,ho]at h1;exact h1.elim
      |some o=>
        rw[Array.getElem?_toList,ho]at h1
        have key:=AStepM_ok (ops:=ops) o h1 hs (dstsOk_get hd (by rw[Array.getElem?_toList];exact ho)) (K':=wpAny P .any ops Q n (listed.setIfInBounds i true)) (Q:=Q) fun st' g' a' w' k' t' s'=>
          AScN_ok hsel hQp r n _ hb.1 k' s' (by rw[t'.N];exact hd) fun st2 g2 a2 w2 k2 t2 s2=>hQ st2 g2 a2 w2 k2 (t'.trans t2) s2
        simp only
        split
        · rename_i hw;rw[if_pos hw]at key;exact .inl key
        · rename_i hw;rw[if_neg hw]at key;exact key
    · exact AScNL_ok hsel hQp l n listed hb.2 h.2 hs hd hQ i hi
end
theorem AAnyD.arr {P:Program} {k0:Nat} {ops:Array Oper} {K:St→Prop} {st:St} (D:List Nat) (S:Sch) {ι:Type} (S1:ι→St) (J:ι→Prop) (hS:schOk P ops S=true) (h:AScN P D ops.toList (fun s=>∃i,J i∧Weak k0 s (S1 i)) S st) (hK:∀i,J i→K (S1 i)):AAnyD P k0 ops K st:=by
 simp only[schOk,Bool.and_eq_true]at hS;refine .inr fun g a w h0 hs hd Q hp hQ=>AScN_ok hS.1 hp S _ _ hS.2 h hs hd fun st' g' a' w' hk t' s'=>?_;obtain⟨i,hj,hw⟩:=hk;obtain⟨g2,t2,s2⟩:=hw g' a' w' (by rw[t'.n0];exact h0) s';exact hQ _ g2 a' w' (hK i hj) (t'.trans t2) s2
section
variable {P : Program} {D : List Nat} {ops : List Oper} {K : St → Prop} {st : St}
@[simp] theorem AScN_done:AScN P D ops K .done st=K st:=by simp only[AScN]
@[simp] theorem AScN_take (i:Nat) (r:Sch):AScN P D ops K (.take i r) st=AStepTI P ops i (AScN P D ops K r) st:=by simp only[AScN]
@[simp] theorem AScN_fork (l:List (Nat×Sch)):AScN P D ops K (.fork l) st=AScNL P D ops K l st:=by simp only[AScN]
@[simp] theorem AScNL_nil:AScNL P D ops K [] st=True:=by simp only[AScNL]
@[simp] theorem AScNL_cons (i:Nat) (r:Sch) (l:List (Nat×Sch)):AScNL P D ops K ((i,r)::l) st=(AStepMI P D ops i (AScN P D ops K r) st∧AScNL P D ops K l st):=by simp only[AScNL]
end
attribute [simp] AStepTI isArrCut arrCut
end Go.AX
namespace Go.AX
def AForksM (stp:Nat→(St→Prop)→St→Prop) (C:Nat→Array Bool→St→Prop) (n:Nat) (st:St):List (Nat×Array Bool)→Prop
 |[]=>True
 |(i,l')::r=>stp i (C n l') st∧AForksM stp C n st r
structure WalkerM (P:Program) (k0:Nat) (ops:Array Oper) (stp stM:Nat→(St→Prop)→St→Prop) (K:St→Prop) (C:Nat→Array Bool→St→Prop):Prop where
  done:∀n l st,(Region.ready .any ops l).isEmpty=true→K st→C n l st
  weak:∀{n l st st1},C n l st1→Weak k0 st st1→C n l st
  take:∀{n l st} (i l'),takeB P ops l i l'=true→stp i (C n l') st→C (n+1) l st
  fork:∀{n l st} (rs),forkB ops l rs=true→AForksM stM C n st rs→C (n+1) l st
theorem AAt.walkerM (P:Program) (k0:Nat) (ops:Array Oper) (D:List Nat) (K:St→Prop):WalkerM P k0 ops (fun i K st=>AStepI P ops.toList i K st) (fun i K st=>AStepMI P D ops.toList i K st) K (AAt P k0 ops K)where
 done:=(AAt.walker P k0 ops K).done
 weak:=(AAt.walker P k0 ops K).weak
 take:=(AAt.walker P k0 ops K).take
 fork:=fun{n l st} rs hb h g a w h0 hs hd Q hp hQ=>by
  simp only[forkB,Bool.and_eq_true]at hb;obtain⟨⟨hb1,hb2⟩,hb3⟩:=hb;have hr:Region.ready .any ops l=rs.map (·.1):=by simpa using hb1
  refine wpAny_all hr (fun e=>by cases rs with|nil=>simp at hb2|cons _ _=>cases e) fun i hi=>?_;clear hb1 hb2 hr
  induction rs with
  |nil=>cases hi
  |cons p rs ih=>
   obtain⟨i0,l'⟩:=p;simp only[List.all_cons,Bool.and_eq_true]at hb3;simp only[AForksM]at h;simp only[List.map_cons,List.mem_cons]at hi;rcases hi with e|hi
   ·subst e;have h1:=h.1;have hl:l.setIfInBounds i true=l':=by simpa using hb3.1
    simp only[AStepMI]at h1;unfold wpOp;cases ho:ops[i]?with
    |none=>rw[Array.getElem?_toList,ho]at h1;exact h1.elim
    |some o=>
     rw[Array.getElem?_toList,ho]at h1;have key:=AStepM_ok (ops:=ops) o h1 hs (dstsOk_get hd (by rw[Array.getElem?_toList];exact ho)) (K':=wpAny P .any ops Q n (l.setIfInBounds i true)) (Q:=Q) fun st' g' a' w' k' t' s'=>by
      rw[hl];exact k' _ _ _ (by rw[t'.n0];exact h0) s' (by rw[t'.N];exact hd) Q hp fun st2 g2 a2 w2 k2 t2 s2=>hQ st2 g2 a2 w2 k2 (t'.trans t2) s2
     simp only;split
     ·rename_i hw;rw[if_pos hw]at key;exact .inl key
     ·rename_i hw;rw[if_neg hw]at key;exact key
   ·exact ih h.2 hb3.2 hi
theorem WalkerM.kp {P:Program} {k0:Nat} {ops:Array Oper} {stp stM:Nat→(St→Prop)→St→Prop} {K:St→Prop} {C:Nat→Array Bool→St→Prop} (hC:WalkerM P k0 ops stp stM K C) {n:Nat} {l:Array Bool} {st:St} {t1:List (Nat×SV)} {h1:List (List SV)} (hd:C n l ⟨t1,h1⟩) (h:wkL st.t t1) (hh:st.h=h1):C n l st:=hC.weak hd (hh▸Weak.slots h)
theorem AAnyD.dagM {P:Program} {k0:Nat} {ops:Array Oper} {K:St→Prop} {st:St} (D:List Nat) (n:Nat) (l:Array Bool) (hn:(n==ops.size&&l==Array.replicate ops.size false)=true)
 (h:∀(stp stM:Nat→(St→Prop)→St→Prop),(∀i K st,stp i K st=AStepI P ops.toList i K st)→(∀i K st,stM i K st=AStepMI P D ops.toList i K st)→∀C,WalkerM P k0 ops stp stM K C→C n l st):AAnyD P k0 ops K st:=by
 have:=h _ _ (fun _ _ _=>rfl) (fun _ _ _=>rfl) _ (AAt.walkerM P k0 ops D K);simp only[Bool.and_eq_true,beq_iff_eq]at hn;rw[hn.1,hn.2]at this;exact .inr this
theorem AAnyD.dagE {P:Program} {k0:Nat} {ops:Array Oper} {K:St→Prop} {st:St} (D:List Nat) {ι:Type} (S1:ι→St) (J:ι→Prop) (n:Nat) (l:Array Bool) (hn:(n==ops.size&&l==Array.replicate ops.size false)=true)
 (h:∀(stp stM:Nat→(St→Prop)→St→Prop),(∀i K st,stp i K st=AStepI P ops.toList i K st)→(∀i K st,stM i K st=AStepMI P D ops.toList i K st)→∀C,WalkerM P k0 ops stp stM (fun s=>∃i,J i∧Weak k0 s (S1 i)) C→C n l st) (hK:∀i,J i→K (S1 i)):AAnyD P k0 ops K st:=by
 have:=h _ _ (fun _ _ _=>rfl) (fun _ _ _=>rfl) _ (AAt.walkerM P k0 ops D _);simp only[Bool.and_eq_true,beq_iff_eq]at hn;rw[hn.1,hn.2]at this;refine .inr fun g a w h0 hs hd Q hp hQ=>this g a w h0 hs hd Q hp fun st' g' a' w' hk t' s'=>?_;obtain⟨i,hj,hw⟩:=hk;obtain⟨g2,t2,s2⟩:=hw g' a' w' (by rw[t'.n0];exact h0) s';exact hQ _ g2 a' w' (hK i hj) (t'.trans t2) s2
attribute [simp] AForksM
end Go.AX