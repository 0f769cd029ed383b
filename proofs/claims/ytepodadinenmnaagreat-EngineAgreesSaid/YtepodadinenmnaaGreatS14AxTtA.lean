/-
  Contracts: cnf.With.
  Contracts: replevinlaw10.Few, replevinlaw43.few, three; replevinref10.Same.
  Plain facts: checkers, and what is left of a plain proof.
  Plain facts: what is left of a proof is accepted, and is left as it is.
  Plain facts: what is needed, and the core.
-/
import Derived.Test.YtepodadinenmnaaGreatS14AxWaD
namespace Go.AX
open Go.Proofs
set_option linter.unusedSimpArgs false
set_option maxRecDepth 16000 in
theorem GW(v:Int)(L:List (List Int))(hl:L.length≤1000000)(hL:∀c∈L,c.length≤1000000):ao Tryz.prog 66 [.agg [ae v,.seq false 1 (L.map aO)],.lit (.slice none 0 0)] (fun r=>r=.pv (.agg [ae v,.seq true 1 (L.map nv)])):=by
 refine kU [] [.cell 4 _] aG Tryz.func66 (by kernel_rfl) rfl rfl (by kernel_rfl) (Nat.le_of_ble_eq_true rfl) ?_;obtain⟨M,hM⟩:∃M:Nat→List (List PV),∀i,M i=(L.take i).map nv:=⟨_,fun _=>rfl⟩;have hM0:M 0=[]:=by rw[hM];rfl
 have hMe:M L.length=L.map nv:=by rw[hM,List.take_length]
 have hMs:∀i (c:i<L.length),M (i+1)=M i++[nv L[i]]:=fun i c=>by rw[hM,hM,List.take_add_one,List.getElem?_eq_getElem c,List.map_append];rfl
 have hMl:∀i,(M i).length≤L.length:=fun i=>by rw[hM,List.length_map,List.length_take];exact Nat.min_le_right _ _
 simp;refine aH.intro (S:=fun(i:Nat)=>⟨[(2,.pv (.ptr 0 0)),(4,.pv (.ptr 1 0)),(5,.pv (.ptr 2 0)),(1,.pv (.lit (.slice none 0 0))),(14,.pv (.seq false 1 (L.map aO))),(15,.pv (ae L.length)),(16,.pv (ae i))],[[.pv (ae v),.pv (.seq false 1 (L.map aO))],[.pv (ae 0),.pv (.lit (.slice none 0 0))],[.pv (ae v),.own true 1 (M i)]]⟩) (fun i=>i≤L.length) (fun i=>L.length -i) 0 ?_ (Nat.zero_le _) ?_
 ·exact(aj.nilCell (b:=2) (k:=1) (xs:=[.pv (ae v),.pv (.lit (.slice none 0 0))]) 1 true (by simp) (by simp)).trans (aj.keep (by simp[hM0]) (by simp[hM0]))
 intro i hi
 by_cases c:i<L.length
 ·have hw:aM ((i:Int)+1)=((i+1:Nat):Int):=by rw[ah (by omega) (by omega)];omega
  have hT:=hMs i c;have hC:=gL L[i] (hL _ (List.getElem_mem c));have hml:=hMl i;simp[c,aO];refine bs.intro (by exact hC) (by simp) ?_;simp;exact⟨by omega,i+1,by(try dsimp only);omega,by(try dsimp only);omega,aj.keep (by simp[hw]) (by simp[hT,nv])⟩
 ·have:i=L.length:=by omega
  subst this;simp;refine aH.intro (S:=fun(_:Unit)=>⟨[(4,.pv (.ptr 1 0)),(5,.pv (.ptr 2 0)),(28,.pv (.lit (.slice none 0 0))),(29,.pv (ae 0)),(30,.pv (ae 0))],[[.pv (ae v),.pv (.seq false 1 (L.map aO))],[.pv (ae 0),.pv (.lit (.slice none 0 0))],[.pv (ae v),.own true 1 (M L.length)]]⟩) (fun _=>True) (fun _=>0) () ?_ trivial ?_
  ·exact aj.keep (by simp) rfl
  intro _ _;simp[hMe]
def wF(cs:List (List Int)):Bool:=decide (cs.length≤200)&&cs.all fun c=>decide (c.length≤50)
theorem BY(v:Int)(cs:List (List Int)):ao Tryz.prog 39 [.agg [ae v,.seq false 1 (cs.map aO)]] (fun r=>r=.pv (BL (wF cs))):=by
 refine aw aG Tryz.func39 (by kernel_rfl) rfl rfl (by kernel_rfl) (Nat.le_of_ble_eq_true rfl) ?_
 by_cases c:(200:Int)<cs.length
 ·have:wF cs=false:=by unfold wF;rw[decide_eq_false (by omega),Bool.false_and]
  rw[this];simp[c]
 have c':cs.length≤200:=by omega
 have hF:wF cs=cs.all fun c=>decide (c.length≤50):=by unfold wF;rw[decide_eq_true c',Bool.true_and]
 rw[hF];simp[c];refine aH.intro (S:=fun(i:Nat)=>⟨[(1,.pv (.ptr 0 0)),(3,.pv (ae i))],[[.pv (ae v),.pv (.seq false 1 (cs.map aO))]]⟩) (fun i=>i≤cs.length∧∀j (h:j<cs.length),j<i→cs[j].length≤50) (fun i=>cs.length -i) 0 ?_ ⟨Nat.zero_le _,fun j _ h=>by omega⟩ ?_
 ·exact aj.to (by simp) rfl (by simp) (by simp) (by simp)
 rintro i ⟨hi,hle⟩
 by_cases ci:i<cs.length
 ·have hw2:aM ((i:Int)+1)=((i+1:Nat):Int):=by rw[ah (by omega) (by omega)];omega
  by_cases c5:(50:Int)<cs[i].length
  ·have:(cs.all fun c=>decide (c.length≤50))=false:=by
    rw[List.all_eq_false];exact⟨cs[i],List.getElem_mem ci,by simp;omega⟩
   rw[this];simp[ci,aO,c5]
  ·simp[ci,aO,c5];refine⟨i+1,by(try dsimp only);omega,⟨by(try dsimp only);omega,fun j hj hji=>?_⟩,aj.to (by simp[hw2]) rfl (by simp) (by simp) (by simp)⟩
   by_cases e:j=i
   ·subst e;omega
   ·exact hle j hj (by omega)
 ·have hie:i=cs.length:=by omega
  subst hie;have:(cs.all fun c=>decide (c.length≤50))=true:=by
   rw[List.all_eq_true];intro x hx;obtain⟨j,hj,rfl⟩:=List.getElem_of_mem hx;simpa using hle j hj hj
  rw[this];simp
theorem GX(a b:Stp)(h1:a.kind=b.kind)(h2:a.id=b.id)(h3:a.lits=b.lits)(h4:a.hints=b.hints):a=b:=by
 cases a;cases b;simp at*;exact⟨h1,h2,h3,h4⟩
instance:DecidableEq Stp:=fun a b=>decidable_of_iff (a.kind=b.kind∧a.id=b.id∧a.lits=b.lits∧a.hints=b.hints) ⟨fun⟨h1,h2,h3,h4⟩=>GX a b h1 h2 h3 h4,fun h=>by subst h;exact⟨rfl,rfl,rfl,rfl⟩⟩
theorem q6{α:Type}:∀{l:List (Int×α)}{k:Int}{y:α},(∀q∈l,q.1≠k)→pt l k y=l++[(k,y)]
 |[],_,_,_=>rfl
 |(j,x)::l,k,y,h=>by
  rw[pt,if_neg (h _ List.mem_cons_self),q6 fun q hq=>h q (List.mem_cons_of_mem _ hq)];rfl
abbrev Es{α:Type}(l:List (Int×α)):Prop:=l.Pairwise fun p q=>p.1<q.1
theorem Es.lk{α:Type}:∀{l:List (Int×α)},Es l→∀{k:Int}{x:α},(k,x)∈l→lk l k=some x
 |(j,z)::l,h,k,x,hm=>by
  replace h:=List.pairwise_cons.1 h;rw[AX.lk];rcases List.mem_cons.1 hm with hm|hm
  ·cases hm;rw[if_pos rfl]
  ·have:=h.1 _ hm;simp only at this;rw[if_neg (by omega)];exact Es.lk h.2 hm
theorem Aq{α:Type}:∀(l:List (Int×α))(k:Int),(dl l k).Sublist l
 |[],_=>List.Sublist.refl _
 |(j,x)::l,k=>by
  rw[dl];split
  ·exact List.sublist_cons_self _ _
  ·exact(Aq l k).cons_cons _
theorem mj{α:Type}:∀(ids:List Int)(m:List (Int×α)),(ids.foldl dl m).Sublist m
 |[],_=>List.Sublist.refl _
 |id::ids,m=>(mj ids (dl m id)).trans (Aq m id)
structure CkG (c:Ck):Prop where
  rs:Es c.m
  lo:∀q∈c.m,1≤q.1
  hi:∀q∈c.m,q.1≤c.last
  t:0≤c.last∧c.last≤20000000
theorem CkG.put{c:Ck}(h:CkG c){id:Int}{l:List Int}(h1:c.last<id)(h2:id≤20000000):(GR c id l).m=c.m++[(id,l)]∧CkG (GR c id l):=by
 have hf:pt c.m id l=c.m++[(id,l)]:=q6 fun q hq=>by have:=h.hi q hq;omega
 have ht:=h.t;have hm:(GR c id l).m=c.m++[(id,l)]:=hf;refine⟨hm,⟨?_,?_,?_,?_⟩⟩
 ·rw[hm,Es,List.pairwise_append];refine⟨h.rs,List.pairwise_singleton _ _,fun q hq p hp=>?_⟩;rw[List.mem_singleton]at hp;subst hp;have:=h.hi q hq;simp only;omega
 ·rw[hm];intro q hq;rcases List.mem_append.1 hq with hq|hq
  ·exact h.lo q hq
  ·rw[List.mem_singleton]at hq;subst hq;simp only;omega
 ·rw[hm];intro q hq;show q.1≤id;rcases List.mem_append.1 hq with hq|hq
  ·have:=h.hi q hq;omega
  ·rw[List.mem_singleton]at hq;subst hq;exact Int.le_refl _
 ·exact⟨by show 0≤id;omega,h2⟩
theorem CkG.drop{c:Ck}(h:CkG c)(ids:List Int):CkG ⟨ids.foldl dl c.m,c.last,c.done⟩:=by
 have hs:=mj ids c.m;exact⟨h.rs.sublist hs,fun q hq=>h.lo q (hs.subset hq),fun q hq=>h.hi q (hs.subset hq),h.t⟩
/-! ### What is marked -/
def MX(m:List (Int×Int))(k:Int):Prop:=0<(lk m k).getD 0
instance (m:List (Int×Int)) (k:Int):Decidable (MX m k):=by unfold MX;infer_instance
def HM:List Stp→Nat
 |[]=>0
 |s::ss=>HM ss+s.hints.length
/-! ### The replay -/
def Nq(L:List (List Int))(ss:List Stp)(x:Int):Prop:=MX (IJ L ss) x
instance (L:List (List Int)) (ss:List Stp) (x:Int):Decidable (Nq L ss x):=by unfold Nq;infer_instance
section
variable {v : Int} {L : List (List Int)} {ss : List Stp} (hn : 1 + HM ss ≤ 1000000000)
include hn
end
theorem lm{α:Type}:∀(l:List (Int×α))(k:Int)(y:α)(x:Int),x∈(pt l k y).map (·.1)↔x=k∨x∈l.map (·.1)
 |[],k,y,x=>by simp[pt]
 |(j,z)::l,k,y,x=>by
  rw[pt]
  by_cases c:j=k
  ·rw[if_pos c];subst c;simp
  ·rw[if_neg c,List.map_cons,List.mem_cons,lm l k y x,List.map_cons,List.mem_cons];constructor
   ·rintro(h|h|h)
    ·exact .inr (.inl h)
    ·exact .inl h
    ·exact .inr (.inr h)
   ·rintro(h|h|h)
    ·exact .inr (.inl h)
    ·exact .inl h
    ·exact .inr (.inr h)
theorem iY{α:Type}:∀(l:List (Int×α))(k:Int)(y:α),(l.map (·.1)).Nodup→((pt l k y).map (·.1)).Nodup
 |[],k,y,_=>by simp[pt]
 |(j,z)::l,k,y,h=>by
  rw[List.map_cons,List.nodup_cons]at h;rw[pt]
  by_cases c:j=k
  ·rw[if_pos c,List.map_cons,List.nodup_cons];subst c;exact h
  ·rw[if_neg c,List.map_cons,List.nodup_cons,lm];exact⟨fun hh=>hh.elim c h.1,iY l k y h.2⟩
theorem te{l:List Int}{x:Int}:x∈dQ l↔x∈l:=by
 unfold dQ;exact(List.mergeSort_perm l _).mem_iff
end Go.AX