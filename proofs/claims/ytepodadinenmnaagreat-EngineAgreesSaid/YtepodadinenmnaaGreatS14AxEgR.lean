/-
  Arenas whose clauses may be learnt, and dropped, told plainly (plain law).
-/
import Derived.Test.YtepodadinenmnaaGreatS14AxEgD
namespace Go.AX
open Go.Proofs
set_option linter.unusedSimpArgs false
structure Rc where
  id:Int
  side:Int
  lits:List Int
def Rc.sz(x:Rc):Nat:=3+x.lits.length
def bd:List Rc→List Int
 |[]=>[]
 |x::l=>x.id::x.lits.length::x.side::(x.lits++bd l)
def bk:Nat→List Rc→List Ro
 |_,[]=>[]
 |p,x::l=>if x.side=2 then bk (p+x.sz) l else⟨p,x.id,x.lits⟩::bk (p+x.sz) l
def m6(k:Int):Nat→List Rc→List Rc
 |_,[]=>[]
 |p,x::l=>(if(p:Int)=k then⟨x.id,2,x.lits⟩else x)::m6 k (p+x.sz) l
theorem i9:∀(l l':List Rc),bd (l++l')=bd l++bd l'
 |[],_=>rfl
 |x::l,l'=>by show _::_::_::(x.lits++bd (l++l'))=_;rw[i9 l l'];simp[bd]
theorem ja:∀(l l':List Rc)(p:Nat),bk p (l++l')=bk p l++bk (p+(bd l).length) l'
 |[],_,_=>rfl
 |x::l,l',p=>by
  have e:p+x.sz+(bd l).length=p+(bd (x::l)).length:=by simp[bd,Rc.sz];omega
  show(if x.side=2 then bk (p+x.sz) (l++l')else _::bk (p+x.sz) (l++l'))=(if x.side=2 then bk (p+x.sz) l else _::bk (p+x.sz) l)++_;rw[ja l l',e];split<;>rfl
theorem nT:∀(l:List Rc)(p:Nat)(y:Ro),y∈bk p l→∃a x b,l=a++x::b∧x.side≠2∧y=⟨((p+(bd a).length:Nat):Int),x.id,x.lits⟩
 |[],_,_,h=>by cases h
 |x::l,p,y,h=>by
  have key:y∈bk (p+x.sz) l→∃a x' b,x::l=a++x'::b∧x'.side≠2∧y=⟨((p+(bd a).length:Nat):Int),x'.id,x'.lits⟩:=fun h=>by
   obtain⟨a,x',b,e,hs,ey⟩:=nT l _ y h;refine⟨x::a,x',b,by rw[e];rfl,hs,?_⟩;rw[ey];have:p+x.sz+(bd a).length=p+(bd (x::a)).length:=by simp[bd,Rc.sz];omega
   rw[this]
  rw[bk]at h
  by_cases c:x.side=2
  ·rw[if_pos c]at h;exact key h
  ·rw[if_neg c]at h;rcases List.mem_cons.1 h with h|h
   ·exact⟨[],x,l,rfl,c,h⟩
   ·exact key h
theorem iD:∀(l:List Rc)(p:Nat)(y:Ro),y∈bk p l→(p:Int)≤y.at'∧y.at'+3+y.lits.length≤p+(bd l).length:=fun l p y h=>by
 obtain⟨a,x,b,e,_,ey⟩:=nT l p y h;rw[e,ey,i9];simp[bd];omega
theorem AO:∀(l:List Rc)(p:Nat)(k:Int),k<p→m6 k p l=l
 |[],_,_,_=>rfl
 |x::l,p,k,h=>by rw[m6,if_neg (by omega),AO l _ k (by omega)]
theorem wZ:∀(l:List Rc)(p:Nat)(k:Int),bk p (m6 k p l)=(bk p l).filter fun y=>decide (y.at'≠k)
 |[],_,_=>rfl
 |x::l,p,k=>by
  have ih:=wZ l (p+x.sz) k
  by_cases c:(p:Int)=k
  ·have hn:(bk (p+x.sz) l).filter (fun y=>decide (y.at'≠k))=bk (p+x.sz) l:=by
    rw[List.filter_eq_self];intro y hy;have:=(iD l _ y hy).1;unfold Rc.sz at this;simp;omega
   rw[m6,if_pos c,bk,bk,if_pos rfl];have e:(⟨x.id,2,x.lits⟩:Rc).sz=x.sz:=rfl;rw[e,ih,hn];split
   ·exact hn.symm
   ·rw[List.filter_cons,if_neg (by simp[c]),hn]
  ·rw[m6,if_neg c,bk,bk,ih];split
   ·rfl
   ·rw[List.filter_cons,if_pos (by simp[c])]
theorem w5:∀(a:List Rc)(x:Rc)(b:List Rc)(p:Nat),(bd (a++x::b)).set ((bd a).length+2) 2=bd (m6 ((p+(bd a).length:Nat):Int) p (a++x::b))
 |[],x,b,p=>by
  show _=bd (m6 _ p (x::b));rw[m6,if_pos (by simp[bd]),AO b _ _ (by simp[bd,Rc.sz];omega)];simp[bd]
 |y::a,x,b,p=>by
  have ih:=w5 a x b (p+y.sz);have e:(bd (y::a)).length=y.sz+(bd a).length:=by simp[bd,Rc.sz];omega
  have e2:p+(bd (y::a)).length=p+y.sz+(bd a).length:=by omega
  show(bd (y::(a++x::b))).set _ 2=bd (m6 _ p (y::(a++x::b)));rw[m6,if_neg (by unfold Rc.sz at e;omega),e2];generalize m6 (((p+y.sz+(bd a).length:Nat):Int)) (p+y.sz) (a++x::b)=D at*;have e3:(bd (y::a)).length+2=(y.lits.length+((bd a).length+2))+3:=by unfold Rc.sz at e;omega
  rw[e3,bd,bd,←ih];simp only[List.set_cons_succ];rw[List.set_append_right _ _ (by omega),Nat.add_sub_cancel_left]
structure ArI (A:Ar) (l:List Rc):Prop where
  row:A.row=bd l
  hd:∀k v,lk A.hd k=some v↔∃x∈bk 0 l,x.at'=k∧x.id=v
  nd:(A.hd.map (·.1)).Nodup
  id:∀x∈l,1≤x.id
section
variable {A : Ar} {l : List Rc}
theorem ArI.ids(h:ArI A l):∀x∈bk 0 l,1≤x.id:=fun y hy=>by
 obtain⟨a,x,b,e,_,ey⟩:=nT l 0 y hy;rw[ey];exact h.id x (by rw[e];simp)
theorem ArI.isA(h:ArI A l)(k:Int):Go.AX.isA A k=true↔∃x∈bk 0 l,x.at'=k:=by
 unfold Go.AX.isA;rw[decide_eq_true_eq];constructor
 ·intro hp;cases e:lk A.hd k with
  |none=>rw[e]at hp;simp at hp
  |some v=>
   obtain⟨x,hx,e1,_⟩:=(h.hd k v).1 e;exact⟨x,hx,e1⟩
 ·rintro⟨x,hx,e1⟩;rw[(h.hd k x.id).2 ⟨x,hx,e1,rfl⟩];have:=h.ids x hx;simp;omega
theorem uU(a:List Rc)(x:Rc)(b:List Rc):let r:=bd (a++x::b);let p:=(bd a).length
 r.getD p 0=x.id∧r.getD (p+1) 0=x.lits.length∧r.getD (p+2) 0=x.side∧(r.drop (p+3)).take x.lits.length=x.lits∧p+3+x.lits.length≤r.length:=by
 dsimp only;rw[i9];have e:∀j,(bd a++bd (x::b)).getD ((bd a).length+j) 0=(bd (x::b)).getD j 0:=fun j=>by
  simp only[List.getD_eq_getElem?_getD];rw[List.getElem?_append_right (by omega)];congr 2;omega
 refine⟨?_,?_,?_,?_,?_⟩
 ·exact(e 0).trans rfl
 ·exact(e 1).trans rfl
 ·exact(e 2).trans rfl
 ·rw[List.drop_append,List.drop_of_length_le (by omega),show(bd a).length+3 -(bd a).length=3 by omega];simp[bd]
 ·simp[bd];omega
theorem ArI.rel(h:ArI A l):RelA A ⟨bk 0 l,A.row.length⟩where
 size:=rfl
 rows:=fun y hy=>by
  obtain⟨a,x,b,e,_,ey⟩:=nT l 0 y hy;obtain⟨q1,q2,q3,q4,q5⟩:=uU a x b;rw[←e,←h.row]at q1 q2 q3 q4 q5;rw[Nat.zero_add]at ey;subst ey;exact⟨(bd a).length,rfl,⟨q5,q2⟩,q4,(h.isA _).2 ⟨_,hy,rfl⟩,q1⟩
 is:=fun q hq=>(h.isA q).1 hq
theorem ArI.new:ArI ⟨[],[]⟩ []:=⟨rfl,fun k v=>by simp[lk,bk],by simp,by simp⟩
theorem ArI.put(h:ArI A l){id:Int}{c:List Int}(he:iw id c=0)(b:Bool):ArI (cX A id c b) (l++[⟨id,eh b,c⟩]):=by
 have vm:1≤id:=by
  unfold iw at he;split at he
  ·omega
  ·omega
 have hs:eh b≠2:=by unfold eh;split<;>omega
 unfold cX;rw[if_pos he];have hr:bk 0 (l++[⟨id,eh b,c⟩])=bk 0 l++[⟨A.row.length,id,c⟩]:=by
  rw[ja,h.row,Nat.zero_add];show bk 0 l++(if eh b=2 then _ else _)=_;rw[if_neg hs];rfl
 refine⟨?_,fun k v=>?_,?_,?_⟩
 ·show A.row++_=_;rw[i9,h.row];simp[bd]
 ·show lk (pt A.hd A.row.length id) k=some v↔_;rw[bz,hr]
  by_cases q:(A.row.length:Int)=k
  ·rw[if_pos q];constructor
   ·intro e;cases e;exact⟨⟨A.row.length,id,c⟩,by simp,q,rfl⟩
   ·rintro⟨x,hx,e1,e2⟩;rcases List.mem_append.1 hx with hx|hx
    ·have:=(iD l 0 x hx).2;rw[h.row]at q;omega
    ·simp at hx;subst hx;simp at e2;rw[e2]
  ·rw[if_neg q,h.hd];constructor
   ·rintro⟨x,hx,e⟩;exact⟨x,by simp[hx],e⟩
   ·rintro⟨x,hx,e1,e2⟩;rcases List.mem_append.1 hx with hx|hx
    ·exact⟨x,hx,e1,e2⟩
    ·simp at hx;subst hx;exact absurd e1 q
 ·exact iY _ _ _ h.nd
 ·intro x hx;rcases List.mem_append.1 hx with hx|hx
  ·exact h.id x hx
  ·simp at hx;subst hx;exact vm
theorem ArI.drop(h:ArI A l){k:Int}(hk:Go.AX.isA A k=true):ArI (Lk A k) (m6 k 0 l):=by
 obtain⟨y,hy,e1⟩:=(h.isA k).1 hk;obtain⟨a,x,b,e,hs,ey⟩:=nT l 0 y hy;have hk2:k=(((bd a).length:Nat):Int):=by rw[←e1,ey];simp
 have hw:IN A k=0:=by
  unfold IN;unfold Go.AX.isA at hk;rw[decide_eq_true_eq]at hk;rw[if_neg (by omega)]
 unfold Lk;rw[if_pos hw];refine⟨?_,fun j v=>?_,?_,?_⟩
 ·show A.row.set (k.toNat+2) 2=_;have:=w5 a x b 0;rw[Nat.zero_add,←hk2,←e]at this;rw[h.row,←this];congr 1;omega
 ·show lk (dl A.hd k) j=some v↔_;rw[Ez h.nd,wZ]
  by_cases q:j=k
  ·rw[if_pos q];constructor
   ·intro e;cases e
   ·rintro⟨x,hx,e1,_⟩;have:=(List.mem_filter.1 hx).2;simp[e1,q]at this
  ·rw[if_neg q,h.hd];constructor
   ·rintro⟨x,hx,e1,e2⟩;exact⟨x,List.mem_filter.2 ⟨hx,by simp[e1,q]⟩,e1,e2⟩
   ·rintro⟨x,hx,e⟩;exact⟨x,(List.mem_filter.1 hx).1,e⟩
 ·exact HN h.nd k
 ·have:∀(l:List Rc)(p:Nat),(∀x∈l,1≤x.id)→∀x∈m6 k p l,1≤x.id:=by
   intro l
   induction l with
   |nil=>intro p _ x hx;cases hx
   |cons z l ih=>
    intro p hz x hx;rw[m6]at hx;rcases List.mem_cons.1 hx with hx|hx
    ·rw[hx];split<;>exact hz z (by simp)
    ·exact ih _ (fun x hx=>hz x (List.mem_cons_of_mem _ hx)) x hx
  exact this l 0 h.id
theorem ArI.at(h:ArI A l){y:Ro}(hy:y∈bk 0 l):aq A y.at'=y.lits∧lh A y.at'=y.id:=by
 obtain⟨p,e1,e2,e3,e4,e5⟩:=h.rel.rows y hy;rw[e1];unfold aq lh;rw[if_pos e4,if_pos e4,Int.toNat_natCast,e2.num,Int.toNat_natCast,e3,e5];exact⟨rfl,rfl⟩
end
end Go.AX