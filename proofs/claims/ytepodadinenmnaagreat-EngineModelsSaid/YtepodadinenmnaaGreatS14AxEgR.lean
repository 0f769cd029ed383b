/-
  Arenas whose clauses may be learnt, and dropped, told plainly (plain law).
-/
import Derived.Test.YtepodadinenmnaaGreatS14AxEgD
namespace Go.AX
open Go.Proofs
set_option linter.unusedSimpArgs false
structure Rc where
  id:Int
  side:Int
  lits:List Int
def Rc.sz(x:Rc):Nat:=3+x.lits.length
def bv:List Rc->List Int
 |[]=>[]
 |x::l=>x.id::x.lits.length::x.side::(x.lits++bv l)
def bn:Nat->List Rc->List Ro
 |_,[]=>[]
 |p,x::l=>if x.side=2 then bn (p+x.sz) l else⟨p,x.id,x.lits⟩::bn (p+x.sz) l
def oG(k:Int):Nat->List Rc->List Rc
 |_,[]=>[]
 |p,x::l=>(if(p:Int)=k then⟨x.id,2,x.lits⟩else x)::oG k (p+x.sz) l
theorem kg:∀(l l':List Rc),bv (l++l')=bv l++bv l'
 |[],_=>rfl
 |x::l,l'=>by show _::_::_::(x.lits++bv (l++l'))=_;rw[kg l l'];simp[bv]
theorem kh:∀(l l':List Rc)(p:Nat),bn p (l++l')=bn p l++bn (p+(bv l).length) l'
 |[],_,_=>rfl
 |x::l,l',p=>by
  have e:p+x.sz+(bv l).length=p+(bv (x::l)).length:=by simp[bv,Rc.sz];omega
  show(if x.side=2 then bn (p+x.sz) (l++l')else _::bn (p+x.sz) (l++l'))=(if x.side=2 then bn (p+x.sz) l else _::bn (p+x.sz) l)++_;rw[kh l l',e];split<;>rfl
theorem pM:∀(l:List Rc)(p:Nat)(y:Ro),y∈bn p l->∃a x b,l=a++x::b∧x.side≠2∧y=⟨((p+(bv a).length:Nat):Int),x.id,x.lits⟩
 |[],_,_,h=>by cases h
 |x::l,p,y,h=>by
  have key:y∈bn (p+x.sz) l->∃a d b,x::l=a++d::b∧d.side≠2∧y=⟨((p+(bv a).length:Nat):Int),d.id,d.lits⟩:=λh=>by
   obtain⟨a,d,b,e,hs,f⟩:=pM l _ y h;refine⟨x::a,d,b,by rw[e];rfl,hs,?_⟩;rw[f];have:p+x.sz+(bv a).length=p+(bv (x::a)).length:=by simp[bv,Rc.sz];omega
   rw[this]
  rw[bn]at h
  by_cases c:x.side=2
  .rw[RI c]at h;exact key h
  .rw[RH c]at h;rcases R9.1 h with h|h
   .exact⟨[],x,l,rfl,c,h⟩
   .exact key h
theorem jF:∀(l:List Rc)(p:Nat)(y:Ro),y∈bn p l->(p:Int)<=y.at'∧y.at'+3+y.lits.length<=p+(bv l).length:=λl p y h=>by
 obtain⟨a,x,b,e,_,c⟩:=pM l p y h;rw[e,c,kg];simp[bv];omega
theorem Eb:∀(l:List Rc)(p:Nat)(k:Int),k<p->oG k p l=l
 |[],_,_,_=>rfl
 |x::l,p,k,h=>by rw[oG,RH (by omega),Eb l _ k (by omega)]
theorem Ag:∀(l:List Rc)(p:Nat)(k:Int),bn p (oG k p l)=(bn p l).filter λy=>decide (y.at'≠k)
 |[],_,_=>rfl
 |x::l,p,k=>by
  have a:=Ag l (p+x.sz) k
  by_cases c:(p:Int)=k
  .have hn:(bn (p+x.sz) l).filter (λy=>decide (y.at'≠k))=bn (p+x.sz) l:=by
    rw[TG];intro y hy;have:=(jF l _ y hy).1;unfold Rc.sz at this;simp;omega
   rw[oG,RI c,bn,bn,RI rfl];have e:(⟨x.id,2,x.lits⟩:Rc).sz=x.sz:=rfl;rw[e,a,hn];split
   .exact hn.symm
   .rw[Sz,RH (by simp[c]),hn]
  .rw[oG,RH c,bn,bn,a];split
   .rfl
   .rw[Sz,RI (by simp[c])]
theorem Ah:∀(a:List Rc)(x:Rc)(b:List Rc)(p:Nat),(bv (a++x::b)).set ((bv a).length+2) 2=bv (oG ((p+(bv a).length:Nat):Int) p (a++x::b))
 |[],x,b,p=>by
  show _=bv (oG _ p (x::b));rw[oG,RI (by simp[bv]),Eb b _ _ (by simp[bv,Rc.sz];omega)];simp[bv]
 |y::a,x,b,p=>by
  have f:=Ah a x b (p+y.sz);have e:(bv (y::a)).length=y.sz+(bv a).length:=by simp[bv,Rc.sz];omega
  have c:p+(bv (y::a)).length=p+y.sz+(bv a).length:=by omega
  show(bv (y::(a++x::b))).set _ 2=bv (oG _ p (y::(a++x::b)));rw[oG,RH (by unfold Rc.sz at e;omega),c];generalize oG (((p+y.sz+(bv a).length:Nat):Int)) (p+y.sz) (a++x::b)=D at*;have d:(bv (y::a)).length+2=(y.lits.length+((bv a).length+2))+3:=by unfold Rc.sz at e;omega
  rw[d,bv,bv,←f];simp only[List.set_cons_succ];rw[UJ _ _ (by omega),Ud]
structure ArI (A:Ar) (l:List Rc):Prop where
  row:A.row=bv l
  hd:∀k v,lk A.hd k=some v↔∃x∈bn 0 l,x.at'=k∧x.id=v
  nd:(A.hd.map (·.1)).Nodup
  id:∀x∈l,1<=x.id
section
variable {A : Ar} {l : List Rc}
theorem ArI.ids(h:ArI A l):∀x∈bn 0 l,1<=x.id:=λy hy=>by
 obtain⟨a,x,b,e,_,c⟩:=pM l 0 y hy;rw[c];exact h.id x (by rw[e];simp)
theorem ArI.isA(h:ArI A l)(k:Int):Go.AX.isA A k=true↔∃x∈bn 0 l,x.at'=k:=by
 unfold Go.AX.isA;rw[R0];constructor
 .intro hp;cases e:lk A.hd k with
  |none=>rw[e]at hp;simp at hp
  |some v=>
   obtain⟨x,hx,a,_⟩:=(h.hd k v).1 e;exact⟨x,hx,a⟩
 .rintro⟨x,hx,a⟩;rw[(h.hd k x.id).2 ⟨x,hx,a,rfl⟩];have:=h.ids x hx;simp;omega
theorem xL(a:List Rc)(x:Rc)(b:List Rc):let r:=bv (a++x::b);let p:=(bv a).length
 r.getD p 0=x.id∧r.getD (p+1) 0=x.lits.length∧r.getD (p+2) 0=x.side∧(r.drop (p+3)).take x.lits.length=x.lits∧p+3+x.lits.length<=r.length:=by
 dsimp only;rw[kg];have e:∀j,(bv a++bv (x::b)).getD ((bv a).length+j) 0=(bv (x::b)).getD j 0:=λj=>by
  simp only[RG];rw[R5 (by omega)];congr 2;omega
 refine⟨?_,?_,?_,?_,?_⟩
 .exact(e 0).trans rfl
 .exact(e 1).trans rfl
 .exact(e 2).trans rfl
 .rw[V9,List.drop_of_length_le (by omega),show(bv a).length+3 -(bv a).length=3 by omega];simp[bv]
 .simp[bv];omega
theorem ArI.rel(h:ArI A l):RelA A ⟨bn 0 l,A.row.length⟩where
 size:=rfl
 rows:=λy hy=>by
  obtain⟨a,x,b,e,_,c⟩:=pM l 0 y hy;obtain⟨d,f,k,g,i⟩:=xL a x b;rw[←e,←h.row]at d f k g i;rw[SF]at c;subst c;exact⟨(bv a).length,rfl,⟨i,f⟩,g,(h.isA _).2 ⟨_,hy,rfl⟩,d⟩
 is:=λq j=>(h.isA q).1 j
theorem ArI.new:ArI ⟨[],[]⟩ []:=⟨rfl,λk v=>by simp[lk,bn],by simp,by simp⟩
theorem ArI.put(h:ArI A l){id:Int}{c:List Int}(f:jw id c=0)(b:Bool):ArI (dx A id c b) (l++[⟨id,fo b,c⟩]):=by
 have oM:1<=id:=by
  unfold jw at f;split at f
  .omega
  .omega
 have hs:fo b≠2:=by unfold fo;split<;>omega
 unfold dx;rw[RI f];have g:bn 0 (l++[⟨id,fo b,c⟩])=bn 0 l++[⟨A.row.length,id,c⟩]:=by
  rw[kh,h.row,SF];show bn 0 l++(if fo b=2 then _ else _)=_;rw[RH hs];rfl
 refine⟨?_,λk v=>?_,?_,?_⟩
 .show A.row++_=_;rw[kg,h.row];simp[bv]
 .show lk (pt A.hd A.row.length id) k=some v↔_;rw[bK,g]
  by_cases q:(A.row.length:Int)=k
  .rw[RI q];constructor
   .intro e;cases e;exact⟨⟨A.row.length,id,c⟩,by simp,q,rfl⟩
   .rintro⟨x,hx,d,a⟩;rcases RS.1 hx with hx|hx
    .have:=(jF l 0 x hx).2;rw[h.row]at q;omega
    .simp at hx;subst hx;simp at a;rw[a]
  .rw[RH q,h.hd];constructor
   .rintro⟨x,hx,e⟩;exact⟨x,by simp[hx],e⟩
   .rintro⟨x,hx,d,a⟩;rcases RS.1 hx with hx|hx
    .exact⟨x,hx,d,a⟩
    .simp at hx;subst hx;exact absurd d q
 .exact j9 _ _ _ h.nd
 .intro x hx;rcases RS.1 hx with hx|hx
  .exact h.id x hx
  .simp at hx;subst hx;exact oM
theorem ArI.drop(h:ArI A l){k:Int}(hk:Go.AX.isA A k=true):ArI (P1 A k) (oG k 0 l):=by
 obtain⟨y,hy,c⟩:=(h.isA k).1 hk;obtain⟨a,x,b,e,hs,g⟩:=pM l 0 y hy;have d:k=(((bv a).length:Nat):Int):=by rw[←c,g];simp
 have i:Ni A k=0:=by
  unfold Ni;unfold Go.AX.isA at hk;rw[R0]at hk;rw[RH (by omega)]
 unfold P1;rw[RI i];refine⟨?_,λj v=>?_,?_,?_⟩
 .show A.row.set (k.toNat+2) 2=_;have:=Ah a x b 0;rw[SF,←d,←e]at this;rw[h.row,←this];congr 1;omega
 .show lk (dl A.hd k) j=some v↔_;rw[IS h.nd,Ag]
  by_cases q:j=k
  .rw[RI q];constructor
   .intro e;cases e
   .rintro⟨x,hx,c,_⟩;have:=(SD.1 hx).2;simp[c,q]at this
  .rw[RH q,h.hd];constructor
   .rintro⟨x,hx,c,f⟩;exact⟨x,SD.2 ⟨hx,by simp[c,q]⟩,c,f⟩
   .rintro⟨x,hx,e⟩;exact⟨x,(SD.1 hx).1,e⟩
 .exact Mn h.nd k
 .have:∀(l:List Rc)(p:Nat),(∀x∈l,1<=x.id)->∀x∈oG k p l,1<=x.id:=by
   intro l
   induction l with
   |nil=>intro p _ x hx;cases hx
   |cons z l m=>
    intro p hz x hx;rw[oG]at hx;rcases R9.1 hx with hx|hx
    .rw[hx];split<;>exact hz z (by simp)
    .exact m _ (λx hx=>hz x (RZ _ hx)) x hx
  exact this l 0 h.id
theorem ArI.at(h:ArI A l){y:Ro}(hy:y∈bn 0 l):aw A y.at'=y.lits∧i7 A y.at'=y.id:=by
 obtain⟨p,b,c,d,a,e⟩:=h.rel.rows y hy;rw[b];unfold aw i7;rw[RI a,RI a,SQ,c.num,SQ,d,e];exact⟨rfl,rfl⟩
end
end Go.AX