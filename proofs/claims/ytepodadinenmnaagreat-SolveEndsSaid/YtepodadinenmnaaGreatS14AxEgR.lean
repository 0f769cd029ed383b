/-
  Arenas whose clauses may be learnt, and dropped, told plainly (plain law).
-/
import Derived.Test.YtepodadinenmnaaGreatS14AxEgD
namespace Go.AX
open Go.Proofs
set_option linter.unusedSimpArgs false
structure Rc where
  id:Int
  side:Int
  lits:List Int
def Rc.sz(x:Rc):Nat:=3+x.lits.length
def aZ:List Rc->List Int
 |[]=>[]
 |x::l=>x.id::x.lits.length::x.side::(x.lits++aZ l)
def bi:Nat->List Rc->List Ro
 |_,[]=>[]
 |p,x::l=>if x.side=2 then bi (p+x.sz) l else⟨p,x.id,x.lits⟩::bi (p+x.sz) l
def nh(k:Int):Nat->List Rc->List Rc
 |_,[]=>[]
 |p,x::l=>(if(p:Int)=k then⟨x.id,2,x.lits⟩else x)::nh k (p+x.sz) l
theorem jf:∀(l l':List Rc),aZ (l++l')=aZ l++aZ l'
 |[],_=>rfl
 |x::l,l'=>by show _::_::_::(x.lits++aZ (l++l'))=_;rw[jf l l'];simp[aZ]
theorem gj:∀(l l':List Rc)(p:Nat),bi p (l++l')=bi p l++bi (p+(aZ l).length) l'
 |[],_,_=>rfl
 |x::l,l',p=>by
  have e:p+x.sz+(aZ l).length=p+(aZ (x::l)).length:=by simp[aZ,Rc.sz];omega
  show(if x.side=2 then bi (p+x.sz) (l++l')else _::bi (p+x.sz) (l++l'))=(if x.side=2 then bi (p+x.sz) l else _::bi (p+x.sz) l)++_;rw[gj l l',e];split<;>rfl
theorem nY:∀(l:List Rc)(p:Nat)(y:Ro),y∈bi p l->∃a x b,l=a++x::b∧x.side≠2∧y=⟨((p+(aZ a).length:Nat):Int),x.id,x.lits⟩
 |[],_,_,h=>by cases h
 |x::l,p,y,h=>by
  have key:y∈bi (p+x.sz) l->∃a d b,x::l=a++d::b∧d.side≠2∧y=⟨((p+(aZ a).length:Nat):Int),d.id,d.lits⟩:=λh=>by
   obtain⟨a,d,b,e,hs,f⟩:=nY l _ y h;refine⟨x::a,d,b,by rw[e];rfl,hs,?_⟩;rw[f];have:p+x.sz+(aZ a).length=p+(aZ (x::a)).length:=by simp[aZ,Rc.sz];omega
   rw[this]
  rw[bi]at h
  by_cases c:x.side=2
  .rw[N9 c]at h;exact key h
  .rw[N8 c]at h;rcases OB.1 h with h|h
   .exact⟨[],x,l,rfl,c,h⟩
   .exact key h
theorem iG:∀(l:List Rc)(p:Nat)(y:Ro),y∈bi p l->(p:Int)<=y.at'∧y.at'+3+y.lits.length<=p+(aZ l).length:=λl p y h=>by
 obtain⟨a,x,b,e,_,c⟩:=nY l p y h;rw[e,c,jf];simp[aZ];omega
theorem AZ:∀(l:List Rc)(p:Nat)(k:Int),k<p->nh k p l=l
 |[],_,_,_=>rfl
 |x::l,p,k,h=>by rw[nh,N8 (by omega),AZ l _ k (by omega)]
theorem xb:∀(l:List Rc)(p:Nat)(k:Int),bi p (nh k p l)=(bi p l).filter λy=>decide (y.at'≠k)
 |[],_,_=>rfl
 |x::l,p,k=>by
  have a:=xb l (p+x.sz) k
  by_cases c:(p:Int)=k
  .have hn:(bi (p+x.sz) l).filter (λy=>decide (y.at'≠k))=bi (p+x.sz) l:=by
    rw[Qf];intro y hy;have:=(iG l _ y hy).1;unfold Rc.sz at this;simp;omega
   rw[nh,N9 c,bi,bi,N9 rfl];have e:(⟨x.id,2,x.lits⟩:Rc).sz=x.sz:=rfl;rw[e,a,hn];split
   .exact hn.symm
   .rw[O5,N8 (by simp[c]),hn]
  .rw[nh,N8 c,bi,bi,a];split
   .rfl
   .rw[O5,N9 (by simp[c])]
theorem xc:∀(a:List Rc)(x:Rc)(b:List Rc)(p:Nat),(aZ (a++x::b)).set ((aZ a).length+2) 2=aZ (nh ((p+(aZ a).length:Nat):Int) p (a++x::b))
 |[],x,b,p=>by
  show _=aZ (nh _ p (x::b));rw[nh,N9 (by simp[aZ]),AZ b _ _ (by simp[aZ,Rc.sz];omega)];simp[aZ]
 |y::a,x,b,p=>by
  have f:=xc a x b (p+y.sz);have e:(aZ (y::a)).length=y.sz+(aZ a).length:=by simp[aZ,Rc.sz];omega
  have c:p+(aZ (y::a)).length=p+y.sz+(aZ a).length:=by omega
  show(aZ (y::(a++x::b))).set _ 2=aZ (nh _ p (y::(a++x::b)));rw[nh,N8 (by unfold Rc.sz at e;omega),c];generalize nh (((p+y.sz+(aZ a).length:Nat):Int)) (p+y.sz) (a++x::b)=D at*;have d:(aZ (y::a)).length+2=(y.lits.length+((aZ a).length+2))+3:=by unfold Rc.sz at e;omega
  rw[d,aZ,aZ,←f];simp only[List.set_cons_succ];rw[QL _ _ (by omega),Qm]
structure ArI (A:Ar) (l:List Rc):Prop where
  row:A.row=aZ l
  hd:∀k v,lk A.hd k=some v↔∃x∈bi 0 l,x.at'=k∧x.id=v
  nd:(A.hd.map (·.1)).Nodup
  id:∀x∈l,1<=x.id
section
variable {A : Ar} {l : List Rc}
theorem ArI.ids(h:ArI A l):∀x∈bi 0 l,1<=x.id:=λy hy=>by
 obtain⟨a,x,b,e,_,c⟩:=nY l 0 y hy;rw[c];exact h.id x (by rw[e];simp)
theorem ArI.isA(h:ArI A l)(k:Int):Go.AX.isA A k=true↔∃x∈bi 0 l,x.at'=k:=by
 unfold Go.AX.isA;rw[Ov];constructor
 .intro hp;cases e:lk A.hd k with
  |none=>rw[e]at hp;simp at hp
  |some v=>
   obtain⟨x,hx,a,_⟩:=(h.hd k v).1 e;exact⟨x,hx,a⟩
 .rintro⟨x,hx,a⟩;rw[(h.hd k x.id).2 ⟨x,hx,a,rfl⟩];have:=h.ids x hx;simp;omega
theorem uY(a:List Rc)(x:Rc)(b:List Rc):let r:=aZ (a++x::b);let p:=(aZ a).length
 r.getD p 0=x.id∧r.getD (p+1) 0=x.lits.length∧r.getD (p+2) 0=x.side∧(r.drop (p+3)).take x.lits.length=x.lits∧p+3+x.lits.length<=r.length:=by
 dsimp only;rw[jf];have e:∀j,(aZ a++aZ (x::b)).getD ((aZ a).length+j) 0=(aZ (x::b)).getD j 0:=λj=>by
  simp only[N7];rw[Ot (by omega)];congr 2;omega
 refine⟨?_,?_,?_,?_,?_⟩
 .exact(e 0).trans rfl
 .exact(e 1).trans rfl
 .exact(e 2).trans rfl
 .rw[Ss,List.drop_of_length_le (by omega),show(aZ a).length+3 -(aZ a).length=3 by omega];simp[aZ]
 .simp[aZ];omega
theorem ArI.rel(h:ArI A l):RelA A ⟨bi 0 l,A.row.length⟩where
 size:=rfl
 rows:=λy hy=>by
  obtain⟨a,x,b,e,_,c⟩:=nY l 0 y hy;obtain⟨d,f,k,g,i⟩:=uY a x b;rw[←e,←h.row]at d f k g i;rw[O3]at c;subst c;exact⟨(aZ a).length,rfl,⟨i,f⟩,g,(h.isA _).2 ⟨_,hy,rfl⟩,d⟩
 is:=λq j=>(h.isA q).1 j
theorem ArI.new:ArI ⟨[],[]⟩ []:=⟨rfl,λk v=>by simp[lk,bi],by simp,by simp⟩
theorem ArI.put(h:ArI A l){id:Int}{c:List Int}(f:iC id c=0)(b:Bool):ArI (cU A id c b) (l++[⟨id,eb b,c⟩]):=by
 have qj:1<=id:=by
  unfold iC at f;split at f
  .omega
  .omega
 have hs:eb b≠2:=by unfold eb;split<;>omega
 unfold cU;rw[N9 f];have g:bi 0 (l++[⟨id,eb b,c⟩])=bi 0 l++[⟨A.row.length,id,c⟩]:=by
  rw[gj,h.row,O3];show bi 0 l++(if eb b=2 then _ else _)=_;rw[N8 hs];rfl
 refine⟨?_,λk v=>?_,?_,?_⟩
 .show A.row++_=_;rw[jf,h.row];simp[aZ]
 .show lk (pt A.hd A.row.length id) k=some v↔_;rw[bD,g]
  by_cases q:(A.row.length:Int)=k
  .rw[N9 q];constructor
   .intro e;cases e;exact⟨⟨A.row.length,id,c⟩,by simp,q,rfl⟩
   .rintro⟨x,hx,d,a⟩;rcases Om.1 hx with hx|hx
    .have:=(iG l 0 x hx).2;rw[h.row]at q;omega
    .simp at hx;subst hx;simp at a;rw[a]
  .rw[N8 q,h.hd];constructor
   .rintro⟨x,hx,e⟩;exact⟨x,by simp[hx],e⟩
   .rintro⟨x,hx,d,a⟩;rcases Om.1 hx with hx|hx
    .exact⟨x,hx,d,a⟩
    .simp at hx;subst hx;exact absurd d q
 .exact ja _ _ _ h.nd
 .intro x hx;rcases Om.1 hx with hx|hx
  .exact h.id x hx
  .simp at hx;subst hx;exact qj
theorem ArI.drop(h:ArI A l){k:Int}(hk:Go.AX.isA A k=true):ArI (Mg A k) (nh k 0 l):=by
 obtain⟨y,hy,c⟩:=(h.isA k).1 hk;obtain⟨a,x,b,e,hs,g⟩:=nY l 0 y hy;have d:k=(((aZ a).length:Nat):Int):=by rw[←c,g];simp
 have i:Ji A k=0:=by
  unfold Ji;unfold Go.AX.isA at hk;rw[Ov]at hk;rw[N8 (by omega)]
 unfold Mg;rw[N9 i];refine⟨?_,λj v=>?_,?_,?_⟩
 .show A.row.set (k.toNat+2) 2=_;have:=xc a x b 0;rw[O3,←d,←e]at this;rw[h.row,←this];congr 1;omega
 .show lk (dl A.hd k) j=some v↔_;rw[EP h.nd,xb]
  by_cases q:j=k
  .rw[N9 q];constructor
   .intro e;cases e
   .rintro⟨x,hx,c,_⟩;have:=(OW.1 hx).2;simp[c,q]at this
  .rw[N8 q,h.hd];constructor
   .rintro⟨x,hx,c,f⟩;exact⟨x,OW.2 ⟨hx,by simp[c,q]⟩,c,f⟩
   .rintro⟨x,hx,e⟩;exact⟨x,(OW.1 hx).1,e⟩
 .exact In h.nd k
 .have:∀(l:List Rc)(p:Nat),(∀x∈l,1<=x.id)->∀x∈nh k p l,1<=x.id:=by
   intro l
   induction l with
   |nil=>intro p _ x hx;cases hx
   |cons z l m=>
    intro p hz x hx;rw[nh]at hx;rcases OB.1 hx with hx|hx
    .rw[hx];split<;>exact hz z (by simp)
    .exact m _ (λx hx=>hz x (Ou _ hx)) x hx
  exact this l 0 h.id
theorem ArI.at(h:ArI A l){y:Ro}(hy:y∈bi 0 l):aq A y.at'=y.lits∧lY A y.at'=y.id:=by
 obtain⟨p,b,c,d,a,e⟩:=h.rel.rows y hy;rw[b];unfold aq lY;rw[N9 a,N9 a,Pe,c.num,Pe,d,e];exact⟨rfl,rfl⟩
end
end Go.AX