/-
  Contracts: cnf.With.
  Contracts: replevinlaw10.Few, replevinlaw43.few, three; replevinref10.Same.
  Contracts: replevinlaw43.awake.
  Plain facts: checkers, and what is left of a plain proof.
  Plain facts: what is left of a proof is accepted, and is left as it is.
  Plain facts: what is needed, and the core.
-/
import Derived.Test.YtepodadinenmnaaGreatS14AxWaD
namespace Go.AX
open Go.Proofs
set_option linter.unusedSimpArgs false
set_option maxRecDepth 16000 in
theorem Lh(v:Int)(L:List (List Int))(o:L.length<=1000000)(j:∀c∈L,c.length<=1000000):am Tryz.prog 66 [.agg [ae v,.seq false 1 (L.map an)],.lit (.slice none 0 0)] (λr=>r=.pv (.agg [ae v,.seq true 1 (L.map o8)])):=by
 refine mu [] [.cell 4 _] aE Tryz.func66 ?_;obtain⟨M,a⟩:∃M:Nat->List (List PV),∀i,M i=(L.take i).map o8:=⟨_,λ_=>rfl⟩;have d:M 0=[]:=by rw[a];rfl
 have e:M L.length=L.map o8:=by rw[a,R8]
 have g:∀i (c:i<L.length),M (i+1)=M i++[o8 L[i]]:=λi c=>by rw[a,a,SA,RF c,Sb];rfl
 have f:∀i,(M i).length<=L.length:=λi=>by rw[a,RR,RN];exact VD _ _
 simp;refine av.intro (S:=λ(i:Nat)=>⟨[(2,.pv (.ptr 0 0)),(4,.pv (.ptr 1 0)),(5,.pv (.ptr 2 0)),(1,.pv (.lit (.slice none 0 0))),(14,.pv (.seq false 1 (L.map an))),(15,.pv (ae L.length)),(16,.pv (ae i))],[[.pv (ae v),.pv (.seq false 1 (L.map an))],[.pv (ae 0),.pv (.lit (.slice none 0 0))],[.pv (ae v),.own true 1 (M i)]]⟩) (λi=>i<=L.length) (λi=>L.length -i) 0 ?_ (RW _) ?_
 .exact(af.nilCell (b:=2) (k:=1) (xs:=[.pv (ae v),.pv (.lit (.slice none 0 0))]) 1 true (by simp) (by simp)).trans (af.keep (by simp[d]) (by simp[d]))
 intro i hi
 by_cases c:i<L.length
 .have n:=dq i;have l:=g i c;have h:=iI L[i] (j _ (RK c));have m:=f i;simp[c,an];refine br.intro (by exact h) ?_;simp;exact⟨by omega,i+1,by(try dsimp only);omega,by(try dsimp only);omega,af.keep (by simp[n]) (by simp[l,o8])⟩
 .have:i=L.length:=by omega
  subst this;simp;refine av.intro (S:=λ(_:Unit)=>⟨[(4,.pv (.ptr 1 0)),(5,.pv (.ptr 2 0)),(28,.pv (.lit (.slice none 0 0))),(29,.pv (ae 0)),(30,.pv (ae 0))],[[.pv (ae v),.pv (.seq false 1 (L.map an))],[.pv (ae 0),.pv (.lit (.slice none 0 0))],[.pv (ae v),.own true 1 (M L.length)]]⟩) (λ_=>True) (λ_=>0) () ?_ trivial ?_
  .exact af.keep (by simp) rfl
  intro _ _;simp[e]
def zE(cs:List (List Int)):Bool:=decide (cs.length<=200)&&cs.all λc=>decide (c.length<=50)
theorem Fz(v:Int)(cs:List (List Int)):am Tryz.prog 39 [.agg [ae v,.seq false 1 (cs.map an)]] (λr=>r=.pv (BL (zE cs))):=by
 refine aq aE Tryz.func39 ?_
 by_cases c:(200:Int)<cs.length
 .have:zE cs=false:=by unfold zE;rw[TB (by omega),TC]
  rw[this];simp[c]
 have c':cs.length<=200:=by omega
 have f:zE cs=cs.all λc=>decide (c.length<=50):=by unfold zE;rw[Tk c',Ux]
 rw[f];simp[c];refine av.intro (S:=λ(i:Nat)=>⟨[(1,.pv (.ptr 0 0)),(3,.pv (ae i))],[[.pv (ae v),.pv (.seq false 1 (cs.map an))]]⟩) (λi=>i<=cs.length∧∀j (h:j<cs.length),j<i->cs[j].length<=50) (λi=>cs.length -i) 0 ?_ ⟨RW _,λj _ h=>by omega⟩ ?_
 .exact af.to (by simp) rfl (by simp) (by simp) (by simp)
 rintro i ⟨hi,hle⟩
 by_cases a:i<cs.length
 .have d:=dq i
  by_cases c5:(50:Int)<cs[i].length
  .have:(cs.all λc=>decide (c.length<=50))=false:=by
    rw[List.all_eq_false];exact⟨cs[i],RK a,by simp;omega⟩
   rw[this];simp[a,an,c5]
  .simp[a,an,c5];refine⟨i+1,by(try dsimp only);omega,⟨by(try dsimp only);omega,λj hj g=>?_⟩,af.to (by simp[d]) rfl (by simp) (by simp) (by simp)⟩
   by_cases e:j=i
   .subst e;omega
   .exact hle j hj (by omega)
 .have b:i=cs.length:=by omega
  subst b;have:(cs.all λc=>decide (c.length<=50))=true:=by
   rw[Se];intro x hx;obtain⟨j,hj,rfl⟩:=RU hx;simpa using hle j hj hj
  rw[this];simp
theorem Li(a b:Stp)(h1:a.kind=b.kind)(c:a.id=b.id)(d:a.lits=b.lits)(e:a.hints=b.hints):a=b:=by
 cases a;cases b;simp at*;exact⟨h1,c,d,e⟩
instance:DecidableEq Stp:=λa b=>decidable_of_iff (a.kind=b.kind∧a.id=b.id∧a.lits=b.lits∧a.hints=b.hints) ⟨λ⟨h1,h2,h3,h4⟩=>Li a b h1 h2 h3 h4,λh=>by subst h;exact⟨rfl,rfl,rfl,rfl⟩⟩
theorem Iz{l l':List Int}(h:l.Perm l')(hs:l'.Pairwise (·<=·)):cL l=l':=by
 refine V4 (le:=(·<=·)) (λa b _ _ h1 d=>Int.le_antisymm h1 d) ?_ hs ?_
 .have:=UR (le:=λx y:Int=>decide (x<=y)) (λa b c h1 d=>by simp at*;omega) (λa b=>by simp;omega) l;exact this.imp λh=>by simpa using h
 .unfold cL;exact(UB l _).trans h
theorem tz{α:Type}:∀{l:List (Int×α)}{k:Int}{y:α},(∀q∈l,q.1≠k)->pt l k y=l++[(k,y)]
 |[],_,_,_=>rfl
 |(j,x)::l,k,y,h=>by
  rw[pt,RH (h _ R2),tz λq a=>h q (RZ _ a)];rfl
abbrev xv{α:Type}(l:List (Int×α)):Prop:=l.Pairwise λp q=>p.1<q.1
theorem xv.lk{α:Type}:∀{l:List (Int×α)},xv l->∀{k:Int}{x:α},(k,x)∈l->lk l k=some x
 |(j,z)::l,h,k,x,a=>by
  replace h:=Ue.1 h;rw[AX.lk];rcases R9.1 a with a|a
  .cases a;rw[RI rfl]
  .have:=h.1 _ a;simp only at this;rw[RH (by omega)];exact xv.lk h.2 a
theorem xw{α:Type}:∀(l:List (Int×α))(k:Int),(dl l k).Sublist l
 |[],_=>V5 _
 |(j,x)::l,k=>by
  rw[dl];split
  .exact List.sublist_cons_self _ _
  .exact(xw l k).cons_cons _
theorem nL{α:Type}:∀(ids:List Int)(m:List (Int×α)),(ids.foldl dl m).Sublist m
 |[],_=>V5 _
 |id::ids,m=>(nL ids (dl m id)).trans (xw m id)
structure CkG (c:Ck):Prop where
  rs:xv c.m
  lo:∀q∈c.m,1<=q.1
  hi:∀q∈c.m,q.1<=c.last
  t:0<=c.last∧c.last<=20000000
theorem CkG.put{c:Ck}(h:CkG c){id:Int}{l:List Int}(h1:c.last<id)(d:id<=20000000):(ql c id l).m=c.m++[(id,l)]∧CkG (ql c id l):=by
 have e:pt c.m id l=c.m++[(id,l)]:=tz λq a=>by have:=h.hi q a;omega
 have ht:=h.t;have b:(ql c id l).m=c.m++[(id,l)]:=e;refine⟨b,⟨?_,?_,?_,?_⟩⟩
 .rw[b,xv,Uv];refine⟨h.rs,List.pairwise_singleton _ _,λq a p hp=>?_⟩;rw[Sp]at hp;subst hp;have:=h.hi q a;simp only;omega
 .rw[b];intro q a;rcases RS.1 a with a|a
  .exact h.lo q a
  .rw[Sp]at a;subst a;simp only;omega
 .rw[b];intro q a;show q.1<=id;rcases RS.1 a with a|a
  .have:=h.hi q a;omega
  .rw[Sp]at a;subst a;exact T8 _
 .exact⟨by show 0<=id;omega,d⟩
theorem CkG.drop{c:Ck}(h:CkG c)(ids:List Int):CkG ⟨ids.foldl dl c.m,c.last,c.done⟩:=by
 have hs:=nL ids c.m;exact⟨h.rs.sublist hs,λq a=>h.lo q (hs.subset a),λq a=>h.hi q (hs.subset a),h.t⟩
theorem CkG.new(L:List (List Int))(c:L.length<=100000):∀i,i<=L.length->CkG (d8 L i)∧(d8 L i).last=i
 |0,_=>⟨⟨List.Pairwise.nil,λq a=>absurd a VF,λq a=>absurd a VF,⟨T8 _,by show(0:Int)<=20000000;omega⟩⟩,rfl⟩
 |i+1,hi=>by
  obtain⟨h1,b⟩:=CkG.new L c i (by omega);have hs:d8 L (i+1)=xt (d8 L i) L[i]:=bf xt _ L i (by omega);have d:aR ((d8 L i).last+1)=((i+1:Nat):Int):=by rw[b,ap (by omega) (by omega)];omega
  rw[hs];unfold xt;rw[d];exact⟨(h1.put (by omega) (by omega)).2,rfl⟩
theorem FA{s:Stp}(h:zr [s]=0):iR s=true:=by
 rw[mG]at h;split at h
 .assumption
 .cases h
theorem Ca{c:Ck}{s:Stp}(h:(eY c s).2=0):iR s=true∧((s.kind=2∧dropB c s.hints=false∧eY c s=(⟨s.hints.foldl dl c.m,c.last,c.done⟩,0))∨
 (s.kind=1∧c.last<s.id∧fl s.lits=false∧jJ c s.hints=true∧xq c s.lits s.hints=0∧eY c s=(ql c s.id s.lits,0))):=by
 by_cases hp:zr [s]=0
 rotate_left
 .unfold eY at h;rw[RI hp]at h;exact absurd h hp
 have g:=FA hp;refine⟨g,?_⟩
 by_cases b:s.kind=2
 .have e:eY c s=(vz c s.hints,zu c s.hints):=by unfold eY;rw[RH (by simp[hp]),RI b]
  rw[e]at h;have a:dropB c s.hints=false:=by
   cases a:dropB c s.hints
   .rfl
   .unfold zu at h;rw[RI a]at h;cases h
  refine .inl ⟨b,a,?_⟩;rw[e];unfold vz zu xn;rw[RH (by rw[a];simp),RH (by rw[a];simp),R8]
 .have e:eY c s=Fy c s:=by unfold eY;rw[RH (by simp[hp]),RH b]
  rw[e]at h⊢;have h1:=(rM g).1.resolve_right b;right;unfold Fy at h⊢
  by_cases f:s.id<=c.last
  .rw[RI f]at h;cases h
  rw[RH f]at h⊢
  by_cases d:fl s.lits=true
  .rw[RI d]at h;cases h
  rw[RH d]at h⊢
  by_cases a3:jJ c s.hints=false
  .rw[RI a3]at h;cases h
  rw[RH a3]at h⊢
  by_cases a4:xq c s.lits s.hints≠0
  .rw[RI a4]at h;exact absurd h a4
  rw[RH a4];exact⟨h1,by omega,by simpa using d,by simpa using a3,by simpa using a4,rfl⟩
theorem FB{c:Ck}{s:Stp}(h0:iR s=true)(h1:s.kind=1)(e:c.last<s.id)(a:fl s.lits=false)(b:jJ c s.hints=true)(d:xq c s.lits s.hints=0):eY c s=(ql c s.id s.lits,0):=by
 unfold eY;rw[RH (by rw[mG,RI h0];simp),RH (by omega)];unfold Fy;rw[RH (by omega),RH (by rw[a];simp),RH (by rw[b];simp),RH (by rw[d];simp)]
theorem Cb{c:Ck}(b:CkG c){s:Stp}(h:(eY c s).2=0):CkG (eY c s).1∧c.last<=(eY c s).1.last:=by
 obtain⟨e,h|h⟩:=Ca h
 .rw[h.2.2];exact⟨b.drop _,T8 _⟩
 .obtain⟨_,a,_,_,_,d⟩:=h;rw[d];have:=(rM e).2.2;exact⟨(b.put a (by omega)).2,Wv a⟩
theorem Cc{hs:List Int}(h:∀x∈hs,0<=x):j8 hs=(hs,[]):=by
 have:∀i,i<=hs.length->eW hs i=(hs.take i,[]):=by
  intro i
  induction i with
  |zero=>intro _;rfl
  |succ i a=>
   intro hi;rw[gC hs (by omega),a (by omega)];have:=h hs[i] (RK _);unfold qk;rw[RH (by omega),RI rfl,SA,RF (by omega)];rfl
 unfold j8;rw[this _ (RJ _),R8]
theorem IA{h:Int}(h1:1<=h)(a:h<=20000000):B0 h=h:=by
 unfold B0;rw[ap (by omega) (by omega),RH (by omega)]
/-! ### What is marked -/
def Rn(m:List (Int×Int))(k:Int):Prop:=0<(lk m k).getD 0
instance (m:List (Int×Int)) (k:Int):Decidable (Rn m k):=by unfold Rn;infer_instance
def Ml:List Stp->Nat
 |[]=>0
 |s::ss=>Ml ss+s.hints.length
/-! ### The replay -/
def Rw(L:List (List Int))(ss:List Stp)(x:Int):Prop:=Rn (Nc L ss) x
instance (L:List (List Int)) (ss:List Stp) (x:Int):Decidable (Rw L ss x):=by unfold Rw;infer_instance
section
variable {v : Int} {L : List (List Int)} {ss : List Stp} (hn : 1 + Ml ss <= 1000000000)
include hn
end
theorem mJ{α:Type}:∀(l:List (Int×α))(k:Int)(y:α)(x:Int),x∈(pt l k y).map (·.1)↔x=k∨x∈l.map (·.1)
 |[],k,y,x=>by simp[pt]
 |(j,z)::l,k,y,x=>by
  rw[pt]
  by_cases c:j=k
  .rw[RI c];subst c;simp
  .rw[RH c,R4,R9,mJ l k y x,R4,R9];constructor
   .rintro(h|h|h)
    .exact .inr (.inl h)
    .exact .inl h
    .exact .inr (.inr h)
   .rintro(h|h|h)
    .exact .inr (.inl h)
    .exact .inl h
    .exact .inr (.inr h)
theorem j9{α:Type}:∀(l:List (Int×α))(k:Int)(y:α),(l.map (·.1)).Nodup->((pt l k y).map (·.1)).Nodup
 |[],k,y,_=>by simp[pt]
 |(j,z)::l,k,y,h=>by
  rw[R4,Tg]at h;rw[pt]
  by_cases c:j=k
  .rw[RI c,R4,Tg];subst c;exact h
  .rw[RH c,R4,Tg,mJ];exact⟨λa=>a.elim c h.1,j9 l k y h.2⟩
theorem vG{l:List Int}{x:Int}:x∈cL l↔x∈l:=by
 unfold cL;exact(UB l _).mem_iff
end Go.AX