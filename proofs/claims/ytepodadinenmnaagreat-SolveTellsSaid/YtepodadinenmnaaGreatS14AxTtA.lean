/-
  Contracts: trim.copied, trim.Trim; and what follows.
-/
import Derived.Test.YtepodadinenmnaaGreatS14AxTxC
import Derived.Test.YtepodadinenmnaaGreatAxDl
import Derived.Test.YtepodadinenmnaaGreatAxOw
namespace Go.AX
open Go.Proofs
set_option linter.unusedSimpArgs false
def Ab(x:Stp):List PV:=[ab x.kind,ab x.id,.seq true 1 (ae x.lits),.seq true 1 (ae x.hints)]
@[simp] theorem Ac(k:Nat)(l:List Stp):bI k (l.map Ab):=by
 induction l with
 |nil=>trivial
 |cons x xs a=>exact⟨⟨trivial,trivial,aU k _,aU k _,trivial⟩,a⟩
@[simp] theorem O5(r:Nat->Nat->PV)(l:List Stp):jN r (l.map Ab)=l.map dX:=by
 rw[bP,TX];apply UW;intro x _;simp[Ab,dX]
theorem tZ(l:List Stp):Bp (l.map Ab):=by
 induction l with
 |nil=>trivial
 |cons x xs a=>exact⟨⟨trivial,trivial,by simp,by simp,trivial⟩,a⟩
theorem oU(l:List Int):(aM l).length=l.length:=by unfold aM;simp
theorem Mm(H:List (List SV))(b:Nat)(zs:List Int)(sp:List SV)(a:H[b]?=some (aM zs++sp))(n:Nat):uH (bA H (n+1) b 0) 1 zs.length=.seq false 1 (ae zs):=by
 have e:H.getD b []=aM zs++sp:=by rw[SS,a];rfl
 simp only[bA,uH,e,S7];rw[SX ⟨trivial,by rw[Ta,oU];omega⟩];congr 1;unfold aM;simp only[Tu,TX];rw[V7,UY (by simp),TX];rfl
theorem qK(k:Nat){sp:List SV}(h:cG k sp):∀l:List Int,cG k (aM l++sp)
 |[]=>h
 |_::l=>⟨trivial,qK k h l⟩
set_option maxRecDepth 16000 in
theorem Mn(v:Int)(L:List (List Int))(o:L.length<=1000000)(j:∀c∈L,c.length<=1000000):aj Tryz.prog 66 [.agg [ab v,.seq false 1 (L.map aq)],.lit (.slice none 0 0)] (λr=>r=.pv (.agg [ab v,.seq true 1 (L.map pA)])):=by
 refine iO [] [.cell 4 _] aD Tryz.func66 ?_;obtain⟨M,a⟩:∃M:Nat->List (List PV),∀i,M i=(L.take i).map pA:=⟨_,λ_=>rfl⟩;have d:M 0=[]:=by rw[a];rfl
 have e:M L.length=L.map pA:=by rw[a,Tw]
 have g:∀i (c:i<L.length),M (i+1)=M i++[pA L[i]]:=λi c=>by rw[a,a,TW,SR c,Tu];rfl
 have f:∀i,(M i).length<=L.length:=λi=>by rw[a,S7,S6];exact WX _ _
 simp;refine ax.intro (S:=λ(i:Nat)=>⟨[(2,.pv (.ptr 0 0)),(4,.pv (.ptr 1 0)),(5,.pv (.ptr 2 0)),(1,.pv (.lit (.slice none 0 0))),(14,.pv (.seq false 1 (L.map aq))),(15,.pv (ab L.length)),(16,.pv (ab i))],[[.pv (ab v),.pv (.seq false 1 (L.map aq))],[.pv (ab 0),.pv (.lit (.slice none 0 0))],[.pv (ab v),.own true 1 (M i)]]⟩) (λi=>i<=L.length) (λi=>L.length -i) 0 ?_ (Tf _) ?_
 .exact(ah.nilCell (b:=2) (k:=1) (xs:=[.pv (ab v),.pv (.lit (.slice none 0 0))]) 1 true (by simp) (by simp)).trans (ah.keep (by simp[d]) (by simp[d]))
 intro i hi
 by_cases c:i<L.length
 .have n:=dv i;have l:=g i c;have h:=iQ L[i] (j _ (S5 c));have m:=f i;simp[c,aq];refine bz.intro (by exact h) ?_;simp;exact⟨by omega,i+1,by(try dsimp only);omega,by(try dsimp only);omega,ah.keep (by simp[n]) (by simp[l,pA])⟩
 .have:i=L.length:=by omega
  subst this;simp;refine ax.intro (S:=λ(_:Unit)=>⟨[(4,.pv (.ptr 1 0)),(5,.pv (.ptr 2 0)),(28,.pv (.lit (.slice none 0 0))),(29,.pv (ab 0)),(30,.pv (ab 0))],[[.pv (ab v),.pv (.seq false 1 (L.map aq))],[.pv (ab 0),.pv (.lit (.slice none 0 0))],[.pv (ab v),.own true 1 (M L.length)]]⟩) (λ_=>True) (λ_=>0) () ?_ trivial ?_
  .exact ah.keep (by simp) rfl
  intro _ _;simp[e]
def Ad(cs:List (List Int)):Bool:=decide (cs.length<=200)&&cs.all λc=>decide (c.length<=50)
theorem Gj(v:Int)(cs:List (List Int)):aj Tryz.prog 39 [.agg [ab v,.seq false 1 (cs.map aq)]] (λr=>r=.pv (BL (Ad cs))):=by
 refine ap aD Tryz.func39 ?_
 by_cases c:(200:Int)<cs.length
 .have:Ad cs=false:=by unfold Ad;rw[UP (by omega),U1]
  rw[this];simp[c]
 have c':cs.length<=200:=by omega
 have f:Ad cs=cs.all λc=>decide (c.length<=50):=by unfold Ad;rw[Uv c',Vu]
 rw[f];simp[c];refine ax.intro (S:=λ(i:Nat)=>⟨[(1,.pv (.ptr 0 0)),(3,.pv (ab i))],[[.pv (ab v),.pv (.seq false 1 (cs.map aq))]]⟩) (λi=>i<=cs.length∧∀j (h:j<cs.length),j<i->cs[j].length<=50) (λi=>cs.length -i) 0 ?_ ⟨Tf _,λj _ h=>by omega⟩ ?_
 .exact ah.to (by simp) rfl (by simp) (by simp) (by simp)
 rintro i ⟨hi,hle⟩
 by_cases a:i<cs.length
 .have d:=dv i
  by_cases c5:(50:Int)<cs[i].length
  .have:(cs.all λc=>decide (c.length<=50))=false:=by
    rw[List.all_eq_false];exact⟨cs[i],S5 a,by simp;omega⟩
   rw[this];simp[a,aq,c5]
  .simp[a,aq,c5];refine⟨i+1,by(try dsimp only);omega,⟨by(try dsimp only);omega,λj hj g=>?_⟩,ah.to (by simp[d]) rfl (by simp) (by simp) (by simp)⟩
   by_cases e:j=i
   .subst e;omega
   .exact hle j hj (by omega)
 .have b:i=cs.length:=by omega
  subst b;have:(cs.all λc=>decide (c.length<=50))=true:=by
   rw[TE];intro x hx;obtain⟨j,hj,rfl⟩:=Tc hx;simpa using hle j hj hj
  rw[this];simp
theorem Mo(a b:Stp)(h1:a.kind=b.kind)(c:a.id=b.id)(d:a.lits=b.lits)(e:a.hints=b.hints):a=b:=by
 cases a;cases b;simp at*;exact⟨h1,c,d,e⟩
instance:DecidableEq Stp:=λa b=>decidable_of_iff (a.kind=b.kind∧a.id=b.id∧a.lits=b.lits∧a.hints=b.hints) ⟨λ⟨h1,h2,h3,h4⟩=>Mo a b h1 h2 h3 h4,λh=>by subst h;exact⟨rfl,rfl,rfl,rfl⟩⟩
theorem Jq{l l':List Int}(h:l.Perm l')(hs:l'.Pairwise (·<=·)):cD l=l':=by
 refine Xm (le:=(·<=·)) (λa b _ _ h1 d=>Int.le_antisymm h1 d) ?_ hs ?_
 .have:=V3 (le:=λx y:Int=>decide (x<=y)) (λa b c h1 d=>by simp at*;omega) (λa b=>by simp;omega) l;exact this.imp λh=>by simpa using h
 .unfold cD;exact(Va l _).trans h
theorem t6{α:Type}:∀{l:List (Int×α)}{k:Int}{y:α},(∀q∈l,q.1≠k)->pt l k y=l++[(k,y)]
 |[],_,_,_=>rfl
 |(j,x)::l,k,y,h=>by
  rw[pt,SU (h _ To),t6 λq a=>h q (Tl _ a)];rfl
abbrev rL{α:Type}(l:List (Int×α)):Prop:=l.Pairwise λp q=>p.1<q.1
theorem rL.lk{α:Type}:∀{l:List (Int×α)},rL l->∀{k:Int}{x:α},(k,x)∈l->lk l k=some x
 |(j,z)::l,h,k,x,a=>by
  replace h:=U6.1 h;rw[AX.lk];rcases Tx.1 a with a|a
  .cases a;rw[SX rfl]
  .have:=h.1 _ a;simp only at this;rw[SU (by omega)];exact rL.lk h.2 a
theorem xY{α:Type}:∀(l:List (Int×α))(k:Int),(dl l k).Sublist l
 |[],_=>Xn _
 |(j,x)::l,k=>by
  rw[dl];split
  .exact List.sublist_cons_self _ _
  .exact(xY l k).cons_cons _
theorem oa{α:Type}:∀(ids:List Int)(m:List (Int×α)),(ids.foldl dl m).Sublist m
 |[],_=>Xn _
 |id::ids,m=>(oa ids (dl m id)).trans (xY m id)
structure CkG (c:Ck):Prop where
  rs:rL c.m
  lo:∀q∈c.m,1<=q.1
  hi:∀q∈c.m,q.1<=c.last
  t:0<=c.last∧c.last<=20000000
theorem CkG.put{c:Ck}(h:CkG c){id:Int}{l:List Int}(h1:c.last<id)(d:id<=20000000):(qE c id l).m=c.m++[(id,l)]∧CkG (qE c id l):=by
 have e:pt c.m id l=c.m++[(id,l)]:=t6 λq a=>by have:=h.hi q a;omega
 have ht:=h.t;have b:(qE c id l).m=c.m++[(id,l)]:=e;refine⟨b,⟨?_,?_,?_,?_⟩⟩
 .rw[b,rL,VB];refine⟨h.rs,List.pairwise_singleton _ _,λq a p hp=>?_⟩;rw[TA]at hp;subst hp;have:=h.hi q a;simp only;omega
 .rw[b];intro q a;rcases Te.1 a with a|a
  .exact h.lo q a
  .rw[TA]at a;subst a;simp only;omega
 .rw[b];intro q a;show q.1<=id;rcases Te.1 a with a|a
  .have:=h.hi q a;omega
  .rw[TA]at a;subst a;exact Vn _
 .exact⟨by show 0<=id;omega,d⟩
theorem CkG.drop{c:Ck}(h:CkG c)(ids:List Int):CkG ⟨ids.foldl dl c.m,c.last,c.done⟩:=by
 have hs:=oa ids c.m;exact⟨h.rs.sublist hs,λq a=>h.lo q (hs.subset a),λq a=>h.hi q (hs.subset a),h.t⟩
theorem CkG.new(L:List (List Int))(c:L.length<=100000):∀i,i<=L.length->CkG (dM L i)∧(dM L i).last=i
 |0,_=>⟨⟨List.Pairwise.nil,λq a=>absurd a V6,λq a=>absurd a V6,⟨Vn _,by show(0:Int)<=20000000;omega⟩⟩,rfl⟩
 |i+1,hi=>by
  obtain⟨h1,b⟩:=CkG.new L c i (by omega);have hs:dM L (i+1)=xV (dM L i) L[i]:=bL xV _ L i (by omega);have d:aX ((dM L i).last+1)=((i+1:Nat):Int):=by rw[b,ao (by omega) (by omega)];omega
  rw[hs];unfold xV;rw[d];exact⟨(h1.put (by omega) (by omega)).2,rfl⟩
theorem Gk{s:Stp}(h:zV [s]=0):fQ s=true:=by
 rw[mS]at h;split at h
 .assumption
 .cases h
theorem CB{c:Ck}{s:Stp}(h:(dY c s).2=0):fQ s=true∧((s.kind=2∧dropB c s.hints=false∧dY c s=(⟨s.hints.foldl dl c.m,c.last,c.done⟩,0))∨
 (s.kind=1∧c.last<s.id∧eY s.lits=false∧jK c s.hints=true∧xU c s.lits s.hints=0∧dY c s=(qE c s.id s.lits,0))):=by
 by_cases hp:zV [s]=0
 rotate_left
 .unfold dY at h;rw[SX hp]at h;exact absurd h hp
 have g:=Gk hp;refine⟨g,?_⟩
 by_cases b:s.kind=2
 .have e:dY c s=(tO c s.hints,v8 c s.hints):=by unfold dY;rw[SU (by simp[hp]),SX b]
  rw[e]at h;have a:dropB c s.hints=false:=by
   cases a:dropB c s.hints
   .rfl
   .unfold v8 at h;rw[SX a]at h;cases h
  refine .inl ⟨b,a,?_⟩;rw[e];unfold tO v8 tN;rw[SU (by rw[a];simp),SU (by rw[a];simp),Tw]
 .have e:dY c s=Ji c s:=by unfold dY;rw[SU (by simp[hp]),SU b]
  rw[e]at h⊢;have h1:=(se g).1.resolve_right b;right;unfold Ji at h⊢
  by_cases f:s.id<=c.last
  .rw[SX f]at h;cases h
  rw[SU f]at h⊢
  by_cases d:eY s.lits=true
  .rw[SX d]at h;cases h
  rw[SU d]at h⊢
  by_cases a3:jK c s.hints=false
  .rw[SX a3]at h;cases h
  rw[SU a3]at h⊢
  by_cases a4:xU c s.lits s.hints≠0
  .rw[SX a4]at h;exact absurd h a4
  rw[SU a4];exact⟨h1,by omega,by simpa using d,by simpa using a3,by simpa using a4,rfl⟩
theorem Gl{c:Ck}{s:Stp}(h0:fQ s=true)(h1:s.kind=1)(e:c.last<s.id)(a:eY s.lits=false)(b:jK c s.hints=true)(d:xU c s.lits s.hints=0):dY c s=(qE c s.id s.lits,0):=by
 unfold dY;rw[SU (by rw[mS,SX h0];simp),SU (by omega)];unfold Ji;rw[SU (by omega),SU (by rw[a];simp),SU (by rw[b];simp),SU (by rw[d];simp)]
theorem CC{c:Ck}(b:CkG c){s:Stp}(h:(dY c s).2=0):CkG (dY c s).1∧c.last<=(dY c s).1.last:=by
 obtain⟨e,h|h⟩:=CB h
 .rw[h.2.2];exact⟨b.drop _,Vn _⟩
 .obtain⟨_,a,_,_,_,d⟩:=h;rw[d];have:=(se e).2.2;exact⟨(b.put a (by omega)).2,XR a⟩
theorem CD{hs:List Int}(h:∀x∈hs,0<=x):kb hs=(hs,[]):=by
 have:∀i,i<=hs.length->eJ hs i=(hs.take i,[]):=by
  intro i
  induction i with
  |zero=>intro _;rfl
  |succ i a=>
   intro hi;rw[gE hs (by omega),a (by omega)];have:=h hs[i] (S5 _);unfold qD;rw[SU (by omega),SX rfl,TW,SR (by omega)];rfl
 unfold kb;rw[this _ (SY _),Tw]
theorem Jr{h:Int}(h1:1<=h)(a:h<=20000000):Cw h=h:=by
 unfold Cw;rw[ao (by omega) (by omega),SU (by omega)]
/-! ### What is marked -/
def Su(m:List (Int×Int))(k:Int):Prop:=0<(lk m k).getD 0
instance (m:List (Int×Int)) (k:Int):Decidable (Su m k):=by unfold Su;infer_instance
def Nl:List Stp->Nat
 |[]=>0
 |s::ss=>Nl ss+s.hints.length
/-! ### The replay -/
def SG(L:List (List Int))(ss:List Stp)(x:Int):Prop:=Su (Oa L ss) x
instance (L:List (List Int)) (ss:List Stp) (x:Int):Decidable (SG L ss x):=by unfold SG;infer_instance
section
variable {v : Int} {L : List (List Int)} {ss : List Stp} (hn : 1 + Nl ss <= 1000000000)
include hn
end
theorem mV{α:Type}:∀(l:List (Int×α))(k:Int)(y:α)(x:Int),x∈(pt l k y).map (·.1)↔x=k∨x∈l.map (·.1)
 |[],k,y,x=>by simp[pt]
 |(j,z)::l,k,y,x=>by
  rw[pt]
  by_cases c:j=k
  .rw[SX c];subst c;simp
  .rw[SU c,Tn,Tx,mV l k y x,Tn,Tx];constructor
   .rintro(h|h|h)
    .exact .inr (.inl h)
    .exact .inl h
    .exact .inr (.inr h)
   .rintro(h|h|h)
    .exact .inr (.inl h)
    .exact .inl h
    .exact .inr (.inr h)
theorem kg{α:Type}:∀(l:List (Int×α))(k:Int)(y:α),(l.map (·.1)).Nodup->((pt l k y).map (·.1)).Nodup
 |[],k,y,_=>by simp[pt]
 |(j,z)::l,k,y,h=>by
  rw[Tn,UA]at h;rw[pt]
  by_cases c:j=k
  .rw[SX c,Tn,UA];subst c;exact h
  .rw[SU c,Tn,UA,mV];exact⟨λa=>a.elim c h.1,kg l k y h.2⟩
theorem wn{l:List Int}{x:Int}:x∈cD l↔x∈l:=by
 unfold cD;exact(Va l _).mem_iff
end Go.AX