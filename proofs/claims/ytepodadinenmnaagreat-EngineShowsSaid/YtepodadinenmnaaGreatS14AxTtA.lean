/-
  Contracts: cnf.With.
  Contracts: replevinlaw10.Few, replevinlaw43.few, three; replevinref10.Same.
  Plain facts: checkers, and what is left of a plain proof.
  Plain facts: what is left of a proof is accepted, and is left as it is.
  Plain facts: what is needed, and the core.
-/
import Derived.Test.YtepodadinenmnaaGreatS14AxWaD
namespace Go.AX
open Go.Proofs
set_option linter.unusedSimpArgs false
set_option maxRecDepth 16000 in
theorem J5(v:Int)(L:List (List Int))(o:L.length<=1000000)(j:∀c∈L,c.length<=1000000):am Tryz.prog 66 [.agg [af v,.seq false 1 (L.map az)],.lit (.slice none 0 0)] (λr=>r=.pv (.agg [af v,.seq true 1 (L.map oE)])):=by
 refine nF [] [.cell 4 _] aD Tryz.func66 ?_;obtain⟨M,a⟩:∃M:Nat->List (List PV),∀i,M i=(L.take i).map oE:=⟨_,λ_=>rfl⟩;have d:M 0=[]:=by rw[a];rfl
 have e:M L.length=L.map oE:=by rw[a,QO]
 have g:∀i (c:i<L.length),M (i+1)=M i++[oE L[i]]:=λi c=>by rw[a,a,Rl,P8 c,QT];rfl
 have f:∀i,(M i).length<=L.length:=λi=>by rw[a,Ql,Qg];exact Ua _ _
 simp;refine aH.intro (S:=λ(i:Nat)=>⟨[(2,.pv (.ptr 0 0)),(4,.pv (.ptr 1 0)),(5,.pv (.ptr 2 0)),(1,.pv (.lit (.slice none 0 0))),(14,.pv (.seq false 1 (L.map az))),(15,.pv (af L.length)),(16,.pv (af i))],[[.pv (af v),.pv (.seq false 1 (L.map az))],[.pv (af 0),.pv (.lit (.slice none 0 0))],[.pv (af v),.own true 1 (M i)]]⟩) (λi=>i<=L.length) (λi=>L.length -i) 0 ?_ (Qq _) ?_
 .exact(ai.nilCell (b:=2) (k:=1) (xs:=[.pv (af v),.pv (.lit (.slice none 0 0))]) 1 true (by simp) (by simp)).trans (ai.keep (by simp[d]) (by simp[d]))
 intro i hi
 by_cases c:i<L.length
 .have n:=eq i;have l:=g i c;have h:=ez L[i] (j _ (Qe c));have m:=f i;simp[c,az];refine br.intro (by exact h) ?_;simp;exact⟨by omega,i+1,by(try dsimp only);omega,by(try dsimp only);omega,ai.keep (by simp[n]) (by simp[l,oE])⟩
 .have:i=L.length:=by omega
  subst this;simp;refine aH.intro (S:=λ(_:Unit)=>⟨[(4,.pv (.ptr 1 0)),(5,.pv (.ptr 2 0)),(28,.pv (.lit (.slice none 0 0))),(29,.pv (af 0)),(30,.pv (af 0))],[[.pv (af v),.pv (.seq false 1 (L.map az))],[.pv (af 0),.pv (.lit (.slice none 0 0))],[.pv (af v),.own true 1 (M L.length)]]⟩) (λ_=>True) (λ_=>0) () ?_ trivial ?_
  .exact ai.keep (by simp) rfl
  intro _ _;simp[e]
def yE(cs:List (List Int)):Bool:=decide (cs.length<=200)&&cs.all λc=>decide (c.length<=50)
theorem Ed(v:Int)(cs:List (List Int)):am Tryz.prog 39 [.agg [af v,.seq false 1 (cs.map az)]] (λr=>r=.pv (BL (yE cs))):=by
 refine ao aD Tryz.func39 ?_
 by_cases c:(200:Int)<cs.length
 .have:yE cs=false:=by unfold yE;rw[RX (by omega),R8]
  rw[this];simp[c]
 have f:cs.length<=200:=by omega
 have g:yE cs=cs.all λc=>decide (c.length<=50):=by unfold yE;rw[Sn f,SY]
 rw[g];simp[c];refine aH.intro (S:=λ(i:Nat)=>⟨[(1,.pv (.ptr 0 0)),(3,.pv (af i))],[[.pv (af v),.pv (.seq false 1 (cs.map az))]]⟩) (λi=>i<=cs.length∧∀j (h:j<cs.length),j<i->cs[j].length<=50) (λi=>cs.length -i) 0 ?_ ⟨Qq _,λj _ h=>by omega⟩ ?_
 .exact ai.to (by simp) rfl (by simp) (by simp) (by simp)
 rintro i ⟨hi,hle⟩
 by_cases a:i<cs.length
 .have d:=eq i
  by_cases c5:(50:Int)<cs[i].length
  .have:(cs.all λc=>decide (c.length<=50))=false:=by
    rw[List.all_eq_false];exact⟨cs[i],Qe a,by simp;omega⟩
   rw[this];simp[a,az,c5]
  .simp[a,az,c5];refine⟨i+1,by(try dsimp only);omega,⟨by(try dsimp only);omega,λj hj k=>?_⟩,ai.to (by simp[d]) rfl (by simp) (by simp) (by simp)⟩
   by_cases e:j=i
   .subst e;omega
   .exact hle j hj (by omega)
 .have b:i=cs.length:=by omega
  subst b;have:(cs.all λc=>decide (c.length<=50))=true:=by
   rw[QR];intro x hx;obtain⟨j,hj,rfl⟩:=Qm hx;simpa using hle j hj hj
  rw[this];simp
theorem J6(a b:Stp)(h1:a.kind=b.kind)(c:a.id=b.id)(d:a.lits=b.lits)(e:a.hints=b.hints):a=b:=by
 cases a;cases b;simp at*;exact⟨h1,c,d,e⟩
instance:DecidableEq Stp:=λa b=>decidable_of_iff (a.kind=b.kind∧a.id=b.id∧a.lits=b.lits∧a.hints=b.hints) ⟨λ⟨h1,h2,h3,h4⟩=>J6 a b h1 h2 h3 h4,λh=>by subst h;exact⟨rfl,rfl,rfl,rfl⟩⟩
theorem sE{α:Type}:∀{l:List (Int×α)}{k:Int}{y:α},(∀q∈l,q.1≠k)->pt l k y=l++[(k,y)]
 |[],_,_,_=>rfl
 |(j,x)::l,k,y,h=>by
  rw[pt,Qa (h _ Qy),sE λq a=>h q (Qr _ a)];rfl
abbrev Ee{α:Type}(l:List (Int×α)):Prop:=l.Pairwise λp q=>p.1<q.1
theorem Ee.lk{α:Type}:∀{l:List (Int×α)},Ee l->∀{k:Int}{x:α},(k,x)∈l->lk l k=some x
 |(j,z)::l,h,k,x,a=>by
  replace h:=SU.1 h;rw[AX.lk];rcases QC.1 a with a|a
  .cases a;rw[Qb rfl]
  .have:=h.1 _ a;simp only at this;rw[Qa (by omega)];exact Ee.lk h.2 a
theorem Cx{α:Type}:∀(l:List (Int×α))(k:Int),(dl l k).Sublist l
 |[],_=>UC _
 |(j,x)::l,k=>by
  rw[dl];split
  .exact List.sublist_cons_self _ _
  .exact(Cx l k).cons_cons _
theorem nk{α:Type}:∀(ids:List Int)(m:List (Int×α)),(ids.foldl dl m).Sublist m
 |[],_=>UC _
 |id::ids,m=>(nk ids (dl m id)).trans (Cx m id)
structure CkG (c:Ck):Prop where
  rs:Ee c.m
  lo:∀q∈c.m,1<=q.1
  hi:∀q∈c.m,q.1<=c.last
  t:0<=c.last∧c.last<=20000000
theorem CkG.put{c:Ck}(h:CkG c){id:Int}{l:List Int}(h1:c.last<id)(d:id<=20000000):(nW c id l).m=c.m++[(id,l)]∧CkG (nW c id l):=by
 have e:pt c.m id l=c.m++[(id,l)]:=sE λq a=>by have:=h.hi q a;omega
 have ht:=h.t;have b:(nW c id l).m=c.m++[(id,l)]:=e;refine⟨b,⟨?_,?_,?_,?_⟩⟩
 .rw[b,Ee,S7];refine⟨h.rs,List.pairwise_singleton _ _,λq a p hp=>?_⟩;rw[QI]at hp;subst hp;have:=h.hi q a;simp only;omega
 .rw[b];intro q a;rcases Qn.1 a with a|a
  .exact h.lo q a
  .rw[QI]at a;subst a;simp only;omega
 .rw[b];intro q a;show q.1<=id;rcases Qn.1 a with a|a
  .have:=h.hi q a;omega
  .rw[QI]at a;subst a;exact Ss _
 .exact⟨by show 0<=id;omega,d⟩
theorem CkG.drop{c:Ck}(h:CkG c)(ids:List Int):CkG ⟨ids.foldl dl c.m,c.last,c.done⟩:=by
 have hs:=nk ids c.m;exact⟨h.rs.sublist hs,λq a=>h.lo q (hs.subset a),λq a=>h.hi q (hs.subset a),h.t⟩
theorem CkG.new(L:List (List Int))(c:L.length<=100000):∀i,i<=L.length->CkG (dg L i)∧(dg L i).last=i
 |0,_=>⟨⟨List.Pairwise.nil,λq a=>absurd a List.not_mem_nil,λq a=>absurd a List.not_mem_nil,⟨Ss _,by show(0:Int)<=20000000;omega⟩⟩,rfl⟩
 |i+1,hi=>by
  obtain⟨h1,b⟩:=CkG.new L c i (by omega);have hs:dg L (i+1)=tE (dg L i) L[i]:=bs tE _ L i (by omega);have d:aX ((dg L i).last+1)=((i+1:Nat):Int):=by rw[b,aq (by omega) (by omega)];omega
  rw[hs];unfold tE;rw[d];exact⟨(h1.put (by omega) (by omega)).2,rfl⟩
theorem Ef{c:Ck}{s:Stp}(h0:jr s=true)(h1:s.kind=1)(e:c.last<s.id)(a:iK s.lits=false)(b:gU c s.hints=true)(d:sB c s.lits s.hints=0):jf c s=(nW c s.id s.lits,0):=by
 unfold jf;rw[Qa (by rw[yx,Qb h0];simp),Qa (by omega)];unfold wz;rw[Qa (by omega),Qa (by rw[a];simp),Qa (by rw[b];simp),Qa (by rw[d];simp)]
theorem A3{hs:List Int}(h:∀x∈hs,0<=x):oW hs=(hs,[]):=by
 have:∀i,i<=hs.length->cm hs i=(hs.take i,[]):=by
  intro i
  induction i with
  |zero=>intro _;rfl
  |succ i a=>
   intro hi;rw[nV hs (by omega),a (by omega)];have:=h hs[i] (Qe _);unfold lF;rw[Qa (by omega),Qb rfl,Rl,P8 (by omega)];rfl
 unfold oW;rw[this _ (Qc _),QO]
/-! ### What is marked -/
def PT(m:List (Int×Int))(k:Int):Prop:=0<(lk m k).getD 0
instance (m:List (Int×Int)) (k:Int):Decidable (PT m k):=by unfold PT;infer_instance
def KO:List Stp->Nat
 |[]=>0
 |s::ss=>KO ss+s.hints.length
/-! ### The replay -/
def P1(L:List (List Int))(ss:List Stp)(x:Int):Prop:=PT (LK L ss) x
instance (L:List (List Int)) (ss:List Stp) (x:Int):Decidable (P1 L ss x):=by unfold P1;infer_instance
section
variable {v : Int} {L : List (List Int)} {ss : List Stp} (hn : 1 + KO ss <= 1000000000)
include hn
end
theorem mg{α:Type}:∀(l:List (Int×α))(k:Int)(y:α)(x:Int),x∈(pt l k y).map (·.1)↔x=k∨x∈l.map (·.1)
 |[],k,y,x=>by simp[pt]
 |(j,z)::l,k,y,x=>by
  rw[pt]
  by_cases c:j=k
  .rw[Qb c];subst c;simp
  .rw[Qa c,Qw,QC,mg l k y x,Qw,QC];constructor
   .rintro(h|h|h)
    .exact .inr (.inl h)
    .exact .inl h
    .exact .inr (.inr h)
   .rintro(h|h|h)
    .exact .inr (.inl h)
    .exact .inl h
    .exact .inr (.inr h)
theorem jM{α:Type}:∀(l:List (Int×α))(k:Int)(y:α),(l.map (·.1)).Nodup->((pt l k y).map (·.1)).Nodup
 |[],k,y,_=>by simp[pt]
 |(j,z)::l,k,y,h=>by
  rw[Qw,RQ]at h;rw[pt]
  by_cases c:j=k
  .rw[Qb c,Qw,RQ];subst c;exact h
  .rw[Qa c,Qw,RQ,mg];exact⟨λa=>a.elim c h.1,jM l k y h.2⟩
theorem uP{l:List Int}{x:Int}:x∈bK l↔x∈l:=by
 unfold bK;exact(TL l _).mem_iff
end Go.AX