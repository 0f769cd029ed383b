/-
  Contracts: the document's checker: what it holds.
  Contracts: the document's checker: there, rows.
  Contracts: the document's checker: drop.
  Contracts: the document's Show with candidates.
  Contracts: the document's check of one step.
-/
import Derived.Test.YtepodadinenmnaaGreatS14AxWaD
namespace Go.AX
set_option maxRecDepth 16000
open Go.Proofs
set_option linter.unusedSimpArgs false
def bN(q:Int×List Int):List PV:=[ae q.1,.seq false 1 (aa q.2)]
abbrev nc(nw:Bool)(c:Ck):PV:=.agg [.seq nw 2 (c.m.map bN),ae c.last,BL c.done]
@[simp] theorem zF(k:Nat)(l:List (Int×List Int)):bX k (l.map bN):=by
 induction l with
 |nil=>trivial
 |cons x xs a=>exact⟨⟨trivial,bc k _,trivial⟩,a⟩
@[simp] theorem N8(r:Nat->Nat->PV)(l:List (Int×List Int)):kJ r (l.map bN)=l.map bN:=by
 rw[bW,SJ];apply TW;intro x _;simp[bN]
theorem tC{α:Type}{l:List (Int×α)}{id:Int}:∀{i:Nat},i<=l.length->(∀k (_:k<l.length),k<i->l[k].1≠id)->lk l id=lk (l.drop i) id
 |0,_,_=>rfl
 |i+1,h,ho=>by
  rw[tC (i:=i) (by omega) (λk h1 a=>ho k h1 (by omega)),Sk (show i<l.length by omega)];have:=ho i (by omega) (by omega);rw[show l[i]=(l[i].1,l[i].2)from rfl,lk,RH this]
theorem IF{α:Type}{l:List (Int×α)}{id:Int}{i:Nat}(h:i<l.length)(ho:∀k (_:k<l.length),k<i->l[k].1≠id)(a:l[i].1=id):lk l id=some l[i].2:=by
 rw[tC (Ww h) ho,Sk h,show l[i]=(l[i].1,l[i].2)from rfl,lk,RI a]
theorem IG{α:Type}{l:List (Int×α)}{id:Int}(ho:∀k (_:k<l.length),l[k].1≠id):lk l id=none:=by
 rw[tC (RJ _) (λk h _=>ho k h),Sc (RJ _)];rfl
theorem tD(g:List (List SV))(c:Ck)(id:Int)(w:c.m.length<=100000):aB Tryz.prog 257 [nc false c,ae id] g (λr g'=>g'=g∧r=.pv (.tup [.seq false 1 (aa ((lk c.m id).getD [])),BL (lk c.m id).isSome])):=by
 refine aB.below (by kernel_rfl) λv=>?_;refine dV [] [.tmp 4,.tmp 5] aE Tryz.func257 ?_;obtain⟨G,j⟩:∃G:List (List SV),G=g++[[.pv (.seq false 2 (c.m.map bN)),.pv (ae c.last),.pv (BL c.done)]]:=⟨_,rfl⟩;have a:g.length<G.length:=by rw[j];simp
 have b:G[g.length]=[.pv (.seq false 2 (c.m.map bN)),.pv (ae c.last),.pv (BL c.done)]:=by simp[j]
 have f:G.take g.length=g:=by rw[j];simp
 have n:∀x:Option (List Int),lk c.m id=x->(lk c.m id).getD []=x.getD []∧(lk c.m id).isSome=x.isSome:=λx h=>by rw[h];exact⟨rfl,rfl⟩
 generalize(lk c.m id).getD []=s at*;generalize(lk c.m id).isSome=t at*;simp;rw[←j];refine av.intro (S:=λ(i:Nat)=>⟨[(1,.pv (ae id)),(2,.pv (.ptr g.length 0)),(6,.pv (ae i))],G⟩) (λi=>i<=c.m.length∧∀k (_:k<c.m.length),k<i->c.m[k].1≠id) (λi=>c.m.length -i) 0 ?_ ⟨RW _,λk _ h=>by omega⟩ ?_
 .exact af.keep (by simp) rfl
 rintro i ⟨hi,ho⟩
 by_cases d:i<c.m.length
 .have q:=dq i;have o:c.m[i]?=some c.m[i]:=RF d
  by_cases e:c.m[i].1=id
  .obtain⟨rfl,rfl⟩:=n _ (IF d ho e);simp[d,a,b,o,bN,e,bu,bd]
   try exact f
  .simp[d,a,b,o,bN,e];refine⟨i+1,by(try dsimp only);omega,⟨by(try dsimp only);omega,λk h1 u=>?_⟩,af.keep (by simp[q]) (by simp)⟩
   by_cases p:k=i
   .subst p;exact e
   .exact ho k h1 (by omega)
 .have l:i=c.m.length:=by omega
  subst l;obtain⟨rfl,rfl⟩:=n _ (IG (λk h=>ho k h h));simp[a,b,bu,bd,aa]
  try exact f
def dD(c:Ck):List Int:=c.m.map (·.1)
theorem Lj(c:Ck)(o:c.m.length<=100000):am Tryz.prog 262 [nc false c] (λr=>r=.own true 1 (aa (dD c))):=by
 refine aq aE Tryz.func262 ?_;obtain⟨Q,a⟩:∃Q:Nat->List (List PV),∀i,Q i=aa ((c.m.take i).map (·.1)):=⟨_,λ_=>rfl⟩;have b:Q 0=[]:=by rw[a];rfl
 have e:Q c.m.length=aa (dD c):=by rw[a,R8];rfl
 have g:∀i (h:i<c.m.length),Q (i+1)=Q i++[[ae c.m[i].1]]:=λi h=>by
  rw[a,a,SA,RF h,Sb];unfold aa;rw[Sb];rfl
 have f:∀i,(Q i).length<=c.m.length:=λi=>by rw[a];simp[aa];omega
 simp;refine av.intro (S:=λ(i:Nat)=>⟨[(1,.pv (.ptr 0 0)),(3,.own true 1 (Q i)),(4,.pv (ae i))],[[.pv (.seq false 2 (c.m.map bN)),.pv (ae c.last),.pv (BL c.done)]]⟩) (λi=>i<=c.m.length) (λi=>c.m.length -i) 0 ?_ (RW _) ?_
 .exact(af.nilOwn (s:=3) 1 true (by simp)).trans (af.keep (by simp[b]) (by simp))
 intro i hi;have l:=f i
 by_cases d:i<c.m.length
 .have n:=dq i;have k:c.m[i]?=some c.m[i]:=RF d;have j:=g i d;simp[d,k,bN];exact⟨by omega,i+1,by(try dsimp only);omega,by(try dsimp only);omega,af.keep (by simp[n,j]) (by simp[bN])⟩
 .have:i=c.m.length:=by omega
  subst this;simp[e]
theorem IH(n:Int):am Tryz.prog 258 [ae n] (λr=>r=.pv (ae (if n<0 then aR (-n)else n))):=by
 refine aq aE Tryz.func258 ?_
 by_cases c:n<0
 .simp[c]
 .simp[c]
end Go.AX
namespace Go.AX
set_option maxRecDepth 16000
open Go.Proofs
set_option linter.unusedSimpArgs false
def qt(n:Int):Int:=if n<0 then aR (-n)else n
def mL(c:Ck)(ids:List Int):Bool:=ids.all λid=>(lk c.m (qt id)).isSome
def xy:Sch:=
 let a:Sch:=.fork [(6,.take 7 (.take 8 (.take 9 (.take 10 (.take 11 .done)))))]
 let b:Sch:=.fork [(5,a)]
 let c:Sch:=.fork [(4,b)]
 let d:Sch:=.fork [(0,a)]
 let e:Sch:=.fork [(0,b),(5,d)]
 let f:Sch:=.fork [(0,c),(4,e)]
 .take 1 (.take 2 (.take 3 f))
theorem FE(c:Ck)(ids:List Int)(u:c.m.length<=100000)(hi:ids.length<=1000000):am Tryz.prog 198 [nc false c,.seq false 1 (aa ids)] (λr=>r=.pv (BL (mL c ids))):=by
 refine oX [4] aE Tryz.func198 ?_;have l:mL c ids=ids.all λid=>(lk c.m (qt id)).isSome:=rfl;generalize mL c ids=T at*;simp;refine av.intro (S:=λ(i:Nat)=>⟨[(1,.pv (.seq false 1 (aa ids))),(2,.pv (.ptr 0 0)),(5,.pv (ae i))],[[.pv (.seq false 2 (c.m.map bN)),.pv (ae c.last),.pv (BL c.done)]]⟩) (λi=>i<=ids.length∧∀k (_:k<ids.length),k<i->(lk c.m (qt ids[k])).isSome=true) (λi=>ids.length -i) 0 ?_ ⟨RW _,λk _ h=>by omega⟩ ?_
 .exact af.keep (by simp) (by simp)
 rintro i ⟨t,ho⟩
 by_cases d:i<ids.length
 .have v:=dq i;have a:ids[i]?=some ids[i]:=RF d;have f:=(tD [] c (qt ids[i]) u).mono (R':=λr _=>r=.pv (.tup [.seq false 1 (aa ((lk c.m (qt ids[i])).getD [])),BL (lk c.m (qt ids[i])).isSome])) λ_ _ h=>h.2;have s:=IH ids[i];have b:am Tryz.prog 258 [ae ids[i]] (λr=>r=.pv (ae (qt ids[i]))):=s;generalize o:(lk c.m (qt ids[i])).getD []=w at*;cases e:(lk c.m (qt ids[i])).isSome
  .have g:T=false:=by
    rw[l,List.all_eq_false];exact⟨ids[i],RK d,by rw[e];simp⟩
   rw[e]at f;subst g;simp[d,a];refine aQ.one xy (by kernel_rfl) ?_;simp[xy,d,a];refine⟨?_,?_,?_⟩
   all_goals
    refine ai.intro b ?_;simp[d,a];refine ai.introX (bC.pureM (p:=[]) (q:=[]) (zs:=[nc false c,ae (qt ids[i])]) f (by simp) rfl (by simp[dW]) (by simp) (by simp) ?_);simp
  .rw[e]at f;simp[d,a];refine aQ.one xy (by kernel_rfl) ?_;simp[xy,d,a];refine⟨?_,?_,?_⟩
   all_goals
    refine ai.intro b ?_;simp[d,a];refine ai.introX (bC.pureM (p:=[]) (q:=[]) (zs:=[nc false c,ae (qt ids[i])]) f (by simp) rfl (by simp[dW]) (by simp) (by simp) ?_);simp;refine⟨i+1,by(try dsimp only);omega,⟨by(try dsimp only);omega,λk h1 y=>?_⟩,af.keep (by simp[v]) (by simp)⟩
    by_cases n:k=i
    .subst n;exact e
    .exact ho k h1 (by omega)
 .have:i=ids.length:=by omega
  subst this;have j:T=true:=by
   rw[l,Se];intro x hx;obtain⟨k,hk,rfl⟩:=RU hx;exact ho k hk hk
  subst j;simp
def qu:Sch:=
 let a:Sch:=.fork [(5,.take 6 (.take 7 (.take 8 (.take 9 (.take 10 .done)))))]
 let b:Sch:=.fork [(4,a)]
 let c:Sch:=.fork [(0,a)]
 let d:Sch:=.fork [(0,b),(4,c)]
 .take 1 (.take 2 (.take 3 d))
theorem tE(g:List (List SV))(c:Ck)(ids:List Int)(y:c.m.length<=100000)(hi:ids.length<=1000000):aB Tryz.prog 261 [nc false c,.seq false 1 (aa ids)] g (λr g'=>g'=g∧r=.pv (.seq true 1 ((bZ c ids).map an))):=by
 refine aB.below (by kernel_rfl) λC=>?_;refine dV [5] [.tmp 4] aE Tryz.func261 ?_;obtain⟨G,j⟩:∃G:List (List SV),G=g++[[.pv (.seq false 2 (c.m.map bN)),.pv (ae c.last),.pv (BL c.done)]]:=⟨_,rfl⟩;have a:g.length<G.length:=by rw[j];simp
 have b:G[g.length]=[.pv (.seq false 2 (c.m.map bN)),.pv (ae c.last),.pv (BL c.done)]:=by simp[j]
 have k:G.take g.length=g:=by rw[j];simp
 obtain⟨Q,f⟩:∃Q:Nat->List (List PV),∀i,Q i=(bZ c (ids.take i)).map an:=⟨_,λ_=>rfl⟩;have l:Q 0=[]:=by rw[f];rfl
 have n:Q ids.length=(bZ c ids).map an:=by rw[f,R8]
 have t:∀i (h:i<ids.length),Q (i+1)=Q i++[[.seq false 1 (aa ((lk c.m ids[i]).getD []))]]:=λi h=>by
  rw[f,f,SA,RF h];unfold bZ;rw[Sb,Sb];rfl
 have o:∀i,(Q i).length<=ids.length:=λi=>by rw[f];simp[bZ];omega
 simp;rw[←j];refine av.intro (S:=λ(i:Nat)=>⟨[(1,.pv (.seq false 1 (aa ids))),(2,.pv (.ptr g.length 0)),(5,.own true 1 (Q i)),(6,.pv (ae i))],G⟩) (λi=>i<=ids.length) (λi=>ids.length -i) 0 ?_ (RW _) ?_
 .exact(af.nilOwn (s:=5) 1 true (by simp)).trans (af.keep (by simp[l]) (by simp))
 intro i x;have z:=o i
 by_cases d:i<ids.length
 .have A:=dq i;have v:ids[i]?=some ids[i]:=RF d;have u:=t i d;have w:=(tD [] c ids[i] y).mono (R':=λr _=>r=.pv (.tup [.seq false 1 (aa ((lk c.m ids[i]).getD [])),BL (lk c.m ids[i]).isSome])) λ_ _ h=>h.2;generalize(lk c.m ids[i]).getD []=B at*;generalize(lk c.m ids[i]).isSome=e at*;simp[d,v,a,b];refine aQ.one qu (by kernel_rfl) ?_;simp[qu,d,v,a,b];refine⟨?_,?_⟩
  all_goals
   refine ai.introX (bC.pureM (p:=[]) (q:=[]) (zs:=[nc false c,ae ids[i]]) w (by simp) rfl (by simp[dW]) (by simp) (by simp) ?_);simp;refine⟨by omega,i+1,by(try dsimp only);omega,by(try dsimp only);omega,af.keep (by simp[A,u]) rfl⟩
 .have:i=ids.length:=by omega
  subst this;simp[n,k,bu]
end Go.AX
namespace Go.AX
open Go.Proofs
set_option linter.unusedSimpArgs false
def zG(m:List (Int×List Int))(id:Int):List (Int×List Int):=m.filter λq=>decide (q.1≠id)
def fv:List (Int×List Int)->List Int->List (Int×List Int)×Int
 |m,[]=>(m,0)
 |m,id::ids=>if(lk m id).isSome=false then(m,20)else fv (zG m id) ids
set_option maxRecDepth 16000 in
theorem II(c:Ck)(ids:List Int)(F:c.m.length<=100000)(hi:ids.length<=1000000):aB Tryz.prog 197 [nc false c,.seq false 1 (aa ids)] [] (λr g'=>g'=[]∧r=.pv (.tup [nc false ⟨(fv c.m ids).1,c.last,c.done⟩,ae (fv c.m ids).2])):=by
 refine dV [4] [.cell 4 _,.tmp 5] aE Tryz.func197 ?_;have C:fv c.m ids=fv c.m (ids.drop 0):=rfl;generalize fv c.m ids=D at*;simp;refine av.intro (S:=λ(x:Nat×List (Int×List Int)×Bool)=>⟨[(1,.pv (.seq false 1 (aa ids))),(2,.pv (.ptr 0 0)),(4,.pv (.ptr 1 0)),(6,.pv (ae x.1))],[[.pv (.seq x.2.2 2 (x.2.1.map bN)),.pv (ae c.last),.pv (BL c.done)],[.pv (.lit (.slice none 0 0)),.pv (ae 0),.pv (BL false)]]⟩) (λx=>x.1<=ids.length∧x.2.1.length<=100000∧D=fv x.2.1 (ids.drop x.1)) (λx=>ids.length -x.1) (0,c.m,false) ?_ ⟨RW _,F,C⟩ ?_
 .exact af.keep (by simp) (by simp)
 rintro⟨i,m,nw⟩ ⟨A,B,a⟩;dsimp only at A B a
 by_cases d:i<ids.length
 .have G:=dq i;have l:ids[i]?=some ids[i]:=RF d;rw[Sk d,fv]at a;have u:=((tD [] ⟨m,c.last,c.done⟩ ids[i] B).args (xs:=[nc nw ⟨m,c.last,c.done⟩,ae ids[i]]) (by simp[bd,bu])).mono (R':=λr _=>r=.pv (.tup [.seq false 1 (aa ((lk m ids[i]).getD [])),BL (lk m ids[i]).isSome])) λ_ _ h=>h.2;generalize(lk m ids[i]).getD []=I at*;cases e:(lk m ids[i]).isSome
  .rw[RI e]at a;rw[e]at u;subst a;simp[d,l];refine aQ.one qu (by kernel_rfl) ?_;simp[qu,d,l];refine⟨?_,?_⟩
   all_goals
    refine ai.introX (bC.pureM (p:=[]) (q:=[]) (zs:=[nc nw ⟨m,c.last,c.done⟩,ae ids[i]]) u (by simp) rfl (by simp[dW]) (by simp) (by simp) ?_);simp[bu,bd]
  .rw[RH (by rw[e];simp)]at a;rw[e]at u;obtain⟨W,n⟩:∃W:Nat->List (List PV),∀j,W j=(zG (m.take j) ids[i]).map bN:=⟨_,λ_=>rfl⟩;have v:W 0=[]:=by rw[n];rfl
   have w:W m.length=(zG m ids[i]).map bN:=by rw[n,R8]
   have z:∀j (h:j<m.length),W (j+1)=if m[j].1=ids[i]then W j else W j++[bN m[j]]:=λj h=>by
    rw[n,n,SA,RF h];unfold zG;rw[S5,Sb];show _++List.map bN (List.filter _ [m[j]])=_;rw[Sz,U0]
    by_cases e:m[j].1=ids[i]
    .rw[RI e];simp[e]
    .rw[RH e];simp[e]
   have y:∀j,(W j).length<=m.length:=λj=>by
    rw[n,RR];exact Sn (Ta _ _) (by rw[RN];exact VD _ _)
   simp[d,l];refine aQ.one qu (by kernel_rfl) ?_;simp[qu,d,l];refine⟨?_,?_⟩
   all_goals
    refine ai.introX (bC.pureM (p:=[]) (q:=[]) (zs:=[nc nw ⟨m,c.last,c.done⟩,ae ids[i]]) u (by simp) rfl (by simp[dW]) (by simp) (by simp) ?_);simp;refine av.intro (S:=λ(j:Nat)=>⟨[(1,.pv (.seq false 1 (aa ids))),(2,.pv (.ptr 0 0)),(4,.pv (.ptr 1 0)),(6,.pv (ae i)),(9,.own true 2 (W j)),(10,.pv (ae j))],[[.pv (.seq nw 2 (m.map bN)),.pv (ae c.last),.pv (BL c.done)],[.pv (.lit (.slice none 0 0)),.pv (ae 0),.pv (BL false)]]⟩) (λj=>j<=m.length) (λj=>m.length -j) 0 ?_ (RW _) ?_
    .exact(af.nilOwn (s:=9) 2 true (by simp)).trans (af.keep (by simp[v]) (by simp))
    intro j hj;have H:=y j
    by_cases f:j<m.length
    .have t:=dq j;have o:m[j]?=some m[j]:=RF f;have g:=z j f
     by_cases k:m[j].1=ids[i]
     .rw[RI k]at g;simp[f,d,o,l,bN,k];refine⟨j+1,by(try dsimp only);omega,by(try dsimp only);omega,af.keep (by simp[t,g]) (by simp[bN])⟩
     .rw[RH k]at g;simp[f,d,o,l,bN,k];refine⟨by omega,j+1,by(try dsimp only);omega,by(try dsimp only);omega,af.keep (by simp[t,g,bN]) (by simp[bN])⟩
    .have:j=m.length:=by omega
     subst this;simp;have E:(zG m ids[i]).length<=m.length:=Ta _ _;refine⟨(i+1,zG m ids[i],true),by(try dsimp only);omega,⟨by(try dsimp only);omega,by(try dsimp only);omega,a⟩,(af.frzC (b:=0) (k:=0) (e:=2) (nw:=true) (rows:=W m.length) (by simp)).trans (af.keep (by simp[G]) (by simp[w]))⟩
 .have:i=ids.length:=by omega
  subst this;rw[Sc (RJ _),fv]at a;subst a;simp[bu,bd]
def zH(e:Int×List (List Int)):List PV:=[ae e.1,.seq false 1 (e.2.map an)]
def Ce(E:List (Int×List (List Int))):List (Int×List (List Int)):=E.foldl (λm e=>pt m e.1 e.2) []
def PY(cs:List (List Int))(c l:List Int)(i:Int)(ok:Bool)(e:Int×List (List Int)):Bool:=if e.1=i then decide (B1 l (cs.getD i.toNat []) (c.headD 0) e.2=0)else ok
theorem IJ(cs:List (List Int))(c l:List Int)(i:Int):∀(E:List (Int×List (List Int)))(m:List (Int×List (List Int))),E.foldl (PY cs c l i) (xo cs c l m i)=xo cs c l (E.foldl (λm e=>pt m e.1 e.2) m) i
 |[],m=>rfl
 |e::E,m=>by
  rw[Uo,Uo,←IJ cs c l i E];congr 1;unfold PY xo;rw[bK]
  by_cases h:e.1=i
  .rw[RI h,RI h]
  .rw[RH h,RH h]
theorem Lk(cs:List (List Int))(c l:List Int)(i:Int)(E:List (Int×List (List Int))):E.foldl (PY cs c l i) false=xo cs c l (Ce E) i:=IJ cs c l i E []
set_option maxRecDepth 16000 in
theorem zI(cs:List (List Int))(c:List Int)(ahead:List (List Int))(E:List (Int×List (List Int)))(hn:cs.length<=100000)(o:∀x∈cs,x.length<=100000)(hc:c.length<=100000)(Z:ahead.length<=100000)(D:∀x∈ahead,x.length<=100000)
 (U:∀e∈E,e.2.length<=100000∧∀x∈e.2,x.length<=100000) (Y:E.length<=1000000):
 am Tryz.prog 263 [.seq false 1 (cs.map an),.seq false 1 (aa c),.seq false 1 (ahead.map an),.seq false 2 (E.map zH)] (λr=>r=.pv (.tup [ae (xp cs c ahead (Ce E)).1,ae (xp cs c ahead (Ce E)).2])):=by
 refine iG [8,9] aE Tryz.func263 (λ_ _=>results_tmp2 rfl _ _ _) ?_;have C:=pz c (by omega);have hle:=px c c.length;have n:=λg=>lB g (gm c) ahead (by unfold gm;omega) (λx hx=>by have:=D x hx;omega);have p:=zw ahead (gm c) 0;have K:Fv c=if l3 c=0 then gm c else[]:=rfl;have d:xp cs c ahead (Ce E)=if l3 c≠0 then(-1,l3 c)else if c=[]then(-1,11)else if(fk (gm c) ahead 0).2.2≠23 then(-1,(fk (gm c) ahead 0).2.2)
  else vA (xo cs c (fk (gm c) ahead 0).1 (Ce E)) (lC cs (c.headD 0) cs.length) (lC cs (c.headD 0) cs.length).length:=rfl
 generalize xp cs c ahead (Ce E)=S at*;have V:(gm c).length<=c.length:=hle;generalize fk (gm c) ahead 0=F at*;obtain⟨L,fn,P⟩:=F;simp only at p d n;simp;refine ai.intro C ?_
 by_cases c1:l3 c=0
 rotate_left
 .rw[RI c1]at d;subst d;simp[c1]
 rw[RH (by simp[c1])]at d;rw[RI c1]at K;rw[K]
 by_cases c2:c=[]
 .rw[RI c2]at d;subst d;subst c2;simp[c1]
 rw[RH c2]at d;have N:c.length≠0:=λe=>c2 (Td.1 e);simp[c1,c2];refine ai.introM (n _) ?_;rintro _ _ ⟨rfl,rfl⟩
 by_cases c3:P=23
 rotate_left
 .rw[RI c3]at d;subst d;simp[c3]
 rw[RH (by simp[c3])]at d;obtain⟨x,c',rfl⟩:∃x c',c=x::c':=by
  cases c with
  |nil=>exact absurd rfl c2
  |cons x c=>exact⟨x,c,rfl⟩
 have v:=xl cs x (by omega) (λy hy=>by have:=o y hy;omega);have T:=tq cs x cs.length;have G:=tt cs x cs.length;simp only[List.headD_cons]at d;generalize Q:lC cs x cs.length=X at*;clear Q;simp[c3];refine ai.intro v ?_;simp;refine av.intro (S:=λ(i:Nat)=>⟨[(0,.pv (.seq false 1 (cs.map an))),(1,.pv (.seq false 1 (aa (x::c')))),(3,.pv (.seq false 2 (E.map zH))),(10,.pv (.seq false 1 (aa L))),(12,.own true 1 (aa X)),(13,.pv (ae i))],[]⟩) (λi=>i<=X.length∧S=vA (xo cs (x::c') L (Ce E)) (X.drop i) X.length) (λi=>X.length -i) 0 ?_ ⟨RW _,d⟩ ?_
 .exact af.keep (by simp) (by simp)
 rintro i ⟨hi,a⟩
 by_cases h:i<X.length
 .have W:=dq i;obtain⟨k,hk,b⟩:=G _ (RK h);have m:X[i]?=some (k:Int):=by rw[RF h,b]
  rw[Sk h,vA,b]at a;have s:cs[k]?=some cs[k]:=RF hk;have R:=o _ (RK hk);have I:cs.getD ((k:Int)).toNat []=cs[k]:=by rw[SQ,RG,s];rfl
  obtain⟨O,u⟩:∃O:Nat->Bool,∀j,O j=(E.take j).foldl (PY cs (x::c') L k) false:=⟨_,λ_=>rfl⟩;have w:O 0=false:=by rw[u];rfl
  have z:O E.length=xo cs (x::c') L (Ce E) k:=by rw[u,R8];exact Lk _ _ _ _ _
  have A:∀j (e:j<E.length),O (j+1)=if E[j].1=(k:Int)then decide (B1 L cs[k] x E[j].2=0)else O j:=λj e=>by
   rw[u,u,bf _ _ E j e];unfold PY;rw[I];rfl
  simp[h,b];refine av.intro (S:=λ(j:Nat)=>⟨[(0,.pv (.seq false 1 (cs.map an))),(1,.pv (.seq false 1 (aa (x::c')))),(3,.pv (.seq false 2 (E.map zH))),(10,.pv (.seq false 1 (aa L))),(12,.own true 1 (aa X)),(13,.pv (ae i)),(14,.pv (BL (O j))),(15,.pv (ae j))],[]⟩) (λj=>j<=E.length) (λj=>E.length -j) 0 ?_ (RW _) ?_
  .exact af.keep (by simp[w]) (by simp)
  intro j hj
  by_cases e:j<E.length
  .have t:=dq j;have q:E[j]?=some E[j]:=RF e;have H:=U _ (RK e);have l:=A j e;have B:am Tryz.prog 311 [.seq false 1 (aa L),.seq false 1 (aa cs[k]),ae x,.seq false 1 (E[j].2.map an)] (λr=>r=.pv (ae (B1 L cs[k] x E[j].2))):=
    aB.pure ((uq [] L cs[k] x E[j].2 (by simp only[Sa]at*;omega) (λy hy=>by have:=H.2 y hy;omega)).mono λ_ _ h=>⟨_,h.2,rfl⟩)
   by_cases f:E[j].1=(k:Int)
   .rw[RI f]at l;simp[e,h,m,q,s,hk,b,zH,f,an];refine br.intro B ?_;simp;refine⟨j+1,by(try dsimp only);omega,by(try dsimp only);omega,af.keep (by simp[t,l]) (by simp)⟩
   .rw[RH f]at l;simp[e,h,m,q,b,zH,f];refine⟨j+1,by(try dsimp only);omega,by(try dsimp only);omega,af.keep (by simp[t,l,zH]) (by simp)⟩
  .have:j=E.length:=by omega
   subst this;rw[z];cases M:xo cs (x::c') L (Ce E) k
   .rw[RI M]at a;subst a;simp[h,m,b]
   .rw[RH (by simp[M])]at a;simp;exact⟨i+1,by(try dsimp only);omega,⟨by(try dsimp only);omega,a⟩,af.keep (by simp[W]) (by simp)⟩
 .have J:i=X.length:=by omega
  subst J;rw[Sc (RJ _),vA]at a;subst a;simp
set_option maxRecDepth 16000 in
theorem zJ(s:Stp)(q:s.lits.length<=100000)(p:s.hints.length<=100000):am Tryz.prog 35 [.seq false 4 [gD s]] (λr=>r=.pv (.tup [ae (if iR s=true then 1 else 0),ae (if iR s=true then 0 else 2)])):=by
 refine iG [2,3] aE Tryz.func35 (λ_ _=>results_tmp2 rfl _ _ _) ?_;have k:=nE s.lits 100000 (by omega);have g:=pA s.hints (-10000000) (by omega);have j:=pA s.hints 1 (by omega);have l:iR s=(((((decide (s.kind=1)&&decide (1<=s.id))&&decide (s.id<=10000000))&&decide (fu s.lits 100000=0))&&jA s.hints (-10000000))||((((decide (s.kind=2)&&decide (0<=s.id))&&decide (s.id<=10000000))&&decide (s.lits.length=0))&&jA s.hints 1)):=by
  unfold iR
  by_cases b:s.kind=1
  .rw[RI b];simp[b];simp only[Wm]
  .rw[RH b]
   by_cases e:s.kind=2
   .rw[RI e];simp[e];simp only[Wm]
   .rw[RH e];simp[b,e]
 generalize iR s=M at*;simp;refine av.intro (S:=λ(i:Nat)=>⟨[(0,.pv (.seq false 4 [gD s])),(4,.pv (ae i))],[]⟩) (λi=>i<=1∧(i=1->M=true)) (λi=>1 -i) 0 ?_ ⟨RW _,λh=>by cases h⟩ ?_
 .exact af.keep (by simp) (by simp)
 rintro i ⟨hi,ho⟩
 by_cases d:i=1
 .have:=ho d;subst d this;simp
 .have:i=0:=by omega
  subst this;simp[gD];refine aH.intro (λ_=>k) ?_;simp;refine aH.intro (λ_=>g) ?_;simp;refine aH.intro (λ_=>j) ?_;simp;have c:M=false↔(((((¬s.kind=1∨s.id<1)∨10000000<s.id)∨¬fu s.lits 100000=0)∨jA s.hints (-10000000)=false)∧((((¬s.kind=2∨s.id<0)∨10000000<s.id)∨¬s.lits=[])∨jA s.hints 1=false)):=by
   rw[l,Ug];simp only[Bool.and_eq_false_iff,Th,Int.not_le,Td]
  refine⟨λh1 a=>c.2 ⟨h1,a⟩,λh=>?_⟩;have f:M=true:=by
   cases m:M
   .obtain⟨h1,a⟩:=c.1 m;obtain⟨⟨⟨⟨b,e⟩,t⟩,n⟩,o⟩:=h h1;rcases a with(((a|a)|a)|a)|a
    .exact absurd b a
    .omega
    .omega
    .exact absurd n a
    .rw[o]at a;cases a
   .rfl
  exact⟨1,by(try dsimp only);omega,⟨RJ _,λ_=>f⟩,af.to (by simp[show aR 1=1 from ap (by omega) (by omega),gD]) rfl (by simp) (by simp) (by simp)⟩
end Go.AX