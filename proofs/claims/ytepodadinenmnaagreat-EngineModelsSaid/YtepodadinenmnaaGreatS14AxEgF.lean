/-
  Contracts: engines: a level gone back to, a clause added.
  Contracts: engines: a clause added; a literal decided.
-/
import Derived.Test.YtepodadinenmnaaGreatS14AxEgD
namespace Go.AX
open Go.Proofs
set_option linter.unusedSimpArgs false
theorem Aj(T:Tr):∀j,j<=T.lits.length->∀z,z∈tL T j↔z∈T.lits.drop (T.lits.length -j)
 |0,_,z=>by simp[tL]
 |j+1,hj,z=>by
  have c:T.lits.length -(j+1)<T.lits.length:=by omega
  have a:(popN T j).lits.getD ((popN T j).lits.length -1) 0=T.lits[T.lits.length -(j+1)]:=by
   have b:(popN T j).lits.length=T.lits.length -j:=by rw[eh,RN];omega
   rw[b,eh,RG,SM,RI (by omega),show T.lits.length -j -1=T.lits.length -(j+1) by omega,RF c];rfl
  rw[tL,a,RS,Aj T j (by omega) z,Sk c,show T.lits.length -(j+1)+1=T.lits.length -j by omega];simp[or_comm]
theorem LD(h:List (List SV))(b:Nat){n:Nat}(T:Tr)(i:h[b]?=some (gv T))(d:TOk n T)(v:Int):
 aB Tryz.prog 131 [.ptr b 0,ae v] h (λr h'=>h'=h.set b (gv (er T v))∧∃zs,r=.pv (.seq true 1 (aa zs))∧zs.length<=T.lits.length∧(∀z∈zs,z∈T.lits)∧∀z∈T.lits,z∉(er T v).lits->z∈zs):=by
 have o:=d.few;have hn:=d.hn
 by_cases c:(if v<0 then(0:Int)else v)<(T.beg.length:Int)
 .obtain⟨k,hk⟩:∃k:Nat,(if v<0 then(0:Int)else v)=k:=⟨(if v<0 then(0:Int)else v).toNat,by split<;>omega⟩;have a:k<T.beg.length:=by rw[hk]at c;omega
  have e:T.beg.getD k 0=T.beg[k]:=by rw[RG,RF a];rfl
  have m:=d.bnd _ (RK a);have g:er T v=bz T k:=by unfold er;rw[RI c,hk];rfl
  have j:=Aj T (T.lits.length -(T.beg[k]).toNat) (by omega);rw[g];refine(I9 h b T i v k hk a (by rw[e];omega) (by omega) λy hy=>?_).mono ?_
  .obtain⟨_,_,_,p,q,_⟩:=bA hn (d.chk y hy);rw[d.len];omega
  .rintro r h' ⟨rfl,rfl⟩;rw[e];refine⟨rfl,_,rfl,by rw[tM];omega,λz hz=>TQ ((j z).1 hz),λz hz f=>(j z).2 ?_⟩;rw[(d.back a).2.1]at f;rw[show T.lits.length -(T.lits.length -(T.beg[k]).toNat)=(T.beg[k]).toNat by omega];have:=SI (T.beg[k]).toNat T.lits;rw[←this]at hz;exact(RS.1 hz).resolve_left f
 .have g:er T v=T:=by unfold er;rw[RH c]
  rw[g,dt i];refine(I8 h b T i v c).mono ?_;rintro r h' ⟨rfl,rfl⟩;exact⟨rfl,_,rfl,by simp,by simp,λz h1 l=>absurd h1 l⟩
def Q0:Sch:=
 let a:Sch:=.fork [(6,.done)]
 let b:Sch:=.fork [(5,a)]
 let c:Sch:=.fork [(3,a)]
 .take 0 (.take 1 (.take 2 (.take 4 (.fork [(3,b),(5,c)]))))
section
variable {h : List (List SV)} {be bt ba bw bh : Nat} {mp : List (Int × Nat)} {mb : List (Int × By)} {E : ES}
set_option maxRecDepth 16000 in
theorem Ak(L:LayE h be bt ba bw bh mp mb E){n:Nat}(J:TOk n E.T)(g:HpG n 1000000000000 E.q)(hp:E.ph.length=n+1)(v:Int):
 aB Tryz.prog 69 [.ptr be 0,ae v] h (λr h'=>r=.pv (.tup [])∧∃q p,LayE h' be bt ba bw bh mp mb {E with T:=er E.T v,q:=q,ph:=p,con:=-1,calm:=false}∧Ext h h' (df be bt ba bw bh mp mb) (df be bt ba bw bh mp mb)∧HpTo n E.q q∧p.length=n+1∧∀z∈E.T.lits,z∉(er E.T v).lits->ah z∈q.row):=by
 refine cR [5] [] aE Tryz.func69 ?_;have hf:=J.few;have hn:=J.hn;obtain⟨U,O⟩:=RE.1 L.e;have kB:=LD h bt E.T L.w.t J v;have L1:=L.trail (er E.T v);have X1:=Ext.set (D:=df be bt ba bw bh mp mb) (h:=h) bt (gv (er E.T v)) (.inr (.inr (.inr (.inr (.inl rfl)))));simp[O,U,bQ];refine aj.intro kB ?_;rintro _ H1 ⟨rfl,zs,rfl,z1,z2,z3⟩;generalize h.set bt (gv (er E.T v))=H1 at*;simp;refine av.intro (S:=λ(x:Nat×List (List SV)×HS×List Bool)=>⟨[(0,.pv (.ptr be 0)),(11,.pv (.seq true 1 (aa zs))),(12,.pv (ae zs.length)),(13,.pv (ae x.1))],x.2.1⟩)
  (λx=>x.1<=zs.length∧LayE x.2.1 be bt ba bw bh mp mb {E with T:=er E.T v,q:=x.2.2.1,ph:=x.2.2.2}∧Ext h x.2.1 (df be bt ba bw bh mp mb) (df be bt ba bw bh mp mb)∧HpTo n E.q x.2.2.1∧x.2.2.2.length=n+1∧∀z∈zs.take x.1,ah z∈x.2.2.1.row)
  (λx=>zs.length -x.1) (0,H1,E.q,E.ph) ?_ ⟨RW _,L1,X1,.refl g,hp,by simp⟩ ?_
 .exact af.keep (by simp) rfl
 rintro⟨i,H,q,p⟩ ⟨P,I,N,y,s,hin⟩;dsimp only at P I N y s hin;obtain⟨f,o⟩:=RE.1 I.e
 by_cases c:i<zs.length
 .have hw:=dq i;obtain⟨_,_,_,p1,G,_⟩:=bA hn (J.chk _ (z2 _ (RK c)));have K:=aJ zs[i];have b:∀q':HS,HpTo n q q'->ah zs[i]∈q'.row->∀z∈zs.take (i+1),ah z∈q'.row:=λq' j h1 z hz=>by
   rw[SN c,RS]at hz;rcases hz with hz|hz
   .exact j.mem _ (hin z hz)
   .simp at hz;rw[hz];exact h1
  obtain⟨u,hu⟩:∃u:Nat,ah zs[i]=u:=⟨(ah zs[i]).toNat,by omega⟩;have l:=I.eng {E with T:=er E.T v,q:=q,ph:=p.set u (decide (0<zs[i]))} rfl rfl rfl rfl;have A:=N.trans (Ext.set be (bQ bt ba bw bh {E with T:=er E.T v,q:=q,ph:=p.set u (decide (0<zs[i]))}) (.inl rfl));have X:u<p.length:=by omega
  rw[hu]at K b p1 G;have m:(p.set u (decide (0<zs[i]))).length=n+1:=by rw[Sg];exact s
  generalize hz:zs[i]=z at*;generalize W:p.set u (decide (0<z))=G at*;generalize C:H.set be (bQ bt ba bw bh {E with T:=er E.T v,q:=q,ph:=G})=M at*;simp only[bQ]at C;obtain⟨a,k⟩:=RE.1 l.e;have Y:=gF (q:=q) l.q;have j:=y.hp;have Z:=xE q (by rw[j.sl];omega) (by rw[j.pll,j.sl]) u;have hv:tQ q u=true:=j.isV_iff.2 (by omega);have F:=j.has_iff (v:=(u:Int)) (by omega);rw[hv,Ux]at Z;simp[c,o,f,bQ,hz];refine br.intro K ?_;simp[o,f,bQ,X,yP,W,C,k,a];refine br.intro K ?_;simp[k,a,bQ,Y];refine br.intro Z ?_;rw[SQ]at Z F
  by_cases d:0<=q.pl.getD u 0
  .have V:=F.1 d;have B:¬q.pl.getD u 0<0:=by omega
   simp only[RG]at d B;simp[d,B];exact⟨(i+1,M,q,G),by(try dsimp only);omega,⟨by(try dsimp only);omega,l,A,y,m,b q (.refl j) V⟩,af.keep (by simp[hw]) rfl⟩
  .have kP:=Lw M bh q l.q j hn u;have G3:=HpTo.put j (u:Int);have V:(u:Int)∈(eG q u).1.row:=by
    have h0:(eG q u).2=0:=by unfold eG;rw[RH (by simp[hv]),RH (by simpa using d)]
    exact((zY j (u:Int)).2.2.1 h0).symm.subset (by simp)
   have B:q.pl.getD u 0<0:=by omega
   have L3:=l.heap (eG q u).1;have X3:=A.trans (Ext.set bh (au (eG q u).1) (.inr (.inl rfl)));generalize eG q u=R at*;simp only[RG]at d B;simp[d,B];refine aQ.meet Q0 ⟨[(0,.pv (.ptr be 0)),(11,.pv (.seq true 1 (aa zs))),(12,.pv (ae zs.length)),(13,.pv (ae i))],M.set bh (au R.1)⟩ (by kernel_rfl) ?_ ?_
   .simp[Q0,k,a,bQ]
    repeat' first
     |trivial
     |refine And.intro ?_ ?_
     |(refine ai.intro K ?_;simp[k,a,bQ])
     |(refine aj.intro kP ?_;rintro _ _ ⟨rfl,rfl⟩;simp;exact af.keep (by simp) rfl)
   .simp;exact⟨(i+1,_,R.1,G),by(try dsimp only);omega,⟨by(try dsimp only);omega,L3,X3,y.trans G3,m,b R.1 G3 V⟩,af.keep (by simp[hw]) rfl⟩
 .have Q:i=zs.length:=by omega
  subst Q;have l:=I.eng {E with T:=er E.T v,q:=q,ph:=p,con:=-1,calm:=false} rfl rfl rfl rfl;have A:=N.trans (Ext.set be (bQ bt ba bw bh {E with T:=er E.T v,q:=q,ph:=p,con:=-1,calm:=false}) (.inl rfl));rw[R8]at hin;simp[o,f,bQ]at l A⊢;exact⟨q,p,l,A,y,s,λz h1 h2=>hin z (z3 z h1 h2)⟩
end
def Ry:Sch:=
 let a:Sch:=.fork [(10,.take 11 (.take 12 (.take 13 (.take 14 (.take 15 .done)))))]
 let b:Sch:=.fork [(7,a)]
 let c:Sch:=.fork [(3,a)]
 .take 0 (.take 1 (.take 2 (.take 4 (.take 5 (.take 6 (.take 8 (.take 9 (.fork [(3,b),(7,c)]))))))))
def Cx(E:ES)(c:List Int)(b:Bool)(q:HS):ES:={E with id:=E.id+1,A:=dx E.A (E.id+1) c b,over:=E.over||decide (c.length=0),S:=oE (dx E.A (E.id+1) c b) E.T E.S E.A.row.length,q:=q}
section
variable {h : List (List SV)} {be bt ba bw bh : Nat} {mp : List (Int × Nat)} {mb : List (Int × By)} {E : ES}
set_option maxRecDepth 16000 in
theorem Ef(L:LayE h be bt ba bw bh mp mb E){n:Nat}(I:TOk n E.T)(g:HpG n 1000000000000 E.q)(oM:0<=E.id∧E.id<=1000000)(c:List Int)(b:Bool)(hp:jw (E.id+1) c=0)(hk:lw (dx E.A (E.id+1) c b))(hr:(dx E.A (E.id+1) c b).row.length<=1000000)(ab:E.A.row.length<=1000000)(hc:c.length<=1000000):
 aB Tryz.prog 68 [.ptr be 0,.seq false 1 (aa c),BL b] h (λr h'=>r=.pv (ae E.A.row.length)∧∃mp' q,LayE h' be bt ba bw bh mp' mb (Cx E c b q)∧Ext h h' (df be bt ba bw bh mp mb) (df be bt ba bw bh mp' mb)∧HpTo n E.q q):=by
 refine cR [2,8] [.tmp 6] aE Tryz.func68 ?_;have hf:=I.few;have hn:=I.hn;have M:aR (E.id+1)=E.id+1:=ap (by omega) (by omega);obtain⟨j,f⟩:=RE.1 L.e;have y:=L.eng {E with id:=E.id+1} rfl rfl rfl rfl;have P:=Ext.set (D:=df be bt ba bw bh mp mb) (h:=h) be (bQ bt ba bw bh {E with id:=E.id+1}) (.inl rfl);generalize l:h.set be (bQ bt ba bw bh {E with id:=E.id+1})=C at*;simp only[bQ]at l;simp[f,j,bQ,M,l];clear j f;obtain⟨j,f⟩:=RE.1 y.e;have N:=Ja C ba E.A y.w.a (E.id+1) c b hc (by omega);rw[hp]at N;have t:=y.arena (dx E.A (E.id+1) c b);have z:=P.trans (Ext.set ba (mD (dx E.A (E.id+1) c b)) (.inr (.inr (.inl rfl))));have U:Cx E c b=λq=>{E with id:=E.id+1,A:=dx E.A (E.id+1) c b,over:=E.over||decide (c.length=0),S:=oE (dx E.A (E.id+1) c b) E.T E.S E.A.row.length,q:=q}:=rfl;obtain⟨B,o⟩:∃x,decide (c.length=0)=x:=⟨_,rfl⟩;rw[o]at U;simp only[Td]at o;generalize Cx E c b=AE at*;generalize dx E.A (E.id+1) c b=k at*;refine aQ.meet Ry ⟨[(0,.pv (.ptr be 0)),(1,.pv (.seq false 1 (aa c))),(2,.pv (BL b)),(6,.pv (ae 0)),(7,.pv (ae E.A.row.length))],C.set ba (mD k)⟩ (by kernel_rfl) ?_ ?_
 .simp[Ry,f,j,bQ]
  repeat' first
   |trivial
   |refine And.intro ?_ ?_
   |(refine aj.intro N ?_;rintro _ _ ⟨rfl,rfl⟩;simp;exact af.keep (by simp) rfl)
 clear j f;generalize C.set ba (mD k)=X at*;obtain⟨j,f⟩:=RE.1 t.e;have L3:=t.eng {E with id:=E.id+1,A:=k,over:=E.over||B} rfl rfl rfl rfl;have Q:=z.trans (Ext.set be (bQ bt ba bw bh {E with id:=E.id+1,A:=k,over:=E.over||B}) (.inl rfl));generalize m:X.set be (bQ bt ba bw bh {E with id:=E.id+1,A:=k,over:=E.over||B})=Y at*;simp only[bQ]at m;have V:=Ci Y bw ba bt mp mb k E.T E.S L3.w hk hr (by rw[I.len];omega) (by omega) E.A.row.length;simp[f,j,bQ,o,m];clear j f;obtain⟨j,f⟩:=RE.1 L3.e;simp[f,j,bQ];refine aj.intro V ?_;rintro _ Z ⟨rfl,p,O,F⟩;have L4:=L3.watch O F;have X5:=Q.trans (Ext.eng (be:=be) (bh:=bh) (ba:=ba) F);clear L y t L3 P z Q F O V j f l m N;generalize oE k E.T E.S E.A.row.length=S2 at*;simp;refine av.intro (S:=λ(x:Nat×List (List SV)×HS)=>⟨[(0,.pv (.ptr be 0)),(7,.pv (ae E.A.row.length)),(50,.pv (.seq false 1 (aa c))),(51,.pv (ae c.length)),(52,.pv (ae x.1))],x.2.1⟩)
  (λx=>x.1<=c.length∧LayE x.2.1 be bt ba bw bh p mb {E with id:=E.id+1,A:=k,over:=E.over||B,S:=S2,q:=x.2.2}∧Ext h x.2.1 (df be bt ba bw bh mp mb) (df be bt ba bw bh p mb)∧HpTo n E.q x.2.2) (λx=>c.length -x.1) (0,Z,E.q) ?_ ⟨RW _,L4,X5,.refl g⟩ ?_
 .exact af.keep (by simp) rfl
 rintro⟨i,H,q⟩ ⟨J,u,G,s⟩;dsimp only at J u G s;obtain⟨j,f⟩:=RE.1 u.e
 by_cases d:i<c.length
 .have hw:=dq i;have kV:=aJ c[i];have kB:=zZ H bh q u.q s.hp hn (ah c[i]) 1;have t:=u.heap (fc q (ah c[i]) 1).1;have z:=G.trans (Ext.set bh (au (fc q (ah c[i]) 1).1) (.inr (.inl rfl)));have W:=s.trans (HpTo.bump s.hp (ah c[i]) 1);generalize ah c[i]=v at*;generalize fc q v 1=R at*;simp[d];refine aQ.meet Q0 ⟨[(0,.pv (.ptr be 0)),(7,.pv (ae E.A.row.length)),(50,.pv (.seq false 1 (aa c))),(51,.pv (ae c.length)),(52,.pv (ae i))],H.set bh (au R.1)⟩ (by kernel_rfl) ?_ ?_
  .simp[Q0,f,j,bQ]
   repeat' first
    |trivial
    |refine And.intro ?_ ?_
    |(refine ai.intro kV ?_;simp[f,j,bQ])
    |(refine aj.intro kB ?_;rintro _ _ ⟨rfl,rfl⟩;simp;exact af.keep (by simp) rfl)
  .simp;exact⟨(i+1,_,R.1),by(try dsimp only);omega,⟨by(try dsimp only);omega,t,z,W⟩,af.keep (by simp[hw]) rfl⟩
 .have K:i=c.length:=by omega
  subst K;simp;exact⟨p,q,by rw[U];exact u,G,s⟩
end
end Go.AX