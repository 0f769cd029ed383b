/-
  Contracts: engines: a level gone back to, a clause added.
  Contracts: engines: a clause added; a literal decided.
-/
import Derived.Test.YtepodadinenmnaaGreatS14AxEgD
namespace Go.AX
open Go.Proofs
set_option linter.unusedSimpArgs false
theorem xe(T:Tr):∀j,j<=T.lits.length->∀z,z∈ro T j↔z∈T.lits.drop (T.lits.length -j)
 |0,_,z=>by simp[ro]
 |j+1,hj,z=>by
  have c:T.lits.length -(j+1)<T.lits.length:=by omega
  have a:(popN T j).lits.getD ((popN T j).lits.length -1) 0=T.lits[T.lits.length -(j+1)]:=by
   have b:(popN T j).lits.length=T.lits.length -j:=by rw[dI,Oe];omega
   rw[b,dI,N7,O6,N9 (by omega),show T.lits.length -j -1=T.lits.length -(j+1) by omega,N6 c];rfl
  rw[ro,a,Om,xe T j (by omega) z,O0 c,show T.lits.length -(j+1)+1=T.lits.length -j by omega];simp[or_comm]
theorem HF(h:List (List SV))(b:Nat){n:Nat}(T:Tr)(i:h[b]?=some (fD T))(d:TOk n T)(v:Int):
 aB Tryz.prog 131 [.ptr b 0,ae v] h (λr h'=>h'=h.set b (fD (dW T v))∧∃zs,r=.pv (.seq true 1 (af zs))∧zs.length<=T.lits.length∧(∀z∈zs,z∈T.lits)∧∀z∈T.lits,z∉(dW T v).lits->z∈zs):=by
 have o:=d.few;have hn:=d.hn
 by_cases c:(if v<0 then(0:Int)else v)<(T.beg.length:Int)
 .obtain⟨k,hk⟩:∃k:Nat,(if v<0 then(0:Int)else v)=k:=⟨(if v<0 then(0:Int)else v).toNat,by split<;>omega⟩;have a:k<T.beg.length:=by rw[hk]at c;omega
  have e:T.beg.getD k 0=T.beg[k]:=by rw[N7,N6 a];rfl
  have m:=d.bnd _ (Od a);have g:dW T v=cq T k:=by unfold dW;rw[N9 c,hk];rfl
  have j:=xe T (T.lits.length -(T.beg[k]).toNat) (by omega);rw[g];refine(E9 h b T i v k hk a (by rw[e];omega) (by omega) λy hy=>?_).mono ?_
  .obtain⟨_,_,_,p,q,_⟩:=bm hn (d.chk y hy);rw[d.len];omega
  .rintro r h' ⟨rfl,rfl⟩;rw[e];refine⟨rfl,_,rfl,by rw[rp];omega,λz hz=>PZ ((j z).1 hz),λz hz f=>(j z).2 ?_⟩;rw[(d.back a).2.1]at f;rw[show T.lits.length -(T.lits.length -(T.beg[k]).toNat)=(T.beg[k]).toNat by omega];have:=O8 (T.beg[k]).toNat T.lits;rw[←this]at hz;exact(Om.1 hz).resolve_left f
 .have g:dW T v=T:=by unfold dW;rw[N8 c]
  rw[g,cN i];refine(E8 h b T i v c).mono ?_;rintro r h' ⟨rfl,rfl⟩;exact⟨rfl,_,rfl,by simp,by simp,λz h1 l=>absurd h1 l⟩
def M9:Sch:=
 let a:Sch:=.fork [(6,.done)]
 let b:Sch:=.fork [(5,a)]
 let c:Sch:=.fork [(3,a)]
 .take 0 (.take 1 (.take 2 (.take 4 (.fork [(3,b),(5,c)]))))
section
variable {h : List (List SV)} {be bt ba bw bh : Nat} {mp : List (Int × Nat)} {mb : List (Int × By)} {E : ES}
set_option maxRecDepth 16000 in
theorem xf(L:LayE h be bt ba bw bh mp mb E){n:Nat}(J:TOk n E.T)(g:HpG n 1000000000000 E.q)(hp:E.ph.length=n+1)(v:Int):
 aB Tryz.prog 69 [.ptr be 0,ae v] h (λr h'=>r=.pv (.tup [])∧∃q p,LayE h' be bt ba bw bh mp mb {E with T:=dW E.T v,q:=q,ph:=p,con:=-1,calm:=false}∧Ext h h' (cZ be bt ba bw bh mp mb) (cZ be bt ba bw bh mp mb)∧HpTo n E.q q∧p.length=n+1∧∀z∈E.T.lits,z∉(dW E.T v).lits->ab z∈q.row):=by
 refine cL [5] [] aG Tryz.func69 ?_;have hf:=J.few;have hn:=J.hn;obtain⟨U,O⟩:=N5.1 L.e;have kB:=HF h bt E.T L.w.t J v;have L1:=L.trail (dW E.T v);have X1:=Ext.set (D:=cZ be bt ba bw bh mp mb) (h:=h) bt (fD (dW E.T v)) (.inr (.inr (.inr (.inr (.inl rfl)))));simp[O,U,bV];refine am.intro kB ?_;rintro _ H1 ⟨rfl,zs,rfl,z1,z2,z3⟩;generalize h.set bt (fD (dW E.T v))=H1 at*;simp;refine aJ.intro (S:=λ(x:Nat×List (List SV)×HS×List Bool)=>⟨[(0,.pv (.ptr be 0)),(11,.pv (.seq true 1 (af zs))),(12,.pv (ae zs.length)),(13,.pv (ae x.1))],x.2.1⟩)
  (λx=>x.1<=zs.length∧LayE x.2.1 be bt ba bw bh mp mb {E with T:=dW E.T v,q:=x.2.2.1,ph:=x.2.2.2}∧Ext h x.2.1 (cZ be bt ba bw bh mp mb) (cZ be bt ba bw bh mp mb)∧HpTo n E.q x.2.2.1∧x.2.2.2.length=n+1∧∀z∈zs.take x.1,ab z∈x.2.2.1.row)
  (λx=>zs.length -x.1) (0,H1,E.q,E.ph) ?_ ⟨Oz _,L1,X1,.refl g,hp,by simp⟩ ?_
 .exact ai.keep (by simp) rfl
 rintro⟨i,H,q,p⟩ ⟨P,I,N,y,s,hin⟩;dsimp only at P I N y s hin;obtain⟨f,o⟩:=N5.1 I.e
 by_cases c:i<zs.length
 .have hw:=fQ i;obtain⟨_,_,_,p1,G,_⟩:=bm hn (J.chk _ (z2 _ (Od c)));have K:=aF zs[i];have b:∀q':HS,HpTo n q q'->ab zs[i]∈q'.row->∀z∈zs.take (i+1),ab z∈q'.row:=λq' j h1 z hz=>by
   rw[PH c,Om]at hz;rcases hz with hz|hz
   .exact j.mem _ (hin z hz)
   .simp at hz;rw[hz];exact h1
  obtain⟨u,hu⟩:∃u:Nat,ab zs[i]=u:=⟨(ab zs[i]).toNat,by omega⟩;have l:=I.eng {E with T:=dW E.T v,q:=q,ph:=p.set u (decide (0<zs[i]))} rfl rfl rfl rfl;have A:=N.trans (Ext.set be (bV bt ba bw bh {E with T:=dW E.T v,q:=q,ph:=p.set u (decide (0<zs[i]))}) (.inl rfl));have X:u<p.length:=by omega
  rw[hu]at K b p1 G;have m:(p.set u (decide (0<zs[i]))).length=n+1:=by rw[OE];exact s
  generalize hz:zs[i]=z at*;generalize W:p.set u (decide (0<z))=G at*;generalize C:H.set be (bV bt ba bw bh {E with T:=dW E.T v,q:=q,ph:=G})=M at*;simp only[bV]at C;obtain⟨a,k⟩:=N5.1 l.e;have Y:=fN (q:=q) l.q;have j:=y.hp;have Z:=uR q (by rw[j.sl];omega) (by rw[j.pll,j.sl]) u;have hv:rv q u=true:=j.isV_iff.2 (by omega);have F:=j.has_iff (v:=(u:Int)) (by omega);rw[hv,Q2]at Z;simp[c,o,f,bV,hz];refine bA.intro K ?_;simp[o,f,bV,X,v7,W,C,k,a];refine bA.intro K ?_;simp[k,a,bV,Y];refine bA.intro Z ?_;rw[Pe]at Z F
  by_cases d:0<=q.pl.getD u 0
  .have V:=F.1 d;have B:¬q.pl.getD u 0<0:=by omega
   simp only[N7]at d B;simp[d,B];exact⟨(i+1,M,q,G),by(try dsimp only);omega,⟨by(try dsimp only);omega,l,A,y,m,b q (.refl j) V⟩,ai.keep (by simp[hw]) rfl⟩
  .have kP:=Hx M bh q l.q j hn u;have G3:=HpTo.put j (u:Int);have V:(u:Int)∈(dV q u).1.row:=by
    have h0:(dV q u).2=0:=by unfold dV;rw[N8 (by simp[hv]),N8 (by simpa using d)]
    exact((wU j (u:Int)).2.2.1 h0).symm.subset (by simp)
   have B:q.pl.getD u 0<0:=by omega
   have L3:=l.heap (dV q u).1;have X3:=A.trans (Ext.set bh (ao (dV q u).1) (.inr (.inl rfl)));generalize dV q u=R at*;simp only[N7]at d B;simp[d,B];refine aX.meet M9 ⟨[(0,.pv (.ptr be 0)),(11,.pv (.seq true 1 (af zs))),(12,.pv (ae zs.length)),(13,.pv (ae i))],M.set bh (ao R.1)⟩ (by kernel_rfl) ?_ ?_
   .simp[M9,k,a,bV]
    repeat' first
     |trivial
     |refine And.intro ?_ ?_
     |(refine aj.intro K ?_;simp[k,a,bV])
     |(refine am.intro kP ?_;rintro _ _ ⟨rfl,rfl⟩;simp;exact ai.keep (by simp) rfl)
   .simp;exact⟨(i+1,_,R.1,G),by(try dsimp only);omega,⟨by(try dsimp only);omega,L3,X3,y.trans G3,m,b R.1 G3 V⟩,ai.keep (by simp[hw]) rfl⟩
 .have Q:i=zs.length:=by omega
  subst Q;have l:=I.eng {E with T:=dW E.T v,q:=q,ph:=p,con:=-1,calm:=false} rfl rfl rfl rfl;have A:=N.trans (Ext.set be (bV bt ba bw bh {E with T:=dW E.T v,q:=q,ph:=p,con:=-1,calm:=false}) (.inl rfl));rw[OT]at hin;simp[o,f,bV]at l A⊢;exact⟨q,p,l,A,y,s,λz h1 h2=>hin z (z3 z h1 h2)⟩
end
def N0:Sch:=
 let a:Sch:=.fork [(10,.take 11 (.take 12 (.take 13 (.take 14 (.take 15 .done)))))]
 let b:Sch:=.fork [(7,a)]
 let c:Sch:=.fork [(3,a)]
 .take 0 (.take 1 (.take 2 (.take 4 (.take 5 (.take 6 (.take 8 (.take 9 (.fork [(3,b),(7,c)]))))))))
def zf(E:ES)(c:List Int)(b:Bool)(q:HS):ES:={E with id:=E.id+1,A:=cU E.A (E.id+1) c b,over:=E.over||decide (c.length=0),S:=nf (cU E.A (E.id+1) c b) E.T E.S E.A.row.length,q:=q}
section
variable {h : List (List SV)} {be bt ba bw bh : Nat} {mp : List (Int × Nat)} {mb : List (Int × By)} {E : ES}
set_option maxRecDepth 16000 in
theorem A3(L:LayE h be bt ba bw bh mp mb E){n:Nat}(G:TOk n E.T)(g:HpG n 1000000000000 E.q)(qj:0<=E.id∧E.id<=1000000)(c:List Int)(b:Bool)(hp:iC (E.id+1) c=0)(hk:jI (cU E.A (E.id+1) c b))(hr:(cU E.A (E.id+1) c b).row.length<=1000000)(aa:E.A.row.length<=1000000)(hc:c.length<=1000000):
 aB Tryz.prog 68 [.ptr be 0,.seq false 1 (af c),BL b] h (λr h'=>r=.pv (ae E.A.row.length)∧∃mp' q,LayE h' be bt ba bw bh mp' mb (zf E c b q)∧Ext h h' (cZ be bt ba bw bh mp mb) (cZ be bt ba bw bh mp' mb)∧HpTo n E.q q):=by
 refine cL [2,8] [.tmp 6] aG Tryz.func68 ?_;have hf:=G.few;have hn:=G.hn;have K:a8 (E.id+1)=E.id+1:=ap (by omega) (by omega);obtain⟨j,f⟩:=N5.1 L.e;have y:=L.eng {E with id:=E.id+1} rfl rfl rfl rfl;have O:=Ext.set (D:=cZ be bt ba bw bh mp mb) (h:=h) be (bV bt ba bw bh {E with id:=E.id+1}) (.inl rfl);generalize l:h.set be (bV bt ba bw bh {E with id:=E.id+1})=B at*;simp only[bV]at l;simp[f,j,bV,K,l];clear j f;obtain⟨j,f⟩:=N5.1 y.e;have M:=Fa B ba E.A y.w.a (E.id+1) c b hc (by omega);rw[hp]at M;have t:=y.arena (cU E.A (E.id+1) c b);have z:=O.trans (Ext.set ba (lm (cU E.A (E.id+1) c b)) (.inr (.inr (.inl rfl))));have Q:zf E c b=λq=>{E with id:=E.id+1,A:=cU E.A (E.id+1) c b,over:=E.over||decide (c.length=0),S:=nf (cU E.A (E.id+1) c b) E.T E.S E.A.row.length,q:=q}:=rfl;obtain⟨ov,o⟩:∃x,decide (c.length=0)=x:=⟨_,rfl⟩;rw[o]at Q;simp only[Qk]at o;generalize zf E c b=AE at*;generalize cU E.A (E.id+1) c b=k at*;refine aX.meet N0 ⟨[(0,.pv (.ptr be 0)),(1,.pv (.seq false 1 (af c))),(2,.pv (BL b)),(6,.pv (ae 0)),(7,.pv (ae E.A.row.length))],B.set ba (lm k)⟩ (by kernel_rfl) ?_ ?_
 .simp[N0,f,j,bV]
  repeat' first
   |trivial
   |refine And.intro ?_ ?_
   |(refine am.intro M ?_;rintro _ _ ⟨rfl,rfl⟩;simp;exact ai.keep (by simp) rfl)
 clear j f;generalize B.set ba (lm k)=W at*;obtain⟨j,f⟩:=N5.1 t.e;have L3:=t.eng {E with id:=E.id+1,A:=k,over:=E.over||ov} rfl rfl rfl rfl;have P:=z.trans (Ext.set be (bV bt ba bw bh {E with id:=E.id+1,A:=k,over:=E.over||ov}) (.inl rfl));generalize m:W.set be (bV bt ba bw bh {E with id:=E.id+1,A:=k,over:=E.over||ov})=X at*;simp only[bV]at m;have U:=yU X bw ba bt mp mb k E.T E.S L3.w hk hr (by rw[G.len];omega) (by omega) E.A.row.length;simp[f,j,bV,o,m];clear j f;obtain⟨j,f⟩:=N5.1 L3.e;simp[f,j,bV];refine am.intro U ?_;rintro _ Y ⟨rfl,p,N,C⟩;have Z:=L3.watch N C;have X5:=P.trans (Ext.eng (be:=be) (bh:=bh) (ba:=ba) C);clear L y t L3 O z P C N U j f l m M;generalize nf k E.T E.S E.A.row.length=S2 at*;simp;refine aJ.intro (S:=λ(x:Nat×List (List SV)×HS)=>⟨[(0,.pv (.ptr be 0)),(7,.pv (ae E.A.row.length)),(50,.pv (.seq false 1 (af c))),(51,.pv (ae c.length)),(52,.pv (ae x.1))],x.2.1⟩)
  (λx=>x.1<=c.length∧LayE x.2.1 be bt ba bw bh p mb {E with id:=E.id+1,A:=k,over:=E.over||ov,S:=S2,q:=x.2.2}∧Ext h x.2.1 (cZ be bt ba bw bh mp mb) (cZ be bt ba bw bh p mb)∧HpTo n E.q x.2.2) (λx=>c.length -x.1) (0,Y,E.q) ?_ ⟨Oz _,Z,X5,.refl g⟩ ?_
 .exact ai.keep (by simp) rfl
 rintro⟨i,H,q⟩ ⟨I,u,F,s⟩;dsimp only at I u F s;obtain⟨j,f⟩:=N5.1 u.e
 by_cases d:i<c.length
 .have hw:=fQ i;have kV:=aF c[i];have kB:=wV H bh q u.q s.hp hn (ab c[i]) 1;have t:=u.heap (d7 q (ab c[i]) 1).1;have z:=F.trans (Ext.set bh (ao (d7 q (ab c[i]) 1).1) (.inr (.inl rfl)));have V:=s.trans (HpTo.bump s.hp (ab c[i]) 1);generalize ab c[i]=v at*;generalize d7 q v 1=R at*;simp[d];refine aX.meet M9 ⟨[(0,.pv (.ptr be 0)),(7,.pv (ae E.A.row.length)),(50,.pv (.seq false 1 (af c))),(51,.pv (ae c.length)),(52,.pv (ae i))],H.set bh (ao R.1)⟩ (by kernel_rfl) ?_ ?_
  .simp[M9,f,j,bV]
   repeat' first
    |trivial
    |refine And.intro ?_ ?_
    |(refine aj.intro kV ?_;simp[f,j,bV])
    |(refine am.intro kB ?_;rintro _ _ ⟨rfl,rfl⟩;simp;exact ai.keep (by simp) rfl)
  .simp;exact⟨(i+1,_,R.1),by(try dsimp only);omega,⟨by(try dsimp only);omega,t,z,V⟩,ai.keep (by simp[hw]) rfl⟩
 .have J:i=c.length:=by omega
  subst J;simp;exact⟨p,q,by rw[Q];exact u,F,s⟩
end
end Go.AX