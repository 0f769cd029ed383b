/-
  Contracts: engines: a level gone back to, a clause added.
  Contracts: engines: a clause added; a literal decided.
-/
import Derived.Test.YtepodadinenmnaaGreatS14AxEgD
namespace Go.AX
open Go.Proofs
set_option linter.unusedSimpArgs false
theorem y8(T:Tr):∀j,j<=T.lits.length->∀z,z∈sK T j↔z∈T.lits.drop (T.lits.length -j)
 |0,_,z=>by simp[sK]
 |j+1,hj,z=>by
  have c:T.lits.length -(j+1)<T.lits.length:=by omega
  have a:(popN T j).lits.getD ((popN T j).lits.length -1) 0=T.lits[T.lits.length -(j+1)]:=by
   have b:(popN T j).lits.length=T.lits.length -j:=by rw[dX,Qg];omega
   rw[b,dX,P9,Re,Qb (by omega),show T.lits.length -j -1=T.lits.length -(j+1) by omega,P8 c];rfl
  rw[sK,a,Qn,y8 T j (by omega) z,QU c,show T.lits.length -(j+1)+1=T.lits.length -j by omega];simp[or_comm]
theorem Km(h:List (List SV))(b:Nat){n:Nat}(T:Tr)(i:h[b]?=some (gi T))(d:TOk n T)(v:Int):
 ay Tryz.prog 131 [.ptr b 0,af v] h (λr h'=>h'=h.set b (gi (fl T v))∧∃zs,r=.pv (.seq true 1 (ab zs))∧zs.length<=T.lits.length∧(∀z∈zs,z∈T.lits)∧∀z∈T.lits,z∉(fl T v).lits->z∈zs):=by
 have o:=d.few;have hn:=d.hn
 by_cases c:(if v<0 then(0:Int)else v)<(T.beg.length:Int)
 .obtain⟨k,hk⟩:∃k:Nat,(if v<0 then(0:Int)else v)=k:=⟨(if v<0 then(0:Int)else v).toNat,by split<;>omega⟩;have a:k<T.beg.length:=by rw[hk]at c;omega
  have e:T.beg.getD k 0=T.beg[k]:=by rw[P9,P8 a];rfl
  have m:=d.bnd _ (Qe a);have g:fl T v=cE T k:=by unfold fl;rw[Qb c,hk];rfl
  have j:=y8 T (T.lits.length -(T.beg[k]).toNat) (by omega);rw[g];refine(HI h b T i v k hk a (by rw[e];omega) (by omega) λy hy=>?_).mono ?_
  .obtain⟨_,_,_,p,q,_⟩:=b8 hn (d.chk y hy);rw[d.len];omega
  .rintro r h' ⟨rfl,rfl⟩;rw[e];refine⟨rfl,_,rfl,by rw[sL];omega,λz hz=>R0 ((j z).1 hz),λz hz f=>(j z).2 ?_⟩;rw[(d.back a).2.1]at f;rw[show T.lits.length -(T.lits.length -(T.beg[k]).toNat)=(T.beg[k]).toNat by omega];have:=Q7 (T.beg[k]).toNat T.lits;rw[←this]at hz;exact(Qn.1 hz).resolve_left f
 .have g:fl T v=T:=by unfold fl;rw[Qa c]
  rw[g,da i];refine(HH h b T i v c).mono ?_;rintro r h' ⟨rfl,rfl⟩;exact⟨rfl,_,rfl,by simp,by simp,λz h1 l=>absurd h1 l⟩
def Pw:Sch:=
 let a:Sch:=.fork [(6,.done)]
 let b:Sch:=.fork [(5,a)]
 let c:Sch:=.fork [(3,a)]
 .take 0 (.take 1 (.take 2 (.take 4 (.fork [(3,b),(5,c)]))))
section
variable {h : List (List SV)} {be bt ba bw bh : Nat} {mp : List (Int × Nat)} {mb : List (Int × By)} {E : ES}
set_option maxRecDepth 16000 in
theorem y9(L:LayE h be bt ba bw bh mp mb E){n:Nat}(J:TOk n E.T)(g:HpG n 1000000000000 E.q)(hp:E.ph.length=n+1)(v:Int):
 ay Tryz.prog 69 [.ptr be 0,af v] h (λr h'=>r=.pv (.tup [])∧∃q p,LayE h' be bt ba bw bh mp mb {E with T:=fl E.T v,q:=q,ph:=p,con:=-1,calm:=false}∧Ext h h' (eG be bt ba bw bh mp mb) (eG be bt ba bw bh mp mb)∧HpTo n E.q q∧p.length=n+1∧∀z∈E.T.lits,z∉(fl E.T v).lits->ae z∈q.row):=by
 refine cY [5] [] aD Tryz.func69 ?_;have hf:=J.few;have hn:=J.hn;obtain⟨U,O⟩:=P7.1 L.e;have kB:=Km h bt E.T L.w.t J v;have L1:=L.trail (fl E.T v);have X1:=Ext.set (D:=eG be bt ba bw bh mp mb) (h:=h) bt (gi (fl E.T v)) (.inr (.inr (.inr (.inr (.inl rfl)))));simp[O,U,bS];refine ak.intro kB ?_;rintro _ H1 ⟨rfl,zs,rfl,z1,z2,z3⟩;generalize h.set bt (gi (fl E.T v))=H1 at*;simp;refine aH.intro (S:=λ(x:Nat×List (List SV)×HS×List Bool)=>⟨[(0,.pv (.ptr be 0)),(11,.pv (.seq true 1 (ab zs))),(12,.pv (af zs.length)),(13,.pv (af x.1))],x.2.1⟩)
  (λx=>x.1<=zs.length∧LayE x.2.1 be bt ba bw bh mp mb {E with T:=fl E.T v,q:=x.2.2.1,ph:=x.2.2.2}∧Ext h x.2.1 (eG be bt ba bw bh mp mb) (eG be bt ba bw bh mp mb)∧HpTo n E.q x.2.2.1∧x.2.2.2.length=n+1∧∀z∈zs.take x.1,ae z∈x.2.2.1.row)
  (λx=>zs.length -x.1) (0,H1,E.q,E.ph) ?_ ⟨Qq _,L1,X1,.refl g,hp,by simp⟩ ?_
 .exact ai.keep (by simp) rfl
 rintro⟨i,H,q,p⟩ ⟨P,I,N,y,s,hin⟩;dsimp only at P I N y s hin;obtain⟨f,o⟩:=P7.1 I.e
 by_cases c:i<zs.length
 .have hw:=eq i;obtain⟨_,_,_,p1,G,_⟩:=b8 hn (J.chk _ (z2 _ (Qe c)));have K:=aG zs[i];have b:∀q':HS,HpTo n q q'->ae zs[i]∈q'.row->∀z∈zs.take (i+1),ae z∈q'.row:=λq' j h1 z hz=>by
   rw[Rf c,Qn]at hz;rcases hz with hz|hz
   .exact j.mem _ (hin z hz)
   .simp at hz;rw[hz];exact h1
  obtain⟨u,hu⟩:∃u:Nat,ae zs[i]=u:=⟨(ae zs[i]).toNat,by omega⟩;have l:=I.eng {E with T:=fl E.T v,q:=q,ph:=p.set u (decide (0<zs[i]))} rfl rfl rfl rfl;have A:=N.trans (Ext.set be (bS bt ba bw bh {E with T:=fl E.T v,q:=q,ph:=p.set u (decide (0<zs[i]))}) (.inl rfl));have X:u<p.length:=by omega
  rw[hu]at K b p1 G;have m:(p.set u (decide (0<zs[i]))).length=n+1:=by rw[Qz];exact s
  generalize hz:zs[i]=z at*;generalize W:p.set u (decide (0<z))=G at*;generalize C:H.set be (bS bt ba bw bh {E with T:=fl E.T v,q:=q,ph:=G})=M at*;simp only[bS]at C;obtain⟨a,k⟩:=P7.1 l.e;have Y:=gr (q:=q) l.q;have j:=y.hp;have Z:=wF q (by rw[j.sl];omega) (by rw[j.pll,j.sl]) u;have hv:sP q u=true:=j.isV_iff.2 (by omega);have F:=j.has_iff (v:=(u:Int)) (by omega);rw[hv,SY]at Z;simp[c,o,f,bS,hz];refine br.intro K ?_;simp[o,f,bS,X,xM,W,C,k,a];refine br.intro K ?_;simp[k,a,bS,Y];refine br.intro Z ?_;rw[Rm]at Z F
  by_cases d:0<=q.pl.getD u 0
  .have V:=F.1 d;have B:¬q.pl.getD u 0<0:=by omega
   simp only[P9]at d B;simp[d,B];exact⟨(i+1,M,q,G),by(try dsimp only);omega,⟨by(try dsimp only);omega,l,A,y,m,b q (.refl j) V⟩,ai.keep (by simp[hw]) rfl⟩
  .have kP:=Kf M bh q l.q j hn u;have G3:=HpTo.put j (u:Int);have V:(u:Int)∈(d9 q u).1.row:=by
    have h0:(d9 q u).2=0:=by unfold d9;rw[Qa (by simp[hv]),Qa (by simpa using d)]
    exact((yO j (u:Int)).2.2.1 h0).symm.subset (by simp)
   have B:q.pl.getD u 0<0:=by omega
   have L3:=l.heap (d9 q u).1;have X3:=A.trans (Ext.set bh (ap (d9 q u).1) (.inr (.inl rfl)));generalize d9 q u=R at*;simp only[P9]at d B;simp[d,B];refine bd.meet Pw ⟨[(0,.pv (.ptr be 0)),(11,.pv (.seq true 1 (ab zs))),(12,.pv (af zs.length)),(13,.pv (af i))],M.set bh (ap R.1)⟩ (by kernel_rfl) ?_ ?_
   .simp[Pw,k,a,bS]
    repeat' first
     |trivial
     |refine And.intro ?_ ?_
     |(refine ah.intro K ?_;simp[k,a,bS])
     |(refine ak.intro kP ?_;rintro _ _ ⟨rfl,rfl⟩;simp;exact ai.keep (by simp) rfl)
   .simp;exact⟨(i+1,_,R.1,G),by(try dsimp only);omega,⟨by(try dsimp only);omega,L3,X3,y.trans G3,m,b R.1 G3 V⟩,ai.keep (by simp[hw]) rfl⟩
 .have Q:i=zs.length:=by omega
  subst Q;have l:=I.eng {E with T:=fl E.T v,q:=q,ph:=p,con:=-1,calm:=false} rfl rfl rfl rfl;have A:=N.trans (Ext.set be (bS bt ba bw bh {E with T:=fl E.T v,q:=q,ph:=p,con:=-1,calm:=false}) (.inl rfl));rw[QO]at hin;simp[o,f,bS]at l A⊢;exact⟨q,p,l,A,y,s,λz h1 h2=>hin z (z3 z h1 h2)⟩
end
def P3:Sch:=
 let a:Sch:=.fork [(10,.take 11 (.take 12 (.take 13 (.take 14 (.take 15 .done)))))]
 let b:Sch:=.fork [(7,a)]
 let c:Sch:=.fork [(3,a)]
 .take 0 (.take 1 (.take 2 (.take 4 (.take 5 (.take 6 (.take 8 (.take 9 (.fork [(3,b),(7,c)]))))))))
def Bk(E:ES)(c:List Int)(b:Bool)(q:HS):ES:={E with id:=E.id+1,A:=dh E.A (E.id+1) c b,over:=E.over||decide (c.length=0),S:=nZ (dh E.A (E.id+1) c b) E.T E.S E.A.row.length,q:=q}
section
variable {h : List (List SV)} {be bt ba bw bh : Nat} {mp : List (Int × Nat)} {mb : List (Int × By)} {E : ES}
set_option maxRecDepth 16000 in
theorem CX(L:LayE h be bt ba bw bh mp mb E){n:Nat}(I:TOk n E.T)(g:HpG n 1000000000000 E.q)(oi:0<=E.id∧E.id<=1000000)(c:List Int)(b:Bool)(hp:jb (E.id+1) c=0)(hk:kJ (dh E.A (E.id+1) c b))(hr:(dh E.A (E.id+1) c b).row.length<=1000000)(aa:E.A.row.length<=1000000)(hc:c.length<=1000000):
 ay Tryz.prog 68 [.ptr be 0,.seq false 1 (ab c),BL b] h (λr h'=>r=.pv (af E.A.row.length)∧∃mp' q,LayE h' be bt ba bw bh mp' mb (Bk E c b q)∧Ext h h' (eG be bt ba bw bh mp mb) (eG be bt ba bw bh mp' mb)∧HpTo n E.q q):=by
 refine cY [2,8] [.tmp 6] aD Tryz.func68 ?_;have hf:=I.few;have hn:=I.hn;have M:aX (E.id+1)=E.id+1:=aq (by omega) (by omega);obtain⟨j,f⟩:=P7.1 L.e;have y:=L.eng {E with id:=E.id+1} rfl rfl rfl rfl;have P:=Ext.set (D:=eG be bt ba bw bh mp mb) (h:=h) be (bS bt ba bw bh {E with id:=E.id+1}) (.inl rfl);generalize l:h.set be (bS bt ba bw bh {E with id:=E.id+1})=C at*;simp only[bS]at l;simp[f,j,bS,M,l];clear j f;obtain⟨j,f⟩:=P7.1 y.e;have N:=HJ C ba E.A y.w.a (E.id+1) c b hc (by omega);rw[hp]at N;have t:=y.arena (dh E.A (E.id+1) c b);have z:=P.trans (Ext.set ba (l6 (dh E.A (E.id+1) c b)) (.inr (.inr (.inl rfl))));have U:Bk E c b=λq=>{E with id:=E.id+1,A:=dh E.A (E.id+1) c b,over:=E.over||decide (c.length=0),S:=nZ (dh E.A (E.id+1) c b) E.T E.S E.A.row.length,q:=q}:=rfl;obtain⟨B,o⟩:∃x,decide (c.length=0)=x:=⟨_,rfl⟩;rw[o]at U;simp only[Rj]at o;generalize Bk E c b=AE at*;generalize dh E.A (E.id+1) c b=k at*;refine bd.meet P3 ⟨[(0,.pv (.ptr be 0)),(1,.pv (.seq false 1 (ab c))),(2,.pv (BL b)),(6,.pv (af 0)),(7,.pv (af E.A.row.length))],C.set ba (l6 k)⟩ (by kernel_rfl) ?_ ?_
 .simp[P3,f,j,bS]
  repeat' first
   |trivial
   |refine And.intro ?_ ?_
   |(refine ak.intro N ?_;rintro _ _ ⟨rfl,rfl⟩;simp;exact ai.keep (by simp) rfl)
 clear j f;generalize C.set ba (l6 k)=X at*;obtain⟨j,f⟩:=P7.1 t.e;have L3:=t.eng {E with id:=E.id+1,A:=k,over:=E.over||B} rfl rfl rfl rfl;have Q:=z.trans (Ext.set be (bS bt ba bw bh {E with id:=E.id+1,A:=k,over:=E.over||B}) (.inl rfl));generalize m:X.set be (bS bt ba bw bh {E with id:=E.id+1,A:=k,over:=E.over||B})=Y at*;simp only[bS]at m;have V:=A5 Y bw ba bt mp mb k E.T E.S L3.w hk hr (by rw[I.len];omega) (by omega) E.A.row.length;simp[f,j,bS,o,m];clear j f;obtain⟨j,f⟩:=P7.1 L3.e;simp[f,j,bS];refine ak.intro V ?_;rintro _ Z ⟨rfl,p,O,F⟩;have L4:=L3.watch O F;have X5:=Q.trans (Ext.eng (be:=be) (bh:=bh) (ba:=ba) F);clear L y t L3 P z Q F O V j f l m N;generalize nZ k E.T E.S E.A.row.length=S2 at*;simp;refine aH.intro (S:=λ(x:Nat×List (List SV)×HS)=>⟨[(0,.pv (.ptr be 0)),(7,.pv (af E.A.row.length)),(50,.pv (.seq false 1 (ab c))),(51,.pv (af c.length)),(52,.pv (af x.1))],x.2.1⟩)
  (λx=>x.1<=c.length∧LayE x.2.1 be bt ba bw bh p mb {E with id:=E.id+1,A:=k,over:=E.over||B,S:=S2,q:=x.2.2}∧Ext h x.2.1 (eG be bt ba bw bh mp mb) (eG be bt ba bw bh p mb)∧HpTo n E.q x.2.2) (λx=>c.length -x.1) (0,Z,E.q) ?_ ⟨Qq _,L4,X5,.refl g⟩ ?_
 .exact ai.keep (by simp) rfl
 rintro⟨i,H,q⟩ ⟨J,u,G,s⟩;dsimp only at J u G s;obtain⟨j,f⟩:=P7.1 u.e
 by_cases d:i<c.length
 .have hw:=eq i;have kV:=aG c[i];have kB:=yP H bh q u.q s.hp hn (ae c[i]) 1;have t:=u.heap (eF q (ae c[i]) 1).1;have z:=G.trans (Ext.set bh (ap (eF q (ae c[i]) 1).1) (.inr (.inl rfl)));have W:=s.trans (HpTo.bump s.hp (ae c[i]) 1);generalize ae c[i]=v at*;generalize eF q v 1=R at*;simp[d];refine bd.meet Pw ⟨[(0,.pv (.ptr be 0)),(7,.pv (af E.A.row.length)),(50,.pv (.seq false 1 (ab c))),(51,.pv (af c.length)),(52,.pv (af i))],H.set bh (ap R.1)⟩ (by kernel_rfl) ?_ ?_
  .simp[Pw,f,j,bS]
   repeat' first
    |trivial
    |refine And.intro ?_ ?_
    |(refine ah.intro kV ?_;simp[f,j,bS])
    |(refine ak.intro kB ?_;rintro _ _ ⟨rfl,rfl⟩;simp;exact ai.keep (by simp) rfl)
  .simp;exact⟨(i+1,_,R.1),by(try dsimp only);omega,⟨by(try dsimp only);omega,t,z,W⟩,ai.keep (by simp[hw]) rfl⟩
 .have K:i=c.length:=by omega
  subst K;simp;exact⟨p,q,by rw[U];exact u,G,s⟩
end
end Go.AX