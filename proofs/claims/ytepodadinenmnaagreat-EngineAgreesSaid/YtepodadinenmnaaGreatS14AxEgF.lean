/-
  Contracts: engines: a level gone back to, a clause added.
  Contracts: engines: a clause added; a literal decided.
-/
import Derived.Test.YtepodadinenmnaaGreatS14AxEgD
namespace Go.AX
open Go.Proofs
set_option linter.unusedSimpArgs false
theorem w8(T:Tr):∀j,j≤T.lits.length→∀z,z∈re T j↔z∈T.lits.drop (T.lits.length -j)
 |0,_,z=>by simp[re]
 |j+1,hj,z=>by
  have hml:T.lits.length -(j+1)<T.lits.length:=by omega
  have hlast:(popN T j).lits.getD ((popN T j).lits.length -1) 0=T.lits[T.lits.length -(j+1)]:=by
   have hlen:(popN T j).lits.length=T.lits.length -j:=by rw[dJ,List.length_take];omega
   rw[hlen,dJ,List.getD_eq_getElem?_getD,List.getElem?_take,if_pos (by omega),show T.lits.length -j -1=T.lits.length -(j+1) by omega,List.getElem?_eq_getElem hml];rfl
  rw[re,hlast,List.mem_append,w8 T j (by omega) z,List.drop_eq_getElem_cons hml,show T.lits.length -(j+1)+1=T.lits.length -j by omega];simp[or_comm]
theorem Hl(h:List (List SV))(b:Nat){n:Nat}(T:Tr)(hb:h[b]?=some (fB T))(hT:TOk n T)(v:Int):
 aE Tryz.prog 131 [.ptr b 0,ae v] h (fun r h'=>h'=h.set b (fB (d7 T v))∧∃zs,r=.pv (.seq true 1 (af zs))∧zs.length≤T.lits.length∧(∀z∈zs,z∈T.lits)∧∀z∈T.lits,z∉(d7 T v).lits→z∈zs):=by
 have hf:=hT.few;have hn:=hT.hn
 by_cases c:(if v<0 then(0:Int)else v)<(T.beg.length:Int)
 ·obtain⟨k,hk⟩:∃k:Nat,(if v<0 then(0:Int)else v)=k:=⟨(if v<0 then(0:Int)else v).toNat,by split<;>omega⟩;have hkl:k<T.beg.length:=by rw[hk]at c;omega
  have hbg:T.beg.getD k 0=T.beg[k]:=by rw[List.getD_eq_getElem?_getD,List.getElem?_eq_getElem hkl];rfl
  have hbd:=hT.bnd _ (List.getElem_mem hkl);have hB:d7 T v=bZ T k:=by unfold d7;rw[if_pos c,hk];rfl
  have hm:=w8 T (T.lits.length -(T.beg[k]).toNat) (by omega);rw[hB];refine(EO h b T hb v k hk hkl (by rw[hbg];omega) (by omega) fun y hy=>?_).mono ?_
  ·obtain⟨_,_,_,p,q,_⟩:=bQ hn (hT.chk y hy);rw[hT.len];omega
  ·rintro r h' ⟨rfl,rfl⟩;rw[hbg];refine⟨rfl,_,rfl,by rw[rf];omega,fun z hz=>List.mem_of_mem_drop ((hm z).1 hz),fun z hz hz2=>(hm z).2 ?_⟩;rw[(hT.back hkl).2.1]at hz2;rw[show T.lits.length -(T.lits.length -(T.beg[k]).toNat)=(T.beg[k]).toNat by omega];have:=List.take_append_drop (T.beg[k]).toNat T.lits;rw[←this]at hz;exact(List.mem_append.1 hz).resolve_left hz2
 ·have hB:d7 T v=T:=by unfold d7;rw[if_neg c]
  rw[hB,cQ hb];refine(EM h b T hb v c).mono ?_;rintro r h' ⟨rfl,rfl⟩;exact⟨rfl,_,rfl,by simp,by simp,fun z h1 h2=>absurd h1 h2⟩
def Mh:Sch:=
 let s0:Sch:=.fork [(6,.done)]
 let s1:Sch:=.fork [(5,s0)]
 let s2:Sch:=.fork [(3,s0)]
 .take 0 (.take 1 (.take 2 (.take 4 (.fork [(3,s1),(5,s2)]))))
section
variable {h : List (List SV)} {be bt ba bw bh : Nat} {mp : List (Int × Nat)} {mb : List (Int × By)} {E : ES}
set_option maxRecDepth 16000 in
theorem xa(L:LayE h be bt ba bw bh mp mb E){n:Nat}(hT:TOk n E.T)(g:HpG n 1000000000000 E.q)(hp:E.ph.length=n+1)(v:Int):
 aE Tryz.prog 69 [.ptr be 0,ae v] h (fun r h'=>r=.pv (.tup [])∧∃q p,LayE h' be bt ba bw bh mp mb {E with T:=d7 E.T v,q:=q,ph:=p,con:=-1,calm:=false}∧Ext h h' (d9 be bt ba bw bh mp mb) (d9 be bt ba bw bh mp mb)∧HpTo n E.q q∧p.length=n+1∧∀z∈E.T.lits,z∉(d7 E.T v).lits→ab z∈q.row):=by
 refine dh [5] [] aG Tryz.func69 (by kernel_rfl) rfl rfl (by kernel_rfl) (Nat.le_of_ble_eq_true rfl) ?_;have hf:=hT.few;have hn:=hT.hn;obtain⟨hlt,hb'⟩:=List.getElem?_eq_some_iff.1 L.e;have kB:=Hl h bt E.T L.w.t hT v;have L1:=L.trail (d7 E.T v);have X1:=Ext.set (D:=d9 be bt ba bw bh mp mb) (h:=h) bt (fB (d7 E.T v)) (.inr (.inr (.inr (.inr (.inl rfl)))));simp[hb',hlt,bI];refine ak.intro kB (by simp) ?_;rintro _ H1 ⟨rfl,zs,rfl,z1,z2,z3⟩;generalize h.set bt (fB (d7 E.T v))=H1 at*;simp;refine aH.intro (S:=fun(x:Nat×List (List SV)×HS×List Bool)=>⟨[(0,.pv (.ptr be 0)),(11,.pv (.seq true 1 (af zs))),(12,.pv (ae zs.length)),(13,.pv (ae x.1))],x.2.1⟩)
  (fun x=>x.1≤zs.length∧LayE x.2.1 be bt ba bw bh mp mb {E with T:=d7 E.T v,q:=x.2.2.1,ph:=x.2.2.2}∧Ext h x.2.1 (d9 be bt ba bw bh mp mb) (d9 be bt ba bw bh mp mb)∧HpTo n E.q x.2.2.1∧x.2.2.2.length=n+1∧∀z∈zs.take x.1,ab z∈x.2.2.1.row)
  (fun x=>zs.length -x.1) (0,H1,E.q,E.ph) ?_ ⟨Nat.zero_le _,L1,X1,.refl g,hp,by simp⟩ ?_
 ·exact aj.keep (by simp) rfl
 rintro⟨i,H,q,p⟩ ⟨hi',LH,XH,GH,hpl,hin⟩;dsimp only at hi' LH XH GH hpl hin;obtain⟨hlt2,hb2⟩:=List.getElem?_eq_some_iff.1 LH.e
 by_cases c:i<zs.length
 ·have hw:aM ((i:Int)+1)=((i+1:Nat):Int):=by rw[ah (by omega) (by omega)];omega
  obtain⟨_,_,_,p1,p2,_⟩:=bQ hn (hT.chk _ (z2 _ (List.getElem_mem c)));have kV:=aD zs[i];have hin2:∀q':HS,HpTo n q q'→ab zs[i]∈q'.row→∀z∈zs.take (i+1),ab z∈q'.row:=fun q' hq h1 z hz=>by
   rw[List.take_succ_eq_append_getElem c,List.mem_append]at hz;rcases hz with hz|hz
   ·exact hq.mem _ (hin z hz)
   ·simp at hz;rw[hz];exact h1
  obtain⟨u,hu⟩:∃u:Nat,ab zs[i]=u:=⟨(ab zs[i]).toNat,by omega⟩;have L2:=LH.eng {E with T:=d7 E.T v,q:=q,ph:=p.set u (decide (0<zs[i]))} rfl rfl rfl rfl;have X2:=XH.trans (Ext.set be (bI bt ba bw bh {E with T:=d7 E.T v,q:=q,ph:=p.set u (decide (0<zs[i]))}) (.inl rfl));have hul:u<p.length:=by omega
  rw[hu]at kV hin2 p1 p2;have hpl2:(p.set u (decide (0<zs[i]))).length=n+1:=by rw[List.length_set];exact hpl
  generalize hz:zs[i]=z at*;generalize hp2:p.set u (decide (0<z))=p2 at*;generalize hH2:H.set be (bI bt ba bw bh {E with T:=d7 E.T v,q:=q,ph:=p2})=H2 at*;simp only[bI]at hH2;obtain⟨hlt3,hb3⟩:=List.getElem?_eq_some_iff.1 L2.e;have hz2:=fL (q:=q) L2.q;have hq:=GH.hp;have kH:=uO q (by rw[hq.sl];omega) (by rw[hq.pll,hq.sl]) u;have hv:rm q u=true:=hq.isV_iff.2 (by omega);have hhi:=hq.has_iff (v:=(u:Int)) (by omega);rw[hv,Bool.true_and]at kH;simp[c,hb2,hlt2,bI,hz];refine bs.intro kV (by simp) ?_;simp[hb2,hlt2,bI,hul,vX,hp2,hH2,hb3,hlt3];refine bs.intro kV (by simp) ?_;simp[hb3,hlt3,bI,hz2];refine bs.intro kH (by simp) ?_;rw[Int.toNat_natCast]at kH hhi
  by_cases d:0≤q.pl.getD u 0
  ·have hm:=hhi.1 d;have d2:¬q.pl.getD u 0<0:=by omega
   simp only[List.getD_eq_getElem?_getD]at d d2;simp[d,d2];exact⟨(i+1,H2,q,p2),by(try dsimp only);omega,⟨by(try dsimp only);omega,L2,X2,GH,hpl2,hin2 q (.refl hq) hm⟩,aj.keep (by simp[hw]) rfl⟩
  ·have kP:=Hc H2 bh q L2.q hq hn u;have G3:=HpTo.put hq (u:Int);have hm:(u:Int)∈(dV q u).1.row:=by
    have h0:(dV q u).2=0:=by unfold dV;rw[if_neg (by simp[hv]),if_neg (by simpa using d)]
    exact((wP hq (u:Int)).2.2.1 h0).symm.subset (by simp)
   have d2:q.pl.getD u 0<0:=by omega
   have L3:=L2.heap (dV q u).1;have X3:=X2.trans (Ext.set bh (ap (dV q u).1) (.inr (.inl rfl)));generalize dV q u=R at*;simp only[List.getD_eq_getElem?_getD]at d d2;simp[d,d2];refine aY.meet Mh ⟨[(0,.pv (.ptr be 0)),(11,.pv (.seq true 1 (af zs))),(12,.pv (ae zs.length)),(13,.pv (ae i))],H2.set bh (ap R.1)⟩ (by kernel_rfl) ?_ ?_
   ·simp[Mh,hb3,hlt3,bI]
    repeat' first
     |trivial
     |refine And.intro ?_ ?_
     |(refine am.intro kV (by simp) ?_;simp[hb3,hlt3,bI])
     |(refine ak.intro kP (by simp) ?_;rintro _ _ ⟨rfl,rfl⟩;simp;exact aj.keep (by simp) rfl)
   ·simp;exact⟨(i+1,_,R.1,p2),by(try dsimp only);omega,⟨by(try dsimp only);omega,L3,X3,GH.trans G3,hpl2,hin2 R.1 G3 hm⟩,aj.keep (by simp[hw]) rfl⟩
 ·have hie:i=zs.length:=by omega
  subst hie;have L2:=LH.eng {E with T:=d7 E.T v,q:=q,ph:=p,con:=-1,calm:=false} rfl rfl rfl rfl;have X2:=XH.trans (Ext.set be (bI bt ba bw bh {E with T:=d7 E.T v,q:=q,ph:=p,con:=-1,calm:=false}) (.inl rfl));rw[List.take_length]at hin;simp[hb2,hlt2,bI]at L2 X2⊢;exact⟨q,p,L2,X2,GH,hpl,fun z h1 h2=>hin z (z3 z h1 h2)⟩
end
def Ns:Sch:=
 let s0:Sch:=.fork [(10,.take 11 (.take 12 (.take 13 (.take 14 (.take 15 .done)))))]
 let s1:Sch:=.fork [(7,s0)]
 let s2:Sch:=.fork [(3,s0)]
 .take 0 (.take 1 (.take 2 (.take 4 (.take 5 (.take 6 (.take 8 (.take 9 (.fork [(3,s1),(7,s2)]))))))))
def y9(E:ES)(c:List Int)(b:Bool)(q:HS):ES:={E with id:=E.id+1,A:=cX E.A (E.id+1) c b,over:=E.over||decide (c.length=0),S:=mY (cX E.A (E.id+1) c b) E.T E.S E.A.row.length,q:=q}
section
variable {h : List (List SV)} {be bt ba bw bh : Nat} {mp : List (Int × Nat)} {mb : List (Int × By)} {E : ES}
set_option maxRecDepth 16000 in
theorem AU(L:LayE h be bt ba bw bh mp mb E){n:Nat}(hT:TOk n E.T)(g:HpG n 1000000000000 E.q)(vm:0≤E.id∧E.id≤1000000)(c:List Int)(b:Bool)(hp:iw (E.id+1) c=0)(hk:jC (cX E.A (E.id+1) c b))(hr:(cX E.A (E.id+1) c b).row.length≤1000000)(hr0:E.A.row.length≤1000000)(hc:c.length≤1000000):
 aE Tryz.prog 68 [.ptr be 0,.seq false 1 (af c),BL b] h (fun r h'=>r=.pv (ae E.A.row.length)∧∃mp' q,LayE h' be bt ba bw bh mp' mb (y9 E c b q)∧Ext h h' (d9 be bt ba bw bh mp mb) (d9 be bt ba bw bh mp' mb)∧HpTo n E.q q):=by
 refine dh [2,8] [.tmp 6] aG Tryz.func68 (by kernel_rfl) rfl rfl (by kernel_rfl) (Nat.le_of_ble_eq_true rfl) ?_;have hf:=hT.few;have hn:=hT.hn;have hw1:aM (E.id+1)=E.id+1:=ah (by omega) (by omega);obtain⟨hlt,hb'⟩:=List.getElem?_eq_some_iff.1 L.e;have L1:=L.eng {E with id:=E.id+1} rfl rfl rfl rfl;have X1:=Ext.set (D:=d9 be bt ba bw bh mp mb) (h:=h) be (bI bt ba bw bh {E with id:=E.id+1}) (.inl rfl);generalize hH1:h.set be (bI bt ba bw bh {E with id:=E.id+1})=H1 at*;simp only[bI]at hH1;simp[hb',hlt,bI,hw1,hH1];clear hlt hb';obtain⟨hlt,hb'⟩:=List.getElem?_eq_some_iff.1 L1.e;have kP:=EP H1 ba E.A L1.w.a (E.id+1) c b hc (by omega);rw[hp]at kP;have L2:=L1.arena (cX E.A (E.id+1) c b);have X2:=X1.trans (Ext.set ba (lf (cX E.A (E.id+1) c b)) (.inr (.inr (.inl rfl))));have hA:y9 E c b=fun q=>{E with id:=E.id+1,A:=cX E.A (E.id+1) c b,over:=E.over||decide (c.length=0),S:=mY (cX E.A (E.id+1) c b) E.T E.S E.A.row.length,q:=q}:=rfl;obtain⟨ov,hov⟩:∃x,decide (c.length=0)=x:=⟨_,rfl⟩;rw[hov]at hA;simp only[List.length_eq_zero_iff]at hov;generalize y9 E c b=AE at*;generalize cX E.A (E.id+1) c b=A' at*;refine aY.meet Ns ⟨[(0,.pv (.ptr be 0)),(1,.pv (.seq false 1 (af c))),(2,.pv (BL b)),(6,.pv (ae 0)),(7,.pv (ae E.A.row.length))],H1.set ba (lf A')⟩ (by kernel_rfl) ?_ ?_
 ·simp[Ns,hb',hlt,bI]
  repeat' first
   |trivial
   |refine And.intro ?_ ?_
   |(refine ak.intro kP (by simp) ?_;rintro _ _ ⟨rfl,rfl⟩;simp;exact aj.keep (by simp) rfl)
 clear hlt hb';generalize H1.set ba (lf A')=H2 at*;obtain⟨hlt,hb'⟩:=List.getElem?_eq_some_iff.1 L2.e;have L3:=L2.eng {E with id:=E.id+1,A:=A',over:=E.over||ov} rfl rfl rfl rfl;have X3:=X2.trans (Ext.set be (bI bt ba bw bh {E with id:=E.id+1,A:=A',over:=E.over||ov}) (.inl rfl));generalize hH3:H2.set be (bI bt ba bw bh {E with id:=E.id+1,A:=A',over:=E.over||ov})=H3 at*;simp only[bI]at hH3;have kA:=yN H3 bw ba bt mp mb A' E.T E.S L3.w hk hr (by rw[hT.len];omega) (by omega) E.A.row.length;simp[hb',hlt,bI,hov,hH3];clear hlt hb';obtain⟨hlt,hb'⟩:=List.getElem?_eq_some_iff.1 L3.e;simp[hb',hlt,bI];refine ak.intro kA (by simp) ?_;rintro _ H4 ⟨rfl,mp2,W4,X4⟩;have L4:=L3.watch W4 X4;have X5:=X3.trans (Ext.eng (be:=be) (bh:=bh) (ba:=ba) X4);clear L L1 L2 L3 X1 X2 X3 X4 W4 kA hlt hb' hH1 hH3 kP;generalize mY A' E.T E.S E.A.row.length=S2 at*;simp;refine aH.intro (S:=fun(x:Nat×List (List SV)×HS)=>⟨[(0,.pv (.ptr be 0)),(7,.pv (ae E.A.row.length)),(50,.pv (.seq false 1 (af c))),(51,.pv (ae c.length)),(52,.pv (ae x.1))],x.2.1⟩)
  (fun x=>x.1≤c.length∧LayE x.2.1 be bt ba bw bh mp2 mb {E with id:=E.id+1,A:=A',over:=E.over||ov,S:=S2,q:=x.2.2}∧Ext h x.2.1 (d9 be bt ba bw bh mp mb) (d9 be bt ba bw bh mp2 mb)∧HpTo n E.q x.2.2) (fun x=>c.length -x.1) (0,H4,E.q) ?_ ⟨Nat.zero_le _,L4,X5,.refl g⟩ ?_
 ·exact aj.keep (by simp) rfl
 rintro⟨i,H,q⟩ ⟨hi',LH,XH,GH⟩;dsimp only at hi' LH XH GH;obtain⟨hlt,hb'⟩:=List.getElem?_eq_some_iff.1 LH.e
 by_cases d:i<c.length
 ·have hw:aM ((i:Int)+1)=((i+1:Nat):Int):=by rw[ah (by omega) (by omega)];omega
  have kV:=aD c[i];have kB:=wQ H bh q LH.q GH.hp hn (ab c[i]) 1;have L2:=LH.heap (d8 q (ab c[i]) 1).1;have X2:=XH.trans (Ext.set bh (ap (d8 q (ab c[i]) 1).1) (.inr (.inl rfl)));have G2:=GH.trans (HpTo.bump GH.hp (ab c[i]) 1);generalize ab c[i]=v at*;generalize d8 q v 1=R at*;simp[d];refine aY.meet Mh ⟨[(0,.pv (.ptr be 0)),(7,.pv (ae E.A.row.length)),(50,.pv (.seq false 1 (af c))),(51,.pv (ae c.length)),(52,.pv (ae i))],H.set bh (ap R.1)⟩ (by kernel_rfl) ?_ ?_
  ·simp[Mh,hb',hlt,bI]
   repeat' first
    |trivial
    |refine And.intro ?_ ?_
    |(refine am.intro kV (by simp) ?_;simp[hb',hlt,bI])
    |(refine ak.intro kB (by simp) ?_;rintro _ _ ⟨rfl,rfl⟩;simp;exact aj.keep (by simp) rfl)
  ·simp;exact⟨(i+1,_,R.1),by(try dsimp only);omega,⟨by(try dsimp only);omega,L2,X2,G2⟩,aj.keep (by simp[hw]) rfl⟩
 ·have hie:i=c.length:=by omega
  subst hie;simp;exact⟨mp2,q,by rw[hA];exact LH,XH,GH⟩
end
end Go.AX