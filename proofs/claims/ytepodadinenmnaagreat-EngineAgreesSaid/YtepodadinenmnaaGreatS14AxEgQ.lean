/-
  Contracts: engines: a conflict is resolved.
-/
import Derived.Test.YtepodadinenmnaaGreatS14AxEhA
import Derived.Test.YtepodadinenmnaaGreatS14AxEgI
import Derived.Test.YtepodadinenmnaaGreatS14AxRnX
namespace Go.AX
open Go.Proofs
set_option linter.unusedSimpArgs false
def Nt:Sch:=
 let s0:Sch:=.fork [(11,.done)]
 let s1:Sch:=.fork [(10,s0)]
 let s2:Sch:=.fork [(9,s0)]
 let s3:Sch:=.fork [(9,s1),(10,s2)]
 let s4:Sch:=.fork [(8,s2)]
 let s5:Sch:=.fork [(8,s3),(10,s4)]
 let s6:Sch:=.fork [(3,.take 4 s2)]
 let s7:Sch:=.fork [(3,.take 4 s3),(10,s6)]
 let s8:Sch:=.fork [(3,.take 4 s4),(8,s6)]
 .take 0 (.take 1 (.take 2 (.take 5 (.take 6 (.take 7 (.fork [(3,.take 4 s5),(8,s7),(10,s8)]))))))
def Nu:Sch:=
 let s0:Sch:=.fork [(10,.done)]
 let s1:Sch:=.fork [(7,.take 8 (.take 9 s0))]
 let s2:Sch:=.fork [(6,s1)]
 let s3:Sch:=.fork [(5,s2)]
 let s4:Sch:=.fork [(4,s1)]
 let s5:Sch:=.fork [(4,s2),(6,s4)]
 .take 0 (.take 1 (.take 2 (.take 3 (.fork [(4,s3),(5,s5)]))))
def Nv:Sch:=
 let s0:Sch:=.fork [(8,.done)]
 let s1:Sch:=.fork [(6,s0)]
 let s2:Sch:=.fork [(3,s0)]
 .take 0 (.take 1 (.take 2 (.take 4 (.take 5 (.take 7 (.fork [(3,s1),(6,s2)]))))))
section
variable {h : List (List SV)} {be bt ba bw bh : Nat} {mp : List (Int × Nat)} {mb : List (Int × By)} {E : ES}
theorem LayE.app(L:LayE h be bt ba bw bh mp mb E)(g:List (List SV)):LayE (h++g) be bt ba bw bh mp mb E where
 w:=L.w.app g
 e:=by rw[List.getElem?_append_left L.lt.1];exact L.e
 q:=by rw[List.getElem?_append_left L.lt.2];exact L.q
 ne:=L.ne
 eo:=L.eo
 ho:=L.ho
def Hq(E:ES)(Hi:List Int):List SV:=[.pv (ae 1),.pv (ae (E.id+1)),.pv (.seq false 1 (af (aI E))),.pv (.seq false 1 (af Hi))]
set_option maxRecDepth 16000 in
theorem o6(L:LayE h be bt ba bw bh mp mb E){n r s:Nat}{F:List (List Int)}{l:List Rc}(hI:EI n F (r+1) (s+(n+3)) l E)(ho:E.over=false)(hc:0≤E.con)(hpf:E.pf.length≤1000000)(hmy:0≤E.many∧E.many≤1000000):
 aE Tryz.prog 44 [.ptr be 0] h (fun r' h'=>r'=.pv (BL true)∧∃mp' q p k,LayE h' be bt ba bw bh mp' mb (rB E q p k)∧Ext h h' (d9 be bt ba bw bh mp mb) (d9 be bt ba bw bh mp' mb)∧EI n F r s (l++[⟨E.id+1,1,aI E⟩]) (rB E q p k)):=by
 refine dh [6,7,18] [.tmp 2] aG Tryz.func44 (by kernel_rfl) rfl rfl (by kernel_rfl) (Nat.le_of_ble_eq_true rfl) ?_;have hR:=hI.res hc;have hn9:=hI.n9;have hT:=hI.tok;have hf:=hT.few;have hrow:=hI.rsz;have hD:=(hI.desk E.con).toDeskT;have hC:=hI.conf hc;have h0:E.A.hd≠[]:=DU hC.is;have hB:∀q,(aq E.A q).length≤1000:=fun q=>by
  cases e:isA E.A q
  ·unfold aq;rw[e];simp
  ·obtain⟨x,hx,rfl⟩:=(hI.ari.isA q).1 e;rw[(hI.ari.at hx).1];exact(hI.cl hx).1
 have kL:=zd E.A E.T E.con hT.okT h0 hI.arok (by omega) hB (by omega);have kS:=yt E.A E.T (cZ E.A E.T E.con) (hD.ok.sh (by have:=hR.ln;omega)) (by omega);have kH:=Eb E.A E.T (aI E) E.con (V.ahead_ok hD h0) (V.pla_lt hD) (by have:=hR.len;omega) (by omega);have lR:oA E.A E.T E.con=cZ E.A E.T E.con:=by unfold oA;rw[if_pos hR.le]
 rw[lR,hR.le]at kL;rw[hR.yes]at kH;have eS:oy E.A E.T (cZ E.A E.T E.con)=aI E:=rfl;have eH:(po E.A E.T (aI E) E.con).1=ic E:=rfl;rw[eS]at kS;rw[eH]at kH;have hln:=hR.ln;obtain⟨hlt,hb'⟩:=List.getElem?_eq_some_iff.1 L.e;have hz:=cu L.w.t 2;have hza:=GI L.w.a 2;have hc':¬E.con<0:=by omega
 generalize cZ E.A E.T E.con=L0 at*;simp;refine ak.intro (dv L.e) (by simp) ?_;rintro _ h ⟨rfl,rfl⟩;simp[hb',hlt,bI,ho,hc',hz,hza];refine bs.intro kL (by simp) ?_;simp[hb',hlt,bI,ho,hc',hz,hza];refine bs.intro kS (by simp) ?_;simp[hb',hlt,bI,ho,hc',hz,hza];refine bs.intro kH (by simp) ?_;simp;have kI:=(AS L hI.arok (by omega) (ic E) (by have:=hR.hle;omega)).args (xs:=[.ptr be 0,.seq true 1 (af (ic E))]) (by simp[cI,cz]);have kI2:=fun g=>(AS (L.app g) hI.arok (by omega) (ic E) (by have:=hR.hle;omega)).args (xs:=[.ptr be 0,.seq true 1 (af (ic E))]) (by simp[cI,cz]);have hidz:=hI.idz;have hw1:aM (E.id+1)=E.id+1:=ah (by omega) (by omega);generalize hHi:(ic E).map (lh E.A)=Hi at*;refine aY.meet Nt ⟨[(0,.pv (.ptr be 0)),(3,.pv (.seq true 1 (af L0))),(5,.pv (.seq true 1 (af (aI E)))),(8,.pv (.ptr h.length 0))],h++[Hq E Hi]⟩ (by kernel_rfl) ?_ ?_
 ·have hlt2:be<h.length+1:=by omega
  have hb2:∀g hh,(h++g)[be]'hh=bI bt ba bw bh E:=fun g hh=>by rw[List.getElem_append_left hlt];exact hb'
  simp[Nt,hb',hlt,hlt2,hb2,bI,hw1]
  repeat' first
   |trivial
   |refine And.intro ?_ ?_
   |(refine ak.intro kI (by simp) ?_;rintro _ _ ⟨rfl,rfl⟩;simp[hb',hlt,hlt2,hb2,bI,hw1])
   |(refine ak.intro (kI2 _) (by simp) ?_;rintro _ _ ⟨rfl,rfl⟩;simp[hb',hlt,hlt2,hb2,bI,hw1])
   |exact aj.le (by simp) (qK _ (by simp[Hq]))
 generalize hstp:(⟨1,E.id+1,aI E,Hi⟩:Stp)=stp at*;have L1:=L.app [Hq E Hi];have X1:=Ext.app h [Hq E Hi] (d9 be bt ba bw bh mp mb);have hg1:∀hh,(h++[Hq E Hi])[h.length]'hh=Hq E Hi:=fun hh=>by simp
 have hl1:h.length<(h++[Hq E Hi]).length:=by simp
 generalize h++[Hq E Hi]=H1 at*;clear hlt hb' hz hza kL kS kH kI kI2;obtain⟨hlt,hb'⟩:=List.getElem?_eq_some_iff.1 L1.e;have L2:=L1.eng {E with pf:=E.pf++[stp]} rfl rfl rfl rfl;have X2:=X1.trans (Ext.set be (bI bt ba bw bh {E with pf:=E.pf++[stp]}) (.inl rfl));simp;refine aY.meet Nu ⟨[(0,.pv (.ptr be 0)),(3,.pv (.seq true 1 (af L0))),(5,.pv (.seq true 1 (af (aI E))))],H1.set be (bI bt ba bw bh {E with pf:=E.pf++[stp]})⟩ (by kernel_rfl) ?_ ?_
 ·have hstr:lV stp=[ae 1,ae (E.id+1),.seq false 1 (af (aI E)),.seq false 1 (af Hi)]:=by rw[←hstp];rfl
  simp[Nu,hb',hlt,bI,hg1,hl1,Hq];and_intros
  all_goals first|omega|exact aj.keep (by simp) (by simp[hstr])
 generalize hpf1:E.pf++[stp]=pf1 at*;generalize hH2:H1.set be (bI bt ba bw bh {E with pf:=pf1})=H2 at*;clear hlt hb' hg1 hl1 L1 X1;obtain⟨hlt,hb'⟩:=List.getElem?_eq_some_iff.1 L2.e;have L3:=L2.eng {E with pf:=pf1,many:=E.many+1} rfl rfl rfl rfl;have X3:=X2.trans (Ext.set be (bI bt ba bw bh {E with pf:=pf1,many:=E.many+1}) (.inl rfl));generalize hH3:H2.set be (bI bt ba bw bh {E with pf:=pf1,many:=E.many+1})=H3 at*;simp only[bI]at hH3;have hw2:aM (E.many+1)=E.many+1:=ah (by omega) (by omega);have kB:=(Fx L3 (n:=n) (by omega) hI.hp hI.dcy hI.inc L0 (by omega)).args (xs:=[.ptr be 0,.seq true 1 (af L0)]) (by simp[cI,cz]);simp[hb',hlt,bI,hw2,hH3];refine ak.intro kB (by simp) ?_;rintro _ H4 ⟨rfl,q1,k1,L4,X40,G4,k4⟩;have X4:=X3.trans X40;clear hlt hb' L2 X2 L3 kB hw2 hH2 hH3 X3 X40;obtain⟨hlt,hb'⟩:=List.getElem?_eq_some_iff.1 L4.e;have hz:=cu L4.w.t 2;have ht:=(List.getElem?_eq_some_iff.1 L4.w.t).1;have kG:=BD E.T hT.okT (aI E) (by have:=hR.len;omega);have kV:=D9 E.T (aI E) hT.okT (by have:=hR.len;omega);simp[hb',hlt,bI,hz];refine ak.introP kG (by simp[ht]) (by simp) ?_;simp[hb',hlt,bI,hz];refine ak.introP kV (by simp[ht]) (by simp) ?_;have hrT:jb E=if aI E=[]then E.T else d7 E.T (ed E.T (aI E)):=rfl;have hT5:TOk n (jb E):=by rw[hrT];split;exact hT;exact hT.bak _
 by_cases c:aI E=[]
 case' pos=>
  have c2:(aI E).length=0:=by rw[c];rfl
  rw[if_pos c]at hrT;have L5:LayE H4 be bt ba bw bh mp mb {E with pf:=pf1,many:=E.many+1,q:=q1,inc:=k1,T:=jb E,ph:=E.ph,con:=E.con,calm:=E.calm}:=by rw[hrT];exact L4
  have hin5:∀z∈E.T.lits,z∉(jb E).lits→ab z∈q1.row:=fun z h1 h2=>absurd (by rw[hrT];exact h1) h2;have hp5:=hI.ph;have G5:=G4;have X5:=X4;generalize E.ph=p2 at*;generalize H4=H5 at*;generalize q1=q2 at*
 case' neg=>
  have c2:0<(aI E).length:=List.length_pos_iff.2 c;rw[if_neg c]at hrT;have kK:=xa L4 hT G4.hp hI.ph (ed E.T (aI E));rw[←hrT]at kK;simp[c2];refine ak.intro kK (by simp) ?_;rintro _ H5 ⟨rfl,q2,p2,L5,X50,G50,hp5,hin5⟩;have X5:=X4.trans X50;have G5:=G4.trans G50
 all_goals
  clear hlt hb' L4 kG kV hz ht;obtain⟨hput,hEI⟩:=hI.resd hc q2 G5 p2 hp5 k1 k4 hin5;have hr2:(cX E.A (E.id+1) (aI E) true).row.length=E.A.row.length+(3+(aI E).length):=by unfold cX;rw[if_pos hput];simp;omega
  have hlen:=hR.len;have L6:=L5.eng {E with pf:=pf1,many:=E.many+1,q:=q2,inc:=k1,T:=jb E,ph:=p2,con:=-1,calm:=false} rfl rfl rfl rfl;have X6:=X5.trans (Ext.set be (bI bt ba bw bh {E with pf:=pf1,many:=E.many+1,q:=q2,inc:=k1,T:=jb E,ph:=p2,con:=-1,calm:=false}) (.inl rfl));obtain⟨hlt,hb'⟩:=List.getElem?_eq_some_iff.1 L5.e;generalize hH6:H5.set be (bI bt ba bw bh {E with pf:=pf1,many:=E.many+1,q:=q2,inc:=k1,T:=jb E,ph:=p2,con:=-1,calm:=false})=H6 at*;simp only[bI]at hH6;have kA:=(AU L6 hT5 G5.hp (by dsimp only;omega) (aI E) true hput (hI.ari.put hput true).arok (by rw[hr2];omega) (by dsimp only;omega) (by omega)).args (xs:=[.ptr be 0,.seq true 1 (af (aI E)),BL true]) (by simp[cI,cz]);simp[c2,hb',hlt,bI];simp only[hH6];refine ak.intro kA (by simp) ?_;rintro _ H7 ⟨rfl,mp7,q3,L7,X70,G7⟩;have X7:=X6.trans X70;clear hlt hb' L5 X5 L6 X6 X70 kA hH6;simp only[y9]at L7;obtain⟨_,hEI⟩:=hI.resd hc q3 (G5.trans G7) p2 hp5 k1 k4 (fun z h1 h2=>G7.mem _ (hin5 z h1 h2));generalize hA:cX E.A (E.id+1) (aI E) true=A' at*;generalize hS:mY A' (jb E) E.S E.A.row.length=S2 at*;generalize hov:(E.over||decide ((aI E).length=0))=ov at*;have hE:rB E q3 p2 k1={E with pf:=pf1,many:=E.many+1,q:=q3,inc:=k1,ph:=p2,con:=-1,calm:=false,id:=E.id+1,A:=A',over:=ov,S:=S2,T:=(if aI E=[]then E.T else jx (jb E) ((aI E).headD 0) E.A.row.length),gl:=pt E.gl E.A.row.length (GG E.T (aI E))}:=by
   unfold rB;rw[hHi,hstp,hpf1,hA,hS,hov]
  rw[hE]at hEI;obtain⟨hlt,hb'⟩:=List.getElem?_eq_some_iff.1 L7.e;have L8:=L7.eng {E with pf:=pf1,many:=E.many+1,q:=q3,inc:=k1,ph:=p2,con:=-1,calm:=false,id:=E.id+1,A:=A',over:=ov,S:=S2,T:=jb E,gl:=pt E.gl E.A.row.length (GG E.T (aI E))} rfl rfl rfl rfl;have X8:=X7.trans (Ext.set be (bI bt ba bw bh {E with pf:=pf1,many:=E.many+1,q:=q3,inc:=k1,ph:=p2,con:=-1,calm:=false,id:=E.id+1,A:=A',over:=ov,S:=S2,T:=jb E,gl:=pt E.gl E.A.row.length (GG E.T (aI E))}) (.inl rfl));generalize hH8:H7.set be (bI bt ba bw bh {E with pf:=pf1,many:=E.many+1,q:=q3,inc:=k1,ph:=p2,con:=-1,calm:=false,id:=E.id+1,A:=A',over:=ov,S:=S2,T:=jb E,gl:=pt E.gl E.A.row.length (GG E.T (aI E))})=H8 at*;simp only[bI]at hH8;simp[hb',hlt,bI,c2,hH8]
 case' pos=>
  rw[if_pos c]at hE hEI;rw[hrT]at L8;exact⟨mp7,q3,p2,k1,by rw[hE];exact⟨L8,X8,hEI⟩⟩
 rw[if_neg c]at hE hEI;obtain⟨u,w,hu⟩:=List.exists_cons_of_ne_nil c;have hh:(aI E).headD 0=u:=by rw[hu];rfl
 have hg:∀hh:0<(aI E).length,(aI E)[0]'hh=u:=fun hh=>by simp[hu]
 rw[hh]at hE hEI;have kI:=sL H8 bt (jb E) L8.w.t u E.A.row.length hT5.okT (by have:=hT5.few;omega);have L9:=L8.trail (jx (jb E) u E.A.row.length);have X9:=X8.trans (Ext.set bt (fB (jx (jb E) u E.A.row.length)) (.inr (.inr (.inr (.inr (.inl rfl))))));clear hlt hb';obtain⟨hlt,hb'⟩:=List.getElem?_eq_some_iff.1 L8.e;refine aY.meet Nv ⟨[],H8.set bt (fB (jx (jb E) u E.A.row.length))⟩ (by kernel_rfl) ?_ ?_
 ·simp[Nv,hb',hlt,bI,c2,hg]
  repeat' first
   |trivial
   |refine And.intro ?_ ?_
   |(refine ak.intro kI (by simp) ?_;rintro _ _ ⟨rfl,rfl⟩;simp;exact aj.keep (by simp) rfl)
 ·simp;exact⟨mp7,q3,p2,k1,by rw[hE];exact⟨L9,X9,hEI⟩⟩
end
end Go.AX