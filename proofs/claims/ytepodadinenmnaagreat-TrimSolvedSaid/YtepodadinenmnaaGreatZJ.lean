/-
  Contracts: engines: a conflict is resolved.
-/
import Derived.Test.YtepodadinenmnaaGreatZH
import Derived.Test.YtepodadinenmnaaGreatZI
set_option linter.unusedSimpArgs false
namespace Go.AX
open Go.Proofs
def Vk:Sch:=
 let b:Sch:=.fork [(11,.done)]
 let f:Sch:=.fork [(10,b)]
 let a:Sch:=.fork [(9,b)]
 let c:Sch:=.fork [(9,f),(10,a)]
 let d:Sch:=.fork [(8,a)]
 let g:Sch:=.fork [(8,c),(10,d)]
 let e:Sch:=.fork [(3,.take 4 a)]
 let h:Sch:=.fork [(3,.take 4 c),(10,e)]
 let i:Sch:=.fork [(3,.take 4 d),(8,e)]
 .take 0 (.take 1 (.take 2 (.take 5 (.take 6 (.take 7 (.fork [(3,.take 4 g),(8,h),(10,i)]))))))
def Vl:Sch:=
 let c:Sch:=.fork [(10,.done)]
 let a:Sch:=.fork [(7,.take 8 (.take 9 c))]
 let b:Sch:=.fork [(6,a)]
 let d:Sch:=.fork [(5,b)]
 let e:Sch:=.fork [(4,a)]
 let f:Sch:=.fork [(4,b),(6,e)]
 .take 0 (.take 1 (.take 2 (.take 3 (.fork [(4,d),(5,f)]))))
def Vm:Sch:=
 let a:Sch:=.fork [(8,.done)]
 let b:Sch:=.fork [(6,a)]
 let c:Sch:=.fork [(3,a)]
 .take 0 (.take 1 (.take 2 (.take 4 (.take 5 (.take 7 (.fork [(3,b),(6,c)]))))))
section
variable {h : ao} {be bt ba bw bh : Nat} {mp : cg} {mb : List (Int × By)} {E : ES}
theorem LayE.app(L:LayE h be bt ba bw bh mp mb E)(g:ao):LayE (h++g) be bt ba bw bh mp mb E where
 w:=L.w.app g
 e:=by rw[Vv L.lt.1];exact L.e
 q:=by rw[Vv L.lt.2];exact L.q
 ne:=L.ne
 eo:=L.eo
 ho:=L.ho
def PE(E:ES)(a:af):bj:=[.pv (ak 1),.pv (ak (E.id+1)),.pv (.seq false 1 (am (aY E))),.pv (.seq false 1 (am a))]
set_option maxRecDepth 16000 in
theorem CX(L:LayE h be bt ba bw bh mp mb E){n r s:Nat}{F:au}{l:List Rc}(i:EI n F (r+1) (s+(n+3)) l E)(ho:E.over=false)(hc:0<=E.con)(aE:E.pf.length<=1000000)(aB:0<=E.many∧E.many<=1000000):
 aI Tryz.prog 44 [.ptr be 0] h (λr' h'=>r'=.pv (BL true)∧∃mp' q p k,LayE h' be bt ba bw bh mp' mb (tW E q p k)∧Ext h h' (dH be bt ba bw bh mp mb) (dH be bt ba bw bh mp' mb)∧EI n F r s (l++[⟨E.id+1,1,aY E⟩]) (tW E q p k)):=by
 refine dh [6,7,18] [.tmp 2] aP Tryz.func44 ?_;have y:=i.res hc;have aD:=i.n9;have O:=i.tok;have hf:=O.few;have az:=i.rsz;have hD:=(i.desk E.con).toDeskT;have hC:=i.conf hc;have h0:E.A.hd≠[]:=Ek hC.is;have hB:∀q,(aJ E.A q).length<=1000:=λq=>by
  cases e:isA E.A q;unfold aJ;rw[e];simp;obtain⟨x,hx,rfl⟩:=(i.ari.isA q).1 e;rw[(i.ari.at hx).1];exact(i.cl hx).1
 have kL:=Fx E.A E.T E.con O.okT h0 i.arok (by omega) hB (by omega);have kS:=Ej E.A E.T (ed E.A E.T E.con) (hD.ok.sh (by have:=y.ln;omega)) (by omega);have kH:=Ls E.A E.T (aY E) E.con (V.ahead_ok hD h0) (V.pla_lt hD) (by have:=y.len;omega) (by omega);have lR:sH E.A E.T E.con=ed E.A E.T E.con:=by unfold sH;rw[Vt y.le]
 rw[lR,y.le]at kL;rw[y.yes]at kH;have eS:sF E.A E.T (ed E.A E.T E.con)=aY E:=rfl;have eH:(tR E.A E.T (aY E) E.con).1=gy E:=rfl;rw[eS]at kS;rw[eH]at kH;have aA:=y.ln;obtain⟨d,b⟩:=Vp.1 L.e;have hz:=dR L.w.t 2;have I:=GE L.w.a 2;have R:¬E.con<0:=by omega
 generalize ed E.A E.T E.con=L0 at*;simp;refine ay.intro (ip L.e) ?_;rintro _ h ⟨rfl,rfl⟩;simp[b,d,cE,ho,R,hz,I];refine bW.intro kL ?_;simp[b,d,cE,ho,R,hz,I];refine bW.intro kS ?_;simp[b,d,cE,ho,R,hz,I];refine bW.intro kH ?_;simp;have kI:=(Hw L i.arok (by omega) (gy E) (by have:=y.hle;omega)).args (xs:=[.ptr be 0,.seq true 1 (am (gy E))]) (by simp[bX,cr]);have ah:=λg=>(Hw (L.app g) i.arok (by omega) (gy E) (by have:=y.hle;omega)).args (xs:=[.ptr be 0,.seq true 1 (am (gy E))]) (by simp[bX,cr]);have aw:=i.idz;have W:bG (E.id+1)=E.id+1:=aC (by omega) (by omega);generalize an:(gy E).map (iv E.A)=H at*;refine bP.meet Vk ⟨[(0,.pv (.ptr be 0)),(3,.pv (.seq true 1 (am L0))),(5,.pv (.seq true 1 (am (aY E)))),(8,.pv (.ptr h.length 0))],h++[PE E H]⟩ (by kernel_rfl) ?_ ?_
 .have C:be<h.length+1:=by omega
  have Q:∀g G,(h++g)[be]'G=cE bt ba bw bh E:=λg G=>by rw[V6 d];exact b
  simp[Vk,b,d,C,Q,cE,W]
  repeat' first
   |trivial
   |refine And.intro ?_ ?_
   |(refine ay.intro kI ?_;rintro _ _ ⟨rfl,rfl⟩;simp[b,d,C,Q,cE,W])
   |(refine ay.intro (ah _) ?_;rintro _ _ ⟨rfl,rfl⟩;simp[b,d,C,Q,cE,W])
   |exact av.le (by simp) (vc _ (by simp[PE]))
 generalize J:(⟨1,E.id+1,aY E,H⟩:Stp)=stp at*;have L1:=L.app [PE E H];have X1:=Ext.app h [PE E H] (dH be bt ba bw bh mp mb);have ab:∀G,(h++[PE E H])[h.length]'G=PE E H:=λG=>by simp
 have ad:h.length<(h++[PE E H]).length:=by simp
 generalize h++[PE E H]=H1 at*;clear d b hz I kL kS kH kI ah;obtain⟨d,b⟩:=Vp.1 L1.e;have L2:=L1.eng {E with pf:=E.pf++[stp]} rfl rfl rfl rfl;have X2:=X1.trans (Ext.set be (cE bt ba bw bh {E with pf:=E.pf++[stp]}) (.inl rfl));simp;refine bP.meet Vl ⟨[(0,.pv (.ptr be 0)),(3,.pv (.seq true 1 (am L0))),(5,.pv (.seq true 1 (am (aY E))))],H1.set be (cE bt ba bw bh {E with pf:=E.pf++[stp]})⟩ (by kernel_rfl) ?_ ?_
 .have af:bd stp=[ak 1,ak (E.id+1),.seq false 1 (am (aY E)),.seq false 1 (am H)]:=by rw[←J];rfl
  simp[Vl,b,d,cE,ab,ad,PE];and_intros
  all_goals first|omega|exact av.keep (by simp) (by simp[af])
 generalize ae:E.pf++[stp]=f at*;generalize aj:H1.set be (cE bt ba bw bh {E with pf:=f})=H2 at*;clear d b ab ad L1 X1;obtain⟨d,b⟩:=Vp.1 L2.e;have L3:=L2.eng {E with pf:=f,many:=E.many+1} rfl rfl rfl rfl;have X3:=X2.trans (Ext.set be (cE bt ba bw bh {E with pf:=f,many:=E.many+1}) (.inl rfl));generalize M:H2.set be (cE bt ba bw bh {E with pf:=f,many:=E.many+1})=H3 at*;simp only[cE]at M;have ag:bG (E.many+1)=E.many+1:=aC (by omega) (by omega);have kB:=(Nt L3 (n:=n) (by omega) i.hp i.dcy i.inc L0 (by omega)).args (xs:=[.ptr be 0,.seq true 1 (am L0)]) (by simp[bX,cr]);simp[b,d,cE,ag,M];refine ay.intro kB ?_;rintro _ H4 ⟨rfl,q1,o,X,X40,G4,k4⟩;have X4:=X3.trans X40;clear d b L2 X2 L3 kB ag aj M X3 X40;obtain⟨d,b⟩:=Vp.1 X.e;have hz:=dR X.w.t 2;have ht:=(Vp.1 X.w.t).1;have kG:=Iu E.T O.okT (aY E) (by have:=y.len;omega);have kV:=Lq E.T (aY E) O.okT (by have:=y.len;omega);simp[b,d,cE,hz];refine ay.introP kG ?_ (by simp[ht]) (by simp);simp[b,d,cE,hz];refine ay.introP kV ?_ (by simp[ht]) (by simp);have m:mh E=if aY E=[]then E.T else gh E.T (gi E.T (aY E)):=rfl;have P:TOk n (mh E):=by rw[m];split;exact O;exact O.bak _
 by_cases c:aY E=[]
 case' pos=>
  have c2:(aY E).length=0:=by rw[c];rfl
  rw[Vt c]at m;have L5:LayE H4 be bt ba bw bh mp mb {E with pf:=f,many:=E.many+1,q:=q1,inc:=o,T:=mh E,ph:=E.ph,con:=E.con,calm:=E.calm}:=by rw[m];exact X
  have B:∀z∈E.T.lits,z∉(mh E).lits->aq z∈q1.row:=λz h1 h2=>absurd (by rw[m];exact h1) h2;have U:=i.ph;have G5:=G4;have X5:=X4;generalize E.ph=v at*;generalize H4=H5 at*;generalize q1=q2 at*
 case' neg=>
  have c2:0<(aY E).length:=WJ.2 c;rw[Vs c]at m;have kK:=CP X O G4.hp i.ph (gi E.T (aY E));rw[←m]at kK;simp[c2];refine ay.intro kK ?_;rintro _ H5 ⟨rfl,q2,v,L5,X50,G50,U,B⟩;have X5:=X4.trans X50;have G5:=G4.trans G50
 all_goals
  clear d b X kG kV hz ht;obtain⟨D,j⟩:=i.resd hc q2 G5 v U o k4 B;have ar:(d7 E.A (E.id+1) (aY E) true).row.length=E.A.row.length+(3+(aY E).length):=by unfold d7;rw[Vt D];simp;omega
  have ax:=y.len;have L6:=L5.eng {E with pf:=f,many:=E.many+1,q:=q2,inc:=o,T:=mh E,ph:=v,con:=-1,calm:=false} rfl rfl rfl rfl;have X6:=X5.trans (Ext.set be (cE bt ba bw bh {E with pf:=f,many:=E.many+1,q:=q2,inc:=o,T:=mh E,ph:=v,con:=-1,calm:=false}) (.inl rfl));obtain⟨d,b⟩:=Vp.1 L5.e;generalize N:H5.set be (cE bt ba bw bh {E with pf:=f,many:=E.many+1,q:=q2,inc:=o,T:=mh E,ph:=v,con:=-1,calm:=false})=H6 at*;simp only[cE]at N;have kA:=(Hy L6 P G5.hp (by dsimp only;omega) (aY E) true D (i.ari.put D true).arok (by rw[ar];omega) (by dsimp only;omega) (by omega)).args (xs:=[.ptr be 0,.seq true 1 (am (aY E)),BL true]) (by simp[bX,cr]);simp[c2,b,d,cE];simp only[N];refine ay.intro kA ?_;rintro _ H7 ⟨rfl,ai,K,L7,X70,G7⟩;have X7:=X6.trans X70;clear d b L5 X5 L6 X6 X70 kA N;simp only[Fv]at L7;obtain⟨_,j⟩:=i.resd hc K (G5.trans G7) v U o k4 (λz h1 h2=>G7.mem _ (B z h1 h2));generalize hA:d7 E.A (E.id+1) (aY E) true=Z at*;generalize hS:qI Z (mh E) E.S E.A.row.length=S2 at*;generalize ao:(E.over||decide ((aY E).length=0))=ov at*;have Y:tW E K v o={E with pf:=f,many:=E.many+1,q:=K,inc:=o,ph:=v,con:=-1,calm:=false,id:=E.id+1,A:=Z,over:=ov,S:=S2,T:=(if aY E=[]then E.T else mN (mh E) ((aY E).headD 0) E.A.row.length),gl:=pt E.gl E.A.row.length (OM E.T (aY E))}:=by
   unfold tW;rw[an,J,ae,hA,hS,ao]
  rw[Y]at j;obtain⟨d,b⟩:=Vp.1 L7.e;have L8:=L7.eng {E with pf:=f,many:=E.many+1,q:=K,inc:=o,ph:=v,con:=-1,calm:=false,id:=E.id+1,A:=Z,over:=ov,S:=S2,T:=mh E,gl:=pt E.gl E.A.row.length (OM E.T (aY E))} rfl rfl rfl rfl;have X8:=X7.trans (Ext.set be (cE bt ba bw bh {E with pf:=f,many:=E.many+1,q:=K,inc:=o,ph:=v,con:=-1,calm:=false,id:=E.id+1,A:=Z,over:=ov,S:=S2,T:=mh E,gl:=pt E.gl E.A.row.length (OM E.T (aY E))}) (.inl rfl));generalize aa:H7.set be (cE bt ba bw bh {E with pf:=f,many:=E.many+1,q:=K,inc:=o,ph:=v,con:=-1,calm:=false,id:=E.id+1,A:=Z,over:=ov,S:=S2,T:=mh E,gl:=pt E.gl E.A.row.length (OM E.T (aY E))})=H8 at*;simp only[cE]at aa;simp[b,d,cE,c2,aa]
 case' pos=>
  rw[Vt c]at Y j;rw[m]at L8;exact⟨ai,K,v,o,by rw[Y];exact⟨L8,X8,j⟩⟩
 rw[Vs c]at Y j;obtain⟨u,w,hu⟩:=List.exists_cons_of_ne_nil c;have G:(aY E).headD 0=u:=by rw[hu];rfl
 have hg:∀G:0<(aY E).length,(aY E)[0]'G=u:=λG=>by simp[hu]
 rw[G]at Y j;have kI:=xJ H8 bt (mh E) L8.w.t u E.A.row.length P.okT (by have:=P.few;omega);have L9:=L8.trail (mN (mh E) u E.A.row.length);have X9:=X8.trans (Ext.set bt (iI (mN (mh E) u E.A.row.length)) (.inr (.inr (.inr (.inr (.inl rfl))))));clear d b;obtain⟨d,b⟩:=Vp.1 L8.e;refine bP.meet Vm ⟨[],H8.set bt (iI (mN (mh E) u E.A.row.length))⟩ (by kernel_rfl) ?_ ?_
 .simp[Vm,b,d,cE,c2,hg]
  repeat' first
   |trivial
   |refine And.intro ?_ ?_
   |(refine ay.intro kI ?_;rintro _ _ ⟨rfl,rfl⟩;simp;exact av.keep (by simp) rfl)
 simp;exact⟨ai,K,v,o,by rw[Y];exact⟨L9,X9,j⟩⟩
end
end Go.AX
