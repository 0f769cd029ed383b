/-
  Contracts: engines: a conflict is resolved.
-/
import Derived.Test.YtepodadinenmnaaGreatS14AxEgV
import Derived.Test.YtepodadinenmnaaGreatS14AxEgI
import Derived.Test.YtepodadinenmnaaGreatS14AxLuA
namespace Go.AX
open Go.Proofs
set_option linter.unusedSimpArgs false
def N1:Sch:=
 let b:Sch:=.fork [(11,.done)]
 let f:Sch:=.fork [(10,b)]
 let a:Sch:=.fork [(9,b)]
 let c:Sch:=.fork [(9,f),(10,a)]
 let d:Sch:=.fork [(8,a)]
 let g:Sch:=.fork [(8,c),(10,d)]
 let e:Sch:=.fork [(3,.take 4 a)]
 let h:Sch:=.fork [(3,.take 4 c),(10,e)]
 let i:Sch:=.fork [(3,.take 4 d),(8,e)]
 .take 0 (.take 1 (.take 2 (.take 5 (.take 6 (.take 7 (.fork [(3,.take 4 g),(8,h),(10,i)]))))))
def N2:Sch:=
 let c:Sch:=.fork [(10,.done)]
 let a:Sch:=.fork [(7,.take 8 (.take 9 c))]
 let b:Sch:=.fork [(6,a)]
 let d:Sch:=.fork [(5,b)]
 let e:Sch:=.fork [(4,a)]
 let f:Sch:=.fork [(4,b),(6,e)]
 .take 0 (.take 1 (.take 2 (.take 3 (.fork [(4,d),(5,f)]))))
def N3:Sch:=
 let a:Sch:=.fork [(8,.done)]
 let b:Sch:=.fork [(6,a)]
 let c:Sch:=.fork [(3,a)]
 .take 0 (.take 1 (.take 2 (.take 4 (.take 5 (.take 7 (.fork [(3,b),(6,c)]))))))
section
variable {h : List (List SV)} {be bt ba bw bh : Nat} {mp : List (Int × Nat)} {mb : List (Int × By)} {E : ES}
theorem LayE.app(L:LayE h be bt ba bw bh mp mb E)(g:List (List SV)):LayE (h++g) be bt ba bw bh mp mb E where
 w:=L.w.app g
 e:=by rw[Oa L.lt.1];exact L.e
 q:=by rw[Oa L.lt.2];exact L.q
 ne:=L.ne
 eo:=L.eo
 ho:=L.ho
def HL(E:ES)(a:List Int):List SV:=[.pv (ae 1),.pv (ae (E.id+1)),.pv (.seq false 1 (af (aE E))),.pv (.seq false 1 (af a))]
set_option maxRecDepth 16000 in
theorem xo(L:LayE h be bt ba bw bh mp mb E){n r s:Nat}{F:List (List Int)}{l:List Rc}(i:EI n F (r+1) (s+(n+3)) l E)(ho:E.over=false)(hc:0<=E.con)(aF:E.pf.length<=1000000)(aC:0<=E.many∧E.many<=1000000):
 aB Tryz.prog 44 [.ptr be 0] h (λr' h'=>r'=.pv (BL true)∧∃mp' q p k,LayE h' be bt ba bw bh mp' mb (lE E q p k)∧Ext h h' (cZ be bt ba bw bh mp mb) (cZ be bt ba bw bh mp' mb)∧EI n F r s (l++[⟨E.id+1,1,aE E⟩]) (lE E q p k)):=by
 refine cL [6,7,18] [.tmp 2] aG Tryz.func44 ?_;have y:=i.res hc;have aD:=i.n9;have P:=i.tok;have hf:=P.few;have az:=i.rsz;have hD:=(i.desk E.con).toDeskT;have hC:=i.conf hc;have h0:E.A.hd≠[]:=D7 hC.is;have hB:∀q,(aq E.A q).length<=1000:=λq=>by
  cases e:isA E.A q
  .unfold aq;rw[e];simp
  .obtain⟨x,hx,rfl⟩:=(i.ari.isA q).1 e;rw[(i.ari.at hx).1];exact(i.cl hx).1
 have kL:=zj E.A E.T E.con P.okT h0 i.arok (by omega) hB (by omega);have kS:=yB E.A E.T (cY E.A E.T E.con) (hD.ok.sh (by have:=y.ln;omega)) (by omega);have kH:=Ek E.A E.T (aE E) E.con (V.ahead_ok hD h0) (V.pla_lt hD) (by have:=y.len;omega) (by omega);have lR:oI E.A E.T E.con=cY E.A E.T E.con:=by unfold oI;rw[N9 y.le]
 rw[lR,y.le]at kL;rw[y.yes]at kH;have eS:oG E.A E.T (cY E.A E.T E.con)=aE E:=rfl;have eH:(pE E.A E.T (aE E) E.con).1=iP E:=rfl;rw[eS]at kS;rw[eH]at kH;have aA:=y.ln;obtain⟨d,b⟩:=N5.1 L.e;have hz:=cJ L.w.t 2;have J:=GX L.w.a 2;have U:¬E.con<0:=by omega
 generalize cY E.A E.T E.con=L0 at*;simp;refine am.intro (fk L.e) ?_;rintro _ h ⟨rfl,rfl⟩;simp[b,d,bV,ho,U,hz,J];refine bA.intro kL ?_;simp[b,d,bV,ho,U,hz,J];refine bA.intro kS ?_;simp[b,d,bV,ho,U,hz,J];refine bA.intro kH ?_;simp;have kI:=(A1 L i.arok (by omega) (iP E) (by have:=y.hle;omega)).args (xs:=[.ptr be 0,.seq true 1 (af (iP E))]) (by simp[cE,cw]);have an:=λg=>(A1 (L.app g) i.arok (by omega) (iP E) (by have:=y.hle;omega)).args (xs:=[.ptr be 0,.seq true 1 (af (iP E))]) (by simp[cE,cw]);have ax:=i.idz;have X:a8 (E.id+1)=E.id+1:=ap (by omega) (by omega);generalize au:(iP E).map (lY E.A)=I at*;refine aX.meet N1 ⟨[(0,.pv (.ptr be 0)),(3,.pv (.seq true 1 (af L0))),(5,.pv (.seq true 1 (af (aE E)))),(8,.pv (.ptr h.length 0))],h++[HL E I]⟩ (by kernel_rfl) ?_ ?_
 .have C:be<h.length+1:=by omega
  have R:∀g H,(h++g)[be]'H=bV bt ba bw bh E:=λg H=>by rw[OZ d];exact b
  simp[N1,b,d,C,R,bV,X]
  repeat' first
   |trivial
   |refine And.intro ?_ ?_
   |(refine am.intro kI ?_;rintro _ _ ⟨rfl,rfl⟩;simp[b,d,C,R,bV,X])
   |(refine am.intro (an _) ?_;rintro _ _ ⟨rfl,rfl⟩;simp[b,d,C,R,bV,X])
   |exact ai.le (by simp) (qP _ (by simp[HL]))
 generalize K:(⟨1,E.id+1,aE E,I⟩:Stp)=G at*;have L1:=L.app [HL E I];have X1:=Ext.app h [HL E I] (cZ be bt ba bw bh mp mb);have ad:∀H,(h++[HL E I])[h.length]'H=HL E I:=λH=>by simp
 have ag:h.length<(h++[HL E I]).length:=by simp
 generalize h++[HL E I]=H1 at*;clear d b hz J kL kS kH kI an;obtain⟨d,b⟩:=N5.1 L1.e;have L2:=L1.eng {E with pf:=E.pf++[G]} rfl rfl rfl rfl;have X2:=X1.trans (Ext.set be (bV bt ba bw bh {E with pf:=E.pf++[G]}) (.inl rfl));simp;refine aX.meet N2 ⟨[(0,.pv (.ptr be 0)),(3,.pv (.seq true 1 (af L0))),(5,.pv (.seq true 1 (af (aE E))))],H1.set be (bV bt ba bw bh {E with pf:=E.pf++[G]})⟩ (by kernel_rfl) ?_ ?_
 .have aj:l9 G=[ae 1,ae (E.id+1),.seq false 1 (af (aE E)),.seq false 1 (af I)]:=by rw[←K];rfl
  simp[N2,b,d,bV,ad,ag,HL];and_intros
  all_goals first|omega|exact ai.keep (by simp) (by simp[aj])
 generalize ah:E.pf++[G]=f at*;generalize ar:H1.set be (bV bt ba bw bh {E with pf:=f})=H2 at*;clear d b ad ag L1 X1;obtain⟨d,b⟩:=N5.1 L2.e;have L3:=L2.eng {E with pf:=f,many:=E.many+1} rfl rfl rfl rfl;have X3:=X2.trans (Ext.set be (bV bt ba bw bh {E with pf:=f,many:=E.many+1}) (.inl rfl));generalize N:H2.set be (bV bt ba bw bh {E with pf:=f,many:=E.many+1})=H3 at*;simp only[bV]at N;have ak:a8 (E.many+1)=E.many+1:=ap (by omega) (by omega);have kB:=(FM L3 (n:=n) (by omega) i.hp i.dcy i.inc L0 (by omega)).args (xs:=[.ptr be 0,.seq true 1 (af L0)]) (by simp[cE,cw]);simp[b,d,bV,ak,N];refine am.intro kB ?_;rintro _ H4 ⟨rfl,q1,o,Y,X40,G4,k4⟩;have X4:=X3.trans X40;clear d b L2 X2 L3 kB ak ar N X3 X40;obtain⟨d,b⟩:=N5.1 Y.e;have hz:=cJ Y.w.t 2;have ht:=(N5.1 Y.w.t).1;have kG:=BM E.T P.okT (aE E) (by have:=y.len;omega);have kV:=Ei E.T (aE E) P.okT (by have:=y.len;omega);simp[b,d,bV,hz];refine am.introP kG ?_ (by simp[ht]) (by simp);simp[b,d,bV,hz];refine am.introP kV ?_ (by simp[ht]) (by simp);have m:jg E=if aE E=[]then E.T else dW E.T (ea E.T (aE E)):=rfl;have Q:TOk n (jg E):=by rw[m];split;exact P;exact P.bak _
 by_cases c:aE E=[]
 case' pos=>
  have c2:(aE E).length=0:=by rw[c];rfl
  rw[N9 c]at m;have L5:LayE H4 be bt ba bw bh mp mb {E with pf:=f,many:=E.many+1,q:=q1,inc:=o,T:=jg E,ph:=E.ph,con:=E.con,calm:=E.calm}:=by rw[m];exact Y
  have B:∀z∈E.T.lits,z∉(jg E).lits->ab z∈q1.row:=λz h1 h2=>absurd (by rw[m];exact h1) h2;have W:=i.ph;have G5:=G4;have X5:=X4;generalize E.ph=v at*;generalize H4=H5 at*;generalize q1=q2 at*
 case' neg=>
  have c2:0<(aE E).length:=PF.2 c;rw[N8 c]at m;have kK:=xf Y P G4.hp i.ph (ea E.T (aE E));rw[←m]at kK;simp[c2];refine am.intro kK ?_;rintro _ H5 ⟨rfl,q2,v,L5,X50,G50,W,B⟩;have X5:=X4.trans X50;have G5:=G4.trans G50
 all_goals
  clear d b Y kG kV hz ht;obtain⟨D,j⟩:=i.resd hc q2 G5 v W o k4 B;have aw:(cU E.A (E.id+1) (aE E) true).row.length=E.A.row.length+(3+(aE E).length):=by unfold cU;rw[N9 D];simp;omega
  have ay:=y.len;have L6:=L5.eng {E with pf:=f,many:=E.many+1,q:=q2,inc:=o,T:=jg E,ph:=v,con:=-1,calm:=false} rfl rfl rfl rfl;have X6:=X5.trans (Ext.set be (bV bt ba bw bh {E with pf:=f,many:=E.many+1,q:=q2,inc:=o,T:=jg E,ph:=v,con:=-1,calm:=false}) (.inl rfl));obtain⟨d,b⟩:=N5.1 L5.e;generalize O:H5.set be (bV bt ba bw bh {E with pf:=f,many:=E.many+1,q:=q2,inc:=o,T:=jg E,ph:=v,con:=-1,calm:=false})=H6 at*;simp only[bV]at O;have kA:=(A3 L6 Q G5.hp (by dsimp only;omega) (aE E) true D (i.ari.put D true).arok (by rw[aw];omega) (by dsimp only;omega) (by omega)).args (xs:=[.ptr be 0,.seq true 1 (af (aE E)),BL true]) (by simp[cE,cw]);simp[c2,b,d,bV];simp only[O];refine am.intro kA ?_;rintro _ H7 ⟨rfl,ao,M,L7,X70,G7⟩;have X7:=X6.trans X70;clear d b L5 X5 L6 X6 X70 kA O;simp only[zf]at L7;obtain⟨_,j⟩:=i.resd hc M (G5.trans G7) v W o k4 (λz h1 h2=>G7.mem _ (B z h1 h2));generalize hA:cU E.A (E.id+1) (aE E) true=A' at*;generalize hS:nf A' (jg E) E.S E.A.row.length=S2 at*;generalize av:(E.over||decide ((aE E).length=0))=ov at*;have Z:lE E M v o={E with pf:=f,many:=E.many+1,q:=M,inc:=o,ph:=v,con:=-1,calm:=false,id:=E.id+1,A:=A',over:=ov,S:=S2,T:=(if aE E=[]then E.T else jE (jg E) ((aE E).headD 0) E.A.row.length),gl:=pt E.gl E.A.row.length (GW E.T (aE E))}:=by
   unfold lE;rw[au,K,ah,hA,hS,av]
  rw[Z]at j;obtain⟨d,b⟩:=N5.1 L7.e;have L8:=L7.eng {E with pf:=f,many:=E.many+1,q:=M,inc:=o,ph:=v,con:=-1,calm:=false,id:=E.id+1,A:=A',over:=ov,S:=S2,T:=jg E,gl:=pt E.gl E.A.row.length (GW E.T (aE E))} rfl rfl rfl rfl;have X8:=X7.trans (Ext.set be (bV bt ba bw bh {E with pf:=f,many:=E.many+1,q:=M,inc:=o,ph:=v,con:=-1,calm:=false,id:=E.id+1,A:=A',over:=ov,S:=S2,T:=jg E,gl:=pt E.gl E.A.row.length (GW E.T (aE E))}) (.inl rfl));generalize aa:H7.set be (bV bt ba bw bh {E with pf:=f,many:=E.many+1,q:=M,inc:=o,ph:=v,con:=-1,calm:=false,id:=E.id+1,A:=A',over:=ov,S:=S2,T:=jg E,gl:=pt E.gl E.A.row.length (GW E.T (aE E))})=H8 at*;simp only[bV]at aa;simp[b,d,bV,c2,aa]
 case' pos=>
  rw[N9 c]at Z j;rw[m]at L8;exact⟨ao,M,v,o,by rw[Z];exact⟨L8,X8,j⟩⟩
 rw[N8 c]at Z j;obtain⟨u,w,hu⟩:=List.exists_cons_of_ne_nil c;have H:(aE E).headD 0=u:=by rw[hu];rfl
 have hg:∀H:0<(aE E).length,(aE E)[0]'H=u:=λH=>by simp[hu]
 rw[H]at Z j;have kI:=sP H8 bt (jg E) L8.w.t u E.A.row.length Q.okT (by have:=Q.few;omega);have L9:=L8.trail (jE (jg E) u E.A.row.length);have X9:=X8.trans (Ext.set bt (fD (jE (jg E) u E.A.row.length)) (.inr (.inr (.inr (.inr (.inl rfl))))));clear d b;obtain⟨d,b⟩:=N5.1 L8.e;refine aX.meet N3 ⟨[],H8.set bt (fD (jE (jg E) u E.A.row.length))⟩ (by kernel_rfl) ?_ ?_
 .simp[N3,b,d,bV,c2,hg]
  repeat' first
   |trivial
   |refine And.intro ?_ ?_
   |(refine am.intro kI ?_;rintro _ _ ⟨rfl,rfl⟩;simp;exact ai.keep (by simp) rfl)
 .simp;exact⟨ao,M,v,o,by rw[Z];exact⟨L9,X9,j⟩⟩
end
end Go.AX