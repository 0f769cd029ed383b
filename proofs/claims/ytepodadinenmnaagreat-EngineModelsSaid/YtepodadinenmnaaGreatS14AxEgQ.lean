/-
  Contracts: engines: a conflict is resolved.
-/
import Derived.Test.YtepodadinenmnaaGreatS14AxEgW
import Derived.Test.YtepodadinenmnaaGreatS14AxEgI
import Derived.Test.YtepodadinenmnaaGreatS14AxRnX
namespace Go.AX
open Go.Proofs
set_option linter.unusedSimpArgs false
def Rz:Sch:=
 let b:Sch:=.fork [(11,.done)]
 let f:Sch:=.fork [(10,b)]
 let a:Sch:=.fork [(9,b)]
 let c:Sch:=.fork [(9,f),(10,a)]
 let d:Sch:=.fork [(8,a)]
 let g:Sch:=.fork [(8,c),(10,d)]
 let e:Sch:=.fork [(3,.take 4 a)]
 let h:Sch:=.fork [(3,.take 4 c),(10,e)]
 let i:Sch:=.fork [(3,.take 4 d),(8,e)]
 .take 0 (.take 1 (.take 2 (.take 5 (.take 6 (.take 7 (.fork [(3,.take 4 g),(8,h),(10,i)]))))))
def RB:Sch:=
 let c:Sch:=.fork [(10,.done)]
 let a:Sch:=.fork [(7,.take 8 (.take 9 c))]
 let b:Sch:=.fork [(6,a)]
 let d:Sch:=.fork [(5,b)]
 let e:Sch:=.fork [(4,a)]
 let f:Sch:=.fork [(4,b),(6,e)]
 .take 0 (.take 1 (.take 2 (.take 3 (.fork [(4,d),(5,f)]))))
def RC:Sch:=
 let a:Sch:=.fork [(8,.done)]
 let b:Sch:=.fork [(6,a)]
 let c:Sch:=.fork [(3,a)]
 .take 0 (.take 1 (.take 2 (.take 4 (.take 5 (.take 7 (.fork [(3,b),(6,c)]))))))
section
variable {h : List (List SV)} {be bt ba bw bh : Nat} {mp : List (Int × Nat)} {mb : List (Int × By)} {E : ES}
theorem LayE.app(L:LayE h be bt ba bw bh mp mb E)(g:List (List SV)):LayE (h++g) be bt ba bw bh mp mb E where
 w:=L.w.app g
 e:=by rw[RL L.lt.1];exact L.e
 q:=by rw[RL L.lt.2];exact L.q
 ne:=L.ne
 eo:=L.eo
 ho:=L.ho
def LL(E:ES)(a:List Int):List SV:=[.pv (ae 1),.pv (ae (E.id+1)),.pv (.seq false 1 (aa (az E))),.pv (.seq false 1 (aa a))]
set_option maxRecDepth 16000 in
theorem qY(L:LayE h be bt ba bw bh mp mb E){n r s:Nat}{F:List (List Int)}{l:List Rc}(i:EI n F (r+1) (s+(n+3)) l E)(ho:E.over=false)(hc:0<=E.con)(aH:E.pf.length<=1000000)(aF:0<=E.many∧E.many<=1000000):
 aB Tryz.prog 44 [.ptr be 0] h (λr' h'=>r'=.pv (BL true)∧∃mp' q p k,LayE h' be bt ba bw bh mp' mb (nr E q p k)∧Ext h h' (df be bt ba bw bh mp mb) (df be bt ba bw bh mp' mb)∧EI n F r s (l++[⟨E.id+1,1,az E⟩]) (nr E q p k)):=by
 refine cR [6,7,18] [.tmp 2] aE Tryz.func44 ?_;have y:=i.res hc;have aG:=i.n9;have P:=i.tok;have hf:=P.few;have aC:=i.rsz;have hD:=(i.desk E.con).toDeskT;have hC:=i.conf hc;have h0:E.A.hd≠[]:=HV hC.is;have hB:∀q,(aw E.A q).length<=1000:=λq=>by
  cases e:isA E.A q
  .unfold aw;rw[e];simp
  .obtain⟨x,hx,rfl⟩:=(i.ari.isA q).1 e;rw[(i.ari.at hx).1];exact(i.cl hx).1
 have kL:=CB E.A E.T E.con P.okT h0 i.arok (by omega) hB (by omega);have kS:=BO E.A E.T (dz E.A E.T E.con) (hD.ok.sh (by have:=y.ln;omega)) (by omega);have kH:=Ih E.A E.T (az E) E.con (V.ahead_ok hD h0) (V.pla_lt hD) (by have:=y.len;omega) (by omega);have lR:qj E.A E.T E.con=dz E.A E.T E.con:=by unfold qj;rw[RI y.le]
 rw[lR,y.le]at kL;rw[y.yes]at kH;have eS:qh E.A E.T (dz E.A E.T E.con)=az E:=rfl;have eH:(rh E.A E.T (az E) E.con).1=ff E:=rfl;rw[eS]at kS;rw[eH]at kH;have aD:=y.ln;obtain⟨d,b⟩:=RE.1 L.e;have hz:=cI L.w.t 2;have J:=KZ L.w.a 2;have U:¬E.con<0:=by omega
 generalize dz E.A E.T E.con=L0 at*;simp;refine aj.intro (dM L.e) ?_;rintro _ h ⟨rfl,rfl⟩;simp[b,d,bQ,ho,U,hz,J];refine br.intro kL ?_;simp[b,d,bQ,ho,U,hz,J];refine br.intro kS ?_;simp[b,d,bQ,ho,U,hz,J];refine br.intro kH ?_;simp;have kI:=(Ed L i.arok (by omega) (ff E) (by have:=y.hle;omega)).args (xs:=[.ptr be 0,.seq true 1 (aa (ff E))]) (by simp[bd,bu]);have ao:=λg=>(Ed (L.app g) i.arok (by omega) (ff E) (by have:=y.hle;omega)).args (xs:=[.ptr be 0,.seq true 1 (aa (ff E))]) (by simp[bd,bu]);have ay:=i.idz;have X:aR (E.id+1)=E.id+1:=ap (by omega) (by omega);generalize au:(ff E).map (i7 E.A)=I at*;refine aQ.meet Rz ⟨[(0,.pv (.ptr be 0)),(3,.pv (.seq true 1 (aa L0))),(5,.pv (.seq true 1 (aa (az E)))),(8,.pv (.ptr h.length 0))],h++[LL E I]⟩ (by kernel_rfl) ?_ ?_
 .have C:be<h.length+1:=by omega
  have R:∀g H,(h++g)[be]'H=bQ bt ba bw bh E:=λg H=>by rw[SE d];exact b
  simp[Rz,b,d,C,R,bQ,X]
  repeat' first
   |trivial
   |refine And.intro ?_ ?_
   |(refine aj.intro kI ?_;rintro _ _ ⟨rfl,rfl⟩;simp[b,d,C,R,bQ,X])
   |(refine aj.intro (ao _) ?_;rintro _ _ ⟨rfl,rfl⟩;simp[b,d,C,R,bQ,X])
   |exact af.le (by simp) (sV _ (by simp[LL]))
 generalize K:(⟨1,E.id+1,az E,I⟩:Stp)=G at*;have L1:=L.app [LL E I];have X1:=Ext.app h [LL E I] (df be bt ba bw bh mp mb);have ad:∀H,(h++[LL E I])[h.length]'H=LL E I:=λH=>by simp
 have ag:h.length<(h++[LL E I]).length:=by simp
 generalize h++[LL E I]=H1 at*;clear d b hz J kL kS kH kI ao;obtain⟨d,b⟩:=RE.1 L1.e;have L2:=L1.eng {E with pf:=E.pf++[G]} rfl rfl rfl rfl;have X2:=X1.trans (Ext.set be (bQ bt ba bw bh {E with pf:=E.pf++[G]}) (.inl rfl));simp;refine aQ.meet RB ⟨[(0,.pv (.ptr be 0)),(3,.pv (.seq true 1 (aa L0))),(5,.pv (.seq true 1 (aa (az E))))],H1.set be (bQ bt ba bw bh {E with pf:=E.pf++[G]})⟩ (by kernel_rfl) ?_ ?_
 .have ak:gD G=[ae 1,ae (E.id+1),.seq false 1 (aa (az E)),.seq false 1 (aa I)]:=by rw[←K];rfl
  simp[RB,b,d,bQ,ad,ag,LL];and_intros
  all_goals first|omega|exact af.keep (by simp) (by simp[ak])
 generalize ai:E.pf++[G]=f at*;generalize ar:H1.set be (bQ bt ba bw bh {E with pf:=f})=H2 at*;clear d b ad ag L1 X1;obtain⟨d,b⟩:=RE.1 L2.e;have L3:=L2.eng {E with pf:=f,many:=E.many+1} rfl rfl rfl rfl;have X3:=X2.trans (Ext.set be (bQ bt ba bw bh {E with pf:=f,many:=E.many+1}) (.inl rfl));generalize N:H2.set be (bQ bt ba bw bh {E with pf:=f,many:=E.many+1})=H3 at*;simp only[bQ]at N;have an:aR (E.many+1)=E.many+1:=ap (by omega) (by omega);have kB:=(JK L3 (n:=n) (by omega) i.hp i.dcy i.inc L0 (by omega)).args (xs:=[.ptr be 0,.seq true 1 (aa L0)]) (by simp[bd,bu]);simp[b,d,bQ,an,N];refine aj.intro kB ?_;rintro _ H4 ⟨rfl,q1,o,Y,X40,G4,k4⟩;have X4:=X3.trans X40;clear d b L2 X2 L3 kB an ar N X3 X40;obtain⟨d,b⟩:=RE.1 Y.e;have hz:=cI Y.w.t 2;have ht:=(RE.1 Y.w.t).1;have kG:=Fb E.T P.okT (az E) (by have:=y.len;omega);have kV:=If E.T (az E) P.okT (by have:=y.len;omega);simp[b,d,bQ,hz];refine aj.introP kG ?_ (by simp[ht]) (by simp);simp[b,d,bQ,hz];refine aj.introP kV ?_ (by simp[ht]) (by simp);have m:je E=if az E=[]then E.T else er E.T (dB E.T (az E)):=rfl;have Q:TOk n (je E):=by rw[m];split;exact P;exact P.bak _
 by_cases c:az E=[]
 case' pos=>
  have c2:(az E).length=0:=by rw[c];rfl
  rw[RI c]at m;have L5:LayE H4 be bt ba bw bh mp mb {E with pf:=f,many:=E.many+1,q:=q1,inc:=o,T:=je E,ph:=E.ph,con:=E.con,calm:=E.calm}:=by rw[m];exact Y
  have B:∀z∈E.T.lits,z∉(je E).lits->ah z∈q1.row:=λz h1 h2=>absurd (by rw[m];exact h1) h2;have W:=i.ph;have G5:=G4;have X5:=X4;generalize E.ph=v at*;generalize H4=H5 at*;generalize q1=q2 at*
 case' neg=>
  have c2:0<(az E).length:=To.2 c;rw[RH c]at m;have kK:=Ak Y P G4.hp i.ph (dB E.T (az E));rw[←m]at kK;simp[c2];refine aj.intro kK ?_;rintro _ H5 ⟨rfl,q2,v,L5,X50,G50,W,B⟩;have X5:=X4.trans X50;have G5:=G4.trans G50
 all_goals
  clear d b Y kG kV hz ht;obtain⟨D,j⟩:=i.resd hc q2 G5 v W o k4 B;have ax:(dx E.A (E.id+1) (az E) true).row.length=E.A.row.length+(3+(az E).length):=by unfold dx;rw[RI D];simp;omega
  have aA:=y.len;have L6:=L5.eng {E with pf:=f,many:=E.many+1,q:=q2,inc:=o,T:=je E,ph:=v,con:=-1,calm:=false} rfl rfl rfl rfl;have X6:=X5.trans (Ext.set be (bQ bt ba bw bh {E with pf:=f,many:=E.many+1,q:=q2,inc:=o,T:=je E,ph:=v,con:=-1,calm:=false}) (.inl rfl));obtain⟨d,b⟩:=RE.1 L5.e;generalize O:H5.set be (bQ bt ba bw bh {E with pf:=f,many:=E.many+1,q:=q2,inc:=o,T:=je E,ph:=v,con:=-1,calm:=false})=H6 at*;simp only[bQ]at O;have kA:=(Ef L6 Q G5.hp (by dsimp only;omega) (az E) true D (i.ari.put D true).arok (by rw[ax];omega) (by dsimp only;omega) (by omega)).args (xs:=[.ptr be 0,.seq true 1 (aa (az E)),BL true]) (by simp[bd,bu]);simp[c2,b,d,bQ];simp only[O];refine aj.intro kA ?_;rintro _ H7 ⟨rfl,aq,M,L7,X70,G7⟩;have X7:=X6.trans X70;clear d b L5 X5 L6 X6 X70 kA O;simp only[Cx]at L7;obtain⟨_,j⟩:=i.resd hc M (G5.trans G7) v W o k4 (λz h1 h2=>G7.mem _ (B z h1 h2));generalize hA:dx E.A (E.id+1) (az E) true=A' at*;generalize hS:oE A' (je E) E.S E.A.row.length=S2 at*;generalize av:(E.over||decide ((az E).length=0))=ov at*;have Z:nr E M v o={E with pf:=f,many:=E.many+1,q:=M,inc:=o,ph:=v,con:=-1,calm:=false,id:=E.id+1,A:=A',over:=ov,S:=S2,T:=(if az E=[]then E.T else jb (je E) ((az E).headD 0) E.A.row.length),gl:=pt E.gl E.A.row.length (KY E.T (az E))}:=by
   unfold nr;rw[au,K,ai,hA,hS,av]
  rw[Z]at j;obtain⟨d,b⟩:=RE.1 L7.e;have L8:=L7.eng {E with pf:=f,many:=E.many+1,q:=M,inc:=o,ph:=v,con:=-1,calm:=false,id:=E.id+1,A:=A',over:=ov,S:=S2,T:=je E,gl:=pt E.gl E.A.row.length (KY E.T (az E))} rfl rfl rfl rfl;have X8:=X7.trans (Ext.set be (bQ bt ba bw bh {E with pf:=f,many:=E.many+1,q:=M,inc:=o,ph:=v,con:=-1,calm:=false,id:=E.id+1,A:=A',over:=ov,S:=S2,T:=je E,gl:=pt E.gl E.A.row.length (KY E.T (az E))}) (.inl rfl));generalize ab:H7.set be (bQ bt ba bw bh {E with pf:=f,many:=E.many+1,q:=M,inc:=o,ph:=v,con:=-1,calm:=false,id:=E.id+1,A:=A',over:=ov,S:=S2,T:=je E,gl:=pt E.gl E.A.row.length (KY E.T (az E))})=H8 at*;simp only[bQ]at ab;simp[b,d,bQ,c2,ab]
 case' pos=>
  rw[RI c]at Z j;rw[m]at L8;exact⟨aq,M,v,o,by rw[Z];exact⟨L8,X8,j⟩⟩
 rw[RH c]at Z j;obtain⟨u,w,hu⟩:=List.exists_cons_of_ne_nil c;have H:(az E).headD 0=u:=by rw[hu];rfl
 have hg:∀H:0<(az E).length,(az E)[0]'H=u:=λH=>by simp[hu]
 rw[H]at Z j;have kI:=vd H8 bt (je E) L8.w.t u E.A.row.length Q.okT (by have:=Q.few;omega);have L9:=L8.trail (jb (je E) u E.A.row.length);have X9:=X8.trans (Ext.set bt (gv (jb (je E) u E.A.row.length)) (.inr (.inr (.inr (.inr (.inl rfl))))));clear d b;obtain⟨d,b⟩:=RE.1 L8.e;refine aQ.meet RC ⟨[],H8.set bt (gv (jb (je E) u E.A.row.length))⟩ (by kernel_rfl) ?_ ?_
 .simp[RC,b,d,bQ,c2,hg]
  repeat' first
   |trivial
   |refine And.intro ?_ ?_
   |(refine aj.intro kI ?_;rintro _ _ ⟨rfl,rfl⟩;simp;exact af.keep (by simp) rfl)
 .simp;exact⟨aq,M,v,o,by rw[Z];exact⟨L9,X9,j⟩⟩
end
end Go.AX