/-
  Contracts: engines: a conflict is resolved.
-/
import Derived.Test.YtepodadinenmnaaGreatS14AxEgV
import Derived.Test.YtepodadinenmnaaGreatS14AxEgI
import Derived.Test.YtepodadinenmnaaGreatS14AxLuA
namespace Go.AX
open Go.Proofs
set_option linter.unusedSimpArgs false
def SJ:Sch:=
 let b:Sch:=.fork [(11,.done)]
 let f:Sch:=.fork [(10,b)]
 let a:Sch:=.fork [(9,b)]
 let c:Sch:=.fork [(9,f),(10,a)]
 let d:Sch:=.fork [(8,a)]
 let g:Sch:=.fork [(8,c),(10,d)]
 let e:Sch:=.fork [(3,.take 4 a)]
 let h:Sch:=.fork [(3,.take 4 c),(10,e)]
 let i:Sch:=.fork [(3,.take 4 d),(8,e)]
 .take 0 (.take 1 (.take 2 (.take 5 (.take 6 (.take 7 (.fork [(3,.take 4 g),(8,h),(10,i)]))))))
def SL:Sch:=
 let c:Sch:=.fork [(10,.done)]
 let a:Sch:=.fork [(7,.take 8 (.take 9 c))]
 let b:Sch:=.fork [(6,a)]
 let d:Sch:=.fork [(5,b)]
 let e:Sch:=.fork [(4,a)]
 let f:Sch:=.fork [(4,b),(6,e)]
 .take 0 (.take 1 (.take 2 (.take 3 (.fork [(4,d),(5,f)]))))
def SM:Sch:=
 let a:Sch:=.fork [(8,.done)]
 let b:Sch:=.fork [(6,a)]
 let c:Sch:=.fork [(3,a)]
 .take 0 (.take 1 (.take 2 (.take 4 (.take 5 (.take 7 (.fork [(3,b),(6,c)]))))))
section
variable {h : List (List SV)} {be bt ba bw bh : Nat} {mp : List (Int × Nat)} {mb : List (Int × By)} {E : ES}
theorem LayE.app(L:LayE h be bt ba bw bh mp mb E)(g:List (List SV)):LayE (h++g) be bt ba bw bh mp mb E where
 w:=L.w.app g
 e:=by rw[SZ L.lt.1];exact L.e
 q:=by rw[SZ L.lt.2];exact L.q
 ne:=L.ne
 eo:=L.eo
 ho:=L.ho
def MP(E:ES)(a:List Int):List SV:=[.pv (ab 1),.pv (ab (E.id+1)),.pv (.seq false 1 (ae (aH E))),.pv (.seq false 1 (ae a))]
set_option maxRecDepth 16000 in
theorem A0(L:LayE h be bt ba bw bh mp mb E){n r s:Nat}{F:List (List Int)}{l:List Rc}(i:EI n F (r+1) (s+(n+3)) l E)(ho:E.over=false)(hc:0<=E.con)(aG:E.pf.length<=1000000)(aE:0<=E.many∧E.many<=1000000):
 aA Tryz.prog 44 [.ptr be 0] h (λr' h'=>r'=.pv (BL true)∧∃mp' q p k,LayE h' be bt ba bw bh mp' mb (rO E q p k)∧Ext h h' (cO be bt ba bw bh mp mb) (cO be bt ba bw bh mp' mb)∧EI n F r s (l++[⟨E.id+1,1,aH E⟩]) (rO E q p k)):=by
 refine cQ [6,7,18] [.tmp 2] aD Tryz.func44 ?_;have y:=i.res hc;have aF:=i.n9;have O:=i.tok;have hf:=O.few;have aB:=i.rsz;have hD:=(i.desk E.con).toDeskT;have hC:=i.conf hc;have h0:E.A.hd≠[]:=Cm hC.is;have hB:∀q,(av E.A q).length<=1000:=λq=>by
  cases e:isA E.A q
  .unfold av;rw[e];simp
  .obtain⟨x,hx,rfl⟩:=(i.ari.isA q).1 e;rw[(i.ari.at hx).1];exact(i.cl hx).1
 have kL:=C3 E.A E.T E.con O.okT h0 i.arok (by omega) hB (by omega);have kS:=Cl E.A E.T (dr E.A E.T E.con) (hD.ok.sh (by have:=y.ln;omega)) (by omega);have kH:=I6 E.A E.T (aH E) E.con (V.ahead_ok hD h0) (V.pla_lt hD) (by have:=y.len;omega) (by omega);have lR:qC E.A E.T E.con=dr E.A E.T E.con:=by unfold qC;rw[SX y.le]
 rw[lR,y.le]at kL;rw[y.yes]at kH;have eS:qA E.A E.T (dr E.A E.T E.con)=aH E:=rfl;have eH:(rI E.A E.T (aH E) E.con).1=fB E:=rfl;rw[eS]at kS;rw[eH]at kH;have aC:=y.ln;obtain⟨d,b⟩:=SQ.1 L.e;have hz:=cW L.w.t 2;have I:=Ee L.w.a 2;have R:¬E.con<0:=by omega
 generalize dr E.A E.T E.con=L0 at*;simp;refine am.intro (gg L.e) ?_;rintro _ h ⟨rfl,rfl⟩;simp[b,d,bO,ho,R,hz,I];refine bz.intro kL ?_;simp[b,d,bO,ho,R,hz,I];refine bz.intro kS ?_;simp[b,d,bO,ho,R,hz,I];refine bz.intro kH ?_;simp;have kI:=(EW L i.arok (by omega) (fB E) (by have:=y.hle;omega)).args (xs:=[.ptr be 0,.seq true 1 (ae (fB E))]) (by simp[bc,bB]);have an:=λg=>(EW (L.app g) i.arok (by omega) (fB E) (by have:=y.hle;omega)).args (xs:=[.ptr be 0,.seq true 1 (ae (fB E))]) (by simp[bc,bB]);have ay:=i.idz;have W:aX (E.id+1)=E.id+1:=ao (by omega) (by omega);generalize au:(fB E).map (gn E.A)=H at*;refine aT.meet SJ ⟨[(0,.pv (.ptr be 0)),(3,.pv (.seq true 1 (ae L0))),(5,.pv (.seq true 1 (ae (aH E)))),(8,.pv (.ptr h.length 0))],h++[MP E H]⟩ (by kernel_rfl) ?_ ?_
 .have C:be<h.length+1:=by omega
  have Q:∀g G,(h++g)[be]'G=bO bt ba bw bh E:=λg G=>by rw[T5 d];exact b
  simp[SJ,b,d,C,Q,bO,W]
  repeat' first
   |trivial
   |refine And.intro ?_ ?_
   |(refine am.intro kI ?_;rintro _ _ ⟨rfl,rfl⟩;simp[b,d,C,Q,bO,W])
   |(refine am.intro (an _) ?_;rintro _ _ ⟨rfl,rfl⟩;simp[b,d,C,Q,bO,W])
   |exact ah.le (by simp) (tn _ (by simp[MP]))
 generalize J:(⟨1,E.id+1,aH E,H⟩:Stp)=stp at*;have L1:=L.app [MP E H];have X1:=Ext.app h [MP E H] (cO be bt ba bw bh mp mb);have ad:∀G,(h++[MP E H])[h.length]'G=MP E H:=λG=>by simp
 have ag:h.length<(h++[MP E H]).length:=by simp
 generalize h++[MP E H]=H1 at*;clear d b hz I kL kS kH kI an;obtain⟨d,b⟩:=SQ.1 L1.e;have L2:=L1.eng {E with pf:=E.pf++[stp]} rfl rfl rfl rfl;have X2:=X1.trans (Ext.set be (bO bt ba bw bh {E with pf:=E.pf++[stp]}) (.inl rfl));simp;refine aT.meet SL ⟨[(0,.pv (.ptr be 0)),(3,.pv (.seq true 1 (ae L0))),(5,.pv (.seq true 1 (ae (aH E))))],H1.set be (bO bt ba bw bh {E with pf:=E.pf++[stp]})⟩ (by kernel_rfl) ?_ ?_
 .have aj:dX stp=[ab 1,ab (E.id+1),.seq false 1 (ae (aH E)),.seq false 1 (ae H)]:=by rw[←J];rfl
  simp[SL,b,d,bO,ad,ag,MP];and_intros
  all_goals first|omega|exact ah.keep (by simp) (by simp[aj])
 generalize ai:E.pf++[stp]=f at*;generalize ar:H1.set be (bO bt ba bw bh {E with pf:=f})=H2 at*;clear d b ad ag L1 X1;obtain⟨d,b⟩:=SQ.1 L2.e;have L3:=L2.eng {E with pf:=f,many:=E.many+1} rfl rfl rfl rfl;have X3:=X2.trans (Ext.set be (bO bt ba bw bh {E with pf:=f,many:=E.many+1}) (.inl rfl));generalize M:H2.set be (bO bt ba bw bh {E with pf:=f,many:=E.many+1})=H3 at*;simp only[bO]at M;have ak:aX (E.many+1)=E.many+1:=ao (by omega) (by omega);have kB:=(KA L3 (n:=n) (by omega) i.hp i.dcy i.inc L0 (by omega)).args (xs:=[.ptr be 0,.seq true 1 (ae L0)]) (by simp[bc,bB]);simp[b,d,bO,ak,M];refine am.intro kB ?_;rintro _ H4 ⟨rfl,q1,o,X,X40,G4,k4⟩;have X4:=X3.trans X40;clear d b L2 X2 L3 kB ak ar M X3 X40;obtain⟨d,b⟩:=SQ.1 X.e;have hz:=cW X.w.t 2;have ht:=(SQ.1 X.w.t).1;have kG:=FV E.T O.okT (aH E) (by have:=y.len;omega);have kV:=I4 E.T (aH E) O.okT (by have:=y.len;omega);simp[b,d,bO,hz];refine am.introP kG ?_ (by simp[ht]) (by simp);simp[b,d,bO,hz];refine am.introP kV ?_ (by simp[ht]) (by simp);have m:ko E=if aH E=[]then E.T else eW E.T (eZ E.T (aH E)):=rfl;have P:TOk n (ko E):=by rw[m];split;exact O;exact O.bak _
 by_cases c:aH E=[]
 case' pos=>
  have c2:(aH E).length=0:=by rw[c];rfl
  rw[SX c]at m;have L5:LayE H4 be bt ba bw bh mp mb {E with pf:=f,many:=E.many+1,q:=q1,inc:=o,T:=ko E,ph:=E.ph,con:=E.con,calm:=E.calm}:=by rw[m];exact X
  have B:∀z∈E.T.lits,z∉(ko E).lits->af z∈q1.row:=λz h1 h2=>absurd (by rw[m];exact h1) h2;have U:=i.ph;have G5:=G4;have X5:=X4;generalize E.ph=v at*;generalize H4=H5 at*;generalize q1=q2 at*
 case' neg=>
  have c2:0<(aH E).length:=UG.2 c;rw[SU c]at m;have kK:=AS X O G4.hp i.ph (eZ E.T (aH E));rw[←m]at kK;simp[c2];refine am.intro kK ?_;rintro _ H5 ⟨rfl,q2,v,L5,X50,G50,U,B⟩;have X5:=X4.trans X50;have G5:=G4.trans G50
 all_goals
  clear d b X kG kV hz ht;obtain⟨D,j⟩:=i.resd hc q2 G5 v U o k4 B;have ax:(dg E.A (E.id+1) (aH E) true).row.length=E.A.row.length+(3+(aH E).length):=by unfold dg;rw[SX D];simp;omega
  have az:=y.len;have L6:=L5.eng {E with pf:=f,many:=E.many+1,q:=q2,inc:=o,T:=ko E,ph:=v,con:=-1,calm:=false} rfl rfl rfl rfl;have X6:=X5.trans (Ext.set be (bO bt ba bw bh {E with pf:=f,many:=E.many+1,q:=q2,inc:=o,T:=ko E,ph:=v,con:=-1,calm:=false}) (.inl rfl));obtain⟨d,b⟩:=SQ.1 L5.e;generalize N:H5.set be (bO bt ba bw bh {E with pf:=f,many:=E.many+1,q:=q2,inc:=o,T:=ko E,ph:=v,con:=-1,calm:=false})=H6 at*;simp only[bO]at N;have kA:=(EY L6 P G5.hp (by dsimp only;omega) (aH E) true D (i.ari.put D true).arok (by rw[ax];omega) (by dsimp only;omega) (by omega)).args (xs:=[.ptr be 0,.seq true 1 (ae (aH E)),BL true]) (by simp[bc,bB]);simp[c2,b,d,bO];simp only[N];refine am.intro kA ?_;rintro _ H7 ⟨rfl,aq,K,L7,X70,G7⟩;have X7:=X6.trans X70;clear d b L5 X5 L6 X6 X70 kA N;simp only[C1]at L7;obtain⟨_,j⟩:=i.resd hc K (G5.trans G7) v U o k4 (λz h1 h2=>G7.mem _ (B z h1 h2));generalize hA:dg E.A (E.id+1) (aH E) true=Z at*;generalize hS:oY Z (ko E) E.S E.A.row.length=S2 at*;generalize aw:(E.over||decide ((aH E).length=0))=ov at*;have Y:rO E K v o={E with pf:=f,many:=E.many+1,q:=K,inc:=o,ph:=v,con:=-1,calm:=false,id:=E.id+1,A:=Z,over:=ov,S:=S2,T:=(if aH E=[]then E.T else lu (ko E) ((aH E).headD 0) E.A.row.length),gl:=pt E.gl E.A.row.length (LU E.T (aH E))}:=by
   unfold rO;rw[au,J,ai,hA,hS,aw]
  rw[Y]at j;obtain⟨d,b⟩:=SQ.1 L7.e;have L8:=L7.eng {E with pf:=f,many:=E.many+1,q:=K,inc:=o,ph:=v,con:=-1,calm:=false,id:=E.id+1,A:=Z,over:=ov,S:=S2,T:=ko E,gl:=pt E.gl E.A.row.length (LU E.T (aH E))} rfl rfl rfl rfl;have X8:=X7.trans (Ext.set be (bO bt ba bw bh {E with pf:=f,many:=E.many+1,q:=K,inc:=o,ph:=v,con:=-1,calm:=false,id:=E.id+1,A:=Z,over:=ov,S:=S2,T:=ko E,gl:=pt E.gl E.A.row.length (LU E.T (aH E))}) (.inl rfl));generalize aa:H7.set be (bO bt ba bw bh {E with pf:=f,many:=E.many+1,q:=K,inc:=o,ph:=v,con:=-1,calm:=false,id:=E.id+1,A:=Z,over:=ov,S:=S2,T:=ko E,gl:=pt E.gl E.A.row.length (LU E.T (aH E))})=H8 at*;simp only[bO]at aa;simp[b,d,bO,c2,aa]
 case' pos=>
  rw[SX c]at Y j;rw[m]at L8;exact⟨aq,K,v,o,by rw[Y];exact⟨L8,X8,j⟩⟩
 rw[SU c]at Y j;obtain⟨u,w,hu⟩:=List.exists_cons_of_ne_nil c;have G:(aH E).headD 0=u:=by rw[hu];rfl
 have hg:∀G:0<(aH E).length,(aH E)[0]'G=u:=λG=>by simp[hu]
 rw[G]at Y j;have kI:=vH H8 bt (ko E) L8.w.t u E.A.row.length P.okT (by have:=P.few;omega);have L9:=L8.trail (lu (ko E) u E.A.row.length);have X9:=X8.trans (Ext.set bt (gA (lu (ko E) u E.A.row.length)) (.inr (.inr (.inr (.inr (.inl rfl))))));clear d b;obtain⟨d,b⟩:=SQ.1 L8.e;refine aT.meet SM ⟨[],H8.set bt (gA (lu (ko E) u E.A.row.length))⟩ (by kernel_rfl) ?_ ?_
 .simp[SM,b,d,bO,c2,hg]
  repeat' first
   |trivial
   |refine And.intro ?_ ?_
   |(refine am.intro kI ?_;rintro _ _ ⟨rfl,rfl⟩;simp;exact ah.keep (by simp) rfl)
 .simp;exact⟨aq,K,v,o,by rw[Y];exact⟨L9,X9,j⟩⟩
end
end Go.AX