/-
  Contracts: engines: a conflict is resolved.
-/
import Derived.Test.YtepodadinenmnaaGreatS14AxEgV
import Derived.Test.YtepodadinenmnaaGreatS14AxEgI
import Derived.Test.YtepodadinenmnaaGreatS14AxLuA
namespace Go.AX
open Go.Proofs
set_option linter.unusedSimpArgs false
def SC:Sch:=
 let b:Sch:=.fork [(11,.done)]
 let f:Sch:=.fork [(10,b)]
 let a:Sch:=.fork [(9,b)]
 let c:Sch:=.fork [(9,f),(10,a)]
 let d:Sch:=.fork [(8,a)]
 let g:Sch:=.fork [(8,c),(10,d)]
 let e:Sch:=.fork [(3,.take 4 a)]
 let h:Sch:=.fork [(3,.take 4 c),(10,e)]
 let i:Sch:=.fork [(3,.take 4 d),(8,e)]
 .take 0 (.take 1 (.take 2 (.take 5 (.take 6 (.take 7 (.fork [(3,.take 4 g),(8,h),(10,i)]))))))
def SD:Sch:=
 let c:Sch:=.fork [(10,.done)]
 let a:Sch:=.fork [(7,.take 8 (.take 9 c))]
 let b:Sch:=.fork [(6,a)]
 let d:Sch:=.fork [(5,b)]
 let e:Sch:=.fork [(4,a)]
 let f:Sch:=.fork [(4,b),(6,e)]
 .take 0 (.take 1 (.take 2 (.take 3 (.fork [(4,d),(5,f)]))))
def SE:Sch:=
 let a:Sch:=.fork [(8,.done)]
 let b:Sch:=.fork [(6,a)]
 let c:Sch:=.fork [(3,a)]
 .take 0 (.take 1 (.take 2 (.take 4 (.take 5 (.take 7 (.fork [(3,b),(6,c)]))))))
section
variable {h : List (List SV)} {be bt ba bw bh : Nat} {mp : List (Int × Nat)} {mb : List (Int × By)} {E : ES}
theorem LayE.app(L:LayE h be bt ba bw bh mp mb E)(g:List (List SV)):LayE (h++g) be bt ba bw bh mp mb E where
 w:=L.w.app g
 e:=by rw[SO L.lt.1];exact L.e
 q:=by rw[SO L.lt.2];exact L.q
 ne:=L.ne
 eo:=L.eo
 ho:=L.ho
def MK(E:ES)(a:List Int):List SV:=[.pv (ab 1),.pv (ab (E.id+1)),.pv (.seq false 1 (ae (aJ E))),.pv (.seq false 1 (ae a))]
set_option maxRecDepth 16000 in
theorem AO(L:LayE h be bt ba bw bh mp mb E){n r s:Nat}{F:List (List Int)}{l:List Rc}(i:EI n F (r+1) (s+(n+3)) l E)(ho:E.over=false)(hc:0<=E.con)(aG:E.pf.length<=1000000)(aE:0<=E.many∧E.many<=1000000):
 ax Tryz.prog 44 [.ptr be 0] h (λr' h'=>r'=.pv (BL true)∧∃mp' q p k,LayE h' be bt ba bw bh mp' mb (rT E q p k)∧Ext h h' (cV be bt ba bw bh mp mb) (cV be bt ba bw bh mp' mb)∧EI n F r s (l++[⟨E.id+1,1,aJ E⟩]) (rT E q p k)):=by
 refine cI [6,7,18] [.tmp 2] aC Tryz.func44 ?_;have y:=i.res hc;have aF:=i.n9;have O:=i.tok;have hf:=O.few;have aB:=i.rsz;have hD:=(i.desk E.con).toDeskT;have hC:=i.conf hc;have h0:E.A.hd≠[]:=Cb hC.is;have hB:∀q,(au E.A q).length<=1000:=λq=>by
  cases e:isA E.A q
  .unfold au;rw[e];simp
  .obtain⟨x,hx,rfl⟩:=(i.ari.isA q).1 e;rw[(i.ari.at hx).1];exact(i.cl hx).1
 have kL:=CR E.A E.T E.con O.okT h0 i.arok (by omega) hB (by omega);have kS:=Ca E.A E.T (dy E.A E.T E.con) (hD.ok.sh (by have:=y.ln;omega)) (by omega);have kH:=IG E.A E.T (aJ E) E.con (V.ahead_ok hD h0) (V.pla_lt hD) (by have:=y.len;omega) (by omega);have lR:qK E.A E.T E.con=dy E.A E.T E.con:=by unfold qK;rw[SN y.le]
 rw[lR,y.le]at kL;rw[y.yes]at kH;have eS:qI E.A E.T (dy E.A E.T E.con)=aJ E:=rfl;have eH:(rP E.A E.T (aJ E) E.con).1=fE E:=rfl;rw[eS]at kS;rw[eH]at kH;have aD:=y.ln;obtain⟨d,b⟩:=SG.1 L.e;have hz:=db L.w.t 2;have I:=DY L.w.a 2;have R:¬E.con<0:=by omega
 generalize dy E.A E.T E.con=L0 at*;simp;refine am.intro (gj L.e) ?_;rintro _ h ⟨rfl,rfl⟩;simp[b,d,bN,ho,R,hz,I];refine bE.intro kL ?_;simp[b,d,bN,ho,R,hz,I];refine bE.intro kS ?_;simp[b,d,bN,ho,R,hz,I];refine bE.intro kH ?_;simp;have kI:=(Ey L i.arok (by omega) (fE E) (by have:=y.hle;omega)).args (xs:=[.ptr be 0,.seq true 1 (ae (fE E))]) (by simp[bK,bO]);have an:=λg=>(Ey (L.app g) i.arok (by omega) (fE E) (by have:=y.hle;omega)).args (xs:=[.ptr be 0,.seq true 1 (ae (fE E))]) (by simp[bK,bO]);have az:=i.idz;have W:aY (E.id+1)=E.id+1:=ao (by omega) (by omega);generalize av:(fE E).map (gt E.A)=H at*;refine bc.meet SC ⟨[(0,.pv (.ptr be 0)),(3,.pv (.seq true 1 (ae L0))),(5,.pv (.seq true 1 (ae (aJ E)))),(8,.pv (.ptr h.length 0))],h++[MK E H]⟩ (by kernel_rfl) ?_ ?_
 .have C:be<h.length+1:=by omega
  have Q:∀g G,(h++g)[be]'G=bN bt ba bw bh E:=λg G=>by rw[TB d];exact b
  simp[SC,b,d,C,Q,bN,W]
  repeat' first
   |trivial
   |refine And.intro ?_ ?_
   |(refine am.intro kI ?_;rintro _ _ ⟨rfl,rfl⟩;simp[b,d,C,Q,bN,W])
   |(refine am.intro (an _) ?_;rintro _ _ ⟨rfl,rfl⟩;simp[b,d,C,Q,bN,W])
   |exact ai.le (by simp) (tu _ (by simp[MK]))
 generalize J:(⟨1,E.id+1,aJ E,H⟩:Stp)=stp at*;have L1:=L.app [MK E H];have X1:=Ext.app h [MK E H] (cV be bt ba bw bh mp mb);have ad:∀G,(h++[MK E H])[h.length]'G=MK E H:=λG=>by simp
 have ag:h.length<(h++[MK E H]).length:=by simp
 generalize h++[MK E H]=H1 at*;clear d b hz I kL kS kH kI an;obtain⟨d,b⟩:=SG.1 L1.e;have L2:=L1.eng {E with pf:=E.pf++[stp]} rfl rfl rfl rfl;have X2:=X1.trans (Ext.set be (bN bt ba bw bh {E with pf:=E.pf++[stp]}) (.inl rfl));simp;refine bc.meet SD ⟨[(0,.pv (.ptr be 0)),(3,.pv (.seq true 1 (ae L0))),(5,.pv (.seq true 1 (ae (aJ E))))],H1.set be (bN bt ba bw bh {E with pf:=E.pf++[stp]})⟩ (by kernel_rfl) ?_ ?_
 .have aj:dq stp=[ab 1,ab (E.id+1),.seq false 1 (ae (aJ E)),.seq false 1 (ae H)]:=by rw[←J];rfl
  simp[SD,b,d,bN,ad,ag,MK];and_intros
  all_goals first|omega|exact ai.keep (by simp) (by simp[aj])
 generalize ah:E.pf++[stp]=f at*;generalize ar:H1.set be (bN bt ba bw bh {E with pf:=f})=H2 at*;clear d b ad ag L1 X1;obtain⟨d,b⟩:=SG.1 L2.e;have L3:=L2.eng {E with pf:=f,many:=E.many+1} rfl rfl rfl rfl;have X3:=X2.trans (Ext.set be (bN bt ba bw bh {E with pf:=f,many:=E.many+1}) (.inl rfl));generalize M:H2.set be (bN bt ba bw bh {E with pf:=f,many:=E.many+1})=H3 at*;simp only[bN]at M;have ak:aY (E.many+1)=E.many+1:=ao (by omega) (by omega);have kB:=(Kn L3 (n:=n) (by omega) i.hp i.dcy i.inc L0 (by omega)).args (xs:=[.ptr be 0,.seq true 1 (ae L0)]) (by simp[bK,bO]);simp[b,d,bN,ak,M];refine am.intro kB ?_;rintro _ H4 ⟨rfl,q1,o,X,X40,G4,k4⟩;have X4:=X3.trans X40;clear d b L2 X2 L3 kB ak ar M X3 X40;obtain⟨d,b⟩:=SG.1 X.e;have hz:=db X.w.t 2;have ht:=(SG.1 X.w.t).1;have kG:=FB E.T O.okT (aJ E) (by have:=y.len;omega);have kV:=IE E.T (aJ E) O.okT (by have:=y.len;omega);simp[b,d,bN,hz];refine am.introP kG ?_ (by simp[ht]) (by simp);simp[b,d,bN,hz];refine am.introP kV ?_ (by simp[ht]) (by simp);have m:kr E=if aJ E=[]then E.T else eY E.T (eZ E.T (aJ E)):=rfl;have P:TOk n (kr E):=by rw[m];split;exact O;exact O.bak _
 by_cases c:aJ E=[]
 case' pos=>
  have c2:(aJ E).length=0:=by rw[c];rfl
  rw[SN c]at m;have L5:LayE H4 be bt ba bw bh mp mb {E with pf:=f,many:=E.many+1,q:=q1,inc:=o,T:=kr E,ph:=E.ph,con:=E.con,calm:=E.calm}:=by rw[m];exact X
  have B:∀z∈E.T.lits,z∉(kr E).lits->af z∈q1.row:=λz h1 h2=>absurd (by rw[m];exact h1) h2;have U:=i.ph;have G5:=G4;have X5:=X4;generalize E.ph=v at*;generalize H4=H5 at*;generalize q1=q2 at*
 case' neg=>
  have c2:0<(aJ E).length:=Up.2 c;rw[SM c]at m;have kK:=AH X O G4.hp i.ph (eZ E.T (aJ E));rw[←m]at kK;simp[c2];refine am.intro kK ?_;rintro _ H5 ⟨rfl,q2,v,L5,X50,G50,U,B⟩;have X5:=X4.trans X50;have G5:=G4.trans G50
 all_goals
  clear d b X kG kV hz ht;obtain⟨D,j⟩:=i.resd hc q2 G5 v U o k4 B;have ay:(dt E.A (E.id+1) (aJ E) true).row.length=E.A.row.length+(3+(aJ E).length):=by unfold dt;rw[SN D];simp;omega
  have aA:=y.len;have L6:=L5.eng {E with pf:=f,many:=E.many+1,q:=q2,inc:=o,T:=kr E,ph:=v,con:=-1,calm:=false} rfl rfl rfl rfl;have X6:=X5.trans (Ext.set be (bN bt ba bw bh {E with pf:=f,many:=E.many+1,q:=q2,inc:=o,T:=kr E,ph:=v,con:=-1,calm:=false}) (.inl rfl));obtain⟨d,b⟩:=SG.1 L5.e;generalize N:H5.set be (bN bt ba bw bh {E with pf:=f,many:=E.many+1,q:=q2,inc:=o,T:=kr E,ph:=v,con:=-1,calm:=false})=H6 at*;simp only[bN]at N;have kA:=(EA L6 P G5.hp (by dsimp only;omega) (aJ E) true D (i.ari.put D true).arok (by rw[ay];omega) (by dsimp only;omega) (by omega)).args (xs:=[.ptr be 0,.seq true 1 (ae (aJ E)),BL true]) (by simp[bK,bO]);simp[c2,b,d,bN];simp only[N];refine am.intro kA ?_;rintro _ H7 ⟨rfl,aq,K,L7,X70,G7⟩;have X7:=X6.trans X70;clear d b L5 X5 L6 X6 X70 kA N;simp only[CP]at L7;obtain⟨_,j⟩:=i.resd hc K (G5.trans G7) v U o k4 (λz h1 h2=>G7.mem _ (B z h1 h2));generalize hA:dt E.A (E.id+1) (aJ E) true=Z at*;generalize hS:o5 Z (kr E) E.S E.A.row.length=S2 at*;generalize aw:(E.over||decide ((aJ E).length=0))=ov at*;have Y:rT E K v o={E with pf:=f,many:=E.many+1,q:=K,inc:=o,ph:=v,con:=-1,calm:=false,id:=E.id+1,A:=Z,over:=ov,S:=S2,T:=(if aJ E=[]then E.T else lu (kr E) ((aJ E).headD 0) E.A.row.length),gl:=pt E.gl E.A.row.length (LD E.T (aJ E))}:=by
   unfold rT;rw[av,J,ah,hA,hS,aw]
  rw[Y]at j;obtain⟨d,b⟩:=SG.1 L7.e;have L8:=L7.eng {E with pf:=f,many:=E.many+1,q:=K,inc:=o,ph:=v,con:=-1,calm:=false,id:=E.id+1,A:=Z,over:=ov,S:=S2,T:=kr E,gl:=pt E.gl E.A.row.length (LD E.T (aJ E))} rfl rfl rfl rfl;have X8:=X7.trans (Ext.set be (bN bt ba bw bh {E with pf:=f,many:=E.many+1,q:=K,inc:=o,ph:=v,con:=-1,calm:=false,id:=E.id+1,A:=Z,over:=ov,S:=S2,T:=kr E,gl:=pt E.gl E.A.row.length (LD E.T (aJ E))}) (.inl rfl));generalize aa:H7.set be (bN bt ba bw bh {E with pf:=f,many:=E.many+1,q:=K,inc:=o,ph:=v,con:=-1,calm:=false,id:=E.id+1,A:=Z,over:=ov,S:=S2,T:=kr E,gl:=pt E.gl E.A.row.length (LD E.T (aJ E))})=H8 at*;simp only[bN]at aa;simp[b,d,bN,c2,aa]
 case' pos=>
  rw[SN c]at Y j;rw[m]at L8;exact⟨aq,K,v,o,by rw[Y];exact⟨L8,X8,j⟩⟩
 rw[SM c]at Y j;obtain⟨u,w,hu⟩:=List.exists_cons_of_ne_nil c;have G:(aJ E).headD 0=u:=by rw[hu];rfl
 have hg:∀G:0<(aJ E).length,(aJ E)[0]'G=u:=λG=>by simp[hu]
 rw[G]at Y j;have kI:=vH H8 bt (kr E) L8.w.t u E.A.row.length P.okT (by have:=P.few;omega);have L9:=L8.trail (lu (kr E) u E.A.row.length);have X9:=X8.trans (Ext.set bt (gD (lu (kr E) u E.A.row.length)) (.inr (.inr (.inr (.inr (.inl rfl))))));clear d b;obtain⟨d,b⟩:=SG.1 L8.e;refine bc.meet SE ⟨[],H8.set bt (gD (lu (kr E) u E.A.row.length))⟩ (by kernel_rfl) ?_ ?_
 .simp[SE,b,d,bN,c2,hg]
  repeat' first
   |trivial
   |refine And.intro ?_ ?_
   |(refine am.intro kI ?_;rintro _ _ ⟨rfl,rfl⟩;simp;exact ai.keep (by simp) rfl)
 .simp;exact⟨aq,K,v,o,by rw[Y];exact⟨L9,X9,j⟩⟩
end
end Go.AX