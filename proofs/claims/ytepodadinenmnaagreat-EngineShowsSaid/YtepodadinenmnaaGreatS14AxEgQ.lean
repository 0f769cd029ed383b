/-
  Contracts: engines: a conflict is resolved.
-/
import Derived.Test.YtepodadinenmnaaGreatS14AxEgW
import Derived.Test.YtepodadinenmnaaGreatS14AxEgI
import Derived.Test.YtepodadinenmnaaGreatS14AxRnX
namespace Go.AX
open Go.Proofs
set_option linter.unusedSimpArgs false
def P4:Sch:=
 let b:Sch:=.fork [(11,.done)]
 let f:Sch:=.fork [(10,b)]
 let a:Sch:=.fork [(9,b)]
 let c:Sch:=.fork [(9,f),(10,a)]
 let d:Sch:=.fork [(8,a)]
 let g:Sch:=.fork [(8,c),(10,d)]
 let e:Sch:=.fork [(3,.take 4 a)]
 let h:Sch:=.fork [(3,.take 4 c),(10,e)]
 let i:Sch:=.fork [(3,.take 4 d),(8,e)]
 .take 0 (.take 1 (.take 2 (.take 5 (.take 6 (.take 7 (.fork [(3,.take 4 g),(8,h),(10,i)]))))))
def P5:Sch:=
 let c:Sch:=.fork [(10,.done)]
 let a:Sch:=.fork [(7,.take 8 (.take 9 c))]
 let b:Sch:=.fork [(6,a)]
 let d:Sch:=.fork [(5,b)]
 let e:Sch:=.fork [(4,a)]
 let f:Sch:=.fork [(4,b),(6,e)]
 .take 0 (.take 1 (.take 2 (.take 3 (.fork [(4,d),(5,f)]))))
def P6:Sch:=
 let a:Sch:=.fork [(8,.done)]
 let b:Sch:=.fork [(6,a)]
 let c:Sch:=.fork [(3,a)]
 .take 0 (.take 1 (.take 2 (.take 4 (.take 5 (.take 7 (.fork [(3,b),(6,c)]))))))
section
variable {h : List (List SV)} {be bt ba bw bh : Nat} {mp : List (Int × Nat)} {mb : List (Int × By)} {E : ES}
theorem LayE.app(L:LayE h be bt ba bw bh mp mb E)(g:List (List SV)):LayE (h++g) be bt ba bw bh mp mb E where
 w:=L.w.app g
 e:=by rw[Qd L.lt.1];exact L.e
 q:=by rw[Qd L.lt.2];exact L.q
 ne:=L.ne
 eo:=L.eo
 ho:=L.ho
def Kq(E:ES)(a:List Int):List SV:=[.pv (af 1),.pv (af (E.id+1)),.pv (.seq false 1 (ab (aI E))),.pv (.seq false 1 (ab a))]
set_option maxRecDepth 16000 in
theorem qs(L:LayE h be bt ba bw bh mp mb E){n r s:Nat}{F:List (List Int)}{l:List Rc}(i:EI n F (r+1) (s+(n+3)) l E)(ho:E.over=false)(hc:0<=E.con)(aH:E.pf.length<=1000000)(aF:0<=E.many∧E.many<=1000000):
 ay Tryz.prog 44 [.ptr be 0] h (λr' h'=>r'=.pv (BL true)∧∃mp' q p k,LayE h' be bt ba bw bh mp' mb (p6 E q p k)∧Ext h h' (eG be bt ba bw bh mp mb) (eG be bt ba bw bh mp' mb)∧EI n F r s (l++[⟨E.id+1,1,aI E⟩]) (p6 E q p k)):=by
 refine cY [6,7,18] [.tmp 2] aD Tryz.func44 ?_;have y:=i.res hc;have aG:=i.n9;have P:=i.tok;have hf:=P.few;have aC:=i.rsz;have hD:=(i.desk E.con).toDeskT;have hC:=i.conf hc;have h0:E.A.hd≠[]:=Gs hC.is;have hB:∀q,(au E.A q).length<=1000:=λq=>by
  cases e:isA E.A q
  .unfold au;rw[e];simp
  .obtain⟨x,hx,rfl⟩:=(i.ari.isA q).1 e;rw[(i.ari.at hx).1];exact(i.cl hx).1
 have kL:=Bp E.A E.T E.con P.okT h0 i.arok (by omega) hB (by omega);have kS:=AA E.A E.T (dq E.A E.T E.con) (hD.ok.sh (by have:=y.ln;omega)) (by omega);have kH:=GF E.A E.T (aI E) E.con (V.ahead_ok hD h0) (V.pla_lt hD) (by have:=y.len;omega) (by omega);have lR:pN E.A E.T E.con=dq E.A E.T E.con:=by unfold pN;rw[Qb y.le]
 rw[lR,y.le]at kL;rw[y.yes]at kH;have eS:pL E.A E.T (dq E.A E.T E.con)=aI E:=rfl;have eH:(qD E.A E.T (aI E) E.con).1=eW E:=rfl;rw[eS]at kS;rw[eH]at kH;have aE:=y.ln;obtain⟨d,b⟩:=P7.1 L.e;have hz:=cG L.w.t 2;have J:=Jx L.w.a 2;have U:¬E.con<0:=by omega
 generalize dq E.A E.T E.con=L0 at*;simp;refine ak.intro (dE L.e) ?_;rintro _ h ⟨rfl,rfl⟩;simp[b,d,bS,ho,U,hz,J];refine br.intro kL ?_;simp[b,d,bS,ho,U,hz,J];refine br.intro kS ?_;simp[b,d,bS,ho,U,hz,J];refine br.intro kH ?_;simp;have kI:=(CU L i.arok (by omega) (eW E) (by have:=y.hle;omega)).args (xs:=[.ptr be 0,.seq true 1 (ab (eW E))]) (by simp[bG,bI]);have ao:=λg=>(CU (L.app g) i.arok (by omega) (eW E) (by have:=y.hle;omega)).args (xs:=[.ptr be 0,.seq true 1 (ab (eW E))]) (by simp[bG,bI]);have aA:=i.idz;have X:aX (E.id+1)=E.id+1:=aq (by omega) (by omega);generalize aw:(eW E).map (je E.A)=I at*;refine bd.meet P4 ⟨[(0,.pv (.ptr be 0)),(3,.pv (.seq true 1 (ab L0))),(5,.pv (.seq true 1 (ab (aI E)))),(8,.pv (.ptr h.length 0))],h++[Kq E I]⟩ (by kernel_rfl) ?_ ?_
 .have C:be<h.length+1:=by omega
  have R:∀g H,(h++g)[be]'H=bS bt ba bw bh E:=λg H=>by rw[QN d];exact b
  simp[P4,b,d,C,R,bS,X]
  repeat' first
   |trivial
   |refine And.intro ?_ ?_
   |(refine ak.intro kI ?_;rintro _ _ ⟨rfl,rfl⟩;simp[b,d,C,R,bS,X])
   |(refine ak.intro (ao _) ?_;rintro _ _ ⟨rfl,rfl⟩;simp[b,d,C,R,bS,X])
   |exact ai.le (by simp) (rQ _ (by simp[Kq]))
 generalize K:(⟨1,E.id+1,aI E,I⟩:Stp)=G at*;have L1:=L.app [Kq E I];have X1:=Ext.app h [Kq E I] (eG be bt ba bw bh mp mb);have ad:∀H,(h++[Kq E I])[h.length]'H=Kq E I:=λH=>by simp
 have ag:h.length<(h++[Kq E I]).length:=by simp
 generalize h++[Kq E I]=H1 at*;clear d b hz J kL kS kH kI ao;obtain⟨d,b⟩:=P7.1 L1.e;have L2:=L1.eng {E with pf:=E.pf++[G]} rfl rfl rfl rfl;have X2:=X1.trans (Ext.set be (bS bt ba bw bh {E with pf:=E.pf++[G]}) (.inl rfl));simp;refine bd.meet P5 ⟨[(0,.pv (.ptr be 0)),(3,.pv (.seq true 1 (ab L0))),(5,.pv (.seq true 1 (ab (aI E))))],H1.set be (bS bt ba bw bh {E with pf:=E.pf++[G]})⟩ (by kernel_rfl) ?_ ?_
 .have aj:dF G=[af 1,af (E.id+1),.seq false 1 (ab (aI E)),.seq false 1 (ab I)]:=by rw[←K];rfl
  simp[P5,b,d,bS,ad,ag,Kq];and_intros
  all_goals first|omega|exact ai.keep (by simp) (by simp[aj])
 generalize ah:E.pf++[G]=f at*;generalize av:H1.set be (bS bt ba bw bh {E with pf:=f})=H2 at*;clear d b ad ag L1 X1;obtain⟨d,b⟩:=P7.1 L2.e;have L3:=L2.eng {E with pf:=f,many:=E.many+1} rfl rfl rfl rfl;have X3:=X2.trans (Ext.set be (bS bt ba bw bh {E with pf:=f,many:=E.many+1}) (.inl rfl));generalize N:H2.set be (bS bt ba bw bh {E with pf:=f,many:=E.many+1})=H3 at*;simp only[bS]at N;have an:aX (E.many+1)=E.many+1:=aq (by omega) (by omega);have kB:=(Iq L3 (n:=n) (by omega) i.hp i.dcy i.inc L0 (by omega)).args (xs:=[.ptr be 0,.seq true 1 (ab L0)]) (by simp[bG,bI]);simp[b,d,bS,an,N];refine ak.intro kB ?_;rintro _ H4 ⟨rfl,q1,o,Y,X40,G4,k4⟩;have X4:=X3.trans X40;clear d b L2 X2 L3 kB an av N X3 X40;obtain⟨d,b⟩:=P7.1 Y.e;have hz:=cG Y.w.t 2;have ht:=(P7.1 Y.w.t).1;have kG:=DA E.T P.okT (aI E) (by have:=y.len;omega);have kV:=GD E.T (aI E) P.okT (by have:=y.len;omega);simp[b,d,bS,hz];refine ak.introP kG ?_ (by simp[ht]) (by simp);simp[b,d,bS,hz];refine ak.introP kV ?_ (by simp[ht]) (by simp);have m:jT E=if aI E=[]then E.T else fl E.T (eO E.T (aI E)):=rfl;have Q:TOk n (jT E):=by rw[m];split;exact P;exact P.bak _
 by_cases c:aI E=[]
 case' pos=>
  have c2:(aI E).length=0:=by rw[c];rfl
  rw[Qb c]at m;have L5:LayE H4 be bt ba bw bh mp mb {E with pf:=f,many:=E.many+1,q:=q1,inc:=o,T:=jT E,ph:=E.ph,con:=E.con,calm:=E.calm}:=by rw[m];exact Y
  have B:∀z∈E.T.lits,z∉(jT E).lits->ae z∈q1.row:=λz h1 h2=>absurd (by rw[m];exact h1) h2;have W:=i.ph;have G5:=G4;have X5:=X4;generalize E.ph=v at*;generalize H4=H5 at*;generalize q1=q2 at*
 case' neg=>
  have c2:0<(aI E).length:=Ru.2 c;rw[Qa c]at m;have kK:=y9 Y P G4.hp i.ph (eO E.T (aI E));rw[←m]at kK;simp[c2];refine ak.intro kK ?_;rintro _ H5 ⟨rfl,q2,v,L5,X50,G50,W,B⟩;have X5:=X4.trans X50;have G5:=G4.trans G50
 all_goals
  clear d b Y kG kV hz ht;obtain⟨D,j⟩:=i.resd hc q2 G5 v W o k4 B;have az:(dh E.A (E.id+1) (aI E) true).row.length=E.A.row.length+(3+(aI E).length):=by unfold dh;rw[Qb D];simp;omega
  have aB:=y.len;have L6:=L5.eng {E with pf:=f,many:=E.many+1,q:=q2,inc:=o,T:=jT E,ph:=v,con:=-1,calm:=false} rfl rfl rfl rfl;have X6:=X5.trans (Ext.set be (bS bt ba bw bh {E with pf:=f,many:=E.many+1,q:=q2,inc:=o,T:=jT E,ph:=v,con:=-1,calm:=false}) (.inl rfl));obtain⟨d,b⟩:=P7.1 L5.e;generalize O:H5.set be (bS bt ba bw bh {E with pf:=f,many:=E.many+1,q:=q2,inc:=o,T:=jT E,ph:=v,con:=-1,calm:=false})=H6 at*;simp only[bS]at O;have kA:=(CX L6 Q G5.hp (by dsimp only;omega) (aI E) true D (i.ari.put D true).arok (by rw[az];omega) (by dsimp only;omega) (by omega)).args (xs:=[.ptr be 0,.seq true 1 (ab (aI E)),BL true]) (by simp[bG,bI]);simp[c2,b,d,bS];simp only[O];refine ak.intro kA ?_;rintro _ H7 ⟨rfl,ar,M,L7,X70,G7⟩;have X7:=X6.trans X70;clear d b L5 X5 L6 X6 X70 kA O;simp only[Bk]at L7;obtain⟨_,j⟩:=i.resd hc M (G5.trans G7) v W o k4 (λz h1 h2=>G7.mem _ (B z h1 h2));generalize hA:dh E.A (E.id+1) (aI E) true=A' at*;generalize hS:nZ A' (jT E) E.S E.A.row.length=S2 at*;generalize ax:(E.over||decide ((aI E).length=0))=ov at*;have Z:p6 E M v o={E with pf:=f,many:=E.many+1,q:=M,inc:=o,ph:=v,con:=-1,calm:=false,id:=E.id+1,A:=A',over:=ov,S:=S2,T:=(if aI E=[]then E.T else kn (jT E) ((aI E).headD 0) E.A.row.length),gl:=pt E.gl E.A.row.length (Jw E.T (aI E))}:=by
   unfold p6;rw[aw,K,ah,hA,hS,ax]
  rw[Z]at j;obtain⟨d,b⟩:=P7.1 L7.e;have L8:=L7.eng {E with pf:=f,many:=E.many+1,q:=M,inc:=o,ph:=v,con:=-1,calm:=false,id:=E.id+1,A:=A',over:=ov,S:=S2,T:=jT E,gl:=pt E.gl E.A.row.length (Jw E.T (aI E))} rfl rfl rfl rfl;have X8:=X7.trans (Ext.set be (bS bt ba bw bh {E with pf:=f,many:=E.many+1,q:=M,inc:=o,ph:=v,con:=-1,calm:=false,id:=E.id+1,A:=A',over:=ov,S:=S2,T:=jT E,gl:=pt E.gl E.A.row.length (Jw E.T (aI E))}) (.inl rfl));generalize aa:H7.set be (bS bt ba bw bh {E with pf:=f,many:=E.many+1,q:=M,inc:=o,ph:=v,con:=-1,calm:=false,id:=E.id+1,A:=A',over:=ov,S:=S2,T:=jT E,gl:=pt E.gl E.A.row.length (Jw E.T (aI E))})=H8 at*;simp only[bS]at aa;simp[b,d,bS,c2,aa]
 case' pos=>
  rw[Qb c]at Z j;rw[m]at L8;exact⟨ar,M,v,o,by rw[Z];exact⟨L8,X8,j⟩⟩
 rw[Qa c]at Z j;obtain⟨u,w,hu⟩:=List.exists_cons_of_ne_nil c;have H:(aI E).headD 0=u:=by rw[hu];rfl
 have hg:∀H:0<(aI E).length,(aI E)[0]'H=u:=λH=>by simp[hu]
 rw[H]at Z j;have kI:=uo H8 bt (jT E) L8.w.t u E.A.row.length Q.okT (by have:=Q.few;omega);have L9:=L8.trail (kn (jT E) u E.A.row.length);have X9:=X8.trans (Ext.set bt (gi (kn (jT E) u E.A.row.length)) (.inr (.inr (.inr (.inr (.inl rfl))))));clear d b;obtain⟨d,b⟩:=P7.1 L8.e;refine bd.meet P6 ⟨[],H8.set bt (gi (kn (jT E) u E.A.row.length))⟩ (by kernel_rfl) ?_ ?_
 .simp[P6,b,d,bS,c2,hg]
  repeat' first
   |trivial
   |refine And.intro ?_ ?_
   |(refine ak.intro kI ?_;rintro _ _ ⟨rfl,rfl⟩;simp;exact ai.keep (by simp) rfl)
 .simp;exact⟨ar,M,v,o,by rw[Z];exact⟨L9,X9,j⟩⟩
end
end Go.AX