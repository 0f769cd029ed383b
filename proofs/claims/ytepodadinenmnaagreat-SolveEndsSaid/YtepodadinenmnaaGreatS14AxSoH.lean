/-
  Contracts: solve: the search.
  Contracts: solve: Solve.
  Contracts: the document's models, all of them.
  Contracts: solve: Holds; law21's both, few.
  Contracts: what the document fixes of searches.
  The law's contract: SolveEnds.
-/
import Derived.Test.YtepodadinenmnaaGreatS14AxSoB
import Derived.Test.YtepodadinenmnaaGreatS14AxEjT
import Derived.Test.YtepodadinenmnaaGreatS14AxEgV
import Derived.Test.YtepodadinenmnaaGreatS14AxMovR
import Derived.Test.YtepodadinenmnaaGreatS14AxTmB
import Derived.Test.YtepodadinenmnaaGreatS14AxVaA
namespace Go.AX
open Go.Proofs
set_option linter.unusedSimpArgs false
def Mj(n:Nat)(F:List (List Int)):Prop:=∀(r s:Nat)(l:List Rc)(E:ES),EI n F r s l E->(∀d∈F,d∈rC l)->E.T.beg.length=0
abbrev Cx(n:Nat)(F:List (List Int))(M:Nat)(a:Int)(k:Int)(c:Nat)(m:PV)(pf:List Stp):Prop:=c<=M∧c<=3^n∧pf.length=c∧c<=a∧
  ((k = 1 ∧ ∃ b : List Bool, m = .seq true 1 (cz b) ∧ b.length = n ∧ ∀ d ∈ F, b5 d b = true) ∨
   (k=2∧m=.lit (.slice none 0 0)∧J9 F []∧(c=0->[]∈F))∨
   (k=3∧m=.lit (.slice none 0 0)∧a<=c∧c+1<=3^n∧(Mj n F->c=0∧J9 F [])))
def Ml(n:Nat)(F:List (List Int))(M:Nat)(a:Int)(y:SV):Prop:=∃(k:Int)(c:Nat)(m:PV)(pf:List Stp),y=.pv (eY k c m pf)∧Cx n F M a k c m pf
structure SK (n:Nat) (F:List (List Int)) (bg:Int) (E:ES):Prop where
  cb:(E.pf.length:Int)<=bg
  ov:E.over=true->E.pf.length=0->[]∈F
  zz:Mj n F->E.pf.length=0∨E.over=true
theorem SK.same{n:Nat}{F:List (List Int)}{bg:Int}{E E':ES}(k:SK n F bg E)(a:E'.pf=E.pf)(b:E'.over=E.over):SK n F bg E':=⟨by rw[a];exact k.cb,by rw[a,b];exact k.ov,by rw[a,b];exact k.zz⟩
theorem A8{n r s:Nat}{F:List (List Int)}{l:List Rc}{E:ES}(I:EI n F r s l E)(a:∀d∈F,d∈rC l)(b:0<=E.con)(z:Mj n F):aE E=[]:=by
 have h0:=z r s l E I a;rcases(I.res b).lev with⟨_,e⟩|⟨u,w,_,b0,b1,_⟩
 .exact e
 .omega
theorem SK.res{n r s:Nat}{F:List (List Int)}{l:List Rc}{E:ES}{bg:Int}{q:HS}{p:List Bool}{k:Int}(I:EI n F r s l E)(b:∀d∈F,d∈rC l)(c:0<=E.con)(f:(E.pf.length:Int)<bg):SK n F bg (lE E q p k):=by
 have a:(lE E q p k).pf.length=E.pf.length+1:=by show(E.pf++[_]).length=_;simp
 refine⟨by rw[a];omega,λ_ e=>by rw[a]at e;omega,λz=>.inr ?_⟩;show(E.over||decide ((aE E).length=0))=true;rw[A8 I b c z];simp
section
variable {n M : Nat} {F : List (List Int)} {h : List (List SV)} {be bt ba bw bh : Nat} {mp : List (Int × Nat)} {mb : List (Int × By)} {E : ES} {l : List Rc}
theorem EI.ended{r s:Nat}(h:EI n F r s l E)(ho:E.over=true):J9 F []:=by
 obtain⟨x,hx,e⟩:=h.ovr.1 ho;rw[←e];exact h.ent x hx
structure SJ (n M:Nat) (F:List (List Int)) (h:List (List SV)) (be bt ba bw bh:Nat) (mp:List (Int×Nat)) (mb:List (Int×By)) (E:ES) (l:List Rc):Prop where
  L:LayE h be bt ba bw bh mp mb E
  J:EJ n F (M+1 -E.pf.length) ((M+1 -E.pf.length)*(n+3)) l E
  f:Frs n l E
  cap:E.pf.length<=M
  cl:∀d∈F,d∈rC l
set_option maxRecDepth 16000 in
set_option maxHeartbeats 1000000 in
theorem zn(S:SJ n M F h be bt ba bw bh mp mb E l)(hM:M<=100)(unit g:Int)(K0:SK n F g E)(hu:1<=unit∧unit<=1000000)(hB:3^n<=M∨g<=M)(aA:F.length<=1000000)(az:∀c∈F,c.length<=1000000):
 aB Tryz.prog 72 [.ptr be 0,ae unit,ae g] h (λy h'=>Ml n F M g y∧Ext h h' (cZ be bt ba bw bh mp mb) (λb=>cZ be bt ba bw bh mp mb b∨h.length<=b)):=by
 refine cL [] [.cell 6 _] aG Tryz.func72 ?_;have aP:=S.J.n9;have kN:=A6 0 unit (by omega) hu;obtain⟨rb,aa⟩:∃x:List SV,x=[.pv (.lit (.int .i64 0)),.pv (.lit (.int .i64 0)),.pv (.lit (.slice none 0 0)),.pv (.lit (.slice none 0 0))]:=⟨_,rfl⟩;simp;refine am.intro (zm _ be) ?_;rintro _ _ ⟨rfl,rfl⟩;simp;refine aj.introR kN ?_;rintro _ ⟨a0,rfl,aL⟩;refine⟨by simp,?_⟩;simp;have w:=λb (hd:cZ be bt ba bw bh mp mb b)=>S.L.dlt hd;obtain⟨G0,D⟩:∃G0:List (List SV),G0=h++[rb,[.pv (.ptr be 0)]]:=⟨_,rfl⟩;have au:G0[h.length]?=some rb:=by rw[D];simp
 have ax:G0[h.length+1]?=some [.pv (.ptr be 0)]:=by rw[D];simp
 have aH:G0.length=h.length+2:=by rw[D];simp
 have I:∀(H:List (List SV))(mp':List (Int×Nat))(mb':List (Int×By))(y:List SV),Ext G0 H (cZ be bt ba bw bh mp mb) (cZ be bt ba bw bh mp' mb')->Ext h (H.set h.length y) (cZ be bt ba bw bh mp mb) (λb=>cZ be bt ba bw bh mp mb b∨h.length<=b):=λH mp' mb' y X=>by
  have:=X.len;refine⟨by rw[OE];omega,λb hb d=>?_,λb hb d=>d.resolve_right (by omega)⟩;rw[On (by omega),X.same b (by omega) d,D,Oa hb]
 refine aJ.intro (S:=λ(x:List (List SV)×List (Int×Nat)×List (Int×By)×ES×List Rc×Int)=>⟨[(0,.pv (.ptr be 0)),(1,.pv (ae unit)),(2,.pv (ae g)),(6,.pv (.ptr h.length 0)),(7,.pv (.fn (.func 213) [] [.ptr (h.length+1) 0])),(8,.pv (ae x.2.2.2.2.2))],x.1⟩)
  (λx=>SK n F g x.2.2.2.1∧SJ n M F x.1 be bt ba bw bh x.2.1 x.2.2.1 x.2.2.2.1 x.2.2.2.2.1∧Ext G0 x.1 (cZ be bt ba bw bh mp mb) (cZ be bt ba bw bh x.2.1 x.2.2.1))
  (λx=>(M+1 -x.2.2.2.1.pf.length)*(2*n+5)+(if x.2.2.2.2.2<=x.2.2.2.1.many then n+2 else 0)+(n -x.2.2.2.1.T.lits.length))
  (G0,mp,mb,E,l,a0) ?_ ⟨K0,⟨by rw[D];exact S.L.app _,S.J,S.f,S.cap,S.cl⟩,Ext.refl _ _⟩ ?_
 .rw[D,aa];exact ai.keep (by simp) rfl
 rintro⟨H,mp',mb',E,l,a⟩ ⟨K,S',X⟩;dsimp only at K S' X;have hI:=S'.J.toEI;have aO:=hI.tok.few;have af:H[h.length]?=some rb:=(X.same _ (by omega) (λd=>by have:=w _ d;omega)).trans au;have V:H[h.length+1]?=some [.pv (.ptr be 0)]:=(X.same _ (by omega) (λd=>by have:=w _ d;omega)).trans ax;obtain⟨Y,Z⟩:=N5.1 af;have C:=S'.J.pfs;have aD:E.pf.length<=1000000:=by have:=S'.cap;omega
 have ag:=S'.f.mn;simp;refine am.intro (FF S'.L.e) ?_;rintro _ H ⟨rfl,rfl⟩;cases ho:E.over
 rotate_left
 .simp;refine am.intro (lF S'.L.e V 2 (.lit (.slice none 0 0)) (.inl rfl) aD C) ?_;rintro _ H ⟨rfl,rfl⟩;simp[eY,Y,Z,aa];refine⟨⟨2,E.pf.length,_,E.pf,?_,S'.cap,S'.f.le,rfl,K.cb,.inr (.inl ⟨rfl,rfl,hI.ended ho,K.ov ho⟩)⟩,I H mp' mb' _ X⟩;simp[eY,ag]
 simp;refine am.intro (FH S'.L hI.wok hI.tok) ?_;rintro _ Q ⟨rfl,P,U,X1⟩;have o:kj E={E with S:=(er E.S E.T).1,T:=(er E.S E.T).2.1,con:=(er E.S E.T).2.2,calm:=decide ((er E.S E.T).2.2<0)}:=by unfold kj;rw[N8 (by simp[ho])]
 have ar:=(EY hI.wok hI.tok).grow.pre.1.length_le;have G:EJ n F (M+1 -E.pf.length) ((M+1 -E.pf.length)*(n+3)) l (kj E):=S'.J.to hI.prps rfl (by rw[o]) (by rw[o]) (by rw[o]) (by rw[o]) (by rw[o]);have ah:(kj E).T=(er E.S E.T).2.1:=by rw[o]
 have m:(kj E).pf=E.pf:=by rw[o]
 have t:(kj E).many=E.many:=by rw[o]
 have u:(kj E).over=false:=by rw[o];exact ho
 have an:(kj E).calm=decide ((kj E).con<0):=by rw[o]
 have f1:Frs n l (kj E):=S'.f.same m t;have K1:SK n F g (kj E):=K.same m (u.trans ho.symm);replace X:=X.trans X1;rw[←ah]at ar;clear o ah;generalize kj E=i at*;have j:=G.toEI;have aI:=j.tok.few;have af:Q[h.length]?=some rb:=(X.same _ (by omega) (λd=>by have:=w _ d;omega)).trans au;have V:Q[h.length+1]?=some [.pv (.ptr be 0)]:=(X.same _ (by omega) (λd=>by have:=w _ d;omega)).trans ax;obtain⟨Y,Z⟩:=N5.1 af;have C:=G.pfs;have v:=S'.cap
 by_cases ab:i.con<0
 rotate_left
 .have s:i.calm=false:=by rw[an];exact PE ab
  simp[ho,s];refine am.intro (l5 U.e) ?_;rintro _ Q ⟨rfl,rfl⟩;have fr:=f1.res (q:=i.q) (p:=[]) (k:=0) j (by omega) u;have hle:=fr.le;have aw:(lE i i.q [] 0).pf.length=E.pf.length+1:=by show(i.pf++[_]).length=_;rw[m];simp
  rw[aw]at hle
  by_cases ak:g<=i.many
  .simp[ak];refine am.intro (lF U.e V 3 (.lit (.slice none 0 0)) (.inl rfl) (by rw[m];omega) C) ?_;rintro _ Q ⟨rfl,rfl⟩;simp[eY,Y,Z,aa];refine⟨⟨3,E.pf.length,_,E.pf,?_,v,by omega,rfl,K.cb,.inr (.inr ⟨rfl,rfl,by omega,hle,λz=>⟨by rw[←m];exact(K1.zz z).resolve_right (by simp[u]),by have:=(j.res (by omega)).ent;rwa [A8 j S'.cl (by omega) z]at this⟩⟩)⟩,I Q mp' P _ X⟩;simp[eY,ag,t]
  .simp[ak];have aK:E.pf.length+1<=M:=by
    rcases hB with hB|hB
    .omega
    .omega
   have O:M+1 -E.pf.length=(M -E.pf.length)+1:=by omega
   have ad:M+1 -(E.pf.length+1)=M -E.pf.length:=by omega
   rw[O,PO]at G;refine am.intro (xo U G.toEI u (by omega) (by rw[m];omega) (by omega)) ?_;rintro _ H2 ⟨rfl,aF,q,p,k,L2,X2,I2⟩;have R:=G.resd (by omega) I2;have f2:=f1.res (q:=q) (p:=p) (k:=k) j (by omega) u;have K2:SK n F g (lE i q p k):=SK.res j S'.cl (by omega) (by rw[m];omega);have av:(lE i q p k).pf.length=E.pf.length+1:=aw;have ao:∀d∈F,d∈rC (l++[⟨i.id+1,1,aE i⟩]):=λd hd=>by
    unfold rC;rw[gj,OJ];exact Pc _ (S'.cl d hd)
   have B:=R.toEI.tok.few;generalize lE i q p k=E2 at*;simp;refine⟨(H2,aF,P,E2,l++[⟨i.id+1,1,aE i⟩],a),?_,⟨K2,⟨L2,by dsimp only;rw[av,ad];exact R,f2,by dsimp only;omega,ao⟩,X.trans X2⟩,ai.keep (by simp) rfl⟩;dsimp only;have aq:(M -E.pf.length+1)*(2*n+5)=(M -E.pf.length)*(2*n+5)+(2*n+5):=PO _ _;rw[av,ad,O,aq];generalize(M -E.pf.length)*(2*n+5)=K;split<;>split<;>omega
 .have s:i.calm=true:=by rw[an];exact PG ab
  simp[ho,s];refine am.intro (l5 U.e) ?_;rintro _ Q ⟨rfl,rfl⟩
  by_cases ha:a<=i.many
  .simp[ha];refine am.intro (l5 U.e) ?_;rintro _ Q ⟨rfl,rfl⟩;simp;refine aj.introR (A6 i.many unit (by omega) hu) ?_;rintro _ ⟨a2,rfl,aM⟩;refine⟨by simp,?_⟩;simp;refine am.intro (xh U j.tok j.hp j.ph) ?_;rintro _ H2 ⟨rfl,⟨e,_⟩|⟨_,q,p,L2,X2,hq,hp,hin⟩⟩
   .rw[u]at e;cases e
   have R := G.to (j.again q hq p hp hin) rfl rfl rfl rfl rfl rfl; have r : ({ i with T := dW i.T 0, q := q, ph := p, con := -1, calm := false } : ES).pf = E.pf := m; have N : ({ i with T := dW i.T 0, q := q, ph := p, con := -1, calm := false } : ES).many = E.many := t; have f2 := f1.same (E' := { i with T := dW i.T 0, q := q, ph := p, con := -1, calm := false }) rfl rfl; have K2 := K1.same (E' := { i with T := dW i.T 0, q := q, ph := p, con := -1, calm := false }) rfl rfl; generalize ({ i with T := dW i.T 0, q := q, ph := p, con := -1, calm := false } : ES) = E2 at *; have W := R.toEI; have k4 := xg L2 W.ari (by have := W.rsz; omega) W.tok.okT (by
    have h1:=A4 (A:=E2.A) l [] (by rw[OL];exact W.ari.row);have h2:=R.kp;have h3:(((rA l).filter (nV E2.A)).length)<=(l.filter λx=>decide (x.side=1)).length:=h1;omega)
   simp;refine am.intro k4 ?_;rintro _ H2 ⟨rfl,rfl⟩;simp;refine⟨(H2,mp',P,E2,l,a2),?_,⟨K2,⟨L2,by dsimp only;rw[r];exact R,f2,by dsimp only;rw[r];exact v,S'.cl⟩,X.trans X2⟩,ai.keep (by simp) rfl⟩;dsimp only;rw[r,N,N8 (by omega),N9 (by omega)];omega
  .simp[ha];have kM:=Cv U j.tok G.vr (by rw[G.fm];exact aA) (by rw[G.fm];exact az);refine am.intro kM ?_;rintro _ Q ⟨rfl,rfl⟩;cases hm:xn i n
   rotate_left
   .simp;refine am.intro (lF U.e V 1 (.seq true 1 (cz (il i.T.lits n))) (.inr ⟨_,rfl⟩) (by rw[m];omega) C) ?_;rintro _ Q ⟨rfl,rfl⟩;simp[eY,Y,Z,aa];refine⟨⟨1,E.pf.length,_,E.pf,?_,v,S'.f.le,rfl,K.cb,.inl ⟨rfl,il i.T.lits n,rfl,by simp[il],?_⟩⟩,I Q mp' P _ X⟩
    .simp[eY,ag,t]
    .unfold xn at hm;rw[G.fm]at hm;simp only[Og,Ov]at hm;exact hm.2.2.2
   .simp;refine am.intro (zi U j.tok j.hp j.ph) ?_;rintro _ H2 ⟨E2,b,rfl,hd,L2,X2⟩;have R:=G.decs hd;rcases hd with⟨hx,_,_⟩|⟨_,aN,q,hq,⟨rfl,x,hx,rfl,hin⟩|⟨rfl,rfl,hr,hin⟩⟩
    .rcases hx with hx|hx
     .rw[u]at hx;cases hx
     .rw[s]at hx;cases hx
    .have ay:(fH i.T x).lits=i.T.lits++[x]:=by
      unfold fH;rw[N9 hx];rfl
     have B:=R.toEI.tok.few;dsimp only at B;rw[ay,Oi]at B;simp only[OC,List.length_nil]at B;have r:({i with T:=fH i.T x,calm:=false,q:=q}:ES).pf=E.pf:=m;have N:({i with T:=fH i.T x,calm:=false,q:=q}:ES).many=E.many:=t;have aC:({i with T:=fH i.T x,calm:=false,q:=q}:ES).T.lits.length=i.T.lits.length+1:=by dsimp only;rw[ay];simp
     have f2:=f1.same (E':={i with T:=fH i.T x,calm:=false,q:=q}) rfl rfl;have K2:=K1.same (E':={i with T:=fH i.T x,calm:=false,q:=q}) rfl rfl;generalize({i with T:=fH i.T x,calm:=false,q:=q}:ES)=E2 at*;simp;refine⟨(H2,mp',P,E2,l,a),?_,⟨K2,⟨L2,by dsimp only;rw[r];exact R,f2,by dsimp only;rw[r];exact v,S'.cl⟩,X.trans X2⟩,ai.keep (by simp) rfl⟩;dsimp only;rw[r,N,aC];generalize(M+1 -E.pf.length)*(2*n+5)=K;split<;>omega
    .have:=j.model u s (j.full hin) (by rw[G.fm];exact S'.cl);rw[hm]at this;cases this
end
end Go.AX
namespace Go.AX
set_option maxRecDepth 16000
open Go.Proofs
set_option linter.unusedSimpArgs false
theorem SJ.new{n M:Nat}{cs:List (List Int)}{kp:Int}{h:List (List SV)}{be bt ba bw bh:Nat}{mp:List (Int×Nat)}{E:ES}{l:List Rc}(L:LayE h be bt ba bw bh mp [] E)(I:EI n cs (M+1) ((M+1)*(n+3)) l E)(N:NewOk n cs kp E l cs)(a:M<=99):SJ n M cs h be bt ba bw bh mp [] E l:=by
 have hp:E.pf.length=0:=by rw[N.pf];rfl
 have J:=N.ej I (by omega);refine⟨L,by rw[hp];exact J,⟨by rw[N.pf];simp,by rw[N.pf];simp,by rw[N.pf];simp,by rw[N.pf,N.many];rfl⟩,by omega,λd hd=>by rw[N.rc];exact hd⟩
theorem SK.new{n r s:Nat}{cs:List (List Int)}{kp a:Int}{E:ES}{l:List Rc}(I:EI n cs r s l E)(N:NewOk n cs kp E l cs)(b:0<=a):SK n cs a E:=by
 refine⟨by rw[N.pf];exact b,λh _=>?_,λ_=>.inl (by rw[N.pf];rfl)⟩;obtain⟨x,hx,e⟩:=I.ovr.1 h;rw[←e,←N.rc];exact Qh hx
set_option maxHeartbeats 1000000 in
theorem Cy(h:List (List SV))(n:Nat)(cs:List (List Int))(rs kp p a:Int)(hn:n<=12)(aa:cs.length<=100)(C:∀c∈cs,c.length<=50)(hk:(ij n cs).2=0)(j:0<=a∧a<=1000000){M:Nat}(Y:M<=99)(V:3^n<=M∨a<=M):
 aB Tryz.prog 28 [.agg [ae n,.seq false 1 (cs.map aK)],.agg [ae rs,ae kp,ae p],ae a] h (λy h'=>(∃r,y=.pv (.tup [r,ae 0])∧Ml n cs M a (.pv r))∧Ext h h' (λ_=>False) (λb=>h.length<=b)):=by
 refine cL [] [.cell 6 _,.tmp 7] aG Tryz.func28 ?_;have f:∀c∈cs,c.length<=1000000:=λc Z=>by have:=C c Z;omega
 have A:¬a<0:=by omega
 have B:¬1000000<a:=by omega
 have ab:(M+1)*(n+3)<=100*15:=Nat.mul_le_mul (by omega) (by omega);obtain⟨G,i⟩:∃G:List (List SV),G=h++[[.pv (ae n),.pv (.seq false 1 (cs.map aK))],[.pv (ae rs),.pv (ae kp),.pv (ae p)],[.pv (.lit (.int .i64 0)),.pv (.lit (.int .i64 0)),.pv (.lit (.slice none 0 0)),.pv (.lit (.slice none 0 0))]]:=⟨_,rfl⟩;have T:=HK G n (by omega) cs rs kp p (by omega) f hk (r:=M+1) (s:=(M+1)*(n+3)) (by omega) (by omega);have W:G.length=h.length+3:=by rw[i];simp
 have g0:G[h.length]?=some [.pv (ae n),.pv (.seq false 1 (cs.map aK))]:=by rw[i];simp
 have P:G[h.length+1]?=some [.pv (ae rs),.pv (ae kp),.pv (ae p)]:=by rw[i];simp
 have g2:G[h.length+2]?=some [.pv (.lit (.int .i64 0)),.pv (.lit (.int .i64 0)),.pv (.lit (.slice none 0 0)),.pv (.lit (.slice none 0 0))]:=by rw[i];simp
 simp[A,B];rw[←i];obtain⟨l0,w⟩:=N5.1 g0;obtain⟨l1,x⟩:=N5.1 P;refine aj.introM T ?_;clear T;rintro _ H ⟨be,bt,ba,bw,bh,mp,E,l,rfl,L,X,I,N⟩;have R:=X.len;have h0:=(X.same h.length (by omega) (λe=>e)).trans g0;have h1:=(X.same (h.length+1) (by omega) (λe=>e)).trans P;have Q:=(X.same (h.length+2) (by omega) (λe=>e)).trans g2;obtain⟨k0,w⟩:=N5.1 h0;obtain⟨S,x⟩:=N5.1 h1;obtain⟨o,g⟩:=N5.1 Q;have q:∀b,b<G.length->¬cZ be bt ba bw bh mp [] b:=λb j d=>X.sub b j d;simp[k0,S,o,w,x,g];refine aj.intro (rJ rs kp p) ?_;simp[k0,S,o,w,x,g];refine am.intro (zn (SJ.new L I N Y) (by omega) (pm rs) a (SK.new I N j.1) (F1 rs) V (by omega) f) ?_;rintro r U ⟨⟨k,c,m,pf,rfl,J,K,O,F,w4⟩,v⟩;have D:=v.len;have j2:=(v.same (h.length+2) (by omega) (q _ (by omega))).trans Q;obtain⟨o,g⟩:=N5.1 j2;have z:∀y,Ext h (U.set (h.length+2) y) (λ_=>False) (λb=>h.length<=b):=λy=>by
  refine⟨by rw[OE];omega,λb j _=>?_,λb j d=>by omega⟩;rw[On (by omega),v.same b (by omega) (q b (by omega)),X.same b (by omega) (λe=>e),i,Oa j]
 rcases w4 with⟨rfl,md,rfl,t,u⟩|⟨rfl,rfl,t,u⟩|⟨rfl,rfl,t,u,w7⟩
 .simp[eY,o,g];exact⟨⟨1,c,_,pf,rfl,J,K,O,F,.inl ⟨rfl,md,rfl,t,u⟩⟩,z _⟩
 .simp[eY,o,g];exact⟨⟨2,c,_,pf,rfl,J,K,O,F,.inr (.inl ⟨rfl,rfl,t,u⟩)⟩,z _⟩
 .simp[eY,o,g];exact⟨⟨3,c,_,pf,rfl,J,K,O,F,.inr (.inr ⟨rfl,rfl,t,u,w7⟩)⟩,z _⟩
theorem zo(h:List (List SV))(v:Int)(cs:List (List Int))(rs kp o a:Int)(n:∀c∈cs,c.length<=50)(hk:(ij v cs).2≠0∨a<0∨1000000<a):
 aB Tryz.prog 28 [.agg [ae v,.seq false 1 (cs.map aK)],.agg [ae rs,ae kp,ae o],ae a] h (λy h'=>(∃e:Int,y=.pv (.tup [.agg [ae 0,ae 0,.lit (.slice none 0 0),.lit (.slice none 0 0)],ae e])∧e=(if a<0∨1000000<a then 2 else(ij v cs).2))∧Ext h h' (λ_=>False) (λb=>h.length<=b)):=by
 refine cL [] [.cell 6 _,.tmp 7] aG Tryz.func28 ?_;have g:∀c∈cs,c.length<=1000000:=λc q=>by have:=n c q;omega
 have l:∀(H:List (List SV)),h.length<=H.length->(∀b,b<h.length->H[b]?=h[b]?)->Ext h H (λ_=>False) (λb=>h.length<=b):=λH h1 k=>⟨h1,λb f _=>k b f,λb f d=>by omega⟩
 by_cases b1:a<0
 .simp[b1];exact l _ (by simp) λb f=>Oa f
 by_cases b2:1000000<a
 .simp[b1,b2];exact l _ (by simp) λb f=>Oa f
 have i:(ij v cs).2≠0:=hk.resolve_right (λe=>e.elim b1 b2);have s:=λG=>FR G v cs rs kp o g (.inl i);generalize(ij v cs).2=x at*;simp[b1,b2];refine aj.introM (s _) ?_;rintro _ H ⟨rfl,X⟩;have j:=X.len;have m:∀b,b<h.length->H[b]?=h[b]?:=λb f=>by rw[X.same b (by simp;omega) (λe=>e),Oa f]
 have k:=X.same (h.length+2) (by simp) (λe=>e);simp at k j;obtain⟨r,p⟩:=N5.1 k;simp[i,r,p];exact l _ (by simp;omega) λb f=>by rw[On (by omega)];exact m b f
end Go.AX
namespace Go.AX
open Go.Proofs
set_option linter.unusedSimpArgs false
def xy(k n:Nat):List Bool:=(List.range n).map λi=>decide (bits .and IntKind.i64 ((k:Int).fdiv (2^min i 64)) 1=1)
def pG:List Bool->Nat
 |[]=>0
 |b::t=>(if b=true then 1 else 0)+2*pG t
theorem u9:∀m,pG m<2^m.length
 |[]=>Nat.one_pos
 |b::t=>by
  have:=u9 t;rw[pG,OC,SD];split<;>omega
theorem xp:∀(m:List Bool)(i:Nat)(h:i<m.length),pG m/2^i %2=if m[i]=true then 1 else 0
 |[],i,h=>absurd h (by simp)
 |b::t,0,_=>by
  rw[pG];show _=if b=true then 1 else 0;split<;>omega
 |b::t,i+1,h=>by
  have:=xp t i (by simpa using h);rw[pG,Nat.pow_succ',←Nat.div_div_eq_div_mul,Qy,←this,show((if b=true then 1 else 0)+2*pG t)/2=pG t by split<;>omega]
theorem NL(k i:Nat)(hk:k<1000000)(hi:i<=60):bits .and IntKind.i64 ((k:Int).fdiv (2^min i 64)) 1=((k/2^i %2:Nat):Int):=by
 have b:((k:Int).fdiv (2^min i 64))=((k/2^i:Nat):Int):=by
  rw[Ps (by omega),Int.fdiv_eq_ediv_of_nonneg _ (by exact_mod_cast Oz _)];simp
 have hle:k/2^i<=k:=Nat.div_le_self _ _;rw[b];generalize k/2^i=a at*;have h1:(BitVec.ofInt 64 (a:Int)).toNat=a:=by
  rw[SG,BitVec.toNat_ofNat];exact RO (by omega)
 show IntKind.i64.wrap ((BitVec.ofInt 64 (a:Int)&&&BitVec.ofInt 64 (1:Int)).toNat:Int)=_;rw[BitVec.toNat_and,h1,show(BitVec.ofInt 64 (1:Int)).toNat=1 from rfl,Nat.and_one_is_mod,IntKind.wrap_i64];omega
theorem HP(m:List Bool)(h:m.length<=12):xy (pG m) m.length=m:=by
 have c:=u9 m;have b:2^m.length<=2^12:=RV (by omega) h;refine Qw (by simp[xy]) λi h1 a=>?_;have e:(xy (pG m) m.length)[i]=decide (bits .and IntKind.i64 ((pG m:Int).fdiv (2^min i 64)) 1=1):=by simp[xy]
 rw[e,NL _ _ (by omega) (by omega),xp m i a];cases m[i]<;>rfl
def Mm(n:Nat)(cs:List (List Int))(r:SV):Prop:=∃(many:Int)(y:PV),r=.pv (.tup [ae many,y])∧((many=0∧y=.lit (.slice none 0 0)∧∀m:List Bool,m.length=n->¬∀c∈cs,b5 c m=true)∨(0<many∧∃m:List Bool,y=.seq true 1 (cz m)∧m.length=n∧∀c∈cs,b5 c m=true))
set_option maxRecDepth 16000 in
theorem zp(v:Int)(n:Nat)(hn:n<=12)(cs:List (List Int))(H:cs.length<=140737488355328)(I:∀x∈cs,x.length<=140737488355328):an Tryz.prog 23 [.agg [ae v,.seq false 1 (cs.map aK)],ae n] (Mm n cs):=by
 refine iL [13] [.tmp 4,.tmp 5] aG Tryz.func23 ?_;obtain⟨M,z⟩:∃M,M=2^n:=⟨_,rfl⟩;have G:M<=4096:=by rw[z];exact RV (by decide) hn
 have D:∀j:Nat,j<=12->IntKind.u64.wrap (j:Int)=j:=λj hj=>by
  rw[IntKind.wrap_u64];omega
 have u:=D n hn;have a:IntKind.i64.bits=64:=rfl;have t:a8 (2^min n 64:Int)=(M:Int):=by
  rw[Ps (by omega),show((2:Int)^n)=((2^n:Nat):Int) by simp,←z,ap (by omega) (by omega)]
 obtain⟨Q,l⟩:∃Q:Nat->Nat->PV->Prop,∀k many y,Q k many y=((many=0∧y=.lit (.slice none 0 0)∧∀j,j<k->¬∀c∈cs,b5 c (xy j n)=true)∨(0<many∧∃m:List Bool,y=.seq true 1 (cz m)∧m.length=n∧∀c∈cs,b5 c m=true)):=⟨_,λ_ _ _=>rfl⟩;simp;refine aJ.intro (S:=λ(x:Nat×Nat×PV)=>⟨[(1,.pv (ae n)),(2,.pv (.ptr 0 0)),(6,.pv (ae x.2.1)),(7,.pv x.2.2),(8,.pv (ae x.1))],[[.pv (ae v),.pv (.seq false 1 (cs.map aK))]]⟩)
  (λx=>x.1<=M∧x.2.1<=x.1∧Q x.1 x.2.1 x.2.2) (λx=>M -x.1) (0,0,.lit (.slice none 0 0)) ?_ ⟨Oz _,Oc _,by rw[l];exact .inl ⟨rfl,rfl,λj hj=>absurd hj (by simp)⟩⟩ ?_
 .exact ai.keep (by simp) rfl
 rintro⟨k,many,y⟩ ⟨hk,w,g⟩;dsimp only at hk w g
 by_cases d:k<M
 .have b:=fQ k;have r:=fQ many;simp[u,a,t,d];refine aJ.intro (S:=λ(i:Nat)=>⟨[(1,.pv (ae n)),(2,.pv (.ptr 0 0)),(6,.pv (ae many)),(7,.pv y),(8,.pv (ae k)),(9,.own true 1 (cz (xy k i))),(10,.pv (ae i))],[[.pv (ae v),.pv (.seq false 1 (cs.map aK))]]⟩)
   (λi=>i<=n) (λi=>n -i) 0 ?_ (Oz _) ?_
  .exact(ai.nilOwn (s:=9) 1 true (by simp)).trans (ai.keep (by simp[cz,xy]) rfl)
  intro i hi;have q:(xy k i).length=i:=by simp[xy]
  by_cases e:i<n
  .have J:=fQ i;have C:=D i (by omega);simp[e,C,a];exact⟨by rw[q];omega,i+1,by(try dsimp only);omega,by(try dsimp only);omega,ai.keep (by simp[J,cz,xy,QV]) rfl⟩
  .have A:i=n:=by omega
   subst A;simp;refine aj.intro (o9 v cs (xy k i) H I) ?_
   by_cases f:gX cs (xy k i)<0
   .have E:=(jL cs (xy k i)).1 f;rw[l]at g;simp[f];refine⟨λc=>ka.to ⟨[(1,.pv (ae i)),(2,.pv (.ptr 0 0)),(6,.pv (ae many)),(7,.pv y),(8,.pv (ae k)),(9,.pv (.seq true 1 (cz (xy k i))))],[[.pv (ae v),.pv (.seq false 1 (cs.map aK))]]⟩ ((ai.frz (s:=9) (e:=1) (nw:=true) (rows:=cz (xy k i)) (by simp)).trans (ai.keep (by simp) rfl)) (ka.ops ?_),λc=>?_⟩
    .simp;exact⟨(k+1,many+1,.seq true 1 (cz (xy k i))),by(try dsimp only);omega,⟨by(try dsimp only);omega,by(try dsimp only);omega,by rw[l];exact .inr ⟨Nat.succ_pos _,_,rfl,q,E⟩⟩,ai.keep (by simp[b,r]) rfl⟩
    .refine⟨(k+1,many+1,y),by(try dsimp only);omega,⟨by(try dsimp only);omega,by(try dsimp only);omega,?_⟩,ai.keep (by simp[b,r]) rfl⟩;rw[l];rcases g with⟨h1,_⟩|⟨_,o⟩
     .exact absurd h1 c
     .exact .inr ⟨Nat.succ_pos _,o⟩
   .simp[f];refine⟨(k+1,many,y),by(try dsimp only);omega,⟨by(try dsimp only);omega,by(try dsimp only);omega,?_⟩,ai.keep (by simp[b]) rfl⟩;dsimp only;rw[l]at g⊢;rcases g with⟨h1,o,p⟩|h1
    .refine .inl ⟨h1,o,λj hj=>?_⟩;rcases Nat.lt_succ_iff_lt_or_eq.1 hj with hj|rfl
     .exact p j hj
     .exactλh=>f ((jL cs _).2 h)
    .exact .inr h1
 .have B:k=M:=by omega
  subst B;simp[u,a,t];rw[l]at g;rcases g with⟨rfl,rfl,p⟩|⟨h1,m,o,p,F⟩
  .refine⟨_,_,rfl,.inl ⟨rfl,rfl,λm w=>?_⟩⟩;have:=p (pG m) (by rw[z,←w];exact u9 m)
   rwa [←w,HP m (by omega)]at this
  .exact⟨_,_,rfl,.inr ⟨by omega,m,o,p,F⟩⟩
theorem jQ(n:Nat)(cs:List (List Int))(rs kp f a:Int)(hn:n<=12)(d:cs.length<=100)(b:∀c∈cs,c.length<=50)(hk:(ij n cs).2=0)(j:0<=a∧a<=1000000){M:Nat}(i:M<=99)(g:3^n<=M∨a<=M):
 an Tryz.prog 28 [.agg [ae n,.seq false 1 (cs.map aK)],.agg [ae rs,ae kp,ae f],ae a] (λy=>∃(k:Int)(c:Nat)(m:PV)(pf:List Stp),y=.pv (.tup [eY k c m pf,ae 0])∧Cx n cs M a k c m pf):=by
 refine aB.pure ((Cy [] n cs rs kp f a hn d b hk j i g).mono ?_);rintro _ _ ⟨⟨_,rfl,k,c,m,pf,e,h⟩,_⟩;cases e
 exact⟨_,rfl,k,c,m,pf,rfl,h⟩
theorem pn(v:Int)(cs:List (List Int))(rs kp d a:Int)(b:∀c∈cs,c.length<=50)(hk:(ij v cs).2≠0∨a<0∨1000000<a):
 an Tryz.prog 28 [.agg [ae v,.seq false 1 (cs.map aK)],.agg [ae rs,ae kp,ae d],ae a] (λy=>y=.pv (.tup [.agg [ae 0,ae 0,.lit (.slice none 0 0),.lit (.slice none 0 0)],ae (if a<0∨1000000<a then 2 else(ij v cs).2)])):=by
 refine aB.pure ((zo [] v cs rs kp d a b hk).mono ?_);rintro _ _ ⟨⟨e,rfl,rfl⟩,_⟩;exact⟨_,rfl,rfl⟩
def NM(n:Nat)(cs:List (List Int))(M:Nat)(a:Int)(y:SV):Prop:=∃(k:Int)(c:Nat)(m:PV)(pf:List Stp),Cx n cs M a k c m pf∧y=.pv (.tup [BL (decide (k=1)),ae (if k=3 then 50 else 0)])
theorem Cz(n:Nat)(cs:List (List Int))(a:Int)(hn:n<=12)(f:cs.length<=100)(d:∀c∈cs,c.length<=50)(hk:(ij n cs).2=0)(j:0<=a∧a<=1000000){M:Nat}(i:M<=99)(g:3^n<=M∨a<=M):
 an Tryz.prog 38 [.agg [ae n,.seq false 1 (cs.map aK)],ae a] (NM n cs M a):=by
 refine iL [] [.tmp 4,.tmp 5] aG Tryz.func38 ?_;have l:=jQ n cs 50 500 5 a hn f d hk j i g;simp;refine aj.introR l ?_;rintro _ ⟨k,c,m,pf,rfl,h⟩;rcases h.2.2.2.2 with⟨e,o,b,_⟩|⟨e,b,_⟩|⟨e,b,_⟩
 .subst e b;refine⟨by simp[eY],?_⟩;simp[eY];exact⟨1,c,_,pf,h,rfl⟩
 .subst e b;refine⟨by simp[eY,re],?_⟩;simp[eY];exact⟨2,c,_,pf,h,rfl⟩
 .subst e b;refine⟨by simp[eY],?_⟩;simp[eY];exact⟨3,c,_,pf,h,rfl⟩
theorem oa:an Tryz.prog 71 [] (λr=>r=.pv (.agg [ae 1,.seq true 1 [[.seq true 1 [[ae 1]]],[.seq true 1 [[ae (-1)]]]]])):=by
 refine iL [] [.cell 0 _] aG Tryz.func71 ?_;simp
def xq(v:Int)(cs:List (List Int)):Bool:=wF cs&&(decide (v<=12)&&decide (cs.length<=100))
theorem F2(v:Int)(cs:List (List Int)):an Tryz.prog 26 [.agg [ae v,.seq false 1 (cs.map aK)]] (λr=>r=.pv (BL (xq v cs))):=by
 refine ax aG Tryz.func26 ?_;have a:=B8 v cs;unfold xq;simp;refine aj.intro a ?_;cases wF cs
 .simp
 by_cases c1:v<=12
 rotate_left
 .simp[c1]
 by_cases c3:(cs.length:Int)<=100
 .have:cs.length<=100:=by omega
  simp[c1,c3,this]
 .have:¬cs.length<=100:=by omega
  simp[c1,c3,this]
section
variable {n r s : Nat} {F : List (List Int)} {l : List Rc} {E : ES}
theorem EI.up1(h:EI n F r s l E)(q:0<E.T.beg.length){c:List Int}(i:c∈rC l){u:Int}(p:u∈c)(o:∀y∈c,y≠u->-y∈bel (dL E.T) 1):u∈bel (dL E.T) 1:=by
 have b:=h.ef.clm 1 (by decide) (by show 1<=(E.T.beg.length:Int);omega) c i;have d:=h.tok.toTMk.cons;have m:=h.uok;have a:∀z∈bel (dL E.T) 1,z∈E.T.lits:=λz hz=>by rw[←ez];exact fh _ hz
 have f:Cons (bel (dL E.T) 1):=λy hy k=>d y (a y hy) (a _ k);apply OF;intro j
 by_cases g:-u∈bel (dL E.T) 1
 .exact b.2 ((m.fail f i).2 λy hy=>(Classical.em (y=u)).elim (λe=>e▸g) (o y hy))
 .have:=m.unit_of f i p j g o;rw[this]at b;cases b.1
end
theorem oc{E:ES}{y:Int}(hy:y∈bel (dL E.T) 1):y∈E.T.lits:=by rw[←ez];exact fh _ hy
theorem NN:Mj 1 [[1],[-1]]:=by
 intro r s l E I a;apply OF;intro c;have h1:=I.up1 (by omega) (a [1] (by simp)) (u:=1) (by simp) (by simp);have b:=I.up1 (by omega) (a [-1] (by simp)) (u:=-1) (by simp) (by simp);exact I.tok.toTMk.cons 1 (oc h1) (oc b)
theorem NO:Mj 2 [[1,2],[-1]]:=by
 intro r s l E I g;apply OF;intro c;have c:0<E.T.beg.length:=by omega
 have h1:=I.up1 c (g [-1] (by simp)) (u:=-1) (by simp) (by simp);have f:=I.up1 c (g [1,2] (by simp)) (u:=2) (by simp) (by simpa using h1);have h:=I.tok.toTMk.cons;obtain⟨b1,b2⟩:=I.tok.bnd E.T.beg[0] (Od c);obtain⟨i,hi⟩:=Pn b1;rw[hi]at b2;have b:i<E.T.lits.length:=by omega
 have e:=rG I.tok b;have d:=mt (uW I.tok.rise c i).1 (by omega);have a:=I.tok.chk _ (Od b);have j:=Od b;generalize E.T.lits[i]=y at*;have m:y≠0∧-2<=y∧y<=2:=by
  unfold au at a;rw[N8 (by omega)]at a;split at a
  .rename_i q;unfold pz at q;simpa using q
  .cases a
 have k:y=1∨y=-1∨y=2∨y=-2:=by omega
 rcases k with rfl|rfl|rfl|rfl
 .exact h 1 j (oc h1)
 .have:=nZ I.tok (y:=1) h1;simp at e d;omega
 .have:=nZ I.tok (y:=-2) f;simp at e d;omega
 .exact h 2 (oc f) j
theorem F3:¬∃m:List Bool,m.length=1∧∀c∈([[1],[-1]]:List (List Int)),b5 c m=true:=by
 rintro⟨m,a,h⟩
 match m,a with
 |[b],_=>revert h;cases b<;>decide
theorem HQ{m:List Bool}(d:m.length=2)(h:∀c∈([[1,2],[-1]]:List (List Int)),b5 c m=true):m=[false,true]:=by
 match m,d with
 |[a,b],_=>revert h;cases a<;>cases b<;>decide
section
variable {M c : Nat} {k b : Int} {m : PV} {pf : List Stp}
theorem Mn(h:Cx 1 [[1],[-1]] M 0 k c m pf):k=3∧m=.lit (.slice none 0 0):=by
 obtain⟨_,_,_,d,⟨_,b,_,h1,a⟩|⟨_,_,_,h1⟩|⟨h1,a,_⟩⟩:=h
 .exact absurd ⟨b,h1,a⟩ F3
 .exact absurd (h1 (by omega)) (by simp)
 .exact⟨h1,a⟩
theorem Mo(h:Cx 1 [[1],[-1]] M b k c m pf)(j:0<b):k=2∧m=.lit (.slice none 0 0)∧0<c∧(c:Int)<=b∧pf.length=c:=by
 obtain⟨_,_,d,i,⟨_,l,_,h1,a⟩|⟨g,f,_,h1⟩|⟨_,_,h1,_,a⟩⟩:=h
 .exact absurd ⟨l,h1,a⟩ F3
 .refine⟨g,f,Nat.pos_of_ne_zero λe=>absurd (h1 e) (by simp),i,d⟩
 .have:=(a NN).1;omega
theorem NP(h:Cx 2 [[1,2],[-1]] M 0 k c m pf):k=1∧m=.seq true 1 (cz [false,true]):=by
 obtain⟨_,_,_,b,⟨h0,d,e,h1,a⟩|⟨_,_,_,h1⟩|⟨_,_,_,_,h1⟩⟩:=h
 .rw[HQ h1 a]at e;exact⟨h0,e⟩
 .exact absurd (h1 (by omega)) (by simp)
 .have:=(h1 NO).2 [false,true] (by decide);cases this
end
set_option maxRecDepth 16000 in
set_option maxHeartbeats 1000000 in
theorem ib:an Tryz.prog 27 [] (λr=>r=.pv (BL true)):=by
 refine ax aG Tryz.func27 ?_;have f:=λ(b:Int) (d:0<=b∧b<=1000000)=>jQ 1 [[1],[-1]] 0 0 0 b (by decide) (by decide) (by decide) (by decide) d (M:=3) (by decide) (.inl (by decide));have i:=jQ 2 [[1,2],[-1]] 0 0 0 0 (by decide) (by decide) (by decide) (by decide) (by decide) (M:=9) (by decide) (.inl (by decide));have j:=pn 1 [[1],[-1]] 0 0 0 (-1) (by decide) (.inr (.inl (by decide)));have g:=λ(b:Int) (d:0<=b∧b<=1000000)=>Cz 1 [[1],[-1]] b (by decide) (by decide) (by decide) (by decide) d (M:=3) (by decide) (.inl (by decide));simp;refine aj.intro oa ?_;simp;refine aj.introR (f 0 (by decide)) ?_;rintro _ ⟨k,c,m,o,rfl,h⟩;obtain⟨rfl,rfl⟩:=Mn h;refine⟨by simp[eY],?_⟩;simp[eY];refine aj.intro oa ?_;simp;refine aj.introR (f 1 (by decide)) ?_;rintro _ ⟨k,c1,m,e,rfl,h⟩;obtain⟨rfl,rfl,h1,t,a⟩:=Mo h (by decide);have a:e.length=1:=by omega
 refine⟨by simp[eY,re],?_⟩;simp[eY];refine aj.introR i ?_;rintro _ ⟨k,c2,m,p,rfl,h⟩;obtain⟨rfl,rfl⟩:=NP h;refine⟨by simp[eY],?_⟩;simp[eY];refine aj.intro oa ?_;simp;refine aj.intro j ?_;simp;refine aj.intro oa ?_;simp;refine aj.introR (g 5 (by decide)) ?_;rintro _ ⟨k,c3,m,q,h,rfl⟩;obtain⟨rfl,rfl,_⟩:=Mo h (by decide);refine⟨by simp,?_⟩;simp;refine aj.intro oa ?_;simp;refine aj.introR (g 0 (by decide)) ?_;rintro _ ⟨k,c4,m,s,h,rfl⟩;obtain⟨rfl,rfl⟩:=Mn h;refine⟨by simp,?_⟩;have l:=rJ (-3) 0 0;have n:=rJ 7 0 0;simp[a];refine bK.intro (λ_=>l) ?_;simp[pm,a];refine bK.intro (λ_=>n) ?_;simp[pm,a]
theorem F4{v:Int}{cs:List (List Int)}(h:xq v cs=true):v<=12∧cs.length<=100∧∀c∈cs,c.length<=50:=by
 unfold xq wF at h;simp only[Og,Ov,OP]at h;exact⟨h.2.1,h.2.2,h.1.2⟩
set_option maxRecDepth 16000 in
set_option maxHeartbeats 1000000 in
theorem vb(v:Int)(cs:List (List Int))(rs kp l a:Int):
 an Tryz.prog 7 [.agg [ae v,.seq false 1 (cs.map aK)],.agg [ae rs,ae kp,ae l],ae a] (λr=>r=.pv (BL true)):=by
 refine ax aG Tryz.func7 ?_;simp;refine aj.intro (F2 v cs) ?_;cases q:xq v cs
 .simp;refine aj.intro ib ?_;simp
 obtain⟨D,x,i⟩:=F4 q;simp;refine⟨λ_=>?_,λc1 c2 c3=>?_⟩
 .refine aj.intro ib ?_;simp
 by_cases hk:(ij v cs).2=0
 rotate_left
 .have s:=pn v cs rs kp l a i (.inl hk);rw[N8 (by omega)]at s;refine aj.intro s ?_;simp[hk];refine bK.introK (λ_=>?_) (λe=>absurd trivial e);refine aj.intro ib ?_;simp
 have B:0<=v:=by
  apply OF;intro hn;unfold ij at hk;rw[N9 (.inl (by omega))]at hk;cases hk
 obtain⟨n,rfl⟩:=Pn B;have o:3^n<=81:=by
  have:(3:Nat)^n<=3^4:=RV (by decide) (by omega);omega
 have C:=jQ n cs rs kp l a (by omega) x i hk (by omega) (M:=81) (by decide) (.inl o);refine aj.introR C ?_;rintro _ ⟨k,c,m,pf,rfl,F,G,H,E,b⟩;have u:=zp n n (by omega) cs (by omega) (λc p=>by have:=i c p;omega);rcases b with⟨rfl,j,rfl,g,f⟩|⟨rfl,rfl,z,_⟩|⟨rfl,rfl,hx,hy,_⟩
 .refine⟨by simp[eY],?_⟩;simp[eY];refine aj.introR u ?_;rintro _ ⟨many,y,rfl,⟨_,_,hn⟩|⟨h1,w,rfl,_⟩⟩
  .exact absurd f (hn j g)
  refine⟨by simp,?_⟩;have t:=Cw n cs j (by omega) (λc p=>by have:=i c p;omega);have q:gX cs j=-1:=by
   have h:=(jL cs j).2 f;unfold gX iV at*;split at h
   .omega
   .rfl
  rw[g,q]at t;simp[h1];refine bK.introK (λ_=>?_) (λe=>absurd trivial e);refine aj.intro t ?_;simp;refine bK.introK (λ_=>?_) (λe=>absurd trivial e);refine aj.intro ib ?_;simp
 .refine⟨by simp[eY,re],?_⟩;simp[eY];refine aj.introR u ?_;rintro _ ⟨many,y,rfl,⟨rfl,rfl,_⟩|⟨_,w,_,_,A⟩⟩
  .refine⟨by simp,?_⟩;have d:(c:Int)<=81:=by omega
   simp[d];refine bK.introK (λ_=>?_) (λe=>absurd trivial e);refine aj.intro ib ?_;simp
  .have:=z w A;cases this
 .omega
end Go.AX