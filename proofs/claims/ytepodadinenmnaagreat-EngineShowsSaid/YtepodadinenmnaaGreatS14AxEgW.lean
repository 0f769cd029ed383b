/-
  Engines: a conflict is resolved (plain law).
  Contracts: engines: what was learnt is told, and none forgotten where there are few.
  Contracts: engines: one is made.
  Contracts: engines: none is made; it begins again; there is nothing to resolve.
  Contracts: engines: the steps so far.
  Contracts of the law: few, call, Models.
-/
import Derived.Test.YtepodadinenmnaaGreatS14AxEgN
import Derived.Test.YtepodadinenmnaaGreatS14AxEgF
import Derived.Test.YtepodadinenmnaaGreatS14AxRnX
import Derived.Test.YtepodadinenmnaaGreatS14AxTtA
import Derived.Test.YtepodadinenmnaaGreatS14AxTmQ
import Derived.Test.YtepodadinenmnaaGreatAxTb
import Derived.Test.YtepodadinenmnaaGreatS14AxWaD
import Derived.Test.YtepodadinenmnaaGreatS14AxMovR
namespace Go.AX
open Go.Proofs
set_option linter.unusedSimpArgs false
def jT(E:ES):Tr:=if aI E=[]then E.T else fl E.T (eO E.T (aI E))
def p6(E:ES)(q:HS)(p:List Bool)(k:Int):ES:={E with
 pf:=E.pf++[⟨1,E.id+1,aI E,(eW E).map (je E.A)⟩],many:=E.many+1,q:=q,inc:=k,ph:=p,con:=-1,calm:=false,id:=E.id+1,A:=dh E.A (E.id+1) (aI E) true
 over:=E.over||decide ((aI E).length=0),S:=nZ (dh E.A (E.id+1) (aI E) true) (jT E) E.S E.A.row.length
 T:=if aI E=[]then E.T else kn (jT E) ((aI E).headD 0) E.A.row.length,gl:=pt E.gl E.A.row.length (Jw E.T (aI E))}
section
variable {n r s : Nat} {F : List (List Int)} {l : List Rc} {E : ES}
theorem ArI.arok{A:Ar}(h:ArI A l):kJ A:=λq c=>by
 obtain⟨x,hx,e⟩:=h.rel.is q c;obtain⟨p,a,b,_⟩:=h.rel.rows x hx;exact⟨p,_,by rw[←e,a],b⟩
theorem EI.arok(h:EI n F r s l E):kJ E.A:=h.ari.arok
theorem EI.resd(h:EI n F (r+1) (s+(n+3)) l E)(U:0<=E.con)(q:HS)(m:HpTo n E.q q)(p:List Bool)(hp:p.length=n+1)(k:Int)(hk:0<=k∧k<=1000000000)(hin:∀z∈E.T.lits,z∉(jT E).lits->ae z∈q.row):
 jb (E.id+1) (aI E)=0∧EI n F r s (l++[⟨E.id+1,1,aI E⟩]) (p6 E q p k):=by
 have R:=h.res U;have hs:s+(3+(aI E).length)<=s+(n+3):=by have:=R.len;omega
 have h0:=(h.upd q m.hp m.mem k hk (E.pf++[⟨1,E.id+1,aI E,(eW E).map (je E.A)⟩]) (E.many+1) E.gl).mono (Qc _) hs;have X:=h.n9;have f:(aI E).length<=1000:=by have:=R.len;omega
 have b:jT E=if aI E=[]then E.T else fl E.T (eO E.T (aI E)):=rfl;rcases R.lev with⟨c,e⟩|⟨u,w,e,b0,b1,b2,b3,b4⟩
 .have h1:EI n F (r+1) (s+(3+(aI E).length)) l {E with q:=q,inc:=k,pf:=E.pf++[⟨1,E.id+1,aI E,(eW E).map (je E.A)⟩],many:=E.many+1,con:=-1,calm:=false,ph:=p}:={h0.rest with ph:=hp};obtain⟨H,_,a3⟩:=h1.add (c:=aI E) true f R.nd R.chk R.ent (λk k0 kd=>by have kd:k<=(E.T.beg.length:Int):=kd;omega) rfl (show(-1:Int)<0 by decide) q m.hp (λ_ d=>d);refine⟨H,?_⟩;have:=a3.upd q m.hp (λ_ d=>d) k hk (E.pf++[⟨1,E.id+1,aI E,(eW E).map (je E.A)⟩]) (E.many+1) (pt E.gl E.A.row.length (Jw E.T (aI E)));unfold p6;rw[b,Qb e,Qb e];exact this
 .have C:aI E≠[]:=λG=>by rw[e]at G;cases G
  rw[Qa C]at b;obtain⟨j,hj⟩:∃j:Nat,eO E.T (aI E)=j:=⟨(eO E.T (aI E)).toNat,by omega⟩;have a:j<E.T.beg.length:=by omega
  have S:fl E.T (eO E.T (aI E))=cE E.T j:=by
   have O:(if(j:Int)<0 then(0:Int)else j)=j:=Qa (by omega);unfold fl;rw[hj,O,Qb (by omega)];rfl
  rw[S]at b;rw[b]at hin;have h1:=h0.back a q m.hp (λ_ d=>d) hin p hp;have N:∀y∈aI E,-y∈E.T.lits:=R.neg;have L:∀y∈w,dN E.T y<=j:=λy hy=>by have:=b3 y hy;omega
  have o:(fN (cE E.T j)).dep=j:=by show((cE E.T j).beg.length:Int)=j;rw[(h.tok.back a).2.2,Qg];omega
  have B := R.nd; rw [e, RQ] at B; obtain ⟨H, _, a3⟩ := h1.add (c := aI E) true f R.nd R.chk R.ent (λ k k0 kd => by
   have kd:k<=(fN (cE E.T j)).dep:=kd;rw[o]at kd;rcases b4 with b4|⟨y,hy,b4⟩
   .omega
   have i:∀z,z∈bel (fN (cE E.T j)) k->z∈bel (fN E.T) k:=λz hz=>by
    rw[yW h.tok a]at hz;obtain⟨x,hx,rfl⟩:=Qk.1 hz;obtain⟨J,K⟩:=Q3.1 hx;exact Qk.2 ⟨x,Q3.2 ⟨Q4 J,K⟩,rfl⟩
   refine .inr ⟨u,y,by rw[e];simp,by rw[e];simp[hy],λG=>B.1 (G▸hy),λg=>?_,λg=>?_⟩
   .have:=CT h.tok (i _ g);omega
   .have:=CT h.tok (i _ g);omega) rfl (show(-1:Int)<0 by decide) q m.hp (λ_ d=>d)
  refine⟨H,?_⟩;have P:=a3.upd q m.hp (λ_ d=>d) k hk (E.pf++[⟨1,E.id+1,aI E,(eW E).map (je E.A)⟩]) (E.many+1) (pt E.gl E.A.row.length (Jw E.T (aI E)));have I:(⟨E.A.row.length,E.id+1,aI E⟩:Ro)∈bg 0 (l++[⟨E.id+1,eP true,aI E⟩]):=by
   rw[jS,Q2,←h.ari.row];simp[bg,eP]
  have W:dN E.T u=E.T.beg.length:=b2;have v:-u∈E.T.lits:=N u (by rw[e];simp);have t:fJ (cE E.T j) u=0:=by
   obtain⟨t1,Y,_⟩:=h.tok.back a;refine(t1.may u).2 ⟨R.chk u (by rw[e];simp),λg=>?_,λg=>?_⟩
   .rw[Y]at g;exact h.tok.one (Q4 g) v
   .have:=(CS h.tok a v).1 g;omega
  have Q := P.imp I (u := u) (by rw [e]; simp) t (λ y hy D => by
   have hy:y∈aI E:=hy;have M:y∈w:=by rw[e]at hy;exact(QC.1 hy).resolve_left D
   exact(CS h.tok a (N y hy)).2 (L y M)) rfl (show(-1:Int)<0 by decide)
  have V:(aI E).headD 0=u:=by rw[e];rfl
  unfold p6;rw[Qa C,b,V];exact Q
end
end Go.AX
namespace Go.AX
set_option maxRecDepth 16000
open Go.Proofs
set_option linter.unusedSimpArgs false
theorem u9{α:Type}{l:List α}{i:Nat}(h:i<l.length):l.take (i+1)=l.take i++[l[i]]:=Rf h
theorem Ir:∀(l:List Rc)(p:Nat)(x:Rc),(bg p (l++[x])).map (·.at')=(bg p l).map (·.at')++(if x.side=2 then[]else[((p+(bv l).length:Nat):Int)]):=λl p x=>by
 rw[jS,QT];congr 1;show((if x.side=2 then[]else[_]):List Ro).map _=_;split<;>rfl
theorem sZ:∀(l:List Rc)(p:Nat),(bg p l).length<=l.length
 |[],_=>Qc _
 |x::l,p=>by
  have:=sZ l (p+x.sz);rw[bg];split<;>simp<;>omega
theorem ta:∀(l:List Rc),l.length<=(bv l).length
 |[]=>Qc _
 |x::l=>by
  have:=ta l;simp[bv];omega
theorem Kn(h:List (List SV))(b:Nat)(A:Ar)(C:h[b]?=some (l6 A))(l:List Rc)(D:A.row=bv l)(U:A.row.length<=1000000):ay Tryz.prog 192 [.ptr b 0] h (λr h'=>h'=h∧r=.pv (.seq true 1 (ab (rA l)))):=by
 refine fh [] [.tmp 2] aD Tryz.func192 ?_;obtain⟨k,j⟩:=P7.1 C;simp;refine ak.intro (rR h b A C) ?_;rintro _ h ⟨rfl,rfl⟩;simp;refine aH.intro (S:=λ(i:Nat)=>⟨[(0,.pv (.ptr b 0)),(3,.own true 1 (ab (rA (l.take i)))),(4,.pv (af (bv (l.take i)).length))],h⟩) (λi=>i<=l.length) (λi=>l.length -i) 0 ?_ (Qq _) ?_
 .exact(ai.nilOwn (s:=3) 1 true (by simp)).trans (ai.keep (by simp[rA,bg,bv,ab]) rfl)
 intro i hi
 by_cases c:i<l.length
 .obtain⟨a,q⟩:∃a,l.take i=a:=⟨_,rfl⟩;obtain⟨x,hx⟩:∃x,l[i]=x:=⟨_,rfl⟩;have v:l=a++x::l.drop (i+1):=by rw[←q,←hx,←QU c,Q7]
  obtain⟨Q,w,y,R,T⟩:=wM a x (l.drop (i+1));rw[←v,←D]at Q w y R T;have z:l.take (i+1)=a++[x]:=by rw[u9 c,q,hx]
  have B:(bv (a++[x])).length=(bv a).length+(3+x.lits.length):=by rw[jR];simp[bv];omega
  have g:=Ir a 0 x;have g:rA (a++[x])=rA a++(if x.side=2 then[]else[((bv a).length:Int)]):=by rw[Q2]at g;exact g
  generalize hp:(bv a).length=p at*;have o:p<A.row.length:=by omega
  have e:p+1<A.row.length:=by omega
  have f:p+2<A.row.length:=by omega
  have t:A.row[p+1]=x.lits.length:=by rw[P9,P8 e]at w;exact w
  have g2:A.row[p+2]=x.side:=by rw[P9,P8 f]at y;exact y
  have J:=eq p;have K:aX ((p:Int)+2)=((p+2:Nat):Int):=by rw[aq (by omega) (by omega)];omega
  have L:aX ((3:Int)+x.lits.length)=((3+x.lits.length:Nat):Int):=by rw[aq (by omega) (by omega)];omega
  have M:aX ((p:Int)+(3+x.lits.length))=((p+(3+x.lits.length):Nat):Int):=by rw[aq (by omega) (by omega)];omega
  have t1:((p:Int)+1).toNat=p+1:=by omega
  have I:((p:Int)+2).toNat=p+2:=by omega
  have m:A.row[p+1]?=some (x.lits.length:Int):=by rw[P8 e,t]
  have n:A.row[p+2]?=some x.side:=by rw[P8 f,g2]
  have E:(p:Int)+1<A.row.length:=by omega
  have F:(p:Int)+2<A.row.length:=by omega
  have G:(0:Int)<=(p:Int)+1:=by omega
  have H:(0:Int)<=(p:Int)+2:=by omega
  have P:(rA a).length<=a.length:=by unfold rA;rw[Ql];exact sZ a 0
  have N:a.length<=A.row.length:=by have:=ta a;omega
  by_cases d:x.side=2
  .rw[Qb d,Rx]at g;simp[q,hp,j,k,l6,o,t,g2,K,I,n,F,H,d,J,t1,m,E,G,e,f,L,M];exact⟨i+1,by(try dsimp only);omega,by(try dsimp only);omega,ai.keep (by simp[z,B,g]) rfl⟩
  .rw[Qa d]at g;simp[q,hp,j,k,l6,o,t,g2,K,I,n,F,H,d,J,t1,m,E,G,e,f,L,M];exact⟨by omega,i+1,by(try dsimp only);omega,by(try dsimp only);omega,ai.keep (by simp[z,B,g,ab]) rfl⟩
 .have u:i=l.length:=by omega
  subst u;have O:¬(bv l).length<A.row.length:=by rw[D];omega
  simp[j,k,l6,O,bI,bG]
section
variable {h : List (List SV)} {be bt ba bw bh : Nat} {mp : List (Int × Nat)} {mb : List (Int × By)} {E : ES}
theorem Bl(L:LayE h be bt ba bw bh mp mb E){l:List Rc}(k:ArI E.A l)(v:E.A.row.length<=1000000)(C:E.T.ok):
 ay Tryz.prog 115 [.ptr be 0] h (λr h'=>h'=h∧∃j:List Gr,r=.pv (.seq true 4 (j.map KF))∧j.length<=((rA l).filter (pd E.A)).length):=by
 refine cY [] [.tmp 2] aD Tryz.func115 ?_;obtain⟨g,f⟩:=P7.1 L.e;have G:=Kn h ba E.A L.w.a l k.row v;have hz:=cG L.w.t 2;have F:(rA l).length<=1000000:=by
  have h1:=sZ l 0;have B:=ta l;rw[←k.row]at B;unfold rA;rw[Ql];omega
 simp[f,g,bS];refine ak.intro G ?_;rintro _ h ⟨rfl,rfl⟩;simp;refine aH.intro (S:=λ(x:Nat×List Gr)=>⟨[(0,.pv (.ptr be 0)),(3,.own true 4 (x.2.map KF)),(11,.pv (.seq true 1 (ab (rA l)))),(12,.pv (af (rA l).length)),(13,.pv (af x.1))],h⟩)
  (λx=>x.1<=(rA l).length∧x.2.length<=(((rA l).take x.1).filter (pd E.A)).length) (λx=>(rA l).length -x.1) (0,[]) ?_ ⟨Qq _,Qq _⟩ ?_
 .exact(ai.nilOwn (s:=3) 4 true (by simp)).trans (ai.keep (by simp) rfl)
 rintro⟨i,j⟩ ⟨hi,m⟩;dsimp only at hi m
 by_cases c:i<(rA l).length
 .have z:=eq i;obtain⟨y,hy,e⟩:=Qk.1 (Qe c);have q:isA E.A (rA l)[i]=true:=(k.isA _).2 ⟨y,hy,e⟩;have o:=jj l 0 y hy;rw[←k.row]at o;have I:=A7 h ba E.A L.w.a (rA l)[i] (λ_=>by rw[←e];omega) (by omega);have J:=uR h ba E.A L.w.a k.arok v (rA l)[i] q;have u:(au E.A (rA l)[i]).length<=1000000:=by
   rw[←e,(k.at hy).1];omega
  have H:=DB E.T C (rA l)[i] (au E.A (rA l)[i]) u;have b:(((rA l).take (i+1)).filter (pd E.A)).length=(((rA l).take i).filter (pd E.A)).length+if pd E.A (rA l)[i]=true then 1 else 0:=by
   rw[u9 c,RK,Qh];congr 1;simp only[Q9,UQ];split<;>rfl
  have D:j.length<=i:=by have:=R6 (pd E.A) ((rA l).take i);rw[Qg]at this;omega
  generalize n:(rA l)[i]=at' at*;simp[c,f,g,bS,n];refine ak.intro I ?_;rintro _ h ⟨rfl,rfl⟩;cases d:pd E.A at'
  .rw[d]at b;simp[d];exact⟨(i+1,j),by(try dsimp only);omega,⟨by(try dsimp only);omega,by simpa[b]using m⟩,ai.keep (by simp[z]) rfl⟩
  .rw[d]at b;simp[d,f,g,bS];refine ak.intro J ?_;rintro _ h ⟨rfl,rfl⟩;simp[f,g,bS,hz];refine br.intro H ?_;simp[f,g,bS,hz];refine⟨by omega,?_⟩;exact⟨(i+1,j++[⟨at',(lk E.gl at').getD 0,(au E.A at').length,Gg E.T at' (au E.A at')⟩]),by(try dsimp only);omega,⟨by(try dsimp only);omega,by simp[b];omega⟩,ai.keep (by simp[z,KF]) rfl⟩
 .have p:i=(rA l).length:=by omega
  subst p;rw[QO]at m;simp;exact⟨j,rfl,m⟩
theorem Bn(l:List Gr)(keep:Int)(hk:(l.length:Int)<=keep):am Tryz.prog 114 [.seq false 4 (l.map KF),af keep] (λr=>r=.pv (.lit (.slice none 0 0))):=by
 refine ao aD Tryz.func114 ?_;simp[hk]
def KS:Sch:=
 let a:Sch:=.fork [(6,.take 7 .done)]
 let b:Sch:=.fork [(5,a)]
 let c:Sch:=.fork [(1,a)]
 .take 0 (.take 2 (.take 3 (.take 4 (.fork [(1,b),(5,c)]))))
theorem za(L:LayE h be bt ba bw bh mp mb E){l:List Rc}(f:ArI E.A l)(i:E.A.row.length<=1000000)(g:E.T.ok)(hk:(((rA l).filter (pd E.A)).length:Int)<=E.keep):
 ay Tryz.prog 53 [.ptr be 0] h (λr h'=>h'=h∧r=.pv (af 0)):=by
 refine gh [3,7] [.tmp 2] aD Tryz.func53 ?_;obtain⟨b,a⟩:=P7.1 L.e;have j:=Bl L f i g;simp;refine ak.intro (dE L.e) ?_;rintro _ h ⟨rfl,rfl⟩;cases ho:E.over
 rotate_left
 .simp[a,b,bS,ho]
 by_cases c:0<=E.con
 .simp[a,b,bS,ho,c]
 simp[a,b,bS,ho,c];refine bd.meet KS ⟨[(0,.pv (.ptr be 0)),(2,.pv (af 0)),(3,.pv (.lit (.slice none 0 0)))],h⟩ (by kernel_rfl) ?_ ?_
 .simp[KS,a,b,bS]
  repeat' first
   |trivial
   |refine And.intro ?_ ?_
   |(refine ak.intro j ?_;rintro _ h ⟨rfl,d,rfl,m⟩;have k:=Bn d E.keep (by omega);simp[a,b,bS])
   |(refine ah.intro k ?_;simp;exact ai.keep (by simp) rfl)
 .simp
end
end Go.AX
namespace Go.AX
open Go.Proofs
set_option linter.unusedSimpArgs false
theorem od(q r:Pos->Bool)(t:List (Nat×SV))(s:Nat):look (t.map ((λp=>(p.1,cC q p.2))∘λp=>(p.1,cC r p.2))) s=cC q (cC r (look t s)):=by
 rw[←Ra,bU,bU]
theorem vb:∀L:List (List Int),Dy (L.map oE) (L.map az)
 |[]=>trivial
 |c::L=>⟨by simp[oE,az,bG,bI],vb L⟩
theorem Sim.leF{g:Gh}{st st':St}{a:Act}{w:World}(h:Sim g st a w)(hp:∀p,aa st' p=aa st p∨∃x y,aa st p=.pv x∧aa st' p=.pv y∧∀g v,Fit g x v->Fit g y v)(hl:st'.h.length=st.h.length)(hb:∀b,(st'.h.getD b []).length=(st.h.getD b []).length):Sim g st' a w:=by
  obtain⟨bl,ho⟩:=h.own
  have hw:∀p,(aa st' p).isOwn=(aa st p).isOwn:=λp=>by
    rcases hp p with e|⟨x,y,e1,e2,_⟩
    · rw[e]
    · rw[e1,e2];rfl
  have hown:∀p nw e rows,aa st' p=.own nw e rows->aa st p=.own nw e rows:=λp nw e rows he=>by
    rcases hp p with e1|⟨x,y,_,e2,_⟩
    · rw[←e1];exact he
    · rw[e2]at he;cases he
  have hal:∀{sv:SV}{v:Value},bV g st a w sv v->bV g st' a w sv v:=by
    intro sv
    induction sv with
    |al p=>intro v hv ho';exact hv (by rw[←hw];exact ho')
    |loc p lo hi=>intro v hv nw e rows he;exact hv nw e rows (hown _ _ _ _ he)
    |sptr p i k=>intro v hv nw e rows he;exact hv nw e rows (hown _ _ _ _ he)
    |agl xs=>intro v hv k x p hk ho';exact hv k x p hk (by rw[←hw];exact ho')
    |opt c x ih=>intro v hv hc;exact ih (hv hc)
    |_=>intro v _;trivial
  have hf:∀p v o,aw g w (aa st p) v o->aw g w (aa st' p) v o:=λp v o hs=>by
    rcases hp p with e|⟨x,y,e1,e2,hf⟩
    · rw[e];exact hs
    · rw[e1]at hs;rw[e2];exact⟨hs.1,hf _ _ hs.2⟩
  refine { size := h.size, defs := h.defs, env := h.env, n := by rw [hl]; exact h.n, n0 := h.n0, B := h.B, I := h.I, F := h.F, μI := h.μI, μinj := h.μinj,
           own:=⟨bl,{slots:=λs=>hf (.slot s) _ _ (ho.slots s),blocks:=λb xs' hx=>?_,inj:=ho.inj,free:=ho.free}⟩,al:=λs=>?_}
  · have hlt:b<st.h.length:=by rw[←hl];exact(P7.1 hx).1
    have hlen:xs'.length=(st.h[b]).length:=by
      have:=hb b
      rw[P9,P9,hx,P8 hlt]at this
      simpa using this
    obtain⟨arr,T,e1,e2,e3⟩:=ho.blocks b _ (P8 hlt)
    refine⟨arr,T,e1,⟨by rw[hlen];exact e2.1,e2.2⟩,λk x hk=>?_⟩
    have hkl:k<(st.h[b]).length:=by rw[←hlen];exact(P7.1 hk).1
    have g1:aa st' (.cell b k)=x:=by simp only[aa,P9,hx,QF,hk]
    have g2:aa st (.cell b k)=(st.h[b])[k]:=by simp only[aa,P9,P8 hlt,QF,P8 hkl]
    obtain⟨c1,c2⟩:=e3 k _ (P8 hkl)
    have h4:=hf (.cell b k) (arr.getD k undef) (bl (.cell b k)) (by rw[g2];exact c2)
    rw[g1]at h4
    refine⟨?_,h4⟩
    rcases hp (.cell b k)with e|⟨u,v,_,e,_⟩
    · rw[←g1,e,g2];exact c1
    · rw[←g1,e];rfl
  · have h5:=h.al s
    rcases hp (.slot s)with e|⟨x,y,_,e,_⟩
    · simp only[aa]at e;rw[e];exact hal h5
    · simp only[aa]at e;rw[e];trivial
theorem ai.fitC{k0:Nat}{st:St}{b k:Nat}{xs:List SV}{x y:PV}(hx:st.h[b]?=some xs)(hk:xs[k]?=some (.pv x))(n:∀g v,Fit g x v->Fit g y v):ai k0 st ⟨st.t,st.h.set b (xs.set k (.pv y))⟩:=λg a w _ hs=>by
 obtain⟨m,r⟩:=P7.1 hx;obtain⟨d,o⟩:=P7.1 hk;have i:st.h.getD b []=xs:=by rw[P9,hx];rfl
 have l:∀c,(st.h.set b (xs.set k (.pv y))).getD c []=if c=b then xs.set k (.pv y)else st.h.getD c []:=λc=>by
  simp only[P9,QB]
  by_cases e:c=b
  .subst e;rw[Qb rfl,Qb m,Qb rfl];rfl
  .rw[Qa (λq=>e q.symm),Qa e]
 refine⟨g,hs.refl_to,hs.leF (λp=>?_) (by simp) (λc=>?_)⟩
 .cases p with
  |slot s=>exact .inl rfl
  |cell c j=>
   simp only[aa];rw[l]
   by_cases e:c=b
   .subst e;rw[Qb rfl,i]
    by_cases f:j=k
    .subst f;exact .inr ⟨x,y,by rw[P9,hk];rfl,by rw[P9,Q0 d];rfl,n⟩
    .left;simp only[P9];rw[Qt (λq=>f q.symm)]
   .rw[Qa e];exact .inl rfl
 .rw[l];split
  .rename_i e;subst e;rw[i];simp
  .rfl
def nq(k:Int):Int:=if 100<(if 1000000<k then 1000000 else k)then(if 1000000<k then 1000000 else k)else 100
def qr(k:Int):Int:=if 0<(if 100<k then 100 else k)then(if 100<k then 100 else k)else 0
def fU(n:Nat)(cs:List (List Int))(kp a:Int):ES:=⟨jE n,⟨[],[]⟩,⟨[],[],[],0,[]⟩,mS n,n,cs,List.replicate (n+1) false,nq kp,qr a,64,0,-1,false,0,false,[],[]⟩
def Is(ba bt:Nat):List SV:=[.pv (.ptr ba 0),.pv (.ptr bt 0),.omap true [],.omap true [],.omap true [],.pv (af 0),.pv (.lit (.slice none 0 0))]
def IQ(bt ba bw bh n:Nat)(cs:List (List Int))(kp a:Int):List SV:=[.pv (.ptr bt 0),.pv (af n),.pv (.seq true 1 (cs.map oE)),.pv (.ptr ba 0),.pv (.ptr bw 0),.pv (.ptr bh 0),.own true 1 (List.replicate (n+1) [BL false]),.pv (af (nq kp)),.pv (af (qr a)),.pv (af 64),.pv (af 0),.pv (af (-1)),.pv (BL false),.pv (af 0),.pv (BL false),.pv (.lit (.slice none 0 0)),.omap true []]
def tG(h:List (List SV))(x y:List SV)(E:ES):List (List SV):=h++[x,y,gi E.T,ap E.q,l6 E.A,cB (h.length+4) (h.length+2) ⟨[],[],[],0,[]⟩,bS (h.length+2) (h.length+4) (h.length+5) (h.length+3) E]
theorem It(h:List (List SV))(x y:List SV)(E:ES)(f:E.S=⟨[],[],[],0,[]⟩):LayE (tG h x y E) (h.length+6) (h.length+2) (h.length+4) (h.length+5) (h.length+3) [] [] E where
 w:={
  w:=by rw[f];simp[tG]
  a:=by simp[tG]
  t:=by simp[tG]
  wa:=by omega
  wt:=by omega
  at':=by omega
  keys:=by rw[f];rfl
  pr:=λk b c=>by simp[lk]at c
  pinj:=λk k' b c=>by simp[lk]at c
  by':=λl e g=>by simp[lk]at g
  byn:=λl _=>by rw[f];simp[lk]
  binj:=λl l' e e' g=>by simp[lk]at g
  pb:=λk b l e c=>by simp[lk]at c}
 e:=by simp[tG]
 q:=by simp[tG]
 ne:=by omega
 eo:=⟨λd=>by rcases d with d|d|⟨k,d⟩|⟨l,e,d,_⟩<;>first|omega|simp[lk]at d,by omega⟩
 ho:=⟨λd=>by rcases d with d|d|⟨k,d⟩|⟨l,e,d,_⟩<;>first|omega|simp[lk]at d,by omega⟩
theorem Iu(h:List (List SV))(x y:List SV)(E:ES):Ext h (tG h x y E) (λ_=>False) (eG (h.length+6) (h.length+2) (h.length+4) (h.length+5) (h.length+3) [] [])where
 len:=by simp[tG]
 same:=λb a _=>Qd a
 sub:=λb a d=>by
  rcases d with d|d|d|d|d|⟨k,d⟩|⟨l,e,d,_⟩<;>first|omega|simp[lk]at d
theorem Ko{n:Nat}(hn:n<=400)(F cs:List (List Int))(kp a:Int){r s:Nat}(d:r<=1000000)(hs:s<=1000000):EI n F r s [] (fU n cs kp a)where
 n9:=hn
 tok:=TOk.new (by omega)
 wok:={nd:=by simp[fU],lits:=λk p h=>by simp[fU,lk]at h,lnd:=by simp[fU],lpr:=λk h=>by simp[fU]at h,two:=λk p h=>by simp[fU,lk]at h,bnd:=λl=>by simp[fU,bF,lk],mem:=λl k=>by simp[fU,bF,lk],few:=by simp[fU],h0:=by simp[fU],h1:=by simp[fU],sl:=by simp[fU],clr:=by simp[fU,nl]}
 prz:=by simp[fU];omega
 ari:=ArI.new
 rsz:=by simp[fU];omega
 idz:=by simp[fU];omega
 ids:=by simp
 cls:=λx hx=>by simp[bg]at hx
 att:=λk c=>by simp[CW,fU,lk,bg]
 ef:=by
  have:fN (fU n cs kp a).T=⟨n,[],0⟩:=by simp[fN,fU,jE]
  rw[this];exact EF.new _
 ent:=λx hx=>by simp[bg]at hx
 ovr:=by simp[fU,bg]
 hp:=HW n
 inh:=λv h1 b _=>by
  simp only[fU,mS,Qk,Ry];exact⟨(v -1).toNat,by omega,by omega⟩
 ph:=by simp[fU]
 cal:=λh=>by simp[fU]at h
 con:=λh=>by simp[fU]at h
 dcy:=by simp only[fU,qr];split<;>split<;>omega
 inc:=by simp[fU]
theorem LU{l:List Rc}{x:Rc}(hs:x.side≠2):rC (l++[x])=rC l++[x.lits]:=by
 unfold rC;rw[jS];simp[bg,hs]
theorem Kp{c:List Int}{m:Int}(h:fj c m=0):c.length<=1000∧c.Nodup∧∀y∈c,ax y m=0:=by
 unfold fj at h;split at h
 .omega
 .rename_i h0;split at h
  .omega
  .split at h
   .omega
   .split at h
    .rename_i h1 a b;refine⟨by omega,DM b,λy hy=>?_⟩;have:nH y m=true:=by
      have d:(c.all λx=>nH x m)=true:=by simpa using a
      exact QR.1 d y hy
     unfold ax;rw[Qa h0,Qb this]
    .omega
theorem vc{v:Int}:∀{L:List (List Int)}{i:Nat},(lr v L i).2=0->∀c∈L,fj c v=0
 |[],_,_,_,a=>by cases a
 |d::L,i,h,c,a=>by
  rw[lr]at h
  by_cases h1:fj d v≠0
  .rw[Qb h1]at h;exact absurd h h1
  rw[Qa h1]at h;rcases QC.1 a with rfl|a
  .simpa using h1
  by_cases b:iK d=true
  .rw[Qb b]at h;exact absurd h (by show¬((11:Int)=0);decide)
  .rw[Qa b]at h;exact vc h c a
theorem LV{n:Nat}{cs:List (List Int)}(h:(lG n cs).2=0):∀c∈cs,c.length<=1000∧c.Nodup∧∀y∈c,ax y n=0:=λc a=>by
 have h1:(lr n cs 0).2=0:=by
  unfold lG at h;split at h
  .cases h
  .split at h
   .cases h
   .exact h
 exact Kp (vc h1 c a)
structure NewOk (n:Nat) (cs:List (List Int)) (kp:Int) (E:ES) (l:List Rc) (L:List (List Int)):Prop where
  T:E.T=jE n
  vars:E.vars=n
  cs:E.cs=cs
  keep:E.keep=nq kp
  pf:E.pf=[]
  many:E.many=0
  calm:E.calm=false
  con:E.con=-1
  rc:rC l=L
  side:∀x∈l,x.side=0
  num:l.map (λx=>(x.id,x.lits))=L.mapIdx λi c=>(((i+1:Nat):Int),c)
  id:E.id=L.length
def PU(n:Nat)(cs:List (List Int))(kp:Int)(r s:Nat)(h:List (List SV))(y:SV)(h':List (List SV)):Prop:=∃be bt ba bw bh mp E l,y=.pv (.tup [.ptr be 0,af 0])∧LayE h' be bt ba bw bh mp [] E∧Ext h h' (λ_=>False) (eG be bt ba bw bh mp [])∧EI n cs r s l E∧NewOk n cs kp E l cs
set_option maxRecDepth 16000 in
set_option maxHeartbeats 1000000 in
theorem wO(h:List (List SV))(n:Nat)(hn:n<=400)(cs:List (List Int))(rs kp f:Int)(hc:cs.length<=1000000)(M:∀c∈cs,c.length<=1000000)(hk:(lG n cs).2=0){r s:Nat}(hr:cs.length+r<=1000000)(hs:cs.length*1003+s<=1000000):
 ay Tryz.prog 21 [.agg [af n,.seq false 1 (cs.map az)],.agg [af rs,af kp,af f]] h (PU n cs kp r s h):=by
 have aj:n<=900:=by omega
 refine cY [9] [.tmp 4,.tmp 5] aD Tryz.func21 ?_;have kC:=wy n cs M;rw[hk]at kC;have h9:¬(900:Int)<n:=by omega
 have kT:=λg=>Jk g n (by omega);simp;refine ah.intro kC ?_;simp[h9];refine ah.introM (kT _) ?_;rintro _ _ ⟨rfl,rfl⟩;simp;have kH:=λg=>Kg g n;refine ah.introM (kH _) ?_;rintro _ _ u;rw[Qb (by omega)]at u;obtain⟨rfl,rfl⟩:=u;simp;refine ah.introM (Ju _) ?_;rintro _ _ ⟨rfl,rfl⟩;simp;have kW:=J5 n cs hc M;generalize N:h++[[.pv (af n),.pv (.seq false 1 (cs.map az))],[.pv (af rs),.pv (af kp),.pv (af f)],[.own true 4 ((jE n).marks.map pn),.pv (.lit (.slice none 0 0)),.pv (.lit (.slice none 0 0)),.pv (BL true)],ap (mS n),MJ]=H;have z:H.length=h.length+5:=by rw[←N];simp
 have B:∀u,H[h.length]'u=[.pv (af n),.pv (.seq false 1 (cs.map az))]:=by subst N;intro u;simp
 have C:∀u,H[h.length+1]'u=[.pv (af rs),.pv (af kp),.pv (af f)]:=by subst N;intro u;simp
 have D:∀g u,(H++g)[h.length]'u=[.pv (af n),.pv (.seq false 1 (cs.map az))]:=λg u=>by rw[QN (by omega)];exact B _
 have F:∀g u,(H++g)[h.length+1]'u=[.pv (af rs),.pv (af kp),.pv (af f)]:=λg u=>by rw[QN (by omega)];exact C _
 have j:H[h.length]?=some [.pv (af n),.pv (.seq false 1 (cs.map az))]:=by rw[P8 (by omega),B]
 have o:H[h.length+1]?=some [.pv (af rs),.pv (af kp),.pv (af f)]:=by rw[P8 (by omega),C]
 have p:∀g,(H++g)[h.length]?=some [.pv (af n),.pv (.seq false 1 (cs.map az))]:=λg=>by rw[Qd (by omega),j]
 have w:∀g,(H++g)[h.length+1]?=some [.pv (af rs),.pv (af kp),.pv (af f)]:=λg=>by rw[Qd (by omega),o]
 have L:aX ((n:Int)+1)=(n:Int)+1:=aq (by omega) (by omega);have I:((n:Int)+1).toNat=n+1:=by omega
 refine bd.tab [] ⟨[some (40,.pv (.ptr (h.length+2) 0)),some (41,.pv (.agg [af n,.seq false 1 (cs.map az)])),some (42,.pv (.agg [af n,.seq true 1 (cs.map oE)])),some (43,.pv (.ptr (h.length+4) 0)),some (44,.pv (.ptr (h.length+4) 0)),some (45,.pv (.ptr (h.length+2) 0)),some (46,.pv (.ptr (h.length+5) 0)),some (47,.pv (.ptr (h.length+3) 0)),some (48,.pv (.ptr h.length 0)),some (49,.pv (af n)),some (50,.pv (af ((n:Int)+1))),some (51,.own true 1 (List.replicate (n+1) [BL false])),some (52,.pv (.ptr (h.length+1) 1)),some (53,.pv (af kp)),some (54,.pv (af (if 1000000<kp then 1000000 else kp))),some (55,.pv (af (nq kp))),some (56,.pv (.ptr (h.length+1) 2)),some (57,.pv (af f)),some (58,.pv (af (if 100<f then 100 else f))),some (59,.pv (af (qr f))),some (60,.omap true []),some (61,.agl [(.ptr (h.length+2) 0,none),(af n,none),(.seq true 1 (cs.map oE),none),(.ptr (h.length+4) 0,none),(.ptr (h.length+5) 0,none),(.ptr (h.length+3) 0,none),(.bot,some (.slot 51)),(af (nq kp),none),(af (qr f),none),(af 64,none),(af 0,none),(af (-1),none),(BL false,none),(af 0,none),(BL false,none),(.lit (.slice none 0 0),none),(.bot,some (.slot 60))]),some (62,.pv (.ptr (h.length+6) 0)),some (13,.pv (.ptr (h.length+6) 0))],[(2,.pv (.ptr h.length 0)),(3,.pv (.ptr (h.length+1) 0)),(8,.pv (.ptr (h.length+2) 0)),(10,.pv (.ptr (h.length+3) 0)),(12,.pv (.ptr (h.length+4) 0))],[[],[],[1],[],[],[],[4,5],[],[],[8],[9],[10],[],[12],[13],[14],[],[16],[17],[18],[],[0,2,3,6,7,11,15,19,20],[11,20,21],[22]],[6,21,22],[[0,1],[0],[0],[0,1],[0],[0],[0],[0,1],[0,1,2,3],[0,1],[0,1],[0,1],[0,1,2,3],[0,1],[0,1],[0,1],[0,1,2,3],[0,1],[0,1],[0,1],[0,1],[1],[2],[3]],[(11,61),(20,61),(22,51),(22,60),(22,61)],λ|0=>H|1=>H++[Is (h.length+4) (h.length+2)]|2=>H++[Is (h.length+4) (h.length+2)]|_=>H++[Is (h.length+4) (h.length+2),IQ (h.length+2) (h.length+4) (h.length+5) (h.length+3) n cs kp f]⟩ ⟨[(2,.pv (.ptr h.length 0)),(13,.pv (.ptr (h.length+6) 0))],H++[Is (h.length+4) (h.length+2),IQ (h.length+2) (h.length+4) (h.length+5) (h.length+3) n cs kp f]⟩ (by kernel_rfl) (by simp[bk]) rfl ?_ (λt h1 G=>?_) ?_
 .simp only[Tb.steps,IM,Tb.lvA,Tb.dpA,Av,uw,RU,Sj,cO,eC,m8,jp,ff,eX,I6,iz,kb,Q1,R9,SO,Uf,Tj,Ux,Uw,R8,SY,QX,Rs];and_intros
  all_goals first|trivial|(intro t h1 G;simp only[bk,QW,QL]at h1;simp[z,j,o,p,w,D,F,B,C,L,I,nq,qr,Is,IQ,od,h1,G,Tb.postL,Tb.wth,wd,uw,bk,bU]<;>and_intros<;>first|omega|(intro e;simp[z,j,o,p,w,D,F,B,C,L,I,nq,qr,Is,IQ,od,e]))|(intro t h1 G;simp only[bk,QW,QL]at h1;simp[z,j,o,p,w,D,F,B,C,L,I,nq,qr,Is,IQ,od,h1,G,Tb.postL,Tb.wth,wd,uw,bk,bU])
  .refine ah.intro kW ?_;simp[z,j,o,p,w,D,F,h1,G,Tb.postL,Tb.wth,wd,uw,bk,bU]<;>and_intros<;>first|omega|(intro e;simp[e])
  .refine ak.intro (J8 _ (h.length+4) (h.length+2)) ?_;rintro _ _ ⟨rfl,rfl⟩;simp[z,j,o,p,w,D,F,h1,G,Is,Tb.postL,Tb.wth,wd,uw,bk,bU]<;>and_intros<;>first|omega|(intro e;simp[e])
 .simp only[bk,QW,QL]at h1 G;simp[IN]at G;exact ai.keep (by simp[h1,G]) rfl
 simp[p];clear B C D F j o p w z kC kT kH kW L I h9;have V:=LV hk;obtain⟨bx,R⟩:∃x:List SV,[.pv (af n),.pv (.seq false 1 (cs.map az))]=x:=⟨_,rfl⟩;obtain⟨by',U⟩:∃x:List SV,[.pv (af rs),.pv (af kp),.pv (af f)]=x:=⟨_,rfl⟩;refine aH.intro (S:=λ(x:Nat×List (List SV)×List (Int×Nat)×ES×List Rc)=>⟨[(13,.pv (.ptr (h.length+6) 0)),(64,.pv (.seq false 1 (cs.map az))),(65,.pv (af cs.length)),(66,.pv (af x.1))],x.2.1⟩)
  (λx=>x.1<=cs.length∧LayE x.2.1 (h.length+6) (h.length+2) (h.length+4) (h.length+5) (h.length+3) x.2.2.1 [] x.2.2.2.1∧Ext h x.2.1 (λ_=>False) (eG (h.length+6) (h.length+2) (h.length+4) (h.length+5) (h.length+3) x.2.2.1 [])∧EI n cs (r+(cs.length -x.1)) (s+(cs.length -x.1)*1003) x.2.2.2.2 x.2.2.2.1∧NewOk n cs kp x.2.2.2.1 x.2.2.2.2 (cs.take x.1)) (λx=>cs.length -x.1)
  (0,tG h bx by' (fU n cs kp f),[],fU n cs kp f,[]) ?_ ⟨Qq _,It _ _ _ _ rfl,Iu _ _ _ _,Ko hn _ _ _ _ (by omega) (by omega),⟨rfl,rfl,rfl,rfl,rfl,rfl,rfl,rfl,rfl,by simp,rfl,rfl⟩⟩ ?_
 .subst N;refine(ai.keep (t1:=[(13,.pv (.ptr (h.length+6) 0)),(64,.pv (.seq false 1 (cs.map az))),(65,.pv (af cs.length)),(66,.pv (af 0))]) (by simp) rfl).trans ?_;simp only[QD,QW,QL];refine(ai.nilCell (b:=h.length+2) (k:=1) (xs:=[.own true 4 ((jE n).marks.map pn),.pv (.lit (.slice none 0 0)),.pv (.lit (.slice none 0 0)),.pv (BL true)]) 1 true (by simp) (by simp)).trans ?_;refine(ai.nilCell (b:=h.length+2) (k:=2) (xs:=[.own true 4 ((jE n).marks.map pn),.own true 1 [],.pv (.lit (.slice none 0 0)),.pv (BL true)]) 1 true (by simp) (by simp)).trans ?_;refine(ai.nilCell (b:=h.length+4) (k:=0) (xs:=MJ) 1 true (by simp) (by simp[MJ])).trans ?_;refine(ai.nilCell (b:=h.length+5) (k:=6) (xs:=Is (h.length+4) (h.length+2)) 1 true (by simp) (by simp[Is])).trans ?_;refine(ai.nilCell (b:=h.length+6) (k:=15) (xs:=IQ (h.length+2) (h.length+4) (h.length+5) (h.length+3) n cs kp f) 4 true (by simp) (by simp[IQ])).trans ?_;refine(ai.fitC (b:=h.length+6) (k:=2) (xs:=(IQ (h.length+2) (h.length+4) (h.length+5) (h.length+3) n cs kp f).set 15 (.own true 4 [])) (x:=.seq true 1 (cs.map oE)) (y:=.seq false 1 (cs.map az)) (by simp) (by simp[IQ]) λg v hv=>Ge (x:=.seq true 1 (cs.map oE)) ⟨λe=>(by cases e),rfl,vb cs⟩ hv).trans ?_;refine ai.le (by simp) ?_;simp[tG,MJ,Is,IQ];refine rQ h ?_;simp[R,U,bS,l6,gi,cB,fU,ab,ea,jE,aC,pK]
 rintro⟨i,X,mp,E,l⟩ ⟨hi,O,P,J,a⟩;dsimp only at hi O P J a
 by_cases d:i<cs.length
 .obtain⟨h1,G,h3⟩:=V _ (Qe d);have hT:=J.tok;have Y:r+(cs.length -i)=(r+(cs.length -(i+1)))+1:=by omega
  have Z:s+(cs.length -(i+1))*1003+(3+cs[i].length)<=s+(cs.length -i)*1003:=by omega
  have Q:=J.mono (Nat.le_of_eq Y.symm) Z;have hE:∀q,HpTo n E.q q->jb (E.id+1) cs[i]=0∧o7 (dh E.A (E.id+1) cs[i] false) E.T E.S E.A.row.length=0∧EI n cs (r+(cs.length -(i+1))) (s+(cs.length -(i+1))*1003) (l++[⟨E.id+1,eP false,cs[i]⟩]) (Bk E cs[i] false q):=λq hq=>
   Q.add false h1 G h3 (λm hm=>hm _ (Qe d)) (λk k1 k2=>by rw[a.T]at k2;simp[fN,jE]at k2;omega) a.calm (by rw[a.con];omega) q hq.hp hq.mem
  obtain⟨e1,_,e3⟩:=hE E.q (.refl J.hp);have ae:=J.idz;have ag:=J.rsz;have K:=e3.rsz;have kA:=CX O hT J.hp (by omega) cs[i] false e1 e3.arok (by simp only[Bk]at K;omega) (by omega) (by omega);have L:=eq i;have W:az cs[i]=[.seq false 1 (ab cs[i])]:=rfl;simp[d,W];refine ak.intro kA ?_;rintro _ X2 ⟨rfl,ad,q,L2,Y2,G2⟩;simp;refine⟨(i+1,X2,ad,Bk E cs[i] false q,l++[⟨E.id+1,eP false,cs[i]⟩]),by(try dsimp only);omega,⟨by(try dsimp only);omega,L2,P.trans Y2,(hE q G2).2.2,⟨a.T,a.vars,a.cs,a.keep,a.pf,a.many,a.calm,a.con,?_,?_,?_,?_⟩⟩,ai.keep (by simp[L]) rfl⟩
  .rw[LU (by simp[eP]),a.rc,Rl];simp[d]
  .intro x hx;rcases Qn.1 hx with hx|hx
   .exact a.side x hx
   .simp at hx;subst hx;rfl
  .have oi:=a.id;rw[Qg,Rz hi]at oi;rw[QT,a.num,Rf d,List.mapIdx_append,Qg,Rz hi];simp[oi]
  .have oi:=a.id;rw[Qg,Rz hi]at oi;show E.id+1=_;rw[oi,Qg,Rz (by omega)];omega
 .have aa:i=cs.length:=by omega
  subst aa;simp;exact⟨_,_,_,_,_,mp,E,l,rfl,O,P,J.mono (by omega) (by omega),by rw[QO]at a;exact a⟩
theorem zb(h:List (List SV))(v:Int)(cs:List (List Int))(rs kp b:Int)(a:∀c∈cs,c.length<=1000000)(hk:(lG v cs).2≠0∨900<v):
 ay Tryz.prog 21 [.agg [af v,.seq false 1 (cs.map az)],.agg [af rs,af kp,af b]] h (λy h'=>y=.pv (.tup [.lit (.pointer none),af (if(lG v cs).2≠0 then(lG v cs).2 else 3)])∧Ext h h' (λ_=>False) (λ_=>False)):=by
 refine cY [9] [.tmp 4,.tmp 5] aD Tryz.func21 ?_;have f:=wy v cs a;have hx:=λg=>Ext.app h g (λ_=>False);simp;refine ah.intro f ?_
 by_cases c:(lG v cs).2=0
 .have d:900<v:=hk.resolve_left (λe=>e c);simp[c,d,hx]
 .simp[c,hx]
theorem Ey:am Tryz.prog 43 [.lit (.pointer none)] (λr=>r=.pv (BL false)):=by
 refine ao aD Tryz.func43 ?_;simp;refine ah.intro u7 ?_;simp
theorem Ez:am Tryz.prog 17 [.lit (.pointer none)] (λr=>r=.pv (BL false)):=by
 refine ao aD Tryz.func17 ?_;simp;refine ah.intro u7 ?_;simp
section
variable {h : List (List SV)} {be bt ba bw bh : Nat} {mp : List (Int × Nat)} {mb : List (Int × By)} {E : ES}
theorem wP(d:h[be]?=some (bS bt ba bw bh E))(c:E.over=true∨E.con<0):ay Tryz.prog 44 [.ptr be 0] h (λr h'=>h'=h∧r=.pv (BL false)):=by
 refine cY [6,7,18] [.tmp 2] aD Tryz.func44 ?_;obtain⟨b,a⟩:=P7.1 d;simp;refine ak.intro (dE d) ?_;rintro _ _ ⟨rfl,rfl⟩;cases ho:E.over
 .have c:E.con<0:=c.resolve_left (by simp[ho]);simp[a,b,bS,ho,c]
 .simp[a,b,bS,ho]
theorem zc(L:LayE h be bt ba bw bh mp mb E){n:Nat}(i:TOk n E.T)(g:HpG n 1000000000000 E.q)(hp:E.ph.length=n+1):
 ay Tryz.prog 24 [.ptr be 0] h (λr h'=>r=.pv (.tup [])∧((E.over=true∧h'=h)∨(E.over=false∧∃q p,LayE h' be bt ba bw bh mp mb {E with T:=fl E.T 0,q:=q,ph:=p,con:=-1,calm:=false}∧Ext h h' (eG be bt ba bw bh mp mb) (eG be bt ba bw bh mp mb)∧HpTo n E.q q∧p.length=n+1∧∀z∈E.T.lits,z∉(fl E.T 0).lits->ae z∈q.row))):=by
 refine cY [] [] aD Tryz.func24 ?_;have j:=y9 L i g hp 0;obtain⟨b,a⟩:=P7.1 L.e;simp;refine ak.intro (dE L.e) ?_;rintro _ _ ⟨rfl,rfl⟩;cases ho:E.over
 .simp[a,b,bS,ho];refine ak.intro j ?_;rintro _ k ⟨rfl,q,p,c,d⟩;have f:({E with T:=fl E.T 0,q:=q,ph:=p,con:=-1,calm:=false}:ES)={E with T:=fl E.T 0,q:=q,ph:=p,con:=-1,calm:=false,over:=false}:=by rw[←ho]
  rw[f]at c;simp;exact⟨q,p,c,d⟩
 .simp[a,b,bS,ho]
end
def Iv:Sch:=
 let c:Sch:=.fork [(15,.done)]
 let d:Sch:=.fork [(12,.take 13 (.take 14 c))]
 let a:Sch:=.fork [(9,.take 10 (.take 11 d))]
 let e:Sch:=.fork [(8,a)]
 let b:Sch:=.fork [(6,a)]
 let f:Sch:=.fork [(6,e),(8,b)]
 let g:Sch:=.fork [(5,b)]
 let h:Sch:=.fork [(5,f),(8,g)]
 .take 0 (.take 1 (.take 2 (.take 3 (.take 4 (.take 7 h)))))
def zd(x:Stp):List PV:=[af x.kind,af x.id,.bot,.bot]
@[simp] theorem ze(k:Nat)(l:List Stp):bQ k (l.map zd):=by
 induction l with
 |nil=>trivial
 |cons x l a=>exact⟨⟨trivial,trivial,trivial,trivial,trivial⟩,a⟩
theorem zf:∀l:List Stp,BI (l.map zd)
 |[]=>trivial
 |_::l=>⟨⟨trivial,trivial,trivial,trivial,trivial⟩,zf l⟩
theorem vd{g:Gh}:∀{l:List Stp}{vs:List Value},av g 4 (l.map dF) vs->av g 4 (l.map zd) vs
 |[],_,h=>h
 |_::_,_,⟨t,u,h1,i,⟨p,m,a,b,q,n,c,d,r,r3,e,_,s,o,f,_,j⟩,k⟩=>⟨t,u,h1,i,⟨p,m,a,b,q,n,c,d,r,r3,e,trivial,s,o,f,trivial,j⟩,vd k⟩
theorem zg(l:List Stp)(t:l.length<=1000000):am Tryz.prog 76 [.seq false 4 (l.map dF)] (λr=>r=.own true 4 (l.map zd)):=by
 have h1:am Tryz.prog 76 [.seq false 4 (l.map dF)] (λr=>r=.own true 4 (l.map dF)∨r=.pv (.lit (.slice none 0 0))∧l=[]):=by
  refine ao aD Tryz.func76 ?_;cases l with
  |nil=>simp
  |cons x l=>simp;simp at t;omega
 have f:am Tryz.prog 76 [.seq false 4 (l.map dF)] (λr=>r=.own true 4 (l.map dF)):=
  am.own0 h1 λr h=>h.imp id λ⟨e,d⟩=>⟨e,true,4,by rw[d];rfl⟩
 refine⟨f.1,λw vs u=>(f.2 w vs u).mono λe w' ⟨v,r,g',o,g,d,i,j,z,k⟩=>?_⟩;subst d;refine⟨v,.own true 4 (l.map zd),g',o,g,rfl,i,?_,rfl,k⟩;rcases j with⟨a,b,c⟩|⟨c,s,cap,arr,T,y,m,n,p,q,f5,f6⟩
 .exact .inl ⟨a,by rw[Un]at b⊢;exact b,c⟩
 .exact .inr ⟨c,s,cap,arr,T,y,by simpa using m,n,p,by simpa using q,vd f5,f6⟩
section
variable {h : List (List SV)} {be bt ba bw bh : Nat} {E : ES}
set_option maxRecDepth 16000 in
theorem ve(w:h[be]?=some (bS bt ba bw bh E))(x:E.pf.length<=1000000)(hs:∀s∈E.pf,s.lits.length<=1000000∧s.hints.length<=1000000):ay Tryz.prog 33 [.ptr be 0] h (λr h'=>h'=h∧r=.pv (.seq true 4 (E.pf.map qF))):=by
 refine ay.below (by kernel_rfl) λz=>?_;refine gh [7] [.tmp 2] aD Tryz.func33 ?_;obtain⟨a,c⟩:=P7.1 w;obtain⟨ss,b⟩:∃ss,E.pf=ss:=⟨_,rfl⟩;rw[b]at x hs⊢;have y:=zg ss x;obtain⟨Q,f⟩:∃Q:Nat->List (List PV),∀i,Q i=(ss.take i).map qF++(ss.drop i).map zd:=⟨_,λ_=>rfl⟩;have l:Q 0=ss.map zd:=by rw[f];rfl
 have n:Q ss.length=ss.map qF:=by rw[f];simp
 have p:∀i,i<=ss.length->(Q i).length=ss.length:=λi hi=>by rw[f];simp;omega
 simp;refine ak.intro (dE w) ?_;rintro _ h ⟨rfl,rfl⟩;simp[c,a,bS,b];refine ah.intro y ?_ (by simp[zf]);simp[c,a,bS,b];refine aH.intro (S:=λ(i:Nat)=>⟨[(0,.pv (.ptr be 0)),(3,.own true 4 (Q i)),(17,.al (.cell be 15)),(18,.pv (af ss.length)),(19,.pv (af i))],h⟩) (λi=>i<=ss.length) (λi=>ss.length -i) 0 ?_ (Qq _) ?_
 .exact ai.keep (by simp[l]) rfl
 intro i hi;have e:=p i hi
 by_cases d:i<ss.length
 .have A:=eq i;have j:ss[i]?=some ss[i]:=P8 d;have g:=hs _ (Qe d);have t:=ez ss[i].lits g.1;have u:=ez ss[i].hints g.2;have o:(Q i)[i]'(by omega)=[af ss[i].kind,af ss[i].id,.bot,.bot]:=by
   simp only[f];rw[SA (by simp;omega)];simp[zd,Rz hi]
  have q:(Q i).set i [af ss[i].kind,af ss[i].id,.seq true 1 (ab ss[i].lits),.seq true 1 (ab ss[i].hints)]=Q (i+1):=by
   rw[f,f,Sm _ _ (by simp;omega),Rf d,QT,QD];congr 1;rw[Ql,Qg,Rz hi,RM,QU d];rfl
  have m:∀k,bQ k (Q (i+1)):=λk=>by
   rw[f];exact(tx k _ _).2 ⟨yz k _,ze k _⟩
  simp[d,j,dF,e,c,a,bS,b];refine bd.one Iv (by kernel_rfl) ?_;simp[Iv,d,j,dF,e,c,a,bS,b];and_intros
  all_goals
   refine ah.intro t ?_;simp[d,j,dF,e,c,a,bS,b];refine ah.intro u ?_;simp[d,j,dF,e,c,a,bS,b];exact⟨i+1,by(try dsimp only);omega,by(try dsimp only);omega,ai.to (by simp[A,o,q,dF]) (by simp) (by simp) (by simp[m,a]) (by simp[z])⟩
 .have v:i=ss.length:=by omega
  subst v;simp[n]
end
theorem tH(a b:List Bool)(m:a.length<=140737488355328):am Tryz.prog 20 [.seq false 1 (ea a),.seq false 1 (ea b)] (λr=>r=.pv (BL (decide (a=b)))):=by
 refine ao aD Tryz.func20 ?_;simp;refine⟨λh=>λe=>h (by rw[e]),λh=>?_⟩;have f:a.length=b.length:=by omega
 refine aH.intro (S:=λ(i:Nat)=>⟨[(0,.pv (.seq false 1 (ea a))),(1,.pv (.seq false 1 (ea b))),(5,.pv (af i))],[]⟩) (λi=>i<=a.length∧∀j (h1:j<a.length)(d:j<b.length),j<i->a[j]=b[j]) (λi=>a.length -i) 0 ?_ ?_ ?_
 .exact ai.to (by simp) rfl (by simp) (by simp) (by simp)
 .exact⟨by omega,λj _ _ hj=>by omega⟩
 .intro i ⟨hi,ho⟩
  by_cases g:i<a.length
  .have l:=eq i;have k:i<b.length:=by omega
   simp[g,k];refine⟨λc=>λe=>c (by subst e;rfl),λc=>⟨i+1,by dsimp only;omega,⟨by omega,λj h1 d hj=>?_⟩,ai.to ?_ rfl (by simp) (by simp) (by simp)⟩⟩
   .by_cases e:j=i
    .subst e;exact c
    .exact ho j h1 d (by omega)
   .simp[l]
  .simp[g];exact SG f λj h1 d=>ho j h1 d (by omega)
def zh(v:Int)(cs:List (List Int))(a:List Int):Bool:=yE cs&&(decide (v<=10)&&(decide (0<=v)&&(decide (cs.length<=60)&&decide (a.length<=60))))
theorem Iw(v:Int)(cs:List (List Int))(a:List Int):am Tryz.prog 11 [.agg [af v,.seq false 1 (cs.map az)],.seq false 1 (ab a)] (λr=>r=.pv (BL (zh v cs a))):=by
 refine ao aD Tryz.func11 ?_;have c:=Ed v cs;unfold zh;simp;refine ah.intro c ?_;cases yE cs
 .simp
 by_cases c1:v<=10
 rotate_left
 .simp[c1]
 by_cases c2:0<=v
 rotate_left
 .simp[c1,c2]
 by_cases c3:(cs.length:Int)<=60
 rotate_left
 .have:¬cs.length<=60:=by omega
  simp[c1,c2,c3,this]
 have:cs.length<=60:=by omega
 by_cases c4:(a.length:Int)<=60
 .have b:a.length<=60:=by omega
  simp[c1,c2,c3,this,c4,b]
 .have b:¬a.length<=60:=by omega
  simp[c1,c2,c3,this,c4,b]
end Go.AX