/-
  Engines: a conflict is resolved (plain law).
  Contracts: engines: what was learnt is told, and none forgotten where there are few.
  Contracts: engines: one is made.
  Contracts: engines: none is made; it begins again; there is nothing to resolve.
  Contracts: engines: the steps so far.
-/
import Derived.Test.YtepodadinenmnaaGreatS14AxEgN
import Derived.Test.YtepodadinenmnaaGreatS14AxEgF
import Derived.Test.YtepodadinenmnaaGreatS14AxLuA
import Derived.Test.YtepodadinenmnaaGreatS14AxTtA
import Derived.Test.YtepodadinenmnaaGreatS14AxTmQ
import Derived.Test.YtepodadinenmnaaGreatAxTb
namespace Go.AX
open Go.Proofs
set_option linter.unusedSimpArgs false
def jg(E:ES):Tr:=if aE E=[]then E.T else dW E.T (ea E.T (aE E))
def lE(E:ES)(q:HS)(p:List Bool)(k:Int):ES:={E with
 pf:=E.pf++[⟨1,E.id+1,aE E,(iP E).map (lY E.A)⟩],many:=E.many+1,q:=q,inc:=k,ph:=p,con:=-1,calm:=false,id:=E.id+1,A:=cU E.A (E.id+1) (aE E) true
 over:=E.over||decide ((aE E).length=0),S:=nf (cU E.A (E.id+1) (aE E) true) (jg E) E.S E.A.row.length
 T:=if aE E=[]then E.T else jE (jg E) ((aE E).headD 0) E.A.row.length,gl:=pt E.gl E.A.row.length (GW E.T (aE E))}
section
variable {n r s : Nat} {F : List (List Int)} {l : List Rc} {E : ES}
theorem ArI.arok{A:Ar}(h:ArI A l):jI A:=λq c=>by
 obtain⟨x,hx,e⟩:=h.rel.is q c;obtain⟨p,a,b,_⟩:=h.rel.rows x hx;exact⟨p,_,by rw[←e,a],b⟩
theorem EI.arok(h:EI n F r s l E):jI E.A:=h.ari.arok
theorem EI.resd(h:EI n F (r+1) (s+(n+3)) l E)(U:0<=E.con)(q:HS)(m:HpTo n E.q q)(p:List Bool)(hp:p.length=n+1)(k:Int)(hk:0<=k∧k<=1000000000)(hin:∀z∈E.T.lits,z∉(jg E).lits->ab z∈q.row):
 iC (E.id+1) (aE E)=0∧EI n F r s (l++[⟨E.id+1,1,aE E⟩]) (lE E q p k):=by
 have R:=h.res U;have hs:s+(3+(aE E).length)<=s+(n+3):=by have:=R.len;omega
 have h0:=(h.upd q m.hp m.mem k hk (E.pf++[⟨1,E.id+1,aE E,(iP E).map (lY E.A)⟩]) (E.many+1) E.gl).mono (Oc _) hs;have X:=h.n9;have f:(aE E).length<=1000:=by have:=R.len;omega
 have b:jg E=if aE E=[]then E.T else dW E.T (ea E.T (aE E)):=rfl;rcases R.lev with⟨c,e⟩|⟨u,w,e,b0,b1,b2,b3,b4⟩
 .have h1:EI n F (r+1) (s+(3+(aE E).length)) l {E with q:=q,inc:=k,pf:=E.pf++[⟨1,E.id+1,aE E,(iP E).map (lY E.A)⟩],many:=E.many+1,con:=-1,calm:=false,ph:=p}:={h0.rest with ph:=hp};obtain⟨H,_,a3⟩:=h1.add (c:=aE E) true f R.nd R.chk R.ent (λk k0 kd=>by have kd:k<=(E.T.beg.length:Int):=kd;omega) rfl (show(-1:Int)<0 by decide) q m.hp (λ_ d=>d);refine⟨H,?_⟩;have:=a3.upd q m.hp (λ_ d=>d) k hk (E.pf++[⟨1,E.id+1,aE E,(iP E).map (lY E.A)⟩]) (E.many+1) (pt E.gl E.A.row.length (GW E.T (aE E)));unfold lE;rw[b,N9 e,N9 e];exact this
 .have C:aE E≠[]:=λG=>by rw[e]at G;cases G
  rw[N8 C]at b;obtain⟨j,hj⟩:∃j:Nat,ea E.T (aE E)=j:=⟨(ea E.T (aE E)).toNat,by omega⟩;have a:j<E.T.beg.length:=by omega
  have S:dW E.T (ea E.T (aE E))=cq E.T j:=by
   have O:(if(j:Int)<0 then(0:Int)else j)=j:=N8 (by omega);unfold dW;rw[hj,O,N9 (by omega)];rfl
  rw[S]at b;rw[b]at hin;have h1:=h0.back a q m.hp (λ_ d=>d) hin p hp;have N:∀y∈aE E,-y∈E.T.lits:=R.neg;have L:∀y∈w,dw E.T y<=j:=λy hy=>by have:=b3 y hy;omega
  have o:(dL (cq E.T j)).dep=j:=by show((cq E.T j).beg.length:Int)=j;rw[(h.tok.back a).2.2,Oe];omega
  have B := R.nd; rw [e, PC] at B; obtain ⟨H, _, a3⟩ := h1.add (c := aE E) true f R.nd R.chk R.ent (λ k k0 kd => by
   have kd:k<=(dL (cq E.T j)).dep:=kd;rw[o]at kd;rcases b4 with b4|⟨y,hy,b4⟩
   .omega
   have i:∀z,z∈bel (dL (cq E.T j)) k->z∈bel (dL E.T) k:=λz hz=>by
    rw[xa h.tok a]at hz;obtain⟨x,hx,rfl⟩:=Of.1 hz;obtain⟨J,K⟩:=OW.1 hx;exact Of.2 ⟨x,OW.2 ⟨OX J,K⟩,rfl⟩
   refine .inr ⟨u,y,by rw[e];simp,by rw[e];simp[hy],λG=>B.1 (G▸hy),λg=>?_,λg=>?_⟩
   .have:=nZ h.tok (i _ g);omega
   .have:=nZ h.tok (i _ g);omega) rfl (show(-1:Int)<0 by decide) q m.hp (λ_ d=>d)
  refine⟨H,?_⟩;have P:=a3.upd q m.hp (λ_ d=>d) k hk (E.pf++[⟨1,E.id+1,aE E,(iP E).map (lY E.A)⟩]) (E.many+1) (pt E.gl E.A.row.length (GW E.T (aE E)));have I:(⟨E.A.row.length,E.id+1,aE E⟩:Ro)∈bi 0 (l++[⟨E.id+1,eb true,aE E⟩]):=by
   rw[gj,O3,←h.ari.row];simp[bi,eb]
  have W:dw E.T u=E.T.beg.length:=b2;have v:-u∈E.T.lits:=N u (by rw[e];simp);have t:eV (cq E.T j) u=0:=by
   obtain⟨t1,Y,_⟩:=h.tok.back a;refine(t1.may u).2 ⟨R.chk u (by rw[e];simp),λg=>?_,λg=>?_⟩
   .rw[Y]at g;exact h.tok.one (OX g) v
   .have:=(A0 h.tok a v).1 g;omega
  have Q := P.imp I (u := u) (by rw [e]; simp) t (λ y hy D => by
   have hy:y∈aE E:=hy;have M:y∈w:=by rw[e]at hy;exact(OB.1 hy).resolve_left D
   exact(A0 h.tok a (N y hy)).2 (L y M)) rfl (show(-1:Int)<0 by decide)
  have V:(aE E).headD 0=u:=by rw[e];rfl
  unfold lE;rw[N8 C,b,V];exact Q
end
end Go.AX
namespace Go.AX
set_option maxRecDepth 16000
open Go.Proofs
set_option linter.unusedSimpArgs false
theorem tA{α:Type}{l:List α}{i:Nat}(h:i<l.length):l.take (i+1)=l.take i++[l[i]]:=PH h
theorem FN:∀(l:List Rc)(p:Nat)(x:Rc),(bi p (l++[x])).map (·.at')=(bi p l).map (·.at')++(if x.side=2 then[]else[((p+(aZ l).length:Nat):Int)]):=λl p x=>by
 rw[gj,OJ];congr 1;show((if x.side=2 then[]else[_]):List Ro).map _=_;split<;>rfl
theorem rH:∀(l:List Rc)(p:Nat),(bi p l).length<=l.length
 |[],_=>Oc _
 |x::l,p=>by
  have:=rH l (p+x.sz);rw[bi];split<;>simp<;>omega
theorem rI:∀(l:List Rc),l.length<=(aZ l).length
 |[]=>Oc _
 |x::l=>by
  have:=rI l;simp[aZ];omega
theorem HH(h:List (List SV))(b:Nat)(A:Ar)(C:h[b]?=some (lm A))(l:List Rc)(D:A.row=aZ l)(U:A.row.length<=1000000):aB Tryz.prog 192 [.ptr b 0] h (λr h'=>h'=h∧r=.pv (.seq true 1 (af (rA l)))):=by
 refine lj [] [.tmp 2] aG Tryz.func192 ?_;obtain⟨k,j⟩:=N5.1 C;simp;refine am.intro (qQ h b A C) ?_;rintro _ h ⟨rfl,rfl⟩;simp;refine aJ.intro (S:=λ(i:Nat)=>⟨[(0,.pv (.ptr b 0)),(3,.own true 1 (af (rA (l.take i)))),(4,.pv (ae (aZ (l.take i)).length))],h⟩) (λi=>i<=l.length) (λi=>l.length -i) 0 ?_ (Oz _) ?_
 .exact(ai.nilOwn (s:=3) 1 true (by simp)).trans (ai.keep (by simp[rA,bi,aZ,af]) rfl)
 intro i hi
 by_cases c:i<l.length
 .obtain⟨a,q⟩:∃a,l.take i=a:=⟨_,rfl⟩;obtain⟨x,hx⟩:∃x,l[i]=x:=⟨_,rfl⟩;have v:l=a++x::l.drop (i+1):=by rw[←q,←hx,←O0 c,O8]
  obtain⟨Q,w,y,R,T⟩:=uY a x (l.drop (i+1));rw[←v,←D]at Q w y R T;have z:l.take (i+1)=a++[x]:=by rw[tA c,q,hx]
  have B:(aZ (a++[x])).length=(aZ a).length+(3+x.lits.length):=by rw[jf];simp[aZ];omega
  have g:=FN a 0 x;have g:rA (a++[x])=rA a++(if x.side=2 then[]else[((aZ a).length:Int)]):=by rw[O3]at g;exact g
  generalize hp:(aZ a).length=p at*;have o:p<A.row.length:=by omega
  have e:p+1<A.row.length:=by omega
  have f:p+2<A.row.length:=by omega
  have t:A.row[p+1]=x.lits.length:=by rw[N7,N6 e]at w;exact w
  have g2:A.row[p+2]=x.side:=by rw[N7,N6 f]at y;exact y
  have J:=fQ p;have K:a8 ((p:Int)+2)=((p+2:Nat):Int):=by rw[ap (by omega) (by omega)];omega
  have L:a8 ((3:Int)+x.lits.length)=((3+x.lits.length:Nat):Int):=by rw[ap (by omega) (by omega)];omega
  have M:a8 ((p:Int)+(3+x.lits.length))=((p+(3+x.lits.length):Nat):Int):=by rw[ap (by omega) (by omega)];omega
  have t1:((p:Int)+1).toNat=p+1:=by omega
  have I:((p:Int)+2).toNat=p+2:=by omega
  have m:A.row[p+1]?=some (x.lits.length:Int):=by rw[N6 e,t]
  have n:A.row[p+2]?=some x.side:=by rw[N6 f,g2]
  have E:(p:Int)+1<A.row.length:=by omega
  have F:(p:Int)+2<A.row.length:=by omega
  have G:(0:Int)<=(p:Int)+1:=by omega
  have H:(0:Int)<=(p:Int)+2:=by omega
  have P:(rA a).length<=a.length:=by unfold rA;rw[Oj];exact rH a 0
  have N:a.length<=A.row.length:=by have:=rI a;omega
  by_cases d:x.side=2
  .rw[N9 d,Pt]at g;simp[q,hp,j,k,lm,o,t,g2,K,I,n,F,H,d,J,t1,m,E,G,e,f,L,M];exact⟨i+1,by(try dsimp only);omega,by(try dsimp only);omega,ai.keep (by simp[z,B,g]) rfl⟩
  .rw[N8 d]at g;simp[q,hp,j,k,lm,o,t,g2,K,I,n,F,H,d,J,t1,m,E,G,e,f,L,M];exact⟨by omega,i+1,by(try dsimp only);omega,by(try dsimp only);omega,ai.keep (by simp[z,B,g,af]) rfl⟩
 .have u:i=l.length:=by omega
  subst u;have O:¬(aZ l).length<A.row.length:=by rw[D];omega
  simp[j,k,lm,O,cw,cE]
section
variable {h : List (List SV)} {be bt ba bw bh : Nat} {mp : List (Int × Nat)} {mb : List (Int × By)} {E : ES}
theorem zg(L:LayE h be bt ba bw bh mp mb E){l:List Rc}(k:ArI E.A l)(v:E.A.row.length<=1000000)(C:E.T.ok):
 aB Tryz.prog 115 [.ptr be 0] h (λr h'=>h'=h∧∃j:List Gr,r=.pv (.seq true 4 (j.map Ie))∧j.length<=((rA l).filter (nV E.A)).length):=by
 refine cL [] [.tmp 2] aG Tryz.func115 ?_;obtain⟨g,f⟩:=N5.1 L.e;have G:=HH h ba E.A L.w.a l k.row v;have hz:=cJ L.w.t 2;have F:(rA l).length<=1000000:=by
  have h1:=rH l 0;have B:=rI l;rw[←k.row]at B;unfold rA;rw[Oj];omega
 simp[f,g,bV];refine am.intro G ?_;rintro _ h ⟨rfl,rfl⟩;simp;refine aJ.intro (S:=λ(x:Nat×List Gr)=>⟨[(0,.pv (.ptr be 0)),(3,.own true 4 (x.2.map Ie)),(11,.pv (.seq true 1 (af (rA l)))),(12,.pv (ae (rA l).length)),(13,.pv (ae x.1))],h⟩)
  (λx=>x.1<=(rA l).length∧x.2.length<=(((rA l).take x.1).filter (nV E.A)).length) (λx=>(rA l).length -x.1) (0,[]) ?_ ⟨Oz _,Oz _⟩ ?_
 .exact(ai.nilOwn (s:=3) 4 true (by simp)).trans (ai.keep (by simp) rfl)
 rintro⟨i,j⟩ ⟨hi,m⟩;dsimp only at hi m
 by_cases c:i<(rA l).length
 .have z:=fQ i;obtain⟨y,hy,e⟩:=Of.1 (Od c);have q:isA E.A (rA l)[i]=true:=(k.isA _).2 ⟨y,hy,e⟩;have o:=iG l 0 y hy;rw[←k.row]at o;have I:=yW h ba E.A L.w.a (rA l)[i] (λ_=>by rw[←e];omega) (by omega);have J:=tn h ba E.A L.w.a k.arok v (rA l)[i] q;have u:(aq E.A (rA l)[i]).length<=1000000:=by
   rw[←e,(k.at hy).1];omega
  have H:=BN E.T C (rA l)[i] (aq E.A (rA l)[i]) u;have b:(((rA l).take (i+1)).filter (nV E.A)).length=(((rA l).take i).filter (nV E.A)).length+if nV E.A (rA l)[i]=true then 1 else 0:=by
   rw[tA c,PD,Oi];congr 1;simp only[O5,SB];split<;>rfl
  have D:j.length<=i:=by have:=P6 (nV E.A) ((rA l).take i);rw[Oe]at this;omega
  generalize n:(rA l)[i]=at' at*;simp[c,f,g,bV,n];refine am.intro I ?_;rintro _ h ⟨rfl,rfl⟩;cases d:nV E.A at'
  .rw[d]at b;simp[d];exact⟨(i+1,j),by(try dsimp only);omega,⟨by(try dsimp only);omega,by simpa[b]using m⟩,ai.keep (by simp[z]) rfl⟩
  .rw[d]at b;simp[d,f,g,bV];refine am.intro J ?_;rintro _ h ⟨rfl,rfl⟩;simp[f,g,bV,hz];refine bA.intro H ?_;simp[f,g,bV,hz];refine⟨by omega,?_⟩;exact⟨(i+1,j++[⟨at',(lk E.gl at').getD 0,(aq E.A at').length,DU E.T at' (aq E.A at')⟩]),by(try dsimp only);omega,⟨by(try dsimp only);omega,by simp[b];omega⟩,ai.keep (by simp[z,Ie]) rfl⟩
 .have p:i=(rA l).length:=by omega
  subst p;rw[OT]at m;simp;exact⟨j,rfl,m⟩
theorem zh(l:List Gr)(keep:Int)(hk:(l.length:Int)<=keep):an Tryz.prog 114 [.seq false 4 (l.map Ie),ae keep] (λr=>r=.pv (.lit (.slice none 0 0))):=by
 refine ax aG Tryz.func114 ?_;simp[hk]
def Ir:Sch:=
 let a:Sch:=.fork [(6,.take 7 .done)]
 let b:Sch:=.fork [(5,a)]
 let c:Sch:=.fork [(1,a)]
 .take 0 (.take 2 (.take 3 (.take 4 (.fork [(1,b),(5,c)]))))
theorem xg(L:LayE h be bt ba bw bh mp mb E){l:List Rc}(f:ArI E.A l)(i:E.A.row.length<=1000000)(g:E.T.ok)(hk:(((rA l).filter (nV E.A)).length:Int)<=E.keep):
 aB Tryz.prog 53 [.ptr be 0] h (λr h'=>h'=h∧r=.pv (ae 0)):=by
 refine gm [3,7] [.tmp 2] aG Tryz.func53 ?_;obtain⟨b,a⟩:=N5.1 L.e;have j:=zg L f i g;simp;refine am.intro (fk L.e) ?_;rintro _ h ⟨rfl,rfl⟩;cases ho:E.over
 rotate_left
 .simp[a,b,bV,ho]
 by_cases c:0<=E.con
 .simp[a,b,bV,ho,c]
 simp[a,b,bV,ho,c];refine aX.meet Ir ⟨[(0,.pv (.ptr be 0)),(2,.pv (ae 0)),(3,.pv (.lit (.slice none 0 0)))],h⟩ (by kernel_rfl) ?_ ?_
 .simp[Ir,a,b,bV]
  repeat' first
   |trivial
   |refine And.intro ?_ ?_
   |(refine am.intro j ?_;rintro _ h ⟨rfl,d,rfl,m⟩;have k:=zh d E.keep (by omega);simp[a,b,bV])
   |(refine aj.intro k ?_;simp;exact ai.keep (by simp) rfl)
 .simp
end
end Go.AX
namespace Go.AX
open Go.Proofs
set_option linter.unusedSimpArgs false
theorem nj(q r:Pos->Bool)(t:List (Nat×SV))(s:Nat):look (t.map ((λp=>(p.1,cd q p.2))∘λp=>(p.1,cd r p.2))) s=cd q (cd r (look t s)):=by
 rw[←Pa,bN,bN]
theorem tB:∀L:List (List Int),DS (L.map nC) (L.map aK)
 |[]=>trivial
 |c::L=>⟨by simp[nC,aK,cE,cw],tB L⟩
theorem Sim.leF{g:Gh}{st st':St}{a:Act}{w:World}(h:Sim g st a w)(hp:∀p,aa st' p=aa st p∨∃x y,aa st p=.pv x∧aa st' p=.pv y∧∀g v,Fit g x v->Fit g y v)(hl:st'.h.length=st.h.length)(hb:∀b,(st'.h.getD b []).length=(st.h.getD b []).length):Sim g st' a w:=by
  obtain⟨bl,ho⟩:=h.own
  have hw:∀p,(aa st' p).isOwn=(aa st p).isOwn:=λp=>by
    rcases hp p with e|⟨x,y,e1,e2,_⟩
    · rw[e]
    · rw[e1,e2];rfl
  have hown:∀p nw e rows,aa st' p=.own nw e rows->aa st p=.own nw e rows:=λp nw e rows he=>by
    rcases hp p with e1|⟨x,y,_,e2,_⟩
    · rw[←e1];exact he
    · rw[e2]at he;cases he
  have hal:∀{sv:SV}{v:Value},bQ g st a w sv v->bQ g st' a w sv v:=by
    intro sv
    induction sv with
    |al p=>intro v hv ho';exact hv (by rw[←hw];exact ho')
    |loc p lo hi=>intro v hv nw e rows he;exact hv nw e rows (hown _ _ _ _ he)
    |sptr p i k=>intro v hv nw e rows he;exact hv nw e rows (hown _ _ _ _ he)
    |agl xs=>intro v hv k x p hk ho';exact hv k x p hk (by rw[←hw];exact ho')
    |opt c x ih=>intro v hv hc;exact ih (hv hc)
    |_=>intro v _;trivial
  have hf:∀p v o,aw g w (aa st p) v o->aw g w (aa st' p) v o:=λp v o hs=>by
    rcases hp p with e|⟨x,y,e1,e2,hf⟩
    · rw[e];exact hs
    · rw[e1]at hs;rw[e2];exact⟨hs.1,hf _ _ hs.2⟩
  refine { size := h.size, defs := h.defs, env := h.env, n := by rw [hl]; exact h.n, n0 := h.n0, B := h.B, I := h.I, F := h.F, μI := h.μI, μinj := h.μinj,
           own:=⟨bl,{slots:=λs=>hf (.slot s) _ _ (ho.slots s),blocks:=λb xs' hx=>?_,inj:=ho.inj,free:=ho.free}⟩,al:=λs=>?_}
  · have hlt:b<st.h.length:=by rw[←hl];exact(N5.1 hx).1
    have hlen:xs'.length=(st.h[b]).length:=by
      have:=hb b
      rw[N7,N7,hx,N6 hlt]at this
      simpa using this
    obtain⟨arr,T,e1,e2,e3⟩:=ho.blocks b _ (N6 hlt)
    refine⟨arr,T,e1,⟨by rw[hlen];exact e2.1,e2.2⟩,λk x hk=>?_⟩
    have hkl:k<(st.h[b]).length:=by rw[←hlen];exact(N5.1 hk).1
    have g1:aa st' (.cell b k)=x:=by simp only[aa,N7,hx,OH,hk]
    have g2:aa st (.cell b k)=(st.h[b])[k]:=by simp only[aa,N7,N6 hlt,OH,N6 hkl]
    obtain⟨c1,c2⟩:=e3 k _ (N6 hkl)
    have h4:=hf (.cell b k) (arr.getD k undef) (bl (.cell b k)) (by rw[g2];exact c2)
    rw[g1]at h4
    refine⟨?_,h4⟩
    rcases hp (.cell b k)with e|⟨u,v,_,e,_⟩
    · rw[←g1,e,g2];exact c1
    · rw[←g1,e];rfl
  · have h5:=h.al s
    rcases hp (.slot s)with e|⟨x,y,_,e,_⟩
    · simp only[aa]at e;rw[e];exact hal h5
    · simp only[aa]at e;rw[e];trivial
theorem ai.fitC{k0:Nat}{st:St}{b k:Nat}{xs:List SV}{x y:PV}(hx:st.h[b]?=some xs)(hk:xs[k]?=some (.pv x))(n:∀g v,Fit g x v->Fit g y v):ai k0 st ⟨st.t,st.h.set b (xs.set k (.pv y))⟩:=λg a w _ hs=>by
 obtain⟨m,r⟩:=N5.1 hx;obtain⟨d,o⟩:=N5.1 hk;have i:st.h.getD b []=xs:=by rw[N7,hx];rfl
 have l:∀c,(st.h.set b (xs.set k (.pv y))).getD c []=if c=b then xs.set k (.pv y)else st.h.getD c []:=λc=>by
  simp only[N7,OD]
  by_cases e:c=b
  .subst e;rw[N9 rfl,N9 m,N9 rfl];rfl
  .rw[N8 (λq=>e q.symm),N8 e]
 refine⟨g,hs.refl_to,hs.leF (λp=>?_) (by simp) (λc=>?_)⟩
 .cases p with
  |slot s=>exact .inl rfl
  |cell c j=>
   simp only[aa];rw[l]
   by_cases e:c=b
   .subst e;rw[N9 rfl,i]
    by_cases f:j=k
    .subst f;exact .inr ⟨x,y,by rw[N7,hk];rfl,by rw[N7,O4 d];rfl,n⟩
    .left;simp only[N7];rw[On (λq=>f q.symm)]
   .rw[N8 e];exact .inl rfl
 .rw[l];split
  .rename_i e;subst e;rw[i];simp
  .rfl
def mD(k:Int):Int:=if 100<(if 1000000<k then 1000000 else k)then(if 1000000<k then 1000000 else k)else 100
def pj(k:Int):Int:=if 0<(if 100<k then 100 else k)then(if 100<k then 100 else k)else 0
def fl(n:Nat)(cs:List (List Int))(kp a:Int):ES:=⟨kb n,⟨[],[]⟩,⟨[],[],[],0,[]⟩,ma n,n,cs,List.replicate (n+1) false,mD kp,pj a,64,0,-1,false,0,false,[],[]⟩
def FO(ba bt:Nat):List SV:=[.pv (.ptr ba 0),.pv (.ptr bt 0),.omap true [],.omap true [],.omap true [],.pv (ae 0),.pv (.lit (.slice none 0 0))]
def Gf(bt ba bw bh n:Nat)(cs:List (List Int))(kp a:Int):List SV:=[.pv (.ptr bt 0),.pv (ae n),.pv (.seq true 1 (cs.map nC)),.pv (.ptr ba 0),.pv (.ptr bw 0),.pv (.ptr bh 0),.own true 1 (List.replicate (n+1) [BL false]),.pv (ae (mD kp)),.pv (ae (pj a)),.pv (ae 64),.pv (ae 0),.pv (ae (-1)),.pv (BL false),.pv (ae 0),.pv (BL false),.pv (.lit (.slice none 0 0)),.omap true []]
def rX(h:List (List SV))(x y:List SV)(E:ES):List (List SV):=h++[x,y,fD E.T,ao E.q,lm E.A,ca (h.length+4) (h.length+2) ⟨[],[],[],0,[]⟩,bV (h.length+2) (h.length+4) (h.length+5) (h.length+3) E]
theorem FP(h:List (List SV))(x y:List SV)(E:ES)(f:E.S=⟨[],[],[],0,[]⟩):LayE (rX h x y E) (h.length+6) (h.length+2) (h.length+4) (h.length+5) (h.length+3) [] [] E where
 w:={
  w:=by rw[f];simp[rX]
  a:=by simp[rX]
  t:=by simp[rX]
  wa:=by omega
  wt:=by omega
  at':=by omega
  keys:=by rw[f];rfl
  pr:=λk b c=>by simp[lk]at c
  pinj:=λk k' b c=>by simp[lk]at c
  by':=λl e g=>by simp[lk]at g
  byn:=λl _=>by rw[f];simp[lk]
  binj:=λl l' e e' g=>by simp[lk]at g
  pb:=λk b l e c=>by simp[lk]at c}
 e:=by simp[rX]
 q:=by simp[rX]
 ne:=by omega
 eo:=⟨λd=>by rcases d with d|d|⟨k,d⟩|⟨l,e,d,_⟩<;>first|omega|simp[lk]at d,by omega⟩
 ho:=⟨λd=>by rcases d with d|d|⟨k,d⟩|⟨l,e,d,_⟩<;>first|omega|simp[lk]at d,by omega⟩
theorem FQ(h:List (List SV))(x y:List SV)(E:ES):Ext h (rX h x y E) (λ_=>False) (cZ (h.length+6) (h.length+2) (h.length+4) (h.length+5) (h.length+3) [] [])where
 len:=by simp[rX]
 same:=λb a _=>Oa a
 sub:=λb a d=>by
  rcases d with d|d|d|d|d|⟨k,d⟩|⟨l,e,d,_⟩<;>first|omega|simp[lk]at d
theorem HI{n:Nat}(hn:n<=400)(F cs:List (List Int))(kp a:Int){r s:Nat}(d:r<=1000000)(hs:s<=1000000):EI n F r s [] (fl n cs kp a)where
 n9:=hn
 tok:=TOk.new (by omega)
 wok:={nd:=by simp[fl],lits:=λk p h=>by simp[fl,lk]at h,lnd:=by simp[fl],lpr:=λk h=>by simp[fl]at h,two:=λk p h=>by simp[fl,lk]at h,bnd:=λl=>by simp[fl,bF,lk],mem:=λl k=>by simp[fl,bF,lk],few:=by simp[fl],h0:=by simp[fl],h1:=by simp[fl],sl:=by simp[fl],clr:=by simp[fl,mB]}
 prz:=by simp[fl];omega
 ari:=ArI.new
 rsz:=by simp[fl];omega
 idz:=by simp[fl];omega
 ids:=by simp
 cls:=λx hx=>by simp[bi]at hx
 att:=λk c=>by simp[CW,fl,lk,bi]
 ef:=by
  have:dL (fl n cs kp a).T=⟨n,[],0⟩:=by simp[dL,fl,kb]
  rw[this];exact EF.new _
 ent:=λx hx=>by simp[bi]at hx
 ovr:=by simp[fl,bi]
 hp:=Fl n
 inh:=λv h1 b _=>by
  simp only[fl,ma,Of,Pg];exact⟨(v -1).toNat,by omega,by omega⟩
 ph:=by simp[fl]
 cal:=λh=>by simp[fl]at h
 con:=λh=>by simp[fl]at h
 dcy:=by simp only[fl,pj];split<;>split<;>omega
 inc:=by simp[fl]
theorem Jm{l:List Rc}{x:Rc}(hs:x.side≠2):rC (l++[x])=rC l++[x.lits]:=by
 unfold rC;rw[gj];simp[bi,hs]
theorem HJ{c:List Int}{m:Int}(h:iM c m=0):c.length<=1000∧c.Nodup∧∀y∈c,au y m=0:=by
 unfold iM at h;split at h
 .omega
 .rename_i h0;split at h
  .omega
  .split at h
   .omega
   .split at h
    .rename_i h1 a b;refine⟨by omega,BW b,λy hy=>?_⟩;have:pz y m=true:=by
      have d:(c.all λx=>pz x m)=true:=by simpa using a
      exact OP.1 d y hy
     unfold au;rw[N8 h0,N9 this]
    .omega
theorem tC{v:Int}:∀{L:List (List Int)}{i:Nat},(jZ v L i).2=0->∀c∈L,iM c v=0
 |[],_,_,_,a=>by cases a
 |d::L,i,h,c,a=>by
  rw[jZ]at h
  by_cases h1:iM d v≠0
  .rw[N9 h1]at h;exact absurd h h1
  rw[N8 h1]at h;rcases OB.1 a with rfl|a
  .simpa using h1
  by_cases b:o7 d=true
  .rw[N9 b]at h;exact absurd h (by show¬((11:Int)=0);decide)
  .rw[N8 b]at h;exact tC h c a
theorem Jn{n:Nat}{cs:List (List Int)}(h:(ij n cs).2=0):∀c∈cs,c.length<=1000∧c.Nodup∧∀y∈c,au y n=0:=λc a=>by
 have h1:(jZ n cs 0).2=0:=by
  unfold ij at h;split at h
  .cases h
  .split at h
   .cases h
   .exact h
 exact HJ (tC h1 c a)
structure NewOk (n:Nat) (cs:List (List Int)) (kp:Int) (E:ES) (l:List Rc) (L:List (List Int)):Prop where
  T:E.T=kb n
  vars:E.vars=n
  cs:E.cs=cs
  keep:E.keep=mD kp
  pf:E.pf=[]
  many:E.many=0
  calm:E.calm=false
  con:E.con=-1
  rc:rC l=L
  side:∀x∈l,x.side=0
  num:l.map (λx=>(x.id,x.lits))=L.mapIdx λi c=>(((i+1:Nat):Int),c)
  id:E.id=L.length
def NK(n:Nat)(cs:List (List Int))(kp:Int)(r s:Nat)(h:List (List SV))(y:SV)(h':List (List SV)):Prop:=∃be bt ba bw bh mp E l,y=.pv (.tup [.ptr be 0,ae 0])∧LayE h' be bt ba bw bh mp [] E∧Ext h h' (λ_=>False) (cZ be bt ba bw bh mp [])∧EI n cs r s l E∧NewOk n cs kp E l cs
set_option maxRecDepth 16000 in
set_option maxHeartbeats 1000000 in
theorem HK(h:List (List SV))(n:Nat)(hn:n<=400)(cs:List (List Int))(rs kp f:Int)(hc:cs.length<=1000000)(M:∀c∈cs,c.length<=1000000)(hk:(ij n cs).2=0){r s:Nat}(hr:cs.length+r<=1000000)(hs:cs.length*1003+s<=1000000):
 aB Tryz.prog 21 [.agg [ae n,.seq false 1 (cs.map aK)],.agg [ae rs,ae kp,ae f]] h (NK n cs kp r s h):=by
 have ah:n<=900:=by omega
 refine cL [9] [.tmp 4,.tmp 5] aG Tryz.func21 ?_;have kC:=Az n cs M;rw[hk]at kC;have h9:¬(900:Int)<n:=by omega
 have kT:=λg=>GK g n (by omega);simp;refine aj.intro kC ?_;simp[h9];refine aj.introM (kT _) ?_;rintro _ _ ⟨rfl,rfl⟩;simp;have kH:=λg=>Hy g n;refine aj.introM (kH _) ?_;rintro _ _ u;rw[N9 (by omega)]at u;obtain⟨rfl,rfl⟩:=u;simp;refine aj.introM (GV _) ?_;rintro _ _ ⟨rfl,rfl⟩;simp;have kW:=Hl n cs hc M;generalize N:h++[[.pv (ae n),.pv (.seq false 1 (cs.map aK))],[.pv (ae rs),.pv (ae kp),.pv (ae f)],[.own true 4 ((kb n).marks.map oe),.pv (.lit (.slice none 0 0)),.pv (.lit (.slice none 0 0)),.pv (BL true)],ao (ma n),J4]=H;have z:H.length=h.length+5:=by rw[←N];simp
 have B:∀u,H[h.length]'u=[.pv (ae n),.pv (.seq false 1 (cs.map aK))]:=by subst N;intro u;simp
 have C:∀u,H[h.length+1]'u=[.pv (ae rs),.pv (ae kp),.pv (ae f)]:=by subst N;intro u;simp
 have D:∀g u,(H++g)[h.length]'u=[.pv (ae n),.pv (.seq false 1 (cs.map aK))]:=λg u=>by rw[OZ (by omega)];exact B _
 have F:∀g u,(H++g)[h.length+1]'u=[.pv (ae rs),.pv (ae kp),.pv (ae f)]:=λg u=>by rw[OZ (by omega)];exact C _
 have j:H[h.length]?=some [.pv (ae n),.pv (.seq false 1 (cs.map aK))]:=by rw[N6 (by omega),B]
 have o:H[h.length+1]?=some [.pv (ae rs),.pv (ae kp),.pv (ae f)]:=by rw[N6 (by omega),C]
 have p:∀g,(H++g)[h.length]?=some [.pv (ae n),.pv (.seq false 1 (cs.map aK))]:=λg=>by rw[Oa (by omega),j]
 have w:∀g,(H++g)[h.length+1]?=some [.pv (ae rs),.pv (ae kp),.pv (ae f)]:=λg=>by rw[Oa (by omega),o]
 have L:a8 ((n:Int)+1)=(n:Int)+1:=ap (by omega) (by omega);have I:((n:Int)+1).toNat=n+1:=by omega
 refine aX.tab [] ⟨[some (40,.pv (.ptr (h.length+2) 0)),some (41,.pv (.agg [ae n,.seq false 1 (cs.map aK)])),some (42,.pv (.agg [ae n,.seq true 1 (cs.map nC)])),some (43,.pv (.ptr (h.length+4) 0)),some (44,.pv (.ptr (h.length+4) 0)),some (45,.pv (.ptr (h.length+2) 0)),some (46,.pv (.ptr (h.length+5) 0)),some (47,.pv (.ptr (h.length+3) 0)),some (48,.pv (.ptr h.length 0)),some (49,.pv (ae n)),some (50,.pv (ae ((n:Int)+1))),some (51,.own true 1 (List.replicate (n+1) [BL false])),some (52,.pv (.ptr (h.length+1) 1)),some (53,.pv (ae kp)),some (54,.pv (ae (if 1000000<kp then 1000000 else kp))),some (55,.pv (ae (mD kp))),some (56,.pv (.ptr (h.length+1) 2)),some (57,.pv (ae f)),some (58,.pv (ae (if 100<f then 100 else f))),some (59,.pv (ae (pj f))),some (60,.omap true []),some (61,.agl [(.ptr (h.length+2) 0,none),(ae n,none),(.seq true 1 (cs.map nC),none),(.ptr (h.length+4) 0,none),(.ptr (h.length+5) 0,none),(.ptr (h.length+3) 0,none),(.bot,some (.slot 51)),(ae (mD kp),none),(ae (pj f),none),(ae 64,none),(ae 0,none),(ae (-1),none),(BL false,none),(ae 0,none),(BL false,none),(.lit (.slice none 0 0),none),(.bot,some (.slot 60))]),some (62,.pv (.ptr (h.length+6) 0)),some (13,.pv (.ptr (h.length+6) 0))],[(2,.pv (.ptr h.length 0)),(3,.pv (.ptr (h.length+1) 0)),(8,.pv (.ptr (h.length+2) 0)),(10,.pv (.ptr (h.length+3) 0)),(12,.pv (.ptr (h.length+4) 0))],[[],[],[1],[],[],[],[4,5],[],[],[8],[9],[10],[],[12],[13],[14],[],[16],[17],[18],[],[0,2,3,6,7,11,15,19,20],[11,20,21],[22]],[6,21,22],[[0,1],[0],[0],[0,1],[0],[0],[0],[0,1],[0,1,2,3],[0,1],[0,1],[0,1],[0,1,2,3],[0,1],[0,1],[0,1],[0,1,2,3],[0,1],[0,1],[0,1],[0,1],[1],[2],[3]],[(11,61),(20,61),(22,51),(22,60),(22,61)],λ|0=>H|1=>H++[FO (h.length+4) (h.length+2)]|2=>H++[FO (h.length+4) (h.length+2)]|_=>H++[FO (h.length+4) (h.length+2),Gf (h.length+2) (h.length+4) (h.length+5) (h.length+3) n cs kp f]⟩ ⟨[(2,.pv (.ptr h.length 0)),(13,.pv (.ptr (h.length+6) 0))],H++[FO (h.length+4) (h.length+2),Gf (h.length+2) (h.length+4) (h.length+5) (h.length+3) n cs kp f]⟩ (by kernel_rfl) (by simp[aY]) rfl ?_ (λt h1 G=>?_) ?_
 .simp only[Tb.steps,Gb,Tb.lvA,Tb.dpA,yv,sU,PR,Qg,cB,d5,mq,iN,eD,eq,Gv,gJ,jx,OV,P8,QB,RX,Q0,Sf,Sc,P7,Q2,OQ,Pk];and_intros
  all_goals first|trivial|(intro t h1 G;simp only[aY,OU,OL]at h1;simp[z,j,o,p,w,D,F,B,C,L,I,mD,pj,FO,Gf,nj,h1,G,Tb.postL,Tb.wth,uy,sU,aY,bN]<;>and_intros<;>first|omega|(intro e;simp[z,j,o,p,w,D,F,B,C,L,I,mD,pj,FO,Gf,nj,e]))|(intro t h1 G;simp only[aY,OU,OL]at h1;simp[z,j,o,p,w,D,F,B,C,L,I,mD,pj,FO,Gf,nj,h1,G,Tb.postL,Tb.wth,uy,sU,aY,bN])
  .refine aj.intro kW ?_;simp[z,j,o,p,w,D,F,h1,G,Tb.postL,Tb.wth,uy,sU,aY,bN]<;>and_intros<;>first|omega|(intro e;simp[e])
  .refine am.intro (Hp _ (h.length+4) (h.length+2)) ?_;rintro _ _ ⟨rfl,rfl⟩;simp[z,j,o,p,w,D,F,h1,G,FO,Tb.postL,Tb.wth,uy,sU,aY,bN]<;>and_intros<;>first|omega|(intro e;simp[e])
 .simp only[aY,OU,OL]at h1 G;simp[Gc]at G;exact ai.keep (by simp[h1,G]) rfl
 simp[p];clear B C D F j o p w z kC kT kH kW L I h9;have V:=Jn hk;obtain⟨bx,R⟩:∃x:List SV,[.pv (ae n),.pv (.seq false 1 (cs.map aK))]=x:=⟨_,rfl⟩;obtain⟨by',U⟩:∃x:List SV,[.pv (ae rs),.pv (ae kp),.pv (ae f)]=x:=⟨_,rfl⟩;refine aJ.intro (S:=λ(x:Nat×List (List SV)×List (Int×Nat)×ES×List Rc)=>⟨[(13,.pv (.ptr (h.length+6) 0)),(64,.pv (.seq false 1 (cs.map aK))),(65,.pv (ae cs.length)),(66,.pv (ae x.1))],x.2.1⟩)
  (λx=>x.1<=cs.length∧LayE x.2.1 (h.length+6) (h.length+2) (h.length+4) (h.length+5) (h.length+3) x.2.2.1 [] x.2.2.2.1∧Ext h x.2.1 (λ_=>False) (cZ (h.length+6) (h.length+2) (h.length+4) (h.length+5) (h.length+3) x.2.2.1 [])∧EI n cs (r+(cs.length -x.1)) (s+(cs.length -x.1)*1003) x.2.2.2.2 x.2.2.2.1∧NewOk n cs kp x.2.2.2.1 x.2.2.2.2 (cs.take x.1)) (λx=>cs.length -x.1)
  (0,rX h bx by' (fl n cs kp f),[],fl n cs kp f,[]) ?_ ⟨Oz _,FP _ _ _ _ rfl,FQ _ _ _ _,HI hn _ _ _ _ (by omega) (by omega),⟨rfl,rfl,rfl,rfl,rfl,rfl,rfl,rfl,rfl,by simp,rfl,rfl⟩⟩ ?_
 .subst N;refine(ai.keep (t1:=[(13,.pv (.ptr (h.length+6) 0)),(64,.pv (.seq false 1 (cs.map aK))),(65,.pv (ae cs.length)),(66,.pv (ae 0))]) (by simp) rfl).trans ?_;simp only[OG,OU,OL];refine(ai.nilCell (b:=h.length+2) (k:=1) (xs:=[.own true 4 ((kb n).marks.map oe),.pv (.lit (.slice none 0 0)),.pv (.lit (.slice none 0 0)),.pv (BL true)]) 1 true (by simp) (by simp)).trans ?_;refine(ai.nilCell (b:=h.length+2) (k:=2) (xs:=[.own true 4 ((kb n).marks.map oe),.own true 1 [],.pv (.lit (.slice none 0 0)),.pv (BL true)]) 1 true (by simp) (by simp)).trans ?_;refine(ai.nilCell (b:=h.length+4) (k:=0) (xs:=J4) 1 true (by simp) (by simp[J4])).trans ?_;refine(ai.nilCell (b:=h.length+5) (k:=6) (xs:=FO (h.length+4) (h.length+2)) 1 true (by simp) (by simp[FO])).trans ?_;refine(ai.nilCell (b:=h.length+6) (k:=15) (xs:=Gf (h.length+2) (h.length+4) (h.length+5) (h.length+3) n cs kp f) 4 true (by simp) (by simp[Gf])).trans ?_;refine(ai.fitC (b:=h.length+6) (k:=2) (xs:=(Gf (h.length+2) (h.length+4) (h.length+5) (h.length+3) n cs kp f).set 15 (.own true 4 [])) (x:=.seq true 1 (cs.map nC)) (y:=.seq false 1 (cs.map aK)) (by simp) (by simp[Gf]) λg v hv=>I1 (x:=.seq true 1 (cs.map nC)) ⟨λe=>(by cases e),rfl,tB cs⟩ hv).trans ?_;refine ai.le (by simp) ?_;simp[rX,J4,FO,Gf];refine qP h ?_;simp[R,U,bV,lm,fD,ca,fl,af,cz,kb,aS,oF]
 rintro⟨i,X,mp,E,l⟩ ⟨hi,O,P,J,a⟩;dsimp only at hi O P J a
 by_cases d:i<cs.length
 .obtain⟨h1,G,h3⟩:=V _ (Od d);have hT:=J.tok;have Y:r+(cs.length -i)=(r+(cs.length -(i+1)))+1:=by omega
  have Z:s+(cs.length -(i+1))*1003+(3+cs[i].length)<=s+(cs.length -i)*1003:=by omega
  have Q:=J.mono (Nat.le_of_eq Y.symm) Z;have hE:∀q,HpTo n E.q q->iC (E.id+1) cs[i]=0∧nS (cU E.A (E.id+1) cs[i] false) E.T E.S E.A.row.length=0∧EI n cs (r+(cs.length -(i+1))) (s+(cs.length -(i+1))*1003) (l++[⟨E.id+1,eb false,cs[i]⟩]) (zf E cs[i] false q):=λq hq=>
   Q.add false h1 G h3 (λm hm=>hm _ (Od d)) (λk k1 k2=>by rw[a.T]at k2;simp[dL,kb]at k2;omega) a.calm (by rw[a.con];omega) q hq.hp hq.mem
  obtain⟨e1,_,e3⟩:=hE E.q (.refl J.hp);have ad:=J.idz;have ag:=J.rsz;have K:=e3.rsz;have kA:=A3 O hT J.hp (by omega) cs[i] false e1 e3.arok (by simp only[zf]at K;omega) (by omega) (by omega);have L:=fQ i;have W:aK cs[i]=[.seq false 1 (af cs[i])]:=rfl;simp[d,W];refine am.intro kA ?_;rintro _ X2 ⟨rfl,ab,q,L2,Y2,G2⟩;simp;refine⟨(i+1,X2,ab,zf E cs[i] false q,l++[⟨E.id+1,eb false,cs[i]⟩]),by(try dsimp only);omega,⟨by(try dsimp only);omega,L2,P.trans Y2,(hE q G2).2.2,⟨a.T,a.vars,a.cs,a.keep,a.pf,a.many,a.calm,a.con,?_,?_,?_,?_⟩⟩,ai.keep (by simp[L]) rfl⟩
  .rw[Jm (by simp[eb]),a.rc,Pj];simp[d]
  .intro x hx;rcases Om.1 hx with hx|hx
   .exact a.side x hx
   .simp at hx;subst hx;rfl
  .have qj:=a.id;rw[Oe,Ps hi]at qj;rw[OJ,a.num,PH d,List.mapIdx_append,Oe,Ps hi];simp[qj]
  .have qj:=a.id;rw[Oe,Ps hi]at qj;show E.id+1=_;rw[qj,Oe,Ps (by omega)];omega
 .have aa:i=cs.length:=by omega
  subst aa;simp;exact⟨_,_,_,_,_,mp,E,l,rfl,O,P,J.mono (by omega) (by omega),by rw[OT]at a;exact a⟩
theorem FR(h:List (List SV))(v:Int)(cs:List (List Int))(rs kp b:Int)(a:∀c∈cs,c.length<=1000000)(hk:(ij v cs).2≠0∨900<v):
 aB Tryz.prog 21 [.agg [ae v,.seq false 1 (cs.map aK)],.agg [ae rs,ae kp,ae b]] h (λy h'=>y=.pv (.tup [.lit (.pointer none),ae (if(ij v cs).2≠0 then(ij v cs).2 else 3)])∧Ext h h' (λ_=>False) (λ_=>False)):=by
 refine cL [9] [.tmp 4,.tmp 5] aG Tryz.func21 ?_;have f:=Az v cs a;have hx:=λg=>Ext.app h g (λ_=>False);simp;refine aj.intro f ?_
 by_cases c:(ij v cs).2=0
 .have d:900<v:=hk.resolve_left (λe=>e c);simp[c,d,hx]
 .simp[c,hx]
section
variable {h : List (List SV)} {be bt ba bw bh : Nat} {mp : List (Int × Nat)} {mb : List (Int × By)} {E : ES}
theorem xh(L:LayE h be bt ba bw bh mp mb E){n:Nat}(i:TOk n E.T)(g:HpG n 1000000000000 E.q)(hp:E.ph.length=n+1):
 aB Tryz.prog 24 [.ptr be 0] h (λr h'=>r=.pv (.tup [])∧((E.over=true∧h'=h)∨(E.over=false∧∃q p,LayE h' be bt ba bw bh mp mb {E with T:=dW E.T 0,q:=q,ph:=p,con:=-1,calm:=false}∧Ext h h' (cZ be bt ba bw bh mp mb) (cZ be bt ba bw bh mp mb)∧HpTo n E.q q∧p.length=n+1∧∀z∈E.T.lits,z∉(dW E.T 0).lits->ab z∈q.row))):=by
 refine cL [] [] aG Tryz.func24 ?_;have j:=xf L i g hp 0;obtain⟨b,a⟩:=N5.1 L.e;simp;refine am.intro (fk L.e) ?_;rintro _ _ ⟨rfl,rfl⟩;cases ho:E.over
 .simp[a,b,bV,ho];refine am.intro j ?_;rintro _ k ⟨rfl,q,p,c,d⟩;have f:({E with T:=dW E.T 0,q:=q,ph:=p,con:=-1,calm:=false}:ES)={E with T:=dW E.T 0,q:=q,ph:=p,con:=-1,calm:=false,over:=false}:=by rw[←ho]
  rw[f]at c;simp;exact⟨q,p,c,d⟩
 .simp[a,b,bV,ho]
end
def FT:Sch:=
 let c:Sch:=.fork [(15,.done)]
 let d:Sch:=.fork [(12,.take 13 (.take 14 c))]
 let a:Sch:=.fork [(9,.take 10 (.take 11 d))]
 let e:Sch:=.fork [(8,a)]
 let b:Sch:=.fork [(6,a)]
 let f:Sch:=.fork [(6,e),(8,b)]
 let g:Sch:=.fork [(5,b)]
 let h:Sch:=.fork [(5,f),(8,g)]
 .take 0 (.take 1 (.take 2 (.take 3 (.take 4 (.take 7 h)))))
def xi(x:Stp):List PV:=[ae x.kind,ae x.id,.bot,.bot]
@[simp] theorem xj(k:Nat)(l:List Stp):bS k (l.map xi):=by
 induction l with
 |nil=>trivial
 |cons x l a=>exact⟨⟨trivial,trivial,trivial,trivial,trivial⟩,a⟩
theorem xk:∀l:List Stp,zK (l.map xi)
 |[]=>trivial
 |_::l=>⟨⟨trivial,trivial,trivial,trivial,trivial⟩,xk l⟩
theorem tD{g:Gh}:∀{l:List Stp}{vs:List Value},av g 4 (l.map l9) vs->av g 4 (l.map xi) vs
 |[],_,h=>h
 |_::_,_,⟨t,u,h1,i,⟨p,m,a,b,q,n,c,d,r,r3,e,_,s,o,f,_,j⟩,k⟩=>⟨t,u,h1,i,⟨p,m,a,b,q,n,c,d,r,r3,e,trivial,s,o,f,trivial,j⟩,tD k⟩
theorem xl(l:List Stp)(t:l.length<=1000000):an Tryz.prog 76 [.seq false 4 (l.map l9)] (λr=>r=.own true 4 (l.map xi)):=by
 have h1:an Tryz.prog 76 [.seq false 4 (l.map l9)] (λr=>r=.own true 4 (l.map l9)∨r=.pv (.lit (.slice none 0 0))∧l=[]):=by
  refine ax aG Tryz.func76 ?_;cases l with
  |nil=>simp
  |cons x l=>simp;simp at t;omega
 have f:an Tryz.prog 76 [.seq false 4 (l.map l9)] (λr=>r=.own true 4 (l.map l9)):=
  an.own0 h1 λr h=>h.imp id λ⟨e,d⟩=>⟨e,true,4,by rw[d];rfl⟩
 refine⟨f.1,λw vs u=>(f.2 w vs u).mono λe w' ⟨v,r,g',o,g,d,i,j,z,k⟩=>?_⟩;subst d;refine⟨v,.own true 4 (l.map xi),g',o,g,rfl,i,?_,rfl,k⟩;rcases j with⟨a,b,c⟩|⟨c,s,cap,arr,T,y,m,n,p,q,f5,f6⟩
 .exact .inl ⟨a,by rw[SP]at b⊢;exact b,c⟩
 .exact .inr ⟨c,s,cap,arr,T,y,by simpa using m,n,p,by simpa using q,tD f5,f6⟩
section
variable {h : List (List SV)} {be bt ba bw bh : Nat} {E : ES}
set_option maxRecDepth 16000 in
theorem Co(w:h[be]?=some (bV bt ba bw bh E))(x:E.pf.length<=1000000)(hs:∀s∈E.pf,s.lits.length<=1000000∧s.hints.length<=1000000):aB Tryz.prog 33 [.ptr be 0] h (λr h'=>h'=h∧r=.pv (.seq true 4 (E.pf.map B7))):=by
 refine aB.below (by kernel_rfl) λz=>?_;refine gm [7] [.tmp 2] aG Tryz.func33 ?_;obtain⟨a,c⟩:=N5.1 w;obtain⟨ss,b⟩:∃ss,E.pf=ss:=⟨_,rfl⟩;rw[b]at x hs⊢;have y:=xl ss x;obtain⟨Q,f⟩:∃Q:Nat->List (List PV),∀i,Q i=(ss.take i).map B7++(ss.drop i).map xi:=⟨_,λ_=>rfl⟩;have l:Q 0=ss.map xi:=by rw[f];rfl
 have n:Q ss.length=ss.map B7:=by rw[f];simp
 have p:∀i,i<=ss.length->(Q i).length=ss.length:=λi hi=>by rw[f];simp;omega
 simp;refine am.intro (fk w) ?_;rintro _ h ⟨rfl,rfl⟩;simp[c,a,bV,b];refine aj.intro y ?_ (by simp[xk]);simp[c,a,bV,b];refine aJ.intro (S:=λ(i:Nat)=>⟨[(0,.pv (.ptr be 0)),(3,.own true 4 (Q i)),(17,.al (.cell be 15)),(18,.pv (ae ss.length)),(19,.pv (ae i))],h⟩) (λi=>i<=ss.length) (λi=>ss.length -i) 0 ?_ (Oz _) ?_
 .exact ai.keep (by simp[l]) rfl
 intro i hi;have e:=p i hi
 by_cases d:i<ss.length
 .have A:=fQ i;have j:ss[i]?=some ss[i]:=N6 d;have g:=hs _ (Od d);have t:=gP ss[i].lits g.1;have u:=gP ss[i].hints g.2;have o:(Q i)[i]'(by omega)=[ae ss[i].kind,ae ss[i].id,.bot,.bot]:=by
   simp only[f];rw[Sg (by simp;omega)];simp[xi,Ps hi]
  have q:(Q i).set i [ae ss[i].kind,ae ss[i].id,.seq true 1 (af ss[i].lits),.seq true 1 (af ss[i].hints)]=Q (i+1):=by
   rw[f,f,QL _ _ (by simp;omega),PH d,OJ,OG];congr 1;rw[Oj,Oe,Ps hi,P5,O0 d];rfl
  have m:∀k,bS k (Q (i+1)):=λk=>by
   rw[f];exact(rR k _ _).2 ⟨wE k _,xj k _⟩
  simp[d,j,l9,e,c,a,bV,b];refine aX.one FT (by kernel_rfl) ?_;simp[FT,d,j,l9,e,c,a,bV,b];and_intros
  all_goals
   refine aj.intro t ?_;simp[d,j,l9,e,c,a,bV,b];refine aj.intro u ?_;simp[d,j,l9,e,c,a,bV,b];exact⟨i+1,by(try dsimp only);omega,by(try dsimp only);omega,ai.to (by simp[A,o,q,l9]) (by simp) (by simp) (by simp[m,a]) (by simp[z])⟩
 .have v:i=ss.length:=by omega
  subst v;simp[n]
end
end Go.AX