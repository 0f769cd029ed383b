/-
  Engines: a conflict is resolved (plain law).
  Contracts: engines: what was learnt is told, and none forgotten where there are few.
  Contracts: engines: one is made.
  Contracts: engines: none is made; it begins again; there is nothing to resolve.
  Contracts: engines: the steps so far.
  Contracts of the law: few, call, Models.
-/
import Derived.Test.YtepodadinenmnaaGreatS14AxEgN
import Derived.Test.YtepodadinenmnaaGreatS14AxEgF
import Derived.Test.YtepodadinenmnaaGreatS14AxRnX
import Derived.Test.YtepodadinenmnaaGreatS14AxTtA
import Derived.Test.YtepodadinenmnaaGreatS14AxTmQ
import Derived.Test.YtepodadinenmnaaGreatAxTb
import Derived.Test.YtepodadinenmnaaGreatS14AxWaD
import Derived.Test.YtepodadinenmnaaGreatS14AxMovR
namespace Go.AX
open Go.Proofs
set_option linter.unusedSimpArgs false
def je(E:ES):Tr:=if az E=[]then E.T else er E.T (dB E.T (az E))
def nr(E:ES)(q:HS)(p:List Bool)(k:Int):ES:={E with
 pf:=E.pf++[⟨1,E.id+1,az E,(ff E).map (i7 E.A)⟩],many:=E.many+1,q:=q,inc:=k,ph:=p,con:=-1,calm:=false,id:=E.id+1,A:=dx E.A (E.id+1) (az E) true
 over:=E.over||decide ((az E).length=0),S:=oE (dx E.A (E.id+1) (az E) true) (je E) E.S E.A.row.length
 T:=if az E=[]then E.T else jb (je E) ((az E).headD 0) E.A.row.length,gl:=pt E.gl E.A.row.length (KY E.T (az E))}
section
variable {n r s : Nat} {F : List (List Int)} {l : List Rc} {E : ES}
theorem ArI.arok{A:Ar}(h:ArI A l):lw A:=λq c=>by
 obtain⟨x,hx,e⟩:=h.rel.is q c;obtain⟨p,a,b,_⟩:=h.rel.rows x hx;exact⟨p,_,by rw[←e,a],b⟩
theorem EI.arok(h:EI n F r s l E):lw E.A:=h.ari.arok
theorem EI.resd(h:EI n F (r+1) (s+(n+3)) l E)(U:0<=E.con)(q:HS)(m:HpTo n E.q q)(p:List Bool)(hp:p.length=n+1)(k:Int)(hk:0<=k∧k<=1000000000)(hin:∀z∈E.T.lits,z∉(je E).lits->ah z∈q.row):
 jw (E.id+1) (az E)=0∧EI n F r s (l++[⟨E.id+1,1,az E⟩]) (nr E q p k):=by
 have R:=h.res U;have hs:s+(3+(az E).length)<=s+(n+3):=by have:=R.len;omega
 have h0:=(h.upd q m.hp m.mem k hk (E.pf++[⟨1,E.id+1,az E,(ff E).map (i7 E.A)⟩]) (E.many+1) E.gl).mono (RJ _) hs;have X:=h.n9;have f:(az E).length<=1000:=by have:=R.len;omega
 have b:je E=if az E=[]then E.T else er E.T (dB E.T (az E)):=rfl;rcases R.lev with⟨c,e⟩|⟨u,w,e,b0,b1,b2,b3,b4⟩
 .have h1:EI n F (r+1) (s+(3+(az E).length)) l {E with q:=q,inc:=k,pf:=E.pf++[⟨1,E.id+1,az E,(ff E).map (i7 E.A)⟩],many:=E.many+1,con:=-1,calm:=false,ph:=p}:={h0.rest with ph:=hp};obtain⟨H,_,a3⟩:=h1.add (c:=az E) true f R.nd R.chk R.ent (λk k0 kd=>by have kd:k<=(E.T.beg.length:Int):=kd;omega) rfl (show(-1:Int)<0 by decide) q m.hp (λ_ d=>d);refine⟨H,?_⟩;have:=a3.upd q m.hp (λ_ d=>d) k hk (E.pf++[⟨1,E.id+1,az E,(ff E).map (i7 E.A)⟩]) (E.many+1) (pt E.gl E.A.row.length (KY E.T (az E)));unfold nr;rw[b,RI e,RI e];exact this
 .have C:az E≠[]:=λG=>by rw[e]at G;cases G
  rw[RH C]at b;obtain⟨j,hj⟩:∃j:Nat,dB E.T (az E)=j:=⟨(dB E.T (az E)).toNat,by omega⟩;have a:j<E.T.beg.length:=by omega
  have S:er E.T (dB E.T (az E))=bz E.T j:=by
   have O:(if(j:Int)<0 then(0:Int)else j)=j:=RH (by omega);unfold er;rw[hj,O,RI (by omega)];rfl
  rw[S]at b;rw[b]at hin;have h1:=h0.back a q m.hp (λ_ d=>d) hin p hp;have N:∀y∈az E,-y∈E.T.lits:=R.neg;have L:∀y∈w,dO E.T y<=j:=λy hy=>by have:=b3 y hy;omega
  have o:(fV (bz E.T j)).dep=j:=by show((bz E.T j).beg.length:Int)=j;rw[(h.tok.back a).2.2,RN];omega
  have B := R.nd; rw [e, Tg] at B; obtain ⟨H, _, a3⟩ := h1.add (c := az E) true f R.nd R.chk R.ent (λ k k0 kd => by
   have kd:k<=(fV (bz E.T j)).dep:=kd;rw[o]at kd;rcases b4 with b4|⟨y,hy,b4⟩
   .omega
   have i:∀z,z∈bel (fV (bz E.T j)) k->z∈bel (fV E.T) k:=λz hz=>by
    rw[Af h.tok a]at hz;obtain⟨x,hx,rfl⟩:=RO.1 hz;obtain⟨J,K⟩:=SD.1 hx;exact RO.2 ⟨x,SD.2 ⟨Sx J,K⟩,rfl⟩
   refine .inr ⟨u,y,by rw[e];simp,by rw[e];simp[hy],λG=>B.1 (G▸hy),λg=>?_,λg=>?_⟩
   .have:=Ec h.tok (i _ g);omega
   .have:=Ec h.tok (i _ g);omega) rfl (show(-1:Int)<0 by decide) q m.hp (λ_ d=>d)
  refine⟨H,?_⟩;have P:=a3.upd q m.hp (λ_ d=>d) k hk (E.pf++[⟨1,E.id+1,az E,(ff E).map (i7 E.A)⟩]) (E.many+1) (pt E.gl E.A.row.length (KY E.T (az E)));have I:(⟨E.A.row.length,E.id+1,az E⟩:Ro)∈bn 0 (l++[⟨E.id+1,fo true,az E⟩]):=by
   rw[kh,SF,←h.ari.row];simp[bn,fo]
  have W:dO E.T u=E.T.beg.length:=b2;have v:-u∈E.T.lits:=N u (by rw[e];simp);have t:fE (bz E.T j) u=0:=by
   obtain⟨t1,Y,_⟩:=h.tok.back a;refine(t1.may u).2 ⟨R.chk u (by rw[e];simp),λg=>?_,λg=>?_⟩
   .rw[Y]at g;exact h.tok.one (Sx g) v
   .have:=(rT h.tok a v).1 g;omega
  have Q := P.imp I (u := u) (by rw [e]; simp) t (λ y hy D => by
   have hy:y∈az E:=hy;have M:y∈w:=by rw[e]at hy;exact(R9.1 hy).resolve_left D
   exact(rT h.tok a (N y hy)).2 (L y M)) rfl (show(-1:Int)<0 by decide)
  have V:(az E).headD 0=u:=by rw[e];rfl
  unfold nr;rw[RH C,b,V];exact Q
end
end Go.AX
namespace Go.AX
set_option maxRecDepth 16000
open Go.Proofs
set_option linter.unusedSimpArgs false
theorem vY{α:Type}{l:List α}{i:Nat}(h:i<l.length):l.take (i+1)=l.take i++[l[i]]:=SN h
theorem JM:∀(l:List Rc)(p:Nat)(x:Rc),(bn p (l++[x])).map (·.at')=(bn p l).map (·.at')++(if x.side=2 then[]else[((p+(bv l).length:Nat):Int)]):=λl p x=>by
 rw[kh,Sb];congr 1;show((if x.side=2 then[]else[_]):List Ro).map _=_;split<;>rfl
theorem t7:∀(l:List Rc)(p:Nat),(bn p l).length<=l.length
 |[],_=>RJ _
 |x::l,p=>by
  have:=t7 l (p+x.sz);rw[bn];split<;>simp<;>omega
theorem t8:∀(l:List Rc),l.length<=(bv l).length
 |[]=>RJ _
 |x::l=>by
  have:=t8 l;simp[bv];omega
theorem LE(h:List (List SV))(b:Nat)(A:Ar)(C:h[b]?=some (mD A))(l:List Rc)(D:A.row=bv l)(U:A.row.length<=1000000):aB Tryz.prog 192 [.ptr b 0] h (λr h'=>h'=h∧r=.pv (.seq true 1 (aa (rA l)))):=by
 refine dV [] [.tmp 2] aE Tryz.func192 ?_;obtain⟨k,j⟩:=RE.1 C;simp;refine aj.intro (sW h b A C) ?_;rintro _ h ⟨rfl,rfl⟩;simp;refine av.intro (S:=λ(i:Nat)=>⟨[(0,.pv (.ptr b 0)),(3,.own true 1 (aa (rA (l.take i)))),(4,.pv (ae (bv (l.take i)).length))],h⟩) (λi=>i<=l.length) (λi=>l.length -i) 0 ?_ (RW _) ?_
 .exact(af.nilOwn (s:=3) 1 true (by simp)).trans (af.keep (by simp[rA,bn,bv,aa]) rfl)
 intro i hi
 by_cases c:i<l.length
 .obtain⟨a,q⟩:∃a,l.take i=a:=⟨_,rfl⟩;obtain⟨x,hx⟩:∃x,l[i]=x:=⟨_,rfl⟩;have v:l=a++x::l.drop (i+1):=by rw[←q,←hx,←Sk c,SI]
  obtain⟨Q,w,y,R,T⟩:=xL a x (l.drop (i+1));rw[←v,←D]at Q w y R T;have z:l.take (i+1)=a++[x]:=by rw[vY c,q,hx]
  have B:(bv (a++[x])).length=(bv a).length+(3+x.lits.length):=by rw[kg];simp[bv];omega
  have g:=JM a 0 x;have g:rA (a++[x])=rA a++(if x.side=2 then[]else[((bv a).length:Int)]):=by rw[SF]at g;exact g
  generalize hp:(bv a).length=p at*;have o:p<A.row.length:=by omega
  have e:p+1<A.row.length:=by omega
  have f:p+2<A.row.length:=by omega
  have t:A.row[p+1]=x.lits.length:=by rw[RG,RF e]at w;exact w
  have g2:A.row[p+2]=x.side:=by rw[RG,RF f]at y;exact y
  have J:=dq p;have K:aR ((p:Int)+2)=((p+2:Nat):Int):=by rw[ap (by omega) (by omega)];omega
  have L:aR ((3:Int)+x.lits.length)=((3+x.lits.length:Nat):Int):=by rw[ap (by omega) (by omega)];omega
  have M:aR ((p:Int)+(3+x.lits.length))=((p+(3+x.lits.length):Nat):Int):=by rw[ap (by omega) (by omega)];omega
  have t1:((p:Int)+1).toNat=p+1:=by omega
  have I:((p:Int)+2).toNat=p+2:=by omega
  have m:A.row[p+1]?=some (x.lits.length:Int):=by rw[RF e,t]
  have n:A.row[p+2]?=some x.side:=by rw[RF f,g2]
  have E:(p:Int)+1<A.row.length:=by omega
  have F:(p:Int)+2<A.row.length:=by omega
  have G:(0:Int)<=(p:Int)+1:=by omega
  have H:(0:Int)<=(p:Int)+2:=by omega
  have P:(rA a).length<=a.length:=by unfold rA;rw[RR];exact t7 a 0
  have N:a.length<=A.row.length:=by have:=t8 a;omega
  by_cases d:x.side=2
  .rw[RI d,Tc]at g;simp[q,hp,j,k,mD,o,t,g2,K,I,n,F,H,d,J,t1,m,E,G,e,f,L,M];exact⟨i+1,by(try dsimp only);omega,by(try dsimp only);omega,af.keep (by simp[z,B,g]) rfl⟩
  .rw[RH d]at g;simp[q,hp,j,k,mD,o,t,g2,K,I,n,F,H,d,J,t1,m,E,G,e,f,L,M];exact⟨by omega,i+1,by(try dsimp only);omega,by(try dsimp only);omega,af.keep (by simp[z,B,g,aa]) rfl⟩
 .have u:i=l.length:=by omega
  subst u;have O:¬(bv l).length<A.row.length:=by rw[D];omega
  simp[j,k,mD,O,bu,bd]
section
variable {h : List (List SV)} {be bt ba bw bh : Nat} {mp : List (Int × Nat)} {mb : List (Int × By)} {E : ES}
theorem Cy(L:LayE h be bt ba bw bh mp mb E){l:List Rc}(k:ArI E.A l)(v:E.A.row.length<=1000000)(C:E.T.ok):
 aB Tryz.prog 115 [.ptr be 0] h (λr h'=>h'=h∧∃j:List Gr,r=.pv (.seq true 4 (j.map Me))∧j.length<=((rA l).filter (pJ E.A)).length):=by
 refine cR [] [.tmp 2] aE Tryz.func115 ?_;obtain⟨g,f⟩:=RE.1 L.e;have G:=LE h ba E.A L.w.a l k.row v;have hz:=cI L.w.t 2;have F:(rA l).length<=1000000:=by
  have h1:=t7 l 0;have B:=t8 l;rw[←k.row]at B;unfold rA;rw[RR];omega
 simp[f,g,bQ];refine aj.intro G ?_;rintro _ h ⟨rfl,rfl⟩;simp;refine av.intro (S:=λ(x:Nat×List Gr)=>⟨[(0,.pv (.ptr be 0)),(3,.own true 4 (x.2.map Me)),(11,.pv (.seq true 1 (aa (rA l)))),(12,.pv (ae (rA l).length)),(13,.pv (ae x.1))],h⟩)
  (λx=>x.1<=(rA l).length∧x.2.length<=(((rA l).take x.1).filter (pJ E.A)).length) (λx=>(rA l).length -x.1) (0,[]) ?_ ⟨RW _,RW _⟩ ?_
 .exact(af.nilOwn (s:=3) 4 true (by simp)).trans (af.keep (by simp) rfl)
 rintro⟨i,j⟩ ⟨hi,m⟩;dsimp only at hi m
 by_cases c:i<(rA l).length
 .have z:=dq i;obtain⟨y,hy,e⟩:=RO.1 (RK c);have q:isA E.A (rA l)[i]=true:=(k.isA _).2 ⟨y,hy,e⟩;have o:=jF l 0 y hy;rw[←k.row]at o;have I:=Cm h ba E.A L.w.a (rA l)[i] (λ_=>by rw[←e];omega) (by omega);have J:=vL h ba E.A L.w.a k.arok v (rA l)[i] q;have u:(aw E.A (rA l)[i]).length<=1000000:=by
   rw[←e,(k.at hy).1];omega
  have H:=Fc E.T C (rA l)[i] (aw E.A (rA l)[i]) u;have b:(((rA l).take (i+1)).filter (pJ E.A)).length=(((rA l).take i).filter (pJ E.A)).length+if pJ E.A (rA l)[i]=true then 1 else 0:=by
   rw[vY c,S5,RP];congr 1;simp only[Sz,U0];split<;>rfl
  have D:j.length<=i:=by have:=Ta (pJ E.A) ((rA l).take i);rw[RN]at this;omega
  generalize n:(rA l)[i]=at' at*;simp[c,f,g,bQ,n];refine aj.intro I ?_;rintro _ h ⟨rfl,rfl⟩;cases d:pJ E.A at'
  .rw[d]at b;simp[d];exact⟨(i+1,j),by(try dsimp only);omega,⟨by(try dsimp only);omega,by simpa[b]using m⟩,af.keep (by simp[z]) rfl⟩
  .rw[d]at b;simp[d,f,g,bQ];refine aj.intro J ?_;rintro _ h ⟨rfl,rfl⟩;simp[f,g,bQ,hz];refine br.intro H ?_;simp[f,g,bQ,hz];refine⟨by omega,?_⟩;exact⟨(i+1,j++[⟨at',(lk E.gl at').getD 0,(aw E.A at').length,HK E.T at' (aw E.A at')⟩]),by(try dsimp only);omega,⟨by(try dsimp only);omega,by simp[b];omega⟩,af.keep (by simp[z,Me]) rfl⟩
 .have p:i=(rA l).length:=by omega
  subst p;rw[R8]at m;simp;exact⟨j,rfl,m⟩
theorem Cz(l:List Gr)(keep:Int)(hk:(l.length:Int)<=keep):am Tryz.prog 114 [.seq false 4 (l.map Me),ae keep] (λr=>r=.pv (.lit (.slice none 0 0))):=by
 refine aq aE Tryz.func114 ?_;simp[hk]
def Mq:Sch:=
 let a:Sch:=.fork [(6,.take 7 .done)]
 let b:Sch:=.fork [(5,a)]
 let c:Sch:=.fork [(1,a)]
 .take 0 (.take 2 (.take 3 (.take 4 (.fork [(1,b),(5,c)]))))
theorem Al(L:LayE h be bt ba bw bh mp mb E){l:List Rc}(f:ArI E.A l)(i:E.A.row.length<=1000000)(g:E.T.ok)(hk:(((rA l).filter (pJ E.A)).length:Int)<=E.keep):
 aB Tryz.prog 53 [.ptr be 0] h (λr h'=>h'=h∧r=.pv (ae 0)):=by
 refine fD [3,7] [.tmp 2] aE Tryz.func53 ?_;obtain⟨b,a⟩:=RE.1 L.e;have j:=Cy L f i g;simp;refine aj.intro (dM L.e) ?_;rintro _ h ⟨rfl,rfl⟩;cases ho:E.over
 rotate_left
 .simp[a,b,bQ,ho]
 by_cases c:0<=E.con
 .simp[a,b,bQ,ho,c]
 simp[a,b,bQ,ho,c];refine aQ.meet Mq ⟨[(0,.pv (.ptr be 0)),(2,.pv (ae 0)),(3,.pv (.lit (.slice none 0 0)))],h⟩ (by kernel_rfl) ?_ ?_
 .simp[Mq,a,b,bQ]
  repeat' first
   |trivial
   |refine And.intro ?_ ?_
   |(refine aj.intro j ?_;rintro _ h ⟨rfl,d,rfl,m⟩;have k:=Cz d E.keep (by omega);simp[a,b,bQ])
   |(refine ai.intro k ?_;simp;exact af.keep (by simp) rfl)
 .simp
end
end Go.AX
namespace Go.AX
open Go.Proofs
set_option linter.unusedSimpArgs false
theorem oH(q r:Pos->Bool)(t:List (Nat×SV))(s:Nat):look (t.map ((λp=>(p.1,cC q p.2))∘λp=>(p.1,cC r p.2))) s=cC q (cC r (look t s)):=by
 rw[←SJ,aZ,aZ]
theorem vZ:∀L:List (List Int),E9 (L.map o8) (L.map an)
 |[]=>trivial
 |c::L=>⟨by simp[o8,an,bd,bu],vZ L⟩
theorem Sim.leF{g:Gh}{st st':St}{a:Act}{w:World}(h:Sim g st a w)(hp:∀p,ab st' p=ab st p∨∃x y,ab st p=.pv x∧ab st' p=.pv y∧∀g v,Fit g x v->Fit g y v)(hl:st'.h.length=st.h.length)(hb:∀b,(st'.h.getD b []).length=(st.h.getD b []).length):Sim g st' a w:=by
  obtain⟨bl,ho⟩:=h.own
  have hw:∀p,(ab st' p).isOwn=(ab st p).isOwn:=λp=>by
    rcases hp p with e|⟨x,y,e1,e2,_⟩
    · rw[e]
    · rw[e1,e2];rfl
  have hown:∀p nw e rows,ab st' p=.own nw e rows->ab st p=.own nw e rows:=λp nw e rows he=>by
    rcases hp p with e1|⟨x,y,_,e2,_⟩
    · rw[←e1];exact he
    · rw[e2]at he;cases he
  have hal:∀{sv:SV}{v:Value},cd g st a w sv v->cd g st' a w sv v:=by
    intro sv
    induction sv with
    |al p=>intro v hv ho';exact hv (by rw[←hw];exact ho')
    |loc p lo hi=>intro v hv nw e rows he;exact hv nw e rows (hown _ _ _ _ he)
    |sptr p i k=>intro v hv nw e rows he;exact hv nw e rows (hown _ _ _ _ he)
    |agl xs=>intro v hv k x p hk ho';exact hv k x p hk (by rw[←hw];exact ho')
    |opt c x ih=>intro v hv hc;exact ih (hv hc)
    |_=>intro v _;trivial
  have hf:∀p v o,aA g w (ab st p) v o->aA g w (ab st' p) v o:=λp v o hs=>by
    rcases hp p with e|⟨x,y,e1,e2,hf⟩
    · rw[e];exact hs
    · rw[e1]at hs;rw[e2];exact⟨hs.1,hf _ _ hs.2⟩
  refine { size := h.size, defs := h.defs, env := h.env, n := by rw [hl]; exact h.n, n0 := h.n0, B := h.B, I := h.I, F := h.F, μI := h.μI, μinj := h.μinj,
           own:=⟨bl,{slots:=λs=>hf (.slot s) _ _ (ho.slots s),blocks:=λb xs' hx=>?_,inj:=ho.inj,free:=ho.free}⟩,al:=λs=>?_}
  · have hlt:b<st.h.length:=by rw[←hl];exact(RE.1 hx).1
    have hlen:xs'.length=(st.h[b]).length:=by
      have:=hb b
      rw[RG,RG,hx,RF hlt]at this
      simpa using this
    obtain⟨arr,T,e1,e2,e3⟩:=ho.blocks b _ (RF hlt)
    refine⟨arr,T,e1,⟨by rw[hlen];exact e2.1,e2.2⟩,λk x hk=>?_⟩
    have hkl:k<(st.h[b]).length:=by rw[←hlen];exact(RE.1 hk).1
    have g1:ab st' (.cell b k)=x:=by simp only[ab,RG,hx,Sm,hk]
    have g2:ab st (.cell b k)=(st.h[b])[k]:=by simp only[ab,RG,RF hlt,Sm,RF hkl]
    obtain⟨c1,c2⟩:=e3 k _ (RF hkl)
    have h4:=hf (.cell b k) (arr.getD k undef) (bl (.cell b k)) (by rw[g2];exact c2)
    rw[g1]at h4
    refine⟨?_,h4⟩
    rcases hp (.cell b k)with e|⟨u,v,_,e,_⟩
    · rw[←g1,e,g2];exact c1
    · rw[←g1,e];rfl
  · have h5:=h.al s
    rcases hp (.slot s)with e|⟨x,y,_,e,_⟩
    · simp only[ab]at e;rw[e];exact hal h5
    · simp only[ab]at e;rw[e];trivial
theorem af.fitC{k0:Nat}{st:St}{b k:Nat}{xs:List SV}{x y:PV}(hx:st.h[b]?=some xs)(hk:xs[k]?=some (.pv x))(n:∀g v,Fit g x v->Fit g y v):af k0 st ⟨st.t,st.h.set b (xs.set k (.pv y))⟩:=λg a w _ hs=>by
 obtain⟨m,r⟩:=RE.1 hx;obtain⟨d,o⟩:=RE.1 hk;have i:st.h.getD b []=xs:=by rw[RG,hx];rfl
 have l:∀c,(st.h.set b (xs.set k (.pv y))).getD c []=if c=b then xs.set k (.pv y)else st.h.getD c []:=λc=>by
  simp only[RG,Sf]
  by_cases e:c=b
  .subst e;rw[RI rfl,RI m,RI rfl];rfl
  .rw[RH (λq=>e q.symm),RH e]
 refine⟨g,hs.refl_to,hs.leF (λp=>?_) (by simp) (λc=>?_)⟩
 .cases p with
  |slot s=>exact .inl rfl
  |cell c j=>
   simp only[ab];rw[l]
   by_cases e:c=b
   .subst e;rw[RI rfl,i]
    by_cases f:j=k
    .subst f;exact .inr ⟨x,y,by rw[RG,hk];rfl,by rw[RG,Su d];rfl,n⟩
    .left;simp only[RG];rw[RY (λq=>f q.symm)]
   .rw[RH e];exact .inl rfl
 .rw[l];split
  .rename_i e;subst e;rw[i];simp
  .rfl
def nP(k:Int):Int:=if 100<(if 1000000<k then 1000000 else k)then(if 1000000<k then 1000000 else k)else 100
def qX(k:Int):Int:=if 0<(if 100<k then 100 else k)then(if 100<k then 100 else k)else 0
def gh(n:Nat)(cs:List (List Int))(kp a:Int):ES:=⟨jT n,⟨[],[]⟩,⟨[],[],[],0,[]⟩,nq n,n,cs,List.replicate (n+1) false,nP kp,qX a,64,0,-1,false,0,false,[],[]⟩
def JN(ba bt:Nat):List SV:=[.pv (.ptr ba 0),.pv (.ptr bt 0),.omap true [],.omap true [],.omap true [],.pv (ae 0),.pv (.lit (.slice none 0 0))]
def Ki(bt ba bw bh n:Nat)(cs:List (List Int))(kp a:Int):List SV:=[.pv (.ptr bt 0),.pv (ae n),.pv (.seq true 1 (cs.map o8)),.pv (.ptr ba 0),.pv (.ptr bw 0),.pv (.ptr bh 0),.own true 1 (List.replicate (n+1) [BL false]),.pv (ae (nP kp)),.pv (ae (qX a)),.pv (ae 64),.pv (ae 0),.pv (ae (-1)),.pv (BL false),.pv (ae 0),.pv (BL false),.pv (.lit (.slice none 0 0)),.omap true []]
def uv(h:List (List SV))(x y:List SV)(E:ES):List (List SV):=h++[x,y,gv E.T,au E.q,mD E.A,cB (h.length+4) (h.length+2) ⟨[],[],[],0,[]⟩,bQ (h.length+2) (h.length+4) (h.length+5) (h.length+3) E]
theorem JO(h:List (List SV))(x y:List SV)(E:ES)(f:E.S=⟨[],[],[],0,[]⟩):LayE (uv h x y E) (h.length+6) (h.length+2) (h.length+4) (h.length+5) (h.length+3) [] [] E where
 w:={
  w:=by rw[f];simp[uv]
  a:=by simp[uv]
  t:=by simp[uv]
  wa:=by omega
  wt:=by omega
  at':=by omega
  keys:=by rw[f];rfl
  pr:=λk b c=>by simp[lk]at c
  pinj:=λk k' b c=>by simp[lk]at c
  by':=λl e g=>by simp[lk]at g
  byn:=λl _=>by rw[f];simp[lk]
  binj:=λl l' e e' g=>by simp[lk]at g
  pb:=λk b l e c=>by simp[lk]at c}
 e:=by simp[uv]
 q:=by simp[uv]
 ne:=by omega
 eo:=⟨λd=>by rcases d with d|d|⟨k,d⟩|⟨l,e,d,_⟩<;>first|omega|simp[lk]at d,by omega⟩
 ho:=⟨λd=>by rcases d with d|d|⟨k,d⟩|⟨l,e,d,_⟩<;>first|omega|simp[lk]at d,by omega⟩
theorem JQ(h:List (List SV))(x y:List SV)(E:ES):Ext h (uv h x y E) (λ_=>False) (df (h.length+6) (h.length+2) (h.length+4) (h.length+5) (h.length+3) [] [])where
 len:=by simp[uv]
 same:=λb a _=>RL a
 sub:=λb a d=>by
  rcases d with d|d|d|d|d|⟨k,d⟩|⟨l,e,d,_⟩<;>first|omega|simp[lk]at d
theorem LJ{n:Nat}(hn:n<=400)(F cs:List (List Int))(kp a:Int){r s:Nat}(d:r<=1000000)(hs:s<=1000000):EI n F r s [] (gh n cs kp a)where
 n9:=hn
 tok:=TOk.new (by omega)
 wok:={nd:=by simp[gh],lits:=λk p h=>by simp[gh,lk]at h,lnd:=by simp[gh],lpr:=λk h=>by simp[gh]at h,two:=λk p h=>by simp[gh,lk]at h,bnd:=λl=>by simp[gh,bF,lk],mem:=λl k=>by simp[gh,bF,lk],few:=by simp[gh],h0:=by simp[gh],h1:=by simp[gh],sl:=by simp[gh],clr:=by simp[gh,nN]}
 prz:=by simp[gh];omega
 ari:=ArI.new
 rsz:=by simp[gh];omega
 idz:=by simp[gh];omega
 ids:=by simp
 cls:=λx hx=>by simp[bn]at hx
 att:=λk c=>by simp[CW,gh,lk,bn]
 ef:=by
  have:fV (gh n cs kp a).T=⟨n,[],0⟩:=by simp[fV,gh,jT]
  rw[this];exact EF.new _
 ent:=λx hx=>by simp[bn]at hx
 ovr:=by simp[gh,bn]
 hp:=Jm n
 inh:=λv h1 b _=>by
  simp only[gh,nq,RO,SY];exact⟨(v -1).toNat,by omega,by omega⟩
 ph:=by simp[gh]
 cal:=λh=>by simp[gh]at h
 con:=λh=>by simp[gh]at h
 dcy:=by simp only[gh,qX];split<;>split<;>omega
 inc:=by simp[gh]
theorem Nm{l:List Rc}{x:Rc}(hs:x.side≠2):rC (l++[x])=rC l++[x.lits]:=by
 unfold rC;rw[kh];simp[bn,hs]
theorem LK{c:List Int}{m:Int}(h:fu c m=0):c.length<=1000∧c.Nodup∧∀y∈c,ax y m=0:=by
 unfold fu at h;split at h
 .omega
 .rename_i h0;split at h
  .omega
  .split at h
   .omega
   .split at h
    .rename_i h1 a b;refine⟨by omega,Fk b,λy hy=>?_⟩;have:nD y m=true:=by
      have d:(c.all λx=>nD x m)=true:=by simpa using a
      exact Se.1 d y hy
     unfold ax;rw[RH h0,RI this]
    .omega
theorem v6{v:Int}:∀{L:List (List Int)}{i:Nat},(jB v L i).2=0->∀c∈L,fu c v=0
 |[],_,_,_,a=>by cases a
 |d::L,i,h,c,a=>by
  rw[jB]at h
  by_cases h1:fu d v≠0
  .rw[RI h1]at h;exact absurd h h1
  rw[RH h1]at h;rcases R9.1 a with rfl|a
  .simpa using h1
  by_cases b:fl d=true
  .rw[RI b]at h;exact absurd h (by show¬((11:Int)=0);decide)
  .rw[RH b]at h;exact v6 h c a
theorem Nn{n:Nat}{cs:List (List Int)}(h:(eX n cs).2=0):∀c∈cs,c.length<=1000∧c.Nodup∧∀y∈c,ax y n=0:=λc a=>by
 have h1:(jB n cs 0).2=0:=by
  unfold eX at h;split at h
  .cases h
  .split at h
   .cases h
   .exact h
 exact LK (v6 h1 c a)
structure NewOk (n:Nat) (cs:List (List Int)) (kp:Int) (E:ES) (l:List Rc) (L:List (List Int)):Prop where
  T:E.T=jT n
  vars:E.vars=n
  cs:E.cs=cs
  keep:E.keep=nP kp
  pf:E.pf=[]
  many:E.many=0
  calm:E.calm=false
  con:E.con=-1
  rc:rC l=L
  side:∀x∈l,x.side=0
  num:l.map (λx=>(x.id,x.lits))=L.mapIdx λi c=>(((i+1:Nat):Int),c)
  id:E.id=L.length
def Rp(n:Nat)(cs:List (List Int))(kp:Int)(r s:Nat)(h:List (List SV))(y:SV)(h':List (List SV)):Prop:=∃be bt ba bw bh mp E l,y=.pv (.tup [.ptr be 0,ae 0])∧LayE h' be bt ba bw bh mp [] E∧Ext h h' (λ_=>False) (df be bt ba bw bh mp [])∧EI n cs r s l E∧NewOk n cs kp E l cs
set_option maxRecDepth 16000 in
set_option maxHeartbeats 1000000 in
theorem xO(h:List (List SV))(n:Nat)(hn:n<=400)(cs:List (List Int))(rs kp f:Int)(hc:cs.length<=1000000)(M:∀c∈cs,c.length<=1000000)(hk:(eX n cs).2=0){r s:Nat}(hr:cs.length+r<=1000000)(hs:cs.length*1003+s<=1000000):
 aB Tryz.prog 21 [.agg [ae n,.seq false 1 (cs.map an)],.agg [ae rs,ae kp,ae f]] h (Rp n cs kp r s h):=by
 have ak:n<=900:=by omega
 refine cR [9] [.tmp 4,.tmp 5] aE Tryz.func21 ?_;have kC:=DF n cs M;rw[hk]at kC;have h9:¬(900:Int)<n:=by omega
 have kT:=λg=>KL g n (by omega);simp;refine ai.intro kC ?_;simp[h9];refine ai.introM (kT _) ?_;rintro _ _ ⟨rfl,rfl⟩;simp;have kH:=λg=>Lx g n;refine ai.introM (kH _) ?_;rintro _ _ u;rw[RI (by omega)]at u;obtain⟨rfl,rfl⟩:=u;simp;refine ai.introM (KX _) ?_;rintro _ _ ⟨rfl,rfl⟩;simp;have kW:=Lh n cs hc M;generalize N:h++[[.pv (ae n),.pv (.seq false 1 (cs.map an))],[.pv (ae rs),.pv (ae kp),.pv (ae f)],[.own true 4 ((jT n).marks.map pR),.pv (.lit (.slice none 0 0)),.pv (.lit (.slice none 0 0)),.pv (BL true)],au (nq n),N2]=H;have z:H.length=h.length+5:=by rw[←N];simp
 have B:∀u,H[h.length]'u=[.pv (ae n),.pv (.seq false 1 (cs.map an))]:=by subst N;intro u;simp
 have C:∀u,H[h.length+1]'u=[.pv (ae rs),.pv (ae kp),.pv (ae f)]:=by subst N;intro u;simp
 have D:∀g u,(H++g)[h.length]'u=[.pv (ae n),.pv (.seq false 1 (cs.map an))]:=λg u=>by rw[SE (by omega)];exact B _
 have F:∀g u,(H++g)[h.length+1]'u=[.pv (ae rs),.pv (ae kp),.pv (ae f)]:=λg u=>by rw[SE (by omega)];exact C _
 have j:H[h.length]?=some [.pv (ae n),.pv (.seq false 1 (cs.map an))]:=by rw[RF (by omega),B]
 have o:H[h.length+1]?=some [.pv (ae rs),.pv (ae kp),.pv (ae f)]:=by rw[RF (by omega),C]
 have p:∀g,(H++g)[h.length]?=some [.pv (ae n),.pv (.seq false 1 (cs.map an))]:=λg=>by rw[RL (by omega),j]
 have w:∀g,(H++g)[h.length+1]?=some [.pv (ae rs),.pv (ae kp),.pv (ae f)]:=λg=>by rw[RL (by omega),o]
 have L:aR ((n:Int)+1)=(n:Int)+1:=ap (by omega) (by omega);have I:((n:Int)+1).toNat=n+1:=by omega
 refine aQ.tab [] ⟨[some (40,.pv (.ptr (h.length+2) 0)),some (41,.pv (.agg [ae n,.seq false 1 (cs.map an)])),some (42,.pv (.agg [ae n,.seq true 1 (cs.map o8)])),some (43,.pv (.ptr (h.length+4) 0)),some (44,.pv (.ptr (h.length+4) 0)),some (45,.pv (.ptr (h.length+2) 0)),some (46,.pv (.ptr (h.length+5) 0)),some (47,.pv (.ptr (h.length+3) 0)),some (48,.pv (.ptr h.length 0)),some (49,.pv (ae n)),some (50,.pv (ae ((n:Int)+1))),some (51,.own true 1 (List.replicate (n+1) [BL false])),some (52,.pv (.ptr (h.length+1) 1)),some (53,.pv (ae kp)),some (54,.pv (ae (if 1000000<kp then 1000000 else kp))),some (55,.pv (ae (nP kp))),some (56,.pv (.ptr (h.length+1) 2)),some (57,.pv (ae f)),some (58,.pv (ae (if 100<f then 100 else f))),some (59,.pv (ae (qX f))),some (60,.omap true []),some (61,.agl [(.ptr (h.length+2) 0,none),(ae n,none),(.seq true 1 (cs.map o8),none),(.ptr (h.length+4) 0,none),(.ptr (h.length+5) 0,none),(.ptr (h.length+3) 0,none),(.bot,some (.slot 51)),(ae (nP kp),none),(ae (qX f),none),(ae 64,none),(ae 0,none),(ae (-1),none),(BL false,none),(ae 0,none),(BL false,none),(.lit (.slice none 0 0),none),(.bot,some (.slot 60))]),some (62,.pv (.ptr (h.length+6) 0)),some (13,.pv (.ptr (h.length+6) 0))],[(2,.pv (.ptr h.length 0)),(3,.pv (.ptr (h.length+1) 0)),(8,.pv (.ptr (h.length+2) 0)),(10,.pv (.ptr (h.length+3) 0)),(12,.pv (.ptr (h.length+4) 0))],[[],[],[1],[],[],[],[4,5],[],[],[8],[9],[10],[],[12],[13],[14],[],[16],[17],[18],[],[0,2,3,6,7,11,15,19,20],[11,20,21],[22]],[6,21,22],[[0,1],[0],[0],[0,1],[0],[0],[0],[0,1],[0,1,2,3],[0,1],[0,1],[0,1],[0,1,2,3],[0,1],[0,1],[0,1],[0,1,2,3],[0,1],[0,1],[0,1],[0,1],[1],[2],[3]],[(11,61),(20,61),(22,51),(22,60),(22,61)],λ|0=>H|1=>H++[JN (h.length+4) (h.length+2)]|2=>H++[JN (h.length+4) (h.length+2)]|_=>H++[JN (h.length+4) (h.length+2),Ki (h.length+2) (h.length+4) (h.length+5) (h.length+3) n cs kp f]⟩ ⟨[(2,.pv (.ptr h.length 0)),(13,.pv (.ptr (h.length+6) 0))],H++[JN (h.length+4) (h.length+2),Ki (h.length+2) (h.length+4) (h.length+5) (h.length+3) n cs kp f]⟩ (by kernel_rfl) (by simp[aT]) rfl ?_ (λt h1 G=>?_) ?_
 .simp only[Tb.steps,Gi,Tb.lvA,Tb.dpA,y8,pm,Tp,TH,cz,dY,lN,gZ,eO,eM,GS,gM,im,SC,Tw,Ui,U3,Uw,Vl,Vk,TC,Ux,Ss,S8];and_intros
  all_goals first|trivial|(intro t h1 G;simp only[aT,Sq,Sj]at h1;simp[z,j,o,p,w,D,F,B,C,L,I,nP,qX,JN,Ki,oH,h1,G,Tb.postL,Tb.wth,qP,pm,aT,aZ]<;>and_intros<;>first|omega|(intro e;simp[z,j,o,p,w,D,F,B,C,L,I,nP,qX,JN,Ki,oH,e]))|(intro t h1 G;simp only[aT,Sq,Sj]at h1;simp[z,j,o,p,w,D,F,B,C,L,I,nP,qX,JN,Ki,oH,h1,G,Tb.postL,Tb.wth,qP,pm,aT,aZ])
  .refine ai.intro kW ?_;simp[z,j,o,p,w,D,F,h1,G,Tb.postL,Tb.wth,qP,pm,aT,aZ]<;>and_intros<;>first|omega|(intro e;simp[e])
  .refine aj.intro (Lo _ (h.length+4) (h.length+2)) ?_;rintro _ _ ⟨rfl,rfl⟩;simp[z,j,o,p,w,D,F,h1,G,JN,Tb.postL,Tb.wth,qP,pm,aT,aZ]<;>and_intros<;>first|omega|(intro e;simp[e])
 .simp only[aT,Sq,Sj]at h1 G;simp[Gj]at G;exact af.keep (by simp[h1,G]) rfl
 simp[p];clear B C D F j o p w z kC kT kH kW L I h9;have V:=Nn hk;obtain⟨bx,R⟩:∃x:List SV,[.pv (ae n),.pv (.seq false 1 (cs.map an))]=x:=⟨_,rfl⟩;obtain⟨by',U⟩:∃x:List SV,[.pv (ae rs),.pv (ae kp),.pv (ae f)]=x:=⟨_,rfl⟩;refine av.intro (S:=λ(x:Nat×List (List SV)×List (Int×Nat)×ES×List Rc)=>⟨[(13,.pv (.ptr (h.length+6) 0)),(64,.pv (.seq false 1 (cs.map an))),(65,.pv (ae cs.length)),(66,.pv (ae x.1))],x.2.1⟩)
  (λx=>x.1<=cs.length∧LayE x.2.1 (h.length+6) (h.length+2) (h.length+4) (h.length+5) (h.length+3) x.2.2.1 [] x.2.2.2.1∧Ext h x.2.1 (λ_=>False) (df (h.length+6) (h.length+2) (h.length+4) (h.length+5) (h.length+3) x.2.2.1 [])∧EI n cs (r+(cs.length -x.1)) (s+(cs.length -x.1)*1003) x.2.2.2.2 x.2.2.2.1∧NewOk n cs kp x.2.2.2.1 x.2.2.2.2 (cs.take x.1)) (λx=>cs.length -x.1)
  (0,uv h bx by' (gh n cs kp f),[],gh n cs kp f,[]) ?_ ⟨RW _,JO _ _ _ _ rfl,JQ _ _ _ _,LJ hn _ _ _ _ (by omega) (by omega),⟨rfl,rfl,rfl,rfl,rfl,rfl,rfl,rfl,rfl,by simp,rfl,rfl⟩⟩ ?_
 .subst N;refine(af.keep (t1:=[(13,.pv (.ptr (h.length+6) 0)),(64,.pv (.seq false 1 (cs.map an))),(65,.pv (ae cs.length)),(66,.pv (ae 0))]) (by simp) rfl).trans ?_;simp only[Si,Sq,Sj];refine(af.nilCell (b:=h.length+2) (k:=1) (xs:=[.own true 4 ((jT n).marks.map pR),.pv (.lit (.slice none 0 0)),.pv (.lit (.slice none 0 0)),.pv (BL true)]) 1 true (by simp) (by simp)).trans ?_;refine(af.nilCell (b:=h.length+2) (k:=2) (xs:=[.own true 4 ((jT n).marks.map pR),.own true 1 [],.pv (.lit (.slice none 0 0)),.pv (BL true)]) 1 true (by simp) (by simp)).trans ?_;refine(af.nilCell (b:=h.length+4) (k:=0) (xs:=N2) 1 true (by simp) (by simp[N2])).trans ?_;refine(af.nilCell (b:=h.length+5) (k:=6) (xs:=JN (h.length+4) (h.length+2)) 1 true (by simp) (by simp[JN])).trans ?_;refine(af.nilCell (b:=h.length+6) (k:=15) (xs:=Ki (h.length+2) (h.length+4) (h.length+5) (h.length+3) n cs kp f) 4 true (by simp) (by simp[Ki])).trans ?_;refine(af.fitC (b:=h.length+6) (k:=2) (xs:=(Ki (h.length+2) (h.length+4) (h.length+5) (h.length+3) n cs kp f).set 15 (.own true 4 [])) (x:=.seq true 1 (cs.map o8)) (y:=.seq false 1 (cs.map an)) (by simp) (by simp[Ki]) λg v hv=>HI (x:=.seq true 1 (cs.map o8)) ⟨λe=>(by cases e),rfl,vZ cs⟩ hv).trans ?_;refine af.le (by simp) ?_;simp[uv,N2,JN,Ki];refine sV h ?_;simp[R,U,bQ,mD,gv,cB,gh,aa,cM,jT,a8,qg]
 rintro⟨i,X,mp,E,l⟩ ⟨hi,O,P,J,a⟩;dsimp only at hi O P J a
 by_cases d:i<cs.length
 .obtain⟨h1,G,h3⟩:=V _ (RK d);have hT:=J.tok;have Y:r+(cs.length -i)=(r+(cs.length -(i+1)))+1:=by omega
  have Z:s+(cs.length -(i+1))*1003+(3+cs[i].length)<=s+(cs.length -i)*1003:=by omega
  have Q:=J.mono (Nat.le_of_eq Y.symm) Z;have hE:∀q,HpTo n E.q q->jw (E.id+1) cs[i]=0∧pF (dx E.A (E.id+1) cs[i] false) E.T E.S E.A.row.length=0∧EI n cs (r+(cs.length -(i+1))) (s+(cs.length -(i+1))*1003) (l++[⟨E.id+1,fo false,cs[i]⟩]) (Cx E cs[i] false q):=λq hq=>
   Q.add false h1 G h3 (λm hm=>hm _ (RK d)) (λk k1 k2=>by rw[a.T]at k2;simp[fV,jT]at k2;omega) a.calm (by rw[a.con];omega) q hq.hp hq.mem
  obtain⟨e1,_,e3⟩:=hE E.q (.refl J.hp);have ag:=J.idz;have ah:=J.rsz;have K:=e3.rsz;have kA:=Ef O hT J.hp (by omega) cs[i] false e1 e3.arok (by simp only[Cx]at K;omega) (by omega) (by omega);have L:=dq i;have W:an cs[i]=[.seq false 1 (aa cs[i])]:=rfl;simp[d,W];refine aj.intro kA ?_;rintro _ X2 ⟨rfl,ad,q,L2,Y2,G2⟩;simp;refine⟨(i+1,X2,ad,Cx E cs[i] false q,l++[⟨E.id+1,fo false,cs[i]⟩]),by(try dsimp only);omega,⟨by(try dsimp only);omega,L2,P.trans Y2,(hE q G2).2.2,⟨a.T,a.vars,a.cs,a.keep,a.pf,a.many,a.calm,a.con,?_,?_,?_,?_⟩⟩,af.keep (by simp[L]) rfl⟩
  .rw[Nm (by simp[fo]),a.rc,SA];simp[d]
  .intro x hx;rcases RS.1 hx with hx|hx
   .exact a.side x hx
   .simp at hx;subst hx;rfl
  .have oM:=a.id;rw[RN,Tn hi]at oM;rw[Sb,a.num,SN d,List.mapIdx_append,RN,Tn hi];simp[oM]
  .have oM:=a.id;rw[RN,Tn hi]at oM;show E.id+1=_;rw[oM,RN,Tn (by omega)];omega
 .have ab:i=cs.length:=by omega
  subst ab;simp;exact⟨_,_,_,_,_,mp,E,l,rfl,O,P,J.mono (by omega) (by omega),by rw[R8]at a;exact a⟩
theorem Am(h:List (List SV))(v:Int)(cs:List (List Int))(rs kp b:Int)(a:∀c∈cs,c.length<=1000000)(hk:(eX v cs).2≠0∨900<v):
 aB Tryz.prog 21 [.agg [ae v,.seq false 1 (cs.map an)],.agg [ae rs,ae kp,ae b]] h (λy h'=>y=.pv (.tup [.lit (.pointer none),ae (if(eX v cs).2≠0 then(eX v cs).2 else 3)])∧Ext h h' (λ_=>False) (λ_=>False)):=by
 refine cR [9] [.tmp 4,.tmp 5] aE Tryz.func21 ?_;have f:=DF v cs a;have hx:=λg=>Ext.app h g (λ_=>False);simp;refine ai.intro f ?_
 by_cases c:(eX v cs).2=0
 .have d:900<v:=hk.resolve_left (λe=>e c);simp[c,d,hx]
 .simp[c,hx]
theorem FZ:am Tryz.prog 43 [.lit (.pointer none)] (λr=>r=.pv (BL false)):=by
 refine aq aE Tryz.func43 ?_;simp;refine ai.intro vX ?_;simp
theorem F0:am Tryz.prog 17 [.lit (.pointer none)] (λr=>r=.pv (BL false)):=by
 refine aq aE Tryz.func17 ?_;simp;refine ai.intro vX ?_;simp
section
variable {h : List (List SV)} {be bt ba bw bh : Nat} {mp : List (Int × Nat)} {mb : List (Int × By)} {E : ES}
theorem xP(d:h[be]?=some (bQ bt ba bw bh E))(c:E.over=true∨E.con<0):aB Tryz.prog 44 [.ptr be 0] h (λr h'=>h'=h∧r=.pv (BL false)):=by
 refine cR [6,7,18] [.tmp 2] aE Tryz.func44 ?_;obtain⟨b,a⟩:=RE.1 d;simp;refine aj.intro (dM d) ?_;rintro _ _ ⟨rfl,rfl⟩;cases ho:E.over
 .have c:E.con<0:=c.resolve_left (by simp[ho]);simp[a,b,bQ,ho,c]
 .simp[a,b,bQ,ho]
theorem An(L:LayE h be bt ba bw bh mp mb E){n:Nat}(i:TOk n E.T)(g:HpG n 1000000000000 E.q)(hp:E.ph.length=n+1):
 aB Tryz.prog 24 [.ptr be 0] h (λr h'=>r=.pv (.tup [])∧((E.over=true∧h'=h)∨(E.over=false∧∃q p,LayE h' be bt ba bw bh mp mb {E with T:=er E.T 0,q:=q,ph:=p,con:=-1,calm:=false}∧Ext h h' (df be bt ba bw bh mp mb) (df be bt ba bw bh mp mb)∧HpTo n E.q q∧p.length=n+1∧∀z∈E.T.lits,z∉(er E.T 0).lits->ah z∈q.row))):=by
 refine cR [] [] aE Tryz.func24 ?_;have j:=Ak L i g hp 0;obtain⟨b,a⟩:=RE.1 L.e;simp;refine aj.intro (dM L.e) ?_;rintro _ _ ⟨rfl,rfl⟩;cases ho:E.over
 .simp[a,b,bQ,ho];refine aj.intro j ?_;rintro _ k ⟨rfl,q,p,c,d⟩;have f:({E with T:=er E.T 0,q:=q,ph:=p,con:=-1,calm:=false}:ES)={E with T:=er E.T 0,q:=q,ph:=p,con:=-1,calm:=false,over:=false}:=by rw[←ho]
  rw[f]at c;simp;exact⟨q,p,c,d⟩
 .simp[a,b,bQ,ho]
end
def JR:Sch:=
 let c:Sch:=.fork [(15,.done)]
 let d:Sch:=.fork [(12,.take 13 (.take 14 c))]
 let a:Sch:=.fork [(9,.take 10 (.take 11 d))]
 let e:Sch:=.fork [(8,a)]
 let b:Sch:=.fork [(6,a)]
 let f:Sch:=.fork [(6,e),(8,b)]
 let g:Sch:=.fork [(5,b)]
 let h:Sch:=.fork [(5,f),(8,g)]
 .take 0 (.take 1 (.take 2 (.take 3 (.take 4 (.take 7 h)))))
def Ao(x:Stp):List PV:=[ae x.kind,ae x.id,.bot,.bot]
@[simp] theorem Ap(k:Nat)(l:List Stp):bX k (l.map Ao):=by
 induction l with
 |nil=>trivial
 |cons x l a=>exact⟨⟨trivial,trivial,trivial,trivial,trivial⟩,a⟩
theorem Aq:∀l:List Stp,Ew (l.map Ao)
 |[]=>trivial
 |_::l=>⟨⟨trivial,trivial,trivial,trivial,trivial⟩,Aq l⟩
theorem v7{g:Gh}:∀{l:List Stp}{vs:List Value},ay g 4 (l.map gD) vs->ay g 4 (l.map Ao) vs
 |[],_,h=>h
 |_::_,_,⟨t,u,h1,i,⟨p,m,a,b,q,n,c,d,r,r3,e,_,s,o,f,_,j⟩,k⟩=>⟨t,u,h1,i,⟨p,m,a,b,q,n,c,d,r,r3,e,trivial,s,o,f,trivial,j⟩,v7 k⟩
theorem As(l:List Stp)(t:l.length<=1000000):am Tryz.prog 76 [.seq false 4 (l.map gD)] (λr=>r=.own true 4 (l.map Ao)):=by
 have h1:am Tryz.prog 76 [.seq false 4 (l.map gD)] (λr=>r=.own true 4 (l.map gD)∨r=.pv (.lit (.slice none 0 0))∧l=[]):=by
  refine aq aE Tryz.func76 ?_;cases l with
  |nil=>simp
  |cons x l=>simp;simp at t;omega
 have f:am Tryz.prog 76 [.seq false 4 (l.map gD)] (λr=>r=.own true 4 (l.map gD)):=
  am.own0 h1 λr h=>h.imp id λ⟨e,d⟩=>⟨e,true,4,by rw[d];rfl⟩
 refine⟨f.1,λw vs u=>(f.2 w vs u).mono λe w' ⟨v,r,g',o,g,d,i,j,z,k⟩=>?_⟩;subst d;refine⟨v,.own true 4 (l.map Ao),g',o,g,rfl,i,?_,rfl,k⟩;rcases j with⟨a,b,c⟩|⟨c,s,cap,arr,T,y,m,n,p,q,f5,f6⟩
 .exact .inl ⟨a,by rw[Ws]at b⊢;exact b,c⟩
 .exact .inr ⟨c,s,cap,arr,T,y,by simpa using m,n,p,by simpa using q,v7 f5,f6⟩
section
variable {h : List (List SV)} {be bt ba bw bh : Nat} {E : ES}
set_option maxRecDepth 16000 in
theorem qB(w:h[be]?=some (bQ bt ba bw bh E))(x:E.pf.length<=1000000)(hs:∀s∈E.pf,s.lits.length<=1000000∧s.hints.length<=1000000):aB Tryz.prog 33 [.ptr be 0] h (λr h'=>h'=h∧r=.pv (.seq true 4 (E.pf.map l4))):=by
 refine aB.below (by kernel_rfl) λz=>?_;refine fD [7] [.tmp 2] aE Tryz.func33 ?_;obtain⟨a,c⟩:=RE.1 w;obtain⟨ss,b⟩:∃ss,E.pf=ss:=⟨_,rfl⟩;rw[b]at x hs⊢;have y:=As ss x;obtain⟨Q,f⟩:∃Q:Nat->List (List PV),∀i,Q i=(ss.take i).map l4++(ss.drop i).map Ao:=⟨_,λ_=>rfl⟩;have l:Q 0=ss.map Ao:=by rw[f];rfl
 have n:Q ss.length=ss.map l4:=by rw[f];simp
 have p:∀i,i<=ss.length->(Q i).length=ss.length:=λi hi=>by rw[f];simp;omega
 simp;refine aj.intro (dM w) ?_;rintro _ h ⟨rfl,rfl⟩;simp[c,a,bQ,b];refine ai.intro y ?_ (by simp[Aq]);simp[c,a,bQ,b];refine av.intro (S:=λ(i:Nat)=>⟨[(0,.pv (.ptr be 0)),(3,.own true 4 (Q i)),(17,.al (.cell be 15)),(18,.pv (ae ss.length)),(19,.pv (ae i))],h⟩) (λi=>i<=ss.length) (λi=>ss.length -i) 0 ?_ (RW _) ?_
 .exact af.keep (by simp[l]) rfl
 intro i hi;have e:=p i hi
 by_cases d:i<ss.length
 .have A:=dq i;have j:ss[i]?=some ss[i]:=RF d;have g:=hs _ (RK d);have t:=iI ss[i].lits g.1;have u:=iI ss[i].hints g.2;have o:(Q i)[i]'(by omega)=[ae ss[i].kind,ae ss[i].id,.bot,.bot]:=by
   simp only[f];rw[V0 (by simp;omega)];simp[Ao,Tn hi]
  have q:(Q i).set i [ae ss[i].kind,ae ss[i].id,.seq true 1 (aa ss[i].lits),.seq true 1 (aa ss[i].hints)]=Q (i+1):=by
   rw[f,f,UJ _ _ (by simp;omega),SN d,Sb,Si];congr 1;rw[RR,RN,Tn hi,T9,Sk d];rfl
  have m:∀k,bX k (Q (i+1)):=λk=>by
   rw[f];exact(uk k _ _).2 ⟨zy k _,Ap k _⟩
  simp[d,j,gD,e,c,a,bQ,b];refine aQ.one JR (by kernel_rfl) ?_;simp[JR,d,j,gD,e,c,a,bQ,b];and_intros
  all_goals
   refine ai.intro t ?_;simp[d,j,gD,e,c,a,bQ,b];refine ai.intro u ?_;simp[d,j,gD,e,c,a,bQ,b];exact⟨i+1,by(try dsimp only);omega,by(try dsimp only);omega,af.to (by simp[A,o,q,gD]) (by simp) (by simp) (by simp[m,a]) (by simp[z])⟩
 .have v:i=ss.length:=by omega
  subst v;simp[n]
end
theorem nQ(a b:List Bool)(m:a.length<=140737488355328):am Tryz.prog 20 [.seq false 1 (cM a),.seq false 1 (cM b)] (λr=>r=.pv (BL (decide (a=b)))):=by
 refine aq aE Tryz.func20 ?_;simp;refine⟨λh=>λe=>h (by rw[e]),λh=>?_⟩;have f:a.length=b.length:=by omega
 refine av.intro (S:=λ(i:Nat)=>⟨[(0,.pv (.seq false 1 (cM a))),(1,.pv (.seq false 1 (cM b))),(5,.pv (ae i))],[]⟩) (λi=>i<=a.length∧∀j (h1:j<a.length)(d:j<b.length),j<i->a[j]=b[j]) (λi=>a.length -i) 0 ?_ ?_ ?_
 .exact af.to (by simp) rfl (by simp) (by simp) (by simp)
 .exact⟨by omega,λj _ _ hj=>by omega⟩
 .intro i ⟨hi,ho⟩
  by_cases g:i<a.length
  .have l:=dq i;have k:i<b.length:=by omega
   simp[g,k];refine⟨λc=>λe=>c (by subst e;rfl),λc=>⟨i+1,by dsimp only;omega,⟨by omega,λj h1 d hj=>?_⟩,af.to ?_ rfl (by simp) (by simp) (by simp)⟩⟩
   .by_cases e:j=i
    .subst e;exact c
    .exact ho j h1 d (by omega)
   .simp[l]
  .simp[g];exact Uh f λj h1 d=>ho j h1 d (by omega)
def At(v:Int)(cs:List (List Int))(a:List Int):Bool:=zE cs&&(decide (v<=10)&&(decide (0<=v)&&(decide (cs.length<=60)&&decide (a.length<=60))))
theorem JS(v:Int)(cs:List (List Int))(a:List Int):am Tryz.prog 11 [.agg [ae v,.seq false 1 (cs.map an)],.seq false 1 (aa a)] (λr=>r=.pv (BL (At v cs a))):=by
 refine aq aE Tryz.func11 ?_;have c:=Fz v cs;unfold At;simp;refine ai.intro c ?_;cases zE cs
 .simp
 by_cases c1:v<=10
 rotate_left
 .simp[c1]
 by_cases c2:0<=v
 rotate_left
 .simp[c1,c2]
 by_cases c3:(cs.length:Int)<=60
 rotate_left
 .have:¬cs.length<=60:=by omega
  simp[c1,c2,c3,this]
 have:cs.length<=60:=by omega
 by_cases c4:(a.length:Int)<=60
 .have b:a.length<=60:=by omega
  simp[c1,c2,c3,this,c4,b]
 .have b:¬a.length<=60:=by omega
  simp[c1,c2,c3,this,c4,b]
end Go.AX