/-
  Contracts: engines: what only asks, and Propagate; and what follows.
-/
import Derived.Test.YtepodadinenmnaaGreatZE
set_option linter.unusedSimpArgs false
set_option maxRecDepth 16000
namespace Go.AX
open Go.Proofs Go.Proofs.Tryz
section
variable {h : ao} {be bt ba bw bh : Nat} {mp : cg} {mb : List (Int × By)} {E : ES}
theorem ip(c:h[be]?=some (cE bt ba bw bh E)):aI prog 55 [.ptr be 0] h (λr h'=>h'=h∧r=.pv (BL true)):=by
 refine ij [] [.tmp 2] aP func55 ?_;obtain⟨b,a⟩:=Vp.1 c;simp[a,b,cE]
theorem Nr(c:h[be]?=some (cE bt ba bw bh E)):aI prog 17 [.ptr be 0] h (λr h'=>h'=h∧r=.pv (BL E.over)):=by
 refine ij [] [.tmp 2] aP func17 ?_;obtain⟨b,a⟩:=Vp.1 c;simp;refine ay.intro (ip c) ?_;rintro _ _ ⟨rfl,rfl⟩;simp[a,b,cE]
theorem pm(c:h[be]?=some (cE bt ba bw bh E)):aI prog 45 [.ptr be 0] h (λr h'=>h'=h∧r=.pv (ak E.many)):=by
 refine ij [] [.tmp 2] aP func45 ?_;obtain⟨b,a⟩:=Vp.1 c;simp;refine ay.intro (ip c) ?_;rintro _ _ ⟨rfl,rfl⟩;simp[a,b,cE]
def qL(E:ES):ES:=if E.over=true then E else{E with S:=(gv E.S E.T).1,T:=(gv E.S E.T).2.1,con:=(gv E.S E.T).2.2,calm:=decide ((gv E.S E.T).2.2<0)}
theorem Ns(L:LayE h be bt ba bw bh mp mb E){n:Nat}(o:WOk n E.S)(m:TOk n E.T):aI prog 43 [.ptr be 0] h (λr h'=>r=.pv (BL (!E.over&&!(qL E).calm))∧∃mb',LayE h' be bt ba bw bh mp mb' (qL E)∧Ext h h' (dH be bt ba bw bh mp mb) (dH be bt ba bw bh mp mb')):=by
 refine dh [] [.tmp 2] aP func43 ?_;obtain⟨c,b⟩:=Vp.1 L.e;have p:=MQ h bw ba bt mp mb E.A L.w o m;have a:qL E=if E.over=true then E else{E with S:=(gv E.S E.T).1,T:=(gv E.S E.T).2.1,con:=(gv E.S E.T).2.2,calm:=decide ((gv E.S E.T).2.2<0)}:=rfl;generalize qL E=E' at*;simp;refine ay.intro (ip L.e) ?_;rintro _ _ ⟨rfl,rfl⟩;cases ho:E.over;rotate_left;rw[Vt ho]at a;subst a;simp[b,c,cE,ho];exact⟨mb,L,Ext.refl _ _⟩;rw[Vs (by simp[ho])]at a;generalize gv E.S E.T=R at*;obtain⟨s,t,k⟩:=R;dsimp only at*;simp[b,c,cE,ho];refine ay.intro p ?_;rintro _ q ⟨rfl,d,j,g⟩;have f:=L.watch j g;obtain⟨l,g2⟩:=Vp.1 f.e;have L3:=f.eng E' (by rw[a]) (by rw[a]) (by rw[a]) (by rw[a]);have i:=(Ext.eng (be:=be) (bh:=bh) (ba:=ba) g).trans (Ext.set be (cE bt ba bw bh E') (.inl rfl));subst a;simp[l,g2,cE,ho]at L3 i⊢;exact⟨d,L3,i⟩
end
section
def wE(f:Int->Int)(l:af)(i:Nat):af:=(l.take i).map f++List.replicate (l.length -i) 0
theorem CL(f:Int->Int)(l:af)(i:Nat)(h:i<=l.length):(wE f l i).length=l.length:=by unfold wE;simp;omega
theorem CM(f:Int->Int)(l:af)(i:Nat)(h:i<l.length):(wE f l i).set i (f l[i])=wE f l (i+1):=by
 unfold wE;have e:l.length -i=(l.length -(i+1))+1:=by omega
 rw[e,Yv,XG _ _ (by simp;omega)];have a:i -((l.take i).map f).length=0:=by simp;omega
 rw[a,Zr,Ws h,V1,VP,Xg,VV];rfl
theorem CN(f:Int->Int)(l:af):wE f l l.length=l.map f:=by unfold wE;simp
section
variable {h : ao} {be bt ba bw bh : Nat} {mp : cg} {mb : List (Int × By)} {E : ES}
theorem Hw(L:LayE h be bt ba bw bh mp mb E)(hk:lX E.A)(j:E.A.row.length<=1000000)(l:af)(m:l.length<=1000000):aI prog 95 [.ptr be 0,.seq false 1 (am l)] h (λr h'=>h'=h∧r=.pv (.seq true 1 (am (l.map (iv E.A))))):=by
 refine fJ [] [.tmp 4] aP func95 ?_;obtain⟨g,b⟩:=Vp.1 L.e;have o:=λk=>MI h ba E.A L.w.a hk j k;simp[b,g,cE];refine⟨by omega,?_⟩;refine aM.intro (S:=λ(i:Nat)=>⟨[(5,.pv (.fn (.func 158) [.ptr ba 0] [])),(6,.own true 1 (am (wE (iv E.A) l i))),(17,.pv (.seq false 1 (am l))),(18,.pv (ak l.length)),(19,.pv (ak i))],h⟩) (λi=>i<=l.length) (λi=>l.length -i) 0 ?_ (VH _) ?_;exact av.keep (by simp[wE,am]) rfl;intro i hi;have d:=CL (iv E.A) l i hi;by_cases c:i<l.length;have n:=dU i;have hs:=CM (iv E.A) l i c;simp[c];refine ay.intro (o l[i]) ?_;rintro _ _ ⟨rfl,rfl⟩;simp[d,c];exact⟨i+1,by(try dsimp only);omega,by(try dsimp only);omega,av.keep (by simp[n,jn,hs]) rfl⟩;have f:i=l.length:=by omega
 subst f;simp[CN,cr,bX]
structure HpTo (n:Nat) (q q':HS):Prop where
  hp:HpG n 1000000000000 q'
  mem:∀v,v∈q.row->v∈q'.row
theorem HpTo.refl{n:Nat}{q:HS}(g:HpG n 1000000000000 q):HpTo n q q:=⟨g,λ_ h=>h⟩
theorem HpTo.trans{n:Nat}{a b c:HS}(x:HpTo n a b)(y:HpTo n b c):HpTo n a c:=⟨y.hp,λv h=>y.mem v (x.mem v h)⟩
theorem HpTo.bump{n:Nat}{q:HS}(g:HpG n 1000000000000 q)(v b:Int):HpTo n q (fY q v b).1:=⟨(yA g v b).1,λx hx=>(yA g v b).2.1.symm.subset hx⟩
theorem HpTo.halve{n:Nat}{q:HS}(g:HpG n 1000000000000 q):HpTo n q (dg q):=by
 obtain⟨a,b,_⟩:=nf (M:=500000000000) (g.mono (by decide)) (by decide) (by decide);exact⟨a.mono (by decide),λx hx=>b.symm.subset hx⟩
theorem HpTo.put{n:Nat}{q:HS}(g:HpG n 1000000000000 q)(v:Int):HpTo n q (fq q v).1:=by
 obtain⟨a,_,b,c⟩:=CA g v;refine⟨a,λx hx=>?_⟩;by_cases e:(fq q v).2=0;exact(b e).symm.subset (WG _ hx);rw[c e];exact hx
def Hx:Sch:=
 let a:Sch:=.fork [(10,.done)]
 let b:Sch:=.fork [(9,a)]
 let c:Sch:=.fork [(5,a)]
 let e:Sch:=.fork [(5,b),(9,c)]
 let d:Sch:=.fork [(3,a)]
 let f:Sch:=.fork [(3,b),(9,d)]
 let g:Sch:=.fork [(3,c),(5,d)]
 let h:Sch:=.fork [(3,e),(5,f),(9,g)]
 .take 0 (.take 1 (.take 2 (.take 4 (.take 6 (.take 7 (.take 8 h))))))
theorem Nt(L:LayE h be bt ba bw bh mp mb E){n:Nat}(hn:n<=100000)(g:HpG n 1000000000000 E.q)(hd:0<=E.decay∧E.decay<=100)(hi:0<=E.inc∧E.inc<=1000000000)(l:af)(K:l.length<=1000000):aI prog 96 [.ptr be 0,.seq false 1 (am l)] h (λr h'=>r=.pv (.tup [])∧∃q k,LayE h' be bt ba bw bh mp mb {E with q:=q,inc:=k}∧Ext h h' (dH be bt ba bw bh mp mb) (dH be bt ba bw bh mp mb)∧HpTo n E.q q∧0<=k∧k<=1000000000):=by
 refine dh [3] [] aP func96 ?_;simp;refine aM.intro (S:=λ(x:Nat×ao×HS)=>⟨[(0,.pv (.ptr be 0)),(6,.pv (.seq false 1 (am l))),(7,.pv (ak l.length)),(8,.pv (ak x.1))],x.2.1⟩)
  (λx=>x.1<=l.length∧LayE x.2.1 be bt ba bw bh mp mb {E with q:=x.2.2}∧Ext h x.2.1 (dH be bt ba bw bh mp mb) (dH be bt ba bw bh mp mb)∧HpTo n E.q x.2.2) (λx=>l.length -x.1) (0,h,E.q) ?_ ⟨VH _,L,Ext.refl _ _,.refl g⟩ ?_
 exact av.keep (by simp) rfl;rintro⟨i,H,q⟩ ⟨z,f,o,j⟩;dsimp only at z f o j;obtain⟨b,a⟩:=Vp.1 f.e;by_cases c:i<l.length;have B:=dU i;have T:=aX l[i];have P:=CB H bh q f.q j.hp hn (aq l[i]) E.inc;have m:=f.heap (fY q (aq l[i]) E.inc).1;have s:=o.trans (Ext.set bh (aH (fY q (aq l[i]) E.inc).1) (.inr (.inl rfl)));have w:=j.trans (HpTo.bump j.hp (aq l[i]) E.inc);generalize aq l[i]=v at*;generalize fY q v E.inc=R at*;simp[c];refine bP.meet Hx ⟨[(0,.pv (.ptr be 0)),(6,.pv (.seq false 1 (am l))),(7,.pv (ak l.length)),(8,.pv (ak i))],H.set bh (aH R.1)⟩ (by kernel_rfl) ?_ ?_
 .simp[Hx,a,b,cE]
  repeat' first
   |trivial
   |refine And.intro ?_ ?_
   |(refine ap.intro T ?_;simp[a,b,cE])
   |(refine ay.intro P ?_;rintro _ _ ⟨rfl,rfl⟩;simp;exact av.keep (by simp) rfl)
 simp;exact⟨(i+1,_,R.1),by dsimp only;omega,⟨by dsimp only;omega,m,s,w⟩,av.keep (by simp[B]) rfl⟩;have A:i=l.length:=by omega
 subst A;obtain⟨F,J⟩:=hd;obtain⟨N,O⟩:=hi;have M:0<=E.inc*E.decay∧E.inc*E.decay<=1000000000*100:=⟨Int.mul_nonneg N F,Int.mul_le_mul O J F (by decide)⟩;have G:bG (E.inc*E.decay)=E.inc*E.decay:=aC (by omega) (by omega);have t1:(E.inc*E.decay).tdiv 100=E.inc*E.decay/100:=Za M.1;have I:bG (E.inc*E.decay/100)=E.inc*E.decay/100:=aC (by omega) (by omega);have C:bG (E.inc+E.inc*E.decay/100)=E.inc+E.inc*E.decay/100:=aC (by omega) (by omega);obtain⟨k,hk⟩:∃k,E.inc+E.inc*E.decay/100=k:=⟨_,rfl⟩;have m:=f.eng {E with q:=q,inc:=k} rfl rfl rfl rfl;have s:=o.trans (Ext.set be (cE bt ba bw bh {E with q:=q,inc:=k}) (.inl rfl));have d:0<=k∧k<=2000000000:=by omega
 rw[hk]at C;simp[a,b,cE,G,t1,I,C,hk];simp only[cE]at m s;refine aM.intro (S:=λ(x:ao×HS×Int)=>⟨[(0,.pv (.ptr be 0))],x.1⟩)
  (λx=>LayE x.1 be bt ba bw bh mp mb {E with q:=x.2.1,inc:=x.2.2}∧Ext h x.1 (dH be bt ba bw bh mp mb) (dH be bt ba bw bh mp mb)∧HpTo n E.q x.2.1∧0<=x.2.2∧x.2.2<=2000000000) (λx=>x.2.2.toNat) (_,q,k) ?_ ⟨m,s,j,d⟩ ?_
 exact av.keep (by simp) rfl;clear f o j m s b a G t1 I C hk d;rintro⟨H,q,k⟩ ⟨f,o,j,d⟩;dsimp only at f o j d;obtain⟨b,a⟩:=Vp.1 f.e;by_cases c:1000000000<k;have B:bG (k.tdiv 2)=k/2:=by rw[Za d.1,aC (by omega) (by omega)]
 have p:=j.hp;have Q:=sW H bh q f.q (by rw[p.sl];omega) (by rw[p.pll];exact p.inr) (by rw[p.pll,p.sl]) (by have:=p.few;omega) (by rw[p.sl];omega);have m:=f.heap (dg q);have s:=o.trans (Ext.set bh (aH (dg q)) (.inr (.inl rfl)));have w:=j.trans (HpTo.halve p);generalize dg q=u at*;simp[c,a,b,cE];refine ay.intro Q ?_;rintro _ _ ⟨rfl,rfl⟩;obtain⟨t,y⟩:=Vp.1 m.e;have L3:=m.eng {E with q:=u,inc:=k/2} rfl rfl rfl rfl;have D:=s.trans (Ext.set be (cE bt ba bw bh {E with q:=u,inc:=k/2}) (.inl rfl));generalize H.set bh (aH u)=U at*;simp only[cE]at L3 D;simp[y,t,cE,B];exact⟨(_,u,k/2),by(try dsimp only);omega,⟨L3,D,w,by(try dsimp only);omega,by(try dsimp only);omega⟩,av.keep (by simp) rfl⟩;simp[c,a,b,cE];exact⟨q,k,f,o,j,d.1,by omega⟩
end
end
theorem CO(T:Tr):∀j,j<=T.lits.length->∀z,z∈wn T j↔z∈T.lits.drop (T.lits.length -j)
 |0,_,z=>by simp[wn]
 |j+1,hj,z=>by
  have c:T.lits.length -(j+1)<T.lits.length:=by omega
  have a:(popN T j).lits.getD ((popN T j).lits.length -1) 0=T.lits[T.lits.length -(j+1)]:=by
   have b:(popN T j).lits.length=T.lits.length -j:=by rw[fj,Vy];omega
   rw[b,fj,Vr,Wg,Vt (by omega),show T.lits.length -j -1=T.lits.length -(j+1) by omega,Vq c];rfl
  rw[wn,a,VF,CO T j (by omega) z,V3 c,show T.lits.length -(j+1)+1=T.lits.length -j by omega];simp[or_comm]
theorem Pz(h:ao)(b:Nat){n:Nat}(T:Tr)(i:h[b]?=some (iI T))(d:TOk n T)(v:Int):
 aI Tryz.prog 131 [.ptr b 0,ak v] h (λr h'=>h'=h.set b (iI (gh T v))∧∃zs,r=.pv (.seq true 1 (am zs))∧zs.length<=T.lits.length∧(∀z∈zs,z∈T.lits)∧∀z∈T.lits,z∉(gh T v).lits->z∈zs):=by
 have o:=d.few;have hn:=d.hn;by_cases c:(if v<0 then(0:Int)else v)<(T.beg.length:Int);obtain⟨k,hk⟩:∃k:Nat,(if v<0 then(0:Int)else v)=k:=⟨(if v<0 then(0:Int)else v).toNat,by split<;>omega⟩;have a:k<T.beg.length:=by rw[hk]at c;omega
 have e:T.beg.getD k 0=T.beg[k]:=by rw[Vr,Vq a];rfl
 have m:=d.bnd _ (Vx a);have g:gh T v=dt T k:=by unfold gh;rw[Vt c,hk];rfl
 have j:=CO T (T.lits.length -(T.beg[k]).toNat) (by omega);rw[g];refine(MT h b T i v k hk a (by rw[e];omega) (by omega) λy hy=>?_).mono ?_;obtain⟨_,_,_,p,q,_⟩:=cC hn (d.chk y hy);rw[d.len];omega;rintro r h' ⟨rfl,rfl⟩;rw[e];refine⟨rfl,_,rfl,by rw[wo];omega,λz hz=>XB ((j z).1 hz),λz hz f=>(j z).2 ?_⟩;rw[(d.back a).2.1]at f;rw[show T.lits.length -(T.lits.length -(T.beg[k]).toNat)=(T.beg[k]).toNat by omega];have:=Wz (T.beg[k]).toNat T.lits;rw[←this]at hz;exact(VF.1 hz).resolve_left f;have g:gh T v=T:=by unfold gh;rw[Vs c]
 rw[g,dG i];refine(MR h b T i v c).mono ?_;rintro r h' ⟨rfl,rfl⟩;exact⟨rfl,_,rfl,by simp,by simp,λz h1 l=>absurd h1 l⟩
def UP:Sch:=
 let a:Sch:=.fork [(6,.done)]
 let b:Sch:=.fork [(5,a)]
 let c:Sch:=.fork [(3,a)]
 .take 0 (.take 1 (.take 2 (.take 4 (.fork [(3,b),(5,c)]))))
section
variable {h : ao} {be bt ba bw bh : Nat} {mp : cg} {mb : List (Int × By)} {E : ES}
theorem CP(L:LayE h be bt ba bw bh mp mb E){n:Nat}(J:TOk n E.T)(g:HpG n 1000000000000 E.q)(hp:E.ph.length=n+1)(v:Int):
 aI Tryz.prog 69 [.ptr be 0,ak v] h (λr h'=>r=.pv (.tup [])∧∃q p,LayE h' be bt ba bw bh mp mb {E with T:=gh E.T v,q:=q,ph:=p,con:=-1,calm:=false}∧Ext h h' (dH be bt ba bw bh mp mb) (dH be bt ba bw bh mp mb)∧HpTo n E.q q∧p.length=n+1∧∀z∈E.T.lits,z∉(gh E.T v).lits->aq z∈q.row):=by
 refine dh [5] [] aP Tryz.func69 ?_;have hf:=J.few;have hn:=J.hn;obtain⟨U,O⟩:=Vp.1 L.e;have kB:=Pz h bt E.T L.w.t J v;have L1:=L.trail (gh E.T v);have X1:=Ext.set (D:=dH be bt ba bw bh mp mb) (h:=h) bt (iI (gh E.T v)) (.inr (.inr (.inr (.inr (.inl rfl)))));simp[O,U,cE];refine ay.intro kB ?_;rintro _ H1 ⟨rfl,zs,rfl,z1,z2,z3⟩;generalize h.set bt (iI (gh E.T v))=H1 at*;simp;refine aM.intro (S:=λ(x:Nat×ao×HS×dC)=>⟨[(0,.pv (.ptr be 0)),(11,.pv (.seq true 1 (am zs))),(12,.pv (ak zs.length)),(13,.pv (ak x.1))],x.2.1⟩)
  (λx=>x.1<=zs.length∧LayE x.2.1 be bt ba bw bh mp mb {E with T:=gh E.T v,q:=x.2.2.1,ph:=x.2.2.2}∧Ext h x.2.1 (dH be bt ba bw bh mp mb) (dH be bt ba bw bh mp mb)∧HpTo n E.q x.2.2.1∧x.2.2.2.length=n+1∧∀z∈zs.take x.1,aq z∈x.2.2.1.row)
  (λx=>zs.length -x.1) (0,H1,E.q,E.ph) ?_ ⟨VH _,L1,X1,.refl g,hp,by simp⟩ ?_
 exact av.keep (by simp) rfl;rintro⟨i,H,q,p⟩ ⟨P,I,N,y,s,hin⟩;dsimp only at P I N y s hin;obtain⟨f,o⟩:=Vp.1 I.e;by_cases c:i<zs.length;have hw:=dU i;obtain⟨_,_,_,p1,G,_⟩:=cC hn (J.chk _ (z2 _ (Vx c)));have K:=aX zs[i];have b:∀q':HS,HpTo n q q'->aq zs[i]∈q'.row->∀z∈zs.take (i+1),aq z∈q'.row:=λq' j h1 z hz=>by
  rw[Ws c,VF]at hz;rcases hz with hz|hz;exact j.mem _ (hin z hz);simp at hz;rw[hz];exact h1
 obtain⟨u,hu⟩:∃u:Nat,aq zs[i]=u:=⟨(aq zs[i]).toNat,by omega⟩;have l:=I.eng {E with T:=gh E.T v,q:=q,ph:=p.set u (decide (0<zs[i]))} rfl rfl rfl rfl;have A:=N.trans (Ext.set be (cE bt ba bw bh {E with T:=gh E.T v,q:=q,ph:=p.set u (decide (0<zs[i]))}) (.inl rfl));have X:u<p.length:=by omega
 rw[hu]at K b p1 G;have m:(p.set u (decide (0<zs[i]))).length=n+1:=by rw[VQ];exact s
 generalize hz:zs[i]=z at*;generalize W:p.set u (decide (0<z))=G at*;generalize C:H.set be (cE bt ba bw bh {E with T:=gh E.T v,q:=q,ph:=G})=M at*;simp only[cE]at C;obtain⟨a,k⟩:=Vp.1 l.e;have Y:=iR (q:=q) l.q;have j:=y.hp;have Z:=An q (by rw[j.sl];omega) (by rw[j.pll,j.sl]) u;have hv:ww q u=true:=j.isV_iff.2 (by omega);have F:=j.has_iff (v:=(u:Int)) (by omega);rw[hv,Yd]at Z;simp[c,o,f,cE,hz];refine bW.intro K ?_;simp[o,f,cE,X,Bl,W,C,k,a];refine bW.intro K ?_;simp[k,a,cE,Y];refine bW.intro Z ?_;rw[WH]at Z F;by_cases d:0<=q.pl.getD u 0;have V:=F.1 d;have B:¬q.pl.getD u 0<0:=by omega
 simp only[Vr]at d B;simp[d,B];exact⟨(i+1,M,q,G),by dsimp only;omega,⟨by dsimp only;omega,l,A,y,m,b q (.refl j) V⟩,av.keep (by simp[hw]) rfl⟩;have kP:=Pq M bh q l.q j hn u;have G3:=HpTo.put j (u:Int);have V:(u:Int)∈(fq q u).1.row:=by
  have h0:(fq q u).2=0:=by unfold fq;rw[Vs (by simp[hv]),Vs (by simpa using d)]
  exact((CA j (u:Int)).2.2.1 h0).symm.subset (by simp)
 have B:q.pl.getD u 0<0:=by omega
 have L3:=l.heap (fq q u).1;have X3:=A.trans (Ext.set bh (aH (fq q u).1) (.inr (.inl rfl)));generalize fq q u=R at*;simp only[Vr]at d B;simp[d,B];refine bP.meet UP ⟨[(0,.pv (.ptr be 0)),(11,.pv (.seq true 1 (am zs))),(12,.pv (ak zs.length)),(13,.pv (ak i))],M.set bh (aH R.1)⟩ (by kernel_rfl) ?_ ?_
 .simp[UP,k,a,cE]
  repeat' first
   |trivial
   |refine And.intro ?_ ?_
   |(refine ap.intro K ?_;simp[k,a,cE])
   |(refine ay.intro kP ?_;rintro _ _ ⟨rfl,rfl⟩;simp;exact av.keep (by simp) rfl)
 simp;exact⟨(i+1,_,R.1,G),by dsimp only;omega,⟨by dsimp only;omega,L3,X3,y.trans G3,m,b R.1 G3 V⟩,av.keep (by simp[hw]) rfl⟩;have Q:i=zs.length:=by omega
 subst Q;have l:=I.eng {E with T:=gh E.T v,q:=q,ph:=p,con:=-1,calm:=false} rfl rfl rfl rfl;have A:=N.trans (Ext.set be (cE bt ba bw bh {E with T:=gh E.T v,q:=q,ph:=p,con:=-1,calm:=false}) (.inl rfl));rw[VX]at hin;simp[o,f,cE]at l A⊢;exact⟨q,p,l,A,y,s,λz h1 h2=>hin z (z3 z h1 h2)⟩
end
def Vj:Sch:=
 let a:Sch:=.fork [(10,.take 11 (.take 12 (.take 13 (.take 14 (.take 15 .done)))))]
 let b:Sch:=.fork [(7,a)]
 let c:Sch:=.fork [(3,a)]
 .take 0 (.take 1 (.take 2 (.take 4 (.take 5 (.take 6 (.take 8 (.take 9 (.fork [(3,b),(7,c)]))))))))
def Fv(E:ES)(c:af)(b:Bool)(q:HS):ES:={E with id:=E.id+1,A:=d7 E.A (E.id+1) c b,over:=E.over||decide (c.length=0),S:=qI (d7 E.A (E.id+1) c b) E.T E.S E.A.row.length,q:=q}
section
variable {h : ao} {be bt ba bw bh : Nat} {mp : cg} {mb : List (Int × By)} {E : ES}
theorem Hy(L:LayE h be bt ba bw bh mp mb E){n:Nat}(G:TOk n E.T)(g:HpG n 1000000000000 E.q)(oL:0<=E.id∧E.id<=1000000)(c:af)(b:Bool)(hp:lp (E.id+1) c=0)(hk:lX (d7 E.A (E.id+1) c b))(hr:(d7 E.A (E.id+1) c b).row.length<=1000000)(aa:E.A.row.length<=1000000)(hc:c.length<=1000000):
 aI Tryz.prog 68 [.ptr be 0,.seq false 1 (am c),BL b] h (λr h'=>r=.pv (ak E.A.row.length)∧∃mp' q,LayE h' be bt ba bw bh mp' mb (Fv E c b q)∧Ext h h' (dH be bt ba bw bh mp mb) (dH be bt ba bw bh mp' mb)∧HpTo n E.q q):=by
 refine dh [2,8] [.tmp 6] aP Tryz.func68 ?_;have hf:=G.few;have hn:=G.hn;have K:bG (E.id+1)=E.id+1:=aC (by omega) (by omega);obtain⟨j,f⟩:=Vp.1 L.e;have y:=L.eng {E with id:=E.id+1} rfl rfl rfl rfl;have O:=Ext.set (D:=dH be bt ba bw bh mp mb) (h:=h) be (cE bt ba bw bh {E with id:=E.id+1}) (.inl rfl);generalize l:h.set be (cE bt ba bw bh {E with id:=E.id+1})=B at*;simp only[cE]at l;simp[f,j,cE,K,l];clear j f;obtain⟨j,f⟩:=Vp.1 y.e;have M:=MU B ba E.A y.w.a (E.id+1) c b hc (by omega);rw[hp]at M;have t:=y.arena (d7 E.A (E.id+1) c b);have z:=O.trans (Ext.set ba (kJ (d7 E.A (E.id+1) c b)) (.inr (.inr (.inl rfl))));have Q:Fv E c b=λq=>{E with id:=E.id+1,A:=d7 E.A (E.id+1) c b,over:=E.over||decide (c.length=0),S:=qI (d7 E.A (E.id+1) c b) E.T E.S E.A.row.length,q:=q}:=rfl;obtain⟨ov,o⟩:∃x,decide (c.length=0)=x:=⟨_,rfl⟩;rw[o]at Q;simp only[WA]at o;generalize Fv E c b=AE at*;generalize d7 E.A (E.id+1) c b=k at*;refine bP.meet Vj ⟨[(0,.pv (.ptr be 0)),(1,.pv (.seq false 1 (am c))),(2,.pv (BL b)),(6,.pv (ak 0)),(7,.pv (ak E.A.row.length))],B.set ba (kJ k)⟩ (by kernel_rfl) ?_ ?_
 .simp[Vj,f,j,cE]
  repeat' first
   |trivial
   |refine And.intro ?_ ?_
   |(refine ay.intro M ?_;rintro _ _ ⟨rfl,rfl⟩;simp;exact av.keep (by simp) rfl)
 clear j f;generalize B.set ba (kJ k)=W at*;obtain⟨j,f⟩:=Vp.1 t.e;have L3:=t.eng {E with id:=E.id+1,A:=k,over:=E.over||ov} rfl rfl rfl rfl;have P:=z.trans (Ext.set be (cE bt ba bw bh {E with id:=E.id+1,A:=k,over:=E.over||ov}) (.inl rfl));generalize m:W.set be (cE bt ba bw bh {E with id:=E.id+1,A:=k,over:=E.over||ov})=X at*;simp only[cE]at m;have U:=Fe X bw ba bt mp mb k E.T E.S L3.w hk hr (by rw[G.len];omega) (by omega) E.A.row.length;simp[f,j,cE,o,m];clear j f;obtain⟨j,f⟩:=Vp.1 L3.e;simp[f,j,cE];refine ay.intro U ?_;rintro _ Y ⟨rfl,p,N,C⟩;have Z:=L3.watch N C;have X5:=P.trans (Ext.eng (be:=be) (bh:=bh) (ba:=ba) C);clear L y t L3 O z P C N U j f l m M;generalize qI k E.T E.S E.A.row.length=S2 at*;simp;refine aM.intro (S:=λ(x:Nat×ao×HS)=>⟨[(0,.pv (.ptr be 0)),(7,.pv (ak E.A.row.length)),(50,.pv (.seq false 1 (am c))),(51,.pv (ak c.length)),(52,.pv (ak x.1))],x.2.1⟩)
  (λx=>x.1<=c.length∧LayE x.2.1 be bt ba bw bh p mb {E with id:=E.id+1,A:=k,over:=E.over||ov,S:=S2,q:=x.2.2}∧Ext h x.2.1 (dH be bt ba bw bh mp mb) (dH be bt ba bw bh p mb)∧HpTo n E.q x.2.2) (λx=>c.length -x.1) (0,Y,E.q) ?_ ⟨VH _,Z,X5,.refl g⟩ ?_
 exact av.keep (by simp) rfl;rintro⟨i,H,q⟩ ⟨I,u,F,s⟩;dsimp only at I u F s;obtain⟨j,f⟩:=Vp.1 u.e;by_cases d:i<c.length;have hw:=dU i;have kV:=aX c[i];have kB:=CB H bh q u.q s.hp hn (aq c[i]) 1;have t:=u.heap (fY q (aq c[i]) 1).1;have z:=F.trans (Ext.set bh (aH (fY q (aq c[i]) 1).1) (.inr (.inl rfl)));have V:=s.trans (HpTo.bump s.hp (aq c[i]) 1);generalize aq c[i]=v at*;generalize fY q v 1=R at*;simp[d];refine bP.meet UP ⟨[(0,.pv (.ptr be 0)),(7,.pv (ak E.A.row.length)),(50,.pv (.seq false 1 (am c))),(51,.pv (ak c.length)),(52,.pv (ak i))],H.set bh (aH R.1)⟩ (by kernel_rfl) ?_ ?_
 .simp[UP,f,j,cE]
  repeat' first
   |trivial
   |refine And.intro ?_ ?_
   |(refine ap.intro kV ?_;simp[f,j,cE])
   |(refine ay.intro kB ?_;rintro _ _ ⟨rfl,rfl⟩;simp;exact av.keep (by simp) rfl)
 simp;exact⟨(i+1,_,R.1),by dsimp only;omega,⟨by dsimp only;omega,t,z,V⟩,av.keep (by simp[hw]) rfl⟩;have J:i=c.length:=by omega
 subst J;simp;exact⟨p,q,by rw[Q];exact u,F,s⟩
end
end Go.AX
