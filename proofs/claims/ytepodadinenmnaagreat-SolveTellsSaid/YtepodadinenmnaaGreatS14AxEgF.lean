/-
  Contracts: engines: what only asks, and Propagate; and what follows.
-/
import Derived.Test.YtepodadinenmnaaGreatS14AxEgR
import Derived.Test.YtepodadinenmnaaGreatS14AxHpG
import Derived.Test.YtepodadinenmnaaGreatS14AxLuA
import Derived.Test.YtepodadinenmnaaGreatS14AxEvC
set_option linter.unusedSimpArgs false
namespace Go.AX
open Go.Proofs
section
variable {h : List (List SV)} {be bt ba bw bh : Nat} {mp : List (Int × Nat)} {mb : List (Int × By)} {E : ES}
theorem gg(c:h[be]?=some (bO bt ba bw bh E)):aA Tryz.prog 55 [.ptr be 0] h (λr h'=>h'=h∧r=.pv (BL true)):=by
 refine gy [] [.tmp 2] aD Tryz.func55 ?_;obtain⟨b,a⟩:=SQ.1 c;simp[a,b,bO]
theorem Ky(c:h[be]?=some (bO bt ba bw bh E)):aA Tryz.prog 17 [.ptr be 0] h (λr h'=>h'=h∧r=.pv (BL E.over)):=by
 refine gy [] [.tmp 2] aD Tryz.func17 ?_;obtain⟨b,a⟩:=SQ.1 c;simp;refine am.intro (gg c) ?_;rintro _ _ ⟨rfl,rfl⟩;simp[a,b,bO]
theorem nF(c:h[be]?=some (bO bt ba bw bh E)):aA Tryz.prog 45 [.ptr be 0] h (λr h'=>h'=h∧r=.pv (ab E.many)):=by
 refine gy [] [.tmp 2] aD Tryz.func45 ?_;obtain⟨b,a⟩:=SQ.1 c;simp;refine am.intro (gg c) ?_;rintro _ _ ⟨rfl,rfl⟩;simp[a,b,bO]
def o5(E:ES):ES:=if E.over=true then E else{E with S:=(fo E.S E.T).1,T:=(fo E.S E.T).2.1,con:=(fo E.S E.T).2.2,calm:=decide ((fo E.S E.T).2.2<0)}
set_option maxRecDepth 16000 in
theorem Kz(L:LayE h be bt ba bw bh mp mb E){n:Nat}(o:WOk n E.S)(m:TOk n E.T):aA Tryz.prog 43 [.ptr be 0] h (λr h'=>r=.pv (BL (!E.over&&!(o5 E).calm))∧∃mb',LayE h' be bt ba bw bh mp mb' (o5 E)∧Ext h h' (cO be bt ba bw bh mp mb) (cO be bt ba bw bh mp mb')):=by
 refine cQ [] [.tmp 2] aD Tryz.func43 ?_;obtain⟨c,b⟩:=SQ.1 L.e;have p:=JX h bw ba bt mp mb E.A L.w o m;have a:o5 E=if E.over=true then E else{E with S:=(fo E.S E.T).1,T:=(fo E.S E.T).2.1,con:=(fo E.S E.T).2.2,calm:=decide ((fo E.S E.T).2.2<0)}:=rfl;generalize o5 E=E' at*;simp;refine am.intro (gg L.e) ?_;rintro _ _ ⟨rfl,rfl⟩;cases ho:E.over
 rotate_left
 .rw[SX ho]at a;subst a;simp[b,c,bO,ho];exact⟨mb,L,Ext.refl _ _⟩
 rw[SU (by simp[ho])]at a;generalize fo E.S E.T=R at*;obtain⟨s,t,k⟩:=R;dsimp only at*;simp[b,c,bO,ho];refine am.intro p ?_;rintro _ q ⟨rfl,d,j,g⟩;have f:=L.watch j g;obtain⟨l,g2⟩:=SQ.1 f.e;have L3:=f.eng E' (by rw[a]) (by rw[a]) (by rw[a]) (by rw[a]);have i:=(Ext.eng (be:=be) (bh:=bh) (ba:=ba) g).trans (Ext.set be (bO bt ba bw bh E') (.inl rfl));subst a;simp[l,g2,bO,ho]at L3 i⊢;exact⟨d,L3,i⟩
end
end Go.AX
namespace Go.AX
set_option maxRecDepth 16000
open Go.Proofs
def uw(f:Int->Int)(l:List Int)(i:Nat):List Int:=(l.take i).map f++List.replicate (l.length -i) 0
theorem AN(f:Int->Int)(l:List Int)(i:Nat)(h:i<=l.length):(uw f l i).length=l.length:=by unfold uw;simp;omega
theorem AO(f:Int->Int)(l:List Int)(i:Nat)(h:i<l.length):(uw f l i).set i (f l[i])=uw f l (i+1):=by
 unfold uw;have e:l.length -i=(l.length -(i+1))+1:=by omega
 rw[e,Wr,VR _ _ (by simp;omega)];have a:i -((l.take i).map f).length=0:=by simp;omega
 rw[a,WC,Us h,Tu,Tn,Vg,Tv];rfl
theorem AP(f:Int->Int)(l:List Int):uw f l l.length=l.map f:=by unfold uw;simp
section
variable {h : List (List SV)} {be bt ba bw bh : Nat} {mp : List (Int × Nat)} {mb : List (Int × By)} {E : ES}
theorem EW(L:LayE h be bt ba bw bh mp mb E)(hk:j0 E.A)(j:E.A.row.length<=1000000)(l:List Int)(m:l.length<=1000000):aA Tryz.prog 95 [.ptr be 0,.seq false 1 (ae l)] h (λr h'=>h'=h∧r=.pv (.seq true 1 (ae (l.map (gn E.A))))):=by
 refine d7 [] [.tmp 4] aD Tryz.func95 ?_;obtain⟨g,b⟩:=SQ.1 L.e;have o:=λk=>JO h ba E.A L.w.a hk j k;simp[b,g,bO];refine⟨by omega,?_⟩;refine ax.intro (S:=λ(i:Nat)=>⟨[(5,.pv (.fn (.func 158) [.ptr ba 0] [])),(6,.own true 1 (ae (uw (gn E.A) l i))),(17,.pv (.seq false 1 (ae l))),(18,.pv (ab l.length)),(19,.pv (ab i))],h⟩) (λi=>i<=l.length) (λi=>l.length -i) 0 ?_ (Tf _) ?_
 .exact ah.keep (by simp[uw,ae]) rfl
 intro i hi;have d:=AN (gn E.A) l i hi
 by_cases c:i<l.length
 .have n:=dv i;have hs:=AO (gn E.A) l i c;simp[c];refine am.intro (o l[i]) ?_;rintro _ _ ⟨rfl,rfl⟩;simp[d,c];exact⟨i+1,by(try dsimp only);omega,by(try dsimp only);omega,ah.keep (by simp[n,gZ,hs]) rfl⟩
 .have f:i=l.length:=by omega
  subst f;simp[AP,bB,bc]
structure HpTo (n:Nat) (q q':HS):Prop where
  hp:HpG n 1000000000000 q'
  mem:∀v,v∈q.row->v∈q'.row
theorem HpTo.refl{n:Nat}{q:HS}(g:HpG n 1000000000000 q):HpTo n q q:=⟨g,λ_ h=>h⟩
theorem HpTo.trans{n:Nat}{a b c:HS}(x:HpTo n a b)(y:HpTo n b c):HpTo n a c:=⟨y.hp,λv h=>y.mem v (x.mem v h)⟩
theorem HpTo.bump{n:Nat}{q:HS}(g:HpG n 1000000000000 q)(v b:Int):HpTo n q (eP q v b).1:=⟨(wy g v b).1,λx hx=>(wy g v b).2.1.symm.subset hx⟩
theorem HpTo.halve{n:Nat}{q:HS}(g:HpG n 1000000000000 q):HpTo n q (cq q):=by
 obtain⟨a,b,_⟩:=lP (M:=500000000000) (g.mono (by decide)) (by decide) (by decide);exact⟨a.mono (by decide),λx hx=>b.symm.subset hx⟩
theorem HpTo.put{n:Nat}{q:HS}(g:HpG n 1000000000000 q)(v:Int):HpTo n q (eq q v).1:=by
 obtain⟨a,_,b,c⟩:=Az g v;refine⟨a,λx hx=>?_⟩
 by_cases e:(eq q v).2=0
 .exact(b e).symm.subset (Up _ hx)
 .rw[c e];exact hx
def EX:Sch:=
 let a:Sch:=.fork [(10,.done)]
 let b:Sch:=.fork [(9,a)]
 let c:Sch:=.fork [(5,a)]
 let e:Sch:=.fork [(5,b),(9,c)]
 let d:Sch:=.fork [(3,a)]
 let f:Sch:=.fork [(3,b),(9,d)]
 let g:Sch:=.fork [(3,c),(5,d)]
 let h:Sch:=.fork [(3,e),(5,f),(9,g)]
 .take 0 (.take 1 (.take 2 (.take 4 (.take 6 (.take 7 (.take 8 h))))))
theorem KA(L:LayE h be bt ba bw bh mp mb E){n:Nat}(hn:n<=100000)(g:HpG n 1000000000000 E.q)(hd:0<=E.decay∧E.decay<=100)(hi:0<=E.inc∧E.inc<=1000000000)(l:List Int)(K:l.length<=1000000):aA Tryz.prog 96 [.ptr be 0,.seq false 1 (ae l)] h (λr h'=>r=.pv (.tup [])∧∃q k,LayE h' be bt ba bw bh mp mb {E with q:=q,inc:=k}∧Ext h h' (cO be bt ba bw bh mp mb) (cO be bt ba bw bh mp mb)∧HpTo n E.q q∧0<=k∧k<=1000000000):=by
 refine cQ [3] [] aD Tryz.func96 ?_;simp;refine ax.intro (S:=λ(x:Nat×List (List SV)×HS)=>⟨[(0,.pv (.ptr be 0)),(6,.pv (.seq false 1 (ae l))),(7,.pv (ab l.length)),(8,.pv (ab x.1))],x.2.1⟩)
  (λx=>x.1<=l.length∧LayE x.2.1 be bt ba bw bh mp mb {E with q:=x.2.2}∧Ext h x.2.1 (cO be bt ba bw bh mp mb) (cO be bt ba bw bh mp mb)∧HpTo n E.q x.2.2) (λx=>l.length -x.1) (0,h,E.q) ?_ ⟨Tf _,L,Ext.refl _ _,.refl g⟩ ?_
 .exact ah.keep (by simp) rfl
 rintro⟨i,H,q⟩ ⟨z,f,o,j⟩;dsimp only at z f o j;obtain⟨b,a⟩:=SQ.1 f.e
 by_cases c:i<l.length
 .have B:=dv i;have T:=aK l[i];have P:=AA H bh q f.q j.hp hn (af l[i]) E.inc;have m:=f.heap (eP q (af l[i]) E.inc).1;have s:=o.trans (Ext.set bh (au (eP q (af l[i]) E.inc).1) (.inr (.inl rfl)));have w:=j.trans (HpTo.bump j.hp (af l[i]) E.inc);generalize af l[i]=v at*;generalize eP q v E.inc=R at*;simp[c];refine aT.meet EX ⟨[(0,.pv (.ptr be 0)),(6,.pv (.seq false 1 (ae l))),(7,.pv (ab l.length)),(8,.pv (ab i))],H.set bh (au R.1)⟩ (by kernel_rfl) ?_ ?_
  .simp[EX,a,b,bO]
   repeat' first
    |trivial
    |refine And.intro ?_ ?_
    |(refine ai.intro T ?_;simp[a,b,bO])
    |(refine am.intro P ?_;rintro _ _ ⟨rfl,rfl⟩;simp;exact ah.keep (by simp) rfl)
  .simp;exact⟨(i+1,_,R.1),by(try dsimp only);omega,⟨by(try dsimp only);omega,m,s,w⟩,ah.keep (by simp[B]) rfl⟩
 .have A:i=l.length:=by omega
  subst A;obtain⟨F,J⟩:=hd;obtain⟨N,O⟩:=hi;have M:0<=E.inc*E.decay∧E.inc*E.decay<=1000000000*100:=⟨Int.mul_nonneg N F,Int.mul_le_mul O J F (by decide)⟩;have G:aX (E.inc*E.decay)=E.inc*E.decay:=ao (by omega) (by omega);have t1:(E.inc*E.decay).tdiv 100=E.inc*E.decay/100:=Wi M.1;have I:aX (E.inc*E.decay/100)=E.inc*E.decay/100:=ao (by omega) (by omega);have C:aX (E.inc+E.inc*E.decay/100)=E.inc+E.inc*E.decay/100:=ao (by omega) (by omega);obtain⟨k,hk⟩:∃k,E.inc+E.inc*E.decay/100=k:=⟨_,rfl⟩;have m:=f.eng {E with q:=q,inc:=k} rfl rfl rfl rfl;have s:=o.trans (Ext.set be (bO bt ba bw bh {E with q:=q,inc:=k}) (.inl rfl));have d:0<=k∧k<=2000000000:=by omega
  rw[hk]at C;simp[a,b,bO,G,t1,I,C,hk];simp only[bO]at m s;refine ax.intro (S:=λ(x:List (List SV)×HS×Int)=>⟨[(0,.pv (.ptr be 0))],x.1⟩)
   (λx=>LayE x.1 be bt ba bw bh mp mb {E with q:=x.2.1,inc:=x.2.2}∧Ext h x.1 (cO be bt ba bw bh mp mb) (cO be bt ba bw bh mp mb)∧HpTo n E.q x.2.1∧0<=x.2.2∧x.2.2<=2000000000) (λx=>x.2.2.toNat) (_,q,k) ?_ ⟨m,s,j,d⟩ ?_
  .exact ah.keep (by simp) rfl
  clear f o j m s b a G t1 I C hk d;rintro⟨H,q,k⟩ ⟨f,o,j,d⟩;dsimp only at f o j d;obtain⟨b,a⟩:=SQ.1 f.e
  by_cases c:1000000000<k
  .have B:aX (k.tdiv 2)=k/2:=by rw[Wi d.1,ao (by omega) (by omega)]
   have p:=j.hp;have Q:=qT H bh q f.q (by rw[p.sl];omega) (by rw[p.pll];exact p.inr) (by rw[p.pll,p.sl]) (by have:=p.few;omega) (by rw[p.sl];omega);have m:=f.heap (cq q);have s:=o.trans (Ext.set bh (au (cq q)) (.inr (.inl rfl)));have w:=j.trans (HpTo.halve p);generalize cq q=u at*;simp[c,a,b,bO];refine am.intro Q ?_;rintro _ _ ⟨rfl,rfl⟩;obtain⟨t,y⟩:=SQ.1 m.e;have L3:=m.eng {E with q:=u,inc:=k/2} rfl rfl rfl rfl;have D:=s.trans (Ext.set be (bO bt ba bw bh {E with q:=u,inc:=k/2}) (.inl rfl));generalize H.set bh (au u)=U at*;simp only[bO]at L3 D;simp[y,t,bO,B];exact⟨(_,u,k/2),by(try dsimp only);omega,⟨L3,D,w,by(try dsimp only);omega,by(try dsimp only);omega⟩,ah.keep (by simp) rfl⟩
  .simp[c,a,b,bO];exact⟨q,k,f,o,j,d.1,by omega⟩
end
end Go.AX
namespace Go.AX
open Go.Proofs
theorem AR(T:Tr):∀j,j<=T.lits.length->∀z,z∈uh T j↔z∈T.lits.drop (T.lits.length -j)
 |0,_,z=>by simp[uh]
 |j+1,hj,z=>by
  have c:T.lits.length -(j+1)<T.lits.length:=by omega
  have a:(popN T j).lits.getD ((popN T j).lits.length -1) 0=T.lits[T.lits.length -(j+1)]:=by
   have b:(popN T j).lits.length=T.lits.length -j:=by rw[d6,S6];omega
   rw[b,d6,SS,TY,SX (by omega),show T.lits.length -j -1=T.lits.length -(j+1) by omega,SR c];rfl
  rw[uh,a,Te,AR T j (by omega) z,TG c,show T.lits.length -(j+1)+1=T.lits.length -j by omega];simp[or_comm]
theorem MK(h:List (List SV))(b:Nat){n:Nat}(T:Tr)(i:h[b]?=some (gA T))(d:TOk n T)(v:Int):
 aA Tryz.prog 131 [.ptr b 0,ab v] h (λr h'=>h'=h.set b (gA (eW T v))∧∃zs,r=.pv (.seq true 1 (ae zs))∧zs.length<=T.lits.length∧(∀z∈zs,z∈T.lits)∧∀z∈T.lits,z∉(eW T v).lits->z∈zs):=by
 have o:=d.few;have hn:=d.hn
 by_cases c:(if v<0 then(0:Int)else v)<(T.beg.length:Int)
 .obtain⟨k,hk⟩:∃k:Nat,(if v<0 then(0:Int)else v)=k:=⟨(if v<0 then(0:Int)else v).toNat,by split<;>omega⟩;have a:k<T.beg.length:=by rw[hk]at c;omega
  have e:T.beg.getD k 0=T.beg[k]:=by rw[SS,SR a];rfl
  have m:=d.bnd _ (S5 a);have g:eW T v=cw T k:=by unfold eW;rw[SX c,hk];rfl
  have j:=AR T (T.lits.length -(T.beg[k]).toNat) (by omega);rw[g];refine(JZ h b T i v k hk a (by rw[e];omega) (by omega) λy hy=>?_).mono ?_
  .obtain⟨_,_,_,p,q,_⟩:=br hn (d.chk y hy);rw[d.len];omega
  .rintro r h' ⟨rfl,rfl⟩;rw[e];refine⟨rfl,_,rfl,by rw[ui];omega,λz hz=>U3 ((j z).1 hz),λz hz f=>(j z).2 ?_⟩;rw[(d.back a).2.1]at f;rw[show T.lits.length -(T.lits.length -(T.beg[k]).toNat)=(T.beg[k]).toNat by omega];have:=T7 (T.beg[k]).toNat T.lits;rw[←this]at hz;exact(Te.1 hz).resolve_left f
 .have g:eW T v=T:=by unfold eW;rw[SU c]
  rw[g,cN i];refine(JY h b T i v c).mono ?_;rintro r h' ⟨rfl,rfl⟩;exact⟨rfl,_,rfl,by simp,by simp,λz h1 l=>absurd h1 l⟩
def R5:Sch:=
 let a:Sch:=.fork [(6,.done)]
 let b:Sch:=.fork [(5,a)]
 let c:Sch:=.fork [(3,a)]
 .take 0 (.take 1 (.take 2 (.take 4 (.fork [(3,b),(5,c)]))))
section
variable {h : List (List SV)} {be bt ba bw bh : Nat} {mp : List (Int × Nat)} {mb : List (Int × By)} {E : ES}
set_option maxRecDepth 16000 in
theorem AS(L:LayE h be bt ba bw bh mp mb E){n:Nat}(J:TOk n E.T)(g:HpG n 1000000000000 E.q)(hp:E.ph.length=n+1)(v:Int):
 aA Tryz.prog 69 [.ptr be 0,ab v] h (λr h'=>r=.pv (.tup [])∧∃q p,LayE h' be bt ba bw bh mp mb {E with T:=eW E.T v,q:=q,ph:=p,con:=-1,calm:=false}∧Ext h h' (cO be bt ba bw bh mp mb) (cO be bt ba bw bh mp mb)∧HpTo n E.q q∧p.length=n+1∧∀z∈E.T.lits,z∉(eW E.T v).lits->af z∈q.row):=by
 refine cQ [5] [] aD Tryz.func69 ?_;have hf:=J.few;have hn:=J.hn;obtain⟨U,O⟩:=SQ.1 L.e;have kB:=MK h bt E.T L.w.t J v;have L1:=L.trail (eW E.T v);have X1:=Ext.set (D:=cO be bt ba bw bh mp mb) (h:=h) bt (gA (eW E.T v)) (.inr (.inr (.inr (.inr (.inl rfl)))));simp[O,U,bO];refine am.intro kB ?_;rintro _ H1 ⟨rfl,zs,rfl,z1,z2,z3⟩;generalize h.set bt (gA (eW E.T v))=H1 at*;simp;refine ax.intro (S:=λ(x:Nat×List (List SV)×HS×List Bool)=>⟨[(0,.pv (.ptr be 0)),(11,.pv (.seq true 1 (ae zs))),(12,.pv (ab zs.length)),(13,.pv (ab x.1))],x.2.1⟩)
  (λx=>x.1<=zs.length∧LayE x.2.1 be bt ba bw bh mp mb {E with T:=eW E.T v,q:=x.2.2.1,ph:=x.2.2.2}∧Ext h x.2.1 (cO be bt ba bw bh mp mb) (cO be bt ba bw bh mp mb)∧HpTo n E.q x.2.2.1∧x.2.2.2.length=n+1∧∀z∈zs.take x.1,af z∈x.2.2.1.row)
  (λx=>zs.length -x.1) (0,H1,E.q,E.ph) ?_ ⟨Tf _,L1,X1,.refl g,hp,by simp⟩ ?_
 .exact ah.keep (by simp) rfl
 rintro⟨i,H,q,p⟩ ⟨P,I,N,y,s,hin⟩;dsimp only at P I N y s hin;obtain⟨f,o⟩:=SQ.1 I.e
 by_cases c:i<zs.length
 .have hw:=dv i;obtain⟨_,_,_,p1,G,_⟩:=br hn (J.chk _ (z2 _ (S5 c)));have K:=aK zs[i];have b:∀q':HS,HpTo n q q'->af zs[i]∈q'.row->∀z∈zs.take (i+1),af z∈q'.row:=λq' j h1 z hz=>by
   rw[Us c,Te]at hz;rcases hz with hz|hz
   .exact j.mem _ (hin z hz)
   .simp at hz;rw[hz];exact h1
  obtain⟨u,hu⟩:∃u:Nat,af zs[i]=u:=⟨(af zs[i]).toNat,by omega⟩;have l:=I.eng {E with T:=eW E.T v,q:=q,ph:=p.set u (decide (0<zs[i]))} rfl rfl rfl rfl;have A:=N.trans (Ext.set be (bO bt ba bw bh {E with T:=eW E.T v,q:=q,ph:=p.set u (decide (0<zs[i]))}) (.inl rfl));have X:u<p.length:=by omega
  rw[hu]at K b p1 G;have m:(p.set u (decide (0<zs[i]))).length=n+1:=by rw[Tt];exact s
  generalize hz:zs[i]=z at*;generalize W:p.set u (decide (0<z))=G at*;generalize C:H.set be (bO bt ba bw bh {E with T:=eW E.T v,q:=q,ph:=G})=M at*;simp only[bO]at C;obtain⟨a,k⟩:=SQ.1 l.e;have Y:=gG (q:=q) l.q;have j:=y.hp;have Z:=ya q (by rw[j.sl];omega) (by rw[j.pll,j.sl]) u;have hv:um q u=true:=j.isV_iff.2 (by omega);have F:=j.has_iff (v:=(u:Int)) (by omega);rw[hv,Vu]at Z;simp[c,o,f,bO,hz];refine bz.intro K ?_;simp[o,f,bO,X,zj,W,C,k,a];refine bz.intro K ?_;simp[k,a,bO,Y];refine bz.intro Z ?_;rw[Uc]at Z F
  by_cases d:0<=q.pl.getD u 0
  .have V:=F.1 d;have B:¬q.pl.getD u 0<0:=by omega
   simp only[SS]at d B;simp[d,B];exact⟨(i+1,M,q,G),by(try dsimp only);omega,⟨by(try dsimp only);omega,l,A,y,m,b q (.refl j) V⟩,ah.keep (by simp[hw]) rfl⟩
  .have kP:=MC M bh q l.q j hn u;have G3:=HpTo.put j (u:Int);have V:(u:Int)∈(eq q u).1.row:=by
    have h0:(eq q u).2=0:=by unfold eq;rw[SU (by simp[hv]),SU (by simpa using d)]
    exact((Az j (u:Int)).2.2.1 h0).symm.subset (by simp)
   have B:q.pl.getD u 0<0:=by omega
   have L3:=l.heap (eq q u).1;have X3:=A.trans (Ext.set bh (au (eq q u).1) (.inr (.inl rfl)));generalize eq q u=R at*;simp only[SS]at d B;simp[d,B];refine aT.meet R5 ⟨[(0,.pv (.ptr be 0)),(11,.pv (.seq true 1 (ae zs))),(12,.pv (ab zs.length)),(13,.pv (ab i))],M.set bh (au R.1)⟩ (by kernel_rfl) ?_ ?_
   .simp[R5,k,a,bO]
    repeat' first
     |trivial
     |refine And.intro ?_ ?_
     |(refine ai.intro K ?_;simp[k,a,bO])
     |(refine am.intro kP ?_;rintro _ _ ⟨rfl,rfl⟩;simp;exact ah.keep (by simp) rfl)
   .simp;exact⟨(i+1,_,R.1,G),by(try dsimp only);omega,⟨by(try dsimp only);omega,L3,X3,y.trans G3,m,b R.1 G3 V⟩,ah.keep (by simp[hw]) rfl⟩
 .have Q:i=zs.length:=by omega
  subst Q;have l:=I.eng {E with T:=eW E.T v,q:=q,ph:=p,con:=-1,calm:=false} rfl rfl rfl rfl;have A:=N.trans (Ext.set be (bO bt ba bw bh {E with T:=eW E.T v,q:=q,ph:=p,con:=-1,calm:=false}) (.inl rfl));rw[Tw]at hin;simp[o,f,bO]at l A⊢;exact⟨q,p,l,A,y,s,λz h1 h2=>hin z (z3 z h1 h2)⟩
end
def SI:Sch:=
 let a:Sch:=.fork [(10,.take 11 (.take 12 (.take 13 (.take 14 (.take 15 .done)))))]
 let b:Sch:=.fork [(7,a)]
 let c:Sch:=.fork [(3,a)]
 .take 0 (.take 1 (.take 2 (.take 4 (.take 5 (.take 6 (.take 8 (.take 9 (.fork [(3,b),(7,c)]))))))))
def C1(E:ES)(c:List Int)(b:Bool)(q:HS):ES:={E with id:=E.id+1,A:=dg E.A (E.id+1) c b,over:=E.over||decide (c.length=0),S:=oY (dg E.A (E.id+1) c b) E.T E.S E.A.row.length,q:=q}
section
variable {h : List (List SV)} {be bt ba bw bh : Nat} {mp : List (Int × Nat)} {mb : List (Int × By)} {E : ES}
set_option maxRecDepth 16000 in
theorem EY(L:LayE h be bt ba bw bh mp mb E){n:Nat}(G:TOk n E.T)(g:HpG n 1000000000000 E.q)(nh:0<=E.id∧E.id<=1000000)(c:List Int)(b:Bool)(hp:jt (E.id+1) c=0)(hk:j0 (dg E.A (E.id+1) c b))(hr:(dg E.A (E.id+1) c b).row.length<=1000000)(aa:E.A.row.length<=1000000)(hc:c.length<=1000000):
 aA Tryz.prog 68 [.ptr be 0,.seq false 1 (ae c),BL b] h (λr h'=>r=.pv (ab E.A.row.length)∧∃mp' q,LayE h' be bt ba bw bh mp' mb (C1 E c b q)∧Ext h h' (cO be bt ba bw bh mp mb) (cO be bt ba bw bh mp' mb)∧HpTo n E.q q):=by
 refine cQ [2,8] [.tmp 6] aD Tryz.func68 ?_;have hf:=G.few;have hn:=G.hn;have K:aX (E.id+1)=E.id+1:=ao (by omega) (by omega);obtain⟨j,f⟩:=SQ.1 L.e;have y:=L.eng {E with id:=E.id+1} rfl rfl rfl rfl;have O:=Ext.set (D:=cO be bt ba bw bh mp mb) (h:=h) be (bO bt ba bw bh {E with id:=E.id+1}) (.inl rfl);generalize l:h.set be (bO bt ba bw bh {E with id:=E.id+1})=B at*;simp only[bO]at l;simp[f,j,bO,K,l];clear j f;obtain⟨j,f⟩:=SQ.1 y.e;have M:=J2 B ba E.A y.w.a (E.id+1) c b hc (by omega);rw[hp]at M;have t:=y.arena (dg E.A (E.id+1) c b);have z:=O.trans (Ext.set ba (ja (dg E.A (E.id+1) c b)) (.inr (.inr (.inl rfl))));have Q:C1 E c b=λq=>{E with id:=E.id+1,A:=dg E.A (E.id+1) c b,over:=E.over||decide (c.length=0),S:=oY (dg E.A (E.id+1) c b) E.T E.S E.A.row.length,q:=q}:=rfl;obtain⟨ov,o⟩:∃x,decide (c.length=0)=x:=⟨_,rfl⟩;rw[o]at Q;simp only[UM]at o;generalize C1 E c b=AE at*;generalize dg E.A (E.id+1) c b=k at*;refine aT.meet SI ⟨[(0,.pv (.ptr be 0)),(1,.pv (.seq false 1 (ae c))),(2,.pv (BL b)),(6,.pv (ab 0)),(7,.pv (ab E.A.row.length))],B.set ba (ja k)⟩ (by kernel_rfl) ?_ ?_
 .simp[SI,f,j,bO]
  repeat' first
   |trivial
   |refine And.intro ?_ ?_
   |(refine am.intro M ?_;rintro _ _ ⟨rfl,rfl⟩;simp;exact ah.keep (by simp) rfl)
 clear j f;generalize B.set ba (ja k)=W at*;obtain⟨j,f⟩:=SQ.1 t.e;have L3:=t.eng {E with id:=E.id+1,A:=k,over:=E.over||ov} rfl rfl rfl rfl;have P:=z.trans (Ext.set be (bO bt ba bw bh {E with id:=E.id+1,A:=k,over:=E.over||ov}) (.inl rfl));generalize m:W.set be (bO bt ba bw bh {E with id:=E.id+1,A:=k,over:=E.over||ov})=X at*;simp only[bO]at m;have U:=CM X bw ba bt mp mb k E.T E.S L3.w hk hr (by rw[G.len];omega) (by omega) E.A.row.length;simp[f,j,bO,o,m];clear j f;obtain⟨j,f⟩:=SQ.1 L3.e;simp[f,j,bO];refine am.intro U ?_;rintro _ Y ⟨rfl,p,N,C⟩;have Z:=L3.watch N C;have X5:=P.trans (Ext.eng (be:=be) (bh:=bh) (ba:=ba) C);clear L y t L3 O z P C N U j f l m M;generalize oY k E.T E.S E.A.row.length=S2 at*;simp;refine ax.intro (S:=λ(x:Nat×List (List SV)×HS)=>⟨[(0,.pv (.ptr be 0)),(7,.pv (ab E.A.row.length)),(50,.pv (.seq false 1 (ae c))),(51,.pv (ab c.length)),(52,.pv (ab x.1))],x.2.1⟩)
  (λx=>x.1<=c.length∧LayE x.2.1 be bt ba bw bh p mb {E with id:=E.id+1,A:=k,over:=E.over||ov,S:=S2,q:=x.2.2}∧Ext h x.2.1 (cO be bt ba bw bh mp mb) (cO be bt ba bw bh p mb)∧HpTo n E.q x.2.2) (λx=>c.length -x.1) (0,Y,E.q) ?_ ⟨Tf _,Z,X5,.refl g⟩ ?_
 .exact ah.keep (by simp) rfl
 rintro⟨i,H,q⟩ ⟨I,u,F,s⟩;dsimp only at I u F s;obtain⟨j,f⟩:=SQ.1 u.e
 by_cases d:i<c.length
 .have hw:=dv i;have kV:=aK c[i];have kB:=AA H bh q u.q s.hp hn (af c[i]) 1;have t:=u.heap (eP q (af c[i]) 1).1;have z:=F.trans (Ext.set bh (au (eP q (af c[i]) 1).1) (.inr (.inl rfl)));have V:=s.trans (HpTo.bump s.hp (af c[i]) 1);generalize af c[i]=v at*;generalize eP q v 1=R at*;simp[d];refine aT.meet R5 ⟨[(0,.pv (.ptr be 0)),(7,.pv (ab E.A.row.length)),(50,.pv (.seq false 1 (ae c))),(51,.pv (ab c.length)),(52,.pv (ab i))],H.set bh (au R.1)⟩ (by kernel_rfl) ?_ ?_
  .simp[R5,f,j,bO]
   repeat' first
    |trivial
    |refine And.intro ?_ ?_
    |(refine ai.intro kV ?_;simp[f,j,bO])
    |(refine am.intro kB ?_;rintro _ _ ⟨rfl,rfl⟩;simp;exact ah.keep (by simp) rfl)
  .simp;exact⟨(i+1,_,R.1),by(try dsimp only);omega,⟨by(try dsimp only);omega,t,z,V⟩,ah.keep (by simp[hw]) rfl⟩
 .have J:i=c.length:=by omega
  subst J;simp;exact⟨p,q,by rw[Q];exact u,F,s⟩
end
end Go.AX