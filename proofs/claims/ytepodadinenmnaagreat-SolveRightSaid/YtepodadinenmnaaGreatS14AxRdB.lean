/-
  Contracts: solve: the search; and what follows.
-/
import Derived.Test.YtepodadinenmnaaGreatS14AxSoB
import Derived.Test.YtepodadinenmnaaGreatS14AxEjT
import Derived.Test.YtepodadinenmnaaGreatS14AxEgV
import Derived.Test.YtepodadinenmnaaGreatS14AxMovR
import Derived.Test.YtepodadinenmnaaGreatS14AxTmB
import Derived.Test.YtepodadinenmnaaGreatS14AxVaA
namespace Go.AX
open Go.Proofs
set_option linter.unusedSimpArgs false
def O2(n:Nat)(F:List (List Int)):Prop:=∀(r s:Nat)(l:List Rc)(E:ES),EI n F r s l E->(∀d∈F,d∈rC l)->E.T.beg.length=0
structure SK (n:Nat) (F:List (List Int)) (bg:Int) (E:ES):Prop where
  cb:(E.pf.length:Int)<=bg
  ov:E.over=true->E.pf.length=0->[]∈F
  zz:O2 n F->E.pf.length=0∨E.over=true
theorem SK.same{n:Nat}{F:List (List Int)}{bg:Int}{E E':ES}(k:SK n F bg E)(a:E'.pf=E.pf)(b:E'.over=E.over):SK n F bg E':=⟨by rw[a];exact k.cb,by rw[a,b];exact k.ov,by rw[a,b];exact k.zz⟩
theorem EK{n r s:Nat}{F:List (List Int)}{l:List Rc}{E:ES}(I:EI n F r s l E)(a:∀d∈F,d∈rC l)(b:0<=E.con)(z:O2 n F):aJ E=[]:=by
 have h0:=z r s l E I a;rcases(I.res b).lev with⟨_,e⟩|⟨u,w,_,b0,b1,_⟩
 .exact e
 .omega
section
variable {n M : Nat} {F : List (List Int)} {h : List (List SV)} {be bt ba bw bh : Nat} {mp : List (Int × Nat)} {mb : List (Int × By)} {E : ES} {l : List Rc}
theorem EI.ended{r s:Nat}(h:EI n F r s l E)(ho:E.over=true):Of F []:=by
 obtain⟨x,hx,e⟩:=h.ovr.1 ho;rw[←e];exact h.ent x hx
end
set_option maxRecDepth 16000 in
theorem CV(h:List (List SV))(v:Int)(cs:List (List Int))(rs kp n a:Int)(hcl:∀c∈cs,c.length<=50)(hk:(d7 v cs).2≠0∨a<0∨1000000<a):
 ax Tryz.prog 28 [.agg [ab v,.seq false 1 (cs.map aw)],.agg [ab rs,ab kp,ab n],ab a] h (λy h'=>(∃e:Int,y=.pv (.tup [.agg [ab 0,ab 0,.lit (.slice none 0 0),.lit (.slice none 0 0)],ab e])∧e=(if a<0∨1000000<a then 2 else(d7 v cs).2))∧Ext h h' (λ_=>False) (λb=>h.length<=b)):=by
 refine cI [] [.cell 6 _,.tmp 7] aC Tryz.func28 ?_;have g:∀c∈cs,c.length<=1000000:=λc p=>by have:=hcl c p;omega
 have l:∀(H:List (List SV)),h.length<=H.length->(∀b,b<h.length->H[b]?=h[b]?)->Ext h H (λ_=>False) (λb=>h.length<=b):=λH h1 k=>⟨h1,λb f _=>k b f,λb f d=>by omega⟩
 by_cases b1:a<0
 .simp[b1];exact l _ (by simp) λb f=>SO f
 by_cases b2:1000000<a
 .simp[b1,b2];exact l _ (by simp) λb f=>SO f
 have i:(d7 v cs).2≠0:=hk.resolve_right (λe=>e.elim b1 b2);have r:=λG=>Kt G v cs rs kp n g (.inl i);generalize(d7 v cs).2=x at*;simp[b1,b2];refine ah.introM (r _) ?_;rintro _ H ⟨rfl,X⟩;have j:=X.len;have m:∀b,b<h.length->H[b]?=h[b]?:=λb f=>by rw[X.same b (by simp;omega) (λe=>e),SO f]
 have k:=X.same (h.length+2) (by simp) (λe=>e);simp at k j;obtain⟨q,o⟩:=SG.1 k;simp[i,q,o];exact l _ (by simp;omega) λb f=>by rw[Tc (by omega)];exact m b f
def A6(k n:Nat):List Bool:=(List.range n).map λi=>decide (bits .and IntKind.i64 ((k:Int).fdiv (2^min i 64)) 1=1)
def rU:List Bool->Nat
 |[]=>0
 |b::t=>(if b=true then 1 else 0)+2*rU t
theorem ye:∀m,rU m<2^m.length
 |[]=>Nat.one_pos
 |b::t=>by
  have:=ye t;rw[rU,To,Xy];split<;>omega
theorem AP:∀(m:List Bool)(i:Nat)(h:i<m.length),rU m/2^i %2=if m[i]=true then 1 else 0
 |[],i,h=>absurd h (by simp)
 |b::t,0,_=>by
  rw[rU];show _=if b=true then 1 else 0;split<;>omega
 |b::t,i+1,h=>by
  have:=AP t i (by simpa using h);rw[rU,Nat.pow_succ',←Nat.div_div_eq_div_mul,VE,←this,show((if b=true then 1 else 0)+2*rU t)/2=rU t by split<;>omega]
theorem Sn(k i:Nat)(hk:k<1000000)(hi:i<=60):bits .and IntKind.i64 ((k:Int).fdiv (2^min i 64)) 1=((k/2^i %2:Nat):Int):=by
 have b:((k:Int).fdiv (2^min i 64))=((k/2^i:Nat):Int):=by
  rw[Ud (by omega),Xa _ (by exact_mod_cast Te _)];simp
 have hle:k/2^i<=k:=Nat.div_le_self _ _;rw[b];generalize k/2^i=a at*;have h1:(BitVec.ofInt 64 (a:Int)).toNat=a:=by
  rw[XC,BitVec.toNat_ofNat];exact Wo (by omega)
 show IntKind.i64.wrap ((BitVec.ofInt 64 (a:Int)&&&BitVec.ofInt 64 (1:Int)).toNat:Int)=_;rw[BitVec.toNat_and,h1,show(BitVec.ofInt 64 (1:Int)).toNat=1 from rfl,Nat.and_one_is_mod,IntKind.wrap_i64];omega
theorem MM(m:List Bool)(h:m.length<=12):A6 (rU m) m.length=m:=by
 have c:=ye m;have b:2^m.length<=2^12:=XD (by omega) h;refine Vx (by simp[A6]) λi h1 a=>?_;have e:(A6 (rU m) m.length)[i]=decide (bits .and IntKind.i64 ((rU m:Int).fdiv (2^min i 64)) 1=1):=by simp[A6]
 rw[e,Sn _ _ (by omega) (by omega),AP m i a];cases m[i]<;>rfl
def QY(n:Nat)(cs:List (List Int))(r:SV):Prop:=∃(many:Int)(y:PV),r=.pv (.tup [ab many,y])∧((many=0∧y=.lit (.slice none 0 0)∧∀m:List Bool,m.length=n->¬∀c∈cs,cd c m=true)∨(0<many∧∃m:List Bool,y=.seq true 1 (cT m)∧m.length=n∧∀c∈cs,cd c m=true))
set_option maxRecDepth 16000 in
theorem CX(v:Int)(n:Nat)(hn:n<=12)(cs:List (List Int))(H:cs.length<=140737488355328)(I:∀x∈cs,x.length<=140737488355328):ak Tryz.prog 23 [.agg [ab v,.seq false 1 (cs.map aw)],ab n] (QY n cs):=by
 refine iX [13] [.tmp 4,.tmp 5] aC Tryz.func23 ?_;obtain⟨M,z⟩:∃M,M=2^n:=⟨_,rfl⟩;have G:M<=4096:=by rw[z];exact XD (by decide) hn
 have D:∀j:Nat,j<=12->IntKind.u64.wrap (j:Int)=j:=λj hj=>by
  rw[IntKind.wrap_u64];omega
 have u:=D n hn;have a:IntKind.i64.bits=64:=rfl;have t:aY (2^min n 64:Int)=(M:Int):=by
  rw[Ud (by omega),show((2:Int)^n)=((2^n:Nat):Int) by simp,←z,ao (by omega) (by omega)]
 obtain⟨Q,l⟩:∃Q:Nat->Nat->PV->Prop,∀k many y,Q k many y=((many=0∧y=.lit (.slice none 0 0)∧∀j,j<k->¬∀c∈cs,cd c (A6 j n)=true)∨(0<many∧∃m:List Bool,y=.seq true 1 (cT m)∧m.length=n∧∀c∈cs,cd c m=true)):=⟨_,λ_ _ _=>rfl⟩;simp;refine aF.intro (S:=λ(x:Nat×Nat×PV)=>⟨[(1,.pv (ab n)),(2,.pv (.ptr 0 0)),(6,.pv (ab x.2.1)),(7,.pv x.2.2),(8,.pv (ab x.1))],[[.pv (ab v),.pv (.seq false 1 (cs.map aw))]]⟩)
  (λx=>x.1<=M∧x.2.1<=x.1∧Q x.1 x.2.1 x.2.2) (λx=>M -x.1) (0,0,.lit (.slice none 0 0)) ?_ ⟨Te _,SQ _,by rw[l];exact .inl ⟨rfl,rfl,λj hj=>absurd hj (by simp)⟩⟩ ?_
 .exact ai.keep (by simp) rfl
 rintro⟨k,many,y⟩ ⟨hk,w,g⟩;dsimp only at hk w g
 by_cases d:k<M
 .have b:=dZ k;have r:=dZ many;simp[u,a,t,d];refine aF.intro (S:=λ(i:Nat)=>⟨[(1,.pv (ab n)),(2,.pv (.ptr 0 0)),(6,.pv (ab many)),(7,.pv y),(8,.pv (ab k)),(9,.own true 1 (cT (A6 k i))),(10,.pv (ab i))],[[.pv (ab v),.pv (.seq false 1 (cs.map aw))]]⟩)
   (λi=>i<=n) (λi=>n -i) 0 ?_ (Te _) ?_
  .exact(ai.nilOwn (s:=9) 1 true (by simp)).trans (ai.keep (by simp[cT,A6]) rfl)
  intro i hi;have q:(A6 k i).length=i:=by simp[A6]
  by_cases e:i<n
  .have J:=dZ i;have C:=D i (by omega);simp[e,C,a];exact⟨by rw[q];omega,i+1,by(try dsimp only);omega,by(try dsimp only);omega,ai.keep (by simp[J,cT,A6,VT]) rfl⟩
  .have A:i=n:=by omega
   subst A;simp;refine ah.intro (Aa v cs (A6 k i) H I) ?_
   by_cases f:mP cs (A6 k i)<0
   .have E:=(oX cs (A6 k i)).1 f;rw[l]at g;simp[f];refine⟨λc=>io.to ⟨[(1,.pv (ab i)),(2,.pv (.ptr 0 0)),(6,.pv (ab many)),(7,.pv y),(8,.pv (ab k)),(9,.pv (.seq true 1 (cT (A6 k i))))],[[.pv (ab v),.pv (.seq false 1 (cs.map aw))]]⟩ ((ai.frz (s:=9) (e:=1) (nw:=true) (rows:=cT (A6 k i)) (by simp)).trans (ai.keep (by simp) rfl)) (io.ops ?_),λc=>?_⟩
    .simp;exact⟨(k+1,many+1,.seq true 1 (cT (A6 k i))),by(try dsimp only);omega,⟨by(try dsimp only);omega,by(try dsimp only);omega,by rw[l];exact .inr ⟨Nat.succ_pos _,_,rfl,q,E⟩⟩,ai.keep (by simp[b,r]) rfl⟩
    .refine⟨(k+1,many+1,y),by(try dsimp only);omega,⟨by(try dsimp only);omega,by(try dsimp only);omega,?_⟩,ai.keep (by simp[b,r]) rfl⟩;rw[l];rcases g with⟨h1,_⟩|⟨_,o⟩
     .exact absurd h1 c
     .exact .inr ⟨Nat.succ_pos _,o⟩
   .simp[f];refine⟨(k+1,many,y),by(try dsimp only);omega,⟨by(try dsimp only);omega,by(try dsimp only);omega,?_⟩,ai.keep (by simp[b]) rfl⟩;dsimp only;rw[l]at g⊢;rcases g with⟨h1,o,p⟩|h1
    .refine .inl ⟨h1,o,λj hj=>?_⟩;rcases Nat.lt_succ_iff_lt_or_eq.1 hj with hj|rfl
     .exact p j hj
     .exactλh=>f ((oX cs _).2 h)
    .exact .inr h1
 .have B:k=M:=by omega
  subst B;simp[u,a,t];rw[l]at g;rcases g with⟨rfl,rfl,p⟩|⟨h1,m,o,p,F⟩
  .refine⟨_,_,rfl,.inl ⟨rfl,rfl,λm w=>?_⟩⟩;have:=p (rU m) (by rw[z,←w];exact ye m)
   rwa [←w,MM m (by omega)]at this
  .exact⟨_,_,rfl,.inr ⟨by omega,m,o,p,F⟩⟩
theorem rF(v:Int)(cs:List (List Int))(rs kp b a:Int)(hcl:∀c∈cs,c.length<=50)(hk:(d7 v cs).2≠0∨a<0∨1000000<a):
 ak Tryz.prog 28 [.agg [ab v,.seq false 1 (cs.map aw)],.agg [ab rs,ab kp,ab b],ab a] (λy=>y=.pv (.tup [.agg [ab 0,ab 0,.lit (.slice none 0 0),.lit (.slice none 0 0)],ab (if a<0∨1000000<a then 2 else(d7 v cs).2)])):=by
 refine ax.pure ((CV [] v cs rs kp b a hcl hk).mono ?_);rintro _ _ ⟨⟨e,rfl,rfl⟩,_⟩;exact⟨_,rfl,rfl⟩
theorem qi:ak Tryz.prog 71 [] (λr=>r=.pv (.agg [ab 1,.seq true 1 [[.seq true 1 [[ab 1]]],[.seq true 1 [[ab (-1)]]]]])):=by
 refine iX [] [.cell 0 _] aC Tryz.func71 ?_;simp
def AR(v:Int)(cs:List (List Int)):Bool:=z7 cs&&(decide (v<=12)&&decide (cs.length<=100))
theorem KE(v:Int)(cs:List (List Int)):ak Tryz.prog 26 [.agg [ab v,.seq false 1 (cs.map aw)]] (λr=>r=.pv (BL (AR v cs))):=by
 refine ap aC Tryz.func26 ?_;have a:=Gb v cs;unfold AR;simp;refine ah.intro a ?_;cases z7 cs
 .simp
 by_cases c1:v<=12
 rotate_left
 .simp[c1]
 by_cases c3:(cs.length:Int)<=100
 .have:cs.length<=100:=by omega
  simp[c1,c3,this]
 .have:¬cs.length<=100:=by omega
  simp[c1,c3,this]
section
variable {n r s : Nat} {F : List (List Int)} {l : List Rc} {E : ES}
theorem EI.up1(h:EI n F r s l E)(p:0<E.T.beg.length){c:List Int}(g:c∈rC l){u:Int}(o:u∈c)(m:∀y∈c,y≠u->-y∈bel (fh E.T) 1):u∈bel (fh E.T) 1:=by
 have hcl:=h.ef.clm 1 (by decide) (by show 1<=(E.T.beg.length:Int);omega) c g;have b:=h.tok.toTMk.cons;have k:=h.uok;have a:∀z∈bel (fh E.T) 1,z∈E.T.lits:=λz hz=>by rw[←gi];exact gQ _ hz
 have d:Cons (bel (fh E.T) 1):=λy hy j=>b y (a y hy) (a _ j);apply Tl;intro i
 by_cases f:-u∈bel (fh E.T) 1
 .exact hcl.2 ((k.fail d g).2 λy hy=>(Classical.em (y=u)).elim (λe=>e▸f) (m y hy))
 .have:=k.unit_of d g o i f m;rw[this]at hcl;cases hcl.1
end
theorem qj{E:ES}{y:Int}(hy:y∈bel (fh E.T) 1):y∈E.T.lits:=by rw[←gi];exact gQ _ hy
theorem So:O2 1 [[1],[-1]]:=by
 intro r s l E I a;apply Tl;intro c;have h1:=I.up1 (by omega) (a [1] (by simp)) (u:=1) (by simp) (by simp);have b:=I.up1 (by omega) (a [-1] (by simp)) (u:=-1) (by simp) (by simp);exact I.tok.toTMk.cons 1 (qj h1) (qj b)
theorem Sp:O2 2 [[1,2],[-1]]:=by
 intro r s l E I g;apply Tl;intro c;have c:0<E.T.beg.length:=by omega
 have h1:=I.up1 c (g [-1] (by simp)) (u:=-1) (by simp) (by simp);have f:=I.up1 c (g [1,2] (by simp)) (u:=2) (by simp) (by simpa using h1);have h:=I.tok.toTMk.cons;obtain⟨b1,b2⟩:=I.tok.bnd E.T.beg[0] (SS c);obtain⟨i,hi⟩:=Uk b1;rw[hi]at b2;have b:i<E.T.lits.length:=by omega
 have e:=yc I.tok b;have d:=mt (x8 I.tok.rise c i).1 (by omega);have a:=I.tok.chk _ (SS b);have j:=SS b;generalize E.T.lits[i]=y at*;have m:y≠0∧-2<=y∧y<=2:=by
  unfold ay at a;rw[SM (by omega)]at a;split at a
  .rename_i q;unfold sj at q;simpa using q
  .cases a
 have k:y=1∨y=-1∨y=2∨y=-2:=by omega
 rcases k with rfl|rfl|rfl|rfl
 .exact h 1 j (qj h1)
 .have:=sB I.tok (y:=1) h1;simp at e d;omega
 .have:=sB I.tok (y:=-2) f;simp at e d;omega
 .exact h 2 (qj f) j
theorem KF:¬∃m:List Bool,m.length=1∧∀c∈([[1],[-1]]:List (List Int)),cd c m=true:=by
 rintro⟨m,a,h⟩
 match m,a with
 |[b],_=>revert h;cases b<;>decide
theorem MN{m:List Bool}(d:m.length=2)(h:∀c∈([[1,2],[-1]]:List (List Int)),cd c m=true):m=[false,true]:=by
 match m,d with
 |[a,b],_=>revert h;cases a<;>cases b<;>decide
section
variable {M c : Nat} {k b : Int} {m : PV} {pf : List Stp}
end
theorem KG{v:Int}{cs:List (List Int)}(h:AR v cs=true):v<=12∧cs.length<=100∧∀c∈cs,c.length<=50:=by
 unfold AR z7 at h;simp only[S4,S9,TG]at h;exact⟨h.2.1,h.2.2,h.1.2⟩
end Go.AX
namespace Go.AX
set_option maxRecDepth 16000
open Go.Proofs
set_option linter.unusedSimpArgs false
theorem C0(l:List Gr)(Y:l.length<=100000)(keep:Int):ak Tryz.prog 114 [.seq false 4 (l.map lE),ab keep] (λr=>r=.own true 1 (ae (j8 l keep))):=by
 refine ak.own0 (R:=λr=>r=.own true 1 (ae (j8 l keep))∨(j8 l keep=[]∧r=.pv (.lit (.slice none 0 0)))) ?_ (λr h=>h.imp id λ⟨H,I⟩=>⟨I,true,1,by rw[H];rfl⟩);refine ap aC Tryz.func114 ?_;have J:=Fy l (by omega);have K:=qv.asFnO (B7 l (by omega) 186 mJ Lx);have O:=FA l;have P:=Ij l;have M:=Ik (pO l) (by omega);have hd:pN mJ l=(pO l).map g3:=O.symm
 by_cases c:(l.length:Int)<=keep
 .simp[j8,c]
 simp[c];refine ah.intro J ?_;simp;refine ah.introX (bU.introS (o:=.slot 15) (lo:=0) (hi:=l.length) K (by simp) rfl rfl (by simp) (by simp) rfl (by simp;rw[Tm (by simp)];rfl) (lF 0 l) (by simp) (by simp) ?_);rintro k b ⟨rfl,rfl⟩ _ _;have t:List.drop l.length (l.map lE)=[]:=Tq (by simp);have x:(pN mJ l).length=(pO l).length:=by rw[hd,SZ]
 have z:∀X,ea rL (pN mJ l++X)=(pO l).map r3++ea rL X:=λX=>by
  rw[hd];unfold ea;rw[TA,TT];rfl
 rw[z,x];have E:∀k,bL k (ea rL (List.replicate (l.length -(pO l).length) OU)):=λk=>lF k _;have n:∀k (u:List G3),bL k (u.map r3):=λk u=>by
  have:=lF k (u.map g3);rw[TT]at this;exact this
 generalize ea rL (List.replicate (l.length -(pO l).length) OU)=Z at*;have p:j8 l keep=dJ (((vP (pO l)).take (l.length/2)).map (·.at')):=SM c;generalize W:pO l=may at*;have B:List.take may.length (may.map r3++Z)=may.map r3:=UR (by simp);have w:List.drop may.length (may.map r3++Z)=Z:=WB (by simp);have T:(vP may).length=may.length:=(oM may).length_eq;generalize vP may=a at*;simp[t];refine ah.introX (bU.introS (o:=.slot 15) (lo:=0) (hi:=may.length) M (by simp) rfl rfl (by simp) (by simp) rfl (by simp[B]) ?_ (by simp) (by simp) ?_)
 .exact lF 0 (may.map g3)|>λh=>by rw[TT]at h;exact h
 rintro k b ⟨rfl,rfl⟩ _ _;obtain⟨q,Q⟩:∃q:Nat,l.length/2=q:=⟨_,rfl⟩;rw[Q]at p;have U:aY ((l.length:Int)/2)=(q:Int):=by rw[ao (by omega) (by omega)];omega
 have g:min may.length (a.length+Z.length)=may.length:=by omega
 have f:(if q<may.length then(q:Int)else may.length)=((min may.length q:Nat):Int):=by split<;>omega
 have C:a.take q=a.take (min may.length q):=by
  by_cases e:q<=may.length
  .rw[Nat.min_eq_right e]
  .rw[Ud (by omega),Tm (by omega),Tm (by omega)]
 rw[C]at p;have F:min may.length q<=a.length:=by omega
 generalize min may.length q=m at*;simp[w,U,g,f];refine⟨by omega,?_⟩;refine aF.intro (S:=λ(i:Nat)=>⟨[(7,.own true 1 (ae ((a.take i).map (·.at')))),(15,.own true 4 (a.map r3++Z)),(27,.loc (.slot 15) 0 m),(28,.pv (ab m)),(29,.pv (ab i))],[]⟩) (λi=>i<=m) (λi=>m -i) 0 ?_ (Te _) ?_
 .exact(ai.nilOwn (s:=7) 1 true (by simp)).trans (ai.to (by simp[ae,f];omega) rfl (by simp) (by simp[n,E]) (by simp))
 intro i hi
 by_cases G:i<m
 .have D:=dZ i;have d:i<a.length:=by omega
  have y:(a.map r3++Z)[i]?=some (r3 a[i]):=by rw[SO (by simpa using d),Tg,SH d];rfl
  have A:ae (List.take i (a.map (·.at')))++[[ab a[i].at']]=ae (List.take (i+1) (a.map (·.at'))):=by
   rw[mG,T4,Tg,SH d];rfl
  simp[G,y,r3,lE,g3];refine⟨by omega,by omega,by omega,i+1,by dsimp only;omega,by dsimp only;omega,ai.to ?_ rfl (by simp) ?_ (by simp)⟩
  .simp[D,A]
  .simp[n,E]
 .have:i=m:=by omega
  subst this;have j:List.take i (a.map (·.at'))=(a.take i).map (·.at'):=by rw[U3]
  rw[←j]at p;have N:(List.take i (a.map (·.at'))).length=i:=by rw[SU,SZ];omega
  rw[←j];generalize List.take i (a.map (·.at'))=V at*;have L:=vQ V (by omega);have v:List.drop V.length (ae V)=[]:=Tq (by simp);simp;refine ah.introX (bU.introS (o:=.slot 7) (lo:=0) (hi:=V.length) L (by simp) rfl rfl (by simp) (by simp) rfl (by simp;rw[Tm (by simp)]) (aT 0 V) (by simp) (by simp) ?_);rintro k b ⟨rfl,rfl⟩ _ _;simp[v,p]
section
variable {h : List (List SV)} {be bt ba bw bh : Nat} {mp : List (Int × Nat)} {mb : List (Int × By)} {E : ES}
def Sq(E:ES)(k:Int):Gr:=⟨k,(lk E.gl k).getD 0,(au E.A k).length,tD E.T k (au E.A k)⟩
def nJ(E:ES)(ks:List Int):List Gr:=(ks.filter (o6 E.A)).map (Sq E)
theorem AV(E:ES)(ks:List Int):(nJ E ks).length<=ks.length:=by
 unfold nJ;rw[SZ];exact UM _ _
theorem AW(L:LayE h be bt ba bw bh mp mb E){l:List Rc}(j:ArI E.A l)(u:E.A.row.length<=1000000)(z:E.T.ok):
 ax Tryz.prog 115 [.ptr be 0] h (λr h'=>h'=h∧r=.pv (.seq true 4 ((nJ E (rA l)).map lE))):=by
 refine fk [] [.tmp 2] aC Tryz.func115 ?_;obtain⟨g,f⟩:=SG.1 L.e;have C:=MG h ba E.A L.w.a l j.row u;have hz:=db L.w.t 2;have B:(rA l).length<=1000000:=by
  have h1:=qh l 0;have x:=uA l;rw[←j.row]at x;unfold rA;rw[SZ];omega
 simp[f,g,bN];refine am.intro C ?_;rintro _ h ⟨rfl,rfl⟩;simp;refine aF.intro (S:=λ(i:Nat)=>⟨[(0,.pv (.ptr be 0)),(3,.own true 4 ((nJ E ((rA l).take i)).map lE)),(11,.pv (.seq true 1 (ae (rA l)))),(12,.pv (ab (rA l).length)),(13,.pv (ab i))],h⟩)
  (λi=>i<=(rA l).length) (λi=>(rA l).length -i) 0 ?_ (Te _) ?_
 .exact(ai.nilOwn (s:=3) 4 true (by simp)).trans (ai.keep (by simp[nJ]) rfl)
 intro i hi
 by_cases c:i<(rA l).length
 .have v:=dZ i;obtain⟨y,hy,e⟩:=SY.1 (SS c);have p:isA E.A (rA l)[i]=true:=(j.isA _).2 ⟨y,hy,e⟩;have m:=gT l 0 y hy;rw[←j.row]at m;have F:=CE h ba E.A L.w.a (rA l)[i] (λ_=>by rw[←e];omega) (by omega);have G:=wq h ba E.A L.w.a j.arok u (rA l)[i] p;have q:(au E.A (rA l)[i]).length<=1000000:=by
   rw[←e,(j.at hy).1];omega
  have D:=FC E.T z (rA l)[i] (au E.A (rA l)[i]) q;have b:nJ E ((rA l).take (i+1))=nJ E ((rA l).take i)++if o6 E.A (rA l)[i]=true then[Sq E (rA l)[i]]else[]:=by
   unfold nJ;rw[ku c,Uv,TA];congr 1;simp only[TQ,W7];split<;>rfl
  have n:=AV E ((rA l).take i);rw[SU]at n;unfold Sq at b;generalize nJ E ((rA l).take i)=H at*;generalize k:(rA l)[i]=at' at*;simp[c,f,g,bN,k];refine am.intro F ?_;rintro _ h ⟨rfl,rfl⟩;cases d:o6 E.A at'
  .rw[d]at b;simp[d];exact⟨i+1,by(try dsimp only);omega,by(try dsimp only);omega,ai.keep (by simp[v,b]) rfl⟩
  .rw[d]at b;simp[d,f,g,bN];refine am.intro G ?_;rintro _ h ⟨rfl,rfl⟩;simp[f,g,bN,hz];refine bE.intro D ?_;simp[f,g,bN,hz];refine⟨by omega,?_⟩;exact⟨i+1,by(try dsimp only);omega,by(try dsimp only);omega,ai.keep (by simp[v,lE,b]) rfl⟩
 .have o:i=(rA l).length:=by omega
  subst o;rw[Tw];simp[bO,bK]
end
theorem GE{l:List Gr}{keep k:Int}(h:k∈j8 l keep):∃x∈l,x.at'=k∧x.lo=false:=by
 unfold j8 at h;split at h
 .cases h
 .obtain⟨z,hz,rfl⟩:=SY.1 ((Vd _ _).mem_iff.1 h);have hz:=(oM _).mem_iff.1 (TL hz);obtain⟨x,hx,rfl⟩:=SY.1 hz;obtain⟨h1,a⟩:=TE.1 hx;refine⟨x,h1,rfl,?_⟩;unfold mJ at a;cases e:x.lo
  .rfl
  .rw[e]at a;simp at a
theorem KM{l:List Gr}{keep:Int}(h:(l.map (·.at')).Nodup):(j8 l keep).Nodup:=by
 unfold j8;split
 .exact XG
 .refine(Vd _ _).nodup_iff.2 (List.Nodup.sublist ((Vi _ _).map _) (((oM _).map _).nodup_iff.2 ?_));unfold pO;rw[TT];exact h.sublist (VD.map _)
theorem QZ(l:List Rc):(rA l).Nodup:=UC.2 ((ya l 0).imp λh e=>by omega)
theorem MP{E:ES}{l:List Rc}(c:ArI E.A l)(m:Nat):((j8 (nJ E (rA l)) E.keep).take m).Nodup∧∀k∈(j8 (nJ E (rA l)) E.keep).take m,∃y∈aQ 0 l,y.at'=k∧tD E.T k y.lits=false∧o6 E.A k=true:=by
 refine⟨(KM ?_).sublist (Vi _ _),λk hk=>?_⟩
 .unfold nJ;rw[TT];exact((List.map_id' _).symm▸(QZ l).sublist VD:(((rA l).filter (o6 E.A)).map λk=>k).Nodup)
 .obtain⟨x,hx,rfl,b⟩:=GE (TL hk);obtain⟨d,a,rfl⟩:=SY.1 hx;obtain⟨y,hy,rfl⟩:=SY.1 (TE.1 a).1;exact⟨y,hy,rfl,by rw[←(c.at hy).1];exact b,(TE.1 a).2⟩
end Go.AX
namespace Go.AX
open Go.Proofs
set_option linter.unusedSimpArgs false
theorem EL{S:WS}(hn:(S.prs.map (·.1)).Nodup)(k j:Int):lk (qU S k).prs j=if j=k then none else lk S.prs j:=by
 unfold qU;cases hp:lk S.prs k with
 |none=>
  by_cases e:j=k
  .rw[SN e,e];exact hp
  .rw[SM e]
 |some p=>
  have a:((fq S k p).prs).map (·.1)=S.prs.map (·.1):=eP _ hp;show lk (dl (fq S k p).prs k) j=_;rw[oZ (by rw[a];exact hn)]
  by_cases e:j=k
  .rw[SN e,SN e]
  .rw[SM e,SM e];exact dH e
theorem WOk.del{n:Nat}{S:WS}(h:WOk n S)(k:Int):WOk n (qU S k)∧(qU S k).prs.length<=S.prs.length:=by
 have a:=h.toWch.del k;unfold qU at a⊢;cases hp:lk S.prs k with
 |none=>exact⟨h,SQ _⟩
 |some p=>
  rw[hp]at a;simp only at a⊢;have hk:(pt S.prs k ⟨p.lits,0,0⟩).map (·.1)=S.prs.map (·.1):=eP _ hp;have hle:(dl (pt S.prs k ⟨p.lits,0,0⟩) k).length<=S.prs.length:=by
   have h1:=Ji (pt S.prs k ⟨p.lits,0,0⟩) k;have b:=Vk List.length hk;rw[SZ,SZ]at b;omega
  exact⟨{a with
   few:=TD hle h.few
   h0:=h.h0,h1:=h.h1,sl:=h.sl
   clr:=λy hy=>eQ (eQ (h.clr y hy))},hle⟩
theorem Wch.hx{n:Nat}{S:WS}(h:Wch n S)(k:Int):∀p,lk S.prs k=some p->(p.x≠0->∃zs,lk S.byl p.x=some zs∧zs≠[])∧(p.y≠0->∃zs,lk (eq S.byl k p.x) p.y=some zs∧zs≠[]):=λp hp=>by
 have a:∀m:Int,m≠0->(p.x=m∨p.y=m)->∃zs,lk S.byl m=some zs∧zs≠[]:=λm f d=>by
  obtain⟨zs,e,hz⟩:=h.entry hp f d;exact⟨zs,e,λq=>by rw[q]at hz;cases hz⟩
 refine⟨λg=>a _ g (.inl rfl),λy0=>?_⟩;obtain⟨zs,e,hz⟩:=a _ y0 (.inr rfl);refine⟨zs,?_,hz⟩;unfold eq
 by_cases c:p.x=0
 .rw[SN c];exact e
 .have b:p.x≠p.y:=by
   rcases h.two k p hp with⟨_,z,_⟩|⟨_,z,_⟩
   .exact absurd z c
   .exact z
  rw[SM c,bJ,SM b];exact e
section
variable {n r s : Nat} {F : List (List Int)} {l : List Rc} {E : ES}
theorem EI.nolock(h:EI n F r s l E){y:Ro}(f:tD E.T y.at' y.lits=false){i:Nat}(hi:i<(fh E.T).rows.length)(b:(fh E.T).rows[i].l∈y.lits):(fh E.T).rows[i].rea≠y.at':=by
 obtain⟨a,e⟩:=h.tok.rows hi;rw[e]at b⊢;intro c;have c:(bH E.T (af E.T.lits[i])).rea=y.at':=c;have b:E.T.lits[i]∈y.lits:=b;have h1:=UJ.1 f _ b;have g:=(h.tok.toTMk.val1 (h.tok.chk _ (SS a))).2 (SS a);have d:dA E.T (af E.T.lits[i])=(bH E.T (af E.T.lits[i]),true):=by
  obtain⟨_,_,_,j,k,_⟩:=bA h.tok.hn (h.tok.chk _ (SS a));have b:=(h.tok.mark i a).1;unfold dA;rw[SM];rintro(h1|h1|h1)
  .omega
  .rw[h.tok.len]at h1;omega
  .rw[b]at h1;unfold xV at h1;split at h1<;>omega
 unfold zy at h1;rw[g,d]at h1;simp[c]at h1
def iG(E:ES)(k:Int):ES:={E with A:=rS E.A k,S:=qU E.S k,gl:=dl E.gl k}
theorem EI.drop1(h:EI n F r s l E)(ho:E.over=false)(m:E.con<0){y:Ro}(hy:y∈aQ 0 l)(D:tD E.T y.at' y.lits=false):EI n F r s (er y.at' 0 l) (iG E y.at'):=by
 have t:=mX l 0 y.at';have a:∀{x},x∈aQ 0 (er y.at' 0 l)↔x∈aQ 0 l∧x.at'≠y.at':=λ{x}=>by
  rw[t,TE];simp
 have j:(rS E.A y.at').row.length=E.A.row.length:=by unfold rS;split;exact Ti;rfl
 obtain⟨I,K⟩:=h.wok.del y.at';have f:∀(l:List Rc)(p:Nat),(er y.at' p l).map (·.id)=l.map (·.id):=by
  intro l
  induction l with
  |nil=>intro p;rfl
  |cons z l H=>intro p;rw[er,Th,Th,H];congr 1;split<;>rfl
 have o:∀c∈rC (er y.at' 0 l),c∈rC l:=λc m=>by
  obtain⟨x,hx,rfl⟩:=SY.1 m;exact UQ (a.1 hx).1
 exact{h with
  wok:=I
  prz:=by have:=h.prz;show(qU E.S y.at').prs.length+r<=_;omega
  ari:=h.ari.drop ((h.ari.isA _).2 ⟨y,hy,rfl⟩)
  rsz:=by show(rS E.A y.at').row.length+s<=_;rw[j];exact h.rsz
  ids:=by
   refine⟨λx hx=>?_,by rw[f];exact h.ids.2⟩;have:x.id∈(er y.at' 0 l).map (·.id):=UQ hx;rw[f]at this;obtain⟨z,hz,e⟩:=SY.1 this;rw[←e];exact h.ids.1 z hz
  cls:=λx hx=>h.cls x (a.1 hx).1
  att:=λk c=>by
   show(∃p,lk (qU E.S y.at').prs k=some p∧p.lits=c)↔_;have h1:=h.att k c;unfold CW at h1;constructor
   .rintro⟨p,hp,e⟩;rw[EL h.wok.nd]at hp;split at hp
    .cases hp
    .rename_i b;obtain⟨x,hx,d,g⟩:=h1.1 ⟨p,hp,e⟩;exact⟨x,a.2 ⟨hx,by rw[d];exact b⟩,d,g⟩
   .rintro⟨x,hx,d,g⟩;obtain⟨hx,b⟩:=a.1 hx;obtain⟨p,hp,e⟩:=h1.2 ⟨x,hx,d,g⟩;exact⟨p,by rw[EL h.wok.nd,SM (by rw[←d];exact b)];exact hp,e⟩
  ef:=h.ef.cls (λk h1 C c m=>h.ef.clm k h1 C c (o c m)) λi hi J k hk d g=>by
   obtain⟨x,hx,u,v⟩:=Ki hk;rw[v]at d⊢;rw[u]at g⊢;have b:x.at'≠y.at':=λe=>by
    have:x=y:=Kj hx hy e;subst this;exact h.nolock D hi g d
   obtain⟨G,q,w,B⟩:=Ew (a.2 ⟨hx,b⟩);exact⟨G,q,B,w⟩
  ent:=λx hx=>h.ent x (a.1 hx).1
  ovr:=by
   refine(iff_of_false (by show¬E.over=true;rw[ho];decide) ?_);rintro⟨x,hx,e⟩;have:=h.ovr.2 ⟨x,(a.1 hx).1,e⟩;rw[ho]at this;cases this
  cal:=λhcl x hx=>h.cal hcl x (a.1 hx).1
  con:=λh1=>absurd h1 (by show¬0<=E.con;omega)}
end
def mg(l:List Rc)(ks:List Int):List Rc:=ks.foldl (λl k=>er k 0 l) l
theorem uG{x:Ro}:∀{ks:List Int}{l:List Rc},x∈aQ 0 (mg l ks)↔x∈aQ 0 l∧x.at'∉ks
 |[],l=>by simp[mg]
 |k::ks,l=>by
  have a:=uG (x:=x) (ks:=ks) (l:=er k 0 l);show x∈aQ 0 (mg (er k 0 l) ks)↔_;rw[a,mX,TE];simp only[Tp,XF,S9,and_assoc]
theorem ql:∀(ks:List Int)(E:ES),(ks.foldl iG E).T=E.T∧(ks.foldl iG E).over=E.over∧(ks.foldl iG E).con=E.con∧(ks.foldl iG E).pf=E.pf∧(ks.foldl iG E).many=E.many∧(ks.foldl iG E).vars=E.vars∧(ks.foldl iG E).cs=E.cs∧(ks.foldl iG E).id=E.id∧(ks.foldl iG E).keep=E.keep
 |[],_=>⟨rfl,rfl,rfl,rfl,rfl,rfl,rfl,rfl,rfl⟩
 |k::ks,E=>ql ks (iG E k)
def mZ(E:ES)(ks:List Int):ES:=if ks=[]then E else ks.foldl iG {E with pf:=E.pf++[⟨2,E.id,[],ks.map (gt E.A)⟩]}
structure RedOk (l:List Rc) (E:ES) (ks:List Int):Prop where
  nd:ks.Nodup
  few:ks.length<=1000
  is:∀k∈ks,∃y∈aQ 0 l,y.at'=k∧tD E.T k y.lits=false∧o6 E.A k=true
  kp:(((rA l).filter (o6 E.A)).length:Int)<=E.keep->ks=[]
  if':ks≠[]->E.over=false∧E.con<0
end Go.AX