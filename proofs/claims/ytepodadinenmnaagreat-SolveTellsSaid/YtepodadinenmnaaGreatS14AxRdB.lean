/-
  Contracts: solve: the search; and what follows.
-/
import Derived.Test.YtepodadinenmnaaGreatS14AxSoB
import Derived.Test.YtepodadinenmnaaGreatS14AxEjT
import Derived.Test.YtepodadinenmnaaGreatS14AxEgV
import Derived.Test.YtepodadinenmnaaGreatS14AxMovR
import Derived.Test.YtepodadinenmnaaGreatS14AxTmB
import Derived.Test.YtepodadinenmnaaGreatS14AxVaA
set_option linter.unusedSimpArgs false
namespace Go.AX
open Go.Proofs
def O9(n:Nat)(F:List (List Int)):Prop:=∀(r s:Nat)(l:List Rc)(E:ES),EI n F r s l E->(∀d∈F,d∈rC l)->E.T.beg.length=0
structure SK (n:Nat) (F:List (List Int)) (bg:Int) (E:ES):Prop where
  cb:(E.pf.length:Int)<=bg
  ov:E.over=true->E.pf.length=0->[]∈F
  zz:O9 n F->E.pf.length=0∨E.over=true
theorem SK.same{n:Nat}{F:List (List Int)}{bg:Int}{E E':ES}(k:SK n F bg E)(a:E'.pf=E.pf)(b:E'.over=E.over):SK n F bg E':=⟨by rw[a];exact k.cb,by rw[a,b];exact k.ov,by rw[a,b];exact k.zz⟩
theorem Fc{n r s:Nat}{F:List (List Int)}{l:List Rc}{E:ES}(I:EI n F r s l E)(a:∀d∈F,d∈rC l)(b:0<=E.con)(z:O9 n F):aH E=[]:=by
 have h0:=z r s l E I a;rcases(I.res b).lev with⟨_,e⟩|⟨u,w,_,b0,b1,_⟩
 .exact e
 .omega
section
variable {n M : Nat} {F : List (List Int)} {h : List (List SV)} {be bt ba bw bh : Nat} {mp : List (Int × Nat)} {mb : List (Int × By)} {E : ES} {l : List Rc}
theorem EI.ended{r s:Nat}(h:EI n F r s l E)(ho:E.over=true):O7 F []:=by
 obtain⟨x,hx,e⟩:=h.ovr.1 ho;rw[←e];exact h.ent x hx
end
set_option maxRecDepth 16000 in
theorem C7(h:List (List SV))(v:Int)(cs:List (List Int))(rs kp m budget:Int)(hcl:∀c∈cs,c.length<=50)(hk:(cH v cs).2≠0∨budget<0∨1000000<budget):
 aA Tryz.prog 28 [.agg [ab v,.seq false 1 (cs.map aq)],.agg [ab rs,ab kp,ab m],ab budget] h (λy h'=>(∃e:Int,y=.pv (.tup [.agg [ab 0,ab 0,.lit (.slice none 0 0),.lit (.slice none 0 0)],ab e])∧e=(if budget<0∨1000000<budget then 2 else(cH v cs).2))∧Ext h h' (λ_=>False) (λb=>h.length<=b)):=by
 refine cQ [] [.cell 6 _,.tmp 7] aD Tryz.func28 ?_;have f:∀c∈cs,c.length<=1000000:=λc o=>by have:=hcl c o;omega
 have k:∀(H:List (List SV)),h.length<=H.length->(∀b,b<h.length->H[b]?=h[b]?)->Ext h H (λ_=>False) (λb=>h.length<=b):=λH h1 j=>⟨h1,λb a _=>j b a,λb a d=>by omega⟩
 by_cases b1:budget<0
 .simp[b1];exact k _ (by simp) λb a=>SZ a
 by_cases b2:1000000<budget
 .simp[b1,b2];exact k _ (by simp) λb a=>SZ a
 have g:(cH v cs).2≠0:=hk.resolve_right (λe=>e.elim b1 b2);have q:=λG=>KF G v cs rs kp m f (.inl g);generalize(cH v cs).2=x at*;simp[b1,b2];refine ai.introM (q _) ?_;rintro _ H ⟨rfl,X⟩;have i:=X.len;have l:∀b,b<h.length->H[b]?=h[b]?:=λb a=>by rw[X.same b (by simp;omega) (λe=>e),SZ a]
 have j:=X.same (h.length+2) (by simp) (λe=>e);simp at j i;obtain⟨p,n⟩:=SQ.1 j;simp[g,p,n];exact k _ (by simp;omega) λb a=>by rw[Tj (by omega)];exact l b a
theorem rv(v:Int)(cs:List (List Int))(rs kp a budget:Int)(hcl:∀c∈cs,c.length<=50)(hk:(cH v cs).2≠0∨budget<0∨1000000<budget):
 aj Tryz.prog 28 [.agg [ab v,.seq false 1 (cs.map aq)],.agg [ab rs,ab kp,ab a],ab budget] (λy=>y=.pv (.tup [.agg [ab 0,ab 0,.lit (.slice none 0 0),.lit (.slice none 0 0)],ab (if budget<0∨1000000<budget then 2 else(cH v cs).2)])):=by
 refine aA.pure ((C7 [] v cs rs kp a budget hcl hk).mono ?_);rintro _ _ ⟨⟨e,rfl,rfl⟩,_⟩;exact⟨_,rfl,rfl⟩
theorem qb:aj Tryz.prog 71 [] (λr=>r=.pv (.agg [ab 1,.seq true 1 [[.seq true 1 [[ab 1]]],[.seq true 1 [[ab (-1)]]]]])):=by
 refine iO [] [.cell 0 _] aD Tryz.func71 ?_;simp
def A1(v:Int)(cs:List (List Int)):Bool:=Ad cs&&(decide (v<=12)&&decide (cs.length<=100))
theorem KQ(v:Int)(cs:List (List Int)):aj Tryz.prog 26 [.agg [ab v,.seq false 1 (cs.map aq)]] (λr=>r=.pv (BL (A1 v cs))):=by
 refine ap aD Tryz.func26 ?_;have a:=Gj v cs;unfold A1;simp;refine ai.intro a ?_;cases Ad cs
 .simp
 by_cases c1:v<=12
 rotate_left
 .simp[c1]
 by_cases c3:(cs.length:Int)<=100
 .have:cs.length<=100:=by omega
  simp[c1,c3,this]
 .have:¬cs.length<=100:=by omega
  simp[c1,c3,this]
section
variable {n r s : Nat} {F : List (List Int)} {l : List Rc} {E : ES}
theorem EI.up1(h:EI n F r s l E)(p:0<E.T.beg.length){c:List Int}(g:c∈rC l){u:Int}(o:u∈c)(m:∀y∈c,y≠u->-y∈bel (ff E.T) 1):u∈bel (ff E.T) 1:=by
 have hcl:=h.ef.clm 1 (by decide) (by show 1<=(E.T.beg.length:Int);omega) c g;have b:=h.tok.toTMk.cons;have k:=h.uok;have a:∀z∈bel (ff E.T) 1,z∈E.T.lits:=λz hz=>by rw[←ge];exact gJ _ hz
 have d:Cons (bel (ff E.T) 1):=λy hy j=>b y (a y hy) (a _ j);apply Ts;intro i
 by_cases f:-u∈bel (ff E.T) 1
 .exact hcl.2 ((k.fail d g).2 λy hy=>(Classical.em (y=u)).elim (λe=>e▸f) (m y hy))
 .have:=k.unit_of d g o i f m;rw[this]at hcl;cases hcl.1
end
theorem qc{E:ES}{y:Int}(hy:y∈bel (ff E.T) 1):y∈E.T.lits:=by rw[←ge];exact gJ _ hy
theorem Sw:O9 1 [[1],[-1]]:=by
 intro r s l E I a;apply Ts;intro c;have h1:=I.up1 (by omega) (a [1] (by simp)) (u:=1) (by simp) (by simp);have b:=I.up1 (by omega) (a [-1] (by simp)) (u:=-1) (by simp) (by simp);exact I.tok.toTMk.cons 1 (qc h1) (qc b)
theorem Sx:O9 2 [[1,2],[-1]]:=by
 intro r s l E I g;apply Ts;intro c;have c:0<E.T.beg.length:=by omega
 have h1:=I.up1 c (g [-1] (by simp)) (u:=-1) (by simp) (by simp);have f:=I.up1 c (g [1,2] (by simp)) (u:=2) (by simp) (by simpa using h1);have h:=I.tok.toTMk.cons;obtain⟨b1,b2⟩:=I.tok.bnd E.T.beg[0] (S5 c);obtain⟨i,hi⟩:=Uo b1;rw[hi]at b2;have b:i<E.T.lits.length:=by omega
 have e:=yk I.tok b;have d:=mt (yg I.tok.rise c i).1 (by omega);have a:=I.tok.chk _ (S5 b);have j:=S5 b;generalize E.T.lits[i]=y at*;have m:y≠0∧-2<=y∧y<=2:=by
  unfold aw at a;rw[SU (by omega)]at a;split at a
  .rename_i q;unfold nH at q;simpa using q
  .cases a
 have k:y=1∨y=-1∨y=2∨y=-2:=by omega
 rcases k with rfl|rfl|rfl|rfl
 .exact h 1 j (qc h1)
 .have:=sq I.tok (y:=1) h1;simp at e d;omega
 .have:=sq I.tok (y:=-2) f;simp at e d;omega
 .exact h 2 (qc f) j
theorem KR:¬∃m:List Bool,m.length=1∧∀c∈([[1],[-1]]:List (List Int)),cI c m=true:=by
 rintro⟨m,a,h⟩
 match m,a with
 |[b],_=>revert h;cases b<;>decide
theorem MR{m:List Bool}(d:m.length=2)(h:∀c∈([[1,2],[-1]]:List (List Int)),cI c m=true):m=[false,true]:=by
 match m,d with
 |[a,b],_=>revert h;cases a<;>cases b<;>decide
section
variable {M c : Nat} {k b : Int} {m : PV} {pf : List Stp}
end
theorem KS{v:Int}{cs:List (List Int)}(h:A1 v cs=true):v<=12∧cs.length<=100∧∀c∈cs,c.length<=50:=by
 unfold A1 Ad at h;simp only[S9,Th,TE]at h;exact⟨h.2.1,h.2.2,h.1.2⟩
end Go.AX
namespace Go.AX
set_option maxRecDepth 16000
open Go.Proofs
theorem Da(l:List Gr)(Y:l.length<=100000)(keep:Int):aj Tryz.prog 114 [.seq false 4 (l.map lE),ab keep] (λr=>r=.own true 1 (ae (jZ l keep))):=by
 refine aj.own0 (R:=λr=>r=.own true 1 (ae (jZ l keep))∨(jZ l keep=[]∧r=.pv (.lit (.slice none 0 0)))) ?_ (λr h=>h.imp id λ⟨H,I⟩=>⟨I,true,1,by rw[H];rfl⟩);refine ap aD Tryz.func114 ?_;have J:=FR l (by omega);have K:=o8.asFnO (Ch l (by omega) 186 mO LM);have O:=FU l;have P:=IF l;have M:=IG (pK l) (by omega);have hd:pJ mO l=(pK l).map g3:=O.symm
 by_cases c:(l.length:Int)<=keep
 .simp[jZ,c]
 simp[c];refine ai.intro J ?_;simp;refine ai.introX (bE.introS (o:=.slot 15) (lo:=0) (hi:=l.length) K (by simp) rfl rfl (by simp) (by simp) rfl (by simp;rw[TT (by simp)];rfl) (lF 0 l) (by simp) (by simp) ?_);rintro k b ⟨rfl,rfl⟩ _ _;have t:List.drop l.length (l.map lE)=[]:=Tq (by simp);have x:(pJ mO l).length=(pK l).length:=by rw[hd,S7]
 have z:∀X,eb rE (pJ mO l++X)=(pK l).map r3++eb rE X:=λX=>by
  rw[hd];unfold eb;rw[Tu,TX];rfl
 rw[z,x];have E:∀k,bI k (eb rE (List.replicate (l.length -(pK l).length) OY)):=λk=>lF k _;have n:∀k (u:List G3),bI k (u.map r3):=λk u=>by
  have:=lF k (u.map g3);rw[TX]at this;exact this
 generalize eb rE (List.replicate (l.length -(pK l).length) OY)=Z at*;have p:jZ l keep=dJ (((vQ (pK l)).take (l.length/2)).map (·.at')):=SU c;generalize W:pK l=may at*;have B:List.take may.length (may.map r3++Z)=may.map r3:=UY (by simp);have w:List.drop may.length (may.map r3++Z)=Z:=WA (by simp);have T:(vQ may).length=may.length:=(oM may).length_eq;generalize vQ may=a at*;simp[t];refine ai.introX (bE.introS (o:=.slot 15) (lo:=0) (hi:=may.length) M (by simp) rfl rfl (by simp) (by simp) rfl (by simp[B]) ?_ (by simp) (by simp) ?_)
 .exact lF 0 (may.map g3)|>λh=>by rw[TX]at h;exact h
 rintro k b ⟨rfl,rfl⟩ _ _;obtain⟨q,Q⟩:∃q:Nat,l.length/2=q:=⟨_,rfl⟩;rw[Q]at p;have U:aX ((l.length:Int)/2)=(q:Int):=by rw[ao (by omega) (by omega)];omega
 have g:min may.length (a.length+Z.length)=may.length:=by omega
 have f:(if q<may.length then(q:Int)else may.length)=((min may.length q:Nat):Int):=by split<;>omega
 have C:a.take q=a.take (min may.length q):=by
  by_cases e:q<=may.length
  .rw[Nat.min_eq_right e]
  .rw[Uw (by omega),TT (by omega),TT (by omega)]
 rw[C]at p;have F:min may.length q<=a.length:=by omega
 generalize min may.length q=m at*;simp[w,U,g,f];refine⟨by omega,?_⟩;refine ax.intro (S:=λ(i:Nat)=>⟨[(7,.own true 1 (ae ((a.take i).map (·.at')))),(15,.own true 4 (a.map r3++Z)),(27,.loc (.slot 15) 0 m),(28,.pv (ab m)),(29,.pv (ab i))],[]⟩) (λi=>i<=m) (λi=>m -i) 0 ?_ (Tf _) ?_
 .exact(ah.nilOwn (s:=7) 1 true (by simp)).trans (ah.to (by simp[ae,f];omega) rfl (by simp) (by simp[n,E]) (by simp))
 intro i hi
 by_cases G:i<m
 .have D:=dv i;have d:i<a.length:=by omega
  have y:(a.map r3++Z)[i]?=some (r3 a[i]):=by rw[SZ (by simpa using d),Tm,SR d];rfl
  have A:ae (List.take i (a.map (·.at')))++[[ab a[i].at']]=ae (List.take (i+1) (a.map (·.at'))):=by
   rw[mK,TW,Tm,SR d];rfl
  simp[G,y,r3,lE,g3];refine⟨by omega,by omega,by omega,i+1,by dsimp only;omega,by dsimp only;omega,ah.to ?_ rfl (by simp) ?_ (by simp)⟩
  .simp[D,A]
  .simp[n,E]
 .have:i=m:=by omega
  subst this;have j:List.take i (a.map (·.at'))=(a.take i).map (·.at'):=by rw[UB]
  rw[←j]at p;have N:(List.take i (a.map (·.at'))).length=i:=by rw[S6,S7];omega
  rw[←j];generalize List.take i (a.map (·.at'))=V at*;have L:=vR V (by omega);have v:List.drop V.length (ae V)=[]:=Tq (by simp);simp;refine ai.introX (bE.introS (o:=.slot 7) (lo:=0) (hi:=V.length) L (by simp) rfl rfl (by simp) (by simp) rfl (by simp;rw[TT (by simp)]) (aU 0 V) (by simp) (by simp) ?_);rintro k b ⟨rfl,rfl⟩ _ _;simp[v,p]
section
variable {h : List (List SV)} {be bt ba bw bh : Nat} {mp : List (Int × Nat)} {mb : List (Int × By)} {E : ES}
def Sy(E:ES)(k:Int):Gr:=⟨k,(lk E.gl k).getD 0,(av E.A k).length,tz E.T k (av E.A k)⟩
def nK(E:ES)(ks:List Int):List Gr:=(ks.filter (oZ E.A)).map (Sy E)
theorem A5(E:ES)(ks:List Int):(nK E ks).length<=ks.length:=by
 unfold nK;rw[S7];exact Uq _ _
theorem A6(L:LayE h be bt ba bw bh mp mb E){l:List Rc}(j:ArI E.A l)(u:E.A.row.length<=1000000)(z:E.T.ok):
 aA Tryz.prog 115 [.ptr be 0] h (λr h'=>h'=h∧r=.pv (.seq true 4 ((nK E (rA l)).map lE))):=by
 refine d7 [] [.tmp 2] aD Tryz.func115 ?_;obtain⟨g,f⟩:=SQ.1 L.e;have C:=ML h ba E.A L.w.a l j.row u;have hz:=cW L.w.t 2;have B:(rA l).length<=1000000:=by
  have h1:=p9 l 0;have x:=ux l;rw[←j.row]at x;unfold rA;rw[S7];omega
 simp[f,g,bO];refine am.intro C ?_;rintro _ h ⟨rfl,rfl⟩;simp;refine ax.intro (S:=λ(i:Nat)=>⟨[(0,.pv (.ptr be 0)),(3,.own true 4 ((nK E ((rA l).take i)).map lE)),(11,.pv (.seq true 1 (ae (rA l)))),(12,.pv (ab (rA l).length)),(13,.pv (ab i))],h⟩)
  (λi=>i<=(rA l).length) (λi=>(rA l).length -i) 0 ?_ (Tf _) ?_
 .exact(ah.nilOwn (s:=3) 4 true (by simp)).trans (ah.keep (by simp[nK]) rfl)
 intro i hi
 by_cases c:i<(rA l).length
 .have v:=dv i;obtain⟨y,hy,e⟩:=S8.1 (S5 c);have p:isA E.A (rA l)[i]=true:=(j.isA _).2 ⟨y,hy,e⟩;have m:=gM l 0 y hy;rw[←j.row]at m;have F:=CP h ba E.A L.w.a (rA l)[i] (λ_=>by rw[←e];omega) (by omega);have G:=wu h ba E.A L.w.a j.arok u (rA l)[i] p;have q:(av E.A (rA l)[i]).length<=1000000:=by
   rw[←e,(j.at hy).1];omega
  have D:=FW E.T z (rA l)[i] (av E.A (rA l)[i]) q;have b:nK E ((rA l).take (i+1))=nK E ((rA l).take i)++if oZ E.A (rA l)[i]=true then[Sy E (rA l)[i]]else[]:=by
   unfold nK;rw[kr c,Uu,Tu];congr 1;simp only[TO,Wd];split<;>rfl
  have n:=A5 E ((rA l).take i);rw[S6]at n;unfold Sy at b;generalize nK E ((rA l).take i)=H at*;generalize k:(rA l)[i]=at' at*;simp[c,f,g,bO,k];refine am.intro F ?_;rintro _ h ⟨rfl,rfl⟩;cases d:oZ E.A at'
  .rw[d]at b;simp[d];exact⟨i+1,by(try dsimp only);omega,by(try dsimp only);omega,ah.keep (by simp[v,b]) rfl⟩
  .rw[d]at b;simp[d,f,g,bO];refine am.intro G ?_;rintro _ h ⟨rfl,rfl⟩;simp[f,g,bO,hz];refine bz.intro D ?_;simp[f,g,bO,hz];refine⟨by omega,?_⟩;exact⟨i+1,by(try dsimp only);omega,by(try dsimp only);omega,ah.keep (by simp[v,lE,b]) rfl⟩
 .have o:i=(rA l).length:=by omega
  subst o;rw[Tw];simp[bB,bc]
end
theorem GW{l:List Gr}{keep k:Int}(h:k∈jZ l keep):∃x∈l,x.at'=k∧x.lo=false:=by
 unfold jZ at h;split at h
 .cases h
 .obtain⟨z,hz,rfl⟩:=S8.1 ((Va _ _).mem_iff.1 h);have hz:=(oM _).mem_iff.1 (TV hz);obtain⟨x,hx,rfl⟩:=S8.1 hz;obtain⟨h1,a⟩:=TJ.1 hx;refine⟨x,h1,rfl,?_⟩;unfold mO at a;cases e:x.lo
  .rfl
  .rw[e]at a;simp at a
theorem KY{l:List Gr}{keep:Int}(h:(l.map (·.at')).Nodup):(jZ l keep).Nodup:=by
 unfold jZ;split
 .exact Xh
 .refine(Va _ _).nodup_iff.2 (List.Nodup.sublist ((Vl _ _).map _) (((oM _).map _).nodup_iff.2 ?_));unfold pK;rw[TX];exact h.sublist (VI.map _)
theorem Q7(l:List Rc):(rA l).Nodup:=Ux.2 ((yi l 0).imp λh e=>by omega)
theorem MT{E:ES}{l:List Rc}(c:ArI E.A l)(m:Nat):((jZ (nK E (rA l)) E.keep).take m).Nodup∧∀k∈(jZ (nK E (rA l)) E.keep).take m,∃y∈aP 0 l,y.at'=k∧tz E.T k y.lits=false∧oZ E.A k=true:=by
 refine⟨(KY ?_).sublist (Vl _ _),λk hk=>?_⟩
 .unfold nK;rw[TX];exact((List.map_id' _).symm▸(Q7 l).sublist VI:(((rA l).filter (oZ E.A)).map λk=>k).Nodup)
 .obtain⟨x,hx,rfl,b⟩:=GW (TV hk);obtain⟨d,a,rfl⟩:=S8.1 hx;obtain⟨y,hy,rfl⟩:=S8.1 (TJ.1 a).1;exact⟨y,hy,rfl,by rw[←(c.at hy).1];exact b,(TJ.1 a).2⟩
end Go.AX
namespace Go.AX
open Go.Proofs
theorem Fd{S:WS}(hn:(S.prs.map (·.1)).Nodup)(k j:Int):lk (qQ S k).prs j=if j=k then none else lk S.prs j:=by
 unfold qQ;cases hp:lk S.prs k with
 |none=>
  by_cases e:j=k
  .rw[SX e,e];exact hp
  .rw[SU e]
 |some p=>
  have a:((fl S k p).prs).map (·.1)=S.prs.map (·.1):=eM _ hp;show lk (dl (fl S k p).prs k) j=_;rw[oX (by rw[a];exact hn)]
  by_cases e:j=k
  .rw[SX e,SX e]
  .rw[SU e,SU e];exact dG e
theorem WOk.del{n:Nat}{S:WS}(h:WOk n S)(k:Int):WOk n (qQ S k)∧(qQ S k).prs.length<=S.prs.length:=by
 have a:=h.toWch.del k;unfold qQ at a⊢;cases hp:lk S.prs k with
 |none=>exact⟨h,SY _⟩
 |some p=>
  rw[hp]at a;simp only at a⊢;have hk:(pt S.prs k ⟨p.lits,0,0⟩).map (·.1)=S.prs.map (·.1):=eM _ hp;have hle:(dl (pt S.prs k ⟨p.lits,0,0⟩) k).length<=S.prs.length:=by
   have h1:=Jk (pt S.prs k ⟨p.lits,0,0⟩) k;have b:=Vm List.length hk;rw[S7,S7]at b;omega
  exact⟨{a with
   few:=TD hle h.few
   h0:=h.h0,h1:=h.h1,sl:=h.sl
   clr:=λy hy=>eO (eO (h.clr y hy))},hle⟩
theorem Wch.hx{n:Nat}{S:WS}(h:Wch n S)(k:Int):∀p,lk S.prs k=some p->(p.x≠0->∃zs,lk S.byl p.x=some zs∧zs≠[])∧(p.y≠0->∃zs,lk (er S.byl k p.x) p.y=some zs∧zs≠[]):=λp hp=>by
 have a:∀m:Int,m≠0->(p.x=m∨p.y=m)->∃zs,lk S.byl m=some zs∧zs≠[]:=λm f d=>by
  obtain⟨zs,e,hz⟩:=h.entry hp f d;exact⟨zs,e,λq=>by rw[q]at hz;cases hz⟩
 refine⟨λg=>a _ g (.inl rfl),λi=>?_⟩;obtain⟨zs,e,hz⟩:=a _ i (.inr rfl);refine⟨zs,?_,hz⟩;unfold er
 by_cases c:p.x=0
 .rw[SX c];exact e
 .have b:p.x≠p.y:=by
   rcases h.two k p hp with⟨_,z,_⟩|⟨_,z,_⟩
   .exact absurd z c
   .exact z
  rw[SU c,bJ,SU b];exact e
section
variable {n r s : Nat} {F : List (List Int)} {l : List Rc} {E : ES}
theorem EI.nolock(h:EI n F r s l E){y:Ro}(f:tz E.T y.at' y.lits=false){i:Nat}(hi:i<(ff E.T).rows.length)(b:(ff E.T).rows[i].l∈y.lits):(ff E.T).rows[i].rea≠y.at':=by
 obtain⟨a,e⟩:=h.tok.rows hi;rw[e]at b⊢;intro c;have c:(bG E.T (af E.T.lits[i])).rea=y.at':=c;have b:E.T.lits[i]∈y.lits:=b;have h1:=UE.1 f _ b;have g:=(h.tok.toTMk.val1 (h.tok.chk _ (S5 a))).2 (S5 a);have d:dw E.T (af E.T.lits[i])=(bG E.T (af E.T.lits[i]),true):=by
  obtain⟨_,_,_,j,k,_⟩:=br h.tok.hn (h.tok.chk _ (S5 a));have b:=(h.tok.mark i a).1;unfold dw;rw[SU];rintro(h1|h1|h1)
  .omega
  .rw[h.tok.len]at h1;omega
  .rw[b]at h1;unfold x5 at h1;split at h1<;>omega
 unfold zH at h1;rw[g,d]at h1;simp[c]at h1
def iz(E:ES)(k:Int):ES:={E with A:=rN E.A k,S:=qQ E.S k,gl:=dl E.gl k}
theorem EI.drop1(h:EI n F r s l E)(ho:E.over=false)(m:E.con<0){y:Ro}(hy:y∈aP 0 l)(D:tz E.T y.at' y.lits=false):EI n F r s (eu y.at' 0 l) (iz E y.at'):=by
 have t:=m7 l 0 y.at';have a:∀{x},x∈aP 0 (eu y.at' 0 l)↔x∈aP 0 l∧x.at'≠y.at':=λ{x}=>by
  rw[t,TJ];simp
 have j:(rN E.A y.at').row.length=E.A.row.length:=by unfold rN;split;exact Tt;rfl
 obtain⟨I,K⟩:=h.wok.del y.at';have f:∀(l:List Rc)(p:Nat),(eu y.at' p l).map (·.id)=l.map (·.id):=by
  intro l
  induction l with
  |nil=>intro p;rfl
  |cons z l H=>intro p;rw[eu,Tn,Tn,H];congr 1;split<;>rfl
 have o:∀c∈rC (eu y.at' 0 l),c∈rC l:=λc m=>by
  obtain⟨x,hx,rfl⟩:=S8.1 m;exact UX (a.1 hx).1
 exact{h with
  wok:=I
  prz:=by have:=h.prz;show(qQ E.S y.at').prs.length+r<=_;omega
  ari:=h.ari.drop ((h.ari.isA _).2 ⟨y,hy,rfl⟩)
  rsz:=by show(rN E.A y.at').row.length+s<=_;rw[j];exact h.rsz
  ids:=by
   refine⟨λx hx=>?_,by rw[f];exact h.ids.2⟩;have:x.id∈(eu y.at' 0 l).map (·.id):=UX hx;rw[f]at this;obtain⟨z,hz,e⟩:=S8.1 this;rw[←e];exact h.ids.1 z hz
  cls:=λx hx=>h.cls x (a.1 hx).1
  att:=λk c=>by
   show(∃p,lk (qQ E.S y.at').prs k=some p∧p.lits=c)↔_;have h1:=h.att k c;unfold CW at h1;constructor
   .rintro⟨p,hp,e⟩;rw[Fd h.wok.nd]at hp;split at hp
    .cases hp
    .rename_i b;obtain⟨x,hx,d,g⟩:=h1.1 ⟨p,hp,e⟩;exact⟨x,a.2 ⟨hx,by rw[d];exact b⟩,d,g⟩
   .rintro⟨x,hx,d,g⟩;obtain⟨hx,b⟩:=a.1 hx;obtain⟨p,hp,e⟩:=h1.2 ⟨x,hx,d,g⟩;exact⟨p,by rw[Fd h.wok.nd,SU (by rw[←d];exact b)];exact hp,e⟩
  ef:=h.ef.cls (λk h1 C c m=>h.ef.clm k h1 C c (o c m)) λi hi J k hk d g=>by
   obtain⟨x,hx,u,v⟩:=Kv hk;rw[v]at d⊢;rw[u]at g⊢;have b:x.at'≠y.at':=λe=>by
    have:x=y:=Kw hx hy e;subst this;exact h.nolock D hi g d
   obtain⟨G,q,w,B⟩:=EU (a.2 ⟨hx,b⟩);exact⟨G,q,B,w⟩
  ent:=λx hx=>h.ent x (a.1 hx).1
  ovr:=by
   refine(iff_of_false (by show¬E.over=true;rw[ho];decide) ?_);rintro⟨x,hx,e⟩;have:=h.ovr.2 ⟨x,(a.1 hx).1,e⟩;rw[ho]at this;cases this
  cal:=λhcl x hx=>h.cal hcl x (a.1 hx).1
  con:=λh1=>absurd h1 (by show¬0<=E.con;omega)}
end
def mh(l:List Rc)(ks:List Int):List Rc:=ks.foldl (λl k=>eu k 0 l) l
theorem uC{x:Ro}:∀{ks:List Int}{l:List Rc},x∈aP 0 (mh l ks)↔x∈aP 0 l∧x.at'∉ks
 |[],l=>by simp[mh]
 |k::ks,l=>by
  have a:=uC (x:=x) (ks:=ks) (l:=eu k 0 l);show x∈aP 0 (mh (eu k 0 l) ks)↔_;rw[a,m7,TJ];simp only[Tx,Xy,Th,and_assoc]
theorem qf:∀(ks:List Int)(E:ES),(ks.foldl iz E).T=E.T∧(ks.foldl iz E).over=E.over∧(ks.foldl iz E).con=E.con∧(ks.foldl iz E).pf=E.pf∧(ks.foldl iz E).many=E.many∧(ks.foldl iz E).vars=E.vars∧(ks.foldl iz E).cs=E.cs∧(ks.foldl iz E).id=E.id∧(ks.foldl iz E).keep=E.keep
 |[],_=>⟨rfl,rfl,rfl,rfl,rfl,rfl,rfl,rfl,rfl⟩
 |k::ks,E=>qf ks (iz E k)
def nc(E:ES)(ks:List Int):ES:=if ks=[]then E else ks.foldl iz {E with pf:=E.pf++[⟨2,E.id,[],ks.map (gn E.A)⟩]}
structure RedOk (l:List Rc) (E:ES) (ks:List Int):Prop where
  nd:ks.Nodup
  few:ks.length<=1000
  is:∀k∈ks,∃y∈aP 0 l,y.at'=k∧tz E.T k y.lits=false∧oZ E.A k=true
  kp:(((rA l).filter (oZ E.A)).length:Int)<=E.keep->ks=[]
  if':ks≠[]->E.over=false∧E.con<0
end Go.AX