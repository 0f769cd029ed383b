/-
  A call of the law: what holds of an engine stays.
  Two engines that the document fixes (plain law).
  Contracts: what the document fixes.
  The law's contract: EngineAgrees.
-/
import Derived.Test.YtepodadinenmnaaGreatS14AxEgW
import Derived.Test.YtepodadinenmnaaGreatS14AxEgI
import Derived.Test.YtepodadinenmnaaGreatS14AxEgQ
import Derived.Test.YtepodadinenmnaaGreatS14AxTmB
import Derived.Test.YtepodadinenmnaaGreatS14AxVaA
namespace Go.AX
open Go.Proofs
set_option linter.unusedSimpArgs false
theorem CZ{A:Ar}:∀(l a:List Rc),A.row=bv (a++l)->(((bg (bv a).length l).map (·.at')).filter (pd A)).length<=(l.filter λx=>decide (x.side=1)).length
 |[],_,_=>by simp[bg]
 |x::l,a,h=>by
  have b:=CZ l (a++[x]) (by simpa using h);have e:(bv (a++[x])).length=(bv a).length+x.sz:=by rw[jR];simp[bv,Rc.sz];omega
  rw[e]at b;have g:=(wM a x l).2.2.1;rw[←h]at g;rw[bg]
  by_cases c:x.side=2
  .rw[Qb c];exact QP b (by rw[Q9];split<;>simp)
  .rw[Qa c,Qw]
   by_cases d:x.side=1
   .have h1:∀(f:Int->Bool)(k:Int)(ks:List Int),((k::ks).filter f).length<=(ks.filter f).length+1:=λf k ks=>by
     rw[Q9];split<;>simp
    rw[List.filter_cons_of_pos (p:=λx:Rc=>decide (x.side=1)) (by simp[d]),QA];exact QP (h1 _ _ _) (by omega)
   .have:pd A (((bv a).length:Nat):Int)=false:=by
     unfold pd;rw[Rm,g,RX d,Bool.and_false]
    rw[Q9,Q9,Qa (by simp[this]),Qa (by simp[d])];exact b
structure EJ (n:Nat) (F:List (List Int)) (r s:Nat) (l:List Rc) (E:ES):Prop extends EI n F r s l E where
  kp:(((l.filter λx=>decide (x.side=1)).length+r:Nat):Int)<=E.keep
  mny:0<=E.many∧E.many+r<=1000000
  pfz:E.pf.length+r<=1000000
  pfs:∀x∈E.pf,x.lits.length<=1000000∧x.hints.length<=1000000
  vr:E.vars=n
  fm:E.cs=F
section
variable {n r s : Nat} {F : List (List Int)} {l : List Rc} {E : ES}
theorem EJ.less(h:EJ n F (r+1) (s+(n+3)) l E):EJ n F r s l E:=
 {h.toEI.mono (RO _) (UH _ _)with
  kp:=by have:=h.kp;omega
  mny:=by have:=h.mny;omega
  pfz:=by have:=h.pfz;omega
  pfs:=h.pfs,vr:=h.vr,fm:=h.fm}
theorem EJ.to{a:ES}{l':List Rc}(h:EJ n F r s l E)(b:EI n F r s l' a)(d:l'=l)(hk:a.keep=E.keep)(e:a.many=E.many)(hp:a.pf=E.pf)(f:a.vars=E.vars)(c:a.cs=E.cs):EJ n F r s l' a:=
 {b with kp:=by rw[d,hk];exact h.kp,mny:=by rw[e];exact h.mny,pfz:=by rw[hp];exact h.pfz,pfs:=by rw[hp];exact h.pfs,vr:=f.trans h.vr,fm:=c.trans h.fm}
theorem EI.calmc(h:EI n F r s l E)(d:E.calm=true):E.con<0:=by
 apply QJ;intro hn;obtain⟨x,hx,_,c⟩:=h.con (by omega);have ho:=(h.cl hx).2;rcases h.cal d x hx with⟨y,a,b⟩|⟨y,z,a,_,_,b,_⟩
 .have:=h.ef.one (ho y a);rw[iS]at this;exact this ⟨b,c y a⟩
 .exact b (c y a)
theorem EI.again(h:EI n F r s l E)(q:HS)(a:HpTo n E.q q)(p:List Bool)(hp:p.length=n+1)(hin:∀z∈E.T.lits,z∉(fl E.T 0).lits->ae z∈q.row):EI n F r s l {E with T:=fl E.T 0,q:=q,ph:=p,con:=-1,calm:=false}:=by
 unfold fl at hin⊢
 by_cases c:0<E.T.beg.length
 .rw[Qb (by simp;omega)]at hin⊢;exact h.back c q a.hp a.mem hin p hp
 .rw[Qa (by simpa using c)];exact{h.rest with hp:=a.hp,inh:=λv d e b=>a.mem v (h.inh v d e b),ph:=hp}
theorem EI.decs(h:EI n F r s l E){a:ES}{b:Bool}(hd:CY n E a b):EI n F r s l a:=by
 rcases hd with⟨_,rfl,_⟩|⟨_,c,q,d,⟨_,x,hx,rfl,hin⟩|⟨_,rfl,i,hin⟩⟩
 .exact h
 .exact h.dec c hx q d hin (h.calmc c)
 .exact{h with hp:=d,inh:=λv f g e=>absurd (hin v (h.inh v f g e)) e}
theorem EI.prps(h:EI n F r s l E):EI n F r s l (bm E):=by
 unfold bm;split
 .exact h
 .exact h.prp
end
section
variable {h : List (List SV)} {be bt ba bw bh : Nat} {mp : List (Int × Nat)} {mb : List (Int × By)} {E : ES} {n r s : Nat} {F : List (List Int)} {l : List Rc}
def OJ(l:List Rc)(E:ES)(l':List Rc)(a:ES):Prop:=(l'=l∧a.pf=E.pf∧a.id=E.id)∨(E.over=false∧0<=E.con∧l'=l++[⟨E.id+1,1,aI E⟩]∧∃q p k,a=p6 E q p k)
def KT(h:List (List SV))(be bt ba bw bh:Nat)(mp:List (Int×Nat))(mb:List (Int×By))(n:Nat)(F:List (List Int))(r s:Nat)(l:List Rc)(E:ES)(h':List (List SV)):Prop:=∃mp' mb' a l',LayE h' be bt ba bw bh mp' mb' a∧Ext h h' (eG be bt ba bw bh mp mb) (eG be bt ba bw bh mp' mb')∧EJ n F r s l' a∧OJ l E l' a
theorem ID(L:LayE h be bt ba bw bh mp mb E)(I:EJ n F (r+1) (s+(n+3)) l E)(k:Int):
 ay Tryz.prog 22 [.ptr be 0,af k] h (λy h'=>y=.pv (.tup [])∧KT h be bt ba bw bh mp mb n F r s l E h'):=by
 refine cY [] [] aD Tryz.func22 ?_; have J := I.less; have c := I.toEI; have B := c.n9; have g := c.tok; have a : KT h be bt ba bw bh mp mb n F r s l E h := ⟨mp, mb, E, l, L, Ext.refl _ _, J, .inl ⟨rfl, rfl, rfl⟩⟩; have k0 := sY L c.wok g; have D := Bo L g c.hp c.ph; have G := zc L g c.hp c.ph; have K := za L c.ari (by have := c.rsz; omega) g.okT (by
  have h1:=CZ (A:=E.A) l [] (by rw[QL];exact c.ari.row);have w:=I.kp;have M:(((rA l).filter (pd E.A)).length)<=(l.filter λx=>decide (x.side=1)).length:=h1;omega)
 by_cases j:k=0
 .simp[j];refine ak.intro k0 ?_;rintro _ H ⟨rfl,mb',d,f⟩;simp;exact⟨mp,mb',bm E,l,d,f,J.to J.toEI.prps rfl (by unfold bm;split<;>rfl) (by unfold bm;split<;>rfl) (by unfold bm;split<;>rfl) (by unfold bm;split<;>rfl) (by unfold bm;split<;>rfl),.inl ⟨rfl,by unfold bm;split<;>rfl,by unfold bm;split<;>rfl⟩⟩
 by_cases c1:k=1
 .simp[c1]
  by_cases m:E.over=true∨E.con<0
  .refine ak.intro (wP L.e m) ?_;rintro _ _ ⟨rfl,rfl⟩;simpa using a
  .have ho:E.over=false:=by cases e:E.over<;>simp[e]at m⊢
   have i:0<=E.con:=by omega
   have t:=c.res i;refine ak.intro (qs L c ho i (by have:=I.pfz;omega) (by have:=I.mny;omega)) ?_;rintro _ H ⟨rfl,mp',q,p,k',d,f,v⟩;simp;have z:=t.len;have hle:=t.hle;refine⟨mp',mb,_,_,d,f,{v with kp:=?_,mny:=?_,pfz:=?_,pfs:=?_,vr:=I.vr,fm:=I.fm},.inr ⟨ho,i,rfl,q,p,k',rfl⟩⟩
   .have w:=I.kp;show _<=E.keep;rw[RK];simp;omega
   .have:=I.mny;show 0<=E.many+1∧E.many+1+r<=1000000;omega
   .have:=I.pfz;show(E.pf++[_]).length+r<=1000000;simp;omega
   .intro x hx;rcases Qn.1 hx with hx|hx
    .exact I.pfs x hx
    .simp at hx;subst hx;exact⟨by show(aI E).length<=_;omega,by simp;omega⟩
 by_cases c2:k=2
 .simp[c2];refine ak.intro D ?_;rintro _ H ⟨u,b,rfl,hd,d,f⟩;simp;refine⟨mp,mb,u,l,d,f,?_,?_⟩;rotate_left
  .rcases hd with⟨_,rfl,_⟩|⟨_,_,q,_,⟨_,x,_,rfl,_⟩|⟨_,rfl,_,_⟩⟩<;>exact .inl ⟨rfl,rfl,rfl⟩
  have o:=J.toEI.decs hd;rcases hd with⟨_,rfl,_⟩|⟨_,_,q,_,⟨_,x,_,rfl,_⟩|⟨_,rfl,_,_⟩⟩
  .exact J
  .exact J.to o rfl rfl rfl rfl rfl rfl
  .exact J.to o rfl rfl rfl rfl rfl rfl
 by_cases c3:k=3
 .simp[c3];refine ak.intro G ?_;rintro _ H ⟨rfl,⟨_,rfl⟩|⟨_,q,p,d,f,C,hp,hin⟩⟩
  .simpa using a
  .simp;exact⟨mp,mb,_,l,d,f,J.to (J.toEI.again q C p hp hin) rfl rfl rfl rfl rfl rfl,.inl ⟨rfl,rfl,rfl⟩⟩
 simp[j,c1,c2,c3];refine ak.intro K ?_;rintro _ _ ⟨rfl,rfl⟩;simpa using a
end
section
variable {n r s : Nat} {F : List (List Int)} {l : List Rc} {E : ES}
theorem tb{c:List Int}(h:c∈rC l):∃x∈bg 0 l,x.lits=c:=by
 obtain⟨x,hx,e⟩:=Qk.1 h;exact⟨x,hx,e⟩
theorem IE{x:Ro}(h:x∈bg 0 l):x.lits∈rC l:=Sy h
theorem EI.notover(h:EI n F r s l E)(hn:[]∉rC l):E.over=false:=by
 cases e:E.over
 .rfl
 .obtain⟨x,hx,a⟩:=h.ovr.1 e;exact absurd (a▸IE hx) hn
theorem EI.one(h:EI n F r s l E){y:Int}(hy:cK y=true):¬(y∈E.T.lits∧-y∈E.T.lits):=by
 have:=h.ef.one hy
 rwa [iS]at this
theorem EI.prpbeg(h:EI n F r s l E):(bm E).T.beg=E.T.beg:=by
 unfold bm;split
 .rfl
 .exact(HE h.wok h.tok).grow.pre.2
theorem EI.prpover:(bm E).over=E.over:=by unfold bm;split<;>rfl
theorem EI.zero(h:EI n F r s l E)(d:E.T.beg.length=0){y:Int}(hy:y∈E.T.lits):MQ F [y]:=by
 obtain⟨i,hi,rfl⟩:=Qm hy;have a:i<(fN E.T).rows.length:=by simpa[fN]using hi
 obtain⟨_,e⟩:=h.tok.rows a;have hz:=h.ef.zero h.clsN (F:=F) (λc b=>by obtain⟨x,hx,rfl⟩:=tb b;exact h.ent x hx) (i+1) i a (by omega)
  (by rw[e];have:=CN E.T.beg i;dsimp only;omega)
 rw[e]at hz;exact hz
theorem zi(ho:E.over=false):(bm E).calm=decide ((bm E).con<0):=by
 unfold bm;rw[Qa (by simp[ho])]
theorem LW(I:EI 1 [[1],[-1]] r s l E)(f:rC l=[[1],[-1]])(n:E.T=jE 1):E.over=false∧(bm E).calm=false∧0<=(bm E).con∧(bm E).over=false∧(bm E).T.beg.length=0:=by
 have ho:=I.notover (by rw[f];simp);have J:=I.prps;have h:(bm E).calm=false:=by
  cases e:(bm E).calm
  .rfl
  .obtain⟨x,hx,i⟩:=tb (l:=l) (c:=[1]) (by rw[f];simp);obtain⟨y,hy,j⟩:=tb (l:=l) (c:=[-1]) (by rw[f];simp);have h1:=J.cal e x hx;have g:=J.cal e y hy;rw[i]at h1;rw[j]at g;have k:(1:Int)∈(bm E).T.lits:=by
    rcases h1 with⟨z,a,d⟩|⟨z,w,a,d,m,_⟩
    .simp at a;subst a;exact d
    .simp at a d;omega
   have g2:(-1:Int)∈(bm E).T.lits:=by
    rcases g with⟨z,a,d⟩|⟨z,w,a,d,m,_⟩
    .simp at a;subst a;exact d
    .simp at a d;omega
   exact absurd ⟨k,g2⟩ (J.one (y:=1) (by decide))
 have b:=zi ho;rw[h]at b;exact⟨ho,h,by have:=of_decide_eq_false b.symm;omega,EI.prpover.trans ho,by rw[I.prpbeg,n];rfl⟩
theorem LY(I:EI 2 [[1,2],[-1]] r s l E)(m:rC l=[[1,2],[-1]])(B:E.T=jE 2):E.over=false∧(bm E).calm=true∧(bm E).con<0∧(bm E).over=false∧(bm E).T.beg.length=0∧(bm E).T.lits.length=2∧mT (bm E).T.lits 2=[false,true]:=by
 have ho:=I.notover (by rw[m];simp);have J:=I.prps;have u:(bm E).T.beg.length=0:=by rw[I.prpbeg,B];rfl
 have D:∀d∈([[1,2],[-1]]:List (List Int)),d0 d [false,true]=true:=by decide
 have hz:∀y∈(bm E).T.lits,d0 [y] [false,true]=true:=λy hy=>J.zero u hy _ D;have g:(1:Int)∉(bm E).T.lits:=λh=>absurd (hz 1 h) (by decide);have q:(-2:Int)∉(bm E).T.lits:=λh=>absurd (hz (-2) h) (by decide);have i:(bm E).con<0:=by
  apply QJ;intro k;obtain⟨x,hx,_,j⟩:=J.con (by omega);have hx:=IE hx;rw[m]at hx;simp at hx;rcases hx with e|e
  .exact q (j 2 (by rw[e];simp))
  .have:=j (-1) (by rw[e];simp);simp only[R2]at this;exact g this
 have k:(bm E).calm=true:=by rw[zi ho];exact Sn i
 obtain⟨x,hx,n⟩:=tb (l:=l) (c:=[1,2]) (by rw[m];simp);obtain⟨y,hy,o⟩:=tb (l:=l) (c:=[-1]) (by rw[m];simp);have h1:=J.cal k x hx;have j:=J.cal k y hy;rw[n]at h1;rw[o]at j;have g2:(-1:Int)∈(bm E).T.lits:=by
  rcases j with⟨z,b,f⟩|⟨z,w,b,f,t,_⟩
  .simp at b;subst b;exact f
  .simp at b f;omega
 have p:(2:Int)∈(bm E).T.lits:=by
  rcases h1 with⟨z,b,f⟩|⟨z,w,b,f,t,v,A⟩
  .simp at b;rcases b with rfl|rfl
   .exact absurd f g
   .exact f
  .simp at b f;rcases b with rfl|rfl
   .exact absurd g2 v
   .rcases f with rfl|rfl
    .exact absurd g2 A
    .exact absurd rfl t
 have C:(bm E).T.lits.length=2:=by
  have:=J.tok.few;have b:2<=(bm E).T.lits.length:=by
   generalize(bm E).T.lits=L at*
   match L,p,g2 with
   |[],h,_=>cases h
   |[a],h,h'=>simp at h h';omega
   |_::_::_,_,_=>simp
  omega
 refine⟨ho,k,i,EI.prpover.trans ho,u,C,?_⟩;unfold mT;have n:¬(0:Int)+1∈(bm E).T.lits:=g;have o:(1:Int)+1∈(bm E).T.lits:=p;simp[Tg,n,o];exact⟨g,p⟩
end
theorem Ext.some{h h':List (List SV)}{D:Nat->Prop}(x:Ext h h' (λ_=>False) D):∃g,h'=h++g:=by
 refine⟨h'.drop h.length,?_⟩;have:h'.take h.length=h:=by
  refine Rt λi=>?_
  by_cases c:i<h.length
  .rw[Re,Qb c,x.same i c (λe=>e)]
  .rw[Re,Qa c,QH (by omega)]
 conv=>lhs;rw[←Q7 h.length h',this]
theorem LayE.old{h h':List (List SV)}{be bt ba bw bh:Nat}{mp:List (Int×Nat)}{mb:List (Int×By)}{E:ES}{D:Nat->Prop}(L:LayE h be bt ba bw bh mp mb E)(x:Ext h h' (λ_=>False) D):LayE h' be bt ba bw bh mp mb E:=by
 obtain⟨g,rfl⟩:=x.some;exact L.app g
theorem zj{h:List (List SV)}{be bt ba bw bh:Nat}{E:ES}(d:h[be]?=some (bS bt ba bw bh E))(c:E.over=true∨E.calm=false):ay Tryz.prog 46 [.ptr be 0] h (λr h'=>h'=h∧r=.pv (BL false)):=by
 refine cY [] [.tmp 2] aD Tryz.func46 ?_;obtain⟨b,a⟩:=P7.1 d;simp;refine ak.intro (dE d) ?_;rintro _ _ ⟨rfl,rfl⟩;cases ho:E.over
 .have c:E.calm=false:=c.resolve_left (by simp[ho]);simp[a,b,bS,ho,c]
 .simp[a,b,bS,ho]
set_option maxRecDepth 16000 in
set_option maxHeartbeats 1000000 in
theorem oe:am Tryz.prog 12 [] (λr=>r=.pv (BL true)):=by
 refine ao aD Tryz.func12 ?_;have kN:=wO [] 1 (by decide) [[1],[-1]] 0 0 0 (by decide) (by decide) (by decide) (r:=10) (s:=1000) (by decide) (by decide);simp;refine ah.introM kN ?_;rintro _ H1 ⟨be,bt,ba,bw,bh,mp,E,l,rfl,L1,X1,i,o⟩;clear kN;obtain⟨a1,a2,a3,a4,a5⟩:=LW i o.rc o.T;have P:=i.prps;have g:(bm E).pf=[]:=by unfold bm;split<;>exact o.pf
 have d:(bm E).many=0:=by unfold bm;split<;>exact o.many
 have J:=sY L1 i.wok i.tok;rw[a1,a2]at J;simp;refine ak.intro J ?_;rintro _ H2 ⟨rfl,ab,L2,X2⟩;clear J;have W:=qs (n:=1) (r:=9) (s:=996) (F:=[[1],[-1]]) L2 P a4 a3 (by rw[g];decide) (by rw[d];decide);simp;refine ak.intro W ?_;rintro _ N ⟨rfl,ad,q,p,k,L3,X3,I3⟩;clear W;have V:=P.res a3;have U:aI (bm E)=[]:=by
  rcases V.lev with⟨_,h⟩|⟨u,w,_,h1,h2,_⟩
  .exact h
  .omega
 have hle:=V.hle;have b:(p6 (bm E) q p k).pf=[⟨1,(bm E).id+1,[],(eW (bm E)).map (je (bm E).A)⟩]:=by
  show(bm E).pf++[_]=_;rw[g,U];rfl
 have f:(p6 (bm E) q p k).over=true:=by
  show((bm E).over||decide ((aI (bm E)).length=0))=true;rw[U];simp
 have D:(p6 (bm E) q p k).many=1:=by
  show(bm E).many+1=1;rw[d];rfl
 have K:=ve L3.e (by rw[b];simp) (by rw[b];intro s hs;simp at hs;subst hs;simp;omega);rw[b]at K;obtain⟨Hn,z⟩:∃H,(eW (bm E)).map (je (bm E).A)=H:=⟨_,rfl⟩;obtain⟨Id,B⟩:∃H,(bm E).id+1=H:=⟨_,rfl⟩;rw[z,B]at K;generalize aa:p6 (bm E) q p k=E3 at*;simp;refine ak.intro K ?_;rintro _ N ⟨rfl,rfl⟩;simp[qF];have kM:=wO N 2 (by decide) [[1,2],[-1]] 0 5 5 (by decide) (by decide) (by decide) (r:=10) (s:=1000) (by decide) (by decide);refine ah.introM kM ?_;clear kM;rintro _ H4 ⟨ce,ct,ca,cw,ch,np,G,m,rfl,M1,Y1,j,t⟩;obtain⟨b1,b2,b3,b4,b5,y,S⟩:=LY j t.rc t.T;have J2:=j.prps;have I:(bm G).vars=((2:Nat):Int):=by unfold bm;split<;>exact t.vars
 have a:(bm G).cs=[[1,2],[-1]]:=by unfold bm;split<;>exact t.cs
 have M:=sY M1 j.wok j.tok;rw[b1,b2]at M;simp;refine ak.intro M ?_;clear M;rintro _ O ⟨rfl,nb,Q,Y2⟩;have Y3:=Y1.trans Y2;have C:EK (bm G) 2=true:=by
  unfold EK;rw[b4,a,y,S];simp[b3];decide
 have q2:=EL Q J2.tok I (by rw[a];decide) (by rw[a];decide);rw[C,S]at q2;simp;refine ak.intro q2 ?_;rintro _ O ⟨rfl,rfl⟩;have L:=(zb O 901 [] 0 0 0 (by simp) (.inr (by decide))).args (xs:=[.agg [af 901,.lit (.slice none 0 0)],.agg [af 0,af 0,af 0]]) (by simp[bG,bI,iW]);rw[show(lG 901 []).2=0 from rfl,Qa (by simp)]at L;simp;refine ah.introM L ?_;rintro _ c ⟨rfl,R⟩;clear L;have v:=(L3.old Y3).old R;have x:=Q.old R;have X:=sX v.e;have Y:=Ew v.e;have k6:=zj v.e (.inl f);have Z:=sX x.e;have k8:=Ex x;have k9:=Im x (by rw[y];decide);rw[f]at X;rw[D]at Y;rw[b4]at Z;rw[b5]at k8;have kS:=tH [false,true] [false,true] (by decide);simp;refine ak.intro X ?_;rintro _ c ⟨rfl,rfl⟩;simp;refine ak.intro Y ?_;rintro _ c ⟨rfl,rfl⟩;simp;refine ak.intro k6 ?_;rintro _ c ⟨rfl,rfl⟩;simp;refine aO.introK (λ_=>?_) (λe=>absurd trivial e);refine ah.intro kS ?_;simp;refine ak.intro Z ?_;rintro _ c ⟨rfl,rfl⟩;simp;refine ak.intro k8 ?_;rintro _ c ⟨rfl,rfl⟩;simp;refine ak.intro k9 ?_;rintro _ c ⟨rfl,rfl⟩;simp[y];refine aO.introK (λ_=>?_) (λe=>absurd trivial e);refine ah.intro Ey ?_;simp;refine aO.introK (λ_=>?_) (λe=>absurd trivial e);refine ah.intro Ez ?_;simp
theorem IF{v:Int}{cs:List (List Int)}{a:List Int}(h:zh v cs a=true):(0<=v∧v<=10)∧(cs.length<=60∧a.length<=60)∧∀c∈cs,c.length<=50:=by
 unfold zh yE at h;simp only[Qj,Qs,QR]at h;exact⟨⟨h.2.2.1,h.2.1⟩,⟨h.2.2.2.1,h.2.2.2.2⟩,h.1.2⟩
theorem IG(k:Int):100<=nq k:=by
 unfold nq;split<;>omega
theorem NewOk.ej{n:Nat}{cs:List (List Int)}{kp:Int}{r s:Nat}{l:List Rc}{E:ES}(I:EI n cs r s l E)(h:NewOk n cs kp E l cs)(a:r<=100):EJ n cs r s l E:=
 {I with
  kp:=by
   have:(l.filter λx=>decide (x.side=1))=[]:=by
    rw[RD];intro x hx;simp[h.side x hx]
   rw[this,h.keep];have:=IG kp;simp;omega
  mny:=by rw[h.many];omega
  pfz:=by rw[h.pf];simp;omega
  pfs:=by rw[h.pf];simp
  vr:=h.vars
  fm:=h.cs}
end Go.AX