/-
  A call of the law: what holds of an engine stays.
  Two engines that the document fixes (plain law).
  Contracts: what the document fixes.
  The law's contract: EngineAgrees.
-/
import Derived.Test.YtepodadinenmnaaGreatS14AxEgW
import Derived.Test.YtepodadinenmnaaGreatS14AxEgI
import Derived.Test.YtepodadinenmnaaGreatS14AxEgQ
import Derived.Test.YtepodadinenmnaaGreatS14AxTmB
import Derived.Test.YtepodadinenmnaaGreatS14AxVaA
namespace Go.AX
open Go.Proofs
set_option linter.unusedSimpArgs false
theorem Eg{A:Ar}:∀(l a:List Rc),A.row=bv (a++l)->(((bn (bv a).length l).map (·.at')).filter (pJ A)).length<=(l.filter λx=>decide (x.side=1)).length
 |[],_,_=>by simp[bn]
 |x::l,a,h=>by
  have b:=Eg l (a++[x]) (by simpa using h);have e:(bv (a++[x])).length=(bv a).length+x.sz:=by rw[kg];simp[bv,Rc.sz];omega
  rw[e]at b;have g:=(xL a x l).2.2.1;rw[←h]at g;rw[bn]
  by_cases c:x.side=2
  .rw[RI c];exact Sn b (by rw[Sz];split<;>simp)
  .rw[RH c,R4]
   by_cases d:x.side=1
   .have h1:∀(f:Int->Bool)(k:Int)(ks:List Int),((k::ks).filter f).length<=(ks.filter f).length+1:=λf k ks=>by
     rw[Sz];split<;>simp
    rw[List.filter_cons_of_pos (p:=λx:Rc=>decide (x.side=1)) (by simp[d]),Sa];exact Sn (h1 _ _ _) (by omega)
   .have:pJ A (((bv a).length:Nat):Int)=false:=by
     unfold pJ;rw[SQ,g,TB d,Bool.and_false]
    rw[Sz,Sz,RH (by simp[this]),RH (by simp[d])];exact b
structure EJ (n:Nat) (F:List (List Int)) (r s:Nat) (l:List Rc) (E:ES):Prop extends EI n F r s l E where
  kp:(((l.filter λx=>decide (x.side=1)).length+r:Nat):Int)<=E.keep
  mny:0<=E.many∧E.many+r<=1000000
  pfz:E.pf.length+r<=1000000
  pfs:∀x∈E.pf,x.lits.length<=1000000∧x.hints.length<=1000000
  vr:E.vars=n
  fm:E.cs=F
section
variable {n r s : Nat} {F : List (List Int)} {l : List Rc} {E : ES}
theorem EJ.less(h:EJ n F (r+1) (s+(n+3)) l E):EJ n F r s l E:=
 {h.toEI.mono (TF _) (Nat.le_add_right _ _)with
  kp:=by have:=h.kp;omega
  mny:=by have:=h.mny;omega
  pfz:=by have:=h.pfz;omega
  pfs:=h.pfs,vr:=h.vr,fm:=h.fm}
theorem EJ.to{a:ES}{l':List Rc}(h:EJ n F r s l E)(b:EI n F r s l' a)(d:l'=l)(hk:a.keep=E.keep)(e:a.many=E.many)(hp:a.pf=E.pf)(f:a.vars=E.vars)(c:a.cs=E.cs):EJ n F r s l' a:=
 {b with kp:=by rw[d,hk];exact h.kp,mny:=by rw[e];exact h.mny,pfz:=by rw[hp];exact h.pfz,pfs:=by rw[hp];exact h.pfs,vr:=f.trans h.vr,fm:=c.trans h.fm}
theorem EI.calmc(h:EI n F r s l E)(d:E.calm=true):E.con<0:=by
 apply R6;intro hn;obtain⟨x,hx,_,c⟩:=h.con (by omega);have ho:=(h.cl hx).2;rcases h.cal d x hx with⟨y,a,b⟩|⟨y,z,a,_,_,b,_⟩
 .have:=h.ef.one (ho y a);rw[iW]at this;exact this ⟨b,c y a⟩
 .exact b (c y a)
theorem EI.again(h:EI n F r s l E)(q:HS)(a:HpTo n E.q q)(p:List Bool)(hp:p.length=n+1)(hin:∀z∈E.T.lits,z∉(er E.T 0).lits->ah z∈q.row):EI n F r s l {E with T:=er E.T 0,q:=q,ph:=p,con:=-1,calm:=false}:=by
 unfold er at hin⊢
 by_cases c:0<E.T.beg.length
 .rw[RI (by simp;omega)]at hin⊢;exact h.back c q a.hp a.mem hin p hp
 .rw[RH (by simpa using c)];exact{h.rest with hp:=a.hp,inh:=λv d e b=>a.mem v (h.inh v d e b),ph:=hp}
theorem EI.decs(h:EI n F r s l E){a:ES}{b:Bool}(hd:Au n E a b):EI n F r s l a:=by
 rcases hd with⟨_,rfl,_⟩|⟨_,c,q,d,⟨_,x,hx,rfl,hin⟩|⟨_,rfl,i,hin⟩⟩
 .exact h
 .exact h.dec c hx q d hin (h.calmc c)
 .exact{h with hp:=d,inh:=λv f g e=>absurd (hin v (h.inh v f g e)) e}
theorem EI.prps(h:EI n F r s l E):EI n F r s l (aP E):=by
 unfold aP;split
 .exact h
 .exact h.prp
end
section
variable {h : List (List SV)} {be bt ba bw bh : Nat} {mp : List (Int × Nat)} {mb : List (Int × By)} {E : ES} {n r s : Nat} {F : List (List Int)} {l : List Rc}
def Rq(l:List Rc)(E:ES)(l':List Rc)(a:ES):Prop:=(l'=l∧a.pf=E.pf∧a.id=E.id)∨(E.over=false∧0<=E.con∧l'=l++[⟨E.id+1,1,az E⟩]∧∃q p k,a=nr E q p k)
end
section
variable {n r s : Nat} {F : List (List Int)} {l : List Rc} {E : ES}
theorem ua{c:List Int}(h:c∈rC l):∃x∈bn 0 l,x.lits=c:=by
 obtain⟨x,hx,e⟩:=RO.1 h;exact⟨x,hx,e⟩
theorem JZ{x:Ro}(h:x∈bn 0 l):x.lits∈rC l:=TI h
theorem EI.notover(h:EI n F r s l E)(hn:[]∉rC l):E.over=false:=by
 cases e:E.over
 .rfl
 .obtain⟨x,hx,a⟩:=h.ovr.1 e;exact absurd (a▸JZ hx) hn
theorem EI.one(h:EI n F r s l E){y:Int}(hy:cF y=true):¬(y∈E.T.lits∧-y∈E.T.lits):=by
 have:=h.ef.one hy
 rwa [iW]at this
theorem EI.prpbeg(h:EI n F r s l E):(aP E).T.beg=E.T.beg:=by
 unfold aP;split
 .rfl
 .exact(xC h.wok h.tok).grow.pre.2
theorem EI.prpover:(aP E).over=E.over:=by unfold aP;split<;>rfl
theorem EI.zero(h:EI n F r s l E)(d:E.T.beg.length=0){y:Int}(hy:y∈E.T.lits):Oa F [y]:=by
 obtain⟨i,hi,rfl⟩:=RU hy;have a:i<(fV E.T).rows.length:=by simpa[fV]using hi
 obtain⟨_,e⟩:=h.tok.rows a;have hz:=h.ef.zero h.clsN (F:=F) (λc b=>by obtain⟨x,hx,rfl⟩:=ua b;exact h.ent x hx) (i+1) i a (by omega)
  (by rw[e];have:=D8 E.T.beg i;dsimp only;omega)
 rw[e]at hz;exact hz
theorem Aw(ho:E.over=false):(aP E).calm=decide ((aP E).con<0):=by
 unfold aP;rw[RH (by simp[ho])]
theorem No(I:EI 1 [[1],[-1]] r s l E)(f:rC l=[[1],[-1]])(n:E.T=jT 1):E.over=false∧(aP E).calm=false∧0<=(aP E).con∧(aP E).over=false∧(aP E).T.beg.length=0:=by
 have ho:=I.notover (by rw[f];simp);have J:=I.prps;have h:(aP E).calm=false:=by
  cases e:(aP E).calm
  .rfl
  .obtain⟨x,hx,i⟩:=ua (l:=l) (c:=[1]) (by rw[f];simp);obtain⟨y,hy,j⟩:=ua (l:=l) (c:=[-1]) (by rw[f];simp);have h1:=J.cal e x hx;have g:=J.cal e y hy;rw[i]at h1;rw[j]at g;have k:(1:Int)∈(aP E).T.lits:=by
    rcases h1 with⟨z,a,d⟩|⟨z,w,a,d,m,_⟩
    .simp at a;subst a;exact d
    .simp at a d;omega
   have g2:(-1:Int)∈(aP E).T.lits:=by
    rcases g with⟨z,a,d⟩|⟨z,w,a,d,m,_⟩
    .simp at a;subst a;exact d
    .simp at a d;omega
   exact absurd ⟨k,g2⟩ (J.one (y:=1) (by decide))
 have b:=Aw ho;rw[h]at b;exact⟨ho,h,by have:=of_decide_eq_false b.symm;omega,EI.prpover.trans ho,by rw[I.prpbeg,n];rfl⟩
theorem Np(I:EI 2 [[1,2],[-1]] r s l E)(m:rC l=[[1,2],[-1]])(B:E.T=jT 2):E.over=false∧(aP E).calm=true∧(aP E).con<0∧(aP E).over=false∧(aP E).T.beg.length=0∧(aP E).T.lits.length=2∧iX (aP E).T.lits 2=[false,true]:=by
 have ho:=I.notover (by rw[m];simp);have J:=I.prps;have u:(aP E).T.beg.length=0:=by rw[I.prpbeg,B];rfl
 have D:∀d∈([[1,2],[-1]]:List (List Int)),cO d [false,true]=true:=by decide
 have hz:∀y∈(aP E).T.lits,cO [y] [false,true]=true:=λy hy=>J.zero u hy _ D;have g:(1:Int)∉(aP E).T.lits:=λh=>absurd (hz 1 h) (by decide);have q:(-2:Int)∉(aP E).T.lits:=λh=>absurd (hz (-2) h) (by decide);have i:(aP E).con<0:=by
  apply R6;intro k;obtain⟨x,hx,_,j⟩:=J.con (by omega);have hx:=JZ hx;rw[m]at hx;simp at hx;rcases hx with e|e
  .exact q (j 2 (by rw[e];simp))
  .have:=j (-1) (by rw[e];simp);simp only[TJ]at this;exact g this
 have k:(aP E).calm=true:=by rw[Aw ho];exact Tk i
 obtain⟨x,hx,n⟩:=ua (l:=l) (c:=[1,2]) (by rw[m];simp);obtain⟨y,hy,o⟩:=ua (l:=l) (c:=[-1]) (by rw[m];simp);have h1:=J.cal k x hx;have j:=J.cal k y hy;rw[n]at h1;rw[o]at j;have g2:(-1:Int)∈(aP E).T.lits:=by
  rcases j with⟨z,b,f⟩|⟨z,w,b,f,t,_⟩
  .simp at b;subst b;exact f
  .simp at b f;omega
 have p:(2:Int)∈(aP E).T.lits:=by
  rcases h1 with⟨z,b,f⟩|⟨z,w,b,f,t,v,A⟩
  .simp at b;rcases b with rfl|rfl
   .exact absurd f g
   .exact f
  .simp at b f;rcases b with rfl|rfl
   .exact absurd g2 v
   .rcases f with rfl|rfl
    .exact absurd g2 A
    .exact absurd rfl t
 have C:(aP E).T.lits.length=2:=by
  have:=J.tok.few;have b:2<=(aP E).T.lits.length:=by
   generalize(aP E).T.lits=L at*
   match L,p,g2 with
   |[],h,_=>cases h
   |[a],h,h'=>simp at h h';omega
   |_::_::_,_,_=>simp
  omega
 refine⟨ho,k,i,EI.prpover.trans ho,u,C,?_⟩;unfold iX;have n:¬(0:Int)+1∈(aP E).T.lits:=g;have o:(1:Int)+1∈(aP E).T.lits:=p;simp[Uq,n,o];exact⟨g,p⟩
end
theorem Ext.some{h h':List (List SV)}{D:Nat->Prop}(x:Ext h h' (λ_=>False) D):∃g,h'=h++g:=by
 refine⟨h'.drop h.length,?_⟩;have:h'.take h.length=h:=by
  refine Tl λi=>?_
  by_cases c:i<h.length
  .rw[SM,RI c,x.same i c (λe=>e)]
  .rw[SM,RH c,SB (by omega)]
 conv=>lhs;rw[←SI h.length h',this]
theorem LayE.old{h h':List (List SV)}{be bt ba bw bh:Nat}{mp:List (Int×Nat)}{mb:List (Int×By)}{E:ES}{D:Nat->Prop}(L:LayE h be bt ba bw bh mp mb E)(x:Ext h h' (λ_=>False) D):LayE h' be bt ba bw bh mp mb E:=by
 obtain⟨g,rfl⟩:=x.some;exact L.app g
theorem Ax{h:List (List SV)}{be bt ba bw bh:Nat}{E:ES}(d:h[be]?=some (bQ bt ba bw bh E))(c:E.over=true∨E.calm=false):aB Tryz.prog 46 [.ptr be 0] h (λr h'=>h'=h∧r=.pv (BL false)):=by
 refine cR [] [.tmp 2] aE Tryz.func46 ?_;obtain⟨b,a⟩:=RE.1 d;simp;refine aj.intro (dM d) ?_;rintro _ _ ⟨rfl,rfl⟩;cases ho:E.over
 .have c:E.calm=false:=c.resolve_left (by simp[ho]);simp[a,b,bQ,ho,c]
 .simp[a,b,bQ,ho]
set_option maxRecDepth 16000 in
set_option maxHeartbeats 1000000 in
theorem oI:am Tryz.prog 12 [] (λr=>r=.pv (BL true)):=by
 refine aq aE Tryz.func12 ?_;have kN:=xO [] 1 (by decide) [[1],[-1]] 0 0 0 (by decide) (by decide) (by decide) (r:=10) (s:=1000) (by decide) (by decide);simp;refine ai.introM kN ?_;rintro _ H1 ⟨be,bt,ba,bw,bh,mp,E,l,rfl,L1,X1,i,o⟩;clear kN;obtain⟨a1,a2,a3,a4,a5⟩:=No i o.rc o.T;have P:=i.prps;have g:(aP E).pf=[]:=by unfold aP;split<;>exact o.pf
 have d:(aP E).many=0:=by unfold aP;split<;>exact o.many
 have J:=t6 L1 i.wok i.tok;rw[a1,a2]at J;simp;refine aj.intro J ?_;rintro _ H2 ⟨rfl,ab,L2,X2⟩;clear J;have W:=qY (n:=1) (r:=9) (s:=996) (F:=[[1],[-1]]) L2 P a4 a3 (by rw[g];decide) (by rw[d];decide);simp;refine aj.intro W ?_;rintro _ N ⟨rfl,ad,q,p,k,L3,X3,I3⟩;clear W;have V:=P.res a3;have U:az (aP E)=[]:=by
  rcases V.lev with⟨_,h⟩|⟨u,w,_,h1,h2,_⟩
  .exact h
  .omega
 have hle:=V.hle;have b:(nr (aP E) q p k).pf=[⟨1,(aP E).id+1,[],(ff (aP E)).map (i7 (aP E).A)⟩]:=by
  show(aP E).pf++[_]=_;rw[g,U];rfl
 have f:(nr (aP E) q p k).over=true:=by
  show((aP E).over||decide ((az (aP E)).length=0))=true;rw[U];simp
 have D:(nr (aP E) q p k).many=1:=by
  show(aP E).many+1=1;rw[d];rfl
 have K:=qB L3.e (by rw[b];simp) (by rw[b];intro s hs;simp at hs;subst hs;simp;omega);rw[b]at K;obtain⟨Hn,z⟩:∃H,(ff (aP E)).map (i7 (aP E).A)=H:=⟨_,rfl⟩;obtain⟨Id,B⟩:∃H,(aP E).id+1=H:=⟨_,rfl⟩;rw[z,B]at K;generalize aa:nr (aP E) q p k=E3 at*;simp;refine aj.intro K ?_;rintro _ N ⟨rfl,rfl⟩;simp[l4];have kM:=xO N 2 (by decide) [[1,2],[-1]] 0 5 5 (by decide) (by decide) (by decide) (r:=10) (s:=1000) (by decide) (by decide);refine ai.introM kM ?_;clear kM;rintro _ H4 ⟨ce,ct,ca,cw,ch,np,G,m,rfl,M1,Y1,j,t⟩;obtain⟨b1,b2,b3,b4,b5,y,S⟩:=Np j t.rc t.T;have J2:=j.prps;have I:(aP G).vars=((2:Nat):Int):=by unfold aP;split<;>exact t.vars
 have a:(aP G).cs=[[1,2],[-1]]:=by unfold aP;split<;>exact t.cs
 have M:=t6 M1 j.wok j.tok;rw[b1,b2]at M;simp;refine aj.intro M ?_;clear M;rintro _ O ⟨rfl,nb,Q,Y2⟩;have Y3:=Y1.trans Y2;have C:Av (aP G) 2=true:=by
  unfold Av;rw[b4,a,y,S];simp[b3];decide
 have q2:=v8 Q J2.tok I (by rw[a];decide) (by rw[a];decide);rw[C,S]at q2;simp;refine aj.intro q2 ?_;rintro _ O ⟨rfl,rfl⟩;have L:=(Am O 901 [] 0 0 0 (by simp) (.inr (by decide))).args (xs:=[.agg [ae 901,.lit (.slice none 0 0)],.agg [ae 0,ae 0,ae 0]]) (by simp[bd,bu,il]);rw[show(eX 901 []).2=0 from rfl,RH (by simp)]at L;simp;refine ai.introM L ?_;rintro _ c ⟨rfl,R⟩;clear L;have v:=(L3.old Y3).old R;have x:=Q.old R;have X:=fg v.e;have Y:=nj v.e;have k6:=Ax v.e (.inl f);have Z:=fg x.e;have k8:=gG x;have k9:=fh x (by rw[y];decide);rw[f]at X;rw[D]at Y;rw[b4]at Z;rw[b5]at k8;have kS:=nQ [false,true] [false,true] (by decide);simp;refine aj.intro X ?_;rintro _ c ⟨rfl,rfl⟩;simp;refine aj.intro Y ?_;rintro _ c ⟨rfl,rfl⟩;simp;refine aj.intro k6 ?_;rintro _ c ⟨rfl,rfl⟩;simp;refine aH.introK (λ_=>?_) (λe=>absurd trivial e);refine ai.intro kS ?_;simp;refine aj.intro Z ?_;rintro _ c ⟨rfl,rfl⟩;simp;refine aj.intro k8 ?_;rintro _ c ⟨rfl,rfl⟩;simp;refine aj.intro k9 ?_;rintro _ c ⟨rfl,rfl⟩;simp[y];refine aH.introK (λ_=>?_) (λe=>absurd trivial e);refine ai.intro FZ ?_;simp;refine aH.introK (λ_=>?_) (λe=>absurd trivial e);refine ai.intro F0 ?_;simp
theorem J3{v:Int}{cs:List (List Int)}{a:List Int}(h:At v cs a=true):(0<=v∧v<=10)∧(cs.length<=60∧a.length<=60)∧∀c∈cs,c.length<=50:=by
 unfold At zE at h;simp only[RQ,R0,Se]at h;exact⟨⟨h.2.2.1,h.2.1⟩,⟨h.2.2.2.1,h.2.2.2.2⟩,h.1.2⟩
theorem J4(k:Int):100<=nP k:=by
 unfold nP;split<;>omega
theorem NewOk.ej{n:Nat}{cs:List (List Int)}{kp:Int}{r s:Nat}{l:List Rc}{E:ES}(I:EI n cs r s l E)(h:NewOk n cs kp E l cs)(a:r<=100):EJ n cs r s l E:=
 {I with
  kp:=by
   have:(l.filter λx=>decide (x.side=1))=[]:=by
    rw[Tz];intro x hx;simp[h.side x hx]
   rw[this,h.keep];have:=J4 kp;simp;omega
  mny:=by rw[h.many];omega
  pfz:=by rw[h.pf];simp;omega
  pfs:=by rw[h.pf];simp
  vr:=h.vars
  fm:=h.cs}
theorem F7(T:Tr):(er T 0).beg.length=0:=by
 unfold er
 by_cases c:0<T.beg.length
 .rw[RI (by simpa using c)];simp[bz]
 .rw[RH (by simpa using c)];omega
end Go.AX