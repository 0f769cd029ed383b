/-
  A call of the law: what holds of an engine stays; and what follows.
-/
import Derived.Test.YtepodadinenmnaaGreatS14AxEgV
import Derived.Test.YtepodadinenmnaaGreatS14AxMovR
import Derived.Test.YtepodadinenmnaaGreatS14AxEgI
import Derived.Test.YtepodadinenmnaaGreatS14AxEgQ
import Derived.Test.YtepodadinenmnaaGreatS14AxTtA
import Derived.Test.YtepodadinenmnaaGreatS14AxTmB
import Derived.Test.YtepodadinenmnaaGreatS14AxVaA
import Derived.Test.YtepodadinenmnaaGreatS14AxTyA
import Derived.Test.YtepodadinenmnaaGreatS14AxTxC
import Derived.Test.YtepodadinenmnaaGreatS14AxRfB
namespace Go.AX
open Go.Proofs
set_option linter.unusedSimpArgs false
theorem E8{A:Ar}:∀(l a:List Rc),A.row=bq (a++l)->(((aP (bq a).length l).map (·.at')).filter (oZ A)).length<=(l.filter λx=>decide (x.side=1)).length
 |[],_,_=>by simp[aP]
 |x::l,a,h=>by
  have b:=E8 l (a++[x]) (by simpa using h);have e:(bq (a++[x])).length=(bq a).length+x.sz:=by rw[kn];simp[bq,Rc.sz];omega
  rw[e]at b;have g:=(sm a x l).2.2.1;rw[←h]at g;rw[aP]
  by_cases c:x.side=2
  .rw[SX c];exact TD b (by rw[TO];split<;>simp)
  .rw[SU c,Tn]
   by_cases d:x.side=1
   .have h1:∀(f:Int->Bool)(k:Int)(ks:List Int),((k::ks).filter f).length<=(ks.filter f).length+1:=λf k ks=>by
     rw[TO];split<;>simp
    rw[List.filter_cons_of_pos (p:=λx:Rc=>decide (x.side=1)) (by simp[d]),Ty];exact TD (h1 _ _ _) (by omega)
   .have:oZ A (((bq a).length:Nat):Int)=false:=by
     unfold oZ;rw[Uc,g,UP d,Bool.and_false]
    rw[TO,TO,SU (by simp[this]),SU (by simp[d])];exact b
structure EJ (n:Nat) (F:List (List Int)) (r s:Nat) (l:List Rc) (E:ES):Prop extends EI n F r s l E where
  kp:(((l.filter λx=>decide (x.side=1)).length+r:Nat):Int)<=E.keep
  mny:0<=E.many∧E.many+r<=1000000
  pfz:E.pf.length+r<=1000000
  pfs:∀x∈E.pf,x.lits.length<=1000000∧x.hints.length<=1000000
  vr:E.vars=n
  fm:E.cs=F
section
variable {n r s : Nat} {F : List (List Int)} {l : List Rc} {E : ES}
theorem EJ.to{E':ES}{l':List Rc}(h:EJ n F r s l E)(a:EI n F r s l' E')(c:l'=l)(hk:E'.keep=E.keep)(d:E'.many=E.many)(hp:E'.pf=E.pf)(e:E'.vars=E.vars)(b:E'.cs=E.cs):EJ n F r s l' E':=
 {a with kp:=by rw[c,hk];exact h.kp,mny:=by rw[d];exact h.mny,pfz:=by rw[hp];exact h.pfz,pfs:=by rw[hp];exact h.pfs,vr:=e.trans h.vr,fm:=b.trans h.fm}
theorem EI.calmc(h:EI n F r s l E)(d:E.calm=true):E.con<0:=by
 apply Ts;intro hn;obtain⟨x,hx,_,c⟩:=h.con (by omega);have ho:=(h.cl hx).2;rcases h.cal d x hx with⟨y,a,b⟩|⟨y,z,a,_,_,b,_⟩
 .have:=h.ef.one (ho y a);rw[ge]at this;exact this ⟨b,c y a⟩
 .exact b (c y a)
theorem EI.again(h:EI n F r s l E)(q:HS)(a:HpTo n E.q q)(p:List Bool)(hp:p.length=n+1)(hin:∀z∈E.T.lits,z∉(eW E.T 0).lits->af z∈q.row):EI n F r s l {E with T:=eW E.T 0,q:=q,ph:=p,con:=-1,calm:=false}:=by
 unfold eW at hin⊢
 by_cases c:0<E.T.beg.length
 .rw[SX (by simp;omega)]at hin⊢;exact h.back c q a.hp a.mem hin p hp
 .rw[SU (by simpa using c)];exact{h.rest with hp:=a.hp,inh:=λv d e b=>a.mem v (h.inh v d e b),ph:=hp}
theorem EI.decs(h:EI n F r s l E){E':ES}{b:Bool}(hd:EZ n E E' b):EI n F r s l E':=by
 rcases hd with⟨_,rfl,_⟩|⟨_,a,q,c,⟨_,x,hx,rfl,hin⟩|⟨_,rfl,g,hin⟩⟩
 .exact h
 .exact h.dec a hx q c hin (h.calmc a)
 .exact{h with hp:=c,inh:=λv e f d=>absurd (hin v (h.inh v e f d)) d}
theorem EI.prps(h:EI n F r s l E):EI n F r s l (o5 E):=by
 unfold o5;split
 .exact h
 .exact h.prp
end
section
variable {h : List (List SV)} {be bt ba bw bh : Nat} {mp : List (Int × Nat)} {mb : List (Int × By)} {E : ES} {n r s : Nat} {F : List (List Int)} {l : List Rc}
end
section
variable {n r s : Nat} {F : List (List Int)} {l : List Rc} {E : ES}
theorem EI.one(h:EI n F r s l E){y:Int}(hy:cF y=true):¬(y∈E.T.lits∧-y∈E.T.lits):=by
 have:=h.ef.one hy
 rwa [ge]at this
end
def m8:Ck->List Stp->Ck->Prop
 |c,[],d=>c=d
 |c,s::r,d=>(dY c s).2=0∧m8 (dY c s).1 r d
theorem m8.snoc:∀{l:List Stp}{c d:Ck}{s:Stp},m8 c l d->(dY d s).2=0->m8 c (l++[s]) (dY d s).1
 |[],_,_,_,h,a=>by cases h;exact⟨a,rfl⟩
 |_::l,_,_,_,h,a=>⟨h.1,m8.snoc (l:=l) h.2 a⟩
structure CkE (F:List (List Int)) (l:List Rc) (E:ES) (c:Ck):Prop where
  run:m8 (lK F) E.pf c
  m:c.m=l.map λx=>(x.id,x.lits)
  last:c.last=E.id
  dn:c.done=true↔∃x∈l,x.lits=[]
  g:CkG c
  al:∀x∈l,x.side≠2
  may:∀s∈E.pf,fQ s=true
theorem sr:∀(l:List Rc)(p:Nat),(∀x∈l,x.side≠2)->(aP p l).map (λy=>(y.id,y.lits))=l.map λx=>(x.id,x.lits)
 |[],_,_=>rfl
 |x::l,p,h=>by
  rw[aP,SU (h x To),Tn,Tn,sr l _ λy hy=>h y (Tl _ hy)]
section
variable {n r s : Nat} {F : List (List Int)} {l : List Rc} {E : ES} {c : Ck}
theorem CkE.over(K:CkE F l E c)(h:EI n F r s l E):c.done=E.over:=by
 have h1:(∃x∈l,x.lits=[])↔∃x∈aP 0 l,x.lits=[]:=by
  have e:=sr l 0 K.al;constructor
  .rintro⟨x,hx,b⟩;have:(x.id,x.lits)∈(aP 0 l).map λy=>(y.id,y.lits):=by rw[e];exact S8.2 ⟨x,hx,rfl⟩
   obtain⟨y,hy,a⟩:=S8.1 this;exact⟨y,hy,by rw[←b];exact(XW a).2⟩
  .rintro⟨y,hy,b⟩;have:(y.id,y.lits)∈l.map λx=>(x.id,x.lits):=by rw[←e];exact S8.2 ⟨y,hy,rfl⟩
   obtain⟨x,hx,a⟩:=S8.1 this;exact⟨x,hx,by rw[←b];exact(XW a).2⟩
 rw[W8,K.dn,h.ovr,h1]
theorem C4(L:List (List Int))(b:L.length<=100000){i:Nat}(h:i<L.length):dM L (i+1)=⟨(dM L i).m++[(((i+1:Nat):Int),L[i])],((i+1:Nat):Int),(dM L i).done||decide (L[i].length=0)⟩:=by
 have e:dM L (i+1)=xV (dM L i) L[i]:=by
  unfold dM;rw[Us h,VW];rfl
 obtain⟨a,g2⟩:=CkG.new L b i (by omega);have c:aX ((dM L i).last+1)=((i+1:Nat):Int):=by rw[g2,ao (by omega) (by omega)];omega
 rw[e];unfold xV;rw[c];have:=(a.put (id:=((i+1:Nat):Int)) (l:=L[i]) (by omega) (by omega)).1;unfold qE at this⊢;dsimp only at this;rw[this]
theorem CkE.new(b:F.length<=100000)(e:l.map (λx=>(x.id,x.lits))=F.mapIdx λi c=>(((i+1:Nat):Int),c))(hs:∀x∈l,x.side=0)(nh:E.id=F.length)(hp:E.pf=[]):CkE F l E (lK F):=by
 have key:∀i,i<=F.length->(dM F i).m=(F.take i).mapIdx (λi c=>(((i+1:Nat):Int),c))∧((dM F i).done=true↔∃d∈F.take i,d=[]):=by
  intro i
  induction i with
  |zero=>intro _;simp[dM]
  |succ i h=>
   intro hi;obtain⟨h1,a⟩:=h (by omega);rw[C4 F b hi,Us hi];refine⟨by dsimp only;rw[h1];simp only[List.mapIdx_append,List.mapIdx_cons,List.mapIdx_nil,S6,Uw (XQ hi),T4],?_⟩;dsimp only;rw[Um,a,Th,UM];simp only[Te,TA,or_and_right,exists_or,exists_eq_left]
 obtain⟨h1,a⟩:=key F.length (SY _);rw[Tw]at h1 a;obtain⟨f,g2⟩:=CkG.new F b F.length (SY _);refine{run:=by rw[hp];rfl,m:=h1.trans e.symm,last:=by rw[nh];exact g2,dn:=?_,g:=f,al:=λx hx=>by rw[hs x hx];decide,may:=by rw[hp];simp};have:l.map (·.lits)=F:=by
  have:=Vm (List.map Prod.snd) e;simpa[TX,VV,List.mapIdx_eq_zipIdx_map,List.map_zipIdx]using this
 refine a.trans ?_;rw[←this];simp
end
theorem Ext.some{h h':List (List SV)}{D:Nat->Prop}(x:Ext h h' (λ_=>False) D):∃g,h'=h++g:=by
 refine⟨h'.drop h.length,?_⟩;have:h'.take h.length=h:=by
  refine Uf λi=>?_
  by_cases c:i<h.length
  .rw[TY,SX c,x.same i c (λe=>e)]
  .rw[TY,SU c,TL (by omega)]
 conv=>lhs;rw[←T7 h.length h',this]
theorem LayE.old{h h':List (List SV)}{be bt ba bw bh:Nat}{mp:List (Int×Nat)}{mb:List (Int×By)}{E:ES}{D:Nat->Prop}(L:LayE h be bt ba bw bh mp mb E)(x:Ext h h' (λ_=>False) D):LayE h' be bt ba bw bh mp mb E:=by
 obtain⟨g,rfl⟩:=x.some;exact L.app g
theorem KN(k:Int):100<=og k:=by
 unfold og;split<;>omega
set_option maxRecDepth 16000 in
theorem GT(v:Int)(L:List (List Int))(m:List Bool)(e:L.length<=1000000)(b:∀x∈L,x.length<=1000000):aj Tryz.prog 18 [.agg [ab v,.seq false 1 (L.map aq)],.seq false 1 (de m)] (λr=>r=.pv (BL (decide ((m.length:Int)=v)&&decide (jL L m=-1)))):=by
 refine ap aD Tryz.func18 ?_;have d:=Ai v L m (by omega) (λx hx=>by have:=b x hx;omega);have a:(de m).length=m.length:=by simp[de]
 simp[a];refine bf.intro (λ_=>d) ?_
 by_cases c:(m.length:Int)=v
 .simp[c]
 .simp[c]
end Go.AX