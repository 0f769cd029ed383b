/-
  A call of the law: what holds of an engine stays; and what follows.
-/
import Derived.Test.YtepodadinenmnaaGreatZJ
set_option linter.unusedSimpArgs false
namespace Go.AX
open Go.Proofs
theorem HA{A:Ar}:∀(l a:List Rc),A.row=bY (a++l)->(((bs (bY a).length l).map (·.at')).filter (qJ A)).length<=(l.filter λx=>decide (x.side=1)).length
 |[],_,_=>by simp[bs]
 |x::l,a,h=>by
  have b:=HA l (a++[x]) (by simpa using h);have e:(bY (a++[x])).length=(bY a).length+x.sz:=by rw[mg];simp[bY,Rc.sz];omega
  rw[e]at b;have g:=(uo a x l).2.2.1;rw[←h]at g;rw[bs];by_cases c:x.side=2;rw[Vt c];exact Wb b (by rw[Wl];split<;>simp);rw[Vs c,VP];by_cases d:x.side=1;have h1:∀(f:Int->Bool)(k:Int)(ks:af),((k::ks).filter f).length<=(ks.filter f).length+1:=λf k ks=>by
   rw[Wl];split<;>simp
  rw[List.filter_cons_of_pos (p:=λx:Rc=>decide (x.side=1)) (by simp[d]),VR];exact Wb (h1 _ _ _) (by omega);have:qJ A (((bY a).length:Nat):Int)=false:=by
   unfold qJ;rw[WH,g,W7 d,Bool.and_false]
  rw[Wl,Wl,Vs (by simp[this]),Vs (by simp[d])];exact b
structure EJ (n:Nat) (F:au) (r s:Nat) (l:List Rc) (E:ES):Prop extends EI n F r s l E where
  kp:(((l.filter λx=>decide (x.side=1)).length+r:Nat):Int)<=E.keep
  mny:0<=E.many∧E.many+r<=1000000
  pfz:E.pf.length+r<=1000000
  pfs:∀x∈E.pf,x.lits.length<=1000000∧x.hints.length<=1000000
  vr:E.vars=n
  fm:E.cs=F
section
variable {n r s : Nat} {F : au} {l : List Rc} {E : ES}
theorem EJ.to{E':ES}{l':List Rc}(h:EJ n F r s l E)(a:EI n F r s l' E')(c:l'=l)(hk:E'.keep=E.keep)(d:E'.many=E.many)(hp:E'.pf=E.pf)(e:E'.vars=E.vars)(b:E'.cs=E.cs):EJ n F r s l' E':=
 {a with kp:=by rw[c,hk];exact h.kp,mny:=by rw[d];exact h.mny,pfz:=by rw[hp];exact h.pfz,pfs:=by rw[hp];exact h.pfs,vr:=e.trans h.vr,fm:=b.trans h.fm}
theorem EI.calmc(h:EI n F r s l E)(d:E.calm=true):E.con<0:=by
 apply V0;intro hn;obtain⟨x,hx,_,c⟩:=h.con (by omega);have ho:=(h.cl hx).2;rcases h.cal d x hx with⟨y,a,b⟩|⟨y,z,a,_,_,b,_⟩;have:=h.ef.one (ho y a);rw[ku]at this;exact this ⟨b,c y a⟩;exact b (c y a)
theorem EI.again(h:EI n F r s l E)(q:HS)(a:HpTo n E.q q)(p:dC)(hp:p.length=n+1)(hin:∀z∈E.T.lits,z∉(gh E.T 0).lits->aq z∈q.row):EI n F r s l {E with T:=gh E.T 0,q:=q,ph:=p,con:=-1,calm:=false}:=by
 unfold gh at hin⊢;by_cases c:0<E.T.beg.length;rw[Vt (by simp;omega)]at hin⊢;exact h.back c q a.hp a.mem hin p hp;rw[Vs (by simpa using c)];exact{h.rest with hp:=a.hp,inh:=λv d e b=>a.mem v (h.inh v d e b),ph:=hp}
theorem EI.decs(h:EI n F r s l E){E':ES}{b:Bool}(hd:Hz n E E' b):EI n F r s l E':=by
 rcases hd with⟨_,rfl,_⟩|⟨_,a,q,c,⟨_,x,hx,rfl,hin⟩|⟨_,rfl,g,hin⟩⟩;exact h;exact h.dec a hx q c hin (h.calmc a);exact{h with hp:=c,inh:=λv e f d=>absurd (hin v (h.inh v e f d)) d}
theorem EI.prps(h:EI n F r s l E):EI n F r s l (qL E):=by
 unfold qL;split;exact h;exact h.prp
end
section
variable {h : ao} {be bt ba bw bh : Nat} {mp : cg} {mb : List (Int × By)} {E : ES} {n r s : Nat} {F : au} {l : List Rc}
end
section
variable {n r s : Nat} {F : au} {l : List Rc} {E : ES}
theorem EI.one(h:EI n F r s l E){y:Int}(hy:dF y=true):¬(y∈E.T.lits∧-y∈E.T.lits):=by
 have:=h.ef.one hy
 rwa [ku]at this
end
def nu:Ck->List Stp->Ck->Prop
 |c,[],d=>c=d
 |c,s::r,d=>(cB c s).2=0∧nu (cB c s).1 r d
theorem nu.snoc:∀{l:List Stp}{c d:Ck}{s:Stp},nu c l d->(cB d s).2=0->nu c (l++[s]) (cB d s).1
 |[],_,_,_,h,a=>by cases h;exact⟨a,rfl⟩
 |_::l,_,_,_,h,a=>⟨h.1,nu.snoc (l:=l) h.2 a⟩
structure CkE (F:au) (l:List Rc) (E:ES) (c:Ck):Prop where
  run:nu (jG F) E.pf c
  m:c.m=l.map λx=>(x.id,x.lits)
  last:c.last=E.id
  dn:c.done=true↔∃x∈l,x.lits=[]
  g:CkG c
  al:∀x∈l,x.side≠2
  may:∀s∈E.pf,g8 s=true
theorem uq:∀(l:List Rc)(p:Nat),(∀x∈l,x.side≠2)->(bs p l).map (λy=>(y.id,y.lits))=l.map λx=>(x.id,x.lits)
 |[],_,_=>rfl
 |x::l,p,h=>by
  rw[bs,Vs (h x VN),VP,VP,uq l _ λy hy=>h y (VG _ hy)]
section
variable {n r s : Nat} {F : au} {l : List Rc} {E : ES} {c : Ck}
theorem CkE.over(K:CkE F l E c)(h:EI n F r s l E):c.done=E.over:=by
 have h1:(∃x∈l,x.lits=[])↔∃x∈bs 0 l,x.lits=[]:=by
  have e:=uq l 0 K.al;constructor;rintro⟨x,hx,b⟩;have:(x.id,x.lits)∈(bs 0 l).map λy=>(y.id,y.lits):=by rw[e];exact VB.2 ⟨x,hx,rfl⟩
  obtain⟨y,hy,a⟩:=VB.1 this;exact⟨y,hy,by rw[←b];exact(aaz a).2⟩;rintro⟨y,hy,b⟩;have:(y.id,y.lits)∈l.map λx=>(x.id,x.lits):=by rw[←e];exact VB.2 ⟨y,hy,rfl⟩
  obtain⟨x,hx,a⟩:=VB.1 this;exact⟨x,hx,by rw[←b];exact(aaz a).2⟩
 rw[aaa,K.dn,h.ovr,h1]
theorem Fy(L:au)(b:L.length<=100000){i:Nat}(h:i<L.length):cI L (i+1)=⟨(cI L i).m++[(((i+1:Nat):Int),L[i])],((i+1:Nat):Int),(cI L i).done||decide (L[i].length=0)⟩:=by
 have e:cI L (i+1)=qA (cI L i) L[i]:=by
  unfold cI;rw[Ws h,Y7];rfl
 obtain⟨a,g2⟩:=CkG.new L b i (by omega);have c:bG ((cI L i).last+1)=((i+1:Nat):Int):=by rw[g2,aC (by omega) (by omega)];omega
 rw[e];unfold qA;rw[c];have:=(a.put (id:=((i+1:Nat):Int)) (l:=L[i]) (by omega) (by omega)).1;unfold px at this⊢;dsimp only at this;rw[this]
theorem CkE.new(b:F.length<=100000)(e:l.map (λx=>(x.id,x.lits))=F.mapIdx λi c=>(((i+1:Nat):Int),c))(hs:∀x∈l,x.side=0)(oL:E.id=F.length)(hp:E.pf=[]):CkE F l E (jG F):=by
 have key:∀i,i<=F.length->(cI F i).m=(F.take i).mapIdx (λi c=>(((i+1:Nat):Int),c))∧((cI F i).done=true↔∃d∈F.take i,d=[]):=by
  intro i
  induction i with
  |zero=>intro _;simp[cI]
  |succ i h=>
   intro hi;obtain⟨h1,a⟩:=h (by omega);rw[Fy F b hi,Ws hi];refine⟨by dsimp only;rw[h1];simp only[List.mapIdx_append,List.mapIdx_cons,List.mapIdx_nil,Vy,WL (Nat.le_of_lt hi),Wr],?_⟩;dsimp only;rw[WI,a,VI,WA];simp only[VF,VY,or_and_right,exists_or,exists_eq_left]
 obtain⟨h1,a⟩:=key F.length (Vu _);rw[VX]at h1 a;obtain⟨f,g2⟩:=CkG.new F b F.length (Vu _);refine{run:=by rw[hp];rfl,m:=h1.trans e.symm,last:=by rw[oL];exact g2,dn:=?_,g:=f,al:=λx hx=>by rw[hs x hx];decide,may:=by rw[hp];simp};have:l.map (·.lits)=F:=by
  have:=Xp (List.map Prod.snd) e;simpa[Wo,YL,List.mapIdx_eq_zipIdx_map,List.map_zipIdx]using this
 refine a.trans ?_;rw[←this];simp
end
theorem Ext.some{h h':ao}{D:Nat->Prop}(x:Ext h h' (λ_=>False) D):∃g,h'=h++g:=by
 refine⟨h'.drop h.length,?_⟩;have:h'.take h.length=h:=by
  refine Wv λi=>?_;by_cases c:i<h.length;rw[Wg,Vt c,x.same i c (λe=>e)];rw[Wg,Vs c,V4 (by omega)]
 conv=>lhs;rw[←Wz h.length h',this]
theorem LayE.old{h h':ao}{be bt ba bw bh:Nat}{mp:cg}{mb:List (Int×By)}{E:ES}{D:Nat->Prop}(L:LayE h be bt ba bw bh mp mb E)(x:Ext h h' (λ_=>False) D):LayE h' be bt ba bw bh mp mb E:=by
 obtain⟨g,rfl⟩:=x.some;exact L.app g
theorem NG(k:Int):100<=pX k:=by
 unfold pX;split<;>omega
end Go.AX
