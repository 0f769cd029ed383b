/-
  A call of the law: what holds of an engine stays.
  Two engines that the document fixes (plain law).
  The program's checker takes all that an engine has learnt (plain law).
  Contracts: what the document fixes.
  The law's contract: EngineAgrees.
  Contracts: the document's engine: the clauses of a checker, how many were learnt, what follows, a new one; a trail's model.
-/
import Derived.Test.YtepodadinenmnaaGreatS14AxEgV
import Derived.Test.YtepodadinenmnaaGreatS14AxMovR
import Derived.Test.YtepodadinenmnaaGreatS14AxEgI
import Derived.Test.YtepodadinenmnaaGreatS14AxEgQ
import Derived.Test.YtepodadinenmnaaGreatS14AxTtA
import Derived.Test.YtepodadinenmnaaGreatS14AxTmB
import Derived.Test.YtepodadinenmnaaGreatS14AxVaA
import Derived.Test.YtepodadinenmnaaGreatS14AxRfB
import Derived.Test.YtepodadinenmnaaGreatS14AxTxG
namespace Go.AX
open Go.Proofs
set_option linter.unusedSimpArgs false
theorem A4{A:Ar}:∀(l a:List Rc),A.row=aZ (a++l)->(((bi (aZ a).length l).map (·.at')).filter (nV A)).length<=(l.filter λx=>decide (x.side=1)).length
 |[],_,_=>by simp[bi]
 |x::l,a,h=>by
  have b:=A4 l (a++[x]) (by simpa using h);have e:(aZ (a++[x])).length=(aZ a).length+x.sz:=by rw[jf];simp[aZ,Rc.sz];omega
  rw[e]at b;have g:=(uY a x l).2.2.1;rw[←h]at g;rw[bi]
  by_cases c:x.side=2
  .rw[N9 c];exact OM b (by rw[O5];split<;>simp)
  .rw[N8 c,Ow]
   by_cases d:x.side=1
   .have h1:∀(f:Int->Bool)(k:Int)(ks:List Int),((k::ks).filter f).length<=(ks.filter f).length+1:=λf k ks=>by
     rw[O5];split<;>simp
    rw[List.filter_cons_of_pos (p:=λx:Rc=>decide (x.side=1)) (by simp[d]),OC];exact OM (h1 _ _ _) (by omega)
   .have:nV A (((aZ a).length:Nat):Int)=false:=by
     unfold nV;rw[Pe,g,PE d,Bool.and_false]
    rw[O5,O5,N8 (by simp[this]),N8 (by simp[d])];exact b
structure EJ (n:Nat) (F:List (List Int)) (r s:Nat) (l:List Rc) (E:ES):Prop extends EI n F r s l E where
  kp:(((l.filter λx=>decide (x.side=1)).length+r:Nat):Int)<=E.keep
  mny:0<=E.many∧E.many+r<=1000000
  pfz:E.pf.length+r<=1000000
  pfs:∀x∈E.pf,x.lits.length<=1000000∧x.hints.length<=1000000
  vr:E.vars=n
  fm:E.cs=F
section
variable {n r s : Nat} {F : List (List Int)} {l : List Rc} {E : ES}
theorem EJ.to{E':ES}{l':List Rc}(h:EJ n F r s l E)(a:EI n F r s l' E')(c:l'=l)(hk:E'.keep=E.keep)(d:E'.many=E.many)(hp:E'.pf=E.pf)(e:E'.vars=E.vars)(b:E'.cs=E.cs):EJ n F r s l' E':=
 {a with kp:=by rw[c,hk];exact h.kp,mny:=by rw[d];exact h.mny,pfz:=by rw[hp];exact h.pfz,pfs:=by rw[hp];exact h.pfs,vr:=e.trans h.vr,fm:=b.trans h.fm}
theorem EI.calmc(h:EI n F r s l E)(d:E.calm=true):E.con<0:=by
 apply OF;intro hn;obtain⟨x,hx,_,c⟩:=h.con (by omega);have ho:=(h.cl hx).2;rcases h.cal d x hx with⟨y,a,b⟩|⟨y,z,a,_,_,b,_⟩
 .have:=h.ef.one (ho y a);rw[ez]at this;exact this ⟨b,c y a⟩
 .exact b (c y a)
theorem EI.again(h:EI n F r s l E)(q:HS)(a:HpTo n E.q q)(p:List Bool)(hp:p.length=n+1)(hin:∀z∈E.T.lits,z∉(dW E.T 0).lits->ab z∈q.row):EI n F r s l {E with T:=dW E.T 0,q:=q,ph:=p,con:=-1,calm:=false}:=by
 unfold dW at hin⊢
 by_cases c:0<E.T.beg.length
 .rw[N9 (by simp;omega)]at hin⊢;exact h.back c q a.hp a.mem hin p hp
 .rw[N8 (by simpa using c)];exact{h.rest with hp:=a.hp,inh:=λv d e b=>a.mem v (h.inh v d e b),ph:=hp}
theorem EI.decs(h:EI n F r s l E){E':ES}{b:Bool}(hd:xm n E E' b):EI n F r s l E':=by
 rcases hd with⟨_,rfl,_⟩|⟨_,a,q,c,⟨_,x,hx,rfl,hin⟩|⟨_,rfl,g,hin⟩⟩
 .exact h
 .exact h.dec a hx q c hin (h.calmc a)
 .exact{h with hp:=c,inh:=λv e f d=>absurd (hin v (h.inh v e f d)) d}
theorem EI.prps(h:EI n F r s l E):EI n F r s l (kj E):=by
 unfold kj;split
 .exact h
 .exact h.prp
end
section
variable {h : List (List SV)} {be bt ba bw bh : Nat} {mp : List (Int × Nat)} {mb : List (Int × By)} {E : ES} {n r s : Nat} {F : List (List Int)} {l : List Rc}
end
section
variable {n r s : Nat} {F : List (List Int)} {l : List Rc} {E : ES}
theorem EI.one(h:EI n F r s l E){y:Int}(hy:da y=true):¬(y∈E.T.lits∧-y∈E.T.lits):=by
 have:=h.ef.one hy
 rwa [ez]at this
end
def Is:Ck->List Stp->Ck->Prop
 |c,[],d=>c=d
 |c,s::r,d=>(Ih c s).2=0∧Is (Ih c s).1 r d
structure CkE (F:List (List Int)) (l:List Rc) (E:ES) (c:Ck):Prop where
  run:Is (NF F) E.pf c
  m:c.m=l.map λx=>(x.id,x.lits)
  last:c.last=E.id
  dn:c.done=true↔∃x∈l,x.lits=[]
  g:CkG c
  al:∀x∈l,x.side≠2
  may:∀s∈E.pf,LP s=true
section
variable {n r s : Nat} {F : List (List Int)} {l : List Rc} {E : ES} {c : Ck}
end
theorem Ext.some{h h':List (List SV)}{D:Nat->Prop}(x:Ext h h' (λ_=>False) D):∃g,h'=h++g:=by
 refine⟨h'.drop h.length,?_⟩;have:h'.take h.length=h:=by
  refine Px λi=>?_
  by_cases c:i<h.length
  .rw[O6,N9 c,x.same i c (λe=>e)]
  .rw[O6,N8 c,ON (by omega)]
 conv=>lhs;rw[←O8 h.length h',this]
theorem LayE.old{h h':List (List SV)}{be bt ba bw bh:Nat}{mp:List (Int×Nat)}{mb:List (Int×By)}{E:ES}{D:Nat->Prop}(L:LayE h be bt ba bw bh mp mb E)(x:Ext h h' (λ_=>False) D):LayE h' be bt ba bw bh mp mb E:=by
 obtain⟨g,rfl⟩:=x.some;exact L.app g
theorem F0(k:Int):100<=mD k:=by
 unfold mD;split<;>omega
theorem NewOk.ej{n:Nat}{cs:List (List Int)}{kp:Int}{r s:Nat}{l:List Rc}{E:ES}(I:EI n cs r s l E)(h:NewOk n cs kp E l cs)(a:r<=100):EJ n cs r s l E:=
 {I with
  kp:=by
   have:(l.filter λx=>decide (x.side=1))=[]:=by
    rw[P0];intro x hx;simp[h.side x hx]
   rw[this,h.keep];have:=F0 kp;simp;omega
  mny:=by rw[h.many];omega
  pfz:=by rw[h.pf];simp;omega
  pfs:=by rw[h.pf];simp
  vr:=h.vars
  fm:=h.cs}
set_option maxRecDepth 16000 in
theorem Cw(v:Int)(L:List (List Int))(m:List Bool)(e:L.length<=1000000)(b:∀x∈L,x.length<=1000000):an Tryz.prog 18 [.agg [ae v,.seq false 1 (L.map aK)],.seq false 1 (cz m)] (λr=>r=.pv (BL (decide ((m.length:Int)=v)&&decide (gX L m=-1)))):=by
 refine ax aG Tryz.func18 ?_;have d:=o9 v L m (by omega) (λx hx=>by have:=b x hx;omega);have a:(cz m).length=m.length:=by simp[cz]
 simp[a];refine bK.intro (λ_=>d) ?_
 by_cases c:(m.length:Int)=v
 .simp[c]
 .simp[c]
end Go.AX