/-
  Contracts: rup: what follows by a chain of hints.
-/
import Derived.Test.YtepodadinenmnaaGreatS14AxRnX
import Derived.Test.YtepodadinenmnaaGreatAxAf
namespace Go.AX
set_option maxRecDepth 16000
open Go.Proofs
set_option linter.unusedSimpArgs false
theorem ai.frz{k0:Nat}{st:St}{s e:Nat}{nw:Bool}{rows:List (List PV)}(h:look st.t s=.own nw e rows):ai k0 st ⟨(s,.pv (.seq nw e rows))::st.t,st.h⟩:=λg a w _ hs=>by
 have h1:mv st (.tmp s)=.al (.slot s):=by simp[mv,Px,ev,h]
 have b:aa st (.slot s)=.own nw e rows:=h;have hd:(bW st (.tmp s)).2.2:=by
  unfold bW;rw[h1];simp[nx,b,gc,Py,ev,h]
 obtain⟨g',t,_,_,s',_⟩:=lN hs (.tmp s) hd;refine⟨g',t,?_⟩;have c:(bW st (.tmp s)).2.1=⟨(s,.pv (.seq nw e rows))::st.t,st.h⟩:=by
  unfold bW;rw[h1];simp only[nx];rw[b];rfl
 rw[←c];exact s'
theorem GO(g:List (List SV))(l h:List Int)(d:l.length<=1000000)(f:h.length<=1000000):ay Tryz.prog 279 [.seq false 1 (ab l),.seq false 1 (ab h)] g (λr g'=>g'=g∧r=.pv (.tup [.seq true 1 (ab (DV l h).1),BL (DV l h).2.1,af (DV l h).2.2])):=by
 refine fh [6] [.tmp 4,.tmp 5,.tmp 6] aD Tryz.func279 ?_;have i:=AH l h d f;have j:=GM l h d f;have c:=ez l d;unfold DV;have b:rS l h=-1↔rS l h<0:=by
  have:=(rY l h (-1) (by omega)).1;unfold rS;omega
 simp;refine ah.intro i ?_
 by_cases c1:rS l h<0
 .rw[Qb (b.2 c1)];have a:¬0<=rS l h:=by omega
  simp[c1,a];refine ah.intro c ?_;simp[bI,bG]
 rw[Qa (λe=>c1 (b.1 e))];have a:0<=rS l h:=by omega
 simp[c1,a];refine ah.intro j ?_;cases c2:(cM l h).2
 .simp[c2,bI,bG,ab]
 .simp;refine iF.full ?_;simp[bI,bG,ab];omega
theorem pS(g:List (List SV))(l:List Int)(hs:List (List Int))(t:l.length+hs.length<=1000000)(q:∀h∈hs,h.length<=1000000):ay Tryz.prog 232 [.seq false 1 (ab l),.seq false 1 (hs.map az)] g (λr g'=>g'=g∧r=.pv (.tup [.seq true 1 (ab (eM l hs 0).1),af (eM l hs 0).2.1,af (eM l hs 0).2.2])):=by
 refine fh [] [.tmp 4,.tmp 5,.tmp 6] aD Tryz.func232 ?_;generalize a:eM l hs 0=F;have j:=ez l (by omega);simp;refine ah.intro j ?_;simp;refine aH.intro (S:=λ(x:Nat×List Int)=>⟨[(1,.pv (.seq false 1 (hs.map az))),(4,.pv (.seq true 1 (ab x.2))),(14,.pv (.seq false 1 (hs.map az))),(15,.pv (af hs.length)),(16,.pv (af x.1))],g⟩) (λx=>x.1<=hs.length∧x.2.length<=l.length+x.1∧F=eM x.2 (hs.drop x.1) x.1) (λx=>hs.length -x.1) (0,l) ?_ ⟨Qq _,Qc _,a.symm⟩ ?_
 .exact(ai.frz (s:=4) (e:=1) (nw:=true) (rows:=ab l) (by simp)).trans (ai.keep (by simp) rfl)
 clear a;rintro⟨i,b⟩ ⟨hi,n,a⟩;dsimp only at hi n a
 by_cases h:i<hs.length
 rotate_left
 .have m:i=hs.length:=by omega
  subst m;rw[QK (Qc _),eM]at a;subst a;simp[bI,bG]
 have p:=eq i;have k:hs.drop i=hs[i]::hs.drop (i+1):=QU h;rw[k,eM]at a;have o:=λg=>GO g b hs[i] (by omega) (q _ (Qe h));have f:=oU hs h;generalize hs[i]=c at*;have d:DV b c=if rS b c=-1 then(b,true,0)else if(cM b c).2=true then(b++[(cM b c).1],false,0)else([],false,22):=rfl;generalize DV b c=s at*;simp[h,f];refine ah.introM (o _) ?_;rintro _ _ ⟨rfl,rfl⟩
 by_cases c1:rS b c=-1
 .rw[Qb c1]at a d;subst a d;simp[bI,bG,p]
 rw[Qa c1]at a d
 by_cases c2:(cM b c).2=true
 .rw[Qb c2]at a d;subst d;simp;refine⟨(i+1,b++[(cM b c).1]),by(try dsimp only);omega,⟨by(try dsimp only);omega,by simp;omega,a⟩,ai.keep (by simp[p]) (by simp)⟩
 .rw[Qa c2]at a d;subst a d;simp[bI,bG,ab]
theorem uB(g:List (List SV))(c:List Int)(C:c.length<=1000000):ay Tryz.prog 231 [.seq false 1 (ab c)] g (λr g'=>g'=g∧r=.pv (.tup [.seq true 1 (ab (GJ c)),af (ma c)])):=by
 refine fh [] [.tmp 2,.tmp 3] aD Tryz.func231 ?_;have l:ma c=if GI c=true then 10 else if iK c=true then 11 else 0:=rfl;have m:GJ c=if ma c=0 then fX c else[]:=rfl;have z:=v6 c C;generalize GJ c=R at*;generalize ma c=E at*;simp;refine aH.intro (S:=λ(i:Nat)=>⟨[(0,.pv (.seq false 1 (ab c))),(4,.own true 1 (ab (gL c i))),(8,.pv (.seq false 1 (ab c))),(9,.pv (af c.length)),(10,.pv (af i))],g⟩) (λi=>i<=c.length∧∀j (h:j<c.length),j<i->0<=aV c[j]) (λi=>c.length -i) 0 ?_ ⟨Qq _,λj _ h=>by omega⟩ ?_
 .exact(ai.nilOwn (s:=4) 1 true (by simp)).trans (ai.keep (by simp[gL,ab]) rfl)
 rintro i ⟨hi,ho⟩;have hle:=oV c i
 by_cases h:i<c.length
 .have v:=eq i;have A:c.getD i 0=c[i]:=by rw[P9,P8 h];rfl
  have f:gL c (i+1)=if c[i]∈c.take i then gL c i else gL c i++[aX (-c[i])]:=by rw[gL,A]
  simp[h];refine ah.intro (pG c[i]) ?_;cases a:cK c[i]
  .have hn:lC c[i]=0:=by unfold lC;rw[Qa (by simp[a])]
   have hx:aV c[i]<0:=by rw[rN];exact a
   have p:GI c=true:=R7.2 ⟨_,Qe h,by simpa using hx⟩;rw[Qb p]at l;subst l;rw[Qa (by omega)]at m;subst m;simp[hn,bI,bG,ab]
  .have G:=(aW c[i]).1 a;have hn:lC c[i]=-c[i]:=by unfold lC;rw[Qb a]
   have F:lC c[i]≠0:=by omega
   have hx:0<=aV c[i]:=by rw[gy];exact a
   have n:aX (-c[i])=-c[i]:=aq (by omega) (by omega);rw[n]at f;have k:(-c[i]∈gL c i)↔c[i]∈c.take i:=by
    rw[pO c _ i (by omega)];constructor
    .rintro⟨y,hy,e⟩;obtain⟨j,hj,u⟩:=Qm hy;rw[Qg]at hj;rw[Rr]at u;have h0:=ho j (by omega) (by omega);rw[u,gy]at h0;have H:=(aW y).1 h0;rw[aq (by omega) (by omega)]at e;have:c[i]=y:=by omega
     rw[this];exact hy
    .intro D;exact⟨_,D,n.symm⟩
   have w:=er (gL c i) (-c[i]) (by omega);have t:¬c[i]=0:=G.1;simp[hn,t];refine ah.intro w ?_;have b:∀j (hj:j<c.length),j<i+1->0<=aV c[j]:=λj hj B=>by
    by_cases e:j=i
    .subst e;exact hx
    .exact ho j hj (by omega)
   by_cases d:c[i]∈c.take i
   .rw[Qb d]at f;have o:=k.2 d;simp[o];exact⟨i+1,by(try dsimp only);omega,⟨by(try dsimp only);omega,b⟩,ai.keep (by simp[v,f]) (by simp)⟩
   .rw[Qa d]at f;have o:-c[i]∉gL c i:=λe=>d (k.1 e);simp[o];exact⟨by omega,i+1,by(try dsimp only);omega,⟨by(try dsimp only);omega,b⟩,ai.keep (by simp[v,f,ab]) (by simp)⟩
 have q:i=c.length:=by omega
 subst q;have p:GI c=false:=Sa.2 λx hx=>by
  obtain⟨j,hj,rfl⟩:=Qm hx;have:=ho j hj hj;simp;omega
 rw[Qa (by simp[p])]at l;simp;refine ah.intro z ?_;cases c2:iK c
 rotate_left
 .rw[Qb c2]at l;subst l;rw[Qa (by omega)]at m;subst m;simp[bI,bG,ab]
 rw[Qa (by simp[c2])]at l;subst l;rw[Qb rfl]at m;subst m;simp[bI,bG,fX]
theorem GP(g:List (List SV))(c:List Int)(hs:List (List Int))(f:c.length+hs.length<=1000000)(e:∀h∈hs,h.length<=1000000):ay Tryz.prog 153 [.seq false 1 (ab c),.seq false 1 (hs.map az)] g (λr g'=>g'=g∧r=.pv (.tup [af (qE c hs).1,af (qE c hs).2])):=by
 refine fh [] [.tmp 4,.tmp 5] aD Tryz.func153 ?_;have d:=λg=>uB g c (by omega);have hle:=oV c c.length;have b:=λg=>pS g (fX c) hs (by unfold fX;omega) e;unfold qE;have a:GJ c=if ma c=0 then fX c else[]:=rfl;simp;refine ah.introM (d _) ?_;rintro _ _ ⟨rfl,rfl⟩
 by_cases c1:ma c=0
 .rw[Qb c1]at a;rw[a];simp[c1];refine ah.introM (b _) ?_;rintro _ _ ⟨rfl,rfl⟩;simp[bI,bG]
 .simp[c1,bI,bG]
end Go.AX