/-
  Contracts: rup: what follows by a chain of hints.
-/
import Derived.Test.YtepodadinenmnaaGreatS14AxLuA
import Derived.Test.YtepodadinenmnaaGreatAxAf
namespace Go.AX
set_option maxRecDepth 16000
open Go.Proofs
set_option linter.unusedSimpArgs false
theorem ai.frz{k0:Nat}{st:St}{s e:Nat}{nw:Bool}{rows:List (List PV)}(h:look st.t s=.own nw e rows):ai k0 st ⟨(s,.pv (.seq nw e rows))::st.t,st.h⟩:=λg a w _ hs=>by
 have h1:mv st (.tmp s)=.al (.slot s):=by simp[mv,RX,ev,h]
 have b:aa st (.slot s)=.own nw e rows:=h;have hd:(b7 st (.tmp s)).2.2:=by
  unfold b7;rw[h1];simp[ot,b,gc,RY,ev,h]
 obtain⟨g',t,_,_,s',_⟩:=mo hs (.tmp s) hd;refine⟨g',t,?_⟩;have c:(b7 st (.tmp s)).2.1=⟨(s,.pv (.seq nw e rows))::st.t,st.h⟩:=by
  unfold b7;rw[h1];simp only[ot];rw[b];rfl
 rw[←c];exact s'
theorem IQ(g:List (List SV))(l h:List Int)(c:l.length<=1000000)(d:h.length<=1000000):ax Tryz.prog 279 [.seq false 1 (ae l),.seq false 1 (ae h)] g (λr g'=>g'=g∧r=.pv (.tup [.seq true 1 (ae (FV l h).1),BL (FV l h).2.1,ab (FV l h).2.2])):=by
 refine fk [6] [.tmp 4,.tmp 5,.tmp 6] aC Tryz.func279 ?_;have f:=Cf l h c d;have i:=IN l h c d;have hcl:=eI l c;unfold FV;have b:sm l h=-1↔sm l h<0:=by
  have:=(tH l h (-1) (by omega)).1;unfold sm;omega
 simp;refine ah.intro f ?_
 by_cases c1:sm l h<0
 .rw[SN (b.2 c1)];have a:¬0<=sm l h:=by omega
  simp[c1,a];refine ah.intro hcl ?_;simp[bO,bK]
 rw[SM (λe=>c1 (b.1 e))];have a:0<=sm l h:=by omega
 simp[c1,a];refine ah.intro i ?_;cases c2:(cK l h).2
 .simp[c2,bO,bK,ae]
 .simp;refine io.full ?_;simp[bO,bK,ae];omega
theorem qP(g:List (List SV))(l:List Int)(hs:List (List Int))(q:l.length+hs.length<=1000000)(p:∀h∈hs,h.length<=1000000):ax Tryz.prog 232 [.seq false 1 (ae l),.seq false 1 (hs.map aw)] g (λr g'=>g'=g∧r=.pv (.tup [.seq true 1 (ae (eX l hs 0).1),ab (eX l hs 0).2.1,ab (eX l hs 0).2.2])):=by
 refine fk [] [.tmp 4,.tmp 5,.tmp 6] aC Tryz.func232 ?_;generalize a:eX l hs 0=F;have hcl:=eI l (by omega);simp;refine ah.intro hcl ?_;simp;refine aF.intro (S:=λ(x:Nat×List Int)=>⟨[(1,.pv (.seq false 1 (hs.map aw))),(4,.pv (.seq true 1 (ae x.2))),(14,.pv (.seq false 1 (hs.map aw))),(15,.pv (ab hs.length)),(16,.pv (ab x.1))],g⟩) (λx=>x.1<=hs.length∧x.2.length<=l.length+x.1∧F=eX x.2 (hs.drop x.1) x.1) (λx=>hs.length -x.1) (0,l) ?_ ⟨Te _,SQ _,a.symm⟩ ?_
 .exact(ai.frz (s:=4) (e:=1) (nw:=true) (rows:=ae l) (by simp)).trans (ai.keep (by simp) rfl)
 clear a;rintro⟨i,b⟩ ⟨hi,m,a⟩;dsimp only at hi m a
 by_cases h:i<hs.length
 rotate_left
 .have k:i=hs.length:=by omega
  subst k;rw[Tq (SQ _),eX]at a;subst a;simp[bO,bK]
 have o:=dZ i;have j:hs.drop i=hs[i]::hs.drop (i+1):=TJ h;rw[j,eX]at a;have n:=λg=>IQ g b hs[i] (by omega) (p _ (SS h));have f:=pU hs h;generalize hs[i]=c at*;have d:FV b c=if sm b c=-1 then(b,true,0)else if(cK b c).2=true then(b++[(cK b c).1],false,0)else([],false,22):=rfl;generalize FV b c=s at*;simp[h,f];refine ah.introM (n _) ?_;rintro _ _ ⟨rfl,rfl⟩
 by_cases c1:sm b c=-1
 .rw[SN c1]at a d;subst a d;simp[bO,bK,o]
 rw[SM c1]at a d
 by_cases c2:(cK b c).2=true
 .rw[SN c2]at a d;subst d;simp;refine⟨(i+1,b++[(cK b c).1]),by(try dsimp only);omega,⟨by(try dsimp only);omega,by simp;omega,a⟩,ai.keep (by simp[o]) (by simp)⟩
 .rw[SM c2]at a d;subst a d;simp[bO,bK,ae]
theorem vV(g:List (List SV))(c:List Int)(C:c.length<=1000000):ax Tryz.prog 231 [.seq false 1 (ae c)] g (λr g'=>g'=g∧r=.pv (.tup [.seq true 1 (ae (IK c)),ab (mN c)])):=by
 refine fk [] [.tmp 2,.tmp 3] aC Tryz.func231 ?_;have l:mN c=if IJ c=true then 10 else if i8 c=true then 11 else 0:=rfl;have m:IK c=if mN c=0 then gq c else[]:=rfl;have z:=xw c C;generalize IK c=R at*;generalize mN c=E at*;simp;refine aF.intro (S:=λ(i:Nat)=>⟨[(0,.pv (.seq false 1 (ae c))),(4,.own true 1 (ae (ia c i))),(8,.pv (.seq false 1 (ae c))),(9,.pv (ab c.length)),(10,.pv (ab i))],g⟩) (λi=>i<=c.length∧∀j (h:j<c.length),j<i->0<=aX c[j]) (λi=>c.length -i) 0 ?_ ⟨Te _,λj _ h=>by omega⟩ ?_
 .exact(ai.nilOwn (s:=4) 1 true (by simp)).trans (ai.keep (by simp[ia,ae]) rfl)
 rintro i ⟨hi,ho⟩;have hle:=pV c i
 by_cases h:i<c.length
 .have v:=dZ i;have A:c.getD i 0=c[i]:=by rw[SI,SH h];rfl
  have f:ia c (i+1)=if c[i]∈c.take i then ia c i else ia c i++[aY (-c[i])]:=by rw[ia,A]
  simp[h];refine ah.intro (qD c[i]) ?_;cases a:cX c[i]
  .have hn:l7 c[i]=0:=by unfold l7;rw[SM (by simp[a])]
   have hx:aX c[i]<0:=by rw[tn];exact a
   have p:IJ c=true:=U0.2 ⟨_,SS h,by simpa using hx⟩;rw[SN p]at l;subst l;rw[SM (by omega)]at m;subst m;simp[hn,bO,bK,ae]
  .have G:=(a8 c[i]).1 a;have hn:l7 c[i]=-c[i]:=by unfold l7;rw[SN a]
   have F:l7 c[i]≠0:=by omega
   have hx:0<=aX c[i]:=by rw[gP];exact a
   have n:aY (-c[i])=-c[i]:=ao (by omega) (by omega);rw[n]at f;have k:(-c[i]∈ia c i)↔c[i]∈c.take i:=by
    rw[qL c _ i (by omega)];constructor
    .rintro⟨y,hy,e⟩;obtain⟨j,hj,u⟩:=S6 hy;rw[SU]at hj;rw[Ua]at u;have h0:=ho j (by omega) (by omega);rw[u,gP]at h0;have H:=(a8 y).1 h0;rw[ao (by omega) (by omega)]at e;have:c[i]=y:=by omega
     rw[this];exact hy
    .intro D;exact⟨_,D,n.symm⟩
   have w:=eF (ia c i) (-c[i]) (by omega);have t:¬c[i]=0:=G.1;simp[hn,t];refine ah.intro w ?_;have b:∀j (hj:j<c.length),j<i+1->0<=aX c[j]:=λj hj B=>by
    by_cases e:j=i
    .subst e;exact hx
    .exact ho j hj (by omega)
   by_cases d:c[i]∈c.take i
   .rw[SN d]at f;have o:=k.2 d;simp[o];exact⟨i+1,by(try dsimp only);omega,⟨by(try dsimp only);omega,b⟩,ai.keep (by simp[v,f]) (by simp)⟩
   .rw[SM d]at f;have o:-c[i]∉ia c i:=λe=>d (k.1 e);simp[o];exact⟨by omega,i+1,by(try dsimp only);omega,⟨by(try dsimp only);omega,b⟩,ai.keep (by simp[v,f,ae]) (by simp)⟩
 have q:i=c.length:=by omega
 subst q;have p:IJ c=false:=UJ.2 λx hx=>by
  obtain⟨j,hj,rfl⟩:=S6 hx;have:=ho j hj hj;simp;omega
 rw[SM (by simp[p])]at l;simp;refine ah.intro z ?_;cases c2:i8 c
 rotate_left
 .rw[SN c2]at l;subst l;rw[SM (by omega)]at m;subst m;simp[bO,bK,ae]
 rw[SM (by simp[c2])]at l;subst l;rw[SN rfl]at m;subst m;simp[bO,bK,gq]
theorem IR(g:List (List SV))(c:List Int)(hs:List (List Int))(f:c.length+hs.length<=1000000)(e:∀h∈hs,h.length<=1000000):ax Tryz.prog 153 [.seq false 1 (ae c),.seq false 1 (hs.map aw)] g (λr g'=>g'=g∧r=.pv (.tup [ab (rQ c hs).1,ab (rQ c hs).2])):=by
 refine fk [] [.tmp 4,.tmp 5] aC Tryz.func153 ?_;have d:=λg=>vV g c (by omega);have hle:=pV c c.length;have b:=λg=>qP g (gq c) hs (by unfold gq;omega) e;unfold rQ;have a:IK c=if mN c=0 then gq c else[]:=rfl;simp;refine ah.introM (d _) ?_;rintro _ _ ⟨rfl,rfl⟩
 by_cases c1:mN c=0
 .rw[SN c1]at a;rw[a];simp[c1];refine ah.introM (b _) ?_;rintro _ _ ⟨rfl,rfl⟩;simp[bO,bK]
 .simp[c1,bO,bK]
end Go.AX