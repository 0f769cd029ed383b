/-
  Contracts: rup: what follows by a chain of hints.
-/
import Derived.Test.YtepodadinenmnaaGreatZs
import Derived.Test.YtepodadinenmnaaGreatZt
set_option linter.unusedSimpArgs false
namespace Go.AX
open Go.Proofs Go.Proofs.Tryz
section
set_option maxRecDepth 16000
theorem av.frz{k0:Nat}{st:St}{s e:Nat}{nw:Bool}{rows:aT}(h:look st.t s=.own nw e rows):av k0 st ⟨(s,.pv (.seq nw e rows))::st.t,st.h⟩:=λg a w _ hs=>by
 have h1:mv st (.tmp s)=.al (.slot s):=by simp[mv,UR,ev,h]
 have b:aj st (.slot s)=.own nw e rows:=h;have hd:(cR st (.tmp s)).2.2:=by
  unfold cR;rw[h1];simp[p9,b,gc,US,ev,h]
 obtain⟨g',t,_,_,s',_⟩:=nK hs (.tmp s) hd;refine⟨g',t,?_⟩;have c:(cR st (.tmp s)).2.1=⟨(s,.pv (.seq nw e rows))::st.t,st.h⟩:=by
  unfold cR;rw[h1];simp only[p9];rw[b];rfl
 rw[←c];exact s'
theorem LA(g:ao)(l h:af)(c:l.length<=1000000)(d:h.length<=1000000):aI prog 279 [.seq false 1 (am l),.seq false 1 (am h)] g (λr g'=>g'=g∧r=.pv (.tup [.seq true 1 (am (IP l h).1),BL (IP l h).2.1,ak (IP l h).2.2])):=by
 refine fJ [6] [.tmp 4,.tmp 5,.tmp 6] aP func279 ?_;have f:=Ep l h c d;have i:=Ly l h c d;have hcl:=dy l c;unfold IP;have b:ve l h=-1↔ve l h<0:=by
  have:=(vu l h (-1) (by omega)).1;unfold ve;omega
 simp;refine ap.intro f ?_;by_cases c1:ve l h<0;rw[Vt (b.2 c1)];have a:¬0<=ve l h:=by omega
 simp[c1,a];refine ap.intro hcl ?_;simp[cr,bX];rw[Vs (λe=>c1 (b.1 e))];have a:0<=ve l h:=by omega
 simp[c1,a];refine ap.intro i ?_;cases c2:(dz l h).2;simp[c2,cr,bX,am];simp;refine jF.full ?_;simp[cr,bX,am];omega
theorem sM(g:ao)(l:af)(hs:au)(q:l.length+hs.length<=1000000)(p:∀h∈hs,h.length<=1000000):aI prog 232 [.seq false 1 (am l),.seq false 1 (hs.map aF)] g (λr g'=>g'=g∧r=.pv (.tup [.seq true 1 (am (gg l hs 0).1),ak (gg l hs 0).2.1,ak (gg l hs 0).2.2])):=by
 refine fJ [] [.tmp 4,.tmp 5,.tmp 6] aP func232 ?_;generalize a:gg l hs 0=F;have hcl:=dy l (by omega);simp;refine ap.intro hcl ?_;simp;refine aM.intro (S:=λ(x:Nat×af)=>⟨[(1,.pv (.seq false 1 (hs.map aF))),(4,.pv (.seq true 1 (am x.2))),(14,.pv (.seq false 1 (hs.map aF))),(15,.pv (ak hs.length)),(16,.pv (ak x.1))],g⟩) (λx=>x.1<=hs.length∧x.2.length<=l.length+x.1∧F=gg x.2 (hs.drop x.1) x.1) (λx=>hs.length -x.1) (0,l) ?_ ⟨VH _,Vu _,a.symm⟩ ?_;exact(av.frz (s:=4) (e:=1) (nw:=true) (rows:=am l) (by simp)).trans (av.keep (by simp) rfl);clear a;rintro⟨i,b⟩ ⟨hi,m,a⟩;dsimp only at hi m a;by_cases h:i<hs.length;rotate_left;have k:i=hs.length:=by omega
 subst k;rw[VS (Vu _),gg]at a;subst a;simp[cr,bX];have o:=dU i;have j:hs.drop i=hs[i]::hs.drop (i+1):=V3 h;rw[j,gg]at a;have n:=λg=>LA g b hs[i] (by omega) (p _ (Vx h));have f:=om hs h;generalize hs[i]=c at*;have d:IP b c=if ve b c=-1 then(b,true,0)else if(dz b c).2=true then(b++[(dz b c).1],false,0)else([],false,22):=rfl;generalize IP b c=s at*;simp[h,f];refine ap.introM (n _) ?_;rintro _ _ ⟨rfl,rfl⟩;by_cases c1:ve b c=-1;rw[Vt c1]at a d;subst a d;simp[cr,bX,o];rw[Vs c1]at a d;by_cases c2:(dz b c).2=true;rw[Vt c2]at a d;subst d;simp;refine⟨(i+1,b++[(dz b c).1]),by dsimp only;omega,⟨by dsimp only;omega,by simp;omega,a⟩,av.keep (by simp[o]) (by simp)⟩;rw[Vs c2]at a d;subst a d;simp[cr,bX,am]
theorem xX(g:ao)(c:af)(C:c.length<=1000000):aI prog 231 [.seq false 1 (am c)] g (λr g'=>g'=g∧r=.pv (.tup [.seq true 1 (am (Lv c)),ak (mW c)])):=by
 refine fJ [] [.tmp 2,.tmp 3] aP func231 ?_;have l:mW c=if Lu c=true then 10 else if gN c=true then 11 else 0:=rfl;have m:Lv c=if mW c=0 then iw c else[]:=rfl;have z:=zG c C;generalize Lv c=R at*;generalize mW c=E at*;simp;refine aM.intro (S:=λ(i:Nat)=>⟨[(0,.pv (.seq false 1 (am c))),(4,.own true 1 (am (jf c i))),(8,.pv (.seq false 1 (am c))),(9,.pv (ak c.length)),(10,.pv (ak i))],g⟩) (λi=>i<=c.length∧∀j (h:j<c.length),j<i->0<=bH c[j]) (λi=>c.length -i) 0 ?_ ⟨VH _,λj _ h=>by omega⟩ ?_;exact(av.nilOwn (s:=4) 1 true (by simp)).trans (av.keep (by simp[jf,am]) rfl);rintro i ⟨hi,ho⟩;have hle:=rH c i;by_cases h:i<c.length;have v:=dU i;have A:c.getD i 0=c[i]:=by rw[Vr,Vq h];rfl
 have f:jf c (i+1)=if c[i]∈c.take i then jf c i else jf c i++[bG (-c[i])]:=by rw[jf,A]
 simp[h];refine ap.intro (sB c[i]) ?_;cases a:dF c[i];have hn:ny c[i]=0:=by unfold ny;rw[Vs (by simp[a])]
 have hx:bH c[i]<0:=by rw[u6];exact a
 have p:Lu c=true:=XS.2 ⟨_,Vx h,by simpa using hx⟩;rw[Vt p]at l;subst l;rw[Vs (by omega)]at m;subst m;simp[hn,cr,bX,am];have G:=(bO c[i]).1 a;have hn:ny c[i]=-c[i]:=by unfold ny;rw[Vt a]
 have F:ny c[i]≠0:=by omega
 have hx:0<=bH c[i]:=by rw[il];exact a
 have n:bG (-c[i])=-c[i]:=aC (by omega) (by omega);rw[n]at f;have k:(-c[i]∈jf c i)↔c[i]∈c.take i:=by
  rw[sI c _ i (by omega)];constructor;rintro⟨y,hy,e⟩;obtain⟨j,hj,u⟩:=VE hy;rw[Vy]at hj;rw[WE]at u;have h0:=ho j (by omega) (by omega);rw[u,il]at h0;have H:=(bO y).1 h0;rw[aC (by omega) (by omega)]at e;have:c[i]=y:=by omega
  rw[this];exact hy;intro D;exact⟨_,D,n.symm⟩
 have w:=fL (jf c i) (-c[i]) (by omega);have t:¬c[i]=0:=G.1;simp[hn,t];refine ap.intro w ?_;have b:∀j (hj:j<c.length),j<i+1->0<=bH c[j]:=λj hj B=>by
  by_cases e:j=i;subst e;exact hx;exact ho j hj (by omega)
 by_cases d:c[i]∈c.take i;rw[Vt d]at f;have o:=k.2 d;simp[o];exact⟨i+1,by(try dsimp only);omega,⟨by(try dsimp only);omega,b⟩,av.keep (by simp[v,f]) (by simp)⟩;rw[Vs d]at f;have o:-c[i]∉jf c i:=λe=>d (k.1 e);simp[o];exact⟨by omega,i+1,by(try dsimp only);omega,⟨by(try dsimp only);omega,b⟩,av.keep (by simp[v,f,am]) (by simp)⟩;have q:i=c.length:=by omega
 subst q;have p:Lu c=false:=Xo.2 λx hx=>by
  obtain⟨j,hj,rfl⟩:=VE hx;have:=ho j hj hj;simp;omega
 rw[Vs (by simp[p])]at l;simp;refine ap.intro z ?_;cases c2:gN c;rotate_left;rw[Vt c2]at l;subst l;rw[Vs (by omega)]at m;subst m;simp[cr,bX,am];rw[Vs (by simp[c2])]at l;subst l;rw[Vt rfl]at m;subst m;simp[cr,bX,iw]
theorem LB(g:ao)(c:af)(hs:au)(f:c.length+hs.length<=1000000)(e:∀h∈hs,h.length<=1000000):aI prog 153 [.seq false 1 (am c),.seq false 1 (hs.map aF)] g (λr g'=>g'=g∧r=.pv (.tup [ak (pu c hs).1,ak (pu c hs).2])):=by
 refine fJ [] [.tmp 4,.tmp 5] aP func153 ?_;have d:=λg=>xX g c (by omega);have hle:=rH c c.length;have b:=λg=>sM g (iw c) hs (by unfold iw;omega) e;unfold pu;have a:Lv c=if mW c=0 then iw c else[]:=rfl;simp;refine ap.introM (d _) ?_;rintro _ _ ⟨rfl,rfl⟩;by_cases c1:mW c=0;rw[Vt c1]at a;rw[a];simp[c1];refine ap.introM (b _) ?_;rintro _ _ ⟨rfl,rfl⟩;simp[cr,bX];simp[c1,cr,bX]
end
end Go.AX
