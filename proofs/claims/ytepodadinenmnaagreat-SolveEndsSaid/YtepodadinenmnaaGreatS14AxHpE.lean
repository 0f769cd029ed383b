/-
  Contracts: what is done with a heap.
-/
import Derived.Test.YtepodadinenmnaaGreatS14AxDfD
namespace Go.AX
open Go.Proofs
set_option linter.unusedSimpArgs false
theorem rz(s r p:List Int):[SV.own true 1 (af s),SV.own true 1 (af r),SV.own true 1 (af p)]=ao ⟨s,r,p⟩:=rfl
theorem lD{l:List Int}{i:Nat}(h:i<l.length):l[i]=l.getD i 0:=by simp[h]
theorem Fm{q:HS}{v by':Int}(h:rv q v=false):d7 q v by'=(q,10):=by unfold d7;rw[N9 h]
theorem Ce{q:HS}{v by':Int}(h:rv q v=true)(a:by'<0∨1000000000000<by'):d7 q v by'=(q,2):=by unfold d7;rw[N8 (by rw[h];simp),N9 a]
theorem Cf{q:HS}{v by':Int}(h:rv q v=true)(a:¬(by'<0∨1000000000000<by')):d7 q v by'=(if 1000000000000<(dF q v by').sc.getD v.toNat 0 then b6 (dF q v by')else dF q v by',0):=by
 unfold d7;rw[N8 (by rw[h];simp),N8 a];rfl
set_option maxRecDepth 16000 in
theorem wV(h:List (List SV))(b:Nat)(q:HS)(O:h[b]?=some (ao q)){n:Nat}(g:HpG n 1000000000000 q)(hn:n<=100000)(v by':Int):
 aB Tryz.prog 129 [.ptr b 0,ae v,ae by'] h (λr h'=>r=.pv (ae (d7 q v by').2)∧h'=h.set b (ao (d7 q v by').1)):=by
 refine mo aG Tryz.func129 ?_;obtain⟨a,Q⟩:=N5.1 O;have hq:0<q.sc.length:=by rw[g.sl];omega
 have X:=AP q hq v;generalize y:d7 q v by'=BS
 simp;rw[fN O];refine am.introP X ?_;unfold Hu;cases I:rv q v with
 |false=>
  have e:=y.symm.trans (Fm I);subst e;simp[gi O]
 |true=>
  have M:=g.isV_iff.1 I;have K:v.toNat<q.sc.length:=by rw[g.sl];omega
  have L:v.toNat<q.pl.length:=by rw[g.pll];omega
  have k:0<=v:=by omega
  have V:v<(q.sc.length:Int):=by rw[g.sl];omega
  have W:v<(q.pl.length:Int):=by rw[g.pll];omega
  have ab:=g.score v.toNat;obtain⟨f,E⟩:∃x,x=q.sc.getD v.toNat 0:=⟨_,rfl⟩;obtain⟨H,t⟩:∃x,x=q.pl.getD v.toNat 0:=⟨_,rfl⟩;have R:q.sc[v.toNat]=f:=by rw[E];exact lD K
  have T:q.pl[v.toNat]=H:=by rw[t];exact lD L
  simp[a,Q,ao,K,k,V,R,g8];refine⟨λc=>?_,λc1 c2=>?_⟩
  .have e:=y.symm.trans (Ce I c);subst e;simp[rz,gi O]
  have c3:¬(by'<0∨1000000000000<by'):=λh=>h.elim (λh=>RD.2 c1 h) (λh=>RD.2 c2 h);have e:=y.symm.trans (Cf I c3);clear y;subst e;obtain⟨F,w⟩:∃F,(if 1000000000000<(dF q v by').sc.getD v.toNat 0 then b6 (dF q v by')else dF q v by')=F:=⟨_,rfl⟩;rw[w];have Y:a8 (f+by')=f+by':=ap (by omega) (by omega)
  have N:dF q v by'=if 0<=H then⟨q.sc.set v.toNat (f+by'),(pg (q.sc.set v.toNat (f+by')) (q.row.getD H.toNat 0) H.toNat q.row q.pl).1,(pg (q.sc.set v.toNat (f+by')) (q.row.getD H.toNat 0) H.toNat q.row q.pl).2⟩else⟨q.sc.set v.toNat (f+by'),q.row,q.pl⟩:=by
   rw[E,t];rfl
  have j:=uR ⟨q.sc.set v.toNat (f+by'),q.row,q.pl⟩ (by simpa using hq) (by dsimp only;rw[OE,g.pll,g.sl]) v;have U:rv ⟨q.sc.set v.toNat (f+by'),q.row,q.pl⟩ v=true:=by unfold rv at I⊢;simpa using I
  rw[U]at j;rw[Y];dsimp only at j;rw[←t]at j;rw[rz,nW a];refine am.introP j ?_;have aa:q.row.length<=n:=g.few;obtain⟨d,p1,s1,A⟩:=ry g M c3;rw[←E]at A s1;rw[A]at w
  by_cases c5:0<=H
  .obtain⟨i,hi,J,D⟩:=g.place ((g.has_iff M).1 (by rw[←t];exact c5));rw[←t]at D;have hin:rO q.row q.pl.length:=by rw[g.pll];exact g.inr
   have u:=Fh (h.set b (ao ⟨q.sc.set v.toNat (f+by'),q.row,q.pl⟩)) b ⟨q.sc.set v.toNat (f+by'),q.row,q.pl⟩ (fj a _) i hi hin (by dsimp only;rw[OE,g.pll,g.sl]) (by dsimp only;omega);rw[N9 c5,D,Pe,J]at N;dsimp only at u;rw[J]at u;rw[←D]at u;simp only[ao]at u;simp[a,ao,c5,L,k,W,T];refine am.intro u ?_;rintro _ _ ⟨rfl,rfl⟩;simp;have P:ao (dF q v by')=[.own true 1 (af (q.sc.set v.toNat (f+by'))),.own true 1 (af (pg (q.sc.set v.toNat (f+by')) v i q.row q.pl).1),.own true 1 (af (pg (q.sc.set v.toNat (f+by')) v i q.row q.pl).2)]:=by rw[N];rfl
   rw[←P];generalize dF q v by'=B at*
   refine aJ.intro (S:=λ(x:Nat)=>⟨[(0,.pv (.ptr b 0)),(1,.pv (ae v))],h.set b (ao (if x=0 then B else b6 B))⟩) (λx=>x=0∨x=1∧1000000000000<f+by') (λx=>1 -x) 0 ?_ (.inl rfl) ?_
   .exact ai.keep (by simp) (by simp)
   .have l:v.toNat<B.sc.length:=by rw[d.sl];omega
    have m:v<(B.sc.length:Int):=by rw[d.sl];omega
    have C:B.sc[v.toNat]=f+by':=by rw[←A];exact lD l
    rintro x (rfl|⟨rfl,hx⟩)
    .have s:=oQ (h.set b (ao B)) b B (fj a _) (by rw[d.sl];omega) (by rw[d.pll];exact d.inr) (by rw[d.pll,d.sl]) (by have:=d.few;omega) (by rw[d.sl];omega);simp only[ao]at s;simp[a,ao,l,m,k,C];refine⟨λc=>?_,λc=>?_⟩
     .refine am.intro s ?_;rintro _ _ ⟨rfl,rfl⟩;simp;exact⟨1,by dsimp only;omega,.inr ⟨rfl,c⟩,ai.keep (by simp) (by simp[ao])⟩
     .rw[N8 (RD.2 c)]at w;rw[w]
    .obtain⟨g2,p2,s2⟩:=jO d (by omega) (by omega);have o:v.toNat<(b6 B).sc.length:=by rw[g2.sl];omega
     have p:v<((b6 B).sc.length:Int):=by rw[g2.sl];omega
     obtain⟨z,hz⟩:∃z,(b6 B).sc[v.toNat]=z:=⟨_,rfl⟩;have Z:=g2.rng z (by rw[←hz];exact Od o);have G:¬1000000000000<z:=by omega
     simp[a,ao,o,p,k,hz,G];rw[N9 hx]at w;rw[w]
  .rw[N8 c5]at N;simp[c5];rw[←N];generalize dF q v by'=B at*
   refine aJ.intro (S:=λ(x:Nat)=>⟨[(0,.pv (.ptr b 0)),(1,.pv (ae v))],h.set b (ao (if x=0 then B else b6 B))⟩) (λx=>x=0∨x=1∧1000000000000<f+by') (λx=>1 -x) 0 ?_ (.inl rfl) ?_
   .exact ai.keep (by simp) (by simp)
   .have l:v.toNat<B.sc.length:=by rw[d.sl];omega
    have m:v<(B.sc.length:Int):=by rw[d.sl];omega
    have C:B.sc[v.toNat]=f+by':=by rw[←A];exact lD l
    rintro x (rfl|⟨rfl,hx⟩)
    .have s:=oQ (h.set b (ao B)) b B (fj a _) (by rw[d.sl];omega) (by rw[d.pll];exact d.inr) (by rw[d.pll,d.sl]) (by have:=d.few;omega) (by rw[d.sl];omega);simp only[ao]at s;simp[a,ao,l,m,k,C];refine⟨λc=>?_,λc=>?_⟩
     .refine am.intro s ?_;rintro _ _ ⟨rfl,rfl⟩;simp;exact⟨1,by dsimp only;omega,.inr ⟨rfl,c⟩,ai.keep (by simp) (by simp[ao])⟩
     .rw[N8 (RD.2 c)]at w;rw[w]
    .obtain⟨g2,p2,s2⟩:=jO d (by omega) (by omega);have o:v.toNat<(b6 B).sc.length:=by rw[g2.sl];omega
     have p:v<((b6 B).sc.length:Int):=by rw[g2.sl];omega
     obtain⟨z,hz⟩:∃z,(b6 B).sc[v.toNat]=z:=⟨_,rfl⟩;have Z:=g2.rng z (by rw[←hz];exact Od o);have G:¬1000000000000<z:=by omega
     simp[a,ao,o,p,k,hz,G];rw[N9 hx]at w;rw[w]
end Go.AX