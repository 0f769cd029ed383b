/-
  Contracts: into a heap, and out of it.
  Contracts: a new heap.
-/
import Derived.Test.YtepodadinenmnaaGreatS14AxDfD
import Derived.Test.YtepodadinenmnaaGreatS14AxEvC
namespace Go.AX
set_option maxRecDepth 16000
open Go.Proofs
set_option linter.unusedSimpArgs false
theorem vN(l:List Int)(x:Int):aa l++[[ae x]]=aa (l++[x]):=by simp[aa]
theorem Je{q:HS}{v:Int}(h:tE q v=false):eC q v=(q,10):=by unfold eC;rw[Rx h]
theorem FJ{q:HS}{v:Int}(h:tE q v=true)(a:0<=q.pl.getD v.toNat 0):eC q v=(q,21):=by unfold eC;rw[Rw (by rw[h];simp),Rx a]
theorem FK{q:HS}{v:Int}(h:tE q v=true)(a:¬0<=q.pl.getD v.toNat 0):eC q v=(⟨q.sc,(qQ q.sc v q.row.length (q.row++[v]) q.pl).1,(qQ q.sc v q.row.length (q.row++[v]) q.pl).2⟩,0):=by
 unfold eC;rw[Rw (by rw[h];simp),Rw a]
theorem Lk(h:List (List SV))(b:Nat)(q:HS)(m:h[b]?=some (au q)){n:Nat}{M:Int}(g:HpG n M q)(hn:n<=100000)(v:Int):
 aB Tryz.prog 133 [.ptr b 0,ae v] h (λr h'=>r=.pv (ae (eC q v).2)∧h'=h.set b (au (eC q v).1)):=by
 refine nz aE Tryz.func133 ?_;obtain⟨k,o⟩:=Rt.1 m;have u:0<q.sc.length:=by rw[g.sl];omega
 have s:=DO q u v;have f:=xy q u (by rw[g.pll,g.sl]) v;generalize d:eC q v=PS;simp;rw[gC m];refine aj.introP s ?_;unfold Lh;have t:=g.few;have j:h.set b (au q)=h:=gX m;cases l:tE q v with
 |false=>
  have e:=d.symm.trans (Je l);subst e;simp[j]
 |true=>
  rw[l]at f;obtain⟨A,i⟩:∃x,x=q.pl.getD v.toNat 0:=⟨_,rfl⟩;rw[←i]at f;simp;rw[gC m];refine aj.introP f ?_
  by_cases c:0<=A
  .have e:=d.symm.trans (FJ l (by rw[←i];exact c));subst e;simp[c,j]
  .have e:=d.symm.trans (FK l (by rw[←i];exact c));clear d;subst e;have y:=g.isV_iff.1 l;have hin:uc (q.row++[v]) q.pl.length:=λx hx=>by
    rw[g.pll];rcases RI.1 hx with hx|hx
    .exact g.inr x hx
    .simp at hx;omega
   have a:=I8 (h.set b (au ⟨q.sc,q.row++[v],q.pl⟩)) b ⟨q.sc,q.row++[v],q.pl⟩ (ga k _) q.row.length (by simp) hin (by rw[g.pll,g.sl]) (by simp;omega);have p:(q.row++[v]).getD q.row.length 0=v:=by simp[Rv]
   dsimp only at a;rw[p]at a;obtain⟨R,w⟩:∃R,qQ q.sc v q.row.length (q.row++[v]) q.pl=R:=⟨_,rfl⟩;rw[w]at a⊢;have z:aS (q.row.length:Int)=(q.row.length:Int):=ap (by omega) (by omega);simp only[au]at a;simp[c,k,o,au,vN,z];refine⟨by omega,aj.intro a ?_⟩;rintro _ _ ⟨rfl,rfl⟩;simp
theorem Ce{q:HS}(h:b9 q=0):fl q=(q,0):=by unfold fl;rw[Rx h]
theorem FL{q:HS}(h:b9 q≠0){w:Int}{L:Nat}(a:q.row.length=L+1)(c:q.row.getD L 0=w):
 fl q=(if 0<L then⟨q.sc,(ez q.sc (((q.row.set 0 w).take L).getD 0 0) L 0 ((q.row.set 0 w).take L) ((q.pl.set w.toNat 0).set (b9 q).toNat (-1))).1,(ez q.sc (((q.row.set 0 w).take L).getD 0 0) L 0 ((q.row.set 0 w).take L) ((q.pl.set w.toNat 0).set (b9 q).toNat (-1))).2⟩else⟨q.sc,(q.row.set 0 w).take L,(q.pl.set w.toNat 0).set (b9 q).toNat (-1)⟩,b9 q):=by
 unfold fl;rw[Rw h];have b:((q.row.set 0 w).take L).length=L:=by simp[a]
 simp only[a,UN,c,b]
theorem Jg(h:List (List SV))(b:Nat)(q:HS)(B:h[b]?=some (au q)){n:Nat}{M:Int}(g:HpG n M q)(hn:n<=100000):
 aB Tryz.prog 101 [.ptr b 0] h (λr h'=>r=.pv (ae (fl q).2)∧h'=h.set b (au (fl q).1)):=by
 refine nz aE Tryz.func101 ?_;obtain⟨o,E⟩:=Rt.1 B;have T:0<q.sc.length:=by rw[g.sl];omega
 have K:=I7 q T;generalize l:fl q=V;have P:=g.few;have H:h.set b (au q)=h:=gX B;simp;rw[gC B];refine aj.introP K ?_
 by_cases c:b9 q=0
 .have e:=l.symm.trans (Ce c);subst e;simp[c,H]
 have J:q.row≠[]:=λh=>c (g.peek_zero.2 h);have S:0<q.row.length:=Td.2 J;obtain⟨L,A⟩:∃L,q.row.length=L+1:=⟨q.row.length -1,by omega⟩;have N:=g.inr _ (g.peek_mem c);obtain⟨w,O⟩:∃w,q.row.getD L 0=w:=⟨_,rfl⟩;have U:=g.inr w (by rw[←O];exact bi (by omega));have D:L<q.row.length:=by omega
 have G:q.row[L]=w:=by rw[←O];exact mL D
 have e:=l.symm.trans (FL c A O);clear l;subst e;obtain⟨C,v⟩:=S6 (show 0<=b9 q by omega);have u:b9 q=(C:Int):=v;rw[u]at N⊢;have z:aS (L:Int)=(L:Int):=ap (by omega) (by omega);obtain⟨a,i⟩:∃r,(q.row.set 0 w).take L=r:=⟨_,rfl⟩;obtain⟨d,p⟩:∃r,(q.pl.set w.toNat 0).set C (-1)=r:=⟨_,rfl⟩;rw[i,SF,p];obtain⟨F,s⟩:∃F:HS,(if 0<L then⟨q.sc,(ez q.sc (a.getD 0 0) L 0 a d).1,(ez q.sc (a.getD 0 0) L 0 a d).2⟩else⟨q.sc,a,d⟩)=F:=⟨_,rfl⟩;rw[s];have k:=zN h b q B 0 w S (by rw[g.pll];omega);have y:C<q.pl.length:=by rw[g.pll];omega
 have c2:¬C=0:=by omega
 simp only[au]at k;simp[o,E,au,A,z,G,c2];refine⟨by omega,aj.intro k ?_⟩;rintro _ _ ⟨rfl,rfl⟩;have m:List.take L (aa (q.row.set 0 w))=aa a:=by rw[EE,i]
 have I:a.length=L:=by rw[←i];simp[A]
 have j:d.length=n+1:=by rw[←p];simp[g.pll]
 have t:uc a d.length:=λx hx=>by
  rw[j];rw[←i]at hx;rcases TE (Sl hx)with hx|hx
  .exact g.inr x hx
  .omega
 simp[o,A,z,y,m,iR,i,p];refine⟨by omega,λc3=>?_,λc3=>?_⟩
 .have f:=zP (h.set b (au ⟨q.sc,a,d⟩)) b ⟨q.sc,a,d⟩ (ga o _) 0 (by dsimp only;omega) t (by dsimp only;rw[j,g.sl]) (by dsimp only;omega);dsimp only at f;rw[I]at f;rw[Rx c3]at s;obtain⟨R,Q⟩:∃R,ez q.sc (a.getD 0 0) L 0 a d=R:=⟨_,rfl⟩;rw[Q]at f s;simp only[au]at f;refine aj.intro f ?_;rintro _ _ ⟨rfl,rfl⟩;rw[←s];simp
 .rw[Rw (by omega)]at s;rw[←s]
end Go.AX
namespace Go.AX
open Go.Proofs
set_option linter.unusedSimpArgs false
def jB(i:Nat):List Int:=(List.range i).map λj=>((j+1:Nat):Int)
def ij(n i:Nat):List Int:=(List.range (n+1)).map λj=>if j<=i then((j -1:Nat):Int)else 0
theorem FM{n i:Nat}(h:i<n):(ij n i).set (i+1) i=ij n (i+1):=by
 apply T6
 .simp[ij]
 .intro j h1 b;rw[V0];simp only[ij,Vq,VN]
  by_cases e:i+1=j
  .subst e;simp
  .rw[Rw e]
   by_cases a:j<=i
   .rw[Rx a,Rx (by omega)]
   .rw[Rw a,Rw (by omega)]
theorem FN(n:Nat):ij n n=(nk n).pl:=by
 apply Ta;intro j;simp only[ij,nk];cases j with
 |zero=>simp
 |succ j=>
  rw[Tk,RS,RS]
  by_cases c:j<n
  .simp[c];omega
  .simp[c]
theorem Cf(n:Nat):ij n 0=List.replicate (n+1) 0:=by
 apply T6
 .simp[ij]
 .intro j h1 a;simp only[ij,Vq,VN,List.getElem_replicate];split
  .rename_i c;have:j=0:=by omega
   subst this;rfl
  .rfl
theorem Cg(n:Nat):List.replicate n [ae 0]=aa (List.replicate n 0):=by simp[aa]
set_option maxRecDepth 16000 in
theorem Ll(h:List (List SV))(vars:Int):
 aB Tryz.prog 64 [ae vars] h (λr h'=>if 0<=vars∧vars<=100000 then r=.pv (.tup [.ptr h.length 0,ae 0])∧h'=h++[au (nk vars.toNat)]else r=.pv (.tup [.lit (.pointer none),ae 2])∧h'=h):=by
 refine G8 [3] [2,3] aE Tryz.func64 (λ_ _=>results_tmp2 rfl _ _ _) ?_
 by_cases c:0<=vars∧vars<=100000
 rotate_left
 .have c2:vars<0∨100000<vars:=by omega
  rcases c2 with c2|c2
  .have c3:¬0<=vars:=by omega
   simp[c2,c3]
  .have c3:0<=vars:=by omega
   have c4:¬vars<=100000:=by omega
   have c5:¬vars<0:=by omega
   simp[c2,c3,c4,c5]
 .obtain⟨n,hn⟩:=S6 c.1;have e:vars=(n:Int):=hn;subst e;have c2:n<=100000:=by omega
  have c3:(n:Int)<=100000:=by omega
  have s:=dr n;simp[c2,c3,s];refine aQ.meet (.take 0 (.take 1 (.take 3 (.take 4 (.fork [(2,.fork [(5,.fork [(6,.fork [(7,.take 8 .done)])])]),(5,.fork [(2,.fork [(6,.fork [(7,.take 8 .done)])])])])))))
   ⟨[(0,.pv (ae n)),(4,.pv (.ptr h.length 0))],h++[[.own true 1 (aa (List.replicate (n+1) 0)),.pv (.lit (.slice none 0 0)),.own true 1 (aa (List.replicate (n+1) 0))]]⟩ (by kernel_rfl) ?_ ?_
  .simp[s];have hz:List.replicate (n+1) [ae 0]=aa (List.replicate (n+1) 0):=Cg _;refine⟨⟨by omega,by omega,by omega,by omega,ah.keep (by simp) (by simp[←hz])⟩,by omega,by omega,by omega,by omega,ah.keep (by simp) (by simp[←hz])⟩
  .have q:h.length<(h++[[SV.own true 1 (aa (List.replicate (n+1) 0)),.pv (.lit (.slice none 0 0)),.own true 1 (aa (List.replicate (n+1) 0))]]).length:=by simp
   simp;refine aw.intro (S:=λ(i:Nat)=>⟨[(0,.pv (ae n)),(4,.pv (.ptr h.length 0)),(5,.pv (ae ((i:Int)+1)))],h++[au ⟨List.replicate (n+1) 0,jB i,ij n i⟩]⟩)
    (λi=>i<=n) (λi=>n -i) 0 ?_ ?_ ?_
   .refine(ah.nilCell (b:=h.length) (k:=1) (xs:=[SV.own true 1 (aa (List.replicate (n+1) 0)),.pv (.lit (.slice none 0 0)),.own true 1 (aa (List.replicate (n+1) 0))]) 1 true (by simp) (by simp)).trans (ah.keep (by simp) ?_);simp[au,jB,Cf,aa]
   .omega
   .intro i hi
    by_cases c4:i<n
    .have o:aS ((i:Int)+1)=(i:Int)+1:=ap (by omega) (by omega);have p:aS ((i:Int)+1+1)=(i:Int)+1+1:=ap (by omega) (by omega);have g:i+1<(ij n i).length:=by simp[ij];omega
     have a:(i:Int)+1<(ij n i).length:=by simp[ij];omega
     have hle:(i:Int)+1<=n:=by omega
     have l:(jB i).length=i:=by simp[jB]
     have m:((i:Int)+1).toNat=i+1:=by omega
     simp[au,hle,g,a,o,l,m];have j:aa (jB i)++[[ae ((i:Int)+1)]]=aa (jB (i+1)):=by
      rw[vN];simp[jB,Ur]
     have f:(aa (ij n i)).set (i+1) [ae (i:Int)]=aa (ij n (i+1)):=by rw[iR,FM c4]
     refine⟨by omega,by omega,i+1,by dsimp only;omega,by dsimp only;omega,ah.keep ?_ ?_⟩
     .simp[p]
     .simp[j,f]
    .have d:i=n:=by omega
     subst d;have hle:¬(i:Int)+1<=i:=by omega
     simp[hle];simp[nk,FN,jB,au]
end Go.AX