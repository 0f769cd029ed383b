/-
  Contracts: into a heap, and out of it.
  Contracts: a new heap.
-/
import Derived.Test.YtepodadinenmnaaGreatS14AxDfD
import Derived.Test.YtepodadinenmnaaGreatS14AxEvC
namespace Go.AX
set_option maxRecDepth 16000
open Go.Proofs
set_option linter.unusedSimpArgs false
theorem vR(l:List Int)(x:Int):aa l++[[ae x]]=aa (l++[x]):=by simp[aa]
theorem Jo{q:HS}{v:Int}(h:tQ q v=false):eG q v=(q,10):=by unfold eG;rw[RI h]
theorem FT{q:HS}{v:Int}(h:tQ q v=true)(a:0<=q.pl.getD v.toNat 0):eG q v=(q,21):=by unfold eG;rw[RH (by rw[h];simp),RI a]
theorem FU{q:HS}{v:Int}(h:tQ q v=true)(a:¬0<=q.pl.getD v.toNat 0):eG q v=(⟨q.sc,(qV q.sc v q.row.length (q.row++[v]) q.pl).1,(qV q.sc v q.row.length (q.row++[v]) q.pl).2⟩,0):=by
 unfold eG;rw[RH (by rw[h];simp),RH a]
theorem Lw(h:List (List SV))(b:Nat)(q:HS)(m:h[b]?=some (au q)){n:Nat}{M:Int}(g:HpG n M q)(hn:n<=100000)(v:Int):
 aB Tryz.prog 133 [.ptr b 0,ae v] h (λr h'=>r=.pv (ae (eG q v).2)∧h'=h.set b (au (eG q v).1)):=by
 refine nC aE Tryz.func133 ?_;obtain⟨k,o⟩:=RE.1 m;have u:0<q.sc.length:=by rw[g.sl];omega
 have s:=DY q u v;have f:=xE q u (by rw[g.pll,g.sl]) v;generalize d:eG q v=PS;simp;rw[gF m];refine aj.introP s ?_;unfold Lt;have t:=g.few;have j:h.set b (au q)=h:=gX m;cases l:tQ q v with
 |false=>
  have e:=d.symm.trans (Jo l);subst e;simp[j]
 |true=>
  rw[l]at f;obtain⟨A,i⟩:∃x,x=q.pl.getD v.toNat 0:=⟨_,rfl⟩;rw[←i]at f;simp;rw[gF m];refine aj.introP f ?_
  by_cases c:0<=A
  .have e:=d.symm.trans (FT l (by rw[←i];exact c));subst e;simp[c,j]
  .have e:=d.symm.trans (FU l (by rw[←i];exact c));clear d;subst e;have y:=g.isV_iff.1 l;have hin:uh (q.row++[v]) q.pl.length:=λx hx=>by
    rw[g.pll];rcases RS.1 hx with hx|hx
    .exact g.inr x hx
    .simp at hx;omega
   have a:=Ji (h.set b (au ⟨q.sc,q.row++[v],q.pl⟩)) b ⟨q.sc,q.row++[v],q.pl⟩ (gg k _) q.row.length (by simp) hin (by rw[g.pll,g.sl]) (by simp;omega);have p:(q.row++[v]).getD q.row.length 0=v:=by simp[RG]
   dsimp only at a;rw[p]at a;obtain⟨R,w⟩:∃R,qV q.sc v q.row.length (q.row++[v]) q.pl=R:=⟨_,rfl⟩;rw[w]at a⊢;have z:aR (q.row.length:Int)=(q.row.length:Int):=ap (by omega) (by omega);simp only[au]at a;simp[c,k,o,au,vR,z];refine⟨by omega,aj.intro a ?_⟩;rintro _ _ ⟨rfl,rfl⟩;simp
theorem Cp{q:HS}(h:cb q=0):fq q=(q,0):=by unfold fq;rw[RI h]
theorem FV{q:HS}(h:cb q≠0){w:Int}{L:Nat}(a:q.row.length=L+1)(c:q.row.getD L 0=w):
 fq q=(if 0<L then⟨q.sc,(eD q.sc (((q.row.set 0 w).take L).getD 0 0) L 0 ((q.row.set 0 w).take L) ((q.pl.set w.toNat 0).set (cb q).toNat (-1))).1,(eD q.sc (((q.row.set 0 w).take L).getD 0 0) L 0 ((q.row.set 0 w).take L) ((q.pl.set w.toNat 0).set (cb q).toNat (-1))).2⟩else⟨q.sc,(q.row.set 0 w).take L,(q.pl.set w.toNat 0).set (cb q).toNat (-1)⟩,cb q):=by
 unfold fq;rw[RH h];have b:((q.row.set 0 w).take L).length=L:=by simp[a]
 simp only[a,UX,c,b]
theorem Jp(h:List (List SV))(b:Nat)(q:HS)(B:h[b]?=some (au q)){n:Nat}{M:Int}(g:HpG n M q)(hn:n<=100000):
 aB Tryz.prog 101 [.ptr b 0] h (λr h'=>r=.pv (ae (fq q).2)∧h'=h.set b (au (fq q).1)):=by
 refine nC aE Tryz.func101 ?_;obtain⟨o,E⟩:=RE.1 B;have T:0<q.sc.length:=by rw[g.sl];omega
 have K:=Jh q T;generalize l:fq q=V;have P:=g.few;have H:h.set b (au q)=h:=gX B;simp;rw[gF B];refine aj.introP K ?_
 by_cases c:cb q=0
 .have e:=l.symm.trans (Cp c);subst e;simp[c,H]
 have J:q.row≠[]:=λh=>c (g.peek_zero.2 h);have S:0<q.row.length:=To.2 J;obtain⟨L,A⟩:∃L,q.row.length=L+1:=⟨q.row.length -1,by omega⟩;have N:=g.inr _ (g.peek_mem c);obtain⟨w,O⟩:∃w,q.row.getD L 0=w:=⟨_,rfl⟩;have U:=g.inr w (by rw[←O];exact bi (by omega));have D:L<q.row.length:=by omega
 have G:q.row[L]=w:=by rw[←O];exact mO D
 have e:=l.symm.trans (FV c A O);clear l;subst e;obtain⟨C,v⟩:=Te (show 0<=cb q by omega);have u:cb q=(C:Int):=v;rw[u]at N⊢;have z:aR (L:Int)=(L:Int):=ap (by omega) (by omega);obtain⟨a,i⟩:∃r,(q.row.set 0 w).take L=r:=⟨_,rfl⟩;obtain⟨d,p⟩:∃r,(q.pl.set w.toNat 0).set C (-1)=r:=⟨_,rfl⟩;rw[i,SQ,p];obtain⟨F,s⟩:∃F:HS,(if 0<L then⟨q.sc,(eD q.sc (a.getD 0 0) L 0 a d).1,(eD q.sc (a.getD 0 0) L 0 a d).2⟩else⟨q.sc,a,d⟩)=F:=⟨_,rfl⟩;rw[s];have k:=zT h b q B 0 w S (by rw[g.pll];omega);have y:C<q.pl.length:=by rw[g.pll];omega
 have c2:¬C=0:=by omega
 simp only[au]at k;simp[o,E,au,A,z,G,c2];refine⟨by omega,aj.intro k ?_⟩;rintro _ _ ⟨rfl,rfl⟩;have m:List.take L (aa (q.row.set 0 w))=aa a:=by rw[EU,i]
 have I:a.length=L:=by rw[←i];simp[A]
 have j:d.length=n+1:=by rw[←p];simp[g.pll]
 have t:uh a d.length:=λx hx=>by
  rw[j];rw[←i]at hx;rcases TP (Sx hx)with hx|hx
  .exact g.inr x hx
  .omega
 simp[o,A,z,y,m,iU,i,p];refine⟨by omega,λc3=>?_,λc3=>?_⟩
 .have f:=zV (h.set b (au ⟨q.sc,a,d⟩)) b ⟨q.sc,a,d⟩ (gg o _) 0 (by dsimp only;omega) t (by dsimp only;rw[j,g.sl]) (by dsimp only;omega);dsimp only at f;rw[I]at f;rw[RI c3]at s;obtain⟨R,Q⟩:∃R,eD q.sc (a.getD 0 0) L 0 a d=R:=⟨_,rfl⟩;rw[Q]at f s;simp only[au]at f;refine aj.intro f ?_;rintro _ _ ⟨rfl,rfl⟩;rw[←s];simp
 .rw[RH (by omega)]at s;rw[←s]
end Go.AX
namespace Go.AX
open Go.Proofs
set_option linter.unusedSimpArgs false
def jE(i:Nat):List Int:=(List.range i).map λj=>((j+1:Nat):Int)
def ik(n i:Nat):List Int:=(List.range (n+1)).map λj=>if j<=i then((j -1:Nat):Int)else 0
theorem FW{n i:Nat}(h:i<n):(ik n i).set (i+1) i=ik n (i+1):=by
 apply Uh
 .simp[ik]
 .intro j h1 b;rw[Wa];simp only[ik,VB,VX]
  by_cases e:i+1=j
  .subst e;simp
  .rw[RH e]
   by_cases a:j<=i
   .rw[RI a,RI (by omega)]
   .rw[RH a,RH (by omega)]
theorem FX(n:Nat):ik n n=(nq n).pl:=by
 apply Tl;intro j;simp only[ik,nq];cases j with
 |zero=>simp
 |succ j=>
  rw[Tw,R3,R3]
  by_cases c:j<n
  .simp[c];omega
  .simp[c]
theorem Cq(n:Nat):ik n 0=List.replicate (n+1) 0:=by
 apply Uh
 .simp[ik]
 .intro j h1 a;simp only[ik,VB,VX,List.getElem_replicate];split
  .rename_i c;have:j=0:=by omega
   subst this;rfl
  .rfl
theorem Cr(n:Nat):List.replicate n [ae 0]=aa (List.replicate n 0):=by simp[aa]
set_option maxRecDepth 16000 in
theorem Lx(h:List (List SV))(vars:Int):
 aB Tryz.prog 64 [ae vars] h (λr h'=>if 0<=vars∧vars<=100000 then r=.pv (.tup [.ptr h.length 0,ae 0])∧h'=h++[au (nq vars.toNat)]else r=.pv (.tup [.lit (.pointer none),ae 2])∧h'=h):=by
 refine Hh [3] [2,3] aE Tryz.func64 (λ_ _=>results_tmp2 rfl _ _ _) ?_
 by_cases c:0<=vars∧vars<=100000
 rotate_left
 .have c2:vars<0∨100000<vars:=by omega
  rcases c2 with c2|c2
  .have c3:¬0<=vars:=by omega
   simp[c2,c3]
  .have c3:0<=vars:=by omega
   have c4:¬vars<=100000:=by omega
   have c5:¬vars<0:=by omega
   simp[c2,c3,c4,c5]
 .obtain⟨n,hn⟩:=Te c.1;have e:vars=(n:Int):=hn;subst e;have c2:n<=100000:=by omega
  have c3:(n:Int)<=100000:=by omega
  have s:=dq n;simp[c2,c3,s];refine aQ.meet (.take 0 (.take 1 (.take 3 (.take 4 (.fork [(2,.fork [(5,.fork [(6,.fork [(7,.take 8 .done)])])]),(5,.fork [(2,.fork [(6,.fork [(7,.take 8 .done)])])])])))))
   ⟨[(0,.pv (ae n)),(4,.pv (.ptr h.length 0))],h++[[.own true 1 (aa (List.replicate (n+1) 0)),.pv (.lit (.slice none 0 0)),.own true 1 (aa (List.replicate (n+1) 0))]]⟩ (by kernel_rfl) ?_ ?_
  .simp[s];have hz:List.replicate (n+1) [ae 0]=aa (List.replicate (n+1) 0):=Cr _;refine⟨⟨by omega,by omega,by omega,by omega,af.keep (by simp) (by simp[←hz])⟩,by omega,by omega,by omega,by omega,af.keep (by simp) (by simp[←hz])⟩
  .have q:h.length<(h++[[SV.own true 1 (aa (List.replicate (n+1) 0)),.pv (.lit (.slice none 0 0)),.own true 1 (aa (List.replicate (n+1) 0))]]).length:=by simp
   simp;refine av.intro (S:=λ(i:Nat)=>⟨[(0,.pv (ae n)),(4,.pv (.ptr h.length 0)),(5,.pv (ae ((i:Int)+1)))],h++[au ⟨List.replicate (n+1) 0,jE i,ik n i⟩]⟩)
    (λi=>i<=n) (λi=>n -i) 0 ?_ ?_ ?_
   .refine(af.nilCell (b:=h.length) (k:=1) (xs:=[SV.own true 1 (aa (List.replicate (n+1) 0)),.pv (.lit (.slice none 0 0)),.own true 1 (aa (List.replicate (n+1) 0))]) 1 true (by simp) (by simp)).trans (af.keep (by simp) ?_);simp[au,jE,Cq,aa]
   .omega
   .intro i hi
    by_cases c4:i<n
    .have o:aR ((i:Int)+1)=(i:Int)+1:=ap (by omega) (by omega);have p:aR ((i:Int)+1+1)=(i:Int)+1+1:=ap (by omega) (by omega);have g:i+1<(ik n i).length:=by simp[ik];omega
     have a:(i:Int)+1<(ik n i).length:=by simp[ik];omega
     have hle:(i:Int)+1<=n:=by omega
     have l:(jE i).length=i:=by simp[jE]
     have m:((i:Int)+1).toNat=i+1:=by omega
     simp[au,hle,g,a,o,l,m];have j:aa (jE i)++[[ae ((i:Int)+1)]]=aa (jE (i+1)):=by
      rw[vR];simp[jE,Uq]
     have f:(aa (ik n i)).set (i+1) [ae (i:Int)]=aa (ik n (i+1)):=by rw[iU,FW c4]
     refine⟨by omega,by omega,i+1,by dsimp only;omega,by dsimp only;omega,af.keep ?_ ?_⟩
     .simp[p]
     .simp[j,f]
    .have d:i=n:=by omega
     subst d;have hle:¬(i:Int)+1<=i:=by omega
     simp[hle];simp[nq,FX,jE,au]
end Go.AX