/-
  Contracts: into a heap, and out of it.
  Contracts: a new heap.
-/
import Derived.Test.YtepodadinenmnaaGreatS14AxHpE
import Derived.Test.YtepodadinenmnaaGreatS14AxEvC
namespace Go.AX
set_option maxRecDepth 16000
open Go.Proofs
set_option linter.unusedSimpArgs false
theorem tv(l:List Int)(x:Int):af l++[[ae x]]=af (l++[x]):=by simp[af]
theorem Fo{q:HS}{v:Int}(h:rv q v=false):dV q v=(q,10):=by unfold dV;rw[N9 h]
theorem Cg{q:HS}{v:Int}(h:rv q v=true)(a:0<=q.pl.getD v.toNat 0):dV q v=(q,21):=by unfold dV;rw[N8 (by rw[h];simp),N9 a]
theorem Ch{q:HS}{v:Int}(h:rv q v=true)(a:¬0<=q.pl.getD v.toNat 0):dV q v=(⟨q.sc,(pg q.sc v q.row.length (q.row++[v]) q.pl).1,(pg q.sc v q.row.length (q.row++[v]) q.pl).2⟩,0):=by
 unfold dV;rw[N8 (by rw[h];simp),N8 a]
theorem Hx(h:List (List SV))(b:Nat)(q:HS)(m:h[b]?=some (ao q)){n:Nat}{M:Int}(g:HpG n M q)(hn:n<=100000)(v:Int):
 aB Tryz.prog 133 [.ptr b 0,ae v] h (λr h'=>r=.pv (ae (dV q v).2)∧h'=h.set b (ao (dV q v).1)):=by
 refine mo aG Tryz.func133 ?_;obtain⟨k,o⟩:=N5.1 m;have u:0<q.sc.length:=by rw[g.sl];omega
 have s:=AP q u v;have f:=uR q u (by rw[g.pll,g.sl]) v;generalize d:dV q v=PS;simp;rw[fN m];refine am.introP s ?_;unfold Hu;have t:=g.few;have j:h.set b (ao q)=h:=gi m;cases l:rv q v with
 |false=>
  have e:=d.symm.trans (Fo l);subst e;simp[j]
 |true=>
  rw[l]at f;obtain⟨A,i⟩:∃x,x=q.pl.getD v.toNat 0:=⟨_,rfl⟩;rw[←i]at f;simp;rw[fN m];refine am.introP f ?_
  by_cases c:0<=A
  .have e:=d.symm.trans (Cg l (by rw[←i];exact c));subst e;simp[c,j]
  .have e:=d.symm.trans (Ch l (by rw[←i];exact c));clear d;subst e;have y:=g.isV_iff.1 l;have hin:rO (q.row++[v]) q.pl.length:=λx hx=>by
    rw[g.pll];rcases Om.1 hx with hx|hx
    .exact g.inr x hx
    .simp at hx;omega
   have a:=Fh (h.set b (ao ⟨q.sc,q.row++[v],q.pl⟩)) b ⟨q.sc,q.row++[v],q.pl⟩ (fj k _) q.row.length (by simp) hin (by rw[g.pll,g.sl]) (by simp;omega);have p:(q.row++[v]).getD q.row.length 0=v:=by simp[N7]
   dsimp only at a;rw[p]at a;obtain⟨R,w⟩:∃R,pg q.sc v q.row.length (q.row++[v]) q.pl=R:=⟨_,rfl⟩;rw[w]at a⊢;have z:a8 (q.row.length:Int)=(q.row.length:Int):=ap (by omega) (by omega);simp only[ao]at a;simp[c,k,o,ao,tv,z];refine⟨by omega,am.intro a ?_⟩;rintro _ _ ⟨rfl,rfl⟩;simp
theorem yZ{q:HS}(h:bP q=0):eh q=(q,0):=by unfold eh;rw[N9 h]
theorem Ci{q:HS}(h:bP q≠0){w:Int}{L:Nat}(a:q.row.length=L+1)(c:q.row.getD L 0=w):
 eh q=(if 0<L then⟨q.sc,(dR q.sc (((q.row.set 0 w).take L).getD 0 0) L 0 ((q.row.set 0 w).take L) ((q.pl.set w.toNat 0).set (bP q).toNat (-1))).1,(dR q.sc (((q.row.set 0 w).take L).getD 0 0) L 0 ((q.row.set 0 w).take L) ((q.pl.set w.toNat 0).set (bP q).toNat (-1))).2⟩else⟨q.sc,(q.row.set 0 w).take L,(q.pl.set w.toNat 0).set (bP q).toNat (-1)⟩,bP q):=by
 unfold eh;rw[N8 h];have b:((q.row.set 0 w).take L).length=L:=by simp[a]
 simp only[a,Q7,c,b]
theorem Fp(h:List (List SV))(b:Nat)(q:HS)(B:h[b]?=some (ao q)){n:Nat}{M:Int}(g:HpG n M q)(hn:n<=100000):
 aB Tryz.prog 101 [.ptr b 0] h (λr h'=>r=.pv (ae (eh q).2)∧h'=h.set b (ao (eh q).1)):=by
 refine mo aG Tryz.func101 ?_;obtain⟨o,E⟩:=N5.1 B;have T:0<q.sc.length:=by rw[g.sl];omega
 have K:=Fg q T;generalize l:eh q=V;have P:=g.few;have H:h.set b (ao q)=h:=gi B;simp;rw[fN B];refine am.introP K ?_
 by_cases c:bP q=0
 .have e:=l.symm.trans (yZ c);subst e;simp[c,H]
 have J:q.row≠[]:=λh=>c (g.peek_zero.2 h);have S:0<q.row.length:=PF.2 J;obtain⟨L,A⟩:∃L,q.row.length=L+1:=⟨q.row.length -1,by omega⟩;have N:=g.inr _ (g.peek_mem c);obtain⟨w,O⟩:∃w,q.row.getD L 0=w:=⟨_,rfl⟩;have U:=g.inr w (by rw[←O];exact aU (by omega));have D:L<q.row.length:=by omega
 have G:q.row[L]=w:=by rw[←O];exact lD D
 have e:=l.symm.trans (Ci c A O);clear l;subst e;obtain⟨C,v⟩:=Pn (show 0<=bP q by omega);have u:bP q=(C:Int):=v;rw[u]at N⊢;have z:a8 (L:Int)=(L:Int):=ap (by omega) (by omega);obtain⟨a,i⟩:∃r,(q.row.set 0 w).take L=r:=⟨_,rfl⟩;obtain⟨d,p⟩:∃r,(q.pl.set w.toNat 0).set C (-1)=r:=⟨_,rfl⟩;rw[i,Pe,p];obtain⟨F,s⟩:∃F:HS,(if 0<L then⟨q.sc,(dR q.sc (a.getD 0 0) L 0 a d).1,(dR q.sc (a.getD 0 0) L 0 a d).2⟩else⟨q.sc,a,d⟩)=F:=⟨_,rfl⟩;rw[s];have k:=wP h b q B 0 w S (by rw[g.pll];omega);have y:C<q.pl.length:=by rw[g.pll];omega
 have c2:¬C=0:=by omega
 simp only[ao]at k;simp[o,E,ao,A,z,G,c2];refine⟨by omega,am.intro k ?_⟩;rintro _ _ ⟨rfl,rfl⟩;have m:List.take L (af (q.row.set 0 w))=af a:=by rw[BC,i]
 have I:a.length=L:=by rw[←i];simp[A]
 have j:d.length=n+1:=by rw[←p];simp[g.pll]
 have t:rO a d.length:=λx hx=>by
  rw[j];rw[←i]at hx;rcases PY (OX hx)with hx|hx
  .exact g.inr x hx
  .omega
 simp[o,A,z,y,m,g8,i,p];refine⟨by omega,λc3=>?_,λc3=>?_⟩
 .have f:=wR (h.set b (ao ⟨q.sc,a,d⟩)) b ⟨q.sc,a,d⟩ (fj o _) 0 (by dsimp only;omega) t (by dsimp only;rw[j,g.sl]) (by dsimp only;omega);dsimp only at f;rw[I]at f;rw[N9 c3]at s;obtain⟨R,Q⟩:∃R,dR q.sc (a.getD 0 0) L 0 a d=R:=⟨_,rfl⟩;rw[Q]at f s;simp only[ao]at f;refine am.intro f ?_;rintro _ _ ⟨rfl,rfl⟩;rw[←s];simp
 .rw[N8 (by omega)]at s;rw[←s]
end Go.AX
namespace Go.AX
open Go.Proofs
set_option linter.unusedSimpArgs false
def iF(i:Nat):List Int:=(List.range i).map λj=>((j+1:Nat):Int)
def gv(n i:Nat):List Int:=(List.range (n+1)).map λj=>if j<=i then((j -1:Nat):Int)else 0
theorem Cj{n i:Nat}(h:i<n):(gv n i).set (i+1) i=gv n (i+1):=by
 apply Qw
 .simp[gv]
 .intro j h1 b;rw[Su];simp only[gv,RN,Sb]
  by_cases e:i+1=j
  .subst e;simp
  .rw[N8 e]
   by_cases a:j<=i
   .rw[N9 a,N9 (by omega)]
   .rw[N8 a,N8 (by omega)]
theorem Cl(n:Nat):gv n n=(ma n).pl:=by
 apply Px;intro j;simp only[gv,ma];cases j with
 |zero=>simp
 |succ j=>
  rw[P8,Oq,Oq]
  by_cases c:j<n
  .simp[c];omega
  .simp[c]
theorem y8(n:Nat):gv n 0=List.replicate (n+1) 0:=by
 apply Qw
 .simp[gv]
 .intro j h1 a;simp only[gv,RN,Sb,List.getElem_replicate];split
  .rename_i c;have:j=0:=by omega
   subst this;rfl
  .rfl
theorem y9(n:Nat):List.replicate n [ae 0]=af (List.replicate n 0):=by simp[af]
set_option maxRecDepth 16000 in
theorem Hy(h:List (List SV))(vars:Int):
 aB Tryz.prog 64 [ae vars] h (λr h'=>if 0<=vars∧vars<=100000 then r=.pv (.tup [.ptr h.length 0,ae 0])∧h'=h++[ao (ma vars.toNat)]else r=.pv (.tup [.lit (.pointer none),ae 2])∧h'=h):=by
 refine Du [3] [2,3] aG Tryz.func64 (λ_ _=>results_tmp2 rfl _ _ _) ?_
 by_cases c:0<=vars∧vars<=100000
 rotate_left
 .have c2:vars<0∨100000<vars:=by omega
  rcases c2 with c2|c2
  .have c3:¬0<=vars:=by omega
   simp[c2,c3]
  .have c3:0<=vars:=by omega
   have c4:¬vars<=100000:=by omega
   have c5:¬vars<0:=by omega
   simp[c2,c3,c4,c5]
 .obtain⟨n,hn⟩:=Pn c.1;have e:vars=(n:Int):=hn;subst e;have c2:n<=100000:=by omega
  have c3:(n:Int)<=100000:=by omega
  have s:=fQ n;simp[c2,c3,s];refine aX.meet (.take 0 (.take 1 (.take 3 (.take 4 (.fork [(2,.fork [(5,.fork [(6,.fork [(7,.take 8 .done)])])]),(5,.fork [(2,.fork [(6,.fork [(7,.take 8 .done)])])])])))))
   ⟨[(0,.pv (ae n)),(4,.pv (.ptr h.length 0))],h++[[.own true 1 (af (List.replicate (n+1) 0)),.pv (.lit (.slice none 0 0)),.own true 1 (af (List.replicate (n+1) 0))]]⟩ (by kernel_rfl) ?_ ?_
  .simp[s];have hz:List.replicate (n+1) [ae 0]=af (List.replicate (n+1) 0):=y9 _;refine⟨⟨by omega,by omega,by omega,by omega,ai.keep (by simp) (by simp[←hz])⟩,by omega,by omega,by omega,by omega,ai.keep (by simp) (by simp[←hz])⟩
  .have q:h.length<(h++[[SV.own true 1 (af (List.replicate (n+1) 0)),.pv (.lit (.slice none 0 0)),.own true 1 (af (List.replicate (n+1) 0))]]).length:=by simp
   simp;refine aJ.intro (S:=λ(i:Nat)=>⟨[(0,.pv (ae n)),(4,.pv (.ptr h.length 0)),(5,.pv (ae ((i:Int)+1)))],h++[ao ⟨List.replicate (n+1) 0,iF i,gv n i⟩]⟩)
    (λi=>i<=n) (λi=>n -i) 0 ?_ ?_ ?_
   .refine(ai.nilCell (b:=h.length) (k:=1) (xs:=[SV.own true 1 (af (List.replicate (n+1) 0)),.pv (.lit (.slice none 0 0)),.own true 1 (af (List.replicate (n+1) 0))]) 1 true (by simp) (by simp)).trans (ai.keep (by simp) ?_);simp[ao,iF,y8,af]
   .omega
   .intro i hi
    by_cases c4:i<n
    .have o:a8 ((i:Int)+1)=(i:Int)+1:=ap (by omega) (by omega);have p:a8 ((i:Int)+1+1)=(i:Int)+1+1:=ap (by omega) (by omega);have g:i+1<(gv n i).length:=by simp[gv];omega
     have a:(i:Int)+1<(gv n i).length:=by simp[gv];omega
     have hle:(i:Int)+1<=n:=by omega
     have l:(iF i).length=i:=by simp[iF]
     have m:((i:Int)+1).toNat=i+1:=by omega
     simp[ao,hle,g,a,o,l,m];have j:af (iF i)++[[ae ((i:Int)+1)]]=af (iF (i+1)):=by
      rw[tv];simp[iF,QV]
     have f:(af (gv n i)).set (i+1) [ae (i:Int)]=af (gv n (i+1)):=by rw[g8,Cj c4]
     refine⟨by omega,by omega,i+1,by dsimp only;omega,by dsimp only;omega,ai.keep ?_ ?_⟩
     .simp[p]
     .simp[j,f]
    .have d:i=n:=by omega
     subst d;have hle:¬(i:Int)+1<=i:=by omega
     simp[hle];simp[ma,Cl,iF,ao]
end Go.AX