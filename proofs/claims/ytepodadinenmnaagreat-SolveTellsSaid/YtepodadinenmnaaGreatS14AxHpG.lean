/-
  Contracts: into a heap, and out of it; and what follows.
-/
import Derived.Test.YtepodadinenmnaaGreatS14AxDfD
import Derived.Test.YtepodadinenmnaaGreatS14AxEvC
set_option linter.unusedSimpArgs false
namespace Go.AX
set_option maxRecDepth 16000
open Go.Proofs
theorem wz(l:List Int)(x:Int):ae l++[[ab x]]=ae (l++[x]):=by simp[ae]
theorem Kg{q:HS}{v:Int}(h:um q v=false):eq q v=(q,10):=by unfold eq;rw[SX h]
theorem GE{q:HS}{v:Int}(h:um q v=true)(a:0<=q.pl.getD v.toNat 0):eq q v=(q,21):=by unfold eq;rw[SU (by rw[h];simp),SX a]
theorem GF{q:HS}{v:Int}(h:um q v=true)(a:¬0<=q.pl.getD v.toNat 0):eq q v=(⟨q.sc,(rq q.sc v q.row.length (q.row++[v]) q.pl).1,(rq q.sc v q.row.length (q.row++[v]) q.pl).2⟩,0):=by
 unfold eq;rw[SU (by rw[h];simp),SU a]
theorem MC(h:List (List SV))(b:Nat)(q:HS)(m:h[b]?=some (au q)){n:Nat}{M:Int}(g:HpG n M q)(hn:n<=100000)(v:Int):
 aA Tryz.prog 133 [.ptr b 0,ab v] h (λr h'=>r=.pv (ab (eq q v).2)∧h'=h.set b (au (eq q v).1)):=by
 refine mF aD Tryz.func133 ?_;obtain⟨k,o⟩:=SQ.1 m;have u:0<q.sc.length:=by rw[g.sl];omega
 have s:=EE q u v;have f:=ya q u (by rw[g.pll,g.sl]) v;generalize d:eq q v=PS;simp;rw[gG m];refine am.introP s ?_;unfold Mz;have t:=g.few;have j:h.set b (au q)=h:=g8 m;cases l:um q v with
 |false=>
  have e:=d.symm.trans (Kg l);subst e;simp[j]
 |true=>
  rw[l]at f;obtain⟨A,i⟩:∃x,x=q.pl.getD v.toNat 0:=⟨_,rfl⟩;rw[←i]at f;simp;rw[gG m];refine am.introP f ?_
  by_cases c:0<=A
  .have e:=d.symm.trans (GE l (by rw[←i];exact c));subst e;simp[c,j]
  .have e:=d.symm.trans (GF l (by rw[←i];exact c));clear d;subst e;have y:=g.isV_iff.1 l;have hin:uG (q.row++[v]) q.pl.length:=λx hx=>by
    rw[g.pll];rcases Te.1 hx with hx|hx
    .exact g.inr x hx
    .simp at hx;omega
   have a:=Ka (h.set b (au ⟨q.sc,q.row++[v],q.pl⟩)) b ⟨q.sc,q.row++[v],q.pl⟩ (gd k _) q.row.length (by simp) hin (by rw[g.pll,g.sl]) (by simp;omega);have p:(q.row++[v]).getD q.row.length 0=v:=by simp[SS]
   dsimp only at a;rw[p]at a;obtain⟨R,w⟩:∃R,rq q.sc v q.row.length (q.row++[v]) q.pl=R:=⟨_,rfl⟩;rw[w]at a⊢;have z:aX (q.row.length:Int)=(q.row.length:Int):=ao (by omega) (by omega);simp only[au]at a;simp[c,k,o,au,wz,z];refine⟨by omega,am.intro a ?_⟩;rintro _ _ ⟨rfl,rfl⟩;simp
theorem CS{q:HS}(h:b7 q=0):fk q=(q,0):=by unfold fk;rw[SX h]
theorem GG{q:HS}(h:b7 q≠0){w:Int}{L:Nat}(a:q.row.length=L+1)(c:q.row.getD L 0=w):
 fk q=(if 0<L then⟨q.sc,(eh q.sc (((q.row.set 0 w).take L).getD 0 0) L 0 ((q.row.set 0 w).take L) ((q.pl.set w.toNat 0).set (b7 q).toNat (-1))).1,(eh q.sc (((q.row.set 0 w).take L).getD 0 0) L 0 ((q.row.set 0 w).take L) ((q.pl.set w.toNat 0).set (b7 q).toNat (-1))).2⟩else⟨q.sc,(q.row.set 0 w).take L,(q.pl.set w.toNat 0).set (b7 q).toNat (-1)⟩,b7 q):=by
 unfold fk;rw[SU h];have b:((q.row.set 0 w).take L).length=L:=by simp[a]
 simp only[a,VQ,c,b]
theorem Kh(h:List (List SV))(b:Nat)(q:HS)(B:h[b]?=some (au q)){n:Nat}{M:Int}(g:HpG n M q)(hn:n<=100000):
 aA Tryz.prog 101 [.ptr b 0] h (λr h'=>r=.pv (ab (fk q).2)∧h'=h.set b (au (fk q).1)):=by
 refine mF aD Tryz.func101 ?_;obtain⟨o,E⟩:=SQ.1 B;have T:0<q.sc.length:=by rw[g.sl];omega
 have K:=J9 q T;generalize l:fk q=V;have P:=g.few;have H:h.set b (au q)=h:=g8 B;simp;rw[gG B];refine am.introP K ?_
 by_cases c:b7 q=0
 .have e:=l.symm.trans (CS c);subst e;simp[c,H]
 have J:q.row≠[]:=λh=>c (g.peek_zero.2 h);have S:0<q.row.length:=UG.2 J;obtain⟨L,A⟩:∃L,q.row.length=L+1:=⟨q.row.length -1,by omega⟩;have N:=g.inr _ (g.peek_mem c);obtain⟨w,O⟩:∃w,q.row.getD L 0=w:=⟨_,rfl⟩;have U:=g.inr w (by rw[←O];exact bj (by omega));have D:L<q.row.length:=by omega
 have G:q.row[L]=w:=by rw[←O];exact m6 D
 have e:=l.symm.trans (GG c A O);clear l;subst e;obtain⟨C,v⟩:=Uo (show 0<=b7 q by omega);have u:b7 q=(C:Int):=v;rw[u]at N⊢;have z:aX (L:Int)=(L:Int):=ao (by omega) (by omega);obtain⟨a,i⟩:∃r,(q.row.set 0 w).take L=r:=⟨_,rfl⟩;obtain⟨d,p⟩:∃r,(q.pl.set w.toNat 0).set C (-1)=r:=⟨_,rfl⟩;rw[i,Uc,p];obtain⟨F,s⟩:∃F:HS,(if 0<L then⟨q.sc,(eh q.sc (a.getD 0 0) L 0 a d).1,(eh q.sc (a.getD 0 0) L 0 a d).2⟩else⟨q.sc,a,d⟩)=F:=⟨_,rfl⟩;rw[s];have k:=Au h b q B 0 w S (by rw[g.pll];omega);have y:C<q.pl.length:=by rw[g.pll];omega
 have c2:¬C=0:=by omega
 simp only[au]at k;simp[o,E,au,A,z,G,c2];refine⟨by omega,am.intro k ?_⟩;rintro _ _ ⟨rfl,rfl⟩;have m:List.take L (ae (q.row.set 0 w))=ae a:=by rw[FK,i]
 have I:a.length=L:=by rw[←i];simp[A]
 have j:d.length=n+1:=by rw[←p];simp[g.pll]
 have t:uG a d.length:=λx hx=>by
  rw[j];rw[←i]at hx;rcases U2 (TV hx)with hx|hx
  .exact g.inr x hx
  .omega
 simp[o,A,z,y,m,gZ,i,p];refine⟨by omega,λc3=>?_,λc3=>?_⟩
 .have f:=Aw (h.set b (au ⟨q.sc,a,d⟩)) b ⟨q.sc,a,d⟩ (gd o _) 0 (by dsimp only;omega) t (by dsimp only;rw[j,g.sl]) (by dsimp only;omega);dsimp only at f;rw[I]at f;rw[SX c3]at s;obtain⟨R,Q⟩:∃R,eh q.sc (a.getD 0 0) L 0 a d=R:=⟨_,rfl⟩;rw[Q]at f s;simp only[au]at f;refine am.intro f ?_;rintro _ _ ⟨rfl,rfl⟩;rw[←s];simp
 .rw[SU (by omega)]at s;rw[←s]
end Go.AX
namespace Go.AX
open Go.Proofs
def jD(i:Nat):List Int:=(List.range i).map λj=>((j+1:Nat):Int)
def ir(n i:Nat):List Int:=(List.range (n+1)).map λj=>if j<=i then((j -1:Nat):Int)else 0
theorem GI{n i:Nat}(h:i<n):(ir n i).set (i+1) i=ir n (i+1):=by
 apply VJ
 .simp[ir]
 .intro j h1 b;rw[Xv];simp only[ir,WV,Xe]
  by_cases e:i+1=j
  .subst e;simp
  .rw[SU e]
   by_cases a:j<=i
   .rw[SX a,SX (by omega)]
   .rw[SU a,SU (by omega)]
theorem GJ(n:Nat):ir n n=(nJ n).pl:=by
 apply Uf;intro j;simp only[ir,nJ];cases j with
 |zero=>simp
 |succ j=>
  rw[UV,Tm,Tm]
  by_cases c:j<n
  .simp[c];omega
  .simp[c]
theorem CT(n:Nat):ir n 0=List.replicate (n+1) 0:=by
 apply VJ
 .simp[ir]
 .intro j h1 a;simp only[ir,WV,Xe,List.getElem_replicate];split
  .rename_i c;have:j=0:=by omega
   subst this;rfl
  .rfl
theorem CU(n:Nat):List.replicate n [ab 0]=ae (List.replicate n 0):=by simp[ae]
set_option maxRecDepth 16000 in
theorem MD(h:List (List SV))(vars:Int):
 aA Tryz.prog 64 [ab vars] h (λr h'=>if 0<=vars∧vars<=100000 then r=.pv (.tup [.ptr h.length 0,ab 0])∧h'=h++[au (nJ vars.toNat)]else r=.pv (.tup [.lit (.pointer none),ab 2])∧h'=h):=by
 refine H9 [3] [2,3] aD Tryz.func64 (λ_ _=>results_tmp2 rfl _ _ _) ?_
 by_cases c:0<=vars∧vars<=100000
 rotate_left
 .have c2:vars<0∨100000<vars:=by omega
  rcases c2 with c2|c2
  .have c3:¬0<=vars:=by omega
   simp[c2,c3]
  .have c3:0<=vars:=by omega
   have c4:¬vars<=100000:=by omega
   have c5:¬vars<0:=by omega
   simp[c2,c3,c4,c5]
 .obtain⟨n,hn⟩:=Uo c.1;have e:vars=(n:Int):=hn;subst e;have c2:n<=100000:=by omega
  have c3:(n:Int)<=100000:=by omega
  have s:=dv n;simp[c2,c3,s];refine aT.meet (.take 0 (.take 1 (.take 3 (.take 4 (.fork [(2,.fork [(5,.fork [(6,.fork [(7,.take 8 .done)])])]),(5,.fork [(2,.fork [(6,.fork [(7,.take 8 .done)])])])])))))
   ⟨[(0,.pv (ab n)),(4,.pv (.ptr h.length 0))],h++[[.own true 1 (ae (List.replicate (n+1) 0)),.pv (.lit (.slice none 0 0)),.own true 1 (ae (List.replicate (n+1) 0))]]⟩ (by kernel_rfl) ?_ ?_
  .simp[s];have hz:List.replicate (n+1) [ab 0]=ae (List.replicate (n+1) 0):=CU _;refine⟨⟨by omega,by omega,by omega,by omega,ah.keep (by simp) (by simp[←hz])⟩,by omega,by omega,by omega,by omega,ah.keep (by simp) (by simp[←hz])⟩
  .have q:h.length<(h++[[SV.own true 1 (ae (List.replicate (n+1) 0)),.pv (.lit (.slice none 0 0)),.own true 1 (ae (List.replicate (n+1) 0))]]).length:=by simp
   simp;refine ax.intro (S:=λ(i:Nat)=>⟨[(0,.pv (ab n)),(4,.pv (.ptr h.length 0)),(5,.pv (ab ((i:Int)+1)))],h++[au ⟨List.replicate (n+1) 0,jD i,ir n i⟩]⟩)
    (λi=>i<=n) (λi=>n -i) 0 ?_ ?_ ?_
   .refine(ah.nilCell (b:=h.length) (k:=1) (xs:=[SV.own true 1 (ae (List.replicate (n+1) 0)),.pv (.lit (.slice none 0 0)),.own true 1 (ae (List.replicate (n+1) 0))]) 1 true (by simp) (by simp)).trans (ah.keep (by simp) ?_);simp[au,jD,CT,ae]
   .omega
   .intro i hi
    by_cases c4:i<n
    .have o:aX ((i:Int)+1)=(i:Int)+1:=ao (by omega) (by omega);have p:aX ((i:Int)+1+1)=(i:Int)+1+1:=ao (by omega) (by omega);have g:i+1<(ir n i).length:=by simp[ir];omega
     have a:(i:Int)+1<(ir n i).length:=by simp[ir];omega
     have hle:(i:Int)+1<=n:=by omega
     have l:(jD i).length=i:=by simp[jD]
     have m:((i:Int)+1).toNat=i+1:=by omega
     simp[au,hle,g,a,o,l,m];have j:ae (jD i)++[[ab ((i:Int)+1)]]=ae (jD (i+1)):=by
      rw[wz];simp[jD,VX]
     have f:(ae (ir n i)).set (i+1) [ab (i:Int)]=ae (ir n (i+1)):=by rw[gZ,GI c4]
     refine⟨by omega,by omega,i+1,by dsimp only;omega,by dsimp only;omega,ah.keep ?_ ?_⟩
     .simp[p]
     .simp[j,f]
    .have d:i=n:=by omega
     subst d;have hle:¬(i:Int)+1<=i:=by omega
     simp[hle];simp[nJ,GJ,jD,au]
end Go.AX