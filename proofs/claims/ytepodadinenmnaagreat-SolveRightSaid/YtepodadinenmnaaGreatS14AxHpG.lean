/-
  Contracts: into a heap, and out of it; and what follows.
-/
import Derived.Test.YtepodadinenmnaaGreatS14AxDfD
import Derived.Test.YtepodadinenmnaaGreatS14AxEvC
namespace Go.AX
set_option maxRecDepth 16000
open Go.Proofs
set_option linter.unusedSimpArgs false
theorem wy(l:List Int)(x:Int):ae l++[[ab x]]=ae (l++[x]):=by simp[ae]
theorem J4{q:HS}{v:Int}(h:uq q v=false):ej q v=(q,10):=by unfold ej;rw[SN h]
theorem Gm{q:HS}{v:Int}(h:uq q v=true)(a:0<=q.pl.getD v.toNat 0):ej q v=(q,21):=by unfold ej;rw[SM (by rw[h];simp),SN a]
theorem Gn{q:HS}{v:Int}(h:uq q v=true)(a:¬0<=q.pl.getD v.toNat 0):ej q v=(⟨q.sc,(rz q.sc v q.row.length (q.row++[v]) q.pl).1,(rz q.sc v q.row.length (q.row++[v]) q.pl).2⟩,0):=by
 unfold ej;rw[SM (by rw[h];simp),SM a]
theorem Mx(h:List (List SV))(b:Nat)(q:HS)(m:h[b]?=some (aq q)){n:Nat}{M:Int}(g:HpG n M q)(hn:n<=100000)(v:Int):
 ax Tryz.prog 133 [.ptr b 0,ab v] h (λr h'=>r=.pv (ab (ej q v).2)∧h'=h.set b (aq (ej q v).1)):=by
 refine mB aC Tryz.func133 ?_;obtain⟨k,o⟩:=SG.1 m;have u:0<q.sc.length:=by rw[g.sl];omega
 have s:=El q u v;have f:=xZ q u (by rw[g.pll,g.sl]) v;generalize d:ej q v=PS;simp;rw[gM m];refine am.introP s ?_;unfold Mu;have t:=g.few;have j:h.set b (aq q)=h:=ik m;cases l:uq q v with
 |false=>
  have e:=d.symm.trans (J4 l);subst e;simp[j]
 |true=>
  rw[l]at f;obtain⟨A,i⟩:∃x,x=q.pl.getD v.toNat 0:=⟨_,rfl⟩;rw[←i]at f;simp;rw[gM m];refine am.introP f ?_
  by_cases c:0<=A
  .have e:=d.symm.trans (Gm l (by rw[←i];exact c));subst e;simp[c,j]
  .have e:=d.symm.trans (Gn l (by rw[←i];exact c));clear d;subst e;have y:=g.isV_iff.1 l;have hin:uK (q.row++[v]) q.pl.length:=λx hx=>by
    rw[g.pll];rcases S7.1 hx with hx|hx
    .exact g.inr x hx
    .simp at hx;omega
   have a:=JW (h.set b (aq ⟨q.sc,q.row++[v],q.pl⟩)) b ⟨q.sc,q.row++[v],q.pl⟩ (gh k _) q.row.length (by simp) hin (by rw[g.pll,g.sl]) (by simp;omega);have p:(q.row++[v]).getD q.row.length 0=v:=by simp[SI]
   dsimp only at a;rw[p]at a;obtain⟨R,w⟩:∃R,rz q.sc v q.row.length (q.row++[v]) q.pl=R:=⟨_,rfl⟩;rw[w]at a⊢;have z:aY (q.row.length:Int)=(q.row.length:Int):=ao (by omega) (by omega);simp only[aq]at a;simp[c,k,o,aq,wy,z];refine⟨by omega,am.intro a ?_⟩;rintro _ _ ⟨rfl,rfl⟩;simp
theorem CH{q:HS}(h:b8 q=0):fl q=(q,0):=by unfold fl;rw[SN h]
theorem Gp{q:HS}(h:b8 q≠0){w:Int}{L:Nat}(a:q.row.length=L+1)(c:q.row.getD L 0=w):
 fl q=(if 0<L then⟨q.sc,(ed q.sc (((q.row.set 0 w).take L).getD 0 0) L 0 ((q.row.set 0 w).take L) ((q.pl.set w.toNat 0).set (b8 q).toNat (-1))).1,(ed q.sc (((q.row.set 0 w).take L).getD 0 0) L 0 ((q.row.set 0 w).take L) ((q.pl.set w.toNat 0).set (b8 q).toNat (-1))).2⟩else⟨q.sc,(q.row.set 0 w).take L,(q.pl.set w.toNat 0).set (b8 q).toNat (-1)⟩,b8 q):=by
 unfold fl;rw[SM h];have b:((q.row.set 0 w).take L).length=L:=by simp[a]
 simp only[a,Vw,c,b]
theorem J5(h:List (List SV))(b:Nat)(q:HS)(B:h[b]?=some (aq q)){n:Nat}{M:Int}(g:HpG n M q)(hn:n<=100000):
 ax Tryz.prog 101 [.ptr b 0] h (λr h'=>r=.pv (ab (fl q).2)∧h'=h.set b (aq (fl q).1)):=by
 refine mB aC Tryz.func101 ?_;obtain⟨o,E⟩:=SG.1 B;have T:0<q.sc.length:=by rw[g.sl];omega
 have K:=JV q T;generalize l:fl q=V;have P:=g.few;have H:h.set b (aq q)=h:=ik B;simp;rw[gM B];refine am.introP K ?_
 by_cases c:b8 q=0
 .have e:=l.symm.trans (CH c);subst e;simp[c,H]
 have J:q.row≠[]:=λh=>c (g.peek_zero.2 h);have S:0<q.row.length:=Up.2 J;obtain⟨L,A⟩:∃L,q.row.length=L+1:=⟨q.row.length -1,by omega⟩;have N:=g.inr _ (g.peek_mem c);obtain⟨w,O⟩:∃w,q.row.getD L 0=w:=⟨_,rfl⟩;have U:=g.inr w (by rw[←O];exact bj (by omega));have D:L<q.row.length:=by omega
 have G:q.row[L]=w:=by rw[←O];exact mW D
 have e:=l.symm.trans (Gp c A O);clear l;subst e;obtain⟨C,v⟩:=Uk (show 0<=b8 q by omega);have u:b8 q=(C:Int):=v;rw[u]at N⊢;have z:aY (L:Int)=(L:Int):=ao (by omega) (by omega);obtain⟨a,i⟩:∃r,(q.row.set 0 w).take L=r:=⟨_,rfl⟩;obtain⟨d,p⟩:∃r,(q.pl.set w.toNat 0).set C (-1)=r:=⟨_,rfl⟩;rw[i,Ub,p];obtain⟨F,s⟩:∃F:HS,(if 0<L then⟨q.sc,(ed q.sc (a.getD 0 0) L 0 a d).1,(ed q.sc (a.getD 0 0) L 0 a d).2⟩else⟨q.sc,a,d⟩)=F:=⟨_,rfl⟩;rw[s];have k:=Aj h b q B 0 w S (by rw[g.pll];omega);have y:C<q.pl.length:=by rw[g.pll];omega
 have c2:¬C=0:=by omega
 simp only[aq]at k;simp[o,E,aq,A,z,G,c2];refine⟨by omega,am.intro k ?_⟩;rintro _ _ ⟨rfl,rfl⟩;have m:List.take L (ae (q.row.set 0 w))=ae a:=by rw[Fs,i]
 have I:a.length=L:=by rw[←i];simp[A]
 have j:d.length=n+1:=by rw[←p];simp[g.pll]
 have t:uK a d.length:=λx hx=>by
  rw[j];rw[←i]at hx;rcases UU (TL hx)with hx|hx
  .exact g.inr x hx
  .omega
 simp[o,A,z,y,m,ij,i,p];refine⟨by omega,λc3=>?_,λc3=>?_⟩
 .have f:=Al (h.set b (aq ⟨q.sc,a,d⟩)) b ⟨q.sc,a,d⟩ (gh o _) 0 (by dsimp only;omega) t (by dsimp only;rw[j,g.sl]) (by dsimp only;omega);dsimp only at f;rw[I]at f;rw[SN c3]at s;obtain⟨R,Q⟩:∃R,ed q.sc (a.getD 0 0) L 0 a d=R:=⟨_,rfl⟩;rw[Q]at f s;simp only[aq]at f;refine am.intro f ?_;rintro _ _ ⟨rfl,rfl⟩;rw[←s];simp
 .rw[SM (by omega)]at s;rw[←s]
end Go.AX
namespace Go.AX
open Go.Proofs
set_option linter.unusedSimpArgs false
def jF(i:Nat):List Int:=(List.range i).map λj=>((j+1:Nat):Int)
def iB(n i:Nat):List Int:=(List.range (n+1)).map λj=>if j<=i then((j -1:Nat):Int)else 0
theorem Gq{n i:Nat}(h:i<n):(iB n i).set (i+1) i=iB n (i+1):=by
 apply Vx
 .simp[iB]
 .intro j h1 b;rw[Xr];simp only[iB,WQ,Xc]
  by_cases e:i+1=j
  .subst e;simp
  .rw[SM e]
   by_cases a:j<=i
   .rw[SN a,SN (by omega)]
   .rw[SM a,SM (by omega)]
theorem Gs(n:Nat):iB n n=(nI n).pl:=by
 apply T7;intro j;simp only[iB,nI];cases j with
 |zero=>simp
 |succ j=>
  rw[U2,Tg,Tg]
  by_cases c:j<n
  .simp[c];omega
  .simp[c]
theorem CI(n:Nat):iB n 0=List.replicate (n+1) 0:=by
 apply Vx
 .simp[iB]
 .intro j h1 a;simp only[iB,WQ,Xc,List.getElem_replicate];split
  .rename_i c;have:j=0:=by omega
   subst this;rfl
  .rfl
theorem CJ(n:Nat):List.replicate n [ab 0]=ae (List.replicate n 0):=by simp[ae]
set_option maxRecDepth 16000 in
theorem My(h:List (List SV))(vars:Int):
 ax Tryz.prog 64 [ab vars] h (λr h'=>if 0<=vars∧vars<=100000 then r=.pv (.tup [.ptr h.length 0,ab 0])∧h'=h++[aq (nI vars.toNat)]else r=.pv (.tup [.lit (.pointer none),ab 2])∧h'=h):=by
 refine HF [3] [2,3] aC Tryz.func64 (λ_ _=>results_tmp2 rfl _ _ _) ?_
 by_cases c:0<=vars∧vars<=100000
 rotate_left
 .have c2:vars<0∨100000<vars:=by omega
  rcases c2 with c2|c2
  .have c3:¬0<=vars:=by omega
   simp[c2,c3]
  .have c3:0<=vars:=by omega
   have c4:¬vars<=100000:=by omega
   have c5:¬vars<0:=by omega
   simp[c2,c3,c4,c5]
 .obtain⟨n,hn⟩:=Uk c.1;have e:vars=(n:Int):=hn;subst e;have c2:n<=100000:=by omega
  have c3:(n:Int)<=100000:=by omega
  have s:=dZ n;simp[c2,c3,s];refine bc.meet (.take 0 (.take 1 (.take 3 (.take 4 (.fork [(2,.fork [(5,.fork [(6,.fork [(7,.take 8 .done)])])]),(5,.fork [(2,.fork [(6,.fork [(7,.take 8 .done)])])])])))))
   ⟨[(0,.pv (ab n)),(4,.pv (.ptr h.length 0))],h++[[.own true 1 (ae (List.replicate (n+1) 0)),.pv (.lit (.slice none 0 0)),.own true 1 (ae (List.replicate (n+1) 0))]]⟩ (by kernel_rfl) ?_ ?_
  .simp[s];have hz:List.replicate (n+1) [ab 0]=ae (List.replicate (n+1) 0):=CJ _;refine⟨⟨by omega,by omega,by omega,by omega,ai.keep (by simp) (by simp[←hz])⟩,by omega,by omega,by omega,by omega,ai.keep (by simp) (by simp[←hz])⟩
  .have q:h.length<(h++[[SV.own true 1 (ae (List.replicate (n+1) 0)),.pv (.lit (.slice none 0 0)),.own true 1 (ae (List.replicate (n+1) 0))]]).length:=by simp
   simp;refine aF.intro (S:=λ(i:Nat)=>⟨[(0,.pv (ab n)),(4,.pv (.ptr h.length 0)),(5,.pv (ab ((i:Int)+1)))],h++[aq ⟨List.replicate (n+1) 0,jF i,iB n i⟩]⟩)
    (λi=>i<=n) (λi=>n -i) 0 ?_ ?_ ?_
   .refine(ai.nilCell (b:=h.length) (k:=1) (xs:=[SV.own true 1 (ae (List.replicate (n+1) 0)),.pv (.lit (.slice none 0 0)),.own true 1 (ae (List.replicate (n+1) 0))]) 1 true (by simp) (by simp)).trans (ai.keep (by simp) ?_);simp[aq,jF,CI,ae]
   .omega
   .intro i hi
    by_cases c4:i<n
    .have o:aY ((i:Int)+1)=(i:Int)+1:=ao (by omega) (by omega);have p:aY ((i:Int)+1+1)=(i:Int)+1+1:=ao (by omega) (by omega);have g:i+1<(iB n i).length:=by simp[iB];omega
     have a:(i:Int)+1<(iB n i).length:=by simp[iB];omega
     have hle:(i:Int)+1<=n:=by omega
     have l:(jF i).length=i:=by simp[jF]
     have m:((i:Int)+1).toNat=i+1:=by omega
     simp[aq,hle,g,a,o,l,m];have j:ae (jF i)++[[ab ((i:Int)+1)]]=ae (jF (i+1)):=by
      rw[wy];simp[jF,VT]
     have f:(ae (iB n i)).set (i+1) [ab (i:Int)]=ae (iB n (i+1)):=by rw[ij,Gq c4]
     refine⟨by omega,by omega,i+1,by dsimp only;omega,by dsimp only;omega,ai.keep ?_ ?_⟩
     .simp[p]
     .simp[j,f]
    .have d:i=n:=by omega
     subst d;have hle:¬(i:Int)+1<=i:=by omega
     simp[hle];simp[nI,Gs,jF,aq]
end Go.AX