/-
  Contracts: into a heap, and out of it.
  Contracts: a new heap.
-/
import Derived.Test.YtepodadinenmnaaGreatS14AxDfD
import Derived.Test.YtepodadinenmnaaGreatS14AxEvC
namespace Go.AX
set_option maxRecDepth 16000
open Go.Proofs
set_option linter.unusedSimpArgs false
theorem uW(l:List Int)(x:Int):ab l++[[af x]]=ab (l++[x]):=by simp[ab]
theorem HY{q:HS}{v:Int}(h:sP q v=false):d9 q v=(q,10):=by unfold d9;rw[Qb h]
theorem Eo{q:HS}{v:Int}(h:sP q v=true)(a:0<=q.pl.getD v.toNat 0):d9 q v=(q,21):=by unfold d9;rw[Qa (by rw[h];simp),Qb a]
theorem Ep{q:HS}{v:Int}(h:sP q v=true)(a:¬0<=q.pl.getD v.toNat 0):d9 q v=(⟨q.sc,(qo q.sc v q.row.length (q.row++[v]) q.pl).1,(qo q.sc v q.row.length (q.row++[v]) q.pl).2⟩,0):=by
 unfold d9;rw[Qa (by rw[h];simp),Qa a]
theorem Kf(h:List (List SV))(b:Nat)(q:HS)(m:h[b]?=some (ap q)){n:Nat}{M:Int}(g:HpG n M q)(hn:n<=100000)(v:Int):
 ay Tryz.prog 133 [.ptr b 0,af v] h (λr h'=>r=.pv (af (d9 q v).2)∧h'=h.set b (ap (d9 q v).1)):=by
 refine m7 aD Tryz.func133 ?_;obtain⟨k,o⟩:=P7.1 m;have u:0<q.sc.length:=by rw[g.sl];omega
 have s:=CH q u v;have f:=wF q u (by rw[g.pll,g.sl]) v;generalize d:d9 q v=PS;simp;rw[gr m];refine ak.introP s ?_;unfold Kc;have t:=g.few;have j:h.set b (ap q)=h:=gR m;cases l:sP q v with
 |false=>
  have e:=d.symm.trans (HY l);subst e;simp[j]
 |true=>
  rw[l]at f;obtain⟨A,i⟩:∃x,x=q.pl.getD v.toNat 0:=⟨_,rfl⟩;rw[←i]at f;simp;rw[gr m];refine ak.introP f ?_
  by_cases c:0<=A
  .have e:=d.symm.trans (Eo l (by rw[←i];exact c));subst e;simp[c,j]
  .have e:=d.symm.trans (Ep l (by rw[←i];exact c));clear d;subst e;have y:=g.isV_iff.1 l;have hin:tu (q.row++[v]) q.pl.length:=λx hx=>by
    rw[g.pll];rcases Qn.1 hx with hx|hx
    .exact g.inr x hx
    .simp at hx;omega
   have a:=HR (h.set b (ap ⟨q.sc,q.row++[v],q.pl⟩)) b ⟨q.sc,q.row++[v],q.pl⟩ (fT k _) q.row.length (by simp) hin (by rw[g.pll,g.sl]) (by simp;omega);have p:(q.row++[v]).getD q.row.length 0=v:=by simp[P9]
   dsimp only at a;rw[p]at a;obtain⟨R,w⟩:∃R,qo q.sc v q.row.length (q.row++[v]) q.pl=R:=⟨_,rfl⟩;rw[w]at a⊢;have z:aX (q.row.length:Int)=(q.row.length:Int):=aq (by omega) (by omega);simp only[ap]at a;simp[c,k,o,ap,uW,z];refine⟨by omega,ak.intro a ?_⟩;rintro _ _ ⟨rfl,rfl⟩;simp
theorem Ba{q:HS}(h:bY q=0):eV q=(q,0):=by unfold eV;rw[Qb h]
theorem Eq{q:HS}(h:bY q≠0){w:Int}{L:Nat}(a:q.row.length=L+1)(c:q.row.getD L 0=w):
 eV q=(if 0<L then⟨q.sc,(d7 q.sc (((q.row.set 0 w).take L).getD 0 0) L 0 ((q.row.set 0 w).take L) ((q.pl.set w.toNat 0).set (bY q).toNat (-1))).1,(d7 q.sc (((q.row.set 0 w).take L).getD 0 0) L 0 ((q.row.set 0 w).take L) ((q.pl.set w.toNat 0).set (bY q).toNat (-1))).2⟩else⟨q.sc,(q.row.set 0 w).take L,(q.pl.set w.toNat 0).set (bY q).toNat (-1)⟩,bY q):=by
 unfold eV;rw[Qa h];have b:((q.row.set 0 w).take L).length=L:=by simp[a]
 simp only[a,SZ,c,b]
theorem HZ(h:List (List SV))(b:Nat)(q:HS)(B:h[b]?=some (ap q)){n:Nat}{M:Int}(g:HpG n M q)(hn:n<=100000):
 ay Tryz.prog 101 [.ptr b 0] h (λr h'=>r=.pv (af (eV q).2)∧h'=h.set b (ap (eV q).1)):=by
 refine m7 aD Tryz.func101 ?_;obtain⟨o,E⟩:=P7.1 B;have T:0<q.sc.length:=by rw[g.sl];omega
 have K:=HQ q T;generalize l:eV q=V;have P:=g.few;have H:h.set b (ap q)=h:=gR B;simp;rw[gr B];refine ak.introP K ?_
 by_cases c:bY q=0
 .have e:=l.symm.trans (Ba c);subst e;simp[c,H]
 have J:q.row≠[]:=λh=>c (g.peek_zero.2 h);have S:0<q.row.length:=Ru.2 J;obtain⟨L,A⟩:∃L,q.row.length=L+1:=⟨q.row.length -1,by omega⟩;have N:=g.inr _ (g.peek_mem c);obtain⟨w,O⟩:∃w,q.row.getD L 0=w:=⟨_,rfl⟩;have U:=g.inr w (by rw[←O];exact aZ (by omega));have D:L<q.row.length:=by omega
 have G:q.row[L]=w:=by rw[←O];exact ml D
 have e:=l.symm.trans (Eq c A O);clear l;subst e;obtain⟨C,v⟩:=RL (show 0<=bY q by omega);have u:bY q=(C:Int):=v;rw[u]at N⊢;have z:aX (L:Int)=(L:Int):=aq (by omega) (by omega);obtain⟨a,i⟩:∃r,(q.row.set 0 w).take L=r:=⟨_,rfl⟩;obtain⟨d,p⟩:∃r,(q.pl.set w.toNat 0).set C (-1)=r:=⟨_,rfl⟩;rw[i,Rm,p];obtain⟨F,s⟩:∃F:HS,(if 0<L then⟨q.sc,(d7 q.sc (a.getD 0 0) L 0 a d).1,(d7 q.sc (a.getD 0 0) L 0 a d).2⟩else⟨q.sc,a,d⟩)=F:=⟨_,rfl⟩;rw[s];have k:=yJ h b q B 0 w S (by rw[g.pll];omega);have y:C<q.pl.length:=by rw[g.pll];omega
 have c2:¬C=0:=by omega
 simp only[ap]at k;simp[o,E,ap,A,z,G,c2];refine⟨by omega,ak.intro k ?_⟩;rintro _ _ ⟨rfl,rfl⟩;have m:List.take L (ab (q.row.set 0 w))=ab a:=by rw[Ds,i]
 have I:a.length=L:=by rw[←i];simp[A]
 have j:d.length=n+1:=by rw[←p];simp[g.pll]
 have t:tu a d.length:=λx hx=>by
  rw[j];rw[←i]at hx;rcases RY (Q4 hx)with hx|hx
  .exact g.inr x hx
  .omega
 simp[o,A,z,y,m,iQ,i,p];refine⟨by omega,λc3=>?_,λc3=>?_⟩
 .have f:=yL (h.set b (ap ⟨q.sc,a,d⟩)) b ⟨q.sc,a,d⟩ (fT o _) 0 (by dsimp only;omega) t (by dsimp only;rw[j,g.sl]) (by dsimp only;omega);dsimp only at f;rw[I]at f;rw[Qb c3]at s;obtain⟨R,Q⟩:∃R,d7 q.sc (a.getD 0 0) L 0 a d=R:=⟨_,rfl⟩;rw[Q]at f s;simp only[ap]at f;refine ak.intro f ?_;rintro _ _ ⟨rfl,rfl⟩;rw[←s];simp
 .rw[Qa (by omega)]at s;rw[←s]
end Go.AX
namespace Go.AX
open Go.Proofs
set_option linter.unusedSimpArgs false
def ji(i:Nat):List Int:=(List.range i).map λj=>((j+1:Nat):Int)
def g8(n i:Nat):List Int:=(List.range (n+1)).map λj=>if j<=i then((j -1:Nat):Int)else 0
theorem Er{n i:Nat}(h:i<n):(g8 n i).set (i+1) i=g8 n (i+1):=by
 apply SG
 .simp[g8]
 .intro j h1 b;rw[UI];simp only[g8,T9,Uv]
  by_cases e:i+1=j
  .subst e;simp
  .rw[Qa e]
   by_cases a:j<=i
   .rw[Qb a,Qb (by omega)]
   .rw[Qa a,Qa (by omega)]
theorem Es(n:Nat):g8 n n=(mS n).pl:=by
 apply Rt;intro j;simp only[g8,mS];cases j with
 |zero=>simp
 |succ j=>
  rw[R9,Qu,Qu]
  by_cases c:j<n
  .simp[c];omega
  .simp[c]
theorem Bb(n:Nat):g8 n 0=List.replicate (n+1) 0:=by
 apply SG
 .simp[g8]
 .intro j h1 a;simp only[g8,T9,Uv,List.getElem_replicate];split
  .rename_i c;have:j=0:=by omega
   subst this;rfl
  .rfl
theorem Bc(n:Nat):List.replicate n [af 0]=ab (List.replicate n 0):=by simp[ab]
set_option maxRecDepth 16000 in
theorem Kg(h:List (List SV))(vars:Int):
 ay Tryz.prog 64 [af vars] h (λr h'=>if 0<=vars∧vars<=100000 then r=.pv (.tup [.ptr h.length 0,af 0])∧h'=h++[ap (mS vars.toNat)]else r=.pv (.tup [.lit (.pointer none),af 2])∧h'=h):=by
 refine FP [3] [2,3] aD Tryz.func64 (λ_ _=>results_tmp2 rfl _ _ _) ?_
 by_cases c:0<=vars∧vars<=100000
 rotate_left
 .have c2:vars<0∨100000<vars:=by omega
  rcases c2 with c2|c2
  .have c3:¬0<=vars:=by omega
   simp[c2,c3]
  .have c3:0<=vars:=by omega
   have c4:¬vars<=100000:=by omega
   have c5:¬vars<0:=by omega
   simp[c2,c3,c4,c5]
 .obtain⟨n,hn⟩:=RL c.1;have e:vars=(n:Int):=hn;subst e;have c2:n<=100000:=by omega
  have c3:(n:Int)<=100000:=by omega
  have s:=eq n;simp[c2,c3,s];refine bd.meet (.take 0 (.take 1 (.take 3 (.take 4 (.fork [(2,.fork [(5,.fork [(6,.fork [(7,.take 8 .done)])])]),(5,.fork [(2,.fork [(6,.fork [(7,.take 8 .done)])])])])))))
   ⟨[(0,.pv (af n)),(4,.pv (.ptr h.length 0))],h++[[.own true 1 (ab (List.replicate (n+1) 0)),.pv (.lit (.slice none 0 0)),.own true 1 (ab (List.replicate (n+1) 0))]]⟩ (by kernel_rfl) ?_ ?_
  .simp[s];have hz:List.replicate (n+1) [af 0]=ab (List.replicate (n+1) 0):=Bc _;refine⟨⟨by omega,by omega,by omega,by omega,ai.keep (by simp) (by simp[←hz])⟩,by omega,by omega,by omega,by omega,ai.keep (by simp) (by simp[←hz])⟩
  .have q:h.length<(h++[[SV.own true 1 (ab (List.replicate (n+1) 0)),.pv (.lit (.slice none 0 0)),.own true 1 (ab (List.replicate (n+1) 0))]]).length:=by simp
   simp;refine aH.intro (S:=λ(i:Nat)=>⟨[(0,.pv (af n)),(4,.pv (.ptr h.length 0)),(5,.pv (af ((i:Int)+1)))],h++[ap ⟨List.replicate (n+1) 0,ji i,g8 n i⟩]⟩)
    (λi=>i<=n) (λi=>n -i) 0 ?_ ?_ ?_
   .refine(ai.nilCell (b:=h.length) (k:=1) (xs:=[SV.own true 1 (ab (List.replicate (n+1) 0)),.pv (.lit (.slice none 0 0)),.own true 1 (ab (List.replicate (n+1) 0))]) 1 true (by simp) (by simp)).trans (ai.keep (by simp) ?_);simp[ap,ji,Bb,ab]
   .omega
   .intro i hi
    by_cases c4:i<n
    .have o:aX ((i:Int)+1)=(i:Int)+1:=aq (by omega) (by omega);have p:aX ((i:Int)+1+1)=(i:Int)+1+1:=aq (by omega) (by omega);have g:i+1<(g8 n i).length:=by simp[g8];omega
     have a:(i:Int)+1<(g8 n i).length:=by simp[g8];omega
     have hle:(i:Int)+1<=n:=by omega
     have l:(ji i).length=i:=by simp[ji]
     have m:((i:Int)+1).toNat=i+1:=by omega
     simp[ap,hle,g,a,o,l,m];have j:ab (ji i)++[[af ((i:Int)+1)]]=ab (ji (i+1)):=by
      rw[uW];simp[ji,Tg]
     have f:(ab (g8 n i)).set (i+1) [af (i:Int)]=ab (g8 n (i+1)):=by rw[iQ,Er c4]
     refine⟨by omega,by omega,i+1,by dsimp only;omega,by dsimp only;omega,ai.keep ?_ ?_⟩
     .simp[p]
     .simp[j,f]
    .have d:i=n:=by omega
     subst d;have hle:¬(i:Int)+1<=i:=by omega
     simp[hle];simp[mS,Es,ji,ap]
end Go.AX