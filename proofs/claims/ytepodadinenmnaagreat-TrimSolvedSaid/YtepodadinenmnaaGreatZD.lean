/-
  Contracts: into a heap, and out of it; and what follows.
-/
import Derived.Test.YtepodadinenmnaaGreatZf
set_option linter.unusedSimpArgs false
set_option maxRecDepth 16000
namespace Go.AX
open Go.Proofs Go.Proofs.Tryz
section
theorem yB(l:af)(x:Int):am l++[[ak x]]=am (l++[x]):=by simp[am]
theorem M9{q:HS}{v:Int}(h:ww q v=false):fq q v=(q,10):=by unfold fq;rw[Vt h]
theorem Jm{q:HS}{v:Int}(h:ww q v=true)(a:0<=q.pl.getD v.toNat 0):fq q v=(q,21):=by unfold fq;rw[Vs (by rw[h];simp),Vt a]
theorem Jn{q:HS}{v:Int}(h:ww q v=true)(a:¬0<=q.pl.getD v.toNat 0):fq q v=(⟨q.sc,(tC q.sc v q.row.length (q.row++[v]) q.pl).1,(tC q.sc v q.row.length (q.row++[v]) q.pl).2⟩,0):=by
 unfold fq;rw[Vs (by rw[h];simp),Vs a]
theorem Pq(h:ao)(b:Nat)(q:HS)(m:h[b]?=some (aH q)){n:Nat}{M:Int}(g:HpG n M q)(hn:n<=100000)(v:Int):
 aI prog 133 [.ptr b 0,ak v] h (λr h'=>r=.pv (ak (fq q v).2)∧h'=h.set b (aH (fq q v).1)):=by
 refine lg aP func133 ?_;obtain⟨k,o⟩:=Vp.1 m;have u:0<q.sc.length:=by rw[g.sl];omega
 have s:=Hh q u v;have f:=An q u (by rw[g.pll,g.sl]) v;generalize d:fq q v=PS;simp;rw[iR m];refine ay.introP s ?_;unfold Pn;have t:=g.few;have j:h.set b (aH q)=h:=jo m;cases l:ww q v with
 |false=>
  have e:=d.symm.trans (M9 l);subst e;simp[j]
 |true=>
  rw[l]at f;obtain⟨A,i⟩:∃x,x=q.pl.getD v.toNat 0:=⟨_,rfl⟩;rw[←i]at f;simp;rw[iR m];refine ay.introP f ?_;by_cases c:0<=A;have e:=d.symm.trans (Jm l (by rw[←i];exact c));subst e;simp[c,j];have e:=d.symm.trans (Jn l (by rw[←i];exact c));clear d;subst e;have y:=g.isV_iff.1 l;have hin:wO (q.row++[v]) q.pl.length:=λx hx=>by
   rw[g.pll];rcases VF.1 hx with hx|hx;exact g.inr x hx;simp at hx;omega
  have a:=M3 (h.set b (aH ⟨q.sc,q.row++[v],q.pl⟩)) b ⟨q.sc,q.row++[v],q.pl⟩ (io k _) q.row.length (by simp) hin (by rw[g.pll,g.sl]) (by simp;omega);have p:(q.row++[v]).getD q.row.length 0=v:=by simp[Vr]
  dsimp only at a;rw[p]at a;obtain⟨R,w⟩:∃R,tC q.sc v q.row.length (q.row++[v]) q.pl=R:=⟨_,rfl⟩;rw[w]at a⊢;have z:bG (q.row.length:Int)=(q.row.length:Int):=aC (by omega) (by omega);simp only[aH]at a;simp[c,k,o,aH,yB,z];refine⟨by omega,ay.intro a ?_⟩;rintro _ _ ⟨rfl,rfl⟩;simp
theorem Fk{q:HS}(h:cU q=0):gp q=(q,0):=by unfold gp;rw[Vt h]
theorem Jo{q:HS}(h:cU q≠0){w:Int}{L:Nat}(a:q.row.length=L+1)(c:q.row.getD L 0=w):
 gp q=(if 0<L then⟨q.sc,(fo q.sc (((q.row.set 0 w).take L).getD 0 0) L 0 ((q.row.set 0 w).take L) ((q.pl.set w.toNat 0).set (cU q).toNat (-1))).1,(fo q.sc (((q.row.set 0 w).take L).getD 0 0) L 0 ((q.row.set 0 w).take L) ((q.pl.set w.toNat 0).set (cU q).toNat (-1))).2⟩else⟨q.sc,(q.row.set 0 w).take L,(q.pl.set w.toNat 0).set (cU q).toNat (-1)⟩,cU q):=by
 unfold gp;rw[Vs h];have b:((q.row.set 0 w).take L).length=L:=by simp[a]
 simp only[a,Yo,c,b]
theorem Na(h:ao)(b:Nat)(q:HS)(B:h[b]?=some (aH q)){n:Nat}{M:Int}(g:HpG n M q)(hn:n<=100000):
 aI prog 101 [.ptr b 0] h (λr h'=>r=.pv (ak (gp q).2)∧h'=h.set b (aH (gp q).1)):=by
 refine lg aP func101 ?_;obtain⟨o,E⟩:=Vp.1 B;have T:0<q.sc.length:=by rw[g.sl];omega
 have K:=M2 q T;generalize l:gp q=V;have P:=g.few;have H:h.set b (aH q)=h:=jo B;simp;rw[iR B];refine ay.introP K ?_;by_cases c:cU q=0;have e:=l.symm.trans (Fk c);subst e;simp[c,H];have J:q.row≠[]:=λh=>c (g.peek_zero.2 h);have S:0<q.row.length:=WJ.2 J;obtain⟨L,A⟩:∃L,q.row.length=L+1:=⟨q.row.length -1,by omega⟩;have N:=g.inr _ (g.peek_mem c);obtain⟨w,O⟩:∃w,q.row.getD L 0=w:=⟨_,rfl⟩;have U:=g.inr w (by rw[←O];exact bR (by omega));have D:L<q.row.length:=by omega
 have G:q.row[L]=w:=by rw[←O];exact oD D
 have e:=l.symm.trans (Jo c A O);clear l;subst e;obtain⟨C,v⟩:=WY (show 0<=cU q by omega);have u:cU q=(C:Int):=v;rw[u]at N⊢;have z:bG (L:Int)=(L:Int):=aC (by omega) (by omega);obtain⟨a,i⟩:∃r,(q.row.set 0 w).take L=r:=⟨_,rfl⟩;obtain⟨d,p⟩:∃r,(q.pl.set w.toNat 0).set C (-1)=r:=⟨_,rfl⟩;rw[i,WH,p];obtain⟨F,s⟩:∃F:HS,(if 0<L then⟨q.sc,(fo q.sc (a.getD 0 0) L 0 a d).1,(fo q.sc (a.getD 0 0) L 0 a d).2⟩else⟨q.sc,a,d⟩)=F:=⟨_,rfl⟩;rw[s];have k:=Cv h b q B 0 w S (by rw[g.pll];omega);have y:C<q.pl.length:=by rw[g.pll];omega
 have c2:¬C=0:=by omega
 simp only[aH]at k;simp[o,E,aH,A,z,G,c2];refine⟨by omega,ay.intro k ?_⟩;rintro _ _ ⟨rfl,rfl⟩;have m:List.take L (am (q.row.set 0 w))=am a:=by rw[Il,i]
 have I:a.length=L:=by rw[←i];simp[A]
 have j:d.length=n+1:=by rw[←p];simp[g.pll]
 have t:wO a d.length:=λx hx=>by
  rw[j];rw[←i]at hx;rcases XA (Wn hx)with hx|hx;exact g.inr x hx;omega
 simp[o,A,z,y,m,jn,i,p];refine⟨by omega,λc3=>?_,λc3=>?_⟩;have f:=Cx (h.set b (aH ⟨q.sc,a,d⟩)) b ⟨q.sc,a,d⟩ (io o _) 0 (by dsimp only;omega) t (by dsimp only;rw[j,g.sl]) (by dsimp only;omega);dsimp only at f;rw[I]at f;rw[Vt c3]at s;obtain⟨R,Q⟩:∃R,fo q.sc (a.getD 0 0) L 0 a d=R:=⟨_,rfl⟩;rw[Q]at f s;simp only[aH]at f;refine ay.intro f ?_;rintro _ _ ⟨rfl,rfl⟩;rw[←s];simp;rw[Vs (by omega)]at s;rw[←s]
end
def lA(i:Nat):af:=(List.range i).map λj=>((j+1:Nat):Int)
def jC(n i:Nat):af:=(List.range (n+1)).map λj=>if j<=i then((j -1:Nat):Int)else 0
theorem Jp{n i:Nat}(h:i<n):(jC n i).set (i+1) i=jC n (i+1):=by
 apply Yq;simp[jC];intro j h1 b;rw[Z6];simp only[jC,ZC,ZQ];by_cases e:i+1=j;subst e;simp;rw[Vs e];by_cases a:j<=i;rw[Vt a,Vt (by omega)];rw[Vs a,Vs (by omega)]
theorem Jq(n:Nat):jC n n=(pA n).pl:=by
 apply Wv;intro j;simp only[jC,pA];cases j with
 |zero=>simp
 |succ j=>
  rw[XK,VO,VO];by_cases c:j<n;simp[c];omega;simp[c]
theorem Fl(n:Nat):jC n 0=List.replicate (n+1) 0:=by
 apply Yq;simp[jC];intro j h1 a;simp only[jC,ZC,ZQ,List.getElem_replicate];split;rename_i c;have:j=0:=by omega
 subst this;rfl;rfl
theorem Fm(n:Nat):List.replicate n [ak 0]=am (List.replicate n 0):=by simp[am]
theorem Ps(h:ao)(vars:Int):
 aI Tryz.prog 64 [ak vars] h (λr h'=>if 0<=vars∧vars<=100000 then r=.pv (.tup [.ptr h.length 0,ak 0])∧h'=h++[aH (pA vars.toNat)]else r=.pv (.tup [.lit (.pointer none),ak 2])∧h'=h):=by
 refine KC [3] [2,3] aP Tryz.func64 (λ_ _=>results_tmp2 rfl _ _ _) ?_;by_cases c:0<=vars∧vars<=100000;rotate_left;have c2:vars<0∨100000<vars:=by omega
 rcases c2 with c2|c2;have c3:¬0<=vars:=by omega
 simp[c2,c3];have c3:0<=vars:=by omega
 have c4:¬vars<=100000:=by omega
 have c5:¬vars<0:=by omega
 simp[c2,c3,c4,c5];obtain⟨n,hn⟩:=WY c.1;have e:vars=(n:Int):=hn;subst e;have c2:n<=100000:=by omega
 have c3:(n:Int)<=100000:=by omega
 have s:=dU n;simp[c2,c3,s];refine bP.meet (.take 0 (.take 1 (.take 3 (.take 4 (.fork [(2,.fork [(5,.fork [(6,.fork [(7,.take 8 .done)])])]),(5,.fork [(2,.fork [(6,.fork [(7,.take 8 .done)])])])])))))
  ⟨[(0,.pv (ak n)),(4,.pv (.ptr h.length 0))],h++[[.own true 1 (am (List.replicate (n+1) 0)),.pv (.lit (.slice none 0 0)),.own true 1 (am (List.replicate (n+1) 0))]]⟩ (by kernel_rfl) ?_ ?_
 simp[s];have hz:List.replicate (n+1) [ak 0]=am (List.replicate (n+1) 0):=Fm _;refine⟨⟨by omega,by omega,by omega,by omega,av.keep (by simp) (by simp[←hz])⟩,by omega,by omega,by omega,by omega,av.keep (by simp) (by simp[←hz])⟩;have q:h.length<(h++[[SV.own true 1 (am (List.replicate (n+1) 0)),.pv (.lit (.slice none 0 0)),.own true 1 (am (List.replicate (n+1) 0))]]).length:=by simp
 simp;refine aM.intro (S:=λ(i:Nat)=>⟨[(0,.pv (ak n)),(4,.pv (.ptr h.length 0)),(5,.pv (ak ((i:Int)+1)))],h++[aH ⟨List.replicate (n+1) 0,lA i,jC n i⟩]⟩)
  (λi=>i<=n) (λi=>n -i) 0 ?_ ?_ ?_
 refine(av.nilCell (b:=h.length) (k:=1) (xs:=[SV.own true 1 (am (List.replicate (n+1) 0)),.pv (.lit (.slice none 0 0)),.own true 1 (am (List.replicate (n+1) 0))]) 1 true (by simp) (by simp)).trans (av.keep (by simp) ?_);simp[aH,lA,Fl,am];omega;intro i hi;by_cases c4:i<n;have o:bG ((i:Int)+1)=(i:Int)+1:=aC (by omega) (by omega);have p:bG ((i:Int)+1+1)=(i:Int)+1+1:=aC (by omega) (by omega);have g:i+1<(jC n i).length:=by simp[jC];omega
 have a:(i:Int)+1<(jC n i).length:=by simp[jC];omega
 have hle:(i:Int)+1<=n:=by omega
 have l:(lA i).length=i:=by simp[lA]
 have m:((i:Int)+1).toNat=i+1:=by omega
 simp[aH,hle,g,a,o,l,m];have j:am (lA i)++[[ak ((i:Int)+1)]]=am (lA (i+1)):=by
  rw[yB];simp[lA,Y5]
 have f:(am (jC n i)).set (i+1) [ak (i:Int)]=am (jC n (i+1)):=by rw[jn,Jp c4]
 refine⟨by omega,by omega,i+1,by dsimp only;omega,by dsimp only;omega,av.keep ?_ ?_⟩;simp[p];simp[j,f];have d:i=n:=by omega
 subst d;have hle:¬(i:Int)+1<=i:=by omega
 simp[hle];simp[pA,Jq,lA,aH]
end Go.AX
