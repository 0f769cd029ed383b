/-
  Contracts: into a heap, and out of it.
  Contracts: a new heap.
-/
import Derived.Test.YtepodadinenmnaaGreatS14AxDfD
import Derived.Test.YtepodadinenmnaaGreatS14AxEvC
namespace Go.AX
open Go.Proofs
set_option linter.unusedSimpArgs false
theorem tp(l:List Int)(x:Int):af l++[[ae x]]=af (l++[x]):=by simp[af]
theorem Fc{q:HS}{v:Int}(h:rm q v=false):dV q v=(q,10):=by unfold dV;rw[if_pos h]
theorem B6{q:HS}{v:Int}(h:rm q v=true)(h2:0≤q.pl.getD v.toNat 0):dV q v=(q,21):=by unfold dV;rw[if_neg (by rw[h];simp),if_pos h2]
theorem B7{q:HS}{v:Int}(h:rm q v=true)(h2:¬0≤q.pl.getD v.toNat 0):dV q v=(⟨q.sc,(oX q.sc v q.row.length (q.row++[v]) q.pl).1,(oX q.sc v q.row.length (q.row++[v]) q.pl).2⟩,0):=by
 unfold dV;rw[if_neg (by rw[h];simp),if_neg h2]
set_option maxRecDepth 16000 in
theorem Hc(h:List (List SV))(b:Nat)(q:HS)(hb:h[b]?=some (ap q)){n:Nat}{M:Int}(g:HpG n M q)(hn:n≤100000)(v:Int):
 aE Tryz.prog 133 [.ptr b 0,ae v] h (fun r h'=>r=.pv (ae (dV q v).2)∧h'=h.set b (ap (dV q v).1)):=by
 refine l9 aG Tryz.func133 (by kernel_rfl) rfl rfl (by kernel_rfl) (Nat.le_of_ble_eq_true rfl) ?_;obtain⟨hlt,hb'⟩:=List.getElem?_eq_some_iff.1 hb;have hq:0<q.sc.length:=by rw[g.sl];omega
 have hw0:=AB q hq v;have hha:=uO q hq (by rw[g.pll,g.sl]) v;generalize hPS:dV q v=PS;simp;rw[fL hb];refine ak.introP hw0 (by simp) (by simp) ?_;unfold G9;have hfew:=g.few;have hhb:h.set b (ap q)=h:=ge hb;cases hv:rm q v with
 |false=>
  have e:=hPS.symm.trans (Fc hv);subst e;simp[hhb]
 |true=>
  rw[hv]at hha;obtain⟨p0,hp0⟩:∃x,x=q.pl.getD v.toNat 0:=⟨_,rfl⟩;rw[←hp0]at hha;simp;rw[fL hb];refine ak.introP hha (by simp) (by simp) ?_
  by_cases c:0≤p0
  ·have e:=hPS.symm.trans (B6 hv (by rw[←hp0];exact c));subst e;simp[c,hhb]
  ·have e:=hPS.symm.trans (B7 hv (by rw[←hp0];exact c));clear hPS;subst e;have hvi:=g.isV_iff.1 hv;have hin:rL (q.row++[v]) q.pl.length:=fun x hx=>by
    rw[g.pll];rcases List.mem_append.1 hx with hx|hx
    ·exact g.inr x hx
    ·simp at hx;omega
   have hup:=EY (h.set b (ap ⟨q.sc,q.row++[v],q.pl⟩)) b ⟨q.sc,q.row++[v],q.pl⟩ (fi hlt _) q.row.length (by simp) hin (by rw[g.pll,g.sl]) (by simp;omega);have hg1:(q.row++[v]).getD q.row.length 0=v:=by simp[List.getD_eq_getElem?_getD]
   dsimp only at hup;rw[hg1]at hup;obtain⟨R,hR⟩:∃R,oX q.sc v q.row.length (q.row++[v]) q.pl=R:=⟨_,rfl⟩;rw[hR]at hup⊢;have hw:aM (q.row.length:Int)=(q.row.length:Int):=ah (by omega) (by omega);simp only[ap]at hup;simp[c,hlt,hb',ap,tp,hw];refine⟨by omega,ak.intro hup (by simp) ?_⟩;rintro _ _ ⟨rfl,rfl⟩;simp
theorem yS{q:HS}(h:bM q=0):ep q=(q,0):=by unfold ep;rw[if_pos h]
theorem B8{q:HS}(h:bM q≠0){w:Int}{L:Nat}(hL:q.row.length=L+1)(hw:q.row.getD L 0=w):
 ep q=(if 0<L then⟨q.sc,(dR q.sc (((q.row.set 0 w).take L).getD 0 0) L 0 ((q.row.set 0 w).take L) ((q.pl.set w.toNat 0).set (bM q).toNat (-1))).1,(dR q.sc (((q.row.set 0 w).take L).getD 0 0) L 0 ((q.row.set 0 w).take L) ((q.pl.set w.toNat 0).set (bM q).toNat (-1))).2⟩else⟨q.sc,(q.row.set 0 w).take L,(q.pl.set w.toNat 0).set (bM q).toNat (-1)⟩,bM q):=by
 unfold ep;rw[if_neg h];have hl:((q.row.set 0 w).take L).length=L:=by simp[hL]
 simp only[hL,Nat.add_sub_cancel,hw,hl]
set_option maxRecDepth 16000 in
theorem Fd(h:List (List SV))(b:Nat)(q:HS)(hb:h[b]?=some (ap q)){n:Nat}{M:Int}(g:HpG n M q)(hn:n≤100000):
 aE Tryz.prog 101 [.ptr b 0] h (fun r h'=>r=.pv (ae (ep q).2)∧h'=h.set b (ap (ep q).1)):=by
 refine l9 aG Tryz.func101 (by kernel_rfl) rfl rfl (by kernel_rfl) (Nat.le_of_ble_eq_true rfl) ?_;obtain⟨hlt,hb'⟩:=List.getElem?_eq_some_iff.1 hb;have hq:0<q.sc.length:=by rw[g.sl];omega
 have hpe:=EX q hq;generalize hTS:ep q=TS;have hfew:=g.few;have hhb:h.set b (ap q)=h:=ge hb;simp;rw[fL hb];refine ak.introP hpe (by simp) (by simp) ?_
 by_cases c:bM q=0
 ·have e:=hTS.symm.trans (yS c);subst e;simp[c,hhb]
 have hne:q.row≠[]:=fun h=>c (g.peek_zero.2 h);have hl:0<q.row.length:=List.length_pos_iff.2 hne;obtain⟨L,hL⟩:∃L,q.row.length=L+1:=⟨q.row.length -1,by omega⟩;have hpk:=g.inr _ (g.peek_mem c);obtain⟨w,hw⟩:∃w,q.row.getD L 0=w:=⟨_,rfl⟩;have hwi:=g.inr w (by rw[←hw];exact aW (by omega));have hLl:L<q.row.length:=by omega
 have hgL:q.row[L]=w:=by rw[←hw];exact lu hLl
 have e:=hTS.symm.trans (B8 c hL hw);clear hTS;subst e;obtain⟨pk,hpkn⟩:=Int.eq_ofNat_of_zero_le (show 0≤bM q by omega);have hpk':bM q=(pk:Int):=hpkn;rw[hpk']at hpk⊢;have hw1:aM (L:Int)=(L:Int):=ah (by omega) (by omega);obtain⟨row2,hr2⟩:∃r,(q.row.set 0 w).take L=r:=⟨_,rfl⟩;obtain⟨pl2,hp2⟩:∃r,(q.pl.set w.toNat 0).set pk (-1)=r:=⟨_,rfl⟩;rw[hr2,Int.toNat_natCast,hp2];obtain⟨F,hF⟩:∃F:HS,(if 0<L then⟨q.sc,(dR q.sc (row2.getD 0 0) L 0 row2 pl2).1,(dR q.sc (row2.getD 0 0) L 0 row2 pl2).2⟩else⟨q.sc,row2,pl2⟩)=F:=⟨_,rfl⟩;rw[hF];have hset:=wK h b q hb 0 w hl (by rw[g.pll];omega);have hpl1:pk<q.pl.length:=by rw[g.pll];omega
 have c2:¬pk=0:=by omega
 simp only[ap]at hset;simp[hlt,hb',ap,hL,hw1,hgL,c2];refine⟨by omega,ak.intro hset (by simp) ?_⟩;rintro _ _ ⟨rfl,rfl⟩;have hirow:List.take L (af (q.row.set 0 w))=af row2:=by rw[Bt,hr2]
 have hl2:row2.length=L:=by rw[←hr2];simp[hL]
 have hp2l:pl2.length=n+1:=by rw[←hp2];simp[g.pll]
 have hin2:rL row2 pl2.length:=fun x hx=>by
  rw[hp2l];rw[←hr2]at hx;rcases List.mem_or_eq_of_mem_set (List.mem_of_mem_take hx)with hx|hx
  ·exact g.inr x hx
  ·omega
 simp[hlt,hL,hw1,hpl1,hirow,gV,hr2,hp2];refine⟨by omega,fun c3=>?_,fun c3=>?_⟩
 ·have hdn:=wM (h.set b (ap ⟨q.sc,row2,pl2⟩)) b ⟨q.sc,row2,pl2⟩ (fi hlt _) 0 (by dsimp only;omega) hin2 (by dsimp only;rw[hp2l,g.sl]) (by dsimp only;omega);dsimp only at hdn;rw[hl2]at hdn;rw[if_pos c3]at hF;obtain⟨R,hR⟩:∃R,dR q.sc (row2.getD 0 0) L 0 row2 pl2=R:=⟨_,rfl⟩;rw[hR]at hdn hF;simp only[ap]at hdn;refine ak.intro hdn (by simp) ?_;rintro _ _ ⟨rfl,rfl⟩;rw[←hF];simp
 ·rw[if_neg (by omega)]at hF;rw[←hF]
def iC(i:Nat):List Int:=(List.range i).map fun j=>((j+1:Nat):Int)
def gn(n i:Nat):List Int:=(List.range (n+1)).map fun j=>if j≤i then((j -1:Nat):Int)else 0
theorem B9{n i:Nat}(h:i<n):(gn n i).set (i+1) i=gn n (i+1):=by
 apply List.ext_getElem
 ·simp[gn]
 ·intro j h1 h2;rw[List.getElem_set];simp only[gn,List.getElem_map,List.getElem_range]
  by_cases e:i+1=j
  ·subst e;simp
  ·rw[if_neg e]
   by_cases e2:j≤i
   ·rw[if_pos e2,if_pos (by omega)]
   ·rw[if_neg e2,if_neg (by omega)]
theorem Ca(n:Nat):gn n n=(lW n).pl:=by
 apply List.ext_getElem?;intro j;simp only[gn,lW];cases j with
 |zero=>simp
 |succ j=>
  rw[List.getElem?_cons_succ,List.getElem?_map,List.getElem?_map]
  by_cases c:j<n
  ·simp[c];omega
  ·simp[c]
theorem yT(n:Nat):gn n 0=List.replicate (n+1) 0:=by
 apply List.ext_getElem
 ·simp[gn]
 ·intro j h1 h2;simp only[gn,List.getElem_map,List.getElem_range,List.getElem_replicate];split
  ·rename_i c;have:j=0:=by omega
   subst this;rfl
  ·rfl
theorem yU(n:Nat):List.replicate n [ae 0]=af (List.replicate n 0):=by simp[af]
set_option maxRecDepth 16000 in
theorem He(h:List (List SV))(vars:Int):
 aE Tryz.prog 64 [ae vars] h (fun r h'=>if 0≤vars∧vars≤100000 then r=.pv (.tup [.ptr h.length 0,ae 0])∧h'=h++[ap (lW vars.toNat)]else r=.pv (.tup [.lit (.pointer none),ae 2])∧h'=h):=by
 refine Dm [3] [2,3] aG Tryz.func64 (by kernel_rfl) rfl (fun _ _=>results_tmp2 rfl _ _ _) (by kernel_rfl) (Nat.le_of_ble_eq_true rfl) ?_
 by_cases c:0≤vars∧vars≤100000
 rotate_left
 ·have c2:vars<0∨100000<vars:=by omega
  rcases c2 with c2|c2
  ·have c3:¬0≤vars:=by omega
   simp[c2,c3]
  ·have c3:0≤vars:=by omega
   have c4:¬vars≤100000:=by omega
   have c5:¬vars<0:=by omega
   simp[c2,c3,c4,c5]
 ·obtain⟨n,hn⟩:=Int.eq_ofNat_of_zero_le c.1;have hn':vars=(n:Int):=hn;subst hn';have c2:n≤100000:=by omega
  have c3:(n:Int)≤100000:=by omega
  have hw:aM ((n:Int)+1)=((n+1:Nat):Int):=by rw[ah (by omega) (by omega)];omega
  simp[c2,c3,hw];refine aY.meet (.take 0 (.take 1 (.take 3 (.take 4 (.fork [(2,.fork [(5,.fork [(6,.fork [(7,.take 8 .done)])])]),(5,.fork [(2,.fork [(6,.fork [(7,.take 8 .done)])])])])))))
   ⟨[(0,.pv (ae n)),(4,.pv (.ptr h.length 0))],h++[[.own true 1 (af (List.replicate (n+1) 0)),.pv (.lit (.slice none 0 0)),.own true 1 (af (List.replicate (n+1) 0))]]⟩ (by kernel_rfl) ?_ ?_
  ·simp[hw];have hz:List.replicate (n+1) [ae 0]=af (List.replicate (n+1) 0):=yU _;refine⟨⟨by omega,by omega,by omega,by omega,aj.keep (by simp) (by simp[←hz])⟩,by omega,by omega,by omega,by omega,aj.keep (by simp) (by simp[←hz])⟩
  ·have hlen:h.length<(h++[[SV.own true 1 (af (List.replicate (n+1) 0)),.pv (.lit (.slice none 0 0)),.own true 1 (af (List.replicate (n+1) 0))]]).length:=by simp
   simp;refine aH.intro (S:=fun(i:Nat)=>⟨[(0,.pv (ae n)),(4,.pv (.ptr h.length 0)),(5,.pv (ae ((i:Int)+1)))],h++[ap ⟨List.replicate (n+1) 0,iC i,gn n i⟩]⟩)
    (fun i=>i≤n) (fun i=>n -i) 0 ?_ ?_ ?_
   ·refine(aj.nilCell (b:=h.length) (k:=1) (xs:=[SV.own true 1 (af (List.replicate (n+1) 0)),.pv (.lit (.slice none 0 0)),.own true 1 (af (List.replicate (n+1) 0))]) 1 true (by simp) (by simp)).trans (aj.keep (by simp) ?_);simp[ap,iC,yT,af]
   ·omega
   ·intro i hi
    by_cases c4:i<n
    ·have hw2:aM ((i:Int)+1)=(i:Int)+1:=ah (by omega) (by omega);have hw3:aM ((i:Int)+1+1)=(i:Int)+1+1:=ah (by omega) (by omega);have hpl:i+1<(gn n i).length:=by simp[gn];omega
     have hpl2:(i:Int)+1<(gn n i).length:=by simp[gn];omega
     have hle:(i:Int)+1≤n:=by omega
     have hrl:(iC i).length=i:=by simp[iC]
     have htn:((i:Int)+1).toNat=i+1:=by omega
     simp[ap,hle,hpl,hpl2,hw2,hrl,htn];have hr1:af (iC i)++[[ae ((i:Int)+1)]]=af (iC (i+1)):=by
      rw[tp];simp[iC,List.range_succ]
     have hp1:(af (gn n i)).set (i+1) [ae (i:Int)]=af (gn n (i+1)):=by rw[gV,B9 c4]
     refine⟨by omega,by omega,i+1,by dsimp only;omega,by dsimp only;omega,aj.keep ?_ ?_⟩
     ·simp[hw3]
     ·simp[hr1,hp1]
    ·have hie:i=n:=by omega
     subst hie;have hle:¬(i:Int)+1≤i:=by omega
     simp[hle];simp[lW,Ca,iC,ap]
end Go.AX