/-
  Contracts: slices.Compact of numbers.
  Contracts: heaps.
  Contracts: heaps are put in order.
  Contracts: heaps: down.
  Contracts: heaps: order, halving, and all that is done with one.
  The plain law of heaps: what stays so, whatever is done.
  Contracts: what is done with a heap.
  Contracts: whether a formula holds (package cnf).
-/
import Derived.Test.YtepodadinenmnaaGreatS14AxRfA
import Derived.Test.YtepodadinenmnaaGreatS14AxEvC
import Derived.Test.YtepodadinenmnaaGreatAxBM
import Derived.Test.YtepodadinenmnaaGreatS14AxHpP
import Derived.Test.YtepodadinenmnaaGreatS14AxMovR
namespace Go.AX
open Go.Proofs
set_option linter.unusedSimpArgs false
def aR(zs:List Int):Nat→List Int
 |0=>[]
 |j+1=>if j=0∨zs.getD j 0≠zs.getD (j -1) 0 then aR zs j++[zs.getD j 0]else aR zs j
def cW(zs:List Int):List Int:=aR zs zs.length
theorem mK(zs:List Int):∀j,(aR zs j).length≤j
 |0=>Nat.le_refl _
 |j+1=>by
  have:=mK zs j;rw[aR];split
  ·rw[List.length_append,List.length_singleton];omega
  ·omega
theorem qD(zs:List Int):∀j,0<j→0<(aR zs j).length
 |0,h=>by omega
 |1,_=>by rw[aR,if_pos (.inl rfl)];simp
 |j+2,_=>by
  have:=qD zs (j+1) (by omega);rw[aR];split
  ·rw[List.length_append];omega
  ·exact this
def Io(zs:List Int)(k:Option Nat)(rows:List (List PV)):Prop:=k=some (cW zs).length∧rows=az (cW zs++List.replicate (zs.length -(cW zs).length) 0)
theorem qE(zs:List Int)(hl:zs.length≤1000000):tT Tryz.prog 140 1 (az zs) [] (Io zs):=by
 refine tT.ofInts (by kernel_rfl) trivial trivial (fun hne pre suf cp hcp hmx=>?_) (fun he q cp=>?_)
 ·refine l9 aG Tryz.func140 (by kernel_rfl) rfl rfl (by kernel_rfl) (Nat.le_of_ble_eq_true rfl) ?_
  by_cases c2:zs.length<2
  ·have c2':(zs.length:Int)<2:=by omega
   simp[c2,c2'];have h1:zs.length=1:=by
    have:=List.length_pos_iff.2 hne;omega
   have h2:cW zs=zs:=by
    unfold cW;rw[h1,aR,if_pos (.inl rfl),aR,List.nil_append]
    match zs,h1 with
    |[x],_=>rfl
   exact⟨some zs.length,zs,⟨by rw[h2],by rw[h2];simp⟩,rfl,fun m hm=>by cases hm;exact Nat.le_refl _,rfl,rfl⟩
  have c2':¬(zs.length:Int)<2:=by omega
  simp[c2,c2'];refine aH.intro (S:=fun(k:Nat)=>⟨[(0,.pv (.bsl 0 1 pre.length zs.length cp)),(3,.pv (ae k))],[blk pre zs suf]⟩) (fun k=>1≤k∧k≤zs.length∧aR zs k=zs.take k) (fun k=>zs.length -k) 1 ?_ ⟨Nat.le_refl _,by omega,?_⟩ ?_
  ·exact aj.to (by simp) rfl (by simp) (by simp) (by simp[eO])
  ·rw[aR,if_pos (.inl rfl),aR,List.nil_append]
   match zs,hne with
   |x::l,_=>rfl
  ·rintro k ⟨h1,h2,h3⟩;have hlen:=dZ pre zs suf
   by_cases ck:k<zs.length
   ·have hw:aM ((k:Int)+1)=((k+1:Nat):Int):=by rw[ah (by omega) (by omega)];omega
    have hw1:aM ((k:Int) -1)=((k -1:Nat):Int):=by rw[ah (by omega) (by omega)];omega
    have hg1:=ju pre zs suf (i:=k) ck;have hg2:=ju pre zs suf (i:=k -1) (by omega);have e1:zs.getD k 0=zs[k]:=by simp[ck]
    have e2:zs.getD (k -1) 0=zs[k -1]:=by simp[show k -1<zs.length by omega]
    have hct:aR zs (k+1)=if zs[k]≠zs[k -1]then aR zs k++[zs[k]]else aR zs k:=by
     rw[aR,e1,e2]
     by_cases d:zs[k]≠zs[k -1]
     ·rw[if_pos (.inr d),if_pos d]
     ·rw[if_neg (fun h=>h.elim (by omega) d),if_neg d]
    simp[ck,hw1,hg1,hg2,hlen];refine⟨by omega,by omega,by omega,fun d=>⟨⟨by omega,by omega⟩,?_⟩,fun d=>⟨k+1,by(try dsimp only);omega,⟨by omega,by omega,?_⟩,aj.to (by simp[hw]) rfl (by simp) (by simp) (by simp[eO])⟩⟩;rotate_left
    ·rw[hct,if_pos d,h3,List.take_add_one,List.getElem?_eq_getElem ck];rfl
    rw[if_neg (fun h=>h d),h3]at hct;refine aH.intro (S:=fun(y:Nat×List Int)=>⟨[(0,.pv (.bsl 0 1 pre.length zs.length cp)),(3,.pv (ae ((aR zs (k+y.1)).length:Nat))),(4,.pv (.bsl 0 1 (pre.length+k) (zs.length -k) (cp -k))),(5,.pv (ae y.1))],[blk pre y.2 suf]⟩)
     (fun y=>1≤y.1∧k+y.1≤zs.length∧(aR zs (k+y.1)).length<k+y.1∧y.2.length=zs.length∧y.2.take (aR zs (k+y.1)).length=aR zs (k+y.1)∧y.2.drop (k+y.1 -1)=zs.drop (k+y.1 -1)) (fun y=>zs.length -y.1) (1,zs) ?_ ?_ ?_
    ·refine aj.to ?_ rfl (by simp) (by simp) (by simp[eO]);have:(aR zs (k+1)).length=k:=by rw[hct,List.length_take];omega
     simp[this]
    ·have:(aR zs (k+1)).length=k:=by rw[hct,List.length_take];omega
     refine⟨Nat.le_refl _,by dsimp only;omega,by dsimp only;omega,rfl,?_,rfl⟩;dsimp only;rw[this,hct]
    ·rintro⟨j,cur⟩ ⟨i1,i2,i3,i4,i5,i6⟩;dsimp only at i1 i2 i3 i4 i5 i6;have hlen:=dZ pre cur suf
     by_cases cj:k+j<zs.length
     ·have cj':(j:Int)<((zs.length -k:Nat):Int):=by omega
      have hj1:aM ((j:Int) -1)=((j -1:Nat):Int):=by rw[ah (by omega) (by omega)];omega
      have hj2:aM ((j:Int)+1)=((j+1:Nat):Int):=by rw[ah (by omega) (by omega)];omega
      have hcur:∀i (h:i<zs.length),k+j -1≤i→cur[i]'(by omega)=zs[i]:=by
       intro i h hi;have:=congrArg (fun l=>l[i -(k+j -1)]?) i6;simp only[List.getElem?_drop]at this;rw[show k+j -1+(i -(k+j -1))=i by omega,List.getElem?_eq_getElem (by omega),List.getElem?_eq_getElem h]at this;exact Option.some.inj this
      have hg1:=ju pre cur suf (i:=k+j) (by omega);have hg2:=ju pre cur suf (i:=k+(j -1)) (by omega);rw[hcur (k+j) cj (by omega),←Nat.add_assoc]at hg1;have e3:cur[k+(j -1)]'(by omega)=zs[k+(j -1)]:=hcur _ (by omega) (by omega);rw[e3,←Nat.add_assoc]at hg2;have e1:zs.getD (k+j) 0=zs[k+j]:=by simp[cj]
      have e2:zs.getD (k+j -1) 0=zs[k+(j -1)]:=by
       have:k+j -1=k+(j -1):=by omega
       rw[this];simp[show k+(j -1)<zs.length by omega]
      have hcj:aR zs (k+(j+1))=if zs[k+j]≠zs[k+(j -1)]then aR zs (k+j)++[zs[k+j]]else aR zs (k+j):=by
       rw[←Nat.add_assoc,aR,e1,e2]
       by_cases d:zs[k+j]≠zs[k+(j -1)]
       ·rw[if_pos (.inr d),if_pos d]
       ·rw[if_neg (fun h=>h.elim (by omega) d),if_neg d]
      have cj2:j<zs.length -k:=by omega
      have cj3:j -1<zs.length -k:=by omega
      simp[cj2,cj3,hj1,hg1,hg2,hlen];refine⟨by omega,by omega,fun d=>?_,fun d=>?_⟩
      ·rw[if_pos d]at hcj;have hw2:aM (((aR zs (k+j)).length:Int)+1)=(((aR zs (k+j)).length+1:Nat):Int):=by rw[ah (by omega) (by omega)];omega
       have hset:=ul pre cur suf (i:=(aR zs (k+j)).length) zs[k+j] (by omega);refine⟨by omega,by omega,by omega,(j+1,cur.set (aR zs (k+j)).length zs[k+j]),by(try dsimp only);omega,⟨by(try dsimp only);omega,by(try dsimp only);omega,?_,by(try dsimp only);rw[List.length_set];exact i4,?_,?_⟩,aj.to (by simp[hj2,hw2,hcj]) (by simp[hset]) (by simp) (by simp) (by simp[eO])⟩
       ·dsimp only;rw[hcj,List.length_append,List.length_singleton];omega
       ·dsimp only;rw[hcj,List.length_append,List.length_singleton,List.take_add_one,List.take_set_of_le (Nat.le_refl _),i5,List.getElem?_set_self (by omega)];rfl
       ·dsimp only;rw[List.drop_set_of_lt (by omega)];have:=congrArg (List.drop 1) i6;rw[List.drop_drop,List.drop_drop]at this
        rwa [show k+j -1+1=k+(j+1) -1 by omega]at this
      ·rw[if_neg (fun h=>h d)]at hcj;exact⟨(j+1,cur),by(try dsimp only);omega,⟨by(try dsimp only);omega,by(try dsimp only);omega,by(try dsimp only);rw[hcj];omega,i4,by(try dsimp only);rw[hcj];exact i5,by
        dsimp only;have:=congrArg (List.drop 1) i6;rw[List.drop_drop,List.drop_drop]at this
        rwa [show k+j -1+1=k+(j+1) -1 by omega]at this⟩,aj.to (by simp[hj2,hcj]) rfl (by simp) (by simp) (by simp[eO])⟩
     ·have hj:k+j=zs.length:=by omega
      have cj2:¬j<zs.length -k:=by omega
      rw[hj]at i3 i5;have hpos:=qD zs zs.length (by omega);have hfill:=qA pre cur suf (i:=(aR zs zs.length).length) (n:=zs.length -(aR zs zs.length).length) 0 (by omega);simp[cj2,hj,hlen];refine⟨⟨by omega,by omega⟩,by omega,by omega,⟨by omega,by omega⟩,some (cW zs).length,cW zs++List.replicate (zs.length -(cW zs).length) 0,⟨rfl,rfl⟩,?_,fun m hm=>?_,rfl,?_⟩
      ·unfold cW;simp;omega
      ·cases hm;unfold cW;omega
      ·unfold cW;rw[hfill,i5,List.drop_eq_nil_of_le (by omega),List.append_nil]
   ·have:k=zs.length:=by omega
    subst this;simp;rw[List.take_length]at h3;exact⟨some zs.length,zs,⟨by unfold cW;rw[h3],by unfold cW;rw[h3];simp⟩,rfl,fun m hm=>by cases hm;exact Nat.le_refl _,rfl,rfl⟩
 ·subst he;refine aw aG Tryz.func140 (by kernel_rfl) rfl rfl (by kernel_rfl) (Nat.le_of_ble_eq_true rfl) ?_;simp;exact⟨some 0,⟨rfl,rfl⟩,.inr rfl,rfl⟩
theorem fh{P:Program}{fn:Func}(hr:fn.results=#[]) (tmps:Array Value) (w:World):(results fn tmps).run P w=.ok (.tuple (([]:List Nat).map fun t=>tmps.getD t undef).toArray) w:=by
 simp[results,hr]
structure HS where
  sc:List Int
  row:List Int
  pl:List Int
def ap(q:HS):List SV:=[.own true 1 (af q.sc),.own true 1 (af q.row),.own true 1 (af q.pl)]
def dU(q:HS):List PV:=[.seq false 1 (af q.sc),.seq false 1 (af q.row),.seq false 1 (af q.pl)]
theorem gV(l:List Int)(i:Nat)(x:Int):(af l).set i [ae x]=af (l.set i x):=by simp[af,List.map_set]
theorem pR(q:HS)(hq:0<q.sc.length):ao Tryz.prog 174 [.iptr 3 [dU q] 0 0] (fun r=>r=.pv (BL true)):=by
 refine aw aG Tryz.func174 (by kernel_rfl) rfl rfl (by kernel_rfl) (Nat.le_of_ble_eq_true rfl) ?_;simp[dU,hq]
def rm(q:HS)(v:Int):Bool:=decide (1≤v)&&decide (v<q.sc.length)
theorem EW(q:HS)(hq:0<q.sc.length)(v:Int):ao Tryz.prog 212 [.iptr 3 [dU q] 0 0,ae v] (fun r=>r=.pv (BL (rm q v))):=by
 refine aw aG Tryz.func212 (by kernel_rfl) rfl rfl (by kernel_rfl) (Nat.le_of_ble_eq_true rfl) ?_;have h1:=pR q hq;simp only[dU]at h1;simp[dU];refine am.intro h1 (by simp) ?_;simp[rm]
def G9(q:HS)(v:Int):Int:=if rm q v then 0 else 10
theorem AB(q:HS)(hq:0<q.sc.length)(v:Int):ao Tryz.prog 209 [.iptr 3 [dU q] 0 0,ae v] (fun r=>r=.pv (ae (G9 q v))):=by
 refine aw aG Tryz.func209 (by kernel_rfl) rfl rfl (by kernel_rfl) (Nat.le_of_ble_eq_true rfl) ?_;have h1:=pR q hq;have h2:=EW q hq v;simp only[dU]at h1 h2;simp[dU];refine am.intro h1 (by simp) ?_;simp;refine am.intro h2 (by simp) ?_;simp[G9]
theorem uO(q:HS)(hq:0<q.sc.length)(hpl:q.pl.length=q.sc.length)(v:Int):ao Tryz.prog 132 [.iptr 3 [dU q] 0 0,ae v] (fun r=>r=.pv (BL (rm q v&&decide (0≤q.pl.getD v.toNat 0)))):=by
 refine aw aG Tryz.func132 (by kernel_rfl) rfl rfl (by kernel_rfl) (Nat.le_of_ble_eq_true rfl) ?_;have h2:=EW q hq v;simp only[dU]at h2;simp[dU];refine am.intro h2 (by simp) ?_
 by_cases c:rm q v=true
 ·have c2:=c;simp only[rm,Bool.and_eq_true,decide_eq_true_eq]at c2;have h3:v.toNat<q.pl.length:=by omega
  simp[c,h3];omega
 ·simp[c]
theorem AD(q:HS)(hq:0<q.sc.length):ao Tryz.prog 100 [.iptr 3 [dU q] 0 0] (fun r=>r=.pv (ae q.row.length)):=by
 refine aw aG Tryz.func100 (by kernel_rfl) rfl rfl (by kernel_rfl) (Nat.le_of_ble_eq_true rfl) ?_;have h1:=pR q hq;simp only[dU]at h1;simp[dU];refine am.intro h1 (by simp) ?_;simp
def bM(q:HS):Int:=q.row.getD 0 0
theorem EX(q:HS)(hq:0<q.sc.length):ao Tryz.prog 175 [.iptr 3 [dU q] 0 0] (fun r=>r=.pv (ae (bM q))):=by
 refine aw aG Tryz.func175 (by kernel_rfl) rfl rfl (by kernel_rfl) (Nat.le_of_ble_eq_true rfl) ?_;have h1:=AD q hq;simp only[dU]at h1;simp[dU];refine am.intro h1 (by simp) ?_;simp[bM];cases hr:q.row with
 |nil=>simp
 |cons x xs=>simp
theorem rn(q:HS)(v w:Nat)(hv:v<q.sc.length)(hw:w<q.sc.length):ao Tryz.prog 251 [.iptr 3 [dU q] 0 0,ae v,ae w] (fun r=>r=.pv (BL (i7 q.sc v w))):=by
 refine aw aG Tryz.func251 (by kernel_rfl) rfl rfl (by kernel_rfl) (Nat.le_of_ble_eq_true rfl) ?_;simp[dU,hv,hw,i7];constructor
 ·intro c;simp[c]
 ·intro c;simp[c]
theorem pS(h:List (List SV))(b:Nat)(q:HS)(hb:h[b]?=some (ap q))(i v:Nat)(hi:i<q.row.length)(hv:v<q.pl.length):
 aE Tryz.prog 176 [.ptr b 0,ae i,ae v] h (fun r h'=>r=.pv (.tup [])∧h'=h.set b (ap ⟨q.sc,q.row.set i v,q.pl.set v i⟩)):=by
 refine sF [] aG Tryz.func176 (by kernel_rfl) rfl (fun _ _=>fh rfl _ _) (by kernel_rfl) (Nat.le_of_ble_eq_true rfl) ?_;obtain⟨hlt,hb'⟩:=List.getElem?_eq_some_iff.1 hb;simp[hb',hlt,ap,hi,hv,gV]
theorem ge{h:List (List SV)}{b:Nat}{x:List SV}(hb:h[b]?=some x):h.set b x=h:=by
 apply List.ext_getElem?;intro i;rw[List.getElem?_set];split
 ·rename_i e;subst e;rw[if_pos (List.getElem?_eq_some_iff.1 hb).1,hb]
 ·rfl
theorem nR{h:List (List SV)}{b:Nat}(hlt:b<h.length)(q:HS)(n:Nat):bq (h.set b (ap q)) (n+1) b 0=.iptr 3 [dU q] 0 0:=by
 simp[bq,hlt,ap,dU,frzC]
theorem fL{h:List (List SV)}{b:Nat}{q:HS}(hb:h[b]?=some (ap q))(n:Nat):bq h (n+1) b 0=.iptr 3 [dU q] 0 0:=by
 obtain⟨hlt,hb'⟩:=List.getElem?_eq_some_iff.1 hb;simp[bq,hlt,hb',ap,dU,frzC]
theorem fi{h:List (List SV)}{b:Nat}(hlt:b<h.length)(x:List SV):(h.set b x)[b]?=some x:=by simp[hlt]
set_option maxRecDepth 16000 in
theorem EY(h:List (List SV))(b:Nat)(q:HS)(hb:h[b]?=some (ap q))(i:Nat)(hi:i<q.row.length)(hin:rL q.row q.pl.length)(hl:q.pl.length=q.sc.length)(hs:q.row.length≤1000000):
 aE Tryz.prog 210 [.ptr b 0,ae i] h (fun r h'=>r=.pv (.tup [])∧h'=h.set b (ap ⟨q.sc,(oX q.sc (q.row.getD i 0) i q.row q.pl).1,(oX q.sc (q.row.getD i 0) i q.row q.pl).2⟩)):=by
 refine sF [] aG Tryz.func210 (by kernel_rfl) rfl (fun _ _=>fh rfl _ _) (by kernel_rfl) (Nat.le_of_ble_eq_true rfl) ?_;obtain⟨hlt,hb'⟩:=List.getElem?_eq_some_iff.1 hb;have hv:=hin (q.row.getD i 0) (aW hi);obtain⟨v,hve⟩:=Int.eq_ofNat_of_zero_le (show 0≤q.row.getD i 0 by omega);have hve':q.row.getD i 0=(v:Int):=hve;have hvi:q.row[i]=(v:Int):=by rw[←hve'];simp[hi]
 rw[hve']at hv⊢;have hvl:v<q.pl.length:=by omega
 simp[hb',hlt,ap,hi,hvi];refine aH.intro (S:=fun(x:Nat×List Int×List Int)=>⟨[(0,.pv (.ptr b 0)),(1,.pv (ae x.1)),(4,.pv (.fn (.func 251) [.ptr b 0] [])),(5,.pv (ae v))],h.set b (ap ⟨q.sc,x.2.1,x.2.2⟩)⟩)
  (fun x=>x.1<x.2.1.length∧x.2.1.length=q.row.length∧x.2.2.length=q.pl.length∧rL x.2.1 q.pl.length∧oX q.sc v x.1 x.2.1 x.2.2=oX q.sc v i q.row q.pl) (fun x=>x.1) (i,q.row,q.pl) ?_ ?_ ?_
 ·exact aj.keep (by simp) (ge hb).symm
 ·exact⟨hi,rfl,rfl,hin,rfl⟩
 ·rintro⟨j,row,pl⟩ ⟨k1,k2,k3,k4,k5⟩;dsimp only at k1 k2 k3 k4 k5;rcases Nat.eq_zero_or_pos j with h0|h0
  ·subst h0;have hrl:0<row.length:=k1;simp[hlt,ap];refine ak.intro (pS _ b ⟨q.sc,row,pl⟩ (fi hlt _) 0 v hrl (by dsimp only;omega)) (by simp) ?_;rintro _ _ ⟨rfl,rfl⟩;rw[←k5];unfold oX;simp[ap]
  ·obtain⟨k,rfl⟩:∃k,j=k+1:=⟨j -1,by omega⟩;obtain⟨p,hp,hpk⟩:∃p:Nat,Int.tdiv (k:Int) 2=(p:Int)∧p=k/2:=⟨k/2,rfl,rfl⟩;have hw:aM ((k:Nat):Int)=(k:Int):=ah (by omega) (by omega);have hw2:aM ((p:Nat):Int)=(p:Int):=ah (by omega) (by omega);have hk2:p<row.length:=by omega
   have hin2:=k4 (row.getD p 0) (aW hk2);obtain⟨u,hu⟩:=Int.eq_ofNat_of_zero_le (show 0≤row.getD p 0 by omega);have hu':row.getD p 0=(u:Int):=hu;have hui:row[p]=(u:Int):=by rw[←hu'];simp[hk2]
   have hbt:=rn ⟨q.sc,row,pl⟩ v u (by dsimp only;omega) (by dsimp only;omega);simp[hlt,ap,hw,hp,hw2,hk2,hui];rw[←ap.eq_1 ⟨q.sc,row,pl⟩,nR hlt];refine ak.introP hbt (by simp) (by simp) ?_;rw[ap.eq_1 ⟨q.sc,row,pl⟩];have hst:=pS (h.set b (ap ⟨q.sc,row,pl⟩)) b ⟨q.sc,row,pl⟩ (fi hlt _) (k+1) v k1 (by dsimp only;omega);have hst2:=pS (h.set b (ap ⟨q.sc,row,pl⟩)) b ⟨q.sc,row,pl⟩ (fi hlt _) (k+1) u k1 (by dsimp only;omega)
   push_cast at hst hst2
   have hup:oX q.sc v (k+1) row pl=if i7 q.sc v u=true then oX q.sc v p (row.set (k+1) u) (pl.set u (k+1:Nat))else(row.set (k+1) v,pl.set v (k+1:Nat)):=by
    rw[oX];have e1:(k+1 -1)/2=p:=by omega
    simp only[e1,hu']
    by_cases c:i7 q.sc v u=true
    ·rw[dif_pos ⟨by omega,c⟩,if_pos c];rfl
    ·rw[dif_neg (fun h=>c h.2),if_neg c];rfl
   cases hbv:i7 q.sc v u with
   |false=>
    simp[hlt,ap];refine ak.intro hst (by simp) ?_;rintro _ _ ⟨rfl,rfl⟩;rw[←k5,hup,hbv];simp[ap]
   |true=>
    simp[hlt,ap,hw,hp,hw2,hk2,hui];refine ak.intro hst2 (by simp) ?_;rintro _ _ ⟨rfl,rfl⟩;simp[hw,hp,hw2];refine⟨(p,row.set (k+1) u,pl.set u (k+1:Nat)),by dsimp only;omega,⟨by dsimp only;simp;omega,by simpa using k2,by simpa using k3,?_,?_⟩,aj.keep ?_ ?_⟩
    ·intro x hx;rcases List.mem_or_eq_of_mem_set hx with hx|hx
     ·exact k4 x hx
     ·omega
    ·rw[←k5,hup,hbv];rfl
    ·simp
    ·simp[ap]
theorem oY(q:HS)(v w:Int)(hv:0≤v∧v<q.sc.length)(hw:0≤w∧w<q.sc.length):ao Tryz.prog 251 [.iptr 3 [dU q] 0 0,ae v,ae w] (fun r=>r=.pv (BL (i7 q.sc v w))):=by
 obtain⟨a,ha⟩:=Int.eq_ofNat_of_zero_le hv.1;obtain⟨c,hc⟩:=Int.eq_ofNat_of_zero_le hw.1;have:=rn q a c (by omega) (by omega);rw[ha,hc];exact this
theorem wK(h:List (List SV))(b:Nat)(q:HS)(hb:h[b]?=some (ap q))(i:Nat)(v:Int)(hi:i<q.row.length)(hv:0≤v∧v<q.pl.length):
 aE Tryz.prog 176 [.ptr b 0,ae i,ae v] h (fun r h'=>r=.pv (.tup [])∧h'=h.set b (ap ⟨q.sc,q.row.set i v,q.pl.set v.toNat i⟩)):=by
 obtain⟨a,ha⟩:=Int.eq_ofNat_of_zero_le hv.1;have:=pS h b q hb i a hi (by omega);rw[ha];exact this
def EZ(sc row:List Int)(v:Int)(i:Nat):Int×Nat:=if 2*i+1<row.length∧i7 sc (row.getD (2*i+1) 0) v=true then(row.getD (2*i+1) 0,2*i+1)else(v,i)
def AF(sc row:List Int)(v:Int)(i:Nat):Nat→Int×Nat
 |0=>(v,i)
 |1=>EZ sc row v i
 |_=>eu sc row v i
theorem Ha(sc row:List Int)(v:Int)(i:Nat):eu sc row v i=if 2*i+2<row.length∧i7 sc (row.getD (2*i+2) 0) (EZ sc row v i).1=true then(row.getD (2*i+2) 0,2*i+2)else EZ sc row v i:=rfl
theorem E8{sc row:List Int}{v:Int}{i n:Nat}(hin:rL row n)(hv:1≤v∧v<n)(hi:i<row.length):1≤(EZ sc row v i).1∧(EZ sc row v i).1<n∧(EZ sc row v i).2<row.length:=by
 unfold EZ;split
 ·rename_i c;have:=hin _ (aW c.1);exact⟨this.1,this.2,c.1⟩
 ·exact⟨hv.1,hv.2,hi⟩
theorem wL{sc row:List Int}{v:Int}{i n:Nat}(hin:rL row n)(hv:1≤v∧v<n)(hi:i<row.length):1≤(eu sc row v i).1∧(eu sc row v i).1<n∧(eu sc row v i).2<row.length:=by
 rw[Ha];split
 ·rename_i c;have:=hin _ (aW c.1);exact⟨this.1,this.2,c.1⟩
 ·exact E8 hin hv hi
set_option maxRecDepth 16000 in
theorem wM(h:List (List SV))(b:Nat)(q:HS)(hb:h[b]?=some (ap q))(i:Nat)(hi:i<q.row.length)(hin:rL q.row q.pl.length)(hl:q.pl.length=q.sc.length)(hs:q.row.length≤1000000):
 aE Tryz.prog 177 [.ptr b 0,ae i] h (fun r h'=>r=.pv (.tup [])∧h'=h.set b (ap ⟨q.sc,(dR q.sc (q.row.getD i 0) q.row.length i q.row q.pl).1,(dR q.sc (q.row.getD i 0) q.row.length i q.row q.pl).2⟩)):=by
 refine sF [] aG Tryz.func177 (by kernel_rfl) rfl (fun _ _=>fh rfl _ _) (by kernel_rfl) (Nat.le_of_ble_eq_true rfl) ?_;obtain⟨hlt,hb'⟩:=List.getElem?_eq_some_iff.1 hb;have hv:=hin (q.row.getD i 0) (aW hi);have hvi:q.row[i]=q.row.getD i 0:=by simp[hi]
 generalize hve:q.row.getD i 0=v at*;simp[hb',hlt,ap,hi,hvi];refine aH.intro (S:=fun(x:Nat×Nat×List Int×List Int)=>⟨[(0,.pv (.ptr b 0)),(1,.pv (ae x.2.1)),(4,.pv (ae v))],h.set b (ap ⟨q.sc,x.2.2.1,x.2.2.2⟩)⟩)
  (fun x=>x.2.1<x.2.2.1.length∧x.2.2.1.length=q.row.length∧x.2.2.2.length=q.pl.length∧rL x.2.2.1 q.pl.length∧x.2.2.1.length≤x.2.1+x.1∧dR q.sc v x.1 x.2.1 x.2.2.1 x.2.2.2=dR q.sc v q.row.length i q.row q.pl) (fun x=>x.1) (q.row.length,i,q.row,q.pl) ?_ ?_ ?_
 ·exact aj.keep (by simp) (ge hb).symm
 ·exact⟨hi,rfl,rfl,hin,by dsimp only;omega,rfl⟩
 ·rintro⟨n,j,row,pl⟩ ⟨k1,k2,k3,k4,k5,k6⟩;dsimp only at k1 k2 k3 k4 k5 k6;have hw1:aM (2*(j:Int))=2*(j:Int):=ah (by omega) (by omega);have hww1:aM 1=1:=ah (by omega) (by omega);have hww2:aM 2=2:=ah (by omega) (by omega);obtain⟨c1,hc1⟩:∃c,c=2*j+1:=⟨_,rfl⟩;obtain⟨c2,hc2⟩:∃c,c=2*j+2:=⟨_,rfl⟩;have hw2:aM (2*(j:Int)+1)=(c1:Int):=by rw[ah (by omega) (by omega)];omega
  have hw3:aM (2*(j:Int)+2)=(c2:Int):=by rw[ah (by omega) (by omega)];omega
  have hp1:=E8 (sc:=q.sc) (i:=j) k4 hv k1;have hp2:=wL (sc:=q.sc) (i:=j) k4 hv k1;have e1:EZ q.sc row v j=if c1<row.length∧i7 q.sc (row.getD c1 0) v=true then(row.getD c1 0,c1)else(v,j):=by rw[hc1];rfl
  have e2:eu q.sc row v j=if c2<row.length∧i7 q.sc (row.getD c2 0) (EZ q.sc row v j).1=true then(row.getD c2 0,c2)else EZ q.sc row v j:=by rw[hc2];rfl
  simp[hw1,hw2,hw3];refine aH.intro (S:=fun(t:Nat)=>⟨[(0,.pv (.ptr b 0)),(1,.pv (ae j)),(4,.pv (ae v)),(5,.pv (ae (AF q.sc row v j t).1)),(6,.pv (ae (AF q.sc row v j t).2)),(24,.pv (.agg [ae c1,ae c2])),(25,.pv (ae t))],h.set b (ap ⟨q.sc,row,pl⟩)⟩)
   (fun t=>t≤2) (fun t=>2 -t) 0 ?_ ?_ ?_
  ·exact aj.keep (by simp[AF]) rfl
  ·omega
  ·intro t ht;have:t=0∨t=1∨t=2:=by omega
   rcases this with rfl|rfl|rfl
   ·by_cases hcl:c1<row.length
    ·have hri:=k4 _ (aW hcl);have hrg:row[c1]=row.getD c1 0:=by simp[hcl]
     generalize hu:row.getD c1 0=u at*;have hbt:=oY ⟨q.sc,row,pl⟩ u v (by dsimp only;omega) (by dsimp only;omega);simp[hlt,ap,AF,hcl,hrg];rw[←ap.eq_1 ⟨q.sc,row,pl⟩,nR hlt];refine ak.introP hbt (by simp) (by simp) ?_;rw[ap.eq_1 ⟨q.sc,row,pl⟩];cases hbv:i7 q.sc u v with
     |false=>
      simp;refine⟨1,by dsimp only;omega,by dsimp only;omega,aj.keep ?_ (by simp[ap])⟩;simp[hww1,AF,e1,hbv]
     |true=>
      simp[hlt,hcl,hrg];refine⟨1,by dsimp only;omega,by dsimp only;omega,aj.keep ?_ (by simp[ap])⟩;simp[hww1,AF,e1,hbv,hcl]
    ·simp[hlt,ap,AF,hcl];refine⟨1,by dsimp only;omega,by dsimp only;omega,aj.keep ?_ (by simp[ap])⟩;simp[hww1,AF,e1,hcl]
   ·generalize hbe:EZ q.sc row v j=be at*;obtain⟨best,at'⟩:=be;dsimp only at hp1
    by_cases hcl:c2<row.length
    ·have hri:=k4 _ (aW hcl);have hrg:row[c2]=row.getD c2 0:=by simp[hcl]
     generalize hu:row.getD c2 0=u at*;have hbt:=oY ⟨q.sc,row,pl⟩ u best (by dsimp only;omega) (by dsimp only;omega);simp[hlt,ap,AF,hcl,hrg,hbe];rw[←ap.eq_1 ⟨q.sc,row,pl⟩,nR hlt];refine ak.introP hbt (by simp) (by simp) ?_;rw[ap.eq_1 ⟨q.sc,row,pl⟩];cases hbv:i7 q.sc u best with
     |false=>
      simp;refine⟨2,by dsimp only;omega,by dsimp only;omega,aj.keep ?_ (by simp[ap])⟩;simp[hww2,AF,e2,hbv]
     |true=>
      simp[hlt,hcl,hrg];refine⟨2,by dsimp only;omega,by dsimp only;omega,aj.keep ?_ (by simp[ap])⟩;simp[hww2,AF,e2,hbv,hcl]
    ·simp[hlt,ap,AF,hcl,hbe];refine⟨2,by dsimp only;omega,by dsimp only;omega,aj.keep ?_ (by simp[ap])⟩;simp[hww2,AF,e2,hcl]
   ·have hn:n≠0:=by omega
    obtain⟨n,rfl⟩:∃k,n=k+1:=⟨n -1,by omega⟩;rw[dR]at k6;clear e1 e2 hp1;generalize hbe:eu q.sc row v j=be at*;obtain⟨best,at'⟩:=be;dsimp only at hp2 k6;have hst:=wK (h.set b (ap ⟨q.sc,row,pl⟩)) b ⟨q.sc,row,pl⟩ (fi hlt _) j best k1 (by dsimp only;omega);simp[hlt,ap,AF,hbe];refine ak.intro hst (by simp) ?_;rintro _ _ ⟨rfl,rfl⟩
    by_cases c:at'=j
    ·rw[if_pos c]at k6;simp[c,←k6,ap]
    ·rw[if_neg c]at k6;have c':¬(at':Int)=(j:Int):=by omega
     simp[c,c',hlt,ap,hp2,gV];have hjc:j<at':=by
      rcases wJ (sc:=q.sc) (row:=row) (v:=v) (i:=j)with⟨e,_⟩|⟨c0,e,_,_,hic,_⟩
      ·rw[hbe]at e;simp only[Prod.mk.injEq]at e;omega
      ·rw[hbe]at e;simp only[Prod.mk.injEq]at e;omega
     refine⟨(n,at',(row.set j best).set at' v,pl.set best.toNat j),by dsimp only;omega,⟨?_,?_,?_,?_,?_,k6⟩,aj.keep ?_ ?_⟩
     ·dsimp only;simp only[List.length_set];omega
     ·simpa using k2
     ·simpa using k3
     ·intro x hx;rcases List.mem_or_eq_of_mem_set hx with hx|hx
      ·rcases List.mem_or_eq_of_mem_set hx with hx|hx
       ·exact k4 x hx
       ·omega
      ·omega
     ·dsimp only;simp only[List.length_set];omega
     ·simp
     ·simp[ap]
theorem ti{sc:List Int}{v:Int}:∀(n i:Nat)(row pl:List Int),(dR sc v n i row pl).1.length=row.length∧(dR sc v n i row pl).2.length=pl.length
 |0,i,row,pl=>by simp[dR]
 |n+1,i,row,pl=>by
  rw[dR];split
  ·simp
  ·obtain⟨h1,h2⟩:=ti (sc:=sc) (v:=v) n (eu sc row v i).2 ((row.set i (eu sc row v i).1).set (eu sc row v i).2 v) (pl.set (eu sc row v i).1.toNat i);rw[h1,h2];simp
theorem pT{row:List Int}{n i:Nat}{x:Int}(h:rL row n)(hx:1≤x∧x<n):rL (row.set i x) n:=by
 intro y hy;rcases List.mem_or_eq_of_mem_set hy with hy|hy
 ·exact h y hy
 ·subst hy;exact hx
theorem wN{sc:List Int}{v:Int}{m:Nat}(hv:1≤v∧v<m):∀(n i:Nat)(row pl:List Int),i<row.length→rL row m→rL (dR sc v n i row pl).1 m
 |0,i,row,pl,hi,h=>pT h hv
 |n+1,i,row,pl,hi,h=>by
  have hp:=wL (sc:=sc) (i:=i) h hv hi;rw[dR];split
  ·exact pT h ⟨hp.1,hp.2.1⟩
  ·exact wN hv n _ _ _ (by simp only[List.length_set];exact hp.2.2) (pT (pT h ⟨hp.1,hp.2.1⟩) hv)
def gW(sc:List Int):Nat→List Int→List Int→List Int×List Int
 |0,row,pl=>(row,pl)
 |k+1,row,pl=>gW sc k (dR sc (row.getD k 0) row.length k row pl).1 (dR sc (row.getD k 0) row.length k row pl).2
set_option maxRecDepth 16000 in
theorem B2(h:List (List SV))(b:Nat)(q:HS)(hb:h[b]?=some (ap q))(hin:rL q.row q.pl.length)(hl:q.pl.length=q.sc.length)(hs:q.row.length≤1000000):
 aE Tryz.prog 248 [.ptr b 0] h (fun r h'=>r=.pv (.tup [])∧h'=h.set b (ap ⟨q.sc,(gW q.sc (q.row.length/2) q.row q.pl).1,(gW q.sc (q.row.length/2) q.row q.pl).2⟩)):=by
 refine sF [] aG Tryz.func248 (by kernel_rfl) rfl (fun _ _=>fh rfl _ _) (by kernel_rfl) (Nat.le_of_ble_eq_true rfl) ?_;obtain⟨hlt,hb'⟩:=List.getElem?_eq_some_iff.1 hb;obtain⟨m,hm,hmk⟩:∃p:Nat,Int.tdiv (q.row.length:Int) 2=(p:Int)∧p=q.row.length/2:=⟨q.row.length/2,rfl,rfl⟩;have hw:aM (m:Int)=(m:Int):=ah (by omega) (by omega);have hw1:aM ((m:Int) -1)=(m:Int) -1:=ah (by omega) (by omega);rw[←hmk];simp[hb',hlt,ap,hm,hw,hw1];refine aH.intro (S:=fun(x:Nat×List Int×List Int)=>⟨[(0,.pv (.ptr b 0)),(2,.pv (ae ((x.1:Int) -1)))],h.set b (ap ⟨q.sc,x.2.1,x.2.2⟩)⟩)
  (fun x=>x.1≤x.2.1.length∧x.2.1.length=q.row.length∧x.2.2.length=q.pl.length∧rL x.2.1 q.pl.length∧gW q.sc x.1 x.2.1 x.2.2=gW q.sc m q.row q.pl) (fun x=>x.1) (m,q.row,q.pl) ?_ ?_ ?_
 ·exact aj.keep (by simp) (ge hb).symm
 ·exact⟨by dsimp only;omega,rfl,rfl,hin,rfl⟩
 ·rintro⟨k,row,pl⟩ ⟨k1,k2,k3,k4,k5⟩;dsimp only at k1 k2 k3 k4 k5;rcases Nat.eq_zero_or_pos k with h0|h0
  ·subst h0;rw[←k5];simp[hlt,ap,gW]
  ·obtain⟨k,rfl⟩:∃i,k=i+1:=⟨k -1,by omega⟩;have hw2:aM ((k:Int) -1)=(k:Int) -1:=ah (by omega) (by omega);have hdn:=wM (h.set b (ap ⟨q.sc,row,pl⟩)) b ⟨q.sc,row,pl⟩ (fi hlt _) k (by dsimp only;omega) (by dsimp only;rw[k3];exact k4) (by dsimp only;omega) (by dsimp only;omega);have hlen:=ti (sc:=q.sc) (v:=row.getD k 0) row.length k row pl;have hinr:=wN (sc:=q.sc) (k4 _ (aW (show k<row.length by omega))) row.length k row pl (by omega) k4;rw[gW]at k5;simp only[ap]at hdn;simp[hlt,ap];refine ak.intro hdn (by simp) ?_;rintro _ _ ⟨rfl,rfl⟩;simp[hw2];refine⟨(k,_,_),by dsimp only;omega,⟨?_,?_,?_,hinr,k5⟩,aj.keep ?_ ?_⟩
   ·dsimp only;omega
   ·dsimp only;omega
   ·dsimp only;omega
   ·simp
   ·simp[ap]
def half(x:Int):Int:=aM (Int.tdiv x 2)
def gj(l:List Int)(i:Nat):List Int:=(l.take i).map half++l.drop i
theorem yQ(l:List Int)(i:Nat):(gj l i).length=l.length:=by
 simp only[gj,List.length_append,List.length_map,List.length_take,List.length_drop];omega
theorem yR{l:List Int}{i:Nat}(h:i<l.length):(gj l i)[i]?=some l[i]:=by
 have hl:((l.take i).map half).length=i:=by simp;omega
 rw[gj,List.getElem?_append_right (by omega),hl,Nat.sub_self,List.getElem?_drop];simp[h]
theorem wO{l:List Int}{i:Nat}(h:i<l.length):(gj l i).set i (half l[i])=gj l (i+1):=by
 have hl:((l.take i).map half).length=i:=by simp;omega
 unfold gj;rw[List.set_append_right _ _ (by omega),hl,Nat.sub_self,List.take_succ_eq_append_getElem h,List.drop_eq_getElem_cons h,List.map_append,List.set_cons_zero,List.append_assoc];rfl
def bW(q:HS):HS:=⟨q.sc.map half,(gW (q.sc.map half) (q.row.length/2) q.row q.pl).1,(gW (q.sc.map half) (q.row.length/2) q.row q.pl).2⟩
set_option maxRecDepth 16000 in
theorem oH(h:List (List SV))(b:Nat)(q:HS)(hb:h[b]?=some (ap q))(hq:0<q.sc.length)(hin:rL q.row q.pl.length)(hl:q.pl.length=q.sc.length)(hs:q.row.length≤1000000)(hss:q.sc.length≤1000000):
 aE Tryz.prog 169 [.ptr b 0] h (fun r h'=>r=.pv (.tup [])∧h'=h.set b (ap (bW q))):=by
 refine sF [] aG Tryz.func169 (by kernel_rfl) rfl (fun _ _=>fh rfl _ _) (by kernel_rfl) (Nat.le_of_ble_eq_true rfl) ?_;obtain⟨hlt,hb'⟩:=List.getElem?_eq_some_iff.1 hb;have h1:=pR q hq;simp;rw[fL hb];refine ak.introP h1 (by simp) (by simp) ?_;simp[hb',hlt,ap];refine aH.intro (S:=fun(i:Nat)=>⟨[(0,.pv (.ptr b 0)),(10,.pv (ae q.sc.length)),(11,.pv (ae i))],h.set b (ap ⟨gj q.sc i,q.row,q.pl⟩)⟩)
  (fun i=>i≤q.sc.length) (fun i=>q.sc.length -i) 0 ?_ ?_ ?_
 ·exact aj.keep (by simp) (by simp[gj,ge hb])
 ·omega
 ·intro i hi
  by_cases c:i<q.sc.length
  ·have hw:aM ((i:Int)+1)=((i+1:Nat):Int):=by rw[ah (by omega) (by omega)];omega
   have hlen:=yQ q.sc i;have hget:=yR c;have hget':(gj q.sc i)[i]'(by omega)=q.sc[i]:=by
    have:=List.getElem?_eq_some_iff.1 hget;exact this.2
   have hsu:=wO c;unfold half at hsu;simp[hlt,ap,c,hlen,hget',gV];refine⟨i+1,by dsimp only;omega,by dsimp only;omega,aj.keep ?_ ?_⟩
   ·simp[hw]
   ·simp[ap,hsu]
  ·have:i=q.sc.length:=by omega
   subst this;have hho:=B2 (h.set b (ap ⟨q.sc.map half,q.row,q.pl⟩)) b ⟨q.sc.map half,q.row,q.pl⟩ (fi hlt _) hin (by simpa using hl) hs;have hft:gj q.sc q.sc.length=q.sc.map half:=by simp[gj]
   simp only[ap]at hho;simp[hlt,ap,hft];refine ak.intro hho (by simp) ?_;rintro _ _ ⟨rfl,rfl⟩;simp[bW]
end Go.AX
namespace Go.AX
def d8(q:HS)(v by':Int):HS×Int:=
 if rm q v=false then(q,10)else if by'<0∨1000000000000<by' then(q,2)else
  let sc1:=q.sc.set v.toNat (q.sc.getD v.toNat 0+by')
  let q1:HS:=if 0≤q.pl.getD v.toNat 0 then⟨sc1,(oX sc1 (q.row.getD (q.pl.getD v.toNat 0).toNat 0) (q.pl.getD v.toNat 0).toNat q.row q.pl).1,(oX sc1 (q.row.getD (q.pl.getD v.toNat 0).toNat 0) (q.pl.getD v.toNat 0).toNat q.row q.pl).2⟩else⟨sc1,q.row,q.pl⟩
  (if 1000000000000<q1.sc.getD v.toNat 0 then bW q1 else q1,0)
def dV(q:HS)(v:Int):HS×Int:=
 if rm q v=false then(q,10)else if 0≤q.pl.getD v.toNat 0 then(q,21)else
  (⟨q.sc,(oX q.sc v q.row.length (q.row++[v]) q.pl).1,(oX q.sc v q.row.length (q.row++[v]) q.pl).2⟩,0)
def ep(q:HS):HS×Int:=
 if bM q=0 then(q,0)else
  let w:=q.row.getD (q.row.length -1) 0
  let row2:=(q.row.set 0 w).take (q.row.length -1)
  let pl2:=(q.pl.set w.toNat 0).set (bM q).toNat (-1)
  (if 0<q.row.length -1 then⟨q.sc,(dR q.sc (row2.getD 0 0) row2.length 0 row2 pl2).1,(dR q.sc (row2.getD 0 0) row2.length 0 row2 pl2).2⟩else⟨q.sc,row2,pl2⟩,bM q)
def lW(n:Nat):HS:=⟨List.replicate (n+1) 0,(List.range n).map fun i=>((i+1:Nat):Int),0::(List.range n).map fun i=>((i:Nat):Int)⟩
structure HpG (n:Nat) (M:Int) (q:HS):Prop where
  sl:q.sc.length=n+1
  pll:q.pl.length=n+1
  nd:q.row.Nodup
  inr:rL q.row (n+1)
  plc:PL q.row q.pl
  out:∀u:Nat,1≤u→u≤n→¬(u:Int)∈q.row→q.pl.getD u 0=-1
  ho:HO q.sc q.row 0
  rng:∀x∈q.sc,0≤x∧x≤M
namespace HpG
variable {n : Nat} {M : Int} {q : HS}
theorem few(g:HpG n M q):q.row.length≤n:=by
 have := eG q.row ((List.range n).map fun i => ((i + 1 : Nat) : Int)) g.nd (fun x hx => by
  have:=g.inr x hx;rw[List.mem_map];exact⟨(x -1).toNat,List.mem_range.2 (by omega),by omega⟩)
 simpa using this
theorem isV_iff(g:HpG n M q){v:Int}:rm q v=true↔1≤v∧v≤n:=by
 simp only[rm,Bool.and_eq_true,decide_eq_true_eq,g.sl];omega
theorem place(g:HpG n M q){v:Int}(h:v∈q.row):∃i,i<q.row.length∧q.row.getD i 0=v∧q.pl.getD v.toNat 0=(i:Int):=by
 obtain⟨i,hi,e⟩:=EU h;exact⟨i,hi,e,by have:=g.plc i hi;rwa [e]at this⟩
theorem has_iff(g:HpG n M q){v:Int}(hv:1≤v∧v≤n):0≤q.pl.getD v.toNat 0↔v∈q.row:=by
 constructor
 ·intro h;apply Classical.byContradiction;intro hn;have:=g.out v.toNat (by omega) (by omega) (by rwa [show((v.toNat:Nat):Int)=v by omega]);omega
 ·intro h;obtain⟨i,_,_,e⟩:=g.place h;rw[e];omega
theorem score(g:HpG n M q)(v:Nat):0≤q.sc.getD v 0∧(0≤M→q.sc.getD v 0≤M):=by
 by_cases h:v<q.sc.length
 ·have:=g.rng _ (aW h);exact⟨this.1,fun _=>this.2⟩
 ·have:q.sc.getD v 0=0:=by simp[List.getD_eq_getElem?_getD,h]
  rw[this];exact⟨by omega,fun h=>h⟩
theorem first(g:HpG n M q):∀j,j<q.row.length→i7 q.sc (q.row.getD j 0) (q.row.getD 0 0)=false:=by
 intro j
 induction j using Nat.strongRecOn with
 |_ j ih=>
  intro hj;rcases Nat.eq_zero_or_pos j with h0|h0
  ·subst h0;exact lQ _ _
  ·exact gU (g.ho j h0 hj (Nat.zero_le _)) (ih ((j -1)/2) (by omega) (by omega))
theorem peek_zero(g:HpG n M q):bM q=0↔q.row=[]:=by
 constructor
 ·intro h;cases hr:q.row with
  |nil=>rfl
  |cons x xs=>
   have:=g.inr x (by rw[hr];simp);simp only[bM,hr,List.getD_cons_zero]at h;omega
 ·intro h;simp[bM,h]
theorem peek_mem(g:HpG n M q)(h:bM q≠0):bM q∈q.row:=by
 cases hr:q.row with
 |nil=>exact absurd (g.peek_zero.2 hr) h
 |cons x xs=>simp[bM,hr]
end HpG
theorem tm{sc:List Int}:∀(k:Nat)(row pl:List Int),k≤row.length→row.Nodup→rL row pl.length→PL row pl→HO sc row k→DnOk sc row pl 0 (gW sc k row pl)
 |0,row,pl,_,_,_,hp,ho=>⟨List.Perm.refl _,ho,hp,fun _ _=>rfl,rfl⟩
 |k+1,row,pl,hk,hnd,hin,hp,ho=>by
  have d:=rl (sc:=sc) (v:=row.getD k 0) (k:=k) row.length k row pl (by omega) (by omega) (Nat.le_refl _) rfl hnd hin (fun j hj _=>hp j hj)
   (fun j hj0 hj hkj hne=>ho j hj0 hj (by omega)) (fun j _ _ _ h1 h2=>by omega)
  have hl:=d.perm.length_eq;have r:=tm k _ _ (by rw[hl];omega) (d.perm.nodup_iff.2 hnd) (by rw[d.len];exact fun x hx=>hin x (d.perm.mem_iff.1 hx)) d.plc d.ho;exact⟨r.perm.trans d.perm,r.ho,r.plc,fun u hu=>by rw[gW,r.out u (fun h=>hu (d.perm.mem_iff.1 h)),d.out u hu],r.len.trans d.len⟩
theorem Hb{x:Int}(h:0≤x)(h2:x≤4000000000000):half x=x/2:=by
 unfold half;have:Int.tdiv x 2=x/2:=Int.tdiv_eq_ediv_of_nonneg h;rw[this,ah (by omega) (by omega)]
theorem jH{n:Nat}{M:Int}{q:HS}(g:HpG n (2*M) q)(h0:0≤M)(hM:M≤1000000000000):HpG n M (bW q)∧(bW q).row.Perm q.row∧(bW q).sc=q.sc.map (·/2):=by
 have hsc:q.sc.map half=q.sc.map (·/2):=List.map_congr_left fun x hx=>by have:=g.rng x hx;exact Hb this.1 (by omega)
 have hr:=tm (sc:=q.sc.map half) (q.row.length/2) q.row q.pl (by omega) g.nd (by rw[g.pll];exact g.inr) g.plc (fun j h1 h2 h3=>by omega);refine⟨⟨by simp[bW,g.sl],by simp only[bW];rw[hr.len,g.pll],hr.perm.nodup_iff.2 g.nd,fun x hx=>g.inr x (hr.perm.mem_iff.1 hx),hr.plc,fun u h1 h2 hu=>?_,hr.ho,fun x hx=>?_⟩,hr.perm,hsc⟩
 ·have hu':¬(u:Int)∈q.row:=fun h=>hu (hr.perm.mem_iff.2 h);rw[show(bW q).pl.getD u 0=_ from hr.out u hu'];exact g.out u h1 h2 hu'
 ·simp only[bW,hsc,List.mem_map]at hx;obtain⟨y,hy,rfl⟩:=hx;have:=g.rng y hy;omega
theorem HpG.mono{n:Nat}{M M':Int}{q:HS}(g:HpG n M q)(h:M≤M'):HpG n M' q:=⟨g.sl,g.pll,g.nd,g.inr,g.plc,g.out,g.ho,fun x hx=>by have:=g.rng x hx;omega⟩
theorem E9{l:List Int}{i:Nat}:l.set i (l.getD i 0)=l:=by
 apply List.ext_getElem
 ·simp
 ·intro j a1 a2;rw[List.getElem_set];split
  ·rename_i e;subst e;simp[List.getD_eq_getElem?_getD,a2]
  ·rfl
def dG(q:HS)(v by':Int):HS:=
 if 0≤q.pl.getD v.toNat 0 then⟨q.sc.set v.toNat (q.sc.getD v.toNat 0+by'),(oX (q.sc.set v.toNat (q.sc.getD v.toNat 0+by')) (q.row.getD (q.pl.getD v.toNat 0).toNat 0) (q.pl.getD v.toNat 0).toNat q.row q.pl).1,(oX (q.sc.set v.toNat (q.sc.getD v.toNat 0+by')) (q.row.getD (q.pl.getD v.toNat 0).toNat 0) (q.pl.getD v.toNat 0).toNat q.row q.pl).2⟩else⟨q.sc.set v.toNat (q.sc.getD v.toNat 0+by'),q.row,q.pl⟩
theorem ro{n:Nat}{q:HS}(g:HpG n 1000000000000 q){v by':Int}(hv:1≤v∧v≤n)(c2:¬(by'<0∨1000000000000<by')):
 HpG n (2*1000000000000) (dG q v by')∧(dG q v by').row.Perm q.row∧(dG q v by').sc=q.sc.set v.toNat (q.sc.getD v.toNat 0+by')∧(dG q v by').sc.getD v.toNat 0=q.sc.getD v.toNat 0+by':=by
 have hvl:v.toNat<q.sc.length:=by rw[g.sl];omega
 have hsv:=g.score v.toNat;have hsc1:∀u:Nat,(q.sc.set v.toNat (q.sc.getD v.toNat 0+by')).getD u 0=if u=v.toNat then q.sc.getD v.toNat 0+by' else q.sc.getD u 0:=fun u=>by
  rw[aV]
  by_cases e:u=v.toNat
  ·rw[if_pos ⟨e.symm,hvl⟩,if_pos e]
  ·rw[if_neg (fun h=>e h.1.symm),if_neg e]
 have hrng:∀x∈q.sc.set v.toNat (q.sc.getD v.toNat 0+by'),0≤x∧x≤2*1000000000000:=fun x hx=>by
  rcases List.mem_or_eq_of_mem_set hx with hx|hx
  ·have:=g.rng x hx;omega
  ·omega
 generalize hs1:q.sc.set v.toNat (q.sc.getD v.toNat 0+by')=sc1 at*;have hsl:sc1.length=n+1:=by rw[←hs1,List.length_set,g.sl]
 have key:∀q1:HS,q1=(if 0≤q.pl.getD v.toNat 0 then⟨sc1,(oX sc1 (q.row.getD (q.pl.getD v.toNat 0).toNat 0) (q.pl.getD v.toNat 0).toNat q.row q.pl).1,(oX sc1 (q.row.getD (q.pl.getD v.toNat 0).toNat 0) (q.pl.getD v.toNat 0).toNat q.row q.pl).2⟩else⟨sc1,q.row,q.pl⟩)→
  HpG n (2*1000000000000) q1∧q1.row.Perm q.row∧q1.sc=sc1:=by
  intro q1 hq1
  by_cases c3:0≤q.pl.getD v.toNat 0
  ·rw[if_pos c3]at hq1;obtain⟨i,hi,hiv,hip⟩:=g.place ((g.has_iff hv).1 c3);rw[hip,Int.toNat_natCast,hiv]at hq1;have hset:q.row.set i v=q.row:=by rw[←hiv];exact E9
   have hnv:∀j,j<q.row.length→j≠i→q.row.getD j 0≠v:=fun j hj hne e=>hne (dE g.nd hj hi (by rw[e,hiv]));have hval:∀j,j<q.row.length→j≠i→sc1.getD (q.row.getD j 0).toNat 0=q.sc.getD (q.row.getD j 0).toNat 0:=fun j hj hne=>by
    have h1:=g.inr _ (aW hj);have h2:=hnv j hj hne;rw[hsc1,if_neg (by omega)]
   have hup:=EV (sc:=sc1) (v:=v) i q.row q.pl hi (by rw[hset];exact g.nd) (by rw[hset,g.pll];exact g.inr) (by rw[hset];exact fun j hj _=>g.plc j hj)
    (fun j hj0 hj hne => by
     rw[hset];have h1:=g.ho j hj0 hj (Nat.zero_le _);have h2:=hval j hj hne
     by_cases e:(j -1)/2=i
     ·rw[e,hiv]at h1⊢;rw[gd]at h1⊢;rw[h2,hsc1,if_pos rfl];omega
     ·have h3:=hval ((j -1)/2) (by omega) e;rw[gd]at h1⊢;rw[h2,h3];exact h1)
    (fun j hj0 hj hji hi0 => by
     rw[hset];have h1:=g.ho j hj0 hj (Nat.zero_le _);have h4:=g.ho i hi0 hi (Nat.zero_le _);rw[hji]at h1;have h5:=gU h1 h4;rw[gd]at h5⊢;rw[hval j hj (by omega),hval ((i -1)/2) (by omega) (by omega)];exact h5)
   obtain⟨u1,u2,u3,u4,u5⟩:=hup;rw[hset]at u1 u4;subst hq1;exact⟨⟨hsl,by dsimp only;rw[u5,g.pll],u1.nodup_iff.2 g.nd,fun x hx=>g.inr x (u1.mem_iff.1 hx),u3,fun u h1 h2 hu=>by
    have hu':¬(u:Int)∈q.row:=fun h=>hu (u1.mem_iff.2 h);dsimp only;rw[u4 u hu'];exact g.out u h1 h2 hu',u2,hrng⟩,u1,rfl⟩
  ·rw[if_neg c3]at hq1;subst hq1;have hvn:¬v∈q.row:=fun h=>c3 ((g.has_iff hv).2 h);refine⟨⟨hsl,g.pll,g.nd,g.inr,g.plc,g.out,fun j hj0 hj hk=>?_,hrng⟩,List.Perm.refl _,rfl⟩;have h1:=g.ho j hj0 hj (Nat.zero_le _);have hval:∀j,j<q.row.length→sc1.getD (q.row.getD j 0).toNat 0=q.sc.getD (q.row.getD j 0).toNat 0:=fun j hj=>by
    have h1:=g.inr _ (aW hj);have h2:q.row.getD j 0≠v:=fun e=>hvn (by rw[←e];exact aW hj);rw[hsc1,if_neg (by omega)]
   rw[gd]at h1⊢;dsimp only at hj⊢;rw[hval j hj,hval ((j -1)/2) (by omega)];exact h1
 obtain⟨g1,p1,s1⟩:=key (dG q v by') (by rw[←hs1];rfl);exact⟨g1,p1,s1,by rw[s1,hsc1,if_pos rfl]⟩
theorem tn{n:Nat}{q:HS}(g:HpG n 1000000000000 q)(v by':Int):HpG n 1000000000000 (d8 q v by').1∧(d8 q v by').1.row.Perm q.row∧
 ((d8 q v by').2=0→(d8 q v by').1.sc=(let s:=q.sc.set v.toNat (q.sc.getD v.toNat 0+by');if 1000000000000<q.sc.getD v.toNat 0+by' then s.map (·/2)else s))∧((d8 q v by').2≠0→(d8 q v by').1=q):=by
 unfold d8
 by_cases c1:rm q v=false
 ·rw[if_pos c1];exact⟨g,List.Perm.refl _,fun h=>absurd h (by simp),fun _=>rfl⟩
 rw[if_neg c1]
 by_cases c2:by'<0∨1000000000000<by'
 ·rw[if_pos c2];exact⟨g,List.Perm.refl _,fun h=>absurd h (by simp),fun _=>rfl⟩
 rw[if_neg c2];have hv:=g.isV_iff.1 (by simpa using c1);obtain⟨g1,p1,s1,hgv⟩:=ro g hv c2
 change HpG n 1000000000000 ((if 1000000000000<(dG q v by').sc.getD v.toNat 0 then bW (dG q v by')else dG q v by',(0:Int))).1∧((if 1000000000000<(dG q v by').sc.getD v.toNat 0 then bW (dG q v by')else dG q v by',(0:Int))).1.row.Perm q.row∧(_→((if 1000000000000<(dG q v by').sc.getD v.toNat 0 then bW (dG q v by')else dG q v by',(0:Int))).1.sc=_)∧(¬(0:Int)=0→_)
 generalize dG q v by'=q1 at*
 rw[hgv];dsimp only
 by_cases c4:1000000000000<q.sc.getD v.toNat 0+by'
 ·rw[if_pos c4,if_pos c4];obtain⟨g2,p2,s2⟩:=jH g1 (by omega) (by omega);exact⟨g2,p2.trans p1,fun _=>by rw[s2,s1],fun h=>absurd rfl h⟩
 ·rw[if_neg c4,if_neg c4];refine⟨⟨g1.sl,g1.pll,g1.nd,g1.inr,g1.plc,g1.out,g1.ho,fun x hx=>?_⟩,p1,fun _=>s1,fun h=>absurd rfl h⟩;rw[s1]at hx;have hsv:=g.score v.toNat;rcases List.mem_or_eq_of_mem_set hx with hx|hx
  ·exact g.rng x hx
  ·omega
theorem wP{n:Nat}{M:Int}{q:HS}(g:HpG n M q)(v:Int):HpG n M (dV q v).1∧(dV q v).1.sc=q.sc∧((dV q v).2=0→(dV q v).1.row.Perm (q.row++[v]))∧((dV q v).2≠0→(dV q v).1=q):=by
 unfold dV
 by_cases c1:rm q v=false
 ·rw[if_pos c1];exact⟨g,rfl,fun h=>absurd h (by simp),fun _=>rfl⟩
 rw[if_neg c1]
 by_cases c2:0≤q.pl.getD v.toNat 0
 ·rw[if_pos c2];exact⟨g,rfl,fun h=>absurd h (by simp),fun _=>rfl⟩
 rw[if_neg c2];have hv:=g.isV_iff.1 (by simpa using c1);have hvn:¬v∈q.row:=fun h=>c2 ((g.has_iff hv).2 h);have hset:(q.row++[v]).set q.row.length v=q.row++[v]:=by simp
 have hnd:(q.row++[v]).Nodup:=by
  rw[List.nodup_append];exact⟨g.nd,by simp,fun a ha b hb=>by simp at hb;subst hb;exact fun e=>hvn (e▸ha)⟩
 have hge:∀j,j<q.row.length→(q.row++[v]).getD j 0=q.row.getD j 0:=fun j hj=>by
  rw[List.getD_eq_getElem?_getD,List.getElem?_append_left hj,←List.getD_eq_getElem?_getD]
 have hin:rL (q.row++[v]) (n+1):=fun x hx=>by
  rcases List.mem_append.1 hx with hx|hx
  ·exact g.inr x hx
  ·simp at hx;omega
 have hup:=EV (sc:=q.sc) (v:=v) q.row.length (q.row++[v]) q.pl (by simp) (by rw[hset];exact hnd) (by rw[hset,g.pll];exact hin)
  (by
   rw[hset];intro j hj hne;simp only[List.length_append,List.length_cons,List.length_nil]at hj
   by_cases e:j=q.row.length
   ·subst e;exact absurd (by simp[List.getD_eq_getElem?_getD]) hne
   ·rw[hge j (by omega)];exact g.plc j (by omega))
  (fun j hj0 hj hne => by
   rw[hset];simp only[List.length_append,List.length_cons,List.length_nil]at hj;rw[hge j (by omega),hge _ (by omega)];exact g.ho j hj0 (by omega) (Nat.zero_le _))
  (fun j hj0 hj hji hi0=>by simp only[List.length_append,List.length_cons,List.length_nil]at hj;omega)
 obtain⟨u1,u2,u3,u4,u5⟩:=hup;rw[hset]at u1 u4;refine⟨⟨g.sl,by dsimp only;rw[u5,g.pll],u1.nodup_iff.2 hnd,fun x hx=>hin x (u1.mem_iff.1 hx),u3,fun u h1 h2 hu=>?_,u2,g.rng⟩,rfl,fun _=>u1,fun h=>absurd rfl h⟩;have hu':¬(u:Int)∈q.row++[v]:=fun h=>hu (u1.mem_iff.2 h);dsimp only;rw[u4 u hu'];exact g.out u h1 h2 (fun h=>hu' (List.mem_append_left _ h))
theorem B3{n:Nat}{M:Int}{q:HS}(g:HpG n M q):HpG n M (ep q).1∧(ep q).1.sc=q.sc∧(ep q).2=bM q∧(bM q≠0→q.row.Perm (bM q::(ep q).1.row))∧(bM q=0→(ep q).1=q):=by
  unfold ep
  by_cases c1:bM q=0
  · rw[if_pos c1];exact⟨g,rfl,c1.symm,fun h=>absurd c1 h,fun _=>rfl⟩
  rw[if_neg c1]
  have hne:q.row≠[]:=fun h=>c1 (g.peek_zero.2 h)
  have hl:0<q.row.length:=List.length_pos_iff.2 hne
  obtain⟨L,hL⟩:∃L,q.row.length=L+1:=⟨q.row.length -1,by omega⟩
  have hpk:=g.peek_mem c1
  have hp0:q.row.getD 0 0=bM q:=rfl
  simp only[hL,Nat.add_sub_cancel]
  generalize hw:q.row.getD L 0=w
  have hwm:w∈q.row:=by rw[←hw];exact aW (by omega)
  have hwi:=g.inr w hwm
  have hpi:=g.inr _ hpk
  -- what is left
  have hperm:q.row.Perm (bM q::(q.row.set 0 w).take L):=by
    have h1:q.row=(q.row.take L)++[w]:=by
      rw[←hw]
      apply List.ext_getElem
      · simp;omega
      · intro j a1 a2
        rw[List.getElem_append]
        split
        · simp
        · rename_i hj
          simp only[List.length_take]at hj
          have:j=L:=by omega
          subst this
          simp[List.getD_eq_getElem?_getD,a1]
    rcases Nat.eq_zero_or_pos L with h0|h0
    · subst h0
      cases hr:q.row with
      |nil=>exact absurd hr hne
      |cons x xs=>
        have hx:xs=[]:=by rw[hr]at hL;simpa using hL
        subst hx
        simp[bM,hr]
    · cases hr:q.row with
      |nil=>exact absurd hr hne
      |cons x xs=>
        obtain⟨K,rfl⟩:∃K,L=K+1:=⟨L -1,by omega⟩
        rw[hr]at h1
        simp only[List.take_succ_cons,List.cons_append,List.cons.injEq,true_and]at h1
        have hx:bM q=x:=by simp[bM,hr]
        simp only[List.set_cons_zero,List.take_succ_cons,hx]
        refine List.Perm.cons _ ?_
        conv=>lhs;rw[h1]
        exact List.perm_append_comm
  have hlen2:((q.row.set 0 w).take L).length=L:=by simp[hL]
  have hnd2:=(hperm.nodup_iff.1 g.nd)
  rw[List.nodup_cons]at hnd2
  have hmem2:∀x,x∈(q.row.set 0 w).take L↔x∈q.row∧x≠bM q:=fun x=>by
    constructor
    · intro hx
      exact⟨hperm.mem_iff.2 (List.mem_cons_of_mem _ hx),fun e=>hnd2.1 (e▸hx)⟩
    · rintro⟨h1,h2⟩
      rcases List.mem_cons.1 (hperm.mem_iff.1 h1)with h3|h3
      · exact absurd h3 h2
      · exact h3
  have hin2:rL ((q.row.set 0 w).take L) (n+1):=fun x hx=>g.inr x ((hmem2 x).1 hx).1
  have hget2:∀j,0<j→j<L→((q.row.set 0 w).take L).getD j 0=q.row.getD j 0:=fun j h0 hj=>by
    rw[List.getD_eq_getElem?_getD,List.getElem?_take_of_lt hj,List.getElem?_set_ne (by omega),←List.getD_eq_getElem?_getD]
  have hout2:∀u:Nat,1≤u→u≤n→¬(u:Int)∈(q.row.set 0 w).take L→((q.pl.set w.toNat 0).set (bM q).toNat (-1)).getD u 0=-1:=fun u h1 h2 hu=>by
    rw[aV,List.length_set,g.pll]
    by_cases e:(u:Int)=bM q
    · rw[if_pos ⟨by omega,by omega⟩]
    · rw[if_neg (by omega)]
      have hur:¬(u:Int)∈q.row:=fun h=>hu ((hmem2 u).2 ⟨h,e⟩)
      rw[aV,if_neg (fun h=>hur (by rw[show(u:Int)=w by omega];exact hwm))]
      exact g.out u h1 h2 hur
  generalize hr2:(q.row.set 0 w).take L=row2 at*
  generalize hp2:(q.pl.set w.toNat 0).set (bM q).toNat (-1)=pl2 at*
  have hpl2l:pl2.length=n+1:=by rw[←hp2];simp[g.pll]
  by_cases c2:0<L
  · rw[if_pos c2]
    have hd:=rl (sc:=q.sc) (v:=row2.getD 0 0) (k:=0) row2.length 0 row2 pl2 (by omega) (by omega) (Nat.le_refl _) rfl hnd2.2 (by rw[hpl2l];exact hin2)
      (fun j hj hne' => by
        have hj0:0<j:=by
          rcases Nat.eq_zero_or_pos j with h0|h0
          · subst h0;exact absurd rfl hne'
          · exact h0
        rw[hget2 j hj0 (by omega)]
        have h1:=g.inr _ (aW (show j<q.row.length by omega))
        have hne1:q.row.getD j 0≠bM q:=fun e=>by have:=dE g.nd (show j<q.row.length by omega) hl (by rw[e,hp0]);omega
        have hne2:q.row.getD j 0≠w:=fun e=>by have:=dE g.nd (show j<q.row.length by omega) (show L<q.row.length by omega) (by rw[e,hw]);omega
        rw[←hp2,aV,if_neg (by omega),aV,if_neg (by omega)]
        exact g.plc j (by omega))
      (fun j hj0 hj _ hne' => by
        rw[hget2 j hj0 (by omega),hget2 _ (by omega) (by omega)]
        exact g.ho j hj0 (by omega) (Nat.zero_le _))
      (fun j _ _ _ h1 _=>by omega)
    obtain⟨u1,u2,u3,u4,u5⟩:=hd
    refine⟨⟨g.sl,by dsimp only;rw[u5,hpl2l],u1.nodup_iff.2 hnd2.2,fun x hx=>hin2 x (u1.mem_iff.1 hx),u3,fun u h1 h2 hu=>?_,u2,g.rng⟩,rfl,(by first|rfl|trivial),fun _=>hperm.trans (u1.symm.cons _),fun h=>absurd h c1⟩
    have hu':¬(u:Int)∈row2:=fun h=>hu (u1.mem_iff.2 h)
    dsimp only
    rw[u4 u hu'];exact hout2 u h1 h2 hu'
  · rw[if_neg c2]
    have hL0:L=0:=by omega
    have hnil:row2=[]:=List.eq_nil_of_length_eq_zero (by omega)
    refine⟨⟨g.sl,hpl2l,hnd2.2,hin2,fun j hj=>?_,hout2,fun j h0 hj=>?_,g.rng⟩,rfl,(by first|rfl|trivial),fun _=>hperm,fun h=>absurd h c1⟩
    · dsimp only at hj;omega
    · dsimp only at hj;omega
theorem Fa(n:Nat):HpG n 1000000000000 (lW n):=by
 have hg:∀j,j<n→((List.range n).map fun i=>((i+1:Nat):Int)).getD j 0=((j+1:Nat):Int):=fun j hj=>by simp[List.getD_eq_getElem?_getD,hj]
 refine⟨by simp[lW],by simp[lW],?_,fun x hx=>?_,fun j hj=>?_,fun u h1 h2 hu=>?_,fun j hj0 hj _=>?_,fun x hx=>?_⟩
 ·simp only[lW];unfold List.Nodup;rw[List.pairwise_iff_getElem];intro i j hi hj hij e;simp at e;omega
 ·simp only[lW,List.mem_map,List.mem_range]at hx;obtain⟨i,hi,rfl⟩:=hx;omega
 ·simp only[lW,List.length_map,List.length_range]at hj⊢;rw[hg j hj,Int.toNat_natCast,List.getD_eq_getElem?_getD,List.getElem?_cons_succ];simp[hj]
 ·exfalso;apply hu;simp only[lW,List.mem_map,List.mem_range];exact⟨u -1,by omega,by omega⟩
 ·simp only[lW,List.length_map,List.length_range]at hj⊢;rw[hg j hj,hg _ (by omega),gd];right;refine⟨?_,by omega⟩;simp only[List.getD_eq_getElem?_getD,List.getElem?_replicate];rw[if_pos (by omega),if_pos (by omega)]
 ·simp only[lW]at hx;have:=List.eq_of_mem_replicate hx;omega
end Go.AX
namespace Go.AX
open Go.Proofs
set_option linter.unusedSimpArgs false
theorem rp(s r p:List Int):[SV.own true 1 (af s),SV.own true 1 (af r),SV.own true 1 (af p)]=ap ⟨s,r,p⟩:=rfl
theorem lu{l:List Int}{i:Nat}(h:i<l.length):l[i]=l.getD i 0:=by simp[h]
theorem Fb{q:HS}{v by':Int}(h:rm q v=false):d8 q v by'=(q,10):=by unfold d8;rw[if_pos h]
theorem B4{q:HS}{v by':Int}(h:rm q v=true)(h2:by'<0∨1000000000000<by'):d8 q v by'=(q,2):=by unfold d8;rw[if_neg (by rw[h];simp),if_pos h2]
theorem B5{q:HS}{v by':Int}(h:rm q v=true)(h2:¬(by'<0∨1000000000000<by')):d8 q v by'=(if 1000000000000<(dG q v by').sc.getD v.toNat 0 then bW (dG q v by')else dG q v by',0):=by
 unfold d8;rw[if_neg (by rw[h];simp),if_neg h2];rfl
set_option maxRecDepth 16000 in
theorem wQ(h:List (List SV))(b:Nat)(q:HS)(hb:h[b]?=some (ap q)){n:Nat}(g:HpG n 1000000000000 q)(hn:n≤100000)(v by':Int):
 aE Tryz.prog 129 [.ptr b 0,ae v,ae by'] h (fun r h'=>r=.pv (ae (d8 q v by').2)∧h'=h.set b (ap (d8 q v by').1)):=by
 refine l9 aG Tryz.func129 (by kernel_rfl) rfl rfl (by kernel_rfl) (Nat.le_of_ble_eq_true rfl) ?_;obtain⟨hlt,hb'⟩:=List.getElem?_eq_some_iff.1 hb;have hq:0<q.sc.length:=by rw[g.sl];omega
 have hw0:=AB q hq v;generalize hBS:d8 q v by'=BS
 simp;rw[fL hb];refine ak.introP hw0 (by simp) (by simp) ?_;unfold G9;cases hv:rm q v with
 |false=>
  have e:=hBS.symm.trans (Fb hv);subst e;simp[ge hb]
 |true=>
  have hvi:=g.isV_iff.1 hv;have hv2:v.toNat<q.sc.length:=by rw[g.sl];omega
  have hv3:v.toNat<q.pl.length:=by rw[g.pll];omega
  have hv4:0≤v:=by omega
  have hv5:v<(q.sc.length:Int):=by rw[g.sl];omega
  have hv6:v<(q.pl.length:Int):=by rw[g.pll];omega
  have hsv:=g.score v.toNat;obtain⟨s0,hs0⟩:∃x,x=q.sc.getD v.toNat 0:=⟨_,rfl⟩;obtain⟨p0,hp0⟩:∃x,x=q.pl.getD v.toNat 0:=⟨_,rfl⟩;have hg0:q.sc[v.toNat]=s0:=by rw[hs0];exact lu hv2
  have hgp:q.pl[v.toNat]=p0:=by rw[hp0];exact lu hv3
  simp[hlt,hb',ap,hv2,hv4,hv5,hg0,gV];refine⟨fun c=>?_,fun c1 c2=>?_⟩
  ·have e:=hBS.symm.trans (B4 hv c);subst e;simp[rp,ge hb]
  have c3:¬(by'<0∨1000000000000<by'):=fun h=>h.elim (fun h=>Int.not_lt.2 c1 h) (fun h=>Int.not_lt.2 c2 h);have e:=hBS.symm.trans (B5 hv c3);clear hBS;subst e;obtain⟨F,hF⟩:∃F,(if 1000000000000<(dG q v by').sc.getD v.toNat 0 then bW (dG q v by')else dG q v by')=F:=⟨_,rfl⟩;rw[hF];have hww:aM (s0+by')=s0+by':=ah (by omega) (by omega)
  have hB:dG q v by'=if 0≤p0 then⟨q.sc.set v.toNat (s0+by'),(oX (q.sc.set v.toNat (s0+by')) (q.row.getD p0.toNat 0) p0.toNat q.row q.pl).1,(oX (q.sc.set v.toNat (s0+by')) (q.row.getD p0.toNat 0) p0.toNat q.row q.pl).2⟩else⟨q.sc.set v.toNat (s0+by'),q.row,q.pl⟩:=by
   rw[hs0,hp0];rfl
  have hhas:=uO ⟨q.sc.set v.toNat (s0+by'),q.row,q.pl⟩ (by simpa using hq) (by dsimp only;rw[List.length_set,g.pll,g.sl]) v;have hv':rm ⟨q.sc.set v.toNat (s0+by'),q.row,q.pl⟩ v=true:=by unfold rm at hv⊢;simpa using hv
  rw[hv']at hhas;rw[hww];dsimp only at hhas;rw[←hp0]at hhas;rw[rp,nR hlt];refine ak.introP hhas (by simp) (by simp) ?_;have hn0:q.row.length≤n:=g.few;obtain⟨g1,p1,s1,hgv⟩:=ro g hvi c3;rw[←hs0]at hgv s1;rw[hgv]at hF
  by_cases c5:0≤p0
  ·obtain⟨i,hi,hiv,hip⟩:=g.place ((g.has_iff hvi).1 (by rw[←hp0];exact c5));rw[←hp0]at hip;have hin:rL q.row q.pl.length:=by rw[g.pll];exact g.inr
   have hup:=EY (h.set b (ap ⟨q.sc.set v.toNat (s0+by'),q.row,q.pl⟩)) b ⟨q.sc.set v.toNat (s0+by'),q.row,q.pl⟩ (fi hlt _) i hi hin (by dsimp only;rw[List.length_set,g.pll,g.sl]) (by dsimp only;omega);rw[if_pos c5,hip,Int.toNat_natCast,hiv]at hB;dsimp only at hup;rw[hiv]at hup;rw[←hip]at hup;simp only[ap]at hup;simp[hlt,ap,c5,hv3,hv4,hv6,hgp];refine ak.intro hup (by simp) ?_;rintro _ _ ⟨rfl,rfl⟩;simp;have hBB:ap (dG q v by')=[.own true 1 (af (q.sc.set v.toNat (s0+by'))),.own true 1 (af (oX (q.sc.set v.toNat (s0+by')) v i q.row q.pl).1),.own true 1 (af (oX (q.sc.set v.toNat (s0+by')) v i q.row q.pl).2)]:=by rw[hB];rfl
   rw[←hBB];generalize dG q v by'=B at*
   refine aH.intro (S:=fun(x:Nat)=>⟨[(0,.pv (.ptr b 0)),(1,.pv (ae v))],h.set b (ap (if x=0 then B else bW B))⟩) (fun x=>x=0∨x=1∧1000000000000<s0+by') (fun x=>1 -x) 0 ?_ (.inl rfl) ?_
   ·exact aj.keep (by simp) (by simp)
   ·have hBl:v.toNat<B.sc.length:=by rw[g1.sl];omega
    have hBl2:v<(B.sc.length:Int):=by rw[g1.sl];omega
    have hBs:B.sc[v.toNat]=s0+by':=by rw[←hgv];exact lu hBl
    rintro x (rfl|⟨rfl,hx⟩)
    ·have hhv:=oH (h.set b (ap B)) b B (fi hlt _) (by rw[g1.sl];omega) (by rw[g1.pll];exact g1.inr) (by rw[g1.pll,g1.sl]) (by have:=g1.few;omega) (by rw[g1.sl];omega);simp only[ap]at hhv;simp[hlt,ap,hBl,hBl2,hv4,hBs];refine⟨fun c=>?_,fun c=>?_⟩
     ·refine ak.intro hhv (by simp) ?_;rintro _ _ ⟨rfl,rfl⟩;simp;exact⟨1,by dsimp only;omega,.inr ⟨rfl,c⟩,aj.keep (by simp) (by simp[ap])⟩
     ·rw[if_neg (Int.not_lt.2 c)]at hF;rw[hF]
    ·obtain⟨g2,p2,s2⟩:=jH g1 (by omega) (by omega);have hCl:v.toNat<(bW B).sc.length:=by rw[g2.sl];omega
     have hCl2:v<((bW B).sc.length:Int):=by rw[g2.sl];omega
     obtain⟨z,hz⟩:∃z,(bW B).sc[v.toNat]=z:=⟨_,rfl⟩;have hzr:=g2.rng z (by rw[←hz];exact List.getElem_mem hCl);have hz2:¬1000000000000<z:=by omega
     simp[hlt,ap,hCl,hCl2,hv4,hz,hz2];rw[if_pos hx]at hF;rw[hF]
  ·rw[if_neg c5]at hB;simp[c5];rw[←hB];generalize dG q v by'=B at*
   refine aH.intro (S:=fun(x:Nat)=>⟨[(0,.pv (.ptr b 0)),(1,.pv (ae v))],h.set b (ap (if x=0 then B else bW B))⟩) (fun x=>x=0∨x=1∧1000000000000<s0+by') (fun x=>1 -x) 0 ?_ (.inl rfl) ?_
   ·exact aj.keep (by simp) (by simp)
   ·have hBl:v.toNat<B.sc.length:=by rw[g1.sl];omega
    have hBl2:v<(B.sc.length:Int):=by rw[g1.sl];omega
    have hBs:B.sc[v.toNat]=s0+by':=by rw[←hgv];exact lu hBl
    rintro x (rfl|⟨rfl,hx⟩)
    ·have hhv:=oH (h.set b (ap B)) b B (fi hlt _) (by rw[g1.sl];omega) (by rw[g1.pll];exact g1.inr) (by rw[g1.pll,g1.sl]) (by have:=g1.few;omega) (by rw[g1.sl];omega);simp only[ap]at hhv;simp[hlt,ap,hBl,hBl2,hv4,hBs];refine⟨fun c=>?_,fun c=>?_⟩
     ·refine ak.intro hhv (by simp) ?_;rintro _ _ ⟨rfl,rfl⟩;simp;exact⟨1,by dsimp only;omega,.inr ⟨rfl,c⟩,aj.keep (by simp) (by simp[ap])⟩
     ·rw[if_neg (Int.not_lt.2 c)]at hF;rw[hF]
    ·obtain⟨g2,p2,s2⟩:=jH g1 (by omega) (by omega);have hCl:v.toNat<(bW B).sc.length:=by rw[g2.sl];omega
     have hCl2:v<((bW B).sc.length:Int):=by rw[g2.sl];omega
     obtain⟨z,hz⟩:∃z,(bW B).sc[v.toNat]=z:=⟨_,rfl⟩;have hzr:=g2.rng z (by rw[←hz];exact List.getElem_mem hCl);have hz2:¬1000000000000<z:=by omega
     simp[hlt,ap,hCl,hCl2,hv4,hz,hz2];rw[if_pos hx]at hF;rw[hF]
theorem Cj(rows:List (List Int))(k:FuncId)(cap:List PV)(p:List Int→Bool)(hl:rows.length≤140737488355328)(hc:∀r,dY r cap=cap)(hb:∀n,bO n cap)(hp:iE cap=false)(hf:∀x∈rows,ao Tryz.prog k (.seq false 1 (af x)::cap) (fun r=>r=.pv (BL (p x)))):
 ao Tryz.prog 202 [.seq false 1 (rows.map aO),.fn (.func k) [] cap] (fun r=>r=.pv (ae (jX p rows))):=by
 refine aw aG Tryz.func202 (by kernel_rfl) rfl rfl (by kernel_rfl) (Nat.le_of_ble_eq_true rfl) ?_;simp;refine aH.intro (S:=fun(i:Nat)=>⟨[(0,.pv (.seq false 1 (rows.map aO))),(1,.pv (.fn (.func k) [] cap)),(7,.pv (ae rows.length)),(8,.pv (ae i))],[]⟩) (fun i=>i≤rows.length∧∀j (hj:j<rows.length),j<i→p rows[j]=false) (fun i=>rows.length -i) 0 ?_ ?_ ?_
 ·exact aj.to (by simp) (by simp) (by simp) (by simp[hb]) (by simp)
 ·exact⟨by omega,fun j hj h=>by omega⟩
 ·intro i ⟨hi,ho⟩
  by_cases h:i<rows.length
  ·have hw:aM ((i:Int)+1)=((i+1:Nat):Int):=by rw[ah (by omega) (by omega)];omega
   have hf':=hf rows[i] (List.getElem_mem h);simp[h,hp,hc,aO];refine am.intro hf' (by simp) ?_;simp;refine⟨fun c=>by rw[fO h ho c],fun c=>⟨i+1,by dsimp only;omega,⟨by omega,fun j hj hji=>?_⟩,aj.to ?_ (by simp) (by simp) (by simp[hb]) (by simp)⟩⟩
   ·by_cases e:j=i
    ·subst e;exact c
    ·exact ho j hj (by omega)
   ·simp[hw,aO]
  ·simp[h];rw[eb (fun j hj=>ho j hj (by omega))]
theorem Cl(l:Int):(cC l).1=ab l∧(ab l≠0→(cC l).2=decide (0<l)):=by
 unfold cC ab eF
 by_cases c:da l=true
 ·obtain⟨h1,h2,h3⟩:=(bj l).1 c;rw[if_pos c]
  by_cases d:l<0
  ·rw[if_neg (by omega),if_pos ⟨d,h2⟩,if_pos d];exact⟨rfl,fun _=>(decide_eq_false (by omega)).symm⟩
  ·rw[if_pos ⟨by omega,h3⟩,if_neg d];exact⟨rfl,fun _=>(decide_eq_true (by omega)).symm⟩
 ·have hn:¬(l≠0∧-100000≤l∧l≤100000):=fun h=>c ((bj l).2 h);rw[if_neg c,if_neg (by omega),if_neg (by omega)];exact⟨rfl,fun h=>absurd rfl h⟩
set_option maxRecDepth 16000 in
theorem Cm(l:Int)(m:List Bool):ao Tryz.prog 264 [ae l,.iptr 1 [[.seq false 1 (cF m)]] 0 0] (fun r=>r=.pv (BL (gg m l))):=by
 refine aw aG Tryz.func264 (by kernel_rfl) rfl rfl (by kernel_rfl) (Nat.le_of_ble_eq_true rfl) ?_;simp;refine am.intro (aD l) (by simp) ?_;obtain⟨e1,e2⟩:=Cl l;have hin:=tq l;unfold gg;rw[e1]at hin⊢;generalize ab l=v at*;obtain⟨n,rfl⟩:=Int.eq_ofNat_of_zero_le hin.1;rcases Nat.eq_zero_or_pos n with h0|h0
 ·subst h0;simp
 obtain⟨k,rfl⟩:∃k,n=k+1:=⟨n -1,by omega⟩;rw[e2 (by omega)];have hk1:aM (k:Int)=(k:Int):=ah (by omega) (by omega);have hne:¬(k:Int)+1=0:=by omega
 have hpos:(0:Int)<(k:Int)+1:=by omega
 by_cases hk:k<m.length
 ·have hle:(k:Int)+1≤(m.length:Int):=by omega
  have hle2:k+1≤m.length:=by omega
  simp[hne,hk,hle,hle2,hk1,hpos]
 ·have hle:¬(k:Int)+1≤(m.length:Int):=by omega
  have hle2:¬k+1≤m.length:=by omega
  simp[hne,hk,hle,hle2,hk1,hpos]
theorem Cn(c:List Int)(m:List Bool)(hl:c.length≤1000000):ao Tryz.prog 203 [.seq false 1 (af c),.iptr 1 [[.fn (.func 264) [] [.iptr 1 [[.seq false 1 (cF m)]] 0 0]]] 0 0] (fun r=>r=.pv (BL (!cD c m))):=by
 refine aw aG Tryz.func203 (by kernel_rfl) rfl rfl (by kernel_rfl) (Nat.le_of_ble_eq_true rfl) ?_;simp;refine am.intro (ff c hl 264 [.iptr 1 [[.seq false 1 (cF m)]] 0 0] (gg m) (by simp) (by simp) (by simp) (fun x _=>Cm x m)) (by simp) ?_;simp[cD]
theorem Co(m:List Bool)(h:List (List SV)):aE Tryz.prog 201 [.seq false 1 (cF m)] h (fun r h'=>r=.pv (.fn (.func 264) [] [.ptr h.length 0])∧h'=h++[[.pv (.seq false 1 (cF m))]]):=by
 refine l9 aG Tryz.func201 (by kernel_rfl) rfl rfl (by kernel_rfl) (Nat.le_of_ble_eq_true rfl) ?_;simp
set_option maxRecDepth 16000 in
theorem FE(v:Int)(L:List (List Int))(m:List Bool)(hl:L.length≤140737488355328)(hr:∀x∈L,x.length≤1000000):ao Tryz.prog 121 [.agg [ae v,.seq false 1 (L.map aO)],.seq false 1 (cF m)] (fun r=>r=.pv (ae (lw L m))):=by
 refine aw aG Tryz.func121 (by kernel_rfl) rfl rfl (by kernel_rfl) (Nat.le_of_ble_eq_true rfl) ?_;simp;refine am.introM (Co m _) (by simp) ?_;rintro _ _ ⟨rfl,rfl⟩;simp;have hfz:bq [[.pv (ae v),.pv (.seq false 1 (L.map aO))],[.pv (.seq false 1 (cF m))],[.pv (.fn (.func 264) [] [.ptr 1 0])]] 3 2 0=.iptr 1 [[.fn (.func 264) [] [.iptr 1 [[.seq false 1 (cF m)]] 0 0]]] 0 0:=by simp[bq]
 rw[hfz];refine⟨rfl,am.intro (Cj L 203 [.iptr 1 [[.fn (.func 264) [] [.iptr 1 [[.seq false 1 (cF m)]] 0 0]]] 0 0] (fun c=>!cD c m) hl (by simp) (by simp) (by simp) (fun x hx=>Cn x m (hr x hx))) (by simp) ?_⟩;simp[lw]
theorem FF(v:Int)(L:List (List Int))(m:List Bool)(hl:L.length≤140737488355328)(hr:∀x∈L,x.length≤1000000):ao Tryz.prog 59 [.agg [ae v,.seq false 1 (L.map aO)],.seq false 1 (cF m)] (fun r=>r=.pv (BL (decide ((m.length:Int)=v)&&decide (∀c∈L,cD c m=true)))):=by
 refine aw aG Tryz.func59 (by kernel_rfl) rfl rfl (by kernel_rfl) (Nat.le_of_ble_eq_true rfl) ?_;have hF:=FE v L m hl hr;have hn:=rq L m;simp;refine bY.intro (fun _=>hF) (by simp) ?_;simp[hn]
end Go.AX