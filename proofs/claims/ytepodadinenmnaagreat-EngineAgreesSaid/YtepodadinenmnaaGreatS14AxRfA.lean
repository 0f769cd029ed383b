/-
  Contracts: literals.
  Contracts: slices.Clone, IndexFunc, ContainsFunc, DeleteFunc of numbers.
  Contracts: trails.
  Contracts: trails that grow.
  Contracts: the document's trails: what only reads.
-/
import Derived.Test.YtepodadinenmnaaGreatS14AxEvC
import Derived.Test.YtepodadinenmnaaGreatAxBM
namespace Go.AX
open Go.Proofs
set_option linter.unusedSimpArgs false
def rK(n m:Int):Bool:=decide (n≠0)&&(decide (-m≤n)&&decide (n≤m))
def da(n:Int):Bool:=rK n 100000
def eF(n:Int):Int:=if n<0 then-n else n
def ab(n:Int):Int:=if da n=true then eF n else 0
def bi(n:Int):Int:=if da n=true then(if n<0 then 2*eF n -1 else 2*eF n -2)else-1
theorem bj(n:Int):da n=true↔n≠0∧-100000≤n∧n≤100000:=by unfold da rK;simp
theorem vW(n m:Int)(h0:0≤m)(h1:m≤100000):ao Tryz.prog 252 [ae n,ae m] (fun r=>r=.pv (BL (rK n m))):=by
 refine aw aG Tryz.func252 (by kernel_rfl) rfl rfl (by kernel_rfl) (Nat.le_of_ble_eq_true rfl) ?_;have hw:aM (-m)=-m:=ah (by omega) (by omega);simp[rK,hw]
 try grind
theorem qC(n:Int):ao Tryz.prog 178 [ae n] (fun r=>r=.pv (BL (da n))):=by
 refine aw aG Tryz.func178 (by kernel_rfl) rfl rfl (by kernel_rfl) (Nat.le_of_ble_eq_true rfl) ?_;simp;refine am.intro (vW n 100000 (by omega) (by omega)) (by simp) ?_;simp[da]
theorem aD(n:Int):ao Tryz.prog 130 [ae n] (fun r=>r=.pv (ae (ab n))):=by
 refine aw aG Tryz.func130 (by kernel_rfl) rfl rfl (by kernel_rfl) (Nat.le_of_ble_eq_true rfl) ?_;simp;refine am.intro (qC n) (by simp) ?_
 by_cases c:da n=true
 ·obtain⟨h1,h2,h3⟩:=(bj n).1 c;have hw:aM (-n)=-n:=ah (by omega) (by omega);simp[ab,eF,c,hw];split<;>split<;>omega
 ·simp[ab,c]
theorem oT(n:Int):ao Tryz.prog 285 [ae n] (fun r=>r=.pv (ae (bi n))):=by
 refine aw aG Tryz.func285 (by kernel_rfl) rfl rfl (by kernel_rfl) (Nat.le_of_ble_eq_true rfl) ?_;simp;refine am.intro (qC n) (by simp) ?_
 by_cases c:da n=true
 ·obtain⟨h1,h2,h3⟩:=(bj n).1 c;simp[c];refine am.intro (aD n) (by simp) ?_;have ha:eF n≤100000∧0≤eF n:=by unfold eF;split<;>omega
  have hv:ab n=eF n:=by unfold ab;rw[if_pos c]
  have hw1:aM (2*eF n)=2*eF n:=ah (by omega) (by omega);have hw2:aM (2*eF n -2)=2*eF n -2:=ah (by omega) (by omega);have hw3:aM (2*eF n -2+1)=2*eF n -1:=by rw[ah (by omega) (by omega)];omega
  by_cases d:n<0
  ·simp[bi,c,hv,hw1,hw2,hw3,d]
  ·simp[bi,c,hv,hw1,hw2,hw3,d]
 ·simp[bi,c]
def ax(n m:Int):Int:=if m<0∨100000<m then 2 else if rK n m=true then 0 else 10
theorem iu(n m:Int):ao Tryz.prog 179 [ae n,ae m] (fun r=>r=.pv (ae (ax n m))):=by
 refine aw aG Tryz.func179 (by kernel_rfl) rfl rfl (by kernel_rfl) (Nat.le_of_ble_eq_true rfl) ?_
 by_cases c1:m<0
 ·simp[c1,ax]
 by_cases c2:100000<m
 ·simp[c1,c2,ax]
 simp[c1,c2,ax];refine am.intro (vW n m (by omega) (by omega)) (by simp) ?_;cases rK n m<;>simp
theorem gL(l:List Int)(hl:l.length≤1000000):ao Tryz.prog 77 [.seq false 1 (af l)] (fun r=>r=.own true 1 (af l)):=by
 refine ao.own0 (R:=fun r=>r=.own true 1 (af l)∨(l=[]∧r=.pv (.lit (.slice none 0 0)))) ?_ (fun r h=>h.imp id fun⟨e1,e2⟩=>⟨e2,true,1,by rw[e1];rfl⟩);refine aw aG Tryz.func77 (by kernel_rfl) rfl rfl (by kernel_rfl) (Nat.le_of_ble_eq_true rfl) ?_;simp;cases l with
 |nil=>simp[af]
 |cons x l=>simp[af]at hl⊢;omega
theorem sJ(l:List Int)(hl:l.length≤1000000)(g:Nat)(cap:List PV)(p:Int→Bool)(hf:∀r,dY r cap=cap)(hp:iE cap=false)(hb:∀k,bO k cap)
 (h:∀x∈l,ao Tryz.prog g (ae x::cap) (fun r=>r=.pv (BL (p x)))):ao Tryz.prog 230 [.seq false 1 (af l),.fn (.func g) [] cap] (fun r=>r=.pv (ae (jX p l))):=by
 refine aw aG Tryz.func230 (by kernel_rfl) rfl rfl (by kernel_rfl) (Nat.le_of_ble_eq_true rfl) ?_;simp;refine aH.intro (S:=fun(i:Nat)=>⟨[(0,.pv (.seq false 1 (af l))),(1,.pv (.fn (.func g) [] cap)),(7,.pv (ae l.length)),(8,.pv (ae i))],[]⟩) (fun i=>i≤l.length∧∀j (hj:j<l.length),j<i→p l[j]=false) (fun i=>l.length -i) 0 ?_ ⟨Nat.zero_le _,fun j _ h=>by omega⟩ ?_
 ·exact aj.to (by simp) rfl (by simp) (by simp[hb]) (by simp)
 ·intro i ⟨hi,ho⟩
  by_cases c:i<l.length
  ·have hw:aM ((i:Int)+1)=((i+1:Nat):Int):=by rw[ah (by omega) (by omega)];omega
   have hx:=h l[i] (List.getElem_mem c);simp[c,hp,hf];refine am.intro hx (by simp) ?_;cases hpx:p l[i]
   ·simp;refine⟨i+1,by dsimp only;omega,⟨by omega,fun j hj hji=>?_⟩,aj.to (by simp[hw]) rfl (by simp) (by simp[hb]) (by simp)⟩
    by_cases e:j=i
    ·subst e;exact hpx
    ·exact ho j hj (by omega)
   ·simp;rw[fO c ho hpx]
  ·simp[c];rw[eb (fun j hj=>ho j hj (by omega))]
theorem ff(l:List Int)(hl:l.length≤1000000)(g:Nat)(cap:List PV)(p:Int→Bool)(hf:∀r,dY r cap=cap)(hp:iE cap=false)(hb:∀k,bO k cap)
 (h:∀x∈l,ao Tryz.prog g (ae x::cap) (fun r=>r=.pv (BL (p x)))):ao Tryz.prog 204 [.seq false 1 (af l),.fn (.func g) [] cap] (fun r=>r=.pv (BL (l.any p))):=by
 refine aw aG Tryz.func204 (by kernel_rfl) rfl rfl (by kernel_rfl) (Nat.le_of_ble_eq_true rfl) ?_;simp[hp,hf];refine am.intro (sJ l hl g cap p hf hp hb h) (by simp) ?_;have:decide ((0:Int)≤jX p l)=l.any p:=by
  by_cases c:∃i,∃h:i<l.length,p l[i]=true∧∀j (hj:j<l.length),j<i→p l[j]=false
  ·obtain⟨i,hi,h1,h2⟩:=c;rw[fO hi h2 h1,List.any_eq_true.2 ⟨_,List.getElem_mem hi,h1⟩];simp
  ·have hno:∀j (hj:j<l.length),p l[j]=false:=by
    intro j
    induction j using Nat.strongRecOn with
    |ind j ih=>
     intro hj;cases e:p l[j]
     ·rfl
     ·exact absurd ⟨j,hj,e,fun k hk hkj=>ih k hkj hk⟩ c
   rw[eb hno];have:l.any p=false:=by
    rw[List.any_eq_false];intro x hx;obtain⟨j,hj,rfl⟩:=List.getElem_of_mem hx;rw[hno j hj];simp
   rw[this];rfl
 simp[this]
def aU(p:Int→Bool)(l:List Int):List Int:=l.filter fun x=>!p x
theorem iO(p:Int→Bool)(l:List Int):(aU p l).length≤l.length:=List.length_filter_le _ _
theorem gA(p:Int→Bool)(l:List Int){j:Nat}(h:j<l.length):aU p (l.take (j+1))=if p l[j]=true then aU p (l.take j)else aU p (l.take j)++[l[j]]:=by
 unfold aU;rw[List.take_add_one,List.getElem?_eq_getElem h,Option.toList_some,List.filter_append];simp only[List.filter_cons,List.filter_nil];cases p l[j]<;>simp
theorem lJ(p:Int→Bool)(l:List Int)(h:∀x∈l,p x=false):aU p l=l:=List.filter_eq_self.2 fun x hx=>by rw[h x hx];rfl
def Gt(p:Int→Bool)(zs:List Int)(k:Option Nat)(rows:List (List PV)):Prop:=k=some (aU p zs).length∧rows=az (aU p zs++List.replicate (zs.length -(aU p zs).length) 0)
theorem gM(zs:List Int)(hl:zs.length≤1000000)(g:Nat)(cap:List PV)(p:Int→Bool)(hf:∀r,dY r cap=cap)(hp:iE cap=false)(hb:∀k,bO k cap)(ho:o9 cap)
 (h:∀x∈zs,ao Tryz.prog g (ae x::cap) (fun r=>r=.pv (BL (p x)))):tT Tryz.prog 150 1 (az zs) [.fn (.func g) [] cap] (Gt p zs):=by
 have hI:=sJ zs hl g cap p hf hp hb h;refine tT.ofInts (by kernel_rfl) ⟨⟨trivial,ho⟩,trivial⟩ ⟨⟨trivial,hb 0⟩,trivial⟩ (fun hne pre suf cp hcp hmx=>?_) (fun he q cp=>?_)
 ·refine l9 aG Tryz.func150 (by kernel_rfl) rfl rfl (by kernel_rfl) (Nat.le_of_ble_eq_true rfl) ?_;simp[hp,hf,Dt];refine ak.introP hI (by simp) (by simp) ?_
  by_cases c:∃i,∃h:i<zs.length,p zs[i]=true∧∀j (hj:j<zs.length),j<i→p zs[j]=false
  rotate_left
  ·have hno:∀j (hj:j<zs.length),p zs[j]=false:=by
    intro j
    induction j using Nat.strongRecOn with
    |ind j ih=>
     intro hj;cases e:p zs[j]
     ·rfl
     ·exact absurd ⟨j,hj,e,fun k hk hkj=>ih k hkj hk⟩ c
   have hd:=lJ p zs fun x hx=>by
    obtain⟨j,hj,rfl⟩:=List.getElem_of_mem hx;exact hno j hj
   rw[eb hno];simp;exact⟨some zs.length,zs,⟨by rw[hd],by rw[hd];simp⟩,rfl,fun m hm=>by cases hm;exact Nat.le_refl _,rfl,rfl⟩
  obtain⟨i0,hi0,hpi,hno⟩:=c;rw[fO hi0 hno hpi];have hw0:aM ((i0:Int)+1)=((i0+1:Nat):Int):=by rw[ah (by omega) (by omega)];omega
  have hd0:aU p (zs.take i0)=zs.take i0:=lJ p _ fun x hx=>by
   obtain⟨j,hj,rfl⟩:=List.getElem_of_mem hx;rw[List.length_take]at hj;rw[List.getElem_take];exact hno j (by omega) (by omega)
  simp;refine aH.intro (S:=fun(y:Nat×List Int)=>⟨[(0,.pv (.bsl 0 1 pre.length zs.length cp)),(1,.pv (.fn (.func g) [] cap)),(5,.pv (ae ((aU p (zs.take y.1)).length:Nat))),(6,.pv (ae y.1))],[blk pre y.2 suf]⟩)
   (fun y=>y.1≤zs.length∧(aU p (zs.take y.1)).length<y.1∧y.2.length=zs.length∧y.2.take (aU p (zs.take y.1)).length=aU p (zs.take y.1)∧y.2.drop y.1=zs.drop y.1) (fun y=>zs.length -y.1) (i0+1,zs) ?_ ?_ ?_
  ·refine aj.to ?_ rfl (by simp) (by simp[hb]) (by simp[eO]);have:(aU p (zs.take (i0+1))).length=i0:=by rw[gA p zs hi0,if_pos hpi,hd0,List.length_take];omega
   simp[hw0,this]
  ·have:aU p (zs.take (i0+1))=zs.take i0:=by rw[gA p zs hi0,if_pos hpi,hd0]
   refine⟨by dsimp only;omega,?_,rfl,?_,rfl⟩
   ·dsimp only;rw[this,List.length_take];omega
   ·dsimp only;rw[this,List.length_take];congr 1;omega
  ·rintro⟨j,cur⟩ ⟨h1,h2,h3,h4,h5⟩;dsimp only at h1 h2 h3 h4 h5
   by_cases cj:j<zs.length
   ·have hw:aM ((j:Int)+1)=((j+1:Nat):Int):=by rw[ah (by omega) (by omega)];omega
    have hcj:cur[j]'(by omega)=zs[j]:=by
     have:=congrArg (fun l=>l[0]?) h5;simp only[List.getElem?_drop,Nat.add_zero]at this;rw[List.getElem?_eq_getElem (by omega),List.getElem?_eq_getElem cj]at this;exact Option.some.inj this
    have hget:=ju pre cur suf (i:=j) (by omega);rw[hcj]at hget;have hlen:=dZ pre cur suf;have hx:=h zs[j] (List.getElem_mem cj);have hst:=gA p zs cj;simp[cj,hp,hf,hget,hlen];refine⟨by omega,am.intro hx (by simp) ?_⟩;cases hpx:p zs[j]
    ·rw[hpx]at hst;simp only[Bool.false_eq_true,if_false]at hst;have hw2:aM (((aU p (zs.take j)).length:Int)+1)=(((aU p (zs.take j)).length+1:Nat):Int):=by rw[ah (by omega) (by omega)];omega
     have hset:=ul pre cur suf (i:=(aU p (zs.take j)).length) zs[j] (by omega);simp[hlen];refine⟨by omega,by omega,(j+1,cur.set (aU p (zs.take j)).length zs[j]),by(try dsimp only);omega,⟨by(try dsimp only);omega,?_,by(try dsimp only);rw[List.length_set];exact h3,?_,?_⟩,aj.to ?_ (by simp[hset]) (by simp) (by simp[hb]) (by simp[eO])⟩
     ·dsimp only;rw[hst,List.length_append,List.length_singleton];omega
     ·dsimp only;rw[hst,List.length_append,List.length_singleton,List.take_add_one,List.take_set_of_le (Nat.le_refl _),h4,List.getElem?_set_self (by omega)];rfl
     ·dsimp only;rw[List.drop_set_of_lt (by omega)];have:=congrArg (List.drop 1) h5
      rwa [List.drop_drop,List.drop_drop]at this
     ·simp[hw,hw2,hst]
    ·rw[hpx]at hst;simp only[if_true]at hst;simp;refine⟨(j+1,cur),by(try dsimp only);omega,⟨by(try dsimp only);omega,by dsimp only;rw[hst];omega,h3,by dsimp only;rw[hst];exact h4,?_⟩,aj.to (by simp[hw,hst]) rfl (by simp) (by simp[hb]) (by simp[eO])⟩;dsimp only;have:=congrArg (List.drop 1) h5
     rwa [List.drop_drop,List.drop_drop]at this
   ·have:j=zs.length:=by omega
    subst this;rw[List.take_length]at h2 h4;have hlen:=dZ pre cur suf;have hfill:=qA pre cur suf (i:=(aU p zs).length) (n:=zs.length -(aU p zs).length) 0 (by omega);simp[h3];refine⟨⟨by omega,by omega⟩,by omega,by omega,⟨by omega,by omega⟩,some (aU p zs).length,aU p zs++List.replicate (zs.length -(aU p zs).length) 0,⟨rfl,rfl⟩,by simp;omega,fun m hm=>by cases hm;omega,rfl,?_⟩;rw[hfill,h4,List.drop_eq_nil_of_le (by omega),List.append_nil]
 ·subst he;refine aw aG Tryz.func150 (by kernel_rfl) rfl rfl (by kernel_rfl) (Nat.le_of_ble_eq_true rfl) ?_;simp[hp,hf];refine am.intro (hI.conv ⟨_,_,rfl,fun w v hv=>⟨q,cp,hv,Nat.zero_le _,.inl rfl⟩,_,_,rfl,PV.as.refl _,rfl⟩) (by simp) ?_;rw[eb (fun j hj=>by simp at hj)];simp;exact⟨some 0,⟨rfl,rfl⟩,.inr rfl,rfl⟩
structure Mk where
  v:Int
  lev:Int
  rea:Int
  pla:Int
instance:Inhabited Mk:=⟨⟨0,0,0,0⟩⟩
structure Tr where
  marks:List Mk
  lits:List Int
  beg:List Int
def nV(x:Mk):List PV:=[ae x.v,ae x.lev,ae x.rea,ae x.pla]
def cJ(T:Tr):List PV:=[.seq false 4 (T.marks.map nV),.seq false 1 (af T.lits),.seq false 1 (af T.beg),BL true]
def fB(T:Tr):List SV:=[.own true 4 (T.marks.map nV),.own true 1 (af T.lits),.own true 1 (af T.beg),.pv (BL true)]
abbrev bu(T:Tr):PV:=.iptr 4 [cJ T] 0 0
@[simp] theorem mJ(k:Nat)(l:List Mk):bP k (l.map nV):=by
 induction l with
 |nil=>trivial
 |cons x xs ih=>exact⟨⟨trivial,trivial,trivial,trivial,trivial⟩,ih⟩
@[simp] theorem KV(r:Nat→Nat→PV)(l:List Mk):ke r (l.map nV)=l.map nV:=by
 rw[cd,List.map_map];congr 1
theorem cu{h:List (List SV)}{b:Nat}{T:Tr}(hb:h[b]?=some (fB T))(n:Nat):bq h (n+1) b 0=bu T:=by
 obtain⟨hlt,hb'⟩:=List.getElem?_eq_some_iff.1 hb;simp[bq,hlt,hb',fB,cJ,frzC]
def Tr.ok(T:Tr):Prop:=1≤T.marks.length∧T.marks.length≤100001
theorem ld(T:Tr):ao Tryz.prog 119 [bu T] (fun r=>r=.pv (BL true)):=by
 refine aw aG Tryz.func119 (by kernel_rfl) rfl rfl (by kernel_rfl) (Nat.le_of_ble_eq_true rfl) ?_;simp[bu,cJ]
def br(T:Tr)(i:Int):Mk:=T.marks.getD i.toNat default
def eW(T:Tr)(l:Int):Int:=if ax l ((T.marks.length:Int) -1)≠0 then 10 else if(br T (ab l)).v≠0 then 21 else 0
theorem cV{n m:Int}(hm:0≤m∧m≤100000):ax n m=0↔n≠0∧-m≤n∧n≤m:=by
 unfold ax;rw[if_neg (by omega)];have:rK n m=true↔n≠0∧-m≤n∧n≤m:=by unfold rK;simp
 split
 ·rename_i h;exact⟨fun _=>this.1 h,fun _=>rfl⟩
 ·rename_i h;exact⟨fun x=>by simp at x,fun x=>absurd (this.2 x) h⟩
theorem nx{n m:Int}(hm:0≤m∧m≤100000)(h:ax n m=0):1≤ab n∧ab n≤m∧da n=true∧ab n=eF n:=by
 obtain⟨h1,h2,h3⟩:=(cV hm).1 h;have hk:=(bj n).2 ⟨h1,by omega,by omega⟩;have hv:ab n=eF n:=by unfold ab;rw[if_pos hk]
 rw[hv];unfold eF;refine⟨?_,?_,hk,rfl⟩<;>split<;>omega
set_option maxRecDepth 8000 in
theorem z7(T:Tr)(l:Int)(ht:T.ok):ao Tryz.prog 172 [bu T,ae l] (fun r=>r=.pv (ae (eW T l))):=by
 refine aw aG Tryz.func172 (by kernel_rfl) rfl rfl (by kernel_rfl) (Nat.le_of_ble_eq_true rfl) ?_;obtain⟨t1,t2⟩:=ht;have hw:aM ((T.marks.length:Int) -1)=(T.marks.length:Int) -1:=ah (by omega) (by omega);have his:=ld T;have hM:eW T l=if ax l ((T.marks.length:Int) -1)≠0 then 10 else if(br T (ab l)).v≠0 then 21 else 0:=rfl;generalize eW T l=E at hM⊢;simp only[bu,cJ]at his;simp[bu,cJ,hw];refine am.intro his (by simp) ?_;simp[hw];refine am.intro (iu l ((T.marks.length:Int) -1)) (by simp) ?_;simp;refine⟨fun c=>by rw[hM,if_pos c],fun c=>?_⟩;obtain⟨v1,v2,v3,v4⟩:=nx (by omega) c;obtain⟨i,hi⟩:∃i:Nat,ab l=(i:Int):=⟨(ab l).toNat,by omega⟩;have hil:i<T.marks.length:=by omega
 have hmk:br T (ab l)=T.marks[i]:=by unfold br;rw[hi,Int.toNat_natCast,List.getD_eq_getElem?_getD,List.getElem?_eq_getElem hil];rfl
 rw[hmk,if_neg (by simp[c])]at hM;refine bs.intro (aD l) (by simp) ?_;simp[hi,hil,nV];exact⟨fun c=>by rw[hM,if_pos c],fun c=>by rw[hM,if_neg (by simp[c])]⟩
def dq(T:Tr)(v:Int):Mk×Bool:=if v<1∨(T.marks.length:Int)≤v∨(br T v).v=0 then(⟨0,-1,-1,-1⟩,false)else(br T v,true)
set_option maxRecDepth 8000 in
theorem yf(T:Tr)(v:Int)(ht:T.ok):ao Tryz.prog 247 [bu T,ae v] (fun r=>r=.pv (.tup [.agg (nV (dq T v).1),BL (dq T v).2])):=by
 refine kU [] [.cell 4 _,.tmp 5] aG Tryz.func247 (by kernel_rfl) rfl rfl (by kernel_rfl) (Nat.le_of_ble_eq_true rfl) ?_;have his:=ld T;obtain⟨t1,t2⟩:=ht;have hO:dq T v=if v<1∨(T.marks.length:Int)≤v∨(br T v).v=0 then(⟨0,-1,-1,-1⟩,false)else(br T v,true):=rfl;generalize dq T v=R at hO⊢;simp only[bu,cJ]at his;simp[bu,cJ];refine am.intro his (by simp) ?_
 by_cases c1:v<1
 ·rw[if_pos (.inl c1)]at hO;subst hO;simp[c1,nV]
 by_cases c2:(T.marks.length:Int)≤v
 ·rw[if_pos (.inr (.inl c2))]at hO;subst hO;simp[c1,c2,nV]
 obtain⟨i,rfl⟩:∃i:Nat,v=(i:Int):=⟨v.toNat,by omega⟩;have hil:i<T.marks.length:=by omega
 have c3:¬T.marks.length≤i:=by omega
 have hmk:br T i=T.marks[i]:=by unfold br;rw[Int.toNat_natCast,List.getD_eq_getElem?_getD,List.getElem?_eq_getElem hil];rfl
 rw[hmk]at hO
 by_cases c4:T.marks[i].v=0
 ·rw[if_pos (.inr (.inr c4))]at hO;subst hO;simp[c1,c3,hil,c4,nV]
 ·rw[if_neg (by omega)]at hO;subst hO;simp[c1,c3,hil,c4,nV]
theorem eP(T:Tr)(v:Int)(ht:T.ok):ao Tryz.prog 170 [bu T,ae v] (fun r=>r=.pv (ae (dq T v).1.lev)):=by
 refine aw aG Tryz.func170 (by kernel_rfl) rfl rfl (by kernel_rfl) (Nat.le_of_ble_eq_true rfl) ?_;have h:=yf T v ht;simp only[bu,cJ,nV]at h;simp[bu,cJ];refine am.intro h (by simp) ?_;simp
theorem fC(T:Tr)(v:Int)(ht:T.ok):ao Tryz.prog 167 [bu T,ae v] (fun r=>r=.pv (ae (dq T v).1.rea)):=by
 refine aw aG Tryz.func167 (by kernel_rfl) rfl rfl (by kernel_rfl) (Nat.le_of_ble_eq_true rfl) ?_;have h:=yf T v ht;simp only[bu,cJ,nV]at h;simp[bu,cJ];refine am.intro h (by simp) ?_;simp
theorem lK(T:Tr)(v:Int)(ht:T.ok):ao Tryz.prog 245 [bu T,ae v] (fun r=>r=.pv (ae (dq T v).1.pla)):=by
 refine aw aG Tryz.func245 (by kernel_rfl) rfl rfl (by kernel_rfl) (Nat.le_of_ble_eq_true rfl) ?_;have h:=yf T v ht;simp only[bu,cJ,nV]at h;simp[bu,cJ];refine am.intro h (by simp) ?_;simp
def bV(T:Tr)(l:Int):Int:=if ax l ((T.marks.length:Int) -1)≠0 then 0 else if l<0 then aM (-(br T (ab l)).v)else(br T (ab l)).v
set_option maxRecDepth 8000 in
theorem eQ(T:Tr)(l:Int)(ht:T.ok):ao Tryz.prog 103 [bu T,ae l] (fun r=>r=.pv (ae (bV T l))):=by
 refine aw aG Tryz.func103 (by kernel_rfl) rfl rfl (by kernel_rfl) (Nat.le_of_ble_eq_true rfl) ?_;obtain⟨t1,t2⟩:=ht;have hw:aM ((T.marks.length:Int) -1)=(T.marks.length:Int) -1:=ah (by omega) (by omega);have his:=ld T;have hM:bV T l=if ax l ((T.marks.length:Int) -1)≠0 then 0 else if l<0 then aM (-(br T (ab l)).v)else(br T (ab l)).v:=rfl;generalize bV T l=E at hM⊢;simp only[bu,cJ]at his;simp[bu,cJ,hw];refine am.intro his (by simp) ?_;simp[hw];refine bY.intro (r:=.pv (ae (ax l ((T.marks.length:Int) -1)))) (fun _=>iu l ((T.marks.length:Int) -1)) (by simp) ?_;simp;refine⟨fun c=>by rw[hM,if_pos c],fun c=>?_⟩;obtain⟨v1,v2,v3,v4⟩:=nx (by omega) c;obtain⟨i,hi⟩:∃i:Nat,ab l=(i:Int):=⟨(ab l).toNat,by omega⟩;have hil:i<T.marks.length:=by omega
 have hmk:br T (ab l)=T.marks[i]:=by unfold br;rw[hi,Int.toNat_natCast,List.getD_eq_getElem?_getD,List.getElem?_eq_getElem hil];rfl
 rw[hmk,if_neg (by simp[c])]at hM;refine bs.intro (aD l) (by simp) ?_;simp[hi,hil,nV];exact⟨fun c=>by rw[hM,if_pos c],fun c=>by rw[hM,if_neg (by omega)]⟩
theorem er(T:Tr)(hl:T.lits.length≤1000000):ao Tryz.prog 58 [bu T] (fun r=>r=.own true 1 (af T.lits)):=by
 refine aw aG Tryz.func58 (by kernel_rfl) rfl rfl (by kernel_rfl) (Nat.le_of_ble_eq_true rfl) ?_;have his:=ld T;simp only[bu,cJ]at his;simp[bu,cJ];refine am.intro his (by simp) ?_;simp;refine am.intro (gL T.lits hl) (by simp) ?_;simp
def fW(T:Tr)(l rea:Int):Tr:=⟨T.marks.set (ab l).toNat ⟨if l<0 then-1 else 1,T.beg.length,rea,T.lits.length⟩,T.lits++[l],T.beg⟩
def Du:Sch:=
 let R11:Sch:=.fork [(11,.take 12 (.take 13 (.fork [(14,.done)])))]
 let A:Sch:=.fork [(9,.fork [(10,R11)])]
 .take 0 (.take 1 (.take 2 (.take 3 (.take 5 (.take 6 (.take 7 (.fork [(4,.fork [(8,A)]),(8,.fork [(4,A),(9,.fork [(4,.fork [(10,R11)]),(10,.fork [(4,R11)])])])])))))))
theorem gO(k:Nat)(T:Tr):cP k (fB T):=⟨mJ k _,bc k _,bc k _,trivial,trivial⟩
theorem d0{k:Nat}{x:List SV}(hx:cP k x):∀(b:Nat){h:List (List SV)},dz k h→dz k (h.set b x)
 |_,[],_=>trivial
 |0,_::_,hh=>⟨hx,hh.2⟩
 |b+1,_::_,hh=>⟨hh.1,d0 hx b hh.2⟩
theorem cQ{h:List (List SV)}{b:Nat}{x:List SV}(hb:h[b]?=some x):h.set b x=h:=by
 apply List.ext_getElem?;intro i;rw[List.getElem?_set];split
 ·rename_i e;subst e;rw[if_pos (List.getElem?_eq_some_iff.1 hb).1,hb]
 ·rfl
theorem um{h:List (List SV)}{b:Nat}(hlt:b<h.length)(y x:List SV):(h++[y]).set b x=h.set b x++[y]:=List.set_append_left _ _ hlt
set_option maxRecDepth 16000 in
theorem z8(h:List (List SV))(b:Nat)(T:Tr)(hb:h[b]?=some (fB T))(l rea:Int)(hv:0≤ab l∧ab l<T.marks.length)(hs:T.lits.length≤1000000):
 aE Tryz.prog 173 [.ptr b 0,ae l,ae rea] h (fun r h'=>h'=h.set b (fB (fW T l rea))∧r=.pv (.tup [])):=by
 refine gN [] [] (h.set b (fB (fW T l rea))) (by simp) (fun hh=>by rw[List.length_set];exact d0 (gO _ _) b hh) aG Tryz.func173 (by kernel_rfl) rfl rfl (by kernel_rfl) (Nat.le_of_ble_eq_true rfl) ?_;obtain⟨hlt,hb'⟩:=List.getElem?_eq_some_iff.1 hb;obtain⟨i,hi⟩:∃i:Nat,ab l=(i:Int):=⟨(ab l).toNat,by omega⟩;have hil:i<T.marks.length:=by omega
 have hap:∀y,(h++[y])[b]?=some (fB T):=fun y=>by rw[List.getElem?_append_left hlt];exact hb
 have hsa:∀y x,(h++[y]).set b x=h.set b x++[y]:=fun y x=>um hlt y x;simp only[fB]at hap;have hgs:∀x y,(h.set b x++[y])[b]?=some x:=fun x y=>by rw[List.getElem?_append_left (by simpa using hlt)];simp[hlt]
 have hss:∀x y z,(h.set b x++[y]).set b z=h.set b z++[y]:=fun x y z=>by rw[um (by simpa using hlt),List.set_set]
 have hmk:∀x:Mk,(T.marks.map nV).set i [ae x.v,ae x.lev,ae x.rea,ae x.pla]=(T.marks.set i x).map nV:=fun x=>by rw[List.map_set];rfl
 have hli:af T.lits++[[ae l]]=af (T.lits++[l]):=oR _ _
 by_cases c:l<0
 ·simp[hb',hlt,fB,c,hap,hsa];refine bs.intro (aD l) (by simp) ?_;simp[hb',hlt,fB,c,hap,hsa,hgs,hss,hi,hil,nV,fW,hli,fe];omega
 ·simp[hb',hlt,fB,c,hap,hsa];refine bs.intro (aD l) (by simp) ?_;simp[hb',hlt,fB,c,hap,hsa,hgs,hss,hi,hil,nV,fW,hli,fe];omega
def ou(T:Tr):Tr:=⟨T.marks,T.lits,T.beg++[(T.lits.length:Int)]⟩
def jw(T:Tr)(l:Int):Tr:=if eW T l=0 then fW (ou T) l (-1)else T
def yg(T:Tr)(l rea:Int):Int:=if eW T l≠0 then eW T l else if rea<0 then 2 else 0
def jx(T:Tr)(l rea:Int):Tr:=if yg T l rea=0 then fW T l rea else T
theorem sK{T:Tr}(ht:T.ok){l:Int}(h:eW T l=0):ax l ((T.marks.length:Int) -1)=0∧(br T (ab l)).v=0∧1≤ab l∧ab l<T.marks.length:=by
 unfold eW at h;split at h
 ·cases h
 ·rename_i h1;split at h
  ·cases h
  ·rename_i h2;have h1':ax l ((T.marks.length:Int) -1)=0:=by simpa using h1
   obtain⟨v1,v2,_,_⟩:=nx (by have:=ht.1;have:=ht.2;omega) h1';exact⟨h1',by simpa using h2,v1,by omega⟩
set_option maxRecDepth 16000 in
theorem yh(h:List (List SV))(b:Nat)(T:Tr)(hb:h[b]?=some (fB T))(l:Int)(ht:T.ok)(hs:T.lits.length≤1000000)(hs2:T.beg.length≤1000000):
 aE Tryz.prog 104 [.ptr b 0,ae l] h (fun r h'=>h'=h.set b (fB (jw T l))∧r=.pv (ae (eW T l))):=by
 refine gN [3] [.tmp 4] (h.set b (fB (jw T l))) (by simp) (fun hh=>by rw[List.length_set];exact d0 (gO _ _) b hh) aG Tryz.func104 (by kernel_rfl) rfl rfl (by kernel_rfl) (Nat.le_of_ble_eq_true rfl) ?_;obtain⟨hlt,hb'⟩:=List.getElem?_eq_some_iff.1 hb;have hm:=z7 T l ht;have hfr:∀n,bq h (n+1) b 0=bu T:=fun n=>cu hb n;simp;simp only[bu]at hm hfr;have hm':=hm;rw[←hfr 0]at hm';refine ak.introP (r:=.pv (ae (eW T l))) (by simpa[hfr]using hm) (by simp[hlt]) (by simp) ?_;simp;refine⟨fun c=>?_,fun c=>?_⟩
 ·obtain⟨m1,m2,m3,m4⟩:=sK ht c;have hD:jw T l=fW (ou T) l (-1):=by unfold jw;rw[if_pos c]
  have hP:=z8 (h.set b (fB (ou T))) b (ou T) (by simp[hlt]) l (-1) ⟨by omega,m4⟩ hs;refine aY.meet Du ⟨[(0,.pv (.ptr b 0)),(1,.pv (ae l)),(5,.pv (ae (eW T l)))],h.set b (fB (ou T))⟩ (by kernel_rfl) ?_ ?_
  ·have hbi:af T.beg++[[ae (T.lits.length:Int)]]=af (T.beg++[(T.lits.length:Int)]):=oR _ _;simp[Du,hb',hlt,fB];and_intros
   all_goals first
    |omega
    |exact aj.keep (by simp) (by simp[ou,hbi])
  ·simp;refine ak.intro hP (by simp) ?_;rintro _ _ ⟨rfl,rfl⟩;simp[hD,c,fe];exact List.take_of_length_le (by simp)
 ·have hD:jw T l=T:=by unfold jw;rw[if_neg c]
  simp[hD,cQ hb,fe]
set_option maxRecDepth 16000 in
theorem sL(h:List (List SV))(b:Nat)(T:Tr)(hb:h[b]?=some (fB T))(l rea:Int)(ht:T.ok)(hs:T.lits.length≤1000000):
 aE Tryz.prog 99 [.ptr b 0,ae l,ae rea] h (fun r h'=>h'=h.set b (fB (jx T l rea))∧r=.pv (ae (yg T l rea))):=by
 refine gN [] [.tmp 6] (h.set b (fB (jx T l rea))) (by simp) (fun hh=>by rw[List.length_set];exact d0 (gO _ _) b hh) aG Tryz.func99 (by kernel_rfl) rfl rfl (by kernel_rfl) (Nat.le_of_ble_eq_true rfl) ?_;obtain⟨hlt,hb'⟩:=List.getElem?_eq_some_iff.1 hb;have hm:=z7 T l ht;have hfr:∀n,bq h (n+1) b 0=bu T:=fun n=>cu hb n;have hE:yg T l rea=if eW T l≠0 then eW T l else if rea<0 then 2 else 0:=rfl;simp only[bu]at hm hfr;simp;refine ak.introP (r:=.pv (ae (eW T l))) (by simpa[hfr]using hm) (by simp[hlt]) (by simp) ?_
 by_cases c:eW T l=0
 ·rw[if_neg (by simp[c])]at hE;obtain⟨m1,m2,m3,m4⟩:=sK ht c
  by_cases c2:rea<0
  ·rw[if_pos c2]at hE;have hD:jx T l rea=T:=by unfold jx;rw[if_neg (by rw[hE];decide)]
   simp[c,c2,hE,hD,cQ hb,fe]
  ·rw[if_neg c2]at hE;have hD:jx T l rea=fW T l rea:=by unfold jx;rw[if_pos hE]
   have hP:=z8 h b T hb l rea ⟨by omega,m4⟩ hs;simp[c,c2];refine ak.intro hP (by simp) ?_;rintro _ _ ⟨rfl,rfl⟩;simp[hD,hE,c,fe];exact List.take_of_length_le (by simp)
 ·rw[if_pos c]at hE;have hD:jx T l rea=T:=by unfold jx;rw[if_neg (by rw[hE];exact c)]
  simp[c,hE,hD,cQ hb,fe]
def iP(n:Nat):Tr:=⟨List.replicate (n+1) ⟨0,0,0,0⟩,[],[]⟩
set_option maxRecDepth 16000 in
theorem Gu(h:List (List SV))(n:Nat)(hn:n≤100000):
 aE Tryz.prog 63 [ae n] h (fun r h'=>r=.pv (.tup [.ptr h.length 0,ae 0])∧h'=h++[[.own true 4 ((iP n).marks.map nV),.pv (.lit (.slice none 0 0)),.pv (.lit (.slice none 0 0)),.pv (BL true)]]):=by
 refine sF [2,3] aG Tryz.func63 (by kernel_rfl) rfl (fun _ _=>results_tmp2 rfl _ _ _) (by kernel_rfl) (Nat.le_of_ble_eq_true rfl) ?_;have hw:aM ((n:Int)+1)=((n+1:Nat):Int):=by rw[ah (by omega) (by omega)];omega
 have c2:¬(n:Int)<0:=by omega
 have c3:¬100000<(n:Int):=by omega
 have c4:¬100000<n:=by omega
 simp[c2,c3,c4,hw,iP,nV];omega
structure En where
  l:Int
  lev:Int
  rea:Int
instance:Inhabited En:=⟨⟨0,0,0⟩⟩
structure RT where
  vars:Int
  rows:List En
  dep:Int
def ow(t:RT)(v:Int):Int:=jX (fun x:En=>decide (ab x.l=v)) t.rows
theorem jy{t:RT}{v:Int}(h:0≤ow t v):∃i:Nat,∃hi:i<t.rows.length,ow t v=i∧ab t.rows[i].l=v:=by
 unfold ow jX at*;split at h
 ·rename_i i hf;rw[List.findIdx?_eq_some_iff_getElem]at hf;obtain⟨h1,h2,_⟩:=hf;exact⟨i,h1,rfl,by simpa using h2⟩
 ·omega
def mayR(t:RT)(l:Int):Int:=if ax l t.vars≠0 then 10 else if 0≤ow t (ab l)then 21 else 0
def KW(t:RT)(v:Int):Int×Int:=if ow t v<0 then(-1,-1)else((t.rows.getD (ow t v).toNat default).lev,(t.rows.getD (ow t v).toNat default).rea)
end Go.AX