/-
  Contracts: slices.Clone, IndexFunc, ContainsFunc, DeleteFunc of numbers.
  Contracts: trails.
-/
import Derived.Test.YthfhellfmbllhaaGreatS12AxClA
import Derived.Test.YthfhellfmbllhaaGreatAxLo
namespace Go.AX
open Go.Proofs
set_option linter.unusedSimpArgs false
theorem clone_ok (l:List Int) (hl:l.length≤1000000):APure Tryz.prog 70 [.seq false 1 (irow l)] (fun r=>r=.own true 1 (irow l)):=by
 refine APure.own0 (R:=fun r=>r=.own true 1 (irow l)∨(l=[]∧r=.pv (.lit (.slice none 0 0)))) ?_ (fun r h=>h.imp id fun⟨e1,e2⟩=>⟨e2,true,1,by rw[e1];rfl⟩);refine apure1 hmo Tryz.func70 (by kernel_rfl) rfl rfl (by kernel_rfl) (Nat.le_of_ble_eq_true rfl) ?_;simp;cases l with
 |nil=>simp[irow]
 |cons x l=>simp[irow]at hl⊢;omega
theorem indexF_ok (l:List Int) (hl:l.length≤1000000) (g:Nat) (cap:List PV) (p:Int→Bool) (hf:∀r,frzL r cap=cap) (hp:ptrAny cap=false) (hb:∀k,belowL k cap)
 (h:∀x∈l,APure Tryz.prog g (I64 x::cap) (fun r=>r=.pv (BL (p x)))):APure Tryz.prog 114 [.seq false 1 (irow l),.fn (.func g) [] cap] (fun r=>r=.pv (I64 (idxS p l))):=by
 refine apure1 hmo Tryz.func114 (by kernel_rfl) rfl rfl (by kernel_rfl) (Nat.le_of_ble_eq_true rfl) ?_;simp;refine ALoop.intro (S:=fun(i:Nat)=>⟨[(0,.pv (.seq false 1 (irow l))),(1,.pv (.fn (.func g) [] cap)),(7,.pv (I64 l.length)),(8,.pv (I64 i))],[]⟩) (fun i=>i≤l.length∧∀j (hj:j<l.length),j<i→p l[j]=false) (fun i=>l.length -i) 0 ?_ ⟨Nat.zero_le _,fun j _ h=>by omega⟩ ?_
 ·exact Weak.to (by simp) rfl (by simp) (by simp[hb]) (by simp)
 ·intro i ⟨hi,ho⟩
  by_cases c:i<l.length
  ·have hw:w64 ((i:Int)+1)=((i+1:Nat):Int):=by rw[w64_id (by omega) (by omega)];omega
   have hx:=h l[i] (List.getElem_mem c);simp[c,hp,hf];refine CallK.intro hx (by simp) ?_;cases hpx:p l[i]
   ·simp;refine⟨i+1,by dsimp only;omega,⟨by omega,fun j hj hji=>?_⟩,Weak.to (by simp[hw]) rfl (by simp) (by simp[hb]) (by simp)⟩
    by_cases e:j=i
    ·subst e;exact hpx
    ·exact ho j hj (by omega)
   ·simp;rw[idxS_at c ho hpx]
  ·simp[c];rw[idxS_none (fun j hj=>ho j hj (by omega))]
theorem containsF_ok (l:List Int) (hl:l.length≤1000000) (g:Nat) (cap:List PV) (p:Int→Bool) (hf:∀r,frzL r cap=cap) (hp:ptrAny cap=false) (hb:∀k,belowL k cap)
 (h:∀x∈l,APure Tryz.prog g (I64 x::cap) (fun r=>r=.pv (BL (p x)))):APure Tryz.prog 85 [.seq false 1 (irow l),.fn (.func g) [] cap] (fun r=>r=.pv (BL (l.any p))):=by
 refine apure1 hmo Tryz.func85 (by kernel_rfl) rfl rfl (by kernel_rfl) (Nat.le_of_ble_eq_true rfl) ?_;simp[hp,hf];refine CallK.intro (indexF_ok l hl g cap p hf hp hb h) (by simp) ?_;have:decide ((0:Int)≤idxS p l)=l.any p:=by
  by_cases c:∃i,∃h:i<l.length,p l[i]=true∧∀j (hj:j<l.length),j<i→p l[j]=false
  ·obtain⟨i,hi,h1,h2⟩:=c;rw[idxS_at hi h2 h1,List.any_eq_true.2 ⟨_,List.getElem_mem hi,h1⟩];simp
  ·have hno:∀j (hj:j<l.length),p l[j]=false:=by
    intro j
    induction j using Nat.strongRecOn with
    |ind j ih=>
     intro hj;cases e:p l[j]
     ·rfl
     ·exact absurd ⟨j,hj,e,fun k hk hkj=>ih k hkj hk⟩ c
   rw[idxS_none hno];have:l.any p=false:=by
    rw[List.any_eq_false];intro x hx;obtain⟨j,hj,rfl⟩:=List.getElem_of_mem hx;rw[hno j hj];simp
   rw[this];rfl
 simp[this]
def delS (p:Int→Bool) (l:List Int):List Int:=l.filter fun x=>!p x
theorem delS_len (p:Int→Bool) (l:List Int):(delS p l).length≤l.length:=List.length_filter_le _ _
theorem delS_take (p:Int→Bool) (l:List Int) {j:Nat} (h:j<l.length):delS p (l.take (j+1))=if p l[j]=true then delS p (l.take j)else delS p (l.take j)++[l[j]]:=by
 unfold delS;rw[List.take_add_one,List.getElem?_eq_getElem h,Option.toList_some,List.filter_append];simp only[List.filter_cons,List.filter_nil];cases p l[j]<;>simp
theorem delS_none (p:Int→Bool) (l:List Int) (h:∀x∈l,p x=false):delS p l=l:=List.filter_eq_self.2 fun x hx=>by rw[h x hx];rfl
def delR (p:Int→Bool) (zs:List Int) (k:Option Nat) (rows:List (List PV)):Prop:=k=some (delS p zs).length∧rows=intsB (delS p zs++List.replicate (zs.length -(delS p zs).length) 0)
theorem deleteF_ok (zs:List Int) (hl:zs.length≤1000000) (g:Nat) (cap:List PV) (p:Int→Bool) (hf:∀r,frzL r cap=cap) (hp:ptrAny cap=false) (hb:∀k,belowL k cap) (ho:oldL cap)
 (h:∀x∈zs,APure Tryz.prog g (I64 x::cap) (fun r=>r=.pv (BL (p x)))):AIn Tryz.prog 67 1 (intsB zs) [.fn (.func g) [] cap] (delR p zs):=by
 have hI:=indexF_ok zs hl g cap p hf hp hb h;refine AIn.ofInts (by kernel_rfl) ⟨⟨trivial,ho⟩,trivial⟩ ⟨⟨trivial,hb 0⟩,trivial⟩ (fun hne pre suf cp hcp hmx=>?_) (fun he q cp=>?_)
 ·refine amut1 hmo Tryz.func67 (by kernel_rfl) rfl rfl (by kernel_rfl) (Nat.le_of_ble_eq_true rfl) ?_;simp[hp,hf,frzB_blk];refine CallB.introP hI (by simp) (by simp) ?_
  by_cases c:∃i,∃h:i<zs.length,p zs[i]=true∧∀j (hj:j<zs.length),j<i→p zs[j]=false
  rotate_left
  ·have hno:∀j (hj:j<zs.length),p zs[j]=false:=by
    intro j
    induction j using Nat.strongRecOn with
    |ind j ih=>
     intro hj;cases e:p zs[j]
     ·rfl
     ·exact absurd ⟨j,hj,e,fun k hk hkj=>ih k hkj hk⟩ c
   have hd:=delS_none p zs fun x hx=>by
    obtain⟨j,hj,rfl⟩:=List.getElem_of_mem hx;exact hno j hj
   rw[idxS_none hno];simp;exact⟨some zs.length,zs,⟨by rw[hd],by rw[hd];simp⟩,rfl,fun m hm=>by cases hm;exact Nat.le_refl _,rfl,rfl⟩
  obtain⟨i0,hi0,hpi,hno⟩:=c;rw[idxS_at hi0 hno hpi];have hw0:w64 ((i0:Int)+1)=((i0+1:Nat):Int):=by rw[w64_id (by omega) (by omega)];omega
  have hd0:delS p (zs.take i0)=zs.take i0:=delS_none p _ fun x hx=>by
   obtain⟨j,hj,rfl⟩:=List.getElem_of_mem hx;rw[List.length_take]at hj;rw[List.getElem_take];exact hno j (by omega) (by omega)
  simp;refine ALoop.intro (S:=fun(y:Nat×List Int)=>⟨[(0,.pv (.bsl 0 1 pre.length zs.length cp)),(1,.pv (.fn (.func g) [] cap)),(5,.pv (I64 ((delS p (zs.take y.1)).length:Nat))),(6,.pv (I64 y.1))],[blk pre y.2 suf]⟩)
   (fun y=>y.1≤zs.length∧(delS p (zs.take y.1)).length<y.1∧y.2.length=zs.length∧y.2.take (delS p (zs.take y.1)).length=delS p (zs.take y.1)∧y.2.drop y.1=zs.drop y.1) (fun y=>zs.length -y.1) (i0+1,zs) ?_ ?_ ?_
  ·refine Weak.to ?_ rfl (by simp) (by simp[hb]) (by simp[blk_below]);have:(delS p (zs.take (i0+1))).length=i0:=by rw[delS_take p zs hi0,if_pos hpi,hd0,List.length_take];omega
   simp[hw0,this]
  ·have:delS p (zs.take (i0+1))=zs.take i0:=by rw[delS_take p zs hi0,if_pos hpi,hd0]
   refine⟨by dsimp only;omega,?_,rfl,?_,rfl⟩
   ·dsimp only;rw[this,List.length_take];omega
   ·dsimp only;rw[this,List.length_take];congr 1;omega
  ·rintro⟨j,cur⟩ ⟨h1,h2,h3,h4,h5⟩;dsimp only at h1 h2 h3 h4 h5
   by_cases cj:j<zs.length
   ·have hw:w64 ((j:Int)+1)=((j+1:Nat):Int):=by rw[w64_id (by omega) (by omega)];omega
    have hcj:cur[j]'(by omega)=zs[j]:=by
     have:=congrArg (fun l=>l[0]?) h5;simp only[List.getElem?_drop,Nat.add_zero]at this;rw[List.getElem?_eq_getElem (by omega),List.getElem?_eq_getElem cj]at this;exact Option.some.inj this
    have hget:=blk_get pre cur suf (i:=j) (by omega);rw[hcj]at hget;have hlen:=blk_length pre cur suf;have hx:=h zs[j] (List.getElem_mem cj);have hst:=delS_take p zs cj;simp[cj,hp,hf,hget,hlen];refine⟨by omega,CallK.intro hx (by simp) ?_⟩;cases hpx:p zs[j]
    ·rw[hpx]at hst;simp only[Bool.false_eq_true,if_false]at hst;have hw2:w64 (((delS p (zs.take j)).length:Int)+1)=(((delS p (zs.take j)).length+1:Nat):Int):=by rw[w64_id (by omega) (by omega)];omega
     have hset:=blk_set pre cur suf (i:=(delS p (zs.take j)).length) zs[j] (by omega);simp[hlen];refine⟨by omega,by omega,(j+1,cur.set (delS p (zs.take j)).length zs[j]),by(try dsimp only);omega,⟨by(try dsimp only);omega,?_,by(try dsimp only);rw[List.length_set];exact h3,?_,?_⟩,Weak.to ?_ (by simp[hset]) (by simp) (by simp[hb]) (by simp[blk_below])⟩
     ·dsimp only;rw[hst,List.length_append,List.length_singleton];omega
     ·dsimp only;rw[hst,List.length_append,List.length_singleton,List.take_add_one,List.take_set_of_le (Nat.le_refl _),h4,List.getElem?_set_self (by omega)];rfl
     ·dsimp only;rw[List.drop_set_of_lt (by omega)];have:=congrArg (List.drop 1) h5
      rwa [List.drop_drop,List.drop_drop]at this
     ·simp[hw,hw2,hst]
    ·rw[hpx]at hst;simp only[if_true]at hst;simp;refine⟨(j+1,cur),by(try dsimp only);omega,⟨by(try dsimp only);omega,by dsimp only;rw[hst];omega,h3,by dsimp only;rw[hst];exact h4,?_⟩,Weak.to (by simp[hw,hst]) rfl (by simp) (by simp[hb]) (by simp[blk_below])⟩;dsimp only;have:=congrArg (List.drop 1) h5
     rwa [List.drop_drop,List.drop_drop]at this
   ·have:j=zs.length:=by omega
    subst this;rw[List.take_length]at h2 h4;have hlen:=blk_length pre cur suf;have hfill:=blk_fill pre cur suf (i:=(delS p zs).length) (n:=zs.length -(delS p zs).length) 0 (by omega);simp[h3];refine⟨⟨by omega,by omega⟩,by omega,by omega,⟨by omega,by omega⟩,some (delS p zs).length,delS p zs++List.replicate (zs.length -(delS p zs).length) 0,⟨rfl,rfl⟩,by simp;omega,fun m hm=>by cases hm;omega,rfl,?_⟩;rw[hfill,h4,List.drop_eq_nil_of_le (by omega),List.append_nil]
 ·subst he;refine apure1 hmo Tryz.func67 (by kernel_rfl) rfl rfl (by kernel_rfl) (Nat.le_of_ble_eq_true rfl) ?_;simp[hp,hf];refine CallK.intro (hI.conv ⟨_,_,rfl,fun w v hv=>⟨q,cp,hv,Nat.zero_le _,.inl rfl⟩,_,_,rfl,PV.as.refl _,rfl⟩) (by simp) ?_;rw[idxS_none (fun j hj=>by simp at hj)];simp;exact⟨some 0,⟨rfl,rfl⟩,.inr rfl,rfl⟩
structure Mk where
  v:Int
  lev:Int
  rea:Int
  pla:Int
instance:Inhabited Mk:=⟨⟨0,0,0,0⟩⟩
structure Tr where
  marks:List Mk
  lits:List Int
  beg:List Int
def mkR (x:Mk):List PV:=[I64 x.v,I64 x.lev,I64 x.rea,I64 x.pla]
def trR (T:Tr):List PV:=[.seq false 4 (T.marks.map mkR),.seq false 1 (irow T.lits),.seq false 1 (irow T.beg),BL true]
def trB (T:Tr):List SV:=[.own true 4 (T.marks.map mkR),.own true 1 (irow T.lits),.own true 1 (irow T.beg),.pv (BL true)]
abbrev trP (T:Tr):PV:=.iptr 4 [trR T] 0 0
@[simp] theorem belowR_mkR (k:Nat) (l:List Mk):belowR k (l.map mkR):=by
 induction l with
 |nil=>trivial
 |cons x xs ih=>exact⟨⟨trivial,trivial,trivial,trivial,trivial⟩,ih⟩
@[simp] theorem frzR_mkR (r:Nat→Nat→PV) (l:List Mk):frzR r (l.map mkR)=l.map mkR:=by
 rw[frzR_map,List.map_map];congr 1
theorem frz_tr0 {h:List (List SV)} {b:Nat} {T:Tr} (hb:h[b]?=some (trB T)) (n:Nat):frzP h (n+1) b 0=trP T:=by
 obtain⟨hlt,hb'⟩:=List.getElem?_eq_some_iff.1 hb;simp[frzP,hlt,hb',trB,trR,frzC]
def Tr.ok (T:Tr):Prop:=1≤T.marks.length∧T.marks.length≤100001
theorem tis_ok (T:Tr):APure Tryz.prog 93 [trP T] (fun r=>r=.pv (BL true)):=by
 refine apure1 hmo Tryz.func93 (by kernel_rfl) rfl rfl (by kernel_rfl) (Nat.le_of_ble_eq_true rfl) ?_;simp[trP,trR]
def mkAt (T:Tr) (i:Int):Mk:=T.marks.getD i.toNat default
def mayT (T:Tr) (l:Int):Int:=if litChk l ((T.marks.length:Int) -1)≠0 then 10 else if(mkAt T (litV l)).v≠0 then 21 else 0
theorem litChk_zero {n m:Int} (hm:0≤m∧m≤100000):litChk n m=0↔n≠0∧-m≤n∧n≤m:=by
 unfold litChk;rw[if_neg (by omega)];have:inS n m=true↔n≠0∧-m≤n∧n≤m:=by unfold inS;simp
 split
 ·rename_i h;exact⟨fun _=>this.1 h,fun _=>rfl⟩
 ·rename_i h;exact⟨fun x=>by simp at x,fun x=>absurd (this.2 x) h⟩
theorem litV_in {n m:Int} (hm:0≤m∧m≤100000) (h:litChk n m=0):1≤litV n∧litV n≤m∧okL n=true∧litV n=absS n:=by
 obtain⟨h1,h2,h3⟩:=(litChk_zero hm).1 h;have hk:=(okL_iff n).2 ⟨h1,by omega,by omega⟩;have hv:litV n=absS n:=by unfold litV;rw[if_pos hk]
 rw[hv];unfold absS;refine⟨?_,?_,hk,rfl⟩<;>split<;>omega
set_option maxRecDepth 8000 in
theorem tmay_ok (T:Tr) (l:Int) (ht:T.ok):APure Tryz.prog 91 [trP T,I64 l] (fun r=>r=.pv (I64 (mayT T l))):=by
 refine apure1 hmo Tryz.func91 (by kernel_rfl) rfl rfl (by kernel_rfl) (Nat.le_of_ble_eq_true rfl) ?_;obtain⟨t1,t2⟩:=ht;have hw:w64 ((T.marks.length:Int) -1)=(T.marks.length:Int) -1:=w64_id (by omega) (by omega);have his:=tis_ok T;have hM:mayT T l=if litChk l ((T.marks.length:Int) -1)≠0 then 10 else if(mkAt T (litV l)).v≠0 then 21 else 0:=rfl;generalize mayT T l=E at hM⊢;simp only[trP,trR]at his;simp[trP,trR,hw];refine CallK.intro his (by simp) ?_;simp[hw];refine CallK.intro (litCheck_ok l ((T.marks.length:Int) -1)) (by simp) ?_;simp;refine⟨fun c=>by rw[hM,if_pos c],fun c=>?_⟩;obtain⟨v1,v2,v3,v4⟩:=litV_in (by omega) c;obtain⟨i,hi⟩:∃i:Nat,litV l=(i:Int):=⟨(litV l).toNat,by omega⟩;have hil:i<T.marks.length:=by omega
 have hmk:mkAt T (litV l)=T.marks[i]:=by unfold mkAt;rw[hi,Int.toNat_natCast,List.getD_eq_getElem?_getD,List.getElem?_eq_getElem hil];rfl
 rw[hmk,if_neg (by simp[c])]at hM;refine CallQ0.intro (litVar_ok l) (by simp) ?_;simp[hi,hil,mkR];exact⟨fun c=>by rw[hM,if_pos c],fun c=>by rw[hM,if_neg (by simp[c])]⟩
def ofT (T:Tr) (v:Int):Mk×Bool:=if v<1∨(T.marks.length:Int)≤v∨(mkAt T v).v=0 then(⟨0,-1,-1,-1⟩,false)else(mkAt T v,true)
set_option maxRecDepth 8000 in
theorem tof_ok (T:Tr) (v:Int) (ht:T.ok):APure Tryz.prog 95 [trP T,I64 v] (fun r=>r=.pv (.tup [.agg (mkR (ofT T v).1),BL (ofT T v).2])):=by
 refine apureX [] [.cell 4 _,.tmp 5] hmo Tryz.func95 (by kernel_rfl) rfl rfl (by kernel_rfl) (Nat.le_of_ble_eq_true rfl) ?_;have his:=tis_ok T;obtain⟨t1,t2⟩:=ht;have hO:ofT T v=if v<1∨(T.marks.length:Int)≤v∨(mkAt T v).v=0 then(⟨0,-1,-1,-1⟩,false)else(mkAt T v,true):=rfl;generalize ofT T v=R at hO⊢;simp only[trP,trR]at his;simp[trP,trR];refine CallK.intro his (by simp) ?_
 by_cases c1:v<1
 ·rw[if_pos (.inl c1)]at hO;subst hO;simp[c1,mkR]
 by_cases c2:(T.marks.length:Int)≤v
 ·rw[if_pos (.inr (.inl c2))]at hO;subst hO;simp[c1,c2,mkR]
 obtain⟨i,rfl⟩:∃i:Nat,v=(i:Int):=⟨v.toNat,by omega⟩;have hil:i<T.marks.length:=by omega
 have c3:¬T.marks.length≤i:=by omega
 have hmk:mkAt T i=T.marks[i]:=by unfold mkAt;rw[Int.toNat_natCast,List.getD_eq_getElem?_getD,List.getElem?_eq_getElem hil];rfl
 rw[hmk]at hO
 by_cases c4:T.marks[i].v=0
 ·rw[if_pos (.inr (.inr c4))]at hO;subst hO;simp[c1,c3,hil,c4,mkR]
 ·rw[if_neg (by omega)]at hO;subst hO;simp[c1,c3,hil,c4,mkR]
theorem tlevel_ok (T:Tr) (v:Int) (ht:T.ok):APure Tryz.prog 51 [trP T,I64 v] (fun r=>r=.pv (I64 (ofT T v).1.lev)):=by
 refine apure1 hmo Tryz.func51 (by kernel_rfl) rfl rfl (by kernel_rfl) (Nat.le_of_ble_eq_true rfl) ?_;have h:=tof_ok T v ht;simp only[trP,trR,mkR]at h;simp[trP,trR];refine CallK.intro h (by simp) ?_;simp
theorem treason_ok (T:Tr) (v:Int) (ht:T.ok):APure Tryz.prog 37 [trP T,I64 v] (fun r=>r=.pv (I64 (ofT T v).1.rea)):=by
 refine apure1 hmo Tryz.func37 (by kernel_rfl) rfl rfl (by kernel_rfl) (Nat.le_of_ble_eq_true rfl) ?_;have h:=tof_ok T v ht;simp only[trP,trR,mkR]at h;simp[trP,trR];refine CallK.intro h (by simp) ?_;simp
def valT (T:Tr) (l:Int):Int:=if litChk l ((T.marks.length:Int) -1)≠0 then 0 else if l<0 then w64 (-(mkAt T (litV l)).v)else(mkAt T (litV l)).v
set_option maxRecDepth 8000 in
theorem tvalue_ok (T:Tr) (l:Int) (ht:T.ok):APure Tryz.prog 138 [trP T,I64 l] (fun r=>r=.pv (I64 (valT T l))):=by
 refine apure1 hmo Tryz.func138 (by kernel_rfl) rfl rfl (by kernel_rfl) (Nat.le_of_ble_eq_true rfl) ?_;obtain⟨t1,t2⟩:=ht;have hw:w64 ((T.marks.length:Int) -1)=(T.marks.length:Int) -1:=w64_id (by omega) (by omega);have his:=tis_ok T;have hM:valT T l=if litChk l ((T.marks.length:Int) -1)≠0 then 0 else if l<0 then w64 (-(mkAt T (litV l)).v)else(mkAt T (litV l)).v:=rfl;generalize valT T l=E at hM⊢;simp only[trP,trR]at his;simp[trP,trR,hw];refine CallK.intro his (by simp) ?_;simp[hw];refine CallG.intro (r:=.pv (I64 (litChk l ((T.marks.length:Int) -1)))) (fun _=>litCheck_ok l ((T.marks.length:Int) -1)) (by simp) ?_;simp;refine⟨fun c=>by rw[hM,if_pos c],fun c=>?_⟩;obtain⟨v1,v2,v3,v4⟩:=litV_in (by omega) c;obtain⟨i,hi⟩:∃i:Nat,litV l=(i:Int):=⟨(litV l).toNat,by omega⟩;have hil:i<T.marks.length:=by omega
 have hmk:mkAt T (litV l)=T.marks[i]:=by unfold mkAt;rw[hi,Int.toNat_natCast,List.getD_eq_getElem?_getD,List.getElem?_eq_getElem hil];rfl
 rw[hmk,if_neg (by simp[c])]at hM;refine CallQ0.intro (litVar_ok l) (by simp) ?_;simp[hi,hil,mkR];exact⟨fun c=>by rw[hM,if_pos c],fun c=>by rw[hM,if_neg (by omega)]⟩
theorem tlits_ok (T:Tr) (hl:T.lits.length≤1000000):APure Tryz.prog 35 [trP T] (fun r=>r=.own true 1 (irow T.lits)):=by
 refine apure1 hmo Tryz.func35 (by kernel_rfl) rfl rfl (by kernel_rfl) (Nat.le_of_ble_eq_true rfl) ?_;have his:=tis_ok T;simp only[trP,trR]at his;simp[trP,trR];refine CallK.intro his (by simp) ?_;simp;refine CallK.intro (clone_ok T.lits hl) (by simp) ?_;simp
end Go.AX