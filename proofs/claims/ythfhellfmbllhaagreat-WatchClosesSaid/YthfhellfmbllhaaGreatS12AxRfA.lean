/-
  Contracts: trails that grow.
  Contracts: the document's trails: what only reads.
-/
import Derived.Test.YthfhellfmbllhaaGreatS12AxTrA
import Derived.Test.YthfhellfmbllhaaGreatAxBe
namespace Go.AX
open Go.Proofs
set_option linter.unusedSimpArgs false
def putT (T:Tr) (l rea:Int):Tr:=⟨T.marks.set (litV l).toNat ⟨if l<0 then-1 else 1,T.beg.length,rea,T.lits.length⟩,T.lits++[l],T.beg⟩
def decSch:Sch:=
 let R11:Sch:=.fork [(11,.take 12 (.take 13 (.fork [(14,.done)])))]
 let A:Sch:=.fork [(9,.fork [(10,R11)])]
 .take 0 (.take 1 (.take 2 (.take 3 (.take 5 (.take 6 (.take 7 (.fork [(4,.fork [(8,A)]),(8,.fork [(4,A),(9,.fork [(4,.fork [(10,R11)]),(10,.fork [(4,R11)])])])])))))))
theorem belowC_trB (k:Nat) (T:Tr):belowC k (trB T):=⟨belowR_mkR k _,belowR_irow k _,belowR_irow k _,trivial,trivial⟩
theorem belowH_setT {k:Nat} {x:List SV} (hx:belowC k x):∀(b:Nat) {h:List (List SV)},belowH k h→belowH k (h.set b x)
 |_,[],_=>trivial
 |0,_::_,hh=>⟨hx,hh.2⟩
 |b+1,_::_,hh=>⟨hh.1,belowH_setT hx b hh.2⟩
theorem set_sameT {h:List (List SV)} {b:Nat} {x:List SV} (hb:h[b]?=some x):h.set b x=h:=by
 apply List.ext_getElem?;intro i;rw[List.getElem?_set];split
 ·rename_i e;subst e;rw[if_pos (List.getElem?_eq_some_iff.1 hb).1,hb]
 ·rfl
theorem set_app {h:List (List SV)} {b:Nat} (hlt:b<h.length) (y x:List SV):(h++[y]).set b x=h.set b x++[y]:=List.set_append_left _ _ hlt
set_option maxRecDepth 16000 in
theorem tput_ok (h:List (List SV)) (b:Nat) (T:Tr) (hb:h[b]?=some (trB T)) (l rea:Int) (hv:0≤litV l∧litV l<T.marks.length) (hs:T.lits.length≤1000000):
 AMut Tryz.prog 92 [.ptr b 0,I64 l,I64 rea] h (fun r h'=>h'=h.set b (trB (putT T l rea))∧r=.pv (.tup [])):=by
 refine amutXD [] [] (h.set b (trB (putT T l rea))) (by simp) (fun hh=>by rw[List.length_set];exact belowH_setT (belowC_trB _ _) b hh) hmo Tryz.func92 (by kernel_rfl) rfl rfl (by kernel_rfl) (Nat.le_of_ble_eq_true rfl) ?_;obtain⟨hlt,hb'⟩:=List.getElem?_eq_some_iff.1 hb;obtain⟨i,hi⟩:∃i:Nat,litV l=(i:Int):=⟨(litV l).toNat,by omega⟩;have hil:i<T.marks.length:=by omega
 have hap:∀y,(h++[y])[b]?=some (trB T):=fun y=>by rw[List.getElem?_append_left hlt];exact hb
 have hsa:∀y x,(h++[y]).set b x=h.set b x++[y]:=fun y x=>set_app hlt y x;simp only[trB]at hap;have hgs:∀x y,(h.set b x++[y])[b]?=some x:=fun x y=>by rw[List.getElem?_append_left (by simpa using hlt)];simp[hlt]
 have hss:∀x y z,(h.set b x++[y]).set b z=h.set b z++[y]:=fun x y z=>by rw[set_app (by simpa using hlt),List.set_set]
 have hmk:∀x:Mk,(T.marks.map mkR).set i [I64 x.v,I64 x.lev,I64 x.rea,I64 x.pla]=(T.marks.set i x).map mkR:=fun x=>by rw[List.map_set];rfl
 have hli:irow T.lits++[[I64 l]]=irow (T.lits++[l]):=irow_append _ _
 by_cases c:l<0
 ·simp[hb',hlt,trB,c,hap,hsa];refine CallQ0.intro (litVar_ok l) (by simp) ?_;simp[hb',hlt,trB,c,hap,hsa,hgs,hss,hi,hil,mkR,putT,hli,retXP];omega
 ·simp[hb',hlt,trB,c,hap,hsa];refine CallQ0.intro (litVar_ok l) (by simp) ?_;simp[hb',hlt,trB,c,hap,hsa,hgs,hss,hi,hil,mkR,putT,hli,retXP];omega
def begT (T:Tr):Tr:=⟨T.marks,T.lits,T.beg++[(T.lits.length:Int)]⟩
def decT (T:Tr) (l:Int):Tr:=if mayT T l=0 then putT (begT T) l (-1)else T
def impE (T:Tr) (l rea:Int):Int:=if mayT T l≠0 then mayT T l else if rea<0 then 2 else 0
def impT (T:Tr) (l rea:Int):Tr:=if impE T l rea=0 then putT T l rea else T
theorem mayT_zero {T:Tr} (ht:T.ok) {l:Int} (h:mayT T l=0):litChk l ((T.marks.length:Int) -1)=0∧(mkAt T (litV l)).v=0∧1≤litV l∧litV l<T.marks.length:=by
 unfold mayT at h;split at h
 ·cases h
 ·rename_i h1;split at h
  ·cases h
  ·rename_i h2;have h1':litChk l ((T.marks.length:Int) -1)=0:=by simpa using h1
   obtain⟨v1,v2,_,_⟩:=litV_in (by have:=ht.1;have:=ht.2;omega) h1';exact⟨h1',by simpa using h2,v1,by omega⟩
set_option maxRecDepth 16000 in
theorem tdecide_ok (h:List (List SV)) (b:Nat) (T:Tr) (hb:h[b]?=some (trB T)) (l:Int) (ht:T.ok) (hs:T.lits.length≤1000000) (hs2:T.beg.length≤1000000):
 AMut Tryz.prog 34 [.ptr b 0,I64 l] h (fun r h'=>h'=h.set b (trB (decT T l))∧r=.pv (I64 (mayT T l))):=by
 refine amutXD [3] [.tmp 4] (h.set b (trB (decT T l))) (by simp) (fun hh=>by rw[List.length_set];exact belowH_setT (belowC_trB _ _) b hh) hmo Tryz.func34 (by kernel_rfl) rfl rfl (by kernel_rfl) (Nat.le_of_ble_eq_true rfl) ?_;obtain⟨hlt,hb'⟩:=List.getElem?_eq_some_iff.1 hb;have hm:=tmay_ok T l ht;have hfr:∀n,frzP h (n+1) b 0=trP T:=fun n=>frz_tr0 hb n;simp;simp only[trP]at hm hfr;have hm':=hm;rw[←hfr 0]at hm';refine CallB.introP (r:=.pv (I64 (mayT T l))) (by simpa[hfr]using hm) (by simp[hlt]) (by simp) ?_;simp;refine⟨fun c=>?_,fun c=>?_⟩
 ·obtain⟨m1,m2,m3,m4⟩:=mayT_zero ht c;have hD:decT T l=putT (begT T) l (-1):=by unfold decT;rw[if_pos c]
  have hP:=tput_ok (h.set b (trB (begT T))) b (begT T) (by simp[hlt]) l (-1) ⟨by omega,m4⟩ hs;refine AAnyD.meet decSch ⟨[(0,.pv (.ptr b 0)),(1,.pv (I64 l)),(5,.pv (I64 (mayT T l)))],h.set b (trB (begT T))⟩ (by kernel_rfl) ?_ ?_
  ·have hbi:irow T.beg++[[I64 (T.lits.length:Int)]]=irow (T.beg++[(T.lits.length:Int)]):=irow_append _ _;simp[decSch,hb',hlt,trB];and_intros
   all_goals first
    |omega
    |exact Weak.keep (by simp) (by simp[begT,hbi])
  ·simp;refine CallB.intro hP (by simp) ?_;rintro _ _ ⟨rfl,rfl⟩;simp[hD,c,retXP];exact List.take_of_length_le (by simp)
 ·have hD:decT T l=T:=by unfold decT;rw[if_neg c]
  simp[hD,set_sameT hb,retXP]
set_option maxRecDepth 16000 in
theorem timply_ok (h:List (List SV)) (b:Nat) (T:Tr) (hb:h[b]?=some (trB T)) (l rea:Int) (ht:T.ok) (hs:T.lits.length≤1000000):
 AMut Tryz.prog 170 [.ptr b 0,I64 l,I64 rea] h (fun r h'=>h'=h.set b (trB (impT T l rea))∧r=.pv (I64 (impE T l rea))):=by
 refine amutXD [] [.tmp 6] (h.set b (trB (impT T l rea))) (by simp) (fun hh=>by rw[List.length_set];exact belowH_setT (belowC_trB _ _) b hh) hmo Tryz.func170 (by kernel_rfl) rfl rfl (by kernel_rfl) (Nat.le_of_ble_eq_true rfl) ?_;obtain⟨hlt,hb'⟩:=List.getElem?_eq_some_iff.1 hb;have hm:=tmay_ok T l ht;have hfr:∀n,frzP h (n+1) b 0=trP T:=fun n=>frz_tr0 hb n;have hE:impE T l rea=if mayT T l≠0 then mayT T l else if rea<0 then 2 else 0:=rfl;simp only[trP]at hm hfr;simp;refine CallB.introP (r:=.pv (I64 (mayT T l))) (by simpa[hfr]using hm) (by simp[hlt]) (by simp) ?_
 by_cases c:mayT T l=0
 ·rw[if_neg (by simp[c])]at hE;obtain⟨m1,m2,m3,m4⟩:=mayT_zero ht c
  by_cases c2:rea<0
  ·rw[if_pos c2]at hE;have hD:impT T l rea=T:=by unfold impT;rw[if_neg (by rw[hE];decide)]
   simp[c,c2,hE,hD,set_sameT hb,retXP]
  ·rw[if_neg c2]at hE;have hD:impT T l rea=putT T l rea:=by unfold impT;rw[if_pos hE]
   have hP:=tput_ok h b T hb l rea ⟨by omega,m4⟩ hs;simp[c,c2];refine CallB.intro hP (by simp) ?_;rintro _ _ ⟨rfl,rfl⟩;simp[hD,hE,c,retXP];exact List.take_of_length_le (by simp)
 ·rw[if_pos c]at hE;have hD:impT T l rea=T:=by unfold impT;rw[if_neg (by rw[hE];exact c)]
  simp[c,hE,hD,set_sameT hb,retXP]
def newT (n:Nat):Tr:=⟨List.replicate (n+1) ⟨0,0,0,0⟩,[],[]⟩
set_option maxRecDepth 16000 in
theorem tnew_ok (h:List (List SV)) (n:Nat) (hn:n≤100000):
 AMut Tryz.prog 29 [I64 n] h (fun r h'=>r=.pv (.tup [.ptr h.length 0,I64 0])∧h'=h++[[.own true 4 ((newT n).marks.map mkR),.pv (.lit (.slice none 0 0)),.pv (.lit (.slice none 0 0)),.pv (BL true)]]):=by
 refine amutN [2,3] hmo Tryz.func29 (by kernel_rfl) rfl (fun _ _=>results_tmp2 rfl _ _ _) (by kernel_rfl) (Nat.le_of_ble_eq_true rfl) ?_;have hw:w64 ((n:Int)+1)=((n+1:Nat):Int):=by rw[w64_id (by omega) (by omega)];omega
 have c2:¬(n:Int)<0:=by omega
 have c3:¬100000<(n:Int):=by omega
 have c4:¬100000<n:=by omega
 simp[c2,c3,c4,hw,newT,mkR];omega
structure En where
  l:Int
  lev:Int
  rea:Int
instance:Inhabited En:=⟨⟨0,0,0⟩⟩
structure RT where
  vars:Int
  rows:List En
  dep:Int
def enR (x:En):List PV:=[I64 x.l,I64 x.lev,I64 x.rea]
def rtV (t:RT):PV:=.agg [I64 t.vars,.seq false 3 (t.rows.map enR),I64 t.dep]
@[simp] theorem belowR_enR (k:Nat) (l:List En):belowR k (l.map enR):=by
 induction l with
 |nil=>trivial
 |cons x xs ih=>exact⟨⟨trivial,trivial,trivial,trivial⟩,ih⟩
@[simp] theorem frzR_enR (r:Nat→Nat→PV) (l:List En):frzR r (l.map enR)=l.map enR:=by
 rw[frzR_map,List.map_map];congr 1
def plR (t:RT) (v:Int):Int:=idxS (fun x:En=>decide (litV x.l=v)) t.rows
theorem plR_in {t:RT} {v:Int} (h:0≤plR t v):∃i:Nat,∃hi:i<t.rows.length,plR t v=i∧litV t.rows[i].l=v:=by
 unfold plR idxS at*;split at h
 ·rename_i i hf;rw[List.findIdx?_eq_some_iff_getElem]at hf;obtain⟨h1,h2,_⟩:=hf;exact⟨i,h1,rfl,by simpa using h2⟩
 ·omega
end Go.AX