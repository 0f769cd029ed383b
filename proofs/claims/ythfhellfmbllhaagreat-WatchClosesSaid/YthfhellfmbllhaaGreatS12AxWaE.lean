/-
  Contracts: watches: lates, Attached.
-/
import Derived.Test.YthfhellfmbllhaaGreatS12AxWaD
import Derived.Test.YthfhellfmbllhaaGreatS12AxShelf3
import Derived.Test.YthfhellfmbllhaaGreatAxKs
import Derived.Test.YthfhellfmbllhaaGreatS12AxTtA
namespace Go.AX
open Go.Proofs Go.Maps Go.Shelf
set_option linter.unusedSimpArgs false
theorem keysP_ok:AKeys Tryz.prog 46 101:=
 ⟨by kernel_rfl,Tryz.keysP_ren.t 23,fun mb w=>(callsIn_wide (n:=5)).1 (AnyZI.keys_in Tryz.keysP Fence.wide 5 trivial rfl mb w)⟩
theorem sortedP_ok {β:Type} (f:β→PV) (kv:List (Int×β)) (hw:∀q∈kv,wfI q.1) (hl:kv.length≤1000000):
 APtr Tryz.prog 45 101 (.amap false (mapE f kv)) (.own true 1 ((sortZ (kv.map (·.1))).map fun x=>[I64 x])):=
 sortedMap_ok f _ kv hw hl (enters_of Tryz.func101 (by kernel_rfl) rfl)
  (fun{_} Bm b nn D0 {_} w h1 h2 h3=>AnyZI.keys_gives (ρ:=Tryz.keysP_ren) {Tryz.keysP with} Fence.wide 2 trivial rfl (by omega) Bm b nn D0 w h1 h2 h3)
theorem keysE_mapE {α:Type} (f:α→PV):∀l:List (Int×α),keysE (mapE f l)=mapE (fun _=>PV.bot) l
 |[]=>rfl
 |(k,x)::l=>by
  show(k,PV.bot)::keysE (mapE f l)=(k,PV.bot)::mapE (fun _=>PV.bot) l;rw[keysE_mapE f l]
set_option maxRecDepth 16000 in
theorem wattached_ok (h:List (List SV)) (bw ba bt:Nat) (W:Wt) (hw:h[bw]?=some (wtB ba bt W)) (hk:∀q∈W.prs,wfI q.1) (hl:W.prs.length≤1000000):
 AMut Tryz.prog 11 [.ptr bw 0] h (fun r h'=>h'=h∧r=.pv (.seq true 1 (irow (sortZ (W.prs.map (·.1)))))):=by
 refine amutXW [3] [.tmp 2] hmo Tryz.func11 (by kernel_rfl) rfl rfl (by kernel_rfl) (Nat.le_of_ble_eq_true rfl) ?_;obtain⟨w1,w2⟩:=List.getElem?_eq_some_iff.1 hw;have hS:=sortedP_ok (fun _:Nat=>PV.bot) W.prs hk hl;simp;refine CallB.intro (wmade_ok h bw ba bt W hw) (by simp) ?_;rintro _ h2 ⟨e,rfl⟩;rw[e];clear e h2;simp;refine ASem.keys [_,_,_,_] [_] _ _ _ _ 101 _ _ _ _ _ (irow (sortZ (W.prs.map (·.1)))) rfl rfl rfl rfl rfl rfl rfl ?_;simp[w1,w2,wtB];rw[keysE_mapE];exact⟨keysP_ok,hS⟩
def latF:List Int→WS→Tr→WS×Tr×Int
 |[],S,T=>(S,T,-1)
 |k::ks,S,T=>match lk S.prs k with
  |some p=>if freB T p=true then(S,T,k)else latF ks (freS S T k p) (freT T k p)
  |none=>(S,T,-1)
set_option maxRecDepth 16000 in
theorem wlates_ok (h:List (List SV)) (bw ba bt:Nat) (mp:List (Int×Nat)) (mb:List (Int×By)) (A:Ar) (T:Tr) (S:WS) (L:LayW h bw ba bt mp mb A T S) (Ks:List Int) (hKs:sortZ (S.late.map (·.1))=Ks) (J:Nat→WS→Tr→Prop) (hJ0:J 0 S T) (hkw:∀q∈S.late,wfI q.1) (hll:S.late.length≤1000000)
 (hB:∀i S' T',J i S' T'→∀(hi:i<Ks.length),T'.ok∧T'.lits.length≤1000000∧(∀l zs,lk S'.byl l=some zs→zs.length≤1000000)∧∃p,lk S'.prs Ks[i]=some p∧p.lits.length≤1000000)
 (hJ:∀i S' T' p,J i S' T'→∀(hi:i<Ks.length),lk S'.prs Ks[i]=some p→freB T' p=false→J (i+1) (freS S' T' Ks[i] p) (freT T' Ks[i] p)):
 AMut Tryz.prog 89 [.ptr bw 0] h (fun r h'=>r=.pv (I64 (latF Ks S T).2.2)∧∃mb',LayW h' bw ba bt mp mb' A (latF Ks S T).2.1 (latF Ks S T).1∧Ext h h' (DomW bw bt mp mb) (DomW bw bt mp mb')):=by
 refine amutX [1] [.tmp 2] hmo Tryz.func89 (by kernel_rfl) rfl rfl (by kernel_rfl) (Nat.le_of_ble_eq_true rfl) ?_;obtain⟨w1,w2⟩:=List.getElem?_eq_some_iff.1 L.w;have hS:=sortedI_ok (fun _:Int=>PV.bot) S.late hkw hll;have hKl:Ks.length≤1000000:=by rw[←hKs];unfold sortZ;rw[List.length_mergeSort,List.length_map];exact hll
 have hL0:latF Ks S T=latF (Ks.drop 0) S T:=rfl;rw[hKs]at hS;generalize latF Ks S T=Z at*;simp;refine ASem.keys [_,_,_,_] [_,_] _ _ _ _ 111 _ _ _ _ _ (irow Ks) rfl rfl rfl rfl rfl rfl rfl ?_;simp[w1,w2,wtB];rw[keysE_mapE];refine⟨keysF_ok,hS,?_⟩;refine ALoop.intro (S:=fun(x:Nat×List (List SV)×List (Int×By)×WS×Tr)=>⟨[(0,.pv (.ptr bw 0)),(10,.own true 1 (irow Ks)),(11,.pv (I64 Ks.length)),(12,.pv (I64 x.1))],x.2.1⟩)
  (fun x=>x.1≤Ks.length∧LayW x.2.1 bw ba bt mp x.2.2.1 A x.2.2.2.2 x.2.2.2.1∧J x.1 x.2.2.2.1 x.2.2.2.2∧Ext h x.2.1 (DomW bw bt mp mb) (DomW bw bt mp x.2.2.1)∧Z=latF (Ks.drop x.1) x.2.2.2.1 x.2.2.2.2)
  (fun x=>Ks.length -x.1) (0,h,mb,S,T) ?_ ⟨Nat.zero_le _,L,hJ0,Ext.refl _ _,hL0⟩ ?_
 ·exact Weak.keep (by simp) rfl
 rintro⟨i,H,mb',S',T'⟩ ⟨hi,LH,hJ',hE,hZ⟩;dsimp only at hi LH hJ' hE hZ
 by_cases d:i<Ks.length
 ·have hw':w64 ((i:Int)+1)=((i+1:Nat):Int):=by rw[w64_id (by omega) (by omega)];omega
  have hq:Ks[i]?=some Ks[i]:=List.getElem?_eq_getElem d;obtain⟨b1,b2,b3,p,hp,hpl⟩:=hB i S' T' hJ' d;have kF:=wfresh_ok H bw ba bt mp mb' A T' S' LH Ks[i] p hp b1 b2 hpl b3;rw[List.drop_eq_getElem_cons d,latF,hp]at hZ;simp only at hZ;simp[d,hq];refine CallB.intro kF (by simp) ?_;rintro _ H2 ⟨rfl,mb2,L2,E2⟩;cases hf:freB T' p
  ·rw[if_neg (by rw[hf];simp)]at hZ;simp[hf];exact⟨(i+1,H2,mb2,freS S' T' Ks[i] p,freT T' Ks[i] p),by(try dsimp only);omega,⟨by(try dsimp only);omega,L2,hJ i S' T' p hJ' d hp hf,hE.trans E2,hZ⟩,Weak.keep (by simp[hw']) rfl⟩
  ·rw[if_pos hf]at hZ;subst hZ;have hS2:freS S' T' Ks[i] p=S':=by
    unfold freB at hf;unfold freS;rw[if_neg (by have:=of_decide_eq_true hf;omega)]
   have hT2:freT T' Ks[i] p=T':=by
    unfold freB at hf;unfold freT;rw[if_neg (by have:=of_decide_eq_true hf;omega)]
   rw[hS2,hT2]at L2;simp[hf];exact⟨mb2,L2,hE.trans E2⟩
 ·have:i=Ks.length:=by omega
  subst this;rw[List.drop_eq_nil_of_le (Nat.le_refl _),latF]at hZ;subst hZ;simp;exact⟨mb',LH,hE⟩
end Go.AX