/-
  AX, part SM: slices.Sort of numbers, from the library's contract: a slice of numbers is put in order in place.
  AX, part DL: slices.Delete of numbers, from the library's contract: in place.
-/
import Derived.Test.YtepodadinenmnaaGreatAxAg
import Derived.Shelf.SortM.Plain
import Derived.Shelf.SortM.SortNone
import Derived.Test.YtepodadinenmnaaGreatAxFz
import Derived.Shelf.SlicesG.Delete
namespace Go.AX
open Go.Proofs Go.Shelf Go.Sort
theorem wl{P:Program}{ρ:Ren}(L:SlLaysM.n5 P ρ)(xs:List Int)(hl:xs.length≤1000000)(hc:aB P (ρ.f 5)=true):
 tT P (ρ.f 5) 1 (az xs) [] (fun k rows=>k=none∧rows=az (xs.mergeSort fun x y=>decide (x≤y))):=by
 refine⟨hc,fun hne w c cap arr T pre vs suf us h1 h2 h3 h4 h5 h6 hvals=>?_,fun he w p cap us h1=>?_⟩
 ·have hvs:=bC h5;subst hvs;have hu:us=[]:=h6;subst hu;have hlen:(az xs).length=xs.length:=by unfold az;simp
  rw[hlen]at h3 h4⊢;have hcs:c<w.heap.size:=(Array.getElem?_eq_some_iff.1 h1).1;have hasz:arr.size=pre.length+xs.length+suf.length:=by
   rw[←Array.length_toList,h2];simp only[List.length_append,List.length_map]
  have hH:Holds (Value.int .i64) w c pre.length xs.toArray:=by
   intro j hj;have hj':j<xs.length:=by simpa using hj
   constructor
   ·rw[cell_of h1,←Array.getElem?_toList,h2,List.append_assoc,List.getElem?_append_right (by omega),Nat.add_sub_cancel_left,List.getElem?_append_left (by simpa using hj'),List.getElem?_map,List.getElem?_eq_getElem hj'];simp only[Option.map_some];rw[getElem!_pos xs.toArray j hj];simp
   ·simp[World.frozen?,h1]
  refine(AnyM.slices_Sort_int L c pre.length cap xs w hH hcs (by omega)).mono fun e w' ⟨he,n,os,hw⟩=>?_;subst hw;refine⟨none,az (xs.mergeSort fun x y=>decide (x≤y)),(xs.mergeSort fun x y=>decide (x≤y)).map (Value.int .i64),⟨rfl,rfl⟩,by unfold az;simp,fun m hm=>(by cases hm),he,rfl,?_,fun k hk hkc=>?_,⟨T,?_⟩,fun G _=>dA G _⟩
  ·show w.heap.size≤(w.heap.modify c _++os).size;rw[Array.size_append,Array.size_modify];omega
  ·show(w.heap.modify c _++os)[k]?=_;rw[Array.getElem?_append_left (by rw[Array.size_modify];exact hk),Array.getElem?_modify,if_neg (Ne.symm hkc)]
  ·show(w.heap.modify c _++os)[c]?=_;rw[Array.getElem?_append_left (by rw[Array.size_modify];exact hcs),Array.getElem?_modify,if_pos rfl,h1];simp only[Option.map_some,onCells,Option.some.injEq,Obj.cells.injEq,and_true];apply Array.ext';apply List.ext_getElem?;intro k;rw[Array.getElem?_toList];simp only[putCells,Array.getElem?_mapIdx]
   by_cases hk:k<arr.size
   ·rw[Array.getElem?_eq_getElem hk];simp only[Option.map_some];have hk2:arr.toList[k]?=some arr[k]:=by rw[Array.getElem?_toList,Array.getElem?_eq_getElem hk]
    rw[h2,List.append_assoc]at hk2;rw[List.append_assoc];split
    ·rename_i hr;simp only[List.size_toArray,List.length_mergeSort]at hr;rw[List.getElem?_append_right hr.1,List.getElem?_append_left (by simp;omega)];simp only[List.getElem?_map];have hb:k -pre.length<(xs.mergeSort fun x y=>decide (x≤y)).length:=by rw[List.length_mergeSort];omega
     rw[List.getElem?_eq_getElem hb,getElem!_pos (xs.mergeSort fun x y=>decide (x≤y)).toArray (k -pre.length) (by simpa using hb)];simp
    ·rename_i hr;simp only[List.size_toArray,List.length_mergeSort]at hr
     by_cases hp:k<pre.length
     ·rw[List.getElem?_append_left hp]at hk2⊢;exact hk2.symm
     ·rw[List.getElem?_append_right (by omega),List.getElem?_append_right (by simp;omega)]at hk2⊢;rw[←hk2];simp
   ·rw[Array.getElem?_eq_none (by omega),List.getElem?_eq_none]
    ·rfl
    ·simp;omega
 ·have hz:xs=[]:=by
   cases xs with
   |nil=>rfl
   |cons _ _=>unfold az at he;simp at he
  subst hz;have hu:us=[]:=h1;subst hu;refine(AnyM.slices_Sort_int_none (P:=P) (ρ:=ρ) L p cap w).mono fun e w' ⟨h2,h3⟩=>?_;subst h3;exact⟨none,⟨rfl,by simp[az]⟩,.inl rfl,h2,rfl,Nat.le_refl _,fun _ _=>rfl⟩
end Go.AX
namespace Go.AX
open Go.Proofs Go.Shelf Go.Sort
theorem ww{P:Program}{ρ:Ren}(L:SlLaysN.n45 P ρ)(xs:List Int)(i j:Nat)(hij:i≤j)(hj:j≤xs.length)(hc:aB P (ρ.f 45)=true):
 Np P (ρ.f 45) xs xs.length [.lit (.int .i64 i),.lit (.int .i64 j)] (xs.take i++xs.drop j++List.replicate (j -i) 0) (xs.length -(j -i)):=by
 refine⟨hc,fun w c cap arr T suf us h1 h2 h3 h4 h6 hvals=>?_⟩;obtain⟨v1,r1,rfl,e1,v2,r2,rfl,e2,e3⟩:=h6;have e1':v1=.int .i64 i:=e1;have e2':v2=.int .i64 j:=e2;have e3':r2=[]:=e3;subst e1' e2' e3';have hcs:c<w.heap.size:=(Array.getElem?_eq_some_iff.1 h1).1;have hasz:arr.size=xs.length+suf.length:=by
  rw[←Array.length_toList,h2];simp only[List.length_append,List.length_map]
 have hH:Holds (Value.int .i64) w c 0 xs.toArray:=by
  intro j hj;have hj':j<xs.length:=by simpa using hj
  constructor
  ·rw[cell_of h1,←Array.getElem?_toList,h2,Nat.zero_add,List.getElem?_append_left (by simpa using hj'),List.getElem?_map,List.getElem?_eq_getElem hj'];simp only[Option.map_some];rw[getElem!_pos xs.toArray j hj];simp
  ·simp[World.frozen?,h1]
 have hyl:(xs.take i++xs.drop j++List.replicate (j -i) 0).length=xs.length:=by simp;omega
 have hcap:cap≤9223372036854775807:=by unfold maxLen at h4;omega
 refine(AnyG.slices_Delete_int L c 0 cap i j xs w hH h3 hcap hij hj).mono fun e w' ⟨he,q,hw⟩=>?_;generalize xs.take i++xs.drop j++List.replicate (j -i) 0=ys at*;subst hw;refine⟨he,?_,fun k hkc=>?_,?_,rfl⟩
 ·show(w.heap.modify c _)[c]?=_;rw[Array.getElem?_modify,if_pos rfl,h1];simp only[Option.map_some,onCells,Option.some.injEq,Obj.cells.injEq,and_true];apply Array.ext';apply List.ext_getElem?;intro k;rw[Array.getElem?_toList];simp only[putCells,Array.getElem?_mapIdx]
  by_cases hk:k<arr.size
  ·rw[Array.getElem?_eq_getElem hk];simp only[Option.map_some];have hk2:arr.toList[k]?=some arr[k]:=by rw[Array.getElem?_toList,Array.getElem?_eq_getElem hk]
   rw[h2]at hk2;split
   ·rename_i hr;simp only[List.size_toArray]at hr;have hb:k<ys.length:=by omega
    rw[List.getElem?_append_left (by simp;omega)];simp only[List.getElem?_map];rw[List.getElem?_eq_getElem hb,getElem!_pos ys.toArray (k -0) (by simpa using hb)];simp
   ·rename_i hr;simp only[List.size_toArray]at hr;rw[List.getElem?_append_right (by simp;omega)]at hk2⊢;rw[←hk2];simp[hyl]
  ·rw[Array.getElem?_eq_none (by omega),List.getElem?_eq_none]
   ·rfl
   ·simp;omega
 ·show(w.heap.modify c _)[k]?=_;rw[Array.getElem?_modify,if_neg (Ne.symm hkc)]
 ·show(w.heap.modify c _).size=_;rw[Array.size_modify]
end Go.AX