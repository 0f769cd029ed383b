/-
  AX, part SE: worlds that have grown.
  AX, part SF: slices.SortFunc, from the library's contract: a slice of numbers is put in order in place.
  AX, part Ag: a function that gives a struct a part of which is a slice of its own.
-/
import Derived.Test.YtepodadinenmnaaGreatAxBM
import Derived.Test.YtepodadinenmnaaGreatAxDr
import Derived.Sort.Grow
import Derived.Shelf.SlSortCmp.Insertion
import Derived.Shelf.SlSortCmp.NoneTotal
namespace Go.AX
open Go.Sort
theorem Bv{w w':World}(h1:w.heap=w'.heap)(h2:w.tape=w'.tape)(h3:w.drawn=w'.drawn)(h4:w.os=w'.os)(h5:w.output=w'.output):w=w':=by
 cases w;cases w';simp only at h1 h2 h3 h4 h5;subst h1 h2 h3 h4 h5;rfl
theorem grown_of{w w':World}(he:bX w'=bX w)(hk:∀c,c<w.heap.size→w'.heap[c]?=w.heap[c]?)(hs:w.heap.size≤w'.heap.size)(hd:w.drawn≤w'.drawn):∃q os,w'=grow (w.drewN q) os:=by
 refine⟨w'.drawn -w.drawn,w'.heap.extract w.heap.size w'.heap.size,?_⟩;unfold bX at he;simp only[Prod.mk.injEq]at he;refine Bv ?_ he.2.1 ?_ he.1 he.2.2
 ·show w'.heap=w.heap++w'.heap.extract w.heap.size w'.heap.size;apply Array.ext_getElem?;intro k;rw[Array.getElem?_append];split
  ·exact hk k (by assumption)
  ·rename_i h;rw[Array.getElem?_extract];split
   ·congr 1;omega
   ·rw[Array.getElem?_eq_none];omega
 ·show w'.drawn=w.drawn+(w'.drawn -w.drawn);omega
end Go.AX
namespace Go.AX
open Go.Proofs Go.Shelf Go.Sort
theorem vY{P:Program}{ρ:Ren}(L:SlLaysF.n6 P ρ){α:Type}[Inhabited α](z:α→Int)(cf:α→α→Int)(g:FuncId)(xs:List α)(hl:xs.length≤1000000)(hO:SWO (ltOf cf))(hT:∀x y,(ltOf cf) x y=false→(ltOf cf) y x=false→x=y)
 (eg:∀args w,(callFunc g args).run P w=.ok (.enter g args) w) (hc:aB P (ρ.f 6)=true) (hcf:∀x y,ao P g [.lit (.int .i64 (z x)),.lit (.int .i64 (z y))] (fun r=>r=.pv (.lit (.int .i64 (cf x y))))):
 tT P (ρ.f 6) 1 (az (xs.map z)) [.fn (.func g) [] []] (fun k rows=>k=none∧rows=az ((xs.mergeSort fun x y=>!(ltOf cf) y x).map z)):=by
 have hus:∀{G:Gh}{us:List Value},ai G [.fn (.func g) [] []] us→us=[.func (.func g) #[] #[]]:=by
  intro G us h;obtain⟨v,r,rfl,⟨a,b,rfl,h1,h2⟩,h3⟩:=h;have h1':a=#[]:=Array.ext' h1;have h2':b=#[]:=Array.ext' h2;have h3':r=[]:=h3;subst h1' h2' h3';rfl
 refine⟨hc,fun hne w c cap arr T pre vs suf us h1 h2 h3 h4 h5 h6 hvals=>?_,fun he w p cap us h1=>?_⟩
 ·have hvs:=bC h5;subst hvs;have hu:=hus h6;subst hu;have hlen:(az (xs.map z)).length=xs.length:=by unfold az;simp
  rw[hlen]at h3 h4⊢;have hcs:c<w.heap.size:=(Array.getElem?_eq_some_iff.1 h1).1;have hasz:arr.size=pre.length+xs.length+suf.length:=by
   rw[←Array.length_toList,h2];simp only[List.length_append,List.length_map]
  let enc:α→Value:=fun x=>.int .i64 (z x)
  have hH:Holds enc w c pre.length xs.toArray:=by
   intro j hj;have hj':j<xs.length:=by simpa using hj
   constructor
   ·rw[cell_of h1,←Array.getElem?_toList,h2,List.append_assoc,List.getElem?_append_right (by omega),Nat.add_sub_cancel_left,List.getElem?_append_left (by simpa using hj'),List.getElem?_map,List.getElem?_map,List.getElem?_eq_getElem hj'];simp only[Option.map_some];rw[getElem!_pos xs.toArray j hj];simp[enc]
   ·simp[World.frozen?,h1]
  have hcmp:CmpLays1 P g #[] enc cf c pre.length xs.toArray.size w:=by
   intro m os dk hs x y;have hfit:ai (dw (sortWorld enc w c pre.length m dk os)) [.lit (.int .i64 (z x)),.lit (.int .i64 (z y))] [enc x,enc y]:=⟨_,_,rfl,rfl,_,_,rfl,rfl,rfl⟩;have h:=vO ((hcf x y).2 _ _ hfit) (fun e w' ⟨v,_,_,_,he,_⟩=>⟨v,he⟩);refine Calls.mono (show Calls P g (#[enc x,enc y]++#[]) _ _ from h) fun e w' ⟨⟨v,r,g',o,he,hr,hE,hF,_,_⟩,hd⟩=>?_;subst hr;have hv:v=.int .i64 (cf x y):=hF.2;exact⟨by rw[he,hv],grown_of hE.env hE.keep hE.size hd⟩
  have hS:=Any.slices_SortFunc_total L enc (fun _=>rfl) cf hO g #[] c pre.length cap xs.toArray w eg hcmp hH hcs (by simpa using(by omega:xs.length<4611686018427387904)) hT;have hargs:((Value.slice (some ⟨c,pre.length,none⟩) xs.length cap)::[Value.func (.func g) #[] #[]]).toArray=#[.slice (some ⟨c,pre.length,none⟩) xs.toArray.size cap,.func (.func g) #[] #[]]:=by simp
  rw[hargs];refine hS.mono fun e w' ⟨he,n,os,hw⟩=>?_;subst hw;have hds:(xs.toArray.toList.mergeSort fun x y=>!(ltOf cf) y x).length=xs.length:=by rw[List.length_mergeSort]
  refine⟨none,az ((xs.mergeSort fun x y=>!(ltOf cf) y x).map z),((xs.mergeSort fun x y=>!(ltOf cf) y x).map z).map (Value.int .i64),⟨rfl,rfl⟩,by unfold az;simp,fun m hm=>(by cases hm),he,rfl,?_,fun k hk hkc=>?_,⟨T,?_⟩,fun G _=>dA G _⟩
  ·show w.heap.size≤(w.heap.modify c _++os).size;rw[Array.size_append,Array.size_modify];omega
  ·show(w.heap.modify c _++os)[k]?=_;rw[Array.getElem?_append_left (by rw[Array.size_modify];exact hk),Array.getElem?_modify,if_neg (Ne.symm hkc)]
  ·show(w.heap.modify c _++os)[c]?=_;rw[Array.getElem?_append_left (by rw[Array.size_modify];exact hcs),Array.getElem?_modify,if_pos rfl,h1];simp only[Option.map_some,onCells,Option.some.injEq,Obj.cells.injEq,and_true];apply Array.ext';apply List.ext_getElem?;intro k;rw[Array.getElem?_toList];simp only[putCells,Array.getElem?_mapIdx]
   by_cases hk:k<arr.size
   ·rw[Array.getElem?_eq_getElem hk];simp only[Option.map_some];have hk2:arr.toList[k]?=some arr[k]:=by rw[Array.getElem?_toList,Array.getElem?_eq_getElem hk]
    rw[h2,List.append_assoc]at hk2;rw[List.append_assoc];split
    ·rename_i hr;simp only[List.size_toArray,List.length_mergeSort]at hr;rw[List.getElem?_append_right hr.1,List.getElem?_append_left (by simp;omega)];simp only[List.getElem?_map];have hb:k -pre.length<(xs.mergeSort fun x y=>!(ltOf cf) y x).length:=by rw[List.length_mergeSort];omega
     rw[List.getElem?_eq_getElem hb,getElem!_pos (xs.toArray.toList.mergeSort fun x y=>!(ltOf cf) y x).toArray (k -pre.length) (by simpa using hb)];simp[enc]
    ·rename_i hr;simp only[List.size_toArray,List.length_mergeSort]at hr
     by_cases hp:k<pre.length
     ·rw[List.getElem?_append_left hp]at hk2⊢;exact hk2.symm
     ·rw[List.getElem?_append_right (by omega),List.getElem?_append_right (by simp;omega)]at hk2⊢;rw[←hk2];simp
   ·rw[Array.getElem?_eq_none (by omega),List.getElem?_eq_none]
    ·rfl
    ·simp;omega
 ·have hz:xs=[]:=by
   cases xs with
   |nil=>rfl
   |cons _ _=>unfold az at he;simp at he
  subst hz;have hu:=hus h1;subst hu;refine(AnyF.slices_SortFunc_none (P:=P) (ρ:=ρ) {L with} p cap (.func (.func g) #[] #[]) w).mono fun e w' ⟨h2,h3⟩=>?_;subst h3;exact⟨none,⟨rfl,by simp[az]⟩,.inl rfl,h2,rfl,Nat.le_refl _,fun _ _=>rfl⟩
end Go.AX
namespace Go.AX
def pP(b:Nat):Nat→List SV→List (PV×Option Pos)
 |_,[]=>[]
 |k,.pv x::r=>(x,none)::pP b (k+1) r
 |k,_::r=>(.bot,some (.cell b k))::pP b (k+1) r
def K4(P:Program)(t:Nat)(T:TypeId)(R:SV→List (List SV)→Prop)(st:St):Prop:=
 match look st.t t with
 |.pv (.ptr b 0)=>aJ P T=some (true,(st.h.getD b []).length)∧R (.agl (pP b 0 (st.h.getD b []))) st.h
 |_=>False
def boxes:List Oper→List Oper
 |[]=>[]
 |o::r=>match o.dst with
  |some d=>{dst:=none,op:=.box 0 (.tmp d),type:=0,pos:= "",after:=#[],guard:=none}::boxes r
  |none=>boxes r
attribute [simp] pP K4 boxes
end Go.AX