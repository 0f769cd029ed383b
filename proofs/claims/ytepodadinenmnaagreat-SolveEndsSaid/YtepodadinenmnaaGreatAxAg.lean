/-
  AX, part SE: worlds that have grown.
  AX, part SF: slices.SortFunc, from the library's contract: a slice of numbers is put in order in place.
  AX, part Ag: a function that gives a struct a part of which is a slice of its own.
-/
import Derived.Test.YtepodadinenmnaaGreatAxIs
import Derived.Test.YtepodadinenmnaaGreatAxDr
import Derived.Sort.Grow
import Derived.Shelf.SlSortCmp.Insertion
import Derived.Shelf.SlSortCmp.NoneTotal
namespace Go.AX
open Go.Sort
theorem BE{w w':World}(h1:w.heap=w'.heap)(a:w.tape=w'.tape)(b:w.drawn=w'.drawn)(c:w.os=w'.os)(d:w.output=w'.output):w=w':=by
 cases w;cases w';simp only at h1 a b c d;subst h1 a b c d;rfl
theorem grown_of{w w':World}(a:b7 w'=b7 w)(hk:∀c,c<w.heap.size->w'.heap[c]?=w.heap[c]?)(hs:w.heap.size<=w'.heap.size)(hd:w.drawn<=w'.drawn):∃q b,w'=grow (w.drewN q) b:=by
 refine⟨w'.drawn -w.drawn,w'.heap.extract w.heap.size w'.heap.size,?_⟩;unfold b7 at a;simp only[Py]at a;refine BE ?_ a.2.1 ?_ a.1 a.2.2
 .show w'.heap=w.heap++w'.heap.extract w.heap.size w'.heap.size;apply Array.ext_getElem?;intro k;rw[RL];split
  .exact hk k (by assumption)
  .rename_i h;rw[Array.getElem?_extract];split
   .congr 1;omega
   .rw[Qc];omega
 .show w'.drawn=w.drawn+(w'.drawn -w.drawn);omega
end Go.AX
namespace Go.AX
open Go.Proofs Go.Shelf Go.Sort
theorem v8{P:Program}{ρ:Ren}(L:SlLaysF.n6 P ρ){α:Type}[Inhabited α](z:α->Int)(cf:α->α->Int)(g:FuncId)(xs:List α)(hl:xs.length<=1000000)(hO:SWO (ltOf cf))(hT:∀x y,(ltOf cf) x y=false->(ltOf cf) y x=false->x=y)
 (Y:∀args w,(callFunc g args).run P w=.ok (.enter g args) w) (hc:aC P (ρ.f 6)=true) (N:∀x y,an P g [.lit (.int .i64 (z x)),.lit (.int .i64 (z y))] (λr=>r=.pv (.lit (.int .i64 (cf x y))))):
 tV P (ρ.f 6) 1 (az (xs.map z)) [.fn (.func g) [] []] (λk rows=>k=none∧rows=az ((xs.mergeSort λx y=>!(ltOf cf) y x).map z)):=by
 have E:∀{G:Gh}{H:List Value},ah G [.fn (.func g) [] []] H->H=[.func (.func g) #[] #[]]:=by
  intro G H h;obtain⟨v,r,rfl,⟨a,b,rfl,h1,l⟩,t⟩:=h;have I:a=#[]:=PX h1;have J:b=#[]:=PX l;have K:r=[]:=t;subst I J K;rfl
 refine⟨hc,λab w c cap arr T pre vs U H h1 l t Z h5 h6 R=>?_,λi w p cap H h1=>?_⟩
 .have S:=bH h5;subst S;have Q:=E h6;subst Q;have D:(az (xs.map z)).length=xs.length:=by unfold az;simp
  rw[D]at t Z⊢;have A:c<w.heap.size:=(Oh.1 h1).1;have V:arr.size=pre.length+xs.length+U.length:=by
   rw[←OS,l];simp only[Oi,Oj]
  let enc:α->Value:=λx=>.int .i64 (z x)
  have hH:Holds enc w c pre.length xs.toArray:=by
   intro j hj;have C:j<xs.length:=by simpa using hj
   constructor
   .rw[cell_of h1,←Ob,l,OG,Ot (by omega),Qm,Oa (by simpa using C),Oq,Oq,N6 C];simp only[O2];rw[QX xs.toArray j hj];simp[enc]
   .simp[World.frozen?,h1]
  have u:CmpLays1 P g #[] enc cf c pre.length xs.toArray.size w:=by
   intro m F X hs x y;have B:ah (du (sortWorld enc w c pre.length m X F)) [.lit (.int .i64 (z x)),.lit (.int .i64 (z y))] [enc x,enc y]:=⟨_,_,rfl,rfl,_,_,rfl,rfl,rfl⟩;have h:=vS ((N x y).2 _ _ B) (λe w' ⟨v,_,_,_,i,_⟩=>⟨v,i⟩);refine Calls.mono (show Calls P g (#[enc x,enc y]++#[]) _ _ from h) λe w' ⟨⟨v,r,g',o,i,s,M,hF,_,_⟩,hd⟩=>?_;subst s;have hv:v=.int .i64 (cf x y):=hF.2;exact⟨by rw[i,hv],grown_of M.env M.keep M.size hd⟩
  have hS:=Any.slices_SortFunc_total L enc (λ_=>rfl) cf hO g #[] c pre.length cap xs.toArray w Y u hH A (by simpa using(by omega:xs.length<4611686018427387904)) hT;have q:((Value.slice (some ⟨c,pre.length,none⟩) xs.length cap)::[Value.func (.func g) #[] #[]]).toArray=#[.slice (some ⟨c,pre.length,none⟩) xs.toArray.size cap,.func (.func g) #[] #[]]:=by simp
  rw[q];refine hS.mono λe w' ⟨i,n,F,hw⟩=>?_;subst hw;have aa:(xs.toArray.toList.mergeSort λx y=>!(ltOf cf) y x).length=xs.length:=by rw[Pw]
  refine⟨none,az ((xs.mergeSort λx y=>!(ltOf cf) y x).map z),((xs.mergeSort λx y=>!(ltOf cf) y x).map z).map (Value.int .i64),⟨rfl,rfl⟩,by unfold az;simp,λm hm=>(by cases hm),i,rfl,?_,λk hk O=>?_,⟨T,?_⟩,λG _=>dz G _⟩
  .show w.heap.size<=(w.heap.modify c _++F).size;rw[RG,Qq];omega
  .show(w.heap.modify c _++F)[k]?=_;rw[Qz (by rw[Qq];exact hk),PP,N8 (QZ O)]
  .show(w.heap.modify c _++F)[c]?=_;rw[Qz (by rw[Qq];exact A),PP,N9 rfl,h1];simp only[O2,onCells,OI,Obj.cells.injEq,and_true];apply PX;apply Px;intro k;rw[Ob];simp only[putCells,RM]
   by_cases hk:k<arr.size
   .rw[Ox hk];simp only[O2];have d:arr.toList[k]?=some arr[k]:=by rw[Ob,Ox hk]
    rw[l,OG]at d;rw[OG];split
    .rename_i s;simp only[Pb,Pw]at s;rw[Ot s.1,Oa (by simp;omega)];simp only[Oq];have W:k -pre.length<(xs.mergeSort λx y=>!(ltOf cf) y x).length:=by rw[Pw];omega
     rw[N6 W,QX (xs.toArray.toList.mergeSort λx y=>!(ltOf cf) y x).toArray (k -pre.length) (by simpa using W)];simp[enc]
    .rename_i s;simp only[Pb,Pw]at s
     by_cases hp:k<pre.length
     .rw[Oa hp]at d⊢;exact d.symm
     .rw[Ot (by omega),Ot (by simp;omega)]at d⊢;rw[←d];simp
   .rw[Qc (by omega),ON]
    .rfl
    .simp;omega
 .have hz:xs=[]:=by
   cases xs with
   |nil=>rfl
   |cons _ _=>unfold az at i;simp at i
  subst hz;have Q:=E h1;subst Q;refine(AnyF.slices_SortFunc_none (P:=P) (ρ:=ρ) {L with} p cap (.func (.func g) #[] #[]) w).mono λe w' ⟨l,t⟩=>?_;subst t;exact⟨none,⟨rfl,by simp[az]⟩,.inl rfl,l,rfl,Oc _,λ_ _=>rfl⟩
end Go.AX
namespace Go.AX
def pT(b:Nat):Nat->List SV->List (PV×Option Pos)
 |_,[]=>[]
 |k,.pv x::r=>(x,none)::pT b (k+1) r
 |k,_::r=>(.bot,some (.cell b k))::pT b (k+1) r
def LA(P:Program)(t:Nat)(T:TypeId)(R:SV->List (List SV)->Prop)(st:St):Prop:=
 match look st.t t with
 |.pv (.ptr b 0)=>aI P T=some (true,(st.h.getD b []).length)∧R (.agl (pT b 0 (st.h.getD b []))) st.h
 |_=>False
def boxes:List Oper->List Oper
 |[]=>[]
 |o::r=>match o.dst with
  |some d=>{dst:=none,op:=.box 0 (.tmp d),type:=0,pos:= "",after:=#[],guard:=none}::boxes r
  |none=>boxes r
attribute [simp] pT LA boxes
end Go.AX