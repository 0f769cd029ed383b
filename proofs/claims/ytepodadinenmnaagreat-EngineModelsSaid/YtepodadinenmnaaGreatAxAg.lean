/-
  AX, part SE: worlds that have grown.
  AX, part SF: slices.SortFunc, from the library's contract: a slice of numbers is put in order in place.
  AX, part Ag: a function that gives a struct a part of which is a slice of its own.
-/
import Derived.Test.YtepodadinenmnaaGreatAxIs
import Derived.Test.YtepodadinenmnaaGreatAxDr
import Derived.Sort.Grow
import Derived.Shelf.SlSortCmp.Insertion
import Derived.Shelf.SlSortCmp.NoneTotal
namespace Go.AX
open Go.Sort
theorem EV{w w':World}(h1:w.heap=w'.heap)(a:w.tape=w'.tape)(b:w.drawn=w'.drawn)(c:w.os=w'.os)(d:w.output=w'.output):w=w':=by
 cases w;cases w';simp only at h1 a b c d;subst h1 a b c d;rfl
theorem grown_of{w w':World}(a:bU w'=bU w)(hk:∀c,c<w.heap.size->w'.heap[c]?=w.heap[c]?)(hs:w.heap.size<=w'.heap.size)(hd:w.drawn<=w'.drawn):∃q b,w'=grow (w.drewN q) b:=by
 refine⟨w'.drawn -w.drawn,w'.heap.extract w.heap.size w'.heap.size,?_⟩;unfold bU at a;simp only[Tq]at a;refine EV ?_ a.2.1 ?_ a.1 a.2.2
 .show w'.heap=w.heap++w'.heap.extract w.heap.size w'.heap.size;apply Array.ext_getElem?;intro k;rw[UZ];split
  .exact hk k (by assumption)
  .rename_i h;rw[Array.getElem?_extract];split
   .congr 1;omega
   .rw[T4];omega
 .show w'.drawn=w.drawn+(w'.drawn -w.drawn);omega
end Go.AX
namespace Go.AX
open Go.Proofs Go.Shelf Go.Sort
theorem yQ{P:Program}{ρ:Ren}(L:SlLaysF.n6 P ρ){α:Type}[Inhabited α](z:α->Int)(cf:α->α->Int)(g:FuncId)(xs:List α)(hl:xs.length<=1000000)(hO:SWO (ltOf cf))(hT:∀x y,(ltOf cf) x y=false->(ltOf cf) y x=false->x=y)
 (Y:∀args w,(callFunc g args).run P w=.ok (.enter g args) w) (hc:aG P (ρ.f 6)=true) (N:∀x y,am P g [.lit (.int .i64 (z x)),.lit (.int .i64 (z y))] (λr=>r=.pv (.lit (.int .i64 (cf x y))))):
 wx P (ρ.f 6) 1 (aD (xs.map z)) [.fn (.func g) [] []] (λk rows=>k=none∧rows=aD ((xs.mergeSort λx y=>!(ltOf cf) y x).map z)):=by
 have E:∀{G:Gh}{H:List Value},ak G [.fn (.func g) [] []] H->H=[.func (.func g) #[] #[]]:=by
  intro G H h;obtain⟨v,r,rfl,⟨a,b,rfl,h1,l⟩,t⟩:=h;have I:a=#[]:=TO h1;have J:b=#[]:=TO l;have K:r=[]:=t;subst I J K;rfl
 refine⟨hc,λab w c cap arr T pre vs U H h1 l t Z h5 h6 R=>?_,λi w p cap H h1=>?_⟩
 .have S:=bT h5;subst S;have Q:=E h6;subst Q;have D:(aD (xs.map z)).length=xs.length:=by unfold aD;simp
  rw[D]at t Z⊢;have A:c<w.heap.size:=(RV.1 h1).1;have V:arr.size=pre.length+xs.length+U.length:=by
   rw[←Sy,l];simp only[RP,RR]
  let enc:α->Value:=λx=>.int .i64 (z x)
  have hH:Holds enc w c pre.length xs.toArray:=by
   intro j hj;have C:j<xs.length:=by simpa using hj
   constructor
   .rw[cell_of h1,←RM,l,Si,R5 (by omega),Ud,RL (by simpa using C),R3,R3,RF C];simp only[SH];rw[UN xs.toArray j hj];simp[enc]
   .simp[World.frozen?,h1]
  have u:CmpLays1 P g #[] enc cf c pre.length xs.toArray.size w:=by
   intro m F X hs x y;have B:ak (dN (sortWorld enc w c pre.length m X F)) [.lit (.int .i64 (z x)),.lit (.int .i64 (z y))] [enc x,enc y]:=⟨_,_,rfl,rfl,_,_,rfl,rfl,rfl⟩;have h:=yF ((N x y).2 _ _ B) (λe w' ⟨v,_,_,_,i,_⟩=>⟨v,i⟩);refine Calls.mono (show Calls P g (#[enc x,enc y]++#[]) _ _ from h) λe w' ⟨⟨v,r,g',o,i,s,M,hF,_,_⟩,hd⟩=>?_;subst s;have hv:v=.int .i64 (cf x y):=hF.2;exact⟨by rw[i,hv],grown_of M.env M.keep M.size hd⟩
  have hS:=Any.slices_SortFunc_total L enc (λ_=>rfl) cf hO g #[] c pre.length cap xs.toArray w Y u hH A (by simpa using(by omega:xs.length<4611686018427387904)) hT;have q:((Value.slice (some ⟨c,pre.length,none⟩) xs.length cap)::[Value.func (.func g) #[] #[]]).toArray=#[.slice (some ⟨c,pre.length,none⟩) xs.toArray.size cap,.func (.func g) #[] #[]]:=by simp
  rw[q];refine hS.mono λe w' ⟨i,n,F,hw⟩=>?_;subst hw;have aa:(xs.toArray.toList.mergeSort λx y=>!(ltOf cf) y x).length=xs.length:=by rw[Tj]
  refine⟨none,aD ((xs.mergeSort λx y=>!(ltOf cf) y x).map z),((xs.mergeSort λx y=>!(ltOf cf) y x).map z).map (Value.int .i64),⟨rfl,rfl⟩,by unfold aD;simp,λm hm=>(by cases hm),i,rfl,?_,λk hk O=>?_,⟨T,?_⟩,λG _=>dX G _⟩
  .show w.heap.size<=(w.heap.modify c _++F).size;rw[Vt,Uk];omega
  .show(w.heap.modify c _++F)[k]?=_;rw[UC (by rw[Uk];exact hk),TE,RH (UU O)]
  .show(w.heap.modify c _++F)[c]?=_;rw[UC (by rw[Uk];exact A),TE,RI rfl,h1];simp only[SH,onCells,Sr,Obj.cells.injEq,and_true];apply TO;apply Tl;intro k;rw[RM];simp only[putCells,VA]
   by_cases hk:k<arr.size
   .rw[R1 hk];simp only[SH];have d:arr.toList[k]?=some arr[k]:=by rw[RM,R1 hk]
    rw[l,Si]at d;rw[Si];split
    .rename_i s;simp only[SP,Tj]at s;rw[R5 s.1,RL (by simp;omega)];simp only[R3];have W:k -pre.length<(xs.mergeSort λx y=>!(ltOf cf) y x).length:=by rw[Tj];omega
     rw[RF W,UN (xs.toArray.toList.mergeSort λx y=>!(ltOf cf) y x).toArray (k -pre.length) (by simpa using W)];simp[enc]
    .rename_i s;simp only[SP,Tj]at s
     by_cases hp:k<pre.length
     .rw[RL hp]at d⊢;exact d.symm
     .rw[R5 (by omega),R5 (by simp;omega)]at d⊢;rw[←d];simp
   .rw[T4 (by omega),SB]
    .rfl
    .simp;omega
 .have hz:xs=[]:=by
   cases xs with
   |nil=>rfl
   |cons _ _=>unfold aD at i;simp at i
  subst hz;have Q:=E h1;subst Q;refine(AnyF.slices_SortFunc_none (P:=P) (ρ:=ρ) {L with} p cap (.func (.func g) #[] #[]) w).mono λe w' ⟨l,t⟩=>?_;subst t;exact⟨none,⟨rfl,by simp[aD]⟩,.inl rfl,l,rfl,RJ _,λ_ _=>rfl⟩
end Go.AX
namespace Go.AX
def rK(b:Nat):Nat->List SV->List (PV×Option Pos)
 |_,[]=>[]
 |k,.pv x::r=>(x,none)::rK b (k+1) r
 |k,_::r=>(.bot,some (.cell b k))::rK b (k+1) r
def PI(P:Program)(t:Nat)(T:TypeId)(R:SV->List (List SV)->Prop)(st:St):Prop:=
 match look st.t t with
 |.pv (.ptr b 0)=>aL P T=some (true,(st.h.getD b []).length)∧R (.agl (rK b 0 (st.h.getD b []))) st.h
 |_=>False
def boxes:List Oper->List Oper
 |[]=>[]
 |o::r=>match o.dst with
  |some d=>{dst:=none,op:=.box 0 (.tmp d),type:=0,pos:= "",after:=#[],guard:=none}::boxes r
  |none=>boxes r
attribute [simp] rK PI boxes
end Go.AX