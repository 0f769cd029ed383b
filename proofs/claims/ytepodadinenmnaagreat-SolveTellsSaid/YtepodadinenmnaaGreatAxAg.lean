/-
  AX, part SE: worlds that have grown; and what follows.
-/
import Derived.Test.YtepodadinenmnaaGreatAxOw
import Derived.Test.YtepodadinenmnaaGreatAxDr
import Derived.Sort.Grow
import Derived.Shelf.SlSortCmp.Insertion
import Derived.Shelf.SlSortCmp.NoneTotal
namespace Go.AX
open Go.Sort
theorem FL{w w':World}(h1:w.heap=w'.heap)(a:w.tape=w'.tape)(b:w.drawn=w'.drawn)(c:w.os=w'.os)(d:w.output=w'.output):w=w':=by
 cases w;cases w';simp only at h1 a b c d;subst h1 a b c d;rfl
theorem grown_of{w w':World}(a:bT w'=bT w)(hk:∀c,c<w.heap.size->w'.heap[c]?=w.heap[c]?)(hs:w.heap.size<=w'.heap.size)(hd:w.drawn<=w'.drawn):∃q b,w'=grow (w.drewN q) b:=by
 refine⟨w'.drawn -w.drawn,w'.heap.extract w.heap.size w'.heap.size,?_⟩;unfold bT at a;simp only[UH]at a;refine FL ?_ a.2.1 ?_ a.1 a.2.2
 .show w'.heap=w.heap++w'.heap.extract w.heap.size w'.heap.size;apply Array.ext_getElem?;intro k;rw[Wb];split
  .exact hk k (by assumption)
  .rename_i h;rw[Array.getElem?_extract];split
   .congr 1;omega
   .rw[UI];omega
 .show w'.drawn=w.drawn+(w'.drawn -w.drawn);omega
end Go.AX
namespace Go.AX
open Go.Proofs Go.Shelf Go.Sort
theorem zk{P:Program}{ρ:Ren}(L:SlLaysF.n6 P ρ){α:Type}[Inhabited α](z:α->Int)(cf:α->α->Int)(g:FuncId)(xs:List α)(hl:xs.length<=1000000)(hO:SWO (ltOf cf))(hT:∀x y,(ltOf cf) x y=false->(ltOf cf) y x=false->x=y)
 (Y:∀args w,(callFunc g args).run P w=.ok (.enter g args) w) (hc:aF P (ρ.f 6)=true) (N:∀x y,aj P g [.lit (.int .i64 (z x)),.lit (.int .i64 (z y))] (λr=>r=.pv (.lit (.int .i64 (cf x y))))):
 o8 P (ρ.f 6) 1 (aC (xs.map z)) [.fn (.func g) [] []] (λk rows=>k=none∧rows=aC ((xs.mergeSort λx y=>!(ltOf cf) y x).map z)):=by
 have E:∀{G:Gh}{H:List Value},ak G [.fn (.func g) [] []] H->H=[.func (.func g) #[] #[]]:=by
  intro G H h;obtain⟨v,r,rfl,⟨a,b,rfl,h1,l⟩,t⟩:=h;have I:a=#[]:=UJ h1;have J:b=#[]:=UJ l;have K:r=[]:=t;subst I J K;rfl
 refine⟨hc,λab w c cap arr T pre vs U H h1 l t Z h5 h6 R=>?_,λi w p cap H h1=>?_⟩
 .have S:=bV h5;subst S;have Q:=E h6;subst Q;have D:(aC (xs.map z)).length=xs.length:=by unfold aC;simp
  rw[D]at t Z⊢;have A:c<w.heap.size:=(Td.1 h1).1;have V:arr.size=pre.length+xs.length+U.length:=by
   rw[←TR,l];simp only[Ta,S7]
  let enc:α->Value:=λx=>.int .i64 (z x)
  have hH:Holds enc w c pre.length xs.toArray:=by
   intro j hj;have C:j<xs.length:=by simpa using hj
   constructor
   .rw[cell_of h1,←S4,l,Tv,Tk (by omega),Vd,SZ (by simpa using C),Tm,Tm,SR C];simp only[TZ];rw[Vq xs.toArray j hj];simp[enc]
   .simp[World.frozen?,h1]
  have u:CmpLays1 P g #[] enc cf c pre.length xs.toArray.size w:=by
   intro m F X hs x y;have B:ak (du (sortWorld enc w c pre.length m X F)) [.lit (.int .i64 (z x)),.lit (.int .i64 (z y))] [enc x,enc y]:=⟨_,_,rfl,rfl,_,_,rfl,rfl,rfl⟩;have h:=rf ((N x y).2 _ _ B) (λe w' ⟨v,_,_,_,i,_⟩=>⟨v,i⟩);refine Calls.mono (show Calls P g (#[enc x,enc y]++#[]) _ _ from h) λe w' ⟨⟨v,r,g',o,i,s,M,hF,_,_⟩,hd⟩=>?_;subst s;have hv:v=.int .i64 (cf x y):=hF.2;exact⟨by rw[i,hv],grown_of M.env M.keep M.size hd⟩
  have hS:=Any.slices_SortFunc_total L enc (λ_=>rfl) cf hO g #[] c pre.length cap xs.toArray w Y u hH A (by simpa using(by omega:xs.length<4611686018427387904)) hT;have q:((Value.slice (some ⟨c,pre.length,none⟩) xs.length cap)::[Value.func (.func g) #[] #[]]).toArray=#[.slice (some ⟨c,pre.length,none⟩) xs.toArray.size cap,.func (.func g) #[] #[]]:=by simp
  rw[q];refine hS.mono λe w' ⟨i,n,F,hw⟩=>?_;subst hw;have aa:(xs.toArray.toList.mergeSort λx y=>!(ltOf cf) y x).length=xs.length:=by rw[Ur]
  refine⟨none,aC ((xs.mergeSort λx y=>!(ltOf cf) y x).map z),((xs.mergeSort λx y=>!(ltOf cf) y x).map z).map (Value.int .i64),⟨rfl,rfl⟩,by unfold aC;simp,λm hm=>(by cases hm),i,rfl,?_,λk hk O=>?_,⟨T,?_⟩,λG _=>dP G _⟩
  .show w.heap.size<=(w.heap.modify c _++F).size;rw[Wf,U0];omega
  .show(w.heap.modify c _++F)[k]?=_;rw[Ve (by rw[U0];exact hk),UC,SU (VC O)]
  .show(w.heap.modify c _++F)[c]?=_;rw[Ve (by rw[U0];exact A),UC,SX rfl,h1];simp only[TZ,onCells,TF,Obj.cells.injEq,XU];apply UJ;apply Uf;intro k;rw[S4];simp only[putCells,We]
   by_cases hk:k<arr.size
   .rw[Ti hk];simp only[TZ];have d:arr.toList[k]?=some arr[k]:=by rw[S4,Ti hk]
    rw[l,Tv]at d;rw[Tv];split
    .rename_i s;simp only[T8,Ur]at s;rw[Tk s.1,SZ (by simp;omega)];simp only[Tm];have W:k -pre.length<(xs.mergeSort λx y=>!(ltOf cf) y x).length:=by rw[Ur];omega
     rw[SR W,Vq (xs.toArray.toList.mergeSort λx y=>!(ltOf cf) y x).toArray (k -pre.length) (by simpa using W)];simp[enc]
    .rename_i s;simp only[T8,Ur]at s
     by_cases hp:k<pre.length
     .rw[SZ hp]at d⊢;exact d.symm
     .rw[Tk (by omega),Tk (by simp;omega)]at d⊢;rw[←d];simp
   .rw[UI (by omega),TL]
    .rfl
    .simp;omega
 .have hz:xs=[]:=by
   cases xs with
   |nil=>rfl
   |cons _ _=>unfold aC at i;simp at i
  subst hz;have Q:=E h1;subst Q;refine(AnyF.slices_SortFunc_none (P:=P) (ρ:=ρ) {L with} p cap (.func (.func g) #[] #[]) w).mono λe w' ⟨l,t⟩=>?_;subst t;exact⟨none,⟨rfl,by simp[aC]⟩,.inl rfl,l,rfl,SY _,λ_ _=>rfl⟩
end Go.AX
namespace Go.AX
def sa(b:Nat):Nat->List SV->List (PV×Option Pos)
 |_,[]=>[]
 |k,.pv x::r=>(x,none)::sa b (k+1) r
 |k,_::r=>(.bot,some (.cell b k))::sa b (k+1) r
def QO(P:Program)(t:Nat)(T:TypeId)(R:SV->List (List SV)->Prop)(st:St):Prop:=
 match look st.t t with
 |.pv (.ptr b 0)=>aI P T=some (true,(st.h.getD b []).length)∧R (.agl (sa b 0 (st.h.getD b []))) st.h
 |_=>False
def boxes:List Oper->List Oper
 |[]=>[]
 |o::r=>match o.dst with
  |some d=>{dst:=none,op:=.box 0 (.tmp d),type:=0,pos:= "",after:=#[],guard:=none}::boxes r
  |none=>boxes r
attribute [simp] sa QO boxes
end Go.AX