/-
  AX, part SE: worlds that have grown; and what follows.
-/
import Derived.Test.YtepodadinenmnaaGreatZ8
import Derived.Test.YtepodadinenmnaaGreatZ6
import Derived.Sort.Grow
import Derived.Shelf.SlSortCmp.Insertion
import Derived.Shelf.SlSortCmp.NoneTotal
namespace Go.AX
section
open Go.Sort
theorem Im{w w':ab}(h1:w.heap=w'.heap)(a:w.tape=w'.tape)(b:w.drawn=w'.drawn)(c:w.os=w'.os)(d:w.output=w'.output):w=w':=by
 cases w;cases w';simp only at h1 a b c d;subst h1 a b c d;rfl
theorem grown_of{w w':ab}(a:cH w'=cH w)(hk:∀c,c<w.heap.size->w'.heap[c]?=w.heap[c]?)(hs:w.heap.size<=w'.heap.size)(hd:w.drawn<=w'.drawn):∃q b,w'=grow (w.drewN q) b:=by
 refine⟨w'.drawn -w.drawn,w'.heap.extract w.heap.size w'.heap.size,?_⟩;unfold cH at a;simp only[W8]at a;refine Im ?_ a.2.1 ?_ a.1 a.2.2;show w'.heap=w.heap++w'.heap.extract w.heap.size w'.heap.size;apply Array.ext_getElem?;intro k;rw[Y1];split;exact hk k (by assumption);rename_i h;rw[Array.getElem?_extract];split;congr 1;omega;rw[W9];omega;show w'.drawn=w.drawn+(w'.drawn -w.drawn);omega
end
section
open Go.Proofs Go.Shelf Go.Sort
theorem Bn{P:aa}{ρ:Ren}(L:SlLaysF.n6 P ρ){α:Type}[Inhabited α](z:α->Int)(cf:α->α->Int)(g:az)(xs:List α)(hl:xs.length<=1000000)(hO:SWO (ltOf cf))(hT:∀x y,(ltOf cf) x y=false->(ltOf cf) y x=false->x=y)
 (Y:∀args w,(callFunc g args).run P w=.ok (.enter g args) w) (hc:aV P (ρ.f 6)=true) (N:∀x y,aw P g [.lit (.int .i64 (z x)),.lit (.int .i64 (z y))] (λr=>r=.pv (.lit (.int .i64 (cf x y))))):
 qP P (ρ.f 6) 1 (aU (xs.map z)) [.fn (.func g) [] []] (λk rows=>k=none∧rows=aU ((xs.mergeSort λx y=>!(ltOf cf) y x).map z)):=by
 have E:∀{G:Gh}{H:aG},ax G [.fn (.func g) [] []] H->H=[.func (.func g) #[] #[]]:=by
  intro G H h;obtain⟨v,r,rfl,⟨a,b,rfl,h1,l⟩,t⟩:=h;have I:a=#[]:=WW h1;have J:b=#[]:=WW l;have K:r=[]:=t;subst I J K;rfl
 refine⟨hc,λad w c cap arr T pre vs U H h1 l t Z h5 h6 R=>?_,λi w p cap H h1=>?_⟩;have S:=cK h5;subst S;have Q:=E h6;subst Q;have D:(aU (xs.map z)).length=xs.length:=by unfold aU;simp
 rw[D]at t Z⊢;have A:c<w.heap.size:=(VD.1 h1).1;have V:arr.size=pre.length+xs.length+U.length:=by
  rw[←Wm,l];simp only[Vz,VA]
 let enc:α->an:=λx=>.int .i64 (z x)
 have hH:Holds enc w c pre.length xs.toArray:=by
  intro j hj;have C:j<xs.length:=by simpa using hj
  constructor;rw[cell_of h1,←Vw,l,VV,VM (by omega),XL,Vv (by simpa using C),VO,VO,Vq C];simp only[Wq];rw[XW xs.toArray j hj];simp[enc];simp[World.frozen?,h1]
 have u:CmpLays1 P g #[] enc cf c pre.length xs.toArray.size w:=by
  intro m F X hs x y;have B:ax (dZ (sortWorld enc w c pre.length m X F)) [.lit (.int .i64 (z x)),.lit (.int .i64 (z y))] [enc x,enc y]:=⟨_,_,rfl,rfl,_,_,rfl,rfl,rfl⟩;have h:=tf ((N x y).2 _ _ B) (λe w' ⟨v,_,_,_,i,_⟩=>⟨v,i⟩);refine Calls.mono (show Calls P g (#[enc x,enc y]++#[]) _ _ from h) λe w' ⟨⟨v,r,g',o,i,s,M,hF,_,_⟩,hd⟩=>?_;subst s;have hv:v=.int .i64 (cf x y):=hF.2;exact⟨by rw[i,hv],grown_of M.env M.keep M.size hd⟩
 have hS:=Any.slices_SortFunc_total L enc (λ_=>rfl) cf hO g #[] c pre.length cap xs.toArray w Y u hH A (by simpa using(by omega:xs.length<4611686018427387904)) hT;have q:((Value.slice (some ⟨c,pre.length,none⟩) xs.length cap)::[Value.func (.func g) #[] #[]]).toArray=#[.slice (some ⟨c,pre.length,none⟩) xs.toArray.size cap,.func (.func g) #[] #[]]:=by simp
 rw[q];refine hS.mono λe w' ⟨i,n,F,hw⟩=>?_;subst hw;have ab:(xs.toArray.toList.mergeSort λx y=>!(ltOf cf) y x).length=xs.length:=by rw[WD]
 refine⟨none,aU ((xs.mergeSort λx y=>!(ltOf cf) y x).map z),((xs.mergeSort λx y=>!(ltOf cf) y x).map z).map (Value.int .i64),⟨rfl,rfl⟩,by unfold aU;simp,λm hm=>(by cases hm),i,rfl,?_,λk hk O=>?_,⟨T,?_⟩,λG _=>eP G _⟩;show w.heap.size<=(w.heap.modify c _++F).size;rw[YK,Xy];omega;show(w.heap.modify c _++F)[k]?=_;rw[XM (by rw[Xy];exact hk),WZ,Vs (Yg O)];show(w.heap.modify c _++F)[c]?=_;rw[XM (by rw[Xy];exact A),WZ,Vt rfl,h1];simp only[Wq,onCells,Wc,Obj.cells.injEq,aaw];apply WW;apply Wv;intro k;rw[Vw];simp only[putCells,Y4];by_cases hk:k<arr.size;rw[VK hk];simp only[Wq];have d:arr.toList[k]?=some arr[k]:=by rw[Vw,VK hk]
 rw[l,VV]at d;rw[VV];split;rename_i s;simp only[Ww,WD]at s;rw[VM s.1,Vv (by simp;omega)];simp only[VO];have W:k -pre.length<(xs.mergeSort λx y=>!(ltOf cf) y x).length:=by rw[WD];omega
 rw[Vq W,XW (xs.toArray.toList.mergeSort λx y=>!(ltOf cf) y x).toArray (k -pre.length) (by simpa using W)];simp[enc];rename_i s;simp only[Ww,WD]at s;by_cases hp:k<pre.length;rw[Vv hp]at d⊢;exact d.symm;rw[VM (by omega),VM (by simp;omega)]at d⊢;rw[←d];simp;rw[W9 (by omega),V4];rfl;simp;omega;have hz:xs=[]:=by
  cases xs with
  |nil=>rfl
  |cons _ _=>unfold aU at i;simp at i
 subst hz;have Q:=E h1;subst Q;refine(AnyF.slices_SortFunc_none (P:=P) (ρ:=ρ) {L with} p cap (.func (.func g) #[] #[]) w).mono λe w' ⟨l,t⟩=>?_;subst t;exact⟨none,⟨rfl,by simp[aU]⟩,.inl rfl,l,rfl,Vu _,λ_ _=>rfl⟩
end
section
def ug(b:Nat):Nat->bj->List (PV×Option Pos)
 |_,[]=>[]
 |k,.pv x::r=>(x,none)::ug b (k+1) r
 |k,_::r=>(.bot,some (.cell b k))::ug b (k+1) r
def TC(P:aa)(t:Nat)(T:ah)(R:SV->ao->Prop)(st:St):Prop:=
 match look st.t t with
 |.pv (.ptr b 0)=>aZ P T=some (true,(st.h.getD b []).length)∧R (.agl (ug b 0 (st.h.getD b []))) st.h
 |_=>False
def boxes:List ai->List ai
 |[]=>[]
 |o::r=>match o.dst with
  |some d=>{dst:=none,op:=.box 0 (.tmp d),type:=0,pos:= "",after:=#[],guard:=none}::boxes r
  |none=>boxes r
attribute [simp] ug TC boxes
end
end Go.AX
