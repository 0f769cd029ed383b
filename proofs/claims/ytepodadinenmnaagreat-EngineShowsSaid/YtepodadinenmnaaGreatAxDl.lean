/-
  AX, part SM: slices.Sort of numbers, from the library's contract: a slice of numbers is put in order in place.
  AX, part DL: slices.Delete of numbers, from the library's contract: in place.
-/
import Derived.Test.YtepodadinenmnaaGreatAxAg
import Derived.Shelf.SortM.Plain
import Derived.Shelf.SortM.SortNone
import Derived.Test.YtepodadinenmnaaGreatAxIs
import Derived.Shelf.SlicesG.Delete
namespace Go.AX
open Go.Proofs Go.Shelf Go.Sort
theorem x3{P:Program}{ρ:Ren}(L:SlLaysM.n5 P ρ)(xs:List Int)(M:xs.length<=1000000)(H:aF P (ρ.f 5)=true):
 vz P (ρ.f 5) 1 (aB xs) [] (λk rows=>k=none∧rows=aB (xs.mergeSort λx y=>decide (x<=y))):=by
 refine⟨H,λJ w c cap arr T pre vs v z h1 b o C D E s=>?_,λi w p cap z h1=>?_⟩
 .have t:=bM D;subst t;have r:z=[]:=E;subst r;have h:(aB xs).length=xs.length:=by unfold aB;simp
  rw[h]at o C⊢;have d:c<w.heap.size:=(Qi.1 h1).1;have A:arr.size=pre.length+xs.length+v.length:=by
   rw[←QY,b];simp only[Qh,Ql]
  have F:Holds (Value.int .i64) w c pre.length xs.toArray:=by
   intro j hj;have g:j<xs.length:=by simpa using hj
   constructor
   .rw[cell_of h1,←Qf,b,QD,Qp (by omega),Sr,Qd (by simpa using g),Qu,P8 g];simp only[Q5];rw[SS xs.toArray j hj];simp
   .simp[World.frozen?,h1]
  refine(AnyM.slices_Sort_int L c pre.length cap xs w F d (by omega)).mono λe w' ⟨i,n,u,K⟩=>?_;subst K;refine⟨none,aB (xs.mergeSort λx y=>decide (x<=y)),(xs.mergeSort λx y=>decide (x<=y)).map (Value.int .i64),⟨rfl,rfl⟩,by unfold aB;simp,λm I=>(by cases I),i,rfl,?_,λk hk q=>?_,⟨T,?_⟩,λG _=>dL G _⟩
  .show w.heap.size<=(w.heap.modify c _++u).size;rw[Tv,Sx];omega
  .show(w.heap.modify c _++u)[k]?=_;rw[SM (by rw[Sx];exact hk),RR,Qa (SJ q)]
  .show(w.heap.modify c _++u)[c]?=_;rw[SM (by rw[Sx];exact d),RR,Qb rfl,h1];simp only[Q5,onCells,QQ,Obj.cells.injEq,and_true];apply RP;apply Rt;intro k;rw[Qf];simp only[putCells,T7]
   by_cases hk:k<arr.size
   .rw[Qv hk];simp only[Q5];have a:arr.toList[k]?=some arr[k]:=by rw[Qf,Qv hk]
    rw[b,QD]at a;rw[QD];split
    .rename_i l;simp only[Q8,Rn]at l;rw[Qp l.1,Qd (by simp;omega)];simp only[Qu];have B:k -pre.length<(xs.mergeSort λx y=>decide (x<=y)).length:=by rw[Rn];omega
     rw[P8 B,SS (xs.mergeSort λx y=>decide (x<=y)).toArray (k -pre.length) (by simpa using B)];simp
    .rename_i l;simp only[Q8,Rn]at l
     by_cases hp:k<pre.length
     .rw[Qd hp]at a⊢;exact a.symm
     .rw[Qp (by omega),Qp (by simp;omega)]at a⊢;rw[←a];simp
   .rw[Sc (by omega),QH]
    .rfl
    .simp;omega
 .have hz:xs=[]:=by
   cases xs with
   |nil=>rfl
   |cons _ _=>unfold aB at i;simp at i
  subst hz;have r:z=[]:=h1;subst r;refine(AnyM.slices_Sort_int_none (P:=P) (ρ:=ρ) L p cap w).mono λe w' ⟨b,o⟩=>?_;subst o;exact⟨none,⟨rfl,by simp[aB]⟩,.inl rfl,b,rfl,Qc _,λ_ _=>rfl⟩
end Go.AX
namespace Go.AX
open Go.Proofs Go.Shelf Go.Sort
theorem yd{P:Program}{ρ:Ren}(L:SlLaysN.n45 P ρ)(xs:List Int)(i j:Nat)(n:i<=j)(hj:j<=xs.length)(E:aF P (ρ.f 45)=true):
 P0 P (ρ.f 45) xs xs.length [.lit (.int .i64 i),.lit (.int .i64 j)] (xs.take i++xs.drop j++List.replicate (j -i) 0) (xs.length -(j -i)):=by
 refine⟨E,λw c cap arr T t N h1 m A B C r=>?_⟩;obtain⟨J,M,rfl,x,K,I,rfl,y,z⟩:=C;have g:J=.int .i64 i:=x;have h:K=.int .i64 j:=y;have l:I=[]:=z;subst g h l;have F:c<w.heap.size:=(Qi.1 h1).1;have u:arr.size=xs.length+t.length:=by
  rw[←QY,m];simp only[Qh,Ql]
 have D:Holds (Value.int .i64) w c 0 xs.toArray:=by
  intro j hj;have d:j<xs.length:=by simpa using hj
  constructor
  .rw[cell_of h1,←Qf,m,Q2,Qd (by simpa using d),Qu,P8 d];simp only[Q5];rw[SS xs.toArray j hj];simp
  .simp[World.frozen?,h1]
 have s:(xs.take i++xs.drop j++List.replicate (j -i) 0).length=xs.length:=by simp;omega
 have b:cap<=9223372036854775807:=by unfold maxLen at B;omega
 refine(AnyG.slices_Delete_int L c 0 cap i j xs w D A b n hj).mono λe w' ⟨G,q,H⟩=>?_;generalize xs.take i++xs.drop j++List.replicate (j -i) 0=ys at*;subst H;refine⟨G,?_,λk o=>?_,?_,rfl⟩
 .show(w.heap.modify c _)[c]?=_;rw[RR,Qb rfl,h1];simp only[Q5,onCells,QQ,Obj.cells.injEq,and_true];apply RP;apply Rt;intro k;rw[Qf];simp only[putCells,T7]
  by_cases hk:k<arr.size
  .rw[Qv hk];simp only[Q5];have a:arr.toList[k]?=some arr[k]:=by rw[Qf,Qv hk]
   rw[m]at a;split
   .rename_i p;simp only[Q8]at p;have v:k<ys.length:=by omega
    rw[Qd (by simp;omega)];simp only[Qu];rw[P8 v,SS ys.toArray (k -0) (by simpa using v)];simp
   .rename_i p;simp only[Q8]at p;rw[Qp (by simp;omega)]at a⊢;rw[←a];simp[s]
  .rw[Sc (by omega),QH]
   .rfl
   .simp;omega
 .show(w.heap.modify c _)[k]?=_;rw[RR,Qa (SJ o)]
 .show(w.heap.modify c _).size=_;rw[Sx]
end Go.AX