/-
  AX, part SM: slices.Sort of numbers, from the library's contract: a slice of numbers is put in order in place.
  AX, part DL: slices.Delete of numbers, from the library's contract: in place.
-/
import Derived.Test.YtepodadinenmnaaGreatAxAg
import Derived.Shelf.SortM.Plain
import Derived.Shelf.SortM.SortNone
import Derived.Test.YtepodadinenmnaaGreatAxIs
import Derived.Shelf.SlicesG.Delete
namespace Go.AX
open Go.Proofs Go.Shelf Go.Sort
theorem wq{P:Program}{ρ:Ren}(L:SlLaysM.n5 P ρ)(xs:List Int)(M:xs.length<=1000000)(H:aC P (ρ.f 5)=true):
 tV P (ρ.f 5) 1 (az xs) [] (λk rows=>k=none∧rows=az (xs.mergeSort λx y=>decide (x<=y))):=by
 refine⟨H,λJ w c cap arr T pre vs v z h1 b o C D E s=>?_,λi w p cap z h1=>?_⟩
 .have t:=bH D;subst t;have r:z=[]:=E;subst r;have h:(az xs).length=xs.length:=by unfold az;simp
  rw[h]at o C⊢;have d:c<w.heap.size:=(Oh.1 h1).1;have A:arr.size=pre.length+xs.length+v.length:=by
   rw[←OS,b];simp only[Oi,Oj]
  have F:Holds (Value.int .i64) w c pre.length xs.toArray:=by
   intro j hj;have g:j<xs.length:=by simpa using hj
   constructor
   .rw[cell_of h1,←Ob,b,OG,Ot (by omega),Qm,Oa (by simpa using g),Oq,N6 g];simp only[O2];rw[QX xs.toArray j hj];simp
   .simp[World.frozen?,h1]
  refine(AnyM.slices_Sort_int L c pre.length cap xs w F d (by omega)).mono λe w' ⟨i,n,u,K⟩=>?_;subst K;refine⟨none,az (xs.mergeSort λx y=>decide (x<=y)),(xs.mergeSort λx y=>decide (x<=y)).map (Value.int .i64),⟨rfl,rfl⟩,by unfold az;simp,λm I=>(by cases I),i,rfl,?_,λk hk q=>?_,⟨T,?_⟩,λG _=>dz G _⟩
  .show w.heap.size<=(w.heap.modify c _++u).size;rw[RG,Qq];omega
  .show(w.heap.modify c _++u)[k]?=_;rw[Qz (by rw[Qq];exact hk),PP,N8 (QZ q)]
  .show(w.heap.modify c _++u)[c]?=_;rw[Qz (by rw[Qq];exact d),PP,N9 rfl,h1];simp only[O2,onCells,OI,Obj.cells.injEq,and_true];apply PX;apply Px;intro k;rw[Ob];simp only[putCells,RM]
   by_cases hk:k<arr.size
   .rw[Ox hk];simp only[O2];have a:arr.toList[k]?=some arr[k]:=by rw[Ob,Ox hk]
    rw[b,OG]at a;rw[OG];split
    .rename_i l;simp only[Pb,Pw]at l;rw[Ot l.1,Oa (by simp;omega)];simp only[Oq];have B:k -pre.length<(xs.mergeSort λx y=>decide (x<=y)).length:=by rw[Pw];omega
     rw[N6 B,QX (xs.mergeSort λx y=>decide (x<=y)).toArray (k -pre.length) (by simpa using B)];simp
    .rename_i l;simp only[Pb,Pw]at l
     by_cases hp:k<pre.length
     .rw[Oa hp]at a⊢;exact a.symm
     .rw[Ot (by omega),Ot (by simp;omega)]at a⊢;rw[←a];simp
   .rw[Qc (by omega),ON]
    .rfl
    .simp;omega
 .have hz:xs=[]:=by
   cases xs with
   |nil=>rfl
   |cons _ _=>unfold az at i;simp at i
  subst hz;have r:z=[]:=h1;subst r;refine(AnyM.slices_Sort_int_none (P:=P) (ρ:=ρ) L p cap w).mono λe w' ⟨b,o⟩=>?_;subst o;exact⟨none,⟨rfl,by simp[az]⟩,.inl rfl,b,rfl,Oc _,λ_ _=>rfl⟩
end Go.AX
namespace Go.AX
open Go.Proofs Go.Shelf Go.Sort
theorem wA{P:Program}{ρ:Ren}(L:SlLaysN.n45 P ρ)(xs:List Int)(i j:Nat)(n:i<=j)(hj:j<=xs.length)(E:aC P (ρ.f 45)=true):
 NW P (ρ.f 45) xs xs.length [.lit (.int .i64 i),.lit (.int .i64 j)] (xs.take i++xs.drop j++List.replicate (j -i) 0) (xs.length -(j -i)):=by
 refine⟨E,λw c cap arr T t N h1 m A B C r=>?_⟩;obtain⟨J,M,rfl,x,K,I,rfl,y,z⟩:=C;have g:J=.int .i64 i:=x;have h:K=.int .i64 j:=y;have l:I=[]:=z;subst g h l;have F:c<w.heap.size:=(Oh.1 h1).1;have u:arr.size=xs.length+t.length:=by
  rw[←OS,m];simp only[Oi,Oj]
 have D:Holds (Value.int .i64) w c 0 xs.toArray:=by
  intro j hj;have d:j<xs.length:=by simpa using hj
  constructor
  .rw[cell_of h1,←Ob,m,O3,Oa (by simpa using d),Oq,N6 d];simp only[O2];rw[QX xs.toArray j hj];simp
  .simp[World.frozen?,h1]
 have s:(xs.take i++xs.drop j++List.replicate (j -i) 0).length=xs.length:=by simp;omega
 have b:cap<=9223372036854775807:=by unfold maxLen at B;omega
 refine(AnyG.slices_Delete_int L c 0 cap i j xs w D A b n hj).mono λe w' ⟨G,q,H⟩=>?_;generalize xs.take i++xs.drop j++List.replicate (j -i) 0=ys at*;subst H;refine⟨G,?_,λk o=>?_,?_,rfl⟩
 .show(w.heap.modify c _)[c]?=_;rw[PP,N9 rfl,h1];simp only[O2,onCells,OI,Obj.cells.injEq,and_true];apply PX;apply Px;intro k;rw[Ob];simp only[putCells,RM]
  by_cases hk:k<arr.size
  .rw[Ox hk];simp only[O2];have a:arr.toList[k]?=some arr[k]:=by rw[Ob,Ox hk]
   rw[m]at a;split
   .rename_i p;simp only[Pb]at p;have v:k<ys.length:=by omega
    rw[Oa (by simp;omega)];simp only[Oq];rw[N6 v,QX ys.toArray (k -0) (by simpa using v)];simp
   .rename_i p;simp only[Pb]at p;rw[Ot (by simp;omega)]at a⊢;rw[←a];simp[s]
  .rw[Qc (by omega),ON]
   .rfl
   .simp;omega
 .show(w.heap.modify c _)[k]?=_;rw[PP,N8 (QZ o)]
 .show(w.heap.modify c _).size=_;rw[Qq]
end Go.AX