/-
  AX, part SM: slices.Sort of numbers, from the library's contract: a slice of numbers is put in order in place.
  AX, part DL: slices.Delete of numbers, from the library's contract: in place.
-/
import Derived.Test.YtepodadinenmnaaGreatAxAg
import Derived.Shelf.SortM.Plain
import Derived.Shelf.SortM.SortNone
import Derived.Test.YtepodadinenmnaaGreatAxIs
import Derived.Shelf.SlicesG.Delete
namespace Go.AX
open Go.Proofs Go.Shelf Go.Sort
theorem zb{P:Program}{ρ:Ren}(L:SlLaysM.n5 P ρ)(xs:List Int)(M:xs.length<=1000000)(H:aG P (ρ.f 5)=true):
 wx P (ρ.f 5) 1 (aD xs) [] (λk rows=>k=none∧rows=aD (xs.mergeSort λx y=>decide (x<=y))):=by
 refine⟨H,λJ w c cap arr T pre vs v z h1 b o C D E s=>?_,λi w p cap z h1=>?_⟩
 .have t:=bT D;subst t;have r:z=[]:=E;subst r;have h:(aD xs).length=xs.length:=by unfold aD;simp
  rw[h]at o C⊢;have d:c<w.heap.size:=(RV.1 h1).1;have A:arr.size=pre.length+xs.length+v.length:=by
   rw[←Sy,b];simp only[RP,RR]
  have F:Holds (Value.int .i64) w c pre.length xs.toArray:=by
   intro j hj;have g:j<xs.length:=by simpa using hj
   constructor
   .rw[cell_of h1,←RM,b,Si,R5 (by omega),Ud,RL (by simpa using g),R3,RF g];simp only[SH];rw[UN xs.toArray j hj];simp
   .simp[World.frozen?,h1]
  refine(AnyM.slices_Sort_int L c pre.length cap xs w F d (by omega)).mono λe w' ⟨i,n,u,K⟩=>?_;subst K;refine⟨none,aD (xs.mergeSort λx y=>decide (x<=y)),(xs.mergeSort λx y=>decide (x<=y)).map (Value.int .i64),⟨rfl,rfl⟩,by unfold aD;simp,λm I=>(by cases I),i,rfl,?_,λk hk q=>?_,⟨T,?_⟩,λG _=>dX G _⟩
  .show w.heap.size<=(w.heap.modify c _++u).size;rw[Vt,Uk];omega
  .show(w.heap.modify c _++u)[k]?=_;rw[UC (by rw[Uk];exact hk),TE,RH (UU q)]
  .show(w.heap.modify c _++u)[c]?=_;rw[UC (by rw[Uk];exact d),TE,RI rfl,h1];simp only[SH,onCells,Sr,Obj.cells.injEq,and_true];apply TO;apply Tl;intro k;rw[RM];simp only[putCells,VA]
   by_cases hk:k<arr.size
   .rw[R1 hk];simp only[SH];have a:arr.toList[k]?=some arr[k]:=by rw[RM,R1 hk]
    rw[b,Si]at a;rw[Si];split
    .rename_i l;simp only[SP,Tj]at l;rw[R5 l.1,RL (by simp;omega)];simp only[R3];have B:k -pre.length<(xs.mergeSort λx y=>decide (x<=y)).length:=by rw[Tj];omega
     rw[RF B,UN (xs.mergeSort λx y=>decide (x<=y)).toArray (k -pre.length) (by simpa using B)];simp
    .rename_i l;simp only[SP,Tj]at l
     by_cases hp:k<pre.length
     .rw[RL hp]at a⊢;exact a.symm
     .rw[R5 (by omega),R5 (by simp;omega)]at a⊢;rw[←a];simp
   .rw[T4 (by omega),SB]
    .rfl
    .simp;omega
 .have hz:xs=[]:=by
   cases xs with
   |nil=>rfl
   |cons _ _=>unfold aD at i;simp at i
  subst hz;have r:z=[]:=h1;subst r;refine(AnyM.slices_Sort_int_none (P:=P) (ρ:=ρ) L p cap w).mono λe w' ⟨b,o⟩=>?_;subst o;exact⟨none,⟨rfl,by simp[aD]⟩,.inl rfl,b,rfl,RJ _,λ_ _=>rfl⟩
end Go.AX
namespace Go.AX
open Go.Proofs Go.Shelf Go.Sort
theorem zj{P:Program}{ρ:Ren}(L:SlLaysN.n45 P ρ)(xs:List Int)(i j:Nat)(n:i<=j)(hj:j<=xs.length)(E:aG P (ρ.f 45)=true):
 Rv P (ρ.f 45) xs xs.length [.lit (.int .i64 i),.lit (.int .i64 j)] (xs.take i++xs.drop j++List.replicate (j -i) 0) (xs.length -(j -i)):=by
 refine⟨E,λw c cap arr T t N h1 m A B C r=>?_⟩;obtain⟨J,M,rfl,x,K,I,rfl,y,z⟩:=C;have g:J=.int .i64 i:=x;have h:K=.int .i64 j:=y;have l:I=[]:=z;subst g h l;have F:c<w.heap.size:=(RV.1 h1).1;have u:arr.size=xs.length+t.length:=by
  rw[←Sy,m];simp only[RP,RR]
 have D:Holds (Value.int .i64) w c 0 xs.toArray:=by
  intro j hj;have d:j<xs.length:=by simpa using hj
  constructor
  .rw[cell_of h1,←RM,m,SF,RL (by simpa using d),R3,RF d];simp only[SH];rw[UN xs.toArray j hj];simp
  .simp[World.frozen?,h1]
 have s:(xs.take i++xs.drop j++List.replicate (j -i) 0).length=xs.length:=by simp;omega
 have b:cap<=9223372036854775807:=by unfold maxLen at B;omega
 refine(AnyG.slices_Delete_int L c 0 cap i j xs w D A b n hj).mono λe w' ⟨G,q,H⟩=>?_;generalize xs.take i++xs.drop j++List.replicate (j -i) 0=ys at*;subst H;refine⟨G,?_,λk o=>?_,?_,rfl⟩
 .show(w.heap.modify c _)[c]?=_;rw[TE,RI rfl,h1];simp only[SH,onCells,Sr,Obj.cells.injEq,and_true];apply TO;apply Tl;intro k;rw[RM];simp only[putCells,VA]
  by_cases hk:k<arr.size
  .rw[R1 hk];simp only[SH];have a:arr.toList[k]?=some arr[k]:=by rw[RM,R1 hk]
   rw[m]at a;split
   .rename_i p;simp only[SP]at p;have v:k<ys.length:=by omega
    rw[RL (by simp;omega)];simp only[R3];rw[RF v,UN ys.toArray (k -0) (by simpa using v)];simp
   .rename_i p;simp only[SP]at p;rw[R5 (by simp;omega)]at a⊢;rw[←a];simp[s]
  .rw[T4 (by omega),SB]
   .rfl
   .simp;omega
 .show(w.heap.modify c _)[k]?=_;rw[TE,RH (UU o)]
 .show(w.heap.modify c _).size=_;rw[Uk]
end Go.AX