/-
  Maps of numbers, as the library reads them: their keys, sorted; what is deleted.
-/
import Derived.Test.YtepodadinenmnaaGreatS14AxShelf2
import Derived.Test.YtepodadinenmnaaGreatS14AxCntG
import Derived.Test.YtepodadinenmnaaGreatAxR
import Derived.Test.YtepodadinenmnaaGreatAxDr
namespace Go.AX
open Go.Proofs Go.Maps Go.Shelf
set_option linter.unusedSimpArgs false
def GZ(x:Int):Prop:=(Lit.int .i64 x).wf=true
def OI(a:List (Int×Int)):List (Lit×DataW Unit):=a.map λq=>(.int .i64 q.1,.lit (.int .i64 q.2))
def Lp(a:List (Int×Int)):DataW Unit:=.map ((OI a).foldr DataW.insert [])
section
variable {P : Program} {k : TypeId} {p : Int -> Bool}
end
theorem Ic(a:List (Int×Int)):(intKeys (Lp a)).Perm (a.map (·.1)):=by
 unfold Lp intKeys;refine((WideShapes.sorted_perm (OI a)).map _).trans ?_;unfold OI;rw[TX];exact VS _
theorem Id(a:List (Int×Int)):Maps.size (Lp a)=a.length:=by
 unfold Lp;rw[Maps.size_eq,(WideShapes.sorted_perm (OI a)).length_eq];simp[OI]
theorem Ie:Nb Tryz.prog 147 229:=
 ⟨by kernel_rfl,Tryz.keysA_ren.t 23,λmb w=>(callsIn_wide (n:=5)).1 (AnyZI.keys_in Tryz.keysA Fence.wide 5 trivial rfl mb w)⟩
theorem Tryz.sortsA(m:Nat):AnyZI.SortsIn Tryz.prog Tryz.sortedA_ren Fence.wide m:=
  ⟨λblk off cap ss W c a b=>callsIn_wide.2 (AnyM.slices_Sort_int Tryz.sortA blk off cap ss W c a b),
   λp cap W=>callsIn_wide.2 (AnyM.slices_Sort_int_none Tryz.sortA p cap W)⟩
end Go.AX