/-
  Maps of numbers, as the library reads them: their keys, sorted; what is deleted.
-/
import Derived.Test.YtepodadinenmnaaGreatZ0
import Derived.Test.YtepodadinenmnaaGreatZ4
import Derived.Test.YtepodadinenmnaaGreatZ5
import Derived.Test.YtepodadinenmnaaGreatZ6
set_option linter.unusedSimpArgs false
namespace Go.AX
section
open Go.Proofs Go.Maps Go.Shelf
def xD(x:Int):Prop:=(Lit.int .i64 x).wf=true
def Ru(a:aS):List (Lit×DataW Unit):=a.map λq=>(.int .i64 q.1,.lit (.int .i64 q.2))
def Om(a:aS):DataW Unit:=.map ((Ru a).foldr DataW.insert [])
section
variable {P : aa} {k : ah} {p : Int -> Bool}
end
theorem KG(a:aS):(intKeys (Om a)).Perm (a.map (·.1)):=by
 unfold Om intKeys;refine((WideShapes.sorted_perm (Ru a)).map _).trans ?_;unfold Ru;rw[Wo];exact YX _
theorem KH(a:aS):Maps.size (Om a)=a.length:=by
 unfold Om;rw[Maps.size_eq,(WideShapes.sorted_perm (Ru a)).length_eq];simp[Ru]
theorem KI:P4 Tryz.prog 147 229:=
 ⟨by kernel_rfl,Tryz.keysA_ren.t 23,λmb w=>(callsIn_wide (n:=5)).1 (AnyZI.keys_in Tryz.keysA Fence.wide 5 trivial rfl mb w)⟩
theorem Tryz.sortsA(m:Nat):AnyZI.SortsIn Tryz.prog Tryz.sortedA_ren Fence.wide m:=
  ⟨λblk off cap ss W c a b=>callsIn_wide.2 (AnyM.slices_Sort_int Tryz.sortA blk off cap ss W c a b),
   λp cap W=>callsIn_wide.2 (AnyM.slices_Sort_int_none Tryz.sortA p cap W)⟩
end
end Go.AX
