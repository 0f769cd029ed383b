/-
  Maps of numbers, as the library reads them: their keys, sorted; what is deleted.
-/
import Derived.Test.YtepodadinenmnaaGreatS14AxShelf2
import Derived.Test.YtepodadinenmnaaGreatS14AxCntG
import Derived.Test.YtepodadinenmnaaGreatAxR
import Derived.Test.YtepodadinenmnaaGreatAxDr
namespace Go.AX
open Go.Proofs Go.Maps Go.Shelf
set_option linter.unusedSimpArgs false
def DB(x:Int):Prop:=(Lit.int .i64 x).wf=true
def OE(a:List (Int×Int)):List (Lit×DataW Unit):=a.map λq=>(.int .i64 q.1,.lit (.int .i64 q.2))
def Lh(a:List (Int×Int)):DataW Unit:=.map ((OE a).foldr DataW.insert [])
section
variable {P : Program} {k : TypeId} {p : Int -> Bool}
end
theorem HJ(a:List (Int×Int)):(intKeys (Lh a)).Perm (a.map (·.1)):=by
 unfold Lh intKeys;refine((WideShapes.sorted_perm (OE a)).map _).trans ?_;unfold OE;rw[TT];exact V7 _
theorem HK(a:List (Int×Int)):Maps.size (Lh a)=a.length:=by
 unfold Lh;rw[Maps.size_eq,(WideShapes.sorted_perm (OE a)).length_eq];simp[OE]
theorem HL:M6 Tryz.prog 147 229:=
 ⟨by kernel_rfl,Tryz.keysA_ren.t 23,λmb w=>(callsIn_wide (n:=5)).1 (AnyZI.keys_in Tryz.keysA Fence.wide 5 trivial rfl mb w)⟩
theorem Tryz.sortsA(m:Nat):AnyZI.SortsIn Tryz.prog Tryz.sortedA_ren Fence.wide m:=
  ⟨λblk off cap ss W c a b=>callsIn_wide.2 (AnyM.slices_Sort_int Tryz.sortA blk off cap ss W c a b),
   λp cap W=>callsIn_wide.2 (AnyM.slices_Sort_int_none Tryz.sortA p cap W)⟩
end Go.AX