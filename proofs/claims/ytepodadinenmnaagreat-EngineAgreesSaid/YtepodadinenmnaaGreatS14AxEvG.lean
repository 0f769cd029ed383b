/-
  Maps of numbers, as the library reads them: their keys, sorted; what is deleted.
-/
import Derived.Test.YtepodadinenmnaaGreatS14AxShelf2
import Derived.Test.YtepodadinenmnaaGreatS14AxCntG
import Derived.Test.YtepodadinenmnaaGreatAxR
import Derived.Test.YtepodadinenmnaaGreatAxDr
namespace Go.AX
open Go.Proofs Go.Maps Go.Shelf
set_option linter.unusedSimpArgs false
def Cv(x:Int):Prop:=(Lit.int .i64 x).wf=true
def Jg(kv:List (Int×Int)):List (Lit×DataW Unit):=kv.map fun q=>(.int .i64 q.1,.lit (.int .i64 q.2))
def Gm(kv:List (Int×Int)):DataW Unit:=.map ((Jg kv).foldr DataW.insert [])
section
variable {P : Program} {k : TypeId} {p : Int → Bool}
end
theorem Dp(kv:List (Int×Int)):(intKeys (Gm kv)).Perm (kv.map (·.1)):=by
 unfold Gm intKeys;refine((WideShapes.sorted_perm (Jg kv)).map _).trans ?_;unfold Jg;rw[List.map_map];exact List.Perm.refl _
theorem Dq(kv:List (Int×Int)):Maps.size (Gm kv)=kv.length:=by
 unfold Gm;rw[Maps.size_eq,(WideShapes.sorted_perm (Jg kv)).length_eq];simp[Jg]
theorem Dr:HA Tryz.prog 147 229:=
 ⟨by kernel_rfl,Tryz.keysA_ren.t 23,fun mb w=>(callsIn_wide (n:=5)).1 (AnyZI.keys_in Tryz.keysA Fence.wide 5 trivial rfl mb w)⟩
theorem Tryz.sortsA(m:Nat):AnyZI.SortsIn Tryz.prog Tryz.sortedA_ren Fence.wide m:=
  ⟨fun blk off cap ss W hH hblk hsz=>callsIn_wide.2 (AnyM.slices_Sort_int Tryz.sortA blk off cap ss W hH hblk hsz),
   fun p cap W=>callsIn_wide.2 (AnyM.slices_Sort_int_none Tryz.sortA p cap W)⟩
end Go.AX