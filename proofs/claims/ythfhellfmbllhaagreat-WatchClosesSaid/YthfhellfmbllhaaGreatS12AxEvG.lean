/-
  Maps of numbers, as the library reads them: their keys, sorted; what is deleted.
-/
import Derived.Test.YthfhellfmbllhaaGreatS12AxShelf
import Derived.Test.YthfhellfmbllhaaGreatS12AxCntG
import Derived.Test.YthfhellfmbllhaaGreatAxPt
import Derived.Test.YthfhellfmbllhaaGreatAxDr
namespace Go.AX
open Go.Proofs Go.Maps Go.Shelf
set_option linter.unusedSimpArgs false
def wfI (x:Int):Prop:=(Lit.int .i64 x).wf=true
def kvL (kv:List (Int×Int)):List (Lit×DataW Unit):=kv.map fun q=>(.int .i64 q.1,.lit (.int .i64 q.2))
def kvD (kv:List (Int×Int)):DataW Unit:=.map ((kvL kv).foldr DataW.insert [])
section
variable {P : Program} {k : TypeId} {p : Int → Bool}
end
theorem kvD_keys (kv:List (Int×Int)):(intKeys (kvD kv)).Perm (kv.map (·.1)):=by
 unfold kvD intKeys;refine((WideShapes.sorted_perm (kvL kv)).map _).trans ?_;unfold kvL;rw[List.map_map];exact List.Perm.refl _
theorem kvD_size (kv:List (Int×Int)):Maps.size (kvD kv)=kv.length:=by
 unfold kvD;rw[Maps.size_eq,(WideShapes.sorted_perm (kvL kv)).length_eq];simp[kvL]
theorem keysF_ok:AKeys Tryz.prog 60 111:=
 ⟨by kernel_rfl,Tryz.keysA_ren.t 23,fun mb w=>(callsIn_wide (n:=5)).1 (AnyZI.keys_in Tryz.keysA Fence.wide 5 trivial rfl mb w)⟩
theorem Tryz.sortsA (m:Nat):AnyZI.SortsIn Tryz.prog Tryz.sortedA_ren Fence.wide m:=
  ⟨fun blk off cap ss W hH hblk hsz=>callsIn_wide.2 (AnyM.slices_Sort_int Tryz.sortA blk off cap ss W hH hblk hsz),
   fun p cap W=>callsIn_wide.2 (AnyM.slices_Sort_int_none Tryz.sortA p cap W)⟩
end Go.AX