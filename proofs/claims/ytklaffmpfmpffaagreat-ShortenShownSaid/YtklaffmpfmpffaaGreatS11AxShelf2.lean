/-
  The library's contracts at this program: sort, keys of maps, what is deleted.
-/
import Derived.Shelf.Spec.SlicesInsert
import Derived.Shelf.SlicesG.Delete
import Derived.Test.YtklaffmpfmpffaaGreatRows
namespace Go.Proofs
open Go.Shelf
def Tryz.insA_ren : Go.Shelf.Ren := ⟨fun | 21 => 147 | 27 => 191 | 28 => 192 | 35 => 227 | 39 => 251 | n => n, fun | 22 => 28 | 3 => 3 | 4 => 4 | 0 => 0 | n => n, fun | n => n⟩
theorem Tryz.insA : Go.Proofs.Lays2.n21 Tryz.prog Tryz.insA_ren := {
  mixed := by kernel_rfl
  f21 := Tryz.func147.trans (congrArg some (by kernel_rfl))
  f27 := Tryz.func191.trans (congrArg some (by kernel_rfl))
  f28 := Tryz.func192.trans (congrArg some (by kernel_rfl))
  f35 := Tryz.func227.trans (congrArg some (by kernel_rfl))
  f39 := Tryz.func251.trans (congrArg some (by kernel_rfl))
  t0 := Tryz.underlying0
  a0 := Tryz.isAgg0
  z0 := Tryz.sizeOf0
  v0 := Tryz.zeroValue0
  t3 := Tryz.underlying3
  a3 := Tryz.isAgg3
  z3 := Tryz.sizeOf3
  v3 := Tryz.zeroValue3
  t4 := Tryz.underlying4
  a4 := Tryz.isAgg4
  z4 := Tryz.sizeOf4
  v4 := Tryz.zeroValue4
  t22 := Tryz.underlying28
  a22 := Tryz.isAgg28
  z22 := Tryz.sizeOf28
  v22 := Tryz.zeroValue28
  i3 := by kernel_rfl }
def Tryz.dlaA_ren : Go.Shelf.Ren := ⟨fun | 45 => 148 | n => n, fun | 22 => 28 | 23 => 3 | 3 => 3 | 4 => 4 | 0 => 0 | n => n, fun | n => n⟩
theorem Tryz.dlaA : Go.Proofs.SlLaysN.n45 Tryz.prog Tryz.dlaA_ren := {
  mixed := by kernel_rfl
  f45 := ⟨Tryz.f148.name, by decide, Tryz.func148.trans (congrArg some (by kernel_rfl))⟩
  t0 := Tryz.underlying0
  a0 := Tryz.isAgg0
  z0 := Tryz.sizeOf0
  v0 := Tryz.zeroValue0
  t3 := Tryz.underlying3
  a3 := Tryz.isAgg3
  z3 := Tryz.sizeOf3
  v3 := Tryz.zeroValue3
  t4 := Tryz.underlying4
  a4 := Tryz.isAgg4
  z4 := Tryz.sizeOf4
  v4 := Tryz.zeroValue4
  t22 := Tryz.underlying28
  a22 := Tryz.isAgg28
  z22 := Tryz.sizeOf28
  v22 := Tryz.zeroValue28
  t23 := Tryz.underlying3
  a23 := Tryz.isAgg3
  z23 := Tryz.sizeOf3
  v23 := Tryz.zeroValue3
  i23 := by kernel_rfl }
end Go.Proofs
