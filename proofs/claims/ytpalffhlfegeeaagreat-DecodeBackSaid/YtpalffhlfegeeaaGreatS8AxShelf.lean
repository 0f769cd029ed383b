/-
  The library's contracts at this program: sort, keys of maps, what is deleted.
-/
import Derived.Shelf.Bits.Mul64
import Derived.Test.YtpalffhlfegeeaaGreatRows
namespace Go.Proofs
open Go.Shelf
def Tryz.mulA_ren : Go.Shelf.Ren := ⟨fun | 212 => 111 | 263 => 129 | 264 => 130 | n => n, fun | 46 => 154 | 51 => 164 | 146 => 165 | 53 => 167 | 148 => 168 | n => n, fun | n => n⟩
theorem Tryz.mulA : Go.Proofs.Lays.n212 Tryz.prog Tryz.mulA_ren := {
  mixed := by kernel_rfl
  f212 := Tryz.func111.trans (congrArg some (by kernel_rfl))
  f263 := Tryz.func129.trans (congrArg some (by kernel_rfl))
  f264 := Tryz.func130.trans (congrArg some (by kernel_rfl))
  t46 := Tryz.underlying154
  a46 := Tryz.isAgg154
  z46 := Tryz.sizeOf154
  v46 := Tryz.zeroValue154
  t51 := Tryz.underlying164
  a51 := Tryz.isAgg164
  z51 := Tryz.sizeOf164
  v51 := Tryz.zeroValue164
  t53 := Tryz.underlying167
  a53 := Tryz.isAgg167
  z53 := Tryz.sizeOf167
  v53 := Tryz.zeroValue167
  t146 := Tryz.underlying165
  a146 := Tryz.isAgg165
  z146 := Tryz.sizeOf165
  v146 := Tryz.zeroValue165
  t148 := Tryz.underlying168
  a148 := Tryz.isAgg168
  z148 := Tryz.sizeOf168
  v148 := Tryz.zeroValue168 }
end Go.Proofs
