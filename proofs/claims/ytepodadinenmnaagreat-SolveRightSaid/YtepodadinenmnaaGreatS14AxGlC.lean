/-
  Contracts: what is forgotten, by the program.
-/
import Derived.Test.YtepodadinenmnaaGreatS14AxGlB
import Derived.Test.YtepodadinenmnaaGreatS14AxGlP
import Derived.Test.YtepodadinenmnaaGreatS14AxShelf2
import Derived.Test.YtepodadinenmnaaGreatAxDl
namespace Go.AX
open Go.Proofs Go.Shelf
set_option linter.unusedSimpArgs false
def Sc(x:G3):List Value:=rL (g3 x)
def r3(x:G3):List PV:=lE (g3 x)
theorem LC(x y:G3):ak Tryz.prog 190 [.agg ((Sc x).map PV.lit),.agg ((Sc y).map PV.lit)] (λr=>r=.pv (.lit (.int .i64 (xG x y)))):=Lz (g3 x) (g3 y)
set_option maxRecDepth 100000 in
theorem Ik(l:List G3)(a:l.length<=1000000):qv Tryz.prog 189 4 (l.map r3) [.lit (.func (.func 190) #[] #[])] (λk rows=>k=none∧rows=(vP l).map r3):=by
 have h:=xI Tryz.sortGr 4 (by decide) (λw=>rfl) (λw=>rfl) Sc (λ_=>rfl) (λx v b=>DV _ v b) xG 190 l a Ih Ii (enters_of Tryz.func190 (by kernel_rfl) rfl) (by kernel_rfl) LC;exact qv.asFnO h
theorem vQ(l:List Int)(a:l.length<=1000000):qv Tryz.prog 171 1 (ae l) [] (λk rows=>k=none∧rows=ae (dJ l)):=
 zx Tryz.sortA l a (by kernel_rfl)
end Go.AX