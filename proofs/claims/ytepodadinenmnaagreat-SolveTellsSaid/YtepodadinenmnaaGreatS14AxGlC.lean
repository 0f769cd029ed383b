/-
  Contracts: what is forgotten, by the program.
-/
import Derived.Test.YtepodadinenmnaaGreatS14AxGlB
import Derived.Test.YtepodadinenmnaaGreatS14AxGlP
import Derived.Test.YtepodadinenmnaaGreatS14AxShelf2
import Derived.Test.YtepodadinenmnaaGreatAxDl
namespace Go.AX
open Go.Proofs Go.Shelf
set_option linter.unusedSimpArgs false
def Sn(x:G3):List Value:=rE (g3 x)
def r3(x:G3):List PV:=lE (g3 x)
theorem LT(x y:G3):aj Tryz.prog 190 [.agg ((Sn x).map PV.lit),.agg ((Sn y).map PV.lit)] (λr=>r=.pv (.lit (.int .i64 (xH x y)))):=LP (g3 x) (g3 y)
set_option maxRecDepth 100000 in
theorem IG(l:List G3)(a:l.length<=1000000):o8 Tryz.prog 189 4 (l.map r3) [.lit (.func (.func 190) #[] #[])] (λk rows=>k=none∧rows=(vQ l).map r3):=by
 have h:=xJ Tryz.sortGr 4 (by decide) (λw=>rfl) (λw=>rfl) Sn (λ_=>rfl) (λx v b=>Eb _ v b) xH 190 l a IC IE (enters_of Tryz.func190 (by kernel_rfl) rfl) (by kernel_rfl) LT;exact o8.asFnO h
theorem vR(l:List Int)(a:l.length<=1000000):o8 Tryz.prog 171 1 (ae l) [] (λk rows=>k=none∧rows=ae (dJ l)):=
 zG Tryz.sortA l a (by kernel_rfl)
end Go.AX