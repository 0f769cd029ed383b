/-
  Contracts: what is forgotten, by the program.
-/
import Derived.Test.YtepodadinenmnaaGreatZq
set_option linter.unusedSimpArgs false
namespace Go.AX
section
open Go.Proofs Go.Proofs.Tryz Go.Shelf
def U6(x:G3):aG:=tN (g3 x)
def r3(x:G3):aD:=mT (g3 x)
theorem OL(x y:G3):aw prog 190 [.agg ((U6 x).map PV.lit),.agg ((U6 y).map PV.lit)] (λr=>r=.pv (.lit (.int .i64 (zR x y)))):=OI (g3 x) (g3 y)
set_option maxRecDepth 100000 in
theorem K7(l:List G3)(a:l.length<=1000000):qP prog 189 4 (l.map r3) [.lit (.func (.func 190) #[] #[])] (λk rows=>k=none∧rows=(xR l).map r3):=by
 have h:=zT Tryz.sortGr 4 (by decide) (λw=>rfl) (λw=>rfl) U6 (λ_=>rfl) (λx v b=>GB _ v b) zR 190 l a K4 K5 (enters_of func190 (by kernel_rfl) rfl) (by kernel_rfl) OL;exact qP.asFnO h
theorem xS(l:af)(a:l.length<=1000000):qP prog 171 1 (am l) [] (λk rows=>k=none∧rows=am (eJ l)):=
 BF Tryz.sortA l a (by kernel_rfl)
end
end Go.AX
