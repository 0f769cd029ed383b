/-
  Contracts: literals.
-/
import Derived.Test.YthfhellfmbllhaaGreatS12AxEvC
import Derived.Test.YthfhellfmbllhaaGreatAxIs
namespace Go.AX
open Go.Proofs
set_option linter.unusedSimpArgs false
def inS (n m:Int):Bool:=decide (n≠0)&&(decide (-m≤n)&&decide (n≤m))
def okL (n:Int):Bool:=inS n 100000
def absS (n:Int):Int:=if n<0 then-n else n
def litV (n:Int):Int:=if okL n=true then absS n else 0
def litX (n:Int):Int:=if okL n=true then(if n<0 then 2*absS n -1 else 2*absS n -2)else-1
theorem okL_iff (n:Int):okL n=true↔n≠0∧-100000≤n∧n≤100000:=by unfold okL inS;simp
theorem litIn_ok (n m:Int) (h0:0≤m) (h1:m≤100000):APure Tryz.prog 135 [I64 n,I64 m] (fun r=>r=.pv (BL (inS n m))):=by
 refine apure1 hmo Tryz.func135 (by kernel_rfl) rfl rfl (by kernel_rfl) (Nat.le_of_ble_eq_true rfl) ?_;have hw:w64 (-m)=-m:=w64_id (by omega) (by omega);simp[inS,hw]
 try grind
theorem litIs_ok (n:Int):APure Tryz.prog 171 [I64 n] (fun r=>r=.pv (BL (okL n))):=by
 refine apure1 hmo Tryz.func171 (by kernel_rfl) rfl rfl (by kernel_rfl) (Nat.le_of_ble_eq_true rfl) ?_;simp;refine CallK.intro (litIn_ok n 100000 (by omega) (by omega)) (by simp) ?_;simp[okL]
theorem litVar_ok (n:Int):APure Tryz.prog 141 [I64 n] (fun r=>r=.pv (I64 (litV n))):=by
 refine apure1 hmo Tryz.func141 (by kernel_rfl) rfl rfl (by kernel_rfl) (Nat.le_of_ble_eq_true rfl) ?_;simp;refine CallK.intro (litIs_ok n) (by simp) ?_
 by_cases c:okL n=true
 ·obtain⟨h1,h2,h3⟩:=(okL_iff n).1 c;have hw:w64 (-n)=-n:=w64_id (by omega) (by omega);simp[litV,absS,c,hw];split<;>split<;>omega
 ·simp[litV,c]
def litChk (n m:Int):Int:=if m<0∨100000<m then 2 else if inS n m=true then 0 else 10
theorem litCheck_ok (n m:Int):APure Tryz.prog 87 [I64 n,I64 m] (fun r=>r=.pv (I64 (litChk n m))):=by
 refine apure1 hmo Tryz.func87 (by kernel_rfl) rfl rfl (by kernel_rfl) (Nat.le_of_ble_eq_true rfl) ?_
 by_cases c1:m<0
 ·simp[c1,litChk]
 by_cases c2:100000<m
 ·simp[c1,c2,litChk]
 simp[c1,c2,litChk];refine CallK.intro (litIn_ok n m (by omega) (by omega)) (by simp) ?_;cases inS n m<;>simp
theorem refSplit_ok (n:Int):APure Tryz.prog 143 [I64 n] (fun r=>r=.pv (.tup [I64 (litV n),BL (okL n&&decide (0<n))])):=by
 refine apureN [2,3] hmo Tryz.func143 (by kernel_rfl) rfl (fun _ _=>results_tmp2 rfl _ _ _) (by kernel_rfl) (Nat.le_of_ble_eq_true rfl) ?_;have hk:=okL_iff n
 by_cases c1:0<n
 ·by_cases c2:n≤100000
  ·have c:okL n=true:=hk.2 ⟨by omega,by omega,by omega⟩;simp[c1,c2,c,litV,absS];omega
  ·have c:okL n=false:=by rw[Bool.eq_false_iff];intro h;exact c2 (hk.1 h).2.2
   have c3:¬n<0:=by omega
   simp[c1,c2,c,litV,absS,c3]
 ·by_cases c2:n<0
  ·by_cases c3:-100000≤n
   ·have c:okL n=true:=hk.2 ⟨by omega,by omega,by omega⟩;have hw:w64 (-n)=-n:=w64_id (by omega) (by omega);simp[c1,c2,c3,c,litV,absS,hw]
   ·have c:okL n=false:=by rw[Bool.eq_false_iff];intro h;exact c3 (hk.1 h).2.1
    simp[c1,c2,c3,c,litV,absS]
  ·have c:okL n=false:=by rw[Bool.eq_false_iff];intro h;have:=(hk.1 h).1;omega
   simp[c1,c2,c,litV,absS]
theorem refIndex_ok (n:Int):APure Tryz.prog 104 [I64 n] (fun r=>r=.pv (I64 (litX n))):=by
 refine apure1 hmo Tryz.func104 (by kernel_rfl) rfl rfl (by kernel_rfl) (Nat.le_of_ble_eq_true rfl) ?_;simp;refine CallK.intro (refSplit_ok n) (by simp) ?_;have hk:=okL_iff n
 by_cases c:okL n=true
 ·obtain⟨h1,h2,h3⟩:=hk.1 c
  by_cases d:n<0
  ·have e:¬0<n:=by omega
   have hw1:w64 (2*-n)=2*-n:=w64_id (by omega) (by omega);have hw2:w64 (2*-n -1)=2*-n -1:=w64_id (by omega) (by omega);simp[c,d,e,litV,absS,litX,hw1,hw2]
   try omega
  ·have e:0<n:=by omega
   have hw1:w64 (2*n)=2*n:=w64_id (by omega) (by omega);have hw2:w64 (2*n -2)=2*n -2:=w64_id (by omega) (by omega);simp[c,d,e,litV,absS,litX,hw1,hw2]
   try omega
 ·simp[c,litV,litX]
theorem refLitChk_ok (n m:Int):APure Tryz.prog 97 [I64 n,I64 m] (fun r=>r=.pv (I64 (litChk n m))):=by
 refine apure1 hmo Tryz.func97 (by kernel_rfl) rfl rfl (by kernel_rfl) (Nat.le_of_ble_eq_true rfl) ?_
 by_cases c1:m<0
 ·simp[c1,litChk]
 by_cases c2:100000<m
 ·simp[c1,c2,litChk]
 simp[c1,c2,litChk];refine CallK.intro (refSplit_ok n) (by simp) ?_;have hk:=okL_iff n;have hi:inS n m=true↔n≠0∧-m≤n∧n≤m:=by unfold inS;simp
 by_cases c:okL n=true
 ·obtain⟨h1,h2,h3⟩:=hk.1 c;have hv:litV n=absS n:=by unfold litV;rw[if_pos c]
  have ha:absS n=if n<0 then-n else n:=rfl;have ha0:absS n≠0:=by rw[ha];split<;>omega
  by_cases d:inS n m=true
  ·have:=hi.1 d;have e:¬m<absS n:=by rw[ha];split<;>omega
   simp[hv,ha0,d,e]
  ·have:¬(n≠0∧-m≤n∧n≤m):=fun h=>d (hi.2 h);have e:m<absS n:=by rw[ha];split<;>omega
   simp[hv,ha0,d,e]
 ·have hv:litV n=0:=by unfold litV;rw[if_neg c]
  have d:¬inS n m=true:=fun h=>c (hk.2 (by have:=hi.1 h;omega));simp[hv,d]
end Go.AX