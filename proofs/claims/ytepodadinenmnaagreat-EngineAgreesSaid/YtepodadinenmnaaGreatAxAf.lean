/-
  AX, part Af: append onto a slice that is as long as its room (l[:n:n]).
-/
import Derived.Test.YtepodadinenmnaaGreatAxTb
namespace Go.AX
/-! ### Rules -/
def sX(P:Program)(ops:List Oper)(K:St→Prop)(p:Nat):List Oper→St→Prop
 |[],_=>False
 |o::rest,st=>match ma o with
  | some (t, s, x, d) => s = .tmp p ∧ (match bG P t, look st.t p with
   |some (e,bt),.pv (.seq _ 1 rows)=>e=1∧0<bt∧gc st x∧ia st 1 (mv st x)∧rowsOf st (mv st x)≠[]∧(rows.length+(rowsOf st (mv st x)).length)*bt≤140737488355328∧
    iM P ops K rest ⟨(d,.own true 1 (rows++rowsOf st (mv st x)))::aA (cN d) st.t,st.h⟩
   |_,_=>False)
  |none=>o.dst≠some p∧eq P ops o (sX P ops K p rest) st
def Ak(P:Program)(ops:List Oper)(K:St→Prop):List Oper→St→Prop
 |[],st=>K st
 |o::rest,st=>match iI o with
  | some (t, x, hi, m, d) => (match bg P t, mv st x with
   |some e,.pv (.seq nw e' rows)=>e'=e∧gc st x∧cH st (some hi)∧cH st (some m)∧aQ (mv st m)=aQ (mv st hi)∧aQ (mv st hi)=rows.length∧sX P ops K d rest (putD (some d) (.pv (.seq nw e' rows)) st)
   |_,_=>False)
  |none=>eq P ops o (Ak P ops K rest) st
section
variable {P : Program} {ops : List Oper} {K : St → Prop} {st : St} {p : Nat}
@[simp] theorem Jx:sX P ops K p [] st=False:=rfl
theorem yB(o:Oper)(rest:List Oper):sX P ops K p (o::rest) st=match ma o with
 | some (t, s, x, d) => s = .tmp p ∧ (match bG P t, look st.t p with
  |some (e,bt),.pv (.seq _ 1 rows)=>e=1∧0<bt∧gc st x∧ia st 1 (mv st x)∧rowsOf st (mv st x)≠[]∧(rows.length+(rowsOf st (mv st x)).length)*bt≤140737488355328∧
   iM P ops K rest ⟨(d,.own true 1 (rows++rowsOf st (mv st x)))::aA (cN d) st.t,st.h⟩
  |_,_=>False)
 |none=>o.dst≠some p∧eq P ops o (sX P ops K p rest) st:=rfl
@[simp] theorem Jy:Ak P ops K [] st=K st:=rfl
theorem yC(o:Oper)(rest:List Oper):Ak P ops K (o::rest) st=match iI o with
 | some (t, x, hi, m, d) => (match bg P t, mv st x with
  |some e,.pv (.seq nw e' rows)=>e'=e∧gc st x∧cH st (some hi)∧cH st (some m)∧aQ (mv st m)=aQ (mv st hi)∧aQ (mv st hi)=rows.length∧sX P ops K d rest (putD (some d) (.pv (.seq nw e' rows)) st)
  |_,_=>False)
 |none=>eq P ops o (Ak P ops K rest) st:=rfl
attribute [simp] yB yC
end
end Go.AX