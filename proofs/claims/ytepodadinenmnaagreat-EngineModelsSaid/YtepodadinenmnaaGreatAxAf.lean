/-
  AX, part Af: append onto a slice that is as long as its room (l[:n:n]).
-/
import Derived.Test.YtepodadinenmnaaGreatAxTb
namespace Go.AX
/-! ### Rules -/
def vp(P:Program)(ops:List Oper)(K:St->Prop)(p:Nat):List Oper->St->Prop
 |[],_=>False
 |o::rest,st=>match lN o with
  | some (t, s, x, d) => s = .tmp p ∧ (match bL P t, look st.t p with
   |some (e,bt),.pv (.seq _ 1 rows)=>e=1∧0<bt∧gc st x∧i9 st 1 (mv st x)∧rowsOf st (mv st x)≠[]∧(rows.length+(rowsOf st (mv st x)).length)*bt<=140737488355328∧
    jO P ops K rest ⟨(d,.own true 1 (rows++rowsOf st (mv st x)))::aF (dg d) st.t,st.h⟩
   |_,_=>False)
  |none=>o.dst≠some p∧eM P ops o (vp P ops K p rest) st
def DC(P:Program)(ops:List Oper)(K:St->Prop):List Oper->St->Prop
 |[],st=>K st
 |o::rest,st=>match gZ o with
  | some (t, x, hi, m, d) => (match bm P t, mv st x with
   |some e,.pv (.seq nw e' rows)=>e'=e∧gc st x∧cW st (some hi)∧cW st (some m)∧aV (mv st m)=aV (mv st hi)∧aV (mv st hi)=rows.length∧vp P ops K d rest (putD (some d) (.pv (.seq nw e' rows)) st)
   |_,_=>False)
  |none=>eM P ops o (DC P ops K rest) st
section
variable {P : Program} {ops : List Oper} {K : St -> Prop} {st : St} {p : Nat}
@[simp] theorem N4:vp P ops K p [] st=False:=rfl
theorem BX(o:Oper)(rest:List Oper):vp P ops K p (o::rest) st=match lN o with
 | some (t, s, x, d) => s = .tmp p ∧ (match bL P t, look st.t p with
  |some (e,bt),.pv (.seq _ 1 rows)=>e=1∧0<bt∧gc st x∧i9 st 1 (mv st x)∧rowsOf st (mv st x)≠[]∧(rows.length+(rowsOf st (mv st x)).length)*bt<=140737488355328∧
   jO P ops K rest ⟨(d,.own true 1 (rows++rowsOf st (mv st x)))::aF (dg d) st.t,st.h⟩
  |_,_=>False)
 |none=>o.dst≠some p∧eM P ops o (vp P ops K p rest) st:=rfl
@[simp] theorem N5:DC P ops K [] st=K st:=rfl
theorem BY(o:Oper)(rest:List Oper):DC P ops K (o::rest) st=match gZ o with
 | some (t, x, hi, m, d) => (match bm P t, mv st x with
  |some e,.pv (.seq nw e' rows)=>e'=e∧gc st x∧cW st (some hi)∧cW st (some m)∧aV (mv st m)=aV (mv st hi)∧aV (mv st hi)=rows.length∧vp P ops K d rest (putD (some d) (.pv (.seq nw e' rows)) st)
  |_,_=>False)
 |none=>eM P ops o (DC P ops K rest) st:=rfl
attribute [simp] BX BY
end
end Go.AX