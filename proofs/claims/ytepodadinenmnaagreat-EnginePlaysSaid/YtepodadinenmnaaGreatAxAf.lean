/-
  AX, part Af: append onto a slice that is as long as its room (l[:n:n]).
-/
import Derived.Test.YtepodadinenmnaaGreatAxTb
namespace Go.AX
/-! ### Rules -/
def vl(P:Program)(ops:List Oper)(K:St->Prop)(p:Nat):List Oper->St->Prop
 |[],_=>False
 |o::rest,st=>match lL o with
  | some (t, s, x, d) => s = .tmp p ∧ (match bL P t, look st.t p with
   |some (e,bt),.pv (.seq _ 1 rows)=>e=1∧0<bt∧gc st x∧iY st 1 (mv st x)∧rowsOf st (mv st x)≠[]∧(rows.length+(rowsOf st (mv st x)).length)*bt<=140737488355328∧
    jL P ops K rest ⟨(d,.own true 1 (rows++rowsOf st (mv st x)))::aF (db d) st.t,st.h⟩
   |_,_=>False)
  |none=>o.dst≠some p∧eJ P ops o (vl P ops K p rest) st
def Dt(P:Program)(ops:List Oper)(K:St->Prop):List Oper->St->Prop
 |[],st=>K st
 |o::rest,st=>match gY o with
  | some (t, x, hi, m, d) => (match bm P t, mv st x with
   |some e,.pv (.seq nw e' rows)=>e'=e∧gc st x∧cT st (some hi)∧cT st (some m)∧aV (mv st m)=aV (mv st hi)∧aV (mv st hi)=rows.length∧vl P ops K d rest (putD (some d) (.pv (.seq nw e' rows)) st)
   |_,_=>False)
  |none=>eJ P ops o (Dt P ops K rest) st
section
variable {P : Program} {ops : List Oper} {K : St -> Prop} {st : St} {p : Nat}
@[simp] theorem NT:vl P ops K p [] st=False:=rfl
theorem BM(o:Oper)(rest:List Oper):vl P ops K p (o::rest) st=match lL o with
 | some (t, s, x, d) => s = .tmp p ∧ (match bL P t, look st.t p with
  |some (e,bt),.pv (.seq _ 1 rows)=>e=1∧0<bt∧gc st x∧iY st 1 (mv st x)∧rowsOf st (mv st x)≠[]∧(rows.length+(rowsOf st (mv st x)).length)*bt<=140737488355328∧
   jL P ops K rest ⟨(d,.own true 1 (rows++rowsOf st (mv st x)))::aF (db d) st.t,st.h⟩
  |_,_=>False)
 |none=>o.dst≠some p∧eJ P ops o (vl P ops K p rest) st:=rfl
@[simp] theorem NU:Dt P ops K [] st=K st:=rfl
theorem BN(o:Oper)(rest:List Oper):Dt P ops K (o::rest) st=match gY o with
 | some (t, x, hi, m, d) => (match bm P t, mv st x with
  |some e,.pv (.seq nw e' rows)=>e'=e∧gc st x∧cT st (some hi)∧cT st (some m)∧aV (mv st m)=aV (mv st hi)∧aV (mv st hi)=rows.length∧vl P ops K d rest (putD (some d) (.pv (.seq nw e' rows)) st)
  |_,_=>False)
 |none=>eJ P ops o (Dt P ops K rest) st:=rfl
attribute [simp] BM BN
end
end Go.AX