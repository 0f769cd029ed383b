/-
  AX, part Af: append onto a slice that is as long as its room (l[:n:n]).
-/
import Derived.Test.YtepodadinenmnaaGreatAxTb
namespace Go.AX
/-! ### Rules -/
def ta(P:Program)(ops:List Oper)(K:St->Prop)(p:Nat):List Oper->St->Prop
 |[],_=>False
 |o::rest,st=>match mq o with
  | some (t, s, x, d) => s = .tmp p ∧ (match bJ P t, look st.t p with
   |some (e,bt),.pv (.seq _ 1 rows)=>e=1∧0<bt∧gc st x∧ii st 1 (mv st x)∧rowsOf st (mv st x)≠[]∧(rows.length+(rowsOf st (mv st x)).length)*bt<=140737488355328∧
    iT P ops K rest ⟨(d,.own true 1 (rows++rowsOf st (mv st x)))::aA (cK d) st.t,st.h⟩
   |_,_=>False)
  |none=>o.dst≠some p∧eq P ops o (ta P ops K p rest) st
def Aw(P:Program)(ops:List Oper)(K:St->Prop):List Oper->St->Prop
 |[],st=>K st
 |o::rest,st=>match iN o with
  | some (t, x, hi, m, d) => (match bj P t, mv st x with
   |some e,.pv (.seq nw e' rows)=>e'=e∧gc st x∧cD st (some hi)∧cD st (some m)∧aP (mv st m)=aP (mv st hi)∧aP (mv st hi)=rows.length∧ta P ops K d rest (putD (some d) (.pv (.seq nw e' rows)) st)
   |_,_=>False)
  |none=>eq P ops o (Aw P ops K rest) st
section
variable {P : Program} {ops : List Oper} {K : St -> Prop} {st : St} {p : Nat}
@[simp] theorem J6:ta P ops K p [] st=False:=rfl
theorem yI(o:Oper)(rest:List Oper):ta P ops K p (o::rest) st=match mq o with
 | some (t, s, x, d) => s = .tmp p ∧ (match bJ P t, look st.t p with
  |some (e,bt),.pv (.seq _ 1 rows)=>e=1∧0<bt∧gc st x∧ii st 1 (mv st x)∧rowsOf st (mv st x)≠[]∧(rows.length+(rowsOf st (mv st x)).length)*bt<=140737488355328∧
   iT P ops K rest ⟨(d,.own true 1 (rows++rowsOf st (mv st x)))::aA (cK d) st.t,st.h⟩
  |_,_=>False)
 |none=>o.dst≠some p∧eq P ops o (ta P ops K p rest) st:=rfl
@[simp] theorem J7:Aw P ops K [] st=K st:=rfl
theorem yJ(o:Oper)(rest:List Oper):Aw P ops K (o::rest) st=match iN o with
 | some (t, x, hi, m, d) => (match bj P t, mv st x with
  |some e,.pv (.seq nw e' rows)=>e'=e∧gc st x∧cD st (some hi)∧cD st (some m)∧aP (mv st m)=aP (mv st hi)∧aP (mv st hi)=rows.length∧ta P ops K d rest (putD (some d) (.pv (.seq nw e' rows)) st)
  |_,_=>False)
 |none=>eq P ops o (Aw P ops K rest) st:=rfl
attribute [simp] yI yJ
end
end Go.AX