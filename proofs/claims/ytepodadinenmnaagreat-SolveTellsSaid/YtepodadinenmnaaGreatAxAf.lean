/-
  AX, part Af: append onto a slice that is as long as its room (l[:n:n]).
-/
import Derived.Test.YtepodadinenmnaaGreatAxTb
namespace Go.AX
/-! ### Rules -/
def vW(P:Program)(ops:List Oper)(K:St->Prop)(p:Nat):List Oper->St->Prop
 |[],_=>False
 |o::rest,st=>match mN o with
  | some (t, s, x, d) => s = .tmp p ∧ (match bM P t, look st.t p with
   |some (e,bt),.pv (.seq _ 1 rows)=>e=1∧0<bt∧gc st x∧i9 st 1 (mv st x)∧rowsOf st (mv st x)≠[]∧(rows.length+(rowsOf st (mv st x)).length)*bt<=140737488355328∧
    lj P ops K rest ⟨(d,.own true 1 (rows++rowsOf st (mv st x)))::aG (cX d) st.t,st.h⟩
   |_,_=>False)
  |none=>o.dst≠some p∧eX P ops o (vW P ops K p rest) st
def Eh(P:Program)(ops:List Oper)(K:St->Prop):List Oper->St->Prop
 |[],st=>K st
 |o::rest,st=>match iU o with
  | some (t, x, hi, m, d) => (match bm P t, mv st x with
   |some e,.pv (.seq nw e' rows)=>e'=e∧gc st x∧cP st (some hi)∧cP st (some m)∧aS (mv st m)=aS (mv st hi)∧aS (mv st hi)=rows.length∧vW P ops K d rest (putD (some d) (.pv (.seq nw e' rows)) st)
   |_,_=>False)
  |none=>eX P ops o (Eh P ops K rest) st
section
variable {P : Program} {ops : List Oper} {K : St -> Prop} {st : St} {p : Nat}
@[simp] theorem O0:vW P ops K p [] st=False:=rfl
theorem Ct(o:Oper)(rest:List Oper):vW P ops K p (o::rest) st=match mN o with
 | some (t, s, x, d) => s = .tmp p ∧ (match bM P t, look st.t p with
  |some (e,bt),.pv (.seq _ 1 rows)=>e=1∧0<bt∧gc st x∧i9 st 1 (mv st x)∧rowsOf st (mv st x)≠[]∧(rows.length+(rowsOf st (mv st x)).length)*bt<=140737488355328∧
   lj P ops K rest ⟨(d,.own true 1 (rows++rowsOf st (mv st x)))::aG (cX d) st.t,st.h⟩
  |_,_=>False)
 |none=>o.dst≠some p∧eX P ops o (vW P ops K p rest) st:=rfl
@[simp] theorem O1:Eh P ops K [] st=K st:=rfl
theorem Cu(o:Oper)(rest:List Oper):Eh P ops K (o::rest) st=match iU o with
 | some (t, x, hi, m, d) => (match bm P t, mv st x with
  |some e,.pv (.seq nw e' rows)=>e'=e∧gc st x∧cP st (some hi)∧cP st (some m)∧aS (mv st m)=aS (mv st hi)∧aS (mv st hi)=rows.length∧vW P ops K d rest (putD (some d) (.pv (.seq nw e' rows)) st)
  |_,_=>False)
 |none=>eX P ops o (Eh P ops K rest) st:=rfl
attribute [simp] Ct Cu
end
end Go.AX