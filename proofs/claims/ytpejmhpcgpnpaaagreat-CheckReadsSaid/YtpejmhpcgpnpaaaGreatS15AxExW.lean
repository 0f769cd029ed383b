/-
  EX at a seat: the probe of law40 is true.
-/
import Derived.Test.YtpejmhpcgpnpaaaGreatS15AxExS
import Derived.Test.YtpejmhpcgpnpaaaGreatS15AxCntL
import Derived.Test.YtpejmhpcgpnpaaaGreatAxExP
namespace Go.EX
open Go.AX Go.Proofs
noncomputable def kn1 : Kn := knS 241 [407, 443] 3
def tx0 : CV := .s [111, 98, 106, 101, 99, 116, 32, 49, 32, 49, 32, 48, 32, 49, 10, 114, 111, 119, 32, 48, 32, 48, 32, 48, 32, 55, 10, 99, 97, 108, 108, 32, 49, 32, 48, 10, 114, 101, 116, 32, 49, 32, 55, 10]
def tx1 : CV := .s [111, 98, 106, 101, 99, 116, 32, 49, 32, 49, 32, 48, 32, 49, 10, 114, 111, 119, 32, 48, 32, 48, 32, 48, 32, 55, 10, 99, 97, 108, 108, 32, 49, 32, 48, 10, 114, 101, 116, 32, 49, 32, 54, 10]
theorem kn1_ok : KnOk Tryz.prog kn1 := knS_ok fun kf h => by
 rcases List.mem_cons.1 h with rfl | h
 ·exact keysXA
 ·rcases List.mem_cons.1 h with rfl | h
  ·exact keysXB
  ·cases h
def rAV : CV := .a [.i .i64 (.ofNat 1), .i .i64 (.ofNat 1), .i .i64 (.ofNat 0), .su Ps.e.z.o.z.z.z.z 0 1 4, .su Ps.e.o.o.z.o.z.o 0 2 3, .su Ps.e.o.o.o.o.o.o 0 1 5, .i .i64 (.ofNat 4), .su Ps.e.z.z.o.o.z.o.o.z 0 6 1, .i .i64 (.ofNat 0), .i .i64 (.ofNat 0), .b false]
def rAB : List Ps := [Ps.e.z.o.z.z.z.z, Ps.e.o.o.z.o.z.o, Ps.e.o.o.o.o.o.o, Ps.e.z.z.o.z.z.z.z.z, Ps.e.z.z.o.z.z.o.z.z, Ps.e.z.z.o.z.o.z.z.z, Ps.e.z.z.o.z.o.o.z.z, Ps.e.z.z.o.o.z.z.z.z, Ps.e.z.z.o.o.z.o.z.z, Ps.e.z.z.o.o.z.o.o.z]
def rAL : List (Ps × CB) := [(Ps.e.z.o.z.z.z.z, .c 209 [.i .i64 (.ofNat 0), .i .i64 (.ofNat 0), .i .i64 (.ofNat 0), .i .i64 (.ofNat 7)]), (Ps.e.o.o.z.o.z.o, .c 117 [.i .i64 (.ofNat 1), .i .i64 (.ofNat 1), .i .i64 (.ofNat 0), .i .i64 (.ofNat 2), .i .i64 (.ofNat 1), .i .i64 (.ofNat 7)]), (Ps.e.o.o.o.o.o.o, .c 96 [.i .i64 (.ofNat 1), .i .i64 (.ofNat 0), .i .i64 (.ofNat 0), .i .i64 (.ofNat 1), .i .i64 (.ofNat 7)]), (Ps.e.z.z.o.z.z.z.z.z, .c 3 [.i .i64 (.ofNat 1)]), (Ps.e.z.z.o.z.z.o.z.z, .c 3 [.i .i64 (.ofNat 3)]), (Ps.e.z.z.o.z.o.z.z.z, .c 3 [.i .i64 (.ofNat 3)]), (Ps.e.z.z.o.z.o.o.z.z, .c 3 [.i .i64 (.ofNat 4)]), (Ps.e.z.z.o.o.z.z.z.z, .c 3 [.i .i64 (.ofNat 2)]), (Ps.e.z.z.o.o.z.o.z.z, .c 3 [.i .i64 (.negSucc 0), .i .i64 (.negSucc 1), .i .i64 (.negSucc 2), .i .i64 (.ofNat 4)]), (Ps.e.z.z.o.o.z.o.o.z, .c 92 [.su Ps.e.z.z.o.z.z.z.z.z 0 1 1, .su Ps.e.z.z.o.z.z.o.z.z 0 1 1, .su Ps.e.z.z.o.z.o.z.z.z 0 1 1, .su Ps.e.z.z.o.z.o.o.z.z 0 1 1, .su Ps.e.z.z.o.o.z.z.z.z 0 1 1, .su Ps.e.z.z.o.o.z.o.z.z 0 4 1])]
theorem rA_ok : fact Tryz.prog kn1 100000 60 23 [tx0] rAB = some (rAV, rAL) := by kernel_rfl
def rBV : CV := .a [.i .i64 (.ofNat 1), .i .i64 (.ofNat 1), .i .i64 (.ofNat 0), .su Ps.e.z.o.z.z.z.z 0 1 4, .su Ps.e.o.o.z.o.z.o 0 2 3, .su Ps.e.o.o.o.o.o.o 0 1 5, .i .i64 (.ofNat 4), .su Ps.e.z.z.o.o.z.z.z.z 0 6 1, .i .i64 (.ofNat 0), .i .i64 (.ofNat 0), .b false]
def rBB : List Ps := [Ps.e.z.o.z.z.z.z, Ps.e.o.o.z.o.z.o, Ps.e.o.o.o.o.o.o, Ps.e.z.z.z.o.o.z.o.z, Ps.e.z.z.z.o.o.o.o.z, Ps.e.z.z.o.z.z.z.o.z, Ps.e.z.z.o.z.z.o.o.z, Ps.e.z.z.o.z.o.z.o.z, Ps.e.z.z.o.z.o.o.o.z, Ps.e.z.z.o.o.z.z.z.z]
def rBL : List (Ps × CB) := [(Ps.e.z.o.z.z.z.z, .c 209 [.i .i64 (.ofNat 0), .i .i64 (.ofNat 0), .i .i64 (.ofNat 0), .i .i64 (.ofNat 7)]), (Ps.e.o.o.z.o.z.o, .c 117 [.i .i64 (.ofNat 1), .i .i64 (.ofNat 1), .i .i64 (.ofNat 0), .i .i64 (.ofNat 2), .i .i64 (.ofNat 1), .i .i64 (.ofNat 6)]), (Ps.e.o.o.o.o.o.o, .c 96 [.i .i64 (.ofNat 1), .i .i64 (.ofNat 0), .i .i64 (.ofNat 0), .i .i64 (.ofNat 1), .i .i64 (.ofNat 6)]), (Ps.e.z.z.z.o.o.z.o.z, .c 3 [.i .i64 (.ofNat 1)]), (Ps.e.z.z.z.o.o.o.o.z, .c 3 [.i .i64 (.ofNat 3)]), (Ps.e.z.z.o.z.z.z.o.z, .c 3 [.i .i64 (.ofNat 3)]), (Ps.e.z.z.o.z.z.o.o.z, .c 3 [.i .i64 (.ofNat 4)]), (Ps.e.z.z.o.z.o.z.o.z, .c 3 [.i .i64 (.ofNat 2)]), (Ps.e.z.z.o.z.o.o.o.z, .c 3 [.i .i64 (.negSucc 0), .i .i64 (.negSucc 1), .i .i64 (.negSucc 2)]), (Ps.e.z.z.o.o.z.z.z.z, .c 92 [.su Ps.e.z.z.z.o.o.z.o.z 0 1 1, .su Ps.e.z.z.z.o.o.o.o.z 0 1 1, .su Ps.e.z.z.o.z.z.z.o.z 0 1 1, .su Ps.e.z.z.o.z.z.o.o.z 0 1 1, .su Ps.e.z.z.o.z.o.z.o.z 0 1 1, .su Ps.e.z.z.o.z.o.o.o.z 0 3 1])]
theorem rB_ok : fact Tryz.prog kn1 100000 60 23 [tx1] rBB = some (rBV, rBL) := by kernel_rfl
noncomputable def kn2 : Kn := knO (knF 23 [tx0] rAV rAL) (knO (knF 23 [tx1] rBV rBL) kn1)
theorem kn2_ok : KnOk Tryz.prog kn2 := knO_ok (knF_ok (by kernel_rfl) (fact_ok kn1_ok hmo rA_ok)) (knO_ok (knF_ok (by kernel_rfl) (fact_ok kn1_ok hmo rB_ok)) kn1_ok)
def cAV : CV := .a [.i .i64 (.ofNat 4), .i .i64 (.ofNat 0), .i .i64 (.ofNat 0), .su Ps.e.o.z.o.o.o.z.z.z 0 1 2, .k .s]
def cAB : List Ps := [Ps.e.o.z.o.o.o.z.z.z]
def cAL : List (Ps × CB) := [(Ps.e.o.z.o.o.o.z.z.z, .c 59 [.i .i64 (.ofNat 0), .i .i64 (.ofNat 7)])]
theorem cA_ok : fact Tryz.prog kn2 100000 60 10 [tx0, .i .i64 (.ofNat 100)] cAB = some (cAV, cAL) := by kernel_rfl
def cBV : CV := .a [.i .i64 (.ofNat 5), .i .i64 (.ofNat 0), .i .i64 (.ofNat 0), .k .s, .su Ps.e.o.o.o.o.o.z.o 0 1 4]
def cBB : List Ps := [Ps.e.z.z.z.z.z.z.z.z, Ps.e.o.o.o.o.o.z.o]
def cBL : List (Ps × CB) := [(Ps.e.z.z.z.z.z.z.z.z, .c 3 [.i .i64 (.ofNat 1), .i .i64 (.ofNat 2), .i .i64 (.ofNat 5), .i .i64 (.ofNat 6)]), (Ps.e.o.o.o.o.o.z.o, .c 143 [.i .i64 (.ofNat 1), .i .i64 (.ofNat 7), .k .s, .su Ps.e.z.z.z.z.z.z.z.z 0 4 1])]
theorem cB_ok : fact Tryz.prog kn2 100000 60 10 [tx1, .i .i64 (.ofNat 100)] cBB = some (cBV, cBL) := by kernel_rfl
noncomputable def kn3 : Kn := knO (knF 10 [tx0, .i .i64 (.ofNat 100)] cAV cAL) (knO (knF 10 [tx1, .i .i64 (.ofNat 100)] cBV cBL) kn2)
theorem kn3_ok : KnOk Tryz.prog kn3 := knO_ok (knF_ok (by kernel_rfl) (fact_ok kn2_ok hmo cA_ok)) (knO_ok (knF_ok (by kernel_rfl) (fact_ok kn2_ok hmo cB_ok)) kn2_ok)
theorem awake_ok : APure Tryz.prog 9 [] (fun r => r = .pv (.lit (.bool true))) :=
 apure_bool (k := 100000) (d := 60) kn3_ok hmo (by kernel_rfl) (by kernel_rfl)
end Go.EX
