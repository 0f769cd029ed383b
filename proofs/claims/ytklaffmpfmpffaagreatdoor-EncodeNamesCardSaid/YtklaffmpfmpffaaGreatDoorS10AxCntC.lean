/-
  Facts on the types of the seat's program (written by facts.py).
  Contracts: the numbers of clauses (count, numbering, the document's answer).
  Contracts: operations (oper, the document's answer).
  Contracts: whether operations may be.
-/
import Derived.Test.YtklaffmpfmpffaaGreatDoorAxBe
import Derived.Test.YtklaffmpfmpffaaGreatDoorRows
namespace Go.AX
open Go.Proofs

@[simp] theorem ld_0 : ldInfo Tryz.prog 0 = some (false, 1) := by kernel_rfl
@[simp] theorem tk_1 : tk Tryz.prog 1 = .func := by kernel_rfl
@[simp] theorem ld_1 : ldInfo Tryz.prog 1 = some (false, 1) := by kernel_rfl
@[simp] theorem z_1 : zeroL Tryz.prog 1 = some [.lit .nilFunc] := by kernel_rfl
@[simp] theorem tk_2 : tk Tryz.prog 2 = .int := by kernel_rfl
@[simp] theorem ld_2 : ldInfo Tryz.prog 2 = some (false, 1) := by kernel_rfl
@[simp] theorem cv_2 : cvtK Tryz.prog 2 = some .i64 := by kernel_rfl
@[simp] theorem z_2 : zeroL Tryz.prog 2 = some [.lit (.int .i64 0)] := by kernel_rfl
@[simp] theorem tk_3 : tk Tryz.prog 3 = .int := by kernel_rfl
@[simp] theorem ld_3 : ldInfo Tryz.prog 3 = some (false, 1) := by kernel_rfl
@[simp] theorem cv_3 : cvtK Tryz.prog 3 = some .i64 := by kernel_rfl
@[simp] theorem z_3 : zeroL Tryz.prog 3 = some [.lit (.int .i64 0)] := by kernel_rfl
@[simp] theorem tk_4 : tk Tryz.prog 4 = .bool := by kernel_rfl
@[simp] theorem ld_4 : ldInfo Tryz.prog 4 = some (false, 1) := by kernel_rfl
@[simp] theorem z_4 : zeroL Tryz.prog 4 = some [.lit (.bool false)] := by kernel_rfl
@[simp] theorem tk_5 : tk Tryz.prog 5 = .int := by kernel_rfl
@[simp] theorem ld_5 : ldInfo Tryz.prog 5 = some (false, 1) := by kernel_rfl
@[simp] theorem cv_5 : cvtK Tryz.prog 5 = some .u8 := by kernel_rfl
@[simp] theorem z_5 : zeroL Tryz.prog 5 = some [.lit (.int .u8 0)] := by kernel_rfl
@[simp] theorem tk_6 : tk Tryz.prog 6 = .int := by kernel_rfl
@[simp] theorem ld_6 : ldInfo Tryz.prog 6 = some (false, 1) := by kernel_rfl
@[simp] theorem cv_6 : cvtK Tryz.prog 6 = some .u8 := by kernel_rfl
@[simp] theorem z_6 : zeroL Tryz.prog 6 = some [.lit (.int .u8 0)] := by kernel_rfl
@[simp] theorem ld_7 : ldInfo Tryz.prog 7 = some (true, 4) := by kernel_rfl
@[simp] theorem z_7 : zeroL Tryz.prog 7 = some [.lit (.int .i64 0), .lit (.int .i64 0), .lit (.bool false), .lit (.int .u8 0)] := by kernel_rfl
@[simp] theorem zv_7 : zeroV Tryz.prog 7 = some [.lit (.int .i64 0), .lit (.int .i64 0), .lit (.bool false), .lit (.int .u8 0)] := by kernel_rfl
@[simp] theorem bi_7 : bInfo Tryz.prog 7 = some [(0, 1), (1, 1), (2, 1), (3, 1)] := by kernel_rfl
@[simp] theorem ld_8 : ldInfo Tryz.prog 8 = some (true, 4) := by kernel_rfl
@[simp] theorem z_8 : zeroL Tryz.prog 8 = some [.lit (.int .i64 0), .lit (.int .i64 0), .lit (.bool false), .lit (.int .u8 0)] := by kernel_rfl
@[simp] theorem zv_8 : zeroV Tryz.prog 8 = some [.lit (.int .i64 0), .lit (.int .i64 0), .lit (.bool false), .lit (.int .u8 0)] := by kernel_rfl
@[simp] theorem bi_8 : bInfo Tryz.prog 8 = some [(0, 1), (1, 1), (2, 1), (3, 1)] := by kernel_rfl
@[simp] theorem tk_9 : tk Tryz.prog 9 = .string := by kernel_rfl
@[simp] theorem ld_9 : ldInfo Tryz.prog 9 = some (false, 1) := by kernel_rfl
@[simp] theorem z_9 : zeroL Tryz.prog 9 = some [.lit (.string ByteArray.empty)] := by kernel_rfl
@[simp] theorem tk_10 : tk Tryz.prog 10 = .string := by kernel_rfl
@[simp] theorem ld_10 : ldInfo Tryz.prog 10 = some (false, 1) := by kernel_rfl
@[simp] theorem z_10 : zeroL Tryz.prog 10 = some [.lit (.string ByteArray.empty)] := by kernel_rfl
@[simp] theorem tk_11 : tk Tryz.prog 11 = .string := by kernel_rfl
@[simp] theorem ld_11 : ldInfo Tryz.prog 11 = some (false, 1) := by kernel_rfl
@[simp] theorem z_11 : zeroL Tryz.prog 11 = some [.lit (.string ByteArray.empty)] := by kernel_rfl
@[simp] theorem tk_12 : tk Tryz.prog 12 = .int := by kernel_rfl
@[simp] theorem ld_12 : ldInfo Tryz.prog 12 = some (false, 1) := by kernel_rfl
@[simp] theorem cv_12 : cvtK Tryz.prog 12 = some .u64 := by kernel_rfl
@[simp] theorem z_12 : zeroL Tryz.prog 12 = some [.lit (.int .u64 0)] := by kernel_rfl
@[simp] theorem ld_13 : ldInfo Tryz.prog 13 = some (true, 2) := by kernel_rfl
@[simp] theorem z_13 : zeroL Tryz.prog 13 = some [.lit (.string ByteArray.empty), .lit (.int .u64 0)] := by kernel_rfl
@[simp] theorem zv_13 : zeroV Tryz.prog 13 = some [.lit (.string ByteArray.empty), .lit (.int .u64 0)] := by kernel_rfl
@[simp] theorem bi_13 : bInfo Tryz.prog 13 = some [(0, 1), (1, 1)] := by kernel_rfl
@[simp] theorem ld_14 : ldInfo Tryz.prog 14 = some (true, 2) := by kernel_rfl
@[simp] theorem z_14 : zeroL Tryz.prog 14 = some [.lit (.string ByteArray.empty), .lit (.int .u64 0)] := by kernel_rfl
@[simp] theorem zv_14 : zeroV Tryz.prog 14 = some [.lit (.string ByteArray.empty), .lit (.int .u64 0)] := by kernel_rfl
@[simp] theorem bi_14 : bInfo Tryz.prog 14 = some [(0, 1), (1, 1)] := by kernel_rfl
@[simp] theorem tk_15 : tk Tryz.prog 15 = .ptr := by kernel_rfl
@[simp] theorem ld_15 : ldInfo Tryz.prog 15 = some (false, 1) := by kernel_rfl
@[simp] theorem z_15 : zeroL Tryz.prog 15 = some [.lit (.pointer none)] := by kernel_rfl
@[simp] theorem tk_16 : tk Tryz.prog 16 = .ptr := by kernel_rfl
@[simp] theorem ld_16 : ldInfo Tryz.prog 16 = some (false, 1) := by kernel_rfl
@[simp] theorem z_16 : zeroL Tryz.prog 16 = some [.lit (.pointer none)] := by kernel_rfl
@[simp] theorem tk_17 : tk Tryz.prog 17 = .ptr := by kernel_rfl
@[simp] theorem ld_17 : ldInfo Tryz.prog 17 = some (false, 1) := by kernel_rfl
@[simp] theorem z_17 : zeroL Tryz.prog 17 = some [.lit (.pointer none)] := by kernel_rfl
@[simp] theorem ld_18 : ldInfo Tryz.prog 18 = some (true, 1) := by kernel_rfl
@[simp] theorem z_18 : zeroL Tryz.prog 18 = some [.lit (.pointer none)] := by kernel_rfl
@[simp] theorem zv_18 : zeroV Tryz.prog 18 = some [.lit (.pointer none)] := by kernel_rfl
@[simp] theorem bi_18 : bInfo Tryz.prog 18 = some [(0, 1)] := by kernel_rfl
@[simp] theorem ld_19 : ldInfo Tryz.prog 19 = some (true, 1) := by kernel_rfl
@[simp] theorem z_19 : zeroL Tryz.prog 19 = some [.lit (.pointer none)] := by kernel_rfl
@[simp] theorem zv_19 : zeroV Tryz.prog 19 = some [.lit (.pointer none)] := by kernel_rfl
@[simp] theorem bi_19 : bInfo Tryz.prog 19 = some [(0, 1)] := by kernel_rfl
@[simp] theorem ld_20 : ldInfo Tryz.prog 20 = some (false, 1) := by kernel_rfl
@[simp] theorem tk_21 : tk Tryz.prog 21 = .int := by kernel_rfl
@[simp] theorem ld_21 : ldInfo Tryz.prog 21 = some (false, 1) := by kernel_rfl
@[simp] theorem cv_21 : cvtK Tryz.prog 21 = some .i32 := by kernel_rfl
@[simp] theorem z_21 : zeroL Tryz.prog 21 = some [.lit (.int .i32 0)] := by kernel_rfl
@[simp] theorem tk_22 : tk Tryz.prog 22 = .slice := by kernel_rfl
@[simp] theorem ld_22 : ldInfo Tryz.prog 22 = some (false, 1) := by kernel_rfl
@[simp] theorem sl_22 : slSize Tryz.prog 22 = some 4 := by kernel_rfl
@[simp] theorem si_22 : slInfo Tryz.prog 22 = some (4, 32) := by kernel_rfl
@[simp] theorem z_22 : zeroL Tryz.prog 22 = some [.lit (.slice none 0 0)] := by kernel_rfl
@[simp] theorem sz_22 : slZero Tryz.prog 22 = some [.lit (.int .i64 0), .lit (.int .i64 0), .lit (.int .i64 0), .lit (.int .i64 0)] := by kernel_rfl
@[simp] theorem ld_23 : ldInfo Tryz.prog 23 = some (true, 4) := by kernel_rfl
@[simp] theorem z_23 : zeroL Tryz.prog 23 = some [.lit (.int .i64 0), .lit (.int .i64 0), .lit (.int .i64 0), .lit (.slice none 0 0)] := by kernel_rfl
@[simp] theorem zv_23 : zeroV Tryz.prog 23 = some [.lit (.int .i64 0), .lit (.int .i64 0), .lit (.int .i64 0), .lit (.slice none 0 0)] := by kernel_rfl
@[simp] theorem bi_23 : bInfo Tryz.prog 23 = some [(0, 1), (1, 1), (2, 1), (3, 1)] := by kernel_rfl
@[simp] theorem ld_24 : ldInfo Tryz.prog 24 = some (true, 4) := by kernel_rfl
@[simp] theorem z_24 : zeroL Tryz.prog 24 = some [.lit (.int .i64 0), .lit (.int .i64 0), .lit (.int .i64 0), .lit (.slice none 0 0)] := by kernel_rfl
@[simp] theorem zv_24 : zeroV Tryz.prog 24 = some [.lit (.int .i64 0), .lit (.int .i64 0), .lit (.int .i64 0), .lit (.slice none 0 0)] := by kernel_rfl
@[simp] theorem bi_24 : bInfo Tryz.prog 24 = some [(0, 1), (1, 1), (2, 1), (3, 1)] := by kernel_rfl
@[simp] theorem tk_25 : tk Tryz.prog 25 = .slice := by kernel_rfl
@[simp] theorem ld_25 : ldInfo Tryz.prog 25 = some (false, 1) := by kernel_rfl
@[simp] theorem sl_25 : slSize Tryz.prog 25 = some 5 := by kernel_rfl
@[simp] theorem si_25 : slInfo Tryz.prog 25 = some (5, 40) := by kernel_rfl
@[simp] theorem z_25 : zeroL Tryz.prog 25 = some [.lit (.slice none 0 0)] := by kernel_rfl
@[simp] theorem sz_25 : slZero Tryz.prog 25 = some [.lit (.int .i64 0), .lit (.int .i64 0), .lit (.int .i64 0), .lit (.int .i64 0), .lit (.int .i64 0)] := by kernel_rfl
@[simp] theorem tk_26 : tk Tryz.prog 26 = .slice := by kernel_rfl
@[simp] theorem ld_26 : ldInfo Tryz.prog 26 = some (false, 1) := by kernel_rfl
@[simp] theorem sl_26 : slSize Tryz.prog 26 = some 1 := by kernel_rfl
@[simp] theorem si_26 : slInfo Tryz.prog 26 = some (1, 24) := by kernel_rfl
@[simp] theorem z_26 : zeroL Tryz.prog 26 = some [.lit (.slice none 0 0)] := by kernel_rfl
@[simp] theorem sz_26 : slZero Tryz.prog 26 = some [.lit (.slice none 0 0)] := by kernel_rfl
@[simp] theorem ld_27 : ldInfo Tryz.prog 27 = some (true, 2) := by kernel_rfl
@[simp] theorem z_27 : zeroL Tryz.prog 27 = some [.lit (.int .i64 0), .lit (.slice none 0 0)] := by kernel_rfl
@[simp] theorem zv_27 : zeroV Tryz.prog 27 = some [.lit (.int .i64 0), .lit (.slice none 0 0)] := by kernel_rfl
@[simp] theorem bi_27 : bInfo Tryz.prog 27 = some [(0, 1), (1, 1)] := by kernel_rfl
@[simp] theorem ld_28 : ldInfo Tryz.prog 28 = some (true, 2) := by kernel_rfl
@[simp] theorem z_28 : zeroL Tryz.prog 28 = some [.lit (.int .i64 0), .lit (.slice none 0 0)] := by kernel_rfl
@[simp] theorem zv_28 : zeroV Tryz.prog 28 = some [.lit (.int .i64 0), .lit (.slice none 0 0)] := by kernel_rfl
@[simp] theorem bi_28 : bInfo Tryz.prog 28 = some [(0, 1), (1, 1)] := by kernel_rfl
@[simp] theorem ld_29 : ldInfo Tryz.prog 29 = some (true, 4) := by kernel_rfl
@[simp] theorem sln_29 : slSize Tryz.prog 29 = none := by kernel_rfl
@[simp] theorem ar_29 : arSize Tryz.prog 29 = some (2, 2) := by kernel_rfl
@[simp] theorem z_29 : zeroL Tryz.prog 29 = some [.lit (.int .i64 0), .lit (.slice none 0 0), .lit (.int .i64 0), .lit (.slice none 0 0)] := by kernel_rfl
@[simp] theorem zv_29 : zeroV Tryz.prog 29 = some [.lit (.int .i64 0), .lit (.slice none 0 0), .lit (.int .i64 0), .lit (.slice none 0 0)] := by kernel_rfl
@[simp] theorem bi_29 : bInfo Tryz.prog 29 = some [(0, 2), (2, 2)] := by kernel_rfl
@[simp] theorem ai_29 : arInfo Tryz.prog 29 = some (2, true, 2) := by kernel_rfl
@[simp] theorem tk_30 : tk Tryz.prog 30 = .func := by kernel_rfl
@[simp] theorem ld_30 : ldInfo Tryz.prog 30 = some (false, 1) := by kernel_rfl
@[simp] theorem z_30 : zeroL Tryz.prog 30 = some [.lit .nilFunc] := by kernel_rfl
@[simp] theorem tk_31 : tk Tryz.prog 31 = .func := by kernel_rfl
@[simp] theorem ld_31 : ldInfo Tryz.prog 31 = some (false, 1) := by kernel_rfl
@[simp] theorem z_31 : zeroL Tryz.prog 31 = some [.lit .nilFunc] := by kernel_rfl
@[simp] theorem tk_32 : tk Tryz.prog 32 = .func := by kernel_rfl
@[simp] theorem ld_32 : ldInfo Tryz.prog 32 = some (false, 1) := by kernel_rfl
@[simp] theorem z_32 : zeroL Tryz.prog 32 = some [.lit .nilFunc] := by kernel_rfl
@[simp] theorem tk_33 : tk Tryz.prog 33 = .slice := by kernel_rfl
@[simp] theorem ld_33 : ldInfo Tryz.prog 33 = some (false, 1) := by kernel_rfl
@[simp] theorem sl_33 : slSize Tryz.prog 33 = some 1 := by kernel_rfl
@[simp] theorem si_33 : slInfo Tryz.prog 33 = some (1, 16) := by kernel_rfl
@[simp] theorem z_33 : zeroL Tryz.prog 33 = some [.lit (.slice none 0 0)] := by kernel_rfl
@[simp] theorem sz_33 : slZero Tryz.prog 33 = some [.lit (.string ByteArray.empty)] := by kernel_rfl
@[simp] theorem tk_34 : tk Tryz.prog 34 = .func := by kernel_rfl
@[simp] theorem ld_34 : ldInfo Tryz.prog 34 = some (false, 1) := by kernel_rfl
@[simp] theorem z_34 : zeroL Tryz.prog 34 = some [.lit .nilFunc] := by kernel_rfl
@[simp] theorem tk_35 : tk Tryz.prog 35 = .func := by kernel_rfl
@[simp] theorem ld_35 : ldInfo Tryz.prog 35 = some (false, 1) := by kernel_rfl
@[simp] theorem z_35 : zeroL Tryz.prog 35 = some [.lit .nilFunc] := by kernel_rfl
@[simp] theorem tk_36 : tk Tryz.prog 36 = .func := by kernel_rfl
@[simp] theorem ld_36 : ldInfo Tryz.prog 36 = some (false, 1) := by kernel_rfl
@[simp] theorem z_36 : zeroL Tryz.prog 36 = some [.lit .nilFunc] := by kernel_rfl
@[simp] theorem tk_37 : tk Tryz.prog 37 = .func := by kernel_rfl
@[simp] theorem ld_37 : ldInfo Tryz.prog 37 = some (false, 1) := by kernel_rfl
@[simp] theorem z_37 : zeroL Tryz.prog 37 = some [.lit .nilFunc] := by kernel_rfl
@[simp] theorem tk_38 : tk Tryz.prog 38 = .slice := by kernel_rfl
@[simp] theorem ld_38 : ldInfo Tryz.prog 38 = some (false, 1) := by kernel_rfl
@[simp] theorem sl_38 : slSize Tryz.prog 38 = some 1 := by kernel_rfl
@[simp] theorem si_38 : slInfo Tryz.prog 38 = some (1, 8) := by kernel_rfl
@[simp] theorem z_38 : zeroL Tryz.prog 38 = some [.lit (.slice none 0 0)] := by kernel_rfl
@[simp] theorem sz_38 : slZero Tryz.prog 38 = some [.lit (.int .i64 0)] := by kernel_rfl
@[simp] theorem tk_39 : tk Tryz.prog 39 = .int := by kernel_rfl
@[simp] theorem ld_39 : ldInfo Tryz.prog 39 = some (false, 1) := by kernel_rfl
@[simp] theorem cv_39 : cvtK Tryz.prog 39 = some .i64 := by kernel_rfl
@[simp] theorem z_39 : zeroL Tryz.prog 39 = some [.lit (.int .i64 0)] := by kernel_rfl
@[simp] theorem ld_40 : ldInfo Tryz.prog 40 = some (false, 1) := by kernel_rfl
@[simp] theorem tk_41 : tk Tryz.prog 41 = .func := by kernel_rfl
@[simp] theorem ld_41 : ldInfo Tryz.prog 41 = some (false, 1) := by kernel_rfl
@[simp] theorem z_41 : zeroL Tryz.prog 41 = some [.lit .nilFunc] := by kernel_rfl
@[simp] theorem tk_42 : tk Tryz.prog 42 = .func := by kernel_rfl
@[simp] theorem ld_42 : ldInfo Tryz.prog 42 = some (false, 1) := by kernel_rfl
@[simp] theorem z_42 : zeroL Tryz.prog 42 = some [.lit .nilFunc] := by kernel_rfl
@[simp] theorem tk_43 : tk Tryz.prog 43 = .flat 5 := by kernel_rfl
@[simp] theorem ld_43 : ldInfo Tryz.prog 43 = some (true, 5) := by kernel_rfl
@[simp] theorem z_43 : zeroL Tryz.prog 43 = some [.lit (.int .i64 0), .lit (.int .i64 0), .lit (.int .i64 0), .lit (.int .i64 0), .lit (.int .i64 0)] := by kernel_rfl
@[simp] theorem zv_43 : zeroV Tryz.prog 43 = some [.lit (.int .i64 0), .lit (.int .i64 0), .lit (.int .i64 0), .lit (.int .i64 0), .lit (.int .i64 0)] := by kernel_rfl
@[simp] theorem bi_43 : bInfo Tryz.prog 43 = some [(0, 1), (1, 1), (2, 1), (3, 1), (4, 1)] := by kernel_rfl
@[simp] theorem tk_44 : tk Tryz.prog 44 = .flat 5 := by kernel_rfl
@[simp] theorem ld_44 : ldInfo Tryz.prog 44 = some (true, 5) := by kernel_rfl
@[simp] theorem z_44 : zeroL Tryz.prog 44 = some [.lit (.int .i64 0), .lit (.int .i64 0), .lit (.int .i64 0), .lit (.int .i64 0), .lit (.int .i64 0)] := by kernel_rfl
@[simp] theorem zv_44 : zeroV Tryz.prog 44 = some [.lit (.int .i64 0), .lit (.int .i64 0), .lit (.int .i64 0), .lit (.int .i64 0), .lit (.int .i64 0)] := by kernel_rfl
@[simp] theorem bi_44 : bInfo Tryz.prog 44 = some [(0, 1), (1, 1), (2, 1), (3, 1), (4, 1)] := by kernel_rfl
@[simp] theorem tk_45 : tk Tryz.prog 45 = .func := by kernel_rfl
@[simp] theorem ld_45 : ldInfo Tryz.prog 45 = some (false, 1) := by kernel_rfl
@[simp] theorem z_45 : zeroL Tryz.prog 45 = some [.lit .nilFunc] := by kernel_rfl
@[simp] theorem tk_46 : tk Tryz.prog 46 = .func := by kernel_rfl
@[simp] theorem ld_46 : ldInfo Tryz.prog 46 = some (false, 1) := by kernel_rfl
@[simp] theorem z_46 : zeroL Tryz.prog 46 = some [.lit .nilFunc] := by kernel_rfl
@[simp] theorem tk_47 : tk Tryz.prog 47 = .slice := by kernel_rfl
@[simp] theorem ld_47 : ldInfo Tryz.prog 47 = some (false, 1) := by kernel_rfl
@[simp] theorem sl_47 : slSize Tryz.prog 47 = some 1 := by kernel_rfl
@[simp] theorem si_47 : slInfo Tryz.prog 47 = some (1, 1) := by kernel_rfl
@[simp] theorem z_47 : zeroL Tryz.prog 47 = some [.lit (.slice none 0 0)] := by kernel_rfl
@[simp] theorem sz_47 : slZero Tryz.prog 47 = some [.lit (.bool false)] := by kernel_rfl
@[simp] theorem tk_48 : tk Tryz.prog 48 = .flat 2 := by kernel_rfl
@[simp] theorem ld_48 : ldInfo Tryz.prog 48 = some (true, 2) := by kernel_rfl
@[simp] theorem z_48 : zeroL Tryz.prog 48 = some [.lit (.int .i64 0), .lit (.int .i64 0)] := by kernel_rfl
@[simp] theorem zv_48 : zeroV Tryz.prog 48 = some [.lit (.int .i64 0), .lit (.int .i64 0)] := by kernel_rfl
@[simp] theorem bi_48 : bInfo Tryz.prog 48 = some [(0, 1), (1, 1)] := by kernel_rfl
@[simp] theorem tk_49 : tk Tryz.prog 49 = .flat 2 := by kernel_rfl
@[simp] theorem ld_49 : ldInfo Tryz.prog 49 = some (true, 2) := by kernel_rfl
@[simp] theorem z_49 : zeroL Tryz.prog 49 = some [.lit (.int .i64 0), .lit (.int .i64 0)] := by kernel_rfl
@[simp] theorem zv_49 : zeroV Tryz.prog 49 = some [.lit (.int .i64 0), .lit (.int .i64 0)] := by kernel_rfl
@[simp] theorem bi_49 : bInfo Tryz.prog 49 = some [(0, 1), (1, 1)] := by kernel_rfl
@[simp] theorem ld_50 : ldInfo Tryz.prog 50 = some (false, 1) := by kernel_rfl
@[simp] theorem tk_51 : tk Tryz.prog 51 = .func := by kernel_rfl
@[simp] theorem ld_51 : ldInfo Tryz.prog 51 = some (false, 1) := by kernel_rfl
@[simp] theorem z_51 : zeroL Tryz.prog 51 = some [.lit .nilFunc] := by kernel_rfl
@[simp] theorem ld_52 : ldInfo Tryz.prog 52 = some (true, 4) := by kernel_rfl
@[simp] theorem sln_52 : slSize Tryz.prog 52 = none := by kernel_rfl
@[simp] theorem ar_52 : arSize Tryz.prog 52 = some (4, 1) := by kernel_rfl
@[simp] theorem z_52 : zeroL Tryz.prog 52 = some [.lit (.string ByteArray.empty), .lit (.string ByteArray.empty), .lit (.string ByteArray.empty), .lit (.string ByteArray.empty)] := by kernel_rfl
@[simp] theorem zv_52 : zeroV Tryz.prog 52 = some [.lit (.string ByteArray.empty), .lit (.string ByteArray.empty), .lit (.string ByteArray.empty), .lit (.string ByteArray.empty)] := by kernel_rfl
@[simp] theorem bi_52 : bInfo Tryz.prog 52 = some [(0, 1), (1, 1), (2, 1), (3, 1)] := by kernel_rfl
@[simp] theorem ai_52 : arInfo Tryz.prog 52 = some (4, false, 1) := by kernel_rfl
@[simp] theorem tk_53 : tk Tryz.prog 53 = .flat 3 := by kernel_rfl
@[simp] theorem ld_53 : ldInfo Tryz.prog 53 = some (true, 3) := by kernel_rfl
@[simp] theorem z_53 : zeroL Tryz.prog 53 = some [.lit (.int .i64 0), .lit (.int .i64 0), .lit (.int .i64 0)] := by kernel_rfl
@[simp] theorem zv_53 : zeroV Tryz.prog 53 = some [.lit (.int .i64 0), .lit (.int .i64 0), .lit (.int .i64 0)] := by kernel_rfl
@[simp] theorem bi_53 : bInfo Tryz.prog 53 = some [(0, 1), (1, 1), (2, 1)] := by kernel_rfl
@[simp] theorem tk_54 : tk Tryz.prog 54 = .flat 3 := by kernel_rfl
@[simp] theorem ld_54 : ldInfo Tryz.prog 54 = some (true, 3) := by kernel_rfl
@[simp] theorem z_54 : zeroL Tryz.prog 54 = some [.lit (.int .i64 0), .lit (.int .i64 0), .lit (.int .i64 0)] := by kernel_rfl
@[simp] theorem zv_54 : zeroV Tryz.prog 54 = some [.lit (.int .i64 0), .lit (.int .i64 0), .lit (.int .i64 0)] := by kernel_rfl
@[simp] theorem bi_54 : bInfo Tryz.prog 54 = some [(0, 1), (1, 1), (2, 1)] := by kernel_rfl
@[simp] theorem tk_55 : tk Tryz.prog 55 = .func := by kernel_rfl
@[simp] theorem ld_55 : ldInfo Tryz.prog 55 = some (false, 1) := by kernel_rfl
@[simp] theorem z_55 : zeroL Tryz.prog 55 = some [.lit .nilFunc] := by kernel_rfl
@[simp] theorem tk_56 : tk Tryz.prog 56 = .func := by kernel_rfl
@[simp] theorem ld_56 : ldInfo Tryz.prog 56 = some (false, 1) := by kernel_rfl
@[simp] theorem z_56 : zeroL Tryz.prog 56 = some [.lit .nilFunc] := by kernel_rfl
@[simp] theorem tk_57 : tk Tryz.prog 57 = .func := by kernel_rfl
@[simp] theorem ld_57 : ldInfo Tryz.prog 57 = some (false, 1) := by kernel_rfl
@[simp] theorem z_57 : zeroL Tryz.prog 57 = some [.lit .nilFunc] := by kernel_rfl
@[simp] theorem tk_58 : tk Tryz.prog 58 = .func := by kernel_rfl
@[simp] theorem ld_58 : ldInfo Tryz.prog 58 = some (false, 1) := by kernel_rfl
@[simp] theorem z_58 : zeroL Tryz.prog 58 = some [.lit .nilFunc] := by kernel_rfl
@[simp] theorem ld_59 : ldInfo Tryz.prog 59 = some (false, 1) := by kernel_rfl
@[simp] theorem tk_60 : tk Tryz.prog 60 = .func := by kernel_rfl
@[simp] theorem ld_60 : ldInfo Tryz.prog 60 = some (false, 1) := by kernel_rfl
@[simp] theorem z_60 : zeroL Tryz.prog 60 = some [.lit .nilFunc] := by kernel_rfl
@[simp] theorem tk_61 : tk Tryz.prog 61 = .func := by kernel_rfl
@[simp] theorem ld_61 : ldInfo Tryz.prog 61 = some (false, 1) := by kernel_rfl
@[simp] theorem z_61 : zeroL Tryz.prog 61 = some [.lit .nilFunc] := by kernel_rfl
@[simp] theorem tk_62 : tk Tryz.prog 62 = .slice := by kernel_rfl
@[simp] theorem ld_62 : ldInfo Tryz.prog 62 = some (false, 1) := by kernel_rfl
@[simp] theorem sl_62 : slSize Tryz.prog 62 = some 3 := by kernel_rfl
@[simp] theorem si_62 : slInfo Tryz.prog 62 = some (3, 24) := by kernel_rfl
@[simp] theorem z_62 : zeroL Tryz.prog 62 = some [.lit (.slice none 0 0)] := by kernel_rfl
@[simp] theorem sz_62 : slZero Tryz.prog 62 = some [.lit (.int .i64 0), .lit (.int .i64 0), .lit (.int .i64 0)] := by kernel_rfl
@[simp] theorem tk_63 : tk Tryz.prog 63 = .func := by kernel_rfl
@[simp] theorem ld_63 : ldInfo Tryz.prog 63 = some (false, 1) := by kernel_rfl
@[simp] theorem z_63 : zeroL Tryz.prog 63 = some [.lit .nilFunc] := by kernel_rfl
@[simp] theorem tk_64 : tk Tryz.prog 64 = .flat 3 := by kernel_rfl
@[simp] theorem ld_64 : ldInfo Tryz.prog 64 = some (true, 3) := by kernel_rfl
@[simp] theorem z_64 : zeroL Tryz.prog 64 = some [.lit (.int .i64 0), .lit (.int .i64 0), .lit (.int .i64 0)] := by kernel_rfl
@[simp] theorem zv_64 : zeroV Tryz.prog 64 = some [.lit (.int .i64 0), .lit (.int .i64 0), .lit (.int .i64 0)] := by kernel_rfl
@[simp] theorem bi_64 : bInfo Tryz.prog 64 = some [(0, 1), (1, 1), (2, 1)] := by kernel_rfl
@[simp] theorem tk_65 : tk Tryz.prog 65 = .func := by kernel_rfl
@[simp] theorem ld_65 : ldInfo Tryz.prog 65 = some (false, 1) := by kernel_rfl
@[simp] theorem z_65 : zeroL Tryz.prog 65 = some [.lit .nilFunc] := by kernel_rfl
@[simp] theorem tk_66 : tk Tryz.prog 66 = .slice := by kernel_rfl
@[simp] theorem ld_66 : ldInfo Tryz.prog 66 = some (false, 1) := by kernel_rfl
@[simp] theorem sl_66 : slSize Tryz.prog 66 = some 1 := by kernel_rfl
@[simp] theorem si_66 : slInfo Tryz.prog 66 = some (1, 24) := by kernel_rfl
@[simp] theorem z_66 : zeroL Tryz.prog 66 = some [.lit (.slice none 0 0)] := by kernel_rfl
@[simp] theorem sz_66 : slZero Tryz.prog 66 = some [.lit (.slice none 0 0)] := by kernel_rfl
@[simp] theorem tk_67 : tk Tryz.prog 67 = .func := by kernel_rfl
@[simp] theorem ld_67 : ldInfo Tryz.prog 67 = some (false, 1) := by kernel_rfl
@[simp] theorem z_67 : zeroL Tryz.prog 67 = some [.lit .nilFunc] := by kernel_rfl
@[simp] theorem tk_68 : tk Tryz.prog 68 = .func := by kernel_rfl
@[simp] theorem ld_68 : ldInfo Tryz.prog 68 = some (false, 1) := by kernel_rfl
@[simp] theorem z_68 : zeroL Tryz.prog 68 = some [.lit .nilFunc] := by kernel_rfl
@[simp] theorem tk_69 : tk Tryz.prog 69 = .func := by kernel_rfl
@[simp] theorem ld_69 : ldInfo Tryz.prog 69 = some (false, 1) := by kernel_rfl
@[simp] theorem z_69 : zeroL Tryz.prog 69 = some [.lit .nilFunc] := by kernel_rfl
@[simp] theorem tk_70 : tk Tryz.prog 70 = .slice := by kernel_rfl
@[simp] theorem ld_70 : ldInfo Tryz.prog 70 = some (false, 1) := by kernel_rfl
@[simp] theorem sl_70 : slSize Tryz.prog 70 = some 2 := by kernel_rfl
@[simp] theorem si_70 : slInfo Tryz.prog 70 = some (2, 16) := by kernel_rfl
@[simp] theorem z_70 : zeroL Tryz.prog 70 = some [.lit (.slice none 0 0)] := by kernel_rfl
@[simp] theorem sz_70 : slZero Tryz.prog 70 = some [.lit (.int .i64 0), .lit (.int .i64 0)] := by kernel_rfl
@[simp] theorem tk_71 : tk Tryz.prog 71 = .func := by kernel_rfl
@[simp] theorem ld_71 : ldInfo Tryz.prog 71 = some (false, 1) := by kernel_rfl
@[simp] theorem z_71 : zeroL Tryz.prog 71 = some [.lit .nilFunc] := by kernel_rfl
@[simp] theorem tk_72 : tk Tryz.prog 72 = .func := by kernel_rfl
@[simp] theorem ld_72 : ldInfo Tryz.prog 72 = some (false, 1) := by kernel_rfl
@[simp] theorem z_72 : zeroL Tryz.prog 72 = some [.lit .nilFunc] := by kernel_rfl
@[simp] theorem tk_73 : tk Tryz.prog 73 = .func := by kernel_rfl
@[simp] theorem ld_73 : ldInfo Tryz.prog 73 = some (false, 1) := by kernel_rfl
@[simp] theorem z_73 : zeroL Tryz.prog 73 = some [.lit .nilFunc] := by kernel_rfl
@[simp] theorem tk_74 : tk Tryz.prog 74 = .flat 4 := by kernel_rfl
@[simp] theorem ld_74 : ldInfo Tryz.prog 74 = some (true, 4) := by kernel_rfl
@[simp] theorem z_74 : zeroL Tryz.prog 74 = some [.lit (.int .i64 0), .lit (.int .i64 0), .lit (.int .i64 0), .lit (.int .i64 0)] := by kernel_rfl
@[simp] theorem zv_74 : zeroV Tryz.prog 74 = some [.lit (.int .i64 0), .lit (.int .i64 0), .lit (.int .i64 0), .lit (.int .i64 0)] := by kernel_rfl
@[simp] theorem bi_74 : bInfo Tryz.prog 74 = some [(0, 1), (1, 1), (2, 1), (3, 1)] := by kernel_rfl
@[simp] theorem tk_75 : tk Tryz.prog 75 = .flat 4 := by kernel_rfl
@[simp] theorem ld_75 : ldInfo Tryz.prog 75 = some (true, 4) := by kernel_rfl
@[simp] theorem z_75 : zeroL Tryz.prog 75 = some [.lit (.int .i64 0), .lit (.int .i64 0), .lit (.int .i64 0), .lit (.int .i64 0)] := by kernel_rfl
@[simp] theorem zv_75 : zeroV Tryz.prog 75 = some [.lit (.int .i64 0), .lit (.int .i64 0), .lit (.int .i64 0), .lit (.int .i64 0)] := by kernel_rfl
@[simp] theorem bi_75 : bInfo Tryz.prog 75 = some [(0, 1), (1, 1), (2, 1), (3, 1)] := by kernel_rfl
@[simp] theorem ld_76 : ldInfo Tryz.prog 76 = some (false, 1) := by kernel_rfl
@[simp] theorem tk_77 : tk Tryz.prog 77 = .func := by kernel_rfl
@[simp] theorem ld_77 : ldInfo Tryz.prog 77 = some (false, 1) := by kernel_rfl
@[simp] theorem z_77 : zeroL Tryz.prog 77 = some [.lit .nilFunc] := by kernel_rfl
@[simp] theorem tk_78 : tk Tryz.prog 78 = .func := by kernel_rfl
@[simp] theorem ld_78 : ldInfo Tryz.prog 78 = some (false, 1) := by kernel_rfl
@[simp] theorem z_78 : zeroL Tryz.prog 78 = some [.lit .nilFunc] := by kernel_rfl
@[simp] theorem tk_79 : tk Tryz.prog 79 = .func := by kernel_rfl
@[simp] theorem ld_79 : ldInfo Tryz.prog 79 = some (false, 1) := by kernel_rfl
@[simp] theorem z_79 : zeroL Tryz.prog 79 = some [.lit .nilFunc] := by kernel_rfl
@[simp] theorem ld_80 : ldInfo Tryz.prog 80 = some (false, 1) := by kernel_rfl
@[simp] theorem tk_81 : tk Tryz.prog 81 = .func := by kernel_rfl
@[simp] theorem ld_81 : ldInfo Tryz.prog 81 = some (false, 1) := by kernel_rfl
@[simp] theorem z_81 : zeroL Tryz.prog 81 = some [.lit .nilFunc] := by kernel_rfl
@[simp] theorem ld_82 : ldInfo Tryz.prog 82 = some (false, 1) := by kernel_rfl
@[simp] theorem tk_83 : tk Tryz.prog 83 = .func := by kernel_rfl
@[simp] theorem ld_83 : ldInfo Tryz.prog 83 = some (false, 1) := by kernel_rfl
@[simp] theorem z_83 : zeroL Tryz.prog 83 = some [.lit .nilFunc] := by kernel_rfl
@[simp] theorem tk_84 : tk Tryz.prog 84 = .func := by kernel_rfl
@[simp] theorem ld_84 : ldInfo Tryz.prog 84 = some (false, 1) := by kernel_rfl
@[simp] theorem z_84 : zeroL Tryz.prog 84 = some [.lit .nilFunc] := by kernel_rfl
@[simp] theorem tk_85 : tk Tryz.prog 85 = .func := by kernel_rfl
@[simp] theorem ld_85 : ldInfo Tryz.prog 85 = some (false, 1) := by kernel_rfl
@[simp] theorem z_85 : zeroL Tryz.prog 85 = some [.lit .nilFunc] := by kernel_rfl
@[simp] theorem tk_86 : tk Tryz.prog 86 = .func := by kernel_rfl
@[simp] theorem ld_86 : ldInfo Tryz.prog 86 = some (false, 1) := by kernel_rfl
@[simp] theorem z_86 : zeroL Tryz.prog 86 = some [.lit .nilFunc] := by kernel_rfl
@[simp] theorem tk_87 : tk Tryz.prog 87 = .ptr := by kernel_rfl
@[simp] theorem ld_87 : ldInfo Tryz.prog 87 = some (false, 1) := by kernel_rfl
@[simp] theorem z_87 : zeroL Tryz.prog 87 = some [.lit (.pointer none)] := by kernel_rfl
@[simp] theorem tk_88 : tk Tryz.prog 88 = .slice := by kernel_rfl
@[simp] theorem ld_88 : ldInfo Tryz.prog 88 = some (false, 1) := by kernel_rfl
@[simp] theorem sl_88 : slSize Tryz.prog 88 = some 1 := by kernel_rfl
@[simp] theorem si_88 : slInfo Tryz.prog 88 = some (1, 1) := by kernel_rfl
@[simp] theorem z_88 : zeroL Tryz.prog 88 = some [.lit (.slice none 0 0)] := by kernel_rfl
@[simp] theorem sz_88 : slZero Tryz.prog 88 = some [.lit (.int .u8 0)] := by kernel_rfl
@[simp] theorem ld_89 : ldInfo Tryz.prog 89 = some (true, 2) := by kernel_rfl
@[simp] theorem z_89 : zeroL Tryz.prog 89 = some [.lit (.pointer none), .lit (.slice none 0 0)] := by kernel_rfl
@[simp] theorem zv_89 : zeroV Tryz.prog 89 = some [.lit (.pointer none), .lit (.slice none 0 0)] := by kernel_rfl
@[simp] theorem bi_89 : bInfo Tryz.prog 89 = some [(0, 1), (1, 1)] := by kernel_rfl
@[simp] theorem ld_90 : ldInfo Tryz.prog 90 = some (true, 2) := by kernel_rfl
@[simp] theorem z_90 : zeroL Tryz.prog 90 = some [.lit (.pointer none), .lit (.slice none 0 0)] := by kernel_rfl
@[simp] theorem zv_90 : zeroV Tryz.prog 90 = some [.lit (.pointer none), .lit (.slice none 0 0)] := by kernel_rfl
@[simp] theorem bi_90 : bInfo Tryz.prog 90 = some [(0, 1), (1, 1)] := by kernel_rfl
@[simp] theorem tk_91 : tk Tryz.prog 91 = .func := by kernel_rfl
@[simp] theorem ld_91 : ldInfo Tryz.prog 91 = some (false, 1) := by kernel_rfl
@[simp] theorem z_91 : zeroL Tryz.prog 91 = some [.lit .nilFunc] := by kernel_rfl
@[simp] theorem ld_92 : ldInfo Tryz.prog 92 = some (false, 1) := by kernel_rfl
@[simp] theorem ld_93 : ldInfo Tryz.prog 93 = some (false, 1) := by kernel_rfl
@[simp] theorem ld_94 : ldInfo Tryz.prog 94 = some (false, 1) := by kernel_rfl
@[simp] theorem tk_95 : tk Tryz.prog 95 = .func := by kernel_rfl
@[simp] theorem ld_95 : ldInfo Tryz.prog 95 = some (false, 1) := by kernel_rfl
@[simp] theorem z_95 : zeroL Tryz.prog 95 = some [.lit .nilFunc] := by kernel_rfl
@[simp] theorem tk_96 : tk Tryz.prog 96 = .func := by kernel_rfl
@[simp] theorem ld_96 : ldInfo Tryz.prog 96 = some (false, 1) := by kernel_rfl
@[simp] theorem z_96 : zeroL Tryz.prog 96 = some [.lit .nilFunc] := by kernel_rfl
@[simp] theorem tk_97 : tk Tryz.prog 97 = .func := by kernel_rfl
@[simp] theorem ld_97 : ldInfo Tryz.prog 97 = some (false, 1) := by kernel_rfl
@[simp] theorem z_97 : zeroL Tryz.prog 97 = some [.lit .nilFunc] := by kernel_rfl
@[simp] theorem ld_98 : ldInfo Tryz.prog 98 = some (false, 1) := by kernel_rfl
@[simp] theorem tk_99 : tk Tryz.prog 99 = .func := by kernel_rfl
@[simp] theorem ld_99 : ldInfo Tryz.prog 99 = some (false, 1) := by kernel_rfl
@[simp] theorem z_99 : zeroL Tryz.prog 99 = some [.lit .nilFunc] := by kernel_rfl
@[simp] theorem tk_100 : tk Tryz.prog 100 = .flat 3 := by kernel_rfl
@[simp] theorem ld_100 : ldInfo Tryz.prog 100 = some (true, 3) := by kernel_rfl
@[simp] theorem sln_100 : slSize Tryz.prog 100 = none := by kernel_rfl
@[simp] theorem ar_100 : arSize Tryz.prog 100 = some (3, 1) := by kernel_rfl
@[simp] theorem z_100 : zeroL Tryz.prog 100 = some [.lit (.int .i64 0), .lit (.int .i64 0), .lit (.int .i64 0)] := by kernel_rfl
@[simp] theorem zv_100 : zeroV Tryz.prog 100 = some [.lit (.int .i64 0), .lit (.int .i64 0), .lit (.int .i64 0)] := by kernel_rfl
@[simp] theorem bi_100 : bInfo Tryz.prog 100 = some [(0, 1), (1, 1), (2, 1)] := by kernel_rfl
@[simp] theorem ai_100 : arInfo Tryz.prog 100 = some (3, false, 1) := by kernel_rfl
@[simp] theorem ld_101 : ldInfo Tryz.prog 101 = some (false, 1) := by kernel_rfl
@[simp] theorem tk_102 : tk Tryz.prog 102 = .func := by kernel_rfl
@[simp] theorem ld_102 : ldInfo Tryz.prog 102 = some (false, 1) := by kernel_rfl
@[simp] theorem z_102 : zeroL Tryz.prog 102 = some [.lit .nilFunc] := by kernel_rfl
@[simp] theorem tk_103 : tk Tryz.prog 103 = .func := by kernel_rfl
@[simp] theorem ld_103 : ldInfo Tryz.prog 103 = some (false, 1) := by kernel_rfl
@[simp] theorem z_103 : zeroL Tryz.prog 103 = some [.lit .nilFunc] := by kernel_rfl
@[simp] theorem tk_104 : tk Tryz.prog 104 = .func := by kernel_rfl
@[simp] theorem ld_104 : ldInfo Tryz.prog 104 = some (false, 1) := by kernel_rfl
@[simp] theorem z_104 : zeroL Tryz.prog 104 = some [.lit .nilFunc] := by kernel_rfl
@[simp] theorem tk_105 : tk Tryz.prog 105 = .func := by kernel_rfl
@[simp] theorem ld_105 : ldInfo Tryz.prog 105 = some (false, 1) := by kernel_rfl
@[simp] theorem z_105 : zeroL Tryz.prog 105 = some [.lit .nilFunc] := by kernel_rfl
@[simp] theorem tk_106 : tk Tryz.prog 106 = .func := by kernel_rfl
@[simp] theorem ld_106 : ldInfo Tryz.prog 106 = some (false, 1) := by kernel_rfl
@[simp] theorem z_106 : zeroL Tryz.prog 106 = some [.lit .nilFunc] := by kernel_rfl
@[simp] theorem tk_107 : tk Tryz.prog 107 = .func := by kernel_rfl
@[simp] theorem ld_107 : ldInfo Tryz.prog 107 = some (false, 1) := by kernel_rfl
@[simp] theorem z_107 : zeroL Tryz.prog 107 = some [.lit .nilFunc] := by kernel_rfl
@[simp] theorem tk_108 : tk Tryz.prog 108 = .func := by kernel_rfl
@[simp] theorem ld_108 : ldInfo Tryz.prog 108 = some (false, 1) := by kernel_rfl
@[simp] theorem z_108 : zeroL Tryz.prog 108 = some [.lit .nilFunc] := by kernel_rfl
@[simp] theorem tk_109 : tk Tryz.prog 109 = .flat 2 := by kernel_rfl
@[simp] theorem ld_109 : ldInfo Tryz.prog 109 = some (true, 2) := by kernel_rfl
@[simp] theorem sln_109 : slSize Tryz.prog 109 = none := by kernel_rfl
@[simp] theorem ar_109 : arSize Tryz.prog 109 = some (2, 1) := by kernel_rfl
@[simp] theorem z_109 : zeroL Tryz.prog 109 = some [.lit (.int .i64 0), .lit (.int .i64 0)] := by kernel_rfl
@[simp] theorem zv_109 : zeroV Tryz.prog 109 = some [.lit (.int .i64 0), .lit (.int .i64 0)] := by kernel_rfl
@[simp] theorem bi_109 : bInfo Tryz.prog 109 = some [(0, 1), (1, 1)] := by kernel_rfl
@[simp] theorem ai_109 : arInfo Tryz.prog 109 = some (2, false, 1) := by kernel_rfl
@[simp] theorem tk_110 : tk Tryz.prog 110 = .func := by kernel_rfl
@[simp] theorem ld_110 : ldInfo Tryz.prog 110 = some (false, 1) := by kernel_rfl
@[simp] theorem z_110 : zeroL Tryz.prog 110 = some [.lit .nilFunc] := by kernel_rfl
@[simp] theorem tk_111 : tk Tryz.prog 111 = .func := by kernel_rfl
@[simp] theorem ld_111 : ldInfo Tryz.prog 111 = some (false, 1) := by kernel_rfl
@[simp] theorem z_111 : zeroL Tryz.prog 111 = some [.lit .nilFunc] := by kernel_rfl
@[simp] theorem tk_112 : tk Tryz.prog 112 = .func := by kernel_rfl
@[simp] theorem ld_112 : ldInfo Tryz.prog 112 = some (false, 1) := by kernel_rfl
@[simp] theorem z_112 : zeroL Tryz.prog 112 = some [.lit .nilFunc] := by kernel_rfl
@[simp] theorem tk_113 : tk Tryz.prog 113 = .func := by kernel_rfl
@[simp] theorem ld_113 : ldInfo Tryz.prog 113 = some (false, 1) := by kernel_rfl
@[simp] theorem z_113 : zeroL Tryz.prog 113 = some [.lit .nilFunc] := by kernel_rfl
@[simp] theorem tk_114 : tk Tryz.prog 114 = .func := by kernel_rfl
@[simp] theorem ld_114 : ldInfo Tryz.prog 114 = some (false, 1) := by kernel_rfl
@[simp] theorem z_114 : zeroL Tryz.prog 114 = some [.lit .nilFunc] := by kernel_rfl
@[simp] theorem tk_115 : tk Tryz.prog 115 = .func := by kernel_rfl
@[simp] theorem ld_115 : ldInfo Tryz.prog 115 = some (false, 1) := by kernel_rfl
@[simp] theorem z_115 : zeroL Tryz.prog 115 = some [.lit .nilFunc] := by kernel_rfl
@[simp] theorem tk_116 : tk Tryz.prog 116 = .func := by kernel_rfl
@[simp] theorem ld_116 : ldInfo Tryz.prog 116 = some (false, 1) := by kernel_rfl
@[simp] theorem z_116 : zeroL Tryz.prog 116 = some [.lit .nilFunc] := by kernel_rfl
@[simp] theorem tk_117 : tk Tryz.prog 117 = .func := by kernel_rfl
@[simp] theorem ld_117 : ldInfo Tryz.prog 117 = some (false, 1) := by kernel_rfl
@[simp] theorem z_117 : zeroL Tryz.prog 117 = some [.lit .nilFunc] := by kernel_rfl
@[simp] theorem ld_118 : ldInfo Tryz.prog 118 = some (true, 4) := by kernel_rfl
@[simp] theorem z_118 : zeroL Tryz.prog 118 = some [.lit (.int .i64 0), .lit (.int .i64 0), .lit (.int .i64 0), .lit (.slice none 0 0)] := by kernel_rfl
@[simp] theorem zv_118 : zeroV Tryz.prog 118 = some [.lit (.int .i64 0), .lit (.int .i64 0), .lit (.int .i64 0), .lit (.slice none 0 0)] := by kernel_rfl
@[simp] theorem bi_118 : bInfo Tryz.prog 118 = some [(0, 4)] := by kernel_rfl
@[simp] theorem ld_119 : ldInfo Tryz.prog 119 = some (true, 4) := by kernel_rfl
@[simp] theorem z_119 : zeroL Tryz.prog 119 = some [.lit (.int .i64 0), .lit (.int .i64 0), .lit (.int .i64 0), .lit (.slice none 0 0)] := by kernel_rfl
@[simp] theorem zv_119 : zeroV Tryz.prog 119 = some [.lit (.int .i64 0), .lit (.int .i64 0), .lit (.int .i64 0), .lit (.slice none 0 0)] := by kernel_rfl
@[simp] theorem bi_119 : bInfo Tryz.prog 119 = some [(0, 4)] := by kernel_rfl
@[simp] theorem tk_120 : tk Tryz.prog 120 = .func := by kernel_rfl
@[simp] theorem ld_120 : ldInfo Tryz.prog 120 = some (false, 1) := by kernel_rfl
@[simp] theorem z_120 : zeroL Tryz.prog 120 = some [.lit .nilFunc] := by kernel_rfl
@[simp] theorem tk_121 : tk Tryz.prog 121 = .func := by kernel_rfl
@[simp] theorem ld_121 : ldInfo Tryz.prog 121 = some (false, 1) := by kernel_rfl
@[simp] theorem z_121 : zeroL Tryz.prog 121 = some [.lit .nilFunc] := by kernel_rfl
@[simp] theorem tk_122 : tk Tryz.prog 122 = .func := by kernel_rfl
@[simp] theorem ld_122 : ldInfo Tryz.prog 122 = some (false, 1) := by kernel_rfl
@[simp] theorem z_122 : zeroL Tryz.prog 122 = some [.lit .nilFunc] := by kernel_rfl
@[simp] theorem tk_123 : tk Tryz.prog 123 = .func := by kernel_rfl
@[simp] theorem ld_123 : ldInfo Tryz.prog 123 = some (false, 1) := by kernel_rfl
@[simp] theorem z_123 : zeroL Tryz.prog 123 = some [.lit .nilFunc] := by kernel_rfl
@[simp] theorem tk_124 : tk Tryz.prog 124 = .func := by kernel_rfl
@[simp] theorem ld_124 : ldInfo Tryz.prog 124 = some (false, 1) := by kernel_rfl
@[simp] theorem z_124 : zeroL Tryz.prog 124 = some [.lit .nilFunc] := by kernel_rfl
@[simp] theorem tk_125 : tk Tryz.prog 125 = .func := by kernel_rfl
@[simp] theorem ld_125 : ldInfo Tryz.prog 125 = some (false, 1) := by kernel_rfl
@[simp] theorem z_125 : zeroL Tryz.prog 125 = some [.lit .nilFunc] := by kernel_rfl
@[simp] theorem tk_126 : tk Tryz.prog 126 = .map := by kernel_rfl
@[simp] theorem ld_126 : ldInfo Tryz.prog 126 = some (false, 1) := by kernel_rfl
@[simp] theorem z_126 : zeroL Tryz.prog 126 = some [.lit (.map none)] := by kernel_rfl
@[simp] theorem mk_126 : mpKey Tryz.prog 126 = true := by kernel_rfl
@[simp] theorem mp_126 : mpInfo Tryz.prog 126 = some (.lit (.int .i64 0)) := by kernel_rfl
@[simp] theorem tk_127 : tk Tryz.prog 127 = .map := by kernel_rfl
@[simp] theorem ld_127 : ldInfo Tryz.prog 127 = some (false, 1) := by kernel_rfl
@[simp] theorem z_127 : zeroL Tryz.prog 127 = some [.lit (.map none)] := by kernel_rfl
@[simp] theorem mk_127 : mpKey Tryz.prog 127 = true := by kernel_rfl
@[simp] theorem mp_127 : mpInfo Tryz.prog 127 = some (.agg [.lit (.int .i64 0), .lit (.int .i64 0), .lit (.int .i64 0), .lit (.int .i64 0), .lit (.int .i64 0)]) := by kernel_rfl
@[simp] theorem tk_128 : tk Tryz.prog 128 = .func := by kernel_rfl
@[simp] theorem ld_128 : ldInfo Tryz.prog 128 = some (false, 1) := by kernel_rfl
@[simp] theorem z_128 : zeroL Tryz.prog 128 = some [.lit .nilFunc] := by kernel_rfl
@[simp] theorem ld_129 : ldInfo Tryz.prog 129 = some (false, 1) := by kernel_rfl
@[simp] theorem tk_130 : tk Tryz.prog 130 = .func := by kernel_rfl
@[simp] theorem ld_130 : ldInfo Tryz.prog 130 = some (false, 1) := by kernel_rfl
@[simp] theorem z_130 : zeroL Tryz.prog 130 = some [.lit .nilFunc] := by kernel_rfl
@[simp] theorem tk_131 : tk Tryz.prog 131 = .ptr := by kernel_rfl
@[simp] theorem ld_131 : ldInfo Tryz.prog 131 = some (false, 1) := by kernel_rfl
@[simp] theorem z_131 : zeroL Tryz.prog 131 = some [.lit (.pointer none)] := by kernel_rfl
@[simp] theorem ld_132 : ldInfo Tryz.prog 132 = some (false, 1) := by kernel_rfl
@[simp] theorem tk_133 : tk Tryz.prog 133 = .func := by kernel_rfl
@[simp] theorem ld_133 : ldInfo Tryz.prog 133 = some (false, 1) := by kernel_rfl
@[simp] theorem z_133 : zeroL Tryz.prog 133 = some [.lit .nilFunc] := by kernel_rfl
@[simp] theorem tk_134 : tk Tryz.prog 134 = .int := by kernel_rfl
@[simp] theorem ld_134 : ldInfo Tryz.prog 134 = some (false, 1) := by kernel_rfl
@[simp] theorem cv_134 : cvtK Tryz.prog 134 = some .u64 := by kernel_rfl
@[simp] theorem z_134 : zeroL Tryz.prog 134 = some [.lit (.int .u64 0)] := by kernel_rfl
@[simp] theorem ld_135 : ldInfo Tryz.prog 135 = some (false, 1) := by kernel_rfl
@[simp] theorem tk_136 : tk Tryz.prog 136 = .func := by kernel_rfl
@[simp] theorem ld_136 : ldInfo Tryz.prog 136 = some (false, 1) := by kernel_rfl
@[simp] theorem z_136 : zeroL Tryz.prog 136 = some [.lit .nilFunc] := by kernel_rfl
@[simp] theorem tk_137 : tk Tryz.prog 137 = .func := by kernel_rfl
@[simp] theorem ld_137 : ldInfo Tryz.prog 137 = some (false, 1) := by kernel_rfl
@[simp] theorem z_137 : zeroL Tryz.prog 137 = some [.lit .nilFunc] := by kernel_rfl
@[simp] theorem tk_138 : tk Tryz.prog 138 = .func := by kernel_rfl
@[simp] theorem ld_138 : ldInfo Tryz.prog 138 = some (false, 1) := by kernel_rfl
@[simp] theorem z_138 : zeroL Tryz.prog 138 = some [.lit .nilFunc] := by kernel_rfl
@[simp] theorem tk_139 : tk Tryz.prog 139 = .func := by kernel_rfl
@[simp] theorem ld_139 : ldInfo Tryz.prog 139 = some (false, 1) := by kernel_rfl
@[simp] theorem z_139 : zeroL Tryz.prog 139 = some [.lit .nilFunc] := by kernel_rfl
@[simp] theorem tk_140 : tk Tryz.prog 140 = .func := by kernel_rfl
@[simp] theorem ld_140 : ldInfo Tryz.prog 140 = some (false, 1) := by kernel_rfl
@[simp] theorem z_140 : zeroL Tryz.prog 140 = some [.lit .nilFunc] := by kernel_rfl
@[simp] theorem tk_141 : tk Tryz.prog 141 = .func := by kernel_rfl
@[simp] theorem ld_141 : ldInfo Tryz.prog 141 = some (false, 1) := by kernel_rfl
@[simp] theorem z_141 : zeroL Tryz.prog 141 = some [.lit .nilFunc] := by kernel_rfl
@[simp] theorem tk_142 : tk Tryz.prog 142 = .func := by kernel_rfl
@[simp] theorem ld_142 : ldInfo Tryz.prog 142 = some (false, 1) := by kernel_rfl
@[simp] theorem z_142 : zeroL Tryz.prog 142 = some [.lit .nilFunc] := by kernel_rfl
@[simp] theorem tk_143 : tk Tryz.prog 143 = .flat 4 := by kernel_rfl
@[simp] theorem ld_143 : ldInfo Tryz.prog 143 = some (true, 4) := by kernel_rfl
@[simp] theorem sln_143 : slSize Tryz.prog 143 = none := by kernel_rfl
@[simp] theorem ar_143 : arSize Tryz.prog 143 = some (4, 1) := by kernel_rfl
@[simp] theorem z_143 : zeroL Tryz.prog 143 = some [.lit (.int .i64 0), .lit (.int .i64 0), .lit (.int .i64 0), .lit (.int .i64 0)] := by kernel_rfl
@[simp] theorem zv_143 : zeroV Tryz.prog 143 = some [.lit (.int .i64 0), .lit (.int .i64 0), .lit (.int .i64 0), .lit (.int .i64 0)] := by kernel_rfl
@[simp] theorem bi_143 : bInfo Tryz.prog 143 = some [(0, 1), (1, 1), (2, 1), (3, 1)] := by kernel_rfl
@[simp] theorem ai_143 : arInfo Tryz.prog 143 = some (4, false, 1) := by kernel_rfl
@[simp] theorem tk_144 : tk Tryz.prog 144 = .func := by kernel_rfl
@[simp] theorem ld_144 : ldInfo Tryz.prog 144 = some (false, 1) := by kernel_rfl
@[simp] theorem z_144 : zeroL Tryz.prog 144 = some [.lit .nilFunc] := by kernel_rfl
@[simp] theorem ld_145 : ldInfo Tryz.prog 145 = some (false, 1) := by kernel_rfl
@[simp] theorem z_145 : zeroL Tryz.prog 145 = some [.lit (.pointer none)] := by kernel_rfl
@[simp] theorem tk_146 : tk Tryz.prog 146 = .func := by kernel_rfl
@[simp] theorem ld_146 : ldInfo Tryz.prog 146 = some (false, 1) := by kernel_rfl
@[simp] theorem z_146 : zeroL Tryz.prog 146 = some [.lit .nilFunc] := by kernel_rfl
@[simp] theorem tk_147 : tk Tryz.prog 147 = .func := by kernel_rfl
@[simp] theorem ld_147 : ldInfo Tryz.prog 147 = some (false, 1) := by kernel_rfl
@[simp] theorem z_147 : zeroL Tryz.prog 147 = some [.lit .nilFunc] := by kernel_rfl
@[simp] theorem tk_148 : tk Tryz.prog 148 = .func := by kernel_rfl
@[simp] theorem ld_148 : ldInfo Tryz.prog 148 = some (false, 1) := by kernel_rfl
@[simp] theorem z_148 : zeroL Tryz.prog 148 = some [.lit .nilFunc] := by kernel_rfl
@[simp] theorem tk_149 : tk Tryz.prog 149 = .func := by kernel_rfl
@[simp] theorem ld_149 : ldInfo Tryz.prog 149 = some (false, 1) := by kernel_rfl
@[simp] theorem z_149 : zeroL Tryz.prog 149 = some [.lit .nilFunc] := by kernel_rfl
@[simp] theorem tk_150 : tk Tryz.prog 150 = .int := by kernel_rfl
@[simp] theorem ld_150 : ldInfo Tryz.prog 150 = some (false, 1) := by kernel_rfl
@[simp] theorem cv_150 : cvtK Tryz.prog 150 = some .u32 := by kernel_rfl
@[simp] theorem z_150 : zeroL Tryz.prog 150 = some [.lit (.int .u32 0)] := by kernel_rfl
@[simp] theorem ld_151 : ldInfo Tryz.prog 151 = some (false, 1) := by kernel_rfl
@[simp] theorem tk_152 : tk Tryz.prog 152 = .func := by kernel_rfl
@[simp] theorem ld_152 : ldInfo Tryz.prog 152 = some (false, 1) := by kernel_rfl
@[simp] theorem z_152 : zeroL Tryz.prog 152 = some [.lit .nilFunc] := by kernel_rfl
@[simp] theorem tk_153 : tk Tryz.prog 153 = .int := by kernel_rfl
@[simp] theorem ld_153 : ldInfo Tryz.prog 153 = some (false, 1) := by kernel_rfl
@[simp] theorem cv_153 : cvtK Tryz.prog 153 = some .u64 := by kernel_rfl
@[simp] theorem z_153 : zeroL Tryz.prog 153 = some [.lit (.int .u64 0)] := by kernel_rfl
@[simp] theorem ld_154 : ldInfo Tryz.prog 154 = some (false, 1) := by kernel_rfl
@[simp] theorem tk_155 : tk Tryz.prog 155 = .func := by kernel_rfl
@[simp] theorem ld_155 : ldInfo Tryz.prog 155 = some (false, 1) := by kernel_rfl
@[simp] theorem z_155 : zeroL Tryz.prog 155 = some [.lit .nilFunc] := by kernel_rfl
@[simp] theorem tk_156 : tk Tryz.prog 156 = .func := by kernel_rfl
@[simp] theorem ld_156 : ldInfo Tryz.prog 156 = some (false, 1) := by kernel_rfl
@[simp] theorem z_156 : zeroL Tryz.prog 156 = some [.lit .nilFunc] := by kernel_rfl
@[simp] theorem tk_157 : tk Tryz.prog 157 = .flat 24 := by kernel_rfl
@[simp] theorem ld_157 : ldInfo Tryz.prog 157 = some (true, 24) := by kernel_rfl
@[simp] theorem sln_157 : slSize Tryz.prog 157 = none := by kernel_rfl
@[simp] theorem ar_157 : arSize Tryz.prog 157 = some (24, 1) := by kernel_rfl
@[simp] theorem z_157 : zeroL Tryz.prog 157 = some [.lit (.int .u8 0), .lit (.int .u8 0), .lit (.int .u8 0), .lit (.int .u8 0), .lit (.int .u8 0), .lit (.int .u8 0), .lit (.int .u8 0), .lit (.int .u8 0), .lit (.int .u8 0), .lit (.int .u8 0), .lit (.int .u8 0), .lit (.int .u8 0), .lit (.int .u8 0), .lit (.int .u8 0), .lit (.int .u8 0), .lit (.int .u8 0), .lit (.int .u8 0), .lit (.int .u8 0), .lit (.int .u8 0), .lit (.int .u8 0), .lit (.int .u8 0), .lit (.int .u8 0), .lit (.int .u8 0), .lit (.int .u8 0)] := by kernel_rfl
@[simp] theorem zv_157 : zeroV Tryz.prog 157 = some [.lit (.int .u8 0), .lit (.int .u8 0), .lit (.int .u8 0), .lit (.int .u8 0), .lit (.int .u8 0), .lit (.int .u8 0), .lit (.int .u8 0), .lit (.int .u8 0), .lit (.int .u8 0), .lit (.int .u8 0), .lit (.int .u8 0), .lit (.int .u8 0), .lit (.int .u8 0), .lit (.int .u8 0), .lit (.int .u8 0), .lit (.int .u8 0), .lit (.int .u8 0), .lit (.int .u8 0), .lit (.int .u8 0), .lit (.int .u8 0), .lit (.int .u8 0), .lit (.int .u8 0), .lit (.int .u8 0), .lit (.int .u8 0)] := by kernel_rfl
@[simp] theorem bi_157 : bInfo Tryz.prog 157 = some [(0, 1), (1, 1), (2, 1), (3, 1), (4, 1), (5, 1), (6, 1), (7, 1), (8, 1), (9, 1), (10, 1), (11, 1), (12, 1), (13, 1), (14, 1), (15, 1), (16, 1), (17, 1), (18, 1), (19, 1), (20, 1), (21, 1), (22, 1), (23, 1)] := by kernel_rfl
@[simp] theorem ai_157 : arInfo Tryz.prog 157 = some (24, false, 1) := by kernel_rfl
@[simp] theorem tk_158 : tk Tryz.prog 158 = .func := by kernel_rfl
@[simp] theorem ld_158 : ldInfo Tryz.prog 158 = some (false, 1) := by kernel_rfl
@[simp] theorem z_158 : zeroL Tryz.prog 158 = some [.lit .nilFunc] := by kernel_rfl
@[simp] theorem tk_159 : tk Tryz.prog 159 = .func := by kernel_rfl
@[simp] theorem ld_159 : ldInfo Tryz.prog 159 = some (false, 1) := by kernel_rfl
@[simp] theorem z_159 : zeroL Tryz.prog 159 = some [.lit .nilFunc] := by kernel_rfl
@[simp] theorem ld_160 : ldInfo Tryz.prog 160 = some (false, 1) := by kernel_rfl
@[simp] theorem tk_161 : tk Tryz.prog 161 = .func := by kernel_rfl
@[simp] theorem ld_161 : ldInfo Tryz.prog 161 = some (false, 1) := by kernel_rfl
@[simp] theorem z_161 : zeroL Tryz.prog 161 = some [.lit .nilFunc] := by kernel_rfl
@[simp] theorem tk_162 : tk Tryz.prog 162 = .func := by kernel_rfl
@[simp] theorem ld_162 : ldInfo Tryz.prog 162 = some (false, 1) := by kernel_rfl
@[simp] theorem z_162 : zeroL Tryz.prog 162 = some [.lit .nilFunc] := by kernel_rfl
@[simp] theorem tk_163 : tk Tryz.prog 163 = .func := by kernel_rfl
@[simp] theorem ld_163 : ldInfo Tryz.prog 163 = some (false, 1) := by kernel_rfl
@[simp] theorem z_163 : zeroL Tryz.prog 163 = some [.lit .nilFunc] := by kernel_rfl
@[simp] theorem tk_164 : tk Tryz.prog 164 = .flat 20 := by kernel_rfl
@[simp] theorem ld_164 : ldInfo Tryz.prog 164 = some (true, 20) := by kernel_rfl
@[simp] theorem sln_164 : slSize Tryz.prog 164 = none := by kernel_rfl
@[simp] theorem ar_164 : arSize Tryz.prog 164 = some (20, 1) := by kernel_rfl
@[simp] theorem z_164 : zeroL Tryz.prog 164 = some [.lit (.int .u64 0), .lit (.int .u64 0), .lit (.int .u64 0), .lit (.int .u64 0), .lit (.int .u64 0), .lit (.int .u64 0), .lit (.int .u64 0), .lit (.int .u64 0), .lit (.int .u64 0), .lit (.int .u64 0), .lit (.int .u64 0), .lit (.int .u64 0), .lit (.int .u64 0), .lit (.int .u64 0), .lit (.int .u64 0), .lit (.int .u64 0), .lit (.int .u64 0), .lit (.int .u64 0), .lit (.int .u64 0), .lit (.int .u64 0)] := by kernel_rfl
@[simp] theorem zv_164 : zeroV Tryz.prog 164 = some [.lit (.int .u64 0), .lit (.int .u64 0), .lit (.int .u64 0), .lit (.int .u64 0), .lit (.int .u64 0), .lit (.int .u64 0), .lit (.int .u64 0), .lit (.int .u64 0), .lit (.int .u64 0), .lit (.int .u64 0), .lit (.int .u64 0), .lit (.int .u64 0), .lit (.int .u64 0), .lit (.int .u64 0), .lit (.int .u64 0), .lit (.int .u64 0), .lit (.int .u64 0), .lit (.int .u64 0), .lit (.int .u64 0), .lit (.int .u64 0)] := by kernel_rfl
@[simp] theorem bi_164 : bInfo Tryz.prog 164 = some [(0, 1), (1, 1), (2, 1), (3, 1), (4, 1), (5, 1), (6, 1), (7, 1), (8, 1), (9, 1), (10, 1), (11, 1), (12, 1), (13, 1), (14, 1), (15, 1), (16, 1), (17, 1), (18, 1), (19, 1)] := by kernel_rfl
@[simp] theorem ai_164 : arInfo Tryz.prog 164 = some (20, false, 1) := by kernel_rfl
@[simp] theorem tk_165 : tk Tryz.prog 165 = .flat 65 := by kernel_rfl
@[simp] theorem ld_165 : ldInfo Tryz.prog 165 = some (true, 65) := by kernel_rfl
@[simp] theorem sln_165 : slSize Tryz.prog 165 = none := by kernel_rfl
@[simp] theorem ar_165 : arSize Tryz.prog 165 = some (65, 1) := by kernel_rfl
@[simp] theorem z_165 : zeroL Tryz.prog 165 = some [.lit (.int .u8 0), .lit (.int .u8 0), .lit (.int .u8 0), .lit (.int .u8 0), .lit (.int .u8 0), .lit (.int .u8 0), .lit (.int .u8 0), .lit (.int .u8 0), .lit (.int .u8 0), .lit (.int .u8 0), .lit (.int .u8 0), .lit (.int .u8 0), .lit (.int .u8 0), .lit (.int .u8 0), .lit (.int .u8 0), .lit (.int .u8 0), .lit (.int .u8 0), .lit (.int .u8 0), .lit (.int .u8 0), .lit (.int .u8 0), .lit (.int .u8 0), .lit (.int .u8 0), .lit (.int .u8 0), .lit (.int .u8 0), .lit (.int .u8 0), .lit (.int .u8 0), .lit (.int .u8 0), .lit (.int .u8 0), .lit (.int .u8 0), .lit (.int .u8 0), .lit (.int .u8 0), .lit (.int .u8 0), .lit (.int .u8 0), .lit (.int .u8 0), .lit (.int .u8 0), .lit (.int .u8 0), .lit (.int .u8 0), .lit (.int .u8 0), .lit (.int .u8 0), .lit (.int .u8 0), .lit (.int .u8 0), .lit (.int .u8 0), .lit (.int .u8 0), .lit (.int .u8 0), .lit (.int .u8 0), .lit (.int .u8 0), .lit (.int .u8 0), .lit (.int .u8 0), .lit (.int .u8 0), .lit (.int .u8 0), .lit (.int .u8 0), .lit (.int .u8 0), .lit (.int .u8 0), .lit (.int .u8 0), .lit (.int .u8 0), .lit (.int .u8 0), .lit (.int .u8 0), .lit (.int .u8 0), .lit (.int .u8 0), .lit (.int .u8 0), .lit (.int .u8 0), .lit (.int .u8 0), .lit (.int .u8 0), .lit (.int .u8 0), .lit (.int .u8 0)] := by kernel_rfl
@[simp] theorem zv_165 : zeroV Tryz.prog 165 = some [.lit (.int .u8 0), .lit (.int .u8 0), .lit (.int .u8 0), .lit (.int .u8 0), .lit (.int .u8 0), .lit (.int .u8 0), .lit (.int .u8 0), .lit (.int .u8 0), .lit (.int .u8 0), .lit (.int .u8 0), .lit (.int .u8 0), .lit (.int .u8 0), .lit (.int .u8 0), .lit (.int .u8 0), .lit (.int .u8 0), .lit (.int .u8 0), .lit (.int .u8 0), .lit (.int .u8 0), .lit (.int .u8 0), .lit (.int .u8 0), .lit (.int .u8 0), .lit (.int .u8 0), .lit (.int .u8 0), .lit (.int .u8 0), .lit (.int .u8 0), .lit (.int .u8 0), .lit (.int .u8 0), .lit (.int .u8 0), .lit (.int .u8 0), .lit (.int .u8 0), .lit (.int .u8 0), .lit (.int .u8 0), .lit (.int .u8 0), .lit (.int .u8 0), .lit (.int .u8 0), .lit (.int .u8 0), .lit (.int .u8 0), .lit (.int .u8 0), .lit (.int .u8 0), .lit (.int .u8 0), .lit (.int .u8 0), .lit (.int .u8 0), .lit (.int .u8 0), .lit (.int .u8 0), .lit (.int .u8 0), .lit (.int .u8 0), .lit (.int .u8 0), .lit (.int .u8 0), .lit (.int .u8 0), .lit (.int .u8 0), .lit (.int .u8 0), .lit (.int .u8 0), .lit (.int .u8 0), .lit (.int .u8 0), .lit (.int .u8 0), .lit (.int .u8 0), .lit (.int .u8 0), .lit (.int .u8 0), .lit (.int .u8 0), .lit (.int .u8 0), .lit (.int .u8 0), .lit (.int .u8 0), .lit (.int .u8 0), .lit (.int .u8 0), .lit (.int .u8 0)] := by kernel_rfl
@[simp] theorem bi_165 : bInfo Tryz.prog 165 = some [(0, 1), (1, 1), (2, 1), (3, 1), (4, 1), (5, 1), (6, 1), (7, 1), (8, 1), (9, 1), (10, 1), (11, 1), (12, 1), (13, 1), (14, 1), (15, 1), (16, 1), (17, 1), (18, 1), (19, 1), (20, 1), (21, 1), (22, 1), (23, 1), (24, 1), (25, 1), (26, 1), (27, 1), (28, 1), (29, 1), (30, 1), (31, 1), (32, 1), (33, 1), (34, 1), (35, 1), (36, 1), (37, 1), (38, 1), (39, 1), (40, 1), (41, 1), (42, 1), (43, 1), (44, 1), (45, 1), (46, 1), (47, 1), (48, 1), (49, 1), (50, 1), (51, 1), (52, 1), (53, 1), (54, 1), (55, 1), (56, 1), (57, 1), (58, 1), (59, 1), (60, 1), (61, 1), (62, 1), (63, 1), (64, 1)] := by kernel_rfl
@[simp] theorem ai_165 : arInfo Tryz.prog 165 = some (65, false, 1) := by kernel_rfl
@[simp] theorem tk_166 : tk Tryz.prog 166 = .func := by kernel_rfl
@[simp] theorem ld_166 : ldInfo Tryz.prog 166 = some (false, 1) := by kernel_rfl
@[simp] theorem z_166 : zeroL Tryz.prog 166 = some [.lit .nilFunc] := by kernel_rfl
@[simp] theorem tk_167 : tk Tryz.prog 167 = .func := by kernel_rfl
@[simp] theorem ld_167 : ldInfo Tryz.prog 167 = some (false, 1) := by kernel_rfl
@[simp] theorem z_167 : zeroL Tryz.prog 167 = some [.lit .nilFunc] := by kernel_rfl
@[simp] theorem tk_168 : tk Tryz.prog 168 = .flat 32 := by kernel_rfl
@[simp] theorem ld_168 : ldInfo Tryz.prog 168 = some (true, 32) := by kernel_rfl
@[simp] theorem sln_168 : slSize Tryz.prog 168 = none := by kernel_rfl
@[simp] theorem ar_168 : arSize Tryz.prog 168 = some (32, 1) := by kernel_rfl
@[simp] theorem z_168 : zeroL Tryz.prog 168 = some [.lit (.int .u8 0), .lit (.int .u8 0), .lit (.int .u8 0), .lit (.int .u8 0), .lit (.int .u8 0), .lit (.int .u8 0), .lit (.int .u8 0), .lit (.int .u8 0), .lit (.int .u8 0), .lit (.int .u8 0), .lit (.int .u8 0), .lit (.int .u8 0), .lit (.int .u8 0), .lit (.int .u8 0), .lit (.int .u8 0), .lit (.int .u8 0), .lit (.int .u8 0), .lit (.int .u8 0), .lit (.int .u8 0), .lit (.int .u8 0), .lit (.int .u8 0), .lit (.int .u8 0), .lit (.int .u8 0), .lit (.int .u8 0), .lit (.int .u8 0), .lit (.int .u8 0), .lit (.int .u8 0), .lit (.int .u8 0), .lit (.int .u8 0), .lit (.int .u8 0), .lit (.int .u8 0), .lit (.int .u8 0)] := by kernel_rfl
@[simp] theorem zv_168 : zeroV Tryz.prog 168 = some [.lit (.int .u8 0), .lit (.int .u8 0), .lit (.int .u8 0), .lit (.int .u8 0), .lit (.int .u8 0), .lit (.int .u8 0), .lit (.int .u8 0), .lit (.int .u8 0), .lit (.int .u8 0), .lit (.int .u8 0), .lit (.int .u8 0), .lit (.int .u8 0), .lit (.int .u8 0), .lit (.int .u8 0), .lit (.int .u8 0), .lit (.int .u8 0), .lit (.int .u8 0), .lit (.int .u8 0), .lit (.int .u8 0), .lit (.int .u8 0), .lit (.int .u8 0), .lit (.int .u8 0), .lit (.int .u8 0), .lit (.int .u8 0), .lit (.int .u8 0), .lit (.int .u8 0), .lit (.int .u8 0), .lit (.int .u8 0), .lit (.int .u8 0), .lit (.int .u8 0), .lit (.int .u8 0), .lit (.int .u8 0)] := by kernel_rfl
@[simp] theorem bi_168 : bInfo Tryz.prog 168 = some [(0, 1), (1, 1), (2, 1), (3, 1), (4, 1), (5, 1), (6, 1), (7, 1), (8, 1), (9, 1), (10, 1), (11, 1), (12, 1), (13, 1), (14, 1), (15, 1), (16, 1), (17, 1), (18, 1), (19, 1), (20, 1), (21, 1), (22, 1), (23, 1), (24, 1), (25, 1), (26, 1), (27, 1), (28, 1), (29, 1), (30, 1), (31, 1)] := by kernel_rfl
@[simp] theorem ai_168 : arInfo Tryz.prog 168 = some (32, false, 1) := by kernel_rfl
@[simp] theorem tk_169 : tk Tryz.prog 169 = .flat 64 := by kernel_rfl
@[simp] theorem ld_169 : ldInfo Tryz.prog 169 = some (true, 64) := by kernel_rfl
@[simp] theorem sln_169 : slSize Tryz.prog 169 = none := by kernel_rfl
@[simp] theorem ar_169 : arSize Tryz.prog 169 = some (64, 1) := by kernel_rfl
@[simp] theorem z_169 : zeroL Tryz.prog 169 = some [.lit (.int .u8 0), .lit (.int .u8 0), .lit (.int .u8 0), .lit (.int .u8 0), .lit (.int .u8 0), .lit (.int .u8 0), .lit (.int .u8 0), .lit (.int .u8 0), .lit (.int .u8 0), .lit (.int .u8 0), .lit (.int .u8 0), .lit (.int .u8 0), .lit (.int .u8 0), .lit (.int .u8 0), .lit (.int .u8 0), .lit (.int .u8 0), .lit (.int .u8 0), .lit (.int .u8 0), .lit (.int .u8 0), .lit (.int .u8 0), .lit (.int .u8 0), .lit (.int .u8 0), .lit (.int .u8 0), .lit (.int .u8 0), .lit (.int .u8 0), .lit (.int .u8 0), .lit (.int .u8 0), .lit (.int .u8 0), .lit (.int .u8 0), .lit (.int .u8 0), .lit (.int .u8 0), .lit (.int .u8 0), .lit (.int .u8 0), .lit (.int .u8 0), .lit (.int .u8 0), .lit (.int .u8 0), .lit (.int .u8 0), .lit (.int .u8 0), .lit (.int .u8 0), .lit (.int .u8 0), .lit (.int .u8 0), .lit (.int .u8 0), .lit (.int .u8 0), .lit (.int .u8 0), .lit (.int .u8 0), .lit (.int .u8 0), .lit (.int .u8 0), .lit (.int .u8 0), .lit (.int .u8 0), .lit (.int .u8 0), .lit (.int .u8 0), .lit (.int .u8 0), .lit (.int .u8 0), .lit (.int .u8 0), .lit (.int .u8 0), .lit (.int .u8 0), .lit (.int .u8 0), .lit (.int .u8 0), .lit (.int .u8 0), .lit (.int .u8 0), .lit (.int .u8 0), .lit (.int .u8 0), .lit (.int .u8 0), .lit (.int .u8 0)] := by kernel_rfl
@[simp] theorem zv_169 : zeroV Tryz.prog 169 = some [.lit (.int .u8 0), .lit (.int .u8 0), .lit (.int .u8 0), .lit (.int .u8 0), .lit (.int .u8 0), .lit (.int .u8 0), .lit (.int .u8 0), .lit (.int .u8 0), .lit (.int .u8 0), .lit (.int .u8 0), .lit (.int .u8 0), .lit (.int .u8 0), .lit (.int .u8 0), .lit (.int .u8 0), .lit (.int .u8 0), .lit (.int .u8 0), .lit (.int .u8 0), .lit (.int .u8 0), .lit (.int .u8 0), .lit (.int .u8 0), .lit (.int .u8 0), .lit (.int .u8 0), .lit (.int .u8 0), .lit (.int .u8 0), .lit (.int .u8 0), .lit (.int .u8 0), .lit (.int .u8 0), .lit (.int .u8 0), .lit (.int .u8 0), .lit (.int .u8 0), .lit (.int .u8 0), .lit (.int .u8 0), .lit (.int .u8 0), .lit (.int .u8 0), .lit (.int .u8 0), .lit (.int .u8 0), .lit (.int .u8 0), .lit (.int .u8 0), .lit (.int .u8 0), .lit (.int .u8 0), .lit (.int .u8 0), .lit (.int .u8 0), .lit (.int .u8 0), .lit (.int .u8 0), .lit (.int .u8 0), .lit (.int .u8 0), .lit (.int .u8 0), .lit (.int .u8 0), .lit (.int .u8 0), .lit (.int .u8 0), .lit (.int .u8 0), .lit (.int .u8 0), .lit (.int .u8 0), .lit (.int .u8 0), .lit (.int .u8 0), .lit (.int .u8 0), .lit (.int .u8 0), .lit (.int .u8 0), .lit (.int .u8 0), .lit (.int .u8 0), .lit (.int .u8 0), .lit (.int .u8 0), .lit (.int .u8 0), .lit (.int .u8 0)] := by kernel_rfl
@[simp] theorem bi_169 : bInfo Tryz.prog 169 = some [(0, 1), (1, 1), (2, 1), (3, 1), (4, 1), (5, 1), (6, 1), (7, 1), (8, 1), (9, 1), (10, 1), (11, 1), (12, 1), (13, 1), (14, 1), (15, 1), (16, 1), (17, 1), (18, 1), (19, 1), (20, 1), (21, 1), (22, 1), (23, 1), (24, 1), (25, 1), (26, 1), (27, 1), (28, 1), (29, 1), (30, 1), (31, 1), (32, 1), (33, 1), (34, 1), (35, 1), (36, 1), (37, 1), (38, 1), (39, 1), (40, 1), (41, 1), (42, 1), (43, 1), (44, 1), (45, 1), (46, 1), (47, 1), (48, 1), (49, 1), (50, 1), (51, 1), (52, 1), (53, 1), (54, 1), (55, 1), (56, 1), (57, 1), (58, 1), (59, 1), (60, 1), (61, 1), (62, 1), (63, 1)] := by kernel_rfl
@[simp] theorem ai_169 : arInfo Tryz.prog 169 = some (64, false, 1) := by kernel_rfl
@[simp] theorem ld_170 : ldInfo Tryz.prog 170 = some (true, 4) := by kernel_rfl
@[simp] theorem z_170 : zeroL Tryz.prog 170 = some [.lit (.pointer none), .lit (.pointer none), .lit (.pointer none), .lit (.string ByteArray.empty)] := by kernel_rfl
@[simp] theorem zv_170 : zeroV Tryz.prog 170 = some [.lit (.pointer none), .lit (.pointer none), .lit (.pointer none), .lit (.string ByteArray.empty)] := by kernel_rfl
@[simp] theorem bi_170 : bInfo Tryz.prog 170 = some [(0, 1), (1, 1), (2, 1), (3, 1)] := by kernel_rfl
@[simp] theorem ld_171 : ldInfo Tryz.prog 171 = some (true, 4) := by kernel_rfl
@[simp] theorem z_171 : zeroL Tryz.prog 171 = some [.lit (.pointer none), .lit (.pointer none), .lit (.pointer none), .lit (.string ByteArray.empty)] := by kernel_rfl
@[simp] theorem zv_171 : zeroV Tryz.prog 171 = some [.lit (.pointer none), .lit (.pointer none), .lit (.pointer none), .lit (.string ByteArray.empty)] := by kernel_rfl
@[simp] theorem bi_171 : bInfo Tryz.prog 171 = some [(0, 1), (1, 1), (2, 1), (3, 1)] := by kernel_rfl
@[simp] theorem ld_172 : ldInfo Tryz.prog 172 = some (true, 0) := by kernel_rfl
@[simp] theorem sln_172 : slSize Tryz.prog 172 = none := by kernel_rfl
@[simp] theorem ar_172 : arSize Tryz.prog 172 = some (0, 1) := by kernel_rfl
@[simp] theorem z_172 : zeroL Tryz.prog 172 = some [] := by kernel_rfl
@[simp] theorem zv_172 : zeroV Tryz.prog 172 = some [] := by kernel_rfl
@[simp] theorem bi_172 : bInfo Tryz.prog 172 = some [] := by kernel_rfl
@[simp] theorem ai_172 : arInfo Tryz.prog 172 = some (0, false, 1) := by kernel_rfl
@[simp] theorem ld_173 : ldInfo Tryz.prog 173 = some (true, 0) := by kernel_rfl
@[simp] theorem z_173 : zeroL Tryz.prog 173 = some [] := by kernel_rfl
@[simp] theorem zv_173 : zeroV Tryz.prog 173 = some [] := by kernel_rfl
@[simp] theorem bi_173 : bInfo Tryz.prog 173 = some [(0, 0)] := by kernel_rfl
@[simp] theorem ld_174 : ldInfo Tryz.prog 174 = some (true, 0) := by kernel_rfl
@[simp] theorem z_174 : zeroL Tryz.prog 174 = some [] := by kernel_rfl
@[simp] theorem zv_174 : zeroV Tryz.prog 174 = some [] := by kernel_rfl
@[simp] theorem bi_174 : bInfo Tryz.prog 174 = some [(0, 0)] := by kernel_rfl
@[simp] theorem tk_175 : tk Tryz.prog 175 = .func := by kernel_rfl
@[simp] theorem ld_175 : ldInfo Tryz.prog 175 = some (false, 1) := by kernel_rfl
@[simp] theorem z_175 : zeroL Tryz.prog 175 = some [.lit .nilFunc] := by kernel_rfl
@[simp] theorem tk_176 : tk Tryz.prog 176 = .int := by kernel_rfl
@[simp] theorem ld_176 : ldInfo Tryz.prog 176 = some (false, 1) := by kernel_rfl
@[simp] theorem cv_176 : cvtK Tryz.prog 176 = some .u8 := by kernel_rfl
@[simp] theorem z_176 : zeroL Tryz.prog 176 = some [.lit (.int .u8 0)] := by kernel_rfl
@[simp] theorem tk_177 : tk Tryz.prog 177 = .int := by kernel_rfl
@[simp] theorem ld_177 : ldInfo Tryz.prog 177 = some (false, 1) := by kernel_rfl
@[simp] theorem cv_177 : cvtK Tryz.prog 177 = some .u8 := by kernel_rfl
@[simp] theorem z_177 : zeroL Tryz.prog 177 = some [.lit (.int .u8 0)] := by kernel_rfl
@[simp] theorem tk_178 : tk Tryz.prog 178 = .func := by kernel_rfl
@[simp] theorem ld_178 : ldInfo Tryz.prog 178 = some (false, 1) := by kernel_rfl
@[simp] theorem z_178 : zeroL Tryz.prog 178 = some [.lit .nilFunc] := by kernel_rfl
@[simp] theorem tk_179 : tk Tryz.prog 179 = .int := by kernel_rfl
@[simp] theorem ld_179 : ldInfo Tryz.prog 179 = some (false, 1) := by kernel_rfl
@[simp] theorem cv_179 : cvtK Tryz.prog 179 = some .i32 := by kernel_rfl
@[simp] theorem z_179 : zeroL Tryz.prog 179 = some [.lit (.int .i32 0)] := by kernel_rfl
@[simp] theorem tk_180 : tk Tryz.prog 180 = .int := by kernel_rfl
@[simp] theorem ld_180 : ldInfo Tryz.prog 180 = some (false, 1) := by kernel_rfl
@[simp] theorem cv_180 : cvtK Tryz.prog 180 = some .i32 := by kernel_rfl
@[simp] theorem z_180 : zeroL Tryz.prog 180 = some [.lit (.int .i32 0)] := by kernel_rfl
@[simp] theorem ld_181 : ldInfo Tryz.prog 181 = some (true, 11) := by kernel_rfl
@[simp] theorem z_181 : zeroL Tryz.prog 181 = some [.lit (.int .u64 0), .lit (.int .u64 0), .lit (.int .u32 0), .lit (.int .u8 0), .lit (.int .u8 0), .lit (.int .u8 0), .lit (.int .u8 0), .lit .nilFunc, .lit (.pointer none), .lit (.int .i32 0), .lit (.int .i32 0)] := by kernel_rfl
@[simp] theorem zv_181 : zeroV Tryz.prog 181 = some [.lit (.int .u64 0), .lit (.int .u64 0), .lit (.int .u32 0), .lit (.int .u8 0), .lit (.int .u8 0), .lit (.int .u8 0), .lit (.int .u8 0), .lit .nilFunc, .lit (.pointer none), .lit (.int .i32 0), .lit (.int .i32 0)] := by kernel_rfl
@[simp] theorem bi_181 : bInfo Tryz.prog 181 = some [(0, 1), (1, 1), (2, 1), (3, 1), (4, 1), (5, 1), (6, 1), (7, 1), (8, 1), (9, 1), (10, 1)] := by kernel_rfl
@[simp] theorem ld_182 : ldInfo Tryz.prog 182 = some (true, 11) := by kernel_rfl
@[simp] theorem z_182 : zeroL Tryz.prog 182 = some [.lit (.int .u64 0), .lit (.int .u64 0), .lit (.int .u32 0), .lit (.int .u8 0), .lit (.int .u8 0), .lit (.int .u8 0), .lit (.int .u8 0), .lit .nilFunc, .lit (.pointer none), .lit (.int .i32 0), .lit (.int .i32 0)] := by kernel_rfl
@[simp] theorem zv_182 : zeroV Tryz.prog 182 = some [.lit (.int .u64 0), .lit (.int .u64 0), .lit (.int .u32 0), .lit (.int .u8 0), .lit (.int .u8 0), .lit (.int .u8 0), .lit (.int .u8 0), .lit .nilFunc, .lit (.pointer none), .lit (.int .i32 0), .lit (.int .i32 0)] := by kernel_rfl
@[simp] theorem bi_182 : bInfo Tryz.prog 182 = some [(0, 1), (1, 1), (2, 1), (3, 1), (4, 1), (5, 1), (6, 1), (7, 1), (8, 1), (9, 1), (10, 1)] := by kernel_rfl
@[simp] theorem fo_7_0 : fOff Tryz.prog 7 0 = some 0 := by kernel_rfl
@[simp] theorem fi_7_0 : fldInfo Tryz.prog 7 0 = some (0, false, 1) := by kernel_rfl
@[simp] theorem fo_7_1 : fOff Tryz.prog 7 1 = some 1 := by kernel_rfl
@[simp] theorem fi_7_1 : fldInfo Tryz.prog 7 1 = some (1, false, 1) := by kernel_rfl
@[simp] theorem fo_7_2 : fOff Tryz.prog 7 2 = some 2 := by kernel_rfl
@[simp] theorem fi_7_2 : fldInfo Tryz.prog 7 2 = some (2, false, 1) := by kernel_rfl
@[simp] theorem fo_7_3 : fOff Tryz.prog 7 3 = some 3 := by kernel_rfl
@[simp] theorem fi_7_3 : fldInfo Tryz.prog 7 3 = some (3, false, 1) := by kernel_rfl
@[simp] theorem fo_8_0 : fOff Tryz.prog 8 0 = some 0 := by kernel_rfl
@[simp] theorem fi_8_0 : fldInfo Tryz.prog 8 0 = some (0, false, 1) := by kernel_rfl
@[simp] theorem fo_8_1 : fOff Tryz.prog 8 1 = some 1 := by kernel_rfl
@[simp] theorem fi_8_1 : fldInfo Tryz.prog 8 1 = some (1, false, 1) := by kernel_rfl
@[simp] theorem fo_8_2 : fOff Tryz.prog 8 2 = some 2 := by kernel_rfl
@[simp] theorem fi_8_2 : fldInfo Tryz.prog 8 2 = some (2, false, 1) := by kernel_rfl
@[simp] theorem fo_8_3 : fOff Tryz.prog 8 3 = some 3 := by kernel_rfl
@[simp] theorem fi_8_3 : fldInfo Tryz.prog 8 3 = some (3, false, 1) := by kernel_rfl
@[simp] theorem fo_13_0 : fOff Tryz.prog 13 0 = some 0 := by kernel_rfl
@[simp] theorem fi_13_0 : fldInfo Tryz.prog 13 0 = some (0, false, 1) := by kernel_rfl
@[simp] theorem fo_13_1 : fOff Tryz.prog 13 1 = some 1 := by kernel_rfl
@[simp] theorem fi_13_1 : fldInfo Tryz.prog 13 1 = some (1, false, 1) := by kernel_rfl
@[simp] theorem fo_14_0 : fOff Tryz.prog 14 0 = some 0 := by kernel_rfl
@[simp] theorem fi_14_0 : fldInfo Tryz.prog 14 0 = some (0, false, 1) := by kernel_rfl
@[simp] theorem fo_14_1 : fOff Tryz.prog 14 1 = some 1 := by kernel_rfl
@[simp] theorem fi_14_1 : fldInfo Tryz.prog 14 1 = some (1, false, 1) := by kernel_rfl
@[simp] theorem fo_18_0 : fOff Tryz.prog 18 0 = some 0 := by kernel_rfl
@[simp] theorem fi_18_0 : fldInfo Tryz.prog 18 0 = some (0, false, 1) := by kernel_rfl
@[simp] theorem fo_19_0 : fOff Tryz.prog 19 0 = some 0 := by kernel_rfl
@[simp] theorem fi_19_0 : fldInfo Tryz.prog 19 0 = some (0, false, 1) := by kernel_rfl
@[simp] theorem fo_23_0 : fOff Tryz.prog 23 0 = some 0 := by kernel_rfl
@[simp] theorem fi_23_0 : fldInfo Tryz.prog 23 0 = some (0, false, 1) := by kernel_rfl
@[simp] theorem fo_23_1 : fOff Tryz.prog 23 1 = some 1 := by kernel_rfl
@[simp] theorem fi_23_1 : fldInfo Tryz.prog 23 1 = some (1, false, 1) := by kernel_rfl
@[simp] theorem fo_23_2 : fOff Tryz.prog 23 2 = some 2 := by kernel_rfl
@[simp] theorem fi_23_2 : fldInfo Tryz.prog 23 2 = some (2, false, 1) := by kernel_rfl
@[simp] theorem fo_23_3 : fOff Tryz.prog 23 3 = some 3 := by kernel_rfl
@[simp] theorem fi_23_3 : fldInfo Tryz.prog 23 3 = some (3, false, 1) := by kernel_rfl
@[simp] theorem fo_24_0 : fOff Tryz.prog 24 0 = some 0 := by kernel_rfl
@[simp] theorem fi_24_0 : fldInfo Tryz.prog 24 0 = some (0, false, 1) := by kernel_rfl
@[simp] theorem fo_24_1 : fOff Tryz.prog 24 1 = some 1 := by kernel_rfl
@[simp] theorem fi_24_1 : fldInfo Tryz.prog 24 1 = some (1, false, 1) := by kernel_rfl
@[simp] theorem fo_24_2 : fOff Tryz.prog 24 2 = some 2 := by kernel_rfl
@[simp] theorem fi_24_2 : fldInfo Tryz.prog 24 2 = some (2, false, 1) := by kernel_rfl
@[simp] theorem fo_24_3 : fOff Tryz.prog 24 3 = some 3 := by kernel_rfl
@[simp] theorem fi_24_3 : fldInfo Tryz.prog 24 3 = some (3, false, 1) := by kernel_rfl
@[simp] theorem fo_27_0 : fOff Tryz.prog 27 0 = some 0 := by kernel_rfl
@[simp] theorem fi_27_0 : fldInfo Tryz.prog 27 0 = some (0, false, 1) := by kernel_rfl
@[simp] theorem fo_27_1 : fOff Tryz.prog 27 1 = some 1 := by kernel_rfl
@[simp] theorem fi_27_1 : fldInfo Tryz.prog 27 1 = some (1, false, 1) := by kernel_rfl
@[simp] theorem fo_28_0 : fOff Tryz.prog 28 0 = some 0 := by kernel_rfl
@[simp] theorem fi_28_0 : fldInfo Tryz.prog 28 0 = some (0, false, 1) := by kernel_rfl
@[simp] theorem fo_28_1 : fOff Tryz.prog 28 1 = some 1 := by kernel_rfl
@[simp] theorem fi_28_1 : fldInfo Tryz.prog 28 1 = some (1, false, 1) := by kernel_rfl
@[simp] theorem fo_43_0 : fOff Tryz.prog 43 0 = some 0 := by kernel_rfl
@[simp] theorem fi_43_0 : fldInfo Tryz.prog 43 0 = some (0, false, 1) := by kernel_rfl
@[simp] theorem fo_43_1 : fOff Tryz.prog 43 1 = some 1 := by kernel_rfl
@[simp] theorem fi_43_1 : fldInfo Tryz.prog 43 1 = some (1, false, 1) := by kernel_rfl
@[simp] theorem fo_43_2 : fOff Tryz.prog 43 2 = some 2 := by kernel_rfl
@[simp] theorem fi_43_2 : fldInfo Tryz.prog 43 2 = some (2, false, 1) := by kernel_rfl
@[simp] theorem fo_43_3 : fOff Tryz.prog 43 3 = some 3 := by kernel_rfl
@[simp] theorem fi_43_3 : fldInfo Tryz.prog 43 3 = some (3, false, 1) := by kernel_rfl
@[simp] theorem fo_43_4 : fOff Tryz.prog 43 4 = some 4 := by kernel_rfl
@[simp] theorem fi_43_4 : fldInfo Tryz.prog 43 4 = some (4, false, 1) := by kernel_rfl
@[simp] theorem fo_44_0 : fOff Tryz.prog 44 0 = some 0 := by kernel_rfl
@[simp] theorem fi_44_0 : fldInfo Tryz.prog 44 0 = some (0, false, 1) := by kernel_rfl
@[simp] theorem fo_44_1 : fOff Tryz.prog 44 1 = some 1 := by kernel_rfl
@[simp] theorem fi_44_1 : fldInfo Tryz.prog 44 1 = some (1, false, 1) := by kernel_rfl
@[simp] theorem fo_44_2 : fOff Tryz.prog 44 2 = some 2 := by kernel_rfl
@[simp] theorem fi_44_2 : fldInfo Tryz.prog 44 2 = some (2, false, 1) := by kernel_rfl
@[simp] theorem fo_44_3 : fOff Tryz.prog 44 3 = some 3 := by kernel_rfl
@[simp] theorem fi_44_3 : fldInfo Tryz.prog 44 3 = some (3, false, 1) := by kernel_rfl
@[simp] theorem fo_44_4 : fOff Tryz.prog 44 4 = some 4 := by kernel_rfl
@[simp] theorem fi_44_4 : fldInfo Tryz.prog 44 4 = some (4, false, 1) := by kernel_rfl
@[simp] theorem fo_48_0 : fOff Tryz.prog 48 0 = some 0 := by kernel_rfl
@[simp] theorem fi_48_0 : fldInfo Tryz.prog 48 0 = some (0, false, 1) := by kernel_rfl
@[simp] theorem fo_48_1 : fOff Tryz.prog 48 1 = some 1 := by kernel_rfl
@[simp] theorem fi_48_1 : fldInfo Tryz.prog 48 1 = some (1, false, 1) := by kernel_rfl
@[simp] theorem fo_49_0 : fOff Tryz.prog 49 0 = some 0 := by kernel_rfl
@[simp] theorem fi_49_0 : fldInfo Tryz.prog 49 0 = some (0, false, 1) := by kernel_rfl
@[simp] theorem fo_49_1 : fOff Tryz.prog 49 1 = some 1 := by kernel_rfl
@[simp] theorem fi_49_1 : fldInfo Tryz.prog 49 1 = some (1, false, 1) := by kernel_rfl
@[simp] theorem fo_53_0 : fOff Tryz.prog 53 0 = some 0 := by kernel_rfl
@[simp] theorem fi_53_0 : fldInfo Tryz.prog 53 0 = some (0, false, 1) := by kernel_rfl
@[simp] theorem fo_53_1 : fOff Tryz.prog 53 1 = some 1 := by kernel_rfl
@[simp] theorem fi_53_1 : fldInfo Tryz.prog 53 1 = some (1, false, 1) := by kernel_rfl
@[simp] theorem fo_53_2 : fOff Tryz.prog 53 2 = some 2 := by kernel_rfl
@[simp] theorem fi_53_2 : fldInfo Tryz.prog 53 2 = some (2, false, 1) := by kernel_rfl
@[simp] theorem fo_54_0 : fOff Tryz.prog 54 0 = some 0 := by kernel_rfl
@[simp] theorem fi_54_0 : fldInfo Tryz.prog 54 0 = some (0, false, 1) := by kernel_rfl
@[simp] theorem fo_54_1 : fOff Tryz.prog 54 1 = some 1 := by kernel_rfl
@[simp] theorem fi_54_1 : fldInfo Tryz.prog 54 1 = some (1, false, 1) := by kernel_rfl
@[simp] theorem fo_54_2 : fOff Tryz.prog 54 2 = some 2 := by kernel_rfl
@[simp] theorem fi_54_2 : fldInfo Tryz.prog 54 2 = some (2, false, 1) := by kernel_rfl
@[simp] theorem fo_64_0 : fOff Tryz.prog 64 0 = some 0 := by kernel_rfl
@[simp] theorem fi_64_0 : fldInfo Tryz.prog 64 0 = some (0, false, 1) := by kernel_rfl
@[simp] theorem fo_64_1 : fOff Tryz.prog 64 1 = some 1 := by kernel_rfl
@[simp] theorem fi_64_1 : fldInfo Tryz.prog 64 1 = some (1, false, 1) := by kernel_rfl
@[simp] theorem fo_64_2 : fOff Tryz.prog 64 2 = some 2 := by kernel_rfl
@[simp] theorem fi_64_2 : fldInfo Tryz.prog 64 2 = some (2, false, 1) := by kernel_rfl
@[simp] theorem fo_74_0 : fOff Tryz.prog 74 0 = some 0 := by kernel_rfl
@[simp] theorem fi_74_0 : fldInfo Tryz.prog 74 0 = some (0, false, 1) := by kernel_rfl
@[simp] theorem fo_74_1 : fOff Tryz.prog 74 1 = some 1 := by kernel_rfl
@[simp] theorem fi_74_1 : fldInfo Tryz.prog 74 1 = some (1, false, 1) := by kernel_rfl
@[simp] theorem fo_74_2 : fOff Tryz.prog 74 2 = some 2 := by kernel_rfl
@[simp] theorem fi_74_2 : fldInfo Tryz.prog 74 2 = some (2, false, 1) := by kernel_rfl
@[simp] theorem fo_74_3 : fOff Tryz.prog 74 3 = some 3 := by kernel_rfl
@[simp] theorem fi_74_3 : fldInfo Tryz.prog 74 3 = some (3, false, 1) := by kernel_rfl
@[simp] theorem fo_75_0 : fOff Tryz.prog 75 0 = some 0 := by kernel_rfl
@[simp] theorem fi_75_0 : fldInfo Tryz.prog 75 0 = some (0, false, 1) := by kernel_rfl
@[simp] theorem fo_75_1 : fOff Tryz.prog 75 1 = some 1 := by kernel_rfl
@[simp] theorem fi_75_1 : fldInfo Tryz.prog 75 1 = some (1, false, 1) := by kernel_rfl
@[simp] theorem fo_75_2 : fOff Tryz.prog 75 2 = some 2 := by kernel_rfl
@[simp] theorem fi_75_2 : fldInfo Tryz.prog 75 2 = some (2, false, 1) := by kernel_rfl
@[simp] theorem fo_75_3 : fOff Tryz.prog 75 3 = some 3 := by kernel_rfl
@[simp] theorem fi_75_3 : fldInfo Tryz.prog 75 3 = some (3, false, 1) := by kernel_rfl
@[simp] theorem fo_89_0 : fOff Tryz.prog 89 0 = some 0 := by kernel_rfl
@[simp] theorem fi_89_0 : fldInfo Tryz.prog 89 0 = some (0, false, 1) := by kernel_rfl
@[simp] theorem fo_89_1 : fOff Tryz.prog 89 1 = some 1 := by kernel_rfl
@[simp] theorem fi_89_1 : fldInfo Tryz.prog 89 1 = some (1, false, 1) := by kernel_rfl
@[simp] theorem fo_90_0 : fOff Tryz.prog 90 0 = some 0 := by kernel_rfl
@[simp] theorem fi_90_0 : fldInfo Tryz.prog 90 0 = some (0, false, 1) := by kernel_rfl
@[simp] theorem fo_90_1 : fOff Tryz.prog 90 1 = some 1 := by kernel_rfl
@[simp] theorem fi_90_1 : fldInfo Tryz.prog 90 1 = some (1, false, 1) := by kernel_rfl
@[simp] theorem fo_118_0 : fOff Tryz.prog 118 0 = some 0 := by kernel_rfl
@[simp] theorem fi_118_0 : fldInfo Tryz.prog 118 0 = some (0, true, 4) := by kernel_rfl
@[simp] theorem fo_119_0 : fOff Tryz.prog 119 0 = some 0 := by kernel_rfl
@[simp] theorem fi_119_0 : fldInfo Tryz.prog 119 0 = some (0, true, 4) := by kernel_rfl
@[simp] theorem fo_170_0 : fOff Tryz.prog 170 0 = some 0 := by kernel_rfl
@[simp] theorem fi_170_0 : fldInfo Tryz.prog 170 0 = some (0, false, 1) := by kernel_rfl
@[simp] theorem fo_170_1 : fOff Tryz.prog 170 1 = some 1 := by kernel_rfl
@[simp] theorem fi_170_1 : fldInfo Tryz.prog 170 1 = some (1, false, 1) := by kernel_rfl
@[simp] theorem fo_170_2 : fOff Tryz.prog 170 2 = some 2 := by kernel_rfl
@[simp] theorem fi_170_2 : fldInfo Tryz.prog 170 2 = some (2, false, 1) := by kernel_rfl
@[simp] theorem fo_170_3 : fOff Tryz.prog 170 3 = some 3 := by kernel_rfl
@[simp] theorem fi_170_3 : fldInfo Tryz.prog 170 3 = some (3, false, 1) := by kernel_rfl
@[simp] theorem fo_171_0 : fOff Tryz.prog 171 0 = some 0 := by kernel_rfl
@[simp] theorem fi_171_0 : fldInfo Tryz.prog 171 0 = some (0, false, 1) := by kernel_rfl
@[simp] theorem fo_171_1 : fOff Tryz.prog 171 1 = some 1 := by kernel_rfl
@[simp] theorem fi_171_1 : fldInfo Tryz.prog 171 1 = some (1, false, 1) := by kernel_rfl
@[simp] theorem fo_171_2 : fOff Tryz.prog 171 2 = some 2 := by kernel_rfl
@[simp] theorem fi_171_2 : fldInfo Tryz.prog 171 2 = some (2, false, 1) := by kernel_rfl
@[simp] theorem fo_171_3 : fOff Tryz.prog 171 3 = some 3 := by kernel_rfl
@[simp] theorem fi_171_3 : fldInfo Tryz.prog 171 3 = some (3, false, 1) := by kernel_rfl
@[simp] theorem fi_173_0 : fldInfo Tryz.prog 173 0 = some (0, true, 0) := by kernel_rfl
@[simp] theorem fi_174_0 : fldInfo Tryz.prog 174 0 = some (0, true, 0) := by kernel_rfl
@[simp] theorem fo_181_0 : fOff Tryz.prog 181 0 = some 0 := by kernel_rfl
@[simp] theorem fi_181_0 : fldInfo Tryz.prog 181 0 = some (0, false, 1) := by kernel_rfl
@[simp] theorem fo_181_1 : fOff Tryz.prog 181 1 = some 1 := by kernel_rfl
@[simp] theorem fi_181_1 : fldInfo Tryz.prog 181 1 = some (1, false, 1) := by kernel_rfl
@[simp] theorem fo_181_2 : fOff Tryz.prog 181 2 = some 2 := by kernel_rfl
@[simp] theorem fi_181_2 : fldInfo Tryz.prog 181 2 = some (2, false, 1) := by kernel_rfl
@[simp] theorem fo_181_3 : fOff Tryz.prog 181 3 = some 3 := by kernel_rfl
@[simp] theorem fi_181_3 : fldInfo Tryz.prog 181 3 = some (3, false, 1) := by kernel_rfl
@[simp] theorem fo_181_4 : fOff Tryz.prog 181 4 = some 4 := by kernel_rfl
@[simp] theorem fi_181_4 : fldInfo Tryz.prog 181 4 = some (4, false, 1) := by kernel_rfl
@[simp] theorem fo_181_5 : fOff Tryz.prog 181 5 = some 5 := by kernel_rfl
@[simp] theorem fi_181_5 : fldInfo Tryz.prog 181 5 = some (5, false, 1) := by kernel_rfl
@[simp] theorem fo_181_6 : fOff Tryz.prog 181 6 = some 6 := by kernel_rfl
@[simp] theorem fi_181_6 : fldInfo Tryz.prog 181 6 = some (6, false, 1) := by kernel_rfl
@[simp] theorem fo_181_7 : fOff Tryz.prog 181 7 = some 7 := by kernel_rfl
@[simp] theorem fi_181_7 : fldInfo Tryz.prog 181 7 = some (7, false, 1) := by kernel_rfl
@[simp] theorem fo_181_8 : fOff Tryz.prog 181 8 = some 8 := by kernel_rfl
@[simp] theorem fi_181_8 : fldInfo Tryz.prog 181 8 = some (8, false, 1) := by kernel_rfl
@[simp] theorem fo_181_9 : fOff Tryz.prog 181 9 = some 9 := by kernel_rfl
@[simp] theorem fi_181_9 : fldInfo Tryz.prog 181 9 = some (9, false, 1) := by kernel_rfl
@[simp] theorem fo_181_10 : fOff Tryz.prog 181 10 = some 10 := by kernel_rfl
@[simp] theorem fi_181_10 : fldInfo Tryz.prog 181 10 = some (10, false, 1) := by kernel_rfl
@[simp] theorem fo_182_0 : fOff Tryz.prog 182 0 = some 0 := by kernel_rfl
@[simp] theorem fi_182_0 : fldInfo Tryz.prog 182 0 = some (0, false, 1) := by kernel_rfl
@[simp] theorem fo_182_1 : fOff Tryz.prog 182 1 = some 1 := by kernel_rfl
@[simp] theorem fi_182_1 : fldInfo Tryz.prog 182 1 = some (1, false, 1) := by kernel_rfl
@[simp] theorem fo_182_2 : fOff Tryz.prog 182 2 = some 2 := by kernel_rfl
@[simp] theorem fi_182_2 : fldInfo Tryz.prog 182 2 = some (2, false, 1) := by kernel_rfl
@[simp] theorem fo_182_3 : fOff Tryz.prog 182 3 = some 3 := by kernel_rfl
@[simp] theorem fi_182_3 : fldInfo Tryz.prog 182 3 = some (3, false, 1) := by kernel_rfl
@[simp] theorem fo_182_4 : fOff Tryz.prog 182 4 = some 4 := by kernel_rfl
@[simp] theorem fi_182_4 : fldInfo Tryz.prog 182 4 = some (4, false, 1) := by kernel_rfl
@[simp] theorem fo_182_5 : fOff Tryz.prog 182 5 = some 5 := by kernel_rfl
@[simp] theorem fi_182_5 : fldInfo Tryz.prog 182 5 = some (5, false, 1) := by kernel_rfl
@[simp] theorem fo_182_6 : fOff Tryz.prog 182 6 = some 6 := by kernel_rfl
@[simp] theorem fi_182_6 : fldInfo Tryz.prog 182 6 = some (6, false, 1) := by kernel_rfl
@[simp] theorem fo_182_7 : fOff Tryz.prog 182 7 = some 7 := by kernel_rfl
@[simp] theorem fi_182_7 : fldInfo Tryz.prog 182 7 = some (7, false, 1) := by kernel_rfl
@[simp] theorem fo_182_8 : fOff Tryz.prog 182 8 = some 8 := by kernel_rfl
@[simp] theorem fi_182_8 : fldInfo Tryz.prog 182 8 = some (8, false, 1) := by kernel_rfl
@[simp] theorem fo_182_9 : fOff Tryz.prog 182 9 = some 9 := by kernel_rfl
@[simp] theorem fi_182_9 : fldInfo Tryz.prog 182 9 = some (9, false, 1) := by kernel_rfl
@[simp] theorem fo_182_10 : fOff Tryz.prog 182 10 = some 10 := by kernel_rfl
@[simp] theorem fi_182_10 : fldInfo Tryz.prog 182 10 = some (10, false, 1) := by kernel_rfl

end Go.AX

namespace Go.AX
open Go.Proofs
theorem hmo : Tryz.prog.follows .mixedOrders = true := by kernel_rfl

/-! ### Plain laws -/
theorem w64_half (x : Int) : w64 ((w64 x).tdiv 2) = (w64 x).tdiv 2 := by
  have h1 := w64_lo x
  have h2 := w64_hi x
  have h3 := Int.mul_tdiv_add_tmod (w64 x) 2
  have h4 := Int.tmod_lt_of_pos (w64 x) (show (0 : Int) < 2 by omega)
  have h5 : -2 < (w64 x).tmod 2 := by have := Int.lt_tmod_of_pos (w64 x) (show (0 : Int) < 2 by omega); omega
  exact w64_id (by omega) (by omega)
def chooseS (n : Int) : Int := (w64 (n * (n - 1))).tdiv 2
def sizeOk (a b : Int) : Bool := !(decide (a < 0) || decide (a > 64) || decide (b < 1) || decide (b > 32))
theorem sizeOk_iff {a b : Int} : sizeOk a b = true ↔ 0 ≤ a ∧ a ≤ 64 ∧ 1 ≤ b ∧ b ≤ 32 := by
  simp [sizeOk]; omega
theorem chooseS_two {a : Int} (h0 : 0 ≤ a) (h1 : a ≤ 64) : 2 * chooseS a = a * (a - 1) := by
  obtain ⟨k, rfl⟩ := Int.eq_ofNat_of_zero_le h0
  have hk : k < 65 := by omega
  have key : ∀ j : Fin 65, 2 * chooseS (j.val : Int) = (j.val : Int) * ((j.val : Int) - 1) := by decide +kernel
  exact key ⟨k, hk⟩
def timesOk (n m p : Int) : Bool := sizeOk n m && !(decide (p < 0) || decide (p > 2016))
theorem timesOk_iff {n m p : Int} : timesOk n m p = true ↔ sizeOk n m = true ∧ 0 ≤ p ∧ p ≤ 2016 := by simp [timesOk]
def placesN (n m : Int) : Int := if sizeOk n m then w64 (n + n * n * (n - 1)) else 0
def timesN (n m p : Int) : Int := if timesOk n m p then w64 (p * chooseS n) else 0
def statesN (n m : Int) : Int := if sizeOk n m then w64 (1 + (n + 1) * (1 + chooseS m)) else 0
def movesOk (n m e : Int) : Bool := sizeOk n m && !(decide (e < 0) || decide (e > n))
theorem movesOk_iff {n m e : Int} : movesOk n m e = true ↔ sizeOk n m = true ∧ 0 ≤ e ∧ e ≤ n := by simp [movesOk]
def movesN (n m e : Int) : Int := if movesOk n m e then w64 (e * (1 + n * m) + (n - e) * (2 * n * m)) else 0
/-- The sum, so far. -/
def movesSum (n m e i : Int) : Int := if i ≤ e then i * (1 + n * m) else e * (1 + n * m) + (i - e) * (2 * n * m)
theorem movesSum_lt {n m e i : Int} (h : i < e) : movesSum n m e (i + 1) = movesSum n m e i + 1 + n * m := by
  unfold movesSum; rw [if_pos (by omega), if_pos (by omega)]; grind
theorem movesSum_ge {n m e i : Int} (h : e ≤ i) : movesSum n m e (i + 1) = movesSum n m e i + 2 * n * m := by
  unfold movesSum
  rw [if_neg (by omega)]
  by_cases h2 : i ≤ e
  · have : i = e := by omega
    subst this; rw [if_pos h2]; grind
  · rw [if_neg h2]; grind
theorem movesSum_all {n m e : Int} (h : e ≤ n) : movesSum n m e n = e * (1 + n * m) + (n - e) * (2 * n * m) := by
  unfold movesSum
  split
  · have : n = e := by omega
    subst this; grind
  · rfl

/-! ### Walks -/
theorem choose_ok (n : Int) : APure Tryz.prog 106 [I64 n] (fun r => r = .pv (I64 (chooseS n))) := by
  refine apure1 hmo Tryz.func106 (by kernel_rfl) rfl rfl (by kernel_rfl) (Nat.le_of_ble_eq_true rfl) ?_
  simp [chooseS, w64_half]

theorem check_ok (a b : Int) : APure Tryz.prog 44 [.agg [I64 a, I64 b]] (fun r => r = .pv (I64 (if sizeOk a b then 0 else 2))) := by
  refine apure1 hmo Tryz.func44 (by kernel_rfl) rfl rfl (by kernel_rfl) (Nat.le_of_ble_eq_true rfl) ?_
  simp [sizeOk]
  omega

theorem refCheck_ok (a b : Int) : APure Tryz.prog 49 [I64 a, I64 b] (fun r => r = .pv (I64 (if sizeOk a b then 0 else 2))) := by
  refine apure1 hmo Tryz.func49 (by kernel_rfl) rfl rfl (by kernel_rfl) (Nat.le_of_ble_eq_true rfl) ?_
  simp [sizeOk]
  omega

theorem may_ok (a b : Int) : APure Tryz.prog 84 [.agg [I64 a, I64 b]] (fun r => r = .pv (BL (sizeOk a b))) := by
  refine apure1 hmo Tryz.func84 (by kernel_rfl) rfl rfl (by kernel_rfl) (Nat.le_of_ble_eq_true rfl) ?_
  simp
  refine CallK.intro (check_ok a b) (by simp) ?_
  simp

theorem places_ok (a b : Int) : APure Tryz.prog 85 [.agg [I64 a, I64 b]] (fun r => r = .pv (I64 (placesN a b))) := by
  refine apure1 hmo Tryz.func85 (by kernel_rfl) rfl rfl (by kernel_rfl) (Nat.le_of_ble_eq_true rfl) ?_
  simp
  refine CallK.intro (may_ok a b) (by simp) ?_
  simp
  refine ⟨fun h => by simp [placesN, h], fun h => ?_⟩
  refine CallQ0.intro (choose_ok a) (by simp) ?_
  simp [placesN, h]
  have := sizeOk_iff.1 h
  congr 1
  have := chooseS_two this.1 this.2.1
  grind

theorem refPlaces_ok (a b : Int) : APure Tryz.prog 94 [I64 a, I64 b] (fun r => r = .pv (I64 (placesN a b))) := by
  refine apure1 hmo Tryz.func94 (by kernel_rfl) rfl rfl (by kernel_rfl) (Nat.le_of_ble_eq_true rfl) ?_
  simp
  refine CallK.intro (refCheck_ok a b) (by simp) ?_
  simp [placesN]
  exact ⟨fun h h' => by simp [h] at h', fun h => by simp [h]⟩

theorem times_ok (a b p : Int) : APure Tryz.prog 86 [.agg [I64 a, I64 b], I64 p] (fun r => r = .pv (I64 (timesN a b p))) := by
  refine apure1 hmo Tryz.func86 (by kernel_rfl) rfl rfl (by kernel_rfl) (Nat.le_of_ble_eq_true rfl) ?_
  simp
  refine CallK.intro (may_ok a b) (by simp) ?_
  simp
  refine ⟨fun h => ?_, fun h1 h2 h3 => ?_⟩
  · simp only [timesN]; rw [if_neg (fun hh => by have := timesOk_iff.1 hh; simp [this.1] at h; omega)]
  refine CallK.intro (choose_ok a) (by simp) ?_
  simp [timesN, timesOk_iff.2 ⟨h1, h2, h3⟩]

theorem refTimes_ok (a b p : Int) : APure Tryz.prog 95 [I64 a, I64 b, I64 p] (fun r => r = .pv (I64 (timesN a b p))) := by
  refine apure1 hmo Tryz.func95 (by kernel_rfl) rfl rfl (by kernel_rfl) (Nat.le_of_ble_eq_true rfl) ?_
  simp
  refine CallK.intro (refCheck_ok a b) (by simp) ?_
  simp
  refine ⟨fun h => ?_, fun h1 h2 h3 => ?_⟩
  · simp only [timesN]; rw [if_neg (fun hh => by have := timesOk_iff.1 hh; simp [this.1] at h; omega)]
  simp [timesN, timesOk_iff.2 ⟨h1, h2, h3⟩, chooseS, Int.mul_comm p]

theorem states_ok (a b : Int) : APure Tryz.prog 87 [.agg [I64 a, I64 b]] (fun r => r = .pv (I64 (statesN a b))) := by
  refine apure1 hmo Tryz.func87 (by kernel_rfl) rfl rfl (by kernel_rfl) (Nat.le_of_ble_eq_true rfl) ?_
  simp
  refine CallK.intro (may_ok a b) (by simp) ?_
  simp
  refine ⟨fun h => by simp [statesN, h], fun h => ?_⟩
  refine CallQ0.intro (choose_ok b) (by simp) ?_
  simp [statesN, h]

theorem refStates_ok (a b : Int) : APure Tryz.prog 97 [I64 a, I64 b] (fun r => r = .pv (I64 (statesN a b))) := by
  refine apure1 hmo Tryz.func97 (by kernel_rfl) rfl rfl (by kernel_rfl) (Nat.le_of_ble_eq_true rfl) ?_
  simp
  refine CallK.intro (refCheck_ok a b) (by simp) ?_
  simp [statesN, chooseS, w64_half]
  exact ⟨fun h h' => by simp [h] at h', fun h => by simp [h]⟩

theorem moves_ok (a b e : Int) : APure Tryz.prog 88 [.agg [I64 a, I64 b], I64 e] (fun r => r = .pv (I64 (movesN a b e))) := by
  refine apure1 hmo Tryz.func88 (by kernel_rfl) rfl rfl (by kernel_rfl) (Nat.le_of_ble_eq_true rfl) ?_
  simp
  refine CallK.intro (may_ok a b) (by simp) ?_
  simp
  refine ⟨fun h => ?_, fun h1 h2 h3 => ?_⟩
  · simp only [movesN]; rw [if_neg (fun hh => by have := movesOk_iff.1 hh; simp [this.1] at h; omega)]
  simp [movesN, movesOk_iff.2 ⟨h1, h2, h3⟩]
  congr 1
  grind

theorem refMoves_ok (n m e : Int) : APure Tryz.prog 98 [I64 n, I64 m, I64 e] (fun r => r = .pv (I64 (movesN n m e))) := by
  refine apure1 hmo Tryz.func98 (by kernel_rfl) rfl rfl (by kernel_rfl) (Nat.le_of_ble_eq_true rfl) ?_
  simp
  refine CallK.intro (refCheck_ok n m) (by simp) ?_
  simp
  refine ⟨?_, fun h1 h2 h3 => ?_⟩
  · intro h; simp only [movesN]; rw [if_neg (fun hh => by have := movesOk_iff.1 hh; simp [this.1] at h; omega)]
  have hok : movesOk n m e = true := by simp [movesOk, h1]; omega
  have hs : 0 ≤ n ∧ n ≤ 64 := by simp [sizeOk] at h1; omega
  simp only [movesN, hok, if_true]
  refine ALoop.intro (S := fun (i : Int) => ⟨[(7, .pv (I64 (w64 (movesSum n m e i)))), (8, .pv (I64 i)), (0, .pv (I64 n)), (1, .pv (I64 m)), (2, .pv (I64 e))], []⟩) (fun i => 0 ≤ i ∧ i ≤ n) (fun i => (n - i).toNat) 0 ?_ ?_ ?_
  · exact Weak.to (by simp [movesSum, h2]; decide) rfl (by simp) (by simp) (by simp)
  · omega
  · intro i hi
    simp
    refine ⟨fun h4 => ⟨fun h5 => ⟨i + 1, by dsimp only; omega, by dsimp only; omega, Weak.to ?_ rfl (by simp) (by simp) (by simp)⟩, fun h5 => ⟨i + 1, by dsimp only; omega, by dsimp only; omega, Weak.to ?_ rfl (by simp) (by simp) (by simp)⟩⟩, fun h4 => ?_⟩
    · simp [movesSum_lt h5, w64_id (show -9223372036854775808 ≤ i + 1 by omega) (by omega)]
    · simp [movesSum_ge h5, w64_id (show -9223372036854775808 ≤ i + 1 by omega) (by omega)]
    · have : i = n := by omega
      rw [this, movesSum_all h3]

end Go.AX

namespace Go.AX
open Go.Proofs

structure Op5 where
  p : Int
  k : Int
  s : Int
  e : Int
  r : Int
  deriving DecidableEq, Inhabited

def orow (o : Op5) : List PV := [I64 o.p, I64 o.k, I64 o.s, I64 o.e, I64 o.r]
def ovec (ops : List Op5) : PV := .seq false 5 (ops.map orow)

def aheadS (a b : Op5) : Bool := decide (a.e ≥ 0) && decide (a.e < b.s)
theorem ahead_ok (a b : Op5) : APure Tryz.prog 56 [.agg (orow a), .agg (orow b)] (fun r => r = .pv (BL (aheadS a b))) := by
  refine apure1 hmo Tryz.func56 (by kernel_rfl) rfl rfl (by kernel_rfl) (Nat.le_of_ble_eq_true rfl) ?_
  simp [orow, aheadS]
theorem refAhead_ok (a b : Op5) : APure Tryz.prog 76 [.agg (orow a), .agg (orow b)] (fun r => r = .pv (BL (aheadS a b))) := by
  refine apure1 hmo Tryz.func76 (by kernel_rfl) rfl rfl (by kernel_rfl) (Nat.le_of_ble_eq_true rfl) ?_
  simp [orow, aheadS]

def endedS (o : Op5) : Bool := if o.e = -1 then decide (o.r = -1) else decide (o.e > o.s) && decide (o.e ≤ 9999) && decide (o.r ≥ 0) && decide (o.r ≤ 1000000)
theorem ended_ok (o : Op5) : APure Tryz.prog 83 [.agg (orow o)] (fun r => r = .pv (BL (endedS o))) := by
  refine apure1 hmo Tryz.func83 (by kernel_rfl) rfl rfl (by kernel_rfl) (Nat.le_of_ble_eq_true rfl) ?_
  simp [orow, endedS]
  exact ⟨fun h h' => absurd h h', fun h h' => absurd h' h⟩

def aloneS (o : Op5) : Int := if o.p < 1 ∨ o.p > 1000 ∨ o.s < 0 ∨ o.s > 9999 then 2 else if o.k < 0 ∨ o.k ≥ 64 then 31 else if endedS o then 0 else 7
set_option maxRecDepth 4000 in
theorem alone_ok (o : Op5) : APure Tryz.prog 70 [.agg (orow o)] (fun r => r = .pv (I64 (aloneS o))) := by
  refine apure1 hmo Tryz.func70 (by kernel_rfl) rfl rfl (by kernel_rfl) (Nat.le_of_ble_eq_true rfl) ?_
  simp [orow]
  refine ⟨fun h => by rw [aloneS, if_pos (by omega)], fun h1 h2 h3 h4 => ⟨fun h => by rw [aloneS, if_neg (by omega), if_pos (by omega)], fun h5 h6 => ?_⟩⟩
  refine CallK.intro (ended_ok o) (by simp) ?_
  simp
  have : aloneS o = if endedS o = true then 0 else 7 := by rw [aloneS, if_neg (by omega), if_neg (by omega)]
  simp [this]

@[simp] theorem belowR_orow (k : Nat) (ops : List Op5) : belowR k (ops.map orow) := by
  rw [belowR_iff]; intro r hr x hx
  obtain ⟨o, _, rfl⟩ := List.mem_map.1 hr
  simp [orow] at hx
  rcases hx with rfl | rfl | rfl | rfl | rfl <;> trivial
@[simp] theorem belowR_ints (k : Nat) (l : List Int) : belowR k (l.map fun i => [I64 i]) := by
  rw [belowR_iff]; intro r hr x hx
  obtain ⟨o, _, rfl⟩ := List.mem_map.1 hr
  simp at hx; subst hx; trivial

def pendTo (ops : List Op5) (n : Nat) : List Int := ((List.range n).filter fun j => decide ((ops.getD j default).e = -1)).map Int.ofNat
theorem pendTo_succ (ops : List Op5) {n : Nat} (h : n < ops.length) : pendTo ops (n + 1) = if ops[n].e = -1 then pendTo ops n ++ [(n : Int)] else pendTo ops n := by
  unfold pendTo
  rw [List.range_succ, List.filter_append, List.map_append]
  simp only [List.filter_cons, List.filter_nil, List.getD_eq_getElem?_getD, List.getElem?_eq_getElem h, Option.getD_some]
  split <;> simp_all
theorem pendTo_length (ops : List Op5) (n : Nat) : (pendTo ops n).length ≤ n := by
  unfold pendTo
  rw [List.length_map]
  exact Nat.le_trans (List.length_filter_le _ _) (by simp)

theorem pending_ok (ops : List Op5) (hl : ops.length ≤ 1000000) : APure Tryz.prog 89 [ovec ops] (fun r => r = .own true 1 ((pendTo ops ops.length).map fun i => [I64 i])) := by
  refine apure1 hmo Tryz.func89 (by kernel_rfl) rfl rfl (by kernel_rfl) (Nat.le_of_ble_eq_true rfl) ?_
  simp [ovec]
  refine ALoop.intro (S := fun (i : Nat) => ⟨[(3, .own true 1 ((pendTo ops i).map fun i => [I64 i])), (6, .pv (ovec ops)), (7, .pv (I64 ops.length)), (8, .pv (I64 i))], []⟩) (fun i => i ≤ ops.length) (fun i => ops.length - i) 0 ?_ ?_ ?_
  · exact (Weak.nilOwn (s := 3) 1 true (by simp)).trans (Weak.to (by simp [pendTo, ovec]) rfl (by simp) (by simp [ovec]) (by simp))
  · omega
  · intro i hi
    by_cases h : i < ops.length
    · have hw : w64 ((i : Int) + 1) = ((i + 1 : Nat) : Int) := by rw [w64_id (by omega) (by omega)]; omega
      have hn := pendTo_length ops i
      simp [ovec, h, orow]
      refine ⟨fun h1 => ⟨by omega, i + 1, by dsimp only; omega, by dsimp only; omega, Weak.to ?_ rfl (by simp) (by simp) (by simp)⟩, fun h1 => ⟨i + 1, by dsimp only; omega, by dsimp only; omega, Weak.to ?_ rfl (by simp) (by simp) (by simp)⟩⟩
      · simp [pendTo_succ ops h, h1, hw]
      · simp [pendTo_succ ops h, h1, hw]
    · simp [h]
      have : i = ops.length := by omega
      rw [this]

theorem refPending_ok (ops : List Op5) (hl : ops.length ≤ 1000000) : APure Tryz.prog 99 [ovec ops] (fun r => r = .own true 1 ((pendTo ops ops.length).map fun i => [I64 i])) := by
  refine apure1 hmo Tryz.func99 (by kernel_rfl) rfl rfl (by kernel_rfl) (Nat.le_of_ble_eq_true rfl) ?_
  simp [ovec]
  refine ALoop.intro (S := fun (i : Nat) => ⟨[(3, .own true 1 ((pendTo ops i).map fun i => [I64 i])), (0, .pv (ovec ops)), (4, .pv (I64 i))], []⟩) (fun i => i ≤ ops.length) (fun i => ops.length - i) 0 ?_ ?_ ?_
  · exact (Weak.nilOwn (s := 3) 1 true (by simp)).trans (Weak.to (by simp [pendTo, ovec]) rfl (by simp) (by simp [ovec]) (by simp))
  · omega
  · intro i hi
    by_cases h : i < ops.length
    · have hw : w64 ((i : Int) + 1) = ((i + 1 : Nat) : Int) := by rw [w64_id (by omega) (by omega)]; omega
      have hn := pendTo_length ops i
      simp [ovec, h, orow]
      refine ⟨fun h1 => ⟨by omega, i + 1, by dsimp only; omega, by dsimp only; omega, Weak.to ?_ rfl (by simp) (by simp) (by simp)⟩, fun h1 => ⟨i + 1, by dsimp only; omega, by dsimp only; omega, Weak.to ?_ rfl (by simp) (by simp) (by simp)⟩⟩
      · simp [pendTo_succ ops h, h1, hw]
      · simp [pendTo_succ ops h, h1, hw]
    · simp [ovec, h]
      have : i = ops.length := by omega
      rw [this]

/-! ### Pairs -/
def prow (p : Int × Int) : List PV := [I64 p.1, I64 p.2]
@[simp] theorem belowR_prow (k : Nat) (l : List (Int × Int)) : belowR k (l.map prow) := by
  rw [belowR_iff]; intro r hr x hx
  obtain ⟨o, _, rfl⟩ := List.mem_map.1 hr
  simp [prow] at hx; rcases hx with rfl | rfl <;> trivial
def pairsRow (ops : List Op5) (i j : Nat) : List (Int × Int) := ((List.range j).filter fun b => aheadS (ops.getD i default) (ops.getD b default)).map fun (b : Nat) => ((i : Int), (b : Int))
def pairsTo (ops : List Op5) (i : Nat) : List (Int × Int) := (List.range i).flatMap fun a => pairsRow ops a ops.length
theorem pairsRow_succ (ops : List Op5) (i : Nat) {j : Nat} (hi : i < ops.length) (h : j < ops.length) : pairsRow ops i (j + 1) = if aheadS ops[i] ops[j] = true then pairsRow ops i j ++ [((i : Int), (j : Int))] else pairsRow ops i j := by
  unfold pairsRow
  rw [List.range_succ, List.filter_append, List.map_append]
  simp only [List.filter_cons, List.filter_nil, List.getD_eq_getElem?_getD, List.getElem?_eq_getElem h, List.getElem?_eq_getElem hi, Option.getD_some]
  split <;> simp_all
theorem pairsTo_succ (ops : List Op5) (i : Nat) : pairsTo ops (i + 1) = pairsTo ops i ++ pairsRow ops i ops.length := by
  unfold pairsTo
  rw [List.range_succ, List.flatMap_append]; simp
theorem pairsRow_length (ops : List Op5) (i j : Nat) : (pairsRow ops i j).length ≤ j := by
  unfold pairsRow
  rw [List.length_map]
  exact Nat.le_trans (List.length_filter_le _ _) (by simp)
theorem pairsTo_length (ops : List Op5) : ∀ i, (pairsTo ops i).length ≤ i * ops.length
  | 0 => by simp [pairsTo]
  | i + 1 => by
    rw [pairsTo_succ, List.length_append, Nat.succ_mul]
    have := pairsTo_length ops i
    have := pairsRow_length ops i ops.length
    omega

theorem pairs_ok (ops : List Op5) (hl : ops.length ≤ 1000000) : APure Tryz.prog 28 [ovec ops] (fun r => r = .own true 2 ((pairsTo ops ops.length).map prow)) := by
  refine apure1 hmo Tryz.func28 (by kernel_rfl) rfl rfl (by kernel_rfl) (Nat.le_of_ble_eq_true rfl) ?_
  simp [ovec]
  refine ALoop.intro (S := fun (i : Nat) => ⟨[(3, .own true 2 ((pairsTo ops i).map prow)), (8, .pv (ovec ops)), (9, .pv (I64 ops.length)), (10, .pv (I64 i)), (0, .pv (ovec ops))], []⟩) (fun i => i ≤ ops.length) (fun i => ops.length - i) 0 ?_ ?_ ?_
  · exact (Weak.nilOwn (s := 3) 2 true (by simp)).trans (Weak.to (by simp [pairsTo, ovec]) rfl (by simp) (by simp [ovec]) (by simp))
  · omega
  · intro i hi
    by_cases h : i < ops.length
    · have hw : w64 ((i : Int) + 1) = ((i + 1 : Nat) : Int) := by rw [w64_id (by omega) (by omega)]; omega
      have hn := pairsTo_length ops i
      have hn2 : i * ops.length ≤ 1000000 * 1000000 := Nat.mul_le_mul (by omega) hl
      simp [ovec, h, orow]
      refine ALoop.intro (S := fun (j : Nat) => ⟨[(3, .own true 2 ((pairsTo ops i ++ pairsRow ops i j).map prow)), (15, .pv (ovec ops)), (16, .pv (I64 ops.length)), (17, .pv (I64 j)), (4, .pv (I64 i)), (5, .pv (.ptr 0 0)), (8, .pv (ovec ops)), (9, .pv (I64 ops.length)), (10, .pv (I64 i)), (0, .pv (ovec ops))], [(orow ops[i]).map .pv]⟩) (fun j => j ≤ ops.length) (fun j => ops.length - j) 0 ?_ ?_ ?_
      · exact Weak.to (by simp [pairsRow, ovec]) (by simp [orow]) (by simp) (by simp [ovec]) (by simp [orow])
      · omega
      · intro j hj
        by_cases h2 : j < ops.length
        · have hw2 : w64 ((j : Int) + 1) = ((j + 1 : Nat) : Int) := by rw [w64_id (by omega) (by omega)]; omega
          have hm := pairsRow_length ops i j
          simp [ovec, h2, orow]
          refine CallK.intro (ahead_ok ops[i] ops[j]) (by simp) ?_
          simp
          refine ⟨fun h3 => ⟨by omega, j + 1, by dsimp only; omega, by dsimp only; omega, Weak.to ?_ (by simp [orow]) (by simp) (by simp [ovec]) (by simp [orow])⟩, fun h3 => ⟨j + 1, by dsimp only; omega, by dsimp only; omega, Weak.to ?_ (by simp [orow]) (by simp) (by simp [ovec]) (by simp [orow])⟩⟩
          · simp [pairsRow_succ ops i h h2, h3, hw2, ovec, prow]
          · simp [pairsRow_succ ops i h h2, h3, hw2, ovec]
        · simp [h2]
          have : j = ops.length := by omega
          refine ⟨i + 1, by dsimp only; omega, by dsimp only; omega, Weak.to ?_ rfl (by simp) (by simp [ovec]) (by simp)⟩
          simp [pairsTo_succ, this, hw, ovec]
    · simp [h]
      have : i = ops.length := by omega
      rw [this]

end Go.AX

namespace Go.AX
open Go.Proofs

/-! ### Plain laws -/
def meetsS (a b : Op5) : Bool := decide (a.s = b.s) || decide (a.e = b.s) || decide (a.s = b.e) || (decide (a.e = b.e) && !decide (a.e = -1))
def badS (a o : Op5) : Bool := decide (o.s ≤ a.s) || meetsS a o
def openS (a o : Op5) : Bool := decide (a.p = o.p) && !aheadS a o
def stepE (pre : List Op5) (o : Op5) : Int := if aloneS o ≠ 0 then aloneS o else if pre.any (fun a => badS a o) = true then 32 else if pre.any (fun a => openS a o) = true then 33 else 0
def errAt (ops : List Op5) (i : Nat) : Int := stepE (ops.take i) (ops.getD i default)
def okTo (ops : List Op5) (i : Nat) : Prop := ∀ j, j < i → errAt ops j = 0
def chk (ops : List Op5) : Int × Int :=
  if ops.length > 5000 then (0, 3) else match (List.range ops.length).find? (fun i => decide (errAt ops i ≠ 0)) with
  | some i => ((i : Int), errAt ops i)
  | none => ((ops.length : Int), 0)
theorem chk_big {ops : List Op5} (h : ops.length > 5000) : chk ops = (0, 3) := by unfold chk; rw [if_pos h]
theorem chk_bad {ops : List Op5} (h : ops.length ≤ 5000) {i : Nat} (hi : i < ops.length) (ho : okTo ops i) (he : errAt ops i ≠ 0) : chk ops = ((i : Int), errAt ops i) := by
  unfold chk
  rw [if_neg (by omega)]
  have : (List.range ops.length).find? (fun i => decide (errAt ops i ≠ 0)) = some i := by
    rw [List.find?_range_eq_some]
    refine ⟨by simpa using he, by simpa using hi, fun j hj => by simpa using ho j hj⟩
  rw [this]
theorem chk_ok {ops : List Op5} (h : ops.length ≤ 5000) (ho : okTo ops ops.length) : chk ops = ((ops.length : Int), 0) := by
  unfold chk
  rw [if_neg (by omega)]
  have : (List.range ops.length).find? (fun i => decide (errAt ops i ≠ 0)) = none := by
    rw [List.find?_range_eq_none]
    intro j hj; simpa using ho j hj
  rw [this]
theorem okTo_succ {ops : List Op5} {i : Nat} (h : okTo ops i) (he : errAt ops i = 0) : okTo ops (i + 1) := fun j hj => by
  rcases Nat.lt_or_ge j i with h1 | h1
  · exact h j h1
  · have : j = i := by omega
    subst this; exact he
theorem errAt_eq {ops : List Op5} {i : Nat} (h : i < ops.length) : errAt ops i = stepE (ops.take i) ops[i] := by
  unfold errAt; simp [h]
theorem chk_alone {ops : List Op5} {i : Nat} (h : ops.length ≤ 5000) (hi : i < ops.length) (ho : okTo ops i) {n : Int} (hn : aloneS ops[i] = n) (h0 : n ≠ 0) : chk ops = ((i : Int), n) := by
  have he : errAt ops i = n := by rw [errAt_eq hi, stepE, if_pos (by rw [hn]; exact h0), hn]
  rw [chk_bad h hi ho (by rw [he]; exact h0), he]
theorem chk_order {ops : List Op5} {i : Nat} (h : ops.length ≤ 5000) (hi : i < ops.length) (ho : okTo ops i) (hn : aloneS ops[i] = 0) (hb : (ops.take i).any (fun a => badS a ops[i]) = true) : chk ops = ((i : Int), 32) := by
  have he : errAt ops i = 32 := by rw [errAt_eq hi, stepE, if_neg (by simp [hn]), if_pos hb]
  rw [chk_bad h hi ho (by rw [he]; decide), he]
theorem chk_open {ops : List Op5} {i : Nat} (h : ops.length ≤ 5000) (hi : i < ops.length) (ho : okTo ops i) (hn : aloneS ops[i] = 0) (hb : (ops.take i).any (fun a => badS a ops[i]) = false) (hc : (ops.take i).any (fun a => openS a ops[i]) = true) : chk ops = ((i : Int), 33) := by
  have he : errAt ops i = 33 := by rw [errAt_eq hi, stepE, if_neg (by simp [hn]), if_neg (by simp [hb]), if_pos hc]
  rw [chk_bad h hi ho (by rw [he]; decide), he]
theorem errAt_zero {ops : List Op5} {i : Nat} (hi : i < ops.length) (hn : aloneS ops[i] = 0) (hb : (ops.take i).any (fun a => badS a ops[i]) = false) (hc : (ops.take i).any (fun a => openS a ops[i]) = false) : errAt ops i = 0 := by
  rw [errAt_eq hi, stepE, if_neg (by simp [hn]), if_neg (by simp [hb]), if_neg (by simp [hc])]
theorem any_take_true {ops : List Op5} {i k : Nat} (f : Op5 → Bool) (hi : i ≤ ops.length) (hk : k < i) (h : f (ops[k]'(by omega)) = true) : (ops.take i).any f = true := by
  rw [List.any_eq_true]
  exact ⟨_, List.mem_take_iff_getElem.2 ⟨k, by omega, rfl⟩, h⟩
theorem any_take_succ {ops : List Op5} {k : Nat} (f : Op5 → Bool) (h : k < ops.length) : (ops.take (k + 1)).any f = ((ops.take k).any f || f ops[k]) := by
  rw [List.take_succ_eq_append_getElem h, List.any_append]; simp
theorem any_take_false {ops : List Op5} {k : Nat} (f : Op5 → Bool) (hk : k ≤ ops.length) (h : ∀ j (hj : j < k), f (ops[j]'(by omega)) = false) : (ops.take k).any f = false := by
  rw [List.any_eq_false]
  intro x hx
  obtain ⟨j, hj, rfl⟩ := List.mem_take_iff_getElem.1 hx
  have := h j (by omega)
  simp [this]

/-! ### The document's answer -/
set_option maxRecDepth 4000 in
theorem meets_ok (a b : Op5) : APure Tryz.prog 75 [.agg (orow a), .agg (orow b)] (fun r => r = .pv (BL (meetsS a b))) := by
  refine apure1 hmo Tryz.func75 (by kernel_rfl) rfl rfl (by kernel_rfl) (Nat.le_of_ble_eq_true rfl) ?_
  simp [orow, meetsS]
  grind

/-- Is one of the first k still open? -/
def openTo (ops : List Op5) (k : Nat) (o : Op5) : Bool := (ops.take k).any fun a => openS a o
theorem openTo_succ {ops : List Op5} {k : Nat} (h : k < ops.length) (o : Op5) : openTo ops (k + 1) o = (openTo ops k o || openS ops[k] o) := any_take_succ _ h

set_option maxRecDepth 8000 in
set_option maxHeartbeats 1000000 in
theorem refChk_ok (ops : List Op5) (hl : ops.length ≤ 140737488355328) : APure Tryz.prog 47 [ovec ops] (fun r => r = .pv (.tup [I64 (chk ops).1, I64 (chk ops).2])) := by
  refine apureN [2, 3] hmo Tryz.func47 (by kernel_rfl) rfl (fun _ _ => results_tmp2 rfl _ _ _) (by kernel_rfl) (Nat.le_of_ble_eq_true rfl) ?_
  simp [ovec]
  refine ⟨fun h => by rw [chk_big (by omega)]; exact ⟨rfl, rfl⟩, fun h => ?_⟩
  refine ALoop.intro (S := fun (i : Nat) => ⟨[(0, .pv (ovec ops)), (4, .pv (I64 i))], []⟩) (fun i => i ≤ ops.length ∧ okTo ops i) (fun i => ops.length - i) 0 ?_ ?_ ?_
  · exact Weak.to (by simp [ovec]) rfl (by simp) (by simp [ovec]) (by simp)
  · exact ⟨by omega, fun j hj => by omega⟩
  · intro i ⟨hi, hok⟩
    by_cases hlt : i < ops.length
    · have hw : w64 ((i : Int) + 1) = ((i + 1 : Nat) : Int) := by rw [w64_id (by omega) (by omega)]; omega
      simp [ovec, hlt, orow]
      refine ⟨fun hc => ?_, fun a1 a2 a3 a4 => ⟨fun hc => ?_, fun a5 a6 => ⟨by grind, by grind, by grind, by grind, fun hc => ?_, fun a7 a8 => ?_⟩⟩⟩
      · rw [chk_alone (by omega) hlt hok (n := 2) (by rw [aloneS, if_pos (by omega)]) (by decide)]; exact ⟨rfl, rfl⟩
      · rw [chk_alone (by omega) hlt hok (n := 31) (by rw [aloneS, if_neg (by omega), if_pos (by omega)]) (by decide)]; exact ⟨rfl, rfl⟩
      · rw [chk_alone (by omega) hlt hok (n := 7) (by rw [aloneS, if_neg (by omega), if_neg (by omega), if_neg (by simp only [endedS]; split <;> simp <;> omega)]) (by decide)]; exact ⟨rfl, rfl⟩
      have hal : aloneS ops[i] = 0 := by rw [aloneS, if_neg (by omega), if_neg (by omega), if_pos (by simp only [endedS]; split <;> simp <;> omega)]
      refine ALoop.intro (S := fun (k : Nat) => ⟨[(0, .pv (ovec ops)), (4, .pv (I64 i)), (5, .pv (.ptr 0 0)), (6, .pv (BL (openTo ops k ops[i]))), (7, .pv (I64 k))], [(orow ops[i]).map .pv]⟩) (fun k => k ≤ i ∧ (ops.take k).any (fun a => badS a ops[i]) = false) (fun k => i - k) 0 ?_ ?_ ?_
      · exact Weak.to (by simp [ovec, openTo]) (by simp [orow]) (by simp) (by simp [ovec]) (by simp [orow])
      · exact ⟨by omega, by simp⟩
      · intro k ⟨hk, hbad⟩
        by_cases hk2 : k < i
        · have hk3 : k < ops.length := by omega
          have hw2 : w64 ((k : Int) + 1) = ((k + 1 : Nat) : Int) := by rw [w64_id (by omega) (by omega)]; omega
          simp [ovec, hk2, hk3, orow]
          refine CallQ.intro (r := .pv (BL (meetsS ops[k] ops[i]))) (fun _ => meets_ok ops[k] ops[i]) (by simp) ?_
          simp
          refine ⟨fun hc => ?_, fun b1 b2 => ?_⟩
          · rw [chk_order (by omega) hlt hok hal (any_take_true _ hi hk2 (by simp [badS]; exact hc))]; exact ⟨rfl, rfl⟩
          have hb : badS ops[k] ops[i] = false := by simp [badS]; exact ⟨b1, b2⟩
          simp [hk3, orow]
          refine ⟨fun g1 g2 => ⟨g1, g2⟩, CallQ.intro (r := .pv (BL (aheadS ops[k] ops[i]))) (fun _ => refAhead_ok ops[k] ops[i]) (by simp) ?_⟩
          simp
          have h9 : (ops.take (k + 1)).any (fun a => badS a ops[i]) = false := by rw [any_take_succ _ hk3, hbad, hb]; rfl
          refine ⟨fun g1 => ⟨g1, fun g2 => ⟨g1, g2⟩⟩, k + 1, by dsimp only; omega, ⟨by omega, by simpa using h9⟩, Weak.to ?_ (by simp [orow]) (by simp) (by simp) (by simp)⟩
          simp [openTo_succ hk3, openS, hw2, ovec]
        · simp [hk2]
          have : k = i := by omega
          subst this
          refine ⟨fun hc => by rw [chk_open (by omega) hlt hok hal hbad hc]; exact ⟨rfl, rfl⟩, fun hc => ⟨k + 1, by dsimp only; omega, ⟨by omega, okTo_succ hok (errAt_zero hlt hal hbad hc)⟩, Weak.to ?_ rfl (by simp) (by simp) (by simp)⟩⟩
          simp [hw, ovec]
    · simp [ovec, hlt]
      have : i = ops.length := by omega
      subst this
      rw [chk_ok (by omega) hok]; simp

end Go.AX
