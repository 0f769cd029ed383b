/-
  Facts on the types of the seat's program (written by facts.py).
  Contracts: the numbers of clauses (count, numbering, the document's answer).
  Contracts: operations (oper, the document's answer).
  Contracts: whether operations may be.
  Contracts: all clauses (count, the document's answer).
  Contracts: whether operations may be (oper.Check, by maps).
-/
import Derived.Test.YtklaffmpfmpffaaGreatAxX
import Derived.Test.YtklaffmpfmpffaaGreatRows
namespace Go.AX
open Go.Proofs

@[simp] theorem ld_0 : ldInfo Tryz.prog 0 = some (false, 1) := by kernel_rfl
@[simp] theorem tk_1 : tk Tryz.prog 1 = .func := by kernel_rfl
@[simp] theorem ld_1 : ldInfo Tryz.prog 1 = some (false, 1) := by kernel_rfl
@[simp] theorem z_1 : zeroL Tryz.prog 1 = some [.lit .nilFunc] := by kernel_rfl
@[simp] theorem tk_2 : tk Tryz.prog 2 = .int := by kernel_rfl
@[simp] theorem ld_2 : ldInfo Tryz.prog 2 = some (false, 1) := by kernel_rfl
@[simp] theorem cv_2 : cvtK Tryz.prog 2 = some .i64 := by kernel_rfl
@[simp] theorem z_2 : zeroL Tryz.prog 2 = some [.lit (.int .i64 0)] := by kernel_rfl
@[simp] theorem tk_3 : tk Tryz.prog 3 = .int := by kernel_rfl
@[simp] theorem ld_3 : ldInfo Tryz.prog 3 = some (false, 1) := by kernel_rfl
@[simp] theorem cv_3 : cvtK Tryz.prog 3 = some .i64 := by kernel_rfl
@[simp] theorem z_3 : zeroL Tryz.prog 3 = some [.lit (.int .i64 0)] := by kernel_rfl
@[simp] theorem tk_4 : tk Tryz.prog 4 = .bool := by kernel_rfl
@[simp] theorem ld_4 : ldInfo Tryz.prog 4 = some (false, 1) := by kernel_rfl
@[simp] theorem z_4 : zeroL Tryz.prog 4 = some [.lit (.bool false)] := by kernel_rfl
@[simp] theorem tk_5 : tk Tryz.prog 5 = .int := by kernel_rfl
@[simp] theorem ld_5 : ldInfo Tryz.prog 5 = some (false, 1) := by kernel_rfl
@[simp] theorem cv_5 : cvtK Tryz.prog 5 = some .u8 := by kernel_rfl
@[simp] theorem z_5 : zeroL Tryz.prog 5 = some [.lit (.int .u8 0)] := by kernel_rfl
@[simp] theorem tk_6 : tk Tryz.prog 6 = .int := by kernel_rfl
@[simp] theorem ld_6 : ldInfo Tryz.prog 6 = some (false, 1) := by kernel_rfl
@[simp] theorem cv_6 : cvtK Tryz.prog 6 = some .u8 := by kernel_rfl
@[simp] theorem z_6 : zeroL Tryz.prog 6 = some [.lit (.int .u8 0)] := by kernel_rfl
@[simp] theorem ld_7 : ldInfo Tryz.prog 7 = some (true, 4) := by kernel_rfl
@[simp] theorem z_7 : zeroL Tryz.prog 7 = some [.lit (.int .i64 0), .lit (.int .i64 0), .lit (.bool false), .lit (.int .u8 0)] := by kernel_rfl
@[simp] theorem zv_7 : zeroV Tryz.prog 7 = some [.lit (.int .i64 0), .lit (.int .i64 0), .lit (.bool false), .lit (.int .u8 0)] := by kernel_rfl
@[simp] theorem bi_7 : bInfo Tryz.prog 7 = some [(0, 1), (1, 1), (2, 1), (3, 1)] := by kernel_rfl
@[simp] theorem ld_8 : ldInfo Tryz.prog 8 = some (true, 4) := by kernel_rfl
@[simp] theorem z_8 : zeroL Tryz.prog 8 = some [.lit (.int .i64 0), .lit (.int .i64 0), .lit (.bool false), .lit (.int .u8 0)] := by kernel_rfl
@[simp] theorem zv_8 : zeroV Tryz.prog 8 = some [.lit (.int .i64 0), .lit (.int .i64 0), .lit (.bool false), .lit (.int .u8 0)] := by kernel_rfl
@[simp] theorem bi_8 : bInfo Tryz.prog 8 = some [(0, 1), (1, 1), (2, 1), (3, 1)] := by kernel_rfl
@[simp] theorem tk_9 : tk Tryz.prog 9 = .string := by kernel_rfl
@[simp] theorem ld_9 : ldInfo Tryz.prog 9 = some (false, 1) := by kernel_rfl
@[simp] theorem z_9 : zeroL Tryz.prog 9 = some [.lit (.string ByteArray.empty)] := by kernel_rfl
@[simp] theorem tk_10 : tk Tryz.prog 10 = .string := by kernel_rfl
@[simp] theorem ld_10 : ldInfo Tryz.prog 10 = some (false, 1) := by kernel_rfl
@[simp] theorem z_10 : zeroL Tryz.prog 10 = some [.lit (.string ByteArray.empty)] := by kernel_rfl
@[simp] theorem tk_11 : tk Tryz.prog 11 = .string := by kernel_rfl
@[simp] theorem ld_11 : ldInfo Tryz.prog 11 = some (false, 1) := by kernel_rfl
@[simp] theorem z_11 : zeroL Tryz.prog 11 = some [.lit (.string ByteArray.empty)] := by kernel_rfl
@[simp] theorem tk_12 : tk Tryz.prog 12 = .int := by kernel_rfl
@[simp] theorem ld_12 : ldInfo Tryz.prog 12 = some (false, 1) := by kernel_rfl
@[simp] theorem cv_12 : cvtK Tryz.prog 12 = some .u64 := by kernel_rfl
@[simp] theorem z_12 : zeroL Tryz.prog 12 = some [.lit (.int .u64 0)] := by kernel_rfl
@[simp] theorem ld_13 : ldInfo Tryz.prog 13 = some (true, 2) := by kernel_rfl
@[simp] theorem z_13 : zeroL Tryz.prog 13 = some [.lit (.string ByteArray.empty), .lit (.int .u64 0)] := by kernel_rfl
@[simp] theorem zv_13 : zeroV Tryz.prog 13 = some [.lit (.string ByteArray.empty), .lit (.int .u64 0)] := by kernel_rfl
@[simp] theorem bi_13 : bInfo Tryz.prog 13 = some [(0, 1), (1, 1)] := by kernel_rfl
@[simp] theorem ld_14 : ldInfo Tryz.prog 14 = some (true, 2) := by kernel_rfl
@[simp] theorem z_14 : zeroL Tryz.prog 14 = some [.lit (.string ByteArray.empty), .lit (.int .u64 0)] := by kernel_rfl
@[simp] theorem zv_14 : zeroV Tryz.prog 14 = some [.lit (.string ByteArray.empty), .lit (.int .u64 0)] := by kernel_rfl
@[simp] theorem bi_14 : bInfo Tryz.prog 14 = some [(0, 1), (1, 1)] := by kernel_rfl
@[simp] theorem tk_15 : tk Tryz.prog 15 = .ptr := by kernel_rfl
@[simp] theorem ld_15 : ldInfo Tryz.prog 15 = some (false, 1) := by kernel_rfl
@[simp] theorem z_15 : zeroL Tryz.prog 15 = some [.lit (.pointer none)] := by kernel_rfl
@[simp] theorem tk_16 : tk Tryz.prog 16 = .ptr := by kernel_rfl
@[simp] theorem ld_16 : ldInfo Tryz.prog 16 = some (false, 1) := by kernel_rfl
@[simp] theorem z_16 : zeroL Tryz.prog 16 = some [.lit (.pointer none)] := by kernel_rfl
@[simp] theorem tk_17 : tk Tryz.prog 17 = .ptr := by kernel_rfl
@[simp] theorem ld_17 : ldInfo Tryz.prog 17 = some (false, 1) := by kernel_rfl
@[simp] theorem z_17 : zeroL Tryz.prog 17 = some [.lit (.pointer none)] := by kernel_rfl
@[simp] theorem ld_18 : ldInfo Tryz.prog 18 = some (true, 1) := by kernel_rfl
@[simp] theorem z_18 : zeroL Tryz.prog 18 = some [.lit (.pointer none)] := by kernel_rfl
@[simp] theorem zv_18 : zeroV Tryz.prog 18 = some [.lit (.pointer none)] := by kernel_rfl
@[simp] theorem bi_18 : bInfo Tryz.prog 18 = some [(0, 1)] := by kernel_rfl
@[simp] theorem ld_19 : ldInfo Tryz.prog 19 = some (true, 1) := by kernel_rfl
@[simp] theorem z_19 : zeroL Tryz.prog 19 = some [.lit (.pointer none)] := by kernel_rfl
@[simp] theorem zv_19 : zeroV Tryz.prog 19 = some [.lit (.pointer none)] := by kernel_rfl
@[simp] theorem bi_19 : bInfo Tryz.prog 19 = some [(0, 1)] := by kernel_rfl
@[simp] theorem ld_20 : ldInfo Tryz.prog 20 = some (false, 1) := by kernel_rfl
@[simp] theorem tk_21 : tk Tryz.prog 21 = .int := by kernel_rfl
@[simp] theorem ld_21 : ldInfo Tryz.prog 21 = some (false, 1) := by kernel_rfl
@[simp] theorem cv_21 : cvtK Tryz.prog 21 = some .i32 := by kernel_rfl
@[simp] theorem z_21 : zeroL Tryz.prog 21 = some [.lit (.int .i32 0)] := by kernel_rfl
@[simp] theorem tk_22 : tk Tryz.prog 22 = .slice := by kernel_rfl
@[simp] theorem ld_22 : ldInfo Tryz.prog 22 = some (false, 1) := by kernel_rfl
@[simp] theorem sl_22 : slSize Tryz.prog 22 = some 1 := by kernel_rfl
@[simp] theorem si_22 : slInfo Tryz.prog 22 = some (1, 24) := by kernel_rfl
@[simp] theorem z_22 : zeroL Tryz.prog 22 = some [.lit (.slice none 0 0)] := by kernel_rfl
@[simp] theorem sz_22 : slZero Tryz.prog 22 = some [.lit (.slice none 0 0)] := by kernel_rfl
@[simp] theorem ld_23 : ldInfo Tryz.prog 23 = some (true, 2) := by kernel_rfl
@[simp] theorem z_23 : zeroL Tryz.prog 23 = some [.lit (.int .i64 0), .lit (.slice none 0 0)] := by kernel_rfl
@[simp] theorem zv_23 : zeroV Tryz.prog 23 = some [.lit (.int .i64 0), .lit (.slice none 0 0)] := by kernel_rfl
@[simp] theorem bi_23 : bInfo Tryz.prog 23 = some [(0, 1), (1, 1)] := by kernel_rfl
@[simp] theorem ld_24 : ldInfo Tryz.prog 24 = some (true, 2) := by kernel_rfl
@[simp] theorem z_24 : zeroL Tryz.prog 24 = some [.lit (.int .i64 0), .lit (.slice none 0 0)] := by kernel_rfl
@[simp] theorem zv_24 : zeroV Tryz.prog 24 = some [.lit (.int .i64 0), .lit (.slice none 0 0)] := by kernel_rfl
@[simp] theorem bi_24 : bInfo Tryz.prog 24 = some [(0, 1), (1, 1)] := by kernel_rfl
@[simp] theorem tk_25 : tk Tryz.prog 25 = .slice := by kernel_rfl
@[simp] theorem ld_25 : ldInfo Tryz.prog 25 = some (false, 1) := by kernel_rfl
@[simp] theorem sl_25 : slSize Tryz.prog 25 = some 4 := by kernel_rfl
@[simp] theorem si_25 : slInfo Tryz.prog 25 = some (4, 64) := by kernel_rfl
@[simp] theorem z_25 : zeroL Tryz.prog 25 = some [.lit (.slice none 0 0)] := by kernel_rfl
@[simp] theorem sz_25 : slZero Tryz.prog 25 = some [.lit (.int .i64 0), .lit (.int .i64 0), .lit (.slice none 0 0), .lit (.slice none 0 0)] := by kernel_rfl
@[simp] theorem tk_26 : tk Tryz.prog 26 = .func := by kernel_rfl
@[simp] theorem ld_26 : ldInfo Tryz.prog 26 = some (false, 1) := by kernel_rfl
@[simp] theorem z_26 : zeroL Tryz.prog 26 = some [.lit .nilFunc] := by kernel_rfl
@[simp] theorem tk_27 : tk Tryz.prog 27 = .func := by kernel_rfl
@[simp] theorem ld_27 : ldInfo Tryz.prog 27 = some (false, 1) := by kernel_rfl
@[simp] theorem z_27 : zeroL Tryz.prog 27 = some [.lit .nilFunc] := by kernel_rfl
@[simp] theorem tk_28 : tk Tryz.prog 28 = .slice := by kernel_rfl
@[simp] theorem ld_28 : ldInfo Tryz.prog 28 = some (false, 1) := by kernel_rfl
@[simp] theorem sl_28 : slSize Tryz.prog 28 = some 1 := by kernel_rfl
@[simp] theorem si_28 : slInfo Tryz.prog 28 = some (1, 8) := by kernel_rfl
@[simp] theorem z_28 : zeroL Tryz.prog 28 = some [.lit (.slice none 0 0)] := by kernel_rfl
@[simp] theorem sz_28 : slZero Tryz.prog 28 = some [.lit (.int .i64 0)] := by kernel_rfl
@[simp] theorem tk_29 : tk Tryz.prog 29 = .int := by kernel_rfl
@[simp] theorem ld_29 : ldInfo Tryz.prog 29 = some (false, 1) := by kernel_rfl
@[simp] theorem cv_29 : cvtK Tryz.prog 29 = some .i64 := by kernel_rfl
@[simp] theorem z_29 : zeroL Tryz.prog 29 = some [.lit (.int .i64 0)] := by kernel_rfl
@[simp] theorem ld_30 : ldInfo Tryz.prog 30 = some (false, 1) := by kernel_rfl
@[simp] theorem tk_31 : tk Tryz.prog 31 = .func := by kernel_rfl
@[simp] theorem ld_31 : ldInfo Tryz.prog 31 = some (false, 1) := by kernel_rfl
@[simp] theorem z_31 : zeroL Tryz.prog 31 = some [.lit .nilFunc] := by kernel_rfl
@[simp] theorem ld_32 : ldInfo Tryz.prog 32 = some (false, 1) := by kernel_rfl
@[simp] theorem tk_33 : tk Tryz.prog 33 = .func := by kernel_rfl
@[simp] theorem ld_33 : ldInfo Tryz.prog 33 = some (false, 1) := by kernel_rfl
@[simp] theorem z_33 : zeroL Tryz.prog 33 = some [.lit .nilFunc] := by kernel_rfl
@[simp] theorem ld_34 : ldInfo Tryz.prog 34 = some (false, 1) := by kernel_rfl
@[simp] theorem tk_35 : tk Tryz.prog 35 = .func := by kernel_rfl
@[simp] theorem ld_35 : ldInfo Tryz.prog 35 = some (false, 1) := by kernel_rfl
@[simp] theorem z_35 : zeroL Tryz.prog 35 = some [.lit .nilFunc] := by kernel_rfl
@[simp] theorem ld_36 : ldInfo Tryz.prog 36 = some (false, 1) := by kernel_rfl
@[simp] theorem tk_37 : tk Tryz.prog 37 = .func := by kernel_rfl
@[simp] theorem ld_37 : ldInfo Tryz.prog 37 = some (false, 1) := by kernel_rfl
@[simp] theorem z_37 : zeroL Tryz.prog 37 = some [.lit .nilFunc] := by kernel_rfl
@[simp] theorem ld_38 : ldInfo Tryz.prog 38 = some (false, 1) := by kernel_rfl
@[simp] theorem tk_39 : tk Tryz.prog 39 = .func := by kernel_rfl
@[simp] theorem ld_39 : ldInfo Tryz.prog 39 = some (false, 1) := by kernel_rfl
@[simp] theorem z_39 : zeroL Tryz.prog 39 = some [.lit .nilFunc] := by kernel_rfl
@[simp] theorem ld_40 : ldInfo Tryz.prog 40 = some (false, 1) := by kernel_rfl
@[simp] theorem tk_41 : tk Tryz.prog 41 = .func := by kernel_rfl
@[simp] theorem ld_41 : ldInfo Tryz.prog 41 = some (false, 1) := by kernel_rfl
@[simp] theorem z_41 : zeroL Tryz.prog 41 = some [.lit .nilFunc] := by kernel_rfl
@[simp] theorem tk_42 : tk Tryz.prog 42 = .func := by kernel_rfl
@[simp] theorem ld_42 : ldInfo Tryz.prog 42 = some (false, 1) := by kernel_rfl
@[simp] theorem z_42 : zeroL Tryz.prog 42 = some [.lit .nilFunc] := by kernel_rfl
@[simp] theorem tk_43 : tk Tryz.prog 43 = .func := by kernel_rfl
@[simp] theorem ld_43 : ldInfo Tryz.prog 43 = some (false, 1) := by kernel_rfl
@[simp] theorem z_43 : zeroL Tryz.prog 43 = some [.lit .nilFunc] := by kernel_rfl
@[simp] theorem tk_44 : tk Tryz.prog 44 = .func := by kernel_rfl
@[simp] theorem ld_44 : ldInfo Tryz.prog 44 = some (false, 1) := by kernel_rfl
@[simp] theorem z_44 : zeroL Tryz.prog 44 = some [.lit .nilFunc] := by kernel_rfl
@[simp] theorem ld_45 : ldInfo Tryz.prog 45 = some (false, 1) := by kernel_rfl
@[simp] theorem tk_46 : tk Tryz.prog 46 = .func := by kernel_rfl
@[simp] theorem ld_46 : ldInfo Tryz.prog 46 = some (false, 1) := by kernel_rfl
@[simp] theorem z_46 : zeroL Tryz.prog 46 = some [.lit .nilFunc] := by kernel_rfl
@[simp] theorem tk_47 : tk Tryz.prog 47 = .slice := by kernel_rfl
@[simp] theorem ld_47 : ldInfo Tryz.prog 47 = some (false, 1) := by kernel_rfl
@[simp] theorem sl_47 : slSize Tryz.prog 47 = some 1 := by kernel_rfl
@[simp] theorem si_47 : slInfo Tryz.prog 47 = some (1, 1) := by kernel_rfl
@[simp] theorem z_47 : zeroL Tryz.prog 47 = some [.lit (.slice none 0 0)] := by kernel_rfl
@[simp] theorem sz_47 : slZero Tryz.prog 47 = some [.lit (.bool false)] := by kernel_rfl
@[simp] theorem tk_48 : tk Tryz.prog 48 = .func := by kernel_rfl
@[simp] theorem ld_48 : ldInfo Tryz.prog 48 = some (false, 1) := by kernel_rfl
@[simp] theorem z_48 : zeroL Tryz.prog 48 = some [.lit .nilFunc] := by kernel_rfl
@[simp] theorem tk_49 : tk Tryz.prog 49 = .func := by kernel_rfl
@[simp] theorem ld_49 : ldInfo Tryz.prog 49 = some (false, 1) := by kernel_rfl
@[simp] theorem z_49 : zeroL Tryz.prog 49 = some [.lit .nilFunc] := by kernel_rfl
@[simp] theorem tk_50 : tk Tryz.prog 50 = .func := by kernel_rfl
@[simp] theorem ld_50 : ldInfo Tryz.prog 50 = some (false, 1) := by kernel_rfl
@[simp] theorem z_50 : zeroL Tryz.prog 50 = some [.lit .nilFunc] := by kernel_rfl
@[simp] theorem tk_51 : tk Tryz.prog 51 = .ptr := by kernel_rfl
@[simp] theorem ld_51 : ldInfo Tryz.prog 51 = some (false, 1) := by kernel_rfl
@[simp] theorem z_51 : zeroL Tryz.prog 51 = some [.lit (.pointer none)] := by kernel_rfl
@[simp] theorem tk_52 : tk Tryz.prog 52 = .ptr := by kernel_rfl
@[simp] theorem ld_52 : ldInfo Tryz.prog 52 = some (false, 1) := by kernel_rfl
@[simp] theorem z_52 : zeroL Tryz.prog 52 = some [.lit (.pointer none)] := by kernel_rfl
@[simp] theorem tk_53 : tk Tryz.prog 53 = .slice := by kernel_rfl
@[simp] theorem ld_53 : ldInfo Tryz.prog 53 = some (false, 1) := by kernel_rfl
@[simp] theorem sl_53 : slSize Tryz.prog 53 = some 5 := by kernel_rfl
@[simp] theorem si_53 : slInfo Tryz.prog 53 = some (5, 48) := by kernel_rfl
@[simp] theorem z_53 : zeroL Tryz.prog 53 = some [.lit (.slice none 0 0)] := by kernel_rfl
@[simp] theorem sz_53 : slZero Tryz.prog 53 = some [.lit (.int .i64 0), .lit (.int .i64 0), .lit (.slice none 0 0), .lit (.bool false), .lit (.bool false)] := by kernel_rfl
@[simp] theorem ld_54 : ldInfo Tryz.prog 54 = some (true, 2) := by kernel_rfl
@[simp] theorem z_54 : zeroL Tryz.prog 54 = some [.lit (.slice none 0 0), .lit (.int .i64 0)] := by kernel_rfl
@[simp] theorem zv_54 : zeroV Tryz.prog 54 = some [.lit (.slice none 0 0), .lit (.int .i64 0)] := by kernel_rfl
@[simp] theorem bi_54 : bInfo Tryz.prog 54 = some [(0, 1), (1, 1)] := by kernel_rfl
@[simp] theorem ld_55 : ldInfo Tryz.prog 55 = some (true, 2) := by kernel_rfl
@[simp] theorem z_55 : zeroL Tryz.prog 55 = some [.lit (.slice none 0 0), .lit (.int .i64 0)] := by kernel_rfl
@[simp] theorem zv_55 : zeroV Tryz.prog 55 = some [.lit (.slice none 0 0), .lit (.int .i64 0)] := by kernel_rfl
@[simp] theorem bi_55 : bInfo Tryz.prog 55 = some [(0, 1), (1, 1)] := by kernel_rfl
@[simp] theorem tk_56 : tk Tryz.prog 56 = .slice := by kernel_rfl
@[simp] theorem ld_56 : ldInfo Tryz.prog 56 = some (false, 1) := by kernel_rfl
@[simp] theorem sl_56 : slSize Tryz.prog 56 = some 3 := by kernel_rfl
@[simp] theorem si_56 : slInfo Tryz.prog 56 = some (3, 24) := by kernel_rfl
@[simp] theorem z_56 : zeroL Tryz.prog 56 = some [.lit (.slice none 0 0)] := by kernel_rfl
@[simp] theorem sz_56 : slZero Tryz.prog 56 = some [.lit (.int .i64 0), .lit (.int .i64 0), .lit (.int .i64 0)] := by kernel_rfl
@[simp] theorem ld_57 : ldInfo Tryz.prog 57 = some (true, 3) := by kernel_rfl
@[simp] theorem z_57 : zeroL Tryz.prog 57 = some [.lit (.int .i64 0), .lit (.slice none 0 0), .lit (.int .i64 0)] := by kernel_rfl
@[simp] theorem zv_57 : zeroV Tryz.prog 57 = some [.lit (.int .i64 0), .lit (.slice none 0 0), .lit (.int .i64 0)] := by kernel_rfl
@[simp] theorem bi_57 : bInfo Tryz.prog 57 = some [(0, 1), (1, 1), (2, 1)] := by kernel_rfl
@[simp] theorem ld_58 : ldInfo Tryz.prog 58 = some (true, 3) := by kernel_rfl
@[simp] theorem z_58 : zeroL Tryz.prog 58 = some [.lit (.int .i64 0), .lit (.slice none 0 0), .lit (.int .i64 0)] := by kernel_rfl
@[simp] theorem zv_58 : zeroV Tryz.prog 58 = some [.lit (.int .i64 0), .lit (.slice none 0 0), .lit (.int .i64 0)] := by kernel_rfl
@[simp] theorem bi_58 : bInfo Tryz.prog 58 = some [(0, 1), (1, 1), (2, 1)] := by kernel_rfl
@[simp] theorem ld_59 : ldInfo Tryz.prog 59 = some (true, 8) := by kernel_rfl
@[simp] theorem z_59 : zeroL Tryz.prog 59 = some [.lit (.pointer none), .lit (.pointer none), .lit (.slice none 0 0), .lit (.int .i64 0), .lit (.int .i64 0), .lit (.slice none 0 0), .lit (.int .i64 0), .lit (.int .i64 0)] := by kernel_rfl
@[simp] theorem zv_59 : zeroV Tryz.prog 59 = some [.lit (.pointer none), .lit (.pointer none), .lit (.slice none 0 0), .lit (.int .i64 0), .lit (.int .i64 0), .lit (.slice none 0 0), .lit (.int .i64 0), .lit (.int .i64 0)] := by kernel_rfl
@[simp] theorem bi_59 : bInfo Tryz.prog 59 = some [(0, 1), (1, 1), (2, 2), (4, 3), (7, 1)] := by kernel_rfl
@[simp] theorem ld_60 : ldInfo Tryz.prog 60 = some (true, 8) := by kernel_rfl
@[simp] theorem z_60 : zeroL Tryz.prog 60 = some [.lit (.pointer none), .lit (.pointer none), .lit (.slice none 0 0), .lit (.int .i64 0), .lit (.int .i64 0), .lit (.slice none 0 0), .lit (.int .i64 0), .lit (.int .i64 0)] := by kernel_rfl
@[simp] theorem zv_60 : zeroV Tryz.prog 60 = some [.lit (.pointer none), .lit (.pointer none), .lit (.slice none 0 0), .lit (.int .i64 0), .lit (.int .i64 0), .lit (.slice none 0 0), .lit (.int .i64 0), .lit (.int .i64 0)] := by kernel_rfl
@[simp] theorem bi_60 : bInfo Tryz.prog 60 = some [(0, 1), (1, 1), (2, 2), (4, 3), (7, 1)] := by kernel_rfl
@[simp] theorem ld_61 : ldInfo Tryz.prog 61 = some (false, 1) := by kernel_rfl
@[simp] theorem tk_62 : tk Tryz.prog 62 = .func := by kernel_rfl
@[simp] theorem ld_62 : ldInfo Tryz.prog 62 = some (false, 1) := by kernel_rfl
@[simp] theorem z_62 : zeroL Tryz.prog 62 = some [.lit .nilFunc] := by kernel_rfl
@[simp] theorem tk_63 : tk Tryz.prog 63 = .func := by kernel_rfl
@[simp] theorem ld_63 : ldInfo Tryz.prog 63 = some (false, 1) := by kernel_rfl
@[simp] theorem z_63 : zeroL Tryz.prog 63 = some [.lit .nilFunc] := by kernel_rfl
@[simp] theorem ld_64 : ldInfo Tryz.prog 64 = some (false, 1) := by kernel_rfl
@[simp] theorem tk_65 : tk Tryz.prog 65 = .func := by kernel_rfl
@[simp] theorem ld_65 : ldInfo Tryz.prog 65 = some (false, 1) := by kernel_rfl
@[simp] theorem z_65 : zeroL Tryz.prog 65 = some [.lit .nilFunc] := by kernel_rfl
@[simp] theorem tk_66 : tk Tryz.prog 66 = .func := by kernel_rfl
@[simp] theorem ld_66 : ldInfo Tryz.prog 66 = some (false, 1) := by kernel_rfl
@[simp] theorem z_66 : zeroL Tryz.prog 66 = some [.lit .nilFunc] := by kernel_rfl
@[simp] theorem tk_67 : tk Tryz.prog 67 = .func := by kernel_rfl
@[simp] theorem ld_67 : ldInfo Tryz.prog 67 = some (false, 1) := by kernel_rfl
@[simp] theorem z_67 : zeroL Tryz.prog 67 = some [.lit .nilFunc] := by kernel_rfl
@[simp] theorem tk_68 : tk Tryz.prog 68 = .func := by kernel_rfl
@[simp] theorem ld_68 : ldInfo Tryz.prog 68 = some (false, 1) := by kernel_rfl
@[simp] theorem z_68 : zeroL Tryz.prog 68 = some [.lit .nilFunc] := by kernel_rfl
@[simp] theorem tk_69 : tk Tryz.prog 69 = .func := by kernel_rfl
@[simp] theorem ld_69 : ldInfo Tryz.prog 69 = some (false, 1) := by kernel_rfl
@[simp] theorem z_69 : zeroL Tryz.prog 69 = some [.lit .nilFunc] := by kernel_rfl
@[simp] theorem tk_70 : tk Tryz.prog 70 = .func := by kernel_rfl
@[simp] theorem ld_70 : ldInfo Tryz.prog 70 = some (false, 1) := by kernel_rfl
@[simp] theorem z_70 : zeroL Tryz.prog 70 = some [.lit .nilFunc] := by kernel_rfl
@[simp] theorem tk_71 : tk Tryz.prog 71 = .func := by kernel_rfl
@[simp] theorem ld_71 : ldInfo Tryz.prog 71 = some (false, 1) := by kernel_rfl
@[simp] theorem z_71 : zeroL Tryz.prog 71 = some [.lit .nilFunc] := by kernel_rfl
@[simp] theorem tk_72 : tk Tryz.prog 72 = .func := by kernel_rfl
@[simp] theorem ld_72 : ldInfo Tryz.prog 72 = some (false, 1) := by kernel_rfl
@[simp] theorem z_72 : zeroL Tryz.prog 72 = some [.lit .nilFunc] := by kernel_rfl
@[simp] theorem tk_73 : tk Tryz.prog 73 = .func := by kernel_rfl
@[simp] theorem ld_73 : ldInfo Tryz.prog 73 = some (false, 1) := by kernel_rfl
@[simp] theorem z_73 : zeroL Tryz.prog 73 = some [.lit .nilFunc] := by kernel_rfl
@[simp] theorem tk_74 : tk Tryz.prog 74 = .func := by kernel_rfl
@[simp] theorem ld_74 : ldInfo Tryz.prog 74 = some (false, 1) := by kernel_rfl
@[simp] theorem z_74 : zeroL Tryz.prog 74 = some [.lit .nilFunc] := by kernel_rfl
@[simp] theorem tk_75 : tk Tryz.prog 75 = .func := by kernel_rfl
@[simp] theorem ld_75 : ldInfo Tryz.prog 75 = some (false, 1) := by kernel_rfl
@[simp] theorem z_75 : zeroL Tryz.prog 75 = some [.lit .nilFunc] := by kernel_rfl
@[simp] theorem tk_76 : tk Tryz.prog 76 = .func := by kernel_rfl
@[simp] theorem ld_76 : ldInfo Tryz.prog 76 = some (false, 1) := by kernel_rfl
@[simp] theorem z_76 : zeroL Tryz.prog 76 = some [.lit .nilFunc] := by kernel_rfl
@[simp] theorem tk_77 : tk Tryz.prog 77 = .func := by kernel_rfl
@[simp] theorem ld_77 : ldInfo Tryz.prog 77 = some (false, 1) := by kernel_rfl
@[simp] theorem z_77 : zeroL Tryz.prog 77 = some [.lit .nilFunc] := by kernel_rfl
@[simp] theorem ld_78 : ldInfo Tryz.prog 78 = some (true, 5) := by kernel_rfl
@[simp] theorem z_78 : zeroL Tryz.prog 78 = some [.lit (.int .i64 0), .lit (.int .i64 0), .lit (.slice none 0 0), .lit (.bool false), .lit (.bool false)] := by kernel_rfl
@[simp] theorem zv_78 : zeroV Tryz.prog 78 = some [.lit (.int .i64 0), .lit (.int .i64 0), .lit (.slice none 0 0), .lit (.bool false), .lit (.bool false)] := by kernel_rfl
@[simp] theorem bi_78 : bInfo Tryz.prog 78 = some [(0, 1), (1, 1), (2, 1), (3, 1), (4, 1)] := by kernel_rfl
@[simp] theorem ld_79 : ldInfo Tryz.prog 79 = some (true, 5) := by kernel_rfl
@[simp] theorem z_79 : zeroL Tryz.prog 79 = some [.lit (.int .i64 0), .lit (.int .i64 0), .lit (.slice none 0 0), .lit (.bool false), .lit (.bool false)] := by kernel_rfl
@[simp] theorem zv_79 : zeroV Tryz.prog 79 = some [.lit (.int .i64 0), .lit (.int .i64 0), .lit (.slice none 0 0), .lit (.bool false), .lit (.bool false)] := by kernel_rfl
@[simp] theorem bi_79 : bInfo Tryz.prog 79 = some [(0, 1), (1, 1), (2, 1), (3, 1), (4, 1)] := by kernel_rfl
@[simp] theorem ld_80 : ldInfo Tryz.prog 80 = some (false, 1) := by kernel_rfl
@[simp] theorem tk_81 : tk Tryz.prog 81 = .func := by kernel_rfl
@[simp] theorem ld_81 : ldInfo Tryz.prog 81 = some (false, 1) := by kernel_rfl
@[simp] theorem z_81 : zeroL Tryz.prog 81 = some [.lit .nilFunc] := by kernel_rfl
@[simp] theorem tk_82 : tk Tryz.prog 82 = .func := by kernel_rfl
@[simp] theorem ld_82 : ldInfo Tryz.prog 82 = some (false, 1) := by kernel_rfl
@[simp] theorem z_82 : zeroL Tryz.prog 82 = some [.lit .nilFunc] := by kernel_rfl
@[simp] theorem tk_83 : tk Tryz.prog 83 = .func := by kernel_rfl
@[simp] theorem ld_83 : ldInfo Tryz.prog 83 = some (false, 1) := by kernel_rfl
@[simp] theorem z_83 : zeroL Tryz.prog 83 = some [.lit .nilFunc] := by kernel_rfl
@[simp] theorem tk_84 : tk Tryz.prog 84 = .func := by kernel_rfl
@[simp] theorem ld_84 : ldInfo Tryz.prog 84 = some (false, 1) := by kernel_rfl
@[simp] theorem z_84 : zeroL Tryz.prog 84 = some [.lit .nilFunc] := by kernel_rfl
@[simp] theorem tk_85 : tk Tryz.prog 85 = .func := by kernel_rfl
@[simp] theorem ld_85 : ldInfo Tryz.prog 85 = some (false, 1) := by kernel_rfl
@[simp] theorem z_85 : zeroL Tryz.prog 85 = some [.lit .nilFunc] := by kernel_rfl
@[simp] theorem ld_86 : ldInfo Tryz.prog 86 = some (false, 1) := by kernel_rfl
@[simp] theorem tk_87 : tk Tryz.prog 87 = .func := by kernel_rfl
@[simp] theorem ld_87 : ldInfo Tryz.prog 87 = some (false, 1) := by kernel_rfl
@[simp] theorem z_87 : zeroL Tryz.prog 87 = some [.lit .nilFunc] := by kernel_rfl
@[simp] theorem ld_88 : ldInfo Tryz.prog 88 = some (true, 4) := by kernel_rfl
@[simp] theorem z_88 : zeroL Tryz.prog 88 = some [.lit (.int .i64 0), .lit (.int .i64 0), .lit (.slice none 0 0), .lit (.slice none 0 0)] := by kernel_rfl
@[simp] theorem zv_88 : zeroV Tryz.prog 88 = some [.lit (.int .i64 0), .lit (.int .i64 0), .lit (.slice none 0 0), .lit (.slice none 0 0)] := by kernel_rfl
@[simp] theorem bi_88 : bInfo Tryz.prog 88 = some [(0, 1), (1, 1), (2, 1), (3, 1)] := by kernel_rfl
@[simp] theorem ld_89 : ldInfo Tryz.prog 89 = some (true, 4) := by kernel_rfl
@[simp] theorem z_89 : zeroL Tryz.prog 89 = some [.lit (.int .i64 0), .lit (.int .i64 0), .lit (.slice none 0 0), .lit (.slice none 0 0)] := by kernel_rfl
@[simp] theorem zv_89 : zeroV Tryz.prog 89 = some [.lit (.int .i64 0), .lit (.int .i64 0), .lit (.slice none 0 0), .lit (.slice none 0 0)] := by kernel_rfl
@[simp] theorem bi_89 : bInfo Tryz.prog 89 = some [(0, 1), (1, 1), (2, 1), (3, 1)] := by kernel_rfl
@[simp] theorem tk_90 : tk Tryz.prog 90 = .map := by kernel_rfl
@[simp] theorem ld_90 : ldInfo Tryz.prog 90 = some (false, 1) := by kernel_rfl
@[simp] theorem z_90 : zeroL Tryz.prog 90 = some [.lit (.map none)] := by kernel_rfl
@[simp] theorem mk_90 : mpKey Tryz.prog 90 = true := by kernel_rfl
@[simp] theorem mp_90 : mpInfo Tryz.prog 90 = some (.lit (.int .i64 0)) := by kernel_rfl
@[simp] theorem ld_91 : ldInfo Tryz.prog 91 = some (false, 1) := by kernel_rfl
@[simp] theorem tk_92 : tk Tryz.prog 92 = .func := by kernel_rfl
@[simp] theorem ld_92 : ldInfo Tryz.prog 92 = some (false, 1) := by kernel_rfl
@[simp] theorem z_92 : zeroL Tryz.prog 92 = some [.lit .nilFunc] := by kernel_rfl
@[simp] theorem tk_93 : tk Tryz.prog 93 = .func := by kernel_rfl
@[simp] theorem ld_93 : ldInfo Tryz.prog 93 = some (false, 1) := by kernel_rfl
@[simp] theorem z_93 : zeroL Tryz.prog 93 = some [.lit .nilFunc] := by kernel_rfl
@[simp] theorem tk_94 : tk Tryz.prog 94 = .func := by kernel_rfl
@[simp] theorem ld_94 : ldInfo Tryz.prog 94 = some (false, 1) := by kernel_rfl
@[simp] theorem z_94 : zeroL Tryz.prog 94 = some [.lit .nilFunc] := by kernel_rfl
@[simp] theorem tk_95 : tk Tryz.prog 95 = .func := by kernel_rfl
@[simp] theorem ld_95 : ldInfo Tryz.prog 95 = some (false, 1) := by kernel_rfl
@[simp] theorem z_95 : zeroL Tryz.prog 95 = some [.lit .nilFunc] := by kernel_rfl
@[simp] theorem tk_96 : tk Tryz.prog 96 = .func := by kernel_rfl
@[simp] theorem ld_96 : ldInfo Tryz.prog 96 = some (false, 1) := by kernel_rfl
@[simp] theorem z_96 : zeroL Tryz.prog 96 = some [.lit .nilFunc] := by kernel_rfl
@[simp] theorem tk_97 : tk Tryz.prog 97 = .func := by kernel_rfl
@[simp] theorem ld_97 : ldInfo Tryz.prog 97 = some (false, 1) := by kernel_rfl
@[simp] theorem z_97 : zeroL Tryz.prog 97 = some [.lit .nilFunc] := by kernel_rfl
@[simp] theorem tk_98 : tk Tryz.prog 98 = .func := by kernel_rfl
@[simp] theorem ld_98 : ldInfo Tryz.prog 98 = some (false, 1) := by kernel_rfl
@[simp] theorem z_98 : zeroL Tryz.prog 98 = some [.lit .nilFunc] := by kernel_rfl
@[simp] theorem tk_99 : tk Tryz.prog 99 = .func := by kernel_rfl
@[simp] theorem ld_99 : ldInfo Tryz.prog 99 = some (false, 1) := by kernel_rfl
@[simp] theorem z_99 : zeroL Tryz.prog 99 = some [.lit .nilFunc] := by kernel_rfl
@[simp] theorem tk_100 : tk Tryz.prog 100 = .func := by kernel_rfl
@[simp] theorem ld_100 : ldInfo Tryz.prog 100 = some (false, 1) := by kernel_rfl
@[simp] theorem z_100 : zeroL Tryz.prog 100 = some [.lit .nilFunc] := by kernel_rfl
@[simp] theorem tk_101 : tk Tryz.prog 101 = .func := by kernel_rfl
@[simp] theorem ld_101 : ldInfo Tryz.prog 101 = some (false, 1) := by kernel_rfl
@[simp] theorem z_101 : zeroL Tryz.prog 101 = some [.lit .nilFunc] := by kernel_rfl
@[simp] theorem tk_102 : tk Tryz.prog 102 = .func := by kernel_rfl
@[simp] theorem ld_102 : ldInfo Tryz.prog 102 = some (false, 1) := by kernel_rfl
@[simp] theorem z_102 : zeroL Tryz.prog 102 = some [.lit .nilFunc] := by kernel_rfl
@[simp] theorem tk_103 : tk Tryz.prog 103 = .func := by kernel_rfl
@[simp] theorem ld_103 : ldInfo Tryz.prog 103 = some (false, 1) := by kernel_rfl
@[simp] theorem z_103 : zeroL Tryz.prog 103 = some [.lit .nilFunc] := by kernel_rfl
@[simp] theorem tk_104 : tk Tryz.prog 104 = .func := by kernel_rfl
@[simp] theorem ld_104 : ldInfo Tryz.prog 104 = some (false, 1) := by kernel_rfl
@[simp] theorem z_104 : zeroL Tryz.prog 104 = some [.lit .nilFunc] := by kernel_rfl
@[simp] theorem tk_105 : tk Tryz.prog 105 = .func := by kernel_rfl
@[simp] theorem ld_105 : ldInfo Tryz.prog 105 = some (false, 1) := by kernel_rfl
@[simp] theorem z_105 : zeroL Tryz.prog 105 = some [.lit .nilFunc] := by kernel_rfl
@[simp] theorem tk_106 : tk Tryz.prog 106 = .func := by kernel_rfl
@[simp] theorem ld_106 : ldInfo Tryz.prog 106 = some (false, 1) := by kernel_rfl
@[simp] theorem z_106 : zeroL Tryz.prog 106 = some [.lit .nilFunc] := by kernel_rfl
@[simp] theorem tk_107 : tk Tryz.prog 107 = .func := by kernel_rfl
@[simp] theorem ld_107 : ldInfo Tryz.prog 107 = some (false, 1) := by kernel_rfl
@[simp] theorem z_107 : zeroL Tryz.prog 107 = some [.lit .nilFunc] := by kernel_rfl
@[simp] theorem tk_108 : tk Tryz.prog 108 = .ptr := by kernel_rfl
@[simp] theorem ld_108 : ldInfo Tryz.prog 108 = some (false, 1) := by kernel_rfl
@[simp] theorem z_108 : zeroL Tryz.prog 108 = some [.lit (.pointer none)] := by kernel_rfl
@[simp] theorem ld_109 : ldInfo Tryz.prog 109 = some (false, 1) := by kernel_rfl
@[simp] theorem tk_110 : tk Tryz.prog 110 = .func := by kernel_rfl
@[simp] theorem ld_110 : ldInfo Tryz.prog 110 = some (false, 1) := by kernel_rfl
@[simp] theorem z_110 : zeroL Tryz.prog 110 = some [.lit .nilFunc] := by kernel_rfl
@[simp] theorem tk_111 : tk Tryz.prog 111 = .func := by kernel_rfl
@[simp] theorem ld_111 : ldInfo Tryz.prog 111 = some (false, 1) := by kernel_rfl
@[simp] theorem z_111 : zeroL Tryz.prog 111 = some [.lit .nilFunc] := by kernel_rfl
@[simp] theorem tk_112 : tk Tryz.prog 112 = .func := by kernel_rfl
@[simp] theorem ld_112 : ldInfo Tryz.prog 112 = some (false, 1) := by kernel_rfl
@[simp] theorem z_112 : zeroL Tryz.prog 112 = some [.lit .nilFunc] := by kernel_rfl
@[simp] theorem tk_113 : tk Tryz.prog 113 = .slice := by kernel_rfl
@[simp] theorem ld_113 : ldInfo Tryz.prog 113 = some (false, 1) := by kernel_rfl
@[simp] theorem sl_113 : slSize Tryz.prog 113 = some 2 := by kernel_rfl
@[simp] theorem si_113 : slInfo Tryz.prog 113 = some (2, 32) := by kernel_rfl
@[simp] theorem z_113 : zeroL Tryz.prog 113 = some [.lit (.slice none 0 0)] := by kernel_rfl
@[simp] theorem sz_113 : slZero Tryz.prog 113 = some [.lit (.int .i64 0), .lit (.slice none 0 0)] := by kernel_rfl
@[simp] theorem ld_114 : ldInfo Tryz.prog 114 = some (true, 3) := by kernel_rfl
@[simp] theorem z_114 : zeroL Tryz.prog 114 = some [.lit (.slice none 0 0), .lit (.int .i64 0), .lit (.bool false)] := by kernel_rfl
@[simp] theorem zv_114 : zeroV Tryz.prog 114 = some [.lit (.slice none 0 0), .lit (.int .i64 0), .lit (.bool false)] := by kernel_rfl
@[simp] theorem bi_114 : bInfo Tryz.prog 114 = some [(0, 1), (1, 1), (2, 1)] := by kernel_rfl
@[simp] theorem ld_115 : ldInfo Tryz.prog 115 = some (true, 3) := by kernel_rfl
@[simp] theorem z_115 : zeroL Tryz.prog 115 = some [.lit (.slice none 0 0), .lit (.int .i64 0), .lit (.bool false)] := by kernel_rfl
@[simp] theorem zv_115 : zeroV Tryz.prog 115 = some [.lit (.slice none 0 0), .lit (.int .i64 0), .lit (.bool false)] := by kernel_rfl
@[simp] theorem bi_115 : bInfo Tryz.prog 115 = some [(0, 1), (1, 1), (2, 1)] := by kernel_rfl
@[simp] theorem ld_116 : ldInfo Tryz.prog 116 = some (false, 1) := by kernel_rfl
@[simp] theorem tk_117 : tk Tryz.prog 117 = .func := by kernel_rfl
@[simp] theorem ld_117 : ldInfo Tryz.prog 117 = some (false, 1) := by kernel_rfl
@[simp] theorem z_117 : zeroL Tryz.prog 117 = some [.lit .nilFunc] := by kernel_rfl
@[simp] theorem tk_118 : tk Tryz.prog 118 = .func := by kernel_rfl
@[simp] theorem ld_118 : ldInfo Tryz.prog 118 = some (false, 1) := by kernel_rfl
@[simp] theorem z_118 : zeroL Tryz.prog 118 = some [.lit .nilFunc] := by kernel_rfl
@[simp] theorem tk_119 : tk Tryz.prog 119 = .func := by kernel_rfl
@[simp] theorem ld_119 : ldInfo Tryz.prog 119 = some (false, 1) := by kernel_rfl
@[simp] theorem z_119 : zeroL Tryz.prog 119 = some [.lit .nilFunc] := by kernel_rfl
@[simp] theorem tk_120 : tk Tryz.prog 120 = .func := by kernel_rfl
@[simp] theorem ld_120 : ldInfo Tryz.prog 120 = some (false, 1) := by kernel_rfl
@[simp] theorem z_120 : zeroL Tryz.prog 120 = some [.lit .nilFunc] := by kernel_rfl
@[simp] theorem tk_121 : tk Tryz.prog 121 = .func := by kernel_rfl
@[simp] theorem ld_121 : ldInfo Tryz.prog 121 = some (false, 1) := by kernel_rfl
@[simp] theorem z_121 : zeroL Tryz.prog 121 = some [.lit .nilFunc] := by kernel_rfl
@[simp] theorem ld_122 : ldInfo Tryz.prog 122 = some (false, 1) := by kernel_rfl
@[simp] theorem tk_123 : tk Tryz.prog 123 = .func := by kernel_rfl
@[simp] theorem ld_123 : ldInfo Tryz.prog 123 = some (false, 1) := by kernel_rfl
@[simp] theorem z_123 : zeroL Tryz.prog 123 = some [.lit .nilFunc] := by kernel_rfl
@[simp] theorem ld_124 : ldInfo Tryz.prog 124 = some (false, 1) := by kernel_rfl
@[simp] theorem tk_125 : tk Tryz.prog 125 = .func := by kernel_rfl
@[simp] theorem ld_125 : ldInfo Tryz.prog 125 = some (false, 1) := by kernel_rfl
@[simp] theorem z_125 : zeroL Tryz.prog 125 = some [.lit .nilFunc] := by kernel_rfl
@[simp] theorem tk_126 : tk Tryz.prog 126 = .func := by kernel_rfl
@[simp] theorem ld_126 : ldInfo Tryz.prog 126 = some (false, 1) := by kernel_rfl
@[simp] theorem z_126 : zeroL Tryz.prog 126 = some [.lit .nilFunc] := by kernel_rfl
@[simp] theorem ld_127 : ldInfo Tryz.prog 127 = some (false, 1) := by kernel_rfl
@[simp] theorem tk_128 : tk Tryz.prog 128 = .func := by kernel_rfl
@[simp] theorem ld_128 : ldInfo Tryz.prog 128 = some (false, 1) := by kernel_rfl
@[simp] theorem z_128 : zeroL Tryz.prog 128 = some [.lit .nilFunc] := by kernel_rfl
@[simp] theorem tk_129 : tk Tryz.prog 129 = .func := by kernel_rfl
@[simp] theorem ld_129 : ldInfo Tryz.prog 129 = some (false, 1) := by kernel_rfl
@[simp] theorem z_129 : zeroL Tryz.prog 129 = some [.lit .nilFunc] := by kernel_rfl
@[simp] theorem tk_130 : tk Tryz.prog 130 = .func := by kernel_rfl
@[simp] theorem ld_130 : ldInfo Tryz.prog 130 = some (false, 1) := by kernel_rfl
@[simp] theorem z_130 : zeroL Tryz.prog 130 = some [.lit .nilFunc] := by kernel_rfl
@[simp] theorem tk_131 : tk Tryz.prog 131 = .func := by kernel_rfl
@[simp] theorem ld_131 : ldInfo Tryz.prog 131 = some (false, 1) := by kernel_rfl
@[simp] theorem z_131 : zeroL Tryz.prog 131 = some [.lit .nilFunc] := by kernel_rfl
@[simp] theorem tk_132 : tk Tryz.prog 132 = .ptr := by kernel_rfl
@[simp] theorem ld_132 : ldInfo Tryz.prog 132 = some (false, 1) := by kernel_rfl
@[simp] theorem z_132 : zeroL Tryz.prog 132 = some [.lit (.pointer none)] := by kernel_rfl
@[simp] theorem ld_133 : ldInfo Tryz.prog 133 = some (true, 5) := by kernel_rfl
@[simp] theorem z_133 : zeroL Tryz.prog 133 = some [.lit (.pointer none), .lit (.pointer none), .lit (.map none), .lit (.slice none 0 0), .lit (.int .i64 0)] := by kernel_rfl
@[simp] theorem zv_133 : zeroV Tryz.prog 133 = some [.lit (.pointer none), .lit (.pointer none), .lit (.map none), .lit (.slice none 0 0), .lit (.int .i64 0)] := by kernel_rfl
@[simp] theorem bi_133 : bInfo Tryz.prog 133 = some [(0, 1), (1, 1), (2, 1), (3, 1), (4, 1)] := by kernel_rfl
@[simp] theorem ld_134 : ldInfo Tryz.prog 134 = some (true, 5) := by kernel_rfl
@[simp] theorem z_134 : zeroL Tryz.prog 134 = some [.lit (.pointer none), .lit (.pointer none), .lit (.map none), .lit (.slice none 0 0), .lit (.int .i64 0)] := by kernel_rfl
@[simp] theorem zv_134 : zeroV Tryz.prog 134 = some [.lit (.pointer none), .lit (.pointer none), .lit (.map none), .lit (.slice none 0 0), .lit (.int .i64 0)] := by kernel_rfl
@[simp] theorem bi_134 : bInfo Tryz.prog 134 = some [(0, 1), (1, 1), (2, 1), (3, 1), (4, 1)] := by kernel_rfl
@[simp] theorem tk_135 : tk Tryz.prog 135 = .func := by kernel_rfl
@[simp] theorem ld_135 : ldInfo Tryz.prog 135 = some (false, 1) := by kernel_rfl
@[simp] theorem z_135 : zeroL Tryz.prog 135 = some [.lit .nilFunc] := by kernel_rfl
@[simp] theorem tk_136 : tk Tryz.prog 136 = .func := by kernel_rfl
@[simp] theorem ld_136 : ldInfo Tryz.prog 136 = some (false, 1) := by kernel_rfl
@[simp] theorem z_136 : zeroL Tryz.prog 136 = some [.lit .nilFunc] := by kernel_rfl
@[simp] theorem tk_137 : tk Tryz.prog 137 = .func := by kernel_rfl
@[simp] theorem ld_137 : ldInfo Tryz.prog 137 = some (false, 1) := by kernel_rfl
@[simp] theorem z_137 : zeroL Tryz.prog 137 = some [.lit .nilFunc] := by kernel_rfl
@[simp] theorem tk_138 : tk Tryz.prog 138 = .func := by kernel_rfl
@[simp] theorem ld_138 : ldInfo Tryz.prog 138 = some (false, 1) := by kernel_rfl
@[simp] theorem z_138 : zeroL Tryz.prog 138 = some [.lit .nilFunc] := by kernel_rfl
@[simp] theorem tk_139 : tk Tryz.prog 139 = .ptr := by kernel_rfl
@[simp] theorem ld_139 : ldInfo Tryz.prog 139 = some (false, 1) := by kernel_rfl
@[simp] theorem z_139 : zeroL Tryz.prog 139 = some [.lit (.pointer none)] := by kernel_rfl
@[simp] theorem ld_140 : ldInfo Tryz.prog 140 = some (true, 5) := by kernel_rfl
@[simp] theorem z_140 : zeroL Tryz.prog 140 = some [.lit (.pointer none), .lit (.pointer none), .lit (.map none), .lit (.map none), .lit (.bool false)] := by kernel_rfl
@[simp] theorem zv_140 : zeroV Tryz.prog 140 = some [.lit (.pointer none), .lit (.pointer none), .lit (.map none), .lit (.map none), .lit (.bool false)] := by kernel_rfl
@[simp] theorem bi_140 : bInfo Tryz.prog 140 = some [(0, 1), (1, 1), (2, 1), (3, 1), (4, 1)] := by kernel_rfl
@[simp] theorem ld_141 : ldInfo Tryz.prog 141 = some (true, 5) := by kernel_rfl
@[simp] theorem z_141 : zeroL Tryz.prog 141 = some [.lit (.pointer none), .lit (.pointer none), .lit (.map none), .lit (.map none), .lit (.bool false)] := by kernel_rfl
@[simp] theorem zv_141 : zeroV Tryz.prog 141 = some [.lit (.pointer none), .lit (.pointer none), .lit (.map none), .lit (.map none), .lit (.bool false)] := by kernel_rfl
@[simp] theorem bi_141 : bInfo Tryz.prog 141 = some [(0, 1), (1, 1), (2, 1), (3, 1), (4, 1)] := by kernel_rfl
@[simp] theorem tk_142 : tk Tryz.prog 142 = .slice := by kernel_rfl
@[simp] theorem ld_142 : ldInfo Tryz.prog 142 = some (false, 1) := by kernel_rfl
@[simp] theorem sl_142 : slSize Tryz.prog 142 = some 4 := by kernel_rfl
@[simp] theorem si_142 : slInfo Tryz.prog 142 = some (4, 32) := by kernel_rfl
@[simp] theorem z_142 : zeroL Tryz.prog 142 = some [.lit (.slice none 0 0)] := by kernel_rfl
@[simp] theorem sz_142 : slZero Tryz.prog 142 = some [.lit (.int .i64 0), .lit (.int .i64 0), .lit (.int .i64 0), .lit (.int .i64 0)] := by kernel_rfl
@[simp] theorem ld_143 : ldInfo Tryz.prog 143 = some (true, 4) := by kernel_rfl
@[simp] theorem z_143 : zeroL Tryz.prog 143 = some [.lit (.slice none 0 0), .lit (.slice none 0 0), .lit (.slice none 0 0), .lit (.bool false)] := by kernel_rfl
@[simp] theorem zv_143 : zeroV Tryz.prog 143 = some [.lit (.slice none 0 0), .lit (.slice none 0 0), .lit (.slice none 0 0), .lit (.bool false)] := by kernel_rfl
@[simp] theorem bi_143 : bInfo Tryz.prog 143 = some [(0, 1), (1, 1), (2, 1), (3, 1)] := by kernel_rfl
@[simp] theorem ld_144 : ldInfo Tryz.prog 144 = some (true, 4) := by kernel_rfl
@[simp] theorem z_144 : zeroL Tryz.prog 144 = some [.lit (.slice none 0 0), .lit (.slice none 0 0), .lit (.slice none 0 0), .lit (.bool false)] := by kernel_rfl
@[simp] theorem zv_144 : zeroV Tryz.prog 144 = some [.lit (.slice none 0 0), .lit (.slice none 0 0), .lit (.slice none 0 0), .lit (.bool false)] := by kernel_rfl
@[simp] theorem bi_144 : bInfo Tryz.prog 144 = some [(0, 1), (1, 1), (2, 1), (3, 1)] := by kernel_rfl
@[simp] theorem tk_145 : tk Tryz.prog 145 = .func := by kernel_rfl
@[simp] theorem ld_145 : ldInfo Tryz.prog 145 = some (false, 1) := by kernel_rfl
@[simp] theorem z_145 : zeroL Tryz.prog 145 = some [.lit .nilFunc] := by kernel_rfl
@[simp] theorem tk_146 : tk Tryz.prog 146 = .func := by kernel_rfl
@[simp] theorem ld_146 : ldInfo Tryz.prog 146 = some (false, 1) := by kernel_rfl
@[simp] theorem z_146 : zeroL Tryz.prog 146 = some [.lit .nilFunc] := by kernel_rfl
@[simp] theorem tk_147 : tk Tryz.prog 147 = .flat 4 := by kernel_rfl
@[simp] theorem ld_147 : ldInfo Tryz.prog 147 = some (true, 4) := by kernel_rfl
@[simp] theorem z_147 : zeroL Tryz.prog 147 = some [.lit (.int .i64 0), .lit (.int .i64 0), .lit (.int .i64 0), .lit (.int .i64 0)] := by kernel_rfl
@[simp] theorem zv_147 : zeroV Tryz.prog 147 = some [.lit (.int .i64 0), .lit (.int .i64 0), .lit (.int .i64 0), .lit (.int .i64 0)] := by kernel_rfl
@[simp] theorem bi_147 : bInfo Tryz.prog 147 = some [(0, 1), (1, 1), (2, 1), (3, 1)] := by kernel_rfl
@[simp] theorem tk_148 : tk Tryz.prog 148 = .flat 4 := by kernel_rfl
@[simp] theorem ld_148 : ldInfo Tryz.prog 148 = some (true, 4) := by kernel_rfl
@[simp] theorem z_148 : zeroL Tryz.prog 148 = some [.lit (.int .i64 0), .lit (.int .i64 0), .lit (.int .i64 0), .lit (.int .i64 0)] := by kernel_rfl
@[simp] theorem zv_148 : zeroV Tryz.prog 148 = some [.lit (.int .i64 0), .lit (.int .i64 0), .lit (.int .i64 0), .lit (.int .i64 0)] := by kernel_rfl
@[simp] theorem bi_148 : bInfo Tryz.prog 148 = some [(0, 1), (1, 1), (2, 1), (3, 1)] := by kernel_rfl
@[simp] theorem tk_149 : tk Tryz.prog 149 = .func := by kernel_rfl
@[simp] theorem ld_149 : ldInfo Tryz.prog 149 = some (false, 1) := by kernel_rfl
@[simp] theorem z_149 : zeroL Tryz.prog 149 = some [.lit .nilFunc] := by kernel_rfl
@[simp] theorem tk_150 : tk Tryz.prog 150 = .func := by kernel_rfl
@[simp] theorem ld_150 : ldInfo Tryz.prog 150 = some (false, 1) := by kernel_rfl
@[simp] theorem z_150 : zeroL Tryz.prog 150 = some [.lit .nilFunc] := by kernel_rfl
@[simp] theorem tk_151 : tk Tryz.prog 151 = .func := by kernel_rfl
@[simp] theorem ld_151 : ldInfo Tryz.prog 151 = some (false, 1) := by kernel_rfl
@[simp] theorem z_151 : zeroL Tryz.prog 151 = some [.lit .nilFunc] := by kernel_rfl
@[simp] theorem tk_152 : tk Tryz.prog 152 = .func := by kernel_rfl
@[simp] theorem ld_152 : ldInfo Tryz.prog 152 = some (false, 1) := by kernel_rfl
@[simp] theorem z_152 : zeroL Tryz.prog 152 = some [.lit .nilFunc] := by kernel_rfl
@[simp] theorem ld_153 : ldInfo Tryz.prog 153 = some (false, 1) := by kernel_rfl
@[simp] theorem tk_154 : tk Tryz.prog 154 = .func := by kernel_rfl
@[simp] theorem ld_154 : ldInfo Tryz.prog 154 = some (false, 1) := by kernel_rfl
@[simp] theorem z_154 : zeroL Tryz.prog 154 = some [.lit .nilFunc] := by kernel_rfl
@[simp] theorem ld_155 : ldInfo Tryz.prog 155 = some (false, 1) := by kernel_rfl
@[simp] theorem tk_156 : tk Tryz.prog 156 = .func := by kernel_rfl
@[simp] theorem ld_156 : ldInfo Tryz.prog 156 = some (false, 1) := by kernel_rfl
@[simp] theorem z_156 : zeroL Tryz.prog 156 = some [.lit .nilFunc] := by kernel_rfl
@[simp] theorem tk_157 : tk Tryz.prog 157 = .func := by kernel_rfl
@[simp] theorem ld_157 : ldInfo Tryz.prog 157 = some (false, 1) := by kernel_rfl
@[simp] theorem z_157 : zeroL Tryz.prog 157 = some [.lit .nilFunc] := by kernel_rfl
@[simp] theorem tk_158 : tk Tryz.prog 158 = .func := by kernel_rfl
@[simp] theorem ld_158 : ldInfo Tryz.prog 158 = some (false, 1) := by kernel_rfl
@[simp] theorem z_158 : zeroL Tryz.prog 158 = some [.lit .nilFunc] := by kernel_rfl
@[simp] theorem tk_159 : tk Tryz.prog 159 = .func := by kernel_rfl
@[simp] theorem ld_159 : ldInfo Tryz.prog 159 = some (false, 1) := by kernel_rfl
@[simp] theorem z_159 : zeroL Tryz.prog 159 = some [.lit .nilFunc] := by kernel_rfl
@[simp] theorem tk_160 : tk Tryz.prog 160 = .func := by kernel_rfl
@[simp] theorem ld_160 : ldInfo Tryz.prog 160 = some (false, 1) := by kernel_rfl
@[simp] theorem z_160 : zeroL Tryz.prog 160 = some [.lit .nilFunc] := by kernel_rfl
@[simp] theorem tk_161 : tk Tryz.prog 161 = .func := by kernel_rfl
@[simp] theorem ld_161 : ldInfo Tryz.prog 161 = some (false, 1) := by kernel_rfl
@[simp] theorem z_161 : zeroL Tryz.prog 161 = some [.lit .nilFunc] := by kernel_rfl
@[simp] theorem tk_162 : tk Tryz.prog 162 = .map := by kernel_rfl
@[simp] theorem ld_162 : ldInfo Tryz.prog 162 = some (false, 1) := by kernel_rfl
@[simp] theorem z_162 : zeroL Tryz.prog 162 = some [.lit (.map none)] := by kernel_rfl
@[simp] theorem mk_162 : mpKey Tryz.prog 162 = true := by kernel_rfl
@[simp] theorem mp_162 : mpInfo Tryz.prog 162 = some (.lit (.slice none 0 0)) := by kernel_rfl
@[simp] theorem ld_163 : ldInfo Tryz.prog 163 = some (true, 3) := by kernel_rfl
@[simp] theorem z_163 : zeroL Tryz.prog 163 = some [.lit (.map none), .lit (.int .i64 0), .lit (.bool false)] := by kernel_rfl
@[simp] theorem zv_163 : zeroV Tryz.prog 163 = some [.lit (.map none), .lit (.int .i64 0), .lit (.bool false)] := by kernel_rfl
@[simp] theorem bi_163 : bInfo Tryz.prog 163 = some [(0, 1), (1, 1), (2, 1)] := by kernel_rfl
@[simp] theorem ld_164 : ldInfo Tryz.prog 164 = some (true, 3) := by kernel_rfl
@[simp] theorem z_164 : zeroL Tryz.prog 164 = some [.lit (.map none), .lit (.int .i64 0), .lit (.bool false)] := by kernel_rfl
@[simp] theorem zv_164 : zeroV Tryz.prog 164 = some [.lit (.map none), .lit (.int .i64 0), .lit (.bool false)] := by kernel_rfl
@[simp] theorem bi_164 : bInfo Tryz.prog 164 = some [(0, 1), (1, 1), (2, 1)] := by kernel_rfl
@[simp] theorem tk_165 : tk Tryz.prog 165 = .func := by kernel_rfl
@[simp] theorem ld_165 : ldInfo Tryz.prog 165 = some (false, 1) := by kernel_rfl
@[simp] theorem z_165 : zeroL Tryz.prog 165 = some [.lit .nilFunc] := by kernel_rfl
@[simp] theorem tk_166 : tk Tryz.prog 166 = .func := by kernel_rfl
@[simp] theorem ld_166 : ldInfo Tryz.prog 166 = some (false, 1) := by kernel_rfl
@[simp] theorem z_166 : zeroL Tryz.prog 166 = some [.lit .nilFunc] := by kernel_rfl
@[simp] theorem tk_167 : tk Tryz.prog 167 = .func := by kernel_rfl
@[simp] theorem ld_167 : ldInfo Tryz.prog 167 = some (false, 1) := by kernel_rfl
@[simp] theorem z_167 : zeroL Tryz.prog 167 = some [.lit .nilFunc] := by kernel_rfl
@[simp] theorem tk_168 : tk Tryz.prog 168 = .func := by kernel_rfl
@[simp] theorem ld_168 : ldInfo Tryz.prog 168 = some (false, 1) := by kernel_rfl
@[simp] theorem z_168 : zeroL Tryz.prog 168 = some [.lit .nilFunc] := by kernel_rfl
@[simp] theorem tk_169 : tk Tryz.prog 169 = .func := by kernel_rfl
@[simp] theorem ld_169 : ldInfo Tryz.prog 169 = some (false, 1) := by kernel_rfl
@[simp] theorem z_169 : zeroL Tryz.prog 169 = some [.lit .nilFunc] := by kernel_rfl
@[simp] theorem tk_170 : tk Tryz.prog 170 = .func := by kernel_rfl
@[simp] theorem ld_170 : ldInfo Tryz.prog 170 = some (false, 1) := by kernel_rfl
@[simp] theorem z_170 : zeroL Tryz.prog 170 = some [.lit .nilFunc] := by kernel_rfl
@[simp] theorem ld_171 : ldInfo Tryz.prog 171 = some (true, 2) := by kernel_rfl
@[simp] theorem z_171 : zeroL Tryz.prog 171 = some [.lit (.int .i64 0), .lit (.slice none 0 0)] := by kernel_rfl
@[simp] theorem zv_171 : zeroV Tryz.prog 171 = some [.lit (.int .i64 0), .lit (.slice none 0 0)] := by kernel_rfl
@[simp] theorem bi_171 : bInfo Tryz.prog 171 = some [(0, 1), (1, 1)] := by kernel_rfl
@[simp] theorem ld_172 : ldInfo Tryz.prog 172 = some (true, 2) := by kernel_rfl
@[simp] theorem z_172 : zeroL Tryz.prog 172 = some [.lit (.int .i64 0), .lit (.slice none 0 0)] := by kernel_rfl
@[simp] theorem zv_172 : zeroV Tryz.prog 172 = some [.lit (.int .i64 0), .lit (.slice none 0 0)] := by kernel_rfl
@[simp] theorem bi_172 : bInfo Tryz.prog 172 = some [(0, 1), (1, 1)] := by kernel_rfl
@[simp] theorem tk_173 : tk Tryz.prog 173 = .func := by kernel_rfl
@[simp] theorem ld_173 : ldInfo Tryz.prog 173 = some (false, 1) := by kernel_rfl
@[simp] theorem z_173 : zeroL Tryz.prog 173 = some [.lit .nilFunc] := by kernel_rfl
@[simp] theorem tk_174 : tk Tryz.prog 174 = .func := by kernel_rfl
@[simp] theorem ld_174 : ldInfo Tryz.prog 174 = some (false, 1) := by kernel_rfl
@[simp] theorem z_174 : zeroL Tryz.prog 174 = some [.lit .nilFunc] := by kernel_rfl
@[simp] theorem tk_175 : tk Tryz.prog 175 = .func := by kernel_rfl
@[simp] theorem ld_175 : ldInfo Tryz.prog 175 = some (false, 1) := by kernel_rfl
@[simp] theorem z_175 : zeroL Tryz.prog 175 = some [.lit .nilFunc] := by kernel_rfl
@[simp] theorem tk_176 : tk Tryz.prog 176 = .func := by kernel_rfl
@[simp] theorem ld_176 : ldInfo Tryz.prog 176 = some (false, 1) := by kernel_rfl
@[simp] theorem z_176 : zeroL Tryz.prog 176 = some [.lit .nilFunc] := by kernel_rfl
@[simp] theorem tk_177 : tk Tryz.prog 177 = .func := by kernel_rfl
@[simp] theorem ld_177 : ldInfo Tryz.prog 177 = some (false, 1) := by kernel_rfl
@[simp] theorem z_177 : zeroL Tryz.prog 177 = some [.lit .nilFunc] := by kernel_rfl
@[simp] theorem ld_178 : ldInfo Tryz.prog 178 = some (true, 2) := by kernel_rfl
@[simp] theorem z_178 : zeroL Tryz.prog 178 = some [.lit (.slice none 0 0), .lit (.map none)] := by kernel_rfl
@[simp] theorem zv_178 : zeroV Tryz.prog 178 = some [.lit (.slice none 0 0), .lit (.map none)] := by kernel_rfl
@[simp] theorem bi_178 : bInfo Tryz.prog 178 = some [(0, 1), (1, 1)] := by kernel_rfl
@[simp] theorem ld_179 : ldInfo Tryz.prog 179 = some (true, 2) := by kernel_rfl
@[simp] theorem z_179 : zeroL Tryz.prog 179 = some [.lit (.slice none 0 0), .lit (.map none)] := by kernel_rfl
@[simp] theorem zv_179 : zeroV Tryz.prog 179 = some [.lit (.slice none 0 0), .lit (.map none)] := by kernel_rfl
@[simp] theorem bi_179 : bInfo Tryz.prog 179 = some [(0, 1), (1, 1)] := by kernel_rfl
@[simp] theorem tk_180 : tk Tryz.prog 180 = .func := by kernel_rfl
@[simp] theorem ld_180 : ldInfo Tryz.prog 180 = some (false, 1) := by kernel_rfl
@[simp] theorem z_180 : zeroL Tryz.prog 180 = some [.lit .nilFunc] := by kernel_rfl
@[simp] theorem tk_181 : tk Tryz.prog 181 = .ptr := by kernel_rfl
@[simp] theorem ld_181 : ldInfo Tryz.prog 181 = some (false, 1) := by kernel_rfl
@[simp] theorem z_181 : zeroL Tryz.prog 181 = some [.lit (.pointer none)] := by kernel_rfl
@[simp] theorem tk_182 : tk Tryz.prog 182 = .func := by kernel_rfl
@[simp] theorem ld_182 : ldInfo Tryz.prog 182 = some (false, 1) := by kernel_rfl
@[simp] theorem z_182 : zeroL Tryz.prog 182 = some [.lit .nilFunc] := by kernel_rfl
@[simp] theorem ld_183 : ldInfo Tryz.prog 183 = some (false, 1) := by kernel_rfl
@[simp] theorem tk_184 : tk Tryz.prog 184 = .func := by kernel_rfl
@[simp] theorem ld_184 : ldInfo Tryz.prog 184 = some (false, 1) := by kernel_rfl
@[simp] theorem z_184 : zeroL Tryz.prog 184 = some [.lit .nilFunc] := by kernel_rfl
@[simp] theorem tk_185 : tk Tryz.prog 185 = .flat 3 := by kernel_rfl
@[simp] theorem ld_185 : ldInfo Tryz.prog 185 = some (true, 3) := by kernel_rfl
@[simp] theorem z_185 : zeroL Tryz.prog 185 = some [.lit (.int .i64 0), .lit (.int .i64 0), .lit (.int .i64 0)] := by kernel_rfl
@[simp] theorem zv_185 : zeroV Tryz.prog 185 = some [.lit (.int .i64 0), .lit (.int .i64 0), .lit (.int .i64 0)] := by kernel_rfl
@[simp] theorem bi_185 : bInfo Tryz.prog 185 = some [(0, 1), (1, 1), (2, 1)] := by kernel_rfl
@[simp] theorem tk_186 : tk Tryz.prog 186 = .flat 3 := by kernel_rfl
@[simp] theorem ld_186 : ldInfo Tryz.prog 186 = some (true, 3) := by kernel_rfl
@[simp] theorem z_186 : zeroL Tryz.prog 186 = some [.lit (.int .i64 0), .lit (.int .i64 0), .lit (.int .i64 0)] := by kernel_rfl
@[simp] theorem zv_186 : zeroV Tryz.prog 186 = some [.lit (.int .i64 0), .lit (.int .i64 0), .lit (.int .i64 0)] := by kernel_rfl
@[simp] theorem bi_186 : bInfo Tryz.prog 186 = some [(0, 1), (1, 1), (2, 1)] := by kernel_rfl
@[simp] theorem tk_187 : tk Tryz.prog 187 = .func := by kernel_rfl
@[simp] theorem ld_187 : ldInfo Tryz.prog 187 = some (false, 1) := by kernel_rfl
@[simp] theorem z_187 : zeroL Tryz.prog 187 = some [.lit .nilFunc] := by kernel_rfl
@[simp] theorem tk_188 : tk Tryz.prog 188 = .func := by kernel_rfl
@[simp] theorem ld_188 : ldInfo Tryz.prog 188 = some (false, 1) := by kernel_rfl
@[simp] theorem z_188 : zeroL Tryz.prog 188 = some [.lit .nilFunc] := by kernel_rfl
@[simp] theorem tk_189 : tk Tryz.prog 189 = .func := by kernel_rfl
@[simp] theorem ld_189 : ldInfo Tryz.prog 189 = some (false, 1) := by kernel_rfl
@[simp] theorem z_189 : zeroL Tryz.prog 189 = some [.lit .nilFunc] := by kernel_rfl
@[simp] theorem tk_190 : tk Tryz.prog 190 = .func := by kernel_rfl
@[simp] theorem ld_190 : ldInfo Tryz.prog 190 = some (false, 1) := by kernel_rfl
@[simp] theorem z_190 : zeroL Tryz.prog 190 = some [.lit .nilFunc] := by kernel_rfl
@[simp] theorem tk_191 : tk Tryz.prog 191 = .func := by kernel_rfl
@[simp] theorem ld_191 : ldInfo Tryz.prog 191 = some (false, 1) := by kernel_rfl
@[simp] theorem z_191 : zeroL Tryz.prog 191 = some [.lit .nilFunc] := by kernel_rfl
@[simp] theorem tk_192 : tk Tryz.prog 192 = .func := by kernel_rfl
@[simp] theorem ld_192 : ldInfo Tryz.prog 192 = some (false, 1) := by kernel_rfl
@[simp] theorem z_192 : zeroL Tryz.prog 192 = some [.lit .nilFunc] := by kernel_rfl
@[simp] theorem ld_193 : ldInfo Tryz.prog 193 = some (false, 1) := by kernel_rfl
@[simp] theorem tk_194 : tk Tryz.prog 194 = .func := by kernel_rfl
@[simp] theorem ld_194 : ldInfo Tryz.prog 194 = some (false, 1) := by kernel_rfl
@[simp] theorem z_194 : zeroL Tryz.prog 194 = some [.lit .nilFunc] := by kernel_rfl
@[simp] theorem tk_195 : tk Tryz.prog 195 = .func := by kernel_rfl
@[simp] theorem ld_195 : ldInfo Tryz.prog 195 = some (false, 1) := by kernel_rfl
@[simp] theorem z_195 : zeroL Tryz.prog 195 = some [.lit .nilFunc] := by kernel_rfl
@[simp] theorem tk_196 : tk Tryz.prog 196 = .func := by kernel_rfl
@[simp] theorem ld_196 : ldInfo Tryz.prog 196 = some (false, 1) := by kernel_rfl
@[simp] theorem z_196 : zeroL Tryz.prog 196 = some [.lit .nilFunc] := by kernel_rfl
@[simp] theorem tk_197 : tk Tryz.prog 197 = .func := by kernel_rfl
@[simp] theorem ld_197 : ldInfo Tryz.prog 197 = some (false, 1) := by kernel_rfl
@[simp] theorem z_197 : zeroL Tryz.prog 197 = some [.lit .nilFunc] := by kernel_rfl
@[simp] theorem tk_198 : tk Tryz.prog 198 = .int := by kernel_rfl
@[simp] theorem ld_198 : ldInfo Tryz.prog 198 = some (false, 1) := by kernel_rfl
@[simp] theorem cv_198 : cvtK Tryz.prog 198 = some .u64 := by kernel_rfl
@[simp] theorem z_198 : zeroL Tryz.prog 198 = some [.lit (.int .u64 0)] := by kernel_rfl
@[simp] theorem tk_199 : tk Tryz.prog 199 = .int := by kernel_rfl
@[simp] theorem ld_199 : ldInfo Tryz.prog 199 = some (false, 1) := by kernel_rfl
@[simp] theorem cv_199 : cvtK Tryz.prog 199 = some .i64 := by kernel_rfl
@[simp] theorem z_199 : zeroL Tryz.prog 199 = some [.lit (.int .i64 0)] := by kernel_rfl
@[simp] theorem tk_200 : tk Tryz.prog 200 = .func := by kernel_rfl
@[simp] theorem ld_200 : ldInfo Tryz.prog 200 = some (false, 1) := by kernel_rfl
@[simp] theorem z_200 : zeroL Tryz.prog 200 = some [.lit .nilFunc] := by kernel_rfl
@[simp] theorem ld_201 : ldInfo Tryz.prog 201 = some (false, 1) := by kernel_rfl
@[simp] theorem tk_202 : tk Tryz.prog 202 = .func := by kernel_rfl
@[simp] theorem ld_202 : ldInfo Tryz.prog 202 = some (false, 1) := by kernel_rfl
@[simp] theorem z_202 : zeroL Tryz.prog 202 = some [.lit .nilFunc] := by kernel_rfl
@[simp] theorem tk_203 : tk Tryz.prog 203 = .func := by kernel_rfl
@[simp] theorem ld_203 : ldInfo Tryz.prog 203 = some (false, 1) := by kernel_rfl
@[simp] theorem z_203 : zeroL Tryz.prog 203 = some [.lit .nilFunc] := by kernel_rfl
@[simp] theorem tk_204 : tk Tryz.prog 204 = .func := by kernel_rfl
@[simp] theorem ld_204 : ldInfo Tryz.prog 204 = some (false, 1) := by kernel_rfl
@[simp] theorem z_204 : zeroL Tryz.prog 204 = some [.lit .nilFunc] := by kernel_rfl
@[simp] theorem tk_205 : tk Tryz.prog 205 = .func := by kernel_rfl
@[simp] theorem ld_205 : ldInfo Tryz.prog 205 = some (false, 1) := by kernel_rfl
@[simp] theorem z_205 : zeroL Tryz.prog 205 = some [.lit .nilFunc] := by kernel_rfl
@[simp] theorem ld_206 : ldInfo Tryz.prog 206 = some (false, 1) := by kernel_rfl
@[simp] theorem tk_207 : tk Tryz.prog 207 = .func := by kernel_rfl
@[simp] theorem ld_207 : ldInfo Tryz.prog 207 = some (false, 1) := by kernel_rfl
@[simp] theorem z_207 : zeroL Tryz.prog 207 = some [.lit .nilFunc] := by kernel_rfl
@[simp] theorem tk_208 : tk Tryz.prog 208 = .func := by kernel_rfl
@[simp] theorem ld_208 : ldInfo Tryz.prog 208 = some (false, 1) := by kernel_rfl
@[simp] theorem z_208 : zeroL Tryz.prog 208 = some [.lit .nilFunc] := by kernel_rfl
@[simp] theorem tk_209 : tk Tryz.prog 209 = .func := by kernel_rfl
@[simp] theorem ld_209 : ldInfo Tryz.prog 209 = some (false, 1) := by kernel_rfl
@[simp] theorem z_209 : zeroL Tryz.prog 209 = some [.lit .nilFunc] := by kernel_rfl
@[simp] theorem ld_210 : ldInfo Tryz.prog 210 = some (false, 1) := by kernel_rfl
@[simp] theorem tk_211 : tk Tryz.prog 211 = .func := by kernel_rfl
@[simp] theorem ld_211 : ldInfo Tryz.prog 211 = some (false, 1) := by kernel_rfl
@[simp] theorem z_211 : zeroL Tryz.prog 211 = some [.lit .nilFunc] := by kernel_rfl
@[simp] theorem tk_212 : tk Tryz.prog 212 = .func := by kernel_rfl
@[simp] theorem ld_212 : ldInfo Tryz.prog 212 = some (false, 1) := by kernel_rfl
@[simp] theorem z_212 : zeroL Tryz.prog 212 = some [.lit .nilFunc] := by kernel_rfl
@[simp] theorem tk_213 : tk Tryz.prog 213 = .func := by kernel_rfl
@[simp] theorem ld_213 : ldInfo Tryz.prog 213 = some (false, 1) := by kernel_rfl
@[simp] theorem z_213 : zeroL Tryz.prog 213 = some [.lit .nilFunc] := by kernel_rfl
@[simp] theorem tk_214 : tk Tryz.prog 214 = .slice := by kernel_rfl
@[simp] theorem ld_214 : ldInfo Tryz.prog 214 = some (false, 1) := by kernel_rfl
@[simp] theorem sl_214 : slSize Tryz.prog 214 = some 2 := by kernel_rfl
@[simp] theorem si_214 : slInfo Tryz.prog 214 = some (2, 32) := by kernel_rfl
@[simp] theorem z_214 : zeroL Tryz.prog 214 = some [.lit (.slice none 0 0)] := by kernel_rfl
@[simp] theorem sz_214 : slZero Tryz.prog 214 = some [.lit (.int .i64 0), .lit (.slice none 0 0)] := by kernel_rfl
@[simp] theorem ld_215 : ldInfo Tryz.prog 215 = some (true, 2) := by kernel_rfl
@[simp] theorem z_215 : zeroL Tryz.prog 215 = some [.lit (.int .i64 0), .lit (.slice none 0 0)] := by kernel_rfl
@[simp] theorem zv_215 : zeroV Tryz.prog 215 = some [.lit (.int .i64 0), .lit (.slice none 0 0)] := by kernel_rfl
@[simp] theorem bi_215 : bInfo Tryz.prog 215 = some [(0, 1), (1, 1)] := by kernel_rfl
@[simp] theorem ld_216 : ldInfo Tryz.prog 216 = some (true, 2) := by kernel_rfl
@[simp] theorem z_216 : zeroL Tryz.prog 216 = some [.lit (.int .i64 0), .lit (.slice none 0 0)] := by kernel_rfl
@[simp] theorem zv_216 : zeroV Tryz.prog 216 = some [.lit (.int .i64 0), .lit (.slice none 0 0)] := by kernel_rfl
@[simp] theorem bi_216 : bInfo Tryz.prog 216 = some [(0, 1), (1, 1)] := by kernel_rfl
@[simp] theorem tk_217 : tk Tryz.prog 217 = .func := by kernel_rfl
@[simp] theorem ld_217 : ldInfo Tryz.prog 217 = some (false, 1) := by kernel_rfl
@[simp] theorem z_217 : zeroL Tryz.prog 217 = some [.lit .nilFunc] := by kernel_rfl
@[simp] theorem tk_218 : tk Tryz.prog 218 = .func := by kernel_rfl
@[simp] theorem ld_218 : ldInfo Tryz.prog 218 = some (false, 1) := by kernel_rfl
@[simp] theorem z_218 : zeroL Tryz.prog 218 = some [.lit .nilFunc] := by kernel_rfl
@[simp] theorem tk_219 : tk Tryz.prog 219 = .func := by kernel_rfl
@[simp] theorem ld_219 : ldInfo Tryz.prog 219 = some (false, 1) := by kernel_rfl
@[simp] theorem z_219 : zeroL Tryz.prog 219 = some [.lit .nilFunc] := by kernel_rfl
@[simp] theorem ld_220 : ldInfo Tryz.prog 220 = some (false, 1) := by kernel_rfl
@[simp] theorem tk_221 : tk Tryz.prog 221 = .func := by kernel_rfl
@[simp] theorem ld_221 : ldInfo Tryz.prog 221 = some (false, 1) := by kernel_rfl
@[simp] theorem z_221 : zeroL Tryz.prog 221 = some [.lit .nilFunc] := by kernel_rfl
@[simp] theorem tk_222 : tk Tryz.prog 222 = .func := by kernel_rfl
@[simp] theorem ld_222 : ldInfo Tryz.prog 222 = some (false, 1) := by kernel_rfl
@[simp] theorem z_222 : zeroL Tryz.prog 222 = some [.lit .nilFunc] := by kernel_rfl
@[simp] theorem tk_223 : tk Tryz.prog 223 = .func := by kernel_rfl
@[simp] theorem ld_223 : ldInfo Tryz.prog 223 = some (false, 1) := by kernel_rfl
@[simp] theorem z_223 : zeroL Tryz.prog 223 = some [.lit .nilFunc] := by kernel_rfl
@[simp] theorem tk_224 : tk Tryz.prog 224 = .func := by kernel_rfl
@[simp] theorem ld_224 : ldInfo Tryz.prog 224 = some (false, 1) := by kernel_rfl
@[simp] theorem z_224 : zeroL Tryz.prog 224 = some [.lit .nilFunc] := by kernel_rfl
@[simp] theorem tk_225 : tk Tryz.prog 225 = .int := by kernel_rfl
@[simp] theorem ld_225 : ldInfo Tryz.prog 225 = some (false, 1) := by kernel_rfl
@[simp] theorem cv_225 : cvtK Tryz.prog 225 = some .i64 := by kernel_rfl
@[simp] theorem z_225 : zeroL Tryz.prog 225 = some [.lit (.int .i64 0)] := by kernel_rfl
@[simp] theorem ld_226 : ldInfo Tryz.prog 226 = some (false, 1) := by kernel_rfl
@[simp] theorem tk_227 : tk Tryz.prog 227 = .func := by kernel_rfl
@[simp] theorem ld_227 : ldInfo Tryz.prog 227 = some (false, 1) := by kernel_rfl
@[simp] theorem z_227 : zeroL Tryz.prog 227 = some [.lit .nilFunc] := by kernel_rfl
@[simp] theorem tk_228 : tk Tryz.prog 228 = .func := by kernel_rfl
@[simp] theorem ld_228 : ldInfo Tryz.prog 228 = some (false, 1) := by kernel_rfl
@[simp] theorem z_228 : zeroL Tryz.prog 228 = some [.lit .nilFunc] := by kernel_rfl
@[simp] theorem tk_229 : tk Tryz.prog 229 = .func := by kernel_rfl
@[simp] theorem ld_229 : ldInfo Tryz.prog 229 = some (false, 1) := by kernel_rfl
@[simp] theorem z_229 : zeroL Tryz.prog 229 = some [.lit .nilFunc] := by kernel_rfl
@[simp] theorem tk_230 : tk Tryz.prog 230 = .func := by kernel_rfl
@[simp] theorem ld_230 : ldInfo Tryz.prog 230 = some (false, 1) := by kernel_rfl
@[simp] theorem z_230 : zeroL Tryz.prog 230 = some [.lit .nilFunc] := by kernel_rfl
@[simp] theorem tk_231 : tk Tryz.prog 231 = .func := by kernel_rfl
@[simp] theorem ld_231 : ldInfo Tryz.prog 231 = some (false, 1) := by kernel_rfl
@[simp] theorem z_231 : zeroL Tryz.prog 231 = some [.lit .nilFunc] := by kernel_rfl
@[simp] theorem tk_232 : tk Tryz.prog 232 = .int := by kernel_rfl
@[simp] theorem ld_232 : ldInfo Tryz.prog 232 = some (false, 1) := by kernel_rfl
@[simp] theorem cv_232 : cvtK Tryz.prog 232 = some .u32 := by kernel_rfl
@[simp] theorem z_232 : zeroL Tryz.prog 232 = some [.lit (.int .u32 0)] := by kernel_rfl
@[simp] theorem tk_233 : tk Tryz.prog 233 = .func := by kernel_rfl
@[simp] theorem ld_233 : ldInfo Tryz.prog 233 = some (false, 1) := by kernel_rfl
@[simp] theorem z_233 : zeroL Tryz.prog 233 = some [.lit .nilFunc] := by kernel_rfl
@[simp] theorem tk_234 : tk Tryz.prog 234 = .int := by kernel_rfl
@[simp] theorem ld_234 : ldInfo Tryz.prog 234 = some (false, 1) := by kernel_rfl
@[simp] theorem cv_234 : cvtK Tryz.prog 234 = some .u64 := by kernel_rfl
@[simp] theorem z_234 : zeroL Tryz.prog 234 = some [.lit (.int .u64 0)] := by kernel_rfl
@[simp] theorem tk_235 : tk Tryz.prog 235 = .func := by kernel_rfl
@[simp] theorem ld_235 : ldInfo Tryz.prog 235 = some (false, 1) := by kernel_rfl
@[simp] theorem z_235 : zeroL Tryz.prog 235 = some [.lit .nilFunc] := by kernel_rfl
@[simp] theorem tk_236 : tk Tryz.prog 236 = .func := by kernel_rfl
@[simp] theorem ld_236 : ldInfo Tryz.prog 236 = some (false, 1) := by kernel_rfl
@[simp] theorem z_236 : zeroL Tryz.prog 236 = some [.lit .nilFunc] := by kernel_rfl
@[simp] theorem ld_237 : ldInfo Tryz.prog 237 = some (false, 1) := by kernel_rfl
@[simp] theorem tk_238 : tk Tryz.prog 238 = .func := by kernel_rfl
@[simp] theorem ld_238 : ldInfo Tryz.prog 238 = some (false, 1) := by kernel_rfl
@[simp] theorem z_238 : zeroL Tryz.prog 238 = some [.lit .nilFunc] := by kernel_rfl
@[simp] theorem tk_239 : tk Tryz.prog 239 = .func := by kernel_rfl
@[simp] theorem ld_239 : ldInfo Tryz.prog 239 = some (false, 1) := by kernel_rfl
@[simp] theorem z_239 : zeroL Tryz.prog 239 = some [.lit .nilFunc] := by kernel_rfl
@[simp] theorem tk_240 : tk Tryz.prog 240 = .map := by kernel_rfl
@[simp] theorem ld_240 : ldInfo Tryz.prog 240 = some (false, 1) := by kernel_rfl
@[simp] theorem z_240 : zeroL Tryz.prog 240 = some [.lit (.map none)] := by kernel_rfl
@[simp] theorem mk_240 : mpKey Tryz.prog 240 = true := by kernel_rfl
@[simp] theorem mp_240 : mpInfo Tryz.prog 240 = some (.lit (.slice none 0 0)) := by kernel_rfl
@[simp] theorem tk_241 : tk Tryz.prog 241 = .func := by kernel_rfl
@[simp] theorem ld_241 : ldInfo Tryz.prog 241 = some (false, 1) := by kernel_rfl
@[simp] theorem z_241 : zeroL Tryz.prog 241 = some [.lit .nilFunc] := by kernel_rfl
@[simp] theorem tk_242 : tk Tryz.prog 242 = .func := by kernel_rfl
@[simp] theorem ld_242 : ldInfo Tryz.prog 242 = some (false, 1) := by kernel_rfl
@[simp] theorem z_242 : zeroL Tryz.prog 242 = some [.lit .nilFunc] := by kernel_rfl
@[simp] theorem tk_243 : tk Tryz.prog 243 = .func := by kernel_rfl
@[simp] theorem ld_243 : ldInfo Tryz.prog 243 = some (false, 1) := by kernel_rfl
@[simp] theorem z_243 : zeroL Tryz.prog 243 = some [.lit .nilFunc] := by kernel_rfl
@[simp] theorem tk_244 : tk Tryz.prog 244 = .func := by kernel_rfl
@[simp] theorem ld_244 : ldInfo Tryz.prog 244 = some (false, 1) := by kernel_rfl
@[simp] theorem z_244 : zeroL Tryz.prog 244 = some [.lit .nilFunc] := by kernel_rfl
@[simp] theorem tk_245 : tk Tryz.prog 245 = .func := by kernel_rfl
@[simp] theorem ld_245 : ldInfo Tryz.prog 245 = some (false, 1) := by kernel_rfl
@[simp] theorem z_245 : zeroL Tryz.prog 245 = some [.lit .nilFunc] := by kernel_rfl
@[simp] theorem tk_246 : tk Tryz.prog 246 = .int := by kernel_rfl
@[simp] theorem ld_246 : ldInfo Tryz.prog 246 = some (false, 1) := by kernel_rfl
@[simp] theorem cv_246 : cvtK Tryz.prog 246 = some .u64 := by kernel_rfl
@[simp] theorem z_246 : zeroL Tryz.prog 246 = some [.lit (.int .u64 0)] := by kernel_rfl
@[simp] theorem tk_247 : tk Tryz.prog 247 = .func := by kernel_rfl
@[simp] theorem ld_247 : ldInfo Tryz.prog 247 = some (false, 1) := by kernel_rfl
@[simp] theorem z_247 : zeroL Tryz.prog 247 = some [.lit .nilFunc] := by kernel_rfl
@[simp] theorem tk_248 : tk Tryz.prog 248 = .func := by kernel_rfl
@[simp] theorem ld_248 : ldInfo Tryz.prog 248 = some (false, 1) := by kernel_rfl
@[simp] theorem z_248 : zeroL Tryz.prog 248 = some [.lit .nilFunc] := by kernel_rfl
@[simp] theorem tk_249 : tk Tryz.prog 249 = .func := by kernel_rfl
@[simp] theorem ld_249 : ldInfo Tryz.prog 249 = some (false, 1) := by kernel_rfl
@[simp] theorem z_249 : zeroL Tryz.prog 249 = some [.lit .nilFunc] := by kernel_rfl
@[simp] theorem tk_250 : tk Tryz.prog 250 = .ptr := by kernel_rfl
@[simp] theorem ld_250 : ldInfo Tryz.prog 250 = some (false, 1) := by kernel_rfl
@[simp] theorem z_250 : zeroL Tryz.prog 250 = some [.lit (.pointer none)] := by kernel_rfl
@[simp] theorem tk_251 : tk Tryz.prog 251 = .func := by kernel_rfl
@[simp] theorem ld_251 : ldInfo Tryz.prog 251 = some (false, 1) := by kernel_rfl
@[simp] theorem z_251 : zeroL Tryz.prog 251 = some [.lit .nilFunc] := by kernel_rfl
@[simp] theorem tk_252 : tk Tryz.prog 252 = .flat 3 := by kernel_rfl
@[simp] theorem ld_252 : ldInfo Tryz.prog 252 = some (true, 3) := by kernel_rfl
@[simp] theorem sln_252 : slSize Tryz.prog 252 = none := by kernel_rfl
@[simp] theorem ar_252 : arSize Tryz.prog 252 = some (3, 1) := by kernel_rfl
@[simp] theorem z_252 : zeroL Tryz.prog 252 = some [.lit (.int .i64 0), .lit (.int .i64 0), .lit (.int .i64 0)] := by kernel_rfl
@[simp] theorem zv_252 : zeroV Tryz.prog 252 = some [.lit (.int .i64 0), .lit (.int .i64 0), .lit (.int .i64 0)] := by kernel_rfl
@[simp] theorem bi_252 : bInfo Tryz.prog 252 = some [(0, 1), (1, 1), (2, 1)] := by kernel_rfl
@[simp] theorem ai_252 : arInfo Tryz.prog 252 = some (3, false, 1) := by kernel_rfl
@[simp] theorem tk_253 : tk Tryz.prog 253 = .func := by kernel_rfl
@[simp] theorem ld_253 : ldInfo Tryz.prog 253 = some (false, 1) := by kernel_rfl
@[simp] theorem z_253 : zeroL Tryz.prog 253 = some [.lit .nilFunc] := by kernel_rfl
@[simp] theorem tk_254 : tk Tryz.prog 254 = .func := by kernel_rfl
@[simp] theorem ld_254 : ldInfo Tryz.prog 254 = some (false, 1) := by kernel_rfl
@[simp] theorem z_254 : zeroL Tryz.prog 254 = some [.lit .nilFunc] := by kernel_rfl
@[simp] theorem ld_255 : ldInfo Tryz.prog 255 = some (false, 1) := by kernel_rfl
@[simp] theorem tk_256 : tk Tryz.prog 256 = .func := by kernel_rfl
@[simp] theorem ld_256 : ldInfo Tryz.prog 256 = some (false, 1) := by kernel_rfl
@[simp] theorem z_256 : zeroL Tryz.prog 256 = some [.lit .nilFunc] := by kernel_rfl
@[simp] theorem tk_257 : tk Tryz.prog 257 = .func := by kernel_rfl
@[simp] theorem ld_257 : ldInfo Tryz.prog 257 = some (false, 1) := by kernel_rfl
@[simp] theorem z_257 : zeroL Tryz.prog 257 = some [.lit .nilFunc] := by kernel_rfl
@[simp] theorem tk_258 : tk Tryz.prog 258 = .func := by kernel_rfl
@[simp] theorem ld_258 : ldInfo Tryz.prog 258 = some (false, 1) := by kernel_rfl
@[simp] theorem z_258 : zeroL Tryz.prog 258 = some [.lit .nilFunc] := by kernel_rfl
@[simp] theorem tk_259 : tk Tryz.prog 259 = .func := by kernel_rfl
@[simp] theorem ld_259 : ldInfo Tryz.prog 259 = some (false, 1) := by kernel_rfl
@[simp] theorem z_259 : zeroL Tryz.prog 259 = some [.lit .nilFunc] := by kernel_rfl
@[simp] theorem tk_260 : tk Tryz.prog 260 = .func := by kernel_rfl
@[simp] theorem ld_260 : ldInfo Tryz.prog 260 = some (false, 1) := by kernel_rfl
@[simp] theorem z_260 : zeroL Tryz.prog 260 = some [.lit .nilFunc] := by kernel_rfl
@[simp] theorem tk_261 : tk Tryz.prog 261 = .func := by kernel_rfl
@[simp] theorem ld_261 : ldInfo Tryz.prog 261 = some (false, 1) := by kernel_rfl
@[simp] theorem z_261 : zeroL Tryz.prog 261 = some [.lit .nilFunc] := by kernel_rfl
@[simp] theorem tk_262 : tk Tryz.prog 262 = .ptr := by kernel_rfl
@[simp] theorem ld_262 : ldInfo Tryz.prog 262 = some (false, 1) := by kernel_rfl
@[simp] theorem z_262 : zeroL Tryz.prog 262 = some [.lit (.pointer none)] := by kernel_rfl
@[simp] theorem tk_263 : tk Tryz.prog 263 = .func := by kernel_rfl
@[simp] theorem ld_263 : ldInfo Tryz.prog 263 = some (false, 1) := by kernel_rfl
@[simp] theorem z_263 : zeroL Tryz.prog 263 = some [.lit .nilFunc] := by kernel_rfl
@[simp] theorem tk_264 : tk Tryz.prog 264 = .func := by kernel_rfl
@[simp] theorem ld_264 : ldInfo Tryz.prog 264 = some (false, 1) := by kernel_rfl
@[simp] theorem z_264 : zeroL Tryz.prog 264 = some [.lit .nilFunc] := by kernel_rfl
@[simp] theorem tk_265 : tk Tryz.prog 265 = .func := by kernel_rfl
@[simp] theorem ld_265 : ldInfo Tryz.prog 265 = some (false, 1) := by kernel_rfl
@[simp] theorem z_265 : zeroL Tryz.prog 265 = some [.lit .nilFunc] := by kernel_rfl
@[simp] theorem tk_266 : tk Tryz.prog 266 = .func := by kernel_rfl
@[simp] theorem ld_266 : ldInfo Tryz.prog 266 = some (false, 1) := by kernel_rfl
@[simp] theorem z_266 : zeroL Tryz.prog 266 = some [.lit .nilFunc] := by kernel_rfl
@[simp] theorem tk_267 : tk Tryz.prog 267 = .func := by kernel_rfl
@[simp] theorem ld_267 : ldInfo Tryz.prog 267 = some (false, 1) := by kernel_rfl
@[simp] theorem z_267 : zeroL Tryz.prog 267 = some [.lit .nilFunc] := by kernel_rfl
@[simp] theorem tk_268 : tk Tryz.prog 268 = .func := by kernel_rfl
@[simp] theorem ld_268 : ldInfo Tryz.prog 268 = some (false, 1) := by kernel_rfl
@[simp] theorem z_268 : zeroL Tryz.prog 268 = some [.lit .nilFunc] := by kernel_rfl
@[simp] theorem ld_269 : ldInfo Tryz.prog 269 = some (true, 4) := by kernel_rfl
@[simp] theorem z_269 : zeroL Tryz.prog 269 = some [.lit (.pointer none), .lit (.pointer none), .lit (.pointer none), .lit (.string ByteArray.empty)] := by kernel_rfl
@[simp] theorem zv_269 : zeroV Tryz.prog 269 = some [.lit (.pointer none), .lit (.pointer none), .lit (.pointer none), .lit (.string ByteArray.empty)] := by kernel_rfl
@[simp] theorem bi_269 : bInfo Tryz.prog 269 = some [(0, 1), (1, 1), (2, 1), (3, 1)] := by kernel_rfl
@[simp] theorem ld_270 : ldInfo Tryz.prog 270 = some (true, 4) := by kernel_rfl
@[simp] theorem z_270 : zeroL Tryz.prog 270 = some [.lit (.pointer none), .lit (.pointer none), .lit (.pointer none), .lit (.string ByteArray.empty)] := by kernel_rfl
@[simp] theorem zv_270 : zeroV Tryz.prog 270 = some [.lit (.pointer none), .lit (.pointer none), .lit (.pointer none), .lit (.string ByteArray.empty)] := by kernel_rfl
@[simp] theorem bi_270 : bInfo Tryz.prog 270 = some [(0, 1), (1, 1), (2, 1), (3, 1)] := by kernel_rfl
@[simp] theorem ld_271 : ldInfo Tryz.prog 271 = some (true, 0) := by kernel_rfl
@[simp] theorem sln_271 : slSize Tryz.prog 271 = none := by kernel_rfl
@[simp] theorem ar_271 : arSize Tryz.prog 271 = some (0, 1) := by kernel_rfl
@[simp] theorem z_271 : zeroL Tryz.prog 271 = some [] := by kernel_rfl
@[simp] theorem zv_271 : zeroV Tryz.prog 271 = some [] := by kernel_rfl
@[simp] theorem bi_271 : bInfo Tryz.prog 271 = some [] := by kernel_rfl
@[simp] theorem ai_271 : arInfo Tryz.prog 271 = some (0, false, 1) := by kernel_rfl
@[simp] theorem ld_272 : ldInfo Tryz.prog 272 = some (true, 0) := by kernel_rfl
@[simp] theorem z_272 : zeroL Tryz.prog 272 = some [] := by kernel_rfl
@[simp] theorem zv_272 : zeroV Tryz.prog 272 = some [] := by kernel_rfl
@[simp] theorem bi_272 : bInfo Tryz.prog 272 = some [(0, 0)] := by kernel_rfl
@[simp] theorem ld_273 : ldInfo Tryz.prog 273 = some (true, 0) := by kernel_rfl
@[simp] theorem z_273 : zeroL Tryz.prog 273 = some [] := by kernel_rfl
@[simp] theorem zv_273 : zeroV Tryz.prog 273 = some [] := by kernel_rfl
@[simp] theorem bi_273 : bInfo Tryz.prog 273 = some [(0, 0)] := by kernel_rfl
@[simp] theorem tk_274 : tk Tryz.prog 274 = .int := by kernel_rfl
@[simp] theorem ld_274 : ldInfo Tryz.prog 274 = some (false, 1) := by kernel_rfl
@[simp] theorem cv_274 : cvtK Tryz.prog 274 = some .u8 := by kernel_rfl
@[simp] theorem z_274 : zeroL Tryz.prog 274 = some [.lit (.int .u8 0)] := by kernel_rfl
@[simp] theorem tk_275 : tk Tryz.prog 275 = .int := by kernel_rfl
@[simp] theorem ld_275 : ldInfo Tryz.prog 275 = some (false, 1) := by kernel_rfl
@[simp] theorem cv_275 : cvtK Tryz.prog 275 = some .u8 := by kernel_rfl
@[simp] theorem z_275 : zeroL Tryz.prog 275 = some [.lit (.int .u8 0)] := by kernel_rfl
@[simp] theorem tk_276 : tk Tryz.prog 276 = .func := by kernel_rfl
@[simp] theorem ld_276 : ldInfo Tryz.prog 276 = some (false, 1) := by kernel_rfl
@[simp] theorem z_276 : zeroL Tryz.prog 276 = some [.lit .nilFunc] := by kernel_rfl
@[simp] theorem tk_277 : tk Tryz.prog 277 = .ptr := by kernel_rfl
@[simp] theorem ld_277 : ldInfo Tryz.prog 277 = some (false, 1) := by kernel_rfl
@[simp] theorem z_277 : zeroL Tryz.prog 277 = some [.lit (.pointer none)] := by kernel_rfl
@[simp] theorem tk_278 : tk Tryz.prog 278 = .int := by kernel_rfl
@[simp] theorem ld_278 : ldInfo Tryz.prog 278 = some (false, 1) := by kernel_rfl
@[simp] theorem cv_278 : cvtK Tryz.prog 278 = some .i32 := by kernel_rfl
@[simp] theorem z_278 : zeroL Tryz.prog 278 = some [.lit (.int .i32 0)] := by kernel_rfl
@[simp] theorem tk_279 : tk Tryz.prog 279 = .int := by kernel_rfl
@[simp] theorem ld_279 : ldInfo Tryz.prog 279 = some (false, 1) := by kernel_rfl
@[simp] theorem cv_279 : cvtK Tryz.prog 279 = some .i32 := by kernel_rfl
@[simp] theorem z_279 : zeroL Tryz.prog 279 = some [.lit (.int .i32 0)] := by kernel_rfl
@[simp] theorem ld_280 : ldInfo Tryz.prog 280 = some (true, 11) := by kernel_rfl
@[simp] theorem z_280 : zeroL Tryz.prog 280 = some [.lit (.int .u64 0), .lit (.int .u64 0), .lit (.int .u32 0), .lit (.int .u8 0), .lit (.int .u8 0), .lit (.int .u8 0), .lit (.int .u8 0), .lit .nilFunc, .lit (.pointer none), .lit (.int .i32 0), .lit (.int .i32 0)] := by kernel_rfl
@[simp] theorem zv_280 : zeroV Tryz.prog 280 = some [.lit (.int .u64 0), .lit (.int .u64 0), .lit (.int .u32 0), .lit (.int .u8 0), .lit (.int .u8 0), .lit (.int .u8 0), .lit (.int .u8 0), .lit .nilFunc, .lit (.pointer none), .lit (.int .i32 0), .lit (.int .i32 0)] := by kernel_rfl
@[simp] theorem bi_280 : bInfo Tryz.prog 280 = some [(0, 1), (1, 1), (2, 1), (3, 1), (4, 1), (5, 1), (6, 1), (7, 1), (8, 1), (9, 1), (10, 1)] := by kernel_rfl
@[simp] theorem ld_281 : ldInfo Tryz.prog 281 = some (true, 11) := by kernel_rfl
@[simp] theorem z_281 : zeroL Tryz.prog 281 = some [.lit (.int .u64 0), .lit (.int .u64 0), .lit (.int .u32 0), .lit (.int .u8 0), .lit (.int .u8 0), .lit (.int .u8 0), .lit (.int .u8 0), .lit .nilFunc, .lit (.pointer none), .lit (.int .i32 0), .lit (.int .i32 0)] := by kernel_rfl
@[simp] theorem zv_281 : zeroV Tryz.prog 281 = some [.lit (.int .u64 0), .lit (.int .u64 0), .lit (.int .u32 0), .lit (.int .u8 0), .lit (.int .u8 0), .lit (.int .u8 0), .lit (.int .u8 0), .lit .nilFunc, .lit (.pointer none), .lit (.int .i32 0), .lit (.int .i32 0)] := by kernel_rfl
@[simp] theorem bi_281 : bInfo Tryz.prog 281 = some [(0, 1), (1, 1), (2, 1), (3, 1), (4, 1), (5, 1), (6, 1), (7, 1), (8, 1), (9, 1), (10, 1)] := by kernel_rfl
@[simp] theorem ld_282 : ldInfo Tryz.prog 282 = some (false, 1) := by kernel_rfl
@[simp] theorem z_282 : zeroL Tryz.prog 282 = some [.lit (.pointer none)] := by kernel_rfl
@[simp] theorem fo_7_0 : fOff Tryz.prog 7 0 = some 0 := by kernel_rfl
@[simp] theorem fi_7_0 : fldInfo Tryz.prog 7 0 = some (0, false, 1) := by kernel_rfl
@[simp] theorem fo_7_1 : fOff Tryz.prog 7 1 = some 1 := by kernel_rfl
@[simp] theorem fi_7_1 : fldInfo Tryz.prog 7 1 = some (1, false, 1) := by kernel_rfl
@[simp] theorem fo_7_2 : fOff Tryz.prog 7 2 = some 2 := by kernel_rfl
@[simp] theorem fi_7_2 : fldInfo Tryz.prog 7 2 = some (2, false, 1) := by kernel_rfl
@[simp] theorem fo_7_3 : fOff Tryz.prog 7 3 = some 3 := by kernel_rfl
@[simp] theorem fi_7_3 : fldInfo Tryz.prog 7 3 = some (3, false, 1) := by kernel_rfl
@[simp] theorem fo_8_0 : fOff Tryz.prog 8 0 = some 0 := by kernel_rfl
@[simp] theorem fi_8_0 : fldInfo Tryz.prog 8 0 = some (0, false, 1) := by kernel_rfl
@[simp] theorem fo_8_1 : fOff Tryz.prog 8 1 = some 1 := by kernel_rfl
@[simp] theorem fi_8_1 : fldInfo Tryz.prog 8 1 = some (1, false, 1) := by kernel_rfl
@[simp] theorem fo_8_2 : fOff Tryz.prog 8 2 = some 2 := by kernel_rfl
@[simp] theorem fi_8_2 : fldInfo Tryz.prog 8 2 = some (2, false, 1) := by kernel_rfl
@[simp] theorem fo_8_3 : fOff Tryz.prog 8 3 = some 3 := by kernel_rfl
@[simp] theorem fi_8_3 : fldInfo Tryz.prog 8 3 = some (3, false, 1) := by kernel_rfl
@[simp] theorem fo_13_0 : fOff Tryz.prog 13 0 = some 0 := by kernel_rfl
@[simp] theorem fi_13_0 : fldInfo Tryz.prog 13 0 = some (0, false, 1) := by kernel_rfl
@[simp] theorem fo_13_1 : fOff Tryz.prog 13 1 = some 1 := by kernel_rfl
@[simp] theorem fi_13_1 : fldInfo Tryz.prog 13 1 = some (1, false, 1) := by kernel_rfl
@[simp] theorem fo_14_0 : fOff Tryz.prog 14 0 = some 0 := by kernel_rfl
@[simp] theorem fi_14_0 : fldInfo Tryz.prog 14 0 = some (0, false, 1) := by kernel_rfl
@[simp] theorem fo_14_1 : fOff Tryz.prog 14 1 = some 1 := by kernel_rfl
@[simp] theorem fi_14_1 : fldInfo Tryz.prog 14 1 = some (1, false, 1) := by kernel_rfl
@[simp] theorem fo_18_0 : fOff Tryz.prog 18 0 = some 0 := by kernel_rfl
@[simp] theorem fi_18_0 : fldInfo Tryz.prog 18 0 = some (0, false, 1) := by kernel_rfl
@[simp] theorem fo_19_0 : fOff Tryz.prog 19 0 = some 0 := by kernel_rfl
@[simp] theorem fi_19_0 : fldInfo Tryz.prog 19 0 = some (0, false, 1) := by kernel_rfl
@[simp] theorem fo_23_0 : fOff Tryz.prog 23 0 = some 0 := by kernel_rfl
@[simp] theorem fi_23_0 : fldInfo Tryz.prog 23 0 = some (0, false, 1) := by kernel_rfl
@[simp] theorem fo_23_1 : fOff Tryz.prog 23 1 = some 1 := by kernel_rfl
@[simp] theorem fi_23_1 : fldInfo Tryz.prog 23 1 = some (1, false, 1) := by kernel_rfl
@[simp] theorem fo_24_0 : fOff Tryz.prog 24 0 = some 0 := by kernel_rfl
@[simp] theorem fi_24_0 : fldInfo Tryz.prog 24 0 = some (0, false, 1) := by kernel_rfl
@[simp] theorem fo_24_1 : fOff Tryz.prog 24 1 = some 1 := by kernel_rfl
@[simp] theorem fi_24_1 : fldInfo Tryz.prog 24 1 = some (1, false, 1) := by kernel_rfl
@[simp] theorem fo_54_0 : fOff Tryz.prog 54 0 = some 0 := by kernel_rfl
@[simp] theorem fi_54_0 : fldInfo Tryz.prog 54 0 = some (0, false, 1) := by kernel_rfl
@[simp] theorem fo_54_1 : fOff Tryz.prog 54 1 = some 1 := by kernel_rfl
@[simp] theorem fi_54_1 : fldInfo Tryz.prog 54 1 = some (1, false, 1) := by kernel_rfl
@[simp] theorem fo_55_0 : fOff Tryz.prog 55 0 = some 0 := by kernel_rfl
@[simp] theorem fi_55_0 : fldInfo Tryz.prog 55 0 = some (0, false, 1) := by kernel_rfl
@[simp] theorem fo_55_1 : fOff Tryz.prog 55 1 = some 1 := by kernel_rfl
@[simp] theorem fi_55_1 : fldInfo Tryz.prog 55 1 = some (1, false, 1) := by kernel_rfl
@[simp] theorem fo_57_0 : fOff Tryz.prog 57 0 = some 0 := by kernel_rfl
@[simp] theorem fi_57_0 : fldInfo Tryz.prog 57 0 = some (0, false, 1) := by kernel_rfl
@[simp] theorem fo_57_1 : fOff Tryz.prog 57 1 = some 1 := by kernel_rfl
@[simp] theorem fi_57_1 : fldInfo Tryz.prog 57 1 = some (1, false, 1) := by kernel_rfl
@[simp] theorem fo_57_2 : fOff Tryz.prog 57 2 = some 2 := by kernel_rfl
@[simp] theorem fi_57_2 : fldInfo Tryz.prog 57 2 = some (2, false, 1) := by kernel_rfl
@[simp] theorem fo_58_0 : fOff Tryz.prog 58 0 = some 0 := by kernel_rfl
@[simp] theorem fi_58_0 : fldInfo Tryz.prog 58 0 = some (0, false, 1) := by kernel_rfl
@[simp] theorem fo_58_1 : fOff Tryz.prog 58 1 = some 1 := by kernel_rfl
@[simp] theorem fi_58_1 : fldInfo Tryz.prog 58 1 = some (1, false, 1) := by kernel_rfl
@[simp] theorem fo_58_2 : fOff Tryz.prog 58 2 = some 2 := by kernel_rfl
@[simp] theorem fi_58_2 : fldInfo Tryz.prog 58 2 = some (2, false, 1) := by kernel_rfl
@[simp] theorem fo_59_0 : fOff Tryz.prog 59 0 = some 0 := by kernel_rfl
@[simp] theorem fi_59_0 : fldInfo Tryz.prog 59 0 = some (0, false, 1) := by kernel_rfl
@[simp] theorem fo_59_1 : fOff Tryz.prog 59 1 = some 1 := by kernel_rfl
@[simp] theorem fi_59_1 : fldInfo Tryz.prog 59 1 = some (1, false, 1) := by kernel_rfl
@[simp] theorem fo_59_2 : fOff Tryz.prog 59 2 = some 2 := by kernel_rfl
@[simp] theorem fi_59_2 : fldInfo Tryz.prog 59 2 = some (2, true, 2) := by kernel_rfl
@[simp] theorem fo_59_3 : fOff Tryz.prog 59 3 = some 4 := by kernel_rfl
@[simp] theorem fi_59_3 : fldInfo Tryz.prog 59 3 = some (4, true, 3) := by kernel_rfl
@[simp] theorem fo_59_4 : fOff Tryz.prog 59 4 = some 7 := by kernel_rfl
@[simp] theorem fi_59_4 : fldInfo Tryz.prog 59 4 = some (7, false, 1) := by kernel_rfl
@[simp] theorem fo_60_0 : fOff Tryz.prog 60 0 = some 0 := by kernel_rfl
@[simp] theorem fi_60_0 : fldInfo Tryz.prog 60 0 = some (0, false, 1) := by kernel_rfl
@[simp] theorem fo_60_1 : fOff Tryz.prog 60 1 = some 1 := by kernel_rfl
@[simp] theorem fi_60_1 : fldInfo Tryz.prog 60 1 = some (1, false, 1) := by kernel_rfl
@[simp] theorem fo_60_2 : fOff Tryz.prog 60 2 = some 2 := by kernel_rfl
@[simp] theorem fi_60_2 : fldInfo Tryz.prog 60 2 = some (2, true, 2) := by kernel_rfl
@[simp] theorem fo_60_3 : fOff Tryz.prog 60 3 = some 4 := by kernel_rfl
@[simp] theorem fi_60_3 : fldInfo Tryz.prog 60 3 = some (4, true, 3) := by kernel_rfl
@[simp] theorem fo_60_4 : fOff Tryz.prog 60 4 = some 7 := by kernel_rfl
@[simp] theorem fi_60_4 : fldInfo Tryz.prog 60 4 = some (7, false, 1) := by kernel_rfl
@[simp] theorem fo_78_0 : fOff Tryz.prog 78 0 = some 0 := by kernel_rfl
@[simp] theorem fi_78_0 : fldInfo Tryz.prog 78 0 = some (0, false, 1) := by kernel_rfl
@[simp] theorem fo_78_1 : fOff Tryz.prog 78 1 = some 1 := by kernel_rfl
@[simp] theorem fi_78_1 : fldInfo Tryz.prog 78 1 = some (1, false, 1) := by kernel_rfl
@[simp] theorem fo_78_2 : fOff Tryz.prog 78 2 = some 2 := by kernel_rfl
@[simp] theorem fi_78_2 : fldInfo Tryz.prog 78 2 = some (2, false, 1) := by kernel_rfl
@[simp] theorem fo_78_3 : fOff Tryz.prog 78 3 = some 3 := by kernel_rfl
@[simp] theorem fi_78_3 : fldInfo Tryz.prog 78 3 = some (3, false, 1) := by kernel_rfl
@[simp] theorem fo_78_4 : fOff Tryz.prog 78 4 = some 4 := by kernel_rfl
@[simp] theorem fi_78_4 : fldInfo Tryz.prog 78 4 = some (4, false, 1) := by kernel_rfl
@[simp] theorem fo_79_0 : fOff Tryz.prog 79 0 = some 0 := by kernel_rfl
@[simp] theorem fi_79_0 : fldInfo Tryz.prog 79 0 = some (0, false, 1) := by kernel_rfl
@[simp] theorem fo_79_1 : fOff Tryz.prog 79 1 = some 1 := by kernel_rfl
@[simp] theorem fi_79_1 : fldInfo Tryz.prog 79 1 = some (1, false, 1) := by kernel_rfl
@[simp] theorem fo_79_2 : fOff Tryz.prog 79 2 = some 2 := by kernel_rfl
@[simp] theorem fi_79_2 : fldInfo Tryz.prog 79 2 = some (2, false, 1) := by kernel_rfl
@[simp] theorem fo_79_3 : fOff Tryz.prog 79 3 = some 3 := by kernel_rfl
@[simp] theorem fi_79_3 : fldInfo Tryz.prog 79 3 = some (3, false, 1) := by kernel_rfl
@[simp] theorem fo_79_4 : fOff Tryz.prog 79 4 = some 4 := by kernel_rfl
@[simp] theorem fi_79_4 : fldInfo Tryz.prog 79 4 = some (4, false, 1) := by kernel_rfl
@[simp] theorem fo_88_0 : fOff Tryz.prog 88 0 = some 0 := by kernel_rfl
@[simp] theorem fi_88_0 : fldInfo Tryz.prog 88 0 = some (0, false, 1) := by kernel_rfl
@[simp] theorem fo_88_1 : fOff Tryz.prog 88 1 = some 1 := by kernel_rfl
@[simp] theorem fi_88_1 : fldInfo Tryz.prog 88 1 = some (1, false, 1) := by kernel_rfl
@[simp] theorem fo_88_2 : fOff Tryz.prog 88 2 = some 2 := by kernel_rfl
@[simp] theorem fi_88_2 : fldInfo Tryz.prog 88 2 = some (2, false, 1) := by kernel_rfl
@[simp] theorem fo_88_3 : fOff Tryz.prog 88 3 = some 3 := by kernel_rfl
@[simp] theorem fi_88_3 : fldInfo Tryz.prog 88 3 = some (3, false, 1) := by kernel_rfl
@[simp] theorem fo_89_0 : fOff Tryz.prog 89 0 = some 0 := by kernel_rfl
@[simp] theorem fi_89_0 : fldInfo Tryz.prog 89 0 = some (0, false, 1) := by kernel_rfl
@[simp] theorem fo_89_1 : fOff Tryz.prog 89 1 = some 1 := by kernel_rfl
@[simp] theorem fi_89_1 : fldInfo Tryz.prog 89 1 = some (1, false, 1) := by kernel_rfl
@[simp] theorem fo_89_2 : fOff Tryz.prog 89 2 = some 2 := by kernel_rfl
@[simp] theorem fi_89_2 : fldInfo Tryz.prog 89 2 = some (2, false, 1) := by kernel_rfl
@[simp] theorem fo_89_3 : fOff Tryz.prog 89 3 = some 3 := by kernel_rfl
@[simp] theorem fi_89_3 : fldInfo Tryz.prog 89 3 = some (3, false, 1) := by kernel_rfl
@[simp] theorem fo_114_0 : fOff Tryz.prog 114 0 = some 0 := by kernel_rfl
@[simp] theorem fi_114_0 : fldInfo Tryz.prog 114 0 = some (0, false, 1) := by kernel_rfl
@[simp] theorem fo_114_1 : fOff Tryz.prog 114 1 = some 1 := by kernel_rfl
@[simp] theorem fi_114_1 : fldInfo Tryz.prog 114 1 = some (1, false, 1) := by kernel_rfl
@[simp] theorem fo_114_2 : fOff Tryz.prog 114 2 = some 2 := by kernel_rfl
@[simp] theorem fi_114_2 : fldInfo Tryz.prog 114 2 = some (2, false, 1) := by kernel_rfl
@[simp] theorem fo_115_0 : fOff Tryz.prog 115 0 = some 0 := by kernel_rfl
@[simp] theorem fi_115_0 : fldInfo Tryz.prog 115 0 = some (0, false, 1) := by kernel_rfl
@[simp] theorem fo_115_1 : fOff Tryz.prog 115 1 = some 1 := by kernel_rfl
@[simp] theorem fi_115_1 : fldInfo Tryz.prog 115 1 = some (1, false, 1) := by kernel_rfl
@[simp] theorem fo_115_2 : fOff Tryz.prog 115 2 = some 2 := by kernel_rfl
@[simp] theorem fi_115_2 : fldInfo Tryz.prog 115 2 = some (2, false, 1) := by kernel_rfl
@[simp] theorem fo_133_0 : fOff Tryz.prog 133 0 = some 0 := by kernel_rfl
@[simp] theorem fi_133_0 : fldInfo Tryz.prog 133 0 = some (0, false, 1) := by kernel_rfl
@[simp] theorem fo_133_1 : fOff Tryz.prog 133 1 = some 1 := by kernel_rfl
@[simp] theorem fi_133_1 : fldInfo Tryz.prog 133 1 = some (1, false, 1) := by kernel_rfl
@[simp] theorem fo_133_2 : fOff Tryz.prog 133 2 = some 2 := by kernel_rfl
@[simp] theorem fi_133_2 : fldInfo Tryz.prog 133 2 = some (2, false, 1) := by kernel_rfl
@[simp] theorem fo_133_3 : fOff Tryz.prog 133 3 = some 3 := by kernel_rfl
@[simp] theorem fi_133_3 : fldInfo Tryz.prog 133 3 = some (3, false, 1) := by kernel_rfl
@[simp] theorem fo_133_4 : fOff Tryz.prog 133 4 = some 4 := by kernel_rfl
@[simp] theorem fi_133_4 : fldInfo Tryz.prog 133 4 = some (4, false, 1) := by kernel_rfl
@[simp] theorem fo_134_0 : fOff Tryz.prog 134 0 = some 0 := by kernel_rfl
@[simp] theorem fi_134_0 : fldInfo Tryz.prog 134 0 = some (0, false, 1) := by kernel_rfl
@[simp] theorem fo_134_1 : fOff Tryz.prog 134 1 = some 1 := by kernel_rfl
@[simp] theorem fi_134_1 : fldInfo Tryz.prog 134 1 = some (1, false, 1) := by kernel_rfl
@[simp] theorem fo_134_2 : fOff Tryz.prog 134 2 = some 2 := by kernel_rfl
@[simp] theorem fi_134_2 : fldInfo Tryz.prog 134 2 = some (2, false, 1) := by kernel_rfl
@[simp] theorem fo_134_3 : fOff Tryz.prog 134 3 = some 3 := by kernel_rfl
@[simp] theorem fi_134_3 : fldInfo Tryz.prog 134 3 = some (3, false, 1) := by kernel_rfl
@[simp] theorem fo_134_4 : fOff Tryz.prog 134 4 = some 4 := by kernel_rfl
@[simp] theorem fi_134_4 : fldInfo Tryz.prog 134 4 = some (4, false, 1) := by kernel_rfl
@[simp] theorem fo_140_0 : fOff Tryz.prog 140 0 = some 0 := by kernel_rfl
@[simp] theorem fi_140_0 : fldInfo Tryz.prog 140 0 = some (0, false, 1) := by kernel_rfl
@[simp] theorem fo_140_1 : fOff Tryz.prog 140 1 = some 1 := by kernel_rfl
@[simp] theorem fi_140_1 : fldInfo Tryz.prog 140 1 = some (1, false, 1) := by kernel_rfl
@[simp] theorem fo_140_2 : fOff Tryz.prog 140 2 = some 2 := by kernel_rfl
@[simp] theorem fi_140_2 : fldInfo Tryz.prog 140 2 = some (2, false, 1) := by kernel_rfl
@[simp] theorem fo_140_3 : fOff Tryz.prog 140 3 = some 3 := by kernel_rfl
@[simp] theorem fi_140_3 : fldInfo Tryz.prog 140 3 = some (3, false, 1) := by kernel_rfl
@[simp] theorem fo_140_4 : fOff Tryz.prog 140 4 = some 4 := by kernel_rfl
@[simp] theorem fi_140_4 : fldInfo Tryz.prog 140 4 = some (4, false, 1) := by kernel_rfl
@[simp] theorem fo_141_0 : fOff Tryz.prog 141 0 = some 0 := by kernel_rfl
@[simp] theorem fi_141_0 : fldInfo Tryz.prog 141 0 = some (0, false, 1) := by kernel_rfl
@[simp] theorem fo_141_1 : fOff Tryz.prog 141 1 = some 1 := by kernel_rfl
@[simp] theorem fi_141_1 : fldInfo Tryz.prog 141 1 = some (1, false, 1) := by kernel_rfl
@[simp] theorem fo_141_2 : fOff Tryz.prog 141 2 = some 2 := by kernel_rfl
@[simp] theorem fi_141_2 : fldInfo Tryz.prog 141 2 = some (2, false, 1) := by kernel_rfl
@[simp] theorem fo_141_3 : fOff Tryz.prog 141 3 = some 3 := by kernel_rfl
@[simp] theorem fi_141_3 : fldInfo Tryz.prog 141 3 = some (3, false, 1) := by kernel_rfl
@[simp] theorem fo_141_4 : fOff Tryz.prog 141 4 = some 4 := by kernel_rfl
@[simp] theorem fi_141_4 : fldInfo Tryz.prog 141 4 = some (4, false, 1) := by kernel_rfl
@[simp] theorem fo_143_0 : fOff Tryz.prog 143 0 = some 0 := by kernel_rfl
@[simp] theorem fi_143_0 : fldInfo Tryz.prog 143 0 = some (0, false, 1) := by kernel_rfl
@[simp] theorem fo_143_1 : fOff Tryz.prog 143 1 = some 1 := by kernel_rfl
@[simp] theorem fi_143_1 : fldInfo Tryz.prog 143 1 = some (1, false, 1) := by kernel_rfl
@[simp] theorem fo_143_2 : fOff Tryz.prog 143 2 = some 2 := by kernel_rfl
@[simp] theorem fi_143_2 : fldInfo Tryz.prog 143 2 = some (2, false, 1) := by kernel_rfl
@[simp] theorem fo_143_3 : fOff Tryz.prog 143 3 = some 3 := by kernel_rfl
@[simp] theorem fi_143_3 : fldInfo Tryz.prog 143 3 = some (3, false, 1) := by kernel_rfl
@[simp] theorem fo_144_0 : fOff Tryz.prog 144 0 = some 0 := by kernel_rfl
@[simp] theorem fi_144_0 : fldInfo Tryz.prog 144 0 = some (0, false, 1) := by kernel_rfl
@[simp] theorem fo_144_1 : fOff Tryz.prog 144 1 = some 1 := by kernel_rfl
@[simp] theorem fi_144_1 : fldInfo Tryz.prog 144 1 = some (1, false, 1) := by kernel_rfl
@[simp] theorem fo_144_2 : fOff Tryz.prog 144 2 = some 2 := by kernel_rfl
@[simp] theorem fi_144_2 : fldInfo Tryz.prog 144 2 = some (2, false, 1) := by kernel_rfl
@[simp] theorem fo_144_3 : fOff Tryz.prog 144 3 = some 3 := by kernel_rfl
@[simp] theorem fi_144_3 : fldInfo Tryz.prog 144 3 = some (3, false, 1) := by kernel_rfl
@[simp] theorem fo_147_0 : fOff Tryz.prog 147 0 = some 0 := by kernel_rfl
@[simp] theorem fi_147_0 : fldInfo Tryz.prog 147 0 = some (0, false, 1) := by kernel_rfl
@[simp] theorem fo_147_1 : fOff Tryz.prog 147 1 = some 1 := by kernel_rfl
@[simp] theorem fi_147_1 : fldInfo Tryz.prog 147 1 = some (1, false, 1) := by kernel_rfl
@[simp] theorem fo_147_2 : fOff Tryz.prog 147 2 = some 2 := by kernel_rfl
@[simp] theorem fi_147_2 : fldInfo Tryz.prog 147 2 = some (2, false, 1) := by kernel_rfl
@[simp] theorem fo_147_3 : fOff Tryz.prog 147 3 = some 3 := by kernel_rfl
@[simp] theorem fi_147_3 : fldInfo Tryz.prog 147 3 = some (3, false, 1) := by kernel_rfl
@[simp] theorem fo_148_0 : fOff Tryz.prog 148 0 = some 0 := by kernel_rfl
@[simp] theorem fi_148_0 : fldInfo Tryz.prog 148 0 = some (0, false, 1) := by kernel_rfl
@[simp] theorem fo_148_1 : fOff Tryz.prog 148 1 = some 1 := by kernel_rfl
@[simp] theorem fi_148_1 : fldInfo Tryz.prog 148 1 = some (1, false, 1) := by kernel_rfl
@[simp] theorem fo_148_2 : fOff Tryz.prog 148 2 = some 2 := by kernel_rfl
@[simp] theorem fi_148_2 : fldInfo Tryz.prog 148 2 = some (2, false, 1) := by kernel_rfl
@[simp] theorem fo_148_3 : fOff Tryz.prog 148 3 = some 3 := by kernel_rfl
@[simp] theorem fi_148_3 : fldInfo Tryz.prog 148 3 = some (3, false, 1) := by kernel_rfl
@[simp] theorem fo_163_0 : fOff Tryz.prog 163 0 = some 0 := by kernel_rfl
@[simp] theorem fi_163_0 : fldInfo Tryz.prog 163 0 = some (0, false, 1) := by kernel_rfl
@[simp] theorem fo_163_1 : fOff Tryz.prog 163 1 = some 1 := by kernel_rfl
@[simp] theorem fi_163_1 : fldInfo Tryz.prog 163 1 = some (1, false, 1) := by kernel_rfl
@[simp] theorem fo_163_2 : fOff Tryz.prog 163 2 = some 2 := by kernel_rfl
@[simp] theorem fi_163_2 : fldInfo Tryz.prog 163 2 = some (2, false, 1) := by kernel_rfl
@[simp] theorem fo_164_0 : fOff Tryz.prog 164 0 = some 0 := by kernel_rfl
@[simp] theorem fi_164_0 : fldInfo Tryz.prog 164 0 = some (0, false, 1) := by kernel_rfl
@[simp] theorem fo_164_1 : fOff Tryz.prog 164 1 = some 1 := by kernel_rfl
@[simp] theorem fi_164_1 : fldInfo Tryz.prog 164 1 = some (1, false, 1) := by kernel_rfl
@[simp] theorem fo_164_2 : fOff Tryz.prog 164 2 = some 2 := by kernel_rfl
@[simp] theorem fi_164_2 : fldInfo Tryz.prog 164 2 = some (2, false, 1) := by kernel_rfl
@[simp] theorem fo_171_0 : fOff Tryz.prog 171 0 = some 0 := by kernel_rfl
@[simp] theorem fi_171_0 : fldInfo Tryz.prog 171 0 = some (0, false, 1) := by kernel_rfl
@[simp] theorem fo_171_1 : fOff Tryz.prog 171 1 = some 1 := by kernel_rfl
@[simp] theorem fi_171_1 : fldInfo Tryz.prog 171 1 = some (1, false, 1) := by kernel_rfl
@[simp] theorem fo_172_0 : fOff Tryz.prog 172 0 = some 0 := by kernel_rfl
@[simp] theorem fi_172_0 : fldInfo Tryz.prog 172 0 = some (0, false, 1) := by kernel_rfl
@[simp] theorem fo_172_1 : fOff Tryz.prog 172 1 = some 1 := by kernel_rfl
@[simp] theorem fi_172_1 : fldInfo Tryz.prog 172 1 = some (1, false, 1) := by kernel_rfl
@[simp] theorem fo_178_0 : fOff Tryz.prog 178 0 = some 0 := by kernel_rfl
@[simp] theorem fi_178_0 : fldInfo Tryz.prog 178 0 = some (0, false, 1) := by kernel_rfl
@[simp] theorem fo_178_1 : fOff Tryz.prog 178 1 = some 1 := by kernel_rfl
@[simp] theorem fi_178_1 : fldInfo Tryz.prog 178 1 = some (1, false, 1) := by kernel_rfl
@[simp] theorem fo_179_0 : fOff Tryz.prog 179 0 = some 0 := by kernel_rfl
@[simp] theorem fi_179_0 : fldInfo Tryz.prog 179 0 = some (0, false, 1) := by kernel_rfl
@[simp] theorem fo_179_1 : fOff Tryz.prog 179 1 = some 1 := by kernel_rfl
@[simp] theorem fi_179_1 : fldInfo Tryz.prog 179 1 = some (1, false, 1) := by kernel_rfl
@[simp] theorem fo_185_0 : fOff Tryz.prog 185 0 = some 0 := by kernel_rfl
@[simp] theorem fi_185_0 : fldInfo Tryz.prog 185 0 = some (0, false, 1) := by kernel_rfl
@[simp] theorem fo_185_1 : fOff Tryz.prog 185 1 = some 1 := by kernel_rfl
@[simp] theorem fi_185_1 : fldInfo Tryz.prog 185 1 = some (1, false, 1) := by kernel_rfl
@[simp] theorem fo_185_2 : fOff Tryz.prog 185 2 = some 2 := by kernel_rfl
@[simp] theorem fi_185_2 : fldInfo Tryz.prog 185 2 = some (2, false, 1) := by kernel_rfl
@[simp] theorem fo_186_0 : fOff Tryz.prog 186 0 = some 0 := by kernel_rfl
@[simp] theorem fi_186_0 : fldInfo Tryz.prog 186 0 = some (0, false, 1) := by kernel_rfl
@[simp] theorem fo_186_1 : fOff Tryz.prog 186 1 = some 1 := by kernel_rfl
@[simp] theorem fi_186_1 : fldInfo Tryz.prog 186 1 = some (1, false, 1) := by kernel_rfl
@[simp] theorem fo_186_2 : fOff Tryz.prog 186 2 = some 2 := by kernel_rfl
@[simp] theorem fi_186_2 : fldInfo Tryz.prog 186 2 = some (2, false, 1) := by kernel_rfl
@[simp] theorem fo_215_0 : fOff Tryz.prog 215 0 = some 0 := by kernel_rfl
@[simp] theorem fi_215_0 : fldInfo Tryz.prog 215 0 = some (0, false, 1) := by kernel_rfl
@[simp] theorem fo_215_1 : fOff Tryz.prog 215 1 = some 1 := by kernel_rfl
@[simp] theorem fi_215_1 : fldInfo Tryz.prog 215 1 = some (1, false, 1) := by kernel_rfl
@[simp] theorem fo_216_0 : fOff Tryz.prog 216 0 = some 0 := by kernel_rfl
@[simp] theorem fi_216_0 : fldInfo Tryz.prog 216 0 = some (0, false, 1) := by kernel_rfl
@[simp] theorem fo_216_1 : fOff Tryz.prog 216 1 = some 1 := by kernel_rfl
@[simp] theorem fi_216_1 : fldInfo Tryz.prog 216 1 = some (1, false, 1) := by kernel_rfl
@[simp] theorem fo_269_0 : fOff Tryz.prog 269 0 = some 0 := by kernel_rfl
@[simp] theorem fi_269_0 : fldInfo Tryz.prog 269 0 = some (0, false, 1) := by kernel_rfl
@[simp] theorem fo_269_1 : fOff Tryz.prog 269 1 = some 1 := by kernel_rfl
@[simp] theorem fi_269_1 : fldInfo Tryz.prog 269 1 = some (1, false, 1) := by kernel_rfl
@[simp] theorem fo_269_2 : fOff Tryz.prog 269 2 = some 2 := by kernel_rfl
@[simp] theorem fi_269_2 : fldInfo Tryz.prog 269 2 = some (2, false, 1) := by kernel_rfl
@[simp] theorem fo_269_3 : fOff Tryz.prog 269 3 = some 3 := by kernel_rfl
@[simp] theorem fi_269_3 : fldInfo Tryz.prog 269 3 = some (3, false, 1) := by kernel_rfl
@[simp] theorem fo_270_0 : fOff Tryz.prog 270 0 = some 0 := by kernel_rfl
@[simp] theorem fi_270_0 : fldInfo Tryz.prog 270 0 = some (0, false, 1) := by kernel_rfl
@[simp] theorem fo_270_1 : fOff Tryz.prog 270 1 = some 1 := by kernel_rfl
@[simp] theorem fi_270_1 : fldInfo Tryz.prog 270 1 = some (1, false, 1) := by kernel_rfl
@[simp] theorem fo_270_2 : fOff Tryz.prog 270 2 = some 2 := by kernel_rfl
@[simp] theorem fi_270_2 : fldInfo Tryz.prog 270 2 = some (2, false, 1) := by kernel_rfl
@[simp] theorem fo_270_3 : fOff Tryz.prog 270 3 = some 3 := by kernel_rfl
@[simp] theorem fi_270_3 : fldInfo Tryz.prog 270 3 = some (3, false, 1) := by kernel_rfl
@[simp] theorem fi_272_0 : fldInfo Tryz.prog 272 0 = some (0, true, 0) := by kernel_rfl
@[simp] theorem fi_273_0 : fldInfo Tryz.prog 273 0 = some (0, true, 0) := by kernel_rfl
@[simp] theorem fo_280_0 : fOff Tryz.prog 280 0 = some 0 := by kernel_rfl
@[simp] theorem fi_280_0 : fldInfo Tryz.prog 280 0 = some (0, false, 1) := by kernel_rfl
@[simp] theorem fo_280_1 : fOff Tryz.prog 280 1 = some 1 := by kernel_rfl
@[simp] theorem fi_280_1 : fldInfo Tryz.prog 280 1 = some (1, false, 1) := by kernel_rfl
@[simp] theorem fo_280_2 : fOff Tryz.prog 280 2 = some 2 := by kernel_rfl
@[simp] theorem fi_280_2 : fldInfo Tryz.prog 280 2 = some (2, false, 1) := by kernel_rfl
@[simp] theorem fo_280_3 : fOff Tryz.prog 280 3 = some 3 := by kernel_rfl
@[simp] theorem fi_280_3 : fldInfo Tryz.prog 280 3 = some (3, false, 1) := by kernel_rfl
@[simp] theorem fo_280_4 : fOff Tryz.prog 280 4 = some 4 := by kernel_rfl
@[simp] theorem fi_280_4 : fldInfo Tryz.prog 280 4 = some (4, false, 1) := by kernel_rfl
@[simp] theorem fo_280_5 : fOff Tryz.prog 280 5 = some 5 := by kernel_rfl
@[simp] theorem fi_280_5 : fldInfo Tryz.prog 280 5 = some (5, false, 1) := by kernel_rfl
@[simp] theorem fo_280_6 : fOff Tryz.prog 280 6 = some 6 := by kernel_rfl
@[simp] theorem fi_280_6 : fldInfo Tryz.prog 280 6 = some (6, false, 1) := by kernel_rfl
@[simp] theorem fo_280_7 : fOff Tryz.prog 280 7 = some 7 := by kernel_rfl
@[simp] theorem fi_280_7 : fldInfo Tryz.prog 280 7 = some (7, false, 1) := by kernel_rfl
@[simp] theorem fo_280_8 : fOff Tryz.prog 280 8 = some 8 := by kernel_rfl
@[simp] theorem fi_280_8 : fldInfo Tryz.prog 280 8 = some (8, false, 1) := by kernel_rfl
@[simp] theorem fo_280_9 : fOff Tryz.prog 280 9 = some 9 := by kernel_rfl
@[simp] theorem fi_280_9 : fldInfo Tryz.prog 280 9 = some (9, false, 1) := by kernel_rfl
@[simp] theorem fo_280_10 : fOff Tryz.prog 280 10 = some 10 := by kernel_rfl
@[simp] theorem fi_280_10 : fldInfo Tryz.prog 280 10 = some (10, false, 1) := by kernel_rfl
@[simp] theorem fo_281_0 : fOff Tryz.prog 281 0 = some 0 := by kernel_rfl
@[simp] theorem fi_281_0 : fldInfo Tryz.prog 281 0 = some (0, false, 1) := by kernel_rfl
@[simp] theorem fo_281_1 : fOff Tryz.prog 281 1 = some 1 := by kernel_rfl
@[simp] theorem fi_281_1 : fldInfo Tryz.prog 281 1 = some (1, false, 1) := by kernel_rfl
@[simp] theorem fo_281_2 : fOff Tryz.prog 281 2 = some 2 := by kernel_rfl
@[simp] theorem fi_281_2 : fldInfo Tryz.prog 281 2 = some (2, false, 1) := by kernel_rfl
@[simp] theorem fo_281_3 : fOff Tryz.prog 281 3 = some 3 := by kernel_rfl
@[simp] theorem fi_281_3 : fldInfo Tryz.prog 281 3 = some (3, false, 1) := by kernel_rfl
@[simp] theorem fo_281_4 : fOff Tryz.prog 281 4 = some 4 := by kernel_rfl
@[simp] theorem fi_281_4 : fldInfo Tryz.prog 281 4 = some (4, false, 1) := by kernel_rfl
@[simp] theorem fo_281_5 : fOff Tryz.prog 281 5 = some 5 := by kernel_rfl
@[simp] theorem fi_281_5 : fldInfo Tryz.prog 281 5 = some (5, false, 1) := by kernel_rfl
@[simp] theorem fo_281_6 : fOff Tryz.prog 281 6 = some 6 := by kernel_rfl
@[simp] theorem fi_281_6 : fldInfo Tryz.prog 281 6 = some (6, false, 1) := by kernel_rfl
@[simp] theorem fo_281_7 : fOff Tryz.prog 281 7 = some 7 := by kernel_rfl
@[simp] theorem fi_281_7 : fldInfo Tryz.prog 281 7 = some (7, false, 1) := by kernel_rfl
@[simp] theorem fo_281_8 : fOff Tryz.prog 281 8 = some 8 := by kernel_rfl
@[simp] theorem fi_281_8 : fldInfo Tryz.prog 281 8 = some (8, false, 1) := by kernel_rfl
@[simp] theorem fo_281_9 : fOff Tryz.prog 281 9 = some 9 := by kernel_rfl
@[simp] theorem fi_281_9 : fldInfo Tryz.prog 281 9 = some (9, false, 1) := by kernel_rfl
@[simp] theorem fo_281_10 : fOff Tryz.prog 281 10 = some 10 := by kernel_rfl
@[simp] theorem fi_281_10 : fldInfo Tryz.prog 281 10 = some (10, false, 1) := by kernel_rfl

end Go.AX

namespace Go.AX
open Go.Proofs
theorem hmo : Tryz.prog.follows .mixedOrders = true := by kernel_rfl

/-! ### Plain laws -/
def sizeOk (a b : Int) : Bool := !(decide (a < 0) || decide (a > 64) || decide (b < 1) || decide (b > 32))
/-! ### Walks -/
end Go.AX

namespace Go.AX
open Go.Proofs

structure Op5 where
  p : Int
  k : Int
  s : Int
  e : Int
  r : Int
  deriving DecidableEq, Inhabited

def orow (o : Op5) : List PV := [I64 o.p, I64 o.k, I64 o.s, I64 o.e, I64 o.r]
def aheadS (a b : Op5) : Bool := decide (a.e ≥ 0) && decide (a.e < b.s)
def endedS (o : Op5) : Bool := if o.e = -1 then decide (o.r = -1) else decide (o.e > o.s) && decide (o.e ≤ 9999) && decide (o.r ≥ 0) && decide (o.r ≤ 1000000)
def aloneS (o : Op5) : Int := if o.p < 1 ∨ o.p > 1000 ∨ o.s < 0 ∨ o.s > 9999 then 2 else if o.k < 0 ∨ o.k ≥ 64 then 31 else if endedS o then 0 else 7
@[simp] theorem belowR_orow (k : Nat) (ops : List Op5) : belowR k (ops.map orow) := by
  rw [belowR_iff]; intro r hr x hx
  obtain ⟨o, _, rfl⟩ := List.mem_map.1 hr
  simp [orow] at hx
  rcases hx with rfl | rfl | rfl | rfl | rfl <;> trivial
@[simp] theorem belowR_ints (k : Nat) (l : List Int) : belowR k (l.map fun i => [I64 i]) := by
  rw [belowR_iff]; intro r hr x hx
  obtain ⟨o, _, rfl⟩ := List.mem_map.1 hr
  simp at hx; subst hx; trivial

/-! ### Pairs -/
def prow (p : Int × Int) : List PV := [I64 p.1, I64 p.2]
@[simp] theorem belowR_prow (k : Nat) (l : List (Int × Int)) : belowR k (l.map prow) := by
  rw [belowR_iff]; intro r hr x hx
  obtain ⟨o, _, rfl⟩ := List.mem_map.1 hr
  simp [prow] at hx; rcases hx with rfl | rfl <;> trivial
end Go.AX

namespace Go.AX
open Go.Proofs

/-! ### Plain laws -/
def meetsS (a b : Op5) : Bool := decide (a.s = b.s) || decide (a.e = b.s) || decide (a.s = b.e) || (decide (a.e = b.e) && !decide (a.e = -1))
def badS (a o : Op5) : Bool := decide (o.s ≤ a.s) || meetsS a o
def openS (a o : Op5) : Bool := decide (a.p = o.p) && !aheadS a o
def stepE (pre : List Op5) (o : Op5) : Int := if aloneS o ≠ 0 then aloneS o else if pre.any (fun a => badS a o) = true then 32 else if pre.any (fun a => openS a o) = true then 33 else 0
def errAt (ops : List Op5) (i : Nat) : Int := stepE (ops.take i) (ops.getD i default)
def chk (ops : List Op5) : Int × Int :=
  if ops.length > 5000 then (0, 3) else match (List.range ops.length).find? (fun i => decide (errAt ops i ≠ 0)) with
  | some i => ((i : Int), errAt ops i)
  | none => ((ops.length : Int), 0)
/-! ### The document's answer -/
end Go.AX

namespace Go.AX
open Go.Proofs

@[simp] theorem frzR_orow (r : Nat → Nat → PV) (ops : List Op5) : frzR r (ops.map orow) = ops.map orow := by
  rw [frzR_map, List.map_map]; congr 1
@[simp] theorem frzR_prow (r : Nat → Nat → PV) (l : List (Int × Int)) : frzR r (l.map prow) = l.map prow := by
  rw [frzR_map, List.map_map]; congr 1
@[simp] theorem frzR_ints (r : Nat → Nat → PV) (l : List Int) : frzR r (l.map fun i => [I64 i]) = l.map fun i => [I64 i] := by
  rw [frzR_map, List.map_map]; congr 1
@[simp] theorem nwR_prow (l : List (Int × Int)) : nwR (l.map prow) := by
  rw [nwR_iff]; intro r hr
  obtain ⟨o, _, rfl⟩ := List.mem_map.1 hr
  exact ⟨trivial, trivial, trivial⟩
@[simp] theorem nwR_ints (l : List Int) : nwR (l.map fun i => [I64 i]) := by
  rw [nwR_iff]; intro r hr
  obtain ⟨o, _, rfl⟩ := List.mem_map.1 hr
  exact ⟨trivial, trivial⟩

end Go.AX

namespace Go.AX
open Go.Proofs

/-! ### Maps of one kind -/
def mapE {α : Type} (f : α → PV) (l : List (Int × α)) : List (Int × PV) := l.map fun p => (p.1, f p.2)
def lk {α : Type} : List (Int × α) → Int → Option α
  | [], _ => none
  | (k, x) :: r, n => if k = n then some x else lk r n
def pt {α : Type} : List (Int × α) → Int → α → List (Int × α)
  | [], n, y => [(n, y)]
  | (k, x) :: r, n, y => if k = n then (k, y) :: r else (k, x) :: pt r n y
theorem amLook_mapE {α : Type} (f : α → PV) : ∀ (l : List (Int × α)) (k : Int), amLook (mapE f l) k = (lk l k).map f
  | [], _ => rfl
  | (j, x) :: r, k => by
    have := amLook_mapE f r k
    simp only [mapE, List.map_cons, amLook, lk] at this ⊢
    split
    · rfl
    · exact this
theorem amPut_mapE {α : Type} (f : α → PV) : ∀ (l : List (Int × α)) (k : Int) (y : α), amPut (mapE f l) k (f y) = mapE f (pt l k y)
  | [], _, _ => rfl
  | (j, x) :: r, k, y => by
    have := amPut_mapE f r k y
    simp only [mapE, List.map_cons, amPut, pt] at this ⊢
    split
    · rfl
    · rw [this]; rfl
theorem lk_pt {α : Type} : ∀ (l : List (Int × α)) (k : Int) (y : α) (n : Int), lk (pt l k y) n = if k = n then some y else lk l n
  | [], k, y, n => rfl
  | (j, x) :: r, k, y, n => by
    simp only [pt]
    split
    · rename_i h; subst h
      simp only [lk]
      split <;> rfl
    · rename_i h
      simp only [lk, lk_pt r k y n]
      split
      · rename_i h2; subst h2; rw [if_neg (fun e => h e.symm)]
      · rfl
def fI (n : Int) : PV := I64 n
def fO (o : Op5) : PV := .agg (orow o)
@[simp] theorem look_fI (l : List (Int × Int)) (k : Int) : (amLook (mapE fI l) k).getD (I64 0) = I64 ((lk l k).getD 0) := by
  rw [amLook_mapE]; cases lk l k <;> rfl
@[simp] theorem look_fO (l : List (Int × Op5)) (k : Int) : (amLook (mapE fO l) k).getD (.agg [I64 0, I64 0, I64 0, I64 0, I64 0]) = .agg [I64 ((lk l k).getD default).p, I64 ((lk l k).getD default).k, I64 ((lk l k).getD default).s, I64 ((lk l k).getD default).e, I64 ((lk l k).getD default).r] := by
  rw [amLook_mapE]; cases lk l k <;> rfl
@[simp] theorem some_fO (l : List (Int × Op5)) (k : Int) : (amLook (mapE fO l) k).isSome = (lk l k).isSome := by
  rw [amLook_mapE]; cases lk l k <;> rfl
@[simp] theorem put_fI (l : List (Int × Int)) (k n : Int) : amPut (mapE fI l) k (I64 n) = mapE fI (pt l k n) := amPut_mapE fI l k n
@[simp] theorem put_fO (l : List (Int × Op5)) (k a b c d e : Int) : amPut (mapE fO l) k (.agg [I64 a, I64 b, I64 c, I64 d, I64 e]) = mapE fO (pt l k ⟨a, b, c, d, e⟩) := amPut_mapE fO l k ⟨a, b, c, d, e⟩
@[simp] theorem belowE_fI (n : Nat) (l : List (Int × Int)) : belowE n (mapE fI l) := by
  rw [belowE_iff]; intro r hr
  obtain ⟨p, _, rfl⟩ := List.mem_map.1 hr
  trivial
@[simp] theorem belowE_fO (n : Nat) (l : List (Int × Op5)) : belowE n (mapE fO l) := by
  rw [belowE_iff]; intro r hr
  obtain ⟨p, _, rfl⟩ := List.mem_map.1 hr
  exact ⟨trivial, trivial, trivial, trivial, trivial, trivial⟩
@[simp] theorem mapE_nil {α : Type} (f : α → PV) : mapE f [] = [] := rfl

/-! ### What the maps hold -/
end Go.AX
