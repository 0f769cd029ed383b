/-
  Facts on the types of the seat's program (written by facts.py).
  Contracts: the numbers of clauses (count, numbering, the document's answer).
  Contracts: operations (oper, the document's answer).
  Contracts: whether operations may be.
-/
import Derived.Test.YtjhchangnkmedaaGreatAxX
import Derived.Test.YtjhchangnkmedaaGreatRows
namespace Go.AX
open Go.Proofs

@[simp] theorem ld_0 : ldInfo Tryz.prog 0 = some (false, 1) := by kernel_rfl
@[simp] theorem tk_1 : tk Tryz.prog 1 = .func := by kernel_rfl
@[simp] theorem ld_1 : ldInfo Tryz.prog 1 = some (false, 1) := by kernel_rfl
@[simp] theorem tk_2 : tk Tryz.prog 2 = .int := by kernel_rfl
@[simp] theorem ld_2 : ldInfo Tryz.prog 2 = some (false, 1) := by kernel_rfl
@[simp] theorem cv_2 : cvtK Tryz.prog 2 = some .i64 := by kernel_rfl
@[simp] theorem z_2 : zeroL Tryz.prog 2 = some [.lit (.int .i64 0)] := by kernel_rfl
@[simp] theorem tk_3 : tk Tryz.prog 3 = .int := by kernel_rfl
@[simp] theorem ld_3 : ldInfo Tryz.prog 3 = some (false, 1) := by kernel_rfl
@[simp] theorem cv_3 : cvtK Tryz.prog 3 = some .i64 := by kernel_rfl
@[simp] theorem z_3 : zeroL Tryz.prog 3 = some [.lit (.int .i64 0)] := by kernel_rfl
@[simp] theorem tk_4 : tk Tryz.prog 4 = .bool := by kernel_rfl
@[simp] theorem ld_4 : ldInfo Tryz.prog 4 = some (false, 1) := by kernel_rfl
@[simp] theorem z_4 : zeroL Tryz.prog 4 = some [.lit (.bool false)] := by kernel_rfl
@[simp] theorem tk_5 : tk Tryz.prog 5 = .int := by kernel_rfl
@[simp] theorem ld_5 : ldInfo Tryz.prog 5 = some (false, 1) := by kernel_rfl
@[simp] theorem cv_5 : cvtK Tryz.prog 5 = some .u8 := by kernel_rfl
@[simp] theorem z_5 : zeroL Tryz.prog 5 = some [.lit (.int .u8 0)] := by kernel_rfl
@[simp] theorem tk_6 : tk Tryz.prog 6 = .int := by kernel_rfl
@[simp] theorem ld_6 : ldInfo Tryz.prog 6 = some (false, 1) := by kernel_rfl
@[simp] theorem cv_6 : cvtK Tryz.prog 6 = some .u8 := by kernel_rfl
@[simp] theorem z_6 : zeroL Tryz.prog 6 = some [.lit (.int .u8 0)] := by kernel_rfl
@[simp] theorem ld_7 : ldInfo Tryz.prog 7 = some (true, 4) := by kernel_rfl
@[simp] theorem z_7 : zeroL Tryz.prog 7 = some [.lit (.int .i64 0), .lit (.int .i64 0), .lit (.bool false), .lit (.int .u8 0)] := by kernel_rfl
@[simp] theorem zv_7 : zeroV Tryz.prog 7 = some [.lit (.int .i64 0), .lit (.int .i64 0), .lit (.bool false), .lit (.int .u8 0)] := by kernel_rfl
@[simp] theorem bi_7 : bInfo Tryz.prog 7 = some [(0, 1), (1, 1), (2, 1), (3, 1)] := by kernel_rfl
@[simp] theorem ld_8 : ldInfo Tryz.prog 8 = some (true, 4) := by kernel_rfl
@[simp] theorem z_8 : zeroL Tryz.prog 8 = some [.lit (.int .i64 0), .lit (.int .i64 0), .lit (.bool false), .lit (.int .u8 0)] := by kernel_rfl
@[simp] theorem zv_8 : zeroV Tryz.prog 8 = some [.lit (.int .i64 0), .lit (.int .i64 0), .lit (.bool false), .lit (.int .u8 0)] := by kernel_rfl
@[simp] theorem bi_8 : bInfo Tryz.prog 8 = some [(0, 1), (1, 1), (2, 1), (3, 1)] := by kernel_rfl
@[simp] theorem tk_9 : tk Tryz.prog 9 = .string := by kernel_rfl
@[simp] theorem ld_9 : ldInfo Tryz.prog 9 = some (false, 1) := by kernel_rfl
@[simp] theorem z_9 : zeroL Tryz.prog 9 = some [.lit (.string ByteArray.empty)] := by kernel_rfl
@[simp] theorem tk_10 : tk Tryz.prog 10 = .string := by kernel_rfl
@[simp] theorem ld_10 : ldInfo Tryz.prog 10 = some (false, 1) := by kernel_rfl
@[simp] theorem z_10 : zeroL Tryz.prog 10 = some [.lit (.string ByteArray.empty)] := by kernel_rfl
@[simp] theorem tk_11 : tk Tryz.prog 11 = .string := by kernel_rfl
@[simp] theorem ld_11 : ldInfo Tryz.prog 11 = some (false, 1) := by kernel_rfl
@[simp] theorem z_11 : zeroL Tryz.prog 11 = some [.lit (.string ByteArray.empty)] := by kernel_rfl
@[simp] theorem tk_12 : tk Tryz.prog 12 = .int := by kernel_rfl
@[simp] theorem ld_12 : ldInfo Tryz.prog 12 = some (false, 1) := by kernel_rfl
@[simp] theorem cv_12 : cvtK Tryz.prog 12 = some .u64 := by kernel_rfl
@[simp] theorem z_12 : zeroL Tryz.prog 12 = some [.lit (.int .u64 0)] := by kernel_rfl
@[simp] theorem ld_13 : ldInfo Tryz.prog 13 = some (true, 2) := by kernel_rfl
@[simp] theorem z_13 : zeroL Tryz.prog 13 = some [.lit (.string ByteArray.empty), .lit (.int .u64 0)] := by kernel_rfl
@[simp] theorem zv_13 : zeroV Tryz.prog 13 = some [.lit (.string ByteArray.empty), .lit (.int .u64 0)] := by kernel_rfl
@[simp] theorem bi_13 : bInfo Tryz.prog 13 = some [(0, 1), (1, 1)] := by kernel_rfl
@[simp] theorem ld_14 : ldInfo Tryz.prog 14 = some (true, 2) := by kernel_rfl
@[simp] theorem z_14 : zeroL Tryz.prog 14 = some [.lit (.string ByteArray.empty), .lit (.int .u64 0)] := by kernel_rfl
@[simp] theorem zv_14 : zeroV Tryz.prog 14 = some [.lit (.string ByteArray.empty), .lit (.int .u64 0)] := by kernel_rfl
@[simp] theorem bi_14 : bInfo Tryz.prog 14 = some [(0, 1), (1, 1)] := by kernel_rfl
@[simp] theorem tk_15 : tk Tryz.prog 15 = .ptr := by kernel_rfl
@[simp] theorem ld_15 : ldInfo Tryz.prog 15 = some (false, 1) := by kernel_rfl
@[simp] theorem z_15 : zeroL Tryz.prog 15 = some [.lit (.pointer none)] := by kernel_rfl
@[simp] theorem tk_16 : tk Tryz.prog 16 = .ptr := by kernel_rfl
@[simp] theorem ld_16 : ldInfo Tryz.prog 16 = some (false, 1) := by kernel_rfl
@[simp] theorem z_16 : zeroL Tryz.prog 16 = some [.lit (.pointer none)] := by kernel_rfl
@[simp] theorem tk_17 : tk Tryz.prog 17 = .ptr := by kernel_rfl
@[simp] theorem ld_17 : ldInfo Tryz.prog 17 = some (false, 1) := by kernel_rfl
@[simp] theorem z_17 : zeroL Tryz.prog 17 = some [.lit (.pointer none)] := by kernel_rfl
@[simp] theorem ld_18 : ldInfo Tryz.prog 18 = some (true, 1) := by kernel_rfl
@[simp] theorem z_18 : zeroL Tryz.prog 18 = some [.lit (.pointer none)] := by kernel_rfl
@[simp] theorem zv_18 : zeroV Tryz.prog 18 = some [.lit (.pointer none)] := by kernel_rfl
@[simp] theorem bi_18 : bInfo Tryz.prog 18 = some [(0, 1)] := by kernel_rfl
@[simp] theorem ld_19 : ldInfo Tryz.prog 19 = some (true, 1) := by kernel_rfl
@[simp] theorem z_19 : zeroL Tryz.prog 19 = some [.lit (.pointer none)] := by kernel_rfl
@[simp] theorem zv_19 : zeroV Tryz.prog 19 = some [.lit (.pointer none)] := by kernel_rfl
@[simp] theorem bi_19 : bInfo Tryz.prog 19 = some [(0, 1)] := by kernel_rfl
@[simp] theorem ld_20 : ldInfo Tryz.prog 20 = some (false, 1) := by kernel_rfl
@[simp] theorem tk_21 : tk Tryz.prog 21 = .int := by kernel_rfl
@[simp] theorem ld_21 : ldInfo Tryz.prog 21 = some (false, 1) := by kernel_rfl
@[simp] theorem cv_21 : cvtK Tryz.prog 21 = some .i32 := by kernel_rfl
@[simp] theorem z_21 : zeroL Tryz.prog 21 = some [.lit (.int .i32 0)] := by kernel_rfl
@[simp] theorem tk_22 : tk Tryz.prog 22 = .slice := by kernel_rfl
@[simp] theorem ld_22 : ldInfo Tryz.prog 22 = some (false, 1) := by kernel_rfl
@[simp] theorem sl_22 : slSize Tryz.prog 22 = some 1 := by kernel_rfl
@[simp] theorem si_22 : slInfo Tryz.prog 22 = some (1, 24) := by kernel_rfl
@[simp] theorem z_22 : zeroL Tryz.prog 22 = some [.lit (.slice none 0 0)] := by kernel_rfl
@[simp] theorem sz_22 : slZero Tryz.prog 22 = some [.lit (.slice none 0 0)] := by kernel_rfl
@[simp] theorem tk_23 : tk Tryz.prog 23 = .slice := by kernel_rfl
@[simp] theorem ld_23 : ldInfo Tryz.prog 23 = some (false, 1) := by kernel_rfl
@[simp] theorem sl_23 : slSize Tryz.prog 23 = some 1 := by kernel_rfl
@[simp] theorem si_23 : slInfo Tryz.prog 23 = some (1, 8) := by kernel_rfl
@[simp] theorem z_23 : zeroL Tryz.prog 23 = some [.lit (.slice none 0 0)] := by kernel_rfl
@[simp] theorem sz_23 : slZero Tryz.prog 23 = some [.lit (.int .i64 0)] := by kernel_rfl
@[simp] theorem tk_24 : tk Tryz.prog 24 = .func := by kernel_rfl
@[simp] theorem ld_24 : ldInfo Tryz.prog 24 = some (false, 1) := by kernel_rfl
@[simp] theorem tk_25 : tk Tryz.prog 25 = .func := by kernel_rfl
@[simp] theorem ld_25 : ldInfo Tryz.prog 25 = some (false, 1) := by kernel_rfl
@[simp] theorem tk_26 : tk Tryz.prog 26 = .ptr := by kernel_rfl
@[simp] theorem ld_26 : ldInfo Tryz.prog 26 = some (false, 1) := by kernel_rfl
@[simp] theorem z_26 : zeroL Tryz.prog 26 = some [.lit (.pointer none)] := by kernel_rfl
@[simp] theorem tk_27 : tk Tryz.prog 27 = .ptr := by kernel_rfl
@[simp] theorem ld_27 : ldInfo Tryz.prog 27 = some (false, 1) := by kernel_rfl
@[simp] theorem z_27 : zeroL Tryz.prog 27 = some [.lit (.pointer none)] := by kernel_rfl
@[simp] theorem tk_28 : tk Tryz.prog 28 = .slice := by kernel_rfl
@[simp] theorem ld_28 : ldInfo Tryz.prog 28 = some (false, 1) := by kernel_rfl
@[simp] theorem sl_28 : slSize Tryz.prog 28 = some 5 := by kernel_rfl
@[simp] theorem si_28 : slInfo Tryz.prog 28 = some (5, 48) := by kernel_rfl
@[simp] theorem z_28 : zeroL Tryz.prog 28 = some [.lit (.slice none 0 0)] := by kernel_rfl
@[simp] theorem sz_28 : slZero Tryz.prog 28 = some [.lit (.int .i64 0), .lit (.int .i64 0), .lit (.slice none 0 0), .lit (.bool false), .lit (.bool false)] := by kernel_rfl
@[simp] theorem ld_29 : ldInfo Tryz.prog 29 = some (true, 2) := by kernel_rfl
@[simp] theorem z_29 : zeroL Tryz.prog 29 = some [.lit (.slice none 0 0), .lit (.int .i64 0)] := by kernel_rfl
@[simp] theorem zv_29 : zeroV Tryz.prog 29 = some [.lit (.slice none 0 0), .lit (.int .i64 0)] := by kernel_rfl
@[simp] theorem bi_29 : bInfo Tryz.prog 29 = some [(0, 1), (1, 1)] := by kernel_rfl
@[simp] theorem ld_30 : ldInfo Tryz.prog 30 = some (true, 2) := by kernel_rfl
@[simp] theorem z_30 : zeroL Tryz.prog 30 = some [.lit (.slice none 0 0), .lit (.int .i64 0)] := by kernel_rfl
@[simp] theorem zv_30 : zeroV Tryz.prog 30 = some [.lit (.slice none 0 0), .lit (.int .i64 0)] := by kernel_rfl
@[simp] theorem bi_30 : bInfo Tryz.prog 30 = some [(0, 1), (1, 1)] := by kernel_rfl
@[simp] theorem tk_31 : tk Tryz.prog 31 = .slice := by kernel_rfl
@[simp] theorem ld_31 : ldInfo Tryz.prog 31 = some (false, 1) := by kernel_rfl
@[simp] theorem sl_31 : slSize Tryz.prog 31 = some 3 := by kernel_rfl
@[simp] theorem si_31 : slInfo Tryz.prog 31 = some (3, 24) := by kernel_rfl
@[simp] theorem z_31 : zeroL Tryz.prog 31 = some [.lit (.slice none 0 0)] := by kernel_rfl
@[simp] theorem sz_31 : slZero Tryz.prog 31 = some [.lit (.int .i64 0), .lit (.int .i64 0), .lit (.int .i64 0)] := by kernel_rfl
@[simp] theorem ld_32 : ldInfo Tryz.prog 32 = some (true, 3) := by kernel_rfl
@[simp] theorem z_32 : zeroL Tryz.prog 32 = some [.lit (.int .i64 0), .lit (.slice none 0 0), .lit (.int .i64 0)] := by kernel_rfl
@[simp] theorem zv_32 : zeroV Tryz.prog 32 = some [.lit (.int .i64 0), .lit (.slice none 0 0), .lit (.int .i64 0)] := by kernel_rfl
@[simp] theorem bi_32 : bInfo Tryz.prog 32 = some [(0, 1), (1, 1), (2, 1)] := by kernel_rfl
@[simp] theorem ld_33 : ldInfo Tryz.prog 33 = some (true, 3) := by kernel_rfl
@[simp] theorem z_33 : zeroL Tryz.prog 33 = some [.lit (.int .i64 0), .lit (.slice none 0 0), .lit (.int .i64 0)] := by kernel_rfl
@[simp] theorem zv_33 : zeroV Tryz.prog 33 = some [.lit (.int .i64 0), .lit (.slice none 0 0), .lit (.int .i64 0)] := by kernel_rfl
@[simp] theorem bi_33 : bInfo Tryz.prog 33 = some [(0, 1), (1, 1), (2, 1)] := by kernel_rfl
@[simp] theorem ld_34 : ldInfo Tryz.prog 34 = some (true, 8) := by kernel_rfl
@[simp] theorem z_34 : zeroL Tryz.prog 34 = some [.lit (.pointer none), .lit (.pointer none), .lit (.slice none 0 0), .lit (.int .i64 0), .lit (.int .i64 0), .lit (.slice none 0 0), .lit (.int .i64 0), .lit (.int .i64 0)] := by kernel_rfl
@[simp] theorem zv_34 : zeroV Tryz.prog 34 = some [.lit (.pointer none), .lit (.pointer none), .lit (.slice none 0 0), .lit (.int .i64 0), .lit (.int .i64 0), .lit (.slice none 0 0), .lit (.int .i64 0), .lit (.int .i64 0)] := by kernel_rfl
@[simp] theorem bi_34 : bInfo Tryz.prog 34 = some [(0, 1), (1, 1), (2, 2), (4, 3), (7, 1)] := by kernel_rfl
@[simp] theorem ld_35 : ldInfo Tryz.prog 35 = some (true, 8) := by kernel_rfl
@[simp] theorem z_35 : zeroL Tryz.prog 35 = some [.lit (.pointer none), .lit (.pointer none), .lit (.slice none 0 0), .lit (.int .i64 0), .lit (.int .i64 0), .lit (.slice none 0 0), .lit (.int .i64 0), .lit (.int .i64 0)] := by kernel_rfl
@[simp] theorem zv_35 : zeroV Tryz.prog 35 = some [.lit (.pointer none), .lit (.pointer none), .lit (.slice none 0 0), .lit (.int .i64 0), .lit (.int .i64 0), .lit (.slice none 0 0), .lit (.int .i64 0), .lit (.int .i64 0)] := by kernel_rfl
@[simp] theorem bi_35 : bInfo Tryz.prog 35 = some [(0, 1), (1, 1), (2, 2), (4, 3), (7, 1)] := by kernel_rfl
@[simp] theorem ld_36 : ldInfo Tryz.prog 36 = some (false, 1) := by kernel_rfl
@[simp] theorem tk_37 : tk Tryz.prog 37 = .func := by kernel_rfl
@[simp] theorem ld_37 : ldInfo Tryz.prog 37 = some (false, 1) := by kernel_rfl
@[simp] theorem tk_38 : tk Tryz.prog 38 = .func := by kernel_rfl
@[simp] theorem ld_38 : ldInfo Tryz.prog 38 = some (false, 1) := by kernel_rfl
@[simp] theorem tk_39 : tk Tryz.prog 39 = .func := by kernel_rfl
@[simp] theorem ld_39 : ldInfo Tryz.prog 39 = some (false, 1) := by kernel_rfl
@[simp] theorem tk_40 : tk Tryz.prog 40 = .func := by kernel_rfl
@[simp] theorem ld_40 : ldInfo Tryz.prog 40 = some (false, 1) := by kernel_rfl
@[simp] theorem tk_41 : tk Tryz.prog 41 = .func := by kernel_rfl
@[simp] theorem ld_41 : ldInfo Tryz.prog 41 = some (false, 1) := by kernel_rfl
@[simp] theorem tk_42 : tk Tryz.prog 42 = .func := by kernel_rfl
@[simp] theorem ld_42 : ldInfo Tryz.prog 42 = some (false, 1) := by kernel_rfl
@[simp] theorem tk_43 : tk Tryz.prog 43 = .func := by kernel_rfl
@[simp] theorem ld_43 : ldInfo Tryz.prog 43 = some (false, 1) := by kernel_rfl
@[simp] theorem tk_44 : tk Tryz.prog 44 = .func := by kernel_rfl
@[simp] theorem ld_44 : ldInfo Tryz.prog 44 = some (false, 1) := by kernel_rfl
@[simp] theorem tk_45 : tk Tryz.prog 45 = .func := by kernel_rfl
@[simp] theorem ld_45 : ldInfo Tryz.prog 45 = some (false, 1) := by kernel_rfl
@[simp] theorem tk_46 : tk Tryz.prog 46 = .func := by kernel_rfl
@[simp] theorem ld_46 : ldInfo Tryz.prog 46 = some (false, 1) := by kernel_rfl
@[simp] theorem tk_47 : tk Tryz.prog 47 = .slice := by kernel_rfl
@[simp] theorem ld_47 : ldInfo Tryz.prog 47 = some (false, 1) := by kernel_rfl
@[simp] theorem sl_47 : slSize Tryz.prog 47 = some 4 := by kernel_rfl
@[simp] theorem si_47 : slInfo Tryz.prog 47 = some (4, 32) := by kernel_rfl
@[simp] theorem z_47 : zeroL Tryz.prog 47 = some [.lit (.slice none 0 0)] := by kernel_rfl
@[simp] theorem sz_47 : slZero Tryz.prog 47 = some [.lit (.int .i64 0), .lit (.int .i64 0), .lit (.int .i64 0), .lit (.bool false)] := by kernel_rfl
@[simp] theorem tk_48 : tk Tryz.prog 48 = .func := by kernel_rfl
@[simp] theorem ld_48 : ldInfo Tryz.prog 48 = some (false, 1) := by kernel_rfl
@[simp] theorem tk_49 : tk Tryz.prog 49 = .func := by kernel_rfl
@[simp] theorem ld_49 : ldInfo Tryz.prog 49 = some (false, 1) := by kernel_rfl
@[simp] theorem ld_50 : ldInfo Tryz.prog 50 = some (true, 4) := by kernel_rfl
@[simp] theorem z_50 : zeroL Tryz.prog 50 = some [.lit (.int .i64 0), .lit (.int .i64 0), .lit (.int .i64 0), .lit (.bool false)] := by kernel_rfl
@[simp] theorem zv_50 : zeroV Tryz.prog 50 = some [.lit (.int .i64 0), .lit (.int .i64 0), .lit (.int .i64 0), .lit (.bool false)] := by kernel_rfl
@[simp] theorem bi_50 : bInfo Tryz.prog 50 = some [(0, 1), (1, 1), (2, 1), (3, 1)] := by kernel_rfl
@[simp] theorem ld_51 : ldInfo Tryz.prog 51 = some (true, 4) := by kernel_rfl
@[simp] theorem z_51 : zeroL Tryz.prog 51 = some [.lit (.int .i64 0), .lit (.int .i64 0), .lit (.int .i64 0), .lit (.bool false)] := by kernel_rfl
@[simp] theorem zv_51 : zeroV Tryz.prog 51 = some [.lit (.int .i64 0), .lit (.int .i64 0), .lit (.int .i64 0), .lit (.bool false)] := by kernel_rfl
@[simp] theorem bi_51 : bInfo Tryz.prog 51 = some [(0, 1), (1, 1), (2, 1), (3, 1)] := by kernel_rfl
@[simp] theorem tk_52 : tk Tryz.prog 52 = .func := by kernel_rfl
@[simp] theorem ld_52 : ldInfo Tryz.prog 52 = some (false, 1) := by kernel_rfl
@[simp] theorem tk_53 : tk Tryz.prog 53 = .int := by kernel_rfl
@[simp] theorem ld_53 : ldInfo Tryz.prog 53 = some (false, 1) := by kernel_rfl
@[simp] theorem cv_53 : cvtK Tryz.prog 53 = some .i64 := by kernel_rfl
@[simp] theorem z_53 : zeroL Tryz.prog 53 = some [.lit (.int .i64 0)] := by kernel_rfl
@[simp] theorem ld_54 : ldInfo Tryz.prog 54 = some (false, 1) := by kernel_rfl
@[simp] theorem tk_55 : tk Tryz.prog 55 = .func := by kernel_rfl
@[simp] theorem ld_55 : ldInfo Tryz.prog 55 = some (false, 1) := by kernel_rfl
@[simp] theorem ld_56 : ldInfo Tryz.prog 56 = some (false, 1) := by kernel_rfl
@[simp] theorem tk_57 : tk Tryz.prog 57 = .func := by kernel_rfl
@[simp] theorem ld_57 : ldInfo Tryz.prog 57 = some (false, 1) := by kernel_rfl
@[simp] theorem ld_58 : ldInfo Tryz.prog 58 = some (false, 1) := by kernel_rfl
@[simp] theorem tk_59 : tk Tryz.prog 59 = .func := by kernel_rfl
@[simp] theorem ld_59 : ldInfo Tryz.prog 59 = some (false, 1) := by kernel_rfl
@[simp] theorem ld_60 : ldInfo Tryz.prog 60 = some (false, 1) := by kernel_rfl
@[simp] theorem tk_61 : tk Tryz.prog 61 = .func := by kernel_rfl
@[simp] theorem ld_61 : ldInfo Tryz.prog 61 = some (false, 1) := by kernel_rfl
@[simp] theorem tk_62 : tk Tryz.prog 62 = .func := by kernel_rfl
@[simp] theorem ld_62 : ldInfo Tryz.prog 62 = some (false, 1) := by kernel_rfl
@[simp] theorem tk_63 : tk Tryz.prog 63 = .func := by kernel_rfl
@[simp] theorem ld_63 : ldInfo Tryz.prog 63 = some (false, 1) := by kernel_rfl
@[simp] theorem tk_64 : tk Tryz.prog 64 = .func := by kernel_rfl
@[simp] theorem ld_64 : ldInfo Tryz.prog 64 = some (false, 1) := by kernel_rfl
@[simp] theorem tk_65 : tk Tryz.prog 65 = .func := by kernel_rfl
@[simp] theorem ld_65 : ldInfo Tryz.prog 65 = some (false, 1) := by kernel_rfl
@[simp] theorem tk_66 : tk Tryz.prog 66 = .map := by kernel_rfl
@[simp] theorem ld_66 : ldInfo Tryz.prog 66 = some (false, 1) := by kernel_rfl
@[simp] theorem z_66 : zeroL Tryz.prog 66 = some [.lit (.map none)] := by kernel_rfl
@[simp] theorem mk_66 : mpKey Tryz.prog 66 = true := by kernel_rfl
@[simp] theorem mp_66 : mpInfo Tryz.prog 66 = some (.lit (.int .i64 0)) := by kernel_rfl
@[simp] theorem tk_67 : tk Tryz.prog 67 = .func := by kernel_rfl
@[simp] theorem ld_67 : ldInfo Tryz.prog 67 = some (false, 1) := by kernel_rfl
@[simp] theorem ld_68 : ldInfo Tryz.prog 68 = some (false, 1) := by kernel_rfl
@[simp] theorem tk_69 : tk Tryz.prog 69 = .func := by kernel_rfl
@[simp] theorem ld_69 : ldInfo Tryz.prog 69 = some (false, 1) := by kernel_rfl
@[simp] theorem ld_70 : ldInfo Tryz.prog 70 = some (false, 1) := by kernel_rfl
@[simp] theorem tk_71 : tk Tryz.prog 71 = .func := by kernel_rfl
@[simp] theorem ld_71 : ldInfo Tryz.prog 71 = some (false, 1) := by kernel_rfl
@[simp] theorem ld_72 : ldInfo Tryz.prog 72 = some (true, 5) := by kernel_rfl
@[simp] theorem z_72 : zeroL Tryz.prog 72 = some [.lit (.int .i64 0), .lit (.int .i64 0), .lit (.slice none 0 0), .lit (.bool false), .lit (.bool false)] := by kernel_rfl
@[simp] theorem zv_72 : zeroV Tryz.prog 72 = some [.lit (.int .i64 0), .lit (.int .i64 0), .lit (.slice none 0 0), .lit (.bool false), .lit (.bool false)] := by kernel_rfl
@[simp] theorem bi_72 : bInfo Tryz.prog 72 = some [(0, 1), (1, 1), (2, 1), (3, 1), (4, 1)] := by kernel_rfl
@[simp] theorem ld_73 : ldInfo Tryz.prog 73 = some (true, 5) := by kernel_rfl
@[simp] theorem z_73 : zeroL Tryz.prog 73 = some [.lit (.int .i64 0), .lit (.int .i64 0), .lit (.slice none 0 0), .lit (.bool false), .lit (.bool false)] := by kernel_rfl
@[simp] theorem zv_73 : zeroV Tryz.prog 73 = some [.lit (.int .i64 0), .lit (.int .i64 0), .lit (.slice none 0 0), .lit (.bool false), .lit (.bool false)] := by kernel_rfl
@[simp] theorem bi_73 : bInfo Tryz.prog 73 = some [(0, 1), (1, 1), (2, 1), (3, 1), (4, 1)] := by kernel_rfl
@[simp] theorem tk_74 : tk Tryz.prog 74 = .func := by kernel_rfl
@[simp] theorem ld_74 : ldInfo Tryz.prog 74 = some (false, 1) := by kernel_rfl
@[simp] theorem ld_75 : ldInfo Tryz.prog 75 = some (true, 2) := by kernel_rfl
@[simp] theorem z_75 : zeroL Tryz.prog 75 = some [.lit (.slice none 0 0), .lit (.map none)] := by kernel_rfl
@[simp] theorem zv_75 : zeroV Tryz.prog 75 = some [.lit (.slice none 0 0), .lit (.map none)] := by kernel_rfl
@[simp] theorem bi_75 : bInfo Tryz.prog 75 = some [(0, 1), (1, 1)] := by kernel_rfl
@[simp] theorem ld_76 : ldInfo Tryz.prog 76 = some (true, 2) := by kernel_rfl
@[simp] theorem z_76 : zeroL Tryz.prog 76 = some [.lit (.slice none 0 0), .lit (.map none)] := by kernel_rfl
@[simp] theorem zv_76 : zeroV Tryz.prog 76 = some [.lit (.slice none 0 0), .lit (.map none)] := by kernel_rfl
@[simp] theorem bi_76 : bInfo Tryz.prog 76 = some [(0, 1), (1, 1)] := by kernel_rfl
@[simp] theorem tk_77 : tk Tryz.prog 77 = .func := by kernel_rfl
@[simp] theorem ld_77 : ldInfo Tryz.prog 77 = some (false, 1) := by kernel_rfl
@[simp] theorem tk_78 : tk Tryz.prog 78 = .func := by kernel_rfl
@[simp] theorem ld_78 : ldInfo Tryz.prog 78 = some (false, 1) := by kernel_rfl
@[simp] theorem ld_79 : ldInfo Tryz.prog 79 = some (true, 2) := by kernel_rfl
@[simp] theorem z_79 : zeroL Tryz.prog 79 = some [.lit (.int .i64 0), .lit (.slice none 0 0)] := by kernel_rfl
@[simp] theorem zv_79 : zeroV Tryz.prog 79 = some [.lit (.int .i64 0), .lit (.slice none 0 0)] := by kernel_rfl
@[simp] theorem bi_79 : bInfo Tryz.prog 79 = some [(0, 1), (1, 1)] := by kernel_rfl
@[simp] theorem ld_80 : ldInfo Tryz.prog 80 = some (true, 2) := by kernel_rfl
@[simp] theorem z_80 : zeroL Tryz.prog 80 = some [.lit (.int .i64 0), .lit (.slice none 0 0)] := by kernel_rfl
@[simp] theorem zv_80 : zeroV Tryz.prog 80 = some [.lit (.int .i64 0), .lit (.slice none 0 0)] := by kernel_rfl
@[simp] theorem bi_80 : bInfo Tryz.prog 80 = some [(0, 1), (1, 1)] := by kernel_rfl
@[simp] theorem tk_81 : tk Tryz.prog 81 = .func := by kernel_rfl
@[simp] theorem ld_81 : ldInfo Tryz.prog 81 = some (false, 1) := by kernel_rfl
@[simp] theorem tk_82 : tk Tryz.prog 82 = .func := by kernel_rfl
@[simp] theorem ld_82 : ldInfo Tryz.prog 82 = some (false, 1) := by kernel_rfl
@[simp] theorem tk_83 : tk Tryz.prog 83 = .func := by kernel_rfl
@[simp] theorem ld_83 : ldInfo Tryz.prog 83 = some (false, 1) := by kernel_rfl
@[simp] theorem tk_84 : tk Tryz.prog 84 = .func := by kernel_rfl
@[simp] theorem ld_84 : ldInfo Tryz.prog 84 = some (false, 1) := by kernel_rfl
@[simp] theorem tk_85 : tk Tryz.prog 85 = .func := by kernel_rfl
@[simp] theorem ld_85 : ldInfo Tryz.prog 85 = some (false, 1) := by kernel_rfl
@[simp] theorem tk_86 : tk Tryz.prog 86 = .func := by kernel_rfl
@[simp] theorem ld_86 : ldInfo Tryz.prog 86 = some (false, 1) := by kernel_rfl
@[simp] theorem tk_87 : tk Tryz.prog 87 = .slice := by kernel_rfl
@[simp] theorem ld_87 : ldInfo Tryz.prog 87 = some (false, 1) := by kernel_rfl
@[simp] theorem sl_87 : slSize Tryz.prog 87 = some 4 := by kernel_rfl
@[simp] theorem si_87 : slInfo Tryz.prog 87 = some (4, 32) := by kernel_rfl
@[simp] theorem z_87 : zeroL Tryz.prog 87 = some [.lit (.slice none 0 0)] := by kernel_rfl
@[simp] theorem sz_87 : slZero Tryz.prog 87 = some [.lit (.int .i64 0), .lit (.int .i64 0), .lit (.int .i64 0), .lit (.int .i64 0)] := by kernel_rfl
@[simp] theorem ld_88 : ldInfo Tryz.prog 88 = some (true, 4) := by kernel_rfl
@[simp] theorem z_88 : zeroL Tryz.prog 88 = some [.lit (.slice none 0 0), .lit (.slice none 0 0), .lit (.slice none 0 0), .lit (.bool false)] := by kernel_rfl
@[simp] theorem zv_88 : zeroV Tryz.prog 88 = some [.lit (.slice none 0 0), .lit (.slice none 0 0), .lit (.slice none 0 0), .lit (.bool false)] := by kernel_rfl
@[simp] theorem bi_88 : bInfo Tryz.prog 88 = some [(0, 1), (1, 1), (2, 1), (3, 1)] := by kernel_rfl
@[simp] theorem ld_89 : ldInfo Tryz.prog 89 = some (true, 4) := by kernel_rfl
@[simp] theorem z_89 : zeroL Tryz.prog 89 = some [.lit (.slice none 0 0), .lit (.slice none 0 0), .lit (.slice none 0 0), .lit (.bool false)] := by kernel_rfl
@[simp] theorem zv_89 : zeroV Tryz.prog 89 = some [.lit (.slice none 0 0), .lit (.slice none 0 0), .lit (.slice none 0 0), .lit (.bool false)] := by kernel_rfl
@[simp] theorem bi_89 : bInfo Tryz.prog 89 = some [(0, 1), (1, 1), (2, 1), (3, 1)] := by kernel_rfl
@[simp] theorem tk_90 : tk Tryz.prog 90 = .func := by kernel_rfl
@[simp] theorem ld_90 : ldInfo Tryz.prog 90 = some (false, 1) := by kernel_rfl
@[simp] theorem tk_91 : tk Tryz.prog 91 = .func := by kernel_rfl
@[simp] theorem ld_91 : ldInfo Tryz.prog 91 = some (false, 1) := by kernel_rfl
@[simp] theorem tk_92 : tk Tryz.prog 92 = .ptr := by kernel_rfl
@[simp] theorem ld_92 : ldInfo Tryz.prog 92 = some (false, 1) := by kernel_rfl
@[simp] theorem z_92 : zeroL Tryz.prog 92 = some [.lit (.pointer none)] := by kernel_rfl
@[simp] theorem tk_93 : tk Tryz.prog 93 = .func := by kernel_rfl
@[simp] theorem ld_93 : ldInfo Tryz.prog 93 = some (false, 1) := by kernel_rfl
@[simp] theorem ld_94 : ldInfo Tryz.prog 94 = some (false, 1) := by kernel_rfl
@[simp] theorem tk_95 : tk Tryz.prog 95 = .func := by kernel_rfl
@[simp] theorem ld_95 : ldInfo Tryz.prog 95 = some (false, 1) := by kernel_rfl
@[simp] theorem tk_96 : tk Tryz.prog 96 = .flat 3 := by kernel_rfl
@[simp] theorem ld_96 : ldInfo Tryz.prog 96 = some (true, 3) := by kernel_rfl
@[simp] theorem z_96 : zeroL Tryz.prog 96 = some [.lit (.int .i64 0), .lit (.int .i64 0), .lit (.int .i64 0)] := by kernel_rfl
@[simp] theorem zv_96 : zeroV Tryz.prog 96 = some [.lit (.int .i64 0), .lit (.int .i64 0), .lit (.int .i64 0)] := by kernel_rfl
@[simp] theorem bi_96 : bInfo Tryz.prog 96 = some [(0, 1), (1, 1), (2, 1)] := by kernel_rfl
@[simp] theorem tk_97 : tk Tryz.prog 97 = .flat 3 := by kernel_rfl
@[simp] theorem ld_97 : ldInfo Tryz.prog 97 = some (true, 3) := by kernel_rfl
@[simp] theorem z_97 : zeroL Tryz.prog 97 = some [.lit (.int .i64 0), .lit (.int .i64 0), .lit (.int .i64 0)] := by kernel_rfl
@[simp] theorem zv_97 : zeroV Tryz.prog 97 = some [.lit (.int .i64 0), .lit (.int .i64 0), .lit (.int .i64 0)] := by kernel_rfl
@[simp] theorem bi_97 : bInfo Tryz.prog 97 = some [(0, 1), (1, 1), (2, 1)] := by kernel_rfl
@[simp] theorem tk_98 : tk Tryz.prog 98 = .func := by kernel_rfl
@[simp] theorem ld_98 : ldInfo Tryz.prog 98 = some (false, 1) := by kernel_rfl
@[simp] theorem tk_99 : tk Tryz.prog 99 = .func := by kernel_rfl
@[simp] theorem ld_99 : ldInfo Tryz.prog 99 = some (false, 1) := by kernel_rfl
@[simp] theorem tk_100 : tk Tryz.prog 100 = .func := by kernel_rfl
@[simp] theorem ld_100 : ldInfo Tryz.prog 100 = some (false, 1) := by kernel_rfl
@[simp] theorem tk_101 : tk Tryz.prog 101 = .func := by kernel_rfl
@[simp] theorem ld_101 : ldInfo Tryz.prog 101 = some (false, 1) := by kernel_rfl
@[simp] theorem tk_102 : tk Tryz.prog 102 = .flat 4 := by kernel_rfl
@[simp] theorem ld_102 : ldInfo Tryz.prog 102 = some (true, 4) := by kernel_rfl
@[simp] theorem z_102 : zeroL Tryz.prog 102 = some [.lit (.int .i64 0), .lit (.int .i64 0), .lit (.int .i64 0), .lit (.int .i64 0)] := by kernel_rfl
@[simp] theorem zv_102 : zeroV Tryz.prog 102 = some [.lit (.int .i64 0), .lit (.int .i64 0), .lit (.int .i64 0), .lit (.int .i64 0)] := by kernel_rfl
@[simp] theorem bi_102 : bInfo Tryz.prog 102 = some [(0, 1), (1, 1), (2, 1), (3, 1)] := by kernel_rfl
@[simp] theorem tk_103 : tk Tryz.prog 103 = .flat 4 := by kernel_rfl
@[simp] theorem ld_103 : ldInfo Tryz.prog 103 = some (true, 4) := by kernel_rfl
@[simp] theorem z_103 : zeroL Tryz.prog 103 = some [.lit (.int .i64 0), .lit (.int .i64 0), .lit (.int .i64 0), .lit (.int .i64 0)] := by kernel_rfl
@[simp] theorem zv_103 : zeroV Tryz.prog 103 = some [.lit (.int .i64 0), .lit (.int .i64 0), .lit (.int .i64 0), .lit (.int .i64 0)] := by kernel_rfl
@[simp] theorem bi_103 : bInfo Tryz.prog 103 = some [(0, 1), (1, 1), (2, 1), (3, 1)] := by kernel_rfl
@[simp] theorem ld_104 : ldInfo Tryz.prog 104 = some (false, 1) := by kernel_rfl
@[simp] theorem tk_105 : tk Tryz.prog 105 = .func := by kernel_rfl
@[simp] theorem ld_105 : ldInfo Tryz.prog 105 = some (false, 1) := by kernel_rfl
@[simp] theorem tk_106 : tk Tryz.prog 106 = .func := by kernel_rfl
@[simp] theorem ld_106 : ldInfo Tryz.prog 106 = some (false, 1) := by kernel_rfl
@[simp] theorem tk_107 : tk Tryz.prog 107 = .func := by kernel_rfl
@[simp] theorem ld_107 : ldInfo Tryz.prog 107 = some (false, 1) := by kernel_rfl
@[simp] theorem tk_108 : tk Tryz.prog 108 = .func := by kernel_rfl
@[simp] theorem ld_108 : ldInfo Tryz.prog 108 = some (false, 1) := by kernel_rfl
@[simp] theorem tk_109 : tk Tryz.prog 109 = .func := by kernel_rfl
@[simp] theorem ld_109 : ldInfo Tryz.prog 109 = some (false, 1) := by kernel_rfl
@[simp] theorem tk_110 : tk Tryz.prog 110 = .int := by kernel_rfl
@[simp] theorem ld_110 : ldInfo Tryz.prog 110 = some (false, 1) := by kernel_rfl
@[simp] theorem cv_110 : cvtK Tryz.prog 110 = some .u64 := by kernel_rfl
@[simp] theorem z_110 : zeroL Tryz.prog 110 = some [.lit (.int .u64 0)] := by kernel_rfl
@[simp] theorem tk_111 : tk Tryz.prog 111 = .func := by kernel_rfl
@[simp] theorem ld_111 : ldInfo Tryz.prog 111 = some (false, 1) := by kernel_rfl
@[simp] theorem tk_112 : tk Tryz.prog 112 = .func := by kernel_rfl
@[simp] theorem ld_112 : ldInfo Tryz.prog 112 = some (false, 1) := by kernel_rfl
@[simp] theorem tk_113 : tk Tryz.prog 113 = .func := by kernel_rfl
@[simp] theorem ld_113 : ldInfo Tryz.prog 113 = some (false, 1) := by kernel_rfl
@[simp] theorem ld_114 : ldInfo Tryz.prog 114 = some (false, 1) := by kernel_rfl
@[simp] theorem tk_115 : tk Tryz.prog 115 = .func := by kernel_rfl
@[simp] theorem ld_115 : ldInfo Tryz.prog 115 = some (false, 1) := by kernel_rfl
@[simp] theorem tk_116 : tk Tryz.prog 116 = .func := by kernel_rfl
@[simp] theorem ld_116 : ldInfo Tryz.prog 116 = some (false, 1) := by kernel_rfl
@[simp] theorem tk_117 : tk Tryz.prog 117 = .int := by kernel_rfl
@[simp] theorem ld_117 : ldInfo Tryz.prog 117 = some (false, 1) := by kernel_rfl
@[simp] theorem cv_117 : cvtK Tryz.prog 117 = some .i64 := by kernel_rfl
@[simp] theorem z_117 : zeroL Tryz.prog 117 = some [.lit (.int .i64 0)] := by kernel_rfl
@[simp] theorem tk_118 : tk Tryz.prog 118 = .func := by kernel_rfl
@[simp] theorem ld_118 : ldInfo Tryz.prog 118 = some (false, 1) := by kernel_rfl
@[simp] theorem tk_119 : tk Tryz.prog 119 = .int := by kernel_rfl
@[simp] theorem ld_119 : ldInfo Tryz.prog 119 = some (false, 1) := by kernel_rfl
@[simp] theorem cv_119 : cvtK Tryz.prog 119 = some .i64 := by kernel_rfl
@[simp] theorem z_119 : zeroL Tryz.prog 119 = some [.lit (.int .i64 0)] := by kernel_rfl
@[simp] theorem ld_120 : ldInfo Tryz.prog 120 = some (false, 1) := by kernel_rfl
@[simp] theorem tk_121 : tk Tryz.prog 121 = .func := by kernel_rfl
@[simp] theorem ld_121 : ldInfo Tryz.prog 121 = some (false, 1) := by kernel_rfl
@[simp] theorem tk_122 : tk Tryz.prog 122 = .func := by kernel_rfl
@[simp] theorem ld_122 : ldInfo Tryz.prog 122 = some (false, 1) := by kernel_rfl
@[simp] theorem tk_123 : tk Tryz.prog 123 = .func := by kernel_rfl
@[simp] theorem ld_123 : ldInfo Tryz.prog 123 = some (false, 1) := by kernel_rfl
@[simp] theorem tk_124 : tk Tryz.prog 124 = .func := by kernel_rfl
@[simp] theorem ld_124 : ldInfo Tryz.prog 124 = some (false, 1) := by kernel_rfl
@[simp] theorem tk_125 : tk Tryz.prog 125 = .func := by kernel_rfl
@[simp] theorem ld_125 : ldInfo Tryz.prog 125 = some (false, 1) := by kernel_rfl
@[simp] theorem tk_126 : tk Tryz.prog 126 = .int := by kernel_rfl
@[simp] theorem ld_126 : ldInfo Tryz.prog 126 = some (false, 1) := by kernel_rfl
@[simp] theorem cv_126 : cvtK Tryz.prog 126 = some .u32 := by kernel_rfl
@[simp] theorem z_126 : zeroL Tryz.prog 126 = some [.lit (.int .u32 0)] := by kernel_rfl
@[simp] theorem tk_127 : tk Tryz.prog 127 = .func := by kernel_rfl
@[simp] theorem ld_127 : ldInfo Tryz.prog 127 = some (false, 1) := by kernel_rfl
@[simp] theorem tk_128 : tk Tryz.prog 128 = .int := by kernel_rfl
@[simp] theorem ld_128 : ldInfo Tryz.prog 128 = some (false, 1) := by kernel_rfl
@[simp] theorem cv_128 : cvtK Tryz.prog 128 = some .u64 := by kernel_rfl
@[simp] theorem z_128 : zeroL Tryz.prog 128 = some [.lit (.int .u64 0)] := by kernel_rfl
@[simp] theorem tk_129 : tk Tryz.prog 129 = .func := by kernel_rfl
@[simp] theorem ld_129 : ldInfo Tryz.prog 129 = some (false, 1) := by kernel_rfl
@[simp] theorem tk_130 : tk Tryz.prog 130 = .func := by kernel_rfl
@[simp] theorem ld_130 : ldInfo Tryz.prog 130 = some (false, 1) := by kernel_rfl
@[simp] theorem tk_131 : tk Tryz.prog 131 = .func := by kernel_rfl
@[simp] theorem ld_131 : ldInfo Tryz.prog 131 = some (false, 1) := by kernel_rfl
@[simp] theorem tk_132 : tk Tryz.prog 132 = .func := by kernel_rfl
@[simp] theorem ld_132 : ldInfo Tryz.prog 132 = some (false, 1) := by kernel_rfl
@[simp] theorem tk_133 : tk Tryz.prog 133 = .func := by kernel_rfl
@[simp] theorem ld_133 : ldInfo Tryz.prog 133 = some (false, 1) := by kernel_rfl
@[simp] theorem tk_134 : tk Tryz.prog 134 = .func := by kernel_rfl
@[simp] theorem ld_134 : ldInfo Tryz.prog 134 = some (false, 1) := by kernel_rfl
@[simp] theorem tk_135 : tk Tryz.prog 135 = .func := by kernel_rfl
@[simp] theorem ld_135 : ldInfo Tryz.prog 135 = some (false, 1) := by kernel_rfl
@[simp] theorem tk_136 : tk Tryz.prog 136 = .int := by kernel_rfl
@[simp] theorem ld_136 : ldInfo Tryz.prog 136 = some (false, 1) := by kernel_rfl
@[simp] theorem cv_136 : cvtK Tryz.prog 136 = some .u64 := by kernel_rfl
@[simp] theorem z_136 : zeroL Tryz.prog 136 = some [.lit (.int .u64 0)] := by kernel_rfl
@[simp] theorem tk_137 : tk Tryz.prog 137 = .func := by kernel_rfl
@[simp] theorem ld_137 : ldInfo Tryz.prog 137 = some (false, 1) := by kernel_rfl
@[simp] theorem tk_138 : tk Tryz.prog 138 = .func := by kernel_rfl
@[simp] theorem ld_138 : ldInfo Tryz.prog 138 = some (false, 1) := by kernel_rfl
@[simp] theorem tk_139 : tk Tryz.prog 139 = .func := by kernel_rfl
@[simp] theorem ld_139 : ldInfo Tryz.prog 139 = some (false, 1) := by kernel_rfl
@[simp] theorem tk_140 : tk Tryz.prog 140 = .ptr := by kernel_rfl
@[simp] theorem ld_140 : ldInfo Tryz.prog 140 = some (false, 1) := by kernel_rfl
@[simp] theorem z_140 : zeroL Tryz.prog 140 = some [.lit (.pointer none)] := by kernel_rfl
@[simp] theorem tk_141 : tk Tryz.prog 141 = .func := by kernel_rfl
@[simp] theorem ld_141 : ldInfo Tryz.prog 141 = some (false, 1) := by kernel_rfl
@[simp] theorem tk_142 : tk Tryz.prog 142 = .func := by kernel_rfl
@[simp] theorem ld_142 : ldInfo Tryz.prog 142 = some (false, 1) := by kernel_rfl
@[simp] theorem tk_143 : tk Tryz.prog 143 = .func := by kernel_rfl
@[simp] theorem ld_143 : ldInfo Tryz.prog 143 = some (false, 1) := by kernel_rfl
@[simp] theorem tk_144 : tk Tryz.prog 144 = .flat 3 := by kernel_rfl
@[simp] theorem ld_144 : ldInfo Tryz.prog 144 = some (true, 3) := by kernel_rfl
@[simp] theorem sln_144 : slSize Tryz.prog 144 = none := by kernel_rfl
@[simp] theorem ar_144 : arSize Tryz.prog 144 = some (3, 1) := by kernel_rfl
@[simp] theorem z_144 : zeroL Tryz.prog 144 = some [.lit (.int .i64 0), .lit (.int .i64 0), .lit (.int .i64 0)] := by kernel_rfl
@[simp] theorem zv_144 : zeroV Tryz.prog 144 = some [.lit (.int .i64 0), .lit (.int .i64 0), .lit (.int .i64 0)] := by kernel_rfl
@[simp] theorem bi_144 : bInfo Tryz.prog 144 = some [(0, 1), (1, 1), (2, 1)] := by kernel_rfl
@[simp] theorem ai_144 : arInfo Tryz.prog 144 = some (3, false, 1) := by kernel_rfl
@[simp] theorem tk_145 : tk Tryz.prog 145 = .func := by kernel_rfl
@[simp] theorem ld_145 : ldInfo Tryz.prog 145 = some (false, 1) := by kernel_rfl
@[simp] theorem tk_146 : tk Tryz.prog 146 = .ptr := by kernel_rfl
@[simp] theorem ld_146 : ldInfo Tryz.prog 146 = some (false, 1) := by kernel_rfl
@[simp] theorem z_146 : zeroL Tryz.prog 146 = some [.lit (.pointer none)] := by kernel_rfl
@[simp] theorem tk_147 : tk Tryz.prog 147 = .func := by kernel_rfl
@[simp] theorem ld_147 : ldInfo Tryz.prog 147 = some (false, 1) := by kernel_rfl
@[simp] theorem tk_148 : tk Tryz.prog 148 = .func := by kernel_rfl
@[simp] theorem ld_148 : ldInfo Tryz.prog 148 = some (false, 1) := by kernel_rfl
@[simp] theorem tk_149 : tk Tryz.prog 149 = .func := by kernel_rfl
@[simp] theorem ld_149 : ldInfo Tryz.prog 149 = some (false, 1) := by kernel_rfl
@[simp] theorem ld_150 : ldInfo Tryz.prog 150 = some (true, 4) := by kernel_rfl
@[simp] theorem z_150 : zeroL Tryz.prog 150 = some [.lit (.pointer none), .lit (.pointer none), .lit (.pointer none), .lit (.string ByteArray.empty)] := by kernel_rfl
@[simp] theorem zv_150 : zeroV Tryz.prog 150 = some [.lit (.pointer none), .lit (.pointer none), .lit (.pointer none), .lit (.string ByteArray.empty)] := by kernel_rfl
@[simp] theorem bi_150 : bInfo Tryz.prog 150 = some [(0, 1), (1, 1), (2, 1), (3, 1)] := by kernel_rfl
@[simp] theorem ld_151 : ldInfo Tryz.prog 151 = some (true, 4) := by kernel_rfl
@[simp] theorem z_151 : zeroL Tryz.prog 151 = some [.lit (.pointer none), .lit (.pointer none), .lit (.pointer none), .lit (.string ByteArray.empty)] := by kernel_rfl
@[simp] theorem zv_151 : zeroV Tryz.prog 151 = some [.lit (.pointer none), .lit (.pointer none), .lit (.pointer none), .lit (.string ByteArray.empty)] := by kernel_rfl
@[simp] theorem bi_151 : bInfo Tryz.prog 151 = some [(0, 1), (1, 1), (2, 1), (3, 1)] := by kernel_rfl
@[simp] theorem ld_152 : ldInfo Tryz.prog 152 = some (true, 0) := by kernel_rfl
@[simp] theorem sln_152 : slSize Tryz.prog 152 = none := by kernel_rfl
@[simp] theorem ar_152 : arSize Tryz.prog 152 = some (0, 1) := by kernel_rfl
@[simp] theorem z_152 : zeroL Tryz.prog 152 = some [] := by kernel_rfl
@[simp] theorem zv_152 : zeroV Tryz.prog 152 = some [] := by kernel_rfl
@[simp] theorem bi_152 : bInfo Tryz.prog 152 = some [] := by kernel_rfl
@[simp] theorem ai_152 : arInfo Tryz.prog 152 = some (0, false, 1) := by kernel_rfl
@[simp] theorem ld_153 : ldInfo Tryz.prog 153 = some (true, 0) := by kernel_rfl
@[simp] theorem z_153 : zeroL Tryz.prog 153 = some [] := by kernel_rfl
@[simp] theorem zv_153 : zeroV Tryz.prog 153 = some [] := by kernel_rfl
@[simp] theorem bi_153 : bInfo Tryz.prog 153 = some [(0, 0)] := by kernel_rfl
@[simp] theorem ld_154 : ldInfo Tryz.prog 154 = some (true, 0) := by kernel_rfl
@[simp] theorem z_154 : zeroL Tryz.prog 154 = some [] := by kernel_rfl
@[simp] theorem zv_154 : zeroV Tryz.prog 154 = some [] := by kernel_rfl
@[simp] theorem bi_154 : bInfo Tryz.prog 154 = some [(0, 0)] := by kernel_rfl
@[simp] theorem tk_155 : tk Tryz.prog 155 = .func := by kernel_rfl
@[simp] theorem ld_155 : ldInfo Tryz.prog 155 = some (false, 1) := by kernel_rfl
@[simp] theorem tk_156 : tk Tryz.prog 156 = .int := by kernel_rfl
@[simp] theorem ld_156 : ldInfo Tryz.prog 156 = some (false, 1) := by kernel_rfl
@[simp] theorem cv_156 : cvtK Tryz.prog 156 = some .u8 := by kernel_rfl
@[simp] theorem z_156 : zeroL Tryz.prog 156 = some [.lit (.int .u8 0)] := by kernel_rfl
@[simp] theorem tk_157 : tk Tryz.prog 157 = .int := by kernel_rfl
@[simp] theorem ld_157 : ldInfo Tryz.prog 157 = some (false, 1) := by kernel_rfl
@[simp] theorem cv_157 : cvtK Tryz.prog 157 = some .u8 := by kernel_rfl
@[simp] theorem z_157 : zeroL Tryz.prog 157 = some [.lit (.int .u8 0)] := by kernel_rfl
@[simp] theorem tk_158 : tk Tryz.prog 158 = .func := by kernel_rfl
@[simp] theorem ld_158 : ldInfo Tryz.prog 158 = some (false, 1) := by kernel_rfl
@[simp] theorem tk_159 : tk Tryz.prog 159 = .ptr := by kernel_rfl
@[simp] theorem ld_159 : ldInfo Tryz.prog 159 = some (false, 1) := by kernel_rfl
@[simp] theorem z_159 : zeroL Tryz.prog 159 = some [.lit (.pointer none)] := by kernel_rfl
@[simp] theorem tk_160 : tk Tryz.prog 160 = .int := by kernel_rfl
@[simp] theorem ld_160 : ldInfo Tryz.prog 160 = some (false, 1) := by kernel_rfl
@[simp] theorem cv_160 : cvtK Tryz.prog 160 = some .i32 := by kernel_rfl
@[simp] theorem z_160 : zeroL Tryz.prog 160 = some [.lit (.int .i32 0)] := by kernel_rfl
@[simp] theorem tk_161 : tk Tryz.prog 161 = .int := by kernel_rfl
@[simp] theorem ld_161 : ldInfo Tryz.prog 161 = some (false, 1) := by kernel_rfl
@[simp] theorem cv_161 : cvtK Tryz.prog 161 = some .i32 := by kernel_rfl
@[simp] theorem z_161 : zeroL Tryz.prog 161 = some [.lit (.int .i32 0)] := by kernel_rfl
@[simp] theorem ld_162 : ldInfo Tryz.prog 162 = some (true, 11) := by kernel_rfl
@[simp] theorem ld_163 : ldInfo Tryz.prog 163 = some (true, 11) := by kernel_rfl
@[simp] theorem ld_164 : ldInfo Tryz.prog 164 = some (false, 1) := by kernel_rfl
@[simp] theorem z_164 : zeroL Tryz.prog 164 = some [.lit (.pointer none)] := by kernel_rfl
@[simp] theorem fo_7_0 : fOff Tryz.prog 7 0 = some 0 := by kernel_rfl
@[simp] theorem fi_7_0 : fldInfo Tryz.prog 7 0 = some (0, false, 1) := by kernel_rfl
@[simp] theorem fo_7_1 : fOff Tryz.prog 7 1 = some 1 := by kernel_rfl
@[simp] theorem fi_7_1 : fldInfo Tryz.prog 7 1 = some (1, false, 1) := by kernel_rfl
@[simp] theorem fo_7_2 : fOff Tryz.prog 7 2 = some 2 := by kernel_rfl
@[simp] theorem fi_7_2 : fldInfo Tryz.prog 7 2 = some (2, false, 1) := by kernel_rfl
@[simp] theorem fo_7_3 : fOff Tryz.prog 7 3 = some 3 := by kernel_rfl
@[simp] theorem fi_7_3 : fldInfo Tryz.prog 7 3 = some (3, false, 1) := by kernel_rfl
@[simp] theorem fo_8_0 : fOff Tryz.prog 8 0 = some 0 := by kernel_rfl
@[simp] theorem fi_8_0 : fldInfo Tryz.prog 8 0 = some (0, false, 1) := by kernel_rfl
@[simp] theorem fo_8_1 : fOff Tryz.prog 8 1 = some 1 := by kernel_rfl
@[simp] theorem fi_8_1 : fldInfo Tryz.prog 8 1 = some (1, false, 1) := by kernel_rfl
@[simp] theorem fo_8_2 : fOff Tryz.prog 8 2 = some 2 := by kernel_rfl
@[simp] theorem fi_8_2 : fldInfo Tryz.prog 8 2 = some (2, false, 1) := by kernel_rfl
@[simp] theorem fo_8_3 : fOff Tryz.prog 8 3 = some 3 := by kernel_rfl
@[simp] theorem fi_8_3 : fldInfo Tryz.prog 8 3 = some (3, false, 1) := by kernel_rfl
@[simp] theorem fo_13_0 : fOff Tryz.prog 13 0 = some 0 := by kernel_rfl
@[simp] theorem fi_13_0 : fldInfo Tryz.prog 13 0 = some (0, false, 1) := by kernel_rfl
@[simp] theorem fo_13_1 : fOff Tryz.prog 13 1 = some 1 := by kernel_rfl
@[simp] theorem fi_13_1 : fldInfo Tryz.prog 13 1 = some (1, false, 1) := by kernel_rfl
@[simp] theorem fo_14_0 : fOff Tryz.prog 14 0 = some 0 := by kernel_rfl
@[simp] theorem fi_14_0 : fldInfo Tryz.prog 14 0 = some (0, false, 1) := by kernel_rfl
@[simp] theorem fo_14_1 : fOff Tryz.prog 14 1 = some 1 := by kernel_rfl
@[simp] theorem fi_14_1 : fldInfo Tryz.prog 14 1 = some (1, false, 1) := by kernel_rfl
@[simp] theorem fo_18_0 : fOff Tryz.prog 18 0 = some 0 := by kernel_rfl
@[simp] theorem fi_18_0 : fldInfo Tryz.prog 18 0 = some (0, false, 1) := by kernel_rfl
@[simp] theorem fo_19_0 : fOff Tryz.prog 19 0 = some 0 := by kernel_rfl
@[simp] theorem fi_19_0 : fldInfo Tryz.prog 19 0 = some (0, false, 1) := by kernel_rfl
@[simp] theorem fo_29_0 : fOff Tryz.prog 29 0 = some 0 := by kernel_rfl
@[simp] theorem fi_29_0 : fldInfo Tryz.prog 29 0 = some (0, false, 1) := by kernel_rfl
@[simp] theorem fo_29_1 : fOff Tryz.prog 29 1 = some 1 := by kernel_rfl
@[simp] theorem fi_29_1 : fldInfo Tryz.prog 29 1 = some (1, false, 1) := by kernel_rfl
@[simp] theorem fo_30_0 : fOff Tryz.prog 30 0 = some 0 := by kernel_rfl
@[simp] theorem fi_30_0 : fldInfo Tryz.prog 30 0 = some (0, false, 1) := by kernel_rfl
@[simp] theorem fo_30_1 : fOff Tryz.prog 30 1 = some 1 := by kernel_rfl
@[simp] theorem fi_30_1 : fldInfo Tryz.prog 30 1 = some (1, false, 1) := by kernel_rfl
@[simp] theorem fo_32_0 : fOff Tryz.prog 32 0 = some 0 := by kernel_rfl
@[simp] theorem fi_32_0 : fldInfo Tryz.prog 32 0 = some (0, false, 1) := by kernel_rfl
@[simp] theorem fo_32_1 : fOff Tryz.prog 32 1 = some 1 := by kernel_rfl
@[simp] theorem fi_32_1 : fldInfo Tryz.prog 32 1 = some (1, false, 1) := by kernel_rfl
@[simp] theorem fo_32_2 : fOff Tryz.prog 32 2 = some 2 := by kernel_rfl
@[simp] theorem fi_32_2 : fldInfo Tryz.prog 32 2 = some (2, false, 1) := by kernel_rfl
@[simp] theorem fo_33_0 : fOff Tryz.prog 33 0 = some 0 := by kernel_rfl
@[simp] theorem fi_33_0 : fldInfo Tryz.prog 33 0 = some (0, false, 1) := by kernel_rfl
@[simp] theorem fo_33_1 : fOff Tryz.prog 33 1 = some 1 := by kernel_rfl
@[simp] theorem fi_33_1 : fldInfo Tryz.prog 33 1 = some (1, false, 1) := by kernel_rfl
@[simp] theorem fo_33_2 : fOff Tryz.prog 33 2 = some 2 := by kernel_rfl
@[simp] theorem fi_33_2 : fldInfo Tryz.prog 33 2 = some (2, false, 1) := by kernel_rfl
@[simp] theorem fo_34_0 : fOff Tryz.prog 34 0 = some 0 := by kernel_rfl
@[simp] theorem fi_34_0 : fldInfo Tryz.prog 34 0 = some (0, false, 1) := by kernel_rfl
@[simp] theorem fo_34_1 : fOff Tryz.prog 34 1 = some 1 := by kernel_rfl
@[simp] theorem fi_34_1 : fldInfo Tryz.prog 34 1 = some (1, false, 1) := by kernel_rfl
@[simp] theorem fo_34_2 : fOff Tryz.prog 34 2 = some 2 := by kernel_rfl
@[simp] theorem fi_34_2 : fldInfo Tryz.prog 34 2 = some (2, true, 2) := by kernel_rfl
@[simp] theorem fo_34_3 : fOff Tryz.prog 34 3 = some 4 := by kernel_rfl
@[simp] theorem fi_34_3 : fldInfo Tryz.prog 34 3 = some (4, true, 3) := by kernel_rfl
@[simp] theorem fo_34_4 : fOff Tryz.prog 34 4 = some 7 := by kernel_rfl
@[simp] theorem fi_34_4 : fldInfo Tryz.prog 34 4 = some (7, false, 1) := by kernel_rfl
@[simp] theorem fo_35_0 : fOff Tryz.prog 35 0 = some 0 := by kernel_rfl
@[simp] theorem fi_35_0 : fldInfo Tryz.prog 35 0 = some (0, false, 1) := by kernel_rfl
@[simp] theorem fo_35_1 : fOff Tryz.prog 35 1 = some 1 := by kernel_rfl
@[simp] theorem fi_35_1 : fldInfo Tryz.prog 35 1 = some (1, false, 1) := by kernel_rfl
@[simp] theorem fo_35_2 : fOff Tryz.prog 35 2 = some 2 := by kernel_rfl
@[simp] theorem fi_35_2 : fldInfo Tryz.prog 35 2 = some (2, true, 2) := by kernel_rfl
@[simp] theorem fo_35_3 : fOff Tryz.prog 35 3 = some 4 := by kernel_rfl
@[simp] theorem fi_35_3 : fldInfo Tryz.prog 35 3 = some (4, true, 3) := by kernel_rfl
@[simp] theorem fo_35_4 : fOff Tryz.prog 35 4 = some 7 := by kernel_rfl
@[simp] theorem fi_35_4 : fldInfo Tryz.prog 35 4 = some (7, false, 1) := by kernel_rfl
@[simp] theorem fo_50_0 : fOff Tryz.prog 50 0 = some 0 := by kernel_rfl
@[simp] theorem fi_50_0 : fldInfo Tryz.prog 50 0 = some (0, false, 1) := by kernel_rfl
@[simp] theorem fo_50_1 : fOff Tryz.prog 50 1 = some 1 := by kernel_rfl
@[simp] theorem fi_50_1 : fldInfo Tryz.prog 50 1 = some (1, false, 1) := by kernel_rfl
@[simp] theorem fo_50_2 : fOff Tryz.prog 50 2 = some 2 := by kernel_rfl
@[simp] theorem fi_50_2 : fldInfo Tryz.prog 50 2 = some (2, false, 1) := by kernel_rfl
@[simp] theorem fo_50_3 : fOff Tryz.prog 50 3 = some 3 := by kernel_rfl
@[simp] theorem fi_50_3 : fldInfo Tryz.prog 50 3 = some (3, false, 1) := by kernel_rfl
@[simp] theorem fo_51_0 : fOff Tryz.prog 51 0 = some 0 := by kernel_rfl
@[simp] theorem fi_51_0 : fldInfo Tryz.prog 51 0 = some (0, false, 1) := by kernel_rfl
@[simp] theorem fo_51_1 : fOff Tryz.prog 51 1 = some 1 := by kernel_rfl
@[simp] theorem fi_51_1 : fldInfo Tryz.prog 51 1 = some (1, false, 1) := by kernel_rfl
@[simp] theorem fo_51_2 : fOff Tryz.prog 51 2 = some 2 := by kernel_rfl
@[simp] theorem fi_51_2 : fldInfo Tryz.prog 51 2 = some (2, false, 1) := by kernel_rfl
@[simp] theorem fo_51_3 : fOff Tryz.prog 51 3 = some 3 := by kernel_rfl
@[simp] theorem fi_51_3 : fldInfo Tryz.prog 51 3 = some (3, false, 1) := by kernel_rfl
@[simp] theorem fo_72_0 : fOff Tryz.prog 72 0 = some 0 := by kernel_rfl
@[simp] theorem fi_72_0 : fldInfo Tryz.prog 72 0 = some (0, false, 1) := by kernel_rfl
@[simp] theorem fo_72_1 : fOff Tryz.prog 72 1 = some 1 := by kernel_rfl
@[simp] theorem fi_72_1 : fldInfo Tryz.prog 72 1 = some (1, false, 1) := by kernel_rfl
@[simp] theorem fo_72_2 : fOff Tryz.prog 72 2 = some 2 := by kernel_rfl
@[simp] theorem fi_72_2 : fldInfo Tryz.prog 72 2 = some (2, false, 1) := by kernel_rfl
@[simp] theorem fo_72_3 : fOff Tryz.prog 72 3 = some 3 := by kernel_rfl
@[simp] theorem fi_72_3 : fldInfo Tryz.prog 72 3 = some (3, false, 1) := by kernel_rfl
@[simp] theorem fo_72_4 : fOff Tryz.prog 72 4 = some 4 := by kernel_rfl
@[simp] theorem fi_72_4 : fldInfo Tryz.prog 72 4 = some (4, false, 1) := by kernel_rfl
@[simp] theorem fo_73_0 : fOff Tryz.prog 73 0 = some 0 := by kernel_rfl
@[simp] theorem fi_73_0 : fldInfo Tryz.prog 73 0 = some (0, false, 1) := by kernel_rfl
@[simp] theorem fo_73_1 : fOff Tryz.prog 73 1 = some 1 := by kernel_rfl
@[simp] theorem fi_73_1 : fldInfo Tryz.prog 73 1 = some (1, false, 1) := by kernel_rfl
@[simp] theorem fo_73_2 : fOff Tryz.prog 73 2 = some 2 := by kernel_rfl
@[simp] theorem fi_73_2 : fldInfo Tryz.prog 73 2 = some (2, false, 1) := by kernel_rfl
@[simp] theorem fo_73_3 : fOff Tryz.prog 73 3 = some 3 := by kernel_rfl
@[simp] theorem fi_73_3 : fldInfo Tryz.prog 73 3 = some (3, false, 1) := by kernel_rfl
@[simp] theorem fo_73_4 : fOff Tryz.prog 73 4 = some 4 := by kernel_rfl
@[simp] theorem fi_73_4 : fldInfo Tryz.prog 73 4 = some (4, false, 1) := by kernel_rfl
@[simp] theorem fo_75_0 : fOff Tryz.prog 75 0 = some 0 := by kernel_rfl
@[simp] theorem fi_75_0 : fldInfo Tryz.prog 75 0 = some (0, false, 1) := by kernel_rfl
@[simp] theorem fo_75_1 : fOff Tryz.prog 75 1 = some 1 := by kernel_rfl
@[simp] theorem fi_75_1 : fldInfo Tryz.prog 75 1 = some (1, false, 1) := by kernel_rfl
@[simp] theorem fo_76_0 : fOff Tryz.prog 76 0 = some 0 := by kernel_rfl
@[simp] theorem fi_76_0 : fldInfo Tryz.prog 76 0 = some (0, false, 1) := by kernel_rfl
@[simp] theorem fo_76_1 : fOff Tryz.prog 76 1 = some 1 := by kernel_rfl
@[simp] theorem fi_76_1 : fldInfo Tryz.prog 76 1 = some (1, false, 1) := by kernel_rfl
@[simp] theorem fo_79_0 : fOff Tryz.prog 79 0 = some 0 := by kernel_rfl
@[simp] theorem fi_79_0 : fldInfo Tryz.prog 79 0 = some (0, false, 1) := by kernel_rfl
@[simp] theorem fo_79_1 : fOff Tryz.prog 79 1 = some 1 := by kernel_rfl
@[simp] theorem fi_79_1 : fldInfo Tryz.prog 79 1 = some (1, false, 1) := by kernel_rfl
@[simp] theorem fo_80_0 : fOff Tryz.prog 80 0 = some 0 := by kernel_rfl
@[simp] theorem fi_80_0 : fldInfo Tryz.prog 80 0 = some (0, false, 1) := by kernel_rfl
@[simp] theorem fo_80_1 : fOff Tryz.prog 80 1 = some 1 := by kernel_rfl
@[simp] theorem fi_80_1 : fldInfo Tryz.prog 80 1 = some (1, false, 1) := by kernel_rfl
@[simp] theorem fo_88_0 : fOff Tryz.prog 88 0 = some 0 := by kernel_rfl
@[simp] theorem fi_88_0 : fldInfo Tryz.prog 88 0 = some (0, false, 1) := by kernel_rfl
@[simp] theorem fo_88_1 : fOff Tryz.prog 88 1 = some 1 := by kernel_rfl
@[simp] theorem fi_88_1 : fldInfo Tryz.prog 88 1 = some (1, false, 1) := by kernel_rfl
@[simp] theorem fo_88_2 : fOff Tryz.prog 88 2 = some 2 := by kernel_rfl
@[simp] theorem fi_88_2 : fldInfo Tryz.prog 88 2 = some (2, false, 1) := by kernel_rfl
@[simp] theorem fo_88_3 : fOff Tryz.prog 88 3 = some 3 := by kernel_rfl
@[simp] theorem fi_88_3 : fldInfo Tryz.prog 88 3 = some (3, false, 1) := by kernel_rfl
@[simp] theorem fo_89_0 : fOff Tryz.prog 89 0 = some 0 := by kernel_rfl
@[simp] theorem fi_89_0 : fldInfo Tryz.prog 89 0 = some (0, false, 1) := by kernel_rfl
@[simp] theorem fo_89_1 : fOff Tryz.prog 89 1 = some 1 := by kernel_rfl
@[simp] theorem fi_89_1 : fldInfo Tryz.prog 89 1 = some (1, false, 1) := by kernel_rfl
@[simp] theorem fo_89_2 : fOff Tryz.prog 89 2 = some 2 := by kernel_rfl
@[simp] theorem fi_89_2 : fldInfo Tryz.prog 89 2 = some (2, false, 1) := by kernel_rfl
@[simp] theorem fo_89_3 : fOff Tryz.prog 89 3 = some 3 := by kernel_rfl
@[simp] theorem fi_89_3 : fldInfo Tryz.prog 89 3 = some (3, false, 1) := by kernel_rfl
@[simp] theorem fo_96_0 : fOff Tryz.prog 96 0 = some 0 := by kernel_rfl
@[simp] theorem fi_96_0 : fldInfo Tryz.prog 96 0 = some (0, false, 1) := by kernel_rfl
@[simp] theorem fo_96_1 : fOff Tryz.prog 96 1 = some 1 := by kernel_rfl
@[simp] theorem fi_96_1 : fldInfo Tryz.prog 96 1 = some (1, false, 1) := by kernel_rfl
@[simp] theorem fo_96_2 : fOff Tryz.prog 96 2 = some 2 := by kernel_rfl
@[simp] theorem fi_96_2 : fldInfo Tryz.prog 96 2 = some (2, false, 1) := by kernel_rfl
@[simp] theorem fo_97_0 : fOff Tryz.prog 97 0 = some 0 := by kernel_rfl
@[simp] theorem fi_97_0 : fldInfo Tryz.prog 97 0 = some (0, false, 1) := by kernel_rfl
@[simp] theorem fo_97_1 : fOff Tryz.prog 97 1 = some 1 := by kernel_rfl
@[simp] theorem fi_97_1 : fldInfo Tryz.prog 97 1 = some (1, false, 1) := by kernel_rfl
@[simp] theorem fo_97_2 : fOff Tryz.prog 97 2 = some 2 := by kernel_rfl
@[simp] theorem fi_97_2 : fldInfo Tryz.prog 97 2 = some (2, false, 1) := by kernel_rfl
@[simp] theorem fo_102_0 : fOff Tryz.prog 102 0 = some 0 := by kernel_rfl
@[simp] theorem fi_102_0 : fldInfo Tryz.prog 102 0 = some (0, false, 1) := by kernel_rfl
@[simp] theorem fo_102_1 : fOff Tryz.prog 102 1 = some 1 := by kernel_rfl
@[simp] theorem fi_102_1 : fldInfo Tryz.prog 102 1 = some (1, false, 1) := by kernel_rfl
@[simp] theorem fo_102_2 : fOff Tryz.prog 102 2 = some 2 := by kernel_rfl
@[simp] theorem fi_102_2 : fldInfo Tryz.prog 102 2 = some (2, false, 1) := by kernel_rfl
@[simp] theorem fo_102_3 : fOff Tryz.prog 102 3 = some 3 := by kernel_rfl
@[simp] theorem fi_102_3 : fldInfo Tryz.prog 102 3 = some (3, false, 1) := by kernel_rfl
@[simp] theorem fo_103_0 : fOff Tryz.prog 103 0 = some 0 := by kernel_rfl
@[simp] theorem fi_103_0 : fldInfo Tryz.prog 103 0 = some (0, false, 1) := by kernel_rfl
@[simp] theorem fo_103_1 : fOff Tryz.prog 103 1 = some 1 := by kernel_rfl
@[simp] theorem fi_103_1 : fldInfo Tryz.prog 103 1 = some (1, false, 1) := by kernel_rfl
@[simp] theorem fo_103_2 : fOff Tryz.prog 103 2 = some 2 := by kernel_rfl
@[simp] theorem fi_103_2 : fldInfo Tryz.prog 103 2 = some (2, false, 1) := by kernel_rfl
@[simp] theorem fo_103_3 : fOff Tryz.prog 103 3 = some 3 := by kernel_rfl
@[simp] theorem fi_103_3 : fldInfo Tryz.prog 103 3 = some (3, false, 1) := by kernel_rfl
@[simp] theorem fo_150_0 : fOff Tryz.prog 150 0 = some 0 := by kernel_rfl
@[simp] theorem fi_150_0 : fldInfo Tryz.prog 150 0 = some (0, false, 1) := by kernel_rfl
@[simp] theorem fo_150_1 : fOff Tryz.prog 150 1 = some 1 := by kernel_rfl
@[simp] theorem fi_150_1 : fldInfo Tryz.prog 150 1 = some (1, false, 1) := by kernel_rfl
@[simp] theorem fo_150_2 : fOff Tryz.prog 150 2 = some 2 := by kernel_rfl
@[simp] theorem fi_150_2 : fldInfo Tryz.prog 150 2 = some (2, false, 1) := by kernel_rfl
@[simp] theorem fo_150_3 : fOff Tryz.prog 150 3 = some 3 := by kernel_rfl
@[simp] theorem fi_150_3 : fldInfo Tryz.prog 150 3 = some (3, false, 1) := by kernel_rfl
@[simp] theorem fo_151_0 : fOff Tryz.prog 151 0 = some 0 := by kernel_rfl
@[simp] theorem fi_151_0 : fldInfo Tryz.prog 151 0 = some (0, false, 1) := by kernel_rfl
@[simp] theorem fo_151_1 : fOff Tryz.prog 151 1 = some 1 := by kernel_rfl
@[simp] theorem fi_151_1 : fldInfo Tryz.prog 151 1 = some (1, false, 1) := by kernel_rfl
@[simp] theorem fo_151_2 : fOff Tryz.prog 151 2 = some 2 := by kernel_rfl
@[simp] theorem fi_151_2 : fldInfo Tryz.prog 151 2 = some (2, false, 1) := by kernel_rfl
@[simp] theorem fo_151_3 : fOff Tryz.prog 151 3 = some 3 := by kernel_rfl
@[simp] theorem fi_151_3 : fldInfo Tryz.prog 151 3 = some (3, false, 1) := by kernel_rfl
@[simp] theorem fi_153_0 : fldInfo Tryz.prog 153 0 = some (0, true, 0) := by kernel_rfl
@[simp] theorem fi_154_0 : fldInfo Tryz.prog 154 0 = some (0, true, 0) := by kernel_rfl
@[simp] theorem fo_162_0 : fOff Tryz.prog 162 0 = some 0 := by kernel_rfl
@[simp] theorem fi_162_0 : fldInfo Tryz.prog 162 0 = some (0, false, 1) := by kernel_rfl
@[simp] theorem fo_162_1 : fOff Tryz.prog 162 1 = some 1 := by kernel_rfl
@[simp] theorem fi_162_1 : fldInfo Tryz.prog 162 1 = some (1, false, 1) := by kernel_rfl
@[simp] theorem fo_162_2 : fOff Tryz.prog 162 2 = some 2 := by kernel_rfl
@[simp] theorem fi_162_2 : fldInfo Tryz.prog 162 2 = some (2, false, 1) := by kernel_rfl
@[simp] theorem fo_162_3 : fOff Tryz.prog 162 3 = some 3 := by kernel_rfl
@[simp] theorem fi_162_3 : fldInfo Tryz.prog 162 3 = some (3, false, 1) := by kernel_rfl
@[simp] theorem fo_162_4 : fOff Tryz.prog 162 4 = some 4 := by kernel_rfl
@[simp] theorem fi_162_4 : fldInfo Tryz.prog 162 4 = some (4, false, 1) := by kernel_rfl
@[simp] theorem fo_162_5 : fOff Tryz.prog 162 5 = some 5 := by kernel_rfl
@[simp] theorem fi_162_5 : fldInfo Tryz.prog 162 5 = some (5, false, 1) := by kernel_rfl
@[simp] theorem fo_162_6 : fOff Tryz.prog 162 6 = some 6 := by kernel_rfl
@[simp] theorem fi_162_6 : fldInfo Tryz.prog 162 6 = some (6, false, 1) := by kernel_rfl
@[simp] theorem fo_162_7 : fOff Tryz.prog 162 7 = some 7 := by kernel_rfl
@[simp] theorem fi_162_7 : fldInfo Tryz.prog 162 7 = some (7, false, 1) := by kernel_rfl
@[simp] theorem fo_162_8 : fOff Tryz.prog 162 8 = some 8 := by kernel_rfl
@[simp] theorem fi_162_8 : fldInfo Tryz.prog 162 8 = some (8, false, 1) := by kernel_rfl
@[simp] theorem fo_162_9 : fOff Tryz.prog 162 9 = some 9 := by kernel_rfl
@[simp] theorem fi_162_9 : fldInfo Tryz.prog 162 9 = some (9, false, 1) := by kernel_rfl
@[simp] theorem fo_162_10 : fOff Tryz.prog 162 10 = some 10 := by kernel_rfl
@[simp] theorem fi_162_10 : fldInfo Tryz.prog 162 10 = some (10, false, 1) := by kernel_rfl
@[simp] theorem fo_163_0 : fOff Tryz.prog 163 0 = some 0 := by kernel_rfl
@[simp] theorem fi_163_0 : fldInfo Tryz.prog 163 0 = some (0, false, 1) := by kernel_rfl
@[simp] theorem fo_163_1 : fOff Tryz.prog 163 1 = some 1 := by kernel_rfl
@[simp] theorem fi_163_1 : fldInfo Tryz.prog 163 1 = some (1, false, 1) := by kernel_rfl
@[simp] theorem fo_163_2 : fOff Tryz.prog 163 2 = some 2 := by kernel_rfl
@[simp] theorem fi_163_2 : fldInfo Tryz.prog 163 2 = some (2, false, 1) := by kernel_rfl
@[simp] theorem fo_163_3 : fOff Tryz.prog 163 3 = some 3 := by kernel_rfl
@[simp] theorem fi_163_3 : fldInfo Tryz.prog 163 3 = some (3, false, 1) := by kernel_rfl
@[simp] theorem fo_163_4 : fOff Tryz.prog 163 4 = some 4 := by kernel_rfl
@[simp] theorem fi_163_4 : fldInfo Tryz.prog 163 4 = some (4, false, 1) := by kernel_rfl
@[simp] theorem fo_163_5 : fOff Tryz.prog 163 5 = some 5 := by kernel_rfl
@[simp] theorem fi_163_5 : fldInfo Tryz.prog 163 5 = some (5, false, 1) := by kernel_rfl
@[simp] theorem fo_163_6 : fOff Tryz.prog 163 6 = some 6 := by kernel_rfl
@[simp] theorem fi_163_6 : fldInfo Tryz.prog 163 6 = some (6, false, 1) := by kernel_rfl
@[simp] theorem fo_163_7 : fOff Tryz.prog 163 7 = some 7 := by kernel_rfl
@[simp] theorem fi_163_7 : fldInfo Tryz.prog 163 7 = some (7, false, 1) := by kernel_rfl
@[simp] theorem fo_163_8 : fOff Tryz.prog 163 8 = some 8 := by kernel_rfl
@[simp] theorem fi_163_8 : fldInfo Tryz.prog 163 8 = some (8, false, 1) := by kernel_rfl
@[simp] theorem fo_163_9 : fOff Tryz.prog 163 9 = some 9 := by kernel_rfl
@[simp] theorem fi_163_9 : fldInfo Tryz.prog 163 9 = some (9, false, 1) := by kernel_rfl
@[simp] theorem fo_163_10 : fOff Tryz.prog 163 10 = some 10 := by kernel_rfl
@[simp] theorem fi_163_10 : fldInfo Tryz.prog 163 10 = some (10, false, 1) := by kernel_rfl

end Go.AX

namespace Go.AX
open Go.Proofs
theorem hmo : Tryz.prog.follows .mixedOrders = true := by kernel_rfl

/-! ### Plain laws -/
theorem w64_half (x : Int) : w64 ((w64 x).tdiv 2) = (w64 x).tdiv 2 := by
  have h1 := w64_lo x
  have h2 := w64_hi x
  have h3 := Int.mul_tdiv_add_tmod (w64 x) 2
  have h4 := Int.tmod_lt_of_pos (w64 x) (show (0 : Int) < 2 by omega)
  have h5 : -2 < (w64 x).tmod 2 := by have := Int.lt_tmod_of_pos (w64 x) (show (0 : Int) < 2 by omega); omega
  exact w64_id (by omega) (by omega)
def chooseS (n : Int) : Int := (w64 (n * (n - 1))).tdiv 2
def sizeOk (a b : Int) : Bool := !(decide (a < 0) || decide (a > 64) || decide (b < 1) || decide (b > 32))
theorem sizeOk_iff {a b : Int} : sizeOk a b = true ↔ 0 ≤ a ∧ a ≤ 64 ∧ 1 ≤ b ∧ b ≤ 32 := by
  simp [sizeOk]; omega
theorem chooseS_two {a : Int} (h0 : 0 ≤ a) (h1 : a ≤ 64) : 2 * chooseS a = a * (a - 1) := by
  obtain ⟨k, rfl⟩ := Int.eq_ofNat_of_zero_le h0
  have hk : k < 65 := by omega
  have key : ∀ j : Fin 65, 2 * chooseS (j.val : Int) = (j.val : Int) * ((j.val : Int) - 1) := by decide +kernel
  exact key ⟨k, hk⟩
def timesOk (n m p : Int) : Bool := sizeOk n m && !(decide (p < 0) || decide (p > 2016))
theorem timesOk_iff {n m p : Int} : timesOk n m p = true ↔ sizeOk n m = true ∧ 0 ≤ p ∧ p ≤ 2016 := by simp [timesOk]
def placesN (n m : Int) : Int := if sizeOk n m then w64 (n + n * n * (n - 1)) else 0
def timesN (n m p : Int) : Int := if timesOk n m p then w64 (p * chooseS n) else 0
def statesN (n m : Int) : Int := if sizeOk n m then w64 (1 + (n + 1) * (1 + chooseS m)) else 0
def movesOk (n m e : Int) : Bool := sizeOk n m && !(decide (e < 0) || decide (e > n))
theorem movesOk_iff {n m e : Int} : movesOk n m e = true ↔ sizeOk n m = true ∧ 0 ≤ e ∧ e ≤ n := by simp [movesOk]
def movesN (n m e : Int) : Int := if movesOk n m e then w64 (e * (1 + n * m) + (n - e) * (2 * n * m)) else 0
/-- The sum, so far. -/
def movesSum (n m e i : Int) : Int := if i ≤ e then i * (1 + n * m) else e * (1 + n * m) + (i - e) * (2 * n * m)
theorem movesSum_lt {n m e i : Int} (h : i < e) : movesSum n m e (i + 1) = movesSum n m e i + 1 + n * m := by
  unfold movesSum; rw [if_pos (by omega), if_pos (by omega)]; grind
theorem movesSum_ge {n m e i : Int} (h : e ≤ i) : movesSum n m e (i + 1) = movesSum n m e i + 2 * n * m := by
  unfold movesSum
  rw [if_neg (by omega)]
  by_cases h2 : i ≤ e
  · have : i = e := by omega
    subst this; rw [if_pos h2]; grind
  · rw [if_neg h2]; grind
theorem movesSum_all {n m e : Int} (h : e ≤ n) : movesSum n m e n = e * (1 + n * m) + (n - e) * (2 * n * m) := by
  unfold movesSum
  split
  · have : n = e := by omega
    subst this; grind
  · rfl

/-! ### Walks -/
end Go.AX

namespace Go.AX
open Go.Proofs

structure Op5 where
  p : Int
  k : Int
  s : Int
  e : Int
  r : Int
  deriving DecidableEq, Inhabited

def orow (o : Op5) : List PV := [I64 o.p, I64 o.k, I64 o.s, I64 o.e, I64 o.r]
def ovec (ops : List Op5) : PV := .seq false 5 (ops.map orow)

def aheadS (a b : Op5) : Bool := decide (a.e ≥ 0) && decide (a.e < b.s)
def endedS (o : Op5) : Bool := if o.e = -1 then decide (o.r = -1) else decide (o.e > o.s) && decide (o.e ≤ 9999) && decide (o.r ≥ 0) && decide (o.r ≤ 1000000)
def aloneS (o : Op5) : Int := if o.p < 1 ∨ o.p > 1000 ∨ o.s < 0 ∨ o.s > 9999 then 2 else if o.k < 0 ∨ o.k ≥ 64 then 31 else if endedS o then 0 else 7
@[simp] theorem belowR_orow (k : Nat) (ops : List Op5) : belowR k (ops.map orow) := by
  rw [belowR_iff]; intro r hr x hx
  obtain ⟨o, _, rfl⟩ := List.mem_map.1 hr
  simp [orow] at hx
  rcases hx with rfl | rfl | rfl | rfl | rfl <;> trivial
@[simp] theorem belowR_ints (k : Nat) (l : List Int) : belowR k (l.map fun i => [I64 i]) := by
  rw [belowR_iff]; intro r hr x hx
  obtain ⟨o, _, rfl⟩ := List.mem_map.1 hr
  simp at hx; subst hx; trivial

def pendTo (ops : List Op5) (n : Nat) : List Int := ((List.range n).filter fun j => decide ((ops.getD j default).e = -1)).map Int.ofNat
theorem pendTo_succ (ops : List Op5) {n : Nat} (h : n < ops.length) : pendTo ops (n + 1) = if ops[n].e = -1 then pendTo ops n ++ [(n : Int)] else pendTo ops n := by
  unfold pendTo
  rw [List.range_succ, List.filter_append, List.map_append]
  simp only [List.filter_cons, List.filter_nil, List.getD_eq_getElem?_getD, List.getElem?_eq_getElem h, Option.getD_some]
  split <;> simp_all
theorem pendTo_length (ops : List Op5) (n : Nat) : (pendTo ops n).length ≤ n := by
  unfold pendTo
  rw [List.length_map]
  exact Nat.le_trans (List.length_filter_le _ _) (by simp)

/-! ### Pairs -/
def prow (p : Int × Int) : List PV := [I64 p.1, I64 p.2]
@[simp] theorem belowR_prow (k : Nat) (l : List (Int × Int)) : belowR k (l.map prow) := by
  rw [belowR_iff]; intro r hr x hx
  obtain ⟨o, _, rfl⟩ := List.mem_map.1 hr
  simp [prow] at hx; rcases hx with rfl | rfl <;> trivial
def pairsRow (ops : List Op5) (i j : Nat) : List (Int × Int) := ((List.range j).filter fun b => aheadS (ops.getD i default) (ops.getD b default)).map fun (b : Nat) => ((i : Int), (b : Int))
def pairsTo (ops : List Op5) (i : Nat) : List (Int × Int) := (List.range i).flatMap fun a => pairsRow ops a ops.length
theorem pairsRow_succ (ops : List Op5) (i : Nat) {j : Nat} (hi : i < ops.length) (h : j < ops.length) : pairsRow ops i (j + 1) = if aheadS ops[i] ops[j] = true then pairsRow ops i j ++ [((i : Int), (j : Int))] else pairsRow ops i j := by
  unfold pairsRow
  rw [List.range_succ, List.filter_append, List.map_append]
  simp only [List.filter_cons, List.filter_nil, List.getD_eq_getElem?_getD, List.getElem?_eq_getElem h, List.getElem?_eq_getElem hi, Option.getD_some]
  split <;> simp_all
theorem pairsTo_succ (ops : List Op5) (i : Nat) : pairsTo ops (i + 1) = pairsTo ops i ++ pairsRow ops i ops.length := by
  unfold pairsTo
  rw [List.range_succ, List.flatMap_append]; simp
theorem pairsRow_length (ops : List Op5) (i j : Nat) : (pairsRow ops i j).length ≤ j := by
  unfold pairsRow
  rw [List.length_map]
  exact Nat.le_trans (List.length_filter_le _ _) (by simp)
theorem pairsTo_length (ops : List Op5) : ∀ i, (pairsTo ops i).length ≤ i * ops.length
  | 0 => by simp [pairsTo]
  | i + 1 => by
    rw [pairsTo_succ, List.length_append, Nat.succ_mul]
    have := pairsTo_length ops i
    have := pairsRow_length ops i ops.length
    omega

end Go.AX

namespace Go.AX
open Go.Proofs

/-! ### Plain laws -/
def meetsS (a b : Op5) : Bool := decide (a.s = b.s) || decide (a.e = b.s) || decide (a.s = b.e) || (decide (a.e = b.e) && !decide (a.e = -1))
def badS (a o : Op5) : Bool := decide (o.s ≤ a.s) || meetsS a o
def openS (a o : Op5) : Bool := decide (a.p = o.p) && !aheadS a o
def stepE (pre : List Op5) (o : Op5) : Int := if aloneS o ≠ 0 then aloneS o else if pre.any (fun a => badS a o) = true then 32 else if pre.any (fun a => openS a o) = true then 33 else 0
def errAt (ops : List Op5) (i : Nat) : Int := stepE (ops.take i) (ops.getD i default)
def okTo (ops : List Op5) (i : Nat) : Prop := ∀ j, j < i → errAt ops j = 0
def chk (ops : List Op5) : Int × Int :=
  if ops.length > 5000 then (0, 3) else match (List.range ops.length).find? (fun i => decide (errAt ops i ≠ 0)) with
  | some i => ((i : Int), errAt ops i)
  | none => ((ops.length : Int), 0)
theorem chk_big {ops : List Op5} (h : ops.length > 5000) : chk ops = (0, 3) := by unfold chk; rw [if_pos h]
theorem chk_bad {ops : List Op5} (h : ops.length ≤ 5000) {i : Nat} (hi : i < ops.length) (ho : okTo ops i) (he : errAt ops i ≠ 0) : chk ops = ((i : Int), errAt ops i) := by
  unfold chk
  rw [if_neg (by omega)]
  have : (List.range ops.length).find? (fun i => decide (errAt ops i ≠ 0)) = some i := by
    rw [List.find?_range_eq_some]
    refine ⟨by simpa using he, by simpa using hi, fun j hj => by simpa using ho j hj⟩
  rw [this]
theorem chk_ok {ops : List Op5} (h : ops.length ≤ 5000) (ho : okTo ops ops.length) : chk ops = ((ops.length : Int), 0) := by
  unfold chk
  rw [if_neg (by omega)]
  have : (List.range ops.length).find? (fun i => decide (errAt ops i ≠ 0)) = none := by
    rw [List.find?_range_eq_none]
    intro j hj; simpa using ho j hj
  rw [this]
theorem okTo_succ {ops : List Op5} {i : Nat} (h : okTo ops i) (he : errAt ops i = 0) : okTo ops (i + 1) := fun j hj => by
  rcases Nat.lt_or_ge j i with h1 | h1
  · exact h j h1
  · have : j = i := by omega
    subst this; exact he
theorem errAt_eq {ops : List Op5} {i : Nat} (h : i < ops.length) : errAt ops i = stepE (ops.take i) ops[i] := by
  unfold errAt; simp [h]
theorem chk_alone {ops : List Op5} {i : Nat} (h : ops.length ≤ 5000) (hi : i < ops.length) (ho : okTo ops i) {n : Int} (hn : aloneS ops[i] = n) (h0 : n ≠ 0) : chk ops = ((i : Int), n) := by
  have he : errAt ops i = n := by rw [errAt_eq hi, stepE, if_pos (by rw [hn]; exact h0), hn]
  rw [chk_bad h hi ho (by rw [he]; exact h0), he]
theorem chk_order {ops : List Op5} {i : Nat} (h : ops.length ≤ 5000) (hi : i < ops.length) (ho : okTo ops i) (hn : aloneS ops[i] = 0) (hb : (ops.take i).any (fun a => badS a ops[i]) = true) : chk ops = ((i : Int), 32) := by
  have he : errAt ops i = 32 := by rw [errAt_eq hi, stepE, if_neg (by simp [hn]), if_pos hb]
  rw [chk_bad h hi ho (by rw [he]; decide), he]
theorem chk_open {ops : List Op5} {i : Nat} (h : ops.length ≤ 5000) (hi : i < ops.length) (ho : okTo ops i) (hn : aloneS ops[i] = 0) (hb : (ops.take i).any (fun a => badS a ops[i]) = false) (hc : (ops.take i).any (fun a => openS a ops[i]) = true) : chk ops = ((i : Int), 33) := by
  have he : errAt ops i = 33 := by rw [errAt_eq hi, stepE, if_neg (by simp [hn]), if_neg (by simp [hb]), if_pos hc]
  rw [chk_bad h hi ho (by rw [he]; decide), he]
theorem errAt_zero {ops : List Op5} {i : Nat} (hi : i < ops.length) (hn : aloneS ops[i] = 0) (hb : (ops.take i).any (fun a => badS a ops[i]) = false) (hc : (ops.take i).any (fun a => openS a ops[i]) = false) : errAt ops i = 0 := by
  rw [errAt_eq hi, stepE, if_neg (by simp [hn]), if_neg (by simp [hb]), if_neg (by simp [hc])]
theorem any_take_true {ops : List Op5} {i k : Nat} (f : Op5 → Bool) (hi : i ≤ ops.length) (hk : k < i) (h : f (ops[k]'(by omega)) = true) : (ops.take i).any f = true := by
  rw [List.any_eq_true]
  exact ⟨_, List.mem_take_iff_getElem.2 ⟨k, by omega, rfl⟩, h⟩
theorem any_take_succ {ops : List Op5} {k : Nat} (f : Op5 → Bool) (h : k < ops.length) : (ops.take (k + 1)).any f = ((ops.take k).any f || f ops[k]) := by
  rw [List.take_succ_eq_append_getElem h, List.any_append]; simp
theorem any_take_false {ops : List Op5} {k : Nat} (f : Op5 → Bool) (hk : k ≤ ops.length) (h : ∀ j (hj : j < k), f (ops[j]'(by omega)) = false) : (ops.take k).any f = false := by
  rw [List.any_eq_false]
  intro x hx
  obtain ⟨j, hj, rfl⟩ := List.mem_take_iff_getElem.1 hx
  have := h j (by omega)
  simp [this]

/-! ### The document's answer -/
/-- Is one of the first k still open? -/
def openTo (ops : List Op5) (k : Nat) (o : Op5) : Bool := (ops.take k).any fun a => openS a o
theorem openTo_succ {ops : List Op5} {k : Nat} (h : k < ops.length) (o : Op5) : openTo ops (k + 1) o = (openTo ops k o || openS ops[k] o) := any_take_succ _ h

end Go.AX
