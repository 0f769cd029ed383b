/-
  Facts on the types of the seat's program (written by facts.py).
  Contracts: the numbers of clauses (count, numbering, the document's answer).
  Contracts: operations (oper, the document's answer).
  Contracts: whether operations may be.
-/
import Derived.Test.YtlppejdonplmkaaAxXW
import Derived.Test.YtlppejdonplmkaaRows
namespace Go.AX
open Go.Proofs

@[simp] theorem ld_0 : ldInfo Try.prog 0 = some (false, 1) := by kernel_rfl
@[simp] theorem tk_1 : tk Try.prog 1 = .func := by kernel_rfl
@[simp] theorem ld_1 : ldInfo Try.prog 1 = some (false, 1) := by kernel_rfl
@[simp] theorem tk_2 : tk Try.prog 2 = .int := by kernel_rfl
@[simp] theorem ld_2 : ldInfo Try.prog 2 = some (false, 1) := by kernel_rfl
@[simp] theorem cv_2 : cvtK Try.prog 2 = some .i64 := by kernel_rfl
@[simp] theorem z_2 : zeroL Try.prog 2 = some [.lit (.int .i64 0)] := by kernel_rfl
@[simp] theorem tk_3 : tk Try.prog 3 = .int := by kernel_rfl
@[simp] theorem ld_3 : ldInfo Try.prog 3 = some (false, 1) := by kernel_rfl
@[simp] theorem cv_3 : cvtK Try.prog 3 = some .i64 := by kernel_rfl
@[simp] theorem z_3 : zeroL Try.prog 3 = some [.lit (.int .i64 0)] := by kernel_rfl
@[simp] theorem tk_4 : tk Try.prog 4 = .bool := by kernel_rfl
@[simp] theorem ld_4 : ldInfo Try.prog 4 = some (false, 1) := by kernel_rfl
@[simp] theorem z_4 : zeroL Try.prog 4 = some [.lit (.bool false)] := by kernel_rfl
@[simp] theorem tk_5 : tk Try.prog 5 = .int := by kernel_rfl
@[simp] theorem ld_5 : ldInfo Try.prog 5 = some (false, 1) := by kernel_rfl
@[simp] theorem cv_5 : cvtK Try.prog 5 = some .u8 := by kernel_rfl
@[simp] theorem z_5 : zeroL Try.prog 5 = some [.lit (.int .u8 0)] := by kernel_rfl
@[simp] theorem tk_6 : tk Try.prog 6 = .int := by kernel_rfl
@[simp] theorem ld_6 : ldInfo Try.prog 6 = some (false, 1) := by kernel_rfl
@[simp] theorem cv_6 : cvtK Try.prog 6 = some .u8 := by kernel_rfl
@[simp] theorem z_6 : zeroL Try.prog 6 = some [.lit (.int .u8 0)] := by kernel_rfl
@[simp] theorem ld_7 : ldInfo Try.prog 7 = some (true, 4) := by kernel_rfl
@[simp] theorem z_7 : zeroL Try.prog 7 = some [.lit (.int .i64 0), .lit (.int .i64 0), .lit (.bool false), .lit (.int .u8 0)] := by kernel_rfl
@[simp] theorem zv_7 : zeroV Try.prog 7 = some [.lit (.int .i64 0), .lit (.int .i64 0), .lit (.bool false), .lit (.int .u8 0)] := by kernel_rfl
@[simp] theorem bi_7 : bInfo Try.prog 7 = some [(0, 1), (1, 1), (2, 1), (3, 1)] := by kernel_rfl
@[simp] theorem ld_8 : ldInfo Try.prog 8 = some (true, 4) := by kernel_rfl
@[simp] theorem z_8 : zeroL Try.prog 8 = some [.lit (.int .i64 0), .lit (.int .i64 0), .lit (.bool false), .lit (.int .u8 0)] := by kernel_rfl
@[simp] theorem zv_8 : zeroV Try.prog 8 = some [.lit (.int .i64 0), .lit (.int .i64 0), .lit (.bool false), .lit (.int .u8 0)] := by kernel_rfl
@[simp] theorem bi_8 : bInfo Try.prog 8 = some [(0, 1), (1, 1), (2, 1), (3, 1)] := by kernel_rfl
@[simp] theorem tk_9 : tk Try.prog 9 = .string := by kernel_rfl
@[simp] theorem ld_9 : ldInfo Try.prog 9 = some (false, 1) := by kernel_rfl
@[simp] theorem z_9 : zeroL Try.prog 9 = some [.lit (.string ByteArray.empty)] := by kernel_rfl
@[simp] theorem tk_10 : tk Try.prog 10 = .string := by kernel_rfl
@[simp] theorem ld_10 : ldInfo Try.prog 10 = some (false, 1) := by kernel_rfl
@[simp] theorem z_10 : zeroL Try.prog 10 = some [.lit (.string ByteArray.empty)] := by kernel_rfl
@[simp] theorem tk_11 : tk Try.prog 11 = .string := by kernel_rfl
@[simp] theorem ld_11 : ldInfo Try.prog 11 = some (false, 1) := by kernel_rfl
@[simp] theorem z_11 : zeroL Try.prog 11 = some [.lit (.string ByteArray.empty)] := by kernel_rfl
@[simp] theorem tk_12 : tk Try.prog 12 = .int := by kernel_rfl
@[simp] theorem ld_12 : ldInfo Try.prog 12 = some (false, 1) := by kernel_rfl
@[simp] theorem cv_12 : cvtK Try.prog 12 = some .u64 := by kernel_rfl
@[simp] theorem z_12 : zeroL Try.prog 12 = some [.lit (.int .u64 0)] := by kernel_rfl
@[simp] theorem ld_13 : ldInfo Try.prog 13 = some (true, 2) := by kernel_rfl
@[simp] theorem z_13 : zeroL Try.prog 13 = some [.lit (.string ByteArray.empty), .lit (.int .u64 0)] := by kernel_rfl
@[simp] theorem zv_13 : zeroV Try.prog 13 = some [.lit (.string ByteArray.empty), .lit (.int .u64 0)] := by kernel_rfl
@[simp] theorem bi_13 : bInfo Try.prog 13 = some [(0, 1), (1, 1)] := by kernel_rfl
@[simp] theorem ld_14 : ldInfo Try.prog 14 = some (true, 2) := by kernel_rfl
@[simp] theorem z_14 : zeroL Try.prog 14 = some [.lit (.string ByteArray.empty), .lit (.int .u64 0)] := by kernel_rfl
@[simp] theorem zv_14 : zeroV Try.prog 14 = some [.lit (.string ByteArray.empty), .lit (.int .u64 0)] := by kernel_rfl
@[simp] theorem bi_14 : bInfo Try.prog 14 = some [(0, 1), (1, 1)] := by kernel_rfl
@[simp] theorem tk_15 : tk Try.prog 15 = .ptr := by kernel_rfl
@[simp] theorem ld_15 : ldInfo Try.prog 15 = some (false, 1) := by kernel_rfl
@[simp] theorem z_15 : zeroL Try.prog 15 = some [.lit (.pointer none)] := by kernel_rfl
@[simp] theorem tk_16 : tk Try.prog 16 = .ptr := by kernel_rfl
@[simp] theorem ld_16 : ldInfo Try.prog 16 = some (false, 1) := by kernel_rfl
@[simp] theorem z_16 : zeroL Try.prog 16 = some [.lit (.pointer none)] := by kernel_rfl
@[simp] theorem tk_17 : tk Try.prog 17 = .ptr := by kernel_rfl
@[simp] theorem ld_17 : ldInfo Try.prog 17 = some (false, 1) := by kernel_rfl
@[simp] theorem z_17 : zeroL Try.prog 17 = some [.lit (.pointer none)] := by kernel_rfl
@[simp] theorem ld_18 : ldInfo Try.prog 18 = some (true, 1) := by kernel_rfl
@[simp] theorem z_18 : zeroL Try.prog 18 = some [.lit (.pointer none)] := by kernel_rfl
@[simp] theorem zv_18 : zeroV Try.prog 18 = some [.lit (.pointer none)] := by kernel_rfl
@[simp] theorem bi_18 : bInfo Try.prog 18 = some [(0, 1)] := by kernel_rfl
@[simp] theorem ld_19 : ldInfo Try.prog 19 = some (true, 1) := by kernel_rfl
@[simp] theorem z_19 : zeroL Try.prog 19 = some [.lit (.pointer none)] := by kernel_rfl
@[simp] theorem zv_19 : zeroV Try.prog 19 = some [.lit (.pointer none)] := by kernel_rfl
@[simp] theorem bi_19 : bInfo Try.prog 19 = some [(0, 1)] := by kernel_rfl
@[simp] theorem ld_20 : ldInfo Try.prog 20 = some (false, 1) := by kernel_rfl
@[simp] theorem tk_21 : tk Try.prog 21 = .int := by kernel_rfl
@[simp] theorem ld_21 : ldInfo Try.prog 21 = some (false, 1) := by kernel_rfl
@[simp] theorem cv_21 : cvtK Try.prog 21 = some .i32 := by kernel_rfl
@[simp] theorem z_21 : zeroL Try.prog 21 = some [.lit (.int .i32 0)] := by kernel_rfl
@[simp] theorem tk_22 : tk Try.prog 22 = .slice := by kernel_rfl
@[simp] theorem ld_22 : ldInfo Try.prog 22 = some (false, 1) := by kernel_rfl
@[simp] theorem sl_22 : slSize Try.prog 22 = some 4 := by kernel_rfl
@[simp] theorem si_22 : slInfo Try.prog 22 = some (4, 32) := by kernel_rfl
@[simp] theorem z_22 : zeroL Try.prog 22 = some [.lit (.slice none 0 0)] := by kernel_rfl
@[simp] theorem sz_22 : slZero Try.prog 22 = some [.lit (.int .i64 0), .lit (.int .i64 0), .lit (.int .i64 0), .lit (.int .i64 0)] := by kernel_rfl
@[simp] theorem ld_23 : ldInfo Try.prog 23 = some (true, 4) := by kernel_rfl
@[simp] theorem z_23 : zeroL Try.prog 23 = some [.lit (.int .i64 0), .lit (.int .i64 0), .lit (.int .i64 0), .lit (.slice none 0 0)] := by kernel_rfl
@[simp] theorem zv_23 : zeroV Try.prog 23 = some [.lit (.int .i64 0), .lit (.int .i64 0), .lit (.int .i64 0), .lit (.slice none 0 0)] := by kernel_rfl
@[simp] theorem bi_23 : bInfo Try.prog 23 = some [(0, 1), (1, 1), (2, 1), (3, 1)] := by kernel_rfl
@[simp] theorem ld_24 : ldInfo Try.prog 24 = some (true, 4) := by kernel_rfl
@[simp] theorem z_24 : zeroL Try.prog 24 = some [.lit (.int .i64 0), .lit (.int .i64 0), .lit (.int .i64 0), .lit (.slice none 0 0)] := by kernel_rfl
@[simp] theorem zv_24 : zeroV Try.prog 24 = some [.lit (.int .i64 0), .lit (.int .i64 0), .lit (.int .i64 0), .lit (.slice none 0 0)] := by kernel_rfl
@[simp] theorem bi_24 : bInfo Try.prog 24 = some [(0, 1), (1, 1), (2, 1), (3, 1)] := by kernel_rfl
@[simp] theorem tk_25 : tk Try.prog 25 = .flat 2 := by kernel_rfl
@[simp] theorem ld_25 : ldInfo Try.prog 25 = some (true, 2) := by kernel_rfl
@[simp] theorem sln_25 : slSize Try.prog 25 = none := by kernel_rfl
@[simp] theorem ar_25 : arSize Try.prog 25 = some (2, 1) := by kernel_rfl
@[simp] theorem z_25 : zeroL Try.prog 25 = some [.lit (.int .i64 0), .lit (.int .i64 0)] := by kernel_rfl
@[simp] theorem zv_25 : zeroV Try.prog 25 = some [.lit (.int .i64 0), .lit (.int .i64 0)] := by kernel_rfl
@[simp] theorem bi_25 : bInfo Try.prog 25 = some [(0, 1), (1, 1)] := by kernel_rfl
@[simp] theorem ai_25 : arInfo Try.prog 25 = some (2, false, 1) := by kernel_rfl
@[simp] theorem tk_26 : tk Try.prog 26 = .func := by kernel_rfl
@[simp] theorem ld_26 : ldInfo Try.prog 26 = some (false, 1) := by kernel_rfl
@[simp] theorem tk_27 : tk Try.prog 27 = .func := by kernel_rfl
@[simp] theorem ld_27 : ldInfo Try.prog 27 = some (false, 1) := by kernel_rfl
@[simp] theorem tk_28 : tk Try.prog 28 = .int := by kernel_rfl
@[simp] theorem ld_28 : ldInfo Try.prog 28 = some (false, 1) := by kernel_rfl
@[simp] theorem cv_28 : cvtK Try.prog 28 = some .i64 := by kernel_rfl
@[simp] theorem z_28 : zeroL Try.prog 28 = some [.lit (.int .i64 0)] := by kernel_rfl
@[simp] theorem ld_29 : ldInfo Try.prog 29 = some (false, 1) := by kernel_rfl
@[simp] theorem tk_30 : tk Try.prog 30 = .func := by kernel_rfl
@[simp] theorem ld_30 : ldInfo Try.prog 30 = some (false, 1) := by kernel_rfl
@[simp] theorem ld_31 : ldInfo Try.prog 31 = some (false, 1) := by kernel_rfl
@[simp] theorem tk_32 : tk Try.prog 32 = .func := by kernel_rfl
@[simp] theorem ld_32 : ldInfo Try.prog 32 = some (false, 1) := by kernel_rfl
@[simp] theorem ld_33 : ldInfo Try.prog 33 = some (false, 1) := by kernel_rfl
@[simp] theorem tk_34 : tk Try.prog 34 = .func := by kernel_rfl
@[simp] theorem ld_34 : ldInfo Try.prog 34 = some (false, 1) := by kernel_rfl
@[simp] theorem tk_35 : tk Try.prog 35 = .func := by kernel_rfl
@[simp] theorem ld_35 : ldInfo Try.prog 35 = some (false, 1) := by kernel_rfl
@[simp] theorem tk_36 : tk Try.prog 36 = .slice := by kernel_rfl
@[simp] theorem ld_36 : ldInfo Try.prog 36 = some (false, 1) := by kernel_rfl
@[simp] theorem sl_36 : slSize Try.prog 36 = some 1 := by kernel_rfl
@[simp] theorem si_36 : slInfo Try.prog 36 = some (1, 8) := by kernel_rfl
@[simp] theorem z_36 : zeroL Try.prog 36 = some [.lit (.slice none 0 0)] := by kernel_rfl
@[simp] theorem sz_36 : slZero Try.prog 36 = some [.lit (.int .i64 0)] := by kernel_rfl
@[simp] theorem tk_37 : tk Try.prog 37 = .func := by kernel_rfl
@[simp] theorem ld_37 : ldInfo Try.prog 37 = some (false, 1) := by kernel_rfl
@[simp] theorem tk_38 : tk Try.prog 38 = .func := by kernel_rfl
@[simp] theorem ld_38 : ldInfo Try.prog 38 = some (false, 1) := by kernel_rfl
@[simp] theorem tk_39 : tk Try.prog 39 = .func := by kernel_rfl
@[simp] theorem ld_39 : ldInfo Try.prog 39 = some (false, 1) := by kernel_rfl
@[simp] theorem tk_40 : tk Try.prog 40 = .func := by kernel_rfl
@[simp] theorem ld_40 : ldInfo Try.prog 40 = some (false, 1) := by kernel_rfl
@[simp] theorem tk_41 : tk Try.prog 41 = .func := by kernel_rfl
@[simp] theorem ld_41 : ldInfo Try.prog 41 = some (false, 1) := by kernel_rfl
@[simp] theorem tk_42 : tk Try.prog 42 = .flat 4 := by kernel_rfl
@[simp] theorem ld_42 : ldInfo Try.prog 42 = some (true, 4) := by kernel_rfl
@[simp] theorem z_42 : zeroL Try.prog 42 = some [.lit (.int .i64 0), .lit (.int .i64 0), .lit (.int .i64 0), .lit (.int .i64 0)] := by kernel_rfl
@[simp] theorem zv_42 : zeroV Try.prog 42 = some [.lit (.int .i64 0), .lit (.int .i64 0), .lit (.int .i64 0), .lit (.int .i64 0)] := by kernel_rfl
@[simp] theorem bi_42 : bInfo Try.prog 42 = some [(0, 1), (1, 1), (2, 1), (3, 1)] := by kernel_rfl
@[simp] theorem tk_43 : tk Try.prog 43 = .flat 4 := by kernel_rfl
@[simp] theorem ld_43 : ldInfo Try.prog 43 = some (true, 4) := by kernel_rfl
@[simp] theorem z_43 : zeroL Try.prog 43 = some [.lit (.int .i64 0), .lit (.int .i64 0), .lit (.int .i64 0), .lit (.int .i64 0)] := by kernel_rfl
@[simp] theorem zv_43 : zeroV Try.prog 43 = some [.lit (.int .i64 0), .lit (.int .i64 0), .lit (.int .i64 0), .lit (.int .i64 0)] := by kernel_rfl
@[simp] theorem bi_43 : bInfo Try.prog 43 = some [(0, 1), (1, 1), (2, 1), (3, 1)] := by kernel_rfl
@[simp] theorem tk_44 : tk Try.prog 44 = .func := by kernel_rfl
@[simp] theorem ld_44 : ldInfo Try.prog 44 = some (false, 1) := by kernel_rfl
@[simp] theorem tk_45 : tk Try.prog 45 = .func := by kernel_rfl
@[simp] theorem ld_45 : ldInfo Try.prog 45 = some (false, 1) := by kernel_rfl
@[simp] theorem tk_46 : tk Try.prog 46 = .func := by kernel_rfl
@[simp] theorem ld_46 : ldInfo Try.prog 46 = some (false, 1) := by kernel_rfl
@[simp] theorem tk_47 : tk Try.prog 47 = .func := by kernel_rfl
@[simp] theorem ld_47 : ldInfo Try.prog 47 = some (false, 1) := by kernel_rfl
@[simp] theorem tk_48 : tk Try.prog 48 = .func := by kernel_rfl
@[simp] theorem ld_48 : ldInfo Try.prog 48 = some (false, 1) := by kernel_rfl
@[simp] theorem tk_49 : tk Try.prog 49 = .func := by kernel_rfl
@[simp] theorem ld_49 : ldInfo Try.prog 49 = some (false, 1) := by kernel_rfl
@[simp] theorem tk_50 : tk Try.prog 50 = .func := by kernel_rfl
@[simp] theorem ld_50 : ldInfo Try.prog 50 = some (false, 1) := by kernel_rfl
@[simp] theorem tk_51 : tk Try.prog 51 = .func := by kernel_rfl
@[simp] theorem ld_51 : ldInfo Try.prog 51 = some (false, 1) := by kernel_rfl
@[simp] theorem ld_52 : ldInfo Try.prog 52 = some (true, 32) := by kernel_rfl
@[simp] theorem sln_52 : slSize Try.prog 52 = none := by kernel_rfl
@[simp] theorem ar_52 : arSize Try.prog 52 = some (32, 1) := by kernel_rfl
@[simp] theorem z_52 : zeroL Try.prog 52 = some [.lit (.bool false), .lit (.bool false), .lit (.bool false), .lit (.bool false), .lit (.bool false), .lit (.bool false), .lit (.bool false), .lit (.bool false), .lit (.bool false), .lit (.bool false), .lit (.bool false), .lit (.bool false), .lit (.bool false), .lit (.bool false), .lit (.bool false), .lit (.bool false), .lit (.bool false), .lit (.bool false), .lit (.bool false), .lit (.bool false), .lit (.bool false), .lit (.bool false), .lit (.bool false), .lit (.bool false), .lit (.bool false), .lit (.bool false), .lit (.bool false), .lit (.bool false), .lit (.bool false), .lit (.bool false), .lit (.bool false), .lit (.bool false)] := by kernel_rfl
@[simp] theorem zv_52 : zeroV Try.prog 52 = some [.lit (.bool false), .lit (.bool false), .lit (.bool false), .lit (.bool false), .lit (.bool false), .lit (.bool false), .lit (.bool false), .lit (.bool false), .lit (.bool false), .lit (.bool false), .lit (.bool false), .lit (.bool false), .lit (.bool false), .lit (.bool false), .lit (.bool false), .lit (.bool false), .lit (.bool false), .lit (.bool false), .lit (.bool false), .lit (.bool false), .lit (.bool false), .lit (.bool false), .lit (.bool false), .lit (.bool false), .lit (.bool false), .lit (.bool false), .lit (.bool false), .lit (.bool false), .lit (.bool false), .lit (.bool false), .lit (.bool false), .lit (.bool false)] := by kernel_rfl
@[simp] theorem bi_52 : bInfo Try.prog 52 = some [(0, 1), (1, 1), (2, 1), (3, 1), (4, 1), (5, 1), (6, 1), (7, 1), (8, 1), (9, 1), (10, 1), (11, 1), (12, 1), (13, 1), (14, 1), (15, 1), (16, 1), (17, 1), (18, 1), (19, 1), (20, 1), (21, 1), (22, 1), (23, 1), (24, 1), (25, 1), (26, 1), (27, 1), (28, 1), (29, 1), (30, 1), (31, 1)] := by kernel_rfl
@[simp] theorem ai_52 : arInfo Try.prog 52 = some (32, false, 1) := by kernel_rfl
@[simp] theorem tk_53 : tk Try.prog 53 = .func := by kernel_rfl
@[simp] theorem ld_53 : ldInfo Try.prog 53 = some (false, 1) := by kernel_rfl
@[simp] theorem tk_54 : tk Try.prog 54 = .func := by kernel_rfl
@[simp] theorem ld_54 : ldInfo Try.prog 54 = some (false, 1) := by kernel_rfl
@[simp] theorem tk_55 : tk Try.prog 55 = .func := by kernel_rfl
@[simp] theorem ld_55 : ldInfo Try.prog 55 = some (false, 1) := by kernel_rfl
@[simp] theorem tk_56 : tk Try.prog 56 = .func := by kernel_rfl
@[simp] theorem ld_56 : ldInfo Try.prog 56 = some (false, 1) := by kernel_rfl
@[simp] theorem tk_57 : tk Try.prog 57 = .func := by kernel_rfl
@[simp] theorem ld_57 : ldInfo Try.prog 57 = some (false, 1) := by kernel_rfl
@[simp] theorem tk_58 : tk Try.prog 58 = .func := by kernel_rfl
@[simp] theorem ld_58 : ldInfo Try.prog 58 = some (false, 1) := by kernel_rfl
@[simp] theorem tk_59 : tk Try.prog 59 = .func := by kernel_rfl
@[simp] theorem ld_59 : ldInfo Try.prog 59 = some (false, 1) := by kernel_rfl
@[simp] theorem tk_60 : tk Try.prog 60 = .func := by kernel_rfl
@[simp] theorem ld_60 : ldInfo Try.prog 60 = some (false, 1) := by kernel_rfl
@[simp] theorem tk_61 : tk Try.prog 61 = .func := by kernel_rfl
@[simp] theorem ld_61 : ldInfo Try.prog 61 = some (false, 1) := by kernel_rfl
@[simp] theorem tk_62 : tk Try.prog 62 = .int := by kernel_rfl
@[simp] theorem ld_62 : ldInfo Try.prog 62 = some (false, 1) := by kernel_rfl
@[simp] theorem cv_62 : cvtK Try.prog 62 = some .u64 := by kernel_rfl
@[simp] theorem z_62 : zeroL Try.prog 62 = some [.lit (.int .u64 0)] := by kernel_rfl
@[simp] theorem tk_63 : tk Try.prog 63 = .func := by kernel_rfl
@[simp] theorem ld_63 : ldInfo Try.prog 63 = some (false, 1) := by kernel_rfl
@[simp] theorem tk_64 : tk Try.prog 64 = .func := by kernel_rfl
@[simp] theorem ld_64 : ldInfo Try.prog 64 = some (false, 1) := by kernel_rfl
@[simp] theorem tk_65 : tk Try.prog 65 = .func := by kernel_rfl
@[simp] theorem ld_65 : ldInfo Try.prog 65 = some (false, 1) := by kernel_rfl
@[simp] theorem tk_66 : tk Try.prog 66 = .int := by kernel_rfl
@[simp] theorem ld_66 : ldInfo Try.prog 66 = some (false, 1) := by kernel_rfl
@[simp] theorem cv_66 : cvtK Try.prog 66 = some .i64 := by kernel_rfl
@[simp] theorem z_66 : zeroL Try.prog 66 = some [.lit (.int .i64 0)] := by kernel_rfl
@[simp] theorem ld_67 : ldInfo Try.prog 67 = some (false, 1) := by kernel_rfl
@[simp] theorem tk_68 : tk Try.prog 68 = .func := by kernel_rfl
@[simp] theorem ld_68 : ldInfo Try.prog 68 = some (false, 1) := by kernel_rfl
@[simp] theorem tk_69 : tk Try.prog 69 = .func := by kernel_rfl
@[simp] theorem ld_69 : ldInfo Try.prog 69 = some (false, 1) := by kernel_rfl
@[simp] theorem tk_70 : tk Try.prog 70 = .func := by kernel_rfl
@[simp] theorem ld_70 : ldInfo Try.prog 70 = some (false, 1) := by kernel_rfl
@[simp] theorem ld_71 : ldInfo Try.prog 71 = some (false, 1) := by kernel_rfl
@[simp] theorem tk_72 : tk Try.prog 72 = .func := by kernel_rfl
@[simp] theorem ld_72 : ldInfo Try.prog 72 = some (false, 1) := by kernel_rfl
@[simp] theorem tk_73 : tk Try.prog 73 = .func := by kernel_rfl
@[simp] theorem ld_73 : ldInfo Try.prog 73 = some (false, 1) := by kernel_rfl
@[simp] theorem tk_74 : tk Try.prog 74 = .int := by kernel_rfl
@[simp] theorem ld_74 : ldInfo Try.prog 74 = some (false, 1) := by kernel_rfl
@[simp] theorem cv_74 : cvtK Try.prog 74 = some .u32 := by kernel_rfl
@[simp] theorem z_74 : zeroL Try.prog 74 = some [.lit (.int .u32 0)] := by kernel_rfl
@[simp] theorem tk_75 : tk Try.prog 75 = .func := by kernel_rfl
@[simp] theorem ld_75 : ldInfo Try.prog 75 = some (false, 1) := by kernel_rfl
@[simp] theorem tk_76 : tk Try.prog 76 = .int := by kernel_rfl
@[simp] theorem ld_76 : ldInfo Try.prog 76 = some (false, 1) := by kernel_rfl
@[simp] theorem cv_76 : cvtK Try.prog 76 = some .u64 := by kernel_rfl
@[simp] theorem z_76 : zeroL Try.prog 76 = some [.lit (.int .u64 0)] := by kernel_rfl
@[simp] theorem tk_77 : tk Try.prog 77 = .func := by kernel_rfl
@[simp] theorem ld_77 : ldInfo Try.prog 77 = some (false, 1) := by kernel_rfl
@[simp] theorem tk_78 : tk Try.prog 78 = .func := by kernel_rfl
@[simp] theorem ld_78 : ldInfo Try.prog 78 = some (false, 1) := by kernel_rfl
@[simp] theorem tk_79 : tk Try.prog 79 = .func := by kernel_rfl
@[simp] theorem ld_79 : ldInfo Try.prog 79 = some (false, 1) := by kernel_rfl
@[simp] theorem tk_80 : tk Try.prog 80 = .func := by kernel_rfl
@[simp] theorem ld_80 : ldInfo Try.prog 80 = some (false, 1) := by kernel_rfl
@[simp] theorem tk_81 : tk Try.prog 81 = .func := by kernel_rfl
@[simp] theorem ld_81 : ldInfo Try.prog 81 = some (false, 1) := by kernel_rfl
@[simp] theorem tk_82 : tk Try.prog 82 = .int := by kernel_rfl
@[simp] theorem ld_82 : ldInfo Try.prog 82 = some (false, 1) := by kernel_rfl
@[simp] theorem cv_82 : cvtK Try.prog 82 = some .u64 := by kernel_rfl
@[simp] theorem z_82 : zeroL Try.prog 82 = some [.lit (.int .u64 0)] := by kernel_rfl
@[simp] theorem tk_83 : tk Try.prog 83 = .func := by kernel_rfl
@[simp] theorem ld_83 : ldInfo Try.prog 83 = some (false, 1) := by kernel_rfl
@[simp] theorem tk_84 : tk Try.prog 84 = .func := by kernel_rfl
@[simp] theorem ld_84 : ldInfo Try.prog 84 = some (false, 1) := by kernel_rfl
@[simp] theorem tk_85 : tk Try.prog 85 = .func := by kernel_rfl
@[simp] theorem ld_85 : ldInfo Try.prog 85 = some (false, 1) := by kernel_rfl
@[simp] theorem tk_86 : tk Try.prog 86 = .ptr := by kernel_rfl
@[simp] theorem ld_86 : ldInfo Try.prog 86 = some (false, 1) := by kernel_rfl
@[simp] theorem z_86 : zeroL Try.prog 86 = some [.lit (.pointer none)] := by kernel_rfl
@[simp] theorem tk_87 : tk Try.prog 87 = .func := by kernel_rfl
@[simp] theorem ld_87 : ldInfo Try.prog 87 = some (false, 1) := by kernel_rfl
@[simp] theorem tk_88 : tk Try.prog 88 = .func := by kernel_rfl
@[simp] theorem ld_88 : ldInfo Try.prog 88 = some (false, 1) := by kernel_rfl
@[simp] theorem tk_89 : tk Try.prog 89 = .func := by kernel_rfl
@[simp] theorem ld_89 : ldInfo Try.prog 89 = some (false, 1) := by kernel_rfl
@[simp] theorem tk_90 : tk Try.prog 90 = .ptr := by kernel_rfl
@[simp] theorem ld_90 : ldInfo Try.prog 90 = some (false, 1) := by kernel_rfl
@[simp] theorem z_90 : zeroL Try.prog 90 = some [.lit (.pointer none)] := by kernel_rfl
@[simp] theorem tk_91 : tk Try.prog 91 = .func := by kernel_rfl
@[simp] theorem ld_91 : ldInfo Try.prog 91 = some (false, 1) := by kernel_rfl
@[simp] theorem tk_92 : tk Try.prog 92 = .func := by kernel_rfl
@[simp] theorem ld_92 : ldInfo Try.prog 92 = some (false, 1) := by kernel_rfl
@[simp] theorem tk_93 : tk Try.prog 93 = .func := by kernel_rfl
@[simp] theorem ld_93 : ldInfo Try.prog 93 = some (false, 1) := by kernel_rfl
@[simp] theorem ld_94 : ldInfo Try.prog 94 = some (true, 4) := by kernel_rfl
@[simp] theorem z_94 : zeroL Try.prog 94 = some [.lit (.pointer none), .lit (.pointer none), .lit (.pointer none), .lit (.string ByteArray.empty)] := by kernel_rfl
@[simp] theorem zv_94 : zeroV Try.prog 94 = some [.lit (.pointer none), .lit (.pointer none), .lit (.pointer none), .lit (.string ByteArray.empty)] := by kernel_rfl
@[simp] theorem bi_94 : bInfo Try.prog 94 = some [(0, 1), (1, 1), (2, 1), (3, 1)] := by kernel_rfl
@[simp] theorem ld_95 : ldInfo Try.prog 95 = some (true, 4) := by kernel_rfl
@[simp] theorem z_95 : zeroL Try.prog 95 = some [.lit (.pointer none), .lit (.pointer none), .lit (.pointer none), .lit (.string ByteArray.empty)] := by kernel_rfl
@[simp] theorem zv_95 : zeroV Try.prog 95 = some [.lit (.pointer none), .lit (.pointer none), .lit (.pointer none), .lit (.string ByteArray.empty)] := by kernel_rfl
@[simp] theorem bi_95 : bInfo Try.prog 95 = some [(0, 1), (1, 1), (2, 1), (3, 1)] := by kernel_rfl
@[simp] theorem ld_96 : ldInfo Try.prog 96 = some (true, 0) := by kernel_rfl
@[simp] theorem sln_96 : slSize Try.prog 96 = none := by kernel_rfl
@[simp] theorem ar_96 : arSize Try.prog 96 = some (0, 1) := by kernel_rfl
@[simp] theorem z_96 : zeroL Try.prog 96 = some [] := by kernel_rfl
@[simp] theorem zv_96 : zeroV Try.prog 96 = some [] := by kernel_rfl
@[simp] theorem bi_96 : bInfo Try.prog 96 = some [] := by kernel_rfl
@[simp] theorem ai_96 : arInfo Try.prog 96 = some (0, false, 1) := by kernel_rfl
@[simp] theorem ld_97 : ldInfo Try.prog 97 = some (true, 0) := by kernel_rfl
@[simp] theorem z_97 : zeroL Try.prog 97 = some [] := by kernel_rfl
@[simp] theorem zv_97 : zeroV Try.prog 97 = some [] := by kernel_rfl
@[simp] theorem bi_97 : bInfo Try.prog 97 = some [(0, 0)] := by kernel_rfl
@[simp] theorem ld_98 : ldInfo Try.prog 98 = some (true, 0) := by kernel_rfl
@[simp] theorem z_98 : zeroL Try.prog 98 = some [] := by kernel_rfl
@[simp] theorem zv_98 : zeroV Try.prog 98 = some [] := by kernel_rfl
@[simp] theorem bi_98 : bInfo Try.prog 98 = some [(0, 0)] := by kernel_rfl
@[simp] theorem tk_99 : tk Try.prog 99 = .func := by kernel_rfl
@[simp] theorem ld_99 : ldInfo Try.prog 99 = some (false, 1) := by kernel_rfl
@[simp] theorem tk_100 : tk Try.prog 100 = .int := by kernel_rfl
@[simp] theorem ld_100 : ldInfo Try.prog 100 = some (false, 1) := by kernel_rfl
@[simp] theorem cv_100 : cvtK Try.prog 100 = some .u8 := by kernel_rfl
@[simp] theorem z_100 : zeroL Try.prog 100 = some [.lit (.int .u8 0)] := by kernel_rfl
@[simp] theorem tk_101 : tk Try.prog 101 = .int := by kernel_rfl
@[simp] theorem ld_101 : ldInfo Try.prog 101 = some (false, 1) := by kernel_rfl
@[simp] theorem cv_101 : cvtK Try.prog 101 = some .u8 := by kernel_rfl
@[simp] theorem z_101 : zeroL Try.prog 101 = some [.lit (.int .u8 0)] := by kernel_rfl
@[simp] theorem tk_102 : tk Try.prog 102 = .func := by kernel_rfl
@[simp] theorem ld_102 : ldInfo Try.prog 102 = some (false, 1) := by kernel_rfl
@[simp] theorem tk_103 : tk Try.prog 103 = .ptr := by kernel_rfl
@[simp] theorem ld_103 : ldInfo Try.prog 103 = some (false, 1) := by kernel_rfl
@[simp] theorem z_103 : zeroL Try.prog 103 = some [.lit (.pointer none)] := by kernel_rfl
@[simp] theorem tk_104 : tk Try.prog 104 = .int := by kernel_rfl
@[simp] theorem ld_104 : ldInfo Try.prog 104 = some (false, 1) := by kernel_rfl
@[simp] theorem cv_104 : cvtK Try.prog 104 = some .i32 := by kernel_rfl
@[simp] theorem z_104 : zeroL Try.prog 104 = some [.lit (.int .i32 0)] := by kernel_rfl
@[simp] theorem tk_105 : tk Try.prog 105 = .int := by kernel_rfl
@[simp] theorem ld_105 : ldInfo Try.prog 105 = some (false, 1) := by kernel_rfl
@[simp] theorem cv_105 : cvtK Try.prog 105 = some .i32 := by kernel_rfl
@[simp] theorem z_105 : zeroL Try.prog 105 = some [.lit (.int .i32 0)] := by kernel_rfl
@[simp] theorem ld_106 : ldInfo Try.prog 106 = some (true, 11) := by kernel_rfl
@[simp] theorem ld_107 : ldInfo Try.prog 107 = some (true, 11) := by kernel_rfl
@[simp] theorem ld_108 : ldInfo Try.prog 108 = some (false, 1) := by kernel_rfl
@[simp] theorem z_108 : zeroL Try.prog 108 = some [.lit (.pointer none)] := by kernel_rfl
@[simp] theorem fo_7_0 : fOff Try.prog 7 0 = some 0 := by kernel_rfl
@[simp] theorem fi_7_0 : fldInfo Try.prog 7 0 = some (0, false, 1) := by kernel_rfl
@[simp] theorem fo_7_1 : fOff Try.prog 7 1 = some 1 := by kernel_rfl
@[simp] theorem fi_7_1 : fldInfo Try.prog 7 1 = some (1, false, 1) := by kernel_rfl
@[simp] theorem fo_7_2 : fOff Try.prog 7 2 = some 2 := by kernel_rfl
@[simp] theorem fi_7_2 : fldInfo Try.prog 7 2 = some (2, false, 1) := by kernel_rfl
@[simp] theorem fo_7_3 : fOff Try.prog 7 3 = some 3 := by kernel_rfl
@[simp] theorem fi_7_3 : fldInfo Try.prog 7 3 = some (3, false, 1) := by kernel_rfl
@[simp] theorem fo_8_0 : fOff Try.prog 8 0 = some 0 := by kernel_rfl
@[simp] theorem fi_8_0 : fldInfo Try.prog 8 0 = some (0, false, 1) := by kernel_rfl
@[simp] theorem fo_8_1 : fOff Try.prog 8 1 = some 1 := by kernel_rfl
@[simp] theorem fi_8_1 : fldInfo Try.prog 8 1 = some (1, false, 1) := by kernel_rfl
@[simp] theorem fo_8_2 : fOff Try.prog 8 2 = some 2 := by kernel_rfl
@[simp] theorem fi_8_2 : fldInfo Try.prog 8 2 = some (2, false, 1) := by kernel_rfl
@[simp] theorem fo_8_3 : fOff Try.prog 8 3 = some 3 := by kernel_rfl
@[simp] theorem fi_8_3 : fldInfo Try.prog 8 3 = some (3, false, 1) := by kernel_rfl
@[simp] theorem fo_13_0 : fOff Try.prog 13 0 = some 0 := by kernel_rfl
@[simp] theorem fi_13_0 : fldInfo Try.prog 13 0 = some (0, false, 1) := by kernel_rfl
@[simp] theorem fo_13_1 : fOff Try.prog 13 1 = some 1 := by kernel_rfl
@[simp] theorem fi_13_1 : fldInfo Try.prog 13 1 = some (1, false, 1) := by kernel_rfl
@[simp] theorem fo_14_0 : fOff Try.prog 14 0 = some 0 := by kernel_rfl
@[simp] theorem fi_14_0 : fldInfo Try.prog 14 0 = some (0, false, 1) := by kernel_rfl
@[simp] theorem fo_14_1 : fOff Try.prog 14 1 = some 1 := by kernel_rfl
@[simp] theorem fi_14_1 : fldInfo Try.prog 14 1 = some (1, false, 1) := by kernel_rfl
@[simp] theorem fo_18_0 : fOff Try.prog 18 0 = some 0 := by kernel_rfl
@[simp] theorem fi_18_0 : fldInfo Try.prog 18 0 = some (0, false, 1) := by kernel_rfl
@[simp] theorem fo_19_0 : fOff Try.prog 19 0 = some 0 := by kernel_rfl
@[simp] theorem fi_19_0 : fldInfo Try.prog 19 0 = some (0, false, 1) := by kernel_rfl
@[simp] theorem fo_23_0 : fOff Try.prog 23 0 = some 0 := by kernel_rfl
@[simp] theorem fi_23_0 : fldInfo Try.prog 23 0 = some (0, false, 1) := by kernel_rfl
@[simp] theorem fo_23_1 : fOff Try.prog 23 1 = some 1 := by kernel_rfl
@[simp] theorem fi_23_1 : fldInfo Try.prog 23 1 = some (1, false, 1) := by kernel_rfl
@[simp] theorem fo_23_2 : fOff Try.prog 23 2 = some 2 := by kernel_rfl
@[simp] theorem fi_23_2 : fldInfo Try.prog 23 2 = some (2, false, 1) := by kernel_rfl
@[simp] theorem fo_23_3 : fOff Try.prog 23 3 = some 3 := by kernel_rfl
@[simp] theorem fi_23_3 : fldInfo Try.prog 23 3 = some (3, false, 1) := by kernel_rfl
@[simp] theorem fo_24_0 : fOff Try.prog 24 0 = some 0 := by kernel_rfl
@[simp] theorem fi_24_0 : fldInfo Try.prog 24 0 = some (0, false, 1) := by kernel_rfl
@[simp] theorem fo_24_1 : fOff Try.prog 24 1 = some 1 := by kernel_rfl
@[simp] theorem fi_24_1 : fldInfo Try.prog 24 1 = some (1, false, 1) := by kernel_rfl
@[simp] theorem fo_24_2 : fOff Try.prog 24 2 = some 2 := by kernel_rfl
@[simp] theorem fi_24_2 : fldInfo Try.prog 24 2 = some (2, false, 1) := by kernel_rfl
@[simp] theorem fo_24_3 : fOff Try.prog 24 3 = some 3 := by kernel_rfl
@[simp] theorem fi_24_3 : fldInfo Try.prog 24 3 = some (3, false, 1) := by kernel_rfl
@[simp] theorem fo_42_0 : fOff Try.prog 42 0 = some 0 := by kernel_rfl
@[simp] theorem fi_42_0 : fldInfo Try.prog 42 0 = some (0, false, 1) := by kernel_rfl
@[simp] theorem fo_42_1 : fOff Try.prog 42 1 = some 1 := by kernel_rfl
@[simp] theorem fi_42_1 : fldInfo Try.prog 42 1 = some (1, false, 1) := by kernel_rfl
@[simp] theorem fo_42_2 : fOff Try.prog 42 2 = some 2 := by kernel_rfl
@[simp] theorem fi_42_2 : fldInfo Try.prog 42 2 = some (2, false, 1) := by kernel_rfl
@[simp] theorem fo_42_3 : fOff Try.prog 42 3 = some 3 := by kernel_rfl
@[simp] theorem fi_42_3 : fldInfo Try.prog 42 3 = some (3, false, 1) := by kernel_rfl
@[simp] theorem fo_43_0 : fOff Try.prog 43 0 = some 0 := by kernel_rfl
@[simp] theorem fi_43_0 : fldInfo Try.prog 43 0 = some (0, false, 1) := by kernel_rfl
@[simp] theorem fo_43_1 : fOff Try.prog 43 1 = some 1 := by kernel_rfl
@[simp] theorem fi_43_1 : fldInfo Try.prog 43 1 = some (1, false, 1) := by kernel_rfl
@[simp] theorem fo_43_2 : fOff Try.prog 43 2 = some 2 := by kernel_rfl
@[simp] theorem fi_43_2 : fldInfo Try.prog 43 2 = some (2, false, 1) := by kernel_rfl
@[simp] theorem fo_43_3 : fOff Try.prog 43 3 = some 3 := by kernel_rfl
@[simp] theorem fi_43_3 : fldInfo Try.prog 43 3 = some (3, false, 1) := by kernel_rfl
@[simp] theorem fo_94_0 : fOff Try.prog 94 0 = some 0 := by kernel_rfl
@[simp] theorem fi_94_0 : fldInfo Try.prog 94 0 = some (0, false, 1) := by kernel_rfl
@[simp] theorem fo_94_1 : fOff Try.prog 94 1 = some 1 := by kernel_rfl
@[simp] theorem fi_94_1 : fldInfo Try.prog 94 1 = some (1, false, 1) := by kernel_rfl
@[simp] theorem fo_94_2 : fOff Try.prog 94 2 = some 2 := by kernel_rfl
@[simp] theorem fi_94_2 : fldInfo Try.prog 94 2 = some (2, false, 1) := by kernel_rfl
@[simp] theorem fo_94_3 : fOff Try.prog 94 3 = some 3 := by kernel_rfl
@[simp] theorem fi_94_3 : fldInfo Try.prog 94 3 = some (3, false, 1) := by kernel_rfl
@[simp] theorem fo_95_0 : fOff Try.prog 95 0 = some 0 := by kernel_rfl
@[simp] theorem fi_95_0 : fldInfo Try.prog 95 0 = some (0, false, 1) := by kernel_rfl
@[simp] theorem fo_95_1 : fOff Try.prog 95 1 = some 1 := by kernel_rfl
@[simp] theorem fi_95_1 : fldInfo Try.prog 95 1 = some (1, false, 1) := by kernel_rfl
@[simp] theorem fo_95_2 : fOff Try.prog 95 2 = some 2 := by kernel_rfl
@[simp] theorem fi_95_2 : fldInfo Try.prog 95 2 = some (2, false, 1) := by kernel_rfl
@[simp] theorem fo_95_3 : fOff Try.prog 95 3 = some 3 := by kernel_rfl
@[simp] theorem fi_95_3 : fldInfo Try.prog 95 3 = some (3, false, 1) := by kernel_rfl
@[simp] theorem fi_97_0 : fldInfo Try.prog 97 0 = some (0, true, 0) := by kernel_rfl
@[simp] theorem fi_98_0 : fldInfo Try.prog 98 0 = some (0, true, 0) := by kernel_rfl
@[simp] theorem fo_106_0 : fOff Try.prog 106 0 = some 0 := by kernel_rfl
@[simp] theorem fi_106_0 : fldInfo Try.prog 106 0 = some (0, false, 1) := by kernel_rfl
@[simp] theorem fo_106_1 : fOff Try.prog 106 1 = some 1 := by kernel_rfl
@[simp] theorem fi_106_1 : fldInfo Try.prog 106 1 = some (1, false, 1) := by kernel_rfl
@[simp] theorem fo_106_2 : fOff Try.prog 106 2 = some 2 := by kernel_rfl
@[simp] theorem fi_106_2 : fldInfo Try.prog 106 2 = some (2, false, 1) := by kernel_rfl
@[simp] theorem fo_106_3 : fOff Try.prog 106 3 = some 3 := by kernel_rfl
@[simp] theorem fi_106_3 : fldInfo Try.prog 106 3 = some (3, false, 1) := by kernel_rfl
@[simp] theorem fo_106_4 : fOff Try.prog 106 4 = some 4 := by kernel_rfl
@[simp] theorem fi_106_4 : fldInfo Try.prog 106 4 = some (4, false, 1) := by kernel_rfl
@[simp] theorem fo_106_5 : fOff Try.prog 106 5 = some 5 := by kernel_rfl
@[simp] theorem fi_106_5 : fldInfo Try.prog 106 5 = some (5, false, 1) := by kernel_rfl
@[simp] theorem fo_106_6 : fOff Try.prog 106 6 = some 6 := by kernel_rfl
@[simp] theorem fi_106_6 : fldInfo Try.prog 106 6 = some (6, false, 1) := by kernel_rfl
@[simp] theorem fo_106_7 : fOff Try.prog 106 7 = some 7 := by kernel_rfl
@[simp] theorem fi_106_7 : fldInfo Try.prog 106 7 = some (7, false, 1) := by kernel_rfl
@[simp] theorem fo_106_8 : fOff Try.prog 106 8 = some 8 := by kernel_rfl
@[simp] theorem fi_106_8 : fldInfo Try.prog 106 8 = some (8, false, 1) := by kernel_rfl
@[simp] theorem fo_106_9 : fOff Try.prog 106 9 = some 9 := by kernel_rfl
@[simp] theorem fi_106_9 : fldInfo Try.prog 106 9 = some (9, false, 1) := by kernel_rfl
@[simp] theorem fo_106_10 : fOff Try.prog 106 10 = some 10 := by kernel_rfl
@[simp] theorem fi_106_10 : fldInfo Try.prog 106 10 = some (10, false, 1) := by kernel_rfl
@[simp] theorem fo_107_0 : fOff Try.prog 107 0 = some 0 := by kernel_rfl
@[simp] theorem fi_107_0 : fldInfo Try.prog 107 0 = some (0, false, 1) := by kernel_rfl
@[simp] theorem fo_107_1 : fOff Try.prog 107 1 = some 1 := by kernel_rfl
@[simp] theorem fi_107_1 : fldInfo Try.prog 107 1 = some (1, false, 1) := by kernel_rfl
@[simp] theorem fo_107_2 : fOff Try.prog 107 2 = some 2 := by kernel_rfl
@[simp] theorem fi_107_2 : fldInfo Try.prog 107 2 = some (2, false, 1) := by kernel_rfl
@[simp] theorem fo_107_3 : fOff Try.prog 107 3 = some 3 := by kernel_rfl
@[simp] theorem fi_107_3 : fldInfo Try.prog 107 3 = some (3, false, 1) := by kernel_rfl
@[simp] theorem fo_107_4 : fOff Try.prog 107 4 = some 4 := by kernel_rfl
@[simp] theorem fi_107_4 : fldInfo Try.prog 107 4 = some (4, false, 1) := by kernel_rfl
@[simp] theorem fo_107_5 : fOff Try.prog 107 5 = some 5 := by kernel_rfl
@[simp] theorem fi_107_5 : fldInfo Try.prog 107 5 = some (5, false, 1) := by kernel_rfl
@[simp] theorem fo_107_6 : fOff Try.prog 107 6 = some 6 := by kernel_rfl
@[simp] theorem fi_107_6 : fldInfo Try.prog 107 6 = some (6, false, 1) := by kernel_rfl
@[simp] theorem fo_107_7 : fOff Try.prog 107 7 = some 7 := by kernel_rfl
@[simp] theorem fi_107_7 : fldInfo Try.prog 107 7 = some (7, false, 1) := by kernel_rfl
@[simp] theorem fo_107_8 : fOff Try.prog 107 8 = some 8 := by kernel_rfl
@[simp] theorem fi_107_8 : fldInfo Try.prog 107 8 = some (8, false, 1) := by kernel_rfl
@[simp] theorem fo_107_9 : fOff Try.prog 107 9 = some 9 := by kernel_rfl
@[simp] theorem fi_107_9 : fldInfo Try.prog 107 9 = some (9, false, 1) := by kernel_rfl
@[simp] theorem fo_107_10 : fOff Try.prog 107 10 = some 10 := by kernel_rfl
@[simp] theorem fi_107_10 : fldInfo Try.prog 107 10 = some (10, false, 1) := by kernel_rfl

end Go.AX

namespace Go.AX
open Go.Proofs
theorem hmo : Try.prog.follows .mixedOrders = true := by kernel_rfl

/-! ### Plain laws -/
theorem w64_half (x : Int) : w64 ((w64 x).tdiv 2) = (w64 x).tdiv 2 := by
  have h1 := w64_lo x
  have h2 := w64_hi x
  have h3 := Int.mul_tdiv_add_tmod (w64 x) 2
  have h4 := Int.tmod_lt_of_pos (w64 x) (show (0 : Int) < 2 by omega)
  have h5 : -2 < (w64 x).tmod 2 := by have := Int.lt_tmod_of_pos (w64 x) (show (0 : Int) < 2 by omega); omega
  exact w64_id (by omega) (by omega)
def chooseS (n : Int) : Int := (w64 (n * (n - 1))).tdiv 2
def sizeOk (a b : Int) : Bool := !(decide (a < 0) || decide (a > 64) || decide (b < 1) || decide (b > 32))
theorem sizeOk_iff {a b : Int} : sizeOk a b = true ↔ 0 ≤ a ∧ a ≤ 64 ∧ 1 ≤ b ∧ b ≤ 32 := by
  simp [sizeOk]; omega
theorem chooseS_two {a : Int} (h0 : 0 ≤ a) (h1 : a ≤ 64) : 2 * chooseS a = a * (a - 1) := by
  obtain ⟨k, rfl⟩ := Int.eq_ofNat_of_zero_le h0
  have hk : k < 65 := by omega
  have key : ∀ j : Fin 65, 2 * chooseS (j.val : Int) = (j.val : Int) * ((j.val : Int) - 1) := by decide +kernel
  exact key ⟨k, hk⟩
def timesOk (n m p : Int) : Bool := sizeOk n m && !(decide (p < 0) || decide (p > 2016))
theorem timesOk_iff {n m p : Int} : timesOk n m p = true ↔ sizeOk n m = true ∧ 0 ≤ p ∧ p ≤ 2016 := by simp [timesOk]
def placesN (n m : Int) : Int := if sizeOk n m then w64 (n + n * n * (n - 1)) else 0
def timesN (n m p : Int) : Int := if timesOk n m p then w64 (p * chooseS n) else 0
def statesN (n m : Int) : Int := if sizeOk n m then w64 (1 + (n + 1) * (1 + chooseS m)) else 0
def movesOk (n m e : Int) : Bool := sizeOk n m && !(decide (e < 0) || decide (e > n))
theorem movesOk_iff {n m e : Int} : movesOk n m e = true ↔ sizeOk n m = true ∧ 0 ≤ e ∧ e ≤ n := by simp [movesOk]
def movesN (n m e : Int) : Int := if movesOk n m e then w64 (e * (1 + n * m) + (n - e) * (2 * n * m)) else 0
/-- The sum, so far. -/
def movesSum (n m e i : Int) : Int := if i ≤ e then i * (1 + n * m) else e * (1 + n * m) + (i - e) * (2 * n * m)
theorem movesSum_lt {n m e i : Int} (h : i < e) : movesSum n m e (i + 1) = movesSum n m e i + 1 + n * m := by
  unfold movesSum; rw [if_pos (by omega), if_pos (by omega)]; grind
theorem movesSum_ge {n m e i : Int} (h : e ≤ i) : movesSum n m e (i + 1) = movesSum n m e i + 2 * n * m := by
  unfold movesSum
  rw [if_neg (by omega)]
  by_cases h2 : i ≤ e
  · have : i = e := by omega
    subst this; rw [if_pos h2]; grind
  · rw [if_neg h2]; grind
theorem movesSum_all {n m e : Int} (h : e ≤ n) : movesSum n m e n = e * (1 + n * m) + (n - e) * (2 * n * m) := by
  unfold movesSum
  split
  · have : n = e := by omega
    subst this; grind
  · rfl

/-! ### Walks -/
end Go.AX

namespace Go.AX
open Go.Proofs

structure Op5 where
  p : Int
  k : Int
  s : Int
  e : Int
  r : Int
  deriving DecidableEq, Inhabited

def orow (o : Op5) : List PV := [I64 o.p, I64 o.k, I64 o.s, I64 o.e, I64 o.r]
def ovec (ops : List Op5) : PV := .seq false 5 (ops.map orow)

def aheadS (a b : Op5) : Bool := decide (a.e ≥ 0) && decide (a.e < b.s)
def endedS (o : Op5) : Bool := if o.e = -1 then decide (o.r = -1) else decide (o.e > o.s) && decide (o.e ≤ 9999) && decide (o.r ≥ 0) && decide (o.r ≤ 1000000)
def aloneS (o : Op5) : Int := if o.p < 1 ∨ o.p > 1000 ∨ o.s < 0 ∨ o.s > 9999 then 2 else if o.k < 0 ∨ o.k ≥ 64 then 31 else if endedS o then 0 else 7
@[simp] theorem belowR_orow (k : Nat) (ops : List Op5) : belowR k (ops.map orow) := by
  rw [belowR_iff]; intro r hr x hx
  obtain ⟨o, _, rfl⟩ := List.mem_map.1 hr
  simp [orow] at hx
  rcases hx with rfl | rfl | rfl | rfl | rfl <;> trivial
@[simp] theorem belowR_ints (k : Nat) (l : List Int) : belowR k (l.map fun i => [I64 i]) := by
  rw [belowR_iff]; intro r hr x hx
  obtain ⟨o, _, rfl⟩ := List.mem_map.1 hr
  simp at hx; subst hx; trivial

def pendTo (ops : List Op5) (n : Nat) : List Int := ((List.range n).filter fun j => decide ((ops.getD j default).e = -1)).map Int.ofNat
theorem pendTo_succ (ops : List Op5) {n : Nat} (h : n < ops.length) : pendTo ops (n + 1) = if ops[n].e = -1 then pendTo ops n ++ [(n : Int)] else pendTo ops n := by
  unfold pendTo
  rw [List.range_succ, List.filter_append, List.map_append]
  simp only [List.filter_cons, List.filter_nil, List.getD_eq_getElem?_getD, List.getElem?_eq_getElem h, Option.getD_some]
  split <;> simp_all
theorem pendTo_length (ops : List Op5) (n : Nat) : (pendTo ops n).length ≤ n := by
  unfold pendTo
  rw [List.length_map]
  exact Nat.le_trans (List.length_filter_le _ _) (by simp)

/-! ### Pairs -/
def prow (p : Int × Int) : List PV := [I64 p.1, I64 p.2]
@[simp] theorem belowR_prow (k : Nat) (l : List (Int × Int)) : belowR k (l.map prow) := by
  rw [belowR_iff]; intro r hr x hx
  obtain ⟨o, _, rfl⟩ := List.mem_map.1 hr
  simp [prow] at hx; rcases hx with rfl | rfl <;> trivial
def pairsRow (ops : List Op5) (i j : Nat) : List (Int × Int) := ((List.range j).filter fun b => aheadS (ops.getD i default) (ops.getD b default)).map fun (b : Nat) => ((i : Int), (b : Int))
def pairsTo (ops : List Op5) (i : Nat) : List (Int × Int) := (List.range i).flatMap fun a => pairsRow ops a ops.length
theorem pairsRow_succ (ops : List Op5) (i : Nat) {j : Nat} (hi : i < ops.length) (h : j < ops.length) : pairsRow ops i (j + 1) = if aheadS ops[i] ops[j] = true then pairsRow ops i j ++ [((i : Int), (j : Int))] else pairsRow ops i j := by
  unfold pairsRow
  rw [List.range_succ, List.filter_append, List.map_append]
  simp only [List.filter_cons, List.filter_nil, List.getD_eq_getElem?_getD, List.getElem?_eq_getElem h, List.getElem?_eq_getElem hi, Option.getD_some]
  split <;> simp_all
theorem pairsTo_succ (ops : List Op5) (i : Nat) : pairsTo ops (i + 1) = pairsTo ops i ++ pairsRow ops i ops.length := by
  unfold pairsTo
  rw [List.range_succ, List.flatMap_append]; simp
theorem pairsRow_length (ops : List Op5) (i j : Nat) : (pairsRow ops i j).length ≤ j := by
  unfold pairsRow
  rw [List.length_map]
  exact Nat.le_trans (List.length_filter_le _ _) (by simp)
theorem pairsTo_length (ops : List Op5) : ∀ i, (pairsTo ops i).length ≤ i * ops.length
  | 0 => by simp [pairsTo]
  | i + 1 => by
    rw [pairsTo_succ, List.length_append, Nat.succ_mul]
    have := pairsTo_length ops i
    have := pairsRow_length ops i ops.length
    omega

end Go.AX

namespace Go.AX
open Go.Proofs

/-! ### Plain laws -/
def meetsS (a b : Op5) : Bool := decide (a.s = b.s) || decide (a.e = b.s) || decide (a.s = b.e) || (decide (a.e = b.e) && !decide (a.e = -1))
def badS (a o : Op5) : Bool := decide (o.s ≤ a.s) || meetsS a o
def openS (a o : Op5) : Bool := decide (a.p = o.p) && !aheadS a o
def stepE (pre : List Op5) (o : Op5) : Int := if aloneS o ≠ 0 then aloneS o else if pre.any (fun a => badS a o) = true then 32 else if pre.any (fun a => openS a o) = true then 33 else 0
def errAt (ops : List Op5) (i : Nat) : Int := stepE (ops.take i) (ops.getD i default)
def okTo (ops : List Op5) (i : Nat) : Prop := ∀ j, j < i → errAt ops j = 0
def chk (ops : List Op5) : Int × Int :=
  if ops.length > 5000 then (0, 3) else match (List.range ops.length).find? (fun i => decide (errAt ops i ≠ 0)) with
  | some i => ((i : Int), errAt ops i)
  | none => ((ops.length : Int), 0)
theorem chk_big {ops : List Op5} (h : ops.length > 5000) : chk ops = (0, 3) := by unfold chk; rw [if_pos h]
theorem chk_bad {ops : List Op5} (h : ops.length ≤ 5000) {i : Nat} (hi : i < ops.length) (ho : okTo ops i) (he : errAt ops i ≠ 0) : chk ops = ((i : Int), errAt ops i) := by
  unfold chk
  rw [if_neg (by omega)]
  have : (List.range ops.length).find? (fun i => decide (errAt ops i ≠ 0)) = some i := by
    rw [List.find?_range_eq_some]
    refine ⟨by simpa using he, by simpa using hi, fun j hj => by simpa using ho j hj⟩
  rw [this]
theorem chk_ok {ops : List Op5} (h : ops.length ≤ 5000) (ho : okTo ops ops.length) : chk ops = ((ops.length : Int), 0) := by
  unfold chk
  rw [if_neg (by omega)]
  have : (List.range ops.length).find? (fun i => decide (errAt ops i ≠ 0)) = none := by
    rw [List.find?_range_eq_none]
    intro j hj; simpa using ho j hj
  rw [this]
theorem okTo_succ {ops : List Op5} {i : Nat} (h : okTo ops i) (he : errAt ops i = 0) : okTo ops (i + 1) := fun j hj => by
  rcases Nat.lt_or_ge j i with h1 | h1
  · exact h j h1
  · have : j = i := by omega
    subst this; exact he
theorem errAt_eq {ops : List Op5} {i : Nat} (h : i < ops.length) : errAt ops i = stepE (ops.take i) ops[i] := by
  unfold errAt; simp [h]
theorem chk_alone {ops : List Op5} {i : Nat} (h : ops.length ≤ 5000) (hi : i < ops.length) (ho : okTo ops i) {n : Int} (hn : aloneS ops[i] = n) (h0 : n ≠ 0) : chk ops = ((i : Int), n) := by
  have he : errAt ops i = n := by rw [errAt_eq hi, stepE, if_pos (by rw [hn]; exact h0), hn]
  rw [chk_bad h hi ho (by rw [he]; exact h0), he]
theorem chk_order {ops : List Op5} {i : Nat} (h : ops.length ≤ 5000) (hi : i < ops.length) (ho : okTo ops i) (hn : aloneS ops[i] = 0) (hb : (ops.take i).any (fun a => badS a ops[i]) = true) : chk ops = ((i : Int), 32) := by
  have he : errAt ops i = 32 := by rw [errAt_eq hi, stepE, if_neg (by simp [hn]), if_pos hb]
  rw [chk_bad h hi ho (by rw [he]; decide), he]
theorem chk_open {ops : List Op5} {i : Nat} (h : ops.length ≤ 5000) (hi : i < ops.length) (ho : okTo ops i) (hn : aloneS ops[i] = 0) (hb : (ops.take i).any (fun a => badS a ops[i]) = false) (hc : (ops.take i).any (fun a => openS a ops[i]) = true) : chk ops = ((i : Int), 33) := by
  have he : errAt ops i = 33 := by rw [errAt_eq hi, stepE, if_neg (by simp [hn]), if_neg (by simp [hb]), if_pos hc]
  rw [chk_bad h hi ho (by rw [he]; decide), he]
theorem errAt_zero {ops : List Op5} {i : Nat} (hi : i < ops.length) (hn : aloneS ops[i] = 0) (hb : (ops.take i).any (fun a => badS a ops[i]) = false) (hc : (ops.take i).any (fun a => openS a ops[i]) = false) : errAt ops i = 0 := by
  rw [errAt_eq hi, stepE, if_neg (by simp [hn]), if_neg (by simp [hb]), if_neg (by simp [hc])]
theorem any_take_true {ops : List Op5} {i k : Nat} (f : Op5 → Bool) (hi : i ≤ ops.length) (hk : k < i) (h : f (ops[k]'(by omega)) = true) : (ops.take i).any f = true := by
  rw [List.any_eq_true]
  exact ⟨_, List.mem_take_iff_getElem.2 ⟨k, by omega, rfl⟩, h⟩
theorem any_take_succ {ops : List Op5} {k : Nat} (f : Op5 → Bool) (h : k < ops.length) : (ops.take (k + 1)).any f = ((ops.take k).any f || f ops[k]) := by
  rw [List.take_succ_eq_append_getElem h, List.any_append]; simp
theorem any_take_false {ops : List Op5} {k : Nat} (f : Op5 → Bool) (hk : k ≤ ops.length) (h : ∀ j (hj : j < k), f (ops[j]'(by omega)) = false) : (ops.take k).any f = false := by
  rw [List.any_eq_false]
  intro x hx
  obtain ⟨j, hj, rfl⟩ := List.mem_take_iff_getElem.1 hx
  have := h j (by omega)
  simp [this]

/-! ### The document's answer -/
/-- Is one of the first k still open? -/
def openTo (ops : List Op5) (k : Nat) (o : Op5) : Bool := (ops.take k).any fun a => openS a o
theorem openTo_succ {ops : List Op5} {k : Nat} (h : k < ops.length) (o : Op5) : openTo ops (k + 1) o = (openTo ops k o || openS ops[k] o) := any_take_succ _ h

end Go.AX
