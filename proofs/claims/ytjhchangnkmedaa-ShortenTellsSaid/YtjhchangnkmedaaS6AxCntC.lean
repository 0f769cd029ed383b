/-
  Facts on the types of the seat's program (written by facts.py).
  Contracts: the numbers of clauses (count, numbering, the document's answer).
  Contracts: operations (oper, the document's answer).
  Contracts: whether operations may be.
-/
import Derived.Test.YtjhchangnkmedaaAxX
import Derived.Test.YtjhchangnkmedaaRows
namespace Go.AX
open Go.Proofs

@[simp] theorem ld_0 : ldInfo Try.prog 0 = some (false, 1) := by kernel_rfl
@[simp] theorem tk_1 : tk Try.prog 1 = .func := by kernel_rfl
@[simp] theorem ld_1 : ldInfo Try.prog 1 = some (false, 1) := by kernel_rfl
@[simp] theorem tk_2 : tk Try.prog 2 = .int := by kernel_rfl
@[simp] theorem ld_2 : ldInfo Try.prog 2 = some (false, 1) := by kernel_rfl
@[simp] theorem cv_2 : cvtK Try.prog 2 = some .i64 := by kernel_rfl
@[simp] theorem z_2 : zeroL Try.prog 2 = some [.lit (.int .i64 0)] := by kernel_rfl
@[simp] theorem tk_3 : tk Try.prog 3 = .int := by kernel_rfl
@[simp] theorem ld_3 : ldInfo Try.prog 3 = some (false, 1) := by kernel_rfl
@[simp] theorem cv_3 : cvtK Try.prog 3 = some .i64 := by kernel_rfl
@[simp] theorem z_3 : zeroL Try.prog 3 = some [.lit (.int .i64 0)] := by kernel_rfl
@[simp] theorem tk_4 : tk Try.prog 4 = .bool := by kernel_rfl
@[simp] theorem ld_4 : ldInfo Try.prog 4 = some (false, 1) := by kernel_rfl
@[simp] theorem z_4 : zeroL Try.prog 4 = some [.lit (.bool false)] := by kernel_rfl
@[simp] theorem tk_5 : tk Try.prog 5 = .int := by kernel_rfl
@[simp] theorem ld_5 : ldInfo Try.prog 5 = some (false, 1) := by kernel_rfl
@[simp] theorem cv_5 : cvtK Try.prog 5 = some .u8 := by kernel_rfl
@[simp] theorem z_5 : zeroL Try.prog 5 = some [.lit (.int .u8 0)] := by kernel_rfl
@[simp] theorem tk_6 : tk Try.prog 6 = .int := by kernel_rfl
@[simp] theorem ld_6 : ldInfo Try.prog 6 = some (false, 1) := by kernel_rfl
@[simp] theorem cv_6 : cvtK Try.prog 6 = some .u8 := by kernel_rfl
@[simp] theorem z_6 : zeroL Try.prog 6 = some [.lit (.int .u8 0)] := by kernel_rfl
@[simp] theorem ld_7 : ldInfo Try.prog 7 = some (true, 4) := by kernel_rfl
@[simp] theorem z_7 : zeroL Try.prog 7 = some [.lit (.int .i64 0), .lit (.int .i64 0), .lit (.bool false), .lit (.int .u8 0)] := by kernel_rfl
@[simp] theorem zv_7 : zeroV Try.prog 7 = some [.lit (.int .i64 0), .lit (.int .i64 0), .lit (.bool false), .lit (.int .u8 0)] := by kernel_rfl
@[simp] theorem bi_7 : bInfo Try.prog 7 = some [(0, 1), (1, 1), (2, 1), (3, 1)] := by kernel_rfl
@[simp] theorem ld_8 : ldInfo Try.prog 8 = some (true, 4) := by kernel_rfl
@[simp] theorem z_8 : zeroL Try.prog 8 = some [.lit (.int .i64 0), .lit (.int .i64 0), .lit (.bool false), .lit (.int .u8 0)] := by kernel_rfl
@[simp] theorem zv_8 : zeroV Try.prog 8 = some [.lit (.int .i64 0), .lit (.int .i64 0), .lit (.bool false), .lit (.int .u8 0)] := by kernel_rfl
@[simp] theorem bi_8 : bInfo Try.prog 8 = some [(0, 1), (1, 1), (2, 1), (3, 1)] := by kernel_rfl
@[simp] theorem tk_9 : tk Try.prog 9 = .string := by kernel_rfl
@[simp] theorem ld_9 : ldInfo Try.prog 9 = some (false, 1) := by kernel_rfl
@[simp] theorem z_9 : zeroL Try.prog 9 = some [.lit (.string ByteArray.empty)] := by kernel_rfl
@[simp] theorem tk_10 : tk Try.prog 10 = .string := by kernel_rfl
@[simp] theorem ld_10 : ldInfo Try.prog 10 = some (false, 1) := by kernel_rfl
@[simp] theorem z_10 : zeroL Try.prog 10 = some [.lit (.string ByteArray.empty)] := by kernel_rfl
@[simp] theorem tk_11 : tk Try.prog 11 = .string := by kernel_rfl
@[simp] theorem ld_11 : ldInfo Try.prog 11 = some (false, 1) := by kernel_rfl
@[simp] theorem z_11 : zeroL Try.prog 11 = some [.lit (.string ByteArray.empty)] := by kernel_rfl
@[simp] theorem tk_12 : tk Try.prog 12 = .int := by kernel_rfl
@[simp] theorem ld_12 : ldInfo Try.prog 12 = some (false, 1) := by kernel_rfl
@[simp] theorem cv_12 : cvtK Try.prog 12 = some .u64 := by kernel_rfl
@[simp] theorem z_12 : zeroL Try.prog 12 = some [.lit (.int .u64 0)] := by kernel_rfl
@[simp] theorem ld_13 : ldInfo Try.prog 13 = some (true, 2) := by kernel_rfl
@[simp] theorem z_13 : zeroL Try.prog 13 = some [.lit (.string ByteArray.empty), .lit (.int .u64 0)] := by kernel_rfl
@[simp] theorem zv_13 : zeroV Try.prog 13 = some [.lit (.string ByteArray.empty), .lit (.int .u64 0)] := by kernel_rfl
@[simp] theorem bi_13 : bInfo Try.prog 13 = some [(0, 1), (1, 1)] := by kernel_rfl
@[simp] theorem ld_14 : ldInfo Try.prog 14 = some (true, 2) := by kernel_rfl
@[simp] theorem z_14 : zeroL Try.prog 14 = some [.lit (.string ByteArray.empty), .lit (.int .u64 0)] := by kernel_rfl
@[simp] theorem zv_14 : zeroV Try.prog 14 = some [.lit (.string ByteArray.empty), .lit (.int .u64 0)] := by kernel_rfl
@[simp] theorem bi_14 : bInfo Try.prog 14 = some [(0, 1), (1, 1)] := by kernel_rfl
@[simp] theorem tk_15 : tk Try.prog 15 = .ptr := by kernel_rfl
@[simp] theorem ld_15 : ldInfo Try.prog 15 = some (false, 1) := by kernel_rfl
@[simp] theorem z_15 : zeroL Try.prog 15 = some [.lit (.pointer none)] := by kernel_rfl
@[simp] theorem tk_16 : tk Try.prog 16 = .ptr := by kernel_rfl
@[simp] theorem ld_16 : ldInfo Try.prog 16 = some (false, 1) := by kernel_rfl
@[simp] theorem z_16 : zeroL Try.prog 16 = some [.lit (.pointer none)] := by kernel_rfl
@[simp] theorem tk_17 : tk Try.prog 17 = .ptr := by kernel_rfl
@[simp] theorem ld_17 : ldInfo Try.prog 17 = some (false, 1) := by kernel_rfl
@[simp] theorem z_17 : zeroL Try.prog 17 = some [.lit (.pointer none)] := by kernel_rfl
@[simp] theorem ld_18 : ldInfo Try.prog 18 = some (true, 1) := by kernel_rfl
@[simp] theorem z_18 : zeroL Try.prog 18 = some [.lit (.pointer none)] := by kernel_rfl
@[simp] theorem zv_18 : zeroV Try.prog 18 = some [.lit (.pointer none)] := by kernel_rfl
@[simp] theorem bi_18 : bInfo Try.prog 18 = some [(0, 1)] := by kernel_rfl
@[simp] theorem ld_19 : ldInfo Try.prog 19 = some (true, 1) := by kernel_rfl
@[simp] theorem z_19 : zeroL Try.prog 19 = some [.lit (.pointer none)] := by kernel_rfl
@[simp] theorem zv_19 : zeroV Try.prog 19 = some [.lit (.pointer none)] := by kernel_rfl
@[simp] theorem bi_19 : bInfo Try.prog 19 = some [(0, 1)] := by kernel_rfl
@[simp] theorem ld_20 : ldInfo Try.prog 20 = some (false, 1) := by kernel_rfl
@[simp] theorem tk_21 : tk Try.prog 21 = .int := by kernel_rfl
@[simp] theorem ld_21 : ldInfo Try.prog 21 = some (false, 1) := by kernel_rfl
@[simp] theorem cv_21 : cvtK Try.prog 21 = some .i32 := by kernel_rfl
@[simp] theorem z_21 : zeroL Try.prog 21 = some [.lit (.int .i32 0)] := by kernel_rfl
@[simp] theorem tk_22 : tk Try.prog 22 = .slice := by kernel_rfl
@[simp] theorem ld_22 : ldInfo Try.prog 22 = some (false, 1) := by kernel_rfl
@[simp] theorem sl_22 : slSize Try.prog 22 = some 1 := by kernel_rfl
@[simp] theorem si_22 : slInfo Try.prog 22 = some (1, 24) := by kernel_rfl
@[simp] theorem z_22 : zeroL Try.prog 22 = some [.lit (.slice none 0 0)] := by kernel_rfl
@[simp] theorem sz_22 : slZero Try.prog 22 = some [.lit (.slice none 0 0)] := by kernel_rfl
@[simp] theorem tk_23 : tk Try.prog 23 = .slice := by kernel_rfl
@[simp] theorem ld_23 : ldInfo Try.prog 23 = some (false, 1) := by kernel_rfl
@[simp] theorem sl_23 : slSize Try.prog 23 = some 1 := by kernel_rfl
@[simp] theorem si_23 : slInfo Try.prog 23 = some (1, 8) := by kernel_rfl
@[simp] theorem z_23 : zeroL Try.prog 23 = some [.lit (.slice none 0 0)] := by kernel_rfl
@[simp] theorem sz_23 : slZero Try.prog 23 = some [.lit (.int .i64 0)] := by kernel_rfl
@[simp] theorem tk_24 : tk Try.prog 24 = .func := by kernel_rfl
@[simp] theorem ld_24 : ldInfo Try.prog 24 = some (false, 1) := by kernel_rfl
@[simp] theorem tk_25 : tk Try.prog 25 = .func := by kernel_rfl
@[simp] theorem ld_25 : ldInfo Try.prog 25 = some (false, 1) := by kernel_rfl
@[simp] theorem tk_26 : tk Try.prog 26 = .ptr := by kernel_rfl
@[simp] theorem ld_26 : ldInfo Try.prog 26 = some (false, 1) := by kernel_rfl
@[simp] theorem z_26 : zeroL Try.prog 26 = some [.lit (.pointer none)] := by kernel_rfl
@[simp] theorem tk_27 : tk Try.prog 27 = .ptr := by kernel_rfl
@[simp] theorem ld_27 : ldInfo Try.prog 27 = some (false, 1) := by kernel_rfl
@[simp] theorem z_27 : zeroL Try.prog 27 = some [.lit (.pointer none)] := by kernel_rfl
@[simp] theorem tk_28 : tk Try.prog 28 = .slice := by kernel_rfl
@[simp] theorem ld_28 : ldInfo Try.prog 28 = some (false, 1) := by kernel_rfl
@[simp] theorem sl_28 : slSize Try.prog 28 = some 5 := by kernel_rfl
@[simp] theorem si_28 : slInfo Try.prog 28 = some (5, 48) := by kernel_rfl
@[simp] theorem z_28 : zeroL Try.prog 28 = some [.lit (.slice none 0 0)] := by kernel_rfl
@[simp] theorem sz_28 : slZero Try.prog 28 = some [.lit (.int .i64 0), .lit (.int .i64 0), .lit (.slice none 0 0), .lit (.bool false), .lit (.bool false)] := by kernel_rfl
@[simp] theorem ld_29 : ldInfo Try.prog 29 = some (true, 2) := by kernel_rfl
@[simp] theorem z_29 : zeroL Try.prog 29 = some [.lit (.slice none 0 0), .lit (.int .i64 0)] := by kernel_rfl
@[simp] theorem zv_29 : zeroV Try.prog 29 = some [.lit (.slice none 0 0), .lit (.int .i64 0)] := by kernel_rfl
@[simp] theorem bi_29 : bInfo Try.prog 29 = some [(0, 1), (1, 1)] := by kernel_rfl
@[simp] theorem ld_30 : ldInfo Try.prog 30 = some (true, 2) := by kernel_rfl
@[simp] theorem z_30 : zeroL Try.prog 30 = some [.lit (.slice none 0 0), .lit (.int .i64 0)] := by kernel_rfl
@[simp] theorem zv_30 : zeroV Try.prog 30 = some [.lit (.slice none 0 0), .lit (.int .i64 0)] := by kernel_rfl
@[simp] theorem bi_30 : bInfo Try.prog 30 = some [(0, 1), (1, 1)] := by kernel_rfl
@[simp] theorem tk_31 : tk Try.prog 31 = .slice := by kernel_rfl
@[simp] theorem ld_31 : ldInfo Try.prog 31 = some (false, 1) := by kernel_rfl
@[simp] theorem sl_31 : slSize Try.prog 31 = some 3 := by kernel_rfl
@[simp] theorem si_31 : slInfo Try.prog 31 = some (3, 24) := by kernel_rfl
@[simp] theorem z_31 : zeroL Try.prog 31 = some [.lit (.slice none 0 0)] := by kernel_rfl
@[simp] theorem sz_31 : slZero Try.prog 31 = some [.lit (.int .i64 0), .lit (.int .i64 0), .lit (.int .i64 0)] := by kernel_rfl
@[simp] theorem ld_32 : ldInfo Try.prog 32 = some (true, 3) := by kernel_rfl
@[simp] theorem z_32 : zeroL Try.prog 32 = some [.lit (.int .i64 0), .lit (.slice none 0 0), .lit (.int .i64 0)] := by kernel_rfl
@[simp] theorem zv_32 : zeroV Try.prog 32 = some [.lit (.int .i64 0), .lit (.slice none 0 0), .lit (.int .i64 0)] := by kernel_rfl
@[simp] theorem bi_32 : bInfo Try.prog 32 = some [(0, 1), (1, 1), (2, 1)] := by kernel_rfl
@[simp] theorem ld_33 : ldInfo Try.prog 33 = some (true, 3) := by kernel_rfl
@[simp] theorem z_33 : zeroL Try.prog 33 = some [.lit (.int .i64 0), .lit (.slice none 0 0), .lit (.int .i64 0)] := by kernel_rfl
@[simp] theorem zv_33 : zeroV Try.prog 33 = some [.lit (.int .i64 0), .lit (.slice none 0 0), .lit (.int .i64 0)] := by kernel_rfl
@[simp] theorem bi_33 : bInfo Try.prog 33 = some [(0, 1), (1, 1), (2, 1)] := by kernel_rfl
@[simp] theorem ld_34 : ldInfo Try.prog 34 = some (true, 8) := by kernel_rfl
@[simp] theorem z_34 : zeroL Try.prog 34 = some [.lit (.pointer none), .lit (.pointer none), .lit (.slice none 0 0), .lit (.int .i64 0), .lit (.int .i64 0), .lit (.slice none 0 0), .lit (.int .i64 0), .lit (.int .i64 0)] := by kernel_rfl
@[simp] theorem zv_34 : zeroV Try.prog 34 = some [.lit (.pointer none), .lit (.pointer none), .lit (.slice none 0 0), .lit (.int .i64 0), .lit (.int .i64 0), .lit (.slice none 0 0), .lit (.int .i64 0), .lit (.int .i64 0)] := by kernel_rfl
@[simp] theorem bi_34 : bInfo Try.prog 34 = some [(0, 1), (1, 1), (2, 2), (4, 3), (7, 1)] := by kernel_rfl
@[simp] theorem ld_35 : ldInfo Try.prog 35 = some (true, 8) := by kernel_rfl
@[simp] theorem z_35 : zeroL Try.prog 35 = some [.lit (.pointer none), .lit (.pointer none), .lit (.slice none 0 0), .lit (.int .i64 0), .lit (.int .i64 0), .lit (.slice none 0 0), .lit (.int .i64 0), .lit (.int .i64 0)] := by kernel_rfl
@[simp] theorem zv_35 : zeroV Try.prog 35 = some [.lit (.pointer none), .lit (.pointer none), .lit (.slice none 0 0), .lit (.int .i64 0), .lit (.int .i64 0), .lit (.slice none 0 0), .lit (.int .i64 0), .lit (.int .i64 0)] := by kernel_rfl
@[simp] theorem bi_35 : bInfo Try.prog 35 = some [(0, 1), (1, 1), (2, 2), (4, 3), (7, 1)] := by kernel_rfl
@[simp] theorem ld_36 : ldInfo Try.prog 36 = some (false, 1) := by kernel_rfl
@[simp] theorem tk_37 : tk Try.prog 37 = .func := by kernel_rfl
@[simp] theorem ld_37 : ldInfo Try.prog 37 = some (false, 1) := by kernel_rfl
@[simp] theorem tk_38 : tk Try.prog 38 = .func := by kernel_rfl
@[simp] theorem ld_38 : ldInfo Try.prog 38 = some (false, 1) := by kernel_rfl
@[simp] theorem tk_39 : tk Try.prog 39 = .func := by kernel_rfl
@[simp] theorem ld_39 : ldInfo Try.prog 39 = some (false, 1) := by kernel_rfl
@[simp] theorem tk_40 : tk Try.prog 40 = .func := by kernel_rfl
@[simp] theorem ld_40 : ldInfo Try.prog 40 = some (false, 1) := by kernel_rfl
@[simp] theorem tk_41 : tk Try.prog 41 = .func := by kernel_rfl
@[simp] theorem ld_41 : ldInfo Try.prog 41 = some (false, 1) := by kernel_rfl
@[simp] theorem tk_42 : tk Try.prog 42 = .func := by kernel_rfl
@[simp] theorem ld_42 : ldInfo Try.prog 42 = some (false, 1) := by kernel_rfl
@[simp] theorem tk_43 : tk Try.prog 43 = .func := by kernel_rfl
@[simp] theorem ld_43 : ldInfo Try.prog 43 = some (false, 1) := by kernel_rfl
@[simp] theorem tk_44 : tk Try.prog 44 = .func := by kernel_rfl
@[simp] theorem ld_44 : ldInfo Try.prog 44 = some (false, 1) := by kernel_rfl
@[simp] theorem tk_45 : tk Try.prog 45 = .func := by kernel_rfl
@[simp] theorem ld_45 : ldInfo Try.prog 45 = some (false, 1) := by kernel_rfl
@[simp] theorem tk_46 : tk Try.prog 46 = .func := by kernel_rfl
@[simp] theorem ld_46 : ldInfo Try.prog 46 = some (false, 1) := by kernel_rfl
@[simp] theorem tk_47 : tk Try.prog 47 = .func := by kernel_rfl
@[simp] theorem ld_47 : ldInfo Try.prog 47 = some (false, 1) := by kernel_rfl
@[simp] theorem tk_48 : tk Try.prog 48 = .slice := by kernel_rfl
@[simp] theorem ld_48 : ldInfo Try.prog 48 = some (false, 1) := by kernel_rfl
@[simp] theorem sl_48 : slSize Try.prog 48 = some 4 := by kernel_rfl
@[simp] theorem si_48 : slInfo Try.prog 48 = some (4, 32) := by kernel_rfl
@[simp] theorem z_48 : zeroL Try.prog 48 = some [.lit (.slice none 0 0)] := by kernel_rfl
@[simp] theorem sz_48 : slZero Try.prog 48 = some [.lit (.int .i64 0), .lit (.int .i64 0), .lit (.int .i64 0), .lit (.bool false)] := by kernel_rfl
@[simp] theorem ld_49 : ldInfo Try.prog 49 = some (true, 4) := by kernel_rfl
@[simp] theorem z_49 : zeroL Try.prog 49 = some [.lit (.int .i64 0), .lit (.int .i64 0), .lit (.int .i64 0), .lit (.bool false)] := by kernel_rfl
@[simp] theorem zv_49 : zeroV Try.prog 49 = some [.lit (.int .i64 0), .lit (.int .i64 0), .lit (.int .i64 0), .lit (.bool false)] := by kernel_rfl
@[simp] theorem bi_49 : bInfo Try.prog 49 = some [(0, 1), (1, 1), (2, 1), (3, 1)] := by kernel_rfl
@[simp] theorem ld_50 : ldInfo Try.prog 50 = some (true, 4) := by kernel_rfl
@[simp] theorem z_50 : zeroL Try.prog 50 = some [.lit (.int .i64 0), .lit (.int .i64 0), .lit (.int .i64 0), .lit (.bool false)] := by kernel_rfl
@[simp] theorem zv_50 : zeroV Try.prog 50 = some [.lit (.int .i64 0), .lit (.int .i64 0), .lit (.int .i64 0), .lit (.bool false)] := by kernel_rfl
@[simp] theorem bi_50 : bInfo Try.prog 50 = some [(0, 1), (1, 1), (2, 1), (3, 1)] := by kernel_rfl
@[simp] theorem tk_51 : tk Try.prog 51 = .func := by kernel_rfl
@[simp] theorem ld_51 : ldInfo Try.prog 51 = some (false, 1) := by kernel_rfl
@[simp] theorem tk_52 : tk Try.prog 52 = .func := by kernel_rfl
@[simp] theorem ld_52 : ldInfo Try.prog 52 = some (false, 1) := by kernel_rfl
@[simp] theorem tk_53 : tk Try.prog 53 = .func := by kernel_rfl
@[simp] theorem ld_53 : ldInfo Try.prog 53 = some (false, 1) := by kernel_rfl
@[simp] theorem tk_54 : tk Try.prog 54 = .func := by kernel_rfl
@[simp] theorem ld_54 : ldInfo Try.prog 54 = some (false, 1) := by kernel_rfl
@[simp] theorem tk_55 : tk Try.prog 55 = .slice := by kernel_rfl
@[simp] theorem ld_55 : ldInfo Try.prog 55 = some (false, 1) := by kernel_rfl
@[simp] theorem sl_55 : slSize Try.prog 55 = some 4 := by kernel_rfl
@[simp] theorem si_55 : slInfo Try.prog 55 = some (4, 32) := by kernel_rfl
@[simp] theorem z_55 : zeroL Try.prog 55 = some [.lit (.slice none 0 0)] := by kernel_rfl
@[simp] theorem sz_55 : slZero Try.prog 55 = some [.lit (.int .i64 0), .lit (.int .i64 0), .lit (.int .i64 0), .lit (.bool false)] := by kernel_rfl
@[simp] theorem ld_56 : ldInfo Try.prog 56 = some (true, 4) := by kernel_rfl
@[simp] theorem z_56 : zeroL Try.prog 56 = some [.lit (.int .i64 0), .lit (.int .i64 0), .lit (.int .i64 0), .lit (.bool false)] := by kernel_rfl
@[simp] theorem zv_56 : zeroV Try.prog 56 = some [.lit (.int .i64 0), .lit (.int .i64 0), .lit (.int .i64 0), .lit (.bool false)] := by kernel_rfl
@[simp] theorem bi_56 : bInfo Try.prog 56 = some [(0, 1), (1, 1), (2, 1), (3, 1)] := by kernel_rfl
@[simp] theorem tk_57 : tk Try.prog 57 = .func := by kernel_rfl
@[simp] theorem ld_57 : ldInfo Try.prog 57 = some (false, 1) := by kernel_rfl
@[simp] theorem tk_58 : tk Try.prog 58 = .func := by kernel_rfl
@[simp] theorem ld_58 : ldInfo Try.prog 58 = some (false, 1) := by kernel_rfl
@[simp] theorem tk_59 : tk Try.prog 59 = .func := by kernel_rfl
@[simp] theorem ld_59 : ldInfo Try.prog 59 = some (false, 1) := by kernel_rfl
@[simp] theorem tk_60 : tk Try.prog 60 = .func := by kernel_rfl
@[simp] theorem ld_60 : ldInfo Try.prog 60 = some (false, 1) := by kernel_rfl
@[simp] theorem tk_61 : tk Try.prog 61 = .int := by kernel_rfl
@[simp] theorem ld_61 : ldInfo Try.prog 61 = some (false, 1) := by kernel_rfl
@[simp] theorem cv_61 : cvtK Try.prog 61 = some .i64 := by kernel_rfl
@[simp] theorem z_61 : zeroL Try.prog 61 = some [.lit (.int .i64 0)] := by kernel_rfl
@[simp] theorem ld_62 : ldInfo Try.prog 62 = some (false, 1) := by kernel_rfl
@[simp] theorem tk_63 : tk Try.prog 63 = .func := by kernel_rfl
@[simp] theorem ld_63 : ldInfo Try.prog 63 = some (false, 1) := by kernel_rfl
@[simp] theorem ld_64 : ldInfo Try.prog 64 = some (false, 1) := by kernel_rfl
@[simp] theorem tk_65 : tk Try.prog 65 = .func := by kernel_rfl
@[simp] theorem ld_65 : ldInfo Try.prog 65 = some (false, 1) := by kernel_rfl
@[simp] theorem ld_66 : ldInfo Try.prog 66 = some (false, 1) := by kernel_rfl
@[simp] theorem tk_67 : tk Try.prog 67 = .func := by kernel_rfl
@[simp] theorem ld_67 : ldInfo Try.prog 67 = some (false, 1) := by kernel_rfl
@[simp] theorem ld_68 : ldInfo Try.prog 68 = some (false, 1) := by kernel_rfl
@[simp] theorem tk_69 : tk Try.prog 69 = .func := by kernel_rfl
@[simp] theorem ld_69 : ldInfo Try.prog 69 = some (false, 1) := by kernel_rfl
@[simp] theorem tk_70 : tk Try.prog 70 = .func := by kernel_rfl
@[simp] theorem ld_70 : ldInfo Try.prog 70 = some (false, 1) := by kernel_rfl
@[simp] theorem tk_71 : tk Try.prog 71 = .func := by kernel_rfl
@[simp] theorem ld_71 : ldInfo Try.prog 71 = some (false, 1) := by kernel_rfl
@[simp] theorem tk_72 : tk Try.prog 72 = .func := by kernel_rfl
@[simp] theorem ld_72 : ldInfo Try.prog 72 = some (false, 1) := by kernel_rfl
@[simp] theorem tk_73 : tk Try.prog 73 = .func := by kernel_rfl
@[simp] theorem ld_73 : ldInfo Try.prog 73 = some (false, 1) := by kernel_rfl
@[simp] theorem tk_74 : tk Try.prog 74 = .func := by kernel_rfl
@[simp] theorem ld_74 : ldInfo Try.prog 74 = some (false, 1) := by kernel_rfl
@[simp] theorem tk_75 : tk Try.prog 75 = .func := by kernel_rfl
@[simp] theorem ld_75 : ldInfo Try.prog 75 = some (false, 1) := by kernel_rfl
@[simp] theorem tk_76 : tk Try.prog 76 = .func := by kernel_rfl
@[simp] theorem ld_76 : ldInfo Try.prog 76 = some (false, 1) := by kernel_rfl
@[simp] theorem tk_77 : tk Try.prog 77 = .func := by kernel_rfl
@[simp] theorem ld_77 : ldInfo Try.prog 77 = some (false, 1) := by kernel_rfl
@[simp] theorem tk_78 : tk Try.prog 78 = .func := by kernel_rfl
@[simp] theorem ld_78 : ldInfo Try.prog 78 = some (false, 1) := by kernel_rfl
@[simp] theorem ld_79 : ldInfo Try.prog 79 = some (false, 1) := by kernel_rfl
@[simp] theorem tk_80 : tk Try.prog 80 = .func := by kernel_rfl
@[simp] theorem ld_80 : ldInfo Try.prog 80 = some (false, 1) := by kernel_rfl
@[simp] theorem tk_81 : tk Try.prog 81 = .func := by kernel_rfl
@[simp] theorem ld_81 : ldInfo Try.prog 81 = some (false, 1) := by kernel_rfl
@[simp] theorem tk_82 : tk Try.prog 82 = .func := by kernel_rfl
@[simp] theorem ld_82 : ldInfo Try.prog 82 = some (false, 1) := by kernel_rfl
@[simp] theorem tk_83 : tk Try.prog 83 = .slice := by kernel_rfl
@[simp] theorem ld_83 : ldInfo Try.prog 83 = some (false, 1) := by kernel_rfl
@[simp] theorem sl_83 : slSize Try.prog 83 = some 1 := by kernel_rfl
@[simp] theorem si_83 : slInfo Try.prog 83 = some (1, 1) := by kernel_rfl
@[simp] theorem z_83 : zeroL Try.prog 83 = some [.lit (.slice none 0 0)] := by kernel_rfl
@[simp] theorem sz_83 : slZero Try.prog 83 = some [.lit (.bool false)] := by kernel_rfl
@[simp] theorem tk_84 : tk Try.prog 84 = .func := by kernel_rfl
@[simp] theorem ld_84 : ldInfo Try.prog 84 = some (false, 1) := by kernel_rfl
@[simp] theorem tk_85 : tk Try.prog 85 = .func := by kernel_rfl
@[simp] theorem ld_85 : ldInfo Try.prog 85 = some (false, 1) := by kernel_rfl
@[simp] theorem tk_86 : tk Try.prog 86 = .func := by kernel_rfl
@[simp] theorem ld_86 : ldInfo Try.prog 86 = some (false, 1) := by kernel_rfl
@[simp] theorem tk_87 : tk Try.prog 87 = .map := by kernel_rfl
@[simp] theorem ld_87 : ldInfo Try.prog 87 = some (false, 1) := by kernel_rfl
@[simp] theorem z_87 : zeroL Try.prog 87 = some [.lit (.map none)] := by kernel_rfl
@[simp] theorem mk_87 : mpKey Try.prog 87 = true := by kernel_rfl
@[simp] theorem mp_87 : mpInfo Try.prog 87 = some (.lit (.int .i64 0)) := by kernel_rfl
@[simp] theorem tk_88 : tk Try.prog 88 = .func := by kernel_rfl
@[simp] theorem ld_88 : ldInfo Try.prog 88 = some (false, 1) := by kernel_rfl
@[simp] theorem tk_89 : tk Try.prog 89 = .slice := by kernel_rfl
@[simp] theorem ld_89 : ldInfo Try.prog 89 = some (false, 1) := by kernel_rfl
@[simp] theorem sl_89 : slSize Try.prog 89 = some 4 := by kernel_rfl
@[simp] theorem si_89 : slInfo Try.prog 89 = some (4, 32) := by kernel_rfl
@[simp] theorem z_89 : zeroL Try.prog 89 = some [.lit (.slice none 0 0)] := by kernel_rfl
@[simp] theorem sz_89 : slZero Try.prog 89 = some [.lit (.int .i64 0), .lit (.int .i64 0), .lit (.int .i64 0), .lit (.int .i64 0)] := by kernel_rfl
@[simp] theorem ld_90 : ldInfo Try.prog 90 = some (true, 4) := by kernel_rfl
@[simp] theorem z_90 : zeroL Try.prog 90 = some [.lit (.slice none 0 0), .lit (.slice none 0 0), .lit (.slice none 0 0), .lit (.bool false)] := by kernel_rfl
@[simp] theorem zv_90 : zeroV Try.prog 90 = some [.lit (.slice none 0 0), .lit (.slice none 0 0), .lit (.slice none 0 0), .lit (.bool false)] := by kernel_rfl
@[simp] theorem bi_90 : bInfo Try.prog 90 = some [(0, 1), (1, 1), (2, 1), (3, 1)] := by kernel_rfl
@[simp] theorem ld_91 : ldInfo Try.prog 91 = some (true, 4) := by kernel_rfl
@[simp] theorem z_91 : zeroL Try.prog 91 = some [.lit (.slice none 0 0), .lit (.slice none 0 0), .lit (.slice none 0 0), .lit (.bool false)] := by kernel_rfl
@[simp] theorem zv_91 : zeroV Try.prog 91 = some [.lit (.slice none 0 0), .lit (.slice none 0 0), .lit (.slice none 0 0), .lit (.bool false)] := by kernel_rfl
@[simp] theorem bi_91 : bInfo Try.prog 91 = some [(0, 1), (1, 1), (2, 1), (3, 1)] := by kernel_rfl
@[simp] theorem tk_92 : tk Try.prog 92 = .func := by kernel_rfl
@[simp] theorem ld_92 : ldInfo Try.prog 92 = some (false, 1) := by kernel_rfl
@[simp] theorem tk_93 : tk Try.prog 93 = .func := by kernel_rfl
@[simp] theorem ld_93 : ldInfo Try.prog 93 = some (false, 1) := by kernel_rfl
@[simp] theorem tk_94 : tk Try.prog 94 = .func := by kernel_rfl
@[simp] theorem ld_94 : ldInfo Try.prog 94 = some (false, 1) := by kernel_rfl
@[simp] theorem tk_95 : tk Try.prog 95 = .func := by kernel_rfl
@[simp] theorem ld_95 : ldInfo Try.prog 95 = some (false, 1) := by kernel_rfl
@[simp] theorem tk_96 : tk Try.prog 96 = .func := by kernel_rfl
@[simp] theorem ld_96 : ldInfo Try.prog 96 = some (false, 1) := by kernel_rfl
@[simp] theorem tk_97 : tk Try.prog 97 = .func := by kernel_rfl
@[simp] theorem ld_97 : ldInfo Try.prog 97 = some (false, 1) := by kernel_rfl
@[simp] theorem tk_98 : tk Try.prog 98 = .func := by kernel_rfl
@[simp] theorem ld_98 : ldInfo Try.prog 98 = some (false, 1) := by kernel_rfl
@[simp] theorem ld_99 : ldInfo Try.prog 99 = some (true, 2) := by kernel_rfl
@[simp] theorem z_99 : zeroL Try.prog 99 = some [.lit (.int .i64 0), .lit (.slice none 0 0)] := by kernel_rfl
@[simp] theorem zv_99 : zeroV Try.prog 99 = some [.lit (.int .i64 0), .lit (.slice none 0 0)] := by kernel_rfl
@[simp] theorem bi_99 : bInfo Try.prog 99 = some [(0, 1), (1, 1)] := by kernel_rfl
@[simp] theorem ld_100 : ldInfo Try.prog 100 = some (true, 2) := by kernel_rfl
@[simp] theorem z_100 : zeroL Try.prog 100 = some [.lit (.int .i64 0), .lit (.slice none 0 0)] := by kernel_rfl
@[simp] theorem zv_100 : zeroV Try.prog 100 = some [.lit (.int .i64 0), .lit (.slice none 0 0)] := by kernel_rfl
@[simp] theorem bi_100 : bInfo Try.prog 100 = some [(0, 1), (1, 1)] := by kernel_rfl
@[simp] theorem ld_101 : ldInfo Try.prog 101 = some (true, 2) := by kernel_rfl
@[simp] theorem z_101 : zeroL Try.prog 101 = some [.lit (.slice none 0 0), .lit (.map none)] := by kernel_rfl
@[simp] theorem zv_101 : zeroV Try.prog 101 = some [.lit (.slice none 0 0), .lit (.map none)] := by kernel_rfl
@[simp] theorem bi_101 : bInfo Try.prog 101 = some [(0, 1), (1, 1)] := by kernel_rfl
@[simp] theorem ld_102 : ldInfo Try.prog 102 = some (true, 2) := by kernel_rfl
@[simp] theorem z_102 : zeroL Try.prog 102 = some [.lit (.slice none 0 0), .lit (.map none)] := by kernel_rfl
@[simp] theorem zv_102 : zeroV Try.prog 102 = some [.lit (.slice none 0 0), .lit (.map none)] := by kernel_rfl
@[simp] theorem bi_102 : bInfo Try.prog 102 = some [(0, 1), (1, 1)] := by kernel_rfl
@[simp] theorem tk_103 : tk Try.prog 103 = .func := by kernel_rfl
@[simp] theorem ld_103 : ldInfo Try.prog 103 = some (false, 1) := by kernel_rfl
@[simp] theorem ld_104 : ldInfo Try.prog 104 = some (true, 5) := by kernel_rfl
@[simp] theorem z_104 : zeroL Try.prog 104 = some [.lit (.int .i64 0), .lit (.int .i64 0), .lit (.slice none 0 0), .lit (.bool false), .lit (.bool false)] := by kernel_rfl
@[simp] theorem zv_104 : zeroV Try.prog 104 = some [.lit (.int .i64 0), .lit (.int .i64 0), .lit (.slice none 0 0), .lit (.bool false), .lit (.bool false)] := by kernel_rfl
@[simp] theorem bi_104 : bInfo Try.prog 104 = some [(0, 1), (1, 1), (2, 1), (3, 1), (4, 1)] := by kernel_rfl
@[simp] theorem ld_105 : ldInfo Try.prog 105 = some (true, 5) := by kernel_rfl
@[simp] theorem z_105 : zeroL Try.prog 105 = some [.lit (.int .i64 0), .lit (.int .i64 0), .lit (.slice none 0 0), .lit (.bool false), .lit (.bool false)] := by kernel_rfl
@[simp] theorem zv_105 : zeroV Try.prog 105 = some [.lit (.int .i64 0), .lit (.int .i64 0), .lit (.slice none 0 0), .lit (.bool false), .lit (.bool false)] := by kernel_rfl
@[simp] theorem bi_105 : bInfo Try.prog 105 = some [(0, 1), (1, 1), (2, 1), (3, 1), (4, 1)] := by kernel_rfl
@[simp] theorem tk_106 : tk Try.prog 106 = .ptr := by kernel_rfl
@[simp] theorem ld_106 : ldInfo Try.prog 106 = some (false, 1) := by kernel_rfl
@[simp] theorem z_106 : zeroL Try.prog 106 = some [.lit (.pointer none)] := by kernel_rfl
@[simp] theorem tk_107 : tk Try.prog 107 = .func := by kernel_rfl
@[simp] theorem ld_107 : ldInfo Try.prog 107 = some (false, 1) := by kernel_rfl
@[simp] theorem ld_108 : ldInfo Try.prog 108 = some (false, 1) := by kernel_rfl
@[simp] theorem tk_109 : tk Try.prog 109 = .func := by kernel_rfl
@[simp] theorem ld_109 : ldInfo Try.prog 109 = some (false, 1) := by kernel_rfl
@[simp] theorem ld_110 : ldInfo Try.prog 110 = some (false, 1) := by kernel_rfl
@[simp] theorem tk_111 : tk Try.prog 111 = .func := by kernel_rfl
@[simp] theorem ld_111 : ldInfo Try.prog 111 = some (false, 1) := by kernel_rfl
@[simp] theorem tk_112 : tk Try.prog 112 = .flat 3 := by kernel_rfl
@[simp] theorem ld_112 : ldInfo Try.prog 112 = some (true, 3) := by kernel_rfl
@[simp] theorem z_112 : zeroL Try.prog 112 = some [.lit (.int .i64 0), .lit (.int .i64 0), .lit (.int .i64 0)] := by kernel_rfl
@[simp] theorem zv_112 : zeroV Try.prog 112 = some [.lit (.int .i64 0), .lit (.int .i64 0), .lit (.int .i64 0)] := by kernel_rfl
@[simp] theorem bi_112 : bInfo Try.prog 112 = some [(0, 1), (1, 1), (2, 1)] := by kernel_rfl
@[simp] theorem tk_113 : tk Try.prog 113 = .flat 3 := by kernel_rfl
@[simp] theorem ld_113 : ldInfo Try.prog 113 = some (true, 3) := by kernel_rfl
@[simp] theorem z_113 : zeroL Try.prog 113 = some [.lit (.int .i64 0), .lit (.int .i64 0), .lit (.int .i64 0)] := by kernel_rfl
@[simp] theorem zv_113 : zeroV Try.prog 113 = some [.lit (.int .i64 0), .lit (.int .i64 0), .lit (.int .i64 0)] := by kernel_rfl
@[simp] theorem bi_113 : bInfo Try.prog 113 = some [(0, 1), (1, 1), (2, 1)] := by kernel_rfl
@[simp] theorem tk_114 : tk Try.prog 114 = .func := by kernel_rfl
@[simp] theorem ld_114 : ldInfo Try.prog 114 = some (false, 1) := by kernel_rfl
@[simp] theorem tk_115 : tk Try.prog 115 = .func := by kernel_rfl
@[simp] theorem ld_115 : ldInfo Try.prog 115 = some (false, 1) := by kernel_rfl
@[simp] theorem tk_116 : tk Try.prog 116 = .func := by kernel_rfl
@[simp] theorem ld_116 : ldInfo Try.prog 116 = some (false, 1) := by kernel_rfl
@[simp] theorem tk_117 : tk Try.prog 117 = .func := by kernel_rfl
@[simp] theorem ld_117 : ldInfo Try.prog 117 = some (false, 1) := by kernel_rfl
@[simp] theorem tk_118 : tk Try.prog 118 = .func := by kernel_rfl
@[simp] theorem ld_118 : ldInfo Try.prog 118 = some (false, 1) := by kernel_rfl
@[simp] theorem tk_119 : tk Try.prog 119 = .func := by kernel_rfl
@[simp] theorem ld_119 : ldInfo Try.prog 119 = some (false, 1) := by kernel_rfl
@[simp] theorem tk_120 : tk Try.prog 120 = .func := by kernel_rfl
@[simp] theorem ld_120 : ldInfo Try.prog 120 = some (false, 1) := by kernel_rfl
@[simp] theorem ld_121 : ldInfo Try.prog 121 = some (false, 1) := by kernel_rfl
@[simp] theorem tk_122 : tk Try.prog 122 = .func := by kernel_rfl
@[simp] theorem ld_122 : ldInfo Try.prog 122 = some (false, 1) := by kernel_rfl
@[simp] theorem tk_123 : tk Try.prog 123 = .func := by kernel_rfl
@[simp] theorem ld_123 : ldInfo Try.prog 123 = some (false, 1) := by kernel_rfl
@[simp] theorem tk_124 : tk Try.prog 124 = .flat 4 := by kernel_rfl
@[simp] theorem ld_124 : ldInfo Try.prog 124 = some (true, 4) := by kernel_rfl
@[simp] theorem z_124 : zeroL Try.prog 124 = some [.lit (.int .i64 0), .lit (.int .i64 0), .lit (.int .i64 0), .lit (.int .i64 0)] := by kernel_rfl
@[simp] theorem zv_124 : zeroV Try.prog 124 = some [.lit (.int .i64 0), .lit (.int .i64 0), .lit (.int .i64 0), .lit (.int .i64 0)] := by kernel_rfl
@[simp] theorem bi_124 : bInfo Try.prog 124 = some [(0, 1), (1, 1), (2, 1), (3, 1)] := by kernel_rfl
@[simp] theorem tk_125 : tk Try.prog 125 = .flat 4 := by kernel_rfl
@[simp] theorem ld_125 : ldInfo Try.prog 125 = some (true, 4) := by kernel_rfl
@[simp] theorem z_125 : zeroL Try.prog 125 = some [.lit (.int .i64 0), .lit (.int .i64 0), .lit (.int .i64 0), .lit (.int .i64 0)] := by kernel_rfl
@[simp] theorem zv_125 : zeroV Try.prog 125 = some [.lit (.int .i64 0), .lit (.int .i64 0), .lit (.int .i64 0), .lit (.int .i64 0)] := by kernel_rfl
@[simp] theorem bi_125 : bInfo Try.prog 125 = some [(0, 1), (1, 1), (2, 1), (3, 1)] := by kernel_rfl
@[simp] theorem ld_126 : ldInfo Try.prog 126 = some (false, 1) := by kernel_rfl
@[simp] theorem tk_127 : tk Try.prog 127 = .func := by kernel_rfl
@[simp] theorem ld_127 : ldInfo Try.prog 127 = some (false, 1) := by kernel_rfl
@[simp] theorem tk_128 : tk Try.prog 128 = .func := by kernel_rfl
@[simp] theorem ld_128 : ldInfo Try.prog 128 = some (false, 1) := by kernel_rfl
@[simp] theorem tk_129 : tk Try.prog 129 = .func := by kernel_rfl
@[simp] theorem ld_129 : ldInfo Try.prog 129 = some (false, 1) := by kernel_rfl
@[simp] theorem tk_130 : tk Try.prog 130 = .func := by kernel_rfl
@[simp] theorem ld_130 : ldInfo Try.prog 130 = some (false, 1) := by kernel_rfl
@[simp] theorem tk_131 : tk Try.prog 131 = .int := by kernel_rfl
@[simp] theorem ld_131 : ldInfo Try.prog 131 = some (false, 1) := by kernel_rfl
@[simp] theorem cv_131 : cvtK Try.prog 131 = some .u64 := by kernel_rfl
@[simp] theorem z_131 : zeroL Try.prog 131 = some [.lit (.int .u64 0)] := by kernel_rfl
@[simp] theorem tk_132 : tk Try.prog 132 = .func := by kernel_rfl
@[simp] theorem ld_132 : ldInfo Try.prog 132 = some (false, 1) := by kernel_rfl
@[simp] theorem tk_133 : tk Try.prog 133 = .func := by kernel_rfl
@[simp] theorem ld_133 : ldInfo Try.prog 133 = some (false, 1) := by kernel_rfl
@[simp] theorem ld_134 : ldInfo Try.prog 134 = some (false, 1) := by kernel_rfl
@[simp] theorem tk_135 : tk Try.prog 135 = .func := by kernel_rfl
@[simp] theorem ld_135 : ldInfo Try.prog 135 = some (false, 1) := by kernel_rfl
@[simp] theorem tk_136 : tk Try.prog 136 = .func := by kernel_rfl
@[simp] theorem ld_136 : ldInfo Try.prog 136 = some (false, 1) := by kernel_rfl
@[simp] theorem tk_137 : tk Try.prog 137 = .int := by kernel_rfl
@[simp] theorem ld_137 : ldInfo Try.prog 137 = some (false, 1) := by kernel_rfl
@[simp] theorem cv_137 : cvtK Try.prog 137 = some .i64 := by kernel_rfl
@[simp] theorem z_137 : zeroL Try.prog 137 = some [.lit (.int .i64 0)] := by kernel_rfl
@[simp] theorem tk_138 : tk Try.prog 138 = .func := by kernel_rfl
@[simp] theorem ld_138 : ldInfo Try.prog 138 = some (false, 1) := by kernel_rfl
@[simp] theorem tk_139 : tk Try.prog 139 = .int := by kernel_rfl
@[simp] theorem ld_139 : ldInfo Try.prog 139 = some (false, 1) := by kernel_rfl
@[simp] theorem cv_139 : cvtK Try.prog 139 = some .i64 := by kernel_rfl
@[simp] theorem z_139 : zeroL Try.prog 139 = some [.lit (.int .i64 0)] := by kernel_rfl
@[simp] theorem ld_140 : ldInfo Try.prog 140 = some (false, 1) := by kernel_rfl
@[simp] theorem tk_141 : tk Try.prog 141 = .func := by kernel_rfl
@[simp] theorem ld_141 : ldInfo Try.prog 141 = some (false, 1) := by kernel_rfl
@[simp] theorem tk_142 : tk Try.prog 142 = .func := by kernel_rfl
@[simp] theorem ld_142 : ldInfo Try.prog 142 = some (false, 1) := by kernel_rfl
@[simp] theorem tk_143 : tk Try.prog 143 = .func := by kernel_rfl
@[simp] theorem ld_143 : ldInfo Try.prog 143 = some (false, 1) := by kernel_rfl
@[simp] theorem tk_144 : tk Try.prog 144 = .func := by kernel_rfl
@[simp] theorem ld_144 : ldInfo Try.prog 144 = some (false, 1) := by kernel_rfl
@[simp] theorem tk_145 : tk Try.prog 145 = .func := by kernel_rfl
@[simp] theorem ld_145 : ldInfo Try.prog 145 = some (false, 1) := by kernel_rfl
@[simp] theorem tk_146 : tk Try.prog 146 = .int := by kernel_rfl
@[simp] theorem ld_146 : ldInfo Try.prog 146 = some (false, 1) := by kernel_rfl
@[simp] theorem cv_146 : cvtK Try.prog 146 = some .u32 := by kernel_rfl
@[simp] theorem z_146 : zeroL Try.prog 146 = some [.lit (.int .u32 0)] := by kernel_rfl
@[simp] theorem tk_147 : tk Try.prog 147 = .func := by kernel_rfl
@[simp] theorem ld_147 : ldInfo Try.prog 147 = some (false, 1) := by kernel_rfl
@[simp] theorem tk_148 : tk Try.prog 148 = .int := by kernel_rfl
@[simp] theorem ld_148 : ldInfo Try.prog 148 = some (false, 1) := by kernel_rfl
@[simp] theorem cv_148 : cvtK Try.prog 148 = some .u64 := by kernel_rfl
@[simp] theorem z_148 : zeroL Try.prog 148 = some [.lit (.int .u64 0)] := by kernel_rfl
@[simp] theorem tk_149 : tk Try.prog 149 = .func := by kernel_rfl
@[simp] theorem ld_149 : ldInfo Try.prog 149 = some (false, 1) := by kernel_rfl
@[simp] theorem tk_150 : tk Try.prog 150 = .func := by kernel_rfl
@[simp] theorem ld_150 : ldInfo Try.prog 150 = some (false, 1) := by kernel_rfl
@[simp] theorem tk_151 : tk Try.prog 151 = .func := by kernel_rfl
@[simp] theorem ld_151 : ldInfo Try.prog 151 = some (false, 1) := by kernel_rfl
@[simp] theorem tk_152 : tk Try.prog 152 = .func := by kernel_rfl
@[simp] theorem ld_152 : ldInfo Try.prog 152 = some (false, 1) := by kernel_rfl
@[simp] theorem tk_153 : tk Try.prog 153 = .func := by kernel_rfl
@[simp] theorem ld_153 : ldInfo Try.prog 153 = some (false, 1) := by kernel_rfl
@[simp] theorem tk_154 : tk Try.prog 154 = .func := by kernel_rfl
@[simp] theorem ld_154 : ldInfo Try.prog 154 = some (false, 1) := by kernel_rfl
@[simp] theorem tk_155 : tk Try.prog 155 = .func := by kernel_rfl
@[simp] theorem ld_155 : ldInfo Try.prog 155 = some (false, 1) := by kernel_rfl
@[simp] theorem tk_156 : tk Try.prog 156 = .int := by kernel_rfl
@[simp] theorem ld_156 : ldInfo Try.prog 156 = some (false, 1) := by kernel_rfl
@[simp] theorem cv_156 : cvtK Try.prog 156 = some .u64 := by kernel_rfl
@[simp] theorem z_156 : zeroL Try.prog 156 = some [.lit (.int .u64 0)] := by kernel_rfl
@[simp] theorem tk_157 : tk Try.prog 157 = .func := by kernel_rfl
@[simp] theorem ld_157 : ldInfo Try.prog 157 = some (false, 1) := by kernel_rfl
@[simp] theorem tk_158 : tk Try.prog 158 = .func := by kernel_rfl
@[simp] theorem ld_158 : ldInfo Try.prog 158 = some (false, 1) := by kernel_rfl
@[simp] theorem tk_159 : tk Try.prog 159 = .func := by kernel_rfl
@[simp] theorem ld_159 : ldInfo Try.prog 159 = some (false, 1) := by kernel_rfl
@[simp] theorem tk_160 : tk Try.prog 160 = .ptr := by kernel_rfl
@[simp] theorem ld_160 : ldInfo Try.prog 160 = some (false, 1) := by kernel_rfl
@[simp] theorem z_160 : zeroL Try.prog 160 = some [.lit (.pointer none)] := by kernel_rfl
@[simp] theorem tk_161 : tk Try.prog 161 = .func := by kernel_rfl
@[simp] theorem ld_161 : ldInfo Try.prog 161 = some (false, 1) := by kernel_rfl
@[simp] theorem tk_162 : tk Try.prog 162 = .func := by kernel_rfl
@[simp] theorem ld_162 : ldInfo Try.prog 162 = some (false, 1) := by kernel_rfl
@[simp] theorem tk_163 : tk Try.prog 163 = .func := by kernel_rfl
@[simp] theorem ld_163 : ldInfo Try.prog 163 = some (false, 1) := by kernel_rfl
@[simp] theorem tk_164 : tk Try.prog 164 = .flat 3 := by kernel_rfl
@[simp] theorem ld_164 : ldInfo Try.prog 164 = some (true, 3) := by kernel_rfl
@[simp] theorem sln_164 : slSize Try.prog 164 = none := by kernel_rfl
@[simp] theorem ar_164 : arSize Try.prog 164 = some (3, 1) := by kernel_rfl
@[simp] theorem z_164 : zeroL Try.prog 164 = some [.lit (.int .i64 0), .lit (.int .i64 0), .lit (.int .i64 0)] := by kernel_rfl
@[simp] theorem zv_164 : zeroV Try.prog 164 = some [.lit (.int .i64 0), .lit (.int .i64 0), .lit (.int .i64 0)] := by kernel_rfl
@[simp] theorem bi_164 : bInfo Try.prog 164 = some [(0, 1), (1, 1), (2, 1)] := by kernel_rfl
@[simp] theorem ai_164 : arInfo Try.prog 164 = some (3, false, 1) := by kernel_rfl
@[simp] theorem tk_165 : tk Try.prog 165 = .func := by kernel_rfl
@[simp] theorem ld_165 : ldInfo Try.prog 165 = some (false, 1) := by kernel_rfl
@[simp] theorem tk_166 : tk Try.prog 166 = .ptr := by kernel_rfl
@[simp] theorem ld_166 : ldInfo Try.prog 166 = some (false, 1) := by kernel_rfl
@[simp] theorem z_166 : zeroL Try.prog 166 = some [.lit (.pointer none)] := by kernel_rfl
@[simp] theorem tk_167 : tk Try.prog 167 = .func := by kernel_rfl
@[simp] theorem ld_167 : ldInfo Try.prog 167 = some (false, 1) := by kernel_rfl
@[simp] theorem tk_168 : tk Try.prog 168 = .func := by kernel_rfl
@[simp] theorem ld_168 : ldInfo Try.prog 168 = some (false, 1) := by kernel_rfl
@[simp] theorem tk_169 : tk Try.prog 169 = .func := by kernel_rfl
@[simp] theorem ld_169 : ldInfo Try.prog 169 = some (false, 1) := by kernel_rfl
@[simp] theorem ld_170 : ldInfo Try.prog 170 = some (true, 4) := by kernel_rfl
@[simp] theorem z_170 : zeroL Try.prog 170 = some [.lit (.pointer none), .lit (.pointer none), .lit (.pointer none), .lit (.string ByteArray.empty)] := by kernel_rfl
@[simp] theorem zv_170 : zeroV Try.prog 170 = some [.lit (.pointer none), .lit (.pointer none), .lit (.pointer none), .lit (.string ByteArray.empty)] := by kernel_rfl
@[simp] theorem bi_170 : bInfo Try.prog 170 = some [(0, 1), (1, 1), (2, 1), (3, 1)] := by kernel_rfl
@[simp] theorem ld_171 : ldInfo Try.prog 171 = some (true, 4) := by kernel_rfl
@[simp] theorem z_171 : zeroL Try.prog 171 = some [.lit (.pointer none), .lit (.pointer none), .lit (.pointer none), .lit (.string ByteArray.empty)] := by kernel_rfl
@[simp] theorem zv_171 : zeroV Try.prog 171 = some [.lit (.pointer none), .lit (.pointer none), .lit (.pointer none), .lit (.string ByteArray.empty)] := by kernel_rfl
@[simp] theorem bi_171 : bInfo Try.prog 171 = some [(0, 1), (1, 1), (2, 1), (3, 1)] := by kernel_rfl
@[simp] theorem ld_172 : ldInfo Try.prog 172 = some (true, 0) := by kernel_rfl
@[simp] theorem sln_172 : slSize Try.prog 172 = none := by kernel_rfl
@[simp] theorem ar_172 : arSize Try.prog 172 = some (0, 1) := by kernel_rfl
@[simp] theorem z_172 : zeroL Try.prog 172 = some [] := by kernel_rfl
@[simp] theorem zv_172 : zeroV Try.prog 172 = some [] := by kernel_rfl
@[simp] theorem bi_172 : bInfo Try.prog 172 = some [] := by kernel_rfl
@[simp] theorem ai_172 : arInfo Try.prog 172 = some (0, false, 1) := by kernel_rfl
@[simp] theorem ld_173 : ldInfo Try.prog 173 = some (true, 0) := by kernel_rfl
@[simp] theorem z_173 : zeroL Try.prog 173 = some [] := by kernel_rfl
@[simp] theorem zv_173 : zeroV Try.prog 173 = some [] := by kernel_rfl
@[simp] theorem bi_173 : bInfo Try.prog 173 = some [(0, 0)] := by kernel_rfl
@[simp] theorem ld_174 : ldInfo Try.prog 174 = some (true, 0) := by kernel_rfl
@[simp] theorem z_174 : zeroL Try.prog 174 = some [] := by kernel_rfl
@[simp] theorem zv_174 : zeroV Try.prog 174 = some [] := by kernel_rfl
@[simp] theorem bi_174 : bInfo Try.prog 174 = some [(0, 0)] := by kernel_rfl
@[simp] theorem tk_175 : tk Try.prog 175 = .int := by kernel_rfl
@[simp] theorem ld_175 : ldInfo Try.prog 175 = some (false, 1) := by kernel_rfl
@[simp] theorem cv_175 : cvtK Try.prog 175 = some .u8 := by kernel_rfl
@[simp] theorem z_175 : zeroL Try.prog 175 = some [.lit (.int .u8 0)] := by kernel_rfl
@[simp] theorem tk_176 : tk Try.prog 176 = .int := by kernel_rfl
@[simp] theorem ld_176 : ldInfo Try.prog 176 = some (false, 1) := by kernel_rfl
@[simp] theorem cv_176 : cvtK Try.prog 176 = some .u8 := by kernel_rfl
@[simp] theorem z_176 : zeroL Try.prog 176 = some [.lit (.int .u8 0)] := by kernel_rfl
@[simp] theorem tk_177 : tk Try.prog 177 = .func := by kernel_rfl
@[simp] theorem ld_177 : ldInfo Try.prog 177 = some (false, 1) := by kernel_rfl
@[simp] theorem tk_178 : tk Try.prog 178 = .ptr := by kernel_rfl
@[simp] theorem ld_178 : ldInfo Try.prog 178 = some (false, 1) := by kernel_rfl
@[simp] theorem z_178 : zeroL Try.prog 178 = some [.lit (.pointer none)] := by kernel_rfl
@[simp] theorem tk_179 : tk Try.prog 179 = .int := by kernel_rfl
@[simp] theorem ld_179 : ldInfo Try.prog 179 = some (false, 1) := by kernel_rfl
@[simp] theorem cv_179 : cvtK Try.prog 179 = some .i32 := by kernel_rfl
@[simp] theorem z_179 : zeroL Try.prog 179 = some [.lit (.int .i32 0)] := by kernel_rfl
@[simp] theorem tk_180 : tk Try.prog 180 = .int := by kernel_rfl
@[simp] theorem ld_180 : ldInfo Try.prog 180 = some (false, 1) := by kernel_rfl
@[simp] theorem cv_180 : cvtK Try.prog 180 = some .i32 := by kernel_rfl
@[simp] theorem z_180 : zeroL Try.prog 180 = some [.lit (.int .i32 0)] := by kernel_rfl
@[simp] theorem ld_181 : ldInfo Try.prog 181 = some (true, 11) := by kernel_rfl
@[simp] theorem ld_182 : ldInfo Try.prog 182 = some (true, 11) := by kernel_rfl
@[simp] theorem ld_183 : ldInfo Try.prog 183 = some (false, 1) := by kernel_rfl
@[simp] theorem z_183 : zeroL Try.prog 183 = some [.lit (.pointer none)] := by kernel_rfl
@[simp] theorem fo_7_0 : fOff Try.prog 7 0 = some 0 := by kernel_rfl
@[simp] theorem fi_7_0 : fldInfo Try.prog 7 0 = some (0, false, 1) := by kernel_rfl
@[simp] theorem fo_7_1 : fOff Try.prog 7 1 = some 1 := by kernel_rfl
@[simp] theorem fi_7_1 : fldInfo Try.prog 7 1 = some (1, false, 1) := by kernel_rfl
@[simp] theorem fo_7_2 : fOff Try.prog 7 2 = some 2 := by kernel_rfl
@[simp] theorem fi_7_2 : fldInfo Try.prog 7 2 = some (2, false, 1) := by kernel_rfl
@[simp] theorem fo_7_3 : fOff Try.prog 7 3 = some 3 := by kernel_rfl
@[simp] theorem fi_7_3 : fldInfo Try.prog 7 3 = some (3, false, 1) := by kernel_rfl
@[simp] theorem fo_8_0 : fOff Try.prog 8 0 = some 0 := by kernel_rfl
@[simp] theorem fi_8_0 : fldInfo Try.prog 8 0 = some (0, false, 1) := by kernel_rfl
@[simp] theorem fo_8_1 : fOff Try.prog 8 1 = some 1 := by kernel_rfl
@[simp] theorem fi_8_1 : fldInfo Try.prog 8 1 = some (1, false, 1) := by kernel_rfl
@[simp] theorem fo_8_2 : fOff Try.prog 8 2 = some 2 := by kernel_rfl
@[simp] theorem fi_8_2 : fldInfo Try.prog 8 2 = some (2, false, 1) := by kernel_rfl
@[simp] theorem fo_8_3 : fOff Try.prog 8 3 = some 3 := by kernel_rfl
@[simp] theorem fi_8_3 : fldInfo Try.prog 8 3 = some (3, false, 1) := by kernel_rfl
@[simp] theorem fo_13_0 : fOff Try.prog 13 0 = some 0 := by kernel_rfl
@[simp] theorem fi_13_0 : fldInfo Try.prog 13 0 = some (0, false, 1) := by kernel_rfl
@[simp] theorem fo_13_1 : fOff Try.prog 13 1 = some 1 := by kernel_rfl
@[simp] theorem fi_13_1 : fldInfo Try.prog 13 1 = some (1, false, 1) := by kernel_rfl
@[simp] theorem fo_14_0 : fOff Try.prog 14 0 = some 0 := by kernel_rfl
@[simp] theorem fi_14_0 : fldInfo Try.prog 14 0 = some (0, false, 1) := by kernel_rfl
@[simp] theorem fo_14_1 : fOff Try.prog 14 1 = some 1 := by kernel_rfl
@[simp] theorem fi_14_1 : fldInfo Try.prog 14 1 = some (1, false, 1) := by kernel_rfl
@[simp] theorem fo_18_0 : fOff Try.prog 18 0 = some 0 := by kernel_rfl
@[simp] theorem fi_18_0 : fldInfo Try.prog 18 0 = some (0, false, 1) := by kernel_rfl
@[simp] theorem fo_19_0 : fOff Try.prog 19 0 = some 0 := by kernel_rfl
@[simp] theorem fi_19_0 : fldInfo Try.prog 19 0 = some (0, false, 1) := by kernel_rfl
@[simp] theorem fo_29_0 : fOff Try.prog 29 0 = some 0 := by kernel_rfl
@[simp] theorem fi_29_0 : fldInfo Try.prog 29 0 = some (0, false, 1) := by kernel_rfl
@[simp] theorem fo_29_1 : fOff Try.prog 29 1 = some 1 := by kernel_rfl
@[simp] theorem fi_29_1 : fldInfo Try.prog 29 1 = some (1, false, 1) := by kernel_rfl
@[simp] theorem fo_30_0 : fOff Try.prog 30 0 = some 0 := by kernel_rfl
@[simp] theorem fi_30_0 : fldInfo Try.prog 30 0 = some (0, false, 1) := by kernel_rfl
@[simp] theorem fo_30_1 : fOff Try.prog 30 1 = some 1 := by kernel_rfl
@[simp] theorem fi_30_1 : fldInfo Try.prog 30 1 = some (1, false, 1) := by kernel_rfl
@[simp] theorem fo_32_0 : fOff Try.prog 32 0 = some 0 := by kernel_rfl
@[simp] theorem fi_32_0 : fldInfo Try.prog 32 0 = some (0, false, 1) := by kernel_rfl
@[simp] theorem fo_32_1 : fOff Try.prog 32 1 = some 1 := by kernel_rfl
@[simp] theorem fi_32_1 : fldInfo Try.prog 32 1 = some (1, false, 1) := by kernel_rfl
@[simp] theorem fo_32_2 : fOff Try.prog 32 2 = some 2 := by kernel_rfl
@[simp] theorem fi_32_2 : fldInfo Try.prog 32 2 = some (2, false, 1) := by kernel_rfl
@[simp] theorem fo_33_0 : fOff Try.prog 33 0 = some 0 := by kernel_rfl
@[simp] theorem fi_33_0 : fldInfo Try.prog 33 0 = some (0, false, 1) := by kernel_rfl
@[simp] theorem fo_33_1 : fOff Try.prog 33 1 = some 1 := by kernel_rfl
@[simp] theorem fi_33_1 : fldInfo Try.prog 33 1 = some (1, false, 1) := by kernel_rfl
@[simp] theorem fo_33_2 : fOff Try.prog 33 2 = some 2 := by kernel_rfl
@[simp] theorem fi_33_2 : fldInfo Try.prog 33 2 = some (2, false, 1) := by kernel_rfl
@[simp] theorem fo_34_0 : fOff Try.prog 34 0 = some 0 := by kernel_rfl
@[simp] theorem fi_34_0 : fldInfo Try.prog 34 0 = some (0, false, 1) := by kernel_rfl
@[simp] theorem fo_34_1 : fOff Try.prog 34 1 = some 1 := by kernel_rfl
@[simp] theorem fi_34_1 : fldInfo Try.prog 34 1 = some (1, false, 1) := by kernel_rfl
@[simp] theorem fo_34_2 : fOff Try.prog 34 2 = some 2 := by kernel_rfl
@[simp] theorem fi_34_2 : fldInfo Try.prog 34 2 = some (2, true, 2) := by kernel_rfl
@[simp] theorem fo_34_3 : fOff Try.prog 34 3 = some 4 := by kernel_rfl
@[simp] theorem fi_34_3 : fldInfo Try.prog 34 3 = some (4, true, 3) := by kernel_rfl
@[simp] theorem fo_34_4 : fOff Try.prog 34 4 = some 7 := by kernel_rfl
@[simp] theorem fi_34_4 : fldInfo Try.prog 34 4 = some (7, false, 1) := by kernel_rfl
@[simp] theorem fo_35_0 : fOff Try.prog 35 0 = some 0 := by kernel_rfl
@[simp] theorem fi_35_0 : fldInfo Try.prog 35 0 = some (0, false, 1) := by kernel_rfl
@[simp] theorem fo_35_1 : fOff Try.prog 35 1 = some 1 := by kernel_rfl
@[simp] theorem fi_35_1 : fldInfo Try.prog 35 1 = some (1, false, 1) := by kernel_rfl
@[simp] theorem fo_35_2 : fOff Try.prog 35 2 = some 2 := by kernel_rfl
@[simp] theorem fi_35_2 : fldInfo Try.prog 35 2 = some (2, true, 2) := by kernel_rfl
@[simp] theorem fo_35_3 : fOff Try.prog 35 3 = some 4 := by kernel_rfl
@[simp] theorem fi_35_3 : fldInfo Try.prog 35 3 = some (4, true, 3) := by kernel_rfl
@[simp] theorem fo_35_4 : fOff Try.prog 35 4 = some 7 := by kernel_rfl
@[simp] theorem fi_35_4 : fldInfo Try.prog 35 4 = some (7, false, 1) := by kernel_rfl
@[simp] theorem fo_49_0 : fOff Try.prog 49 0 = some 0 := by kernel_rfl
@[simp] theorem fi_49_0 : fldInfo Try.prog 49 0 = some (0, false, 1) := by kernel_rfl
@[simp] theorem fo_49_1 : fOff Try.prog 49 1 = some 1 := by kernel_rfl
@[simp] theorem fi_49_1 : fldInfo Try.prog 49 1 = some (1, false, 1) := by kernel_rfl
@[simp] theorem fo_49_2 : fOff Try.prog 49 2 = some 2 := by kernel_rfl
@[simp] theorem fi_49_2 : fldInfo Try.prog 49 2 = some (2, false, 1) := by kernel_rfl
@[simp] theorem fo_49_3 : fOff Try.prog 49 3 = some 3 := by kernel_rfl
@[simp] theorem fi_49_3 : fldInfo Try.prog 49 3 = some (3, false, 1) := by kernel_rfl
@[simp] theorem fo_50_0 : fOff Try.prog 50 0 = some 0 := by kernel_rfl
@[simp] theorem fi_50_0 : fldInfo Try.prog 50 0 = some (0, false, 1) := by kernel_rfl
@[simp] theorem fo_50_1 : fOff Try.prog 50 1 = some 1 := by kernel_rfl
@[simp] theorem fi_50_1 : fldInfo Try.prog 50 1 = some (1, false, 1) := by kernel_rfl
@[simp] theorem fo_50_2 : fOff Try.prog 50 2 = some 2 := by kernel_rfl
@[simp] theorem fi_50_2 : fldInfo Try.prog 50 2 = some (2, false, 1) := by kernel_rfl
@[simp] theorem fo_50_3 : fOff Try.prog 50 3 = some 3 := by kernel_rfl
@[simp] theorem fi_50_3 : fldInfo Try.prog 50 3 = some (3, false, 1) := by kernel_rfl
@[simp] theorem fo_56_0 : fOff Try.prog 56 0 = some 0 := by kernel_rfl
@[simp] theorem fi_56_0 : fldInfo Try.prog 56 0 = some (0, false, 1) := by kernel_rfl
@[simp] theorem fo_56_1 : fOff Try.prog 56 1 = some 1 := by kernel_rfl
@[simp] theorem fi_56_1 : fldInfo Try.prog 56 1 = some (1, false, 1) := by kernel_rfl
@[simp] theorem fo_56_2 : fOff Try.prog 56 2 = some 2 := by kernel_rfl
@[simp] theorem fi_56_2 : fldInfo Try.prog 56 2 = some (2, false, 1) := by kernel_rfl
@[simp] theorem fo_56_3 : fOff Try.prog 56 3 = some 3 := by kernel_rfl
@[simp] theorem fi_56_3 : fldInfo Try.prog 56 3 = some (3, false, 1) := by kernel_rfl
@[simp] theorem fo_90_0 : fOff Try.prog 90 0 = some 0 := by kernel_rfl
@[simp] theorem fi_90_0 : fldInfo Try.prog 90 0 = some (0, false, 1) := by kernel_rfl
@[simp] theorem fo_90_1 : fOff Try.prog 90 1 = some 1 := by kernel_rfl
@[simp] theorem fi_90_1 : fldInfo Try.prog 90 1 = some (1, false, 1) := by kernel_rfl
@[simp] theorem fo_90_2 : fOff Try.prog 90 2 = some 2 := by kernel_rfl
@[simp] theorem fi_90_2 : fldInfo Try.prog 90 2 = some (2, false, 1) := by kernel_rfl
@[simp] theorem fo_90_3 : fOff Try.prog 90 3 = some 3 := by kernel_rfl
@[simp] theorem fi_90_3 : fldInfo Try.prog 90 3 = some (3, false, 1) := by kernel_rfl
@[simp] theorem fo_91_0 : fOff Try.prog 91 0 = some 0 := by kernel_rfl
@[simp] theorem fi_91_0 : fldInfo Try.prog 91 0 = some (0, false, 1) := by kernel_rfl
@[simp] theorem fo_91_1 : fOff Try.prog 91 1 = some 1 := by kernel_rfl
@[simp] theorem fi_91_1 : fldInfo Try.prog 91 1 = some (1, false, 1) := by kernel_rfl
@[simp] theorem fo_91_2 : fOff Try.prog 91 2 = some 2 := by kernel_rfl
@[simp] theorem fi_91_2 : fldInfo Try.prog 91 2 = some (2, false, 1) := by kernel_rfl
@[simp] theorem fo_91_3 : fOff Try.prog 91 3 = some 3 := by kernel_rfl
@[simp] theorem fi_91_3 : fldInfo Try.prog 91 3 = some (3, false, 1) := by kernel_rfl
@[simp] theorem fo_99_0 : fOff Try.prog 99 0 = some 0 := by kernel_rfl
@[simp] theorem fi_99_0 : fldInfo Try.prog 99 0 = some (0, false, 1) := by kernel_rfl
@[simp] theorem fo_99_1 : fOff Try.prog 99 1 = some 1 := by kernel_rfl
@[simp] theorem fi_99_1 : fldInfo Try.prog 99 1 = some (1, false, 1) := by kernel_rfl
@[simp] theorem fo_100_0 : fOff Try.prog 100 0 = some 0 := by kernel_rfl
@[simp] theorem fi_100_0 : fldInfo Try.prog 100 0 = some (0, false, 1) := by kernel_rfl
@[simp] theorem fo_100_1 : fOff Try.prog 100 1 = some 1 := by kernel_rfl
@[simp] theorem fi_100_1 : fldInfo Try.prog 100 1 = some (1, false, 1) := by kernel_rfl
@[simp] theorem fo_101_0 : fOff Try.prog 101 0 = some 0 := by kernel_rfl
@[simp] theorem fi_101_0 : fldInfo Try.prog 101 0 = some (0, false, 1) := by kernel_rfl
@[simp] theorem fo_101_1 : fOff Try.prog 101 1 = some 1 := by kernel_rfl
@[simp] theorem fi_101_1 : fldInfo Try.prog 101 1 = some (1, false, 1) := by kernel_rfl
@[simp] theorem fo_102_0 : fOff Try.prog 102 0 = some 0 := by kernel_rfl
@[simp] theorem fi_102_0 : fldInfo Try.prog 102 0 = some (0, false, 1) := by kernel_rfl
@[simp] theorem fo_102_1 : fOff Try.prog 102 1 = some 1 := by kernel_rfl
@[simp] theorem fi_102_1 : fldInfo Try.prog 102 1 = some (1, false, 1) := by kernel_rfl
@[simp] theorem fo_104_0 : fOff Try.prog 104 0 = some 0 := by kernel_rfl
@[simp] theorem fi_104_0 : fldInfo Try.prog 104 0 = some (0, false, 1) := by kernel_rfl
@[simp] theorem fo_104_1 : fOff Try.prog 104 1 = some 1 := by kernel_rfl
@[simp] theorem fi_104_1 : fldInfo Try.prog 104 1 = some (1, false, 1) := by kernel_rfl
@[simp] theorem fo_104_2 : fOff Try.prog 104 2 = some 2 := by kernel_rfl
@[simp] theorem fi_104_2 : fldInfo Try.prog 104 2 = some (2, false, 1) := by kernel_rfl
@[simp] theorem fo_104_3 : fOff Try.prog 104 3 = some 3 := by kernel_rfl
@[simp] theorem fi_104_3 : fldInfo Try.prog 104 3 = some (3, false, 1) := by kernel_rfl
@[simp] theorem fo_104_4 : fOff Try.prog 104 4 = some 4 := by kernel_rfl
@[simp] theorem fi_104_4 : fldInfo Try.prog 104 4 = some (4, false, 1) := by kernel_rfl
@[simp] theorem fo_105_0 : fOff Try.prog 105 0 = some 0 := by kernel_rfl
@[simp] theorem fi_105_0 : fldInfo Try.prog 105 0 = some (0, false, 1) := by kernel_rfl
@[simp] theorem fo_105_1 : fOff Try.prog 105 1 = some 1 := by kernel_rfl
@[simp] theorem fi_105_1 : fldInfo Try.prog 105 1 = some (1, false, 1) := by kernel_rfl
@[simp] theorem fo_105_2 : fOff Try.prog 105 2 = some 2 := by kernel_rfl
@[simp] theorem fi_105_2 : fldInfo Try.prog 105 2 = some (2, false, 1) := by kernel_rfl
@[simp] theorem fo_105_3 : fOff Try.prog 105 3 = some 3 := by kernel_rfl
@[simp] theorem fi_105_3 : fldInfo Try.prog 105 3 = some (3, false, 1) := by kernel_rfl
@[simp] theorem fo_105_4 : fOff Try.prog 105 4 = some 4 := by kernel_rfl
@[simp] theorem fi_105_4 : fldInfo Try.prog 105 4 = some (4, false, 1) := by kernel_rfl
@[simp] theorem fo_112_0 : fOff Try.prog 112 0 = some 0 := by kernel_rfl
@[simp] theorem fi_112_0 : fldInfo Try.prog 112 0 = some (0, false, 1) := by kernel_rfl
@[simp] theorem fo_112_1 : fOff Try.prog 112 1 = some 1 := by kernel_rfl
@[simp] theorem fi_112_1 : fldInfo Try.prog 112 1 = some (1, false, 1) := by kernel_rfl
@[simp] theorem fo_112_2 : fOff Try.prog 112 2 = some 2 := by kernel_rfl
@[simp] theorem fi_112_2 : fldInfo Try.prog 112 2 = some (2, false, 1) := by kernel_rfl
@[simp] theorem fo_113_0 : fOff Try.prog 113 0 = some 0 := by kernel_rfl
@[simp] theorem fi_113_0 : fldInfo Try.prog 113 0 = some (0, false, 1) := by kernel_rfl
@[simp] theorem fo_113_1 : fOff Try.prog 113 1 = some 1 := by kernel_rfl
@[simp] theorem fi_113_1 : fldInfo Try.prog 113 1 = some (1, false, 1) := by kernel_rfl
@[simp] theorem fo_113_2 : fOff Try.prog 113 2 = some 2 := by kernel_rfl
@[simp] theorem fi_113_2 : fldInfo Try.prog 113 2 = some (2, false, 1) := by kernel_rfl
@[simp] theorem fo_124_0 : fOff Try.prog 124 0 = some 0 := by kernel_rfl
@[simp] theorem fi_124_0 : fldInfo Try.prog 124 0 = some (0, false, 1) := by kernel_rfl
@[simp] theorem fo_124_1 : fOff Try.prog 124 1 = some 1 := by kernel_rfl
@[simp] theorem fi_124_1 : fldInfo Try.prog 124 1 = some (1, false, 1) := by kernel_rfl
@[simp] theorem fo_124_2 : fOff Try.prog 124 2 = some 2 := by kernel_rfl
@[simp] theorem fi_124_2 : fldInfo Try.prog 124 2 = some (2, false, 1) := by kernel_rfl
@[simp] theorem fo_124_3 : fOff Try.prog 124 3 = some 3 := by kernel_rfl
@[simp] theorem fi_124_3 : fldInfo Try.prog 124 3 = some (3, false, 1) := by kernel_rfl
@[simp] theorem fo_125_0 : fOff Try.prog 125 0 = some 0 := by kernel_rfl
@[simp] theorem fi_125_0 : fldInfo Try.prog 125 0 = some (0, false, 1) := by kernel_rfl
@[simp] theorem fo_125_1 : fOff Try.prog 125 1 = some 1 := by kernel_rfl
@[simp] theorem fi_125_1 : fldInfo Try.prog 125 1 = some (1, false, 1) := by kernel_rfl
@[simp] theorem fo_125_2 : fOff Try.prog 125 2 = some 2 := by kernel_rfl
@[simp] theorem fi_125_2 : fldInfo Try.prog 125 2 = some (2, false, 1) := by kernel_rfl
@[simp] theorem fo_125_3 : fOff Try.prog 125 3 = some 3 := by kernel_rfl
@[simp] theorem fi_125_3 : fldInfo Try.prog 125 3 = some (3, false, 1) := by kernel_rfl
@[simp] theorem fo_170_0 : fOff Try.prog 170 0 = some 0 := by kernel_rfl
@[simp] theorem fi_170_0 : fldInfo Try.prog 170 0 = some (0, false, 1) := by kernel_rfl
@[simp] theorem fo_170_1 : fOff Try.prog 170 1 = some 1 := by kernel_rfl
@[simp] theorem fi_170_1 : fldInfo Try.prog 170 1 = some (1, false, 1) := by kernel_rfl
@[simp] theorem fo_170_2 : fOff Try.prog 170 2 = some 2 := by kernel_rfl
@[simp] theorem fi_170_2 : fldInfo Try.prog 170 2 = some (2, false, 1) := by kernel_rfl
@[simp] theorem fo_170_3 : fOff Try.prog 170 3 = some 3 := by kernel_rfl
@[simp] theorem fi_170_3 : fldInfo Try.prog 170 3 = some (3, false, 1) := by kernel_rfl
@[simp] theorem fo_171_0 : fOff Try.prog 171 0 = some 0 := by kernel_rfl
@[simp] theorem fi_171_0 : fldInfo Try.prog 171 0 = some (0, false, 1) := by kernel_rfl
@[simp] theorem fo_171_1 : fOff Try.prog 171 1 = some 1 := by kernel_rfl
@[simp] theorem fi_171_1 : fldInfo Try.prog 171 1 = some (1, false, 1) := by kernel_rfl
@[simp] theorem fo_171_2 : fOff Try.prog 171 2 = some 2 := by kernel_rfl
@[simp] theorem fi_171_2 : fldInfo Try.prog 171 2 = some (2, false, 1) := by kernel_rfl
@[simp] theorem fo_171_3 : fOff Try.prog 171 3 = some 3 := by kernel_rfl
@[simp] theorem fi_171_3 : fldInfo Try.prog 171 3 = some (3, false, 1) := by kernel_rfl
@[simp] theorem fi_173_0 : fldInfo Try.prog 173 0 = some (0, true, 0) := by kernel_rfl
@[simp] theorem fi_174_0 : fldInfo Try.prog 174 0 = some (0, true, 0) := by kernel_rfl
@[simp] theorem fo_181_0 : fOff Try.prog 181 0 = some 0 := by kernel_rfl
@[simp] theorem fi_181_0 : fldInfo Try.prog 181 0 = some (0, false, 1) := by kernel_rfl
@[simp] theorem fo_181_1 : fOff Try.prog 181 1 = some 1 := by kernel_rfl
@[simp] theorem fi_181_1 : fldInfo Try.prog 181 1 = some (1, false, 1) := by kernel_rfl
@[simp] theorem fo_181_2 : fOff Try.prog 181 2 = some 2 := by kernel_rfl
@[simp] theorem fi_181_2 : fldInfo Try.prog 181 2 = some (2, false, 1) := by kernel_rfl
@[simp] theorem fo_181_3 : fOff Try.prog 181 3 = some 3 := by kernel_rfl
@[simp] theorem fi_181_3 : fldInfo Try.prog 181 3 = some (3, false, 1) := by kernel_rfl
@[simp] theorem fo_181_4 : fOff Try.prog 181 4 = some 4 := by kernel_rfl
@[simp] theorem fi_181_4 : fldInfo Try.prog 181 4 = some (4, false, 1) := by kernel_rfl
@[simp] theorem fo_181_5 : fOff Try.prog 181 5 = some 5 := by kernel_rfl
@[simp] theorem fi_181_5 : fldInfo Try.prog 181 5 = some (5, false, 1) := by kernel_rfl
@[simp] theorem fo_181_6 : fOff Try.prog 181 6 = some 6 := by kernel_rfl
@[simp] theorem fi_181_6 : fldInfo Try.prog 181 6 = some (6, false, 1) := by kernel_rfl
@[simp] theorem fo_181_7 : fOff Try.prog 181 7 = some 7 := by kernel_rfl
@[simp] theorem fi_181_7 : fldInfo Try.prog 181 7 = some (7, false, 1) := by kernel_rfl
@[simp] theorem fo_181_8 : fOff Try.prog 181 8 = some 8 := by kernel_rfl
@[simp] theorem fi_181_8 : fldInfo Try.prog 181 8 = some (8, false, 1) := by kernel_rfl
@[simp] theorem fo_181_9 : fOff Try.prog 181 9 = some 9 := by kernel_rfl
@[simp] theorem fi_181_9 : fldInfo Try.prog 181 9 = some (9, false, 1) := by kernel_rfl
@[simp] theorem fo_181_10 : fOff Try.prog 181 10 = some 10 := by kernel_rfl
@[simp] theorem fi_181_10 : fldInfo Try.prog 181 10 = some (10, false, 1) := by kernel_rfl
@[simp] theorem fo_182_0 : fOff Try.prog 182 0 = some 0 := by kernel_rfl
@[simp] theorem fi_182_0 : fldInfo Try.prog 182 0 = some (0, false, 1) := by kernel_rfl
@[simp] theorem fo_182_1 : fOff Try.prog 182 1 = some 1 := by kernel_rfl
@[simp] theorem fi_182_1 : fldInfo Try.prog 182 1 = some (1, false, 1) := by kernel_rfl
@[simp] theorem fo_182_2 : fOff Try.prog 182 2 = some 2 := by kernel_rfl
@[simp] theorem fi_182_2 : fldInfo Try.prog 182 2 = some (2, false, 1) := by kernel_rfl
@[simp] theorem fo_182_3 : fOff Try.prog 182 3 = some 3 := by kernel_rfl
@[simp] theorem fi_182_3 : fldInfo Try.prog 182 3 = some (3, false, 1) := by kernel_rfl
@[simp] theorem fo_182_4 : fOff Try.prog 182 4 = some 4 := by kernel_rfl
@[simp] theorem fi_182_4 : fldInfo Try.prog 182 4 = some (4, false, 1) := by kernel_rfl
@[simp] theorem fo_182_5 : fOff Try.prog 182 5 = some 5 := by kernel_rfl
@[simp] theorem fi_182_5 : fldInfo Try.prog 182 5 = some (5, false, 1) := by kernel_rfl
@[simp] theorem fo_182_6 : fOff Try.prog 182 6 = some 6 := by kernel_rfl
@[simp] theorem fi_182_6 : fldInfo Try.prog 182 6 = some (6, false, 1) := by kernel_rfl
@[simp] theorem fo_182_7 : fOff Try.prog 182 7 = some 7 := by kernel_rfl
@[simp] theorem fi_182_7 : fldInfo Try.prog 182 7 = some (7, false, 1) := by kernel_rfl
@[simp] theorem fo_182_8 : fOff Try.prog 182 8 = some 8 := by kernel_rfl
@[simp] theorem fi_182_8 : fldInfo Try.prog 182 8 = some (8, false, 1) := by kernel_rfl
@[simp] theorem fo_182_9 : fOff Try.prog 182 9 = some 9 := by kernel_rfl
@[simp] theorem fi_182_9 : fldInfo Try.prog 182 9 = some (9, false, 1) := by kernel_rfl
@[simp] theorem fo_182_10 : fOff Try.prog 182 10 = some 10 := by kernel_rfl
@[simp] theorem fi_182_10 : fldInfo Try.prog 182 10 = some (10, false, 1) := by kernel_rfl

end Go.AX

namespace Go.AX
open Go.Proofs
theorem hmo : Try.prog.follows .mixedOrders = true := by kernel_rfl

/-! ### Plain laws -/
theorem w64_half (x : Int) : w64 ((w64 x).tdiv 2) = (w64 x).tdiv 2 := by
  have h1 := w64_lo x
  have h2 := w64_hi x
  have h3 := Int.mul_tdiv_add_tmod (w64 x) 2
  have h4 := Int.tmod_lt_of_pos (w64 x) (show (0 : Int) < 2 by omega)
  have h5 : -2 < (w64 x).tmod 2 := by have := Int.lt_tmod_of_pos (w64 x) (show (0 : Int) < 2 by omega); omega
  exact w64_id (by omega) (by omega)
def chooseS (n : Int) : Int := (w64 (n * (n - 1))).tdiv 2
def sizeOk (a b : Int) : Bool := !(decide (a < 0) || decide (a > 64) || decide (b < 1) || decide (b > 32))
theorem sizeOk_iff {a b : Int} : sizeOk a b = true ↔ 0 ≤ a ∧ a ≤ 64 ∧ 1 ≤ b ∧ b ≤ 32 := by
  simp [sizeOk]; omega
theorem chooseS_two {a : Int} (h0 : 0 ≤ a) (h1 : a ≤ 64) : 2 * chooseS a = a * (a - 1) := by
  obtain ⟨k, rfl⟩ := Int.eq_ofNat_of_zero_le h0
  have hk : k < 65 := by omega
  have key : ∀ j : Fin 65, 2 * chooseS (j.val : Int) = (j.val : Int) * ((j.val : Int) - 1) := by decide +kernel
  exact key ⟨k, hk⟩
def timesOk (n m p : Int) : Bool := sizeOk n m && !(decide (p < 0) || decide (p > 2016))
theorem timesOk_iff {n m p : Int} : timesOk n m p = true ↔ sizeOk n m = true ∧ 0 ≤ p ∧ p ≤ 2016 := by simp [timesOk]
def placesN (n m : Int) : Int := if sizeOk n m then w64 (n + n * n * (n - 1)) else 0
def timesN (n m p : Int) : Int := if timesOk n m p then w64 (p * chooseS n) else 0
def statesN (n m : Int) : Int := if sizeOk n m then w64 (1 + (n + 1) * (1 + chooseS m)) else 0
def movesOk (n m e : Int) : Bool := sizeOk n m && !(decide (e < 0) || decide (e > n))
theorem movesOk_iff {n m e : Int} : movesOk n m e = true ↔ sizeOk n m = true ∧ 0 ≤ e ∧ e ≤ n := by simp [movesOk]
def movesN (n m e : Int) : Int := if movesOk n m e then w64 (e * (1 + n * m) + (n - e) * (2 * n * m)) else 0
/-- The sum, so far. -/
def movesSum (n m e i : Int) : Int := if i ≤ e then i * (1 + n * m) else e * (1 + n * m) + (i - e) * (2 * n * m)
theorem movesSum_lt {n m e i : Int} (h : i < e) : movesSum n m e (i + 1) = movesSum n m e i + 1 + n * m := by
  unfold movesSum; rw [if_pos (by omega), if_pos (by omega)]; grind
theorem movesSum_ge {n m e i : Int} (h : e ≤ i) : movesSum n m e (i + 1) = movesSum n m e i + 2 * n * m := by
  unfold movesSum
  rw [if_neg (by omega)]
  by_cases h2 : i ≤ e
  · have : i = e := by omega
    subst this; rw [if_pos h2]; grind
  · rw [if_neg h2]; grind
theorem movesSum_all {n m e : Int} (h : e ≤ n) : movesSum n m e n = e * (1 + n * m) + (n - e) * (2 * n * m) := by
  unfold movesSum
  split
  · have : n = e := by omega
    subst this; grind
  · rfl

/-! ### Walks -/
end Go.AX

namespace Go.AX
open Go.Proofs

structure Op5 where
  p : Int
  k : Int
  s : Int
  e : Int
  r : Int
  deriving DecidableEq, Inhabited

def orow (o : Op5) : List PV := [I64 o.p, I64 o.k, I64 o.s, I64 o.e, I64 o.r]
def ovec (ops : List Op5) : PV := .seq false 5 (ops.map orow)

def aheadS (a b : Op5) : Bool := decide (a.e ≥ 0) && decide (a.e < b.s)
def endedS (o : Op5) : Bool := if o.e = -1 then decide (o.r = -1) else decide (o.e > o.s) && decide (o.e ≤ 9999) && decide (o.r ≥ 0) && decide (o.r ≤ 1000000)
def aloneS (o : Op5) : Int := if o.p < 1 ∨ o.p > 1000 ∨ o.s < 0 ∨ o.s > 9999 then 2 else if o.k < 0 ∨ o.k ≥ 64 then 31 else if endedS o then 0 else 7
@[simp] theorem belowR_orow (k : Nat) (ops : List Op5) : belowR k (ops.map orow) := by
  rw [belowR_iff]; intro r hr x hx
  obtain ⟨o, _, rfl⟩ := List.mem_map.1 hr
  simp [orow] at hx
  rcases hx with rfl | rfl | rfl | rfl | rfl <;> trivial
@[simp] theorem belowR_ints (k : Nat) (l : List Int) : belowR k (l.map fun i => [I64 i]) := by
  rw [belowR_iff]; intro r hr x hx
  obtain ⟨o, _, rfl⟩ := List.mem_map.1 hr
  simp at hx; subst hx; trivial

def pendTo (ops : List Op5) (n : Nat) : List Int := ((List.range n).filter fun j => decide ((ops.getD j default).e = -1)).map Int.ofNat
theorem pendTo_succ (ops : List Op5) {n : Nat} (h : n < ops.length) : pendTo ops (n + 1) = if ops[n].e = -1 then pendTo ops n ++ [(n : Int)] else pendTo ops n := by
  unfold pendTo
  rw [List.range_succ, List.filter_append, List.map_append]
  simp only [List.filter_cons, List.filter_nil, List.getD_eq_getElem?_getD, List.getElem?_eq_getElem h, Option.getD_some]
  split <;> simp_all
theorem pendTo_length (ops : List Op5) (n : Nat) : (pendTo ops n).length ≤ n := by
  unfold pendTo
  rw [List.length_map]
  exact Nat.le_trans (List.length_filter_le _ _) (by simp)

/-! ### Pairs -/
def prow (p : Int × Int) : List PV := [I64 p.1, I64 p.2]
@[simp] theorem belowR_prow (k : Nat) (l : List (Int × Int)) : belowR k (l.map prow) := by
  rw [belowR_iff]; intro r hr x hx
  obtain ⟨o, _, rfl⟩ := List.mem_map.1 hr
  simp [prow] at hx; rcases hx with rfl | rfl <;> trivial
def pairsRow (ops : List Op5) (i j : Nat) : List (Int × Int) := ((List.range j).filter fun b => aheadS (ops.getD i default) (ops.getD b default)).map fun (b : Nat) => ((i : Int), (b : Int))
def pairsTo (ops : List Op5) (i : Nat) : List (Int × Int) := (List.range i).flatMap fun a => pairsRow ops a ops.length
theorem pairsRow_succ (ops : List Op5) (i : Nat) {j : Nat} (hi : i < ops.length) (h : j < ops.length) : pairsRow ops i (j + 1) = if aheadS ops[i] ops[j] = true then pairsRow ops i j ++ [((i : Int), (j : Int))] else pairsRow ops i j := by
  unfold pairsRow
  rw [List.range_succ, List.filter_append, List.map_append]
  simp only [List.filter_cons, List.filter_nil, List.getD_eq_getElem?_getD, List.getElem?_eq_getElem h, List.getElem?_eq_getElem hi, Option.getD_some]
  split <;> simp_all
theorem pairsTo_succ (ops : List Op5) (i : Nat) : pairsTo ops (i + 1) = pairsTo ops i ++ pairsRow ops i ops.length := by
  unfold pairsTo
  rw [List.range_succ, List.flatMap_append]; simp
theorem pairsRow_length (ops : List Op5) (i j : Nat) : (pairsRow ops i j).length ≤ j := by
  unfold pairsRow
  rw [List.length_map]
  exact Nat.le_trans (List.length_filter_le _ _) (by simp)
theorem pairsTo_length (ops : List Op5) : ∀ i, (pairsTo ops i).length ≤ i * ops.length
  | 0 => by simp [pairsTo]
  | i + 1 => by
    rw [pairsTo_succ, List.length_append, Nat.succ_mul]
    have := pairsTo_length ops i
    have := pairsRow_length ops i ops.length
    omega

end Go.AX

namespace Go.AX
open Go.Proofs

/-! ### Plain laws -/
def meetsS (a b : Op5) : Bool := decide (a.s = b.s) || decide (a.e = b.s) || decide (a.s = b.e) || (decide (a.e = b.e) && !decide (a.e = -1))
def badS (a o : Op5) : Bool := decide (o.s ≤ a.s) || meetsS a o
def openS (a o : Op5) : Bool := decide (a.p = o.p) && !aheadS a o
def stepE (pre : List Op5) (o : Op5) : Int := if aloneS o ≠ 0 then aloneS o else if pre.any (fun a => badS a o) = true then 32 else if pre.any (fun a => openS a o) = true then 33 else 0
def errAt (ops : List Op5) (i : Nat) : Int := stepE (ops.take i) (ops.getD i default)
def okTo (ops : List Op5) (i : Nat) : Prop := ∀ j, j < i → errAt ops j = 0
def chk (ops : List Op5) : Int × Int :=
  if ops.length > 5000 then (0, 3) else match (List.range ops.length).find? (fun i => decide (errAt ops i ≠ 0)) with
  | some i => ((i : Int), errAt ops i)
  | none => ((ops.length : Int), 0)
theorem chk_big {ops : List Op5} (h : ops.length > 5000) : chk ops = (0, 3) := by unfold chk; rw [if_pos h]
theorem chk_bad {ops : List Op5} (h : ops.length ≤ 5000) {i : Nat} (hi : i < ops.length) (ho : okTo ops i) (he : errAt ops i ≠ 0) : chk ops = ((i : Int), errAt ops i) := by
  unfold chk
  rw [if_neg (by omega)]
  have : (List.range ops.length).find? (fun i => decide (errAt ops i ≠ 0)) = some i := by
    rw [List.find?_range_eq_some]
    refine ⟨by simpa using he, by simpa using hi, fun j hj => by simpa using ho j hj⟩
  rw [this]
theorem chk_ok {ops : List Op5} (h : ops.length ≤ 5000) (ho : okTo ops ops.length) : chk ops = ((ops.length : Int), 0) := by
  unfold chk
  rw [if_neg (by omega)]
  have : (List.range ops.length).find? (fun i => decide (errAt ops i ≠ 0)) = none := by
    rw [List.find?_range_eq_none]
    intro j hj; simpa using ho j hj
  rw [this]
theorem okTo_succ {ops : List Op5} {i : Nat} (h : okTo ops i) (he : errAt ops i = 0) : okTo ops (i + 1) := fun j hj => by
  rcases Nat.lt_or_ge j i with h1 | h1
  · exact h j h1
  · have : j = i := by omega
    subst this; exact he
theorem errAt_eq {ops : List Op5} {i : Nat} (h : i < ops.length) : errAt ops i = stepE (ops.take i) ops[i] := by
  unfold errAt; simp [h]
theorem chk_alone {ops : List Op5} {i : Nat} (h : ops.length ≤ 5000) (hi : i < ops.length) (ho : okTo ops i) {n : Int} (hn : aloneS ops[i] = n) (h0 : n ≠ 0) : chk ops = ((i : Int), n) := by
  have he : errAt ops i = n := by rw [errAt_eq hi, stepE, if_pos (by rw [hn]; exact h0), hn]
  rw [chk_bad h hi ho (by rw [he]; exact h0), he]
theorem chk_order {ops : List Op5} {i : Nat} (h : ops.length ≤ 5000) (hi : i < ops.length) (ho : okTo ops i) (hn : aloneS ops[i] = 0) (hb : (ops.take i).any (fun a => badS a ops[i]) = true) : chk ops = ((i : Int), 32) := by
  have he : errAt ops i = 32 := by rw [errAt_eq hi, stepE, if_neg (by simp [hn]), if_pos hb]
  rw [chk_bad h hi ho (by rw [he]; decide), he]
theorem chk_open {ops : List Op5} {i : Nat} (h : ops.length ≤ 5000) (hi : i < ops.length) (ho : okTo ops i) (hn : aloneS ops[i] = 0) (hb : (ops.take i).any (fun a => badS a ops[i]) = false) (hc : (ops.take i).any (fun a => openS a ops[i]) = true) : chk ops = ((i : Int), 33) := by
  have he : errAt ops i = 33 := by rw [errAt_eq hi, stepE, if_neg (by simp [hn]), if_neg (by simp [hb]), if_pos hc]
  rw [chk_bad h hi ho (by rw [he]; decide), he]
theorem errAt_zero {ops : List Op5} {i : Nat} (hi : i < ops.length) (hn : aloneS ops[i] = 0) (hb : (ops.take i).any (fun a => badS a ops[i]) = false) (hc : (ops.take i).any (fun a => openS a ops[i]) = false) : errAt ops i = 0 := by
  rw [errAt_eq hi, stepE, if_neg (by simp [hn]), if_neg (by simp [hb]), if_neg (by simp [hc])]
theorem any_take_true {ops : List Op5} {i k : Nat} (f : Op5 → Bool) (hi : i ≤ ops.length) (hk : k < i) (h : f (ops[k]'(by omega)) = true) : (ops.take i).any f = true := by
  rw [List.any_eq_true]
  exact ⟨_, List.mem_take_iff_getElem.2 ⟨k, by omega, rfl⟩, h⟩
theorem any_take_succ {ops : List Op5} {k : Nat} (f : Op5 → Bool) (h : k < ops.length) : (ops.take (k + 1)).any f = ((ops.take k).any f || f ops[k]) := by
  rw [List.take_succ_eq_append_getElem h, List.any_append]; simp
theorem any_take_false {ops : List Op5} {k : Nat} (f : Op5 → Bool) (hk : k ≤ ops.length) (h : ∀ j (hj : j < k), f (ops[j]'(by omega)) = false) : (ops.take k).any f = false := by
  rw [List.any_eq_false]
  intro x hx
  obtain ⟨j, hj, rfl⟩ := List.mem_take_iff_getElem.1 hx
  have := h j (by omega)
  simp [this]

/-! ### The document's answer -/
/-- Is one of the first k still open? -/
def openTo (ops : List Op5) (k : Nat) (o : Op5) : Bool := (ops.take k).any fun a => openS a o
theorem openTo_succ {ops : List Op5} {k : Nat} (h : k < ops.length) (o : Op5) : openTo ops (k + 1) o = (openTo ops k o || openS ops[k] o) := any_take_succ _ h

end Go.AX
