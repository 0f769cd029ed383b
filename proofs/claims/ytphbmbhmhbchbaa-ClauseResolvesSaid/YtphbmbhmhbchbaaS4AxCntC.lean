/-
  Facts on the types of the seat's program (written by facts.py).
  Contracts: the numbers of clauses (count, numbering, the document's answer).
  Contracts: operations (oper, the document's answer).
  Contracts: whether operations may be.
-/
import Derived.Test.YtphbmbhmhbchbaaAxXW
import Derived.Test.YtphbmbhmhbchbaaRows
namespace Go.AX
open Go.Proofs

@[simp] theorem ld_0 : ldInfo Try.prog 0 = some (false, 1) := by kernel_rfl
@[simp] theorem tk_1 : tk Try.prog 1 = .func := by kernel_rfl
@[simp] theorem ld_1 : ldInfo Try.prog 1 = some (false, 1) := by kernel_rfl
@[simp] theorem tk_2 : tk Try.prog 2 = .int := by kernel_rfl
@[simp] theorem ld_2 : ldInfo Try.prog 2 = some (false, 1) := by kernel_rfl
@[simp] theorem cv_2 : cvtK Try.prog 2 = some .i64 := by kernel_rfl
@[simp] theorem z_2 : zeroL Try.prog 2 = some [.lit (.int .i64 0)] := by kernel_rfl
@[simp] theorem tk_3 : tk Try.prog 3 = .int := by kernel_rfl
@[simp] theorem ld_3 : ldInfo Try.prog 3 = some (false, 1) := by kernel_rfl
@[simp] theorem cv_3 : cvtK Try.prog 3 = some .i64 := by kernel_rfl
@[simp] theorem z_3 : zeroL Try.prog 3 = some [.lit (.int .i64 0)] := by kernel_rfl
@[simp] theorem tk_4 : tk Try.prog 4 = .bool := by kernel_rfl
@[simp] theorem ld_4 : ldInfo Try.prog 4 = some (false, 1) := by kernel_rfl
@[simp] theorem z_4 : zeroL Try.prog 4 = some [.lit (.bool false)] := by kernel_rfl
@[simp] theorem tk_5 : tk Try.prog 5 = .int := by kernel_rfl
@[simp] theorem ld_5 : ldInfo Try.prog 5 = some (false, 1) := by kernel_rfl
@[simp] theorem cv_5 : cvtK Try.prog 5 = some .u8 := by kernel_rfl
@[simp] theorem z_5 : zeroL Try.prog 5 = some [.lit (.int .u8 0)] := by kernel_rfl
@[simp] theorem tk_6 : tk Try.prog 6 = .int := by kernel_rfl
@[simp] theorem ld_6 : ldInfo Try.prog 6 = some (false, 1) := by kernel_rfl
@[simp] theorem cv_6 : cvtK Try.prog 6 = some .u8 := by kernel_rfl
@[simp] theorem z_6 : zeroL Try.prog 6 = some [.lit (.int .u8 0)] := by kernel_rfl
@[simp] theorem ld_7 : ldInfo Try.prog 7 = some (true, 4) := by kernel_rfl
@[simp] theorem z_7 : zeroL Try.prog 7 = some [.lit (.int .i64 0), .lit (.int .i64 0), .lit (.bool false), .lit (.int .u8 0)] := by kernel_rfl
@[simp] theorem zv_7 : zeroV Try.prog 7 = some [.lit (.int .i64 0), .lit (.int .i64 0), .lit (.bool false), .lit (.int .u8 0)] := by kernel_rfl
@[simp] theorem bi_7 : bInfo Try.prog 7 = some [(0, 1), (1, 1), (2, 1), (3, 1)] := by kernel_rfl
@[simp] theorem ld_8 : ldInfo Try.prog 8 = some (true, 4) := by kernel_rfl
@[simp] theorem z_8 : zeroL Try.prog 8 = some [.lit (.int .i64 0), .lit (.int .i64 0), .lit (.bool false), .lit (.int .u8 0)] := by kernel_rfl
@[simp] theorem zv_8 : zeroV Try.prog 8 = some [.lit (.int .i64 0), .lit (.int .i64 0), .lit (.bool false), .lit (.int .u8 0)] := by kernel_rfl
@[simp] theorem bi_8 : bInfo Try.prog 8 = some [(0, 1), (1, 1), (2, 1), (3, 1)] := by kernel_rfl
@[simp] theorem tk_9 : tk Try.prog 9 = .string := by kernel_rfl
@[simp] theorem ld_9 : ldInfo Try.prog 9 = some (false, 1) := by kernel_rfl
@[simp] theorem z_9 : zeroL Try.prog 9 = some [.lit (.string ByteArray.empty)] := by kernel_rfl
@[simp] theorem tk_10 : tk Try.prog 10 = .string := by kernel_rfl
@[simp] theorem ld_10 : ldInfo Try.prog 10 = some (false, 1) := by kernel_rfl
@[simp] theorem z_10 : zeroL Try.prog 10 = some [.lit (.string ByteArray.empty)] := by kernel_rfl
@[simp] theorem tk_11 : tk Try.prog 11 = .string := by kernel_rfl
@[simp] theorem ld_11 : ldInfo Try.prog 11 = some (false, 1) := by kernel_rfl
@[simp] theorem z_11 : zeroL Try.prog 11 = some [.lit (.string ByteArray.empty)] := by kernel_rfl
@[simp] theorem tk_12 : tk Try.prog 12 = .int := by kernel_rfl
@[simp] theorem ld_12 : ldInfo Try.prog 12 = some (false, 1) := by kernel_rfl
@[simp] theorem cv_12 : cvtK Try.prog 12 = some .u64 := by kernel_rfl
@[simp] theorem z_12 : zeroL Try.prog 12 = some [.lit (.int .u64 0)] := by kernel_rfl
@[simp] theorem ld_13 : ldInfo Try.prog 13 = some (true, 2) := by kernel_rfl
@[simp] theorem z_13 : zeroL Try.prog 13 = some [.lit (.string ByteArray.empty), .lit (.int .u64 0)] := by kernel_rfl
@[simp] theorem zv_13 : zeroV Try.prog 13 = some [.lit (.string ByteArray.empty), .lit (.int .u64 0)] := by kernel_rfl
@[simp] theorem bi_13 : bInfo Try.prog 13 = some [(0, 1), (1, 1)] := by kernel_rfl
@[simp] theorem ld_14 : ldInfo Try.prog 14 = some (true, 2) := by kernel_rfl
@[simp] theorem z_14 : zeroL Try.prog 14 = some [.lit (.string ByteArray.empty), .lit (.int .u64 0)] := by kernel_rfl
@[simp] theorem zv_14 : zeroV Try.prog 14 = some [.lit (.string ByteArray.empty), .lit (.int .u64 0)] := by kernel_rfl
@[simp] theorem bi_14 : bInfo Try.prog 14 = some [(0, 1), (1, 1)] := by kernel_rfl
@[simp] theorem tk_15 : tk Try.prog 15 = .ptr := by kernel_rfl
@[simp] theorem ld_15 : ldInfo Try.prog 15 = some (false, 1) := by kernel_rfl
@[simp] theorem z_15 : zeroL Try.prog 15 = some [.lit (.pointer none)] := by kernel_rfl
@[simp] theorem tk_16 : tk Try.prog 16 = .ptr := by kernel_rfl
@[simp] theorem ld_16 : ldInfo Try.prog 16 = some (false, 1) := by kernel_rfl
@[simp] theorem z_16 : zeroL Try.prog 16 = some [.lit (.pointer none)] := by kernel_rfl
@[simp] theorem tk_17 : tk Try.prog 17 = .ptr := by kernel_rfl
@[simp] theorem ld_17 : ldInfo Try.prog 17 = some (false, 1) := by kernel_rfl
@[simp] theorem z_17 : zeroL Try.prog 17 = some [.lit (.pointer none)] := by kernel_rfl
@[simp] theorem ld_18 : ldInfo Try.prog 18 = some (true, 1) := by kernel_rfl
@[simp] theorem z_18 : zeroL Try.prog 18 = some [.lit (.pointer none)] := by kernel_rfl
@[simp] theorem zv_18 : zeroV Try.prog 18 = some [.lit (.pointer none)] := by kernel_rfl
@[simp] theorem bi_18 : bInfo Try.prog 18 = some [(0, 1)] := by kernel_rfl
@[simp] theorem ld_19 : ldInfo Try.prog 19 = some (true, 1) := by kernel_rfl
@[simp] theorem z_19 : zeroL Try.prog 19 = some [.lit (.pointer none)] := by kernel_rfl
@[simp] theorem zv_19 : zeroV Try.prog 19 = some [.lit (.pointer none)] := by kernel_rfl
@[simp] theorem bi_19 : bInfo Try.prog 19 = some [(0, 1)] := by kernel_rfl
@[simp] theorem ld_20 : ldInfo Try.prog 20 = some (false, 1) := by kernel_rfl
@[simp] theorem tk_21 : tk Try.prog 21 = .int := by kernel_rfl
@[simp] theorem ld_21 : ldInfo Try.prog 21 = some (false, 1) := by kernel_rfl
@[simp] theorem cv_21 : cvtK Try.prog 21 = some .i32 := by kernel_rfl
@[simp] theorem z_21 : zeroL Try.prog 21 = some [.lit (.int .i32 0)] := by kernel_rfl
@[simp] theorem tk_22 : tk Try.prog 22 = .slice := by kernel_rfl
@[simp] theorem ld_22 : ldInfo Try.prog 22 = some (false, 1) := by kernel_rfl
@[simp] theorem sl_22 : slSize Try.prog 22 = some 3 := by kernel_rfl
@[simp] theorem si_22 : slInfo Try.prog 22 = some (3, 24) := by kernel_rfl
@[simp] theorem z_22 : zeroL Try.prog 22 = some [.lit (.slice none 0 0)] := by kernel_rfl
@[simp] theorem sz_22 : slZero Try.prog 22 = some [.lit (.int .i64 0), .lit (.int .i64 0), .lit (.int .i64 0)] := by kernel_rfl
@[simp] theorem tk_23 : tk Try.prog 23 = .slice := by kernel_rfl
@[simp] theorem ld_23 : ldInfo Try.prog 23 = some (false, 1) := by kernel_rfl
@[simp] theorem sl_23 : slSize Try.prog 23 = some 5 := by kernel_rfl
@[simp] theorem si_23 : slInfo Try.prog 23 = some (5, 40) := by kernel_rfl
@[simp] theorem z_23 : zeroL Try.prog 23 = some [.lit (.slice none 0 0)] := by kernel_rfl
@[simp] theorem sz_23 : slZero Try.prog 23 = some [.lit (.int .i64 0), .lit (.int .i64 0), .lit (.int .i64 0), .lit (.int .i64 0), .lit (.int .i64 0)] := by kernel_rfl
@[simp] theorem tk_24 : tk Try.prog 24 = .func := by kernel_rfl
@[simp] theorem ld_24 : ldInfo Try.prog 24 = some (false, 1) := by kernel_rfl
@[simp] theorem tk_25 : tk Try.prog 25 = .int := by kernel_rfl
@[simp] theorem ld_25 : ldInfo Try.prog 25 = some (false, 1) := by kernel_rfl
@[simp] theorem cv_25 : cvtK Try.prog 25 = some .i64 := by kernel_rfl
@[simp] theorem z_25 : zeroL Try.prog 25 = some [.lit (.int .i64 0)] := by kernel_rfl
@[simp] theorem ld_26 : ldInfo Try.prog 26 = some (false, 1) := by kernel_rfl
@[simp] theorem tk_27 : tk Try.prog 27 = .func := by kernel_rfl
@[simp] theorem ld_27 : ldInfo Try.prog 27 = some (false, 1) := by kernel_rfl
@[simp] theorem ld_28 : ldInfo Try.prog 28 = some (false, 1) := by kernel_rfl
@[simp] theorem tk_29 : tk Try.prog 29 = .func := by kernel_rfl
@[simp] theorem ld_29 : ldInfo Try.prog 29 = some (false, 1) := by kernel_rfl
@[simp] theorem ld_30 : ldInfo Try.prog 30 = some (false, 1) := by kernel_rfl
@[simp] theorem tk_31 : tk Try.prog 31 = .func := by kernel_rfl
@[simp] theorem ld_31 : ldInfo Try.prog 31 = some (false, 1) := by kernel_rfl
@[simp] theorem ld_32 : ldInfo Try.prog 32 = some (false, 1) := by kernel_rfl
@[simp] theorem tk_33 : tk Try.prog 33 = .func := by kernel_rfl
@[simp] theorem ld_33 : ldInfo Try.prog 33 = some (false, 1) := by kernel_rfl
@[simp] theorem tk_34 : tk Try.prog 34 = .func := by kernel_rfl
@[simp] theorem ld_34 : ldInfo Try.prog 34 = some (false, 1) := by kernel_rfl
@[simp] theorem tk_35 : tk Try.prog 35 = .func := by kernel_rfl
@[simp] theorem ld_35 : ldInfo Try.prog 35 = some (false, 1) := by kernel_rfl
@[simp] theorem tk_36 : tk Try.prog 36 = .slice := by kernel_rfl
@[simp] theorem ld_36 : ldInfo Try.prog 36 = some (false, 1) := by kernel_rfl
@[simp] theorem sl_36 : slSize Try.prog 36 = some 1 := by kernel_rfl
@[simp] theorem si_36 : slInfo Try.prog 36 = some (1, 1) := by kernel_rfl
@[simp] theorem z_36 : zeroL Try.prog 36 = some [.lit (.slice none 0 0)] := by kernel_rfl
@[simp] theorem sz_36 : slZero Try.prog 36 = some [.lit (.bool false)] := by kernel_rfl
@[simp] theorem tk_37 : tk Try.prog 37 = .func := by kernel_rfl
@[simp] theorem ld_37 : ldInfo Try.prog 37 = some (false, 1) := by kernel_rfl
@[simp] theorem tk_38 : tk Try.prog 38 = .flat 5 := by kernel_rfl
@[simp] theorem ld_38 : ldInfo Try.prog 38 = some (true, 5) := by kernel_rfl
@[simp] theorem z_38 : zeroL Try.prog 38 = some [.lit (.int .i64 0), .lit (.int .i64 0), .lit (.int .i64 0), .lit (.int .i64 0), .lit (.int .i64 0)] := by kernel_rfl
@[simp] theorem zv_38 : zeroV Try.prog 38 = some [.lit (.int .i64 0), .lit (.int .i64 0), .lit (.int .i64 0), .lit (.int .i64 0), .lit (.int .i64 0)] := by kernel_rfl
@[simp] theorem bi_38 : bInfo Try.prog 38 = some [(0, 1), (1, 1), (2, 1), (3, 1), (4, 1)] := by kernel_rfl
@[simp] theorem tk_39 : tk Try.prog 39 = .flat 5 := by kernel_rfl
@[simp] theorem ld_39 : ldInfo Try.prog 39 = some (true, 5) := by kernel_rfl
@[simp] theorem z_39 : zeroL Try.prog 39 = some [.lit (.int .i64 0), .lit (.int .i64 0), .lit (.int .i64 0), .lit (.int .i64 0), .lit (.int .i64 0)] := by kernel_rfl
@[simp] theorem zv_39 : zeroV Try.prog 39 = some [.lit (.int .i64 0), .lit (.int .i64 0), .lit (.int .i64 0), .lit (.int .i64 0), .lit (.int .i64 0)] := by kernel_rfl
@[simp] theorem bi_39 : bInfo Try.prog 39 = some [(0, 1), (1, 1), (2, 1), (3, 1), (4, 1)] := by kernel_rfl
@[simp] theorem tk_40 : tk Try.prog 40 = .slice := by kernel_rfl
@[simp] theorem ld_40 : ldInfo Try.prog 40 = some (false, 1) := by kernel_rfl
@[simp] theorem sl_40 : slSize Try.prog 40 = some 1 := by kernel_rfl
@[simp] theorem si_40 : slInfo Try.prog 40 = some (1, 8) := by kernel_rfl
@[simp] theorem z_40 : zeroL Try.prog 40 = some [.lit (.slice none 0 0)] := by kernel_rfl
@[simp] theorem sz_40 : slZero Try.prog 40 = some [.lit (.int .i64 0)] := by kernel_rfl
@[simp] theorem tk_41 : tk Try.prog 41 = .func := by kernel_rfl
@[simp] theorem ld_41 : ldInfo Try.prog 41 = some (false, 1) := by kernel_rfl
@[simp] theorem tk_42 : tk Try.prog 42 = .func := by kernel_rfl
@[simp] theorem ld_42 : ldInfo Try.prog 42 = some (false, 1) := by kernel_rfl
@[simp] theorem tk_43 : tk Try.prog 43 = .slice := by kernel_rfl
@[simp] theorem ld_43 : ldInfo Try.prog 43 = some (false, 1) := by kernel_rfl
@[simp] theorem sl_43 : slSize Try.prog 43 = some 1 := by kernel_rfl
@[simp] theorem si_43 : slInfo Try.prog 43 = some (1, 24) := by kernel_rfl
@[simp] theorem z_43 : zeroL Try.prog 43 = some [.lit (.slice none 0 0)] := by kernel_rfl
@[simp] theorem sz_43 : slZero Try.prog 43 = some [.lit (.slice none 0 0)] := by kernel_rfl
@[simp] theorem tk_44 : tk Try.prog 44 = .func := by kernel_rfl
@[simp] theorem ld_44 : ldInfo Try.prog 44 = some (false, 1) := by kernel_rfl
@[simp] theorem tk_45 : tk Try.prog 45 = .ptr := by kernel_rfl
@[simp] theorem ld_45 : ldInfo Try.prog 45 = some (false, 1) := by kernel_rfl
@[simp] theorem z_45 : zeroL Try.prog 45 = some [.lit (.pointer none)] := by kernel_rfl
@[simp] theorem tk_46 : tk Try.prog 46 = .ptr := by kernel_rfl
@[simp] theorem ld_46 : ldInfo Try.prog 46 = some (false, 1) := by kernel_rfl
@[simp] theorem z_46 : zeroL Try.prog 46 = some [.lit (.pointer none)] := by kernel_rfl
@[simp] theorem tk_47 : tk Try.prog 47 = .slice := by kernel_rfl
@[simp] theorem ld_47 : ldInfo Try.prog 47 = some (false, 1) := by kernel_rfl
@[simp] theorem sl_47 : slSize Try.prog 47 = some 5 := by kernel_rfl
@[simp] theorem si_47 : slInfo Try.prog 47 = some (5, 48) := by kernel_rfl
@[simp] theorem z_47 : zeroL Try.prog 47 = some [.lit (.slice none 0 0)] := by kernel_rfl
@[simp] theorem sz_47 : slZero Try.prog 47 = some [.lit (.int .i64 0), .lit (.int .i64 0), .lit (.slice none 0 0), .lit (.bool false), .lit (.bool false)] := by kernel_rfl
@[simp] theorem ld_48 : ldInfo Try.prog 48 = some (true, 2) := by kernel_rfl
@[simp] theorem z_48 : zeroL Try.prog 48 = some [.lit (.slice none 0 0), .lit (.int .i64 0)] := by kernel_rfl
@[simp] theorem zv_48 : zeroV Try.prog 48 = some [.lit (.slice none 0 0), .lit (.int .i64 0)] := by kernel_rfl
@[simp] theorem bi_48 : bInfo Try.prog 48 = some [(0, 1), (1, 1)] := by kernel_rfl
@[simp] theorem ld_49 : ldInfo Try.prog 49 = some (true, 2) := by kernel_rfl
@[simp] theorem z_49 : zeroL Try.prog 49 = some [.lit (.slice none 0 0), .lit (.int .i64 0)] := by kernel_rfl
@[simp] theorem zv_49 : zeroV Try.prog 49 = some [.lit (.slice none 0 0), .lit (.int .i64 0)] := by kernel_rfl
@[simp] theorem bi_49 : bInfo Try.prog 49 = some [(0, 1), (1, 1)] := by kernel_rfl
@[simp] theorem tk_50 : tk Try.prog 50 = .slice := by kernel_rfl
@[simp] theorem ld_50 : ldInfo Try.prog 50 = some (false, 1) := by kernel_rfl
@[simp] theorem sl_50 : slSize Try.prog 50 = some 3 := by kernel_rfl
@[simp] theorem si_50 : slInfo Try.prog 50 = some (3, 24) := by kernel_rfl
@[simp] theorem z_50 : zeroL Try.prog 50 = some [.lit (.slice none 0 0)] := by kernel_rfl
@[simp] theorem sz_50 : slZero Try.prog 50 = some [.lit (.int .i64 0), .lit (.int .i64 0), .lit (.int .i64 0)] := by kernel_rfl
@[simp] theorem ld_51 : ldInfo Try.prog 51 = some (true, 3) := by kernel_rfl
@[simp] theorem z_51 : zeroL Try.prog 51 = some [.lit (.int .i64 0), .lit (.slice none 0 0), .lit (.int .i64 0)] := by kernel_rfl
@[simp] theorem zv_51 : zeroV Try.prog 51 = some [.lit (.int .i64 0), .lit (.slice none 0 0), .lit (.int .i64 0)] := by kernel_rfl
@[simp] theorem bi_51 : bInfo Try.prog 51 = some [(0, 1), (1, 1), (2, 1)] := by kernel_rfl
@[simp] theorem ld_52 : ldInfo Try.prog 52 = some (true, 3) := by kernel_rfl
@[simp] theorem z_52 : zeroL Try.prog 52 = some [.lit (.int .i64 0), .lit (.slice none 0 0), .lit (.int .i64 0)] := by kernel_rfl
@[simp] theorem zv_52 : zeroV Try.prog 52 = some [.lit (.int .i64 0), .lit (.slice none 0 0), .lit (.int .i64 0)] := by kernel_rfl
@[simp] theorem bi_52 : bInfo Try.prog 52 = some [(0, 1), (1, 1), (2, 1)] := by kernel_rfl
@[simp] theorem ld_53 : ldInfo Try.prog 53 = some (true, 8) := by kernel_rfl
@[simp] theorem z_53 : zeroL Try.prog 53 = some [.lit (.pointer none), .lit (.pointer none), .lit (.slice none 0 0), .lit (.int .i64 0), .lit (.int .i64 0), .lit (.slice none 0 0), .lit (.int .i64 0), .lit (.int .i64 0)] := by kernel_rfl
@[simp] theorem zv_53 : zeroV Try.prog 53 = some [.lit (.pointer none), .lit (.pointer none), .lit (.slice none 0 0), .lit (.int .i64 0), .lit (.int .i64 0), .lit (.slice none 0 0), .lit (.int .i64 0), .lit (.int .i64 0)] := by kernel_rfl
@[simp] theorem bi_53 : bInfo Try.prog 53 = some [(0, 1), (1, 1), (2, 2), (4, 3), (7, 1)] := by kernel_rfl
@[simp] theorem ld_54 : ldInfo Try.prog 54 = some (true, 8) := by kernel_rfl
@[simp] theorem z_54 : zeroL Try.prog 54 = some [.lit (.pointer none), .lit (.pointer none), .lit (.slice none 0 0), .lit (.int .i64 0), .lit (.int .i64 0), .lit (.slice none 0 0), .lit (.int .i64 0), .lit (.int .i64 0)] := by kernel_rfl
@[simp] theorem zv_54 : zeroV Try.prog 54 = some [.lit (.pointer none), .lit (.pointer none), .lit (.slice none 0 0), .lit (.int .i64 0), .lit (.int .i64 0), .lit (.slice none 0 0), .lit (.int .i64 0), .lit (.int .i64 0)] := by kernel_rfl
@[simp] theorem bi_54 : bInfo Try.prog 54 = some [(0, 1), (1, 1), (2, 2), (4, 3), (7, 1)] := by kernel_rfl
@[simp] theorem ld_55 : ldInfo Try.prog 55 = some (false, 1) := by kernel_rfl
@[simp] theorem tk_56 : tk Try.prog 56 = .func := by kernel_rfl
@[simp] theorem ld_56 : ldInfo Try.prog 56 = some (false, 1) := by kernel_rfl
@[simp] theorem tk_57 : tk Try.prog 57 = .func := by kernel_rfl
@[simp] theorem ld_57 : ldInfo Try.prog 57 = some (false, 1) := by kernel_rfl
@[simp] theorem tk_58 : tk Try.prog 58 = .func := by kernel_rfl
@[simp] theorem ld_58 : ldInfo Try.prog 58 = some (false, 1) := by kernel_rfl
@[simp] theorem tk_59 : tk Try.prog 59 = .func := by kernel_rfl
@[simp] theorem ld_59 : ldInfo Try.prog 59 = some (false, 1) := by kernel_rfl
@[simp] theorem tk_60 : tk Try.prog 60 = .func := by kernel_rfl
@[simp] theorem ld_60 : ldInfo Try.prog 60 = some (false, 1) := by kernel_rfl
@[simp] theorem tk_61 : tk Try.prog 61 = .func := by kernel_rfl
@[simp] theorem ld_61 : ldInfo Try.prog 61 = some (false, 1) := by kernel_rfl
@[simp] theorem tk_62 : tk Try.prog 62 = .func := by kernel_rfl
@[simp] theorem ld_62 : ldInfo Try.prog 62 = some (false, 1) := by kernel_rfl
@[simp] theorem tk_63 : tk Try.prog 63 = .func := by kernel_rfl
@[simp] theorem ld_63 : ldInfo Try.prog 63 = some (false, 1) := by kernel_rfl
@[simp] theorem tk_64 : tk Try.prog 64 = .func := by kernel_rfl
@[simp] theorem ld_64 : ldInfo Try.prog 64 = some (false, 1) := by kernel_rfl
@[simp] theorem tk_65 : tk Try.prog 65 = .func := by kernel_rfl
@[simp] theorem ld_65 : ldInfo Try.prog 65 = some (false, 1) := by kernel_rfl
@[simp] theorem tk_66 : tk Try.prog 66 = .func := by kernel_rfl
@[simp] theorem ld_66 : ldInfo Try.prog 66 = some (false, 1) := by kernel_rfl
@[simp] theorem tk_67 : tk Try.prog 67 = .func := by kernel_rfl
@[simp] theorem ld_67 : ldInfo Try.prog 67 = some (false, 1) := by kernel_rfl
@[simp] theorem tk_68 : tk Try.prog 68 = .func := by kernel_rfl
@[simp] theorem ld_68 : ldInfo Try.prog 68 = some (false, 1) := by kernel_rfl
@[simp] theorem tk_69 : tk Try.prog 69 = .func := by kernel_rfl
@[simp] theorem ld_69 : ldInfo Try.prog 69 = some (false, 1) := by kernel_rfl
@[simp] theorem tk_70 : tk Try.prog 70 = .func := by kernel_rfl
@[simp] theorem ld_70 : ldInfo Try.prog 70 = some (false, 1) := by kernel_rfl
@[simp] theorem tk_71 : tk Try.prog 71 = .func := by kernel_rfl
@[simp] theorem ld_71 : ldInfo Try.prog 71 = some (false, 1) := by kernel_rfl
@[simp] theorem tk_72 : tk Try.prog 72 = .func := by kernel_rfl
@[simp] theorem ld_72 : ldInfo Try.prog 72 = some (false, 1) := by kernel_rfl
@[simp] theorem tk_73 : tk Try.prog 73 = .flat 3 := by kernel_rfl
@[simp] theorem ld_73 : ldInfo Try.prog 73 = some (true, 3) := by kernel_rfl
@[simp] theorem z_73 : zeroL Try.prog 73 = some [.lit (.int .i64 0), .lit (.int .i64 0), .lit (.int .i64 0)] := by kernel_rfl
@[simp] theorem zv_73 : zeroV Try.prog 73 = some [.lit (.int .i64 0), .lit (.int .i64 0), .lit (.int .i64 0)] := by kernel_rfl
@[simp] theorem bi_73 : bInfo Try.prog 73 = some [(0, 1), (1, 1), (2, 1)] := by kernel_rfl
@[simp] theorem tk_74 : tk Try.prog 74 = .flat 3 := by kernel_rfl
@[simp] theorem ld_74 : ldInfo Try.prog 74 = some (true, 3) := by kernel_rfl
@[simp] theorem z_74 : zeroL Try.prog 74 = some [.lit (.int .i64 0), .lit (.int .i64 0), .lit (.int .i64 0)] := by kernel_rfl
@[simp] theorem zv_74 : zeroV Try.prog 74 = some [.lit (.int .i64 0), .lit (.int .i64 0), .lit (.int .i64 0)] := by kernel_rfl
@[simp] theorem bi_74 : bInfo Try.prog 74 = some [(0, 1), (1, 1), (2, 1)] := by kernel_rfl
@[simp] theorem tk_75 : tk Try.prog 75 = .func := by kernel_rfl
@[simp] theorem ld_75 : ldInfo Try.prog 75 = some (false, 1) := by kernel_rfl
@[simp] theorem tk_76 : tk Try.prog 76 = .func := by kernel_rfl
@[simp] theorem ld_76 : ldInfo Try.prog 76 = some (false, 1) := by kernel_rfl
@[simp] theorem tk_77 : tk Try.prog 77 = .flat 2 := by kernel_rfl
@[simp] theorem ld_77 : ldInfo Try.prog 77 = some (true, 2) := by kernel_rfl
@[simp] theorem sln_77 : slSize Try.prog 77 = none := by kernel_rfl
@[simp] theorem ar_77 : arSize Try.prog 77 = some (2, 1) := by kernel_rfl
@[simp] theorem z_77 : zeroL Try.prog 77 = some [.lit (.int .i64 0), .lit (.int .i64 0)] := by kernel_rfl
@[simp] theorem zv_77 : zeroV Try.prog 77 = some [.lit (.int .i64 0), .lit (.int .i64 0)] := by kernel_rfl
@[simp] theorem bi_77 : bInfo Try.prog 77 = some [(0, 1), (1, 1)] := by kernel_rfl
@[simp] theorem ai_77 : arInfo Try.prog 77 = some (2, false, 1) := by kernel_rfl
@[simp] theorem tk_78 : tk Try.prog 78 = .func := by kernel_rfl
@[simp] theorem ld_78 : ldInfo Try.prog 78 = some (false, 1) := by kernel_rfl
@[simp] theorem tk_79 : tk Try.prog 79 = .func := by kernel_rfl
@[simp] theorem ld_79 : ldInfo Try.prog 79 = some (false, 1) := by kernel_rfl
@[simp] theorem tk_80 : tk Try.prog 80 = .func := by kernel_rfl
@[simp] theorem ld_80 : ldInfo Try.prog 80 = some (false, 1) := by kernel_rfl
@[simp] theorem tk_81 : tk Try.prog 81 = .func := by kernel_rfl
@[simp] theorem ld_81 : ldInfo Try.prog 81 = some (false, 1) := by kernel_rfl
@[simp] theorem tk_82 : tk Try.prog 82 = .func := by kernel_rfl
@[simp] theorem ld_82 : ldInfo Try.prog 82 = some (false, 1) := by kernel_rfl
@[simp] theorem tk_83 : tk Try.prog 83 = .func := by kernel_rfl
@[simp] theorem ld_83 : ldInfo Try.prog 83 = some (false, 1) := by kernel_rfl
@[simp] theorem ld_84 : ldInfo Try.prog 84 = some (false, 1) := by kernel_rfl
@[simp] theorem tk_85 : tk Try.prog 85 = .func := by kernel_rfl
@[simp] theorem ld_85 : ldInfo Try.prog 85 = some (false, 1) := by kernel_rfl
@[simp] theorem ld_86 : ldInfo Try.prog 86 = some (false, 1) := by kernel_rfl
@[simp] theorem tk_87 : tk Try.prog 87 = .func := by kernel_rfl
@[simp] theorem ld_87 : ldInfo Try.prog 87 = some (false, 1) := by kernel_rfl
@[simp] theorem tk_88 : tk Try.prog 88 = .func := by kernel_rfl
@[simp] theorem ld_88 : ldInfo Try.prog 88 = some (false, 1) := by kernel_rfl
@[simp] theorem tk_89 : tk Try.prog 89 = .func := by kernel_rfl
@[simp] theorem ld_89 : ldInfo Try.prog 89 = some (false, 1) := by kernel_rfl
@[simp] theorem tk_90 : tk Try.prog 90 = .func := by kernel_rfl
@[simp] theorem ld_90 : ldInfo Try.prog 90 = some (false, 1) := by kernel_rfl
@[simp] theorem tk_91 : tk Try.prog 91 = .func := by kernel_rfl
@[simp] theorem ld_91 : ldInfo Try.prog 91 = some (false, 1) := by kernel_rfl
@[simp] theorem tk_92 : tk Try.prog 92 = .func := by kernel_rfl
@[simp] theorem ld_92 : ldInfo Try.prog 92 = some (false, 1) := by kernel_rfl
@[simp] theorem tk_93 : tk Try.prog 93 = .slice := by kernel_rfl
@[simp] theorem ld_93 : ldInfo Try.prog 93 = some (false, 1) := by kernel_rfl
@[simp] theorem sl_93 : slSize Try.prog 93 = some 2 := by kernel_rfl
@[simp] theorem si_93 : slInfo Try.prog 93 = some (2, 16) := by kernel_rfl
@[simp] theorem z_93 : zeroL Try.prog 93 = some [.lit (.slice none 0 0)] := by kernel_rfl
@[simp] theorem sz_93 : slZero Try.prog 93 = some [.lit (.int .i64 0), .lit (.int .i64 0)] := by kernel_rfl
@[simp] theorem tk_94 : tk Try.prog 94 = .func := by kernel_rfl
@[simp] theorem ld_94 : ldInfo Try.prog 94 = some (false, 1) := by kernel_rfl
@[simp] theorem tk_95 : tk Try.prog 95 = .map := by kernel_rfl
@[simp] theorem ld_95 : ldInfo Try.prog 95 = some (false, 1) := by kernel_rfl
@[simp] theorem z_95 : zeroL Try.prog 95 = some [.lit (.map none)] := by kernel_rfl
@[simp] theorem mk_95 : mpKey Try.prog 95 = true := by kernel_rfl
@[simp] theorem mp_95 : mpInfo Try.prog 95 = some (.lit (.int .i64 0)) := by kernel_rfl
@[simp] theorem tk_96 : tk Try.prog 96 = .ptr := by kernel_rfl
@[simp] theorem ld_96 : ldInfo Try.prog 96 = some (false, 1) := by kernel_rfl
@[simp] theorem z_96 : zeroL Try.prog 96 = some [.lit (.pointer none)] := by kernel_rfl
@[simp] theorem tk_97 : tk Try.prog 97 = .map := by kernel_rfl
@[simp] theorem ld_97 : ldInfo Try.prog 97 = some (false, 1) := by kernel_rfl
@[simp] theorem z_97 : zeroL Try.prog 97 = some [.lit (.map none)] := by kernel_rfl
@[simp] theorem mk_97 : mpKey Try.prog 97 = true := by kernel_rfl
@[simp] theorem mp_97 : mpInfo Try.prog 97 = some (.agg [.lit (.int .i64 0), .lit (.int .i64 0), .lit (.int .i64 0), .lit (.int .i64 0), .lit (.int .i64 0)]) := by kernel_rfl
@[simp] theorem tk_98 : tk Try.prog 98 = .func := by kernel_rfl
@[simp] theorem ld_98 : ldInfo Try.prog 98 = some (false, 1) := by kernel_rfl
@[simp] theorem ld_99 : ldInfo Try.prog 99 = some (false, 1) := by kernel_rfl
@[simp] theorem tk_100 : tk Try.prog 100 = .func := by kernel_rfl
@[simp] theorem ld_100 : ldInfo Try.prog 100 = some (false, 1) := by kernel_rfl
@[simp] theorem tk_101 : tk Try.prog 101 = .func := by kernel_rfl
@[simp] theorem ld_101 : ldInfo Try.prog 101 = some (false, 1) := by kernel_rfl
@[simp] theorem tk_102 : tk Try.prog 102 = .func := by kernel_rfl
@[simp] theorem ld_102 : ldInfo Try.prog 102 = some (false, 1) := by kernel_rfl
@[simp] theorem ld_103 : ldInfo Try.prog 103 = some (false, 1) := by kernel_rfl
@[simp] theorem tk_104 : tk Try.prog 104 = .func := by kernel_rfl
@[simp] theorem ld_104 : ldInfo Try.prog 104 = some (false, 1) := by kernel_rfl
@[simp] theorem ld_105 : ldInfo Try.prog 105 = some (false, 1) := by kernel_rfl
@[simp] theorem tk_106 : tk Try.prog 106 = .func := by kernel_rfl
@[simp] theorem ld_106 : ldInfo Try.prog 106 = some (false, 1) := by kernel_rfl
@[simp] theorem tk_107 : tk Try.prog 107 = .func := by kernel_rfl
@[simp] theorem ld_107 : ldInfo Try.prog 107 = some (false, 1) := by kernel_rfl
@[simp] theorem ld_108 : ldInfo Try.prog 108 = some (false, 1) := by kernel_rfl
@[simp] theorem tk_109 : tk Try.prog 109 = .func := by kernel_rfl
@[simp] theorem ld_109 : ldInfo Try.prog 109 = some (false, 1) := by kernel_rfl
@[simp] theorem tk_110 : tk Try.prog 110 = .func := by kernel_rfl
@[simp] theorem ld_110 : ldInfo Try.prog 110 = some (false, 1) := by kernel_rfl
@[simp] theorem tk_111 : tk Try.prog 111 = .func := by kernel_rfl
@[simp] theorem ld_111 : ldInfo Try.prog 111 = some (false, 1) := by kernel_rfl
@[simp] theorem tk_112 : tk Try.prog 112 = .func := by kernel_rfl
@[simp] theorem ld_112 : ldInfo Try.prog 112 = some (false, 1) := by kernel_rfl
@[simp] theorem ld_113 : ldInfo Try.prog 113 = some (false, 1) := by kernel_rfl
@[simp] theorem tk_114 : tk Try.prog 114 = .func := by kernel_rfl
@[simp] theorem ld_114 : ldInfo Try.prog 114 = some (false, 1) := by kernel_rfl
@[simp] theorem tk_115 : tk Try.prog 115 = .func := by kernel_rfl
@[simp] theorem ld_115 : ldInfo Try.prog 115 = some (false, 1) := by kernel_rfl
@[simp] theorem tk_116 : tk Try.prog 116 = .func := by kernel_rfl
@[simp] theorem ld_116 : ldInfo Try.prog 116 = some (false, 1) := by kernel_rfl
@[simp] theorem tk_117 : tk Try.prog 117 = .func := by kernel_rfl
@[simp] theorem ld_117 : ldInfo Try.prog 117 = some (false, 1) := by kernel_rfl
@[simp] theorem tk_118 : tk Try.prog 118 = .func := by kernel_rfl
@[simp] theorem ld_118 : ldInfo Try.prog 118 = some (false, 1) := by kernel_rfl
@[simp] theorem tk_119 : tk Try.prog 119 = .func := by kernel_rfl
@[simp] theorem ld_119 : ldInfo Try.prog 119 = some (false, 1) := by kernel_rfl
@[simp] theorem tk_120 : tk Try.prog 120 = .func := by kernel_rfl
@[simp] theorem ld_120 : ldInfo Try.prog 120 = some (false, 1) := by kernel_rfl
@[simp] theorem tk_121 : tk Try.prog 121 = .func := by kernel_rfl
@[simp] theorem ld_121 : ldInfo Try.prog 121 = some (false, 1) := by kernel_rfl
@[simp] theorem tk_122 : tk Try.prog 122 = .func := by kernel_rfl
@[simp] theorem ld_122 : ldInfo Try.prog 122 = some (false, 1) := by kernel_rfl
@[simp] theorem tk_123 : tk Try.prog 123 = .func := by kernel_rfl
@[simp] theorem ld_123 : ldInfo Try.prog 123 = some (false, 1) := by kernel_rfl
@[simp] theorem tk_124 : tk Try.prog 124 = .func := by kernel_rfl
@[simp] theorem ld_124 : ldInfo Try.prog 124 = some (false, 1) := by kernel_rfl
@[simp] theorem tk_125 : tk Try.prog 125 = .func := by kernel_rfl
@[simp] theorem ld_125 : ldInfo Try.prog 125 = some (false, 1) := by kernel_rfl
@[simp] theorem tk_126 : tk Try.prog 126 = .func := by kernel_rfl
@[simp] theorem ld_126 : ldInfo Try.prog 126 = some (false, 1) := by kernel_rfl
@[simp] theorem tk_127 : tk Try.prog 127 = .func := by kernel_rfl
@[simp] theorem ld_127 : ldInfo Try.prog 127 = some (false, 1) := by kernel_rfl
@[simp] theorem tk_128 : tk Try.prog 128 = .func := by kernel_rfl
@[simp] theorem ld_128 : ldInfo Try.prog 128 = some (false, 1) := by kernel_rfl
@[simp] theorem tk_129 : tk Try.prog 129 = .func := by kernel_rfl
@[simp] theorem ld_129 : ldInfo Try.prog 129 = some (false, 1) := by kernel_rfl
@[simp] theorem tk_130 : tk Try.prog 130 = .func := by kernel_rfl
@[simp] theorem ld_130 : ldInfo Try.prog 130 = some (false, 1) := by kernel_rfl
@[simp] theorem tk_131 : tk Try.prog 131 = .func := by kernel_rfl
@[simp] theorem ld_131 : ldInfo Try.prog 131 = some (false, 1) := by kernel_rfl
@[simp] theorem tk_132 : tk Try.prog 132 = .func := by kernel_rfl
@[simp] theorem ld_132 : ldInfo Try.prog 132 = some (false, 1) := by kernel_rfl
@[simp] theorem tk_133 : tk Try.prog 133 = .func := by kernel_rfl
@[simp] theorem ld_133 : ldInfo Try.prog 133 = some (false, 1) := by kernel_rfl
@[simp] theorem tk_134 : tk Try.prog 134 = .func := by kernel_rfl
@[simp] theorem ld_134 : ldInfo Try.prog 134 = some (false, 1) := by kernel_rfl
@[simp] theorem ld_135 : ldInfo Try.prog 135 = some (false, 1) := by kernel_rfl
@[simp] theorem tk_136 : tk Try.prog 136 = .func := by kernel_rfl
@[simp] theorem ld_136 : ldInfo Try.prog 136 = some (false, 1) := by kernel_rfl
@[simp] theorem tk_137 : tk Try.prog 137 = .func := by kernel_rfl
@[simp] theorem ld_137 : ldInfo Try.prog 137 = some (false, 1) := by kernel_rfl
@[simp] theorem tk_138 : tk Try.prog 138 = .func := by kernel_rfl
@[simp] theorem ld_138 : ldInfo Try.prog 138 = some (false, 1) := by kernel_rfl
@[simp] theorem ld_139 : ldInfo Try.prog 139 = some (true, 2) := by kernel_rfl
@[simp] theorem z_139 : zeroL Try.prog 139 = some [.lit (.int .i64 0), .lit (.slice none 0 0)] := by kernel_rfl
@[simp] theorem zv_139 : zeroV Try.prog 139 = some [.lit (.int .i64 0), .lit (.slice none 0 0)] := by kernel_rfl
@[simp] theorem bi_139 : bInfo Try.prog 139 = some [(0, 1), (1, 1)] := by kernel_rfl
@[simp] theorem ld_140 : ldInfo Try.prog 140 = some (true, 2) := by kernel_rfl
@[simp] theorem z_140 : zeroL Try.prog 140 = some [.lit (.int .i64 0), .lit (.slice none 0 0)] := by kernel_rfl
@[simp] theorem zv_140 : zeroV Try.prog 140 = some [.lit (.int .i64 0), .lit (.slice none 0 0)] := by kernel_rfl
@[simp] theorem bi_140 : bInfo Try.prog 140 = some [(0, 1), (1, 1)] := by kernel_rfl
@[simp] theorem ld_141 : ldInfo Try.prog 141 = some (true, 2) := by kernel_rfl
@[simp] theorem z_141 : zeroL Try.prog 141 = some [.lit (.slice none 0 0), .lit (.map none)] := by kernel_rfl
@[simp] theorem zv_141 : zeroV Try.prog 141 = some [.lit (.slice none 0 0), .lit (.map none)] := by kernel_rfl
@[simp] theorem bi_141 : bInfo Try.prog 141 = some [(0, 1), (1, 1)] := by kernel_rfl
@[simp] theorem ld_142 : ldInfo Try.prog 142 = some (true, 2) := by kernel_rfl
@[simp] theorem z_142 : zeroL Try.prog 142 = some [.lit (.slice none 0 0), .lit (.map none)] := by kernel_rfl
@[simp] theorem zv_142 : zeroV Try.prog 142 = some [.lit (.slice none 0 0), .lit (.map none)] := by kernel_rfl
@[simp] theorem bi_142 : bInfo Try.prog 142 = some [(0, 1), (1, 1)] := by kernel_rfl
@[simp] theorem tk_143 : tk Try.prog 143 = .slice := by kernel_rfl
@[simp] theorem ld_143 : ldInfo Try.prog 143 = some (false, 1) := by kernel_rfl
@[simp] theorem sl_143 : slSize Try.prog 143 = some 4 := by kernel_rfl
@[simp] theorem si_143 : slInfo Try.prog 143 = some (4, 32) := by kernel_rfl
@[simp] theorem z_143 : zeroL Try.prog 143 = some [.lit (.slice none 0 0)] := by kernel_rfl
@[simp] theorem sz_143 : slZero Try.prog 143 = some [.lit (.int .i64 0), .lit (.int .i64 0), .lit (.int .i64 0), .lit (.int .i64 0)] := by kernel_rfl
@[simp] theorem ld_144 : ldInfo Try.prog 144 = some (true, 4) := by kernel_rfl
@[simp] theorem z_144 : zeroL Try.prog 144 = some [.lit (.slice none 0 0), .lit (.slice none 0 0), .lit (.slice none 0 0), .lit (.bool false)] := by kernel_rfl
@[simp] theorem zv_144 : zeroV Try.prog 144 = some [.lit (.slice none 0 0), .lit (.slice none 0 0), .lit (.slice none 0 0), .lit (.bool false)] := by kernel_rfl
@[simp] theorem bi_144 : bInfo Try.prog 144 = some [(0, 1), (1, 1), (2, 1), (3, 1)] := by kernel_rfl
@[simp] theorem ld_145 : ldInfo Try.prog 145 = some (true, 4) := by kernel_rfl
@[simp] theorem z_145 : zeroL Try.prog 145 = some [.lit (.slice none 0 0), .lit (.slice none 0 0), .lit (.slice none 0 0), .lit (.bool false)] := by kernel_rfl
@[simp] theorem zv_145 : zeroV Try.prog 145 = some [.lit (.slice none 0 0), .lit (.slice none 0 0), .lit (.slice none 0 0), .lit (.bool false)] := by kernel_rfl
@[simp] theorem bi_145 : bInfo Try.prog 145 = some [(0, 1), (1, 1), (2, 1), (3, 1)] := by kernel_rfl
@[simp] theorem ld_146 : ldInfo Try.prog 146 = some (true, 5) := by kernel_rfl
@[simp] theorem z_146 : zeroL Try.prog 146 = some [.lit (.int .i64 0), .lit (.int .i64 0), .lit (.slice none 0 0), .lit (.bool false), .lit (.bool false)] := by kernel_rfl
@[simp] theorem zv_146 : zeroV Try.prog 146 = some [.lit (.int .i64 0), .lit (.int .i64 0), .lit (.slice none 0 0), .lit (.bool false), .lit (.bool false)] := by kernel_rfl
@[simp] theorem bi_146 : bInfo Try.prog 146 = some [(0, 1), (1, 1), (2, 1), (3, 1), (4, 1)] := by kernel_rfl
@[simp] theorem ld_147 : ldInfo Try.prog 147 = some (true, 5) := by kernel_rfl
@[simp] theorem z_147 : zeroL Try.prog 147 = some [.lit (.int .i64 0), .lit (.int .i64 0), .lit (.slice none 0 0), .lit (.bool false), .lit (.bool false)] := by kernel_rfl
@[simp] theorem zv_147 : zeroV Try.prog 147 = some [.lit (.int .i64 0), .lit (.int .i64 0), .lit (.slice none 0 0), .lit (.bool false), .lit (.bool false)] := by kernel_rfl
@[simp] theorem bi_147 : bInfo Try.prog 147 = some [(0, 1), (1, 1), (2, 1), (3, 1), (4, 1)] := by kernel_rfl
@[simp] theorem tk_148 : tk Try.prog 148 = .ptr := by kernel_rfl
@[simp] theorem ld_148 : ldInfo Try.prog 148 = some (false, 1) := by kernel_rfl
@[simp] theorem z_148 : zeroL Try.prog 148 = some [.lit (.pointer none)] := by kernel_rfl
@[simp] theorem tk_149 : tk Try.prog 149 = .func := by kernel_rfl
@[simp] theorem ld_149 : ldInfo Try.prog 149 = some (false, 1) := by kernel_rfl
@[simp] theorem ld_150 : ldInfo Try.prog 150 = some (false, 1) := by kernel_rfl
@[simp] theorem tk_151 : tk Try.prog 151 = .func := by kernel_rfl
@[simp] theorem ld_151 : ldInfo Try.prog 151 = some (false, 1) := by kernel_rfl
@[simp] theorem tk_152 : tk Try.prog 152 = .flat 3 := by kernel_rfl
@[simp] theorem ld_152 : ldInfo Try.prog 152 = some (true, 3) := by kernel_rfl
@[simp] theorem z_152 : zeroL Try.prog 152 = some [.lit (.int .i64 0), .lit (.int .i64 0), .lit (.int .i64 0)] := by kernel_rfl
@[simp] theorem zv_152 : zeroV Try.prog 152 = some [.lit (.int .i64 0), .lit (.int .i64 0), .lit (.int .i64 0)] := by kernel_rfl
@[simp] theorem bi_152 : bInfo Try.prog 152 = some [(0, 1), (1, 1), (2, 1)] := by kernel_rfl
@[simp] theorem tk_153 : tk Try.prog 153 = .flat 3 := by kernel_rfl
@[simp] theorem ld_153 : ldInfo Try.prog 153 = some (true, 3) := by kernel_rfl
@[simp] theorem z_153 : zeroL Try.prog 153 = some [.lit (.int .i64 0), .lit (.int .i64 0), .lit (.int .i64 0)] := by kernel_rfl
@[simp] theorem zv_153 : zeroV Try.prog 153 = some [.lit (.int .i64 0), .lit (.int .i64 0), .lit (.int .i64 0)] := by kernel_rfl
@[simp] theorem bi_153 : bInfo Try.prog 153 = some [(0, 1), (1, 1), (2, 1)] := by kernel_rfl
@[simp] theorem tk_154 : tk Try.prog 154 = .func := by kernel_rfl
@[simp] theorem ld_154 : ldInfo Try.prog 154 = some (false, 1) := by kernel_rfl
@[simp] theorem tk_155 : tk Try.prog 155 = .func := by kernel_rfl
@[simp] theorem ld_155 : ldInfo Try.prog 155 = some (false, 1) := by kernel_rfl
@[simp] theorem tk_156 : tk Try.prog 156 = .func := by kernel_rfl
@[simp] theorem ld_156 : ldInfo Try.prog 156 = some (false, 1) := by kernel_rfl
@[simp] theorem tk_157 : tk Try.prog 157 = .func := by kernel_rfl
@[simp] theorem ld_157 : ldInfo Try.prog 157 = some (false, 1) := by kernel_rfl
@[simp] theorem tk_158 : tk Try.prog 158 = .func := by kernel_rfl
@[simp] theorem ld_158 : ldInfo Try.prog 158 = some (false, 1) := by kernel_rfl
@[simp] theorem tk_159 : tk Try.prog 159 = .func := by kernel_rfl
@[simp] theorem ld_159 : ldInfo Try.prog 159 = some (false, 1) := by kernel_rfl
@[simp] theorem tk_160 : tk Try.prog 160 = .func := by kernel_rfl
@[simp] theorem ld_160 : ldInfo Try.prog 160 = some (false, 1) := by kernel_rfl
@[simp] theorem tk_161 : tk Try.prog 161 = .func := by kernel_rfl
@[simp] theorem ld_161 : ldInfo Try.prog 161 = some (false, 1) := by kernel_rfl
@[simp] theorem tk_162 : tk Try.prog 162 = .int := by kernel_rfl
@[simp] theorem ld_162 : ldInfo Try.prog 162 = some (false, 1) := by kernel_rfl
@[simp] theorem cv_162 : cvtK Try.prog 162 = some .i64 := by kernel_rfl
@[simp] theorem z_162 : zeroL Try.prog 162 = some [.lit (.int .i64 0)] := by kernel_rfl
@[simp] theorem tk_163 : tk Try.prog 163 = .func := by kernel_rfl
@[simp] theorem ld_163 : ldInfo Try.prog 163 = some (false, 1) := by kernel_rfl
@[simp] theorem tk_164 : tk Try.prog 164 = .func := by kernel_rfl
@[simp] theorem ld_164 : ldInfo Try.prog 164 = some (false, 1) := by kernel_rfl
@[simp] theorem tk_165 : tk Try.prog 165 = .int := by kernel_rfl
@[simp] theorem ld_165 : ldInfo Try.prog 165 = some (false, 1) := by kernel_rfl
@[simp] theorem cv_165 : cvtK Try.prog 165 = some .u64 := by kernel_rfl
@[simp] theorem z_165 : zeroL Try.prog 165 = some [.lit (.int .u64 0)] := by kernel_rfl
@[simp] theorem tk_166 : tk Try.prog 166 = .func := by kernel_rfl
@[simp] theorem ld_166 : ldInfo Try.prog 166 = some (false, 1) := by kernel_rfl
@[simp] theorem tk_167 : tk Try.prog 167 = .func := by kernel_rfl
@[simp] theorem ld_167 : ldInfo Try.prog 167 = some (false, 1) := by kernel_rfl
@[simp] theorem ld_168 : ldInfo Try.prog 168 = some (false, 1) := by kernel_rfl
@[simp] theorem tk_169 : tk Try.prog 169 = .func := by kernel_rfl
@[simp] theorem ld_169 : ldInfo Try.prog 169 = some (false, 1) := by kernel_rfl
@[simp] theorem tk_170 : tk Try.prog 170 = .func := by kernel_rfl
@[simp] theorem ld_170 : ldInfo Try.prog 170 = some (false, 1) := by kernel_rfl
@[simp] theorem tk_171 : tk Try.prog 171 = .flat 4 := by kernel_rfl
@[simp] theorem ld_171 : ldInfo Try.prog 171 = some (true, 4) := by kernel_rfl
@[simp] theorem z_171 : zeroL Try.prog 171 = some [.lit (.int .i64 0), .lit (.int .i64 0), .lit (.int .i64 0), .lit (.int .i64 0)] := by kernel_rfl
@[simp] theorem zv_171 : zeroV Try.prog 171 = some [.lit (.int .i64 0), .lit (.int .i64 0), .lit (.int .i64 0), .lit (.int .i64 0)] := by kernel_rfl
@[simp] theorem bi_171 : bInfo Try.prog 171 = some [(0, 1), (1, 1), (2, 1), (3, 1)] := by kernel_rfl
@[simp] theorem tk_172 : tk Try.prog 172 = .flat 4 := by kernel_rfl
@[simp] theorem ld_172 : ldInfo Try.prog 172 = some (true, 4) := by kernel_rfl
@[simp] theorem z_172 : zeroL Try.prog 172 = some [.lit (.int .i64 0), .lit (.int .i64 0), .lit (.int .i64 0), .lit (.int .i64 0)] := by kernel_rfl
@[simp] theorem zv_172 : zeroV Try.prog 172 = some [.lit (.int .i64 0), .lit (.int .i64 0), .lit (.int .i64 0), .lit (.int .i64 0)] := by kernel_rfl
@[simp] theorem bi_172 : bInfo Try.prog 172 = some [(0, 1), (1, 1), (2, 1), (3, 1)] := by kernel_rfl
@[simp] theorem ld_173 : ldInfo Try.prog 173 = some (false, 1) := by kernel_rfl
@[simp] theorem tk_174 : tk Try.prog 174 = .func := by kernel_rfl
@[simp] theorem ld_174 : ldInfo Try.prog 174 = some (false, 1) := by kernel_rfl
@[simp] theorem tk_175 : tk Try.prog 175 = .func := by kernel_rfl
@[simp] theorem ld_175 : ldInfo Try.prog 175 = some (false, 1) := by kernel_rfl
@[simp] theorem tk_176 : tk Try.prog 176 = .func := by kernel_rfl
@[simp] theorem ld_176 : ldInfo Try.prog 176 = some (false, 1) := by kernel_rfl
@[simp] theorem tk_177 : tk Try.prog 177 = .func := by kernel_rfl
@[simp] theorem ld_177 : ldInfo Try.prog 177 = some (false, 1) := by kernel_rfl
@[simp] theorem tk_178 : tk Try.prog 178 = .int := by kernel_rfl
@[simp] theorem ld_178 : ldInfo Try.prog 178 = some (false, 1) := by kernel_rfl
@[simp] theorem cv_178 : cvtK Try.prog 178 = some .i64 := by kernel_rfl
@[simp] theorem z_178 : zeroL Try.prog 178 = some [.lit (.int .i64 0)] := by kernel_rfl
@[simp] theorem ld_179 : ldInfo Try.prog 179 = some (false, 1) := by kernel_rfl
@[simp] theorem tk_180 : tk Try.prog 180 = .func := by kernel_rfl
@[simp] theorem ld_180 : ldInfo Try.prog 180 = some (false, 1) := by kernel_rfl
@[simp] theorem tk_181 : tk Try.prog 181 = .func := by kernel_rfl
@[simp] theorem ld_181 : ldInfo Try.prog 181 = some (false, 1) := by kernel_rfl
@[simp] theorem tk_182 : tk Try.prog 182 = .func := by kernel_rfl
@[simp] theorem ld_182 : ldInfo Try.prog 182 = some (false, 1) := by kernel_rfl
@[simp] theorem tk_183 : tk Try.prog 183 = .func := by kernel_rfl
@[simp] theorem ld_183 : ldInfo Try.prog 183 = some (false, 1) := by kernel_rfl
@[simp] theorem tk_184 : tk Try.prog 184 = .func := by kernel_rfl
@[simp] theorem ld_184 : ldInfo Try.prog 184 = some (false, 1) := by kernel_rfl
@[simp] theorem tk_185 : tk Try.prog 185 = .int := by kernel_rfl
@[simp] theorem ld_185 : ldInfo Try.prog 185 = some (false, 1) := by kernel_rfl
@[simp] theorem cv_185 : cvtK Try.prog 185 = some .u32 := by kernel_rfl
@[simp] theorem z_185 : zeroL Try.prog 185 = some [.lit (.int .u32 0)] := by kernel_rfl
@[simp] theorem tk_186 : tk Try.prog 186 = .func := by kernel_rfl
@[simp] theorem ld_186 : ldInfo Try.prog 186 = some (false, 1) := by kernel_rfl
@[simp] theorem tk_187 : tk Try.prog 187 = .int := by kernel_rfl
@[simp] theorem ld_187 : ldInfo Try.prog 187 = some (false, 1) := by kernel_rfl
@[simp] theorem cv_187 : cvtK Try.prog 187 = some .u64 := by kernel_rfl
@[simp] theorem z_187 : zeroL Try.prog 187 = some [.lit (.int .u64 0)] := by kernel_rfl
@[simp] theorem tk_188 : tk Try.prog 188 = .func := by kernel_rfl
@[simp] theorem ld_188 : ldInfo Try.prog 188 = some (false, 1) := by kernel_rfl
@[simp] theorem tk_189 : tk Try.prog 189 = .func := by kernel_rfl
@[simp] theorem ld_189 : ldInfo Try.prog 189 = some (false, 1) := by kernel_rfl
@[simp] theorem tk_190 : tk Try.prog 190 = .func := by kernel_rfl
@[simp] theorem ld_190 : ldInfo Try.prog 190 = some (false, 1) := by kernel_rfl
@[simp] theorem tk_191 : tk Try.prog 191 = .func := by kernel_rfl
@[simp] theorem ld_191 : ldInfo Try.prog 191 = some (false, 1) := by kernel_rfl
@[simp] theorem tk_192 : tk Try.prog 192 = .func := by kernel_rfl
@[simp] theorem ld_192 : ldInfo Try.prog 192 = some (false, 1) := by kernel_rfl
@[simp] theorem tk_193 : tk Try.prog 193 = .func := by kernel_rfl
@[simp] theorem ld_193 : ldInfo Try.prog 193 = some (false, 1) := by kernel_rfl
@[simp] theorem tk_194 : tk Try.prog 194 = .func := by kernel_rfl
@[simp] theorem ld_194 : ldInfo Try.prog 194 = some (false, 1) := by kernel_rfl
@[simp] theorem tk_195 : tk Try.prog 195 = .int := by kernel_rfl
@[simp] theorem ld_195 : ldInfo Try.prog 195 = some (false, 1) := by kernel_rfl
@[simp] theorem cv_195 : cvtK Try.prog 195 = some .u64 := by kernel_rfl
@[simp] theorem z_195 : zeroL Try.prog 195 = some [.lit (.int .u64 0)] := by kernel_rfl
@[simp] theorem tk_196 : tk Try.prog 196 = .func := by kernel_rfl
@[simp] theorem ld_196 : ldInfo Try.prog 196 = some (false, 1) := by kernel_rfl
@[simp] theorem tk_197 : tk Try.prog 197 = .func := by kernel_rfl
@[simp] theorem ld_197 : ldInfo Try.prog 197 = some (false, 1) := by kernel_rfl
@[simp] theorem tk_198 : tk Try.prog 198 = .func := by kernel_rfl
@[simp] theorem ld_198 : ldInfo Try.prog 198 = some (false, 1) := by kernel_rfl
@[simp] theorem tk_199 : tk Try.prog 199 = .ptr := by kernel_rfl
@[simp] theorem ld_199 : ldInfo Try.prog 199 = some (false, 1) := by kernel_rfl
@[simp] theorem z_199 : zeroL Try.prog 199 = some [.lit (.pointer none)] := by kernel_rfl
@[simp] theorem tk_200 : tk Try.prog 200 = .func := by kernel_rfl
@[simp] theorem ld_200 : ldInfo Try.prog 200 = some (false, 1) := by kernel_rfl
@[simp] theorem tk_201 : tk Try.prog 201 = .flat 3 := by kernel_rfl
@[simp] theorem ld_201 : ldInfo Try.prog 201 = some (true, 3) := by kernel_rfl
@[simp] theorem sln_201 : slSize Try.prog 201 = none := by kernel_rfl
@[simp] theorem ar_201 : arSize Try.prog 201 = some (3, 1) := by kernel_rfl
@[simp] theorem z_201 : zeroL Try.prog 201 = some [.lit (.int .i64 0), .lit (.int .i64 0), .lit (.int .i64 0)] := by kernel_rfl
@[simp] theorem zv_201 : zeroV Try.prog 201 = some [.lit (.int .i64 0), .lit (.int .i64 0), .lit (.int .i64 0)] := by kernel_rfl
@[simp] theorem bi_201 : bInfo Try.prog 201 = some [(0, 1), (1, 1), (2, 1)] := by kernel_rfl
@[simp] theorem ai_201 : arInfo Try.prog 201 = some (3, false, 1) := by kernel_rfl
@[simp] theorem tk_202 : tk Try.prog 202 = .func := by kernel_rfl
@[simp] theorem ld_202 : ldInfo Try.prog 202 = some (false, 1) := by kernel_rfl
@[simp] theorem tk_203 : tk Try.prog 203 = .func := by kernel_rfl
@[simp] theorem ld_203 : ldInfo Try.prog 203 = some (false, 1) := by kernel_rfl
@[simp] theorem tk_204 : tk Try.prog 204 = .func := by kernel_rfl
@[simp] theorem ld_204 : ldInfo Try.prog 204 = some (false, 1) := by kernel_rfl
@[simp] theorem tk_205 : tk Try.prog 205 = .ptr := by kernel_rfl
@[simp] theorem ld_205 : ldInfo Try.prog 205 = some (false, 1) := by kernel_rfl
@[simp] theorem z_205 : zeroL Try.prog 205 = some [.lit (.pointer none)] := by kernel_rfl
@[simp] theorem tk_206 : tk Try.prog 206 = .func := by kernel_rfl
@[simp] theorem ld_206 : ldInfo Try.prog 206 = some (false, 1) := by kernel_rfl
@[simp] theorem tk_207 : tk Try.prog 207 = .func := by kernel_rfl
@[simp] theorem ld_207 : ldInfo Try.prog 207 = some (false, 1) := by kernel_rfl
@[simp] theorem tk_208 : tk Try.prog 208 = .func := by kernel_rfl
@[simp] theorem ld_208 : ldInfo Try.prog 208 = some (false, 1) := by kernel_rfl
@[simp] theorem ld_209 : ldInfo Try.prog 209 = some (true, 4) := by kernel_rfl
@[simp] theorem z_209 : zeroL Try.prog 209 = some [.lit (.pointer none), .lit (.pointer none), .lit (.pointer none), .lit (.string ByteArray.empty)] := by kernel_rfl
@[simp] theorem zv_209 : zeroV Try.prog 209 = some [.lit (.pointer none), .lit (.pointer none), .lit (.pointer none), .lit (.string ByteArray.empty)] := by kernel_rfl
@[simp] theorem bi_209 : bInfo Try.prog 209 = some [(0, 1), (1, 1), (2, 1), (3, 1)] := by kernel_rfl
@[simp] theorem ld_210 : ldInfo Try.prog 210 = some (true, 4) := by kernel_rfl
@[simp] theorem z_210 : zeroL Try.prog 210 = some [.lit (.pointer none), .lit (.pointer none), .lit (.pointer none), .lit (.string ByteArray.empty)] := by kernel_rfl
@[simp] theorem zv_210 : zeroV Try.prog 210 = some [.lit (.pointer none), .lit (.pointer none), .lit (.pointer none), .lit (.string ByteArray.empty)] := by kernel_rfl
@[simp] theorem bi_210 : bInfo Try.prog 210 = some [(0, 1), (1, 1), (2, 1), (3, 1)] := by kernel_rfl
@[simp] theorem ld_211 : ldInfo Try.prog 211 = some (true, 0) := by kernel_rfl
@[simp] theorem sln_211 : slSize Try.prog 211 = none := by kernel_rfl
@[simp] theorem ar_211 : arSize Try.prog 211 = some (0, 1) := by kernel_rfl
@[simp] theorem z_211 : zeroL Try.prog 211 = some [] := by kernel_rfl
@[simp] theorem zv_211 : zeroV Try.prog 211 = some [] := by kernel_rfl
@[simp] theorem bi_211 : bInfo Try.prog 211 = some [] := by kernel_rfl
@[simp] theorem ai_211 : arInfo Try.prog 211 = some (0, false, 1) := by kernel_rfl
@[simp] theorem ld_212 : ldInfo Try.prog 212 = some (true, 0) := by kernel_rfl
@[simp] theorem z_212 : zeroL Try.prog 212 = some [] := by kernel_rfl
@[simp] theorem zv_212 : zeroV Try.prog 212 = some [] := by kernel_rfl
@[simp] theorem bi_212 : bInfo Try.prog 212 = some [(0, 0)] := by kernel_rfl
@[simp] theorem ld_213 : ldInfo Try.prog 213 = some (true, 0) := by kernel_rfl
@[simp] theorem z_213 : zeroL Try.prog 213 = some [] := by kernel_rfl
@[simp] theorem zv_213 : zeroV Try.prog 213 = some [] := by kernel_rfl
@[simp] theorem bi_213 : bInfo Try.prog 213 = some [(0, 0)] := by kernel_rfl
@[simp] theorem tk_214 : tk Try.prog 214 = .func := by kernel_rfl
@[simp] theorem ld_214 : ldInfo Try.prog 214 = some (false, 1) := by kernel_rfl
@[simp] theorem tk_215 : tk Try.prog 215 = .int := by kernel_rfl
@[simp] theorem ld_215 : ldInfo Try.prog 215 = some (false, 1) := by kernel_rfl
@[simp] theorem cv_215 : cvtK Try.prog 215 = some .u8 := by kernel_rfl
@[simp] theorem z_215 : zeroL Try.prog 215 = some [.lit (.int .u8 0)] := by kernel_rfl
@[simp] theorem tk_216 : tk Try.prog 216 = .int := by kernel_rfl
@[simp] theorem ld_216 : ldInfo Try.prog 216 = some (false, 1) := by kernel_rfl
@[simp] theorem cv_216 : cvtK Try.prog 216 = some .u8 := by kernel_rfl
@[simp] theorem z_216 : zeroL Try.prog 216 = some [.lit (.int .u8 0)] := by kernel_rfl
@[simp] theorem tk_217 : tk Try.prog 217 = .func := by kernel_rfl
@[simp] theorem ld_217 : ldInfo Try.prog 217 = some (false, 1) := by kernel_rfl
@[simp] theorem tk_218 : tk Try.prog 218 = .ptr := by kernel_rfl
@[simp] theorem ld_218 : ldInfo Try.prog 218 = some (false, 1) := by kernel_rfl
@[simp] theorem z_218 : zeroL Try.prog 218 = some [.lit (.pointer none)] := by kernel_rfl
@[simp] theorem tk_219 : tk Try.prog 219 = .int := by kernel_rfl
@[simp] theorem ld_219 : ldInfo Try.prog 219 = some (false, 1) := by kernel_rfl
@[simp] theorem cv_219 : cvtK Try.prog 219 = some .i32 := by kernel_rfl
@[simp] theorem z_219 : zeroL Try.prog 219 = some [.lit (.int .i32 0)] := by kernel_rfl
@[simp] theorem tk_220 : tk Try.prog 220 = .int := by kernel_rfl
@[simp] theorem ld_220 : ldInfo Try.prog 220 = some (false, 1) := by kernel_rfl
@[simp] theorem cv_220 : cvtK Try.prog 220 = some .i32 := by kernel_rfl
@[simp] theorem z_220 : zeroL Try.prog 220 = some [.lit (.int .i32 0)] := by kernel_rfl
@[simp] theorem ld_221 : ldInfo Try.prog 221 = some (true, 11) := by kernel_rfl
@[simp] theorem ld_222 : ldInfo Try.prog 222 = some (true, 11) := by kernel_rfl
@[simp] theorem ld_223 : ldInfo Try.prog 223 = some (false, 1) := by kernel_rfl
@[simp] theorem z_223 : zeroL Try.prog 223 = some [.lit (.pointer none)] := by kernel_rfl
@[simp] theorem fo_7_0 : fOff Try.prog 7 0 = some 0 := by kernel_rfl
@[simp] theorem fi_7_0 : fldInfo Try.prog 7 0 = some (0, false, 1) := by kernel_rfl
@[simp] theorem fo_7_1 : fOff Try.prog 7 1 = some 1 := by kernel_rfl
@[simp] theorem fi_7_1 : fldInfo Try.prog 7 1 = some (1, false, 1) := by kernel_rfl
@[simp] theorem fo_7_2 : fOff Try.prog 7 2 = some 2 := by kernel_rfl
@[simp] theorem fi_7_2 : fldInfo Try.prog 7 2 = some (2, false, 1) := by kernel_rfl
@[simp] theorem fo_7_3 : fOff Try.prog 7 3 = some 3 := by kernel_rfl
@[simp] theorem fi_7_3 : fldInfo Try.prog 7 3 = some (3, false, 1) := by kernel_rfl
@[simp] theorem fo_8_0 : fOff Try.prog 8 0 = some 0 := by kernel_rfl
@[simp] theorem fi_8_0 : fldInfo Try.prog 8 0 = some (0, false, 1) := by kernel_rfl
@[simp] theorem fo_8_1 : fOff Try.prog 8 1 = some 1 := by kernel_rfl
@[simp] theorem fi_8_1 : fldInfo Try.prog 8 1 = some (1, false, 1) := by kernel_rfl
@[simp] theorem fo_8_2 : fOff Try.prog 8 2 = some 2 := by kernel_rfl
@[simp] theorem fi_8_2 : fldInfo Try.prog 8 2 = some (2, false, 1) := by kernel_rfl
@[simp] theorem fo_8_3 : fOff Try.prog 8 3 = some 3 := by kernel_rfl
@[simp] theorem fi_8_3 : fldInfo Try.prog 8 3 = some (3, false, 1) := by kernel_rfl
@[simp] theorem fo_13_0 : fOff Try.prog 13 0 = some 0 := by kernel_rfl
@[simp] theorem fi_13_0 : fldInfo Try.prog 13 0 = some (0, false, 1) := by kernel_rfl
@[simp] theorem fo_13_1 : fOff Try.prog 13 1 = some 1 := by kernel_rfl
@[simp] theorem fi_13_1 : fldInfo Try.prog 13 1 = some (1, false, 1) := by kernel_rfl
@[simp] theorem fo_14_0 : fOff Try.prog 14 0 = some 0 := by kernel_rfl
@[simp] theorem fi_14_0 : fldInfo Try.prog 14 0 = some (0, false, 1) := by kernel_rfl
@[simp] theorem fo_14_1 : fOff Try.prog 14 1 = some 1 := by kernel_rfl
@[simp] theorem fi_14_1 : fldInfo Try.prog 14 1 = some (1, false, 1) := by kernel_rfl
@[simp] theorem fo_18_0 : fOff Try.prog 18 0 = some 0 := by kernel_rfl
@[simp] theorem fi_18_0 : fldInfo Try.prog 18 0 = some (0, false, 1) := by kernel_rfl
@[simp] theorem fo_19_0 : fOff Try.prog 19 0 = some 0 := by kernel_rfl
@[simp] theorem fi_19_0 : fldInfo Try.prog 19 0 = some (0, false, 1) := by kernel_rfl
@[simp] theorem fo_38_0 : fOff Try.prog 38 0 = some 0 := by kernel_rfl
@[simp] theorem fi_38_0 : fldInfo Try.prog 38 0 = some (0, false, 1) := by kernel_rfl
@[simp] theorem fo_38_1 : fOff Try.prog 38 1 = some 1 := by kernel_rfl
@[simp] theorem fi_38_1 : fldInfo Try.prog 38 1 = some (1, false, 1) := by kernel_rfl
@[simp] theorem fo_38_2 : fOff Try.prog 38 2 = some 2 := by kernel_rfl
@[simp] theorem fi_38_2 : fldInfo Try.prog 38 2 = some (2, false, 1) := by kernel_rfl
@[simp] theorem fo_38_3 : fOff Try.prog 38 3 = some 3 := by kernel_rfl
@[simp] theorem fi_38_3 : fldInfo Try.prog 38 3 = some (3, false, 1) := by kernel_rfl
@[simp] theorem fo_38_4 : fOff Try.prog 38 4 = some 4 := by kernel_rfl
@[simp] theorem fi_38_4 : fldInfo Try.prog 38 4 = some (4, false, 1) := by kernel_rfl
@[simp] theorem fo_39_0 : fOff Try.prog 39 0 = some 0 := by kernel_rfl
@[simp] theorem fi_39_0 : fldInfo Try.prog 39 0 = some (0, false, 1) := by kernel_rfl
@[simp] theorem fo_39_1 : fOff Try.prog 39 1 = some 1 := by kernel_rfl
@[simp] theorem fi_39_1 : fldInfo Try.prog 39 1 = some (1, false, 1) := by kernel_rfl
@[simp] theorem fo_39_2 : fOff Try.prog 39 2 = some 2 := by kernel_rfl
@[simp] theorem fi_39_2 : fldInfo Try.prog 39 2 = some (2, false, 1) := by kernel_rfl
@[simp] theorem fo_39_3 : fOff Try.prog 39 3 = some 3 := by kernel_rfl
@[simp] theorem fi_39_3 : fldInfo Try.prog 39 3 = some (3, false, 1) := by kernel_rfl
@[simp] theorem fo_39_4 : fOff Try.prog 39 4 = some 4 := by kernel_rfl
@[simp] theorem fi_39_4 : fldInfo Try.prog 39 4 = some (4, false, 1) := by kernel_rfl
@[simp] theorem fo_48_0 : fOff Try.prog 48 0 = some 0 := by kernel_rfl
@[simp] theorem fi_48_0 : fldInfo Try.prog 48 0 = some (0, false, 1) := by kernel_rfl
@[simp] theorem fo_48_1 : fOff Try.prog 48 1 = some 1 := by kernel_rfl
@[simp] theorem fi_48_1 : fldInfo Try.prog 48 1 = some (1, false, 1) := by kernel_rfl
@[simp] theorem fo_49_0 : fOff Try.prog 49 0 = some 0 := by kernel_rfl
@[simp] theorem fi_49_0 : fldInfo Try.prog 49 0 = some (0, false, 1) := by kernel_rfl
@[simp] theorem fo_49_1 : fOff Try.prog 49 1 = some 1 := by kernel_rfl
@[simp] theorem fi_49_1 : fldInfo Try.prog 49 1 = some (1, false, 1) := by kernel_rfl
@[simp] theorem fo_51_0 : fOff Try.prog 51 0 = some 0 := by kernel_rfl
@[simp] theorem fi_51_0 : fldInfo Try.prog 51 0 = some (0, false, 1) := by kernel_rfl
@[simp] theorem fo_51_1 : fOff Try.prog 51 1 = some 1 := by kernel_rfl
@[simp] theorem fi_51_1 : fldInfo Try.prog 51 1 = some (1, false, 1) := by kernel_rfl
@[simp] theorem fo_51_2 : fOff Try.prog 51 2 = some 2 := by kernel_rfl
@[simp] theorem fi_51_2 : fldInfo Try.prog 51 2 = some (2, false, 1) := by kernel_rfl
@[simp] theorem fo_52_0 : fOff Try.prog 52 0 = some 0 := by kernel_rfl
@[simp] theorem fi_52_0 : fldInfo Try.prog 52 0 = some (0, false, 1) := by kernel_rfl
@[simp] theorem fo_52_1 : fOff Try.prog 52 1 = some 1 := by kernel_rfl
@[simp] theorem fi_52_1 : fldInfo Try.prog 52 1 = some (1, false, 1) := by kernel_rfl
@[simp] theorem fo_52_2 : fOff Try.prog 52 2 = some 2 := by kernel_rfl
@[simp] theorem fi_52_2 : fldInfo Try.prog 52 2 = some (2, false, 1) := by kernel_rfl
@[simp] theorem fo_53_0 : fOff Try.prog 53 0 = some 0 := by kernel_rfl
@[simp] theorem fi_53_0 : fldInfo Try.prog 53 0 = some (0, false, 1) := by kernel_rfl
@[simp] theorem fo_53_1 : fOff Try.prog 53 1 = some 1 := by kernel_rfl
@[simp] theorem fi_53_1 : fldInfo Try.prog 53 1 = some (1, false, 1) := by kernel_rfl
@[simp] theorem fo_53_2 : fOff Try.prog 53 2 = some 2 := by kernel_rfl
@[simp] theorem fi_53_2 : fldInfo Try.prog 53 2 = some (2, true, 2) := by kernel_rfl
@[simp] theorem fo_53_3 : fOff Try.prog 53 3 = some 4 := by kernel_rfl
@[simp] theorem fi_53_3 : fldInfo Try.prog 53 3 = some (4, true, 3) := by kernel_rfl
@[simp] theorem fo_53_4 : fOff Try.prog 53 4 = some 7 := by kernel_rfl
@[simp] theorem fi_53_4 : fldInfo Try.prog 53 4 = some (7, false, 1) := by kernel_rfl
@[simp] theorem fo_54_0 : fOff Try.prog 54 0 = some 0 := by kernel_rfl
@[simp] theorem fi_54_0 : fldInfo Try.prog 54 0 = some (0, false, 1) := by kernel_rfl
@[simp] theorem fo_54_1 : fOff Try.prog 54 1 = some 1 := by kernel_rfl
@[simp] theorem fi_54_1 : fldInfo Try.prog 54 1 = some (1, false, 1) := by kernel_rfl
@[simp] theorem fo_54_2 : fOff Try.prog 54 2 = some 2 := by kernel_rfl
@[simp] theorem fi_54_2 : fldInfo Try.prog 54 2 = some (2, true, 2) := by kernel_rfl
@[simp] theorem fo_54_3 : fOff Try.prog 54 3 = some 4 := by kernel_rfl
@[simp] theorem fi_54_3 : fldInfo Try.prog 54 3 = some (4, true, 3) := by kernel_rfl
@[simp] theorem fo_54_4 : fOff Try.prog 54 4 = some 7 := by kernel_rfl
@[simp] theorem fi_54_4 : fldInfo Try.prog 54 4 = some (7, false, 1) := by kernel_rfl
@[simp] theorem fo_73_0 : fOff Try.prog 73 0 = some 0 := by kernel_rfl
@[simp] theorem fi_73_0 : fldInfo Try.prog 73 0 = some (0, false, 1) := by kernel_rfl
@[simp] theorem fo_73_1 : fOff Try.prog 73 1 = some 1 := by kernel_rfl
@[simp] theorem fi_73_1 : fldInfo Try.prog 73 1 = some (1, false, 1) := by kernel_rfl
@[simp] theorem fo_73_2 : fOff Try.prog 73 2 = some 2 := by kernel_rfl
@[simp] theorem fi_73_2 : fldInfo Try.prog 73 2 = some (2, false, 1) := by kernel_rfl
@[simp] theorem fo_74_0 : fOff Try.prog 74 0 = some 0 := by kernel_rfl
@[simp] theorem fi_74_0 : fldInfo Try.prog 74 0 = some (0, false, 1) := by kernel_rfl
@[simp] theorem fo_74_1 : fOff Try.prog 74 1 = some 1 := by kernel_rfl
@[simp] theorem fi_74_1 : fldInfo Try.prog 74 1 = some (1, false, 1) := by kernel_rfl
@[simp] theorem fo_74_2 : fOff Try.prog 74 2 = some 2 := by kernel_rfl
@[simp] theorem fi_74_2 : fldInfo Try.prog 74 2 = some (2, false, 1) := by kernel_rfl
@[simp] theorem fo_139_0 : fOff Try.prog 139 0 = some 0 := by kernel_rfl
@[simp] theorem fi_139_0 : fldInfo Try.prog 139 0 = some (0, false, 1) := by kernel_rfl
@[simp] theorem fo_139_1 : fOff Try.prog 139 1 = some 1 := by kernel_rfl
@[simp] theorem fi_139_1 : fldInfo Try.prog 139 1 = some (1, false, 1) := by kernel_rfl
@[simp] theorem fo_140_0 : fOff Try.prog 140 0 = some 0 := by kernel_rfl
@[simp] theorem fi_140_0 : fldInfo Try.prog 140 0 = some (0, false, 1) := by kernel_rfl
@[simp] theorem fo_140_1 : fOff Try.prog 140 1 = some 1 := by kernel_rfl
@[simp] theorem fi_140_1 : fldInfo Try.prog 140 1 = some (1, false, 1) := by kernel_rfl
@[simp] theorem fo_141_0 : fOff Try.prog 141 0 = some 0 := by kernel_rfl
@[simp] theorem fi_141_0 : fldInfo Try.prog 141 0 = some (0, false, 1) := by kernel_rfl
@[simp] theorem fo_141_1 : fOff Try.prog 141 1 = some 1 := by kernel_rfl
@[simp] theorem fi_141_1 : fldInfo Try.prog 141 1 = some (1, false, 1) := by kernel_rfl
@[simp] theorem fo_142_0 : fOff Try.prog 142 0 = some 0 := by kernel_rfl
@[simp] theorem fi_142_0 : fldInfo Try.prog 142 0 = some (0, false, 1) := by kernel_rfl
@[simp] theorem fo_142_1 : fOff Try.prog 142 1 = some 1 := by kernel_rfl
@[simp] theorem fi_142_1 : fldInfo Try.prog 142 1 = some (1, false, 1) := by kernel_rfl
@[simp] theorem fo_144_0 : fOff Try.prog 144 0 = some 0 := by kernel_rfl
@[simp] theorem fi_144_0 : fldInfo Try.prog 144 0 = some (0, false, 1) := by kernel_rfl
@[simp] theorem fo_144_1 : fOff Try.prog 144 1 = some 1 := by kernel_rfl
@[simp] theorem fi_144_1 : fldInfo Try.prog 144 1 = some (1, false, 1) := by kernel_rfl
@[simp] theorem fo_144_2 : fOff Try.prog 144 2 = some 2 := by kernel_rfl
@[simp] theorem fi_144_2 : fldInfo Try.prog 144 2 = some (2, false, 1) := by kernel_rfl
@[simp] theorem fo_144_3 : fOff Try.prog 144 3 = some 3 := by kernel_rfl
@[simp] theorem fi_144_3 : fldInfo Try.prog 144 3 = some (3, false, 1) := by kernel_rfl
@[simp] theorem fo_145_0 : fOff Try.prog 145 0 = some 0 := by kernel_rfl
@[simp] theorem fi_145_0 : fldInfo Try.prog 145 0 = some (0, false, 1) := by kernel_rfl
@[simp] theorem fo_145_1 : fOff Try.prog 145 1 = some 1 := by kernel_rfl
@[simp] theorem fi_145_1 : fldInfo Try.prog 145 1 = some (1, false, 1) := by kernel_rfl
@[simp] theorem fo_145_2 : fOff Try.prog 145 2 = some 2 := by kernel_rfl
@[simp] theorem fi_145_2 : fldInfo Try.prog 145 2 = some (2, false, 1) := by kernel_rfl
@[simp] theorem fo_145_3 : fOff Try.prog 145 3 = some 3 := by kernel_rfl
@[simp] theorem fi_145_3 : fldInfo Try.prog 145 3 = some (3, false, 1) := by kernel_rfl
@[simp] theorem fo_146_0 : fOff Try.prog 146 0 = some 0 := by kernel_rfl
@[simp] theorem fi_146_0 : fldInfo Try.prog 146 0 = some (0, false, 1) := by kernel_rfl
@[simp] theorem fo_146_1 : fOff Try.prog 146 1 = some 1 := by kernel_rfl
@[simp] theorem fi_146_1 : fldInfo Try.prog 146 1 = some (1, false, 1) := by kernel_rfl
@[simp] theorem fo_146_2 : fOff Try.prog 146 2 = some 2 := by kernel_rfl
@[simp] theorem fi_146_2 : fldInfo Try.prog 146 2 = some (2, false, 1) := by kernel_rfl
@[simp] theorem fo_146_3 : fOff Try.prog 146 3 = some 3 := by kernel_rfl
@[simp] theorem fi_146_3 : fldInfo Try.prog 146 3 = some (3, false, 1) := by kernel_rfl
@[simp] theorem fo_146_4 : fOff Try.prog 146 4 = some 4 := by kernel_rfl
@[simp] theorem fi_146_4 : fldInfo Try.prog 146 4 = some (4, false, 1) := by kernel_rfl
@[simp] theorem fo_147_0 : fOff Try.prog 147 0 = some 0 := by kernel_rfl
@[simp] theorem fi_147_0 : fldInfo Try.prog 147 0 = some (0, false, 1) := by kernel_rfl
@[simp] theorem fo_147_1 : fOff Try.prog 147 1 = some 1 := by kernel_rfl
@[simp] theorem fi_147_1 : fldInfo Try.prog 147 1 = some (1, false, 1) := by kernel_rfl
@[simp] theorem fo_147_2 : fOff Try.prog 147 2 = some 2 := by kernel_rfl
@[simp] theorem fi_147_2 : fldInfo Try.prog 147 2 = some (2, false, 1) := by kernel_rfl
@[simp] theorem fo_147_3 : fOff Try.prog 147 3 = some 3 := by kernel_rfl
@[simp] theorem fi_147_3 : fldInfo Try.prog 147 3 = some (3, false, 1) := by kernel_rfl
@[simp] theorem fo_147_4 : fOff Try.prog 147 4 = some 4 := by kernel_rfl
@[simp] theorem fi_147_4 : fldInfo Try.prog 147 4 = some (4, false, 1) := by kernel_rfl
@[simp] theorem fo_152_0 : fOff Try.prog 152 0 = some 0 := by kernel_rfl
@[simp] theorem fi_152_0 : fldInfo Try.prog 152 0 = some (0, false, 1) := by kernel_rfl
@[simp] theorem fo_152_1 : fOff Try.prog 152 1 = some 1 := by kernel_rfl
@[simp] theorem fi_152_1 : fldInfo Try.prog 152 1 = some (1, false, 1) := by kernel_rfl
@[simp] theorem fo_152_2 : fOff Try.prog 152 2 = some 2 := by kernel_rfl
@[simp] theorem fi_152_2 : fldInfo Try.prog 152 2 = some (2, false, 1) := by kernel_rfl
@[simp] theorem fo_153_0 : fOff Try.prog 153 0 = some 0 := by kernel_rfl
@[simp] theorem fi_153_0 : fldInfo Try.prog 153 0 = some (0, false, 1) := by kernel_rfl
@[simp] theorem fo_153_1 : fOff Try.prog 153 1 = some 1 := by kernel_rfl
@[simp] theorem fi_153_1 : fldInfo Try.prog 153 1 = some (1, false, 1) := by kernel_rfl
@[simp] theorem fo_153_2 : fOff Try.prog 153 2 = some 2 := by kernel_rfl
@[simp] theorem fi_153_2 : fldInfo Try.prog 153 2 = some (2, false, 1) := by kernel_rfl
@[simp] theorem fo_171_0 : fOff Try.prog 171 0 = some 0 := by kernel_rfl
@[simp] theorem fi_171_0 : fldInfo Try.prog 171 0 = some (0, false, 1) := by kernel_rfl
@[simp] theorem fo_171_1 : fOff Try.prog 171 1 = some 1 := by kernel_rfl
@[simp] theorem fi_171_1 : fldInfo Try.prog 171 1 = some (1, false, 1) := by kernel_rfl
@[simp] theorem fo_171_2 : fOff Try.prog 171 2 = some 2 := by kernel_rfl
@[simp] theorem fi_171_2 : fldInfo Try.prog 171 2 = some (2, false, 1) := by kernel_rfl
@[simp] theorem fo_171_3 : fOff Try.prog 171 3 = some 3 := by kernel_rfl
@[simp] theorem fi_171_3 : fldInfo Try.prog 171 3 = some (3, false, 1) := by kernel_rfl
@[simp] theorem fo_172_0 : fOff Try.prog 172 0 = some 0 := by kernel_rfl
@[simp] theorem fi_172_0 : fldInfo Try.prog 172 0 = some (0, false, 1) := by kernel_rfl
@[simp] theorem fo_172_1 : fOff Try.prog 172 1 = some 1 := by kernel_rfl
@[simp] theorem fi_172_1 : fldInfo Try.prog 172 1 = some (1, false, 1) := by kernel_rfl
@[simp] theorem fo_172_2 : fOff Try.prog 172 2 = some 2 := by kernel_rfl
@[simp] theorem fi_172_2 : fldInfo Try.prog 172 2 = some (2, false, 1) := by kernel_rfl
@[simp] theorem fo_172_3 : fOff Try.prog 172 3 = some 3 := by kernel_rfl
@[simp] theorem fi_172_3 : fldInfo Try.prog 172 3 = some (3, false, 1) := by kernel_rfl
@[simp] theorem fo_209_0 : fOff Try.prog 209 0 = some 0 := by kernel_rfl
@[simp] theorem fi_209_0 : fldInfo Try.prog 209 0 = some (0, false, 1) := by kernel_rfl
@[simp] theorem fo_209_1 : fOff Try.prog 209 1 = some 1 := by kernel_rfl
@[simp] theorem fi_209_1 : fldInfo Try.prog 209 1 = some (1, false, 1) := by kernel_rfl
@[simp] theorem fo_209_2 : fOff Try.prog 209 2 = some 2 := by kernel_rfl
@[simp] theorem fi_209_2 : fldInfo Try.prog 209 2 = some (2, false, 1) := by kernel_rfl
@[simp] theorem fo_209_3 : fOff Try.prog 209 3 = some 3 := by kernel_rfl
@[simp] theorem fi_209_3 : fldInfo Try.prog 209 3 = some (3, false, 1) := by kernel_rfl
@[simp] theorem fo_210_0 : fOff Try.prog 210 0 = some 0 := by kernel_rfl
@[simp] theorem fi_210_0 : fldInfo Try.prog 210 0 = some (0, false, 1) := by kernel_rfl
@[simp] theorem fo_210_1 : fOff Try.prog 210 1 = some 1 := by kernel_rfl
@[simp] theorem fi_210_1 : fldInfo Try.prog 210 1 = some (1, false, 1) := by kernel_rfl
@[simp] theorem fo_210_2 : fOff Try.prog 210 2 = some 2 := by kernel_rfl
@[simp] theorem fi_210_2 : fldInfo Try.prog 210 2 = some (2, false, 1) := by kernel_rfl
@[simp] theorem fo_210_3 : fOff Try.prog 210 3 = some 3 := by kernel_rfl
@[simp] theorem fi_210_3 : fldInfo Try.prog 210 3 = some (3, false, 1) := by kernel_rfl
@[simp] theorem fi_212_0 : fldInfo Try.prog 212 0 = some (0, true, 0) := by kernel_rfl
@[simp] theorem fi_213_0 : fldInfo Try.prog 213 0 = some (0, true, 0) := by kernel_rfl
@[simp] theorem fo_221_0 : fOff Try.prog 221 0 = some 0 := by kernel_rfl
@[simp] theorem fi_221_0 : fldInfo Try.prog 221 0 = some (0, false, 1) := by kernel_rfl
@[simp] theorem fo_221_1 : fOff Try.prog 221 1 = some 1 := by kernel_rfl
@[simp] theorem fi_221_1 : fldInfo Try.prog 221 1 = some (1, false, 1) := by kernel_rfl
@[simp] theorem fo_221_2 : fOff Try.prog 221 2 = some 2 := by kernel_rfl
@[simp] theorem fi_221_2 : fldInfo Try.prog 221 2 = some (2, false, 1) := by kernel_rfl
@[simp] theorem fo_221_3 : fOff Try.prog 221 3 = some 3 := by kernel_rfl
@[simp] theorem fi_221_3 : fldInfo Try.prog 221 3 = some (3, false, 1) := by kernel_rfl
@[simp] theorem fo_221_4 : fOff Try.prog 221 4 = some 4 := by kernel_rfl
@[simp] theorem fi_221_4 : fldInfo Try.prog 221 4 = some (4, false, 1) := by kernel_rfl
@[simp] theorem fo_221_5 : fOff Try.prog 221 5 = some 5 := by kernel_rfl
@[simp] theorem fi_221_5 : fldInfo Try.prog 221 5 = some (5, false, 1) := by kernel_rfl
@[simp] theorem fo_221_6 : fOff Try.prog 221 6 = some 6 := by kernel_rfl
@[simp] theorem fi_221_6 : fldInfo Try.prog 221 6 = some (6, false, 1) := by kernel_rfl
@[simp] theorem fo_221_7 : fOff Try.prog 221 7 = some 7 := by kernel_rfl
@[simp] theorem fi_221_7 : fldInfo Try.prog 221 7 = some (7, false, 1) := by kernel_rfl
@[simp] theorem fo_221_8 : fOff Try.prog 221 8 = some 8 := by kernel_rfl
@[simp] theorem fi_221_8 : fldInfo Try.prog 221 8 = some (8, false, 1) := by kernel_rfl
@[simp] theorem fo_221_9 : fOff Try.prog 221 9 = some 9 := by kernel_rfl
@[simp] theorem fi_221_9 : fldInfo Try.prog 221 9 = some (9, false, 1) := by kernel_rfl
@[simp] theorem fo_221_10 : fOff Try.prog 221 10 = some 10 := by kernel_rfl
@[simp] theorem fi_221_10 : fldInfo Try.prog 221 10 = some (10, false, 1) := by kernel_rfl
@[simp] theorem fo_222_0 : fOff Try.prog 222 0 = some 0 := by kernel_rfl
@[simp] theorem fi_222_0 : fldInfo Try.prog 222 0 = some (0, false, 1) := by kernel_rfl
@[simp] theorem fo_222_1 : fOff Try.prog 222 1 = some 1 := by kernel_rfl
@[simp] theorem fi_222_1 : fldInfo Try.prog 222 1 = some (1, false, 1) := by kernel_rfl
@[simp] theorem fo_222_2 : fOff Try.prog 222 2 = some 2 := by kernel_rfl
@[simp] theorem fi_222_2 : fldInfo Try.prog 222 2 = some (2, false, 1) := by kernel_rfl
@[simp] theorem fo_222_3 : fOff Try.prog 222 3 = some 3 := by kernel_rfl
@[simp] theorem fi_222_3 : fldInfo Try.prog 222 3 = some (3, false, 1) := by kernel_rfl
@[simp] theorem fo_222_4 : fOff Try.prog 222 4 = some 4 := by kernel_rfl
@[simp] theorem fi_222_4 : fldInfo Try.prog 222 4 = some (4, false, 1) := by kernel_rfl
@[simp] theorem fo_222_5 : fOff Try.prog 222 5 = some 5 := by kernel_rfl
@[simp] theorem fi_222_5 : fldInfo Try.prog 222 5 = some (5, false, 1) := by kernel_rfl
@[simp] theorem fo_222_6 : fOff Try.prog 222 6 = some 6 := by kernel_rfl
@[simp] theorem fi_222_6 : fldInfo Try.prog 222 6 = some (6, false, 1) := by kernel_rfl
@[simp] theorem fo_222_7 : fOff Try.prog 222 7 = some 7 := by kernel_rfl
@[simp] theorem fi_222_7 : fldInfo Try.prog 222 7 = some (7, false, 1) := by kernel_rfl
@[simp] theorem fo_222_8 : fOff Try.prog 222 8 = some 8 := by kernel_rfl
@[simp] theorem fi_222_8 : fldInfo Try.prog 222 8 = some (8, false, 1) := by kernel_rfl
@[simp] theorem fo_222_9 : fOff Try.prog 222 9 = some 9 := by kernel_rfl
@[simp] theorem fi_222_9 : fldInfo Try.prog 222 9 = some (9, false, 1) := by kernel_rfl
@[simp] theorem fo_222_10 : fOff Try.prog 222 10 = some 10 := by kernel_rfl
@[simp] theorem fi_222_10 : fldInfo Try.prog 222 10 = some (10, false, 1) := by kernel_rfl

end Go.AX

namespace Go.AX
open Go.Proofs
theorem hmo : Try.prog.follows .mixedOrders = true := by kernel_rfl

/-! ### Plain laws -/
theorem w64_half (x : Int) : w64 ((w64 x).tdiv 2) = (w64 x).tdiv 2 := by
  have h1 := w64_lo x
  have h2 := w64_hi x
  have h3 := Int.mul_tdiv_add_tmod (w64 x) 2
  have h4 := Int.tmod_lt_of_pos (w64 x) (show (0 : Int) < 2 by omega)
  have h5 : -2 < (w64 x).tmod 2 := by have := Int.lt_tmod_of_pos (w64 x) (show (0 : Int) < 2 by omega); omega
  exact w64_id (by omega) (by omega)
def chooseS (n : Int) : Int := (w64 (n * (n - 1))).tdiv 2
def sizeOk (a b : Int) : Bool := !(decide (a < 0) || decide (a > 64) || decide (b < 1) || decide (b > 32))
theorem sizeOk_iff {a b : Int} : sizeOk a b = true ↔ 0 ≤ a ∧ a ≤ 64 ∧ 1 ≤ b ∧ b ≤ 32 := by
  simp [sizeOk]; omega
theorem chooseS_two {a : Int} (h0 : 0 ≤ a) (h1 : a ≤ 64) : 2 * chooseS a = a * (a - 1) := by
  obtain ⟨k, rfl⟩ := Int.eq_ofNat_of_zero_le h0
  have hk : k < 65 := by omega
  have key : ∀ j : Fin 65, 2 * chooseS (j.val : Int) = (j.val : Int) * ((j.val : Int) - 1) := by decide +kernel
  exact key ⟨k, hk⟩
def timesOk (n m p : Int) : Bool := sizeOk n m && !(decide (p < 0) || decide (p > 2016))
theorem timesOk_iff {n m p : Int} : timesOk n m p = true ↔ sizeOk n m = true ∧ 0 ≤ p ∧ p ≤ 2016 := by simp [timesOk]
def placesN (n m : Int) : Int := if sizeOk n m then w64 (n + n * n * (n - 1)) else 0
def timesN (n m p : Int) : Int := if timesOk n m p then w64 (p * chooseS n) else 0
def statesN (n m : Int) : Int := if sizeOk n m then w64 (1 + (n + 1) * (1 + chooseS m)) else 0
def movesOk (n m e : Int) : Bool := sizeOk n m && !(decide (e < 0) || decide (e > n))
theorem movesOk_iff {n m e : Int} : movesOk n m e = true ↔ sizeOk n m = true ∧ 0 ≤ e ∧ e ≤ n := by simp [movesOk]
def movesN (n m e : Int) : Int := if movesOk n m e then w64 (e * (1 + n * m) + (n - e) * (2 * n * m)) else 0
/-- The sum, so far. -/
def movesSum (n m e i : Int) : Int := if i ≤ e then i * (1 + n * m) else e * (1 + n * m) + (i - e) * (2 * n * m)
theorem movesSum_lt {n m e i : Int} (h : i < e) : movesSum n m e (i + 1) = movesSum n m e i + 1 + n * m := by
  unfold movesSum; rw [if_pos (by omega), if_pos (by omega)]; grind
theorem movesSum_ge {n m e i : Int} (h : e ≤ i) : movesSum n m e (i + 1) = movesSum n m e i + 2 * n * m := by
  unfold movesSum
  rw [if_neg (by omega)]
  by_cases h2 : i ≤ e
  · have : i = e := by omega
    subst this; rw [if_pos h2]; grind
  · rw [if_neg h2]; grind
theorem movesSum_all {n m e : Int} (h : e ≤ n) : movesSum n m e n = e * (1 + n * m) + (n - e) * (2 * n * m) := by
  unfold movesSum
  split
  · have : n = e := by omega
    subst this; grind
  · rfl

/-! ### Walks -/
end Go.AX

namespace Go.AX
open Go.Proofs

structure Op5 where
  p : Int
  k : Int
  s : Int
  e : Int
  r : Int
  deriving DecidableEq, Inhabited

def orow (o : Op5) : List PV := [I64 o.p, I64 o.k, I64 o.s, I64 o.e, I64 o.r]
def ovec (ops : List Op5) : PV := .seq false 5 (ops.map orow)

def aheadS (a b : Op5) : Bool := decide (a.e ≥ 0) && decide (a.e < b.s)
theorem ahead_ok (a b : Op5) : APure Try.prog 22 [.agg (orow a), .agg (orow b)] (fun r => r = .pv (BL (aheadS a b))) := by
  refine apure1 hmo Try.func22 (by kernel_rfl) rfl rfl (by kernel_rfl) (Nat.le_of_ble_eq_true rfl) ?_
  simp [orow, aheadS]
theorem refAhead_ok (a b : Op5) : APure Try.prog 72 [.agg (orow a), .agg (orow b)] (fun r => r = .pv (BL (aheadS a b))) := by
  refine apure1 hmo Try.func72 (by kernel_rfl) rfl rfl (by kernel_rfl) (Nat.le_of_ble_eq_true rfl) ?_
  simp [orow, aheadS]

def endedS (o : Op5) : Bool := if o.e = -1 then decide (o.r = -1) else decide (o.e > o.s) && decide (o.e ≤ 9999) && decide (o.r ≥ 0) && decide (o.r ≤ 1000000)
theorem ended_ok (o : Op5) : APure Try.prog 126 [.agg (orow o)] (fun r => r = .pv (BL (endedS o))) := by
  refine apure1 hmo Try.func126 (by kernel_rfl) rfl rfl (by kernel_rfl) (Nat.le_of_ble_eq_true rfl) ?_
  simp [orow, endedS]
  exact ⟨fun h h' => absurd h h', fun h h' => absurd h' h⟩

def aloneS (o : Op5) : Int := if o.p < 1 ∨ o.p > 1000 ∨ o.s < 0 ∨ o.s > 9999 then 2 else if o.k < 0 ∨ o.k ≥ 64 then 31 else if endedS o then 0 else 7
set_option maxRecDepth 4000 in
theorem alone_ok (o : Op5) : APure Try.prog 70 [.agg (orow o)] (fun r => r = .pv (I64 (aloneS o))) := by
  refine apure1 hmo Try.func70 (by kernel_rfl) rfl rfl (by kernel_rfl) (Nat.le_of_ble_eq_true rfl) ?_
  simp [orow]
  refine ⟨fun h => by rw [aloneS, if_pos (by omega)], fun h1 h2 h3 h4 => ⟨fun h => by rw [aloneS, if_neg (by omega), if_pos (by omega)], fun h5 h6 => ?_⟩⟩
  refine CallK.intro (ended_ok o) (by simp) ?_
  simp
  have : aloneS o = if endedS o = true then 0 else 7 := by rw [aloneS, if_neg (by omega), if_neg (by omega)]
  simp [this]

@[simp] theorem belowR_orow (k : Nat) (ops : List Op5) : belowR k (ops.map orow) := by
  rw [belowR_iff]; intro r hr x hx
  obtain ⟨o, _, rfl⟩ := List.mem_map.1 hr
  simp [orow] at hx
  rcases hx with rfl | rfl | rfl | rfl | rfl <;> trivial
@[simp] theorem belowR_ints (k : Nat) (l : List Int) : belowR k (l.map fun i => [I64 i]) := by
  rw [belowR_iff]; intro r hr x hx
  obtain ⟨o, _, rfl⟩ := List.mem_map.1 hr
  simp at hx; subst hx; trivial

def pendTo (ops : List Op5) (n : Nat) : List Int := ((List.range n).filter fun j => decide ((ops.getD j default).e = -1)).map Int.ofNat
theorem pendTo_succ (ops : List Op5) {n : Nat} (h : n < ops.length) : pendTo ops (n + 1) = if ops[n].e = -1 then pendTo ops n ++ [(n : Int)] else pendTo ops n := by
  unfold pendTo
  rw [List.range_succ, List.filter_append, List.map_append]
  simp only [List.filter_cons, List.filter_nil, List.getD_eq_getElem?_getD, List.getElem?_eq_getElem h, Option.getD_some]
  split <;> simp_all
theorem pendTo_length (ops : List Op5) (n : Nat) : (pendTo ops n).length ≤ n := by
  unfold pendTo
  rw [List.length_map]
  exact Nat.le_trans (List.length_filter_le _ _) (by simp)

theorem pending_ok (ops : List Op5) (hl : ops.length ≤ 1000000) : APure Try.prog 68 [ovec ops] (fun r => r = .own true 1 ((pendTo ops ops.length).map fun i => [I64 i])) := by
  refine apure1 hmo Try.func68 (by kernel_rfl) rfl rfl (by kernel_rfl) (Nat.le_of_ble_eq_true rfl) ?_
  simp [ovec]
  refine ALoop.intro (S := fun (i : Nat) => ⟨[(3, .own true 1 ((pendTo ops i).map fun i => [I64 i])), (6, .pv (ovec ops)), (7, .pv (I64 ops.length)), (8, .pv (I64 i))], []⟩) (fun i => i ≤ ops.length) (fun i => ops.length - i) 0 ?_ ?_ ?_
  · exact (Weak.nilOwn (s := 3) 1 true (by simp)).trans (Weak.to (by simp [pendTo, ovec]) rfl (by simp) (by simp [ovec]) (by simp))
  · omega
  · intro i hi
    by_cases h : i < ops.length
    · have hw : w64 ((i : Int) + 1) = ((i + 1 : Nat) : Int) := by rw [w64_id (by omega) (by omega)]; omega
      have hn := pendTo_length ops i
      simp [ovec, h, orow]
      refine ⟨fun h1 => ⟨by omega, i + 1, by dsimp only; omega, by dsimp only; omega, Weak.to ?_ rfl (by simp) (by simp) (by simp)⟩, fun h1 => ⟨i + 1, by dsimp only; omega, by dsimp only; omega, Weak.to ?_ rfl (by simp) (by simp) (by simp)⟩⟩
      · simp [pendTo_succ ops h, h1, hw]
      · simp [pendTo_succ ops h, h1, hw]
    · simp [h]
      have : i = ops.length := by omega
      rw [this]

/-! ### Pairs -/
def prow (p : Int × Int) : List PV := [I64 p.1, I64 p.2]
@[simp] theorem belowR_prow (k : Nat) (l : List (Int × Int)) : belowR k (l.map prow) := by
  rw [belowR_iff]; intro r hr x hx
  obtain ⟨o, _, rfl⟩ := List.mem_map.1 hr
  simp [prow] at hx; rcases hx with rfl | rfl <;> trivial
def pairsRow (ops : List Op5) (i j : Nat) : List (Int × Int) := ((List.range j).filter fun b => aheadS (ops.getD i default) (ops.getD b default)).map fun (b : Nat) => ((i : Int), (b : Int))
def pairsTo (ops : List Op5) (i : Nat) : List (Int × Int) := (List.range i).flatMap fun a => pairsRow ops a ops.length
theorem pairsRow_succ (ops : List Op5) (i : Nat) {j : Nat} (hi : i < ops.length) (h : j < ops.length) : pairsRow ops i (j + 1) = if aheadS ops[i] ops[j] = true then pairsRow ops i j ++ [((i : Int), (j : Int))] else pairsRow ops i j := by
  unfold pairsRow
  rw [List.range_succ, List.filter_append, List.map_append]
  simp only [List.filter_cons, List.filter_nil, List.getD_eq_getElem?_getD, List.getElem?_eq_getElem h, List.getElem?_eq_getElem hi, Option.getD_some]
  split <;> simp_all
theorem pairsTo_succ (ops : List Op5) (i : Nat) : pairsTo ops (i + 1) = pairsTo ops i ++ pairsRow ops i ops.length := by
  unfold pairsTo
  rw [List.range_succ, List.flatMap_append]; simp
theorem pairsRow_length (ops : List Op5) (i j : Nat) : (pairsRow ops i j).length ≤ j := by
  unfold pairsRow
  rw [List.length_map]
  exact Nat.le_trans (List.length_filter_le _ _) (by simp)
theorem pairsTo_length (ops : List Op5) : ∀ i, (pairsTo ops i).length ≤ i * ops.length
  | 0 => by simp [pairsTo]
  | i + 1 => by
    rw [pairsTo_succ, List.length_append, Nat.succ_mul]
    have := pairsTo_length ops i
    have := pairsRow_length ops i ops.length
    omega

theorem pairs_ok (ops : List Op5) (hl : ops.length ≤ 1000000) : APure Try.prog 69 [ovec ops] (fun r => r = .own true 2 ((pairsTo ops ops.length).map prow)) := by
  refine apure1 hmo Try.func69 (by kernel_rfl) rfl rfl (by kernel_rfl) (Nat.le_of_ble_eq_true rfl) ?_
  simp [ovec]
  refine ALoop.intro (S := fun (i : Nat) => ⟨[(3, .own true 2 ((pairsTo ops i).map prow)), (8, .pv (ovec ops)), (9, .pv (I64 ops.length)), (10, .pv (I64 i)), (0, .pv (ovec ops))], []⟩) (fun i => i ≤ ops.length) (fun i => ops.length - i) 0 ?_ ?_ ?_
  · exact (Weak.nilOwn (s := 3) 2 true (by simp)).trans (Weak.to (by simp [pairsTo, ovec]) rfl (by simp) (by simp [ovec]) (by simp))
  · omega
  · intro i hi
    by_cases h : i < ops.length
    · have hw : w64 ((i : Int) + 1) = ((i + 1 : Nat) : Int) := by rw [w64_id (by omega) (by omega)]; omega
      have hn := pairsTo_length ops i
      have hn2 : i * ops.length ≤ 1000000 * 1000000 := Nat.mul_le_mul (by omega) hl
      simp [ovec, h, orow]
      refine ALoop.intro (S := fun (j : Nat) => ⟨[(3, .own true 2 ((pairsTo ops i ++ pairsRow ops i j).map prow)), (15, .pv (ovec ops)), (16, .pv (I64 ops.length)), (17, .pv (I64 j)), (4, .pv (I64 i)), (5, .pv (.ptr 0 0)), (8, .pv (ovec ops)), (9, .pv (I64 ops.length)), (10, .pv (I64 i)), (0, .pv (ovec ops))], [(orow ops[i]).map .pv]⟩) (fun j => j ≤ ops.length) (fun j => ops.length - j) 0 ?_ ?_ ?_
      · exact Weak.to (by simp [pairsRow, ovec]) (by simp [orow]) (by simp) (by simp [ovec]) (by simp [orow])
      · omega
      · intro j hj
        by_cases h2 : j < ops.length
        · have hw2 : w64 ((j : Int) + 1) = ((j + 1 : Nat) : Int) := by rw [w64_id (by omega) (by omega)]; omega
          have hm := pairsRow_length ops i j
          simp [ovec, h2, orow]
          refine CallK.intro (ahead_ok ops[i] ops[j]) (by simp) ?_
          simp
          refine ⟨fun h3 => ⟨by omega, j + 1, by dsimp only; omega, by dsimp only; omega, Weak.to ?_ (by simp [orow]) (by simp) (by simp [ovec]) (by simp [orow])⟩, fun h3 => ⟨j + 1, by dsimp only; omega, by dsimp only; omega, Weak.to ?_ (by simp [orow]) (by simp) (by simp [ovec]) (by simp [orow])⟩⟩
          · simp [pairsRow_succ ops i h h2, h3, hw2, ovec, prow]
          · simp [pairsRow_succ ops i h h2, h3, hw2, ovec]
        · simp [h2]
          have : j = ops.length := by omega
          refine ⟨i + 1, by dsimp only; omega, by dsimp only; omega, Weak.to ?_ rfl (by simp) (by simp [ovec]) (by simp)⟩
          simp [pairsTo_succ, this, hw, ovec]
    · simp [h]
      have : i = ops.length := by omega
      rw [this]

end Go.AX

namespace Go.AX
open Go.Proofs

/-! ### Plain laws -/
def meetsS (a b : Op5) : Bool := decide (a.s = b.s) || decide (a.e = b.s) || decide (a.s = b.e) || (decide (a.e = b.e) && !decide (a.e = -1))
def badS (a o : Op5) : Bool := decide (o.s ≤ a.s) || meetsS a o
def openS (a o : Op5) : Bool := decide (a.p = o.p) && !aheadS a o
def stepE (pre : List Op5) (o : Op5) : Int := if aloneS o ≠ 0 then aloneS o else if pre.any (fun a => badS a o) = true then 32 else if pre.any (fun a => openS a o) = true then 33 else 0
def errAt (ops : List Op5) (i : Nat) : Int := stepE (ops.take i) (ops.getD i default)
def okTo (ops : List Op5) (i : Nat) : Prop := ∀ j, j < i → errAt ops j = 0
def chk (ops : List Op5) : Int × Int :=
  if ops.length > 5000 then (0, 3) else match (List.range ops.length).find? (fun i => decide (errAt ops i ≠ 0)) with
  | some i => ((i : Int), errAt ops i)
  | none => ((ops.length : Int), 0)
theorem chk_big {ops : List Op5} (h : ops.length > 5000) : chk ops = (0, 3) := by unfold chk; rw [if_pos h]
theorem chk_bad {ops : List Op5} (h : ops.length ≤ 5000) {i : Nat} (hi : i < ops.length) (ho : okTo ops i) (he : errAt ops i ≠ 0) : chk ops = ((i : Int), errAt ops i) := by
  unfold chk
  rw [if_neg (by omega)]
  have : (List.range ops.length).find? (fun i => decide (errAt ops i ≠ 0)) = some i := by
    rw [List.find?_range_eq_some]
    refine ⟨by simpa using he, by simpa using hi, fun j hj => by simpa using ho j hj⟩
  rw [this]
theorem chk_ok {ops : List Op5} (h : ops.length ≤ 5000) (ho : okTo ops ops.length) : chk ops = ((ops.length : Int), 0) := by
  unfold chk
  rw [if_neg (by omega)]
  have : (List.range ops.length).find? (fun i => decide (errAt ops i ≠ 0)) = none := by
    rw [List.find?_range_eq_none]
    intro j hj; simpa using ho j hj
  rw [this]
theorem okTo_succ {ops : List Op5} {i : Nat} (h : okTo ops i) (he : errAt ops i = 0) : okTo ops (i + 1) := fun j hj => by
  rcases Nat.lt_or_ge j i with h1 | h1
  · exact h j h1
  · have : j = i := by omega
    subst this; exact he
theorem errAt_eq {ops : List Op5} {i : Nat} (h : i < ops.length) : errAt ops i = stepE (ops.take i) ops[i] := by
  unfold errAt; simp [h]
theorem chk_alone {ops : List Op5} {i : Nat} (h : ops.length ≤ 5000) (hi : i < ops.length) (ho : okTo ops i) {n : Int} (hn : aloneS ops[i] = n) (h0 : n ≠ 0) : chk ops = ((i : Int), n) := by
  have he : errAt ops i = n := by rw [errAt_eq hi, stepE, if_pos (by rw [hn]; exact h0), hn]
  rw [chk_bad h hi ho (by rw [he]; exact h0), he]
theorem chk_order {ops : List Op5} {i : Nat} (h : ops.length ≤ 5000) (hi : i < ops.length) (ho : okTo ops i) (hn : aloneS ops[i] = 0) (hb : (ops.take i).any (fun a => badS a ops[i]) = true) : chk ops = ((i : Int), 32) := by
  have he : errAt ops i = 32 := by rw [errAt_eq hi, stepE, if_neg (by simp [hn]), if_pos hb]
  rw [chk_bad h hi ho (by rw [he]; decide), he]
theorem chk_open {ops : List Op5} {i : Nat} (h : ops.length ≤ 5000) (hi : i < ops.length) (ho : okTo ops i) (hn : aloneS ops[i] = 0) (hb : (ops.take i).any (fun a => badS a ops[i]) = false) (hc : (ops.take i).any (fun a => openS a ops[i]) = true) : chk ops = ((i : Int), 33) := by
  have he : errAt ops i = 33 := by rw [errAt_eq hi, stepE, if_neg (by simp [hn]), if_neg (by simp [hb]), if_pos hc]
  rw [chk_bad h hi ho (by rw [he]; decide), he]
theorem errAt_zero {ops : List Op5} {i : Nat} (hi : i < ops.length) (hn : aloneS ops[i] = 0) (hb : (ops.take i).any (fun a => badS a ops[i]) = false) (hc : (ops.take i).any (fun a => openS a ops[i]) = false) : errAt ops i = 0 := by
  rw [errAt_eq hi, stepE, if_neg (by simp [hn]), if_neg (by simp [hb]), if_neg (by simp [hc])]
theorem any_take_true {ops : List Op5} {i k : Nat} (f : Op5 → Bool) (hi : i ≤ ops.length) (hk : k < i) (h : f (ops[k]'(by omega)) = true) : (ops.take i).any f = true := by
  rw [List.any_eq_true]
  exact ⟨_, List.mem_take_iff_getElem.2 ⟨k, by omega, rfl⟩, h⟩
theorem any_take_succ {ops : List Op5} {k : Nat} (f : Op5 → Bool) (h : k < ops.length) : (ops.take (k + 1)).any f = ((ops.take k).any f || f ops[k]) := by
  rw [List.take_succ_eq_append_getElem h, List.any_append]; simp
theorem any_take_false {ops : List Op5} {k : Nat} (f : Op5 → Bool) (hk : k ≤ ops.length) (h : ∀ j (hj : j < k), f (ops[j]'(by omega)) = false) : (ops.take k).any f = false := by
  rw [List.any_eq_false]
  intro x hx
  obtain ⟨j, hj, rfl⟩ := List.mem_take_iff_getElem.1 hx
  have := h j (by omega)
  simp [this]

/-! ### The document's answer -/
set_option maxRecDepth 4000 in
theorem meets_ok (a b : Op5) : APure Try.prog 71 [.agg (orow a), .agg (orow b)] (fun r => r = .pv (BL (meetsS a b))) := by
  refine apure1 hmo Try.func71 (by kernel_rfl) rfl rfl (by kernel_rfl) (Nat.le_of_ble_eq_true rfl) ?_
  simp [orow, meetsS]
  grind

/-- Is one of the first k still open? -/
def openTo (ops : List Op5) (k : Nat) (o : Op5) : Bool := (ops.take k).any fun a => openS a o
theorem openTo_succ {ops : List Op5} {k : Nat} (h : k < ops.length) (o : Op5) : openTo ops (k + 1) o = (openTo ops k o || openS ops[k] o) := any_take_succ _ h

set_option maxRecDepth 8000 in
set_option maxHeartbeats 1000000 in
theorem refChk_ok (ops : List Op5) (hl : ops.length ≤ 140737488355328) : APure Try.prog 19 [ovec ops] (fun r => r = .pv (.tup [I64 (chk ops).1, I64 (chk ops).2])) := by
  refine apureN [2, 3] hmo Try.func19 (by kernel_rfl) rfl (fun _ _ => results_tmp2 rfl _ _ _) (by kernel_rfl) (Nat.le_of_ble_eq_true rfl) ?_
  simp [ovec]
  refine ⟨fun h => by rw [chk_big (by omega)]; exact ⟨rfl, rfl⟩, fun h => ?_⟩
  refine ALoop.intro (S := fun (i : Nat) => ⟨[(0, .pv (ovec ops)), (4, .pv (I64 i))], []⟩) (fun i => i ≤ ops.length ∧ okTo ops i) (fun i => ops.length - i) 0 ?_ ?_ ?_
  · exact Weak.to (by simp [ovec]) rfl (by simp) (by simp [ovec]) (by simp)
  · exact ⟨by omega, fun j hj => by omega⟩
  · intro i ⟨hi, hok⟩
    by_cases hlt : i < ops.length
    · have hw : w64 ((i : Int) + 1) = ((i + 1 : Nat) : Int) := by rw [w64_id (by omega) (by omega)]; omega
      simp [ovec, hlt, orow]
      refine ⟨fun hc => ?_, fun a1 a2 a3 a4 => ⟨fun hc => ?_, fun a5 a6 => ⟨by grind, by grind, by grind, by grind, fun hc => ?_, fun a7 a8 => ?_⟩⟩⟩
      · rw [chk_alone (by omega) hlt hok (n := 2) (by rw [aloneS, if_pos (by omega)]) (by decide)]; exact ⟨rfl, rfl⟩
      · rw [chk_alone (by omega) hlt hok (n := 31) (by rw [aloneS, if_neg (by omega), if_pos (by omega)]) (by decide)]; exact ⟨rfl, rfl⟩
      · rw [chk_alone (by omega) hlt hok (n := 7) (by rw [aloneS, if_neg (by omega), if_neg (by omega), if_neg (by simp only [endedS]; split <;> simp <;> omega)]) (by decide)]; exact ⟨rfl, rfl⟩
      have hal : aloneS ops[i] = 0 := by rw [aloneS, if_neg (by omega), if_neg (by omega), if_pos (by simp only [endedS]; split <;> simp <;> omega)]
      refine ALoop.intro (S := fun (k : Nat) => ⟨[(0, .pv (ovec ops)), (4, .pv (I64 i)), (5, .pv (.ptr 0 0)), (6, .pv (BL (openTo ops k ops[i]))), (7, .pv (I64 k))], [(orow ops[i]).map .pv]⟩) (fun k => k ≤ i ∧ (ops.take k).any (fun a => badS a ops[i]) = false) (fun k => i - k) 0 ?_ ?_ ?_
      · exact Weak.to (by simp [ovec, openTo]) (by simp [orow]) (by simp) (by simp [ovec]) (by simp [orow])
      · exact ⟨by omega, by simp⟩
      · intro k ⟨hk, hbad⟩
        by_cases hk2 : k < i
        · have hk3 : k < ops.length := by omega
          have hw2 : w64 ((k : Int) + 1) = ((k + 1 : Nat) : Int) := by rw [w64_id (by omega) (by omega)]; omega
          simp [ovec, hk2, hk3, orow]
          refine CallQ.intro (r := .pv (BL (meetsS ops[k] ops[i]))) (fun _ => meets_ok ops[k] ops[i]) (by simp) ?_
          simp
          refine ⟨fun hc => ?_, fun b1 b2 => ?_⟩
          · rw [chk_order (by omega) hlt hok hal (any_take_true _ hi hk2 (by simp [badS]; exact hc))]; exact ⟨rfl, rfl⟩
          have hb : badS ops[k] ops[i] = false := by simp [badS]; exact ⟨b1, b2⟩
          simp [hk3, orow]
          refine ⟨fun g1 g2 => ⟨g1, g2⟩, CallQ.intro (r := .pv (BL (aheadS ops[k] ops[i]))) (fun _ => refAhead_ok ops[k] ops[i]) (by simp) ?_⟩
          simp
          have h9 : (ops.take (k + 1)).any (fun a => badS a ops[i]) = false := by rw [any_take_succ _ hk3, hbad, hb]; rfl
          refine ⟨fun g1 => ⟨g1, fun g2 => ⟨g1, g2⟩⟩, k + 1, by dsimp only; omega, ⟨by omega, by simpa using h9⟩, Weak.to ?_ (by simp [orow]) (by simp) (by simp) (by simp)⟩
          simp [openTo_succ hk3, openS, hw2, ovec]
        · simp [hk2]
          have : k = i := by omega
          subst this
          refine ⟨fun hc => by rw [chk_open (by omega) hlt hok hal hbad hc]; exact ⟨rfl, rfl⟩, fun hc => ⟨k + 1, by dsimp only; omega, ⟨by omega, okTo_succ hok (errAt_zero hlt hal hbad hc)⟩, Weak.to ?_ rfl (by simp) (by simp) (by simp)⟩⟩
          simp [hw, ovec]
    · simp [ovec, hlt]
      have : i = ops.length := by omega
      subst this
      rw [chk_ok (by omega) hok]; simp

end Go.AX
