/-
  Facts on the types of the seat's program (written by facts.py).
-/
import Derived.Test.YthlemmecamlkaaaAxX
import Derived.Test.YthlemmecamlkaaaRows
namespace Go.AX
open Go.Proofs

@[simp] theorem ld_0 : ldInfo Try.prog 0 = some (false, 1) := by kernel_rfl
@[simp] theorem tk_1 : tk Try.prog 1 = .func := by kernel_rfl
@[simp] theorem ld_1 : ldInfo Try.prog 1 = some (false, 1) := by kernel_rfl
@[simp] theorem tk_2 : tk Try.prog 2 = .int := by kernel_rfl
@[simp] theorem ld_2 : ldInfo Try.prog 2 = some (false, 1) := by kernel_rfl
@[simp] theorem cv_2 : cvtK Try.prog 2 = some .i64 := by kernel_rfl
@[simp] theorem z_2 : zeroL Try.prog 2 = some [.lit (.int .i64 0)] := by kernel_rfl
@[simp] theorem tk_3 : tk Try.prog 3 = .int := by kernel_rfl
@[simp] theorem ld_3 : ldInfo Try.prog 3 = some (false, 1) := by kernel_rfl
@[simp] theorem cv_3 : cvtK Try.prog 3 = some .i64 := by kernel_rfl
@[simp] theorem z_3 : zeroL Try.prog 3 = some [.lit (.int .i64 0)] := by kernel_rfl
@[simp] theorem tk_4 : tk Try.prog 4 = .bool := by kernel_rfl
@[simp] theorem ld_4 : ldInfo Try.prog 4 = some (false, 1) := by kernel_rfl
@[simp] theorem z_4 : zeroL Try.prog 4 = some [.lit (.bool false)] := by kernel_rfl
@[simp] theorem tk_5 : tk Try.prog 5 = .int := by kernel_rfl
@[simp] theorem ld_5 : ldInfo Try.prog 5 = some (false, 1) := by kernel_rfl
@[simp] theorem cv_5 : cvtK Try.prog 5 = some .u8 := by kernel_rfl
@[simp] theorem z_5 : zeroL Try.prog 5 = some [.lit (.int .u8 0)] := by kernel_rfl
@[simp] theorem tk_6 : tk Try.prog 6 = .int := by kernel_rfl
@[simp] theorem ld_6 : ldInfo Try.prog 6 = some (false, 1) := by kernel_rfl
@[simp] theorem cv_6 : cvtK Try.prog 6 = some .u8 := by kernel_rfl
@[simp] theorem z_6 : zeroL Try.prog 6 = some [.lit (.int .u8 0)] := by kernel_rfl
@[simp] theorem ld_7 : ldInfo Try.prog 7 = some (true, 4) := by kernel_rfl
@[simp] theorem z_7 : zeroL Try.prog 7 = some [.lit (.int .i64 0), .lit (.int .i64 0), .lit (.bool false), .lit (.int .u8 0)] := by kernel_rfl
@[simp] theorem zv_7 : zeroV Try.prog 7 = some [.lit (.int .i64 0), .lit (.int .i64 0), .lit (.bool false), .lit (.int .u8 0)] := by kernel_rfl
@[simp] theorem bi_7 : bInfo Try.prog 7 = some [(0, 1), (1, 1), (2, 1), (3, 1)] := by kernel_rfl
@[simp] theorem ld_8 : ldInfo Try.prog 8 = some (true, 4) := by kernel_rfl
@[simp] theorem z_8 : zeroL Try.prog 8 = some [.lit (.int .i64 0), .lit (.int .i64 0), .lit (.bool false), .lit (.int .u8 0)] := by kernel_rfl
@[simp] theorem zv_8 : zeroV Try.prog 8 = some [.lit (.int .i64 0), .lit (.int .i64 0), .lit (.bool false), .lit (.int .u8 0)] := by kernel_rfl
@[simp] theorem bi_8 : bInfo Try.prog 8 = some [(0, 1), (1, 1), (2, 1), (3, 1)] := by kernel_rfl
@[simp] theorem tk_9 : tk Try.prog 9 = .string := by kernel_rfl
@[simp] theorem ld_9 : ldInfo Try.prog 9 = some (false, 1) := by kernel_rfl
@[simp] theorem z_9 : zeroL Try.prog 9 = some [.lit (.string ByteArray.empty)] := by kernel_rfl
@[simp] theorem tk_10 : tk Try.prog 10 = .string := by kernel_rfl
@[simp] theorem ld_10 : ldInfo Try.prog 10 = some (false, 1) := by kernel_rfl
@[simp] theorem z_10 : zeroL Try.prog 10 = some [.lit (.string ByteArray.empty)] := by kernel_rfl
@[simp] theorem tk_11 : tk Try.prog 11 = .string := by kernel_rfl
@[simp] theorem ld_11 : ldInfo Try.prog 11 = some (false, 1) := by kernel_rfl
@[simp] theorem z_11 : zeroL Try.prog 11 = some [.lit (.string ByteArray.empty)] := by kernel_rfl
@[simp] theorem tk_12 : tk Try.prog 12 = .int := by kernel_rfl
@[simp] theorem ld_12 : ldInfo Try.prog 12 = some (false, 1) := by kernel_rfl
@[simp] theorem cv_12 : cvtK Try.prog 12 = some .u64 := by kernel_rfl
@[simp] theorem z_12 : zeroL Try.prog 12 = some [.lit (.int .u64 0)] := by kernel_rfl
@[simp] theorem ld_13 : ldInfo Try.prog 13 = some (true, 2) := by kernel_rfl
@[simp] theorem z_13 : zeroL Try.prog 13 = some [.lit (.string ByteArray.empty), .lit (.int .u64 0)] := by kernel_rfl
@[simp] theorem zv_13 : zeroV Try.prog 13 = some [.lit (.string ByteArray.empty), .lit (.int .u64 0)] := by kernel_rfl
@[simp] theorem bi_13 : bInfo Try.prog 13 = some [(0, 1), (1, 1)] := by kernel_rfl
@[simp] theorem ld_14 : ldInfo Try.prog 14 = some (true, 2) := by kernel_rfl
@[simp] theorem z_14 : zeroL Try.prog 14 = some [.lit (.string ByteArray.empty), .lit (.int .u64 0)] := by kernel_rfl
@[simp] theorem zv_14 : zeroV Try.prog 14 = some [.lit (.string ByteArray.empty), .lit (.int .u64 0)] := by kernel_rfl
@[simp] theorem bi_14 : bInfo Try.prog 14 = some [(0, 1), (1, 1)] := by kernel_rfl
@[simp] theorem tk_15 : tk Try.prog 15 = .ptr := by kernel_rfl
@[simp] theorem ld_15 : ldInfo Try.prog 15 = some (false, 1) := by kernel_rfl
@[simp] theorem z_15 : zeroL Try.prog 15 = some [.lit (.pointer none)] := by kernel_rfl
@[simp] theorem tk_16 : tk Try.prog 16 = .ptr := by kernel_rfl
@[simp] theorem ld_16 : ldInfo Try.prog 16 = some (false, 1) := by kernel_rfl
@[simp] theorem z_16 : zeroL Try.prog 16 = some [.lit (.pointer none)] := by kernel_rfl
@[simp] theorem tk_17 : tk Try.prog 17 = .ptr := by kernel_rfl
@[simp] theorem ld_17 : ldInfo Try.prog 17 = some (false, 1) := by kernel_rfl
@[simp] theorem z_17 : zeroL Try.prog 17 = some [.lit (.pointer none)] := by kernel_rfl
@[simp] theorem ld_18 : ldInfo Try.prog 18 = some (true, 1) := by kernel_rfl
@[simp] theorem z_18 : zeroL Try.prog 18 = some [.lit (.pointer none)] := by kernel_rfl
@[simp] theorem zv_18 : zeroV Try.prog 18 = some [.lit (.pointer none)] := by kernel_rfl
@[simp] theorem bi_18 : bInfo Try.prog 18 = some [(0, 1)] := by kernel_rfl
@[simp] theorem ld_19 : ldInfo Try.prog 19 = some (true, 1) := by kernel_rfl
@[simp] theorem z_19 : zeroL Try.prog 19 = some [.lit (.pointer none)] := by kernel_rfl
@[simp] theorem zv_19 : zeroV Try.prog 19 = some [.lit (.pointer none)] := by kernel_rfl
@[simp] theorem bi_19 : bInfo Try.prog 19 = some [(0, 1)] := by kernel_rfl
@[simp] theorem ld_20 : ldInfo Try.prog 20 = some (false, 1) := by kernel_rfl
@[simp] theorem tk_21 : tk Try.prog 21 = .int := by kernel_rfl
@[simp] theorem ld_21 : ldInfo Try.prog 21 = some (false, 1) := by kernel_rfl
@[simp] theorem cv_21 : cvtK Try.prog 21 = some .i32 := by kernel_rfl
@[simp] theorem z_21 : zeroL Try.prog 21 = some [.lit (.int .i32 0)] := by kernel_rfl
@[simp] theorem tk_22 : tk Try.prog 22 = .flat 2 := by kernel_rfl
@[simp] theorem ld_22 : ldInfo Try.prog 22 = some (true, 2) := by kernel_rfl
@[simp] theorem z_22 : zeroL Try.prog 22 = some [.lit (.int .i64 0), .lit (.int .i64 0)] := by kernel_rfl
@[simp] theorem zv_22 : zeroV Try.prog 22 = some [.lit (.int .i64 0), .lit (.int .i64 0)] := by kernel_rfl
@[simp] theorem bi_22 : bInfo Try.prog 22 = some [(0, 1), (1, 1)] := by kernel_rfl
@[simp] theorem tk_23 : tk Try.prog 23 = .flat 2 := by kernel_rfl
@[simp] theorem ld_23 : ldInfo Try.prog 23 = some (true, 2) := by kernel_rfl
@[simp] theorem z_23 : zeroL Try.prog 23 = some [.lit (.int .i64 0), .lit (.int .i64 0)] := by kernel_rfl
@[simp] theorem zv_23 : zeroV Try.prog 23 = some [.lit (.int .i64 0), .lit (.int .i64 0)] := by kernel_rfl
@[simp] theorem bi_23 : bInfo Try.prog 23 = some [(0, 1), (1, 1)] := by kernel_rfl
@[simp] theorem tk_24 : tk Try.prog 24 = .func := by kernel_rfl
@[simp] theorem ld_24 : ldInfo Try.prog 24 = some (false, 1) := by kernel_rfl
@[simp] theorem tk_25 : tk Try.prog 25 = .func := by kernel_rfl
@[simp] theorem ld_25 : ldInfo Try.prog 25 = some (false, 1) := by kernel_rfl
@[simp] theorem tk_26 : tk Try.prog 26 = .func := by kernel_rfl
@[simp] theorem ld_26 : ldInfo Try.prog 26 = some (false, 1) := by kernel_rfl
@[simp] theorem tk_27 : tk Try.prog 27 = .func := by kernel_rfl
@[simp] theorem ld_27 : ldInfo Try.prog 27 = some (false, 1) := by kernel_rfl
@[simp] theorem tk_28 : tk Try.prog 28 = .func := by kernel_rfl
@[simp] theorem ld_28 : ldInfo Try.prog 28 = some (false, 1) := by kernel_rfl
@[simp] theorem tk_29 : tk Try.prog 29 = .func := by kernel_rfl
@[simp] theorem ld_29 : ldInfo Try.prog 29 = some (false, 1) := by kernel_rfl
@[simp] theorem tk_30 : tk Try.prog 30 = .slice := by kernel_rfl
@[simp] theorem ld_30 : ldInfo Try.prog 30 = some (false, 1) := by kernel_rfl
@[simp] theorem sl_30 : slSize Try.prog 30 = some 5 := by kernel_rfl
@[simp] theorem si_30 : slInfo Try.prog 30 = some (5, 40) := by kernel_rfl
@[simp] theorem z_30 : zeroL Try.prog 30 = some [.lit (.slice none 0 0)] := by kernel_rfl
@[simp] theorem sz_30 : slZero Try.prog 30 = some [.lit (.int .i64 0), .lit (.int .i64 0), .lit (.int .i64 0), .lit (.int .i64 0), .lit (.int .i64 0)] := by kernel_rfl
@[simp] theorem tk_31 : tk Try.prog 31 = .func := by kernel_rfl
@[simp] theorem ld_31 : ldInfo Try.prog 31 = some (false, 1) := by kernel_rfl
@[simp] theorem tk_32 : tk Try.prog 32 = .func := by kernel_rfl
@[simp] theorem ld_32 : ldInfo Try.prog 32 = some (false, 1) := by kernel_rfl
@[simp] theorem tk_33 : tk Try.prog 33 = .int := by kernel_rfl
@[simp] theorem ld_33 : ldInfo Try.prog 33 = some (false, 1) := by kernel_rfl
@[simp] theorem cv_33 : cvtK Try.prog 33 = some .i64 := by kernel_rfl
@[simp] theorem z_33 : zeroL Try.prog 33 = some [.lit (.int .i64 0)] := by kernel_rfl
@[simp] theorem tk_34 : tk Try.prog 34 = .func := by kernel_rfl
@[simp] theorem ld_34 : ldInfo Try.prog 34 = some (false, 1) := by kernel_rfl
@[simp] theorem tk_35 : tk Try.prog 35 = .func := by kernel_rfl
@[simp] theorem ld_35 : ldInfo Try.prog 35 = some (false, 1) := by kernel_rfl
@[simp] theorem tk_36 : tk Try.prog 36 = .slice := by kernel_rfl
@[simp] theorem ld_36 : ldInfo Try.prog 36 = some (false, 1) := by kernel_rfl
@[simp] theorem sl_36 : slSize Try.prog 36 = some 4 := by kernel_rfl
@[simp] theorem si_36 : slInfo Try.prog 36 = some (4, 32) := by kernel_rfl
@[simp] theorem z_36 : zeroL Try.prog 36 = some [.lit (.slice none 0 0)] := by kernel_rfl
@[simp] theorem sz_36 : slZero Try.prog 36 = some [.lit (.int .i64 0), .lit (.int .i64 0), .lit (.int .i64 0), .lit (.int .i64 0)] := by kernel_rfl
@[simp] theorem ld_37 : ldInfo Try.prog 37 = some (true, 4) := by kernel_rfl
@[simp] theorem z_37 : zeroL Try.prog 37 = some [.lit (.int .i64 0), .lit (.int .i64 0), .lit (.int .i64 0), .lit (.slice none 0 0)] := by kernel_rfl
@[simp] theorem zv_37 : zeroV Try.prog 37 = some [.lit (.int .i64 0), .lit (.int .i64 0), .lit (.int .i64 0), .lit (.slice none 0 0)] := by kernel_rfl
@[simp] theorem bi_37 : bInfo Try.prog 37 = some [(0, 1), (1, 1), (2, 1), (3, 1)] := by kernel_rfl
@[simp] theorem ld_38 : ldInfo Try.prog 38 = some (true, 4) := by kernel_rfl
@[simp] theorem z_38 : zeroL Try.prog 38 = some [.lit (.int .i64 0), .lit (.int .i64 0), .lit (.int .i64 0), .lit (.slice none 0 0)] := by kernel_rfl
@[simp] theorem zv_38 : zeroV Try.prog 38 = some [.lit (.int .i64 0), .lit (.int .i64 0), .lit (.int .i64 0), .lit (.slice none 0 0)] := by kernel_rfl
@[simp] theorem bi_38 : bInfo Try.prog 38 = some [(0, 1), (1, 1), (2, 1), (3, 1)] := by kernel_rfl
@[simp] theorem tk_39 : tk Try.prog 39 = .func := by kernel_rfl
@[simp] theorem ld_39 : ldInfo Try.prog 39 = some (false, 1) := by kernel_rfl
@[simp] theorem tk_40 : tk Try.prog 40 = .func := by kernel_rfl
@[simp] theorem ld_40 : ldInfo Try.prog 40 = some (false, 1) := by kernel_rfl
@[simp] theorem tk_41 : tk Try.prog 41 = .slice := by kernel_rfl
@[simp] theorem ld_41 : ldInfo Try.prog 41 = some (false, 1) := by kernel_rfl
@[simp] theorem sl_41 : slSize Try.prog 41 = some 1 := by kernel_rfl
@[simp] theorem si_41 : slInfo Try.prog 41 = some (1, 24) := by kernel_rfl
@[simp] theorem z_41 : zeroL Try.prog 41 = some [.lit (.slice none 0 0)] := by kernel_rfl
@[simp] theorem sz_41 : slZero Try.prog 41 = some [.lit (.slice none 0 0)] := by kernel_rfl
@[simp] theorem tk_42 : tk Try.prog 42 = .func := by kernel_rfl
@[simp] theorem ld_42 : ldInfo Try.prog 42 = some (false, 1) := by kernel_rfl
@[simp] theorem tk_43 : tk Try.prog 43 = .func := by kernel_rfl
@[simp] theorem ld_43 : ldInfo Try.prog 43 = some (false, 1) := by kernel_rfl
@[simp] theorem tk_44 : tk Try.prog 44 = .slice := by kernel_rfl
@[simp] theorem ld_44 : ldInfo Try.prog 44 = some (false, 1) := by kernel_rfl
@[simp] theorem sl_44 : slSize Try.prog 44 = some 2 := by kernel_rfl
@[simp] theorem si_44 : slInfo Try.prog 44 = some (2, 16) := by kernel_rfl
@[simp] theorem z_44 : zeroL Try.prog 44 = some [.lit (.slice none 0 0)] := by kernel_rfl
@[simp] theorem sz_44 : slZero Try.prog 44 = some [.lit (.int .i64 0), .lit (.int .i64 0)] := by kernel_rfl
@[simp] theorem tk_45 : tk Try.prog 45 = .func := by kernel_rfl
@[simp] theorem ld_45 : ldInfo Try.prog 45 = some (false, 1) := by kernel_rfl
@[simp] theorem tk_46 : tk Try.prog 46 = .func := by kernel_rfl
@[simp] theorem ld_46 : ldInfo Try.prog 46 = some (false, 1) := by kernel_rfl
@[simp] theorem tk_47 : tk Try.prog 47 = .func := by kernel_rfl
@[simp] theorem ld_47 : ldInfo Try.prog 47 = some (false, 1) := by kernel_rfl
@[simp] theorem tk_48 : tk Try.prog 48 = .func := by kernel_rfl
@[simp] theorem ld_48 : ldInfo Try.prog 48 = some (false, 1) := by kernel_rfl
@[simp] theorem tk_49 : tk Try.prog 49 = .func := by kernel_rfl
@[simp] theorem ld_49 : ldInfo Try.prog 49 = some (false, 1) := by kernel_rfl
@[simp] theorem tk_50 : tk Try.prog 50 = .func := by kernel_rfl
@[simp] theorem ld_50 : ldInfo Try.prog 50 = some (false, 1) := by kernel_rfl
@[simp] theorem tk_51 : tk Try.prog 51 = .func := by kernel_rfl
@[simp] theorem ld_51 : ldInfo Try.prog 51 = some (false, 1) := by kernel_rfl
@[simp] theorem tk_52 : tk Try.prog 52 = .flat 5 := by kernel_rfl
@[simp] theorem ld_52 : ldInfo Try.prog 52 = some (true, 5) := by kernel_rfl
@[simp] theorem z_52 : zeroL Try.prog 52 = some [.lit (.int .i64 0), .lit (.int .i64 0), .lit (.int .i64 0), .lit (.int .i64 0), .lit (.int .i64 0)] := by kernel_rfl
@[simp] theorem zv_52 : zeroV Try.prog 52 = some [.lit (.int .i64 0), .lit (.int .i64 0), .lit (.int .i64 0), .lit (.int .i64 0), .lit (.int .i64 0)] := by kernel_rfl
@[simp] theorem bi_52 : bInfo Try.prog 52 = some [(0, 1), (1, 1), (2, 1), (3, 1), (4, 1)] := by kernel_rfl
@[simp] theorem tk_53 : tk Try.prog 53 = .flat 5 := by kernel_rfl
@[simp] theorem ld_53 : ldInfo Try.prog 53 = some (true, 5) := by kernel_rfl
@[simp] theorem z_53 : zeroL Try.prog 53 = some [.lit (.int .i64 0), .lit (.int .i64 0), .lit (.int .i64 0), .lit (.int .i64 0), .lit (.int .i64 0)] := by kernel_rfl
@[simp] theorem zv_53 : zeroV Try.prog 53 = some [.lit (.int .i64 0), .lit (.int .i64 0), .lit (.int .i64 0), .lit (.int .i64 0), .lit (.int .i64 0)] := by kernel_rfl
@[simp] theorem bi_53 : bInfo Try.prog 53 = some [(0, 1), (1, 1), (2, 1), (3, 1), (4, 1)] := by kernel_rfl
@[simp] theorem ld_54 : ldInfo Try.prog 54 = some (false, 1) := by kernel_rfl
@[simp] theorem tk_55 : tk Try.prog 55 = .func := by kernel_rfl
@[simp] theorem ld_55 : ldInfo Try.prog 55 = some (false, 1) := by kernel_rfl
@[simp] theorem tk_56 : tk Try.prog 56 = .slice := by kernel_rfl
@[simp] theorem ld_56 : ldInfo Try.prog 56 = some (false, 1) := by kernel_rfl
@[simp] theorem sl_56 : slSize Try.prog 56 = some 1 := by kernel_rfl
@[simp] theorem si_56 : slInfo Try.prog 56 = some (1, 8) := by kernel_rfl
@[simp] theorem z_56 : zeroL Try.prog 56 = some [.lit (.slice none 0 0)] := by kernel_rfl
@[simp] theorem sz_56 : slZero Try.prog 56 = some [.lit (.int .i64 0)] := by kernel_rfl
@[simp] theorem tk_57 : tk Try.prog 57 = .func := by kernel_rfl
@[simp] theorem ld_57 : ldInfo Try.prog 57 = some (false, 1) := by kernel_rfl
@[simp] theorem ld_58 : ldInfo Try.prog 58 = some (true, 4) := by kernel_rfl
@[simp] theorem sln_58 : slSize Try.prog 58 = none := by kernel_rfl
@[simp] theorem ar_58 : arSize Try.prog 58 = some (4, 1) := by kernel_rfl
@[simp] theorem z_58 : zeroL Try.prog 58 = some [.lit (.int .i64 0), .lit (.int .i64 0), .lit (.int .i64 0), .lit (.int .i64 0)] := by kernel_rfl
@[simp] theorem zv_58 : zeroV Try.prog 58 = some [.lit (.int .i64 0), .lit (.int .i64 0), .lit (.int .i64 0), .lit (.int .i64 0)] := by kernel_rfl
@[simp] theorem bi_58 : bInfo Try.prog 58 = some [(0, 1), (1, 1), (2, 1), (3, 1)] := by kernel_rfl
@[simp] theorem ai_58 : arInfo Try.prog 58 = some (4, false, 1) := by kernel_rfl
@[simp] theorem tk_59 : tk Try.prog 59 = .func := by kernel_rfl
@[simp] theorem ld_59 : ldInfo Try.prog 59 = some (false, 1) := by kernel_rfl
@[simp] theorem ld_60 : ldInfo Try.prog 60 = some (false, 1) := by kernel_rfl
@[simp] theorem tk_61 : tk Try.prog 61 = .func := by kernel_rfl
@[simp] theorem ld_61 : ldInfo Try.prog 61 = some (false, 1) := by kernel_rfl
@[simp] theorem tk_62 : tk Try.prog 62 = .func := by kernel_rfl
@[simp] theorem ld_62 : ldInfo Try.prog 62 = some (false, 1) := by kernel_rfl
@[simp] theorem tk_63 : tk Try.prog 63 = .func := by kernel_rfl
@[simp] theorem ld_63 : ldInfo Try.prog 63 = some (false, 1) := by kernel_rfl
@[simp] theorem tk_64 : tk Try.prog 64 = .flat 3 := by kernel_rfl
@[simp] theorem ld_64 : ldInfo Try.prog 64 = some (true, 3) := by kernel_rfl
@[simp] theorem z_64 : zeroL Try.prog 64 = some [.lit (.int .i64 0), .lit (.int .i64 0), .lit (.int .i64 0)] := by kernel_rfl
@[simp] theorem zv_64 : zeroV Try.prog 64 = some [.lit (.int .i64 0), .lit (.int .i64 0), .lit (.int .i64 0)] := by kernel_rfl
@[simp] theorem bi_64 : bInfo Try.prog 64 = some [(0, 1), (1, 1), (2, 1)] := by kernel_rfl
@[simp] theorem tk_65 : tk Try.prog 65 = .flat 3 := by kernel_rfl
@[simp] theorem ld_65 : ldInfo Try.prog 65 = some (true, 3) := by kernel_rfl
@[simp] theorem z_65 : zeroL Try.prog 65 = some [.lit (.int .i64 0), .lit (.int .i64 0), .lit (.int .i64 0)] := by kernel_rfl
@[simp] theorem zv_65 : zeroV Try.prog 65 = some [.lit (.int .i64 0), .lit (.int .i64 0), .lit (.int .i64 0)] := by kernel_rfl
@[simp] theorem bi_65 : bInfo Try.prog 65 = some [(0, 1), (1, 1), (2, 1)] := by kernel_rfl
@[simp] theorem tk_66 : tk Try.prog 66 = .func := by kernel_rfl
@[simp] theorem ld_66 : ldInfo Try.prog 66 = some (false, 1) := by kernel_rfl
@[simp] theorem tk_67 : tk Try.prog 67 = .func := by kernel_rfl
@[simp] theorem ld_67 : ldInfo Try.prog 67 = some (false, 1) := by kernel_rfl
@[simp] theorem tk_68 : tk Try.prog 68 = .func := by kernel_rfl
@[simp] theorem ld_68 : ldInfo Try.prog 68 = some (false, 1) := by kernel_rfl
@[simp] theorem ld_69 : ldInfo Try.prog 69 = some (true, 2) := by kernel_rfl
@[simp] theorem sln_69 : slSize Try.prog 69 = none := by kernel_rfl
@[simp] theorem ar_69 : arSize Try.prog 69 = some (2, 1) := by kernel_rfl
@[simp] theorem z_69 : zeroL Try.prog 69 = some [.lit (.int .i64 0), .lit (.int .i64 0)] := by kernel_rfl
@[simp] theorem zv_69 : zeroV Try.prog 69 = some [.lit (.int .i64 0), .lit (.int .i64 0)] := by kernel_rfl
@[simp] theorem bi_69 : bInfo Try.prog 69 = some [(0, 1), (1, 1)] := by kernel_rfl
@[simp] theorem ai_69 : arInfo Try.prog 69 = some (2, false, 1) := by kernel_rfl
@[simp] theorem tk_70 : tk Try.prog 70 = .func := by kernel_rfl
@[simp] theorem ld_70 : ldInfo Try.prog 70 = some (false, 1) := by kernel_rfl
@[simp] theorem tk_71 : tk Try.prog 71 = .func := by kernel_rfl
@[simp] theorem ld_71 : ldInfo Try.prog 71 = some (false, 1) := by kernel_rfl
@[simp] theorem tk_72 : tk Try.prog 72 = .func := by kernel_rfl
@[simp] theorem ld_72 : ldInfo Try.prog 72 = some (false, 1) := by kernel_rfl
@[simp] theorem tk_73 : tk Try.prog 73 = .func := by kernel_rfl
@[simp] theorem ld_73 : ldInfo Try.prog 73 = some (false, 1) := by kernel_rfl
@[simp] theorem tk_74 : tk Try.prog 74 = .func := by kernel_rfl
@[simp] theorem ld_74 : ldInfo Try.prog 74 = some (false, 1) := by kernel_rfl
@[simp] theorem tk_75 : tk Try.prog 75 = .func := by kernel_rfl
@[simp] theorem ld_75 : ldInfo Try.prog 75 = some (false, 1) := by kernel_rfl
@[simp] theorem ld_76 : ldInfo Try.prog 76 = some (true, 4) := by kernel_rfl
@[simp] theorem z_76 : zeroL Try.prog 76 = some [.lit (.int .i64 0), .lit (.int .i64 0), .lit (.int .i64 0), .lit (.slice none 0 0)] := by kernel_rfl
@[simp] theorem zv_76 : zeroV Try.prog 76 = some [.lit (.int .i64 0), .lit (.int .i64 0), .lit (.int .i64 0), .lit (.slice none 0 0)] := by kernel_rfl
@[simp] theorem bi_76 : bInfo Try.prog 76 = some [(0, 4)] := by kernel_rfl
@[simp] theorem ld_77 : ldInfo Try.prog 77 = some (true, 4) := by kernel_rfl
@[simp] theorem z_77 : zeroL Try.prog 77 = some [.lit (.int .i64 0), .lit (.int .i64 0), .lit (.int .i64 0), .lit (.slice none 0 0)] := by kernel_rfl
@[simp] theorem zv_77 : zeroV Try.prog 77 = some [.lit (.int .i64 0), .lit (.int .i64 0), .lit (.int .i64 0), .lit (.slice none 0 0)] := by kernel_rfl
@[simp] theorem bi_77 : bInfo Try.prog 77 = some [(0, 4)] := by kernel_rfl
@[simp] theorem ld_78 : ldInfo Try.prog 78 = some (false, 1) := by kernel_rfl
@[simp] theorem tk_79 : tk Try.prog 79 = .map := by kernel_rfl
@[simp] theorem ld_79 : ldInfo Try.prog 79 = some (false, 1) := by kernel_rfl
@[simp] theorem z_79 : zeroL Try.prog 79 = some [.lit (.map none)] := by kernel_rfl
@[simp] theorem mk_79 : mpKey Try.prog 79 = true := by kernel_rfl
@[simp] theorem mp_79 : mpInfo Try.prog 79 = some (.lit (.int .i64 0)) := by kernel_rfl
@[simp] theorem tk_80 : tk Try.prog 80 = .map := by kernel_rfl
@[simp] theorem ld_80 : ldInfo Try.prog 80 = some (false, 1) := by kernel_rfl
@[simp] theorem z_80 : zeroL Try.prog 80 = some [.lit (.map none)] := by kernel_rfl
@[simp] theorem mk_80 : mpKey Try.prog 80 = true := by kernel_rfl
@[simp] theorem mp_80 : mpInfo Try.prog 80 = some (.agg [.lit (.int .i64 0), .lit (.int .i64 0), .lit (.int .i64 0), .lit (.int .i64 0), .lit (.int .i64 0)]) := by kernel_rfl
@[simp] theorem tk_81 : tk Try.prog 81 = .func := by kernel_rfl
@[simp] theorem ld_81 : ldInfo Try.prog 81 = some (false, 1) := by kernel_rfl
@[simp] theorem ld_82 : ldInfo Try.prog 82 = some (false, 1) := by kernel_rfl
@[simp] theorem ld_83 : ldInfo Try.prog 83 = some (false, 1) := by kernel_rfl
@[simp] theorem tk_84 : tk Try.prog 84 = .func := by kernel_rfl
@[simp] theorem ld_84 : ldInfo Try.prog 84 = some (false, 1) := by kernel_rfl
@[simp] theorem tk_85 : tk Try.prog 85 = .func := by kernel_rfl
@[simp] theorem ld_85 : ldInfo Try.prog 85 = some (false, 1) := by kernel_rfl
@[simp] theorem tk_86 : tk Try.prog 86 = .func := by kernel_rfl
@[simp] theorem ld_86 : ldInfo Try.prog 86 = some (false, 1) := by kernel_rfl
@[simp] theorem ld_87 : ldInfo Try.prog 87 = some (false, 1) := by kernel_rfl
@[simp] theorem tk_88 : tk Try.prog 88 = .func := by kernel_rfl
@[simp] theorem ld_88 : ldInfo Try.prog 88 = some (false, 1) := by kernel_rfl
@[simp] theorem tk_89 : tk Try.prog 89 = .func := by kernel_rfl
@[simp] theorem ld_89 : ldInfo Try.prog 89 = some (false, 1) := by kernel_rfl
@[simp] theorem tk_90 : tk Try.prog 90 = .flat 4 := by kernel_rfl
@[simp] theorem ld_90 : ldInfo Try.prog 90 = some (true, 4) := by kernel_rfl
@[simp] theorem z_90 : zeroL Try.prog 90 = some [.lit (.int .i64 0), .lit (.int .i64 0), .lit (.int .i64 0), .lit (.int .i64 0)] := by kernel_rfl
@[simp] theorem zv_90 : zeroV Try.prog 90 = some [.lit (.int .i64 0), .lit (.int .i64 0), .lit (.int .i64 0), .lit (.int .i64 0)] := by kernel_rfl
@[simp] theorem bi_90 : bInfo Try.prog 90 = some [(0, 1), (1, 1), (2, 1), (3, 1)] := by kernel_rfl
@[simp] theorem tk_91 : tk Try.prog 91 = .flat 4 := by kernel_rfl
@[simp] theorem ld_91 : ldInfo Try.prog 91 = some (true, 4) := by kernel_rfl
@[simp] theorem z_91 : zeroL Try.prog 91 = some [.lit (.int .i64 0), .lit (.int .i64 0), .lit (.int .i64 0), .lit (.int .i64 0)] := by kernel_rfl
@[simp] theorem zv_91 : zeroV Try.prog 91 = some [.lit (.int .i64 0), .lit (.int .i64 0), .lit (.int .i64 0), .lit (.int .i64 0)] := by kernel_rfl
@[simp] theorem bi_91 : bInfo Try.prog 91 = some [(0, 1), (1, 1), (2, 1), (3, 1)] := by kernel_rfl
@[simp] theorem tk_92 : tk Try.prog 92 = .func := by kernel_rfl
@[simp] theorem ld_92 : ldInfo Try.prog 92 = some (false, 1) := by kernel_rfl
@[simp] theorem tk_93 : tk Try.prog 93 = .func := by kernel_rfl
@[simp] theorem ld_93 : ldInfo Try.prog 93 = some (false, 1) := by kernel_rfl
@[simp] theorem tk_94 : tk Try.prog 94 = .func := by kernel_rfl
@[simp] theorem ld_94 : ldInfo Try.prog 94 = some (false, 1) := by kernel_rfl
@[simp] theorem tk_95 : tk Try.prog 95 = .func := by kernel_rfl
@[simp] theorem ld_95 : ldInfo Try.prog 95 = some (false, 1) := by kernel_rfl
@[simp] theorem tk_96 : tk Try.prog 96 = .func := by kernel_rfl
@[simp] theorem ld_96 : ldInfo Try.prog 96 = some (false, 1) := by kernel_rfl
@[simp] theorem tk_97 : tk Try.prog 97 = .func := by kernel_rfl
@[simp] theorem ld_97 : ldInfo Try.prog 97 = some (false, 1) := by kernel_rfl
@[simp] theorem ld_98 : ldInfo Try.prog 98 = some (true, 4) := by kernel_rfl
@[simp] theorem z_98 : zeroL Try.prog 98 = some [.lit (.pointer none), .lit (.pointer none), .lit (.pointer none), .lit (.string ByteArray.empty)] := by kernel_rfl
@[simp] theorem zv_98 : zeroV Try.prog 98 = some [.lit (.pointer none), .lit (.pointer none), .lit (.pointer none), .lit (.string ByteArray.empty)] := by kernel_rfl
@[simp] theorem bi_98 : bInfo Try.prog 98 = some [(0, 1), (1, 1), (2, 1), (3, 1)] := by kernel_rfl
@[simp] theorem ld_99 : ldInfo Try.prog 99 = some (true, 4) := by kernel_rfl
@[simp] theorem z_99 : zeroL Try.prog 99 = some [.lit (.pointer none), .lit (.pointer none), .lit (.pointer none), .lit (.string ByteArray.empty)] := by kernel_rfl
@[simp] theorem zv_99 : zeroV Try.prog 99 = some [.lit (.pointer none), .lit (.pointer none), .lit (.pointer none), .lit (.string ByteArray.empty)] := by kernel_rfl
@[simp] theorem bi_99 : bInfo Try.prog 99 = some [(0, 1), (1, 1), (2, 1), (3, 1)] := by kernel_rfl
@[simp] theorem ld_100 : ldInfo Try.prog 100 = some (true, 0) := by kernel_rfl
@[simp] theorem sln_100 : slSize Try.prog 100 = none := by kernel_rfl
@[simp] theorem ar_100 : arSize Try.prog 100 = some (0, 1) := by kernel_rfl
@[simp] theorem z_100 : zeroL Try.prog 100 = some [] := by kernel_rfl
@[simp] theorem zv_100 : zeroV Try.prog 100 = some [] := by kernel_rfl
@[simp] theorem bi_100 : bInfo Try.prog 100 = some [] := by kernel_rfl
@[simp] theorem ai_100 : arInfo Try.prog 100 = some (0, false, 1) := by kernel_rfl
@[simp] theorem ld_101 : ldInfo Try.prog 101 = some (true, 0) := by kernel_rfl
@[simp] theorem z_101 : zeroL Try.prog 101 = some [] := by kernel_rfl
@[simp] theorem zv_101 : zeroV Try.prog 101 = some [] := by kernel_rfl
@[simp] theorem bi_101 : bInfo Try.prog 101 = some [(0, 0)] := by kernel_rfl
@[simp] theorem ld_102 : ldInfo Try.prog 102 = some (true, 0) := by kernel_rfl
@[simp] theorem z_102 : zeroL Try.prog 102 = some [] := by kernel_rfl
@[simp] theorem zv_102 : zeroV Try.prog 102 = some [] := by kernel_rfl
@[simp] theorem bi_102 : bInfo Try.prog 102 = some [(0, 0)] := by kernel_rfl
@[simp] theorem tk_103 : tk Try.prog 103 = .func := by kernel_rfl
@[simp] theorem ld_103 : ldInfo Try.prog 103 = some (false, 1) := by kernel_rfl
@[simp] theorem tk_104 : tk Try.prog 104 = .int := by kernel_rfl
@[simp] theorem ld_104 : ldInfo Try.prog 104 = some (false, 1) := by kernel_rfl
@[simp] theorem cv_104 : cvtK Try.prog 104 = some .u32 := by kernel_rfl
@[simp] theorem z_104 : zeroL Try.prog 104 = some [.lit (.int .u32 0)] := by kernel_rfl
@[simp] theorem tk_105 : tk Try.prog 105 = .int := by kernel_rfl
@[simp] theorem ld_105 : ldInfo Try.prog 105 = some (false, 1) := by kernel_rfl
@[simp] theorem cv_105 : cvtK Try.prog 105 = some .u8 := by kernel_rfl
@[simp] theorem z_105 : zeroL Try.prog 105 = some [.lit (.int .u8 0)] := by kernel_rfl
@[simp] theorem tk_106 : tk Try.prog 106 = .int := by kernel_rfl
@[simp] theorem ld_106 : ldInfo Try.prog 106 = some (false, 1) := by kernel_rfl
@[simp] theorem cv_106 : cvtK Try.prog 106 = some .u8 := by kernel_rfl
@[simp] theorem z_106 : zeroL Try.prog 106 = some [.lit (.int .u8 0)] := by kernel_rfl
@[simp] theorem tk_107 : tk Try.prog 107 = .func := by kernel_rfl
@[simp] theorem ld_107 : ldInfo Try.prog 107 = some (false, 1) := by kernel_rfl
@[simp] theorem tk_108 : tk Try.prog 108 = .ptr := by kernel_rfl
@[simp] theorem ld_108 : ldInfo Try.prog 108 = some (false, 1) := by kernel_rfl
@[simp] theorem z_108 : zeroL Try.prog 108 = some [.lit (.pointer none)] := by kernel_rfl
@[simp] theorem tk_109 : tk Try.prog 109 = .int := by kernel_rfl
@[simp] theorem ld_109 : ldInfo Try.prog 109 = some (false, 1) := by kernel_rfl
@[simp] theorem cv_109 : cvtK Try.prog 109 = some .i32 := by kernel_rfl
@[simp] theorem z_109 : zeroL Try.prog 109 = some [.lit (.int .i32 0)] := by kernel_rfl
@[simp] theorem tk_110 : tk Try.prog 110 = .int := by kernel_rfl
@[simp] theorem ld_110 : ldInfo Try.prog 110 = some (false, 1) := by kernel_rfl
@[simp] theorem cv_110 : cvtK Try.prog 110 = some .i32 := by kernel_rfl
@[simp] theorem z_110 : zeroL Try.prog 110 = some [.lit (.int .i32 0)] := by kernel_rfl
@[simp] theorem ld_111 : ldInfo Try.prog 111 = some (true, 11) := by kernel_rfl
@[simp] theorem ld_112 : ldInfo Try.prog 112 = some (true, 11) := by kernel_rfl
@[simp] theorem ld_113 : ldInfo Try.prog 113 = some (false, 1) := by kernel_rfl
@[simp] theorem z_113 : zeroL Try.prog 113 = some [.lit (.pointer none)] := by kernel_rfl
@[simp] theorem fo_7_0 : fOff Try.prog 7 0 = some 0 := by kernel_rfl
@[simp] theorem fi_7_0 : fldInfo Try.prog 7 0 = some (0, false, 1) := by kernel_rfl
@[simp] theorem fo_7_1 : fOff Try.prog 7 1 = some 1 := by kernel_rfl
@[simp] theorem fi_7_1 : fldInfo Try.prog 7 1 = some (1, false, 1) := by kernel_rfl
@[simp] theorem fo_7_2 : fOff Try.prog 7 2 = some 2 := by kernel_rfl
@[simp] theorem fi_7_2 : fldInfo Try.prog 7 2 = some (2, false, 1) := by kernel_rfl
@[simp] theorem fo_7_3 : fOff Try.prog 7 3 = some 3 := by kernel_rfl
@[simp] theorem fi_7_3 : fldInfo Try.prog 7 3 = some (3, false, 1) := by kernel_rfl
@[simp] theorem fo_8_0 : fOff Try.prog 8 0 = some 0 := by kernel_rfl
@[simp] theorem fi_8_0 : fldInfo Try.prog 8 0 = some (0, false, 1) := by kernel_rfl
@[simp] theorem fo_8_1 : fOff Try.prog 8 1 = some 1 := by kernel_rfl
@[simp] theorem fi_8_1 : fldInfo Try.prog 8 1 = some (1, false, 1) := by kernel_rfl
@[simp] theorem fo_8_2 : fOff Try.prog 8 2 = some 2 := by kernel_rfl
@[simp] theorem fi_8_2 : fldInfo Try.prog 8 2 = some (2, false, 1) := by kernel_rfl
@[simp] theorem fo_8_3 : fOff Try.prog 8 3 = some 3 := by kernel_rfl
@[simp] theorem fi_8_3 : fldInfo Try.prog 8 3 = some (3, false, 1) := by kernel_rfl
@[simp] theorem fo_13_0 : fOff Try.prog 13 0 = some 0 := by kernel_rfl
@[simp] theorem fi_13_0 : fldInfo Try.prog 13 0 = some (0, false, 1) := by kernel_rfl
@[simp] theorem fo_13_1 : fOff Try.prog 13 1 = some 1 := by kernel_rfl
@[simp] theorem fi_13_1 : fldInfo Try.prog 13 1 = some (1, false, 1) := by kernel_rfl
@[simp] theorem fo_14_0 : fOff Try.prog 14 0 = some 0 := by kernel_rfl
@[simp] theorem fi_14_0 : fldInfo Try.prog 14 0 = some (0, false, 1) := by kernel_rfl
@[simp] theorem fo_14_1 : fOff Try.prog 14 1 = some 1 := by kernel_rfl
@[simp] theorem fi_14_1 : fldInfo Try.prog 14 1 = some (1, false, 1) := by kernel_rfl
@[simp] theorem fo_18_0 : fOff Try.prog 18 0 = some 0 := by kernel_rfl
@[simp] theorem fi_18_0 : fldInfo Try.prog 18 0 = some (0, false, 1) := by kernel_rfl
@[simp] theorem fo_19_0 : fOff Try.prog 19 0 = some 0 := by kernel_rfl
@[simp] theorem fi_19_0 : fldInfo Try.prog 19 0 = some (0, false, 1) := by kernel_rfl
@[simp] theorem fo_22_0 : fOff Try.prog 22 0 = some 0 := by kernel_rfl
@[simp] theorem fi_22_0 : fldInfo Try.prog 22 0 = some (0, false, 1) := by kernel_rfl
@[simp] theorem fo_22_1 : fOff Try.prog 22 1 = some 1 := by kernel_rfl
@[simp] theorem fi_22_1 : fldInfo Try.prog 22 1 = some (1, false, 1) := by kernel_rfl
@[simp] theorem fo_23_0 : fOff Try.prog 23 0 = some 0 := by kernel_rfl
@[simp] theorem fi_23_0 : fldInfo Try.prog 23 0 = some (0, false, 1) := by kernel_rfl
@[simp] theorem fo_23_1 : fOff Try.prog 23 1 = some 1 := by kernel_rfl
@[simp] theorem fi_23_1 : fldInfo Try.prog 23 1 = some (1, false, 1) := by kernel_rfl
@[simp] theorem fo_37_0 : fOff Try.prog 37 0 = some 0 := by kernel_rfl
@[simp] theorem fi_37_0 : fldInfo Try.prog 37 0 = some (0, false, 1) := by kernel_rfl
@[simp] theorem fo_37_1 : fOff Try.prog 37 1 = some 1 := by kernel_rfl
@[simp] theorem fi_37_1 : fldInfo Try.prog 37 1 = some (1, false, 1) := by kernel_rfl
@[simp] theorem fo_37_2 : fOff Try.prog 37 2 = some 2 := by kernel_rfl
@[simp] theorem fi_37_2 : fldInfo Try.prog 37 2 = some (2, false, 1) := by kernel_rfl
@[simp] theorem fo_37_3 : fOff Try.prog 37 3 = some 3 := by kernel_rfl
@[simp] theorem fi_37_3 : fldInfo Try.prog 37 3 = some (3, false, 1) := by kernel_rfl
@[simp] theorem fo_38_0 : fOff Try.prog 38 0 = some 0 := by kernel_rfl
@[simp] theorem fi_38_0 : fldInfo Try.prog 38 0 = some (0, false, 1) := by kernel_rfl
@[simp] theorem fo_38_1 : fOff Try.prog 38 1 = some 1 := by kernel_rfl
@[simp] theorem fi_38_1 : fldInfo Try.prog 38 1 = some (1, false, 1) := by kernel_rfl
@[simp] theorem fo_38_2 : fOff Try.prog 38 2 = some 2 := by kernel_rfl
@[simp] theorem fi_38_2 : fldInfo Try.prog 38 2 = some (2, false, 1) := by kernel_rfl
@[simp] theorem fo_38_3 : fOff Try.prog 38 3 = some 3 := by kernel_rfl
@[simp] theorem fi_38_3 : fldInfo Try.prog 38 3 = some (3, false, 1) := by kernel_rfl
@[simp] theorem fo_52_0 : fOff Try.prog 52 0 = some 0 := by kernel_rfl
@[simp] theorem fi_52_0 : fldInfo Try.prog 52 0 = some (0, false, 1) := by kernel_rfl
@[simp] theorem fo_52_1 : fOff Try.prog 52 1 = some 1 := by kernel_rfl
@[simp] theorem fi_52_1 : fldInfo Try.prog 52 1 = some (1, false, 1) := by kernel_rfl
@[simp] theorem fo_52_2 : fOff Try.prog 52 2 = some 2 := by kernel_rfl
@[simp] theorem fi_52_2 : fldInfo Try.prog 52 2 = some (2, false, 1) := by kernel_rfl
@[simp] theorem fo_52_3 : fOff Try.prog 52 3 = some 3 := by kernel_rfl
@[simp] theorem fi_52_3 : fldInfo Try.prog 52 3 = some (3, false, 1) := by kernel_rfl
@[simp] theorem fo_52_4 : fOff Try.prog 52 4 = some 4 := by kernel_rfl
@[simp] theorem fi_52_4 : fldInfo Try.prog 52 4 = some (4, false, 1) := by kernel_rfl
@[simp] theorem fo_53_0 : fOff Try.prog 53 0 = some 0 := by kernel_rfl
@[simp] theorem fi_53_0 : fldInfo Try.prog 53 0 = some (0, false, 1) := by kernel_rfl
@[simp] theorem fo_53_1 : fOff Try.prog 53 1 = some 1 := by kernel_rfl
@[simp] theorem fi_53_1 : fldInfo Try.prog 53 1 = some (1, false, 1) := by kernel_rfl
@[simp] theorem fo_53_2 : fOff Try.prog 53 2 = some 2 := by kernel_rfl
@[simp] theorem fi_53_2 : fldInfo Try.prog 53 2 = some (2, false, 1) := by kernel_rfl
@[simp] theorem fo_53_3 : fOff Try.prog 53 3 = some 3 := by kernel_rfl
@[simp] theorem fi_53_3 : fldInfo Try.prog 53 3 = some (3, false, 1) := by kernel_rfl
@[simp] theorem fo_53_4 : fOff Try.prog 53 4 = some 4 := by kernel_rfl
@[simp] theorem fi_53_4 : fldInfo Try.prog 53 4 = some (4, false, 1) := by kernel_rfl
@[simp] theorem fo_64_0 : fOff Try.prog 64 0 = some 0 := by kernel_rfl
@[simp] theorem fi_64_0 : fldInfo Try.prog 64 0 = some (0, false, 1) := by kernel_rfl
@[simp] theorem fo_64_1 : fOff Try.prog 64 1 = some 1 := by kernel_rfl
@[simp] theorem fi_64_1 : fldInfo Try.prog 64 1 = some (1, false, 1) := by kernel_rfl
@[simp] theorem fo_64_2 : fOff Try.prog 64 2 = some 2 := by kernel_rfl
@[simp] theorem fi_64_2 : fldInfo Try.prog 64 2 = some (2, false, 1) := by kernel_rfl
@[simp] theorem fo_65_0 : fOff Try.prog 65 0 = some 0 := by kernel_rfl
@[simp] theorem fi_65_0 : fldInfo Try.prog 65 0 = some (0, false, 1) := by kernel_rfl
@[simp] theorem fo_65_1 : fOff Try.prog 65 1 = some 1 := by kernel_rfl
@[simp] theorem fi_65_1 : fldInfo Try.prog 65 1 = some (1, false, 1) := by kernel_rfl
@[simp] theorem fo_65_2 : fOff Try.prog 65 2 = some 2 := by kernel_rfl
@[simp] theorem fi_65_2 : fldInfo Try.prog 65 2 = some (2, false, 1) := by kernel_rfl
@[simp] theorem fo_76_0 : fOff Try.prog 76 0 = some 0 := by kernel_rfl
@[simp] theorem fi_76_0 : fldInfo Try.prog 76 0 = some (0, true, 4) := by kernel_rfl
@[simp] theorem fo_77_0 : fOff Try.prog 77 0 = some 0 := by kernel_rfl
@[simp] theorem fi_77_0 : fldInfo Try.prog 77 0 = some (0, true, 4) := by kernel_rfl
@[simp] theorem fo_90_0 : fOff Try.prog 90 0 = some 0 := by kernel_rfl
@[simp] theorem fi_90_0 : fldInfo Try.prog 90 0 = some (0, false, 1) := by kernel_rfl
@[simp] theorem fo_90_1 : fOff Try.prog 90 1 = some 1 := by kernel_rfl
@[simp] theorem fi_90_1 : fldInfo Try.prog 90 1 = some (1, false, 1) := by kernel_rfl
@[simp] theorem fo_90_2 : fOff Try.prog 90 2 = some 2 := by kernel_rfl
@[simp] theorem fi_90_2 : fldInfo Try.prog 90 2 = some (2, false, 1) := by kernel_rfl
@[simp] theorem fo_90_3 : fOff Try.prog 90 3 = some 3 := by kernel_rfl
@[simp] theorem fi_90_3 : fldInfo Try.prog 90 3 = some (3, false, 1) := by kernel_rfl
@[simp] theorem fo_91_0 : fOff Try.prog 91 0 = some 0 := by kernel_rfl
@[simp] theorem fi_91_0 : fldInfo Try.prog 91 0 = some (0, false, 1) := by kernel_rfl
@[simp] theorem fo_91_1 : fOff Try.prog 91 1 = some 1 := by kernel_rfl
@[simp] theorem fi_91_1 : fldInfo Try.prog 91 1 = some (1, false, 1) := by kernel_rfl
@[simp] theorem fo_91_2 : fOff Try.prog 91 2 = some 2 := by kernel_rfl
@[simp] theorem fi_91_2 : fldInfo Try.prog 91 2 = some (2, false, 1) := by kernel_rfl
@[simp] theorem fo_91_3 : fOff Try.prog 91 3 = some 3 := by kernel_rfl
@[simp] theorem fi_91_3 : fldInfo Try.prog 91 3 = some (3, false, 1) := by kernel_rfl
@[simp] theorem fo_98_0 : fOff Try.prog 98 0 = some 0 := by kernel_rfl
@[simp] theorem fi_98_0 : fldInfo Try.prog 98 0 = some (0, false, 1) := by kernel_rfl
@[simp] theorem fo_98_1 : fOff Try.prog 98 1 = some 1 := by kernel_rfl
@[simp] theorem fi_98_1 : fldInfo Try.prog 98 1 = some (1, false, 1) := by kernel_rfl
@[simp] theorem fo_98_2 : fOff Try.prog 98 2 = some 2 := by kernel_rfl
@[simp] theorem fi_98_2 : fldInfo Try.prog 98 2 = some (2, false, 1) := by kernel_rfl
@[simp] theorem fo_98_3 : fOff Try.prog 98 3 = some 3 := by kernel_rfl
@[simp] theorem fi_98_3 : fldInfo Try.prog 98 3 = some (3, false, 1) := by kernel_rfl
@[simp] theorem fo_99_0 : fOff Try.prog 99 0 = some 0 := by kernel_rfl
@[simp] theorem fi_99_0 : fldInfo Try.prog 99 0 = some (0, false, 1) := by kernel_rfl
@[simp] theorem fo_99_1 : fOff Try.prog 99 1 = some 1 := by kernel_rfl
@[simp] theorem fi_99_1 : fldInfo Try.prog 99 1 = some (1, false, 1) := by kernel_rfl
@[simp] theorem fo_99_2 : fOff Try.prog 99 2 = some 2 := by kernel_rfl
@[simp] theorem fi_99_2 : fldInfo Try.prog 99 2 = some (2, false, 1) := by kernel_rfl
@[simp] theorem fo_99_3 : fOff Try.prog 99 3 = some 3 := by kernel_rfl
@[simp] theorem fi_99_3 : fldInfo Try.prog 99 3 = some (3, false, 1) := by kernel_rfl
@[simp] theorem fi_101_0 : fldInfo Try.prog 101 0 = some (0, true, 0) := by kernel_rfl
@[simp] theorem fi_102_0 : fldInfo Try.prog 102 0 = some (0, true, 0) := by kernel_rfl
@[simp] theorem fo_111_0 : fOff Try.prog 111 0 = some 0 := by kernel_rfl
@[simp] theorem fi_111_0 : fldInfo Try.prog 111 0 = some (0, false, 1) := by kernel_rfl
@[simp] theorem fo_111_1 : fOff Try.prog 111 1 = some 1 := by kernel_rfl
@[simp] theorem fi_111_1 : fldInfo Try.prog 111 1 = some (1, false, 1) := by kernel_rfl
@[simp] theorem fo_111_2 : fOff Try.prog 111 2 = some 2 := by kernel_rfl
@[simp] theorem fi_111_2 : fldInfo Try.prog 111 2 = some (2, false, 1) := by kernel_rfl
@[simp] theorem fo_111_3 : fOff Try.prog 111 3 = some 3 := by kernel_rfl
@[simp] theorem fi_111_3 : fldInfo Try.prog 111 3 = some (3, false, 1) := by kernel_rfl
@[simp] theorem fo_111_4 : fOff Try.prog 111 4 = some 4 := by kernel_rfl
@[simp] theorem fi_111_4 : fldInfo Try.prog 111 4 = some (4, false, 1) := by kernel_rfl
@[simp] theorem fo_111_5 : fOff Try.prog 111 5 = some 5 := by kernel_rfl
@[simp] theorem fi_111_5 : fldInfo Try.prog 111 5 = some (5, false, 1) := by kernel_rfl
@[simp] theorem fo_111_6 : fOff Try.prog 111 6 = some 6 := by kernel_rfl
@[simp] theorem fi_111_6 : fldInfo Try.prog 111 6 = some (6, false, 1) := by kernel_rfl
@[simp] theorem fo_111_7 : fOff Try.prog 111 7 = some 7 := by kernel_rfl
@[simp] theorem fi_111_7 : fldInfo Try.prog 111 7 = some (7, false, 1) := by kernel_rfl
@[simp] theorem fo_111_8 : fOff Try.prog 111 8 = some 8 := by kernel_rfl
@[simp] theorem fi_111_8 : fldInfo Try.prog 111 8 = some (8, false, 1) := by kernel_rfl
@[simp] theorem fo_111_9 : fOff Try.prog 111 9 = some 9 := by kernel_rfl
@[simp] theorem fi_111_9 : fldInfo Try.prog 111 9 = some (9, false, 1) := by kernel_rfl
@[simp] theorem fo_111_10 : fOff Try.prog 111 10 = some 10 := by kernel_rfl
@[simp] theorem fi_111_10 : fldInfo Try.prog 111 10 = some (10, false, 1) := by kernel_rfl
@[simp] theorem fo_112_0 : fOff Try.prog 112 0 = some 0 := by kernel_rfl
@[simp] theorem fi_112_0 : fldInfo Try.prog 112 0 = some (0, false, 1) := by kernel_rfl
@[simp] theorem fo_112_1 : fOff Try.prog 112 1 = some 1 := by kernel_rfl
@[simp] theorem fi_112_1 : fldInfo Try.prog 112 1 = some (1, false, 1) := by kernel_rfl
@[simp] theorem fo_112_2 : fOff Try.prog 112 2 = some 2 := by kernel_rfl
@[simp] theorem fi_112_2 : fldInfo Try.prog 112 2 = some (2, false, 1) := by kernel_rfl
@[simp] theorem fo_112_3 : fOff Try.prog 112 3 = some 3 := by kernel_rfl
@[simp] theorem fi_112_3 : fldInfo Try.prog 112 3 = some (3, false, 1) := by kernel_rfl
@[simp] theorem fo_112_4 : fOff Try.prog 112 4 = some 4 := by kernel_rfl
@[simp] theorem fi_112_4 : fldInfo Try.prog 112 4 = some (4, false, 1) := by kernel_rfl
@[simp] theorem fo_112_5 : fOff Try.prog 112 5 = some 5 := by kernel_rfl
@[simp] theorem fi_112_5 : fldInfo Try.prog 112 5 = some (5, false, 1) := by kernel_rfl
@[simp] theorem fo_112_6 : fOff Try.prog 112 6 = some 6 := by kernel_rfl
@[simp] theorem fi_112_6 : fldInfo Try.prog 112 6 = some (6, false, 1) := by kernel_rfl
@[simp] theorem fo_112_7 : fOff Try.prog 112 7 = some 7 := by kernel_rfl
@[simp] theorem fi_112_7 : fldInfo Try.prog 112 7 = some (7, false, 1) := by kernel_rfl
@[simp] theorem fo_112_8 : fOff Try.prog 112 8 = some 8 := by kernel_rfl
@[simp] theorem fi_112_8 : fldInfo Try.prog 112 8 = some (8, false, 1) := by kernel_rfl
@[simp] theorem fo_112_9 : fOff Try.prog 112 9 = some 9 := by kernel_rfl
@[simp] theorem fi_112_9 : fldInfo Try.prog 112 9 = some (9, false, 1) := by kernel_rfl
@[simp] theorem fo_112_10 : fOff Try.prog 112 10 = some 10 := by kernel_rfl
@[simp] theorem fi_112_10 : fldInfo Try.prog 112 10 = some (10, false, 1) := by kernel_rfl

end Go.AX
