/-
  Facts on the types of the seat's program (written by facts.py).
  Contracts: the numbers of clauses (count, numbering, the document's answer).
  Contracts: operations (oper, the document's answer).
  Contracts: whether operations may be.
  Contracts: all clauses (count, the document's answer).
  Contracts: objects as tables; names' variables.
  Contracts: clauses of places, times and states.
-/
import Derived.Test.YthfhellfmbllhaaAxX
import Derived.Test.YthfhellfmbllhaaRows
namespace Go.AX
open Go.Proofs

@[simp] theorem ld_0 : ldInfo Try.prog 0 = some (false, 1) := by kernel_rfl
@[simp] theorem tk_1 : tk Try.prog 1 = .func := by kernel_rfl
@[simp] theorem ld_1 : ldInfo Try.prog 1 = some (false, 1) := by kernel_rfl
@[simp] theorem z_1 : zeroL Try.prog 1 = some [.lit .nilFunc] := by kernel_rfl
@[simp] theorem tk_2 : tk Try.prog 2 = .int := by kernel_rfl
@[simp] theorem ld_2 : ldInfo Try.prog 2 = some (false, 1) := by kernel_rfl
@[simp] theorem cv_2 : cvtK Try.prog 2 = some .i64 := by kernel_rfl
@[simp] theorem z_2 : zeroL Try.prog 2 = some [.lit (.int .i64 0)] := by kernel_rfl
@[simp] theorem tk_3 : tk Try.prog 3 = .int := by kernel_rfl
@[simp] theorem ld_3 : ldInfo Try.prog 3 = some (false, 1) := by kernel_rfl
@[simp] theorem cv_3 : cvtK Try.prog 3 = some .i64 := by kernel_rfl
@[simp] theorem z_3 : zeroL Try.prog 3 = some [.lit (.int .i64 0)] := by kernel_rfl
@[simp] theorem tk_4 : tk Try.prog 4 = .bool := by kernel_rfl
@[simp] theorem ld_4 : ldInfo Try.prog 4 = some (false, 1) := by kernel_rfl
@[simp] theorem z_4 : zeroL Try.prog 4 = some [.lit (.bool false)] := by kernel_rfl
@[simp] theorem tk_5 : tk Try.prog 5 = .int := by kernel_rfl
@[simp] theorem ld_5 : ldInfo Try.prog 5 = some (false, 1) := by kernel_rfl
@[simp] theorem cv_5 : cvtK Try.prog 5 = some .u8 := by kernel_rfl
@[simp] theorem z_5 : zeroL Try.prog 5 = some [.lit (.int .u8 0)] := by kernel_rfl
@[simp] theorem tk_6 : tk Try.prog 6 = .int := by kernel_rfl
@[simp] theorem ld_6 : ldInfo Try.prog 6 = some (false, 1) := by kernel_rfl
@[simp] theorem cv_6 : cvtK Try.prog 6 = some .u8 := by kernel_rfl
@[simp] theorem z_6 : zeroL Try.prog 6 = some [.lit (.int .u8 0)] := by kernel_rfl
@[simp] theorem ld_7 : ldInfo Try.prog 7 = some (true, 4) := by kernel_rfl
@[simp] theorem z_7 : zeroL Try.prog 7 = some [.lit (.int .i64 0), .lit (.int .i64 0), .lit (.bool false), .lit (.int .u8 0)] := by kernel_rfl
@[simp] theorem zv_7 : zeroV Try.prog 7 = some [.lit (.int .i64 0), .lit (.int .i64 0), .lit (.bool false), .lit (.int .u8 0)] := by kernel_rfl
@[simp] theorem bi_7 : bInfo Try.prog 7 = some [(0, 1), (1, 1), (2, 1), (3, 1)] := by kernel_rfl
@[simp] theorem ld_8 : ldInfo Try.prog 8 = some (true, 4) := by kernel_rfl
@[simp] theorem z_8 : zeroL Try.prog 8 = some [.lit (.int .i64 0), .lit (.int .i64 0), .lit (.bool false), .lit (.int .u8 0)] := by kernel_rfl
@[simp] theorem zv_8 : zeroV Try.prog 8 = some [.lit (.int .i64 0), .lit (.int .i64 0), .lit (.bool false), .lit (.int .u8 0)] := by kernel_rfl
@[simp] theorem bi_8 : bInfo Try.prog 8 = some [(0, 1), (1, 1), (2, 1), (3, 1)] := by kernel_rfl
@[simp] theorem tk_9 : tk Try.prog 9 = .string := by kernel_rfl
@[simp] theorem ld_9 : ldInfo Try.prog 9 = some (false, 1) := by kernel_rfl
@[simp] theorem z_9 : zeroL Try.prog 9 = some [.lit (.string ByteArray.empty)] := by kernel_rfl
@[simp] theorem tk_10 : tk Try.prog 10 = .string := by kernel_rfl
@[simp] theorem ld_10 : ldInfo Try.prog 10 = some (false, 1) := by kernel_rfl
@[simp] theorem z_10 : zeroL Try.prog 10 = some [.lit (.string ByteArray.empty)] := by kernel_rfl
@[simp] theorem tk_11 : tk Try.prog 11 = .string := by kernel_rfl
@[simp] theorem ld_11 : ldInfo Try.prog 11 = some (false, 1) := by kernel_rfl
@[simp] theorem z_11 : zeroL Try.prog 11 = some [.lit (.string ByteArray.empty)] := by kernel_rfl
@[simp] theorem tk_12 : tk Try.prog 12 = .int := by kernel_rfl
@[simp] theorem ld_12 : ldInfo Try.prog 12 = some (false, 1) := by kernel_rfl
@[simp] theorem cv_12 : cvtK Try.prog 12 = some .u64 := by kernel_rfl
@[simp] theorem z_12 : zeroL Try.prog 12 = some [.lit (.int .u64 0)] := by kernel_rfl
@[simp] theorem ld_13 : ldInfo Try.prog 13 = some (true, 2) := by kernel_rfl
@[simp] theorem z_13 : zeroL Try.prog 13 = some [.lit (.string ByteArray.empty), .lit (.int .u64 0)] := by kernel_rfl
@[simp] theorem zv_13 : zeroV Try.prog 13 = some [.lit (.string ByteArray.empty), .lit (.int .u64 0)] := by kernel_rfl
@[simp] theorem bi_13 : bInfo Try.prog 13 = some [(0, 1), (1, 1)] := by kernel_rfl
@[simp] theorem ld_14 : ldInfo Try.prog 14 = some (true, 2) := by kernel_rfl
@[simp] theorem z_14 : zeroL Try.prog 14 = some [.lit (.string ByteArray.empty), .lit (.int .u64 0)] := by kernel_rfl
@[simp] theorem zv_14 : zeroV Try.prog 14 = some [.lit (.string ByteArray.empty), .lit (.int .u64 0)] := by kernel_rfl
@[simp] theorem bi_14 : bInfo Try.prog 14 = some [(0, 1), (1, 1)] := by kernel_rfl
@[simp] theorem tk_15 : tk Try.prog 15 = .ptr := by kernel_rfl
@[simp] theorem ld_15 : ldInfo Try.prog 15 = some (false, 1) := by kernel_rfl
@[simp] theorem z_15 : zeroL Try.prog 15 = some [.lit (.pointer none)] := by kernel_rfl
@[simp] theorem tk_16 : tk Try.prog 16 = .ptr := by kernel_rfl
@[simp] theorem ld_16 : ldInfo Try.prog 16 = some (false, 1) := by kernel_rfl
@[simp] theorem z_16 : zeroL Try.prog 16 = some [.lit (.pointer none)] := by kernel_rfl
@[simp] theorem tk_17 : tk Try.prog 17 = .ptr := by kernel_rfl
@[simp] theorem ld_17 : ldInfo Try.prog 17 = some (false, 1) := by kernel_rfl
@[simp] theorem z_17 : zeroL Try.prog 17 = some [.lit (.pointer none)] := by kernel_rfl
@[simp] theorem ld_18 : ldInfo Try.prog 18 = some (true, 1) := by kernel_rfl
@[simp] theorem z_18 : zeroL Try.prog 18 = some [.lit (.pointer none)] := by kernel_rfl
@[simp] theorem zv_18 : zeroV Try.prog 18 = some [.lit (.pointer none)] := by kernel_rfl
@[simp] theorem bi_18 : bInfo Try.prog 18 = some [(0, 1)] := by kernel_rfl
@[simp] theorem ld_19 : ldInfo Try.prog 19 = some (true, 1) := by kernel_rfl
@[simp] theorem z_19 : zeroL Try.prog 19 = some [.lit (.pointer none)] := by kernel_rfl
@[simp] theorem zv_19 : zeroV Try.prog 19 = some [.lit (.pointer none)] := by kernel_rfl
@[simp] theorem bi_19 : bInfo Try.prog 19 = some [(0, 1)] := by kernel_rfl
@[simp] theorem ld_20 : ldInfo Try.prog 20 = some (false, 1) := by kernel_rfl
@[simp] theorem tk_21 : tk Try.prog 21 = .int := by kernel_rfl
@[simp] theorem ld_21 : ldInfo Try.prog 21 = some (false, 1) := by kernel_rfl
@[simp] theorem cv_21 : cvtK Try.prog 21 = some .i32 := by kernel_rfl
@[simp] theorem z_21 : zeroL Try.prog 21 = some [.lit (.int .i32 0)] := by kernel_rfl
@[simp] theorem tk_22 : tk Try.prog 22 = .slice := by kernel_rfl
@[simp] theorem ld_22 : ldInfo Try.prog 22 = some (false, 1) := by kernel_rfl
@[simp] theorem sl_22 : slSize Try.prog 22 = some 1 := by kernel_rfl
@[simp] theorem si_22 : slInfo Try.prog 22 = some (1, 24) := by kernel_rfl
@[simp] theorem z_22 : zeroL Try.prog 22 = some [.lit (.slice none 0 0)] := by kernel_rfl
@[simp] theorem sz_22 : slZero Try.prog 22 = some [.lit (.slice none 0 0)] := by kernel_rfl
@[simp] theorem tk_23 : tk Try.prog 23 = .slice := by kernel_rfl
@[simp] theorem ld_23 : ldInfo Try.prog 23 = some (false, 1) := by kernel_rfl
@[simp] theorem sl_23 : slSize Try.prog 23 = some 1 := by kernel_rfl
@[simp] theorem si_23 : slInfo Try.prog 23 = some (1, 8) := by kernel_rfl
@[simp] theorem z_23 : zeroL Try.prog 23 = some [.lit (.slice none 0 0)] := by kernel_rfl
@[simp] theorem sz_23 : slZero Try.prog 23 = some [.lit (.int .i64 0)] := by kernel_rfl
@[simp] theorem tk_24 : tk Try.prog 24 = .func := by kernel_rfl
@[simp] theorem ld_24 : ldInfo Try.prog 24 = some (false, 1) := by kernel_rfl
@[simp] theorem z_24 : zeroL Try.prog 24 = some [.lit .nilFunc] := by kernel_rfl
@[simp] theorem tk_25 : tk Try.prog 25 = .func := by kernel_rfl
@[simp] theorem ld_25 : ldInfo Try.prog 25 = some (false, 1) := by kernel_rfl
@[simp] theorem z_25 : zeroL Try.prog 25 = some [.lit .nilFunc] := by kernel_rfl
@[simp] theorem tk_26 : tk Try.prog 26 = .ptr := by kernel_rfl
@[simp] theorem ld_26 : ldInfo Try.prog 26 = some (false, 1) := by kernel_rfl
@[simp] theorem z_26 : zeroL Try.prog 26 = some [.lit (.pointer none)] := by kernel_rfl
@[simp] theorem tk_27 : tk Try.prog 27 = .ptr := by kernel_rfl
@[simp] theorem ld_27 : ldInfo Try.prog 27 = some (false, 1) := by kernel_rfl
@[simp] theorem z_27 : zeroL Try.prog 27 = some [.lit (.pointer none)] := by kernel_rfl
@[simp] theorem tk_28 : tk Try.prog 28 = .ptr := by kernel_rfl
@[simp] theorem ld_28 : ldInfo Try.prog 28 = some (false, 1) := by kernel_rfl
@[simp] theorem z_28 : zeroL Try.prog 28 = some [.lit (.pointer none)] := by kernel_rfl
@[simp] theorem tk_29 : tk Try.prog 29 = .slice := by kernel_rfl
@[simp] theorem ld_29 : ldInfo Try.prog 29 = some (false, 1) := by kernel_rfl
@[simp] theorem sl_29 : slSize Try.prog 29 = some 5 := by kernel_rfl
@[simp] theorem si_29 : slInfo Try.prog 29 = some (5, 48) := by kernel_rfl
@[simp] theorem z_29 : zeroL Try.prog 29 = some [.lit (.slice none 0 0)] := by kernel_rfl
@[simp] theorem sz_29 : slZero Try.prog 29 = some [.lit (.int .i64 0), .lit (.int .i64 0), .lit (.slice none 0 0), .lit (.bool false), .lit (.bool false)] := by kernel_rfl
@[simp] theorem ld_30 : ldInfo Try.prog 30 = some (true, 2) := by kernel_rfl
@[simp] theorem z_30 : zeroL Try.prog 30 = some [.lit (.slice none 0 0), .lit (.int .i64 0)] := by kernel_rfl
@[simp] theorem zv_30 : zeroV Try.prog 30 = some [.lit (.slice none 0 0), .lit (.int .i64 0)] := by kernel_rfl
@[simp] theorem bi_30 : bInfo Try.prog 30 = some [(0, 1), (1, 1)] := by kernel_rfl
@[simp] theorem ld_31 : ldInfo Try.prog 31 = some (true, 2) := by kernel_rfl
@[simp] theorem z_31 : zeroL Try.prog 31 = some [.lit (.slice none 0 0), .lit (.int .i64 0)] := by kernel_rfl
@[simp] theorem zv_31 : zeroV Try.prog 31 = some [.lit (.slice none 0 0), .lit (.int .i64 0)] := by kernel_rfl
@[simp] theorem bi_31 : bInfo Try.prog 31 = some [(0, 1), (1, 1)] := by kernel_rfl
@[simp] theorem tk_32 : tk Try.prog 32 = .slice := by kernel_rfl
@[simp] theorem ld_32 : ldInfo Try.prog 32 = some (false, 1) := by kernel_rfl
@[simp] theorem sl_32 : slSize Try.prog 32 = some 3 := by kernel_rfl
@[simp] theorem si_32 : slInfo Try.prog 32 = some (3, 24) := by kernel_rfl
@[simp] theorem z_32 : zeroL Try.prog 32 = some [.lit (.slice none 0 0)] := by kernel_rfl
@[simp] theorem sz_32 : slZero Try.prog 32 = some [.lit (.int .i64 0), .lit (.int .i64 0), .lit (.int .i64 0)] := by kernel_rfl
@[simp] theorem ld_33 : ldInfo Try.prog 33 = some (true, 3) := by kernel_rfl
@[simp] theorem z_33 : zeroL Try.prog 33 = some [.lit (.int .i64 0), .lit (.slice none 0 0), .lit (.int .i64 0)] := by kernel_rfl
@[simp] theorem zv_33 : zeroV Try.prog 33 = some [.lit (.int .i64 0), .lit (.slice none 0 0), .lit (.int .i64 0)] := by kernel_rfl
@[simp] theorem bi_33 : bInfo Try.prog 33 = some [(0, 1), (1, 1), (2, 1)] := by kernel_rfl
@[simp] theorem ld_34 : ldInfo Try.prog 34 = some (true, 3) := by kernel_rfl
@[simp] theorem z_34 : zeroL Try.prog 34 = some [.lit (.int .i64 0), .lit (.slice none 0 0), .lit (.int .i64 0)] := by kernel_rfl
@[simp] theorem zv_34 : zeroV Try.prog 34 = some [.lit (.int .i64 0), .lit (.slice none 0 0), .lit (.int .i64 0)] := by kernel_rfl
@[simp] theorem bi_34 : bInfo Try.prog 34 = some [(0, 1), (1, 1), (2, 1)] := by kernel_rfl
@[simp] theorem ld_35 : ldInfo Try.prog 35 = some (true, 11) := by kernel_rfl
@[simp] theorem z_35 : zeroL Try.prog 35 = some [.lit (.pointer none), .lit (.pointer none), .lit (.pointer none), .lit (.slice none 0 0), .lit (.int .i64 0), .lit (.int .i64 0), .lit (.slice none 0 0), .lit (.int .i64 0), .lit (.slice none 0 0), .lit (.slice none 0 0), .lit (.bool false)] := by kernel_rfl
@[simp] theorem zv_35 : zeroV Try.prog 35 = some [.lit (.pointer none), .lit (.pointer none), .lit (.pointer none), .lit (.slice none 0 0), .lit (.int .i64 0), .lit (.int .i64 0), .lit (.slice none 0 0), .lit (.int .i64 0), .lit (.slice none 0 0), .lit (.slice none 0 0), .lit (.bool false)] := by kernel_rfl
@[simp] theorem bi_35 : bInfo Try.prog 35 = some [(0, 1), (1, 1), (2, 1), (3, 2), (5, 3), (8, 1), (9, 1), (10, 1)] := by kernel_rfl
@[simp] theorem ld_36 : ldInfo Try.prog 36 = some (true, 11) := by kernel_rfl
@[simp] theorem z_36 : zeroL Try.prog 36 = some [.lit (.pointer none), .lit (.pointer none), .lit (.pointer none), .lit (.slice none 0 0), .lit (.int .i64 0), .lit (.int .i64 0), .lit (.slice none 0 0), .lit (.int .i64 0), .lit (.slice none 0 0), .lit (.slice none 0 0), .lit (.bool false)] := by kernel_rfl
@[simp] theorem zv_36 : zeroV Try.prog 36 = some [.lit (.pointer none), .lit (.pointer none), .lit (.pointer none), .lit (.slice none 0 0), .lit (.int .i64 0), .lit (.int .i64 0), .lit (.slice none 0 0), .lit (.int .i64 0), .lit (.slice none 0 0), .lit (.slice none 0 0), .lit (.bool false)] := by kernel_rfl
@[simp] theorem bi_36 : bInfo Try.prog 36 = some [(0, 1), (1, 1), (2, 1), (3, 2), (5, 3), (8, 1), (9, 1), (10, 1)] := by kernel_rfl
@[simp] theorem tk_37 : tk Try.prog 37 = .func := by kernel_rfl
@[simp] theorem ld_37 : ldInfo Try.prog 37 = some (false, 1) := by kernel_rfl
@[simp] theorem z_37 : zeroL Try.prog 37 = some [.lit .nilFunc] := by kernel_rfl
@[simp] theorem tk_38 : tk Try.prog 38 = .int := by kernel_rfl
@[simp] theorem ld_38 : ldInfo Try.prog 38 = some (false, 1) := by kernel_rfl
@[simp] theorem cv_38 : cvtK Try.prog 38 = some .i64 := by kernel_rfl
@[simp] theorem z_38 : zeroL Try.prog 38 = some [.lit (.int .i64 0)] := by kernel_rfl
@[simp] theorem tk_39 : tk Try.prog 39 = .func := by kernel_rfl
@[simp] theorem ld_39 : ldInfo Try.prog 39 = some (false, 1) := by kernel_rfl
@[simp] theorem z_39 : zeroL Try.prog 39 = some [.lit .nilFunc] := by kernel_rfl
@[simp] theorem tk_40 : tk Try.prog 40 = .func := by kernel_rfl
@[simp] theorem ld_40 : ldInfo Try.prog 40 = some (false, 1) := by kernel_rfl
@[simp] theorem z_40 : zeroL Try.prog 40 = some [.lit .nilFunc] := by kernel_rfl
@[simp] theorem tk_41 : tk Try.prog 41 = .func := by kernel_rfl
@[simp] theorem ld_41 : ldInfo Try.prog 41 = some (false, 1) := by kernel_rfl
@[simp] theorem z_41 : zeroL Try.prog 41 = some [.lit .nilFunc] := by kernel_rfl
@[simp] theorem tk_42 : tk Try.prog 42 = .func := by kernel_rfl
@[simp] theorem ld_42 : ldInfo Try.prog 42 = some (false, 1) := by kernel_rfl
@[simp] theorem z_42 : zeroL Try.prog 42 = some [.lit .nilFunc] := by kernel_rfl
@[simp] theorem tk_43 : tk Try.prog 43 = .func := by kernel_rfl
@[simp] theorem ld_43 : ldInfo Try.prog 43 = some (false, 1) := by kernel_rfl
@[simp] theorem z_43 : zeroL Try.prog 43 = some [.lit .nilFunc] := by kernel_rfl
@[simp] theorem tk_44 : tk Try.prog 44 = .func := by kernel_rfl
@[simp] theorem ld_44 : ldInfo Try.prog 44 = some (false, 1) := by kernel_rfl
@[simp] theorem z_44 : zeroL Try.prog 44 = some [.lit .nilFunc] := by kernel_rfl
@[simp] theorem tk_45 : tk Try.prog 45 = .func := by kernel_rfl
@[simp] theorem ld_45 : ldInfo Try.prog 45 = some (false, 1) := by kernel_rfl
@[simp] theorem z_45 : zeroL Try.prog 45 = some [.lit .nilFunc] := by kernel_rfl
@[simp] theorem tk_46 : tk Try.prog 46 = .func := by kernel_rfl
@[simp] theorem ld_46 : ldInfo Try.prog 46 = some (false, 1) := by kernel_rfl
@[simp] theorem z_46 : zeroL Try.prog 46 = some [.lit .nilFunc] := by kernel_rfl
@[simp] theorem tk_47 : tk Try.prog 47 = .func := by kernel_rfl
@[simp] theorem ld_47 : ldInfo Try.prog 47 = some (false, 1) := by kernel_rfl
@[simp] theorem z_47 : zeroL Try.prog 47 = some [.lit .nilFunc] := by kernel_rfl
@[simp] theorem ld_48 : ldInfo Try.prog 48 = some (true, 2) := by kernel_rfl
@[simp] theorem z_48 : zeroL Try.prog 48 = some [.lit (.int .i64 0), .lit (.slice none 0 0)] := by kernel_rfl
@[simp] theorem zv_48 : zeroV Try.prog 48 = some [.lit (.int .i64 0), .lit (.slice none 0 0)] := by kernel_rfl
@[simp] theorem bi_48 : bInfo Try.prog 48 = some [(0, 1), (1, 1)] := by kernel_rfl
@[simp] theorem ld_49 : ldInfo Try.prog 49 = some (true, 2) := by kernel_rfl
@[simp] theorem z_49 : zeroL Try.prog 49 = some [.lit (.int .i64 0), .lit (.slice none 0 0)] := by kernel_rfl
@[simp] theorem zv_49 : zeroV Try.prog 49 = some [.lit (.int .i64 0), .lit (.slice none 0 0)] := by kernel_rfl
@[simp] theorem bi_49 : bInfo Try.prog 49 = some [(0, 1), (1, 1)] := by kernel_rfl
@[simp] theorem tk_50 : tk Try.prog 50 = .func := by kernel_rfl
@[simp] theorem ld_50 : ldInfo Try.prog 50 = some (false, 1) := by kernel_rfl
@[simp] theorem z_50 : zeroL Try.prog 50 = some [.lit .nilFunc] := by kernel_rfl
@[simp] theorem ld_51 : ldInfo Try.prog 51 = some (false, 1) := by kernel_rfl
@[simp] theorem tk_52 : tk Try.prog 52 = .func := by kernel_rfl
@[simp] theorem ld_52 : ldInfo Try.prog 52 = some (false, 1) := by kernel_rfl
@[simp] theorem z_52 : zeroL Try.prog 52 = some [.lit .nilFunc] := by kernel_rfl
@[simp] theorem ld_53 : ldInfo Try.prog 53 = some (false, 1) := by kernel_rfl
@[simp] theorem tk_54 : tk Try.prog 54 = .func := by kernel_rfl
@[simp] theorem ld_54 : ldInfo Try.prog 54 = some (false, 1) := by kernel_rfl
@[simp] theorem z_54 : zeroL Try.prog 54 = some [.lit .nilFunc] := by kernel_rfl
@[simp] theorem tk_55 : tk Try.prog 55 = .func := by kernel_rfl
@[simp] theorem ld_55 : ldInfo Try.prog 55 = some (false, 1) := by kernel_rfl
@[simp] theorem z_55 : zeroL Try.prog 55 = some [.lit .nilFunc] := by kernel_rfl
@[simp] theorem ld_56 : ldInfo Try.prog 56 = some (false, 1) := by kernel_rfl
@[simp] theorem tk_57 : tk Try.prog 57 = .func := by kernel_rfl
@[simp] theorem ld_57 : ldInfo Try.prog 57 = some (false, 1) := by kernel_rfl
@[simp] theorem z_57 : zeroL Try.prog 57 = some [.lit .nilFunc] := by kernel_rfl
@[simp] theorem ld_58 : ldInfo Try.prog 58 = some (false, 1) := by kernel_rfl
@[simp] theorem tk_59 : tk Try.prog 59 = .func := by kernel_rfl
@[simp] theorem ld_59 : ldInfo Try.prog 59 = some (false, 1) := by kernel_rfl
@[simp] theorem z_59 : zeroL Try.prog 59 = some [.lit .nilFunc] := by kernel_rfl
@[simp] theorem tk_60 : tk Try.prog 60 = .map := by kernel_rfl
@[simp] theorem ld_60 : ldInfo Try.prog 60 = some (false, 1) := by kernel_rfl
@[simp] theorem z_60 : zeroL Try.prog 60 = some [.lit (.map none)] := by kernel_rfl
@[simp] theorem mk_60 : mpKey Try.prog 60 = true := by kernel_rfl
@[simp] theorem mp_60 : mpInfo Try.prog 60 = some (.lit (.pointer none)) := by kernel_rfl
@[simp] theorem tk_61 : tk Try.prog 61 = .map := by kernel_rfl
@[simp] theorem ld_61 : ldInfo Try.prog 61 = some (false, 1) := by kernel_rfl
@[simp] theorem z_61 : zeroL Try.prog 61 = some [.lit (.map none)] := by kernel_rfl
@[simp] theorem mk_61 : mpKey Try.prog 61 = true := by kernel_rfl
@[simp] theorem mp_61 : mpInfo Try.prog 61 = some (.lit (.slice none 0 0)) := by kernel_rfl
@[simp] theorem tk_62 : tk Try.prog 62 = .map := by kernel_rfl
@[simp] theorem ld_62 : ldInfo Try.prog 62 = some (false, 1) := by kernel_rfl
@[simp] theorem z_62 : zeroL Try.prog 62 = some [.lit (.map none)] := by kernel_rfl
@[simp] theorem mk_62 : mpKey Try.prog 62 = true := by kernel_rfl
@[simp] theorem mp_62 : mpInfo Try.prog 62 = some (.lit (.int .i64 0)) := by kernel_rfl
@[simp] theorem ld_63 : ldInfo Try.prog 63 = some (true, 7) := by kernel_rfl
@[simp] theorem z_63 : zeroL Try.prog 63 = some [.lit (.pointer none), .lit (.pointer none), .lit (.map none), .lit (.map none), .lit (.map none), .lit (.int .i64 0), .lit (.slice none 0 0)] := by kernel_rfl
@[simp] theorem zv_63 : zeroV Try.prog 63 = some [.lit (.pointer none), .lit (.pointer none), .lit (.map none), .lit (.map none), .lit (.map none), .lit (.int .i64 0), .lit (.slice none 0 0)] := by kernel_rfl
@[simp] theorem bi_63 : bInfo Try.prog 63 = some [(0, 1), (1, 1), (2, 1), (3, 1), (4, 1), (5, 1), (6, 1)] := by kernel_rfl
@[simp] theorem ld_64 : ldInfo Try.prog 64 = some (true, 7) := by kernel_rfl
@[simp] theorem z_64 : zeroL Try.prog 64 = some [.lit (.pointer none), .lit (.pointer none), .lit (.map none), .lit (.map none), .lit (.map none), .lit (.int .i64 0), .lit (.slice none 0 0)] := by kernel_rfl
@[simp] theorem zv_64 : zeroV Try.prog 64 = some [.lit (.pointer none), .lit (.pointer none), .lit (.map none), .lit (.map none), .lit (.map none), .lit (.int .i64 0), .lit (.slice none 0 0)] := by kernel_rfl
@[simp] theorem bi_64 : bInfo Try.prog 64 = some [(0, 1), (1, 1), (2, 1), (3, 1), (4, 1), (5, 1), (6, 1)] := by kernel_rfl
@[simp] theorem tk_65 : tk Try.prog 65 = .ptr := by kernel_rfl
@[simp] theorem ld_65 : ldInfo Try.prog 65 = some (false, 1) := by kernel_rfl
@[simp] theorem z_65 : zeroL Try.prog 65 = some [.lit (.pointer none)] := by kernel_rfl
@[simp] theorem tk_66 : tk Try.prog 66 = .func := by kernel_rfl
@[simp] theorem ld_66 : ldInfo Try.prog 66 = some (false, 1) := by kernel_rfl
@[simp] theorem z_66 : zeroL Try.prog 66 = some [.lit .nilFunc] := by kernel_rfl
@[simp] theorem tk_67 : tk Try.prog 67 = .func := by kernel_rfl
@[simp] theorem ld_67 : ldInfo Try.prog 67 = some (false, 1) := by kernel_rfl
@[simp] theorem z_67 : zeroL Try.prog 67 = some [.lit .nilFunc] := by kernel_rfl
@[simp] theorem tk_68 : tk Try.prog 68 = .func := by kernel_rfl
@[simp] theorem ld_68 : ldInfo Try.prog 68 = some (false, 1) := by kernel_rfl
@[simp] theorem z_68 : zeroL Try.prog 68 = some [.lit .nilFunc] := by kernel_rfl
@[simp] theorem tk_69 : tk Try.prog 69 = .flat 2 := by kernel_rfl
@[simp] theorem ld_69 : ldInfo Try.prog 69 = some (true, 2) := by kernel_rfl
@[simp] theorem sln_69 : slSize Try.prog 69 = none := by kernel_rfl
@[simp] theorem ar_69 : arSize Try.prog 69 = some (2, 1) := by kernel_rfl
@[simp] theorem z_69 : zeroL Try.prog 69 = some [.lit (.int .i64 0), .lit (.int .i64 0)] := by kernel_rfl
@[simp] theorem zv_69 : zeroV Try.prog 69 = some [.lit (.int .i64 0), .lit (.int .i64 0)] := by kernel_rfl
@[simp] theorem bi_69 : bInfo Try.prog 69 = some [(0, 1), (1, 1)] := by kernel_rfl
@[simp] theorem ai_69 : arInfo Try.prog 69 = some (2, false, 1) := by kernel_rfl
@[simp] theorem ld_70 : ldInfo Try.prog 70 = some (true, 3) := by kernel_rfl
@[simp] theorem z_70 : zeroL Try.prog 70 = some [.lit (.slice none 0 0), .lit (.int .i64 0), .lit (.int .i64 0)] := by kernel_rfl
@[simp] theorem zv_70 : zeroV Try.prog 70 = some [.lit (.slice none 0 0), .lit (.int .i64 0), .lit (.int .i64 0)] := by kernel_rfl
@[simp] theorem bi_70 : bInfo Try.prog 70 = some [(0, 1), (1, 2)] := by kernel_rfl
@[simp] theorem ld_71 : ldInfo Try.prog 71 = some (true, 3) := by kernel_rfl
@[simp] theorem z_71 : zeroL Try.prog 71 = some [.lit (.slice none 0 0), .lit (.int .i64 0), .lit (.int .i64 0)] := by kernel_rfl
@[simp] theorem zv_71 : zeroV Try.prog 71 = some [.lit (.slice none 0 0), .lit (.int .i64 0), .lit (.int .i64 0)] := by kernel_rfl
@[simp] theorem bi_71 : bInfo Try.prog 71 = some [(0, 1), (1, 2)] := by kernel_rfl
@[simp] theorem tk_72 : tk Try.prog 72 = .func := by kernel_rfl
@[simp] theorem ld_72 : ldInfo Try.prog 72 = some (false, 1) := by kernel_rfl
@[simp] theorem z_72 : zeroL Try.prog 72 = some [.lit .nilFunc] := by kernel_rfl
@[simp] theorem tk_73 : tk Try.prog 73 = .slice := by kernel_rfl
@[simp] theorem ld_73 : ldInfo Try.prog 73 = some (false, 1) := by kernel_rfl
@[simp] theorem sl_73 : slSize Try.prog 73 = some 4 := by kernel_rfl
@[simp] theorem si_73 : slInfo Try.prog 73 = some (4, 32) := by kernel_rfl
@[simp] theorem z_73 : zeroL Try.prog 73 = some [.lit (.slice none 0 0)] := by kernel_rfl
@[simp] theorem sz_73 : slZero Try.prog 73 = some [.lit (.int .i64 0), .lit (.int .i64 0), .lit (.int .i64 0), .lit (.int .i64 0)] := by kernel_rfl
@[simp] theorem ld_74 : ldInfo Try.prog 74 = some (true, 4) := by kernel_rfl
@[simp] theorem z_74 : zeroL Try.prog 74 = some [.lit (.slice none 0 0), .lit (.slice none 0 0), .lit (.slice none 0 0), .lit (.bool false)] := by kernel_rfl
@[simp] theorem zv_74 : zeroV Try.prog 74 = some [.lit (.slice none 0 0), .lit (.slice none 0 0), .lit (.slice none 0 0), .lit (.bool false)] := by kernel_rfl
@[simp] theorem bi_74 : bInfo Try.prog 74 = some [(0, 1), (1, 1), (2, 1), (3, 1)] := by kernel_rfl
@[simp] theorem ld_75 : ldInfo Try.prog 75 = some (true, 4) := by kernel_rfl
@[simp] theorem z_75 : zeroL Try.prog 75 = some [.lit (.slice none 0 0), .lit (.slice none 0 0), .lit (.slice none 0 0), .lit (.bool false)] := by kernel_rfl
@[simp] theorem zv_75 : zeroV Try.prog 75 = some [.lit (.slice none 0 0), .lit (.slice none 0 0), .lit (.slice none 0 0), .lit (.bool false)] := by kernel_rfl
@[simp] theorem bi_75 : bInfo Try.prog 75 = some [(0, 1), (1, 1), (2, 1), (3, 1)] := by kernel_rfl
@[simp] theorem tk_76 : tk Try.prog 76 = .func := by kernel_rfl
@[simp] theorem ld_76 : ldInfo Try.prog 76 = some (false, 1) := by kernel_rfl
@[simp] theorem z_76 : zeroL Try.prog 76 = some [.lit .nilFunc] := by kernel_rfl
@[simp] theorem tk_77 : tk Try.prog 77 = .func := by kernel_rfl
@[simp] theorem ld_77 : ldInfo Try.prog 77 = some (false, 1) := by kernel_rfl
@[simp] theorem z_77 : zeroL Try.prog 77 = some [.lit .nilFunc] := by kernel_rfl
@[simp] theorem tk_78 : tk Try.prog 78 = .flat 4 := by kernel_rfl
@[simp] theorem ld_78 : ldInfo Try.prog 78 = some (true, 4) := by kernel_rfl
@[simp] theorem z_78 : zeroL Try.prog 78 = some [.lit (.int .i64 0), .lit (.int .i64 0), .lit (.int .i64 0), .lit (.int .i64 0)] := by kernel_rfl
@[simp] theorem zv_78 : zeroV Try.prog 78 = some [.lit (.int .i64 0), .lit (.int .i64 0), .lit (.int .i64 0), .lit (.int .i64 0)] := by kernel_rfl
@[simp] theorem bi_78 : bInfo Try.prog 78 = some [(0, 1), (1, 1), (2, 1), (3, 1)] := by kernel_rfl
@[simp] theorem tk_79 : tk Try.prog 79 = .flat 4 := by kernel_rfl
@[simp] theorem ld_79 : ldInfo Try.prog 79 = some (true, 4) := by kernel_rfl
@[simp] theorem z_79 : zeroL Try.prog 79 = some [.lit (.int .i64 0), .lit (.int .i64 0), .lit (.int .i64 0), .lit (.int .i64 0)] := by kernel_rfl
@[simp] theorem zv_79 : zeroV Try.prog 79 = some [.lit (.int .i64 0), .lit (.int .i64 0), .lit (.int .i64 0), .lit (.int .i64 0)] := by kernel_rfl
@[simp] theorem bi_79 : bInfo Try.prog 79 = some [(0, 1), (1, 1), (2, 1), (3, 1)] := by kernel_rfl
@[simp] theorem ld_80 : ldInfo Try.prog 80 = some (false, 1) := by kernel_rfl
@[simp] theorem tk_81 : tk Try.prog 81 = .func := by kernel_rfl
@[simp] theorem ld_81 : ldInfo Try.prog 81 = some (false, 1) := by kernel_rfl
@[simp] theorem z_81 : zeroL Try.prog 81 = some [.lit .nilFunc] := by kernel_rfl
@[simp] theorem tk_82 : tk Try.prog 82 = .func := by kernel_rfl
@[simp] theorem ld_82 : ldInfo Try.prog 82 = some (false, 1) := by kernel_rfl
@[simp] theorem z_82 : zeroL Try.prog 82 = some [.lit .nilFunc] := by kernel_rfl
@[simp] theorem ld_83 : ldInfo Try.prog 83 = some (true, 2) := by kernel_rfl
@[simp] theorem z_83 : zeroL Try.prog 83 = some [.lit (.slice none 0 0), .lit (.map none)] := by kernel_rfl
@[simp] theorem zv_83 : zeroV Try.prog 83 = some [.lit (.slice none 0 0), .lit (.map none)] := by kernel_rfl
@[simp] theorem bi_83 : bInfo Try.prog 83 = some [(0, 1), (1, 1)] := by kernel_rfl
@[simp] theorem ld_84 : ldInfo Try.prog 84 = some (true, 2) := by kernel_rfl
@[simp] theorem z_84 : zeroL Try.prog 84 = some [.lit (.slice none 0 0), .lit (.map none)] := by kernel_rfl
@[simp] theorem zv_84 : zeroV Try.prog 84 = some [.lit (.slice none 0 0), .lit (.map none)] := by kernel_rfl
@[simp] theorem bi_84 : bInfo Try.prog 84 = some [(0, 1), (1, 1)] := by kernel_rfl
@[simp] theorem tk_85 : tk Try.prog 85 = .func := by kernel_rfl
@[simp] theorem ld_85 : ldInfo Try.prog 85 = some (false, 1) := by kernel_rfl
@[simp] theorem z_85 : zeroL Try.prog 85 = some [.lit .nilFunc] := by kernel_rfl
@[simp] theorem tk_86 : tk Try.prog 86 = .func := by kernel_rfl
@[simp] theorem ld_86 : ldInfo Try.prog 86 = some (false, 1) := by kernel_rfl
@[simp] theorem z_86 : zeroL Try.prog 86 = some [.lit .nilFunc] := by kernel_rfl
@[simp] theorem tk_87 : tk Try.prog 87 = .func := by kernel_rfl
@[simp] theorem ld_87 : ldInfo Try.prog 87 = some (false, 1) := by kernel_rfl
@[simp] theorem z_87 : zeroL Try.prog 87 = some [.lit .nilFunc] := by kernel_rfl
@[simp] theorem tk_88 : tk Try.prog 88 = .func := by kernel_rfl
@[simp] theorem ld_88 : ldInfo Try.prog 88 = some (false, 1) := by kernel_rfl
@[simp] theorem z_88 : zeroL Try.prog 88 = some [.lit .nilFunc] := by kernel_rfl
@[simp] theorem tk_89 : tk Try.prog 89 = .func := by kernel_rfl
@[simp] theorem ld_89 : ldInfo Try.prog 89 = some (false, 1) := by kernel_rfl
@[simp] theorem z_89 : zeroL Try.prog 89 = some [.lit .nilFunc] := by kernel_rfl
@[simp] theorem tk_90 : tk Try.prog 90 = .func := by kernel_rfl
@[simp] theorem ld_90 : ldInfo Try.prog 90 = some (false, 1) := by kernel_rfl
@[simp] theorem z_90 : zeroL Try.prog 90 = some [.lit .nilFunc] := by kernel_rfl
@[simp] theorem ld_91 : ldInfo Try.prog 91 = some (true, 5) := by kernel_rfl
@[simp] theorem z_91 : zeroL Try.prog 91 = some [.lit (.int .i64 0), .lit (.int .i64 0), .lit (.slice none 0 0), .lit (.bool false), .lit (.bool false)] := by kernel_rfl
@[simp] theorem zv_91 : zeroV Try.prog 91 = some [.lit (.int .i64 0), .lit (.int .i64 0), .lit (.slice none 0 0), .lit (.bool false), .lit (.bool false)] := by kernel_rfl
@[simp] theorem bi_91 : bInfo Try.prog 91 = some [(0, 1), (1, 1), (2, 1), (3, 1), (4, 1)] := by kernel_rfl
@[simp] theorem ld_92 : ldInfo Try.prog 92 = some (true, 5) := by kernel_rfl
@[simp] theorem z_92 : zeroL Try.prog 92 = some [.lit (.int .i64 0), .lit (.int .i64 0), .lit (.slice none 0 0), .lit (.bool false), .lit (.bool false)] := by kernel_rfl
@[simp] theorem zv_92 : zeroV Try.prog 92 = some [.lit (.int .i64 0), .lit (.int .i64 0), .lit (.slice none 0 0), .lit (.bool false), .lit (.bool false)] := by kernel_rfl
@[simp] theorem bi_92 : bInfo Try.prog 92 = some [(0, 1), (1, 1), (2, 1), (3, 1), (4, 1)] := by kernel_rfl
@[simp] theorem tk_93 : tk Try.prog 93 = .func := by kernel_rfl
@[simp] theorem ld_93 : ldInfo Try.prog 93 = some (false, 1) := by kernel_rfl
@[simp] theorem z_93 : zeroL Try.prog 93 = some [.lit .nilFunc] := by kernel_rfl
@[simp] theorem tk_94 : tk Try.prog 94 = .int := by kernel_rfl
@[simp] theorem ld_94 : ldInfo Try.prog 94 = some (false, 1) := by kernel_rfl
@[simp] theorem cv_94 : cvtK Try.prog 94 = some .i64 := by kernel_rfl
@[simp] theorem z_94 : zeroL Try.prog 94 = some [.lit (.int .i64 0)] := by kernel_rfl
@[simp] theorem tk_95 : tk Try.prog 95 = .func := by kernel_rfl
@[simp] theorem ld_95 : ldInfo Try.prog 95 = some (false, 1) := by kernel_rfl
@[simp] theorem z_95 : zeroL Try.prog 95 = some [.lit .nilFunc] := by kernel_rfl
@[simp] theorem tk_96 : tk Try.prog 96 = .func := by kernel_rfl
@[simp] theorem ld_96 : ldInfo Try.prog 96 = some (false, 1) := by kernel_rfl
@[simp] theorem z_96 : zeroL Try.prog 96 = some [.lit .nilFunc] := by kernel_rfl
@[simp] theorem tk_97 : tk Try.prog 97 = .func := by kernel_rfl
@[simp] theorem ld_97 : ldInfo Try.prog 97 = some (false, 1) := by kernel_rfl
@[simp] theorem z_97 : zeroL Try.prog 97 = some [.lit .nilFunc] := by kernel_rfl
@[simp] theorem tk_98 : tk Try.prog 98 = .func := by kernel_rfl
@[simp] theorem ld_98 : ldInfo Try.prog 98 = some (false, 1) := by kernel_rfl
@[simp] theorem z_98 : zeroL Try.prog 98 = some [.lit .nilFunc] := by kernel_rfl
@[simp] theorem tk_99 : tk Try.prog 99 = .func := by kernel_rfl
@[simp] theorem ld_99 : ldInfo Try.prog 99 = some (false, 1) := by kernel_rfl
@[simp] theorem z_99 : zeroL Try.prog 99 = some [.lit .nilFunc] := by kernel_rfl
@[simp] theorem ld_100 : ldInfo Try.prog 100 = some (true, 2) := by kernel_rfl
@[simp] theorem z_100 : zeroL Try.prog 100 = some [.lit (.bool false), .lit (.slice none 0 0)] := by kernel_rfl
@[simp] theorem zv_100 : zeroV Try.prog 100 = some [.lit (.bool false), .lit (.slice none 0 0)] := by kernel_rfl
@[simp] theorem bi_100 : bInfo Try.prog 100 = some [(0, 1), (1, 1)] := by kernel_rfl
@[simp] theorem ld_101 : ldInfo Try.prog 101 = some (true, 2) := by kernel_rfl
@[simp] theorem z_101 : zeroL Try.prog 101 = some [.lit (.bool false), .lit (.slice none 0 0)] := by kernel_rfl
@[simp] theorem zv_101 : zeroV Try.prog 101 = some [.lit (.bool false), .lit (.slice none 0 0)] := by kernel_rfl
@[simp] theorem bi_101 : bInfo Try.prog 101 = some [(0, 1), (1, 1)] := by kernel_rfl
@[simp] theorem tk_102 : tk Try.prog 102 = .func := by kernel_rfl
@[simp] theorem ld_102 : ldInfo Try.prog 102 = some (false, 1) := by kernel_rfl
@[simp] theorem z_102 : zeroL Try.prog 102 = some [.lit .nilFunc] := by kernel_rfl
@[simp] theorem ld_103 : ldInfo Try.prog 103 = some (false, 1) := by kernel_rfl
@[simp] theorem tk_104 : tk Try.prog 104 = .func := by kernel_rfl
@[simp] theorem ld_104 : ldInfo Try.prog 104 = some (false, 1) := by kernel_rfl
@[simp] theorem z_104 : zeroL Try.prog 104 = some [.lit .nilFunc] := by kernel_rfl
@[simp] theorem tk_105 : tk Try.prog 105 = .func := by kernel_rfl
@[simp] theorem ld_105 : ldInfo Try.prog 105 = some (false, 1) := by kernel_rfl
@[simp] theorem z_105 : zeroL Try.prog 105 = some [.lit .nilFunc] := by kernel_rfl
@[simp] theorem tk_106 : tk Try.prog 106 = .func := by kernel_rfl
@[simp] theorem ld_106 : ldInfo Try.prog 106 = some (false, 1) := by kernel_rfl
@[simp] theorem z_106 : zeroL Try.prog 106 = some [.lit .nilFunc] := by kernel_rfl
@[simp] theorem tk_107 : tk Try.prog 107 = .func := by kernel_rfl
@[simp] theorem ld_107 : ldInfo Try.prog 107 = some (false, 1) := by kernel_rfl
@[simp] theorem z_107 : zeroL Try.prog 107 = some [.lit .nilFunc] := by kernel_rfl
@[simp] theorem tk_108 : tk Try.prog 108 = .int := by kernel_rfl
@[simp] theorem ld_108 : ldInfo Try.prog 108 = some (false, 1) := by kernel_rfl
@[simp] theorem cv_108 : cvtK Try.prog 108 = some .u64 := by kernel_rfl
@[simp] theorem z_108 : zeroL Try.prog 108 = some [.lit (.int .u64 0)] := by kernel_rfl
@[simp] theorem tk_109 : tk Try.prog 109 = .func := by kernel_rfl
@[simp] theorem ld_109 : ldInfo Try.prog 109 = some (false, 1) := by kernel_rfl
@[simp] theorem z_109 : zeroL Try.prog 109 = some [.lit .nilFunc] := by kernel_rfl
@[simp] theorem tk_110 : tk Try.prog 110 = .int := by kernel_rfl
@[simp] theorem ld_110 : ldInfo Try.prog 110 = some (false, 1) := by kernel_rfl
@[simp] theorem cv_110 : cvtK Try.prog 110 = some .i64 := by kernel_rfl
@[simp] theorem z_110 : zeroL Try.prog 110 = some [.lit (.int .i64 0)] := by kernel_rfl
@[simp] theorem ld_111 : ldInfo Try.prog 111 = some (false, 1) := by kernel_rfl
@[simp] theorem tk_112 : tk Try.prog 112 = .func := by kernel_rfl
@[simp] theorem ld_112 : ldInfo Try.prog 112 = some (false, 1) := by kernel_rfl
@[simp] theorem z_112 : zeroL Try.prog 112 = some [.lit .nilFunc] := by kernel_rfl
@[simp] theorem tk_113 : tk Try.prog 113 = .func := by kernel_rfl
@[simp] theorem ld_113 : ldInfo Try.prog 113 = some (false, 1) := by kernel_rfl
@[simp] theorem z_113 : zeroL Try.prog 113 = some [.lit .nilFunc] := by kernel_rfl
@[simp] theorem tk_114 : tk Try.prog 114 = .func := by kernel_rfl
@[simp] theorem ld_114 : ldInfo Try.prog 114 = some (false, 1) := by kernel_rfl
@[simp] theorem z_114 : zeroL Try.prog 114 = some [.lit .nilFunc] := by kernel_rfl
@[simp] theorem tk_115 : tk Try.prog 115 = .func := by kernel_rfl
@[simp] theorem ld_115 : ldInfo Try.prog 115 = some (false, 1) := by kernel_rfl
@[simp] theorem z_115 : zeroL Try.prog 115 = some [.lit .nilFunc] := by kernel_rfl
@[simp] theorem tk_116 : tk Try.prog 116 = .func := by kernel_rfl
@[simp] theorem ld_116 : ldInfo Try.prog 116 = some (false, 1) := by kernel_rfl
@[simp] theorem z_116 : zeroL Try.prog 116 = some [.lit .nilFunc] := by kernel_rfl
@[simp] theorem tk_117 : tk Try.prog 117 = .int := by kernel_rfl
@[simp] theorem ld_117 : ldInfo Try.prog 117 = some (false, 1) := by kernel_rfl
@[simp] theorem cv_117 : cvtK Try.prog 117 = some .u32 := by kernel_rfl
@[simp] theorem z_117 : zeroL Try.prog 117 = some [.lit (.int .u32 0)] := by kernel_rfl
@[simp] theorem tk_118 : tk Try.prog 118 = .func := by kernel_rfl
@[simp] theorem ld_118 : ldInfo Try.prog 118 = some (false, 1) := by kernel_rfl
@[simp] theorem z_118 : zeroL Try.prog 118 = some [.lit .nilFunc] := by kernel_rfl
@[simp] theorem tk_119 : tk Try.prog 119 = .int := by kernel_rfl
@[simp] theorem ld_119 : ldInfo Try.prog 119 = some (false, 1) := by kernel_rfl
@[simp] theorem cv_119 : cvtK Try.prog 119 = some .u64 := by kernel_rfl
@[simp] theorem z_119 : zeroL Try.prog 119 = some [.lit (.int .u64 0)] := by kernel_rfl
@[simp] theorem tk_120 : tk Try.prog 120 = .int := by kernel_rfl
@[simp] theorem ld_120 : ldInfo Try.prog 120 = some (false, 1) := by kernel_rfl
@[simp] theorem cv_120 : cvtK Try.prog 120 = some .u64 := by kernel_rfl
@[simp] theorem z_120 : zeroL Try.prog 120 = some [.lit (.int .u64 0)] := by kernel_rfl
@[simp] theorem tk_121 : tk Try.prog 121 = .func := by kernel_rfl
@[simp] theorem ld_121 : ldInfo Try.prog 121 = some (false, 1) := by kernel_rfl
@[simp] theorem z_121 : zeroL Try.prog 121 = some [.lit .nilFunc] := by kernel_rfl
@[simp] theorem tk_122 : tk Try.prog 122 = .func := by kernel_rfl
@[simp] theorem ld_122 : ldInfo Try.prog 122 = some (false, 1) := by kernel_rfl
@[simp] theorem z_122 : zeroL Try.prog 122 = some [.lit .nilFunc] := by kernel_rfl
@[simp] theorem tk_123 : tk Try.prog 123 = .func := by kernel_rfl
@[simp] theorem ld_123 : ldInfo Try.prog 123 = some (false, 1) := by kernel_rfl
@[simp] theorem z_123 : zeroL Try.prog 123 = some [.lit .nilFunc] := by kernel_rfl
@[simp] theorem tk_124 : tk Try.prog 124 = .ptr := by kernel_rfl
@[simp] theorem ld_124 : ldInfo Try.prog 124 = some (false, 1) := by kernel_rfl
@[simp] theorem z_124 : zeroL Try.prog 124 = some [.lit (.pointer none)] := by kernel_rfl
@[simp] theorem tk_125 : tk Try.prog 125 = .func := by kernel_rfl
@[simp] theorem ld_125 : ldInfo Try.prog 125 = some (false, 1) := by kernel_rfl
@[simp] theorem z_125 : zeroL Try.prog 125 = some [.lit .nilFunc] := by kernel_rfl
@[simp] theorem tk_126 : tk Try.prog 126 = .ptr := by kernel_rfl
@[simp] theorem ld_126 : ldInfo Try.prog 126 = some (false, 1) := by kernel_rfl
@[simp] theorem z_126 : zeroL Try.prog 126 = some [.lit (.pointer none)] := by kernel_rfl
@[simp] theorem ld_127 : ldInfo Try.prog 127 = some (false, 1) := by kernel_rfl
@[simp] theorem tk_128 : tk Try.prog 128 = .func := by kernel_rfl
@[simp] theorem ld_128 : ldInfo Try.prog 128 = some (false, 1) := by kernel_rfl
@[simp] theorem z_128 : zeroL Try.prog 128 = some [.lit .nilFunc] := by kernel_rfl
@[simp] theorem tk_129 : tk Try.prog 129 = .func := by kernel_rfl
@[simp] theorem ld_129 : ldInfo Try.prog 129 = some (false, 1) := by kernel_rfl
@[simp] theorem z_129 : zeroL Try.prog 129 = some [.lit .nilFunc] := by kernel_rfl
@[simp] theorem ld_130 : ldInfo Try.prog 130 = some (true, 4) := by kernel_rfl
@[simp] theorem z_130 : zeroL Try.prog 130 = some [.lit (.pointer none), .lit (.pointer none), .lit (.pointer none), .lit (.string ByteArray.empty)] := by kernel_rfl
@[simp] theorem zv_130 : zeroV Try.prog 130 = some [.lit (.pointer none), .lit (.pointer none), .lit (.pointer none), .lit (.string ByteArray.empty)] := by kernel_rfl
@[simp] theorem bi_130 : bInfo Try.prog 130 = some [(0, 1), (1, 1), (2, 1), (3, 1)] := by kernel_rfl
@[simp] theorem ld_131 : ldInfo Try.prog 131 = some (true, 4) := by kernel_rfl
@[simp] theorem z_131 : zeroL Try.prog 131 = some [.lit (.pointer none), .lit (.pointer none), .lit (.pointer none), .lit (.string ByteArray.empty)] := by kernel_rfl
@[simp] theorem zv_131 : zeroV Try.prog 131 = some [.lit (.pointer none), .lit (.pointer none), .lit (.pointer none), .lit (.string ByteArray.empty)] := by kernel_rfl
@[simp] theorem bi_131 : bInfo Try.prog 131 = some [(0, 1), (1, 1), (2, 1), (3, 1)] := by kernel_rfl
@[simp] theorem ld_132 : ldInfo Try.prog 132 = some (true, 0) := by kernel_rfl
@[simp] theorem sln_132 : slSize Try.prog 132 = none := by kernel_rfl
@[simp] theorem ar_132 : arSize Try.prog 132 = some (0, 1) := by kernel_rfl
@[simp] theorem z_132 : zeroL Try.prog 132 = some [] := by kernel_rfl
@[simp] theorem zv_132 : zeroV Try.prog 132 = some [] := by kernel_rfl
@[simp] theorem bi_132 : bInfo Try.prog 132 = some [] := by kernel_rfl
@[simp] theorem ai_132 : arInfo Try.prog 132 = some (0, false, 1) := by kernel_rfl
@[simp] theorem ld_133 : ldInfo Try.prog 133 = some (true, 0) := by kernel_rfl
@[simp] theorem z_133 : zeroL Try.prog 133 = some [] := by kernel_rfl
@[simp] theorem zv_133 : zeroV Try.prog 133 = some [] := by kernel_rfl
@[simp] theorem bi_133 : bInfo Try.prog 133 = some [(0, 0)] := by kernel_rfl
@[simp] theorem ld_134 : ldInfo Try.prog 134 = some (true, 0) := by kernel_rfl
@[simp] theorem z_134 : zeroL Try.prog 134 = some [] := by kernel_rfl
@[simp] theorem zv_134 : zeroV Try.prog 134 = some [] := by kernel_rfl
@[simp] theorem bi_134 : bInfo Try.prog 134 = some [(0, 0)] := by kernel_rfl
@[simp] theorem tk_135 : tk Try.prog 135 = .int := by kernel_rfl
@[simp] theorem ld_135 : ldInfo Try.prog 135 = some (false, 1) := by kernel_rfl
@[simp] theorem cv_135 : cvtK Try.prog 135 = some .u8 := by kernel_rfl
@[simp] theorem z_135 : zeroL Try.prog 135 = some [.lit (.int .u8 0)] := by kernel_rfl
@[simp] theorem tk_136 : tk Try.prog 136 = .int := by kernel_rfl
@[simp] theorem ld_136 : ldInfo Try.prog 136 = some (false, 1) := by kernel_rfl
@[simp] theorem cv_136 : cvtK Try.prog 136 = some .u8 := by kernel_rfl
@[simp] theorem z_136 : zeroL Try.prog 136 = some [.lit (.int .u8 0)] := by kernel_rfl
@[simp] theorem tk_137 : tk Try.prog 137 = .func := by kernel_rfl
@[simp] theorem ld_137 : ldInfo Try.prog 137 = some (false, 1) := by kernel_rfl
@[simp] theorem z_137 : zeroL Try.prog 137 = some [.lit .nilFunc] := by kernel_rfl
@[simp] theorem tk_138 : tk Try.prog 138 = .ptr := by kernel_rfl
@[simp] theorem ld_138 : ldInfo Try.prog 138 = some (false, 1) := by kernel_rfl
@[simp] theorem z_138 : zeroL Try.prog 138 = some [.lit (.pointer none)] := by kernel_rfl
@[simp] theorem tk_139 : tk Try.prog 139 = .int := by kernel_rfl
@[simp] theorem ld_139 : ldInfo Try.prog 139 = some (false, 1) := by kernel_rfl
@[simp] theorem cv_139 : cvtK Try.prog 139 = some .i32 := by kernel_rfl
@[simp] theorem z_139 : zeroL Try.prog 139 = some [.lit (.int .i32 0)] := by kernel_rfl
@[simp] theorem tk_140 : tk Try.prog 140 = .int := by kernel_rfl
@[simp] theorem ld_140 : ldInfo Try.prog 140 = some (false, 1) := by kernel_rfl
@[simp] theorem cv_140 : cvtK Try.prog 140 = some .i32 := by kernel_rfl
@[simp] theorem z_140 : zeroL Try.prog 140 = some [.lit (.int .i32 0)] := by kernel_rfl
@[simp] theorem ld_141 : ldInfo Try.prog 141 = some (true, 11) := by kernel_rfl
@[simp] theorem z_141 : zeroL Try.prog 141 = some [.lit (.int .u64 0), .lit (.int .u64 0), .lit (.int .u32 0), .lit (.int .u8 0), .lit (.int .u8 0), .lit (.int .u8 0), .lit (.int .u8 0), .lit .nilFunc, .lit (.pointer none), .lit (.int .i32 0), .lit (.int .i32 0)] := by kernel_rfl
@[simp] theorem zv_141 : zeroV Try.prog 141 = some [.lit (.int .u64 0), .lit (.int .u64 0), .lit (.int .u32 0), .lit (.int .u8 0), .lit (.int .u8 0), .lit (.int .u8 0), .lit (.int .u8 0), .lit .nilFunc, .lit (.pointer none), .lit (.int .i32 0), .lit (.int .i32 0)] := by kernel_rfl
@[simp] theorem bi_141 : bInfo Try.prog 141 = some [(0, 1), (1, 1), (2, 1), (3, 1), (4, 1), (5, 1), (6, 1), (7, 1), (8, 1), (9, 1), (10, 1)] := by kernel_rfl
@[simp] theorem ld_142 : ldInfo Try.prog 142 = some (true, 11) := by kernel_rfl
@[simp] theorem z_142 : zeroL Try.prog 142 = some [.lit (.int .u64 0), .lit (.int .u64 0), .lit (.int .u32 0), .lit (.int .u8 0), .lit (.int .u8 0), .lit (.int .u8 0), .lit (.int .u8 0), .lit .nilFunc, .lit (.pointer none), .lit (.int .i32 0), .lit (.int .i32 0)] := by kernel_rfl
@[simp] theorem zv_142 : zeroV Try.prog 142 = some [.lit (.int .u64 0), .lit (.int .u64 0), .lit (.int .u32 0), .lit (.int .u8 0), .lit (.int .u8 0), .lit (.int .u8 0), .lit (.int .u8 0), .lit .nilFunc, .lit (.pointer none), .lit (.int .i32 0), .lit (.int .i32 0)] := by kernel_rfl
@[simp] theorem bi_142 : bInfo Try.prog 142 = some [(0, 1), (1, 1), (2, 1), (3, 1), (4, 1), (5, 1), (6, 1), (7, 1), (8, 1), (9, 1), (10, 1)] := by kernel_rfl
@[simp] theorem tk_143 : tk Try.prog 143 = .flat 3 := by kernel_rfl
@[simp] theorem ld_143 : ldInfo Try.prog 143 = some (true, 3) := by kernel_rfl
@[simp] theorem z_143 : zeroL Try.prog 143 = some [.lit (.int .i64 0), .lit (.int .i64 0), .lit (.int .i64 0)] := by kernel_rfl
@[simp] theorem zv_143 : zeroV Try.prog 143 = some [.lit (.int .i64 0), .lit (.int .i64 0), .lit (.int .i64 0)] := by kernel_rfl
@[simp] theorem bi_143 : bInfo Try.prog 143 = some [(0, 1), (1, 1), (2, 1)] := by kernel_rfl
@[simp] theorem tk_144 : tk Try.prog 144 = .flat 3 := by kernel_rfl
@[simp] theorem ld_144 : ldInfo Try.prog 144 = some (true, 3) := by kernel_rfl
@[simp] theorem z_144 : zeroL Try.prog 144 = some [.lit (.int .i64 0), .lit (.int .i64 0), .lit (.int .i64 0)] := by kernel_rfl
@[simp] theorem zv_144 : zeroV Try.prog 144 = some [.lit (.int .i64 0), .lit (.int .i64 0), .lit (.int .i64 0)] := by kernel_rfl
@[simp] theorem bi_144 : bInfo Try.prog 144 = some [(0, 1), (1, 1), (2, 1)] := by kernel_rfl
@[simp] theorem ld_145 : ldInfo Try.prog 145 = some (false, 1) := by kernel_rfl
@[simp] theorem z_145 : zeroL Try.prog 145 = some [.lit (.pointer none)] := by kernel_rfl
@[simp] theorem fo_7_0 : fOff Try.prog 7 0 = some 0 := by kernel_rfl
@[simp] theorem fi_7_0 : fldInfo Try.prog 7 0 = some (0, false, 1) := by kernel_rfl
@[simp] theorem fo_7_1 : fOff Try.prog 7 1 = some 1 := by kernel_rfl
@[simp] theorem fi_7_1 : fldInfo Try.prog 7 1 = some (1, false, 1) := by kernel_rfl
@[simp] theorem fo_7_2 : fOff Try.prog 7 2 = some 2 := by kernel_rfl
@[simp] theorem fi_7_2 : fldInfo Try.prog 7 2 = some (2, false, 1) := by kernel_rfl
@[simp] theorem fo_7_3 : fOff Try.prog 7 3 = some 3 := by kernel_rfl
@[simp] theorem fi_7_3 : fldInfo Try.prog 7 3 = some (3, false, 1) := by kernel_rfl
@[simp] theorem fo_8_0 : fOff Try.prog 8 0 = some 0 := by kernel_rfl
@[simp] theorem fi_8_0 : fldInfo Try.prog 8 0 = some (0, false, 1) := by kernel_rfl
@[simp] theorem fo_8_1 : fOff Try.prog 8 1 = some 1 := by kernel_rfl
@[simp] theorem fi_8_1 : fldInfo Try.prog 8 1 = some (1, false, 1) := by kernel_rfl
@[simp] theorem fo_8_2 : fOff Try.prog 8 2 = some 2 := by kernel_rfl
@[simp] theorem fi_8_2 : fldInfo Try.prog 8 2 = some (2, false, 1) := by kernel_rfl
@[simp] theorem fo_8_3 : fOff Try.prog 8 3 = some 3 := by kernel_rfl
@[simp] theorem fi_8_3 : fldInfo Try.prog 8 3 = some (3, false, 1) := by kernel_rfl
@[simp] theorem fo_13_0 : fOff Try.prog 13 0 = some 0 := by kernel_rfl
@[simp] theorem fi_13_0 : fldInfo Try.prog 13 0 = some (0, false, 1) := by kernel_rfl
@[simp] theorem fo_13_1 : fOff Try.prog 13 1 = some 1 := by kernel_rfl
@[simp] theorem fi_13_1 : fldInfo Try.prog 13 1 = some (1, false, 1) := by kernel_rfl
@[simp] theorem fo_14_0 : fOff Try.prog 14 0 = some 0 := by kernel_rfl
@[simp] theorem fi_14_0 : fldInfo Try.prog 14 0 = some (0, false, 1) := by kernel_rfl
@[simp] theorem fo_14_1 : fOff Try.prog 14 1 = some 1 := by kernel_rfl
@[simp] theorem fi_14_1 : fldInfo Try.prog 14 1 = some (1, false, 1) := by kernel_rfl
@[simp] theorem fo_18_0 : fOff Try.prog 18 0 = some 0 := by kernel_rfl
@[simp] theorem fi_18_0 : fldInfo Try.prog 18 0 = some (0, false, 1) := by kernel_rfl
@[simp] theorem fo_19_0 : fOff Try.prog 19 0 = some 0 := by kernel_rfl
@[simp] theorem fi_19_0 : fldInfo Try.prog 19 0 = some (0, false, 1) := by kernel_rfl
@[simp] theorem fo_30_0 : fOff Try.prog 30 0 = some 0 := by kernel_rfl
@[simp] theorem fi_30_0 : fldInfo Try.prog 30 0 = some (0, false, 1) := by kernel_rfl
@[simp] theorem fo_30_1 : fOff Try.prog 30 1 = some 1 := by kernel_rfl
@[simp] theorem fi_30_1 : fldInfo Try.prog 30 1 = some (1, false, 1) := by kernel_rfl
@[simp] theorem fo_31_0 : fOff Try.prog 31 0 = some 0 := by kernel_rfl
@[simp] theorem fi_31_0 : fldInfo Try.prog 31 0 = some (0, false, 1) := by kernel_rfl
@[simp] theorem fo_31_1 : fOff Try.prog 31 1 = some 1 := by kernel_rfl
@[simp] theorem fi_31_1 : fldInfo Try.prog 31 1 = some (1, false, 1) := by kernel_rfl
@[simp] theorem fo_33_0 : fOff Try.prog 33 0 = some 0 := by kernel_rfl
@[simp] theorem fi_33_0 : fldInfo Try.prog 33 0 = some (0, false, 1) := by kernel_rfl
@[simp] theorem fo_33_1 : fOff Try.prog 33 1 = some 1 := by kernel_rfl
@[simp] theorem fi_33_1 : fldInfo Try.prog 33 1 = some (1, false, 1) := by kernel_rfl
@[simp] theorem fo_33_2 : fOff Try.prog 33 2 = some 2 := by kernel_rfl
@[simp] theorem fi_33_2 : fldInfo Try.prog 33 2 = some (2, false, 1) := by kernel_rfl
@[simp] theorem fo_34_0 : fOff Try.prog 34 0 = some 0 := by kernel_rfl
@[simp] theorem fi_34_0 : fldInfo Try.prog 34 0 = some (0, false, 1) := by kernel_rfl
@[simp] theorem fo_34_1 : fOff Try.prog 34 1 = some 1 := by kernel_rfl
@[simp] theorem fi_34_1 : fldInfo Try.prog 34 1 = some (1, false, 1) := by kernel_rfl
@[simp] theorem fo_34_2 : fOff Try.prog 34 2 = some 2 := by kernel_rfl
@[simp] theorem fi_34_2 : fldInfo Try.prog 34 2 = some (2, false, 1) := by kernel_rfl
@[simp] theorem fo_35_0 : fOff Try.prog 35 0 = some 0 := by kernel_rfl
@[simp] theorem fi_35_0 : fldInfo Try.prog 35 0 = some (0, false, 1) := by kernel_rfl
@[simp] theorem fo_35_1 : fOff Try.prog 35 1 = some 1 := by kernel_rfl
@[simp] theorem fi_35_1 : fldInfo Try.prog 35 1 = some (1, false, 1) := by kernel_rfl
@[simp] theorem fo_35_2 : fOff Try.prog 35 2 = some 2 := by kernel_rfl
@[simp] theorem fi_35_2 : fldInfo Try.prog 35 2 = some (2, false, 1) := by kernel_rfl
@[simp] theorem fo_35_3 : fOff Try.prog 35 3 = some 3 := by kernel_rfl
@[simp] theorem fi_35_3 : fldInfo Try.prog 35 3 = some (3, true, 2) := by kernel_rfl
@[simp] theorem fo_35_4 : fOff Try.prog 35 4 = some 5 := by kernel_rfl
@[simp] theorem fi_35_4 : fldInfo Try.prog 35 4 = some (5, true, 3) := by kernel_rfl
@[simp] theorem fo_35_5 : fOff Try.prog 35 5 = some 8 := by kernel_rfl
@[simp] theorem fi_35_5 : fldInfo Try.prog 35 5 = some (8, false, 1) := by kernel_rfl
@[simp] theorem fo_35_6 : fOff Try.prog 35 6 = some 9 := by kernel_rfl
@[simp] theorem fi_35_6 : fldInfo Try.prog 35 6 = some (9, false, 1) := by kernel_rfl
@[simp] theorem fo_35_7 : fOff Try.prog 35 7 = some 10 := by kernel_rfl
@[simp] theorem fi_35_7 : fldInfo Try.prog 35 7 = some (10, false, 1) := by kernel_rfl
@[simp] theorem fo_36_0 : fOff Try.prog 36 0 = some 0 := by kernel_rfl
@[simp] theorem fi_36_0 : fldInfo Try.prog 36 0 = some (0, false, 1) := by kernel_rfl
@[simp] theorem fo_36_1 : fOff Try.prog 36 1 = some 1 := by kernel_rfl
@[simp] theorem fi_36_1 : fldInfo Try.prog 36 1 = some (1, false, 1) := by kernel_rfl
@[simp] theorem fo_36_2 : fOff Try.prog 36 2 = some 2 := by kernel_rfl
@[simp] theorem fi_36_2 : fldInfo Try.prog 36 2 = some (2, false, 1) := by kernel_rfl
@[simp] theorem fo_36_3 : fOff Try.prog 36 3 = some 3 := by kernel_rfl
@[simp] theorem fi_36_3 : fldInfo Try.prog 36 3 = some (3, true, 2) := by kernel_rfl
@[simp] theorem fo_36_4 : fOff Try.prog 36 4 = some 5 := by kernel_rfl
@[simp] theorem fi_36_4 : fldInfo Try.prog 36 4 = some (5, true, 3) := by kernel_rfl
@[simp] theorem fo_36_5 : fOff Try.prog 36 5 = some 8 := by kernel_rfl
@[simp] theorem fi_36_5 : fldInfo Try.prog 36 5 = some (8, false, 1) := by kernel_rfl
@[simp] theorem fo_36_6 : fOff Try.prog 36 6 = some 9 := by kernel_rfl
@[simp] theorem fi_36_6 : fldInfo Try.prog 36 6 = some (9, false, 1) := by kernel_rfl
@[simp] theorem fo_36_7 : fOff Try.prog 36 7 = some 10 := by kernel_rfl
@[simp] theorem fi_36_7 : fldInfo Try.prog 36 7 = some (10, false, 1) := by kernel_rfl
@[simp] theorem fo_48_0 : fOff Try.prog 48 0 = some 0 := by kernel_rfl
@[simp] theorem fi_48_0 : fldInfo Try.prog 48 0 = some (0, false, 1) := by kernel_rfl
@[simp] theorem fo_48_1 : fOff Try.prog 48 1 = some 1 := by kernel_rfl
@[simp] theorem fi_48_1 : fldInfo Try.prog 48 1 = some (1, false, 1) := by kernel_rfl
@[simp] theorem fo_49_0 : fOff Try.prog 49 0 = some 0 := by kernel_rfl
@[simp] theorem fi_49_0 : fldInfo Try.prog 49 0 = some (0, false, 1) := by kernel_rfl
@[simp] theorem fo_49_1 : fOff Try.prog 49 1 = some 1 := by kernel_rfl
@[simp] theorem fi_49_1 : fldInfo Try.prog 49 1 = some (1, false, 1) := by kernel_rfl
@[simp] theorem fo_63_0 : fOff Try.prog 63 0 = some 0 := by kernel_rfl
@[simp] theorem fi_63_0 : fldInfo Try.prog 63 0 = some (0, false, 1) := by kernel_rfl
@[simp] theorem fo_63_1 : fOff Try.prog 63 1 = some 1 := by kernel_rfl
@[simp] theorem fi_63_1 : fldInfo Try.prog 63 1 = some (1, false, 1) := by kernel_rfl
@[simp] theorem fo_63_2 : fOff Try.prog 63 2 = some 2 := by kernel_rfl
@[simp] theorem fi_63_2 : fldInfo Try.prog 63 2 = some (2, false, 1) := by kernel_rfl
@[simp] theorem fo_63_3 : fOff Try.prog 63 3 = some 3 := by kernel_rfl
@[simp] theorem fi_63_3 : fldInfo Try.prog 63 3 = some (3, false, 1) := by kernel_rfl
@[simp] theorem fo_63_4 : fOff Try.prog 63 4 = some 4 := by kernel_rfl
@[simp] theorem fi_63_4 : fldInfo Try.prog 63 4 = some (4, false, 1) := by kernel_rfl
@[simp] theorem fo_63_5 : fOff Try.prog 63 5 = some 5 := by kernel_rfl
@[simp] theorem fi_63_5 : fldInfo Try.prog 63 5 = some (5, false, 1) := by kernel_rfl
@[simp] theorem fo_63_6 : fOff Try.prog 63 6 = some 6 := by kernel_rfl
@[simp] theorem fi_63_6 : fldInfo Try.prog 63 6 = some (6, false, 1) := by kernel_rfl
@[simp] theorem fo_64_0 : fOff Try.prog 64 0 = some 0 := by kernel_rfl
@[simp] theorem fi_64_0 : fldInfo Try.prog 64 0 = some (0, false, 1) := by kernel_rfl
@[simp] theorem fo_64_1 : fOff Try.prog 64 1 = some 1 := by kernel_rfl
@[simp] theorem fi_64_1 : fldInfo Try.prog 64 1 = some (1, false, 1) := by kernel_rfl
@[simp] theorem fo_64_2 : fOff Try.prog 64 2 = some 2 := by kernel_rfl
@[simp] theorem fi_64_2 : fldInfo Try.prog 64 2 = some (2, false, 1) := by kernel_rfl
@[simp] theorem fo_64_3 : fOff Try.prog 64 3 = some 3 := by kernel_rfl
@[simp] theorem fi_64_3 : fldInfo Try.prog 64 3 = some (3, false, 1) := by kernel_rfl
@[simp] theorem fo_64_4 : fOff Try.prog 64 4 = some 4 := by kernel_rfl
@[simp] theorem fi_64_4 : fldInfo Try.prog 64 4 = some (4, false, 1) := by kernel_rfl
@[simp] theorem fo_64_5 : fOff Try.prog 64 5 = some 5 := by kernel_rfl
@[simp] theorem fi_64_5 : fldInfo Try.prog 64 5 = some (5, false, 1) := by kernel_rfl
@[simp] theorem fo_64_6 : fOff Try.prog 64 6 = some 6 := by kernel_rfl
@[simp] theorem fi_64_6 : fldInfo Try.prog 64 6 = some (6, false, 1) := by kernel_rfl
@[simp] theorem fo_70_0 : fOff Try.prog 70 0 = some 0 := by kernel_rfl
@[simp] theorem fi_70_0 : fldInfo Try.prog 70 0 = some (0, false, 1) := by kernel_rfl
@[simp] theorem fo_70_1 : fOff Try.prog 70 1 = some 1 := by kernel_rfl
@[simp] theorem fi_70_1 : fldInfo Try.prog 70 1 = some (1, true, 2) := by kernel_rfl
@[simp] theorem fo_71_0 : fOff Try.prog 71 0 = some 0 := by kernel_rfl
@[simp] theorem fi_71_0 : fldInfo Try.prog 71 0 = some (0, false, 1) := by kernel_rfl
@[simp] theorem fo_71_1 : fOff Try.prog 71 1 = some 1 := by kernel_rfl
@[simp] theorem fi_71_1 : fldInfo Try.prog 71 1 = some (1, true, 2) := by kernel_rfl
@[simp] theorem fo_74_0 : fOff Try.prog 74 0 = some 0 := by kernel_rfl
@[simp] theorem fi_74_0 : fldInfo Try.prog 74 0 = some (0, false, 1) := by kernel_rfl
@[simp] theorem fo_74_1 : fOff Try.prog 74 1 = some 1 := by kernel_rfl
@[simp] theorem fi_74_1 : fldInfo Try.prog 74 1 = some (1, false, 1) := by kernel_rfl
@[simp] theorem fo_74_2 : fOff Try.prog 74 2 = some 2 := by kernel_rfl
@[simp] theorem fi_74_2 : fldInfo Try.prog 74 2 = some (2, false, 1) := by kernel_rfl
@[simp] theorem fo_74_3 : fOff Try.prog 74 3 = some 3 := by kernel_rfl
@[simp] theorem fi_74_3 : fldInfo Try.prog 74 3 = some (3, false, 1) := by kernel_rfl
@[simp] theorem fo_75_0 : fOff Try.prog 75 0 = some 0 := by kernel_rfl
@[simp] theorem fi_75_0 : fldInfo Try.prog 75 0 = some (0, false, 1) := by kernel_rfl
@[simp] theorem fo_75_1 : fOff Try.prog 75 1 = some 1 := by kernel_rfl
@[simp] theorem fi_75_1 : fldInfo Try.prog 75 1 = some (1, false, 1) := by kernel_rfl
@[simp] theorem fo_75_2 : fOff Try.prog 75 2 = some 2 := by kernel_rfl
@[simp] theorem fi_75_2 : fldInfo Try.prog 75 2 = some (2, false, 1) := by kernel_rfl
@[simp] theorem fo_75_3 : fOff Try.prog 75 3 = some 3 := by kernel_rfl
@[simp] theorem fi_75_3 : fldInfo Try.prog 75 3 = some (3, false, 1) := by kernel_rfl
@[simp] theorem fo_78_0 : fOff Try.prog 78 0 = some 0 := by kernel_rfl
@[simp] theorem fi_78_0 : fldInfo Try.prog 78 0 = some (0, false, 1) := by kernel_rfl
@[simp] theorem fo_78_1 : fOff Try.prog 78 1 = some 1 := by kernel_rfl
@[simp] theorem fi_78_1 : fldInfo Try.prog 78 1 = some (1, false, 1) := by kernel_rfl
@[simp] theorem fo_78_2 : fOff Try.prog 78 2 = some 2 := by kernel_rfl
@[simp] theorem fi_78_2 : fldInfo Try.prog 78 2 = some (2, false, 1) := by kernel_rfl
@[simp] theorem fo_78_3 : fOff Try.prog 78 3 = some 3 := by kernel_rfl
@[simp] theorem fi_78_3 : fldInfo Try.prog 78 3 = some (3, false, 1) := by kernel_rfl
@[simp] theorem fo_79_0 : fOff Try.prog 79 0 = some 0 := by kernel_rfl
@[simp] theorem fi_79_0 : fldInfo Try.prog 79 0 = some (0, false, 1) := by kernel_rfl
@[simp] theorem fo_79_1 : fOff Try.prog 79 1 = some 1 := by kernel_rfl
@[simp] theorem fi_79_1 : fldInfo Try.prog 79 1 = some (1, false, 1) := by kernel_rfl
@[simp] theorem fo_79_2 : fOff Try.prog 79 2 = some 2 := by kernel_rfl
@[simp] theorem fi_79_2 : fldInfo Try.prog 79 2 = some (2, false, 1) := by kernel_rfl
@[simp] theorem fo_79_3 : fOff Try.prog 79 3 = some 3 := by kernel_rfl
@[simp] theorem fi_79_3 : fldInfo Try.prog 79 3 = some (3, false, 1) := by kernel_rfl
@[simp] theorem fo_83_0 : fOff Try.prog 83 0 = some 0 := by kernel_rfl
@[simp] theorem fi_83_0 : fldInfo Try.prog 83 0 = some (0, false, 1) := by kernel_rfl
@[simp] theorem fo_83_1 : fOff Try.prog 83 1 = some 1 := by kernel_rfl
@[simp] theorem fi_83_1 : fldInfo Try.prog 83 1 = some (1, false, 1) := by kernel_rfl
@[simp] theorem fo_84_0 : fOff Try.prog 84 0 = some 0 := by kernel_rfl
@[simp] theorem fi_84_0 : fldInfo Try.prog 84 0 = some (0, false, 1) := by kernel_rfl
@[simp] theorem fo_84_1 : fOff Try.prog 84 1 = some 1 := by kernel_rfl
@[simp] theorem fi_84_1 : fldInfo Try.prog 84 1 = some (1, false, 1) := by kernel_rfl
@[simp] theorem fo_91_0 : fOff Try.prog 91 0 = some 0 := by kernel_rfl
@[simp] theorem fi_91_0 : fldInfo Try.prog 91 0 = some (0, false, 1) := by kernel_rfl
@[simp] theorem fo_91_1 : fOff Try.prog 91 1 = some 1 := by kernel_rfl
@[simp] theorem fi_91_1 : fldInfo Try.prog 91 1 = some (1, false, 1) := by kernel_rfl
@[simp] theorem fo_91_2 : fOff Try.prog 91 2 = some 2 := by kernel_rfl
@[simp] theorem fi_91_2 : fldInfo Try.prog 91 2 = some (2, false, 1) := by kernel_rfl
@[simp] theorem fo_91_3 : fOff Try.prog 91 3 = some 3 := by kernel_rfl
@[simp] theorem fi_91_3 : fldInfo Try.prog 91 3 = some (3, false, 1) := by kernel_rfl
@[simp] theorem fo_91_4 : fOff Try.prog 91 4 = some 4 := by kernel_rfl
@[simp] theorem fi_91_4 : fldInfo Try.prog 91 4 = some (4, false, 1) := by kernel_rfl
@[simp] theorem fo_92_0 : fOff Try.prog 92 0 = some 0 := by kernel_rfl
@[simp] theorem fi_92_0 : fldInfo Try.prog 92 0 = some (0, false, 1) := by kernel_rfl
@[simp] theorem fo_92_1 : fOff Try.prog 92 1 = some 1 := by kernel_rfl
@[simp] theorem fi_92_1 : fldInfo Try.prog 92 1 = some (1, false, 1) := by kernel_rfl
@[simp] theorem fo_92_2 : fOff Try.prog 92 2 = some 2 := by kernel_rfl
@[simp] theorem fi_92_2 : fldInfo Try.prog 92 2 = some (2, false, 1) := by kernel_rfl
@[simp] theorem fo_92_3 : fOff Try.prog 92 3 = some 3 := by kernel_rfl
@[simp] theorem fi_92_3 : fldInfo Try.prog 92 3 = some (3, false, 1) := by kernel_rfl
@[simp] theorem fo_92_4 : fOff Try.prog 92 4 = some 4 := by kernel_rfl
@[simp] theorem fi_92_4 : fldInfo Try.prog 92 4 = some (4, false, 1) := by kernel_rfl
@[simp] theorem fo_100_0 : fOff Try.prog 100 0 = some 0 := by kernel_rfl
@[simp] theorem fi_100_0 : fldInfo Try.prog 100 0 = some (0, false, 1) := by kernel_rfl
@[simp] theorem fo_100_1 : fOff Try.prog 100 1 = some 1 := by kernel_rfl
@[simp] theorem fi_100_1 : fldInfo Try.prog 100 1 = some (1, false, 1) := by kernel_rfl
@[simp] theorem fo_101_0 : fOff Try.prog 101 0 = some 0 := by kernel_rfl
@[simp] theorem fi_101_0 : fldInfo Try.prog 101 0 = some (0, false, 1) := by kernel_rfl
@[simp] theorem fo_101_1 : fOff Try.prog 101 1 = some 1 := by kernel_rfl
@[simp] theorem fi_101_1 : fldInfo Try.prog 101 1 = some (1, false, 1) := by kernel_rfl
@[simp] theorem fo_130_0 : fOff Try.prog 130 0 = some 0 := by kernel_rfl
@[simp] theorem fi_130_0 : fldInfo Try.prog 130 0 = some (0, false, 1) := by kernel_rfl
@[simp] theorem fo_130_1 : fOff Try.prog 130 1 = some 1 := by kernel_rfl
@[simp] theorem fi_130_1 : fldInfo Try.prog 130 1 = some (1, false, 1) := by kernel_rfl
@[simp] theorem fo_130_2 : fOff Try.prog 130 2 = some 2 := by kernel_rfl
@[simp] theorem fi_130_2 : fldInfo Try.prog 130 2 = some (2, false, 1) := by kernel_rfl
@[simp] theorem fo_130_3 : fOff Try.prog 130 3 = some 3 := by kernel_rfl
@[simp] theorem fi_130_3 : fldInfo Try.prog 130 3 = some (3, false, 1) := by kernel_rfl
@[simp] theorem fo_131_0 : fOff Try.prog 131 0 = some 0 := by kernel_rfl
@[simp] theorem fi_131_0 : fldInfo Try.prog 131 0 = some (0, false, 1) := by kernel_rfl
@[simp] theorem fo_131_1 : fOff Try.prog 131 1 = some 1 := by kernel_rfl
@[simp] theorem fi_131_1 : fldInfo Try.prog 131 1 = some (1, false, 1) := by kernel_rfl
@[simp] theorem fo_131_2 : fOff Try.prog 131 2 = some 2 := by kernel_rfl
@[simp] theorem fi_131_2 : fldInfo Try.prog 131 2 = some (2, false, 1) := by kernel_rfl
@[simp] theorem fo_131_3 : fOff Try.prog 131 3 = some 3 := by kernel_rfl
@[simp] theorem fi_131_3 : fldInfo Try.prog 131 3 = some (3, false, 1) := by kernel_rfl
@[simp] theorem fi_133_0 : fldInfo Try.prog 133 0 = some (0, true, 0) := by kernel_rfl
@[simp] theorem fi_134_0 : fldInfo Try.prog 134 0 = some (0, true, 0) := by kernel_rfl
@[simp] theorem fo_141_0 : fOff Try.prog 141 0 = some 0 := by kernel_rfl
@[simp] theorem fi_141_0 : fldInfo Try.prog 141 0 = some (0, false, 1) := by kernel_rfl
@[simp] theorem fo_141_1 : fOff Try.prog 141 1 = some 1 := by kernel_rfl
@[simp] theorem fi_141_1 : fldInfo Try.prog 141 1 = some (1, false, 1) := by kernel_rfl
@[simp] theorem fo_141_2 : fOff Try.prog 141 2 = some 2 := by kernel_rfl
@[simp] theorem fi_141_2 : fldInfo Try.prog 141 2 = some (2, false, 1) := by kernel_rfl
@[simp] theorem fo_141_3 : fOff Try.prog 141 3 = some 3 := by kernel_rfl
@[simp] theorem fi_141_3 : fldInfo Try.prog 141 3 = some (3, false, 1) := by kernel_rfl
@[simp] theorem fo_141_4 : fOff Try.prog 141 4 = some 4 := by kernel_rfl
@[simp] theorem fi_141_4 : fldInfo Try.prog 141 4 = some (4, false, 1) := by kernel_rfl
@[simp] theorem fo_141_5 : fOff Try.prog 141 5 = some 5 := by kernel_rfl
@[simp] theorem fi_141_5 : fldInfo Try.prog 141 5 = some (5, false, 1) := by kernel_rfl
@[simp] theorem fo_141_6 : fOff Try.prog 141 6 = some 6 := by kernel_rfl
@[simp] theorem fi_141_6 : fldInfo Try.prog 141 6 = some (6, false, 1) := by kernel_rfl
@[simp] theorem fo_141_7 : fOff Try.prog 141 7 = some 7 := by kernel_rfl
@[simp] theorem fi_141_7 : fldInfo Try.prog 141 7 = some (7, false, 1) := by kernel_rfl
@[simp] theorem fo_141_8 : fOff Try.prog 141 8 = some 8 := by kernel_rfl
@[simp] theorem fi_141_8 : fldInfo Try.prog 141 8 = some (8, false, 1) := by kernel_rfl
@[simp] theorem fo_141_9 : fOff Try.prog 141 9 = some 9 := by kernel_rfl
@[simp] theorem fi_141_9 : fldInfo Try.prog 141 9 = some (9, false, 1) := by kernel_rfl
@[simp] theorem fo_141_10 : fOff Try.prog 141 10 = some 10 := by kernel_rfl
@[simp] theorem fi_141_10 : fldInfo Try.prog 141 10 = some (10, false, 1) := by kernel_rfl
@[simp] theorem fo_142_0 : fOff Try.prog 142 0 = some 0 := by kernel_rfl
@[simp] theorem fi_142_0 : fldInfo Try.prog 142 0 = some (0, false, 1) := by kernel_rfl
@[simp] theorem fo_142_1 : fOff Try.prog 142 1 = some 1 := by kernel_rfl
@[simp] theorem fi_142_1 : fldInfo Try.prog 142 1 = some (1, false, 1) := by kernel_rfl
@[simp] theorem fo_142_2 : fOff Try.prog 142 2 = some 2 := by kernel_rfl
@[simp] theorem fi_142_2 : fldInfo Try.prog 142 2 = some (2, false, 1) := by kernel_rfl
@[simp] theorem fo_142_3 : fOff Try.prog 142 3 = some 3 := by kernel_rfl
@[simp] theorem fi_142_3 : fldInfo Try.prog 142 3 = some (3, false, 1) := by kernel_rfl
@[simp] theorem fo_142_4 : fOff Try.prog 142 4 = some 4 := by kernel_rfl
@[simp] theorem fi_142_4 : fldInfo Try.prog 142 4 = some (4, false, 1) := by kernel_rfl
@[simp] theorem fo_142_5 : fOff Try.prog 142 5 = some 5 := by kernel_rfl
@[simp] theorem fi_142_5 : fldInfo Try.prog 142 5 = some (5, false, 1) := by kernel_rfl
@[simp] theorem fo_142_6 : fOff Try.prog 142 6 = some 6 := by kernel_rfl
@[simp] theorem fi_142_6 : fldInfo Try.prog 142 6 = some (6, false, 1) := by kernel_rfl
@[simp] theorem fo_142_7 : fOff Try.prog 142 7 = some 7 := by kernel_rfl
@[simp] theorem fi_142_7 : fldInfo Try.prog 142 7 = some (7, false, 1) := by kernel_rfl
@[simp] theorem fo_142_8 : fOff Try.prog 142 8 = some 8 := by kernel_rfl
@[simp] theorem fi_142_8 : fldInfo Try.prog 142 8 = some (8, false, 1) := by kernel_rfl
@[simp] theorem fo_142_9 : fOff Try.prog 142 9 = some 9 := by kernel_rfl
@[simp] theorem fi_142_9 : fldInfo Try.prog 142 9 = some (9, false, 1) := by kernel_rfl
@[simp] theorem fo_142_10 : fOff Try.prog 142 10 = some 10 := by kernel_rfl
@[simp] theorem fi_142_10 : fldInfo Try.prog 142 10 = some (10, false, 1) := by kernel_rfl
@[simp] theorem fo_143_0 : fOff Try.prog 143 0 = some 0 := by kernel_rfl
@[simp] theorem fi_143_0 : fldInfo Try.prog 143 0 = some (0, false, 1) := by kernel_rfl
@[simp] theorem fo_143_1 : fOff Try.prog 143 1 = some 1 := by kernel_rfl
@[simp] theorem fi_143_1 : fldInfo Try.prog 143 1 = some (1, false, 1) := by kernel_rfl
@[simp] theorem fo_143_2 : fOff Try.prog 143 2 = some 2 := by kernel_rfl
@[simp] theorem fi_143_2 : fldInfo Try.prog 143 2 = some (2, false, 1) := by kernel_rfl
@[simp] theorem fo_144_0 : fOff Try.prog 144 0 = some 0 := by kernel_rfl
@[simp] theorem fi_144_0 : fldInfo Try.prog 144 0 = some (0, false, 1) := by kernel_rfl
@[simp] theorem fo_144_1 : fOff Try.prog 144 1 = some 1 := by kernel_rfl
@[simp] theorem fi_144_1 : fldInfo Try.prog 144 1 = some (1, false, 1) := by kernel_rfl
@[simp] theorem fo_144_2 : fOff Try.prog 144 2 = some 2 := by kernel_rfl
@[simp] theorem fi_144_2 : fldInfo Try.prog 144 2 = some (2, false, 1) := by kernel_rfl

theorem hmo : Try.prog.follows .mixedOrders = true := by kernel_rfl

/-! ### Plain laws -/
/-! ### Walks -/

structure Op5 where
  p : Int
  k : Int
  s : Int
  e : Int
  r : Int
  deriving DecidableEq, Inhabited

def aheadS (a b : Op5) : Bool := decide (a.e ≥ 0) && decide (a.e < b.s)
def endedS (o : Op5) : Bool := if o.e = -1 then decide (o.r = -1) else decide (o.e > o.s) && decide (o.e ≤ 9999) && decide (o.r ≥ 0) && decide (o.r ≤ 1000000)
def aloneS (o : Op5) : Int := if o.p < 1 ∨ o.p > 1000 ∨ o.s < 0 ∨ o.s > 9999 then 2 else if o.k < 0 ∨ o.k ≥ 64 then 31 else if endedS o then 0 else 7
@[simp] theorem belowR_ints (k : Nat) (l : List Int) : belowR k (l.map fun i => [I64 i]) := by
  rw [belowR_iff]; intro r hr x hx
  obtain ⟨o, _, rfl⟩ := List.mem_map.1 hr
  simp at hx; subst hx; trivial

/-! ### Pairs -/

/-! ### Plain laws -/
def meetsS (a b : Op5) : Bool := decide (a.s = b.s) || decide (a.e = b.s) || decide (a.s = b.e) || (decide (a.e = b.e) && !decide (a.e = -1))
def badS (a o : Op5) : Bool := decide (o.s ≤ a.s) || meetsS a o
def openS (a o : Op5) : Bool := decide (a.p = o.p) && !aheadS a o
def stepE (pre : List Op5) (o : Op5) : Int := if aloneS o ≠ 0 then aloneS o else if pre.any (fun a => badS a o) = true then 32 else if pre.any (fun a => openS a o) = true then 33 else 0
def errAt (ops : List Op5) (i : Nat) : Int := stepE (ops.take i) (ops.getD i default)
def chk (ops : List Op5) : Int × Int :=
  if ops.length > 5000 then (0, 3) else match (List.range ops.length).find? (fun i => decide (errAt ops i ≠ 0)) with
  | some i => ((i : Int), errAt ops i)
  | none => ((ops.length : Int), 0)
/-! ### The document's answer -/

@[simp] theorem frzR_ints (r : Nat → Nat → PV) (l : List Int) : frzR r (l.map fun i => [I64 i]) = l.map fun i => [I64 i] := by
  rw [frzR_map, List.map_map]; congr 1

/-! ### The first error of a row -/
def firstErr (e : Nat → Int) (n : Nat) : Int × Int :=
  match (List.range n).find? (fun i => decide (e i ≠ 0)) with
  | some i => ((i : Int), e i)
  | none => ((n : Int), 0)
/-! ### Objects -/
structure ORow where
  s : Int
  k : Int
  n : Int
  r : Int
  deriving DecidableEq, Inhabited
structure Obj where
  st : Int
  kd : Int
  ini : Int
  rows : List ORow
/-! ### Moves -/
def idxS {α : Type} (p : α → Bool) (l : List α) : Int := match l.findIdx? p with | some i => (i : Int) | none => -1
theorem idxS_at {α : Type} {p : α → Bool} {l : List α} {i : Nat} (h : i < l.length) (hn : ∀ j (hj : j < l.length), j < i → p l[j] = false) (hp : p l[i] = true) : idxS p l = i := by
  have : l.findIdx? p = some i := by
    rw [List.findIdx?_eq_some_iff_getElem]
    exact ⟨h, hp, fun j hj => by simp [hn j (by omega) hj]⟩
  rw [idxS, this]
theorem idxS_none {α : Type} {p : α → Bool} {l : List α} (hn : ∀ j (hj : j < l.length), p l[j] = false) : idxS p l = -1 := by
  have : l.findIdx? p = none := by
    rw [List.findIdx?_eq_none_iff]
    intro x hx
    obtain ⟨j, hj, rfl⟩ := List.mem_iff_getElem.1 hx
    exact hn j hj
  rw [idxS, this]

/-! ### Names -/

def irow (l : List Int) : List (List PV) := l.map fun i => [I64 i]
def crowF (l : List Int) : List PV := [.seq false 1 (irow l)]
@[simp] theorem irow_length (l : List Int) : (irow l).length = l.length := by simp [irow]
@[simp] theorem belowR_irow (k : Nat) (l : List Int) : belowR k (irow l) := belowR_ints k l
@[simp] theorem nwR_irow (l : List Int) : nwR (irow l) := by
  rw [nwR_iff]; intro r hr
  obtain ⟨o, _, rfl⟩ := List.mem_map.1 hr
  exact ⟨trivial, trivial⟩
@[simp] theorem frzR_irow (r : Nat → Nat → PV) (l : List Int) : frzR r (irow l) = irow l := by
  rw [irow, frzR_map, List.map_map]; congr 1
@[simp] theorem irow_get (l : List Int) (i : Nat) : (irow l)[i]? = l[i]?.map fun n => [I64 n] := by simp [irow]
@[simp] theorem irow_elem (l : List Int) (i : Nat) (h : i < (irow l).length) : (irow l)[i]'h = [I64 (l[i]'(by simpa using h))] := by simp [irow]
theorem irow_append (l : List Int) (x : Int) : irow l ++ [[I64 x]] = irow (l ++ [x]) := by simp [irow]

/-! ### At most one -/
/-! ### Rows that are filled -/
/-! ### Places -/
/-! ### Times -/
/-! ### States -/
/-! ### Times -/
end Go.AX
