/-
  Facts on the types of the seat's program (written by facts.py).
  Contracts: the numbers of clauses (count, numbering, the document's answer).
  Contracts: operations (oper, the document's answer).
  Contracts: whether operations may be.
  Contracts: all clauses (count, the document's answer).
  Contracts: whether operations may be (oper.Check, by maps).
-/
import Derived.Test.YthfhellfmbllhaaGreatAxIs
import Derived.Test.YthfhellfmbllhaaGreatRows
namespace Go.AX
open Go.Proofs
@[simp] theorem ld_0:ldInfo Tryz.prog 0=some (false,1):=by kernel_rfl
@[simp] theorem fa_1:tk Tryz.prog 1=.func∧ldInfo Tryz.prog 1=some (false,1)∧zeroL Tryz.prog 1=some [.lit .nilFunc]:=by refine⟨?_,?_,?_⟩<;>kernel_rfl
@[simp] theorem fa_2:tk Tryz.prog 2=.int∧ldInfo Tryz.prog 2=some (false,1)∧cvtK Tryz.prog 2=some .i64∧zeroL Tryz.prog 2=some [.lit (.int .i64 0)]:=by refine⟨?_,?_,?_,?_⟩<;>kernel_rfl
@[simp] theorem fa_3:tk Tryz.prog 3=.int∧ldInfo Tryz.prog 3=some (false,1)∧cvtK Tryz.prog 3=some .i64∧zeroL Tryz.prog 3=some [.lit (.int .i64 0)]:=by refine⟨?_,?_,?_,?_⟩<;>kernel_rfl
@[simp] theorem fa_4:tk Tryz.prog 4=.bool∧ldInfo Tryz.prog 4=some (false,1)∧zeroL Tryz.prog 4=some [.lit (.bool false)]:=by refine⟨?_,?_,?_⟩<;>kernel_rfl
@[simp] theorem fa_5:tk Tryz.prog 5=.int∧ldInfo Tryz.prog 5=some (false,1)∧cvtK Tryz.prog 5=some .u8∧zeroL Tryz.prog 5=some [.lit (.int .u8 0)]:=by refine⟨?_,?_,?_,?_⟩<;>kernel_rfl
@[simp] theorem fa_6:tk Tryz.prog 6=.int∧ldInfo Tryz.prog 6=some (false,1)∧cvtK Tryz.prog 6=some .u8∧zeroL Tryz.prog 6=some [.lit (.int .u8 0)]:=by refine⟨?_,?_,?_,?_⟩<;>kernel_rfl
@[simp] theorem fa_7:ldInfo Tryz.prog 7=some (true,4)∧zeroL Tryz.prog 7=some [.lit (.int .i64 0),.lit (.int .i64 0),.lit (.bool false),.lit (.int .u8 0)]∧zeroV Tryz.prog 7=some [.lit (.int .i64 0),.lit (.int .i64 0),.lit (.bool false),.lit (.int .u8 0)]∧bInfo Tryz.prog 7=some [(0,1),(1,1),(2,1),(3,1)]:=by refine⟨?_,?_,?_,?_⟩<;>kernel_rfl
@[simp] theorem fa_8:ldInfo Tryz.prog 8=some (true,4)∧zeroL Tryz.prog 8=some [.lit (.int .i64 0),.lit (.int .i64 0),.lit (.bool false),.lit (.int .u8 0)]∧zeroV Tryz.prog 8=some [.lit (.int .i64 0),.lit (.int .i64 0),.lit (.bool false),.lit (.int .u8 0)]∧bInfo Tryz.prog 8=some [(0,1),(1,1),(2,1),(3,1)]:=by refine⟨?_,?_,?_,?_⟩<;>kernel_rfl
@[simp] theorem fa_9:tk Tryz.prog 9=.string∧ldInfo Tryz.prog 9=some (false,1)∧zeroL Tryz.prog 9=some [.lit (.string ByteArray.empty)]:=by refine⟨?_,?_,?_⟩<;>kernel_rfl
@[simp] theorem fa_10:tk Tryz.prog 10=.string∧ldInfo Tryz.prog 10=some (false,1)∧zeroL Tryz.prog 10=some [.lit (.string ByteArray.empty)]:=by refine⟨?_,?_,?_⟩<;>kernel_rfl
@[simp] theorem fa_11:tk Tryz.prog 11=.string∧ldInfo Tryz.prog 11=some (false,1)∧zeroL Tryz.prog 11=some [.lit (.string ByteArray.empty)]:=by refine⟨?_,?_,?_⟩<;>kernel_rfl
@[simp] theorem fa_12:tk Tryz.prog 12=.int∧ldInfo Tryz.prog 12=some (false,1)∧cvtK Tryz.prog 12=some .u64∧zeroL Tryz.prog 12=some [.lit (.int .u64 0)]:=by refine⟨?_,?_,?_,?_⟩<;>kernel_rfl
@[simp] theorem fa_13:ldInfo Tryz.prog 13=some (true,2)∧zeroL Tryz.prog 13=some [.lit (.string ByteArray.empty),.lit (.int .u64 0)]∧zeroV Tryz.prog 13=some [.lit (.string ByteArray.empty),.lit (.int .u64 0)]∧bInfo Tryz.prog 13=some [(0,1),(1,1)]:=by refine⟨?_,?_,?_,?_⟩<;>kernel_rfl
@[simp] theorem fa_14:ldInfo Tryz.prog 14=some (true,2)∧zeroL Tryz.prog 14=some [.lit (.string ByteArray.empty),.lit (.int .u64 0)]∧zeroV Tryz.prog 14=some [.lit (.string ByteArray.empty),.lit (.int .u64 0)]∧bInfo Tryz.prog 14=some [(0,1),(1,1)]:=by refine⟨?_,?_,?_,?_⟩<;>kernel_rfl
@[simp] theorem fa_15:tk Tryz.prog 15=.ptr∧ldInfo Tryz.prog 15=some (false,1)∧zeroL Tryz.prog 15=some [.lit (.pointer none)]:=by refine⟨?_,?_,?_⟩<;>kernel_rfl
@[simp] theorem fa_16:tk Tryz.prog 16=.ptr∧ldInfo Tryz.prog 16=some (false,1)∧zeroL Tryz.prog 16=some [.lit (.pointer none)]:=by refine⟨?_,?_,?_⟩<;>kernel_rfl
@[simp] theorem fa_17:tk Tryz.prog 17=.ptr∧ldInfo Tryz.prog 17=some (false,1)∧zeroL Tryz.prog 17=some [.lit (.pointer none)]:=by refine⟨?_,?_,?_⟩<;>kernel_rfl
@[simp] theorem fa_18:ldInfo Tryz.prog 18=some (true,1)∧zeroL Tryz.prog 18=some [.lit (.pointer none)]∧zeroV Tryz.prog 18=some [.lit (.pointer none)]∧bInfo Tryz.prog 18=some [(0,1)]:=by refine⟨?_,?_,?_,?_⟩<;>kernel_rfl
@[simp] theorem fa_19:ldInfo Tryz.prog 19=some (true,1)∧zeroL Tryz.prog 19=some [.lit (.pointer none)]∧zeroV Tryz.prog 19=some [.lit (.pointer none)]∧bInfo Tryz.prog 19=some [(0,1)]:=by refine⟨?_,?_,?_,?_⟩<;>kernel_rfl
@[simp] theorem ld_20:ldInfo Tryz.prog 20=some (false,1):=by kernel_rfl
@[simp] theorem fa_21:tk Tryz.prog 21=.int∧ldInfo Tryz.prog 21=some (false,1)∧cvtK Tryz.prog 21=some .i32∧zeroL Tryz.prog 21=some [.lit (.int .i32 0)]:=by refine⟨?_,?_,?_,?_⟩<;>kernel_rfl
@[simp] theorem fa_22:tk Tryz.prog 22=.slice∧ldInfo Tryz.prog 22=some (false,1)∧slSize Tryz.prog 22=some 1∧slInfo Tryz.prog 22=some (1,24)∧zeroL Tryz.prog 22=some [.lit (.slice none 0 0)]∧slZero Tryz.prog 22=some [.lit (.slice none 0 0)]:=by refine⟨?_,?_,?_,?_,?_,?_⟩<;>kernel_rfl
@[simp] theorem fa_23:tk Tryz.prog 23=.slice∧ldInfo Tryz.prog 23=some (false,1)∧slSize Tryz.prog 23=some 2∧slInfo Tryz.prog 23=some (2,16)∧zeroL Tryz.prog 23=some [.lit (.slice none 0 0)]∧slZero Tryz.prog 23=some [.lit (.int .i64 0),.lit (.int .i64 0)]:=by refine⟨?_,?_,?_,?_,?_,?_⟩<;>kernel_rfl
@[simp] theorem fa_24:tk Tryz.prog 24=.func∧ldInfo Tryz.prog 24=some (false,1)∧zeroL Tryz.prog 24=some [.lit .nilFunc]:=by refine⟨?_,?_,?_⟩<;>kernel_rfl
@[simp] theorem fa_25:tk Tryz.prog 25=.func∧ldInfo Tryz.prog 25=some (false,1)∧zeroL Tryz.prog 25=some [.lit .nilFunc]:=by refine⟨?_,?_,?_⟩<;>kernel_rfl
@[simp] theorem fa_26:tk Tryz.prog 26=.ptr∧ldInfo Tryz.prog 26=some (false,1)∧zeroL Tryz.prog 26=some [.lit (.pointer none)]:=by refine⟨?_,?_,?_⟩<;>kernel_rfl
@[simp] theorem fa_27:tk Tryz.prog 27=.ptr∧ldInfo Tryz.prog 27=some (false,1)∧zeroL Tryz.prog 27=some [.lit (.pointer none)]:=by refine⟨?_,?_,?_⟩<;>kernel_rfl
@[simp] theorem fa_28:tk Tryz.prog 28=.ptr∧ldInfo Tryz.prog 28=some (false,1)∧zeroL Tryz.prog 28=some [.lit (.pointer none)]:=by refine⟨?_,?_,?_⟩<;>kernel_rfl
@[simp] theorem fa_29:tk Tryz.prog 29=.slice∧ldInfo Tryz.prog 29=some (false,1)∧slSize Tryz.prog 29=some 5∧slInfo Tryz.prog 29=some (5,48)∧zeroL Tryz.prog 29=some [.lit (.slice none 0 0)]∧slZero Tryz.prog 29=some [.lit (.int .i64 0),.lit (.int .i64 0),.lit (.slice none 0 0),.lit (.bool false),.lit (.bool false)]:=by refine⟨?_,?_,?_,?_,?_,?_⟩<;>kernel_rfl
@[simp] theorem fa_30:ldInfo Tryz.prog 30=some (true,2)∧zeroL Tryz.prog 30=some [.lit (.slice none 0 0),.lit (.int .i64 0)]∧zeroV Tryz.prog 30=some [.lit (.slice none 0 0),.lit (.int .i64 0)]∧bInfo Tryz.prog 30=some [(0,1),(1,1)]:=by refine⟨?_,?_,?_,?_⟩<;>kernel_rfl
@[simp] theorem fa_31:ldInfo Tryz.prog 31=some (true,2)∧zeroL Tryz.prog 31=some [.lit (.slice none 0 0),.lit (.int .i64 0)]∧zeroV Tryz.prog 31=some [.lit (.slice none 0 0),.lit (.int .i64 0)]∧bInfo Tryz.prog 31=some [(0,1),(1,1)]:=by refine⟨?_,?_,?_,?_⟩<;>kernel_rfl
@[simp] theorem fa_32:tk Tryz.prog 32=.slice∧ldInfo Tryz.prog 32=some (false,1)∧slSize Tryz.prog 32=some 3∧slInfo Tryz.prog 32=some (3,24)∧zeroL Tryz.prog 32=some [.lit (.slice none 0 0)]∧slZero Tryz.prog 32=some [.lit (.int .i64 0),.lit (.int .i64 0),.lit (.int .i64 0)]:=by refine⟨?_,?_,?_,?_,?_,?_⟩<;>kernel_rfl
@[simp] theorem fa_33:ldInfo Tryz.prog 33=some (true,3)∧zeroL Tryz.prog 33=some [.lit (.int .i64 0),.lit (.slice none 0 0),.lit (.int .i64 0)]∧zeroV Tryz.prog 33=some [.lit (.int .i64 0),.lit (.slice none 0 0),.lit (.int .i64 0)]∧bInfo Tryz.prog 33=some [(0,1),(1,1),(2,1)]:=by refine⟨?_,?_,?_,?_⟩<;>kernel_rfl
@[simp] theorem fa_34:ldInfo Tryz.prog 34=some (true,3)∧zeroL Tryz.prog 34=some [.lit (.int .i64 0),.lit (.slice none 0 0),.lit (.int .i64 0)]∧zeroV Tryz.prog 34=some [.lit (.int .i64 0),.lit (.slice none 0 0),.lit (.int .i64 0)]∧bInfo Tryz.prog 34=some [(0,1),(1,1),(2,1)]:=by refine⟨?_,?_,?_,?_⟩<;>kernel_rfl
@[simp] theorem fa_35:tk Tryz.prog 35=.slice∧ldInfo Tryz.prog 35=some (false,1)∧slSize Tryz.prog 35=some 1∧slInfo Tryz.prog 35=some (1,8)∧zeroL Tryz.prog 35=some [.lit (.slice none 0 0)]∧slZero Tryz.prog 35=some [.lit (.int .i64 0)]:=by refine⟨?_,?_,?_,?_,?_,?_⟩<;>kernel_rfl
@[simp] theorem fa_36:ldInfo Tryz.prog 36=some (true,11)∧zeroL Tryz.prog 36=some [.lit (.pointer none),.lit (.pointer none),.lit (.pointer none),.lit (.slice none 0 0),.lit (.int .i64 0),.lit (.int .i64 0),.lit (.slice none 0 0),.lit (.int .i64 0),.lit (.slice none 0 0),.lit (.slice none 0 0),.lit (.bool false)]∧zeroV Tryz.prog 36=some [.lit (.pointer none),.lit (.pointer none),.lit (.pointer none),.lit (.slice none 0 0),.lit (.int .i64 0),.lit (.int .i64 0),.lit (.slice none 0 0),.lit (.int .i64 0),.lit (.slice none 0 0),.lit (.slice none 0 0),.lit (.bool false)]∧bInfo Tryz.prog 36=some [(0,1),(1,1),(2,1),(3,2),(5,3),(8,1),(9,1),(10,1)]:=by refine⟨?_,?_,?_,?_⟩<;>kernel_rfl
@[simp] theorem fa_37:ldInfo Tryz.prog 37=some (true,11)∧zeroL Tryz.prog 37=some [.lit (.pointer none),.lit (.pointer none),.lit (.pointer none),.lit (.slice none 0 0),.lit (.int .i64 0),.lit (.int .i64 0),.lit (.slice none 0 0),.lit (.int .i64 0),.lit (.slice none 0 0),.lit (.slice none 0 0),.lit (.bool false)]∧zeroV Tryz.prog 37=some [.lit (.pointer none),.lit (.pointer none),.lit (.pointer none),.lit (.slice none 0 0),.lit (.int .i64 0),.lit (.int .i64 0),.lit (.slice none 0 0),.lit (.int .i64 0),.lit (.slice none 0 0),.lit (.slice none 0 0),.lit (.bool false)]∧bInfo Tryz.prog 37=some [(0,1),(1,1),(2,1),(3,2),(5,3),(8,1),(9,1),(10,1)]:=by refine⟨?_,?_,?_,?_⟩<;>kernel_rfl
@[simp] theorem fa_38:tk Tryz.prog 38=.func∧ldInfo Tryz.prog 38=some (false,1)∧zeroL Tryz.prog 38=some [.lit .nilFunc]:=by refine⟨?_,?_,?_⟩<;>kernel_rfl
@[simp] theorem fa_39:tk Tryz.prog 39=.flat 2∧ldInfo Tryz.prog 39=some (true,2)∧zeroL Tryz.prog 39=some [.lit (.int .i64 0),.lit (.int .i64 0)]∧zeroV Tryz.prog 39=some [.lit (.int .i64 0),.lit (.int .i64 0)]∧bInfo Tryz.prog 39=some [(0,1),(1,1)]:=by refine⟨?_,?_,?_,?_,?_⟩<;>kernel_rfl
@[simp] theorem fa_40:tk Tryz.prog 40=.flat 2∧ldInfo Tryz.prog 40=some (true,2)∧zeroL Tryz.prog 40=some [.lit (.int .i64 0),.lit (.int .i64 0)]∧zeroV Tryz.prog 40=some [.lit (.int .i64 0),.lit (.int .i64 0)]∧bInfo Tryz.prog 40=some [(0,1),(1,1)]:=by refine⟨?_,?_,?_,?_,?_⟩<;>kernel_rfl
@[simp] theorem fa_41:tk Tryz.prog 41=.func∧ldInfo Tryz.prog 41=some (false,1)∧zeroL Tryz.prog 41=some [.lit .nilFunc]:=by refine⟨?_,?_,?_⟩<;>kernel_rfl
@[simp] theorem fa_42:tk Tryz.prog 42=.func∧ldInfo Tryz.prog 42=some (false,1)∧zeroL Tryz.prog 42=some [.lit .nilFunc]:=by refine⟨?_,?_,?_⟩<;>kernel_rfl
@[simp] theorem fa_43:tk Tryz.prog 43=.func∧ldInfo Tryz.prog 43=some (false,1)∧zeroL Tryz.prog 43=some [.lit .nilFunc]:=by refine⟨?_,?_,?_⟩<;>kernel_rfl
@[simp] theorem fa_44:tk Tryz.prog 44=.func∧ldInfo Tryz.prog 44=some (false,1)∧zeroL Tryz.prog 44=some [.lit .nilFunc]:=by refine⟨?_,?_,?_⟩<;>kernel_rfl
@[simp] theorem fa_45:ldInfo Tryz.prog 45=some (true,2)∧zeroL Tryz.prog 45=some [.lit (.int .i64 0),.lit (.slice none 0 0)]∧zeroV Tryz.prog 45=some [.lit (.int .i64 0),.lit (.slice none 0 0)]∧bInfo Tryz.prog 45=some [(0,1),(1,1)]:=by refine⟨?_,?_,?_,?_⟩<;>kernel_rfl
@[simp] theorem fa_46:ldInfo Tryz.prog 46=some (true,2)∧zeroL Tryz.prog 46=some [.lit (.int .i64 0),.lit (.slice none 0 0)]∧zeroV Tryz.prog 46=some [.lit (.int .i64 0),.lit (.slice none 0 0)]∧bInfo Tryz.prog 46=some [(0,1),(1,1)]:=by refine⟨?_,?_,?_,?_⟩<;>kernel_rfl
@[simp] theorem fa_47:tk Tryz.prog 47=.slice∧ldInfo Tryz.prog 47=some (false,1)∧slSize Tryz.prog 47=some 4∧slInfo Tryz.prog 47=some (4,64)∧zeroL Tryz.prog 47=some [.lit (.slice none 0 0)]∧slZero Tryz.prog 47=some [.lit (.int .i64 0),.lit (.int .i64 0),.lit (.slice none 0 0),.lit (.slice none 0 0)]:=by refine⟨?_,?_,?_,?_,?_,?_⟩<;>kernel_rfl
@[simp] theorem fa_49:tk Tryz.prog 49=.int∧ldInfo Tryz.prog 49=some (false,1)∧cvtK Tryz.prog 49=some .i64∧zeroL Tryz.prog 49=some [.lit (.int .i64 0)]:=by refine⟨?_,?_,?_,?_⟩<;>kernel_rfl
@[simp] theorem ld_50:ldInfo Tryz.prog 50=some (false,1):=by kernel_rfl
@[simp] theorem fa_51:tk Tryz.prog 51=.func∧ldInfo Tryz.prog 51=some (false,1)∧zeroL Tryz.prog 51=some [.lit .nilFunc]:=by refine⟨?_,?_,?_⟩<;>kernel_rfl
@[simp] theorem ld_52:ldInfo Tryz.prog 52=some (false,1):=by kernel_rfl
@[simp] theorem ld_54:ldInfo Tryz.prog 54=some (false,1):=by kernel_rfl
@[simp] theorem fa_55:tk Tryz.prog 55=.func∧ldInfo Tryz.prog 55=some (false,1)∧zeroL Tryz.prog 55=some [.lit .nilFunc]:=by refine⟨?_,?_,?_⟩<;>kernel_rfl
@[simp] theorem ld_56:ldInfo Tryz.prog 56=some (false,1):=by kernel_rfl
@[simp] theorem fa_57:tk Tryz.prog 57=.func∧ldInfo Tryz.prog 57=some (false,1)∧zeroL Tryz.prog 57=some [.lit .nilFunc]:=by refine⟨?_,?_,?_⟩<;>kernel_rfl
@[simp] theorem ld_58:ldInfo Tryz.prog 58=some (false,1):=by kernel_rfl
@[simp] theorem ld_60:ldInfo Tryz.prog 60=some (false,1):=by kernel_rfl
@[simp] theorem fa_61:tk Tryz.prog 61=.func∧ldInfo Tryz.prog 61=some (false,1)∧zeroL Tryz.prog 61=some [.lit .nilFunc]:=by refine⟨?_,?_,?_⟩<;>kernel_rfl
@[simp] theorem fa_62:tk Tryz.prog 62=.func∧ldInfo Tryz.prog 62=some (false,1)∧zeroL Tryz.prog 62=some [.lit .nilFunc]:=by refine⟨?_,?_,?_⟩<;>kernel_rfl
@[simp] theorem fa_63:tk Tryz.prog 63=.func∧ldInfo Tryz.prog 63=some (false,1)∧zeroL Tryz.prog 63=some [.lit .nilFunc]:=by refine⟨?_,?_,?_⟩<;>kernel_rfl
@[simp] theorem fa_64:tk Tryz.prog 64=.func∧ldInfo Tryz.prog 64=some (false,1)∧zeroL Tryz.prog 64=some [.lit .nilFunc]:=by refine⟨?_,?_,?_⟩<;>kernel_rfl
@[simp] theorem fa_65:tk Tryz.prog 65=.func∧ldInfo Tryz.prog 65=some (false,1)∧zeroL Tryz.prog 65=some [.lit .nilFunc]:=by refine⟨?_,?_,?_⟩<;>kernel_rfl
@[simp] theorem ld_66:ldInfo Tryz.prog 66=some (false,1):=by kernel_rfl
@[simp] theorem ld_68:ldInfo Tryz.prog 68=some (false,1):=by kernel_rfl
@[simp] theorem fa_70:tk Tryz.prog 70=.func∧ldInfo Tryz.prog 70=some (false,1)∧zeroL Tryz.prog 70=some [.lit .nilFunc]:=by refine⟨?_,?_,?_⟩<;>kernel_rfl
@[simp] theorem fa_71:tk Tryz.prog 71=.func∧ldInfo Tryz.prog 71=some (false,1)∧zeroL Tryz.prog 71=some [.lit .nilFunc]:=by refine⟨?_,?_,?_⟩<;>kernel_rfl
@[simp] theorem fa_72:tk Tryz.prog 72=.func∧ldInfo Tryz.prog 72=some (false,1)∧zeroL Tryz.prog 72=some [.lit .nilFunc]:=by refine⟨?_,?_,?_⟩<;>kernel_rfl
@[simp] theorem fa_73:tk Tryz.prog 73=.func∧ldInfo Tryz.prog 73=some (false,1)∧zeroL Tryz.prog 73=some [.lit .nilFunc]:=by refine⟨?_,?_,?_⟩<;>kernel_rfl
@[simp] theorem ld_74:ldInfo Tryz.prog 74=some (false,1):=by kernel_rfl
@[simp] theorem fa_75:tk Tryz.prog 75=.func∧ldInfo Tryz.prog 75=some (false,1)∧zeroL Tryz.prog 75=some [.lit .nilFunc]:=by refine⟨?_,?_,?_⟩<;>kernel_rfl
@[simp] theorem ld_76:ldInfo Tryz.prog 76=some (false,1):=by kernel_rfl
@[simp] theorem fa_78:tk Tryz.prog 78=.ptr∧ldInfo Tryz.prog 78=some (false,1)∧zeroL Tryz.prog 78=some [.lit (.pointer none)]:=by refine⟨?_,?_,?_⟩<;>kernel_rfl
@[simp] theorem fa_79:tk Tryz.prog 79=.func∧ldInfo Tryz.prog 79=some (false,1)∧zeroL Tryz.prog 79=some [.lit .nilFunc]:=by refine⟨?_,?_,?_⟩<;>kernel_rfl
@[simp] theorem fa_80:tk Tryz.prog 80=.func∧ldInfo Tryz.prog 80=some (false,1)∧zeroL Tryz.prog 80=some [.lit .nilFunc]:=by refine⟨?_,?_,?_⟩<;>kernel_rfl
@[simp] theorem fa_81:tk Tryz.prog 81=.func∧ldInfo Tryz.prog 81=some (false,1)∧zeroL Tryz.prog 81=some [.lit .nilFunc]:=by refine⟨?_,?_,?_⟩<;>kernel_rfl
@[simp] theorem fa_82:tk Tryz.prog 82=.func∧ldInfo Tryz.prog 82=some (false,1)∧zeroL Tryz.prog 82=some [.lit .nilFunc]:=by refine⟨?_,?_,?_⟩<;>kernel_rfl
@[simp] theorem fa_83:tk Tryz.prog 83=.func∧ldInfo Tryz.prog 83=some (false,1)∧zeroL Tryz.prog 83=some [.lit .nilFunc]:=by refine⟨?_,?_,?_⟩<;>kernel_rfl
@[simp] theorem fa_84:tk Tryz.prog 84=.func∧ldInfo Tryz.prog 84=some (false,1)∧zeroL Tryz.prog 84=some [.lit .nilFunc]:=by refine⟨?_,?_,?_⟩<;>kernel_rfl
@[simp] theorem fa_86:tk Tryz.prog 86=.map∧ldInfo Tryz.prog 86=some (false,1)∧zeroL Tryz.prog 86=some [.lit (.map none)]∧mpKey Tryz.prog 86=true∧mpInfo Tryz.prog 86=some (.lit (.pointer none)):=by refine⟨?_,?_,?_,?_,?_⟩<;>kernel_rfl
@[simp] theorem fa_87:tk Tryz.prog 87=.ptr∧ldInfo Tryz.prog 87=some (false,1)∧zeroL Tryz.prog 87=some [.lit (.pointer none)]:=by refine⟨?_,?_,?_⟩<;>kernel_rfl
@[simp] theorem fa_88:tk Tryz.prog 88=.map∧ldInfo Tryz.prog 88=some (false,1)∧zeroL Tryz.prog 88=some [.lit (.map none)]∧mpKey Tryz.prog 88=true∧mpInfo Tryz.prog 88=some (.lit (.slice none 0 0)):=by refine⟨?_,?_,?_,?_,?_⟩<;>kernel_rfl
@[simp] theorem fa_89:tk Tryz.prog 89=.map∧ldInfo Tryz.prog 89=some (false,1)∧zeroL Tryz.prog 89=some [.lit (.map none)]∧mpKey Tryz.prog 89=true∧mpInfo Tryz.prog 89=some (.lit (.int .i64 0)):=by refine⟨?_,?_,?_,?_,?_⟩<;>kernel_rfl
@[simp] theorem fa_90:ldInfo Tryz.prog 90=some (true,7)∧zeroL Tryz.prog 90=some [.lit (.pointer none),.lit (.pointer none),.lit (.map none),.lit (.map none),.lit (.map none),.lit (.int .i64 0),.lit (.slice none 0 0)]∧zeroV Tryz.prog 90=some [.lit (.pointer none),.lit (.pointer none),.lit (.map none),.lit (.map none),.lit (.map none),.lit (.int .i64 0),.lit (.slice none 0 0)]∧bInfo Tryz.prog 90=some [(0,1),(1,1),(2,1),(3,1),(4,1),(5,1),(6,1)]:=by refine⟨?_,?_,?_,?_⟩<;>kernel_rfl
@[simp] theorem fa_91:ldInfo Tryz.prog 91=some (true,7)∧zeroL Tryz.prog 91=some [.lit (.pointer none),.lit (.pointer none),.lit (.map none),.lit (.map none),.lit (.map none),.lit (.int .i64 0),.lit (.slice none 0 0)]∧zeroV Tryz.prog 91=some [.lit (.pointer none),.lit (.pointer none),.lit (.map none),.lit (.map none),.lit (.map none),.lit (.int .i64 0),.lit (.slice none 0 0)]∧bInfo Tryz.prog 91=some [(0,1),(1,1),(2,1),(3,1),(4,1),(5,1),(6,1)]:=by refine⟨?_,?_,?_,?_⟩<;>kernel_rfl
@[simp] theorem ld_92:ldInfo Tryz.prog 92=some (false,1):=by kernel_rfl
@[simp] theorem fa_96:tk Tryz.prog 96=.func∧ldInfo Tryz.prog 96=some (false,1)∧zeroL Tryz.prog 96=some [.lit .nilFunc]:=by refine⟨?_,?_,?_⟩<;>kernel_rfl
@[simp] theorem fa_97:ldInfo Tryz.prog 97=some (true,5)∧zeroL Tryz.prog 97=some [.lit (.int .i64 0),.lit (.int .i64 0),.lit (.slice none 0 0),.lit (.bool false),.lit (.bool false)]∧zeroV Tryz.prog 97=some [.lit (.int .i64 0),.lit (.int .i64 0),.lit (.slice none 0 0),.lit (.bool false),.lit (.bool false)]∧bInfo Tryz.prog 97=some [(0,1),(1,1),(2,1),(3,1),(4,1)]:=by refine⟨?_,?_,?_,?_⟩<;>kernel_rfl
@[simp] theorem fa_98:ldInfo Tryz.prog 98=some (true,5)∧zeroL Tryz.prog 98=some [.lit (.int .i64 0),.lit (.int .i64 0),.lit (.slice none 0 0),.lit (.bool false),.lit (.bool false)]∧zeroV Tryz.prog 98=some [.lit (.int .i64 0),.lit (.int .i64 0),.lit (.slice none 0 0),.lit (.bool false),.lit (.bool false)]∧bInfo Tryz.prog 98=some [(0,1),(1,1),(2,1),(3,1),(4,1)]:=by refine⟨?_,?_,?_,?_⟩<;>kernel_rfl
@[simp] theorem fa_101:tk Tryz.prog 101=.func∧ldInfo Tryz.prog 101=some (false,1)∧zeroL Tryz.prog 101=some [.lit .nilFunc]:=by refine⟨?_,?_,?_⟩<;>kernel_rfl
@[simp] theorem ld_102:ldInfo Tryz.prog 102=some (false,1):=by kernel_rfl
@[simp] theorem fa_103:tk Tryz.prog 103=.func∧ldInfo Tryz.prog 103=some (false,1)∧zeroL Tryz.prog 103=some [.lit .nilFunc]:=by refine⟨?_,?_,?_⟩<;>kernel_rfl
@[simp] theorem fa_105:ldInfo Tryz.prog 105=some (true,4)∧zeroL Tryz.prog 105=some [.lit (.int .i64 0),.lit (.int .i64 0),.lit (.slice none 0 0),.lit (.slice none 0 0)]∧zeroV Tryz.prog 105=some [.lit (.int .i64 0),.lit (.int .i64 0),.lit (.slice none 0 0),.lit (.slice none 0 0)]∧bInfo Tryz.prog 105=some [(0,1),(1,1),(2,1),(3,1)]:=by refine⟨?_,?_,?_,?_⟩<;>kernel_rfl
@[simp] theorem fa_108:tk Tryz.prog 108=.func∧ldInfo Tryz.prog 108=some (false,1)∧zeroL Tryz.prog 108=some [.lit .nilFunc]:=by refine⟨?_,?_,?_⟩<;>kernel_rfl
@[simp] theorem ld_109:ldInfo Tryz.prog 109=some (false,1):=by kernel_rfl
@[simp] theorem fa_110:tk Tryz.prog 110=.func∧ldInfo Tryz.prog 110=some (false,1)∧zeroL Tryz.prog 110=some [.lit .nilFunc]:=by refine⟨?_,?_,?_⟩<;>kernel_rfl
@[simp] theorem fa_111:tk Tryz.prog 111=.func∧ldInfo Tryz.prog 111=some (false,1)∧zeroL Tryz.prog 111=some [.lit .nilFunc]:=by refine⟨?_,?_,?_⟩<;>kernel_rfl
@[simp] theorem fa_114:tk Tryz.prog 114=.func∧ldInfo Tryz.prog 114=some (false,1)∧zeroL Tryz.prog 114=some [.lit .nilFunc]:=by refine⟨?_,?_,?_⟩<;>kernel_rfl
@[simp] theorem fa_117:tk Tryz.prog 117=.func∧ldInfo Tryz.prog 117=some (false,1)∧zeroL Tryz.prog 117=some [.lit .nilFunc]:=by refine⟨?_,?_,?_⟩<;>kernel_rfl
@[simp] theorem fa_118:tk Tryz.prog 118=.func∧ldInfo Tryz.prog 118=some (false,1)∧zeroL Tryz.prog 118=some [.lit .nilFunc]:=by refine⟨?_,?_,?_⟩<;>kernel_rfl
@[simp] theorem fa_123:tk Tryz.prog 123=.func∧ldInfo Tryz.prog 123=some (false,1)∧zeroL Tryz.prog 123=some [.lit .nilFunc]:=by refine⟨?_,?_,?_⟩<;>kernel_rfl
@[simp] theorem fa_126:tk Tryz.prog 126=.slice∧ldInfo Tryz.prog 126=some (false,1)∧slSize Tryz.prog 126=some 2∧slInfo Tryz.prog 126=some (2,32)∧zeroL Tryz.prog 126=some [.lit (.slice none 0 0)]∧slZero Tryz.prog 126=some [.lit (.int .i64 0),.lit (.slice none 0 0)]:=by refine⟨?_,?_,?_,?_,?_,?_⟩<;>kernel_rfl
@[simp] theorem fa_128:ldInfo Tryz.prog 128=some (true,3)∧zeroL Tryz.prog 128=some [.lit (.slice none 0 0),.lit (.int .i64 0),.lit (.bool false)]∧zeroV Tryz.prog 128=some [.lit (.slice none 0 0),.lit (.int .i64 0),.lit (.bool false)]∧bInfo Tryz.prog 128=some [(0,1),(1,1),(2,1)]:=by refine⟨?_,?_,?_,?_⟩<;>kernel_rfl
@[simp] theorem fa_131:tk Tryz.prog 131=.func∧ldInfo Tryz.prog 131=some (false,1)∧zeroL Tryz.prog 131=some [.lit .nilFunc]:=by refine⟨?_,?_,?_⟩<;>kernel_rfl
@[simp] theorem fa_133:tk Tryz.prog 133=.func∧ldInfo Tryz.prog 133=some (false,1)∧zeroL Tryz.prog 133=some [.lit .nilFunc]:=by refine⟨?_,?_,?_⟩<;>kernel_rfl
@[simp] theorem fa_134:ldInfo Tryz.prog 134=some (true,2)∧zeroL Tryz.prog 134=some [.lit (.slice none 0 0),.lit (.map none)]∧zeroV Tryz.prog 134=some [.lit (.slice none 0 0),.lit (.map none)]∧bInfo Tryz.prog 134=some [(0,1),(1,1)]:=by refine⟨?_,?_,?_,?_⟩<;>kernel_rfl
@[simp] theorem fa_135:ldInfo Tryz.prog 135=some (true,2)∧zeroL Tryz.prog 135=some [.lit (.slice none 0 0),.lit (.map none)]∧zeroV Tryz.prog 135=some [.lit (.slice none 0 0),.lit (.map none)]∧bInfo Tryz.prog 135=some [(0,1),(1,1)]:=by refine⟨?_,?_,?_,?_⟩<;>kernel_rfl
@[simp] theorem fa_136:tk Tryz.prog 136=.slice∧ldInfo Tryz.prog 136=some (false,1)∧slSize Tryz.prog 136=some 4∧slInfo Tryz.prog 136=some (4,32)∧zeroL Tryz.prog 136=some [.lit (.slice none 0 0)]∧slZero Tryz.prog 136=some [.lit (.int .i64 0),.lit (.int .i64 0),.lit (.int .i64 0),.lit (.int .i64 0)]:=by refine⟨?_,?_,?_,?_,?_,?_⟩<;>kernel_rfl
@[simp] theorem fa_137:ldInfo Tryz.prog 137=some (true,4)∧zeroL Tryz.prog 137=some [.lit (.slice none 0 0),.lit (.slice none 0 0),.lit (.slice none 0 0),.lit (.bool false)]∧zeroV Tryz.prog 137=some [.lit (.slice none 0 0),.lit (.slice none 0 0),.lit (.slice none 0 0),.lit (.bool false)]∧bInfo Tryz.prog 137=some [(0,1),(1,1),(2,1),(3,1)]:=by refine⟨?_,?_,?_,?_⟩<;>kernel_rfl
@[simp] theorem fa_138:ldInfo Tryz.prog 138=some (true,4)∧zeroL Tryz.prog 138=some [.lit (.slice none 0 0),.lit (.slice none 0 0),.lit (.slice none 0 0),.lit (.bool false)]∧zeroV Tryz.prog 138=some [.lit (.slice none 0 0),.lit (.slice none 0 0),.lit (.slice none 0 0),.lit (.bool false)]∧bInfo Tryz.prog 138=some [(0,1),(1,1),(2,1),(3,1)]:=by refine⟨?_,?_,?_,?_⟩<;>kernel_rfl
@[simp] theorem fa_139:tk Tryz.prog 139=.func∧ldInfo Tryz.prog 139=some (false,1)∧zeroL Tryz.prog 139=some [.lit .nilFunc]:=by refine⟨?_,?_,?_⟩<;>kernel_rfl
@[simp] theorem fa_140:tk Tryz.prog 140=.func∧ldInfo Tryz.prog 140=some (false,1)∧zeroL Tryz.prog 140=some [.lit .nilFunc]:=by refine⟨?_,?_,?_⟩<;>kernel_rfl
@[simp] theorem fa_142:tk Tryz.prog 142=.flat 2∧ldInfo Tryz.prog 142=some (true,2)∧slSize Tryz.prog 142=none∧arSize Tryz.prog 142=some (2,1)∧zeroL Tryz.prog 142=some [.lit (.int .i64 0),.lit (.int .i64 0)]∧zeroV Tryz.prog 142=some [.lit (.int .i64 0),.lit (.int .i64 0)]∧bInfo Tryz.prog 142=some [(0,1),(1,1)]∧arInfo Tryz.prog 142=some (2,false,1):=by refine⟨?_,?_,?_,?_,?_,?_,?_,?_⟩<;>kernel_rfl
@[simp] theorem fa_144:ldInfo Tryz.prog 144=some (true,3)∧zeroL Tryz.prog 144=some [.lit (.slice none 0 0),.lit (.int .i64 0),.lit (.int .i64 0)]∧zeroV Tryz.prog 144=some [.lit (.slice none 0 0),.lit (.int .i64 0),.lit (.int .i64 0)]∧bInfo Tryz.prog 144=some [(0,1),(1,2)]:=by refine⟨?_,?_,?_,?_⟩<;>kernel_rfl
@[simp] theorem fa_149:tk Tryz.prog 149=.flat 4∧ldInfo Tryz.prog 149=some (true,4)∧zeroL Tryz.prog 149=some [.lit (.int .i64 0),.lit (.int .i64 0),.lit (.int .i64 0),.lit (.int .i64 0)]∧zeroV Tryz.prog 149=some [.lit (.int .i64 0),.lit (.int .i64 0),.lit (.int .i64 0),.lit (.int .i64 0)]∧bInfo Tryz.prog 149=some [(0,1),(1,1),(2,1),(3,1)]:=by refine⟨?_,?_,?_,?_,?_⟩<;>kernel_rfl
@[simp] theorem ld_150:ldInfo Tryz.prog 150=some (false,1):=by kernel_rfl
@[simp] theorem fa_152:tk Tryz.prog 152=.func∧ldInfo Tryz.prog 152=some (false,1)∧zeroL Tryz.prog 152=some [.lit .nilFunc]:=by refine⟨?_,?_,?_⟩<;>kernel_rfl
@[simp] theorem ld_154:ldInfo Tryz.prog 154=some (false,1):=by kernel_rfl
@[simp] theorem ld_156:ldInfo Tryz.prog 156=some (false,1):=by kernel_rfl
@[simp] theorem fa_157:tk Tryz.prog 157=.func∧ldInfo Tryz.prog 157=some (false,1)∧zeroL Tryz.prog 157=some [.lit .nilFunc]:=by refine⟨?_,?_,?_⟩<;>kernel_rfl
@[simp] theorem fa_165:ldInfo Tryz.prog 165=some (true,3)∧zeroL Tryz.prog 165=some [.lit (.map none),.lit (.int .i64 0),.lit (.bool false)]∧zeroV Tryz.prog 165=some [.lit (.map none),.lit (.int .i64 0),.lit (.bool false)]∧bInfo Tryz.prog 165=some [(0,1),(1,1),(2,1)]:=by refine⟨?_,?_,?_,?_⟩<;>kernel_rfl
@[simp] theorem fa_166:ldInfo Tryz.prog 166=some (true,3)∧zeroL Tryz.prog 166=some [.lit (.map none),.lit (.int .i64 0),.lit (.bool false)]∧zeroV Tryz.prog 166=some [.lit (.map none),.lit (.int .i64 0),.lit (.bool false)]∧bInfo Tryz.prog 166=some [(0,1),(1,1),(2,1)]:=by refine⟨?_,?_,?_,?_⟩<;>kernel_rfl
@[simp] theorem fa_167:tk Tryz.prog 167=.func∧ldInfo Tryz.prog 167=some (false,1)∧zeroL Tryz.prog 167=some [.lit .nilFunc]:=by refine⟨?_,?_,?_⟩<;>kernel_rfl
@[simp] theorem fa_168:tk Tryz.prog 168=.func∧ldInfo Tryz.prog 168=some (false,1)∧zeroL Tryz.prog 168=some [.lit .nilFunc]:=by refine⟨?_,?_,?_⟩<;>kernel_rfl
@[simp] theorem fa_171:tk Tryz.prog 171=.func∧ldInfo Tryz.prog 171=some (false,1)∧zeroL Tryz.prog 171=some [.lit .nilFunc]:=by refine⟨?_,?_,?_⟩<;>kernel_rfl
@[simp] theorem fa_178:tk Tryz.prog 178=.func∧ldInfo Tryz.prog 178=some (false,1)∧zeroL Tryz.prog 178=some [.lit .nilFunc]:=by refine⟨?_,?_,?_⟩<;>kernel_rfl
@[simp] theorem fa_183:tk Tryz.prog 183=.int∧ldInfo Tryz.prog 183=some (false,1)∧cvtK Tryz.prog 183=some .i64∧zeroL Tryz.prog 183=some [.lit (.int .i64 0)]:=by refine⟨?_,?_,?_,?_⟩<;>kernel_rfl
@[simp] theorem fa_184:tk Tryz.prog 184=.func∧ldInfo Tryz.prog 184=some (false,1)∧zeroL Tryz.prog 184=some [.lit .nilFunc]:=by refine⟨?_,?_,?_⟩<;>kernel_rfl
@[simp] theorem ld_185:ldInfo Tryz.prog 185=some (false,1):=by kernel_rfl
@[simp] theorem fa_186:tk Tryz.prog 186=.func∧ldInfo Tryz.prog 186=some (false,1)∧zeroL Tryz.prog 186=some [.lit .nilFunc]:=by refine⟨?_,?_,?_⟩<;>kernel_rfl
@[simp] theorem fa_190:tk Tryz.prog 190=.int∧ldInfo Tryz.prog 190=some (false,1)∧cvtK Tryz.prog 190=some .u64∧zeroL Tryz.prog 190=some [.lit (.int .u64 0)]:=by refine⟨?_,?_,?_,?_⟩<;>kernel_rfl
@[simp] theorem ld_194:ldInfo Tryz.prog 194=some (false,1):=by kernel_rfl
@[simp] theorem fa_198:tk Tryz.prog 198=.func∧ldInfo Tryz.prog 198=some (false,1)∧zeroL Tryz.prog 198=some [.lit .nilFunc]:=by refine⟨?_,?_,?_⟩<;>kernel_rfl
@[simp] theorem fa_200:tk Tryz.prog 200=.func∧ldInfo Tryz.prog 200=some (false,1)∧zeroL Tryz.prog 200=some [.lit .nilFunc]:=by refine⟨?_,?_,?_⟩<;>kernel_rfl
@[simp] theorem fa_210:ldInfo Tryz.prog 210=some (true,2)∧zeroL Tryz.prog 210=some [.lit (.bool false),.lit (.slice none 0 0)]∧zeroV Tryz.prog 210=some [.lit (.bool false),.lit (.slice none 0 0)]∧bInfo Tryz.prog 210=some [(0,1),(1,1)]:=by refine⟨?_,?_,?_,?_⟩<;>kernel_rfl
@[simp] theorem fa_213:tk Tryz.prog 213=.int∧ldInfo Tryz.prog 213=some (false,1)∧cvtK Tryz.prog 213=some .i64∧zeroL Tryz.prog 213=some [.lit (.int .i64 0)]:=by refine⟨?_,?_,?_,?_⟩<;>kernel_rfl
@[simp] theorem ld_214:ldInfo Tryz.prog 214=some (false,1):=by kernel_rfl
@[simp] theorem fa_220:tk Tryz.prog 220=.int∧ldInfo Tryz.prog 220=some (false,1)∧cvtK Tryz.prog 220=some .u32∧zeroL Tryz.prog 220=some [.lit (.int .u32 0)]:=by refine⟨?_,?_,?_,?_⟩<;>kernel_rfl
@[simp] theorem fa_222:tk Tryz.prog 222=.int∧ldInfo Tryz.prog 222=some (false,1)∧cvtK Tryz.prog 222=some .u64∧zeroL Tryz.prog 222=some [.lit (.int .u64 0)]:=by refine⟨?_,?_,?_,?_⟩<;>kernel_rfl
@[simp] theorem fa_223:tk Tryz.prog 223=.flat 3∧ldInfo Tryz.prog 223=some (true,3)∧slSize Tryz.prog 223=none∧arSize Tryz.prog 223=some (3,1)∧zeroL Tryz.prog 223=some [.lit (.int .i64 0),.lit (.int .i64 0),.lit (.int .i64 0)]∧zeroV Tryz.prog 223=some [.lit (.int .i64 0),.lit (.int .i64 0),.lit (.int .i64 0)]∧bInfo Tryz.prog 223=some [(0,1),(1,1),(2,1)]∧arInfo Tryz.prog 223=some (3,false,1):=by refine⟨?_,?_,?_,?_,?_,?_,?_,?_⟩<;>kernel_rfl
@[simp] theorem fa_236:tk Tryz.prog 236=.int∧ldInfo Tryz.prog 236=some (false,1)∧cvtK Tryz.prog 236=some .u64∧zeroL Tryz.prog 236=some [.lit (.int .u64 0)]:=by refine⟨?_,?_,?_,?_⟩<;>kernel_rfl
@[simp] theorem fa_238:tk Tryz.prog 238=.func∧ldInfo Tryz.prog 238=some (false,1)∧zeroL Tryz.prog 238=some [.lit .nilFunc]:=by refine⟨?_,?_,?_⟩<;>kernel_rfl
@[simp] theorem fa_240:tk Tryz.prog 240=.ptr∧ldInfo Tryz.prog 240=some (false,1)∧zeroL Tryz.prog 240=some [.lit (.pointer none)]:=by refine⟨?_,?_,?_⟩<;>kernel_rfl
@[simp] theorem fa_245:tk Tryz.prog 245=.ptr∧ldInfo Tryz.prog 245=some (false,1)∧zeroL Tryz.prog 245=some [.lit (.pointer none)]:=by refine⟨?_,?_,?_⟩<;>kernel_rfl
@[simp] theorem fa_255:tk Tryz.prog 255=.int∧ldInfo Tryz.prog 255=some (false,1)∧cvtK Tryz.prog 255=some .u8∧zeroL Tryz.prog 255=some [.lit (.int .u8 0)]:=by refine⟨?_,?_,?_,?_⟩<;>kernel_rfl
@[simp] theorem fa_256:tk Tryz.prog 256=.func∧ldInfo Tryz.prog 256=some (false,1)∧zeroL Tryz.prog 256=some [.lit .nilFunc]:=by refine⟨?_,?_,?_⟩<;>kernel_rfl
@[simp] theorem fo_7_0:fOff Tryz.prog 7 0=some 0:=by kernel_rfl
@[simp] theorem fi_7_0:fldInfo Tryz.prog 7 0=some (0,false,1):=by kernel_rfl
@[simp] theorem fo_7_1:fOff Tryz.prog 7 1=some 1:=by kernel_rfl
@[simp] theorem fi_7_1:fldInfo Tryz.prog 7 1=some (1,false,1):=by kernel_rfl
@[simp] theorem fo_7_2:fOff Tryz.prog 7 2=some 2:=by kernel_rfl
@[simp] theorem fi_7_2:fldInfo Tryz.prog 7 2=some (2,false,1):=by kernel_rfl
@[simp] theorem fo_7_3:fOff Tryz.prog 7 3=some 3:=by kernel_rfl
@[simp] theorem fi_7_3:fldInfo Tryz.prog 7 3=some (3,false,1):=by kernel_rfl
@[simp] theorem fo_8_0:fOff Tryz.prog 8 0=some 0:=by kernel_rfl
@[simp] theorem fi_8_0:fldInfo Tryz.prog 8 0=some (0,false,1):=by kernel_rfl
@[simp] theorem fo_8_1:fOff Tryz.prog 8 1=some 1:=by kernel_rfl
@[simp] theorem fi_8_1:fldInfo Tryz.prog 8 1=some (1,false,1):=by kernel_rfl
@[simp] theorem fo_8_2:fOff Tryz.prog 8 2=some 2:=by kernel_rfl
@[simp] theorem fi_8_2:fldInfo Tryz.prog 8 2=some (2,false,1):=by kernel_rfl
@[simp] theorem fo_8_3:fOff Tryz.prog 8 3=some 3:=by kernel_rfl
@[simp] theorem fi_8_3:fldInfo Tryz.prog 8 3=some (3,false,1):=by kernel_rfl
@[simp] theorem fo_13_0:fOff Tryz.prog 13 0=some 0:=by kernel_rfl
@[simp] theorem fi_13_0:fldInfo Tryz.prog 13 0=some (0,false,1):=by kernel_rfl
@[simp] theorem fo_13_1:fOff Tryz.prog 13 1=some 1:=by kernel_rfl
@[simp] theorem fi_13_1:fldInfo Tryz.prog 13 1=some (1,false,1):=by kernel_rfl
@[simp] theorem fo_14_0:fOff Tryz.prog 14 0=some 0:=by kernel_rfl
@[simp] theorem fi_14_0:fldInfo Tryz.prog 14 0=some (0,false,1):=by kernel_rfl
@[simp] theorem fo_14_1:fOff Tryz.prog 14 1=some 1:=by kernel_rfl
@[simp] theorem fi_14_1:fldInfo Tryz.prog 14 1=some (1,false,1):=by kernel_rfl
@[simp] theorem fo_18_0:fOff Tryz.prog 18 0=some 0:=by kernel_rfl
@[simp] theorem fi_18_0:fldInfo Tryz.prog 18 0=some (0,false,1):=by kernel_rfl
@[simp] theorem fo_19_0:fOff Tryz.prog 19 0=some 0:=by kernel_rfl
@[simp] theorem fi_19_0:fldInfo Tryz.prog 19 0=some (0,false,1):=by kernel_rfl
@[simp] theorem fo_30_0:fOff Tryz.prog 30 0=some 0:=by kernel_rfl
@[simp] theorem fi_30_0:fldInfo Tryz.prog 30 0=some (0,false,1):=by kernel_rfl
@[simp] theorem fo_30_1:fOff Tryz.prog 30 1=some 1:=by kernel_rfl
@[simp] theorem fi_30_1:fldInfo Tryz.prog 30 1=some (1,false,1):=by kernel_rfl
@[simp] theorem fo_31_0:fOff Tryz.prog 31 0=some 0:=by kernel_rfl
@[simp] theorem fi_31_0:fldInfo Tryz.prog 31 0=some (0,false,1):=by kernel_rfl
@[simp] theorem fo_31_1:fOff Tryz.prog 31 1=some 1:=by kernel_rfl
@[simp] theorem fi_31_1:fldInfo Tryz.prog 31 1=some (1,false,1):=by kernel_rfl
@[simp] theorem fo_33_0:fOff Tryz.prog 33 0=some 0:=by kernel_rfl
@[simp] theorem fi_33_0:fldInfo Tryz.prog 33 0=some (0,false,1):=by kernel_rfl
@[simp] theorem fo_33_1:fOff Tryz.prog 33 1=some 1:=by kernel_rfl
@[simp] theorem fi_33_1:fldInfo Tryz.prog 33 1=some (1,false,1):=by kernel_rfl
@[simp] theorem fo_33_2:fOff Tryz.prog 33 2=some 2:=by kernel_rfl
@[simp] theorem fi_33_2:fldInfo Tryz.prog 33 2=some (2,false,1):=by kernel_rfl
@[simp] theorem fo_34_0:fOff Tryz.prog 34 0=some 0:=by kernel_rfl
@[simp] theorem fi_34_0:fldInfo Tryz.prog 34 0=some (0,false,1):=by kernel_rfl
@[simp] theorem fo_34_1:fOff Tryz.prog 34 1=some 1:=by kernel_rfl
@[simp] theorem fi_34_1:fldInfo Tryz.prog 34 1=some (1,false,1):=by kernel_rfl
@[simp] theorem fo_34_2:fOff Tryz.prog 34 2=some 2:=by kernel_rfl
@[simp] theorem fi_34_2:fldInfo Tryz.prog 34 2=some (2,false,1):=by kernel_rfl
@[simp] theorem fo_36_0:fOff Tryz.prog 36 0=some 0:=by kernel_rfl
@[simp] theorem fi_36_0:fldInfo Tryz.prog 36 0=some (0,false,1):=by kernel_rfl
@[simp] theorem fo_36_1:fOff Tryz.prog 36 1=some 1:=by kernel_rfl
@[simp] theorem fi_36_1:fldInfo Tryz.prog 36 1=some (1,false,1):=by kernel_rfl
@[simp] theorem fo_36_2:fOff Tryz.prog 36 2=some 2:=by kernel_rfl
@[simp] theorem fi_36_2:fldInfo Tryz.prog 36 2=some (2,false,1):=by kernel_rfl
@[simp] theorem fo_36_3:fOff Tryz.prog 36 3=some 3:=by kernel_rfl
@[simp] theorem fi_36_3:fldInfo Tryz.prog 36 3=some (3,true,2):=by kernel_rfl
@[simp] theorem fo_36_4:fOff Tryz.prog 36 4=some 5:=by kernel_rfl
@[simp] theorem fi_36_4:fldInfo Tryz.prog 36 4=some (5,true,3):=by kernel_rfl
@[simp] theorem fo_36_5:fOff Tryz.prog 36 5=some 8:=by kernel_rfl
@[simp] theorem fi_36_5:fldInfo Tryz.prog 36 5=some (8,false,1):=by kernel_rfl
@[simp] theorem fo_36_6:fOff Tryz.prog 36 6=some 9:=by kernel_rfl
@[simp] theorem fi_36_6:fldInfo Tryz.prog 36 6=some (9,false,1):=by kernel_rfl
@[simp] theorem fo_36_7:fOff Tryz.prog 36 7=some 10:=by kernel_rfl
@[simp] theorem fi_36_7:fldInfo Tryz.prog 36 7=some (10,false,1):=by kernel_rfl
@[simp] theorem fo_37_0:fOff Tryz.prog 37 0=some 0:=by kernel_rfl
@[simp] theorem fi_37_0:fldInfo Tryz.prog 37 0=some (0,false,1):=by kernel_rfl
@[simp] theorem fo_37_1:fOff Tryz.prog 37 1=some 1:=by kernel_rfl
@[simp] theorem fi_37_1:fldInfo Tryz.prog 37 1=some (1,false,1):=by kernel_rfl
@[simp] theorem fo_37_2:fOff Tryz.prog 37 2=some 2:=by kernel_rfl
@[simp] theorem fi_37_2:fldInfo Tryz.prog 37 2=some (2,false,1):=by kernel_rfl
@[simp] theorem fo_37_3:fOff Tryz.prog 37 3=some 3:=by kernel_rfl
@[simp] theorem fi_37_3:fldInfo Tryz.prog 37 3=some (3,true,2):=by kernel_rfl
@[simp] theorem fo_37_4:fOff Tryz.prog 37 4=some 5:=by kernel_rfl
@[simp] theorem fi_37_4:fldInfo Tryz.prog 37 4=some (5,true,3):=by kernel_rfl
@[simp] theorem fo_37_5:fOff Tryz.prog 37 5=some 8:=by kernel_rfl
@[simp] theorem fi_37_5:fldInfo Tryz.prog 37 5=some (8,false,1):=by kernel_rfl
@[simp] theorem fo_37_6:fOff Tryz.prog 37 6=some 9:=by kernel_rfl
@[simp] theorem fi_37_6:fldInfo Tryz.prog 37 6=some (9,false,1):=by kernel_rfl
@[simp] theorem fo_37_7:fOff Tryz.prog 37 7=some 10:=by kernel_rfl
@[simp] theorem fi_37_7:fldInfo Tryz.prog 37 7=some (10,false,1):=by kernel_rfl
@[simp] theorem fo_39_0:fOff Tryz.prog 39 0=some 0:=by kernel_rfl
@[simp] theorem fi_39_0:fldInfo Tryz.prog 39 0=some (0,false,1):=by kernel_rfl
@[simp] theorem fo_39_1:fOff Tryz.prog 39 1=some 1:=by kernel_rfl
@[simp] theorem fi_39_1:fldInfo Tryz.prog 39 1=some (1,false,1):=by kernel_rfl
@[simp] theorem fo_40_0:fOff Tryz.prog 40 0=some 0:=by kernel_rfl
@[simp] theorem fi_40_0:fldInfo Tryz.prog 40 0=some (0,false,1):=by kernel_rfl
@[simp] theorem fo_40_1:fOff Tryz.prog 40 1=some 1:=by kernel_rfl
@[simp] theorem fi_40_1:fldInfo Tryz.prog 40 1=some (1,false,1):=by kernel_rfl
@[simp] theorem fo_45_0:fOff Tryz.prog 45 0=some 0:=by kernel_rfl
@[simp] theorem fi_45_0:fldInfo Tryz.prog 45 0=some (0,false,1):=by kernel_rfl
@[simp] theorem fo_45_1:fOff Tryz.prog 45 1=some 1:=by kernel_rfl
@[simp] theorem fi_45_1:fldInfo Tryz.prog 45 1=some (1,false,1):=by kernel_rfl
@[simp] theorem fo_46_0:fOff Tryz.prog 46 0=some 0:=by kernel_rfl
@[simp] theorem fi_46_0:fldInfo Tryz.prog 46 0=some (0,false,1):=by kernel_rfl
@[simp] theorem fo_46_1:fOff Tryz.prog 46 1=some 1:=by kernel_rfl
@[simp] theorem fi_46_1:fldInfo Tryz.prog 46 1=some (1,false,1):=by kernel_rfl
@[simp] theorem fo_90_0:fOff Tryz.prog 90 0=some 0:=by kernel_rfl
@[simp] theorem fi_90_0:fldInfo Tryz.prog 90 0=some (0,false,1):=by kernel_rfl
@[simp] theorem fo_90_1:fOff Tryz.prog 90 1=some 1:=by kernel_rfl
@[simp] theorem fi_90_1:fldInfo Tryz.prog 90 1=some (1,false,1):=by kernel_rfl
@[simp] theorem fo_90_2:fOff Tryz.prog 90 2=some 2:=by kernel_rfl
@[simp] theorem fi_90_2:fldInfo Tryz.prog 90 2=some (2,false,1):=by kernel_rfl
@[simp] theorem fo_90_3:fOff Tryz.prog 90 3=some 3:=by kernel_rfl
@[simp] theorem fi_90_3:fldInfo Tryz.prog 90 3=some (3,false,1):=by kernel_rfl
@[simp] theorem fo_90_4:fOff Tryz.prog 90 4=some 4:=by kernel_rfl
@[simp] theorem fi_90_4:fldInfo Tryz.prog 90 4=some (4,false,1):=by kernel_rfl
@[simp] theorem fo_90_5:fOff Tryz.prog 90 5=some 5:=by kernel_rfl
@[simp] theorem fi_90_5:fldInfo Tryz.prog 90 5=some (5,false,1):=by kernel_rfl
@[simp] theorem fo_90_6:fOff Tryz.prog 90 6=some 6:=by kernel_rfl
@[simp] theorem fi_90_6:fldInfo Tryz.prog 90 6=some (6,false,1):=by kernel_rfl
@[simp] theorem fo_91_0:fOff Tryz.prog 91 0=some 0:=by kernel_rfl
@[simp] theorem fi_91_0:fldInfo Tryz.prog 91 0=some (0,false,1):=by kernel_rfl
@[simp] theorem fo_91_1:fOff Tryz.prog 91 1=some 1:=by kernel_rfl
@[simp] theorem fi_91_1:fldInfo Tryz.prog 91 1=some (1,false,1):=by kernel_rfl
@[simp] theorem fo_91_2:fOff Tryz.prog 91 2=some 2:=by kernel_rfl
@[simp] theorem fi_91_2:fldInfo Tryz.prog 91 2=some (2,false,1):=by kernel_rfl
@[simp] theorem fo_91_3:fOff Tryz.prog 91 3=some 3:=by kernel_rfl
@[simp] theorem fi_91_3:fldInfo Tryz.prog 91 3=some (3,false,1):=by kernel_rfl
@[simp] theorem fo_91_4:fOff Tryz.prog 91 4=some 4:=by kernel_rfl
@[simp] theorem fi_91_4:fldInfo Tryz.prog 91 4=some (4,false,1):=by kernel_rfl
@[simp] theorem fo_91_5:fOff Tryz.prog 91 5=some 5:=by kernel_rfl
@[simp] theorem fi_91_5:fldInfo Tryz.prog 91 5=some (5,false,1):=by kernel_rfl
@[simp] theorem fo_91_6:fOff Tryz.prog 91 6=some 6:=by kernel_rfl
@[simp] theorem fi_91_6:fldInfo Tryz.prog 91 6=some (6,false,1):=by kernel_rfl
@[simp] theorem fo_97_0:fOff Tryz.prog 97 0=some 0:=by kernel_rfl
@[simp] theorem fi_97_0:fldInfo Tryz.prog 97 0=some (0,false,1):=by kernel_rfl
@[simp] theorem fo_97_1:fOff Tryz.prog 97 1=some 1:=by kernel_rfl
@[simp] theorem fi_97_1:fldInfo Tryz.prog 97 1=some (1,false,1):=by kernel_rfl
@[simp] theorem fo_97_2:fOff Tryz.prog 97 2=some 2:=by kernel_rfl
@[simp] theorem fi_97_2:fldInfo Tryz.prog 97 2=some (2,false,1):=by kernel_rfl
@[simp] theorem fo_97_3:fOff Tryz.prog 97 3=some 3:=by kernel_rfl
@[simp] theorem fi_97_3:fldInfo Tryz.prog 97 3=some (3,false,1):=by kernel_rfl
@[simp] theorem fo_97_4:fOff Tryz.prog 97 4=some 4:=by kernel_rfl
@[simp] theorem fi_97_4:fldInfo Tryz.prog 97 4=some (4,false,1):=by kernel_rfl
@[simp] theorem fo_98_0:fOff Tryz.prog 98 0=some 0:=by kernel_rfl
@[simp] theorem fi_98_0:fldInfo Tryz.prog 98 0=some (0,false,1):=by kernel_rfl
@[simp] theorem fo_98_1:fOff Tryz.prog 98 1=some 1:=by kernel_rfl
@[simp] theorem fi_98_1:fldInfo Tryz.prog 98 1=some (1,false,1):=by kernel_rfl
@[simp] theorem fo_98_2:fOff Tryz.prog 98 2=some 2:=by kernel_rfl
@[simp] theorem fi_98_2:fldInfo Tryz.prog 98 2=some (2,false,1):=by kernel_rfl
@[simp] theorem fo_98_3:fOff Tryz.prog 98 3=some 3:=by kernel_rfl
@[simp] theorem fi_98_3:fldInfo Tryz.prog 98 3=some (3,false,1):=by kernel_rfl
@[simp] theorem fo_98_4:fOff Tryz.prog 98 4=some 4:=by kernel_rfl
@[simp] theorem fi_98_4:fldInfo Tryz.prog 98 4=some (4,false,1):=by kernel_rfl
@[simp] theorem fo_105_0:fOff Tryz.prog 105 0=some 0:=by kernel_rfl
@[simp] theorem fi_105_0:fldInfo Tryz.prog 105 0=some (0,false,1):=by kernel_rfl
@[simp] theorem fo_105_1:fOff Tryz.prog 105 1=some 1:=by kernel_rfl
@[simp] theorem fi_105_1:fldInfo Tryz.prog 105 1=some (1,false,1):=by kernel_rfl
@[simp] theorem fo_105_2:fOff Tryz.prog 105 2=some 2:=by kernel_rfl
@[simp] theorem fi_105_2:fldInfo Tryz.prog 105 2=some (2,false,1):=by kernel_rfl
@[simp] theorem fo_105_3:fOff Tryz.prog 105 3=some 3:=by kernel_rfl
@[simp] theorem fi_105_3:fldInfo Tryz.prog 105 3=some (3,false,1):=by kernel_rfl
@[simp] theorem fo_128_0:fOff Tryz.prog 128 0=some 0:=by kernel_rfl
@[simp] theorem fi_128_0:fldInfo Tryz.prog 128 0=some (0,false,1):=by kernel_rfl
@[simp] theorem fo_128_1:fOff Tryz.prog 128 1=some 1:=by kernel_rfl
@[simp] theorem fi_128_1:fldInfo Tryz.prog 128 1=some (1,false,1):=by kernel_rfl
@[simp] theorem fo_128_2:fOff Tryz.prog 128 2=some 2:=by kernel_rfl
@[simp] theorem fi_128_2:fldInfo Tryz.prog 128 2=some (2,false,1):=by kernel_rfl
@[simp] theorem fo_134_0:fOff Tryz.prog 134 0=some 0:=by kernel_rfl
@[simp] theorem fi_134_0:fldInfo Tryz.prog 134 0=some (0,false,1):=by kernel_rfl
@[simp] theorem fo_134_1:fOff Tryz.prog 134 1=some 1:=by kernel_rfl
@[simp] theorem fi_134_1:fldInfo Tryz.prog 134 1=some (1,false,1):=by kernel_rfl
@[simp] theorem fo_135_0:fOff Tryz.prog 135 0=some 0:=by kernel_rfl
@[simp] theorem fi_135_0:fldInfo Tryz.prog 135 0=some (0,false,1):=by kernel_rfl
@[simp] theorem fo_135_1:fOff Tryz.prog 135 1=some 1:=by kernel_rfl
@[simp] theorem fi_135_1:fldInfo Tryz.prog 135 1=some (1,false,1):=by kernel_rfl
@[simp] theorem fo_137_0:fOff Tryz.prog 137 0=some 0:=by kernel_rfl
@[simp] theorem fi_137_0:fldInfo Tryz.prog 137 0=some (0,false,1):=by kernel_rfl
@[simp] theorem fo_137_1:fOff Tryz.prog 137 1=some 1:=by kernel_rfl
@[simp] theorem fi_137_1:fldInfo Tryz.prog 137 1=some (1,false,1):=by kernel_rfl
@[simp] theorem fo_137_2:fOff Tryz.prog 137 2=some 2:=by kernel_rfl
@[simp] theorem fi_137_2:fldInfo Tryz.prog 137 2=some (2,false,1):=by kernel_rfl
@[simp] theorem fo_137_3:fOff Tryz.prog 137 3=some 3:=by kernel_rfl
@[simp] theorem fi_137_3:fldInfo Tryz.prog 137 3=some (3,false,1):=by kernel_rfl
@[simp] theorem fo_138_0:fOff Tryz.prog 138 0=some 0:=by kernel_rfl
@[simp] theorem fi_138_0:fldInfo Tryz.prog 138 0=some (0,false,1):=by kernel_rfl
@[simp] theorem fo_138_1:fOff Tryz.prog 138 1=some 1:=by kernel_rfl
@[simp] theorem fi_138_1:fldInfo Tryz.prog 138 1=some (1,false,1):=by kernel_rfl
@[simp] theorem fo_138_2:fOff Tryz.prog 138 2=some 2:=by kernel_rfl
@[simp] theorem fi_138_2:fldInfo Tryz.prog 138 2=some (2,false,1):=by kernel_rfl
@[simp] theorem fo_138_3:fOff Tryz.prog 138 3=some 3:=by kernel_rfl
@[simp] theorem fi_138_3:fldInfo Tryz.prog 138 3=some (3,false,1):=by kernel_rfl
@[simp] theorem fo_144_0:fOff Tryz.prog 144 0=some 0:=by kernel_rfl
@[simp] theorem fi_144_0:fldInfo Tryz.prog 144 0=some (0,false,1):=by kernel_rfl
@[simp] theorem fo_144_1:fOff Tryz.prog 144 1=some 1:=by kernel_rfl
@[simp] theorem fi_144_1:fldInfo Tryz.prog 144 1=some (1,true,2):=by kernel_rfl
@[simp] theorem fo_149_0:fOff Tryz.prog 149 0=some 0:=by kernel_rfl
@[simp] theorem fi_149_0:fldInfo Tryz.prog 149 0=some (0,false,1):=by kernel_rfl
@[simp] theorem fo_149_1:fOff Tryz.prog 149 1=some 1:=by kernel_rfl
@[simp] theorem fi_149_1:fldInfo Tryz.prog 149 1=some (1,false,1):=by kernel_rfl
@[simp] theorem fo_149_2:fOff Tryz.prog 149 2=some 2:=by kernel_rfl
@[simp] theorem fi_149_2:fldInfo Tryz.prog 149 2=some (2,false,1):=by kernel_rfl
@[simp] theorem fo_149_3:fOff Tryz.prog 149 3=some 3:=by kernel_rfl
@[simp] theorem fi_149_3:fldInfo Tryz.prog 149 3=some (3,false,1):=by kernel_rfl
@[simp] theorem fo_165_0:fOff Tryz.prog 165 0=some 0:=by kernel_rfl
@[simp] theorem fi_165_0:fldInfo Tryz.prog 165 0=some (0,false,1):=by kernel_rfl
@[simp] theorem fo_165_1:fOff Tryz.prog 165 1=some 1:=by kernel_rfl
@[simp] theorem fi_165_1:fldInfo Tryz.prog 165 1=some (1,false,1):=by kernel_rfl
@[simp] theorem fo_165_2:fOff Tryz.prog 165 2=some 2:=by kernel_rfl
@[simp] theorem fi_165_2:fldInfo Tryz.prog 165 2=some (2,false,1):=by kernel_rfl
@[simp] theorem fo_166_0:fOff Tryz.prog 166 0=some 0:=by kernel_rfl
@[simp] theorem fi_166_0:fldInfo Tryz.prog 166 0=some (0,false,1):=by kernel_rfl
@[simp] theorem fo_166_1:fOff Tryz.prog 166 1=some 1:=by kernel_rfl
@[simp] theorem fi_166_1:fldInfo Tryz.prog 166 1=some (1,false,1):=by kernel_rfl
@[simp] theorem fo_166_2:fOff Tryz.prog 166 2=some 2:=by kernel_rfl
@[simp] theorem fi_166_2:fldInfo Tryz.prog 166 2=some (2,false,1):=by kernel_rfl
@[simp] theorem fo_210_0:fOff Tryz.prog 210 0=some 0:=by kernel_rfl
@[simp] theorem fi_210_0:fldInfo Tryz.prog 210 0=some (0,false,1):=by kernel_rfl
@[simp] theorem fo_210_1:fOff Tryz.prog 210 1=some 1:=by kernel_rfl
@[simp] theorem fi_210_1:fldInfo Tryz.prog 210 1=some (1,false,1):=by kernel_rfl
theorem hmo:Tryz.prog.follows .mixedOrders=true:=by kernel_rfl
/-! ### Plain laws -/
/-! ### Walks -/
structure Op5 where
  p:Int
  k:Int
  s:Int
  e:Int
  r:Int
  deriving DecidableEq,Inhabited
def aheadS (a b:Op5):Bool:=decide (a.e≥0)&&decide (a.e<b.s)
def endedS (o:Op5):Bool:=if o.e=-1 then decide (o.r=-1)else decide (o.e>o.s)&&decide (o.e≤9999)&&decide (o.r≥0)&&decide (o.r≤1000000)
def aloneS (o:Op5):Int:=if o.p<1∨o.p>1000∨o.s<0∨o.s>9999 then 2 else if o.k<0∨o.k≥64 then 31 else if endedS o then 0 else 7
@[simp] theorem belowR_ints (k:Nat) (l:List Int):belowR k (l.map fun i=>[I64 i]):=by
 rw[belowR_iff];intro r hr x hx;obtain⟨o,_,rfl⟩:=List.mem_map.1 hr;simp at hx;subst hx;trivial
/-! ### Pairs -/
/-! ### Plain laws -/
def meetsS (a b:Op5):Bool:=decide (a.s=b.s)||decide (a.e=b.s)||decide (a.s=b.e)||(decide (a.e=b.e)&&!decide (a.e=-1))
def badS (a o:Op5):Bool:=decide (o.s≤a.s)||meetsS a o
def openS (a o:Op5):Bool:=decide (a.p=o.p)&&!aheadS a o
def stepE (pre:List Op5) (o:Op5):Int:=if aloneS o≠0 then aloneS o else if pre.any (fun a=>badS a o)=true then 32 else if pre.any (fun a=>openS a o)=true then 33 else 0
def errAt (ops:List Op5) (i:Nat):Int:=stepE (ops.take i) (ops.getD i default)
def chk (ops:List Op5):Int×Int:=
 if ops.length>5000 then(0,3)else match(List.range ops.length).find? (fun i=>decide (errAt ops i≠0))with
 |some i=>((i:Int),errAt ops i)
 |none=>((ops.length:Int),0)
/-! ### The document's answer -/
@[simp] theorem frzR_ints (r:Nat→Nat→PV) (l:List Int):frzR r (l.map fun i=>[I64 i])=l.map fun i=>[I64 i]:=by
 rw[frzR_map,List.map_map];congr 1
/-! ### Maps of one kind -/
def mapE {α:Type} (f:α→PV) (l:List (Int×α)):List (Int×PV):=l.map fun p=>(p.1,f p.2)
def lk {α:Type}:List (Int×α)→Int→Option α
 |[],_=>none
 |(k,x)::r,n=>if k=n then some x else lk r n
def pt {α:Type}:List (Int×α)→Int→α→List (Int×α)
 |[],n,y=>[(n,y)]
 |(k,x)::r,n,y=>if k=n then(k,y)::r else(k,x)::pt r n y
theorem amLook_mapE {α:Type} (f:α→PV):∀(l:List (Int×α)) (k:Int),amLook (mapE f l) k=(lk l k).map f
 |[],_=>rfl
 |(j,x)::r,k=>by
  have:=amLook_mapE f r k;simp only[mapE,List.map_cons,amLook,lk]at this⊢;split
  ·rfl
  ·exact this
theorem amPut_mapE {α:Type} (f:α→PV):∀(l:List (Int×α)) (k:Int) (y:α),amPut (mapE f l) k (f y)=mapE f (pt l k y)
 |[],_,_=>rfl
 |(j,x)::r,k,y=>by
  have:=amPut_mapE f r k y;simp only[mapE,List.map_cons,amPut,pt]at this⊢;split
  ·rfl
  ·rw[this];rfl
theorem lk_pt {α:Type}:∀(l:List (Int×α)) (k:Int) (y:α) (n:Int),lk (pt l k y) n=if k=n then some y else lk l n
 |[],k,y,n=>rfl
 |(j,x)::r,k,y,n=>by
  simp only[pt];split
  ·rename_i h;subst h;simp only[lk];split<;>rfl
  ·rename_i h;simp only[lk,lk_pt r k y n];split
   ·rename_i h2;subst h2;rw[if_neg (fun e=>h e.symm)]
   ·rfl
def fI (n:Int):PV:=I64 n
@[simp] theorem look_fI (l:List (Int×Int)) (k:Int):(amLook (mapE fI l) k).getD (I64 0)=I64 ((lk l k).getD 0):=by
 rw[amLook_mapE];cases lk l k<;>rfl
@[simp] theorem put_fI (l:List (Int×Int)) (k n:Int):amPut (mapE fI l) k (I64 n)=mapE fI (pt l k n):=amPut_mapE fI l k n
@[simp] theorem belowE_fI (n:Nat) (l:List (Int×Int)):belowE n (mapE fI l):=by
 rw[belowE_iff];intro r hr;obtain⟨p,_,rfl⟩:=List.mem_map.1 hr;trivial
@[simp] theorem mapE_nil {α:Type} (f:α→PV):mapE f []=[]:=rfl
/-! ### What the maps hold -/
end Go.AX