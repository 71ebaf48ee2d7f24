/-
  Facts on the types of this seat.
-/
import Derived.Test.YtkeeipfglmpgjaaHd
import Derived.Test.YtkeeipfglmpgjaaChecked
namespace Go.Proofs.Ytkeeipfglmpgjaa
set_option linter.unusedSimpArgs false
set_option linter.unusedVariables false
open Go.RowKit

theorem ty_0 : tyOf Try.prog 0 = some (false, 1) := by kernel_rfl
theorem ty_1 : tyOf Try.prog 1 = some (false, 1) := by kernel_rfl
theorem zc_1 : zcs Try.prog 1 = some [.nilFunc] := by kernel_rfl
theorem ty_2 : tyOf Try.prog 2 = some (false, 1) := by kernel_rfl
theorem zc_2 : zcs Try.prog 2 = some [.int .i64 0] := by kernel_rfl
theorem ty_3 : tyOf Try.prog 3 = some (false, 1) := by kernel_rfl
theorem zc_3 : zcs Try.prog 3 = some [.int .i64 0] := by kernel_rfl
theorem ty_4 : tyOf Try.prog 4 = some (false, 1) := by kernel_rfl
theorem zc_4 : zcs Try.prog 4 = some [.bool false] := by kernel_rfl
theorem ty_5 : tyOf Try.prog 5 = some (false, 1) := by kernel_rfl
theorem zc_5 : zcs Try.prog 5 = some [.int .u8 0] := by kernel_rfl
theorem ty_6 : tyOf Try.prog 6 = some (false, 1) := by kernel_rfl
theorem zc_6 : zcs Try.prog 6 = some [.int .u8 0] := by kernel_rfl
theorem ty_7 : tyOf Try.prog 7 = some (true, 4) := by kernel_rfl
theorem zc_7 : zcs Try.prog 7 = some [.int .i64 0, .int .i64 0, .bool false, .int .u8 0] := by kernel_rfl
theorem st_7 : stOf Try.prog 7 = some ([.int .i64 0, .int .i64 0, .bool false, .int .u8 0], [(0, 1), (1, 1), (2, 1), (3, 1)]) := by kernel_rfl
theorem fd_7_0 : fdOf Try.prog 7 0 = some 0 := by kernel_rfl
theorem fd_7_1 : fdOf Try.prog 7 1 = some 1 := by kernel_rfl
theorem fd_7_2 : fdOf Try.prog 7 2 = some 2 := by kernel_rfl
theorem fd_7_3 : fdOf Try.prog 7 3 = some 3 := by kernel_rfl
theorem ty_8 : tyOf Try.prog 8 = some (true, 4) := by kernel_rfl
theorem zc_8 : zcs Try.prog 8 = some [.int .i64 0, .int .i64 0, .bool false, .int .u8 0] := by kernel_rfl
theorem st_8 : stOf Try.prog 8 = some ([.int .i64 0, .int .i64 0, .bool false, .int .u8 0], [(0, 1), (1, 1), (2, 1), (3, 1)]) := by kernel_rfl
theorem fd_8_0 : fdOf Try.prog 8 0 = some 0 := by kernel_rfl
theorem fd_8_1 : fdOf Try.prog 8 1 = some 1 := by kernel_rfl
theorem fd_8_2 : fdOf Try.prog 8 2 = some 2 := by kernel_rfl
theorem fd_8_3 : fdOf Try.prog 8 3 = some 3 := by kernel_rfl
theorem ty_9 : tyOf Try.prog 9 = some (false, 1) := by kernel_rfl
theorem zc_9 : zcs Try.prog 9 = some [.string ByteArray.empty] := by kernel_rfl
theorem ty_10 : tyOf Try.prog 10 = some (false, 1) := by kernel_rfl
theorem zc_10 : zcs Try.prog 10 = some [.string ByteArray.empty] := by kernel_rfl
theorem ty_11 : tyOf Try.prog 11 = some (false, 1) := by kernel_rfl
theorem zc_11 : zcs Try.prog 11 = some [.string ByteArray.empty] := by kernel_rfl
theorem ty_12 : tyOf Try.prog 12 = some (false, 1) := by kernel_rfl
theorem zc_12 : zcs Try.prog 12 = some [.int .u64 0] := by kernel_rfl
theorem ty_13 : tyOf Try.prog 13 = some (true, 2) := by kernel_rfl
theorem zc_13 : zcs Try.prog 13 = some [.string ByteArray.empty, .int .u64 0] := by kernel_rfl
theorem st_13 : stOf Try.prog 13 = some ([.string ByteArray.empty, .int .u64 0], [(0, 1), (1, 1)]) := by kernel_rfl
theorem fd_13_0 : fdOf Try.prog 13 0 = some 0 := by kernel_rfl
theorem fd_13_1 : fdOf Try.prog 13 1 = some 1 := by kernel_rfl
theorem ty_14 : tyOf Try.prog 14 = some (true, 2) := by kernel_rfl
theorem zc_14 : zcs Try.prog 14 = some [.string ByteArray.empty, .int .u64 0] := by kernel_rfl
theorem st_14 : stOf Try.prog 14 = some ([.string ByteArray.empty, .int .u64 0], [(0, 1), (1, 1)]) := by kernel_rfl
theorem fd_14_0 : fdOf Try.prog 14 0 = some 0 := by kernel_rfl
theorem fd_14_1 : fdOf Try.prog 14 1 = some 1 := by kernel_rfl
theorem ty_15 : tyOf Try.prog 15 = some (false, 1) := by kernel_rfl
theorem zc_15 : zcs Try.prog 15 = some [.pointer none] := by kernel_rfl
theorem ty_16 : tyOf Try.prog 16 = some (false, 1) := by kernel_rfl
theorem zc_16 : zcs Try.prog 16 = some [.pointer none] := by kernel_rfl
theorem ty_17 : tyOf Try.prog 17 = some (false, 1) := by kernel_rfl
theorem zc_17 : zcs Try.prog 17 = some [.pointer none] := by kernel_rfl
theorem ty_18 : tyOf Try.prog 18 = some (true, 1) := by kernel_rfl
theorem zc_18 : zcs Try.prog 18 = some [.pointer none] := by kernel_rfl
theorem st_18 : stOf Try.prog 18 = some ([.pointer none], [(0, 1)]) := by kernel_rfl
theorem fd_18_0 : fdOf Try.prog 18 0 = some 0 := by kernel_rfl
theorem ty_19 : tyOf Try.prog 19 = some (true, 1) := by kernel_rfl
theorem zc_19 : zcs Try.prog 19 = some [.pointer none] := by kernel_rfl
theorem st_19 : stOf Try.prog 19 = some ([.pointer none], [(0, 1)]) := by kernel_rfl
theorem fd_19_0 : fdOf Try.prog 19 0 = some 0 := by kernel_rfl
theorem ty_20 : tyOf Try.prog 20 = some (false, 1) := by kernel_rfl
theorem zc_20 : zcs Try.prog 20 = some [.nilIface] := by kernel_rfl
theorem ty_21 : tyOf Try.prog 21 = some (false, 1) := by kernel_rfl
theorem zc_21 : zcs Try.prog 21 = some [.int .i32 0] := by kernel_rfl
theorem ty_22 : tyOf Try.prog 22 = some (false, 1) := by kernel_rfl
theorem ei_22 : elInfo Try.prog 22 = some (25, 2, 16, true) := by kernel_rfl
theorem el_22 : elOf Try.prog 22 = some (25, 2) := by kernel_rfl
theorem zc_22 : zcs Try.prog 22 = some [.slice none 0 0] := by kernel_rfl
theorem ty_23 : tyOf Try.prog 23 = some (false, 1) := by kernel_rfl
theorem ei_23 : elInfo Try.prog 23 = some (4, 1, 1, true) := by kernel_rfl
theorem el_23 : elOf Try.prog 23 = some (4, 1) := by kernel_rfl
theorem zc_23 : zcs Try.prog 23 = some [.slice none 0 0] := by kernel_rfl
theorem ty_24 : tyOf Try.prog 24 = some (false, 1) := by kernel_rfl
theorem ei_24 : elInfo Try.prog 24 = some (28, 4, 48, true) := by kernel_rfl
theorem el_24 : elOf Try.prog 24 = some (28, 4) := by kernel_rfl
theorem zc_24 : zcs Try.prog 24 = some [.slice none 0 0] := by kernel_rfl
theorem ty_25 : tyOf Try.prog 25 = some (true, 2) := by kernel_rfl
theorem zc_25 : zcs Try.prog 25 = some [.int .i64 0, .int .i64 0] := by kernel_rfl
theorem ty_26 : tyOf Try.prog 26 = some (false, 1) := by kernel_rfl
theorem ei_26 : elInfo Try.prog 26 = some (43, 12, 48, true) := by kernel_rfl
theorem el_26 : elOf Try.prog 26 = some (43, 12) := by kernel_rfl
theorem zc_26 : zcs Try.prog 26 = some [.slice none 0 0] := by kernel_rfl
theorem ty_27 : tyOf Try.prog 27 = some (true, 4) := by kernel_rfl
theorem zc_27 : zcs Try.prog 27 = some [.bool false, .int .i64 0, .int .i64 0, .slice none 0 0] := by kernel_rfl
theorem st_27 : stOf Try.prog 27 = some ([.bool false, .int .i64 0, .int .i64 0, .slice none 0 0], [(0, 1), (1, 1), (2, 1), (3, 1)]) := by kernel_rfl
theorem fd_27_0 : fdOf Try.prog 27 0 = some 0 := by kernel_rfl
theorem fd_27_1 : fdOf Try.prog 27 1 = some 1 := by kernel_rfl
theorem fd_27_2 : fdOf Try.prog 27 2 = some 2 := by kernel_rfl
theorem fd_27_3 : fdOf Try.prog 27 3 = some 3 := by kernel_rfl
theorem ty_28 : tyOf Try.prog 28 = some (true, 4) := by kernel_rfl
theorem zc_28 : zcs Try.prog 28 = some [.bool false, .int .i64 0, .int .i64 0, .slice none 0 0] := by kernel_rfl
theorem st_28 : stOf Try.prog 28 = some ([.bool false, .int .i64 0, .int .i64 0, .slice none 0 0], [(0, 1), (1, 1), (2, 1), (3, 1)]) := by kernel_rfl
theorem fd_28_0 : fdOf Try.prog 28 0 = some 0 := by kernel_rfl
theorem fd_28_1 : fdOf Try.prog 28 1 = some 1 := by kernel_rfl
theorem fd_28_2 : fdOf Try.prog 28 2 = some 2 := by kernel_rfl
theorem fd_28_3 : fdOf Try.prog 28 3 = some 3 := by kernel_rfl
theorem ty_29 : tyOf Try.prog 29 = some (false, 1) := by kernel_rfl
theorem zc_29 : zcs Try.prog 29 = some [.nilFunc] := by kernel_rfl
theorem ty_30 : tyOf Try.prog 30 = some (false, 1) := by kernel_rfl
theorem zc_30 : zcs Try.prog 30 = some [.nilFunc] := by kernel_rfl
theorem ty_31 : tyOf Try.prog 31 = some (false, 1) := by kernel_rfl
theorem zc_31 : zcs Try.prog 31 = some [.nilFunc] := by kernel_rfl
theorem ty_32 : tyOf Try.prog 32 = some (false, 1) := by kernel_rfl
theorem zc_32 : zcs Try.prog 32 = some [.nilFunc] := by kernel_rfl
theorem ty_33 : tyOf Try.prog 33 = some (true, 3) := by kernel_rfl
theorem zc_33 : zcs Try.prog 33 = some [.slice none 0 0, .int .i64 0, .int .i64 0] := by kernel_rfl
theorem st_33 : stOf Try.prog 33 = some ([.slice none 0 0, .int .i64 0, .int .i64 0], [(0, 1), (1, 1), (2, 1)]) := by kernel_rfl
theorem fd_33_0 : fdOf Try.prog 33 0 = some 0 := by kernel_rfl
theorem fd_33_1 : fdOf Try.prog 33 1 = some 1 := by kernel_rfl
theorem fd_33_2 : fdOf Try.prog 33 2 = some 2 := by kernel_rfl
theorem ty_34 : tyOf Try.prog 34 = some (true, 3) := by kernel_rfl
theorem zc_34 : zcs Try.prog 34 = some [.slice none 0 0, .int .i64 0, .int .i64 0] := by kernel_rfl
theorem st_34 : stOf Try.prog 34 = some ([.slice none 0 0, .int .i64 0, .int .i64 0], [(0, 1), (1, 1), (2, 1)]) := by kernel_rfl
theorem fd_34_0 : fdOf Try.prog 34 0 = some 0 := by kernel_rfl
theorem fd_34_1 : fdOf Try.prog 34 1 = some 1 := by kernel_rfl
theorem fd_34_2 : fdOf Try.prog 34 2 = some 2 := by kernel_rfl
theorem ty_35 : tyOf Try.prog 35 = some (false, 1) := by kernel_rfl
theorem zc_35 : zcs Try.prog 35 = some [.nilFunc] := by kernel_rfl
theorem ty_36 : tyOf Try.prog 36 = some (false, 1) := by kernel_rfl
theorem zc_36 : zcs Try.prog 36 = some [.nilFunc] := by kernel_rfl
theorem ty_37 : tyOf Try.prog 37 = some (false, 1) := by kernel_rfl
theorem ty_38 : tyOf Try.prog 38 = some (false, 1) := by kernel_rfl
theorem zc_38 : zcs Try.prog 38 = some [.nilFunc] := by kernel_rfl
theorem ty_39 : tyOf Try.prog 39 = some (false, 1) := by kernel_rfl
theorem zc_39 : zcs Try.prog 39 = some [.int .u16 0] := by kernel_rfl
theorem ty_40 : tyOf Try.prog 40 = some (true, 8) := by kernel_rfl
theorem zc_40 : zcs Try.prog 40 = some [.int .u16 0, .int .u16 0, .int .u16 0, .int .u16 0, .int .u16 0, .int .u16 0, .int .u16 0, .int .u16 0] := by kernel_rfl
theorem ty_41 : tyOf Try.prog 41 = some (true, 8) := by kernel_rfl
theorem zc_41 : zcs Try.prog 41 = some [.int .u16 0, .int .u16 0, .int .u16 0, .int .u16 0, .int .u16 0, .int .u16 0, .int .u16 0, .int .u16 0] := by kernel_rfl
theorem ty_42 : tyOf Try.prog 42 = some (true, 12) := by kernel_rfl
theorem zc_42 : zcs Try.prog 42 = some [.int .i64 0, .int .i64 0, .int .i64 0, .int .i32 0, .int .u16 0, .int .u16 0, .int .u16 0, .int .u16 0, .int .u16 0, .int .u16 0, .int .u16 0, .int .u16 0] := by kernel_rfl
theorem st_42 : stOf Try.prog 42 = some ([.int .i64 0, .int .i64 0, .int .i64 0, .int .i32 0, .int .u16 0, .int .u16 0, .int .u16 0, .int .u16 0, .int .u16 0, .int .u16 0, .int .u16 0, .int .u16 0], [(0, 1), (1, 1), (2, 1), (3, 1), (4, 8)]) := by kernel_rfl
theorem fd_42_0 : fdOf Try.prog 42 0 = some 0 := by kernel_rfl
theorem fd_42_1 : fdOf Try.prog 42 1 = some 1 := by kernel_rfl
theorem fd_42_2 : fdOf Try.prog 42 2 = some 2 := by kernel_rfl
theorem fd_42_3 : fdOf Try.prog 42 3 = some 3 := by kernel_rfl
theorem fd_42_4 : fdOf Try.prog 42 4 = some 4 := by kernel_rfl
theorem ty_43 : tyOf Try.prog 43 = some (true, 12) := by kernel_rfl
theorem zc_43 : zcs Try.prog 43 = some [.int .i64 0, .int .i64 0, .int .i64 0, .int .i32 0, .int .u16 0, .int .u16 0, .int .u16 0, .int .u16 0, .int .u16 0, .int .u16 0, .int .u16 0, .int .u16 0] := by kernel_rfl
theorem st_43 : stOf Try.prog 43 = some ([.int .i64 0, .int .i64 0, .int .i64 0, .int .i32 0, .int .u16 0, .int .u16 0, .int .u16 0, .int .u16 0, .int .u16 0, .int .u16 0, .int .u16 0, .int .u16 0], [(0, 1), (1, 1), (2, 1), (3, 1), (4, 8)]) := by kernel_rfl
theorem fd_43_0 : fdOf Try.prog 43 0 = some 0 := by kernel_rfl
theorem fd_43_1 : fdOf Try.prog 43 1 = some 1 := by kernel_rfl
theorem fd_43_2 : fdOf Try.prog 43 2 = some 2 := by kernel_rfl
theorem fd_43_3 : fdOf Try.prog 43 3 = some 3 := by kernel_rfl
theorem fd_43_4 : fdOf Try.prog 43 4 = some 4 := by kernel_rfl
theorem ty_44 : tyOf Try.prog 44 = some (false, 1) := by kernel_rfl
theorem zc_44 : zcs Try.prog 44 = some [.nilFunc] := by kernel_rfl
theorem ty_45 : tyOf Try.prog 45 = some (false, 1) := by kernel_rfl
theorem zc_45 : zcs Try.prog 45 = some [.nilFunc] := by kernel_rfl
theorem ty_46 : tyOf Try.prog 46 = some (false, 1) := by kernel_rfl
theorem ei_46 : elInfo Try.prog 46 = some (58, 2, 16, true) := by kernel_rfl
theorem el_46 : elOf Try.prog 46 = some (58, 2) := by kernel_rfl
theorem zc_46 : zcs Try.prog 46 = some [.slice none 0 0] := by kernel_rfl
theorem ty_47 : tyOf Try.prog 47 = some (false, 1) := by kernel_rfl
theorem zc_47 : zcs Try.prog 47 = some [.pointer none] := by kernel_rfl
theorem ty_48 : tyOf Try.prog 48 = some (false, 1) := by kernel_rfl
theorem zc_48 : zcs Try.prog 48 = some [.nilFunc] := by kernel_rfl
theorem ty_49 : tyOf Try.prog 49 = some (false, 1) := by kernel_rfl
theorem ty_50 : tyOf Try.prog 50 = some (false, 1) := by kernel_rfl
theorem zc_50 : zcs Try.prog 50 = some [.nilFunc] := by kernel_rfl
theorem ty_51 : tyOf Try.prog 51 = some (false, 1) := by kernel_rfl
theorem zc_51 : zcs Try.prog 51 = some [.nilFunc] := by kernel_rfl
theorem ty_52 : tyOf Try.prog 52 = some (false, 1) := by kernel_rfl
theorem ei_52 : elInfo Try.prog 52 = some (93, 3, 24, true) := by kernel_rfl
theorem el_52 : elOf Try.prog 52 = some (93, 3) := by kernel_rfl
theorem zc_52 : zcs Try.prog 52 = some [.slice none 0 0] := by kernel_rfl
theorem ty_53 : tyOf Try.prog 53 = some (false, 1) := by kernel_rfl
theorem ei_53 : elInfo Try.prog 53 = some (93, 3, 24, true) := by kernel_rfl
theorem el_53 : elOf Try.prog 53 = some (93, 3) := by kernel_rfl
theorem zc_53 : zcs Try.prog 53 = some [.slice none 0 0] := by kernel_rfl
theorem ty_54 : tyOf Try.prog 54 = some (true, 2) := by kernel_rfl
theorem zc_54 : zcs Try.prog 54 = some [.slice none 0 0, .int .i64 0] := by kernel_rfl
theorem st_54 : stOf Try.prog 54 = some ([.slice none 0 0, .int .i64 0], [(0, 1), (1, 1)]) := by kernel_rfl
theorem fd_54_0 : fdOf Try.prog 54 0 = some 0 := by kernel_rfl
theorem fd_54_1 : fdOf Try.prog 54 1 = some 1 := by kernel_rfl
theorem ty_55 : tyOf Try.prog 55 = some (true, 2) := by kernel_rfl
theorem zc_55 : zcs Try.prog 55 = some [.slice none 0 0, .int .i64 0] := by kernel_rfl
theorem st_55 : stOf Try.prog 55 = some ([.slice none 0 0, .int .i64 0], [(0, 1), (1, 1)]) := by kernel_rfl
theorem fd_55_0 : fdOf Try.prog 55 0 = some 0 := by kernel_rfl
theorem fd_55_1 : fdOf Try.prog 55 1 = some 1 := by kernel_rfl
theorem ty_56 : tyOf Try.prog 56 = some (false, 1) := by kernel_rfl
theorem ei_56 : elInfo Try.prog 56 = some (60, 2, 16, true) := by kernel_rfl
theorem el_56 : elOf Try.prog 56 = some (60, 2) := by kernel_rfl
theorem zc_56 : zcs Try.prog 56 = some [.slice none 0 0] := by kernel_rfl
theorem ty_57 : tyOf Try.prog 57 = some (true, 2) := by kernel_rfl
theorem zc_57 : zcs Try.prog 57 = some [.int .i64 0, .int .i64 0] := by kernel_rfl
theorem st_57 : stOf Try.prog 57 = some ([.int .i64 0, .int .i64 0], [(0, 1), (1, 1)]) := by kernel_rfl
theorem fd_57_0 : fdOf Try.prog 57 0 = some 0 := by kernel_rfl
theorem fd_57_1 : fdOf Try.prog 57 1 = some 1 := by kernel_rfl
theorem ty_58 : tyOf Try.prog 58 = some (true, 2) := by kernel_rfl
theorem zc_58 : zcs Try.prog 58 = some [.int .i64 0, .int .i64 0] := by kernel_rfl
theorem st_58 : stOf Try.prog 58 = some ([.int .i64 0, .int .i64 0], [(0, 1), (1, 1)]) := by kernel_rfl
theorem fd_58_0 : fdOf Try.prog 58 0 = some 0 := by kernel_rfl
theorem fd_58_1 : fdOf Try.prog 58 1 = some 1 := by kernel_rfl
theorem ty_59 : tyOf Try.prog 59 = some (true, 2) := by kernel_rfl
theorem zc_59 : zcs Try.prog 59 = some [.int .i64 0, .int .i64 0] := by kernel_rfl
theorem st_59 : stOf Try.prog 59 = some ([.int .i64 0, .int .i64 0], [(0, 1), (1, 1)]) := by kernel_rfl
theorem fd_59_0 : fdOf Try.prog 59 0 = some 0 := by kernel_rfl
theorem fd_59_1 : fdOf Try.prog 59 1 = some 1 := by kernel_rfl
theorem ty_60 : tyOf Try.prog 60 = some (true, 2) := by kernel_rfl
theorem zc_60 : zcs Try.prog 60 = some [.int .i64 0, .int .i64 0] := by kernel_rfl
theorem st_60 : stOf Try.prog 60 = some ([.int .i64 0, .int .i64 0], [(0, 1), (1, 1)]) := by kernel_rfl
theorem fd_60_0 : fdOf Try.prog 60 0 = some 0 := by kernel_rfl
theorem fd_60_1 : fdOf Try.prog 60 1 = some 1 := by kernel_rfl
theorem ty_61 : tyOf Try.prog 61 = some (false, 1) := by kernel_rfl
theorem zc_61 : zcs Try.prog 61 = some [.nilFunc] := by kernel_rfl
theorem ty_62 : tyOf Try.prog 62 = some (false, 1) := by kernel_rfl
theorem zc_62 : zcs Try.prog 62 = some [.nilFunc] := by kernel_rfl
theorem ty_63 : tyOf Try.prog 63 = some (false, 1) := by kernel_rfl
theorem zc_63 : zcs Try.prog 63 = some [.nilFunc] := by kernel_rfl
theorem ty_64 : tyOf Try.prog 64 = some (false, 1) := by kernel_rfl
theorem ei_64 : elInfo Try.prog 64 = some (3, 1, 8, true) := by kernel_rfl
theorem el_64 : elOf Try.prog 64 = some (3, 1) := by kernel_rfl
theorem zc_64 : zcs Try.prog 64 = some [.slice none 0 0] := by kernel_rfl
theorem ty_65 : tyOf Try.prog 65 = some (false, 1) := by kernel_rfl
theorem zc_65 : zcs Try.prog 65 = some [.nilFunc] := by kernel_rfl
theorem ty_66 : tyOf Try.prog 66 = some (false, 1) := by kernel_rfl
theorem zc_66 : zcs Try.prog 66 = some [.nilFunc] := by kernel_rfl
theorem ty_67 : tyOf Try.prog 67 = some (false, 1) := by kernel_rfl
theorem zc_67 : zcs Try.prog 67 = some [.nilFunc] := by kernel_rfl
theorem ty_68 : tyOf Try.prog 68 = some (false, 1) := by kernel_rfl
theorem zc_68 : zcs Try.prog 68 = some [.nilFunc] := by kernel_rfl
theorem ty_69 : tyOf Try.prog 69 = some (false, 1) := by kernel_rfl
theorem zc_69 : zcs Try.prog 69 = some [.nilFunc] := by kernel_rfl
theorem ty_70 : tyOf Try.prog 70 = some (false, 1) := by kernel_rfl
theorem zc_70 : zcs Try.prog 70 = some [.nilFunc] := by kernel_rfl
theorem ty_71 : tyOf Try.prog 71 = some (false, 1) := by kernel_rfl
theorem zc_71 : zcs Try.prog 71 = some [.nilFunc] := by kernel_rfl
theorem ty_72 : tyOf Try.prog 72 = some (false, 1) := by kernel_rfl
theorem zc_72 : zcs Try.prog 72 = some [.nilFunc] := by kernel_rfl
theorem ty_73 : tyOf Try.prog 73 = some (false, 1) := by kernel_rfl
theorem ei_73 : elInfo Try.prog 73 = some (77, 10, 112, true) := by kernel_rfl
theorem el_73 : elOf Try.prog 73 = some (77, 10) := by kernel_rfl
theorem zc_73 : zcs Try.prog 73 = some [.slice none 0 0] := by kernel_rfl
theorem ty_74 : tyOf Try.prog 74 = some (false, 1) := by kernel_rfl
theorem zc_74 : zcs Try.prog 74 = some [.nilFunc] := by kernel_rfl
theorem ty_75 : tyOf Try.prog 75 = some (false, 1) := by kernel_rfl
theorem ei_75 : elInfo Try.prog 75 = some (41, 8, 16, true) := by kernel_rfl
theorem el_75 : elOf Try.prog 75 = some (41, 8) := by kernel_rfl
theorem zc_75 : zcs Try.prog 75 = some [.slice none 0 0] := by kernel_rfl
theorem ty_76 : tyOf Try.prog 76 = some (true, 10) := by kernel_rfl
theorem zc_76 : zcs Try.prog 76 = some [.int .i64 0, .int .i64 0, .int .i64 0, .int .i64 0, .int .i64 0, .int .i64 0, .int .i64 0, .int .i64 0, .slice none 0 0, .slice none 0 0] := by kernel_rfl
theorem st_76 : stOf Try.prog 76 = some ([.int .i64 0, .int .i64 0, .int .i64 0, .int .i64 0, .int .i64 0, .int .i64 0, .int .i64 0, .int .i64 0, .slice none 0 0, .slice none 0 0], [(0, 1), (1, 1), (2, 1), (3, 1), (4, 1), (5, 1), (6, 1), (7, 1), (8, 1), (9, 1)]) := by kernel_rfl
theorem fd_76_0 : fdOf Try.prog 76 0 = some 0 := by kernel_rfl
theorem fd_76_1 : fdOf Try.prog 76 1 = some 1 := by kernel_rfl
theorem fd_76_2 : fdOf Try.prog 76 2 = some 2 := by kernel_rfl
theorem fd_76_3 : fdOf Try.prog 76 3 = some 3 := by kernel_rfl
theorem fd_76_4 : fdOf Try.prog 76 4 = some 4 := by kernel_rfl
theorem fd_76_5 : fdOf Try.prog 76 5 = some 5 := by kernel_rfl
theorem fd_76_6 : fdOf Try.prog 76 6 = some 6 := by kernel_rfl
theorem fd_76_7 : fdOf Try.prog 76 7 = some 7 := by kernel_rfl
theorem fd_76_8 : fdOf Try.prog 76 8 = some 8 := by kernel_rfl
theorem fd_76_9 : fdOf Try.prog 76 9 = some 9 := by kernel_rfl
theorem ty_77 : tyOf Try.prog 77 = some (true, 10) := by kernel_rfl
theorem zc_77 : zcs Try.prog 77 = some [.int .i64 0, .int .i64 0, .int .i64 0, .int .i64 0, .int .i64 0, .int .i64 0, .int .i64 0, .int .i64 0, .slice none 0 0, .slice none 0 0] := by kernel_rfl
theorem st_77 : stOf Try.prog 77 = some ([.int .i64 0, .int .i64 0, .int .i64 0, .int .i64 0, .int .i64 0, .int .i64 0, .int .i64 0, .int .i64 0, .slice none 0 0, .slice none 0 0], [(0, 1), (1, 1), (2, 1), (3, 1), (4, 1), (5, 1), (6, 1), (7, 1), (8, 1), (9, 1)]) := by kernel_rfl
theorem fd_77_0 : fdOf Try.prog 77 0 = some 0 := by kernel_rfl
theorem fd_77_1 : fdOf Try.prog 77 1 = some 1 := by kernel_rfl
theorem fd_77_2 : fdOf Try.prog 77 2 = some 2 := by kernel_rfl
theorem fd_77_3 : fdOf Try.prog 77 3 = some 3 := by kernel_rfl
theorem fd_77_4 : fdOf Try.prog 77 4 = some 4 := by kernel_rfl
theorem fd_77_5 : fdOf Try.prog 77 5 = some 5 := by kernel_rfl
theorem fd_77_6 : fdOf Try.prog 77 6 = some 6 := by kernel_rfl
theorem fd_77_7 : fdOf Try.prog 77 7 = some 7 := by kernel_rfl
theorem fd_77_8 : fdOf Try.prog 77 8 = some 8 := by kernel_rfl
theorem fd_77_9 : fdOf Try.prog 77 9 = some 9 := by kernel_rfl
theorem ty_78 : tyOf Try.prog 78 = some (false, 1) := by kernel_rfl
theorem ty_79 : tyOf Try.prog 79 = some (false, 1) := by kernel_rfl
theorem zc_79 : zcs Try.prog 79 = some [.nilFunc] := by kernel_rfl
theorem ty_80 : tyOf Try.prog 80 = some (false, 1) := by kernel_rfl
theorem zc_80 : zcs Try.prog 80 = some [.nilFunc] := by kernel_rfl
theorem ty_81 : tyOf Try.prog 81 = some (false, 1) := by kernel_rfl
theorem zc_81 : zcs Try.prog 81 = some [.nilFunc] := by kernel_rfl
theorem ty_82 : tyOf Try.prog 82 = some (false, 1) := by kernel_rfl
theorem zc_82 : zcs Try.prog 82 = some [.nilFunc] := by kernel_rfl
theorem ty_83 : tyOf Try.prog 83 = some (false, 1) := by kernel_rfl
theorem zc_83 : zcs Try.prog 83 = some [.nilFunc] := by kernel_rfl
theorem ty_84 : tyOf Try.prog 84 = some (false, 1) := by kernel_rfl
theorem zc_84 : zcs Try.prog 84 = some [.nilFunc] := by kernel_rfl
theorem ty_85 : tyOf Try.prog 85 = some (false, 1) := by kernel_rfl
theorem zc_85 : zcs Try.prog 85 = some [.nilFunc] := by kernel_rfl
theorem ty_86 : tyOf Try.prog 86 = some (false, 1) := by kernel_rfl
theorem zc_86 : zcs Try.prog 86 = some [.nilFunc] := by kernel_rfl
theorem ty_87 : tyOf Try.prog 87 = some (false, 1) := by kernel_rfl
theorem zc_87 : zcs Try.prog 87 = some [.nilFunc] := by kernel_rfl
theorem ty_88 : tyOf Try.prog 88 = some (false, 1) := by kernel_rfl
theorem zc_88 : zcs Try.prog 88 = some [.nilFunc] := by kernel_rfl
theorem ty_89 : tyOf Try.prog 89 = some (false, 1) := by kernel_rfl
theorem zc_89 : zcs Try.prog 89 = some [.nilFunc] := by kernel_rfl
theorem ty_90 : tyOf Try.prog 90 = some (false, 1) := by kernel_rfl
theorem zc_90 : zcs Try.prog 90 = some [.nilFunc] := by kernel_rfl
theorem ty_91 : tyOf Try.prog 91 = some (false, 1) := by kernel_rfl
theorem zc_91 : zcs Try.prog 91 = some [.pointer none] := by kernel_rfl
theorem ty_92 : tyOf Try.prog 92 = some (true, 3) := by kernel_rfl
theorem zc_92 : zcs Try.prog 92 = some [.int .i64 0, .int .i64 0, .int .i64 0] := by kernel_rfl
theorem st_92 : stOf Try.prog 92 = some ([.int .i64 0, .int .i64 0, .int .i64 0], [(0, 1), (1, 1), (2, 1)]) := by kernel_rfl
theorem fd_92_0 : fdOf Try.prog 92 0 = some 0 := by kernel_rfl
theorem fd_92_1 : fdOf Try.prog 92 1 = some 1 := by kernel_rfl
theorem fd_92_2 : fdOf Try.prog 92 2 = some 2 := by kernel_rfl
theorem ty_93 : tyOf Try.prog 93 = some (true, 3) := by kernel_rfl
theorem zc_93 : zcs Try.prog 93 = some [.int .i64 0, .int .i64 0, .int .i64 0] := by kernel_rfl
theorem st_93 : stOf Try.prog 93 = some ([.int .i64 0, .int .i64 0, .int .i64 0], [(0, 1), (1, 1), (2, 1)]) := by kernel_rfl
theorem fd_93_0 : fdOf Try.prog 93 0 = some 0 := by kernel_rfl
theorem fd_93_1 : fdOf Try.prog 93 1 = some 1 := by kernel_rfl
theorem fd_93_2 : fdOf Try.prog 93 2 = some 2 := by kernel_rfl
theorem ty_94 : tyOf Try.prog 94 = some (false, 1) := by kernel_rfl
theorem ty_95 : tyOf Try.prog 95 = some (false, 1) := by kernel_rfl
theorem zc_95 : zcs Try.prog 95 = some [.nilFunc] := by kernel_rfl
theorem ty_96 : tyOf Try.prog 96 = some (false, 1) := by kernel_rfl
theorem zc_96 : zcs Try.prog 96 = some [.nilFunc] := by kernel_rfl
theorem ty_97 : tyOf Try.prog 97 = some (false, 1) := by kernel_rfl
theorem ei_97 : elInfo Try.prog 97 = some (100, 1, 8, true) := by kernel_rfl
theorem el_97 : elOf Try.prog 97 = some (100, 1) := by kernel_rfl
theorem zc_97 : zcs Try.prog 97 = some [.slice none 0 0] := by kernel_rfl
theorem ty_98 : tyOf Try.prog 98 = some (false, 1) := by kernel_rfl
theorem zc_98 : zcs Try.prog 98 = some [.nilFunc] := by kernel_rfl
theorem ty_99 : tyOf Try.prog 99 = some (true, 1) := by kernel_rfl
theorem zc_99 : zcs Try.prog 99 = some [.nilFunc] := by kernel_rfl
theorem st_99 : stOf Try.prog 99 = some ([.nilFunc], [(0, 1)]) := by kernel_rfl
theorem fd_99_0 : fdOf Try.prog 99 0 = some 0 := by kernel_rfl
theorem ty_100 : tyOf Try.prog 100 = some (true, 1) := by kernel_rfl
theorem zc_100 : zcs Try.prog 100 = some [.nilFunc] := by kernel_rfl
theorem st_100 : stOf Try.prog 100 = some ([.nilFunc], [(0, 1)]) := by kernel_rfl
theorem fd_100_0 : fdOf Try.prog 100 0 = some 0 := by kernel_rfl
theorem ty_101 : tyOf Try.prog 101 = some (false, 1) := by kernel_rfl
theorem zc_101 : zcs Try.prog 101 = some [.nilFunc] := by kernel_rfl
theorem ty_102 : tyOf Try.prog 102 = some (false, 1) := by kernel_rfl
theorem zc_102 : zcs Try.prog 102 = some [.nilFunc] := by kernel_rfl
theorem ty_103 : tyOf Try.prog 103 = some (false, 1) := by kernel_rfl
theorem zc_103 : zcs Try.prog 103 = some [.nilFunc] := by kernel_rfl
theorem ty_104 : tyOf Try.prog 104 = some (false, 1) := by kernel_rfl
theorem ei_104 : elInfo Try.prog 104 = some (21, 1, 4, true) := by kernel_rfl
theorem el_104 : elOf Try.prog 104 = some (21, 1) := by kernel_rfl
theorem zc_104 : zcs Try.prog 104 = some [.slice none 0 0] := by kernel_rfl
theorem ty_105 : tyOf Try.prog 105 = some (false, 1) := by kernel_rfl
theorem ty_106 : tyOf Try.prog 106 = some (false, 1) := by kernel_rfl
theorem zc_106 : zcs Try.prog 106 = some [.nilFunc] := by kernel_rfl
theorem ty_107 : tyOf Try.prog 107 = some (false, 1) := by kernel_rfl
theorem ei_107 : elInfo Try.prog 107 = some (26, 1, 24, true) := by kernel_rfl
theorem el_107 : elOf Try.prog 107 = some (26, 1) := by kernel_rfl
theorem zc_107 : zcs Try.prog 107 = some [.slice none 0 0] := by kernel_rfl
theorem ty_108 : tyOf Try.prog 108 = some (false, 1) := by kernel_rfl
theorem zc_108 : zcs Try.prog 108 = some [.nilFunc] := by kernel_rfl
theorem ty_109 : tyOf Try.prog 109 = some (false, 1) := by kernel_rfl
theorem zc_109 : zcs Try.prog 109 = some [.nilFunc] := by kernel_rfl
theorem ty_110 : tyOf Try.prog 110 = some (false, 1) := by kernel_rfl
theorem zc_110 : zcs Try.prog 110 = some [.nilIface] := by kernel_rfl
theorem ty_111 : tyOf Try.prog 111 = some (false, 1) := by kernel_rfl
theorem zc_111 : zcs Try.prog 111 = some [.nilIface] := by kernel_rfl
theorem ty_112 : tyOf Try.prog 112 = some (false, 1) := by kernel_rfl
theorem zc_112 : zcs Try.prog 112 = some [.nilFunc] := by kernel_rfl
theorem ty_113 : tyOf Try.prog 113 = some (false, 1) := by kernel_rfl
theorem zc_113 : zcs Try.prog 113 = some [.nilFunc] := by kernel_rfl
theorem ty_114 : tyOf Try.prog 114 = some (false, 1) := by kernel_rfl
theorem zc_114 : zcs Try.prog 114 = some [.nilFunc] := by kernel_rfl
theorem ty_115 : tyOf Try.prog 115 = some (false, 1) := by kernel_rfl
theorem zc_115 : zcs Try.prog 115 = some [.nilFunc] := by kernel_rfl
theorem ty_116 : tyOf Try.prog 116 = some (false, 1) := by kernel_rfl
theorem zc_116 : zcs Try.prog 116 = some [.nilIface] := by kernel_rfl
theorem ty_117 : tyOf Try.prog 117 = some (false, 1) := by kernel_rfl
theorem zc_117 : zcs Try.prog 117 = some [.nilIface] := by kernel_rfl
theorem ty_118 : tyOf Try.prog 118 = some (false, 1) := by kernel_rfl
theorem zc_118 : zcs Try.prog 118 = some [.nilFunc] := by kernel_rfl
theorem ty_119 : tyOf Try.prog 119 = some (true, 10) := by kernel_rfl
theorem zc_119 : zcs Try.prog 119 = some [.int .i64 0, .int .i64 0, .int .i64 0, .int .i64 0, .int .i64 0, .int .i64 0, .int .i64 0, .int .i64 0, .slice none 0 0, .slice none 0 0] := by kernel_rfl
theorem st_119 : stOf Try.prog 119 = some ([.int .i64 0, .int .i64 0, .int .i64 0, .int .i64 0, .int .i64 0, .int .i64 0, .int .i64 0, .int .i64 0, .slice none 0 0, .slice none 0 0], [(0, 10)]) := by kernel_rfl
theorem fd_119_0 : fdOf Try.prog 119 0 = some 0 := by kernel_rfl
theorem ty_120 : tyOf Try.prog 120 = some (true, 10) := by kernel_rfl
theorem zc_120 : zcs Try.prog 120 = some [.int .i64 0, .int .i64 0, .int .i64 0, .int .i64 0, .int .i64 0, .int .i64 0, .int .i64 0, .int .i64 0, .slice none 0 0, .slice none 0 0] := by kernel_rfl
theorem st_120 : stOf Try.prog 120 = some ([.int .i64 0, .int .i64 0, .int .i64 0, .int .i64 0, .int .i64 0, .int .i64 0, .int .i64 0, .int .i64 0, .slice none 0 0, .slice none 0 0], [(0, 10)]) := by kernel_rfl
theorem fd_120_0 : fdOf Try.prog 120 0 = some 0 := by kernel_rfl
theorem ty_121 : tyOf Try.prog 121 = some (true, 10) := by kernel_rfl
theorem zc_121 : zcs Try.prog 121 = some [.int .i64 0, .int .i64 0, .int .i64 0, .int .i64 0, .int .i64 0, .int .i64 0, .int .i64 0, .int .i64 0, .slice none 0 0, .slice none 0 0] := by kernel_rfl
theorem st_121 : stOf Try.prog 121 = some ([.int .i64 0, .int .i64 0, .int .i64 0, .int .i64 0, .int .i64 0, .int .i64 0, .int .i64 0, .int .i64 0, .slice none 0 0, .slice none 0 0], [(0, 10)]) := by kernel_rfl
theorem fd_121_0 : fdOf Try.prog 121 0 = some 0 := by kernel_rfl
theorem ty_122 : tyOf Try.prog 122 = some (true, 10) := by kernel_rfl
theorem zc_122 : zcs Try.prog 122 = some [.int .i64 0, .int .i64 0, .int .i64 0, .int .i64 0, .int .i64 0, .int .i64 0, .int .i64 0, .int .i64 0, .slice none 0 0, .slice none 0 0] := by kernel_rfl
theorem st_122 : stOf Try.prog 122 = some ([.int .i64 0, .int .i64 0, .int .i64 0, .int .i64 0, .int .i64 0, .int .i64 0, .int .i64 0, .int .i64 0, .slice none 0 0, .slice none 0 0], [(0, 10)]) := by kernel_rfl
theorem fd_122_0 : fdOf Try.prog 122 0 = some 0 := by kernel_rfl
theorem ty_123 : tyOf Try.prog 123 = some (true, 10) := by kernel_rfl
theorem zc_123 : zcs Try.prog 123 = some [.int .i64 0, .int .i64 0, .int .i64 0, .int .i64 0, .int .i64 0, .int .i64 0, .int .i64 0, .int .i64 0, .slice none 0 0, .slice none 0 0] := by kernel_rfl
theorem st_123 : stOf Try.prog 123 = some ([.int .i64 0, .int .i64 0, .int .i64 0, .int .i64 0, .int .i64 0, .int .i64 0, .int .i64 0, .int .i64 0, .slice none 0 0, .slice none 0 0], [(0, 10)]) := by kernel_rfl
theorem fd_123_0 : fdOf Try.prog 123 0 = some 0 := by kernel_rfl
theorem ty_124 : tyOf Try.prog 124 = some (false, 1) := by kernel_rfl
theorem zc_124 : zcs Try.prog 124 = some [.nilFunc] := by kernel_rfl
theorem ty_125 : tyOf Try.prog 125 = some (true, 4) := by kernel_rfl
theorem zc_125 : zcs Try.prog 125 = some [.pointer none, .pointer none, .pointer none, .string ByteArray.empty] := by kernel_rfl
theorem st_125 : stOf Try.prog 125 = some ([.pointer none, .pointer none, .pointer none, .string ByteArray.empty], [(0, 1), (1, 1), (2, 1), (3, 1)]) := by kernel_rfl
theorem fd_125_0 : fdOf Try.prog 125 0 = some 0 := by kernel_rfl
theorem fd_125_1 : fdOf Try.prog 125 1 = some 1 := by kernel_rfl
theorem fd_125_2 : fdOf Try.prog 125 2 = some 2 := by kernel_rfl
theorem fd_125_3 : fdOf Try.prog 125 3 = some 3 := by kernel_rfl
theorem ty_126 : tyOf Try.prog 126 = some (true, 4) := by kernel_rfl
theorem zc_126 : zcs Try.prog 126 = some [.pointer none, .pointer none, .pointer none, .string ByteArray.empty] := by kernel_rfl
theorem st_126 : stOf Try.prog 126 = some ([.pointer none, .pointer none, .pointer none, .string ByteArray.empty], [(0, 1), (1, 1), (2, 1), (3, 1)]) := by kernel_rfl
theorem fd_126_0 : fdOf Try.prog 126 0 = some 0 := by kernel_rfl
theorem fd_126_1 : fdOf Try.prog 126 1 = some 1 := by kernel_rfl
theorem fd_126_2 : fdOf Try.prog 126 2 = some 2 := by kernel_rfl
theorem fd_126_3 : fdOf Try.prog 126 3 = some 3 := by kernel_rfl
theorem ty_127 : tyOf Try.prog 127 = some (true, 0) := by kernel_rfl
theorem zc_127 : zcs Try.prog 127 = some [] := by kernel_rfl
theorem ty_128 : tyOf Try.prog 128 = some (true, 0) := by kernel_rfl
theorem zc_128 : zcs Try.prog 128 = some [] := by kernel_rfl
theorem st_128 : stOf Try.prog 128 = some ([], [(0, 0)]) := by kernel_rfl
theorem ty_129 : tyOf Try.prog 129 = some (true, 0) := by kernel_rfl
theorem zc_129 : zcs Try.prog 129 = some [] := by kernel_rfl
theorem st_129 : stOf Try.prog 129 = some ([], [(0, 0)]) := by kernel_rfl
theorem ty_130 : tyOf Try.prog 130 = some (false, 1) := by kernel_rfl
theorem zc_130 : zcs Try.prog 130 = some [.int .u32 0] := by kernel_rfl
theorem ty_131 : tyOf Try.prog 131 = some (false, 1) := by kernel_rfl
theorem zc_131 : zcs Try.prog 131 = some [.int .u8 0] := by kernel_rfl
theorem ty_132 : tyOf Try.prog 132 = some (false, 1) := by kernel_rfl
theorem zc_132 : zcs Try.prog 132 = some [.int .u8 0] := by kernel_rfl
theorem ty_133 : tyOf Try.prog 133 = some (false, 1) := by kernel_rfl
theorem zc_133 : zcs Try.prog 133 = some [.nilFunc] := by kernel_rfl
theorem ty_134 : tyOf Try.prog 134 = some (false, 1) := by kernel_rfl
theorem zc_134 : zcs Try.prog 134 = some [.pointer none] := by kernel_rfl
theorem ty_135 : tyOf Try.prog 135 = some (false, 1) := by kernel_rfl
theorem zc_135 : zcs Try.prog 135 = some [.int .i32 0] := by kernel_rfl
theorem ty_136 : tyOf Try.prog 136 = some (false, 1) := by kernel_rfl
theorem zc_136 : zcs Try.prog 136 = some [.int .i32 0] := by kernel_rfl
theorem ty_137 : tyOf Try.prog 137 = some (true, 11) := by kernel_rfl
theorem zc_137 : zcs Try.prog 137 = some [.int .u64 0, .int .u64 0, .int .u32 0, .int .u8 0, .int .u8 0, .int .u8 0, .int .u8 0, .nilFunc, .pointer none, .int .i32 0, .int .i32 0] := by kernel_rfl
theorem st_137 : stOf Try.prog 137 = some ([.int .u64 0, .int .u64 0, .int .u32 0, .int .u8 0, .int .u8 0, .int .u8 0, .int .u8 0, .nilFunc, .pointer none, .int .i32 0, .int .i32 0], [(0, 1), (1, 1), (2, 1), (3, 1), (4, 1), (5, 1), (6, 1), (7, 1), (8, 1), (9, 1), (10, 1)]) := by kernel_rfl
theorem fd_137_0 : fdOf Try.prog 137 0 = some 0 := by kernel_rfl
theorem fd_137_1 : fdOf Try.prog 137 1 = some 1 := by kernel_rfl
theorem fd_137_2 : fdOf Try.prog 137 2 = some 2 := by kernel_rfl
theorem fd_137_3 : fdOf Try.prog 137 3 = some 3 := by kernel_rfl
theorem fd_137_4 : fdOf Try.prog 137 4 = some 4 := by kernel_rfl
theorem fd_137_5 : fdOf Try.prog 137 5 = some 5 := by kernel_rfl
theorem fd_137_6 : fdOf Try.prog 137 6 = some 6 := by kernel_rfl
theorem fd_137_7 : fdOf Try.prog 137 7 = some 7 := by kernel_rfl
theorem fd_137_8 : fdOf Try.prog 137 8 = some 8 := by kernel_rfl
theorem fd_137_9 : fdOf Try.prog 137 9 = some 9 := by kernel_rfl
theorem fd_137_10 : fdOf Try.prog 137 10 = some 10 := by kernel_rfl
theorem ty_138 : tyOf Try.prog 138 = some (true, 11) := by kernel_rfl
theorem zc_138 : zcs Try.prog 138 = some [.int .u64 0, .int .u64 0, .int .u32 0, .int .u8 0, .int .u8 0, .int .u8 0, .int .u8 0, .nilFunc, .pointer none, .int .i32 0, .int .i32 0] := by kernel_rfl
theorem st_138 : stOf Try.prog 138 = some ([.int .u64 0, .int .u64 0, .int .u32 0, .int .u8 0, .int .u8 0, .int .u8 0, .int .u8 0, .nilFunc, .pointer none, .int .i32 0, .int .i32 0], [(0, 1), (1, 1), (2, 1), (3, 1), (4, 1), (5, 1), (6, 1), (7, 1), (8, 1), (9, 1), (10, 1)]) := by kernel_rfl
theorem fd_138_0 : fdOf Try.prog 138 0 = some 0 := by kernel_rfl
theorem fd_138_1 : fdOf Try.prog 138 1 = some 1 := by kernel_rfl
theorem fd_138_2 : fdOf Try.prog 138 2 = some 2 := by kernel_rfl
theorem fd_138_3 : fdOf Try.prog 138 3 = some 3 := by kernel_rfl
theorem fd_138_4 : fdOf Try.prog 138 4 = some 4 := by kernel_rfl
theorem fd_138_5 : fdOf Try.prog 138 5 = some 5 := by kernel_rfl
theorem fd_138_6 : fdOf Try.prog 138 6 = some 6 := by kernel_rfl
theorem fd_138_7 : fdOf Try.prog 138 7 = some 7 := by kernel_rfl
theorem fd_138_8 : fdOf Try.prog 138 8 = some 8 := by kernel_rfl
theorem fd_138_9 : fdOf Try.prog 138 9 = some 9 := by kernel_rfl
theorem fd_138_10 : fdOf Try.prog 138 10 = some 10 := by kernel_rfl
theorem ty_139 : tyOf Try.prog 139 = some (false, 1) := by kernel_rfl
theorem zc_139 : zcs Try.prog 139 = some [.nilFunc] := by kernel_rfl
theorem ty_140 : tyOf Try.prog 140 = some (false, 1) := by kernel_rfl
theorem zc_140 : zcs Try.prog 140 = some [.nilFunc] := by kernel_rfl
theorem ty_141 : tyOf Try.prog 141 = some (false, 1) := by kernel_rfl
theorem zc_141 : zcs Try.prog 141 = some [.nilFunc] := by kernel_rfl
theorem ty_142 : tyOf Try.prog 142 = some (false, 1) := by kernel_rfl
theorem zc_142 : zcs Try.prog 142 = some [.nilFunc] := by kernel_rfl
theorem ty_143 : tyOf Try.prog 143 = some (false, 1) := by kernel_rfl
theorem zc_143 : zcs Try.prog 143 = some [.pointer none] := by kernel_rfl
theorem ty_144 : tyOf Try.prog 144 = some (false, 1) := by kernel_rfl
theorem zc_144 : zcs Try.prog 144 = some [.pointer none] := by kernel_rfl
theorem ty_145 : tyOf Try.prog 145 = some (false, 1) := by kernel_rfl
theorem zc_145 : zcs Try.prog 145 = some [.pointer none] := by kernel_rfl
theorem ty_146 : tyOf Try.prog 146 = some (false, 1) := by kernel_rfl
theorem zc_146 : zcs Try.prog 146 = some [.int .i64 0] := by kernel_rfl
theorem ty_147 : tyOf Try.prog 147 = some (false, 1) := by kernel_rfl
theorem ei_147 : elInfo Try.prog 147 = some (156, 3, 24, true) := by kernel_rfl
theorem el_147 : elOf Try.prog 147 = some (156, 3) := by kernel_rfl
theorem zc_147 : zcs Try.prog 147 = some [.slice none 0 0] := by kernel_rfl
theorem ty_148 : tyOf Try.prog 148 = some (false, 1) := by kernel_rfl
theorem ei_148 : elInfo Try.prog 148 = some (162, 11, 120, true) := by kernel_rfl
theorem el_148 : elOf Try.prog 148 = some (162, 11) := by kernel_rfl
theorem zc_148 : zcs Try.prog 148 = some [.slice none 0 0] := by kernel_rfl
theorem ty_149 : tyOf Try.prog 149 = some (false, 1) := by kernel_rfl
theorem ei_149 : elInfo Try.prog 149 = some (164, 4, 56, true) := by kernel_rfl
theorem el_149 : elOf Try.prog 149 = some (164, 4) := by kernel_rfl
theorem zc_149 : zcs Try.prog 149 = some [.slice none 0 0] := by kernel_rfl
theorem ty_150 : tyOf Try.prog 150 = some (true, 2) := by kernel_rfl
theorem zc_150 : zcs Try.prog 150 = some [.slice none 0 0, .slice none 0 0] := by kernel_rfl
theorem st_150 : stOf Try.prog 150 = some ([.slice none 0 0, .slice none 0 0], [(0, 1), (1, 1)]) := by kernel_rfl
theorem fd_150_0 : fdOf Try.prog 150 0 = some 0 := by kernel_rfl
theorem fd_150_1 : fdOf Try.prog 150 1 = some 1 := by kernel_rfl
theorem ty_151 : tyOf Try.prog 151 = some (true, 2) := by kernel_rfl
theorem zc_151 : zcs Try.prog 151 = some [.slice none 0 0, .slice none 0 0] := by kernel_rfl
theorem st_151 : stOf Try.prog 151 = some ([.slice none 0 0, .slice none 0 0], [(0, 1), (1, 1)]) := by kernel_rfl
theorem fd_151_0 : fdOf Try.prog 151 0 = some 0 := by kernel_rfl
theorem fd_151_1 : fdOf Try.prog 151 1 = some 1 := by kernel_rfl
theorem ty_152 : tyOf Try.prog 152 = some (false, 1) := by kernel_rfl
theorem ei_152 : elInfo Try.prog 152 = some (145, 1, 8, true) := by kernel_rfl
theorem el_152 : elOf Try.prog 152 = some (145, 1) := by kernel_rfl
theorem zc_152 : zcs Try.prog 152 = some [.slice none 0 0] := by kernel_rfl
theorem ty_153 : tyOf Try.prog 153 = some (true, 16) := by kernel_rfl
theorem zc_153 : zcs Try.prog 153 = some [.int .i64 0, .int .i64 0, .int .i64 0, .int .i32 0, .int .u16 0, .int .u16 0, .int .u16 0, .int .u16 0, .int .u16 0, .int .u16 0, .int .u16 0, .int .u16 0, .slice none 0 0, .slice none 0 0, .int .i64 0, .int .i64 0] := by kernel_rfl
theorem st_153 : stOf Try.prog 153 = some ([.int .i64 0, .int .i64 0, .int .i64 0, .int .i32 0, .int .u16 0, .int .u16 0, .int .u16 0, .int .u16 0, .int .u16 0, .int .u16 0, .int .u16 0, .int .u16 0, .slice none 0 0, .slice none 0 0, .int .i64 0, .int .i64 0], [(0, 12), (12, 1), (13, 1), (14, 1), (15, 1)]) := by kernel_rfl
theorem fd_153_0 : fdOf Try.prog 153 0 = some 0 := by kernel_rfl
theorem fd_153_1 : fdOf Try.prog 153 1 = some 12 := by kernel_rfl
theorem fd_153_2 : fdOf Try.prog 153 2 = some 13 := by kernel_rfl
theorem fd_153_3 : fdOf Try.prog 153 3 = some 14 := by kernel_rfl
theorem fd_153_4 : fdOf Try.prog 153 4 = some 15 := by kernel_rfl
theorem ty_154 : tyOf Try.prog 154 = some (true, 16) := by kernel_rfl
theorem zc_154 : zcs Try.prog 154 = some [.int .i64 0, .int .i64 0, .int .i64 0, .int .i32 0, .int .u16 0, .int .u16 0, .int .u16 0, .int .u16 0, .int .u16 0, .int .u16 0, .int .u16 0, .int .u16 0, .slice none 0 0, .slice none 0 0, .int .i64 0, .int .i64 0] := by kernel_rfl
theorem st_154 : stOf Try.prog 154 = some ([.int .i64 0, .int .i64 0, .int .i64 0, .int .i32 0, .int .u16 0, .int .u16 0, .int .u16 0, .int .u16 0, .int .u16 0, .int .u16 0, .int .u16 0, .int .u16 0, .slice none 0 0, .slice none 0 0, .int .i64 0, .int .i64 0], [(0, 12), (12, 1), (13, 1), (14, 1), (15, 1)]) := by kernel_rfl
theorem fd_154_0 : fdOf Try.prog 154 0 = some 0 := by kernel_rfl
theorem fd_154_1 : fdOf Try.prog 154 1 = some 12 := by kernel_rfl
theorem fd_154_2 : fdOf Try.prog 154 2 = some 13 := by kernel_rfl
theorem fd_154_3 : fdOf Try.prog 154 3 = some 14 := by kernel_rfl
theorem fd_154_4 : fdOf Try.prog 154 4 = some 15 := by kernel_rfl
theorem ty_155 : tyOf Try.prog 155 = some (true, 3) := by kernel_rfl
theorem zc_155 : zcs Try.prog 155 = some [.int .i64 0, .int .i64 0, .int .i64 0] := by kernel_rfl
theorem st_155 : stOf Try.prog 155 = some ([.int .i64 0, .int .i64 0, .int .i64 0], [(0, 1), (1, 1), (2, 1)]) := by kernel_rfl
theorem fd_155_0 : fdOf Try.prog 155 0 = some 0 := by kernel_rfl
theorem fd_155_1 : fdOf Try.prog 155 1 = some 1 := by kernel_rfl
theorem fd_155_2 : fdOf Try.prog 155 2 = some 2 := by kernel_rfl
theorem ty_156 : tyOf Try.prog 156 = some (true, 3) := by kernel_rfl
theorem zc_156 : zcs Try.prog 156 = some [.int .i64 0, .int .i64 0, .int .i64 0] := by kernel_rfl
theorem st_156 : stOf Try.prog 156 = some ([.int .i64 0, .int .i64 0, .int .i64 0], [(0, 1), (1, 1), (2, 1)]) := by kernel_rfl
theorem fd_156_0 : fdOf Try.prog 156 0 = some 0 := by kernel_rfl
theorem fd_156_1 : fdOf Try.prog 156 1 = some 1 := by kernel_rfl
theorem fd_156_2 : fdOf Try.prog 156 2 = some 2 := by kernel_rfl
theorem ty_157 : tyOf Try.prog 157 = some (false, 1) := by kernel_rfl
theorem ei_157 : elInfo Try.prog 157 = some (9, 1, 16, true) := by kernel_rfl
theorem el_157 : elOf Try.prog 157 = some (9, 1) := by kernel_rfl
theorem zc_157 : zcs Try.prog 157 = some [.slice none 0 0] := by kernel_rfl
theorem ty_158 : tyOf Try.prog 158 = some (true, 9) := by kernel_rfl
theorem zc_158 : zcs Try.prog 158 = some [.string ByteArray.empty, .slice none 0 0, .bool false, .bool false, .bool false, .int .i64 0, .bool false, .slice none 0 0, .string ByteArray.empty] := by kernel_rfl
theorem st_158 : stOf Try.prog 158 = some ([.string ByteArray.empty, .slice none 0 0, .bool false, .bool false, .bool false, .int .i64 0, .bool false, .slice none 0 0, .string ByteArray.empty], [(0, 1), (1, 1), (2, 1), (3, 1), (4, 1), (5, 1), (6, 1), (7, 1), (8, 1)]) := by kernel_rfl
theorem fd_158_0 : fdOf Try.prog 158 0 = some 0 := by kernel_rfl
theorem fd_158_1 : fdOf Try.prog 158 1 = some 1 := by kernel_rfl
theorem fd_158_2 : fdOf Try.prog 158 2 = some 2 := by kernel_rfl
theorem fd_158_3 : fdOf Try.prog 158 3 = some 3 := by kernel_rfl
theorem fd_158_4 : fdOf Try.prog 158 4 = some 4 := by kernel_rfl
theorem fd_158_5 : fdOf Try.prog 158 5 = some 5 := by kernel_rfl
theorem fd_158_6 : fdOf Try.prog 158 6 = some 6 := by kernel_rfl
theorem fd_158_7 : fdOf Try.prog 158 7 = some 7 := by kernel_rfl
theorem fd_158_8 : fdOf Try.prog 158 8 = some 8 := by kernel_rfl
theorem ty_159 : tyOf Try.prog 159 = some (true, 9) := by kernel_rfl
theorem zc_159 : zcs Try.prog 159 = some [.string ByteArray.empty, .slice none 0 0, .bool false, .bool false, .bool false, .int .i64 0, .bool false, .slice none 0 0, .string ByteArray.empty] := by kernel_rfl
theorem st_159 : stOf Try.prog 159 = some ([.string ByteArray.empty, .slice none 0 0, .bool false, .bool false, .bool false, .int .i64 0, .bool false, .slice none 0 0, .string ByteArray.empty], [(0, 1), (1, 1), (2, 1), (3, 1), (4, 1), (5, 1), (6, 1), (7, 1), (8, 1)]) := by kernel_rfl
theorem fd_159_0 : fdOf Try.prog 159 0 = some 0 := by kernel_rfl
theorem fd_159_1 : fdOf Try.prog 159 1 = some 1 := by kernel_rfl
theorem fd_159_2 : fdOf Try.prog 159 2 = some 2 := by kernel_rfl
theorem fd_159_3 : fdOf Try.prog 159 3 = some 3 := by kernel_rfl
theorem fd_159_4 : fdOf Try.prog 159 4 = some 4 := by kernel_rfl
theorem fd_159_5 : fdOf Try.prog 159 5 = some 5 := by kernel_rfl
theorem fd_159_6 : fdOf Try.prog 159 6 = some 6 := by kernel_rfl
theorem fd_159_7 : fdOf Try.prog 159 7 = some 7 := by kernel_rfl
theorem fd_159_8 : fdOf Try.prog 159 8 = some 8 := by kernel_rfl
theorem ty_160 : tyOf Try.prog 160 = some (false, 1) := by kernel_rfl
theorem zc_160 : zcs Try.prog 160 = some [.pointer none] := by kernel_rfl
theorem ty_161 : tyOf Try.prog 161 = some (true, 11) := by kernel_rfl
theorem zc_161 : zcs Try.prog 161 = some [.string ByteArray.empty, .slice none 0 0, .bool false, .bool false, .bool false, .int .i64 0, .bool false, .slice none 0 0, .string ByteArray.empty, .bool false, .pointer none] := by kernel_rfl
theorem st_161 : stOf Try.prog 161 = some ([.string ByteArray.empty, .slice none 0 0, .bool false, .bool false, .bool false, .int .i64 0, .bool false, .slice none 0 0, .string ByteArray.empty, .bool false, .pointer none], [(0, 9), (9, 1), (10, 1)]) := by kernel_rfl
theorem fd_161_0 : fdOf Try.prog 161 0 = some 0 := by kernel_rfl
theorem fd_161_1 : fdOf Try.prog 161 1 = some 9 := by kernel_rfl
theorem fd_161_2 : fdOf Try.prog 161 2 = some 10 := by kernel_rfl
theorem ty_162 : tyOf Try.prog 162 = some (true, 11) := by kernel_rfl
theorem zc_162 : zcs Try.prog 162 = some [.string ByteArray.empty, .slice none 0 0, .bool false, .bool false, .bool false, .int .i64 0, .bool false, .slice none 0 0, .string ByteArray.empty, .bool false, .pointer none] := by kernel_rfl
theorem st_162 : stOf Try.prog 162 = some ([.string ByteArray.empty, .slice none 0 0, .bool false, .bool false, .bool false, .int .i64 0, .bool false, .slice none 0 0, .string ByteArray.empty, .bool false, .pointer none], [(0, 9), (9, 1), (10, 1)]) := by kernel_rfl
theorem fd_162_0 : fdOf Try.prog 162 0 = some 0 := by kernel_rfl
theorem fd_162_1 : fdOf Try.prog 162 1 = some 9 := by kernel_rfl
theorem fd_162_2 : fdOf Try.prog 162 2 = some 10 := by kernel_rfl
theorem ty_163 : tyOf Try.prog 163 = some (true, 4) := by kernel_rfl
theorem zc_163 : zcs Try.prog 163 = some [.string ByteArray.empty, .int .i64 0, .bool false, .slice none 0 0] := by kernel_rfl
theorem st_163 : stOf Try.prog 163 = some ([.string ByteArray.empty, .int .i64 0, .bool false, .slice none 0 0], [(0, 1), (1, 1), (2, 1), (3, 1)]) := by kernel_rfl
theorem fd_163_0 : fdOf Try.prog 163 0 = some 0 := by kernel_rfl
theorem fd_163_1 : fdOf Try.prog 163 1 = some 1 := by kernel_rfl
theorem fd_163_2 : fdOf Try.prog 163 2 = some 2 := by kernel_rfl
theorem fd_163_3 : fdOf Try.prog 163 3 = some 3 := by kernel_rfl
theorem ty_164 : tyOf Try.prog 164 = some (true, 4) := by kernel_rfl
theorem zc_164 : zcs Try.prog 164 = some [.string ByteArray.empty, .int .i64 0, .bool false, .slice none 0 0] := by kernel_rfl
theorem st_164 : stOf Try.prog 164 = some ([.string ByteArray.empty, .int .i64 0, .bool false, .slice none 0 0], [(0, 1), (1, 1), (2, 1), (3, 1)]) := by kernel_rfl
theorem fd_164_0 : fdOf Try.prog 164 0 = some 0 := by kernel_rfl
theorem fd_164_1 : fdOf Try.prog 164 1 = some 1 := by kernel_rfl
theorem fd_164_2 : fdOf Try.prog 164 2 = some 2 := by kernel_rfl
theorem fd_164_3 : fdOf Try.prog 164 3 = some 3 := by kernel_rfl
theorem ty_165 : tyOf Try.prog 165 = some (false, 1) := by kernel_rfl
theorem ei_165 : elInfo Try.prog 165 = some (170, 33, 264, true) := by kernel_rfl
theorem el_165 : elOf Try.prog 165 = some (170, 33) := by kernel_rfl
theorem zc_165 : zcs Try.prog 165 = some [.slice none 0 0] := by kernel_rfl
theorem ty_166 : tyOf Try.prog 166 = some (true, 1) := by kernel_rfl
theorem zc_166 : zcs Try.prog 166 = some [.slice none 0 0] := by kernel_rfl
theorem st_166 : stOf Try.prog 166 = some ([.slice none 0 0], [(0, 1)]) := by kernel_rfl
theorem fd_166_0 : fdOf Try.prog 166 0 = some 0 := by kernel_rfl
theorem ty_167 : tyOf Try.prog 167 = some (true, 1) := by kernel_rfl
theorem zc_167 : zcs Try.prog 167 = some [.slice none 0 0] := by kernel_rfl
theorem st_167 : stOf Try.prog 167 = some ([.slice none 0 0], [(0, 1)]) := by kernel_rfl
theorem fd_167_0 : fdOf Try.prog 167 0 = some 0 := by kernel_rfl
theorem ty_168 : tyOf Try.prog 168 = some (true, 32) := by kernel_rfl
theorem zc_168 : zcs Try.prog 168 = some [.int .i64 0, .int .i64 0, .int .i64 0, .int .i64 0, .int .i64 0, .int .i64 0, .int .i64 0, .int .i64 0, .int .i64 0, .int .i64 0, .int .i64 0, .int .i64 0, .int .i64 0, .int .i64 0, .int .i64 0, .int .i64 0, .int .i64 0, .int .i64 0, .int .i64 0, .int .i64 0, .int .i64 0, .int .i64 0, .int .i64 0, .int .i64 0, .int .i64 0, .int .i64 0, .int .i64 0, .int .i64 0, .int .i64 0, .int .i64 0, .int .i64 0, .int .i64 0] := by kernel_rfl
theorem ty_169 : tyOf Try.prog 169 = some (true, 33) := by kernel_rfl
theorem zc_169 : zcs Try.prog 169 = some [.int .i64 0, .int .i64 0, .int .i64 0, .int .i64 0, .int .i64 0, .int .i64 0, .int .i64 0, .int .i64 0, .int .i64 0, .int .i64 0, .int .i64 0, .int .i64 0, .int .i64 0, .int .i64 0, .int .i64 0, .int .i64 0, .int .i64 0, .int .i64 0, .int .i64 0, .int .i64 0, .int .i64 0, .int .i64 0, .int .i64 0, .int .i64 0, .int .i64 0, .int .i64 0, .int .i64 0, .int .i64 0, .int .i64 0, .int .i64 0, .int .i64 0, .int .i64 0, .bool false] := by kernel_rfl
theorem st_169 : stOf Try.prog 169 = some ([.int .i64 0, .int .i64 0, .int .i64 0, .int .i64 0, .int .i64 0, .int .i64 0, .int .i64 0, .int .i64 0, .int .i64 0, .int .i64 0, .int .i64 0, .int .i64 0, .int .i64 0, .int .i64 0, .int .i64 0, .int .i64 0, .int .i64 0, .int .i64 0, .int .i64 0, .int .i64 0, .int .i64 0, .int .i64 0, .int .i64 0, .int .i64 0, .int .i64 0, .int .i64 0, .int .i64 0, .int .i64 0, .int .i64 0, .int .i64 0, .int .i64 0, .int .i64 0, .bool false], [(0, 32), (32, 1)]) := by kernel_rfl
theorem fd_169_0 : fdOf Try.prog 169 0 = some 0 := by kernel_rfl
theorem fd_169_1 : fdOf Try.prog 169 1 = some 32 := by kernel_rfl
theorem ty_170 : tyOf Try.prog 170 = some (true, 33) := by kernel_rfl
theorem zc_170 : zcs Try.prog 170 = some [.int .i64 0, .int .i64 0, .int .i64 0, .int .i64 0, .int .i64 0, .int .i64 0, .int .i64 0, .int .i64 0, .int .i64 0, .int .i64 0, .int .i64 0, .int .i64 0, .int .i64 0, .int .i64 0, .int .i64 0, .int .i64 0, .int .i64 0, .int .i64 0, .int .i64 0, .int .i64 0, .int .i64 0, .int .i64 0, .int .i64 0, .int .i64 0, .int .i64 0, .int .i64 0, .int .i64 0, .int .i64 0, .int .i64 0, .int .i64 0, .int .i64 0, .int .i64 0, .bool false] := by kernel_rfl
theorem st_170 : stOf Try.prog 170 = some ([.int .i64 0, .int .i64 0, .int .i64 0, .int .i64 0, .int .i64 0, .int .i64 0, .int .i64 0, .int .i64 0, .int .i64 0, .int .i64 0, .int .i64 0, .int .i64 0, .int .i64 0, .int .i64 0, .int .i64 0, .int .i64 0, .int .i64 0, .int .i64 0, .int .i64 0, .int .i64 0, .int .i64 0, .int .i64 0, .int .i64 0, .int .i64 0, .int .i64 0, .int .i64 0, .int .i64 0, .int .i64 0, .int .i64 0, .int .i64 0, .int .i64 0, .int .i64 0, .bool false], [(0, 32), (32, 1)]) := by kernel_rfl
theorem fd_170_0 : fdOf Try.prog 170 0 = some 0 := by kernel_rfl
theorem fd_170_1 : fdOf Try.prog 170 1 = some 32 := by kernel_rfl
end Go.Proofs.Ytkeeipfglmpgjaa
