/-
  Facts on the types of this seat.
-/
import Derived.Test.YtijpdbjcmnpobaaDoorHd
import Derived.Test.YtijpdbjcmnpobaaDoorChecked
namespace Go.Proofs.YtijpdbjcmnpobaaDoor
set_option linter.unusedSimpArgs false
set_option linter.unusedVariables false
open Go.RowKit

theorem ty_0 : tyOf Tryd.prog 0 = some (false, 1) := by kernel_rfl
theorem ty_1 : tyOf Tryd.prog 1 = some (false, 1) := by kernel_rfl
theorem zc_1 : zcs Tryd.prog 1 = some [.nilFunc] := by kernel_rfl
theorem ty_2 : tyOf Tryd.prog 2 = some (false, 1) := by kernel_rfl
theorem zc_2 : zcs Tryd.prog 2 = some [.int .i64 0] := by kernel_rfl
theorem ty_3 : tyOf Tryd.prog 3 = some (false, 1) := by kernel_rfl
theorem zc_3 : zcs Tryd.prog 3 = some [.int .i64 0] := by kernel_rfl
theorem ty_4 : tyOf Tryd.prog 4 = some (false, 1) := by kernel_rfl
theorem zc_4 : zcs Tryd.prog 4 = some [.bool false] := by kernel_rfl
theorem ty_5 : tyOf Tryd.prog 5 = some (false, 1) := by kernel_rfl
theorem zc_5 : zcs Tryd.prog 5 = some [.int .u8 0] := by kernel_rfl
theorem ty_6 : tyOf Tryd.prog 6 = some (false, 1) := by kernel_rfl
theorem zc_6 : zcs Tryd.prog 6 = some [.int .u8 0] := by kernel_rfl
theorem ty_7 : tyOf Tryd.prog 7 = some (true, 4) := by kernel_rfl
theorem zc_7 : zcs Tryd.prog 7 = some [.int .i64 0, .int .i64 0, .bool false, .int .u8 0] := by kernel_rfl
theorem st_7 : stOf Tryd.prog 7 = some ([.int .i64 0, .int .i64 0, .bool false, .int .u8 0], [(0, 1), (1, 1), (2, 1), (3, 1)]) := by kernel_rfl
theorem fd_7_0 : fdOf Tryd.prog 7 0 = some 0 := by kernel_rfl
theorem fd_7_1 : fdOf Tryd.prog 7 1 = some 1 := by kernel_rfl
theorem fd_7_2 : fdOf Tryd.prog 7 2 = some 2 := by kernel_rfl
theorem fd_7_3 : fdOf Tryd.prog 7 3 = some 3 := by kernel_rfl
theorem ty_8 : tyOf Tryd.prog 8 = some (true, 4) := by kernel_rfl
theorem zc_8 : zcs Tryd.prog 8 = some [.int .i64 0, .int .i64 0, .bool false, .int .u8 0] := by kernel_rfl
theorem st_8 : stOf Tryd.prog 8 = some ([.int .i64 0, .int .i64 0, .bool false, .int .u8 0], [(0, 1), (1, 1), (2, 1), (3, 1)]) := by kernel_rfl
theorem fd_8_0 : fdOf Tryd.prog 8 0 = some 0 := by kernel_rfl
theorem fd_8_1 : fdOf Tryd.prog 8 1 = some 1 := by kernel_rfl
theorem fd_8_2 : fdOf Tryd.prog 8 2 = some 2 := by kernel_rfl
theorem fd_8_3 : fdOf Tryd.prog 8 3 = some 3 := by kernel_rfl
theorem ty_9 : tyOf Tryd.prog 9 = some (false, 1) := by kernel_rfl
theorem zc_9 : zcs Tryd.prog 9 = some [.string ByteArray.empty] := by kernel_rfl
theorem ty_10 : tyOf Tryd.prog 10 = some (false, 1) := by kernel_rfl
theorem zc_10 : zcs Tryd.prog 10 = some [.string ByteArray.empty] := by kernel_rfl
theorem ty_11 : tyOf Tryd.prog 11 = some (false, 1) := by kernel_rfl
theorem zc_11 : zcs Tryd.prog 11 = some [.string ByteArray.empty] := by kernel_rfl
theorem ty_12 : tyOf Tryd.prog 12 = some (false, 1) := by kernel_rfl
theorem zc_12 : zcs Tryd.prog 12 = some [.int .u64 0] := by kernel_rfl
theorem ty_13 : tyOf Tryd.prog 13 = some (true, 2) := by kernel_rfl
theorem zc_13 : zcs Tryd.prog 13 = some [.string ByteArray.empty, .int .u64 0] := by kernel_rfl
theorem st_13 : stOf Tryd.prog 13 = some ([.string ByteArray.empty, .int .u64 0], [(0, 1), (1, 1)]) := by kernel_rfl
theorem fd_13_0 : fdOf Tryd.prog 13 0 = some 0 := by kernel_rfl
theorem fd_13_1 : fdOf Tryd.prog 13 1 = some 1 := by kernel_rfl
theorem ty_14 : tyOf Tryd.prog 14 = some (true, 2) := by kernel_rfl
theorem zc_14 : zcs Tryd.prog 14 = some [.string ByteArray.empty, .int .u64 0] := by kernel_rfl
theorem st_14 : stOf Tryd.prog 14 = some ([.string ByteArray.empty, .int .u64 0], [(0, 1), (1, 1)]) := by kernel_rfl
theorem fd_14_0 : fdOf Tryd.prog 14 0 = some 0 := by kernel_rfl
theorem fd_14_1 : fdOf Tryd.prog 14 1 = some 1 := by kernel_rfl
theorem ty_15 : tyOf Tryd.prog 15 = some (false, 1) := by kernel_rfl
theorem zc_15 : zcs Tryd.prog 15 = some [.pointer none] := by kernel_rfl
theorem ty_16 : tyOf Tryd.prog 16 = some (false, 1) := by kernel_rfl
theorem zc_16 : zcs Tryd.prog 16 = some [.pointer none] := by kernel_rfl
theorem ty_17 : tyOf Tryd.prog 17 = some (false, 1) := by kernel_rfl
theorem zc_17 : zcs Tryd.prog 17 = some [.pointer none] := by kernel_rfl
theorem ty_18 : tyOf Tryd.prog 18 = some (true, 1) := by kernel_rfl
theorem zc_18 : zcs Tryd.prog 18 = some [.pointer none] := by kernel_rfl
theorem st_18 : stOf Tryd.prog 18 = some ([.pointer none], [(0, 1)]) := by kernel_rfl
theorem fd_18_0 : fdOf Tryd.prog 18 0 = some 0 := by kernel_rfl
theorem ty_19 : tyOf Tryd.prog 19 = some (true, 1) := by kernel_rfl
theorem zc_19 : zcs Tryd.prog 19 = some [.pointer none] := by kernel_rfl
theorem st_19 : stOf Tryd.prog 19 = some ([.pointer none], [(0, 1)]) := by kernel_rfl
theorem fd_19_0 : fdOf Tryd.prog 19 0 = some 0 := by kernel_rfl
theorem ty_20 : tyOf Tryd.prog 20 = some (false, 1) := by kernel_rfl
theorem zc_20 : zcs Tryd.prog 20 = some [.nilIface] := by kernel_rfl
theorem ty_21 : tyOf Tryd.prog 21 = some (false, 1) := by kernel_rfl
theorem zc_21 : zcs Tryd.prog 21 = some [.int .i32 0] := by kernel_rfl
theorem ty_22 : tyOf Tryd.prog 22 = some (false, 1) := by kernel_rfl
theorem zc_22 : zcs Tryd.prog 22 = some [.nilFunc] := by kernel_rfl
theorem ty_23 : tyOf Tryd.prog 23 = some (false, 1) := by kernel_rfl
theorem ty_24 : tyOf Tryd.prog 24 = some (false, 1) := by kernel_rfl
theorem zc_24 : zcs Tryd.prog 24 = some [.nilFunc] := by kernel_rfl
theorem ty_25 : tyOf Tryd.prog 25 = some (false, 1) := by kernel_rfl
theorem zc_25 : zcs Tryd.prog 25 = some [.nilFunc] := by kernel_rfl
theorem ty_26 : tyOf Tryd.prog 26 = some (false, 1) := by kernel_rfl
theorem zc_26 : zcs Tryd.prog 26 = some [.nilFunc] := by kernel_rfl
theorem ty_27 : tyOf Tryd.prog 27 = some (false, 1) := by kernel_rfl
theorem ei_27 : elInfo Tryd.prog 27 = some (5, 1, 1, true) := by kernel_rfl
theorem el_27 : elOf Tryd.prog 27 = some (5, 1) := by kernel_rfl
theorem zc_27 : zcs Tryd.prog 27 = some [.slice none 0 0] := by kernel_rfl
theorem ty_28 : tyOf Tryd.prog 28 = some (false, 1) := by kernel_rfl
theorem zc_28 : zcs Tryd.prog 28 = some [.nilFunc] := by kernel_rfl
theorem ty_29 : tyOf Tryd.prog 29 = some (false, 1) := by kernel_rfl
theorem zc_29 : zcs Tryd.prog 29 = some [.int .i64 0] := by kernel_rfl
theorem ty_30 : tyOf Tryd.prog 30 = some (false, 1) := by kernel_rfl
theorem ty_31 : tyOf Tryd.prog 31 = some (false, 1) := by kernel_rfl
theorem zc_31 : zcs Tryd.prog 31 = some [.nilFunc] := by kernel_rfl
theorem ty_32 : tyOf Tryd.prog 32 = some (false, 1) := by kernel_rfl
theorem zc_32 : zcs Tryd.prog 32 = some [.nilFunc] := by kernel_rfl
theorem ty_33 : tyOf Tryd.prog 33 = some (false, 1) := by kernel_rfl
theorem ei_33 : elInfo Tryd.prog 33 = some (41, 5, 48, true) := by kernel_rfl
theorem el_33 : elOf Tryd.prog 33 = some (41, 5) := by kernel_rfl
theorem zc_33 : zcs Tryd.prog 33 = some [.slice none 0 0] := by kernel_rfl
theorem ty_34 : tyOf Tryd.prog 34 = some (false, 1) := by kernel_rfl
theorem ty_35 : tyOf Tryd.prog 35 = some (false, 1) := by kernel_rfl
theorem zc_35 : zcs Tryd.prog 35 = some [.nilFunc] := by kernel_rfl
theorem ty_36 : tyOf Tryd.prog 36 = some (false, 1) := by kernel_rfl
theorem ei_36 : elInfo Tryd.prog 36 = some (40, 5, 48, true) := by kernel_rfl
theorem el_36 : elOf Tryd.prog 36 = some (40, 5) := by kernel_rfl
theorem zc_36 : zcs Tryd.prog 36 = some [.slice none 0 0] := by kernel_rfl
theorem ty_37 : tyOf Tryd.prog 37 = some (false, 1) := by kernel_rfl
theorem ty_38 : tyOf Tryd.prog 38 = some (false, 1) := by kernel_rfl
theorem zc_38 : zcs Tryd.prog 38 = some [.nilFunc] := by kernel_rfl
theorem ty_39 : tyOf Tryd.prog 39 = some (true, 5) := by kernel_rfl
theorem zc_39 : zcs Tryd.prog 39 = some [.int .i64 0, .int .i64 0, .int .i64 0, .int .i64 0, .string ByteArray.empty] := by kernel_rfl
theorem st_39 : stOf Tryd.prog 39 = some ([.int .i64 0, .int .i64 0, .int .i64 0, .int .i64 0, .string ByteArray.empty], [(0, 1), (1, 1), (2, 1), (3, 1), (4, 1)]) := by kernel_rfl
theorem fd_39_0 : fdOf Tryd.prog 39 0 = some 0 := by kernel_rfl
theorem fd_39_1 : fdOf Tryd.prog 39 1 = some 1 := by kernel_rfl
theorem fd_39_2 : fdOf Tryd.prog 39 2 = some 2 := by kernel_rfl
theorem fd_39_3 : fdOf Tryd.prog 39 3 = some 3 := by kernel_rfl
theorem fd_39_4 : fdOf Tryd.prog 39 4 = some 4 := by kernel_rfl
theorem ty_40 : tyOf Tryd.prog 40 = some (true, 5) := by kernel_rfl
theorem zc_40 : zcs Tryd.prog 40 = some [.int .i64 0, .int .i64 0, .int .i64 0, .int .i64 0, .string ByteArray.empty] := by kernel_rfl
theorem st_40 : stOf Tryd.prog 40 = some ([.int .i64 0, .int .i64 0, .int .i64 0, .int .i64 0, .string ByteArray.empty], [(0, 1), (1, 1), (2, 1), (3, 1), (4, 1)]) := by kernel_rfl
theorem fd_40_0 : fdOf Tryd.prog 40 0 = some 0 := by kernel_rfl
theorem fd_40_1 : fdOf Tryd.prog 40 1 = some 1 := by kernel_rfl
theorem fd_40_2 : fdOf Tryd.prog 40 2 = some 2 := by kernel_rfl
theorem fd_40_3 : fdOf Tryd.prog 40 3 = some 3 := by kernel_rfl
theorem fd_40_4 : fdOf Tryd.prog 40 4 = some 4 := by kernel_rfl
theorem ty_41 : tyOf Tryd.prog 41 = some (true, 5) := by kernel_rfl
theorem zc_41 : zcs Tryd.prog 41 = some [.int .i64 0, .int .i64 0, .int .i64 0, .int .i64 0, .string ByteArray.empty] := by kernel_rfl
theorem st_41 : stOf Tryd.prog 41 = some ([.int .i64 0, .int .i64 0, .int .i64 0, .int .i64 0, .string ByteArray.empty], [(0, 1), (1, 1), (2, 1), (3, 1), (4, 1)]) := by kernel_rfl
theorem fd_41_0 : fdOf Tryd.prog 41 0 = some 0 := by kernel_rfl
theorem fd_41_1 : fdOf Tryd.prog 41 1 = some 1 := by kernel_rfl
theorem fd_41_2 : fdOf Tryd.prog 41 2 = some 2 := by kernel_rfl
theorem fd_41_3 : fdOf Tryd.prog 41 3 = some 3 := by kernel_rfl
theorem fd_41_4 : fdOf Tryd.prog 41 4 = some 4 := by kernel_rfl
theorem ty_42 : tyOf Tryd.prog 42 = some (false, 1) := by kernel_rfl
theorem zc_42 : zcs Tryd.prog 42 = some [.nilFunc] := by kernel_rfl
theorem ty_43 : tyOf Tryd.prog 43 = some (false, 1) := by kernel_rfl
theorem zc_43 : zcs Tryd.prog 43 = some [.nilFunc] := by kernel_rfl
theorem ty_44 : tyOf Tryd.prog 44 = some (false, 1) := by kernel_rfl
theorem zc_44 : zcs Tryd.prog 44 = some [.nilFunc] := by kernel_rfl
theorem ty_45 : tyOf Tryd.prog 45 = some (false, 1) := by kernel_rfl
theorem zc_45 : zcs Tryd.prog 45 = some [.nilFunc] := by kernel_rfl
theorem ty_46 : tyOf Tryd.prog 46 = some (false, 1) := by kernel_rfl
theorem zc_46 : zcs Tryd.prog 46 = some [.int .u32 0] := by kernel_rfl
theorem ty_47 : tyOf Tryd.prog 47 = some (false, 1) := by kernel_rfl
theorem ei_47 : elInfo Tryd.prog 47 = some (9, 1, 16, true) := by kernel_rfl
theorem el_47 : elOf Tryd.prog 47 = some (9, 1) := by kernel_rfl
theorem zc_47 : zcs Tryd.prog 47 = some [.slice none 0 0] := by kernel_rfl
theorem ty_48 : tyOf Tryd.prog 48 = some (false, 1) := by kernel_rfl
theorem ty_49 : tyOf Tryd.prog 49 = some (false, 1) := by kernel_rfl
theorem zc_49 : zcs Tryd.prog 49 = some [.nilFunc] := by kernel_rfl
theorem ty_50 : tyOf Tryd.prog 50 = some (false, 1) := by kernel_rfl
theorem zc_50 : zcs Tryd.prog 50 = some [.nilFunc] := by kernel_rfl
theorem ty_51 : tyOf Tryd.prog 51 = some (false, 1) := by kernel_rfl
theorem ei_51 : elInfo Tryd.prog 51 = some (100, 5, 64, true) := by kernel_rfl
theorem el_51 : elOf Tryd.prog 51 = some (100, 5) := by kernel_rfl
theorem zc_51 : zcs Tryd.prog 51 = some [.slice none 0 0] := by kernel_rfl
theorem ty_52 : tyOf Tryd.prog 52 = some (false, 1) := by kernel_rfl
theorem ei_52 : elInfo Tryd.prog 52 = some (100, 5, 64, true) := by kernel_rfl
theorem el_52 : elOf Tryd.prog 52 = some (100, 5) := by kernel_rfl
theorem zc_52 : zcs Tryd.prog 52 = some [.slice none 0 0] := by kernel_rfl
theorem ty_53 : tyOf Tryd.prog 53 = some (false, 1) := by kernel_rfl
theorem ty_54 : tyOf Tryd.prog 54 = some (false, 1) := by kernel_rfl
theorem zc_54 : zcs Tryd.prog 54 = some [.nilFunc] := by kernel_rfl
theorem ty_55 : tyOf Tryd.prog 55 = some (false, 1) := by kernel_rfl
theorem ei_55 : elInfo Tryd.prog 55 = some (109, 5, 64, true) := by kernel_rfl
theorem el_55 : elOf Tryd.prog 55 = some (109, 5) := by kernel_rfl
theorem zc_55 : zcs Tryd.prog 55 = some [.slice none 0 0] := by kernel_rfl
theorem ty_56 : tyOf Tryd.prog 56 = some (false, 1) := by kernel_rfl
theorem ty_57 : tyOf Tryd.prog 57 = some (false, 1) := by kernel_rfl
theorem zc_57 : zcs Tryd.prog 57 = some [.nilFunc] := by kernel_rfl
theorem ty_58 : tyOf Tryd.prog 58 = some (false, 1) := by kernel_rfl
theorem zc_58 : zcs Tryd.prog 58 = some [.nilFunc] := by kernel_rfl
theorem ty_59 : tyOf Tryd.prog 59 = some (false, 1) := by kernel_rfl
theorem zc_59 : zcs Tryd.prog 59 = some [.nilFunc] := by kernel_rfl
theorem ty_60 : tyOf Tryd.prog 60 = some (false, 1) := by kernel_rfl
theorem zc_60 : zcs Tryd.prog 60 = some [.nilFunc] := by kernel_rfl
theorem ty_61 : tyOf Tryd.prog 61 = some (false, 1) := by kernel_rfl
theorem zc_61 : zcs Tryd.prog 61 = some [.nilFunc] := by kernel_rfl
theorem ty_62 : tyOf Tryd.prog 62 = some (false, 1) := by kernel_rfl
theorem zc_62 : zcs Tryd.prog 62 = some [.nilFunc] := by kernel_rfl
theorem ty_63 : tyOf Tryd.prog 63 = some (false, 1) := by kernel_rfl
theorem zc_63 : zcs Tryd.prog 63 = some [.nilFunc] := by kernel_rfl
theorem ty_64 : tyOf Tryd.prog 64 = some (false, 1) := by kernel_rfl
theorem ty_65 : tyOf Tryd.prog 65 = some (false, 1) := by kernel_rfl
theorem zc_65 : zcs Tryd.prog 65 = some [.nilFunc] := by kernel_rfl
theorem ty_66 : tyOf Tryd.prog 66 = some (false, 1) := by kernel_rfl
theorem zc_66 : zcs Tryd.prog 66 = some [.nilFunc] := by kernel_rfl
theorem ty_67 : tyOf Tryd.prog 67 = some (false, 1) := by kernel_rfl
theorem zc_67 : zcs Tryd.prog 67 = some [.nilFunc] := by kernel_rfl
theorem ty_68 : tyOf Tryd.prog 68 = some (false, 1) := by kernel_rfl
theorem zc_68 : zcs Tryd.prog 68 = some [.nilIface] := by kernel_rfl
theorem ty_69 : tyOf Tryd.prog 69 = some (false, 1) := by kernel_rfl
theorem zc_69 : zcs Tryd.prog 69 = some [.nilIface] := by kernel_rfl
theorem ty_70 : tyOf Tryd.prog 70 = some (false, 1) := by kernel_rfl
theorem ty_71 : tyOf Tryd.prog 71 = some (false, 1) := by kernel_rfl
theorem zc_71 : zcs Tryd.prog 71 = some [.nilFunc] := by kernel_rfl
theorem ty_72 : tyOf Tryd.prog 72 = some (false, 1) := by kernel_rfl
theorem zc_72 : zcs Tryd.prog 72 = some [.int .u64 0] := by kernel_rfl
theorem ty_73 : tyOf Tryd.prog 73 = some (false, 1) := by kernel_rfl
theorem zc_73 : zcs Tryd.prog 73 = some [.nilFunc] := by kernel_rfl
theorem ty_74 : tyOf Tryd.prog 74 = some (false, 1) := by kernel_rfl
theorem zc_74 : zcs Tryd.prog 74 = some [.pointer none] := by kernel_rfl
theorem ty_75 : tyOf Tryd.prog 75 = some (true, 2) := by kernel_rfl
theorem zc_75 : zcs Tryd.prog 75 = some [.pointer none, .slice none 0 0] := by kernel_rfl
theorem st_75 : stOf Tryd.prog 75 = some ([.pointer none, .slice none 0 0], [(0, 1), (1, 1)]) := by kernel_rfl
theorem fd_75_0 : fdOf Tryd.prog 75 0 = some 0 := by kernel_rfl
theorem fd_75_1 : fdOf Tryd.prog 75 1 = some 1 := by kernel_rfl
theorem ty_76 : tyOf Tryd.prog 76 = some (true, 2) := by kernel_rfl
theorem zc_76 : zcs Tryd.prog 76 = some [.pointer none, .slice none 0 0] := by kernel_rfl
theorem st_76 : stOf Tryd.prog 76 = some ([.pointer none, .slice none 0 0], [(0, 1), (1, 1)]) := by kernel_rfl
theorem fd_76_0 : fdOf Tryd.prog 76 0 = some 0 := by kernel_rfl
theorem fd_76_1 : fdOf Tryd.prog 76 1 = some 1 := by kernel_rfl
theorem ty_77 : tyOf Tryd.prog 77 = some (true, 128) := by kernel_rfl
theorem ty_78 : tyOf Tryd.prog 78 = some (false, 1) := by kernel_rfl
theorem zc_78 : zcs Tryd.prog 78 = some [.nilFunc] := by kernel_rfl
theorem ty_79 : tyOf Tryd.prog 79 = some (false, 1) := by kernel_rfl
theorem zc_79 : zcs Tryd.prog 79 = some [.nilFunc] := by kernel_rfl
theorem ty_80 : tyOf Tryd.prog 80 = some (false, 1) := by kernel_rfl
theorem zc_80 : zcs Tryd.prog 80 = some [.int .u64 0] := by kernel_rfl
theorem ty_81 : tyOf Tryd.prog 81 = some (false, 1) := by kernel_rfl
theorem zc_81 : zcs Tryd.prog 81 = some [.nilFunc] := by kernel_rfl
theorem ty_82 : tyOf Tryd.prog 82 = some (false, 1) := by kernel_rfl
theorem ty_83 : tyOf Tryd.prog 83 = some (false, 1) := by kernel_rfl
theorem zc_83 : zcs Tryd.prog 83 = some [.nilFunc] := by kernel_rfl
theorem ty_84 : tyOf Tryd.prog 84 = some (true, 2) := by kernel_rfl
theorem zc_84 : zcs Tryd.prog 84 = some [.int .i64 0, .int .i64 0] := by kernel_rfl
theorem st_84 : stOf Tryd.prog 84 = some ([.int .i64 0, .int .i64 0], [(0, 1), (1, 1)]) := by kernel_rfl
theorem fd_84_0 : fdOf Tryd.prog 84 0 = some 0 := by kernel_rfl
theorem fd_84_1 : fdOf Tryd.prog 84 1 = some 1 := by kernel_rfl
theorem ty_85 : tyOf Tryd.prog 85 = some (true, 2) := by kernel_rfl
theorem zc_85 : zcs Tryd.prog 85 = some [.int .i64 0, .int .i64 0] := by kernel_rfl
theorem st_85 : stOf Tryd.prog 85 = some ([.int .i64 0, .int .i64 0], [(0, 1), (1, 1)]) := by kernel_rfl
theorem fd_85_0 : fdOf Tryd.prog 85 0 = some 0 := by kernel_rfl
theorem fd_85_1 : fdOf Tryd.prog 85 1 = some 1 := by kernel_rfl
theorem ty_86 : tyOf Tryd.prog 86 = some (false, 1) := by kernel_rfl
theorem ty_87 : tyOf Tryd.prog 87 = some (false, 1) := by kernel_rfl
theorem zc_87 : zcs Tryd.prog 87 = some [.pointer none] := by kernel_rfl
theorem ty_88 : tyOf Tryd.prog 88 = some (true, 2) := by kernel_rfl
theorem zc_88 : zcs Tryd.prog 88 = some [.string ByteArray.empty, .int .i64 0] := by kernel_rfl
theorem st_88 : stOf Tryd.prog 88 = some ([.string ByteArray.empty, .int .i64 0], [(0, 1), (1, 1)]) := by kernel_rfl
theorem fd_88_0 : fdOf Tryd.prog 88 0 = some 0 := by kernel_rfl
theorem fd_88_1 : fdOf Tryd.prog 88 1 = some 1 := by kernel_rfl
theorem ty_89 : tyOf Tryd.prog 89 = some (true, 2) := by kernel_rfl
theorem zc_89 : zcs Tryd.prog 89 = some [.string ByteArray.empty, .int .i64 0] := by kernel_rfl
theorem st_89 : stOf Tryd.prog 89 = some ([.string ByteArray.empty, .int .i64 0], [(0, 1), (1, 1)]) := by kernel_rfl
theorem fd_89_0 : fdOf Tryd.prog 89 0 = some 0 := by kernel_rfl
theorem fd_89_1 : fdOf Tryd.prog 89 1 = some 1 := by kernel_rfl
theorem ty_90 : tyOf Tryd.prog 90 = some (false, 1) := by kernel_rfl
theorem zc_90 : zcs Tryd.prog 90 = some [.nilFunc] := by kernel_rfl
theorem ty_91 : tyOf Tryd.prog 91 = some (false, 1) := by kernel_rfl
theorem zc_91 : zcs Tryd.prog 91 = some [.nilFunc] := by kernel_rfl
theorem ty_92 : tyOf Tryd.prog 92 = some (false, 1) := by kernel_rfl
theorem zc_92 : zcs Tryd.prog 92 = some [.nilFunc] := by kernel_rfl
theorem ty_93 : tyOf Tryd.prog 93 = some (false, 1) := by kernel_rfl
theorem zc_93 : zcs Tryd.prog 93 = some [.nilFunc] := by kernel_rfl
theorem ty_94 : tyOf Tryd.prog 94 = some (false, 1) := by kernel_rfl
theorem ty_95 : tyOf Tryd.prog 95 = some (false, 1) := by kernel_rfl
theorem zc_95 : zcs Tryd.prog 95 = some [.nilFunc] := by kernel_rfl
theorem ty_96 : tyOf Tryd.prog 96 = some (false, 1) := by kernel_rfl
theorem zc_96 : zcs Tryd.prog 96 = some [.nilFunc] := by kernel_rfl
theorem ty_97 : tyOf Tryd.prog 97 = some (false, 1) := by kernel_rfl
theorem zc_97 : zcs Tryd.prog 97 = some [.nilFunc] := by kernel_rfl
theorem ty_98 : tyOf Tryd.prog 98 = some (false, 1) := by kernel_rfl
theorem ei_98 : elInfo Tryd.prog 98 = some (3, 1, 8, true) := by kernel_rfl
theorem el_98 : elOf Tryd.prog 98 = some (3, 1) := by kernel_rfl
theorem zc_98 : zcs Tryd.prog 98 = some [.slice none 0 0] := by kernel_rfl
theorem ty_99 : tyOf Tryd.prog 99 = some (true, 5) := by kernel_rfl
theorem zc_99 : zcs Tryd.prog 99 = some [.int .i64 0, .int .i64 0, .int .i64 0, .string ByteArray.empty, .slice none 0 0] := by kernel_rfl
theorem st_99 : stOf Tryd.prog 99 = some ([.int .i64 0, .int .i64 0, .int .i64 0, .string ByteArray.empty, .slice none 0 0], [(0, 1), (1, 1), (2, 1), (3, 1), (4, 1)]) := by kernel_rfl
theorem fd_99_0 : fdOf Tryd.prog 99 0 = some 0 := by kernel_rfl
theorem fd_99_1 : fdOf Tryd.prog 99 1 = some 1 := by kernel_rfl
theorem fd_99_2 : fdOf Tryd.prog 99 2 = some 2 := by kernel_rfl
theorem fd_99_3 : fdOf Tryd.prog 99 3 = some 3 := by kernel_rfl
theorem fd_99_4 : fdOf Tryd.prog 99 4 = some 4 := by kernel_rfl
theorem ty_100 : tyOf Tryd.prog 100 = some (true, 5) := by kernel_rfl
theorem zc_100 : zcs Tryd.prog 100 = some [.int .i64 0, .int .i64 0, .int .i64 0, .string ByteArray.empty, .slice none 0 0] := by kernel_rfl
theorem st_100 : stOf Tryd.prog 100 = some ([.int .i64 0, .int .i64 0, .int .i64 0, .string ByteArray.empty, .slice none 0 0], [(0, 1), (1, 1), (2, 1), (3, 1), (4, 1)]) := by kernel_rfl
theorem fd_100_0 : fdOf Tryd.prog 100 0 = some 0 := by kernel_rfl
theorem fd_100_1 : fdOf Tryd.prog 100 1 = some 1 := by kernel_rfl
theorem fd_100_2 : fdOf Tryd.prog 100 2 = some 2 := by kernel_rfl
theorem fd_100_3 : fdOf Tryd.prog 100 3 = some 3 := by kernel_rfl
theorem fd_100_4 : fdOf Tryd.prog 100 4 = some 4 := by kernel_rfl
theorem ty_101 : tyOf Tryd.prog 101 = some (false, 1) := by kernel_rfl
theorem zc_101 : zcs Tryd.prog 101 = some [.pointer none] := by kernel_rfl
theorem ty_102 : tyOf Tryd.prog 102 = some (true, 2) := by kernel_rfl
theorem zc_102 : zcs Tryd.prog 102 = some [.slice none 0 0, .int .i64 0] := by kernel_rfl
theorem st_102 : stOf Tryd.prog 102 = some ([.slice none 0 0, .int .i64 0], [(0, 1), (1, 1)]) := by kernel_rfl
theorem fd_102_0 : fdOf Tryd.prog 102 0 = some 0 := by kernel_rfl
theorem fd_102_1 : fdOf Tryd.prog 102 1 = some 1 := by kernel_rfl
theorem ty_103 : tyOf Tryd.prog 103 = some (true, 2) := by kernel_rfl
theorem zc_103 : zcs Tryd.prog 103 = some [.slice none 0 0, .int .i64 0] := by kernel_rfl
theorem st_103 : stOf Tryd.prog 103 = some ([.slice none 0 0, .int .i64 0], [(0, 1), (1, 1)]) := by kernel_rfl
theorem fd_103_0 : fdOf Tryd.prog 103 0 = some 0 := by kernel_rfl
theorem fd_103_1 : fdOf Tryd.prog 103 1 = some 1 := by kernel_rfl
theorem ty_104 : tyOf Tryd.prog 104 = some (true, 4) := by kernel_rfl
theorem zc_104 : zcs Tryd.prog 104 = some [.slice none 0 0, .int .i64 0, .slice none 0 0, .bool false] := by kernel_rfl
theorem st_104 : stOf Tryd.prog 104 = some ([.slice none 0 0, .int .i64 0, .slice none 0 0, .bool false], [(0, 2), (2, 1), (3, 1)]) := by kernel_rfl
theorem fd_104_0 : fdOf Tryd.prog 104 0 = some 0 := by kernel_rfl
theorem fd_104_1 : fdOf Tryd.prog 104 1 = some 2 := by kernel_rfl
theorem fd_104_2 : fdOf Tryd.prog 104 2 = some 3 := by kernel_rfl
theorem ty_105 : tyOf Tryd.prog 105 = some (true, 4) := by kernel_rfl
theorem zc_105 : zcs Tryd.prog 105 = some [.slice none 0 0, .int .i64 0, .slice none 0 0, .bool false] := by kernel_rfl
theorem st_105 : stOf Tryd.prog 105 = some ([.slice none 0 0, .int .i64 0, .slice none 0 0, .bool false], [(0, 2), (2, 1), (3, 1)]) := by kernel_rfl
theorem fd_105_0 : fdOf Tryd.prog 105 0 = some 0 := by kernel_rfl
theorem fd_105_1 : fdOf Tryd.prog 105 1 = some 2 := by kernel_rfl
theorem fd_105_2 : fdOf Tryd.prog 105 2 = some 3 := by kernel_rfl
theorem ty_106 : tyOf Tryd.prog 106 = some (false, 1) := by kernel_rfl
theorem zc_106 : zcs Tryd.prog 106 = some [.nilFunc] := by kernel_rfl
theorem ty_107 : tyOf Tryd.prog 107 = some (false, 1) := by kernel_rfl
theorem zc_107 : zcs Tryd.prog 107 = some [.nilFunc] := by kernel_rfl
theorem ty_108 : tyOf Tryd.prog 108 = some (false, 1) := by kernel_rfl
theorem zc_108 : zcs Tryd.prog 108 = some [.nilFunc] := by kernel_rfl
theorem ty_109 : tyOf Tryd.prog 109 = some (true, 5) := by kernel_rfl
theorem zc_109 : zcs Tryd.prog 109 = some [.int .i64 0, .int .i64 0, .int .i64 0, .string ByteArray.empty, .slice none 0 0] := by kernel_rfl
theorem st_109 : stOf Tryd.prog 109 = some ([.int .i64 0, .int .i64 0, .int .i64 0, .string ByteArray.empty, .slice none 0 0], [(0, 1), (1, 1), (2, 1), (3, 1), (4, 1)]) := by kernel_rfl
theorem fd_109_0 : fdOf Tryd.prog 109 0 = some 0 := by kernel_rfl
theorem fd_109_1 : fdOf Tryd.prog 109 1 = some 1 := by kernel_rfl
theorem fd_109_2 : fdOf Tryd.prog 109 2 = some 2 := by kernel_rfl
theorem fd_109_3 : fdOf Tryd.prog 109 3 = some 3 := by kernel_rfl
theorem fd_109_4 : fdOf Tryd.prog 109 4 = some 4 := by kernel_rfl
theorem ty_110 : tyOf Tryd.prog 110 = some (false, 1) := by kernel_rfl
theorem zc_110 : zcs Tryd.prog 110 = some [.nilFunc] := by kernel_rfl
theorem ty_111 : tyOf Tryd.prog 111 = some (false, 1) := by kernel_rfl
theorem zc_111 : zcs Tryd.prog 111 = some [.nilFunc] := by kernel_rfl
theorem ty_112 : tyOf Tryd.prog 112 = some (false, 1) := by kernel_rfl
theorem zc_112 : zcs Tryd.prog 112 = some [.pointer none] := by kernel_rfl
theorem ty_113 : tyOf Tryd.prog 113 = some (true, 2) := by kernel_rfl
theorem zc_113 : zcs Tryd.prog 113 = some [.slice none 0 0, .slice none 0 0] := by kernel_rfl
theorem st_113 : stOf Tryd.prog 113 = some ([.slice none 0 0, .slice none 0 0], [(0, 1), (1, 1)]) := by kernel_rfl
theorem fd_113_0 : fdOf Tryd.prog 113 0 = some 0 := by kernel_rfl
theorem fd_113_1 : fdOf Tryd.prog 113 1 = some 1 := by kernel_rfl
theorem ty_114 : tyOf Tryd.prog 114 = some (true, 2) := by kernel_rfl
theorem zc_114 : zcs Tryd.prog 114 = some [.slice none 0 0, .slice none 0 0] := by kernel_rfl
theorem st_114 : stOf Tryd.prog 114 = some ([.slice none 0 0, .slice none 0 0], [(0, 1), (1, 1)]) := by kernel_rfl
theorem fd_114_0 : fdOf Tryd.prog 114 0 = some 0 := by kernel_rfl
theorem fd_114_1 : fdOf Tryd.prog 114 1 = some 1 := by kernel_rfl
theorem ty_115 : tyOf Tryd.prog 115 = some (false, 1) := by kernel_rfl
theorem zc_115 : zcs Tryd.prog 115 = some [.nilFunc] := by kernel_rfl
theorem ty_116 : tyOf Tryd.prog 116 = some (false, 1) := by kernel_rfl
theorem zc_116 : zcs Tryd.prog 116 = some [.nilFunc] := by kernel_rfl
theorem ty_117 : tyOf Tryd.prog 117 = some (false, 1) := by kernel_rfl
theorem zc_117 : zcs Tryd.prog 117 = some [.nilFunc] := by kernel_rfl
theorem ty_118 : tyOf Tryd.prog 118 = some (false, 1) := by kernel_rfl
theorem zc_118 : zcs Tryd.prog 118 = some [.pointer none] := by kernel_rfl
theorem ty_119 : tyOf Tryd.prog 119 = some (false, 1) := by kernel_rfl
theorem zc_119 : zcs Tryd.prog 119 = some [.nilFunc] := by kernel_rfl
theorem ty_120 : tyOf Tryd.prog 120 = some (false, 1) := by kernel_rfl
theorem zc_120 : zcs Tryd.prog 120 = some [.nilFunc] := by kernel_rfl
theorem ty_121 : tyOf Tryd.prog 121 = some (false, 1) := by kernel_rfl
theorem zc_121 : zcs Tryd.prog 121 = some [.nilFunc] := by kernel_rfl
theorem ty_122 : tyOf Tryd.prog 122 = some (false, 1) := by kernel_rfl
theorem zc_122 : zcs Tryd.prog 122 = some [.nilFunc] := by kernel_rfl
theorem ty_123 : tyOf Tryd.prog 123 = some (false, 1) := by kernel_rfl
theorem zc_123 : zcs Tryd.prog 123 = some [.int .i64 0] := by kernel_rfl
theorem ty_124 : tyOf Tryd.prog 124 = some (false, 1) := by kernel_rfl
theorem ty_125 : tyOf Tryd.prog 125 = some (false, 1) := by kernel_rfl
theorem zc_125 : zcs Tryd.prog 125 = some [.nilFunc] := by kernel_rfl
theorem ty_126 : tyOf Tryd.prog 126 = some (false, 1) := by kernel_rfl
theorem zc_126 : zcs Tryd.prog 126 = some [.pointer none] := by kernel_rfl
theorem ty_127 : tyOf Tryd.prog 127 = some (false, 1) := by kernel_rfl
theorem zc_127 : zcs Tryd.prog 127 = some [.nilFunc] := by kernel_rfl
theorem ty_128 : tyOf Tryd.prog 128 = some (false, 1) := by kernel_rfl
theorem zc_128 : zcs Tryd.prog 128 = some [.nilFunc] := by kernel_rfl
theorem ty_129 : tyOf Tryd.prog 129 = some (false, 1) := by kernel_rfl
theorem zc_129 : zcs Tryd.prog 129 = some [.nilFunc] := by kernel_rfl
theorem ty_130 : tyOf Tryd.prog 130 = some (false, 1) := by kernel_rfl
theorem zc_130 : zcs Tryd.prog 130 = some [.pointer none] := by kernel_rfl
theorem ty_131 : tyOf Tryd.prog 131 = some (false, 1) := by kernel_rfl
theorem zc_131 : zcs Tryd.prog 131 = some [.nilFunc] := by kernel_rfl
theorem ty_132 : tyOf Tryd.prog 132 = some (false, 1) := by kernel_rfl
theorem zc_132 : zcs Tryd.prog 132 = some [.nilFunc] := by kernel_rfl
theorem ty_133 : tyOf Tryd.prog 133 = some (false, 1) := by kernel_rfl
theorem ty_134 : tyOf Tryd.prog 134 = some (false, 1) := by kernel_rfl
theorem zc_134 : zcs Tryd.prog 134 = some [.nilFunc] := by kernel_rfl
theorem ty_135 : tyOf Tryd.prog 135 = some (false, 1) := by kernel_rfl
theorem ty_136 : tyOf Tryd.prog 136 = some (false, 1) := by kernel_rfl
theorem zc_136 : zcs Tryd.prog 136 = some [.nilFunc] := by kernel_rfl
theorem ty_137 : tyOf Tryd.prog 137 = some (false, 1) := by kernel_rfl
theorem zc_137 : zcs Tryd.prog 137 = some [.nilFunc] := by kernel_rfl
theorem ty_138 : tyOf Tryd.prog 138 = some (false, 1) := by kernel_rfl
theorem zc_138 : zcs Tryd.prog 138 = some [.nilFunc] := by kernel_rfl
theorem ty_139 : tyOf Tryd.prog 139 = some (false, 1) := by kernel_rfl
theorem zc_139 : zcs Tryd.prog 139 = some [.pointer none] := by kernel_rfl
theorem ty_140 : tyOf Tryd.prog 140 = some (false, 1) := by kernel_rfl
theorem zc_140 : zcs Tryd.prog 140 = some [.nilFunc] := by kernel_rfl
theorem ty_141 : tyOf Tryd.prog 141 = some (false, 1) := by kernel_rfl
theorem zc_141 : zcs Tryd.prog 141 = some [.nilFunc] := by kernel_rfl
theorem ty_142 : tyOf Tryd.prog 142 = some (false, 1) := by kernel_rfl
theorem ty_143 : tyOf Tryd.prog 143 = some (false, 1) := by kernel_rfl
theorem zc_143 : zcs Tryd.prog 143 = some [.nilFunc] := by kernel_rfl
theorem ty_144 : tyOf Tryd.prog 144 = some (false, 1) := by kernel_rfl
theorem zc_144 : zcs Tryd.prog 144 = some [.nilFunc] := by kernel_rfl
theorem ty_145 : tyOf Tryd.prog 145 = some (true, 3) := by kernel_rfl
theorem zc_145 : zcs Tryd.prog 145 = some [.string ByteArray.empty, .string ByteArray.empty, .nilIface] := by kernel_rfl
theorem st_145 : stOf Tryd.prog 145 = some ([.string ByteArray.empty, .string ByteArray.empty, .nilIface], [(0, 1), (1, 1), (2, 1)]) := by kernel_rfl
theorem fd_145_0 : fdOf Tryd.prog 145 0 = some 0 := by kernel_rfl
theorem fd_145_1 : fdOf Tryd.prog 145 1 = some 1 := by kernel_rfl
theorem fd_145_2 : fdOf Tryd.prog 145 2 = some 2 := by kernel_rfl
theorem ty_146 : tyOf Tryd.prog 146 = some (true, 3) := by kernel_rfl
theorem zc_146 : zcs Tryd.prog 146 = some [.string ByteArray.empty, .string ByteArray.empty, .nilIface] := by kernel_rfl
theorem st_146 : stOf Tryd.prog 146 = some ([.string ByteArray.empty, .string ByteArray.empty, .nilIface], [(0, 1), (1, 1), (2, 1)]) := by kernel_rfl
theorem fd_146_0 : fdOf Tryd.prog 146 0 = some 0 := by kernel_rfl
theorem fd_146_1 : fdOf Tryd.prog 146 1 = some 1 := by kernel_rfl
theorem fd_146_2 : fdOf Tryd.prog 146 2 = some 2 := by kernel_rfl
theorem ty_147 : tyOf Tryd.prog 147 = some (false, 1) := by kernel_rfl
theorem zc_147 : zcs Tryd.prog 147 = some [.nilFunc] := by kernel_rfl
theorem ty_148 : tyOf Tryd.prog 148 = some (true, 24) := by kernel_rfl
theorem zc_148 : zcs Tryd.prog 148 = some [.int .u8 0, .int .u8 0, .int .u8 0, .int .u8 0, .int .u8 0, .int .u8 0, .int .u8 0, .int .u8 0, .int .u8 0, .int .u8 0, .int .u8 0, .int .u8 0, .int .u8 0, .int .u8 0, .int .u8 0, .int .u8 0, .int .u8 0, .int .u8 0, .int .u8 0, .int .u8 0, .int .u8 0, .int .u8 0, .int .u8 0, .int .u8 0] := by kernel_rfl
theorem ty_149 : tyOf Tryd.prog 149 = some (false, 1) := by kernel_rfl
theorem zc_149 : zcs Tryd.prog 149 = some [.nilFunc] := by kernel_rfl
theorem ty_150 : tyOf Tryd.prog 150 = some (false, 1) := by kernel_rfl
theorem zc_150 : zcs Tryd.prog 150 = some [.nilFunc] := by kernel_rfl
theorem ty_151 : tyOf Tryd.prog 151 = some (false, 1) := by kernel_rfl
theorem ty_152 : tyOf Tryd.prog 152 = some (false, 1) := by kernel_rfl
theorem zc_152 : zcs Tryd.prog 152 = some [.nilFunc] := by kernel_rfl
theorem ty_153 : tyOf Tryd.prog 153 = some (false, 1) := by kernel_rfl
theorem zc_153 : zcs Tryd.prog 153 = some [.nilFunc] := by kernel_rfl
theorem ty_154 : tyOf Tryd.prog 154 = some (false, 1) := by kernel_rfl
theorem ty_155 : tyOf Tryd.prog 155 = some (false, 1) := by kernel_rfl
theorem zc_155 : zcs Tryd.prog 155 = some [.nilFunc] := by kernel_rfl
theorem ty_156 : tyOf Tryd.prog 156 = some (false, 1) := by kernel_rfl
theorem zc_156 : zcs Tryd.prog 156 = some [.nilFunc] := by kernel_rfl
theorem ty_157 : tyOf Tryd.prog 157 = some (false, 1) := by kernel_rfl
theorem zc_157 : zcs Tryd.prog 157 = some [.nilFunc] := by kernel_rfl
theorem ty_158 : tyOf Tryd.prog 158 = some (false, 1) := by kernel_rfl
theorem zc_158 : zcs Tryd.prog 158 = some [.pointer none] := by kernel_rfl
theorem ty_159 : tyOf Tryd.prog 159 = some (true, 1) := by kernel_rfl
theorem zc_159 : zcs Tryd.prog 159 = some [.string ByteArray.empty] := by kernel_rfl
theorem st_159 : stOf Tryd.prog 159 = some ([.string ByteArray.empty], [(0, 1)]) := by kernel_rfl
theorem fd_159_0 : fdOf Tryd.prog 159 0 = some 0 := by kernel_rfl
theorem ty_160 : tyOf Tryd.prog 160 = some (true, 1) := by kernel_rfl
theorem zc_160 : zcs Tryd.prog 160 = some [.string ByteArray.empty] := by kernel_rfl
theorem st_160 : stOf Tryd.prog 160 = some ([.string ByteArray.empty], [(0, 1)]) := by kernel_rfl
theorem fd_160_0 : fdOf Tryd.prog 160 0 = some 0 := by kernel_rfl
theorem ty_161 : tyOf Tryd.prog 161 = some (false, 1) := by kernel_rfl
theorem zc_161 : zcs Tryd.prog 161 = some [.nilFunc] := by kernel_rfl
theorem ty_162 : tyOf Tryd.prog 162 = some (true, 20) := by kernel_rfl
theorem zc_162 : zcs Tryd.prog 162 = some [.int .u64 0, .int .u64 0, .int .u64 0, .int .u64 0, .int .u64 0, .int .u64 0, .int .u64 0, .int .u64 0, .int .u64 0, .int .u64 0, .int .u64 0, .int .u64 0, .int .u64 0, .int .u64 0, .int .u64 0, .int .u64 0, .int .u64 0, .int .u64 0, .int .u64 0, .int .u64 0] := by kernel_rfl
theorem ty_163 : tyOf Tryd.prog 163 = some (true, 65) := by kernel_rfl
theorem ty_164 : tyOf Tryd.prog 164 = some (false, 1) := by kernel_rfl
theorem zc_164 : zcs Tryd.prog 164 = some [.nilFunc] := by kernel_rfl
theorem ty_165 : tyOf Tryd.prog 165 = some (false, 1) := by kernel_rfl
theorem zc_165 : zcs Tryd.prog 165 = some [.nilFunc] := by kernel_rfl
theorem ty_166 : tyOf Tryd.prog 166 = some (false, 1) := by kernel_rfl
theorem zc_166 : zcs Tryd.prog 166 = some [.nilFunc] := by kernel_rfl
theorem ty_167 : tyOf Tryd.prog 167 = some (true, 256) := by kernel_rfl
theorem ty_168 : tyOf Tryd.prog 168 = some (true, 2) := by kernel_rfl
theorem zc_168 : zcs Tryd.prog 168 = some [.int .u8 0, .int .u8 0] := by kernel_rfl
theorem st_168 : stOf Tryd.prog 168 = some ([.int .u8 0, .int .u8 0], [(0, 1), (1, 1)]) := by kernel_rfl
theorem fd_168_0 : fdOf Tryd.prog 168 0 = some 0 := by kernel_rfl
theorem fd_168_1 : fdOf Tryd.prog 168 1 = some 1 := by kernel_rfl
theorem ty_169 : tyOf Tryd.prog 169 = some (true, 2) := by kernel_rfl
theorem zc_169 : zcs Tryd.prog 169 = some [.int .u8 0, .int .u8 0] := by kernel_rfl
theorem st_169 : stOf Tryd.prog 169 = some ([.int .u8 0, .int .u8 0], [(0, 1), (1, 1)]) := by kernel_rfl
theorem fd_169_0 : fdOf Tryd.prog 169 0 = some 0 := by kernel_rfl
theorem fd_169_1 : fdOf Tryd.prog 169 1 = some 1 := by kernel_rfl
theorem ty_170 : tyOf Tryd.prog 170 = some (true, 32) := by kernel_rfl
theorem zc_170 : zcs Tryd.prog 170 = some [.int .u8 0, .int .u8 0, .int .u8 0, .int .u8 0, .int .u8 0, .int .u8 0, .int .u8 0, .int .u8 0, .int .u8 0, .int .u8 0, .int .u8 0, .int .u8 0, .int .u8 0, .int .u8 0, .int .u8 0, .int .u8 0, .int .u8 0, .int .u8 0, .int .u8 0, .int .u8 0, .int .u8 0, .int .u8 0, .int .u8 0, .int .u8 0, .int .u8 0, .int .u8 0, .int .u8 0, .int .u8 0, .int .u8 0, .int .u8 0, .int .u8 0, .int .u8 0] := by kernel_rfl
theorem ty_171 : tyOf Tryd.prog 171 = some (false, 1) := by kernel_rfl
theorem ty_172 : tyOf Tryd.prog 172 = some (false, 1) := by kernel_rfl
theorem zc_172 : zcs Tryd.prog 172 = some [.nilFunc] := by kernel_rfl
theorem ty_173 : tyOf Tryd.prog 173 = some (true, 32) := by kernel_rfl
theorem zc_173 : zcs Tryd.prog 173 = some [.int .u8 0, .int .u8 0, .int .u8 0, .int .u8 0, .int .u8 0, .int .u8 0, .int .u8 0, .int .u8 0, .int .u8 0, .int .u8 0, .int .u8 0, .int .u8 0, .int .u8 0, .int .u8 0, .int .u8 0, .int .u8 0, .int .u8 0, .int .u8 0, .int .u8 0, .int .u8 0, .int .u8 0, .int .u8 0, .int .u8 0, .int .u8 0, .int .u8 0, .int .u8 0, .int .u8 0, .int .u8 0, .int .u8 0, .int .u8 0, .int .u8 0, .int .u8 0] := by kernel_rfl
theorem ty_174 : tyOf Tryd.prog 174 = some (true, 64) := by kernel_rfl
theorem zc_174 : zcs Tryd.prog 174 = some [.int .u8 0, .int .u8 0, .int .u8 0, .int .u8 0, .int .u8 0, .int .u8 0, .int .u8 0, .int .u8 0, .int .u8 0, .int .u8 0, .int .u8 0, .int .u8 0, .int .u8 0, .int .u8 0, .int .u8 0, .int .u8 0, .int .u8 0, .int .u8 0, .int .u8 0, .int .u8 0, .int .u8 0, .int .u8 0, .int .u8 0, .int .u8 0, .int .u8 0, .int .u8 0, .int .u8 0, .int .u8 0, .int .u8 0, .int .u8 0, .int .u8 0, .int .u8 0, .int .u8 0, .int .u8 0, .int .u8 0, .int .u8 0, .int .u8 0, .int .u8 0, .int .u8 0, .int .u8 0, .int .u8 0, .int .u8 0, .int .u8 0, .int .u8 0, .int .u8 0, .int .u8 0, .int .u8 0, .int .u8 0, .int .u8 0, .int .u8 0, .int .u8 0, .int .u8 0, .int .u8 0, .int .u8 0, .int .u8 0, .int .u8 0, .int .u8 0, .int .u8 0, .int .u8 0, .int .u8 0, .int .u8 0, .int .u8 0, .int .u8 0, .int .u8 0] := by kernel_rfl
theorem ty_175 : tyOf Tryd.prog 175 = some (true, 4) := by kernel_rfl
theorem zc_175 : zcs Tryd.prog 175 = some [.pointer none, .pointer none, .pointer none, .string ByteArray.empty] := by kernel_rfl
theorem st_175 : stOf Tryd.prog 175 = some ([.pointer none, .pointer none, .pointer none, .string ByteArray.empty], [(0, 1), (1, 1), (2, 1), (3, 1)]) := by kernel_rfl
theorem fd_175_0 : fdOf Tryd.prog 175 0 = some 0 := by kernel_rfl
theorem fd_175_1 : fdOf Tryd.prog 175 1 = some 1 := by kernel_rfl
theorem fd_175_2 : fdOf Tryd.prog 175 2 = some 2 := by kernel_rfl
theorem fd_175_3 : fdOf Tryd.prog 175 3 = some 3 := by kernel_rfl
theorem ty_176 : tyOf Tryd.prog 176 = some (true, 4) := by kernel_rfl
theorem zc_176 : zcs Tryd.prog 176 = some [.pointer none, .pointer none, .pointer none, .string ByteArray.empty] := by kernel_rfl
theorem st_176 : stOf Tryd.prog 176 = some ([.pointer none, .pointer none, .pointer none, .string ByteArray.empty], [(0, 1), (1, 1), (2, 1), (3, 1)]) := by kernel_rfl
theorem fd_176_0 : fdOf Tryd.prog 176 0 = some 0 := by kernel_rfl
theorem fd_176_1 : fdOf Tryd.prog 176 1 = some 1 := by kernel_rfl
theorem fd_176_2 : fdOf Tryd.prog 176 2 = some 2 := by kernel_rfl
theorem fd_176_3 : fdOf Tryd.prog 176 3 = some 3 := by kernel_rfl
theorem ty_177 : tyOf Tryd.prog 177 = some (true, 0) := by kernel_rfl
theorem zc_177 : zcs Tryd.prog 177 = some [] := by kernel_rfl
theorem ty_178 : tyOf Tryd.prog 178 = some (true, 0) := by kernel_rfl
theorem zc_178 : zcs Tryd.prog 178 = some [] := by kernel_rfl
theorem st_178 : stOf Tryd.prog 178 = some ([], [(0, 0)]) := by kernel_rfl
theorem ty_179 : tyOf Tryd.prog 179 = some (true, 0) := by kernel_rfl
theorem zc_179 : zcs Tryd.prog 179 = some [] := by kernel_rfl
theorem st_179 : stOf Tryd.prog 179 = some ([], [(0, 0)]) := by kernel_rfl
theorem ty_180 : tyOf Tryd.prog 180 = some (false, 1) := by kernel_rfl
theorem zc_180 : zcs Tryd.prog 180 = some [.int .u8 0] := by kernel_rfl
theorem ty_181 : tyOf Tryd.prog 181 = some (false, 1) := by kernel_rfl
theorem zc_181 : zcs Tryd.prog 181 = some [.int .u8 0] := by kernel_rfl
theorem ty_182 : tyOf Tryd.prog 182 = some (false, 1) := by kernel_rfl
theorem zc_182 : zcs Tryd.prog 182 = some [.nilFunc] := by kernel_rfl
theorem ty_183 : tyOf Tryd.prog 183 = some (false, 1) := by kernel_rfl
theorem zc_183 : zcs Tryd.prog 183 = some [.int .i32 0] := by kernel_rfl
theorem ty_184 : tyOf Tryd.prog 184 = some (false, 1) := by kernel_rfl
theorem zc_184 : zcs Tryd.prog 184 = some [.int .i32 0] := by kernel_rfl
theorem ty_185 : tyOf Tryd.prog 185 = some (true, 11) := by kernel_rfl
theorem zc_185 : zcs Tryd.prog 185 = some [.int .u64 0, .int .u64 0, .int .u32 0, .int .u8 0, .int .u8 0, .int .u8 0, .int .u8 0, .nilFunc, .pointer none, .int .i32 0, .int .i32 0] := by kernel_rfl
theorem st_185 : stOf Tryd.prog 185 = some ([.int .u64 0, .int .u64 0, .int .u32 0, .int .u8 0, .int .u8 0, .int .u8 0, .int .u8 0, .nilFunc, .pointer none, .int .i32 0, .int .i32 0], [(0, 1), (1, 1), (2, 1), (3, 1), (4, 1), (5, 1), (6, 1), (7, 1), (8, 1), (9, 1), (10, 1)]) := by kernel_rfl
theorem fd_185_0 : fdOf Tryd.prog 185 0 = some 0 := by kernel_rfl
theorem fd_185_1 : fdOf Tryd.prog 185 1 = some 1 := by kernel_rfl
theorem fd_185_2 : fdOf Tryd.prog 185 2 = some 2 := by kernel_rfl
theorem fd_185_3 : fdOf Tryd.prog 185 3 = some 3 := by kernel_rfl
theorem fd_185_4 : fdOf Tryd.prog 185 4 = some 4 := by kernel_rfl
theorem fd_185_5 : fdOf Tryd.prog 185 5 = some 5 := by kernel_rfl
theorem fd_185_6 : fdOf Tryd.prog 185 6 = some 6 := by kernel_rfl
theorem fd_185_7 : fdOf Tryd.prog 185 7 = some 7 := by kernel_rfl
theorem fd_185_8 : fdOf Tryd.prog 185 8 = some 8 := by kernel_rfl
theorem fd_185_9 : fdOf Tryd.prog 185 9 = some 9 := by kernel_rfl
theorem fd_185_10 : fdOf Tryd.prog 185 10 = some 10 := by kernel_rfl
theorem ty_186 : tyOf Tryd.prog 186 = some (true, 11) := by kernel_rfl
theorem zc_186 : zcs Tryd.prog 186 = some [.int .u64 0, .int .u64 0, .int .u32 0, .int .u8 0, .int .u8 0, .int .u8 0, .int .u8 0, .nilFunc, .pointer none, .int .i32 0, .int .i32 0] := by kernel_rfl
theorem st_186 : stOf Tryd.prog 186 = some ([.int .u64 0, .int .u64 0, .int .u32 0, .int .u8 0, .int .u8 0, .int .u8 0, .int .u8 0, .nilFunc, .pointer none, .int .i32 0, .int .i32 0], [(0, 1), (1, 1), (2, 1), (3, 1), (4, 1), (5, 1), (6, 1), (7, 1), (8, 1), (9, 1), (10, 1)]) := by kernel_rfl
theorem fd_186_0 : fdOf Tryd.prog 186 0 = some 0 := by kernel_rfl
theorem fd_186_1 : fdOf Tryd.prog 186 1 = some 1 := by kernel_rfl
theorem fd_186_2 : fdOf Tryd.prog 186 2 = some 2 := by kernel_rfl
theorem fd_186_3 : fdOf Tryd.prog 186 3 = some 3 := by kernel_rfl
theorem fd_186_4 : fdOf Tryd.prog 186 4 = some 4 := by kernel_rfl
theorem fd_186_5 : fdOf Tryd.prog 186 5 = some 5 := by kernel_rfl
theorem fd_186_6 : fdOf Tryd.prog 186 6 = some 6 := by kernel_rfl
theorem fd_186_7 : fdOf Tryd.prog 186 7 = some 7 := by kernel_rfl
theorem fd_186_8 : fdOf Tryd.prog 186 8 = some 8 := by kernel_rfl
theorem fd_186_9 : fdOf Tryd.prog 186 9 = some 9 := by kernel_rfl
theorem fd_186_10 : fdOf Tryd.prog 186 10 = some 10 := by kernel_rfl
end Go.Proofs.YtijpdbjcmnpobaaDoor
