/-
  Facts on the types of this seat.
-/
import Derived.Test.YtdbbbafiegpbpaaGreatDoorHcl
import Derived.Test.YtdbbbafiegpbpaaGreatDoorChecked
import Derived.RangeFuncLeaves
import Derived.Test.YtdbbbafiegpbpaaGreatDoorHc
import Derived.Shelf.LaysM
import Derived.Shelf.Strconv.Itoa3
import Derived.Shelf.LaysC
import Derived.Shelf.Strconv.AtoiAll
import Derived.Shelf.Strconv.ErrVarAll
import Derived.Test.YtdbbbafiegpbpaaGreatDoorProg
import Derived.Lib.ItoaNum
import Derived.Lib.AtoiAll
import Derived.WalkKit
import Derived.BigCall
import Derived.BigGuard
import Derived.Lib.Strings
import Derived.Lib.AtoiErrMem
import Derived.Laws.IdiomStrings
import Derived.Lib.SmallJoins
import Derived.Lib.Bytealg
namespace Go.Proofs.YtdbbbafiegpbpaaGreatDoor
set_option linter.unusedSimpArgs false
set_option linter.unusedVariables false
open Go.RowKit
instance ty_0:TyI Tryz.prog 0 false 1:=⟨by kernel_rfl⟩
instance ty_1:TyI Tryz.prog 1 false 1:=⟨by kernel_rfl⟩
instance zc_1:ZcI Tryz.prog 1 [.nilFunc]:=⟨by kernel_rfl⟩
instance ty_2:TyI Tryz.prog 2 false 1:=⟨by kernel_rfl⟩
instance ik_2:IkI Tryz.prog 2 .i64:=⟨by kernel_rfl⟩
instance zc_2:ZcI Tryz.prog 2 [.int .i64 0]:=⟨by kernel_rfl⟩
instance ty_3:TyI Tryz.prog 3 false 1:=⟨by kernel_rfl⟩
instance ik_3:IkI Tryz.prog 3 .i64:=⟨by kernel_rfl⟩
instance zc_3:ZcI Tryz.prog 3 [.int .i64 0]:=⟨by kernel_rfl⟩
instance ty_4:TyI Tryz.prog 4 false 1:=⟨by kernel_rfl⟩
instance zc_4:ZcI Tryz.prog 4 [.bool false]:=⟨by kernel_rfl⟩
instance ty_5:TyI Tryz.prog 5 false 1:=⟨by kernel_rfl⟩
instance ik_5:IkI Tryz.prog 5 .u8:=⟨by kernel_rfl⟩
instance zc_5:ZcI Tryz.prog 5 [.int .u8 0]:=⟨by kernel_rfl⟩
instance ty_6:TyI Tryz.prog 6 false 1:=⟨by kernel_rfl⟩
instance ik_6:IkI Tryz.prog 6 .u8:=⟨by kernel_rfl⟩
instance zc_6:ZcI Tryz.prog 6 [.int .u8 0]:=⟨by kernel_rfl⟩
instance ty_7:TyI Tryz.prog 7 true 4:=⟨by kernel_rfl⟩
instance zc_7:ZcI Tryz.prog 7 [.int .i64 0,.int .i64 0,.bool false,.int .u8 0]:=⟨by kernel_rfl⟩
instance st_7:StI Tryz.prog 7 [.int .i64 0,.int .i64 0,.bool false,.int .u8 0] [(0,1),(1,1),(2,1),(3,1)]:=⟨by kernel_rfl⟩
instance fd_7_0:FdI Tryz.prog 7 0 0:=⟨by kernel_rfl⟩
instance fd_7_1:FdI Tryz.prog 7 1 1:=⟨by kernel_rfl⟩
instance fd_7_2:FdI Tryz.prog 7 2 2:=⟨by kernel_rfl⟩
instance fd_7_3:FdI Tryz.prog 7 3 3:=⟨by kernel_rfl⟩
instance ty_8:TyI Tryz.prog 8 true 4:=⟨by kernel_rfl⟩
instance zc_8:ZcI Tryz.prog 8 [.int .i64 0,.int .i64 0,.bool false,.int .u8 0]:=⟨by kernel_rfl⟩
instance st_8:StI Tryz.prog 8 [.int .i64 0,.int .i64 0,.bool false,.int .u8 0] [(0,1),(1,1),(2,1),(3,1)]:=⟨by kernel_rfl⟩
instance fd_8_0:FdI Tryz.prog 8 0 0:=⟨by kernel_rfl⟩
instance fd_8_1:FdI Tryz.prog 8 1 1:=⟨by kernel_rfl⟩
instance fd_8_2:FdI Tryz.prog 8 2 2:=⟨by kernel_rfl⟩
instance fd_8_3:FdI Tryz.prog 8 3 3:=⟨by kernel_rfl⟩
instance ty_9:TyI Tryz.prog 9 false 1:=⟨by kernel_rfl⟩
instance zc_9:ZcI Tryz.prog 9 [.string ByteArray.empty]:=⟨by kernel_rfl⟩
instance ty_10:TyI Tryz.prog 10 false 1:=⟨by kernel_rfl⟩
instance zc_10:ZcI Tryz.prog 10 [.string ByteArray.empty]:=⟨by kernel_rfl⟩
instance ty_11:TyI Tryz.prog 11 false 1:=⟨by kernel_rfl⟩
instance zc_11:ZcI Tryz.prog 11 [.string ByteArray.empty]:=⟨by kernel_rfl⟩
instance ty_12:TyI Tryz.prog 12 false 1:=⟨by kernel_rfl⟩
instance ik_12:IkI Tryz.prog 12 .u64:=⟨by kernel_rfl⟩
instance zc_12:ZcI Tryz.prog 12 [.int .u64 0]:=⟨by kernel_rfl⟩
instance ty_13:TyI Tryz.prog 13 true 2:=⟨by kernel_rfl⟩
instance zc_13:ZcI Tryz.prog 13 [.string ByteArray.empty,.int .u64 0]:=⟨by kernel_rfl⟩
instance st_13:StI Tryz.prog 13 [.string ByteArray.empty,.int .u64 0] [(0,1),(1,1)]:=⟨by kernel_rfl⟩
instance fd_13_0:FdI Tryz.prog 13 0 0:=⟨by kernel_rfl⟩
instance fd_13_1:FdI Tryz.prog 13 1 1:=⟨by kernel_rfl⟩
instance ty_14:TyI Tryz.prog 14 true 2:=⟨by kernel_rfl⟩
instance zc_14:ZcI Tryz.prog 14 [.string ByteArray.empty,.int .u64 0]:=⟨by kernel_rfl⟩
instance st_14:StI Tryz.prog 14 [.string ByteArray.empty,.int .u64 0] [(0,1),(1,1)]:=⟨by kernel_rfl⟩
instance fd_14_0:FdI Tryz.prog 14 0 0:=⟨by kernel_rfl⟩
instance fd_14_1:FdI Tryz.prog 14 1 1:=⟨by kernel_rfl⟩
instance ty_15:TyI Tryz.prog 15 false 1:=⟨by kernel_rfl⟩
instance zc_15:ZcI Tryz.prog 15 [.pointer none]:=⟨by kernel_rfl⟩
instance ty_16:TyI Tryz.prog 16 false 1:=⟨by kernel_rfl⟩
instance zc_16:ZcI Tryz.prog 16 [.pointer none]:=⟨by kernel_rfl⟩
instance ty_17:TyI Tryz.prog 17 false 1:=⟨by kernel_rfl⟩
instance zc_17:ZcI Tryz.prog 17 [.pointer none]:=⟨by kernel_rfl⟩
instance ty_18:TyI Tryz.prog 18 true 1:=⟨by kernel_rfl⟩
instance zc_18:ZcI Tryz.prog 18 [.pointer none]:=⟨by kernel_rfl⟩
instance st_18:StI Tryz.prog 18 [.pointer none] [(0,1)]:=⟨by kernel_rfl⟩
instance fd_18_0:FdI Tryz.prog 18 0 0:=⟨by kernel_rfl⟩
instance ty_19:TyI Tryz.prog 19 true 1:=⟨by kernel_rfl⟩
instance zc_19:ZcI Tryz.prog 19 [.pointer none]:=⟨by kernel_rfl⟩
instance st_19:StI Tryz.prog 19 [.pointer none] [(0,1)]:=⟨by kernel_rfl⟩
instance fd_19_0:FdI Tryz.prog 19 0 0:=⟨by kernel_rfl⟩
instance ty_20:TyI Tryz.prog 20 false 1:=⟨by kernel_rfl⟩
instance zc_20:ZcI Tryz.prog 20 [.nilIface]:=⟨by kernel_rfl⟩
instance ty_21:TyI Tryz.prog 21 false 1:=⟨by kernel_rfl⟩
instance ik_21:IkI Tryz.prog 21 .i32:=⟨by kernel_rfl⟩
instance zc_21:ZcI Tryz.prog 21 [.int .i32 0]:=⟨by kernel_rfl⟩
instance ty_22:TyI Tryz.prog 22 false 1:=⟨by kernel_rfl⟩
instance ei_22:EiI Tryz.prog 22 145 2 40:=⟨by kernel_rfl⟩
instance el_22:ElI Tryz.prog 22 145 2:=⟨by kernel_rfl⟩
instance zc_22:ZcI Tryz.prog 22 [.slice none 0 0]:=⟨by kernel_rfl⟩
instance ty_23:TyI Tryz.prog 23 false 1:=⟨by kernel_rfl⟩
instance zc_23:ZcI Tryz.prog 23 [.pointer none]:=⟨by kernel_rfl⟩
instance ty_24:TyI Tryz.prog 24 false 1:=⟨by kernel_rfl⟩
instance ei_24:EiI Tryz.prog 24 49 1 24:=⟨by kernel_rfl⟩
instance el_24:ElI Tryz.prog 24 49 1:=⟨by kernel_rfl⟩
instance zc_24:ZcI Tryz.prog 24 [.slice none 0 0]:=⟨by kernel_rfl⟩
instance ty_25:TyI Tryz.prog 25 false 1:=⟨by kernel_rfl⟩
instance ei_25:EiI Tryz.prog 25 50 32 256:=⟨by kernel_rfl⟩
instance el_25:ElI Tryz.prog 25 50 32:=⟨by kernel_rfl⟩
instance zc_25:ZcI Tryz.prog 25 [.slice none 0 0]:=⟨by kernel_rfl⟩
instance ty_26:TyI Tryz.prog 26 false 1:=⟨by kernel_rfl⟩
instance ei_26:EiI Tryz.prog 26 4 1 1:=⟨by kernel_rfl⟩
instance el_26:ElI Tryz.prog 26 4 1:=⟨by kernel_rfl⟩
instance zc_26:ZcI Tryz.prog 26 [.slice none 0 0]:=⟨by kernel_rfl⟩
instance ty_27:TyI Tryz.prog 27 true 3:=⟨by kernel_rfl⟩
instance zc_27:ZcI Tryz.prog 27 [.slice none 0 0,.slice none 0 0,.slice none 0 0]:=⟨by kernel_rfl⟩
instance st_27:StI Tryz.prog 27 [.slice none 0 0,.slice none 0 0,.slice none 0 0] [(0,1),(1,1),(2,1)]:=⟨by kernel_rfl⟩
instance fd_27_0:FdI Tryz.prog 27 0 0:=⟨by kernel_rfl⟩
instance fd_27_1:FdI Tryz.prog 27 1 1:=⟨by kernel_rfl⟩
instance fd_27_2:FdI Tryz.prog 27 2 2:=⟨by kernel_rfl⟩
instance ty_28:TyI Tryz.prog 28 true 3:=⟨by kernel_rfl⟩
instance zc_28:ZcI Tryz.prog 28 [.slice none 0 0,.slice none 0 0,.slice none 0 0]:=⟨by kernel_rfl⟩
instance st_28:StI Tryz.prog 28 [.slice none 0 0,.slice none 0 0,.slice none 0 0] [(0,1),(1,1),(2,1)]:=⟨by kernel_rfl⟩
instance fd_28_0:FdI Tryz.prog 28 0 0:=⟨by kernel_rfl⟩
instance fd_28_1:FdI Tryz.prog 28 1 1:=⟨by kernel_rfl⟩
instance fd_28_2:FdI Tryz.prog 28 2 2:=⟨by kernel_rfl⟩
instance ty_29:TyI Tryz.prog 29 false 1:=⟨by kernel_rfl⟩
instance ik_29:IkI Tryz.prog 29 .i64:=⟨by kernel_rfl⟩
instance zc_29:ZcI Tryz.prog 29 [.int .i64 0]:=⟨by kernel_rfl⟩
instance ty_30:TyI Tryz.prog 30 false 1:=⟨by kernel_rfl⟩
instance ty_31:TyI Tryz.prog 31 false 1:=⟨by kernel_rfl⟩
instance zc_31:ZcI Tryz.prog 31 [.nilFunc]:=⟨by kernel_rfl⟩
instance ty_32:TyI Tryz.prog 32 false 1:=⟨by kernel_rfl⟩
instance zc_32:ZcI Tryz.prog 32 [.nilFunc]:=⟨by kernel_rfl⟩
instance ty_33:TyI Tryz.prog 33 false 1:=⟨by kernel_rfl⟩
instance zc_33:ZcI Tryz.prog 33 [.nilFunc]:=⟨by kernel_rfl⟩
instance ty_34:TyI Tryz.prog 34 false 1:=⟨by kernel_rfl⟩
instance zc_34:ZcI Tryz.prog 34 [.nilFunc]:=⟨by kernel_rfl⟩
instance ty_35:TyI Tryz.prog 35 false 1:=⟨by kernel_rfl⟩
instance zc_35:ZcI Tryz.prog 35 [.nilFunc]:=⟨by kernel_rfl⟩
instance ty_36:TyI Tryz.prog 36 true 2:=⟨by kernel_rfl⟩
instance zc_36:ZcI Tryz.prog 36 [.int .i64 0,.int .i64 0]:=⟨by kernel_rfl⟩
instance al_36:AlI Tryz.prog 36 2 1:=⟨by kernel_rfl⟩
instance ar_36:ArI Tryz.prog 36 [.int .i64 0,.int .i64 0] 1:=⟨by kernel_rfl⟩
instance ty_37:TyI Tryz.prog 37 false 1:=⟨by kernel_rfl⟩
instance ty_38:TyI Tryz.prog 38 false 1:=⟨by kernel_rfl⟩
instance zc_38:ZcI Tryz.prog 38 [.nilFunc]:=⟨by kernel_rfl⟩
instance ty_39:TyI Tryz.prog 39 false 1:=⟨by kernel_rfl⟩
instance ty_40:TyI Tryz.prog 40 false 1:=⟨by kernel_rfl⟩
instance zc_40:ZcI Tryz.prog 40 [.nilFunc]:=⟨by kernel_rfl⟩
instance ty_41:TyI Tryz.prog 41 false 1:=⟨by kernel_rfl⟩
instance zc_41:ZcI Tryz.prog 41 [.nilFunc]:=⟨by kernel_rfl⟩
instance ty_42:TyI Tryz.prog 42 false 1:=⟨by kernel_rfl⟩
instance zc_42:ZcI Tryz.prog 42 [.nilFunc]:=⟨by kernel_rfl⟩
instance ty_43:TyI Tryz.prog 43 false 1:=⟨by kernel_rfl⟩
instance zc_43:ZcI Tryz.prog 43 [.nilFunc]:=⟨by kernel_rfl⟩
instance ty_44:TyI Tryz.prog 44 false 1:=⟨by kernel_rfl⟩
instance ik_44:IkI Tryz.prog 44 .u64:=⟨by kernel_rfl⟩
instance zc_44:ZcI Tryz.prog 44 [.int .u64 0]:=⟨by kernel_rfl⟩
instance ty_45:TyI Tryz.prog 45 true 4:=⟨by kernel_rfl⟩
instance zc_45:ZcI Tryz.prog 45 [.int .u64 0,.int .u64 0,.int .u64 0,.int .u64 0]:=⟨by kernel_rfl⟩
instance al_45:AlI Tryz.prog 45 4 1:=⟨by kernel_rfl⟩
instance ar_45:ArI Tryz.prog 45 [.int .u64 0,.int .u64 0,.int .u64 0,.int .u64 0] 1:=⟨by kernel_rfl⟩
instance ty_46:TyI Tryz.prog 46 true 4:=⟨by kernel_rfl⟩
instance zc_46:ZcI Tryz.prog 46 [.int .u64 0,.int .u64 0,.int .u64 0,.int .u64 0]:=⟨by kernel_rfl⟩
instance st_46:StI Tryz.prog 46 [.int .u64 0,.int .u64 0,.int .u64 0,.int .u64 0] [(0,4)]:=⟨by kernel_rfl⟩
instance fd_46_0:FdI Tryz.prog 46 0 0:=⟨by kernel_rfl⟩
instance ty_47:TyI Tryz.prog 47 true 4:=⟨by kernel_rfl⟩
instance zc_47:ZcI Tryz.prog 47 [.int .u64 0,.int .u64 0,.int .u64 0,.int .u64 0]:=⟨by kernel_rfl⟩
instance st_47:StI Tryz.prog 47 [.int .u64 0,.int .u64 0,.int .u64 0,.int .u64 0] [(0,4)]:=⟨by kernel_rfl⟩
instance fd_47_0:FdI Tryz.prog 47 0 0:=⟨by kernel_rfl⟩
instance ty_48:TyI Tryz.prog 48 false 1:=⟨by kernel_rfl⟩
instance zc_48:ZcI Tryz.prog 48 [.nilFunc]:=⟨by kernel_rfl⟩
instance ty_49:TyI Tryz.prog 49 false 1:=⟨by kernel_rfl⟩
instance ei_49:EiI Tryz.prog 49 3 1 8:=⟨by kernel_rfl⟩
instance el_49:ElI Tryz.prog 49 3 1:=⟨by kernel_rfl⟩
instance zc_49:ZcI Tryz.prog 49 [.slice none 0 0]:=⟨by kernel_rfl⟩
instance ty_50:TyI Tryz.prog 50 true 32:=⟨by kernel_rfl⟩
instance zc_50:ZcI Tryz.prog 50 [.int .i64 0,.int .i64 0,.int .i64 0,.int .i64 0,.int .i64 0,.int .i64 0,.int .i64 0,.int .i64 0,.int .i64 0,.int .i64 0,.int .i64 0,.int .i64 0,.int .i64 0,.int .i64 0,.int .i64 0,.int .i64 0,.int .i64 0,.int .i64 0,.int .i64 0,.int .i64 0,.int .i64 0,.int .i64 0,.int .i64 0,.int .i64 0,.int .i64 0,.int .i64 0,.int .i64 0,.int .i64 0,.int .i64 0,.int .i64 0,.int .i64 0,.int .i64 0]:=⟨by kernel_rfl⟩
instance al_50:AlI Tryz.prog 50 32 1:=⟨by kernel_rfl⟩
instance ar_50:ArI Tryz.prog 50 [.int .i64 0,.int .i64 0,.int .i64 0,.int .i64 0,.int .i64 0,.int .i64 0,.int .i64 0,.int .i64 0,.int .i64 0,.int .i64 0,.int .i64 0,.int .i64 0,.int .i64 0,.int .i64 0,.int .i64 0,.int .i64 0,.int .i64 0,.int .i64 0,.int .i64 0,.int .i64 0,.int .i64 0,.int .i64 0,.int .i64 0,.int .i64 0,.int .i64 0,.int .i64 0,.int .i64 0,.int .i64 0,.int .i64 0,.int .i64 0,.int .i64 0,.int .i64 0] 1:=⟨by kernel_rfl⟩
instance ty_51:TyI Tryz.prog 51 false 1:=⟨by kernel_rfl⟩
instance zc_51:ZcI Tryz.prog 51 [.nilFunc]:=⟨by kernel_rfl⟩
instance ty_52:TyI Tryz.prog 52 false 1:=⟨by kernel_rfl⟩
instance zc_52:ZcI Tryz.prog 52 [.nilFunc]:=⟨by kernel_rfl⟩
instance ty_53:TyI Tryz.prog 53 false 1:=⟨by kernel_rfl⟩
instance zc_53:ZcI Tryz.prog 53 [.nilFunc]:=⟨by kernel_rfl⟩
instance ty_54:TyI Tryz.prog 54 false 1:=⟨by kernel_rfl⟩
instance zc_54:ZcI Tryz.prog 54 [.nilFunc]:=⟨by kernel_rfl⟩
instance ty_55:TyI Tryz.prog 55 false 1:=⟨by kernel_rfl⟩
instance zc_55:ZcI Tryz.prog 55 [.pointer none]:=⟨by kernel_rfl⟩
instance ty_56:TyI Tryz.prog 56 false 1:=⟨by kernel_rfl⟩
instance ei_56:EiI Tryz.prog 56 105 5 64:=⟨by kernel_rfl⟩
instance el_56:ElI Tryz.prog 56 105 5:=⟨by kernel_rfl⟩
instance zc_56:ZcI Tryz.prog 56 [.slice none 0 0]:=⟨by kernel_rfl⟩
instance ty_57:TyI Tryz.prog 57 false 1:=⟨by kernel_rfl⟩
instance ty_58:TyI Tryz.prog 58 false 1:=⟨by kernel_rfl⟩
instance zc_58:ZcI Tryz.prog 58 [.nilFunc]:=⟨by kernel_rfl⟩
instance ty_59:TyI Tryz.prog 59 false 1:=⟨by kernel_rfl⟩
instance zc_59:ZcI Tryz.prog 59 [.nilFunc]:=⟨by kernel_rfl⟩
instance ty_60:TyI Tryz.prog 60 false 1:=⟨by kernel_rfl⟩
instance zc_60:ZcI Tryz.prog 60 [.nilFunc]:=⟨by kernel_rfl⟩
instance ty_61:TyI Tryz.prog 61 false 1:=⟨by kernel_rfl⟩
instance zc_61:ZcI Tryz.prog 61 [.nilFunc]:=⟨by kernel_rfl⟩
instance ty_62:TyI Tryz.prog 62 false 1:=⟨by kernel_rfl⟩
instance ty_63:TyI Tryz.prog 63 false 1:=⟨by kernel_rfl⟩
instance zc_63:ZcI Tryz.prog 63 [.nilFunc]:=⟨by kernel_rfl⟩
instance ty_64:TyI Tryz.prog 64 true 5:=⟨by kernel_rfl⟩
instance zc_64:ZcI Tryz.prog 64 [.slice none 0 0,.slice none 0 0,.slice none 0 0,.slice none 0 0,.bool false]:=⟨by kernel_rfl⟩
instance st_64:StI Tryz.prog 64 [.slice none 0 0,.slice none 0 0,.slice none 0 0,.slice none 0 0,.bool false] [(0,1),(1,1),(2,1),(3,1),(4,1)]:=⟨by kernel_rfl⟩
instance fd_64_0:FdI Tryz.prog 64 0 0:=⟨by kernel_rfl⟩
instance fd_64_1:FdI Tryz.prog 64 1 1:=⟨by kernel_rfl⟩
instance fd_64_2:FdI Tryz.prog 64 2 2:=⟨by kernel_rfl⟩
instance fd_64_3:FdI Tryz.prog 64 3 3:=⟨by kernel_rfl⟩
instance fd_64_4:FdI Tryz.prog 64 4 4:=⟨by kernel_rfl⟩
instance ty_65:TyI Tryz.prog 65 true 5:=⟨by kernel_rfl⟩
instance zc_65:ZcI Tryz.prog 65 [.slice none 0 0,.slice none 0 0,.slice none 0 0,.slice none 0 0,.bool false]:=⟨by kernel_rfl⟩
instance st_65:StI Tryz.prog 65 [.slice none 0 0,.slice none 0 0,.slice none 0 0,.slice none 0 0,.bool false] [(0,1),(1,1),(2,1),(3,1),(4,1)]:=⟨by kernel_rfl⟩
instance fd_65_0:FdI Tryz.prog 65 0 0:=⟨by kernel_rfl⟩
instance fd_65_1:FdI Tryz.prog 65 1 1:=⟨by kernel_rfl⟩
instance fd_65_2:FdI Tryz.prog 65 2 2:=⟨by kernel_rfl⟩
instance fd_65_3:FdI Tryz.prog 65 3 3:=⟨by kernel_rfl⟩
instance fd_65_4:FdI Tryz.prog 65 4 4:=⟨by kernel_rfl⟩
instance ty_66:TyI Tryz.prog 66 false 1:=⟨by kernel_rfl⟩
instance zc_66:ZcI Tryz.prog 66 [.nilFunc]:=⟨by kernel_rfl⟩
instance ty_67:TyI Tryz.prog 67 false 1:=⟨by kernel_rfl⟩
instance ei_67:EiI Tryz.prog 67 164 5 64:=⟨by kernel_rfl⟩
instance el_67:ElI Tryz.prog 67 164 5:=⟨by kernel_rfl⟩
instance zc_67:ZcI Tryz.prog 67 [.slice none 0 0]:=⟨by kernel_rfl⟩
instance ty_68:TyI Tryz.prog 68 false 1:=⟨by kernel_rfl⟩
instance ei_68:EiI Tryz.prog 68 164 5 64:=⟨by kernel_rfl⟩
instance el_68:ElI Tryz.prog 68 164 5:=⟨by kernel_rfl⟩
instance zc_68:ZcI Tryz.prog 68 [.slice none 0 0]:=⟨by kernel_rfl⟩
instance ty_69:TyI Tryz.prog 69 false 1:=⟨by kernel_rfl⟩
instance ty_70:TyI Tryz.prog 70 false 1:=⟨by kernel_rfl⟩
instance zc_70:ZcI Tryz.prog 70 [.nilFunc]:=⟨by kernel_rfl⟩
instance ty_71:TyI Tryz.prog 71 false 1:=⟨by kernel_rfl⟩
instance ty_72:TyI Tryz.prog 72 false 1:=⟨by kernel_rfl⟩
instance zc_72:ZcI Tryz.prog 72 [.nilFunc]:=⟨by kernel_rfl⟩
instance ty_73:TyI Tryz.prog 73 false 1:=⟨by kernel_rfl⟩
instance zc_73:ZcI Tryz.prog 73 [.nilFunc]:=⟨by kernel_rfl⟩
instance ty_74:TyI Tryz.prog 74 false 1:=⟨by kernel_rfl⟩
instance zc_74:ZcI Tryz.prog 74 [.nilFunc]:=⟨by kernel_rfl⟩
instance ty_75:TyI Tryz.prog 75 true 2:=⟨by kernel_rfl⟩
instance zc_75:ZcI Tryz.prog 75 [.int .i64 0,.int .i64 0]:=⟨by kernel_rfl⟩
instance st_75:StI Tryz.prog 75 [.int .i64 0,.int .i64 0] [(0,1),(1,1)]:=⟨by kernel_rfl⟩
instance fd_75_0:FdI Tryz.prog 75 0 0:=⟨by kernel_rfl⟩
instance fd_75_1:FdI Tryz.prog 75 1 1:=⟨by kernel_rfl⟩
instance ty_76:TyI Tryz.prog 76 true 2:=⟨by kernel_rfl⟩
instance zc_76:ZcI Tryz.prog 76 [.int .i64 0,.int .i64 0]:=⟨by kernel_rfl⟩
instance st_76:StI Tryz.prog 76 [.int .i64 0,.int .i64 0] [(0,1),(1,1)]:=⟨by kernel_rfl⟩
instance fd_76_0:FdI Tryz.prog 76 0 0:=⟨by kernel_rfl⟩
instance fd_76_1:FdI Tryz.prog 76 1 1:=⟨by kernel_rfl⟩
instance ty_77:TyI Tryz.prog 77 false 1:=⟨by kernel_rfl⟩
instance zc_77:ZcI Tryz.prog 77 [.map none]:=⟨by kernel_rfl⟩
instance ty_78:TyI Tryz.prog 78 false 1:=⟨by kernel_rfl⟩
instance ei_78:EiI Tryz.prog 78 76 2 16:=⟨by kernel_rfl⟩
instance el_78:ElI Tryz.prog 78 76 2:=⟨by kernel_rfl⟩
instance zc_78:ZcI Tryz.prog 78 [.slice none 0 0]:=⟨by kernel_rfl⟩
instance ty_79:TyI Tryz.prog 79 false 1:=⟨by kernel_rfl⟩
instance zc_79:ZcI Tryz.prog 79 [.nilFunc]:=⟨by kernel_rfl⟩
instance ty_80:TyI Tryz.prog 80 false 1:=⟨by kernel_rfl⟩
instance ei_80:EiI Tryz.prog 80 36 2 16:=⟨by kernel_rfl⟩
instance el_80:ElI Tryz.prog 80 36 2:=⟨by kernel_rfl⟩
instance zc_80:ZcI Tryz.prog 80 [.slice none 0 0]:=⟨by kernel_rfl⟩
instance ty_81:TyI Tryz.prog 81 false 1:=⟨by kernel_rfl⟩
instance zc_81:ZcI Tryz.prog 81 [.pointer none]:=⟨by kernel_rfl⟩
instance ty_82:TyI Tryz.prog 82 true 33:=⟨by kernel_rfl⟩
instance zc_82:ZcI Tryz.prog 82 [.int .i64 0,.int .i64 0,.int .i64 0,.int .i64 0,.int .i64 0,.int .i64 0,.int .i64 0,.int .i64 0,.int .i64 0,.int .i64 0,.int .i64 0,.int .i64 0,.int .i64 0,.int .i64 0,.int .i64 0,.int .i64 0,.int .i64 0,.int .i64 0,.int .i64 0,.int .i64 0,.int .i64 0,.int .i64 0,.int .i64 0,.int .i64 0,.int .i64 0,.int .i64 0,.int .i64 0,.int .i64 0,.int .i64 0,.int .i64 0,.int .i64 0,.int .i64 0,.bool false]:=⟨by kernel_rfl⟩
instance st_82:StI Tryz.prog 82 [.int .i64 0,.int .i64 0,.int .i64 0,.int .i64 0,.int .i64 0,.int .i64 0,.int .i64 0,.int .i64 0,.int .i64 0,.int .i64 0,.int .i64 0,.int .i64 0,.int .i64 0,.int .i64 0,.int .i64 0,.int .i64 0,.int .i64 0,.int .i64 0,.int .i64 0,.int .i64 0,.int .i64 0,.int .i64 0,.int .i64 0,.int .i64 0,.int .i64 0,.int .i64 0,.int .i64 0,.int .i64 0,.int .i64 0,.int .i64 0,.int .i64 0,.int .i64 0,.bool false] [(0,32),(32,1)]:=⟨by kernel_rfl⟩
instance fd_82_0:FdI Tryz.prog 82 0 0:=⟨by kernel_rfl⟩
instance fd_82_1:FdI Tryz.prog 82 1 32:=⟨by kernel_rfl⟩
instance ty_83:TyI Tryz.prog 83 true 33:=⟨by kernel_rfl⟩
instance zc_83:ZcI Tryz.prog 83 [.int .i64 0,.int .i64 0,.int .i64 0,.int .i64 0,.int .i64 0,.int .i64 0,.int .i64 0,.int .i64 0,.int .i64 0,.int .i64 0,.int .i64 0,.int .i64 0,.int .i64 0,.int .i64 0,.int .i64 0,.int .i64 0,.int .i64 0,.int .i64 0,.int .i64 0,.int .i64 0,.int .i64 0,.int .i64 0,.int .i64 0,.int .i64 0,.int .i64 0,.int .i64 0,.int .i64 0,.int .i64 0,.int .i64 0,.int .i64 0,.int .i64 0,.int .i64 0,.bool false]:=⟨by kernel_rfl⟩
instance st_83:StI Tryz.prog 83 [.int .i64 0,.int .i64 0,.int .i64 0,.int .i64 0,.int .i64 0,.int .i64 0,.int .i64 0,.int .i64 0,.int .i64 0,.int .i64 0,.int .i64 0,.int .i64 0,.int .i64 0,.int .i64 0,.int .i64 0,.int .i64 0,.int .i64 0,.int .i64 0,.int .i64 0,.int .i64 0,.int .i64 0,.int .i64 0,.int .i64 0,.int .i64 0,.int .i64 0,.int .i64 0,.int .i64 0,.int .i64 0,.int .i64 0,.int .i64 0,.int .i64 0,.int .i64 0,.bool false] [(0,32),(32,1)]:=⟨by kernel_rfl⟩
instance fd_83_0:FdI Tryz.prog 83 0 0:=⟨by kernel_rfl⟩
instance fd_83_1:FdI Tryz.prog 83 1 32:=⟨by kernel_rfl⟩
instance ty_84:TyI Tryz.prog 84 false 1:=⟨by kernel_rfl⟩
instance ei_84:EiI Tryz.prog 84 83 33 264:=⟨by kernel_rfl⟩
instance el_84:ElI Tryz.prog 84 83 33:=⟨by kernel_rfl⟩
instance zc_84:ZcI Tryz.prog 84 [.slice none 0 0]:=⟨by kernel_rfl⟩
instance ty_85:TyI Tryz.prog 85 true 1:=⟨by kernel_rfl⟩
instance zc_85:ZcI Tryz.prog 85 [.slice none 0 0]:=⟨by kernel_rfl⟩
instance st_85:StI Tryz.prog 85 [.slice none 0 0] [(0,1)]:=⟨by kernel_rfl⟩
instance fd_85_0:FdI Tryz.prog 85 0 0:=⟨by kernel_rfl⟩
instance ty_86:TyI Tryz.prog 86 true 1:=⟨by kernel_rfl⟩
instance zc_86:ZcI Tryz.prog 86 [.slice none 0 0]:=⟨by kernel_rfl⟩
instance st_86:StI Tryz.prog 86 [.slice none 0 0] [(0,1)]:=⟨by kernel_rfl⟩
instance fd_86_0:FdI Tryz.prog 86 0 0:=⟨by kernel_rfl⟩
instance ty_87:TyI Tryz.prog 87 false 1:=⟨by kernel_rfl⟩
instance ei_87:EiI Tryz.prog 87 47 4 32:=⟨by kernel_rfl⟩
instance el_87:ElI Tryz.prog 87 47 4:=⟨by kernel_rfl⟩
instance zc_87:ZcI Tryz.prog 87 [.slice none 0 0]:=⟨by kernel_rfl⟩
instance ty_88:TyI Tryz.prog 88 false 1:=⟨by kernel_rfl⟩
instance zc_88:ZcI Tryz.prog 88 [.map none]:=⟨by kernel_rfl⟩
instance ty_89:TyI Tryz.prog 89 true 4:=⟨by kernel_rfl⟩
instance zc_89:ZcI Tryz.prog 89 [.pointer none,.pointer none,.slice none 0 0,.map none]:=⟨by kernel_rfl⟩
instance st_89:StI Tryz.prog 89 [.pointer none,.pointer none,.slice none 0 0,.map none] [(0,1),(1,1),(2,1),(3,1)]:=⟨by kernel_rfl⟩
instance fd_89_0:FdI Tryz.prog 89 0 0:=⟨by kernel_rfl⟩
instance fd_89_1:FdI Tryz.prog 89 1 1:=⟨by kernel_rfl⟩
instance fd_89_2:FdI Tryz.prog 89 2 2:=⟨by kernel_rfl⟩
instance fd_89_3:FdI Tryz.prog 89 3 3:=⟨by kernel_rfl⟩
instance ty_90:TyI Tryz.prog 90 true 4:=⟨by kernel_rfl⟩
instance zc_90:ZcI Tryz.prog 90 [.pointer none,.pointer none,.slice none 0 0,.map none]:=⟨by kernel_rfl⟩
instance st_90:StI Tryz.prog 90 [.pointer none,.pointer none,.slice none 0 0,.map none] [(0,1),(1,1),(2,1),(3,1)]:=⟨by kernel_rfl⟩
instance fd_90_0:FdI Tryz.prog 90 0 0:=⟨by kernel_rfl⟩
instance fd_90_1:FdI Tryz.prog 90 1 1:=⟨by kernel_rfl⟩
instance fd_90_2:FdI Tryz.prog 90 2 2:=⟨by kernel_rfl⟩
instance fd_90_3:FdI Tryz.prog 90 3 3:=⟨by kernel_rfl⟩
instance ty_91:TyI Tryz.prog 91 false 1:=⟨by kernel_rfl⟩
instance zc_91:ZcI Tryz.prog 91 [.nilFunc]:=⟨by kernel_rfl⟩
instance ty_92:TyI Tryz.prog 92 false 1:=⟨by kernel_rfl⟩
instance zc_92:ZcI Tryz.prog 92 [.nilFunc]:=⟨by kernel_rfl⟩
instance ty_93:TyI Tryz.prog 93 false 1:=⟨by kernel_rfl⟩
instance zc_93:ZcI Tryz.prog 93 [.nilFunc]:=⟨by kernel_rfl⟩
instance ty_94:TyI Tryz.prog 94 false 1:=⟨by kernel_rfl⟩
instance zc_94:ZcI Tryz.prog 94 [.nilFunc]:=⟨by kernel_rfl⟩
instance ty_95:TyI Tryz.prog 95 false 1:=⟨by kernel_rfl⟩
instance zc_95:ZcI Tryz.prog 95 [.nilFunc]:=⟨by kernel_rfl⟩
instance ty_96:TyI Tryz.prog 96 false 1:=⟨by kernel_rfl⟩
instance zc_96:ZcI Tryz.prog 96 [.nilFunc]:=⟨by kernel_rfl⟩
instance ty_97:TyI Tryz.prog 97 false 1:=⟨by kernel_rfl⟩
instance zc_97:ZcI Tryz.prog 97 [.nilFunc]:=⟨by kernel_rfl⟩
instance ty_98:TyI Tryz.prog 98 false 1:=⟨by kernel_rfl⟩
instance ty_99:TyI Tryz.prog 99 false 1:=⟨by kernel_rfl⟩
instance zc_99:ZcI Tryz.prog 99 [.nilFunc]:=⟨by kernel_rfl⟩
instance ty_100:TyI Tryz.prog 100 false 1:=⟨by kernel_rfl⟩
instance zc_100:ZcI Tryz.prog 100 [.nilFunc]:=⟨by kernel_rfl⟩
instance ty_101:TyI Tryz.prog 101 false 1:=⟨by kernel_rfl⟩
instance zc_101:ZcI Tryz.prog 101 [.nilFunc]:=⟨by kernel_rfl⟩
instance ty_102:TyI Tryz.prog 102 true 11:=⟨by kernel_rfl⟩
instance zc_102:ZcI Tryz.prog 102 [.slice none 0 0,.slice none 0 0,.int .u64 0,.int .u64 0,.int .u64 0,.int .u64 0,.int .u64 0,.int .u64 0,.int .u64 0,.int .u64 0,.bool false]:=⟨by kernel_rfl⟩
instance st_102:StI Tryz.prog 102 [.slice none 0 0,.slice none 0 0,.int .u64 0,.int .u64 0,.int .u64 0,.int .u64 0,.int .u64 0,.int .u64 0,.int .u64 0,.int .u64 0,.bool false] [(0,1),(1,1),(2,4),(6,4),(10,1)]:=⟨by kernel_rfl⟩
instance fd_102_0:FdI Tryz.prog 102 0 0:=⟨by kernel_rfl⟩
instance fd_102_1:FdI Tryz.prog 102 1 1:=⟨by kernel_rfl⟩
instance fd_102_2:FdI Tryz.prog 102 2 2:=⟨by kernel_rfl⟩
instance fd_102_3:FdI Tryz.prog 102 3 6:=⟨by kernel_rfl⟩
instance fd_102_4:FdI Tryz.prog 102 4 10:=⟨by kernel_rfl⟩
instance ty_103:TyI Tryz.prog 103 true 11:=⟨by kernel_rfl⟩
instance zc_103:ZcI Tryz.prog 103 [.slice none 0 0,.slice none 0 0,.int .u64 0,.int .u64 0,.int .u64 0,.int .u64 0,.int .u64 0,.int .u64 0,.int .u64 0,.int .u64 0,.bool false]:=⟨by kernel_rfl⟩
instance st_103:StI Tryz.prog 103 [.slice none 0 0,.slice none 0 0,.int .u64 0,.int .u64 0,.int .u64 0,.int .u64 0,.int .u64 0,.int .u64 0,.int .u64 0,.int .u64 0,.bool false] [(0,1),(1,1),(2,4),(6,4),(10,1)]:=⟨by kernel_rfl⟩
instance fd_103_0:FdI Tryz.prog 103 0 0:=⟨by kernel_rfl⟩
instance fd_103_1:FdI Tryz.prog 103 1 1:=⟨by kernel_rfl⟩
instance fd_103_2:FdI Tryz.prog 103 2 2:=⟨by kernel_rfl⟩
instance fd_103_3:FdI Tryz.prog 103 3 6:=⟨by kernel_rfl⟩
instance fd_103_4:FdI Tryz.prog 103 4 10:=⟨by kernel_rfl⟩
instance ty_104:TyI Tryz.prog 104 true 5:=⟨by kernel_rfl⟩
instance zc_104:ZcI Tryz.prog 104 [.int .i64 0,.int .i64 0,.int .i64 0,.string ByteArray.empty,.slice none 0 0]:=⟨by kernel_rfl⟩
instance st_104:StI Tryz.prog 104 [.int .i64 0,.int .i64 0,.int .i64 0,.string ByteArray.empty,.slice none 0 0] [(0,1),(1,1),(2,1),(3,1),(4,1)]:=⟨by kernel_rfl⟩
instance fd_104_0:FdI Tryz.prog 104 0 0:=⟨by kernel_rfl⟩
instance fd_104_1:FdI Tryz.prog 104 1 1:=⟨by kernel_rfl⟩
instance fd_104_2:FdI Tryz.prog 104 2 2:=⟨by kernel_rfl⟩
instance fd_104_3:FdI Tryz.prog 104 3 3:=⟨by kernel_rfl⟩
instance fd_104_4:FdI Tryz.prog 104 4 4:=⟨by kernel_rfl⟩
instance ty_105:TyI Tryz.prog 105 true 5:=⟨by kernel_rfl⟩
instance zc_105:ZcI Tryz.prog 105 [.int .i64 0,.int .i64 0,.int .i64 0,.string ByteArray.empty,.slice none 0 0]:=⟨by kernel_rfl⟩
instance st_105:StI Tryz.prog 105 [.int .i64 0,.int .i64 0,.int .i64 0,.string ByteArray.empty,.slice none 0 0] [(0,1),(1,1),(2,1),(3,1),(4,1)]:=⟨by kernel_rfl⟩
instance fd_105_0:FdI Tryz.prog 105 0 0:=⟨by kernel_rfl⟩
instance fd_105_1:FdI Tryz.prog 105 1 1:=⟨by kernel_rfl⟩
instance fd_105_2:FdI Tryz.prog 105 2 2:=⟨by kernel_rfl⟩
instance fd_105_3:FdI Tryz.prog 105 3 3:=⟨by kernel_rfl⟩
instance fd_105_4:FdI Tryz.prog 105 4 4:=⟨by kernel_rfl⟩
instance ty_106:TyI Tryz.prog 106 true 32:=⟨by kernel_rfl⟩
instance zc_106:ZcI Tryz.prog 106 [.slice none 0 0,.slice none 0 0,.slice none 0 0,.slice none 0 0,.slice none 0 0,.slice none 0 0,.slice none 0 0,.slice none 0 0,.slice none 0 0,.slice none 0 0,.slice none 0 0,.slice none 0 0,.slice none 0 0,.slice none 0 0,.slice none 0 0,.slice none 0 0,.slice none 0 0,.slice none 0 0,.slice none 0 0,.slice none 0 0,.slice none 0 0,.slice none 0 0,.slice none 0 0,.slice none 0 0,.slice none 0 0,.slice none 0 0,.slice none 0 0,.slice none 0 0,.slice none 0 0,.slice none 0 0,.slice none 0 0,.slice none 0 0]:=⟨by kernel_rfl⟩
instance al_106:AlI Tryz.prog 106 32 1:=⟨by kernel_rfl⟩
instance ar_106:ArI Tryz.prog 106 [.slice none 0 0,.slice none 0 0,.slice none 0 0,.slice none 0 0,.slice none 0 0,.slice none 0 0,.slice none 0 0,.slice none 0 0,.slice none 0 0,.slice none 0 0,.slice none 0 0,.slice none 0 0,.slice none 0 0,.slice none 0 0,.slice none 0 0,.slice none 0 0,.slice none 0 0,.slice none 0 0,.slice none 0 0,.slice none 0 0,.slice none 0 0,.slice none 0 0,.slice none 0 0,.slice none 0 0,.slice none 0 0,.slice none 0 0,.slice none 0 0,.slice none 0 0,.slice none 0 0,.slice none 0 0,.slice none 0 0,.slice none 0 0] 1:=⟨by kernel_rfl⟩
instance ty_107:TyI Tryz.prog 107 false 1:=⟨by kernel_rfl⟩
instance zc_107:ZcI Tryz.prog 107 [.nilFunc]:=⟨by kernel_rfl⟩
instance ty_108:TyI Tryz.prog 108 false 1:=⟨by kernel_rfl⟩
instance zc_108:ZcI Tryz.prog 108 [.nilFunc]:=⟨by kernel_rfl⟩
instance ty_109:TyI Tryz.prog 109 false 1:=⟨by kernel_rfl⟩
instance zc_109:ZcI Tryz.prog 109 [.nilFunc]:=⟨by kernel_rfl⟩
instance ty_110:TyI Tryz.prog 110 false 1:=⟨by kernel_rfl⟩
instance zc_110:ZcI Tryz.prog 110 [.nilFunc]:=⟨by kernel_rfl⟩
instance ty_111:TyI Tryz.prog 111 false 1:=⟨by kernel_rfl⟩
instance ei_111:EiI Tryz.prog 111 120 5 48:=⟨by kernel_rfl⟩
instance el_111:ElI Tryz.prog 111 120 5:=⟨by kernel_rfl⟩
instance zc_111:ZcI Tryz.prog 111 [.slice none 0 0]:=⟨by kernel_rfl⟩
instance ty_112:TyI Tryz.prog 112 false 1:=⟨by kernel_rfl⟩
instance ty_113:TyI Tryz.prog 113 false 1:=⟨by kernel_rfl⟩
instance zc_113:ZcI Tryz.prog 113 [.nilFunc]:=⟨by kernel_rfl⟩
instance ty_114:TyI Tryz.prog 114 false 1:=⟨by kernel_rfl⟩
instance zc_114:ZcI Tryz.prog 114 [.pointer none]:=⟨by kernel_rfl⟩
instance ty_115:TyI Tryz.prog 115 true 2:=⟨by kernel_rfl⟩
instance zc_115:ZcI Tryz.prog 115 [.slice none 0 0,.int .i64 0]:=⟨by kernel_rfl⟩
instance st_115:StI Tryz.prog 115 [.slice none 0 0,.int .i64 0] [(0,1),(1,1)]:=⟨by kernel_rfl⟩
instance fd_115_0:FdI Tryz.prog 115 0 0:=⟨by kernel_rfl⟩
instance fd_115_1:FdI Tryz.prog 115 1 1:=⟨by kernel_rfl⟩
instance ty_116:TyI Tryz.prog 116 true 2:=⟨by kernel_rfl⟩
instance zc_116:ZcI Tryz.prog 116 [.slice none 0 0,.int .i64 0]:=⟨by kernel_rfl⟩
instance st_116:StI Tryz.prog 116 [.slice none 0 0,.int .i64 0] [(0,1),(1,1)]:=⟨by kernel_rfl⟩
instance fd_116_0:FdI Tryz.prog 116 0 0:=⟨by kernel_rfl⟩
instance fd_116_1:FdI Tryz.prog 116 1 1:=⟨by kernel_rfl⟩
instance ty_117:TyI Tryz.prog 117 true 4:=⟨by kernel_rfl⟩
instance zc_117:ZcI Tryz.prog 117 [.slice none 0 0,.int .i64 0,.slice none 0 0,.bool false]:=⟨by kernel_rfl⟩
instance st_117:StI Tryz.prog 117 [.slice none 0 0,.int .i64 0,.slice none 0 0,.bool false] [(0,2),(2,1),(3,1)]:=⟨by kernel_rfl⟩
instance fd_117_0:FdI Tryz.prog 117 0 0:=⟨by kernel_rfl⟩
instance fd_117_1:FdI Tryz.prog 117 1 2:=⟨by kernel_rfl⟩
instance fd_117_2:FdI Tryz.prog 117 2 3:=⟨by kernel_rfl⟩
instance ty_118:TyI Tryz.prog 118 true 4:=⟨by kernel_rfl⟩
instance zc_118:ZcI Tryz.prog 118 [.slice none 0 0,.int .i64 0,.slice none 0 0,.bool false]:=⟨by kernel_rfl⟩
instance st_118:StI Tryz.prog 118 [.slice none 0 0,.int .i64 0,.slice none 0 0,.bool false] [(0,2),(2,1),(3,1)]:=⟨by kernel_rfl⟩
instance fd_118_0:FdI Tryz.prog 118 0 0:=⟨by kernel_rfl⟩
instance fd_118_1:FdI Tryz.prog 118 1 2:=⟨by kernel_rfl⟩
instance fd_118_2:FdI Tryz.prog 118 2 3:=⟨by kernel_rfl⟩
instance ty_119:TyI Tryz.prog 119 true 5:=⟨by kernel_rfl⟩
instance zc_119:ZcI Tryz.prog 119 [.int .i64 0,.int .i64 0,.int .i64 0,.int .i64 0,.string ByteArray.empty]:=⟨by kernel_rfl⟩
instance st_119:StI Tryz.prog 119 [.int .i64 0,.int .i64 0,.int .i64 0,.int .i64 0,.string ByteArray.empty] [(0,1),(1,1),(2,1),(3,1),(4,1)]:=⟨by kernel_rfl⟩
instance fd_119_0:FdI Tryz.prog 119 0 0:=⟨by kernel_rfl⟩
instance fd_119_1:FdI Tryz.prog 119 1 1:=⟨by kernel_rfl⟩
instance fd_119_2:FdI Tryz.prog 119 2 2:=⟨by kernel_rfl⟩
instance fd_119_3:FdI Tryz.prog 119 3 3:=⟨by kernel_rfl⟩
instance fd_119_4:FdI Tryz.prog 119 4 4:=⟨by kernel_rfl⟩
instance ty_120:TyI Tryz.prog 120 true 5:=⟨by kernel_rfl⟩
instance zc_120:ZcI Tryz.prog 120 [.int .i64 0,.int .i64 0,.int .i64 0,.int .i64 0,.string ByteArray.empty]:=⟨by kernel_rfl⟩
instance st_120:StI Tryz.prog 120 [.int .i64 0,.int .i64 0,.int .i64 0,.int .i64 0,.string ByteArray.empty] [(0,1),(1,1),(2,1),(3,1),(4,1)]:=⟨by kernel_rfl⟩
instance fd_120_0:FdI Tryz.prog 120 0 0:=⟨by kernel_rfl⟩
instance fd_120_1:FdI Tryz.prog 120 1 1:=⟨by kernel_rfl⟩
instance fd_120_2:FdI Tryz.prog 120 2 2:=⟨by kernel_rfl⟩
instance fd_120_3:FdI Tryz.prog 120 3 3:=⟨by kernel_rfl⟩
instance fd_120_4:FdI Tryz.prog 120 4 4:=⟨by kernel_rfl⟩
instance ty_121:TyI Tryz.prog 121 false 1:=⟨by kernel_rfl⟩
instance zc_121:ZcI Tryz.prog 121 [.nilFunc]:=⟨by kernel_rfl⟩
instance ty_122:TyI Tryz.prog 122 false 1:=⟨by kernel_rfl⟩
instance zc_122:ZcI Tryz.prog 122 [.nilFunc]:=⟨by kernel_rfl⟩
instance ty_123:TyI Tryz.prog 123 false 1:=⟨by kernel_rfl⟩
instance ei_123:EiI Tryz.prog 123 9 1 16:=⟨by kernel_rfl⟩
instance el_123:ElI Tryz.prog 123 9 1:=⟨by kernel_rfl⟩
instance zc_123:ZcI Tryz.prog 123 [.slice none 0 0]:=⟨by kernel_rfl⟩
instance ty_124:TyI Tryz.prog 124 false 1:=⟨by kernel_rfl⟩
instance zc_124:ZcI Tryz.prog 124 [.nilFunc]:=⟨by kernel_rfl⟩
instance ty_125:TyI Tryz.prog 125 false 1:=⟨by kernel_rfl⟩
instance zc_125:ZcI Tryz.prog 125 [.nilFunc]:=⟨by kernel_rfl⟩
instance ty_126:TyI Tryz.prog 126 false 1:=⟨by kernel_rfl⟩
instance zc_126:ZcI Tryz.prog 126 [.nilFunc]:=⟨by kernel_rfl⟩
instance ty_127:TyI Tryz.prog 127 true 9:=⟨by kernel_rfl⟩
instance zc_127:ZcI Tryz.prog 127 [.int .u64 0,.int .u64 0,.int .u64 0,.int .u64 0,.int .u64 0,.int .u64 0,.int .u64 0,.int .u64 0,.bool false]:=⟨by kernel_rfl⟩
instance st_127:StI Tryz.prog 127 [.int .u64 0,.int .u64 0,.int .u64 0,.int .u64 0,.int .u64 0,.int .u64 0,.int .u64 0,.int .u64 0,.bool false] [(0,4),(4,4),(8,1)]:=⟨by kernel_rfl⟩
instance fd_127_0:FdI Tryz.prog 127 0 0:=⟨by kernel_rfl⟩
instance fd_127_1:FdI Tryz.prog 127 1 4:=⟨by kernel_rfl⟩
instance fd_127_2:FdI Tryz.prog 127 2 8:=⟨by kernel_rfl⟩
instance ty_128:TyI Tryz.prog 128 true 9:=⟨by kernel_rfl⟩
instance zc_128:ZcI Tryz.prog 128 [.int .u64 0,.int .u64 0,.int .u64 0,.int .u64 0,.int .u64 0,.int .u64 0,.int .u64 0,.int .u64 0,.bool false]:=⟨by kernel_rfl⟩
instance st_128:StI Tryz.prog 128 [.int .u64 0,.int .u64 0,.int .u64 0,.int .u64 0,.int .u64 0,.int .u64 0,.int .u64 0,.int .u64 0,.bool false] [(0,4),(4,4),(8,1)]:=⟨by kernel_rfl⟩
instance fd_128_0:FdI Tryz.prog 128 0 0:=⟨by kernel_rfl⟩
instance fd_128_1:FdI Tryz.prog 128 1 4:=⟨by kernel_rfl⟩
instance fd_128_2:FdI Tryz.prog 128 2 8:=⟨by kernel_rfl⟩
instance ty_129:TyI Tryz.prog 129 false 1:=⟨by kernel_rfl⟩
instance zc_129:ZcI Tryz.prog 129 [.nilFunc]:=⟨by kernel_rfl⟩
instance ty_130:TyI Tryz.prog 130 true 128:=⟨by kernel_rfl⟩
instance zc_130:ZcI Tryz.prog 130 [.int .u64 0,.int .u64 0,.int .u64 0,.int .u64 0,.int .u64 0,.int .u64 0,.int .u64 0,.int .u64 0,.int .u64 0,.int .u64 0,.int .u64 0,.int .u64 0,.int .u64 0,.int .u64 0,.int .u64 0,.int .u64 0,.int .u64 0,.int .u64 0,.int .u64 0,.int .u64 0,.int .u64 0,.int .u64 0,.int .u64 0,.int .u64 0,.int .u64 0,.int .u64 0,.int .u64 0,.int .u64 0,.int .u64 0,.int .u64 0,.int .u64 0,.int .u64 0,.int .u64 0,.int .u64 0,.int .u64 0,.int .u64 0,.int .u64 0,.int .u64 0,.int .u64 0,.int .u64 0,.int .u64 0,.int .u64 0,.int .u64 0,.int .u64 0,.int .u64 0,.int .u64 0,.int .u64 0,.int .u64 0,.int .u64 0,.int .u64 0,.int .u64 0,.int .u64 0,.int .u64 0,.int .u64 0,.int .u64 0,.int .u64 0,.int .u64 0,.int .u64 0,.int .u64 0,.int .u64 0,.int .u64 0,.int .u64 0,.int .u64 0,.int .u64 0,.int .u64 0,.int .u64 0,.int .u64 0,.int .u64 0,.int .u64 0,.int .u64 0,.int .u64 0,.int .u64 0,.int .u64 0,.int .u64 0,.int .u64 0,.int .u64 0,.int .u64 0,.int .u64 0,.int .u64 0,.int .u64 0,.int .u64 0,.int .u64 0,.int .u64 0,.int .u64 0,.int .u64 0,.int .u64 0,.int .u64 0,.int .u64 0,.int .u64 0,.int .u64 0,.int .u64 0,.int .u64 0,.int .u64 0,.int .u64 0,.int .u64 0,.int .u64 0,.int .u64 0,.int .u64 0,.int .u64 0,.int .u64 0,.int .u64 0,.int .u64 0,.int .u64 0,.int .u64 0,.int .u64 0,.int .u64 0,.int .u64 0,.int .u64 0,.int .u64 0,.int .u64 0,.int .u64 0,.int .u64 0,.int .u64 0,.int .u64 0,.int .u64 0,.int .u64 0,.int .u64 0,.int .u64 0,.int .u64 0,.int .u64 0,.int .u64 0,.int .u64 0,.int .u64 0,.int .u64 0,.int .u64 0,.int .u64 0,.int .u64 0,.int .u64 0]:=⟨by kernel_rfl⟩
instance al_130:AlI Tryz.prog 130 32 4:=⟨by kernel_rfl⟩
instance ar_130:ArI Tryz.prog 130 [.int .u64 0,.int .u64 0,.int .u64 0,.int .u64 0,.int .u64 0,.int .u64 0,.int .u64 0,.int .u64 0,.int .u64 0,.int .u64 0,.int .u64 0,.int .u64 0,.int .u64 0,.int .u64 0,.int .u64 0,.int .u64 0,.int .u64 0,.int .u64 0,.int .u64 0,.int .u64 0,.int .u64 0,.int .u64 0,.int .u64 0,.int .u64 0,.int .u64 0,.int .u64 0,.int .u64 0,.int .u64 0,.int .u64 0,.int .u64 0,.int .u64 0,.int .u64 0,.int .u64 0,.int .u64 0,.int .u64 0,.int .u64 0,.int .u64 0,.int .u64 0,.int .u64 0,.int .u64 0,.int .u64 0,.int .u64 0,.int .u64 0,.int .u64 0,.int .u64 0,.int .u64 0,.int .u64 0,.int .u64 0,.int .u64 0,.int .u64 0,.int .u64 0,.int .u64 0,.int .u64 0,.int .u64 0,.int .u64 0,.int .u64 0,.int .u64 0,.int .u64 0,.int .u64 0,.int .u64 0,.int .u64 0,.int .u64 0,.int .u64 0,.int .u64 0,.int .u64 0,.int .u64 0,.int .u64 0,.int .u64 0,.int .u64 0,.int .u64 0,.int .u64 0,.int .u64 0,.int .u64 0,.int .u64 0,.int .u64 0,.int .u64 0,.int .u64 0,.int .u64 0,.int .u64 0,.int .u64 0,.int .u64 0,.int .u64 0,.int .u64 0,.int .u64 0,.int .u64 0,.int .u64 0,.int .u64 0,.int .u64 0,.int .u64 0,.int .u64 0,.int .u64 0,.int .u64 0,.int .u64 0,.int .u64 0,.int .u64 0,.int .u64 0,.int .u64 0,.int .u64 0,.int .u64 0,.int .u64 0,.int .u64 0,.int .u64 0,.int .u64 0,.int .u64 0,.int .u64 0,.int .u64 0,.int .u64 0,.int .u64 0,.int .u64 0,.int .u64 0,.int .u64 0,.int .u64 0,.int .u64 0,.int .u64 0,.int .u64 0,.int .u64 0,.int .u64 0,.int .u64 0,.int .u64 0,.int .u64 0,.int .u64 0,.int .u64 0,.int .u64 0,.int .u64 0,.int .u64 0,.int .u64 0,.int .u64 0,.int .u64 0] 4:=⟨by kernel_rfl⟩
instance ty_131:TyI Tryz.prog 131 false 1:=⟨by kernel_rfl⟩
instance zc_131:ZcI Tryz.prog 131 [.nilFunc]:=⟨by kernel_rfl⟩
instance ty_132:TyI Tryz.prog 132 false 1:=⟨by kernel_rfl⟩
instance zc_132:ZcI Tryz.prog 132 [.nilFunc]:=⟨by kernel_rfl⟩
instance ty_133:TyI Tryz.prog 133 false 1:=⟨by kernel_rfl⟩
instance zc_133:ZcI Tryz.prog 133 [.nilFunc]:=⟨by kernel_rfl⟩
instance ty_134:TyI Tryz.prog 134 false 1:=⟨by kernel_rfl⟩
instance zc_134:ZcI Tryz.prog 134 [.nilFunc]:=⟨by kernel_rfl⟩
instance ty_135:TyI Tryz.prog 135 false 1:=⟨by kernel_rfl⟩
instance zc_135:ZcI Tryz.prog 135 [.nilFunc]:=⟨by kernel_rfl⟩
instance ty_136:TyI Tryz.prog 136 false 1:=⟨by kernel_rfl⟩
instance ik_136:IkI Tryz.prog 136 .u64:=⟨by kernel_rfl⟩
instance zc_136:ZcI Tryz.prog 136 [.int .u64 0]:=⟨by kernel_rfl⟩
instance ty_137:TyI Tryz.prog 137 false 1:=⟨by kernel_rfl⟩
instance zc_137:ZcI Tryz.prog 137 [.nilFunc]:=⟨by kernel_rfl⟩
instance ty_138:TyI Tryz.prog 138 false 1:=⟨by kernel_rfl⟩
instance ei_138:EiI Tryz.prog 138 142 5 48:=⟨by kernel_rfl⟩
instance el_138:ElI Tryz.prog 138 142 5:=⟨by kernel_rfl⟩
instance zc_138:ZcI Tryz.prog 138 [.slice none 0 0]:=⟨by kernel_rfl⟩
instance ty_139:TyI Tryz.prog 139 false 1:=⟨by kernel_rfl⟩
instance ty_140:TyI Tryz.prog 140 false 1:=⟨by kernel_rfl⟩
instance zc_140:ZcI Tryz.prog 140 [.nilFunc]:=⟨by kernel_rfl⟩
instance ty_141:TyI Tryz.prog 141 false 1:=⟨by kernel_rfl⟩
instance zc_141:ZcI Tryz.prog 141 [.nilFunc]:=⟨by kernel_rfl⟩
instance ty_142:TyI Tryz.prog 142 true 5:=⟨by kernel_rfl⟩
instance zc_142:ZcI Tryz.prog 142 [.int .i64 0,.int .i64 0,.int .i64 0,.int .i64 0,.string ByteArray.empty]:=⟨by kernel_rfl⟩
instance st_142:StI Tryz.prog 142 [.int .i64 0,.int .i64 0,.int .i64 0,.int .i64 0,.string ByteArray.empty] [(0,1),(1,1),(2,1),(3,1),(4,1)]:=⟨by kernel_rfl⟩
instance fd_142_0:FdI Tryz.prog 142 0 0:=⟨by kernel_rfl⟩
instance fd_142_1:FdI Tryz.prog 142 1 1:=⟨by kernel_rfl⟩
instance fd_142_2:FdI Tryz.prog 142 2 2:=⟨by kernel_rfl⟩
instance fd_142_3:FdI Tryz.prog 142 3 3:=⟨by kernel_rfl⟩
instance fd_142_4:FdI Tryz.prog 142 4 4:=⟨by kernel_rfl⟩
instance ty_143:TyI Tryz.prog 143 false 1:=⟨by kernel_rfl⟩
instance zc_143:ZcI Tryz.prog 143 [.nilFunc]:=⟨by kernel_rfl⟩
instance ty_144:TyI Tryz.prog 144 true 2:=⟨by kernel_rfl⟩
instance zc_144:ZcI Tryz.prog 144 [.string ByteArray.empty,.slice none 0 0]:=⟨by kernel_rfl⟩
instance st_144:StI Tryz.prog 144 [.string ByteArray.empty,.slice none 0 0] [(0,1),(1,1)]:=⟨by kernel_rfl⟩
instance fd_144_0:FdI Tryz.prog 144 0 0:=⟨by kernel_rfl⟩
instance fd_144_1:FdI Tryz.prog 144 1 1:=⟨by kernel_rfl⟩
instance ty_145:TyI Tryz.prog 145 true 2:=⟨by kernel_rfl⟩
instance zc_145:ZcI Tryz.prog 145 [.string ByteArray.empty,.slice none 0 0]:=⟨by kernel_rfl⟩
instance st_145:StI Tryz.prog 145 [.string ByteArray.empty,.slice none 0 0] [(0,1),(1,1)]:=⟨by kernel_rfl⟩
instance fd_145_0:FdI Tryz.prog 145 0 0:=⟨by kernel_rfl⟩
instance fd_145_1:FdI Tryz.prog 145 1 1:=⟨by kernel_rfl⟩
instance ty_146:TyI Tryz.prog 146 false 1:=⟨by kernel_rfl⟩
instance zc_146:ZcI Tryz.prog 146 [.nilFunc]:=⟨by kernel_rfl⟩
instance ty_147:TyI Tryz.prog 147 false 1:=⟨by kernel_rfl⟩
instance zc_147:ZcI Tryz.prog 147 [.pointer none]:=⟨by kernel_rfl⟩
instance ty_148:TyI Tryz.prog 148 false 1:=⟨by kernel_rfl⟩
instance zc_148:ZcI Tryz.prog 148 [.nilFunc]:=⟨by kernel_rfl⟩
instance ty_149:TyI Tryz.prog 149 false 1:=⟨by kernel_rfl⟩
instance zc_149:ZcI Tryz.prog 149 [.pointer none]:=⟨by kernel_rfl⟩
instance ty_150:TyI Tryz.prog 150 false 1:=⟨by kernel_rfl⟩
instance zc_150:ZcI Tryz.prog 150 [.nilFunc]:=⟨by kernel_rfl⟩
instance ty_151:TyI Tryz.prog 151 false 1:=⟨by kernel_rfl⟩
instance zc_151:ZcI Tryz.prog 151 [.nilFunc]:=⟨by kernel_rfl⟩
instance ty_152:TyI Tryz.prog 152 false 1:=⟨by kernel_rfl⟩
instance ei_152:EiI Tryz.prog 152 65 5 104:=⟨by kernel_rfl⟩
instance el_152:ElI Tryz.prog 152 65 5:=⟨by kernel_rfl⟩
instance zc_152:ZcI Tryz.prog 152 [.slice none 0 0]:=⟨by kernel_rfl⟩
instance ty_153:TyI Tryz.prog 153 true 2:=⟨by kernel_rfl⟩
instance zc_153:ZcI Tryz.prog 153 [.int .i64 0,.int .i64 0]:=⟨by kernel_rfl⟩
instance st_153:StI Tryz.prog 153 [.int .i64 0,.int .i64 0] [(0,1),(1,1)]:=⟨by kernel_rfl⟩
instance fd_153_0:FdI Tryz.prog 153 0 0:=⟨by kernel_rfl⟩
instance fd_153_1:FdI Tryz.prog 153 1 1:=⟨by kernel_rfl⟩
instance ty_154:TyI Tryz.prog 154 true 2:=⟨by kernel_rfl⟩
instance zc_154:ZcI Tryz.prog 154 [.int .i64 0,.int .i64 0]:=⟨by kernel_rfl⟩
instance st_154:StI Tryz.prog 154 [.int .i64 0,.int .i64 0] [(0,1),(1,1)]:=⟨by kernel_rfl⟩
instance fd_154_0:FdI Tryz.prog 154 0 0:=⟨by kernel_rfl⟩
instance fd_154_1:FdI Tryz.prog 154 1 1:=⟨by kernel_rfl⟩
instance ty_155:TyI Tryz.prog 155 false 1:=⟨by kernel_rfl⟩
instance ty_156:TyI Tryz.prog 156 false 1:=⟨by kernel_rfl⟩
instance zc_156:ZcI Tryz.prog 156 [.pointer none]:=⟨by kernel_rfl⟩
instance ty_157:TyI Tryz.prog 157 true 2:=⟨by kernel_rfl⟩
instance zc_157:ZcI Tryz.prog 157 [.string ByteArray.empty,.int .i64 0]:=⟨by kernel_rfl⟩
instance st_157:StI Tryz.prog 157 [.string ByteArray.empty,.int .i64 0] [(0,1),(1,1)]:=⟨by kernel_rfl⟩
instance fd_157_0:FdI Tryz.prog 157 0 0:=⟨by kernel_rfl⟩
instance fd_157_1:FdI Tryz.prog 157 1 1:=⟨by kernel_rfl⟩
instance ty_158:TyI Tryz.prog 158 true 2:=⟨by kernel_rfl⟩
instance zc_158:ZcI Tryz.prog 158 [.string ByteArray.empty,.int .i64 0]:=⟨by kernel_rfl⟩
instance st_158:StI Tryz.prog 158 [.string ByteArray.empty,.int .i64 0] [(0,1),(1,1)]:=⟨by kernel_rfl⟩
instance fd_158_0:FdI Tryz.prog 158 0 0:=⟨by kernel_rfl⟩
instance fd_158_1:FdI Tryz.prog 158 1 1:=⟨by kernel_rfl⟩
instance ty_159:TyI Tryz.prog 159 false 1:=⟨by kernel_rfl⟩
instance zc_159:ZcI Tryz.prog 159 [.nilFunc]:=⟨by kernel_rfl⟩
instance ty_160:TyI Tryz.prog 160 false 1:=⟨by kernel_rfl⟩
instance zc_160:ZcI Tryz.prog 160 [.nilFunc]:=⟨by kernel_rfl⟩
instance ty_161:TyI Tryz.prog 161 false 1:=⟨by kernel_rfl⟩
instance zc_161:ZcI Tryz.prog 161 [.nilFunc]:=⟨by kernel_rfl⟩
instance ty_162:TyI Tryz.prog 162 false 1:=⟨by kernel_rfl⟩
instance zc_162:ZcI Tryz.prog 162 [.nilFunc]:=⟨by kernel_rfl⟩
instance ty_163:TyI Tryz.prog 163 false 1:=⟨by kernel_rfl⟩
instance zc_163:ZcI Tryz.prog 163 [.nilFunc]:=⟨by kernel_rfl⟩
instance ty_164:TyI Tryz.prog 164 true 5:=⟨by kernel_rfl⟩
instance zc_164:ZcI Tryz.prog 164 [.int .i64 0,.int .i64 0,.int .i64 0,.string ByteArray.empty,.slice none 0 0]:=⟨by kernel_rfl⟩
instance st_164:StI Tryz.prog 164 [.int .i64 0,.int .i64 0,.int .i64 0,.string ByteArray.empty,.slice none 0 0] [(0,1),(1,1),(2,1),(3,1),(4,1)]:=⟨by kernel_rfl⟩
instance fd_164_0:FdI Tryz.prog 164 0 0:=⟨by kernel_rfl⟩
instance fd_164_1:FdI Tryz.prog 164 1 1:=⟨by kernel_rfl⟩
instance fd_164_2:FdI Tryz.prog 164 2 2:=⟨by kernel_rfl⟩
instance fd_164_3:FdI Tryz.prog 164 3 3:=⟨by kernel_rfl⟩
instance fd_164_4:FdI Tryz.prog 164 4 4:=⟨by kernel_rfl⟩
instance ty_165:TyI Tryz.prog 165 false 1:=⟨by kernel_rfl⟩
instance zc_165:ZcI Tryz.prog 165 [.nilFunc]:=⟨by kernel_rfl⟩
instance ty_166:TyI Tryz.prog 166 false 1:=⟨by kernel_rfl⟩
instance zc_166:ZcI Tryz.prog 166 [.nilFunc]:=⟨by kernel_rfl⟩
instance ty_167:TyI Tryz.prog 167 false 1:=⟨by kernel_rfl⟩
instance zc_167:ZcI Tryz.prog 167 [.nilFunc]:=⟨by kernel_rfl⟩
instance ty_168:TyI Tryz.prog 168 false 1:=⟨by kernel_rfl⟩
instance zc_168:ZcI Tryz.prog 168 [.nilFunc]:=⟨by kernel_rfl⟩
instance ty_169:TyI Tryz.prog 169 false 1:=⟨by kernel_rfl⟩
instance zc_169:ZcI Tryz.prog 169 [.nilFunc]:=⟨by kernel_rfl⟩
instance ty_170:TyI Tryz.prog 170 false 1:=⟨by kernel_rfl⟩
instance zc_170:ZcI Tryz.prog 170 [.nilFunc]:=⟨by kernel_rfl⟩
instance ty_171:TyI Tryz.prog 171 true 64:=⟨by kernel_rfl⟩
instance zc_171:ZcI Tryz.prog 171 [.int .u8 0,.int .u8 0,.int .u8 0,.int .u8 0,.int .u8 0,.int .u8 0,.int .u8 0,.int .u8 0,.int .u8 0,.int .u8 0,.int .u8 0,.int .u8 0,.int .u8 0,.int .u8 0,.int .u8 0,.int .u8 0,.int .u8 0,.int .u8 0,.int .u8 0,.int .u8 0,.int .u8 0,.int .u8 0,.int .u8 0,.int .u8 0,.int .u8 0,.int .u8 0,.int .u8 0,.int .u8 0,.int .u8 0,.int .u8 0,.int .u8 0,.int .u8 0,.int .u8 0,.int .u8 0,.int .u8 0,.int .u8 0,.int .u8 0,.int .u8 0,.int .u8 0,.int .u8 0,.int .u8 0,.int .u8 0,.int .u8 0,.int .u8 0,.int .u8 0,.int .u8 0,.int .u8 0,.int .u8 0,.int .u8 0,.int .u8 0,.int .u8 0,.int .u8 0,.int .u8 0,.int .u8 0,.int .u8 0,.int .u8 0,.int .u8 0,.int .u8 0,.int .u8 0,.int .u8 0,.int .u8 0,.int .u8 0,.int .u8 0,.int .u8 0]:=⟨by kernel_rfl⟩
instance al_171:AlI Tryz.prog 171 64 1:=⟨by kernel_rfl⟩
instance ar_171:ArI Tryz.prog 171 [.int .u8 0,.int .u8 0,.int .u8 0,.int .u8 0,.int .u8 0,.int .u8 0,.int .u8 0,.int .u8 0,.int .u8 0,.int .u8 0,.int .u8 0,.int .u8 0,.int .u8 0,.int .u8 0,.int .u8 0,.int .u8 0,.int .u8 0,.int .u8 0,.int .u8 0,.int .u8 0,.int .u8 0,.int .u8 0,.int .u8 0,.int .u8 0,.int .u8 0,.int .u8 0,.int .u8 0,.int .u8 0,.int .u8 0,.int .u8 0,.int .u8 0,.int .u8 0,.int .u8 0,.int .u8 0,.int .u8 0,.int .u8 0,.int .u8 0,.int .u8 0,.int .u8 0,.int .u8 0,.int .u8 0,.int .u8 0,.int .u8 0,.int .u8 0,.int .u8 0,.int .u8 0,.int .u8 0,.int .u8 0,.int .u8 0,.int .u8 0,.int .u8 0,.int .u8 0,.int .u8 0,.int .u8 0,.int .u8 0,.int .u8 0,.int .u8 0,.int .u8 0,.int .u8 0,.int .u8 0,.int .u8 0,.int .u8 0,.int .u8 0,.int .u8 0] 1:=⟨by kernel_rfl⟩
instance ty_172:TyI Tryz.prog 172 false 1:=⟨by kernel_rfl⟩
instance ty_173:TyI Tryz.prog 173 false 1:=⟨by kernel_rfl⟩
instance zc_173:ZcI Tryz.prog 173 [.nilFunc]:=⟨by kernel_rfl⟩
instance ty_174:TyI Tryz.prog 174 false 1:=⟨by kernel_rfl⟩
instance zc_174:ZcI Tryz.prog 174 [.nilFunc]:=⟨by kernel_rfl⟩
instance ty_175:TyI Tryz.prog 175 false 1:=⟨by kernel_rfl⟩
instance zc_175:ZcI Tryz.prog 175 [.nilFunc]:=⟨by kernel_rfl⟩
instance ty_176:TyI Tryz.prog 176 false 1:=⟨by kernel_rfl⟩
instance zc_176:ZcI Tryz.prog 176 [.pointer none]:=⟨by kernel_rfl⟩
instance ty_177:TyI Tryz.prog 177 false 1:=⟨by kernel_rfl⟩
instance zc_177:ZcI Tryz.prog 177 [.nilFunc]:=⟨by kernel_rfl⟩
instance ty_178:TyI Tryz.prog 178 false 1:=⟨by kernel_rfl⟩
instance zc_178:ZcI Tryz.prog 178 [.nilFunc]:=⟨by kernel_rfl⟩
instance ty_179:TyI Tryz.prog 179 false 1:=⟨by kernel_rfl⟩
instance ei_179:EiI Tryz.prog 179 128 9 72:=⟨by kernel_rfl⟩
instance el_179:ElI Tryz.prog 179 128 9:=⟨by kernel_rfl⟩
instance zc_179:ZcI Tryz.prog 179 [.slice none 0 0]:=⟨by kernel_rfl⟩
instance ty_180:TyI Tryz.prog 180 false 1:=⟨by kernel_rfl⟩
instance zc_180:ZcI Tryz.prog 180 [.nilFunc]:=⟨by kernel_rfl⟩
instance ty_181:TyI Tryz.prog 181 false 1:=⟨by kernel_rfl⟩
instance zc_181:ZcI Tryz.prog 181 [.nilFunc]:=⟨by kernel_rfl⟩
instance ty_182:TyI Tryz.prog 182 false 1:=⟨by kernel_rfl⟩
instance zc_182:ZcI Tryz.prog 182 [.nilFunc]:=⟨by kernel_rfl⟩
instance ty_183:TyI Tryz.prog 183 false 1:=⟨by kernel_rfl⟩
instance zc_183:ZcI Tryz.prog 183 [.nilFunc]:=⟨by kernel_rfl⟩
instance ty_184:TyI Tryz.prog 184 false 1:=⟨by kernel_rfl⟩
instance zc_184:ZcI Tryz.prog 184 [.nilFunc]:=⟨by kernel_rfl⟩
instance ty_185:TyI Tryz.prog 185 false 1:=⟨by kernel_rfl⟩
instance zc_185:ZcI Tryz.prog 185 [.nilFunc]:=⟨by kernel_rfl⟩
instance ty_186:TyI Tryz.prog 186 false 1:=⟨by kernel_rfl⟩
instance zc_186:ZcI Tryz.prog 186 [.nilFunc]:=⟨by kernel_rfl⟩
instance ty_187:TyI Tryz.prog 187 false 1:=⟨by kernel_rfl⟩
instance ty_188:TyI Tryz.prog 188 false 1:=⟨by kernel_rfl⟩
instance zc_188:ZcI Tryz.prog 188 [.nilFunc]:=⟨by kernel_rfl⟩
instance ty_189:TyI Tryz.prog 189 false 1:=⟨by kernel_rfl⟩
instance ty_190:TyI Tryz.prog 190 false 1:=⟨by kernel_rfl⟩
instance zc_190:ZcI Tryz.prog 190 [.nilFunc]:=⟨by kernel_rfl⟩
instance ty_191:TyI Tryz.prog 191 false 1:=⟨by kernel_rfl⟩
instance zc_191:ZcI Tryz.prog 191 [.nilIface]:=⟨by kernel_rfl⟩
instance ty_192:TyI Tryz.prog 192 false 1:=⟨by kernel_rfl⟩
instance zc_192:ZcI Tryz.prog 192 [.nilIface]:=⟨by kernel_rfl⟩
instance ty_193:TyI Tryz.prog 193 false 1:=⟨by kernel_rfl⟩
instance ty_194:TyI Tryz.prog 194 false 1:=⟨by kernel_rfl⟩
instance zc_194:ZcI Tryz.prog 194 [.nilFunc]:=⟨by kernel_rfl⟩
instance ty_195:TyI Tryz.prog 195 false 1:=⟨by kernel_rfl⟩
instance zc_195:ZcI Tryz.prog 195 [.nilFunc]:=⟨by kernel_rfl⟩
instance ty_196:TyI Tryz.prog 196 false 1:=⟨by kernel_rfl⟩
instance ik_196:IkI Tryz.prog 196 .i64:=⟨by kernel_rfl⟩
instance zc_196:ZcI Tryz.prog 196 [.int .i64 0]:=⟨by kernel_rfl⟩
instance ty_197:TyI Tryz.prog 197 false 1:=⟨by kernel_rfl⟩
instance ei_197:EiI Tryz.prog 197 5 1 1:=⟨by kernel_rfl⟩
instance el_197:ElI Tryz.prog 197 5 1:=⟨by kernel_rfl⟩
instance zc_197:ZcI Tryz.prog 197 [.slice none 0 0]:=⟨by kernel_rfl⟩
instance ty_198:TyI Tryz.prog 198 false 1:=⟨by kernel_rfl⟩
instance ty_199:TyI Tryz.prog 199 false 1:=⟨by kernel_rfl⟩
instance zc_199:ZcI Tryz.prog 199 [.nilFunc]:=⟨by kernel_rfl⟩
instance ty_200:TyI Tryz.prog 200 false 1:=⟨by kernel_rfl⟩
instance zc_200:ZcI Tryz.prog 200 [.pointer none]:=⟨by kernel_rfl⟩
instance ty_201:TyI Tryz.prog 201 false 1:=⟨by kernel_rfl⟩
instance zc_201:ZcI Tryz.prog 201 [.nilFunc]:=⟨by kernel_rfl⟩
instance ty_202:TyI Tryz.prog 202 false 1:=⟨by kernel_rfl⟩
instance zc_202:ZcI Tryz.prog 202 [.nilFunc]:=⟨by kernel_rfl⟩
instance ty_203:TyI Tryz.prog 203 false 1:=⟨by kernel_rfl⟩
instance ty_204:TyI Tryz.prog 204 false 1:=⟨by kernel_rfl⟩
instance zc_204:ZcI Tryz.prog 204 [.nilFunc]:=⟨by kernel_rfl⟩
instance ty_205:TyI Tryz.prog 205 false 1:=⟨by kernel_rfl⟩
instance zc_205:ZcI Tryz.prog 205 [.nilFunc]:=⟨by kernel_rfl⟩
instance ty_206:TyI Tryz.prog 206 true 3:=⟨by kernel_rfl⟩
instance zc_206:ZcI Tryz.prog 206 [.string ByteArray.empty,.string ByteArray.empty,.nilIface]:=⟨by kernel_rfl⟩
instance st_206:StI Tryz.prog 206 [.string ByteArray.empty,.string ByteArray.empty,.nilIface] [(0,1),(1,1),(2,1)]:=⟨by kernel_rfl⟩
instance fd_206_0:FdI Tryz.prog 206 0 0:=⟨by kernel_rfl⟩
instance fd_206_1:FdI Tryz.prog 206 1 1:=⟨by kernel_rfl⟩
instance fd_206_2:FdI Tryz.prog 206 2 2:=⟨by kernel_rfl⟩
instance ty_207:TyI Tryz.prog 207 true 3:=⟨by kernel_rfl⟩
instance zc_207:ZcI Tryz.prog 207 [.string ByteArray.empty,.string ByteArray.empty,.nilIface]:=⟨by kernel_rfl⟩
instance st_207:StI Tryz.prog 207 [.string ByteArray.empty,.string ByteArray.empty,.nilIface] [(0,1),(1,1),(2,1)]:=⟨by kernel_rfl⟩
instance fd_207_0:FdI Tryz.prog 207 0 0:=⟨by kernel_rfl⟩
instance fd_207_1:FdI Tryz.prog 207 1 1:=⟨by kernel_rfl⟩
instance fd_207_2:FdI Tryz.prog 207 2 2:=⟨by kernel_rfl⟩
instance ty_208:TyI Tryz.prog 208 false 1:=⟨by kernel_rfl⟩
instance zc_208:ZcI Tryz.prog 208 [.nilFunc]:=⟨by kernel_rfl⟩
instance ty_209:TyI Tryz.prog 209 false 1:=⟨by kernel_rfl⟩
instance zc_209:ZcI Tryz.prog 209 [.nilFunc]:=⟨by kernel_rfl⟩
instance ty_210:TyI Tryz.prog 210 false 1:=⟨by kernel_rfl⟩
instance zc_210:ZcI Tryz.prog 210 [.nilFunc]:=⟨by kernel_rfl⟩
instance ty_211:TyI Tryz.prog 211 false 1:=⟨by kernel_rfl⟩
instance zc_211:ZcI Tryz.prog 211 [.pointer none]:=⟨by kernel_rfl⟩
instance ty_212:TyI Tryz.prog 212 false 1:=⟨by kernel_rfl⟩
instance zc_212:ZcI Tryz.prog 212 [.pointer none]:=⟨by kernel_rfl⟩
instance ty_213:TyI Tryz.prog 213 true 1:=⟨by kernel_rfl⟩
instance zc_213:ZcI Tryz.prog 213 [.string ByteArray.empty]:=⟨by kernel_rfl⟩
instance st_213:StI Tryz.prog 213 [.string ByteArray.empty] [(0,1)]:=⟨by kernel_rfl⟩
instance fd_213_0:FdI Tryz.prog 213 0 0:=⟨by kernel_rfl⟩
instance ty_214:TyI Tryz.prog 214 true 1:=⟨by kernel_rfl⟩
instance zc_214:ZcI Tryz.prog 214 [.string ByteArray.empty]:=⟨by kernel_rfl⟩
instance st_214:StI Tryz.prog 214 [.string ByteArray.empty] [(0,1)]:=⟨by kernel_rfl⟩
instance fd_214_0:FdI Tryz.prog 214 0 0:=⟨by kernel_rfl⟩
instance ty_215:TyI Tryz.prog 215 false 1:=⟨by kernel_rfl⟩
instance zc_215:ZcI Tryz.prog 215 [.nilFunc]:=⟨by kernel_rfl⟩
instance ty_216:TyI Tryz.prog 216 true 24:=⟨by kernel_rfl⟩
instance zc_216:ZcI Tryz.prog 216 [.int .u8 0,.int .u8 0,.int .u8 0,.int .u8 0,.int .u8 0,.int .u8 0,.int .u8 0,.int .u8 0,.int .u8 0,.int .u8 0,.int .u8 0,.int .u8 0,.int .u8 0,.int .u8 0,.int .u8 0,.int .u8 0,.int .u8 0,.int .u8 0,.int .u8 0,.int .u8 0,.int .u8 0,.int .u8 0,.int .u8 0,.int .u8 0]:=⟨by kernel_rfl⟩
instance al_216:AlI Tryz.prog 216 24 1:=⟨by kernel_rfl⟩
instance ar_216:ArI Tryz.prog 216 [.int .u8 0,.int .u8 0,.int .u8 0,.int .u8 0,.int .u8 0,.int .u8 0,.int .u8 0,.int .u8 0,.int .u8 0,.int .u8 0,.int .u8 0,.int .u8 0,.int .u8 0,.int .u8 0,.int .u8 0,.int .u8 0,.int .u8 0,.int .u8 0,.int .u8 0,.int .u8 0,.int .u8 0,.int .u8 0,.int .u8 0,.int .u8 0] 1:=⟨by kernel_rfl⟩
instance ty_217:TyI Tryz.prog 217 false 1:=⟨by kernel_rfl⟩
instance zc_217:ZcI Tryz.prog 217 [.nilFunc]:=⟨by kernel_rfl⟩
instance ty_218:TyI Tryz.prog 218 false 1:=⟨by kernel_rfl⟩
instance ty_219:TyI Tryz.prog 219 false 1:=⟨by kernel_rfl⟩
instance zc_219:ZcI Tryz.prog 219 [.nilFunc]:=⟨by kernel_rfl⟩
instance ty_220:TyI Tryz.prog 220 false 1:=⟨by kernel_rfl⟩
instance zc_220:ZcI Tryz.prog 220 [.nilFunc]:=⟨by kernel_rfl⟩
instance ty_221:TyI Tryz.prog 221 true 20:=⟨by kernel_rfl⟩
instance zc_221:ZcI Tryz.prog 221 [.int .u64 0,.int .u64 0,.int .u64 0,.int .u64 0,.int .u64 0,.int .u64 0,.int .u64 0,.int .u64 0,.int .u64 0,.int .u64 0,.int .u64 0,.int .u64 0,.int .u64 0,.int .u64 0,.int .u64 0,.int .u64 0,.int .u64 0,.int .u64 0,.int .u64 0,.int .u64 0]:=⟨by kernel_rfl⟩
instance al_221:AlI Tryz.prog 221 20 1:=⟨by kernel_rfl⟩
instance ar_221:ArI Tryz.prog 221 [.int .u64 0,.int .u64 0,.int .u64 0,.int .u64 0,.int .u64 0,.int .u64 0,.int .u64 0,.int .u64 0,.int .u64 0,.int .u64 0,.int .u64 0,.int .u64 0,.int .u64 0,.int .u64 0,.int .u64 0,.int .u64 0,.int .u64 0,.int .u64 0,.int .u64 0,.int .u64 0] 1:=⟨by kernel_rfl⟩
instance ty_222:TyI Tryz.prog 222 false 1:=⟨by kernel_rfl⟩
instance ik_222:IkI Tryz.prog 222 .u32:=⟨by kernel_rfl⟩
instance zc_222:ZcI Tryz.prog 222 [.int .u32 0]:=⟨by kernel_rfl⟩
instance ty_223:TyI Tryz.prog 223 true 65:=⟨by kernel_rfl⟩
instance zc_223:ZcI Tryz.prog 223 [.int .u8 0,.int .u8 0,.int .u8 0,.int .u8 0,.int .u8 0,.int .u8 0,.int .u8 0,.int .u8 0,.int .u8 0,.int .u8 0,.int .u8 0,.int .u8 0,.int .u8 0,.int .u8 0,.int .u8 0,.int .u8 0,.int .u8 0,.int .u8 0,.int .u8 0,.int .u8 0,.int .u8 0,.int .u8 0,.int .u8 0,.int .u8 0,.int .u8 0,.int .u8 0,.int .u8 0,.int .u8 0,.int .u8 0,.int .u8 0,.int .u8 0,.int .u8 0,.int .u8 0,.int .u8 0,.int .u8 0,.int .u8 0,.int .u8 0,.int .u8 0,.int .u8 0,.int .u8 0,.int .u8 0,.int .u8 0,.int .u8 0,.int .u8 0,.int .u8 0,.int .u8 0,.int .u8 0,.int .u8 0,.int .u8 0,.int .u8 0,.int .u8 0,.int .u8 0,.int .u8 0,.int .u8 0,.int .u8 0,.int .u8 0,.int .u8 0,.int .u8 0,.int .u8 0,.int .u8 0,.int .u8 0,.int .u8 0,.int .u8 0,.int .u8 0,.int .u8 0]:=⟨by kernel_rfl⟩
instance al_223:AlI Tryz.prog 223 65 1:=⟨by kernel_rfl⟩
instance ar_223:ArI Tryz.prog 223 [.int .u8 0,.int .u8 0,.int .u8 0,.int .u8 0,.int .u8 0,.int .u8 0,.int .u8 0,.int .u8 0,.int .u8 0,.int .u8 0,.int .u8 0,.int .u8 0,.int .u8 0,.int .u8 0,.int .u8 0,.int .u8 0,.int .u8 0,.int .u8 0,.int .u8 0,.int .u8 0,.int .u8 0,.int .u8 0,.int .u8 0,.int .u8 0,.int .u8 0,.int .u8 0,.int .u8 0,.int .u8 0,.int .u8 0,.int .u8 0,.int .u8 0,.int .u8 0,.int .u8 0,.int .u8 0,.int .u8 0,.int .u8 0,.int .u8 0,.int .u8 0,.int .u8 0,.int .u8 0,.int .u8 0,.int .u8 0,.int .u8 0,.int .u8 0,.int .u8 0,.int .u8 0,.int .u8 0,.int .u8 0,.int .u8 0,.int .u8 0,.int .u8 0,.int .u8 0,.int .u8 0,.int .u8 0,.int .u8 0,.int .u8 0,.int .u8 0,.int .u8 0,.int .u8 0,.int .u8 0,.int .u8 0,.int .u8 0,.int .u8 0,.int .u8 0,.int .u8 0] 1:=⟨by kernel_rfl⟩
instance ty_224:TyI Tryz.prog 224 false 1:=⟨by kernel_rfl⟩
instance zc_224:ZcI Tryz.prog 224 [.nilFunc]:=⟨by kernel_rfl⟩
instance ty_225:TyI Tryz.prog 225 false 1:=⟨by kernel_rfl⟩
instance zc_225:ZcI Tryz.prog 225 [.nilFunc]:=⟨by kernel_rfl⟩
instance ty_226:TyI Tryz.prog 226 true 32:=⟨by kernel_rfl⟩
instance zc_226:ZcI Tryz.prog 226 [.int .u8 0,.int .u8 0,.int .u8 0,.int .u8 0,.int .u8 0,.int .u8 0,.int .u8 0,.int .u8 0,.int .u8 0,.int .u8 0,.int .u8 0,.int .u8 0,.int .u8 0,.int .u8 0,.int .u8 0,.int .u8 0,.int .u8 0,.int .u8 0,.int .u8 0,.int .u8 0,.int .u8 0,.int .u8 0,.int .u8 0,.int .u8 0,.int .u8 0,.int .u8 0,.int .u8 0,.int .u8 0,.int .u8 0,.int .u8 0,.int .u8 0,.int .u8 0]:=⟨by kernel_rfl⟩
instance al_226:AlI Tryz.prog 226 32 1:=⟨by kernel_rfl⟩
instance ar_226:ArI Tryz.prog 226 [.int .u8 0,.int .u8 0,.int .u8 0,.int .u8 0,.int .u8 0,.int .u8 0,.int .u8 0,.int .u8 0,.int .u8 0,.int .u8 0,.int .u8 0,.int .u8 0,.int .u8 0,.int .u8 0,.int .u8 0,.int .u8 0,.int .u8 0,.int .u8 0,.int .u8 0,.int .u8 0,.int .u8 0,.int .u8 0,.int .u8 0,.int .u8 0,.int .u8 0,.int .u8 0,.int .u8 0,.int .u8 0,.int .u8 0,.int .u8 0,.int .u8 0,.int .u8 0] 1:=⟨by kernel_rfl⟩
instance ty_227:TyI Tryz.prog 227 false 1:=⟨by kernel_rfl⟩
instance zc_227:ZcI Tryz.prog 227 [.nilFunc]:=⟨by kernel_rfl⟩
instance ty_228:TyI Tryz.prog 228 true 4:=⟨by kernel_rfl⟩
instance zc_228:ZcI Tryz.prog 228 [.pointer none,.pointer none,.pointer none,.string ByteArray.empty]:=⟨by kernel_rfl⟩
instance st_228:StI Tryz.prog 228 [.pointer none,.pointer none,.pointer none,.string ByteArray.empty] [(0,1),(1,1),(2,1),(3,1)]:=⟨by kernel_rfl⟩
instance fd_228_0:FdI Tryz.prog 228 0 0:=⟨by kernel_rfl⟩
instance fd_228_1:FdI Tryz.prog 228 1 1:=⟨by kernel_rfl⟩
instance fd_228_2:FdI Tryz.prog 228 2 2:=⟨by kernel_rfl⟩
instance fd_228_3:FdI Tryz.prog 228 3 3:=⟨by kernel_rfl⟩
instance ty_229:TyI Tryz.prog 229 true 4:=⟨by kernel_rfl⟩
instance zc_229:ZcI Tryz.prog 229 [.pointer none,.pointer none,.pointer none,.string ByteArray.empty]:=⟨by kernel_rfl⟩
instance st_229:StI Tryz.prog 229 [.pointer none,.pointer none,.pointer none,.string ByteArray.empty] [(0,1),(1,1),(2,1),(3,1)]:=⟨by kernel_rfl⟩
instance fd_229_0:FdI Tryz.prog 229 0 0:=⟨by kernel_rfl⟩
instance fd_229_1:FdI Tryz.prog 229 1 1:=⟨by kernel_rfl⟩
instance fd_229_2:FdI Tryz.prog 229 2 2:=⟨by kernel_rfl⟩
instance fd_229_3:FdI Tryz.prog 229 3 3:=⟨by kernel_rfl⟩
instance ty_230:TyI Tryz.prog 230 true 0:=⟨by kernel_rfl⟩
instance zc_230:ZcI Tryz.prog 230 []:=⟨by kernel_rfl⟩
instance al_230:AlI Tryz.prog 230 0 1:=⟨by kernel_rfl⟩
instance ar_230:ArI Tryz.prog 230 [] 1:=⟨by kernel_rfl⟩
instance ty_231:TyI Tryz.prog 231 true 0:=⟨by kernel_rfl⟩
instance zc_231:ZcI Tryz.prog 231 []:=⟨by kernel_rfl⟩
instance st_231:StI Tryz.prog 231 [] [(0,0)]:=⟨by kernel_rfl⟩
instance ty_232:TyI Tryz.prog 232 true 0:=⟨by kernel_rfl⟩
instance zc_232:ZcI Tryz.prog 232 []:=⟨by kernel_rfl⟩
instance st_232:StI Tryz.prog 232 [] [(0,0)]:=⟨by kernel_rfl⟩
instance ty_233:TyI Tryz.prog 233 false 1:=⟨by kernel_rfl⟩
instance ik_233:IkI Tryz.prog 233 .u8:=⟨by kernel_rfl⟩
instance zc_233:ZcI Tryz.prog 233 [.int .u8 0]:=⟨by kernel_rfl⟩
instance ty_234:TyI Tryz.prog 234 false 1:=⟨by kernel_rfl⟩
instance ik_234:IkI Tryz.prog 234 .u8:=⟨by kernel_rfl⟩
instance zc_234:ZcI Tryz.prog 234 [.int .u8 0]:=⟨by kernel_rfl⟩
instance ty_235:TyI Tryz.prog 235 false 1:=⟨by kernel_rfl⟩
instance zc_235:ZcI Tryz.prog 235 [.nilFunc]:=⟨by kernel_rfl⟩
instance ty_236:TyI Tryz.prog 236 false 1:=⟨by kernel_rfl⟩
instance ik_236:IkI Tryz.prog 236 .i32:=⟨by kernel_rfl⟩
instance zc_236:ZcI Tryz.prog 236 [.int .i32 0]:=⟨by kernel_rfl⟩
instance ty_237:TyI Tryz.prog 237 false 1:=⟨by kernel_rfl⟩
instance ik_237:IkI Tryz.prog 237 .i32:=⟨by kernel_rfl⟩
instance zc_237:ZcI Tryz.prog 237 [.int .i32 0]:=⟨by kernel_rfl⟩
instance ty_238:TyI Tryz.prog 238 true 11:=⟨by kernel_rfl⟩
instance zc_238:ZcI Tryz.prog 238 [.int .u64 0,.int .u64 0,.int .u32 0,.int .u8 0,.int .u8 0,.int .u8 0,.int .u8 0,.nilFunc,.pointer none,.int .i32 0,.int .i32 0]:=⟨by kernel_rfl⟩
instance st_238:StI Tryz.prog 238 [.int .u64 0,.int .u64 0,.int .u32 0,.int .u8 0,.int .u8 0,.int .u8 0,.int .u8 0,.nilFunc,.pointer none,.int .i32 0,.int .i32 0] [(0,1),(1,1),(2,1),(3,1),(4,1),(5,1),(6,1),(7,1),(8,1),(9,1),(10,1)]:=⟨by kernel_rfl⟩
instance fd_238_0:FdI Tryz.prog 238 0 0:=⟨by kernel_rfl⟩
instance fd_238_1:FdI Tryz.prog 238 1 1:=⟨by kernel_rfl⟩
instance fd_238_2:FdI Tryz.prog 238 2 2:=⟨by kernel_rfl⟩
instance fd_238_3:FdI Tryz.prog 238 3 3:=⟨by kernel_rfl⟩
instance fd_238_4:FdI Tryz.prog 238 4 4:=⟨by kernel_rfl⟩
instance fd_238_5:FdI Tryz.prog 238 5 5:=⟨by kernel_rfl⟩
instance fd_238_6:FdI Tryz.prog 238 6 6:=⟨by kernel_rfl⟩
instance fd_238_7:FdI Tryz.prog 238 7 7:=⟨by kernel_rfl⟩
instance fd_238_8:FdI Tryz.prog 238 8 8:=⟨by kernel_rfl⟩
instance fd_238_9:FdI Tryz.prog 238 9 9:=⟨by kernel_rfl⟩
instance fd_238_10:FdI Tryz.prog 238 10 10:=⟨by kernel_rfl⟩
instance ty_239:TyI Tryz.prog 239 true 11:=⟨by kernel_rfl⟩
instance zc_239:ZcI Tryz.prog 239 [.int .u64 0,.int .u64 0,.int .u32 0,.int .u8 0,.int .u8 0,.int .u8 0,.int .u8 0,.nilFunc,.pointer none,.int .i32 0,.int .i32 0]:=⟨by kernel_rfl⟩
instance st_239:StI Tryz.prog 239 [.int .u64 0,.int .u64 0,.int .u32 0,.int .u8 0,.int .u8 0,.int .u8 0,.int .u8 0,.nilFunc,.pointer none,.int .i32 0,.int .i32 0] [(0,1),(1,1),(2,1),(3,1),(4,1),(5,1),(6,1),(7,1),(8,1),(9,1),(10,1)]:=⟨by kernel_rfl⟩
instance fd_239_0:FdI Tryz.prog 239 0 0:=⟨by kernel_rfl⟩
instance fd_239_1:FdI Tryz.prog 239 1 1:=⟨by kernel_rfl⟩
instance fd_239_2:FdI Tryz.prog 239 2 2:=⟨by kernel_rfl⟩
instance fd_239_3:FdI Tryz.prog 239 3 3:=⟨by kernel_rfl⟩
instance fd_239_4:FdI Tryz.prog 239 4 4:=⟨by kernel_rfl⟩
instance fd_239_5:FdI Tryz.prog 239 5 5:=⟨by kernel_rfl⟩
instance fd_239_6:FdI Tryz.prog 239 6 6:=⟨by kernel_rfl⟩
instance fd_239_7:FdI Tryz.prog 239 7 7:=⟨by kernel_rfl⟩
instance fd_239_8:FdI Tryz.prog 239 8 8:=⟨by kernel_rfl⟩
instance fd_239_9:FdI Tryz.prog 239 9 9:=⟨by kernel_rfl⟩
instance fd_239_10:FdI Tryz.prog 239 10 10:=⟨by kernel_rfl⟩
instance ty_240:TyI Tryz.prog 240 false 1:=⟨by kernel_rfl⟩
instance zc_240:ZcI Tryz.prog 240 [.nilFunc]:=⟨by kernel_rfl⟩
instance ty_241:TyI Tryz.prog 241 false 1:=⟨by kernel_rfl⟩
instance zc_241:ZcI Tryz.prog 241 [.pointer none]:=⟨by kernel_rfl⟩
set_option maxRecDepth 100000
@[reducible] def intV (x:Int):HV:=.imm (.int .i64 x)
@[reducible] def boolV (b:Bool):HV:=.imm (.bool b)
class Frz (x:HV):Prop where
 fz:∀ {sh:List (Nat×HObj)},Fz sh x x
instance (v:Value):Frz (.imm v):=⟨.imm v⟩
instance (sz n:Nat) (f:Nat→Nat→HV) [h:∀ i j,Frz (f i j)]:Frz (.sl sz n f):=⟨.sl _ _ _ _ fun i j _ _=>(h i j).fz⟩
instance (n:Nat) (f:Nat→HV) [h:∀ i,Frz (f i)]:Frz (.agg n f):=⟨.agg _ _ _ fun i _=>(h i).fz⟩
instance (n:Nat) (f:Nat→HV) [h:∀ i,Frz (f i)]:Frz (.tup n f):=⟨.tup _ _ _ fun i _=>(h i).fz⟩
instance (n:Nat) (f:Nat→HV) [h:∀ i,Frz (f i)]:Frz (.fp n f):=⟨.fp _ _ (Nat.le_refl _) _ _ fun i _=>(h i).fz⟩
theorem Fz.eq {sh:List (Nat×HObj)} {x y:HV} [h:Frz y] (e:x=y):Fz sh x y:=by subst e;exact h.fz
theorem a3d {sh:List (Nat×HObj)} {a b:Bool} (h:a=b):Fz sh (boolV a) (boolV b):=by subst h;exact .imm _
theorem a2r {α:Type} {sh:List (Nat×HObj)} {enc:α→Nat→HV} {d:α} {l:List α} {id g n:Nat} {o:HObj} (ho:(id,o)∈sh) (hg:o.g=g) (hn:n=l.length) (hon:n≤o.n) (h:∀ i j,i < l.length→j < o.sz→Fz sh (o.f i j) (enc (l.getD i d) j)) :
  Fz sh (.os id g 0 n) (.sl o.sz l.length (fun i=>enc (l.getD i d))):=by
 subst hn
 exact Fz.os id g 0 l.length o _ ho hg (by omega) (fun i j hi hj=>by rw [Nat.zero_add];exact h i j hi hj)
theorem b8U {α:Type} {enc:α→Nat→HV} {d:α} {l k:List α} {m sz:Nat} {f g:Nat→Nat→HV} (hm:m=l.length) (hf:∀ i j,i < l.length→j < sz→Sb (f i j) (enc (l.getD i d) j)) (hg:∀ i j,i < k.length→j < sz→Sb (g i j) (enc (k.getD i d) j)) :
  ∀ i j,i < (l++k).length→j < sz→Sb (cat m f g i j) (enc ((l++k).getD i d) j):=by
 intro i j hi hj
 subst hm
 rw [List.length_append] at hi
 by_cases h:i < l.length
 ·rw [a9n h]
  have e:(l++k).getD i d=l.getD i d:=by rw [List.getD_eq_getElem?_getD,List.getD_eq_getElem?_getD,List.getElem?_append_left h]
  rw [e];exact hf i j h hj
 ·rw [a9i (by omega)]
  have e:(l++k).getD i d=k.getD (i - l.length) d:=by rw [List.getD_eq_getElem?_getD,List.getD_eq_getElem?_getD,List.getElem?_append_right (by omega)]
  rw [e];exact hg _ j (by omega) hj
theorem b7V {α:Type} {enc:α→Nat→HV} {d x:α} {sz:Nat} {f:Nat→Nat→HV} (h:∀ j,j < sz→Sb (f 0 j) (enc x j)):∀ i j,i < [x].length→j < sz→Sb (f i j) (enc ([x].getD i d) j):=fun i j hi hj=>by
 have:i=0:=by simpa using hi
 subst this
 exact h j hj
theorem kr {p:Prop} (h:p:=by kernel_rfl):p:=h
theorem om {p:Prop} (h:p:=by omega):p:=h
theorem omx {p:Prop} (h:p:=by first | exact Nat.le_of_ble_eq_true rfl | omega | (dsimp only;omega) | (simp <;> omega)):p:=h
theorem rqc {p q:Prop} (h:p→q:=by (intro h;first | rfl | cases h)):p→q:=h
theorem fe {sh:List (Nat×HObj)} {x y:HV} [hz:Frz y] (h:x=y:=by rfl):Fz sh x y:=Fz.eq h
theorem fzc {sh:List (Nat×HObj)} {x y:HV} (h:Fz sh x y:=by first | exact .imm _ | exact .nil _ _ _ (by decide) _ | exact Frz.fz):Fz sh x y:=h
theorem tsa {a b:List (Nat×TV)} (h:a0t a b:=by repeat (first | exact a0t.nil | refine tsr rfl ?_)):a0t a b:=h
theorem hsa {a b:List (Nat×HObj)} (h:a0f a b:=by repeat (first | exact a0f.nil | refine hsr rfl ?_)):a0f a b:=h
section
variable {P:Program} {ov:Nat→Option HV} {g:Nat} {d:Option Tmp} {ty:TypeId} {pos:String} {af:Array Edge} {gd:Option (Nat×Bool)} {T yT:TypeId} {x y:Operand} {k:IntKind} {a b:Int}
theorem hli (h1:ovl ov x=some (.imm (.int k a)):=by rfl) (h2:ovl ov y=some (.imm (.int k b)):=by rfl):HOp P ⟨d,.binOp .lss T x y yT,ty,pos,af,gd⟩ ov g [] (.imm (.bool (decide (a < b)))) []:=b4a h1 h2
theorem hnl {e:TypeId} {s n:Nat} {f:Nat→Nat→HV} {at_:Array TypeId} (hE:elOf P T=some (e,s)) (hT:at_[0]?=some T:=by rfl) (h1:ovl ov x=some (.sl s n f):=by rfl):HOp P ⟨d,.call ⟨.builtin .len,#[x],at_⟩,ty,pos,af,gd⟩ ov g [] (.imm (.int .i64 (n:Int))) []:=a2z hT (a0L hE).1 h1
theorem hex {n:Nat} {f:Nat→HV} {i:Nat} (h1:ovl ov x=some (.tup n f):=by rfl) (hi:Nat.blt i n=true:=by rfl):HOp P ⟨d,.extract x i,ty,pos,af,gd⟩ ov g [] (f i) []:=a9d h1 hi
end
theorem b9f {C:Ctx} {P:Program} {Q:Exit→Act→World→Prop} {n clk:Nat} {tm0:List (Nat×TV)} {hp0:List (Nat×HObj)} {l:List Oper} {ss:List HSpec} {id:Nat} {dn:List Oper} {k:Nat} {tm tm':List (Nat×TV)} {hp:List (Nat×HObj)} (hm:P.follows .mixedOrders=true) (hc:c4p l ss tm0=true) (hu:a7C tm=true) (ht:a5g tm []=tm') {c':Nat} (hc':clk+k=c') (h:HQ C Q .normal ⟨n,tm',hp,c'⟩) (nd:C.rd=none∨l.all Oper.calm=true:=by first | exact .inr rfl | exact .inl rfl | exact .inl (by assumption)):HDr P n clk tm0 hp0 l dn ss [] k tm hp (HWp C P (.region id l.toArray true) ⟨n,tm0,hp0,clk⟩ Q) :=
 b0h hm hc hc' (fun a w ⟨E,e0,r,hG,hsz,hdf,htm⟩=>h a w ⟨E,e0,r,hG,hsz,hdf,fun t x hx=>htm t x (a5t hu t x (by rw [ht];exact hx))⟩) nd
section
variable {P:Program} {n clk:Nat} {tm0:List (Nat×TV)} {hp0:List (Nat×HObj)} {ss:List HSpec} {Fin:Prop} {o:Oper} {rest dn:List Oper} {k:Nat} {tm:List (Nat×TV)} {hp:List (Nat×HObj)} {L:List Oper} {pre post:List (Nat×HObj)} {v:HV}
theorem a6Z (d gi j j2:Nat) (b2 b c c2:Bool) (hop:c=b→c2=b2→HOp P o (a1L (tget tm) j b) (clk+k) pre v []) (hd:o.dst=some d) (hg:o.guard=some (gi,b)) (hgi:(L.toArray[gi]?).bind (·.dst)=some j) (hc:tget tm j=some (.un j2 b2 (.imm (.bool c)))) (hc2:tget tm j2=some (.v (.imm (.bool c2)))) (hpre:∀ p∈pre,hget hp p.1=some p.2) (hlt:Nat.blt d n=true)
  {k':Nat} (hk':k+1=k') (h:HDr P n clk tm0 hp0 L (dn++[o]) (ss++[⟨.un j b v,j::j2::a0A o,pre,[]⟩]) rest k' ((d,.un j b v)::tm) hp Fin):HDr P n clk tm0 hp0 L dn ss (o::rest) k tm hp Fin:=by
 subst hk';exact a7z ⟨.un j b v,j::j2::a0A o,pre,[]⟩ d hd (a7L gi j j2 b2 b c c2 hg hgi hc hc2 hop) hpre hlt h
end
section
variable {P:Program} {ov:Nat→Option HV} {g:Nat} {d:Option Tmp} {ty:TypeId} {pos:String} {af:Array Edge} {gd:Option (Nat×Bool)} {T yT:TypeId} {x y:Operand}
def a6y (P:Program) (T:TypeId):Bool:=match P.underlying T with | some (.pointer _)=>true | _=>false
theorem a9O (hT:a6y P T=true) (a b:Option Addr) (w:World) (hb:b=none):(Op.equal T (.pointer a) (.pointer b)).run P w=.ok (a.isNone) w:=by
  subst hb
  unfold a6y at hT
  cases hu:P.underlying T with
  | none=>rw [hu] at hT;cases hT
  | some dd =>
    rw [hu] at hT
    cases dd <;> first | cases hT | skip
    have e:Op.equal T (.pointer a) (.pointer none)=Op.equalIn (Op.maxDepth - 1+1) T (.pointer a) (.pointer none):=rfl
    cases a <;> simp [e,Op.equalIn,run_underlying hu]
theorem b3U {id gg i off:Nat} (hT:a6y P T=true) (h1:ovl ov x=some (.pt id gg i off)) (h2:ovl ov y=some (.imm (.pointer none))):HOp P ⟨d,.binOp .eql T x y yT,ty,pos,af,gd⟩ ov g [] (.imm (.bool false)) [] :=
  a0q fun w E ρ hr=>by
    have h:=hr x _ (by simp [Op.operands]) h1
    have e2:=Rep.imm_inv (hr y _ (by simp [Op.operands]) h2)
    generalize hρ:ρ x=u at h
    cases h with
    | pt b k _ _ _ _ _ _ =>
      refine ⟨.bool false,?_,.imm _⟩
      have hT2:=hT
      unfold a6y at hT2
      cases hu:P.underlying T with
      | none=>rw [hu] at hT2;cases hT2
      | some dd =>
        simp [execOp,hρ,e2,eqGuard,binOp,a9O hT _ _ _ rfl]
theorem b3V {n:Nat} {f:Nat→HV} (hT:a6y P T=true) (h1:ovl ov x=some (.fp n f)) (h2:ovl ov y=some (.imm (.pointer none))):HOp P ⟨d,.binOp .eql T x y yT,ty,pos,af,gd⟩ ov g [] (.imm (.bool false)) [] :=
  a0q fun w E ρ hr=>by
    have h:=hr x _ (by simp [Op.operands]) h1
    have e2:=Rep.imm_inv (hr y _ (by simp [Op.operands]) h2)
    generalize hρ:ρ x=u at h
    cases h with
    | fp b k _ _ vs _ _ =>
      refine ⟨.bool false,?_,.imm _⟩
      have hT2:=hT
      unfold a6y at hT2
      cases hu:P.underlying T with
      | none=>rw [hu] at hT2;cases hT2
      | some dd =>
        simp [execOp,hρ,e2,eqGuard,binOp,a9O hT _ _ _ rfl]
theorem b4H (hT:a6y P T=true) (h1:ovl ov x=some (.imm (.pointer none))) (h2:ovl ov y=some (.imm (.pointer none))):HOp P ⟨d,.binOp .eql T x y yT,ty,pos,af,gd⟩ ov g [] (.imm (.bool true)) [] :=
  a0q fun w E ρ hr=>by
    have h:=hr x _ (by simp [Op.operands]) h1
    have e2:=Rep.imm_inv (hr y _ (by simp [Op.operands]) h2)
    generalize hρ:ρ x=u at h
    cases h with
    | imm _ =>
      refine ⟨.bool true,?_,.imm _⟩
      have hT2:=hT
      unfold a6y at hT2
      cases hu:P.underlying T with
      | none=>rw [hu] at hT2;cases hT2
      | some dd =>
        simp [execOp,hρ,e2,eqGuard,binOp,a9O hT _ _ _ rfl]
theorem b3A {id gg i off:Nat} (hT:a6y P T=true) (h1:ovl ov x=some (.pt id gg i off)) (h2:ovl ov y=some (.imm (.pointer none))):HOp P ⟨d,.binOp .neq T x y yT,ty,pos,af,gd⟩ ov g [] (.imm (.bool true)) [] :=
  a0q fun w E ρ hr=>by
    have h:=hr x _ (by simp [Op.operands]) h1
    have e2:=Rep.imm_inv (hr y _ (by simp [Op.operands]) h2)
    generalize hρ:ρ x=u at h
    cases h with
    | pt b k _ _ _ _ _ _ =>
      refine ⟨.bool true,?_,.imm _⟩
      have hT2:=hT
      unfold a6y at hT2
      cases hu:P.underlying T with
      | none=>rw [hu] at hT2;cases hT2
      | some dd =>
        simp [execOp,hρ,e2,eqGuard,binOp,a9O hT _ _ _ rfl]
theorem b4V {n:Nat} {f:Nat→HV} (hT:a6y P T=true) (h1:ovl ov x=some (.fp n f)) (h2:ovl ov y=some (.imm (.pointer none))):HOp P ⟨d,.binOp .neq T x y yT,ty,pos,af,gd⟩ ov g [] (.imm (.bool true)) [] :=
  a0q fun w E ρ hr=>by
    have h:=hr x _ (by simp [Op.operands]) h1
    have e2:=Rep.imm_inv (hr y _ (by simp [Op.operands]) h2)
    generalize hρ:ρ x=u at h
    cases h with
    | fp b k _ _ vs _ _ =>
      refine ⟨.bool true,?_,.imm _⟩
      have hT2:=hT
      unfold a6y at hT2
      cases hu:P.underlying T with
      | none=>rw [hu] at hT2;cases hT2
      | some dd =>
        simp [execOp,hρ,e2,eqGuard,binOp,a9O hT _ _ _ rfl]
theorem b3Y (hT:a6y P T=true) (h1:ovl ov x=some (.imm (.pointer none))) (h2:ovl ov y=some (.imm (.pointer none))):HOp P ⟨d,.binOp .neq T x y yT,ty,pos,af,gd⟩ ov g [] (.imm (.bool false)) [] :=
  a0q fun w E ρ hr=>by
    have h:=hr x _ (by simp [Op.operands]) h1
    have e2:=Rep.imm_inv (hr y _ (by simp [Op.operands]) h2)
    generalize hρ:ρ x=u at h
    cases h with
    | imm _ =>
      refine ⟨.bool false,?_,.imm _⟩
      have hT2:=hT
      unfold a6y at hT2
      cases hu:P.underlying T with
      | none=>rw [hu] at hT2;cases hT2
      | some dd =>
        simp [execOp,hρ,e2,eqGuard,binOp,a9O hT _ _ _ rfl]
end
section
variable {P:Program} {ov:Nat→Option HV} {g:Nat} {d:Option Tmp} {ty:TypeId} {pos:String} {af:Array Edge} {gd:Option (Nat×Bool)}
end
section
variable {P:Program} {ops:Array Oper} {g:Nat}
end
section
variable {C:Ctx} {P:Program} {ops:Array Oper} {Q:Exit→Act→World→Prop} {n clk:Nat} {tm:List (Nat×TV)} {hp:List (Nat×HObj)} {rest:List Oper} {o:Oper} {pre post:List (Nat×HObj)} {v:HV}
end
section
variable {P:Program} {ov:Nat→Option HV} {g:Nat} {d:Option Tmp} {ty:TypeId} {pos:String} {af:Array Edge} {gd:Option (Nat×Bool)} {x y z:Operand} {hx:HV}
theorem b6A (h1:ovl ov x=some (.imm (.bool true))) (h2:ovl ov y=some hx):HOp P ⟨d,.pick x y z,ty,pos,af,gd⟩ ov g [] hx [] :=
 a0q fun w E ρ hr=>by
  have e1:=Rep.imm_inv (hr x _ (by simp [Op.operands]) h1)
  exact ⟨ρ y,by simp [execOp,e1,asBool],hr y _ (by simp [Op.operands]) h2⟩
theorem a9M (h1:ovl ov x=some (.imm (.bool false))) (h2:ovl ov z=some hx):HOp P ⟨d,.pick x y z,ty,pos,af,gd⟩ ov g [] hx [] :=
 a0q fun w E ρ hr=>by
  have e1:=Rep.imm_inv (hr x _ (by simp [Op.operands]) h1)
  exact ⟨ρ z,by simp [execOp,e1,asBool],hr z _ (by simp [Op.operands]) h2⟩
end
def c8V (o:Obj):Bool:=match o with | .loop _=>true | .deferred _=>true | _=>false
structure Bk (b:Nat) (w w':World):Prop where
 os:w'.os=w.os
 tape:w'.tape=w.tape
 output:w'.output=w.output
 size:w.heap.size≤w'.heap.size
 block:∀ k,k < w.heap.size→k≠b→w'.heap[k]?=w.heap[k]?
theorem Bk.put (w:World) (b:Nat) (o:Obj):Bk b w (w.putObj b o):=⟨rfl,rfl,rfl,Nat.le_of_eq World.putObj_size.symm,fun _ _ h=>World.putObj_heap_other h⟩
section
variable {K:Nat→Prop} {w0 w w':World} {F0:Addr→Prop} {E E':Env} {h h':Nat→Option HObj}
theorem R.notBk (r:R K w0 F0 E h w) {b:Nat} {ob:Obj} (hb:w.heap[b]?=some ob) (hbk:c8V ob=true):(∀ a,E.F a→a.block≠b)∧(∀ id o l,h id=some o→E.L id=some l→l.A≠some b):=by
 refine ⟨fun a ha e=>?_,fun id o l ho hl hA=>?_⟩
 ·have:=r.frz a ha
  obtain ⟨u,hu⟩:=Option.isSome_iff_exists.1 this.2
  subst e
  unfold World.cell? at hu
  rw [hb] at hu
  cases ob <;> first | (simp [c8V] at hbk;done) | (simp at hu;done) | (cases hu;done)
 ·obtain ⟨l2,hl2,a⟩:=r.obj id o ho
  rw [hl] at hl2;injection hl2 with hl2;subst hl2
  rcases a.at_ with ⟨h0,_⟩ | ⟨b',cs,h1,h2,_⟩ | ⟨b',ob',h1,h2,h3,_⟩
  ·rw [h0] at hA;cases hA
  ·rw [h1] at hA;injection hA with hA;subst hA
   rw [show w.heap[b']?=_ from h2] at hb;injection hb with hb;subst hb;cases hbk
  ·rw [h1] at hA;injection hA with hA;subst hA
   rw [h2] at hb;injection hb with hb;subst hb;cases h3 <;> cases hbk
theorem R.book (r:R K w0 F0 E h w) {b:Nat} {ob:Obj} (hb:w.heap[b]?=some ob) (hbk:c8V ob=true) (hB:w0.heap.size≤b) (hM:¬ E.M b) (k:Bk b w w'):Ext w E w' E∧R K w0 F0 E h w':=by
 have nb:=r.notBk hb hbk
 have e:Ext w E w' E:=⟨k.size,fun a ha=>⟨ha,World.cell?_of_block (k.block _ (a1p (r.frz a ha).2) (nb.1 a ha))⟩,fun _ h=>h,fun _ _ h _=>h,fun _ h=>h⟩
 refine ⟨e,k.os.trans r.os,k.tape.trans r.tape,k.output.trans r.output,Nat.le_trans r.size k.size,fun j hj hK=>(k.block j (Nat.lt_of_lt_of_le hj r.size) (by omega)).trans (r.keep j hj hK),
  fun a ha=>⟨(r.frz a ha).1,by rw [(e.F a ha).2];exact (r.frz a ha).2⟩,r.fnew,r.klib,r.lib,fun j hj=>(k.block j (a1c (r.bks j hj)) (fun e=>hM (e▸hj))).trans (r.bks j hj),fun id o ho=>?_,r.inj⟩
 obtain ⟨l,hl,a⟩:=r.obj id o ho
 exact ⟨l,hl,a.ext e (fun b' hb'=>k.block b' (a.lt hb') (fun e=>nb.2 id o l ho hl (e▸hb'))) (fun _ _ _ h=>h)⟩
def KH (E:Env) (h:Nat→Option HObj) (b:Nat):Prop:=∀ id o l,h id=some o→E.L id=some l→l.A≠some b
theorem R.reb (r:R K w0 F0 E h w):R (KH E h) w E.F E h w:=by
 refine ⟨rfl,rfl,rfl,Nat.le_refl _,fun _ _ _=>rfl,r.frz,fun a ha=>.inl ha,fun b hb id o l ho hl hA=>?_,r.libw,r.bks,fun id o ho=>?_,r.inj⟩
 ·obtain ⟨l2,hl2,a⟩:=r.obj id o ho
  rw [hl] at hl2;injection hl2 with hl2;subst hl2
  exact a.notK hA (r.lib.ok _ hb) (r.klib _ hb)
 ·obtain ⟨l,hl,a⟩:=r.obj id o ho
  refine ⟨l,hl,a.g,a.G,a.sz,a.pos,?_⟩
  rcases a.at_ with h0 | ⟨b,cs,g1,g2,g3,g4,g5,g6,g8,g9⟩ | ⟨b,ob,g1,g2,g3,g4⟩
  ·exact .inl h0
  ·exact .inr (.inl ⟨b,cs,g1,g2,g3,g4,g5,fun _ hk=>hk id o l ho hl g1,g8,g9⟩)
  ·exact .inr (.inr ⟨b,ob,g1,g2,g3,fun _ hk=>hk id o l ho hl g1⟩)
theorem R.unreb (r:R K w0 F0 E h w) {E2:Env} {h2:Nat→Option HObj} {w2:World} (r2:R (KH E h) w E.F E2 h2 w2):R K w0 F0 E2 h2 w2:=by
 have own:∀ b,¬ KH E h b→b < w0.heap.size→¬ K b:=by
  intro b hb hlt
  unfold KH at hb
  simp only [Classical.not_forall,ne_eq,Classical.not_not] at hb
  obtain ⟨id,o,l,h1,h2,h3⟩:=hb
  obtain ⟨l2,hl2,a⟩:=r.obj id o h1
  rw [h2] at hl2;injection hl2 with hl2;subst hl2
  exact a.notK h3 hlt
 have kk:∀ b,b < w0.heap.size→K b→KH E h b:=fun b hb hK=>Classical.byContradiction fun hn=>own b hn hb hK
 refine ⟨r2.os.trans r.os,r2.tape.trans r.tape,r2.output.trans r.output,Nat.le_trans r.size r2.size,fun k hk hK=>(r2.keep k (Nat.lt_of_lt_of_le hk r.size) (kk k hk hK)).trans (r.keep k hk hK),r2.frz,fun a ha=>?_,r.klib,r.lib,r2.bks,fun id o ho=>?_,r2.inj⟩
 ·rcases r2.fnew a ha with h1 | h1 | h1
  ·exact r.fnew a h1
  ·exact .inr (.inl (Nat.le_trans r.size h1))
  ·by_cases hlt:a.block < w0.heap.size
   ·exact .inr (.inr (own _ h1 hlt))
   ·exact .inr (.inl (by omega))
 ·obtain ⟨l,hl,a⟩:=r2.obj id o ho
  refine ⟨l,hl,a.g,a.G,a.sz,a.pos,?_⟩
  rcases a.at_ with h0 | ⟨b,cs,g1,g2,g3,g4,g5,g6,g8,g9⟩ | ⟨b,ob,g1,g2,g3,g4⟩
  ·exact .inl h0
  ·exact .inr (.inl ⟨b,cs,g1,g2,g3,g4,g5,fun hlt hk=>g6 (Nat.lt_of_lt_of_le hlt r.size) (kk b hlt hk),g8,g9⟩)
  ·exact .inr (.inr ⟨b,ob,g1,g2,g3,fun hlt hk=>g4 (Nat.lt_of_lt_of_le hlt r.size) (kk b hlt hk)⟩)
end
def Ctx.topM (w:World) (F:Addr→Prop):Ctx:=⟨fun _=>True,w,Env.just F,[],none,some w.heap.size⟩
def Clr.ctxM (X:Clr):Ctx:=⟨X.K',X.w,X.E,[],none,some X.w.heap.size⟩
def Ctx.noM (C:Ctx):Ctx:=⟨C.K,C.w0,C.E0,C.ds,C.rd,none⟩
section
variable {P:Program} {fn:Func} {Rp:Ending→World→Prop} {C:Ctx} {s:HSt}
theorem a7K {tmps:Array Value} (B:Nat) (hC:C.ds=[]∧C.mks=some C.w0.heap.size∧∀ b,C.E0.M b→b < C.w0.heap.size):∀ (Ds:List Nat) (a:Act) (w:World) (E:Env),a.tmps=tmps→Ds.Nodup→Ext C.w0 C.E0 w E→R C.K C.w0 C.E0.F E (hget s.hp) w→(∀ g,E.G g→g < s.clk)→a.tmps.size=s.n →
    (∀ D∈Ds,E.M D∧C.w0.heap.size≤D)→(∀ t x,tget s.tm t=some x→TVRep w E a (a.tmps.getD t undef) x)→HQ C.noM (bodyPost P fn Rp) .ret s→LeavesInM Fence.wide 0 P fn tmps Rp (Ds.map fun D=>⟨.collected D,#[]⟩) .returning w
  | [], a, w, E, ha, _, e0, r, hG, hsz, _, ht, h => by
    obtain ⟨_,v,h1,h2⟩:=h ⟨a.tmps,[]⟩ w ⟨E,e0,r,hG,hsz,by rw [show C.noM.ds=[] from hC.1];rfl,fun t x hx=>by
      have:=ht t x hx
      cases x with
      | v z=>exact this
      | un j b z=>exact this⟩
    exact ⟨v,by rw [←ha];exact h1,h2⟩
  | D :: Ds, a, w, E, ha, hnd, e0, r, hG, hsz, hD, ht, h => by
    refine ⟨(fun h=>by cases h),.inl ⟨D,w.putObj D (.deferred none),rfl,run_takeDeferred (r.bks D (hD D (List.mem_cons_self ..)).1),?_⟩⟩
    have hDb:=r.bks D (hD D (List.mem_cons_self ..)).1
    have hnm:=(List.nodup_cons.1 hnd).1
    let E':Env:=⟨E.F,E.L,E.G,fun b=>E.M b∧b≠D⟩
    have eE:Ext w E' w E:=⟨Nat.le_refl _,fun a h=>⟨h,rfl⟩,fun _ h=>h,fun _ _ h _=>h,fun _ h=>h.1⟩
    have up:∀ v x,Rep w E v x→Rep w E' v x:=by
      intro v x hr
      induction hr with
      | imm v=>exact .imm v
      | agg cs n f vs hn hv _ ih=>exact .agg cs n f vs hn hv ih
      | tup cs n f vs hn hv _ ih=>exact .tup cs n f vs hn hv ih
      | sl A n c sz f vs hc hm hA _ ih=>exact .sl A n c sz f vs hc hm hA ih
      | fp b o n f vs hA _ ih=>exact .fp b o n f vs hA ih
      | pt b k id g i off hg h=>exact .pt b k id g i off hg h
      | os A n c id g lo hg hc hm hA h0=>exact .os A n c id g lo hg hc hm hA h0
      | ifc t v x _ ih=>exact .ifc t v x ih
      | fn f cs n x vs hn hv _ ih=>exact .fn f cs n x vs hn hv ih
      | bnd f v x _ ih=>exact .bnd f v x ih
      | npn id g hg h=>exact .npn id g hg h
      | npp v id g hg hc _ ih=>exact .npp v id g hg hc ih
      | mp b id g hg h=>exact .mp b id g hg h
    have e1:Ext C.w0 C.E0 w E':=⟨e0.sz,e0.F,e0.G,e0.L,fun b hb=>⟨e0.M b hb,fun e=>by have:=hC.2.2 b hb;have:=(hD D (List.mem_cons_self ..)).2;omega⟩⟩
    have r1:R C.K C.w0 C.E0.F E' (hget s.hp) w:=⟨r.os,r.tape,r.output,r.size,r.keep,r.frz,r.fnew,r.klib,r.lib,fun b hb=>r.bks b hb.1,fun id o ho=>by
      obtain ⟨l,hl,a⟩:=r.obj id o ho
      refine ⟨l,hl,a.g,a.G,a.sz,a.pos,?_⟩
      rcases a.at_ with h0 | ⟨b,cs,g1,g2,g3,g4,g5,g6,⟨vs,g8⟩,g9⟩ | g
      · exact .inl h0
      · exact .inr (.inl ⟨b,cs,g1,g2,g3,g4,g5,g6,⟨vs,fun i j hi hj=>⟨(g8 i j hi hj).1,(g8 i j hi hj).2.1,up _ _ (g8 i j hi hj).2.2⟩⟩,g9⟩)
      · exact .inr (.inr g),r.inj⟩
    obtain ⟨e2,r2⟩:=r1.book hDb rfl (hD D (List.mem_cons_self ..)).2 (fun h=>h.2 rfl) (Bk.put w D (.deferred none))
    refine a7K B hC Ds a _ E' ha (List.nodup_cons.1 hnd).2 (e1.trans e2) r2 hG hsz (fun D' hD'=>⟨⟨(hD D' (List.mem_cons_of_mem _ hD')).1,fun e=>hnm (e▸hD')⟩,(hD D' (List.mem_cons_of_mem _ hD')).2⟩) (fun t x hx=>?_) h
    have:=ht t x hx
    cases x with
    | v z=>exact (up _ _ this).ext e2
    | un j b z=>exact ⟨fun hj=>(up _ _ (this.1 hj)).ext e2,this.2⟩
theorem b8a (hC:C.ds=[]∧C.mks=some C.w0.heap.size∧∀ b,C.E0.M b→b < C.w0.heap.size) (h:HQ C.noM (bodyPost P fn Rp) .ret s):HQ C (bodyPostM Fence.wide 0 P fn Rp) .ret s:=by
 intro a w ⟨E,e0,r,hG,hsz,hdf,ht⟩
 rw [hC.1,hC.2.1] at hdf
 obtain ⟨Ds,hd,hnd,hD⟩:=hdf
 show LeavesInM Fence.wide 0 P fn a.tmps Rp a.defers .returning w
 rw [hd]
 exact a7K 0 hC Ds a w E rfl hnd e0 r hG hsz hD ht h
theorem b5l (h:HQ C (bodyPostM Fence.wide 0 P fn Rp) .ret s):HQ C (bodyPostM Fence.wide 0 P fn Rp) .normal s:=h
end
structure KeepsO (O:Nat→Prop) (W W1:World):Prop where
 size:W.heap.size≤W1.heap.size
 block:∀ k,k < W.heap.size→¬ O k→W1.heap[k]?=W.heap[k]?
 lib:LibW W1
def b9S (P:Program) (f:FuncId) (caps:List HV) (N:Nat) (ys:Nat→List HV):Prop:=c7o P f ∧
  ∀ (l : Nat) (W : World) (F : Addr → Prop) (cvs : List Value) (J : Nat → (Nat → Prop) → World → Prop) (Jx : Nat → World → Prop) (O0 : Nat → Prop), (∀ a, F a → a.spot = none ∧ (W.cell? a).isSome = true) → (∀ a, F a → ¬ O0 a.block) → RepAll W (Env.just F) cvs caps → LibW W →
    (∀ i O W1 W2,J i O W1→Below W1.heap.size W1 W2→J i O W2)→(∀ i W1 W2,Jx i W1→Below W1.heap.size W1 W2→Jx i W2)→(∀ i O W1,J i O W1→∀ k,O k→k < W1.heap.size) →
    (∀ i O W1 F' vs,i < N→J i O W1→(∀ a,F' a→a.spot=none∧(W1.cell? a).isSome=true)→(∀ a,F' a→¬ O a.block)→(∀ a,F' a→F a∨W.heap.size≤a.block)→RepAll W1 (Env.just F') vs (ys i) →
      YieldAt Fence.wide 0 P l vs.toArray W1 fun e W'=>KeepsO O W1 W'∧((e=.returned (.bool true)∧∃ O',J (i+1) O' W'∧∀ k,O' k→O k∨W1.heap.size≤k)∨(e=.returned (.bool false)∧Jx (i+1) W'))) →
    J 0 O0 W→Calls P f (#[.func (.yield l) #[] #[]]++cvs.toArray) W fun e W'=>(∃ v,e=.returned v)∧((∃ O,J N O W')∨∃ i,i < N∧Jx (i+1) W')
def psl:List Tmp→List HV→List (Nat×TV)→List (Nat×TV)
 | p::ps,y::ys,tm=>psl ps ys ((p,.v y)::tm)
 | _,_,tm=>tm
theorem c0l {w:World} {E:Env}:∀ (ps:List Tmp) (vs:List Value) (ys:List HV) (tm:List (Nat×TV)) (tmps:Array Value),RepAll w E vs ys→ps.length=ys.length→ps.all (fun p=>Nat.blt p tmps.size)=true→b7l tm=true →
    (∀ t x,tget tm t=some x→∀ ds,TVRep w E ⟨tmps,ds⟩ (tmps.getD t undef) x)→b7l (psl ps ys tm)=true∧∀ t x,tget (psl ps ys tm) t=some x→∀ ds,TVRep w E ⟨(ps.zip vs).foldl (fun t p=>t.setIfInBounds p.1 p.2) tmps,ds⟩ (((ps.zip vs).foldl (fun t p=>t.setIfInBounds p.1 p.2) tmps).getD t undef) x
  | [],[],[],tm,tmps,_,_,_,hV,h=>⟨hV,h⟩
  | p :: ps, v :: vs, y :: ys, tm, tmps, hr, hl, hb, hV, h => by
    rw [List.all_cons,Bool.and_eq_true] at hb
    have hp:p < tmps.size:=by simpa [Nat.blt_eq] using hb.1
    refine c0l ps vs ys ((p,.v y)::tm) (tmps.setIfInBounds p v) hr.2 (by simpa using hl) (by simpa using hb.2) hV (fun t x hx ds=>?_)
    rw [a0B] at hx
    split at hx
    · rename_i e;subst e;injection hx with hx;subst hx
      have:(tmps.setIfInBounds t v).getD t undef=v:=by simp [hp]
      rw [this];exact hr.1
    · rename_i e
      have:(tmps.setIfInBounds p v).getD t undef=tmps.getD t undef:=by simp [Array.getElem?_setIfInBounds,Ne.symm e]
      rw [this]
      obtain ⟨z,rfl⟩:=a4l hV t x hx
      exact h t _ hx ds
  | [],_::_,_::_,_,_,_,hl,_,_,_=>by simp at hl
  | [],[],_::_,_,_,hr,_,_,_,_=>hr.elim
  | [],_::_,[],_,_,hr,_,_,_,_=>hr.elim
  | _::_,[],[],_,_,_,hl,_,_,_=>by simp at hl
  | _::_,[],_::_,_,_,hr,_,_,_,_=>hr.elim
  | _::_,_::_,[],_,_,hr,_,_,_,_=>hr.elim
def c5x (C:Ctx) (l:Nat):Prop:=C.rd=some l∧C.ds=[]∧C.mks=none∧l < C.w0.heap.size∧C.K l∧∃ r,C.w0.heap[l]?=some (.loop r)
def RB (C:Ctx) (hp:List (Nat×HObj)) (c:Nat) (w:World):Prop:=∃ E,Ext C.w0 C.E0 w E∧R C.K C.w0 C.E0.F E (hget hp) w∧∀ g,E.G g→g < c
def RQ (C:Ctx) (NI:List (Nat×HObj)→Nat→Prop) (X:Exit→List (Nat×HObj)→Nat→Prop):Exit→Act→World→Prop
 | .normal,_,w=>∃ hp c,NI hp c∧RB C hp c w
 | .ret,_,w=>∃ hp c,X .ret hp c∧RB C hp c w
 | .exit id,_,w=>∃ hp c,X (.exit id) hp c∧RB C hp c w
 | _,_,_=>False
theorem Sat.rb {C:Ctx} {s:HSt} {a:Act} {w:World} (h:Sat C s a w):RB C s.hp s.clk w:=let ⟨E,e0,r,hG,_⟩:=h;⟨E,e0,r,hG⟩
section
variable {C:Ctx} {NI:List (Nat×HObj)→Nat→Prop} {X:Exit→List (Nat×HObj)→Nat→Prop} {s:HSt}
theorem a4k (h:NI s.hp s.clk):HQ C (RQ C NI X) .normal s:=fun a w hs=>⟨_,_,h,hs.rb⟩
end
def c0a (P:Program) (assign body:Code) (s:HSt) (QB:Ctx→Exit→Act→World→Prop):Prop :=
 ∀ C1 l,c5x C1 l→∀ N1:Act→World→Prop,(∀ s1,(∀ C2,c5x C2 l→HWp C2 P body s1 (QB C2))→∀ a w,Sat C1 s1 a w→N1 a w)→HWp C1 P assign s (Exit.then N1 (fun _ _ _=>False))
def Env.mark (E:Env) (D:Nat):Env:=⟨E.F,E.L,E.G,fun b=>E.M b∨b=D⟩
section
variable {K:Nat→Prop} {w0 w w':World} {F0:Addr→Prop} {E E':Env} {h h':Nat→Option HObj}
theorem Ext.mark (w:World) (E:Env) (D:Nat):Ext w E w (E.mark D):=⟨Nat.le_refl _,fun a h=>⟨h,rfl⟩,fun _ h=>h,fun _ _ h _=>h,fun _ h=>.inl h⟩
theorem R.mark (r:R K w0 F0 E h w) {D:Nat} (hD:w.heap[D]?=some (.deferred (some []))):R K w0 F0 (E.mark D) h w :=
 ⟨r.os,r.tape,r.output,r.size,r.keep,r.frz,r.fnew,r.klib,r.lib,fun b hb=>by rcases hb with hb | rfl;exact r.bks b hb;exact hD,fun id o ho=>by
  obtain ⟨l,hl,a⟩:=r.obj id o ho
  exact ⟨l,hl,a.ext (Ext.mark w E D) (fun _ _=>rfl) (fun _ _ _ h=>h)⟩,r.inj⟩
theorem R.noFl (r:R K w0 F0 E h w) (hfl:∀ id o,h id=some o→o.fl=0∨o.n < o.fl):∀ a,E.F a→KH E h a.block:=fun a ha id o l ho hl hA=>by
 obtain ⟨l2,hl2,ao⟩:=r.obj id o ho
 rw [hl] at hl2;injection hl2 with hl2;subst hl2
 obtain ⟨b,k,sp⟩:=a
 have hs:=(r.frz _ ha).1
 have hcell:=(r.frz _ ha).2
 simp only at hs hA
 subst hs
 rcases ao.at_ with ⟨h0,_⟩ | ⟨b',cs,h1,_,_,_,_,_,_,h9,h10⟩ | ⟨b',ob,h1,h2,h3,_⟩
 ·rw [h0] at hA;cases hA
 ·rw [h1] at hA;injection hA with hA;subst hA
  have:=h9 k ha
  rcases hfl id o ho with h11 | h11
  ·rw [h11,Nat.zero_mul] at this;omega
  ·omega
 ·rw [h1] at hA;injection hA with hA;subst hA
  cases h3 <;> simp [World.cell?,h2] at hcell
theorem R.notM (r:R K w0 F0 E h w) {b:Nat} {lp:Loop} (hb:w.heap[b]?=some (.loop lp)):¬ E.M b:=fun hm=>by
 rw [r.bks b hm] at hb;injection hb with hb;cases hb
end
section
variable {α:Type} {P:Program} {C:Ctx} {Q:Exit→Act→World→Prop} {n clk:Nat} {tm:List (Nat×TV)} {hp:List (Nat×HObj)} {ps:Array Tmp} {assign body:Code} {N:Nat} {ys:Nat→List HV}
def Jn (C:Ctx) (B:World) (E1:Env) (l:Nat) (rec:LoopState→Option Code→Loop) (st:α→List (Nat×HObj)) (idx:α→Nat) (I:α→Prop) (i:Nat) (O:Nat→Prop) (W:World):Prop :=
 ∃ x c Ei,idx x=i∧I x∧Ext B E1 W Ei∧R C.K C.w0 C.E0.F Ei (hget (st x)) W∧(∀ g,Ei.G g→g < c)∧W.heap[l]?=some (.loop (rec .ready none))∧∀ b,O b↔(¬ KH Ei (hget (st x)) b∨b=l)
def Jxn (C:Ctx) (B:World) (E1:Env) (l:Nat) (rec:LoopState→Option Code→Loop) (X:Exit→List (Nat×HObj)→Nat→Prop) (W:World):Prop :=
 ∃ cj hp' c Ei,((cj=Code.ret∧X .ret hp' c)∨∃ id,cj=Code.exit id∧X (.exit id) hp' c)∧Ext B E1 W Ei∧R C.K C.w0 C.E0.F Ei (hget hp') W∧(∀ g,Ei.G g→g < c)∧W.heap[l]?=some (.loop (rec .done (some cj)))
theorem b5k {B:World} {E1:Env} {l:Nat} {rec:LoopState→Option Code→Loop} {st:α→List (Nat×HObj)} {idx:α→Nat} {I:α→Prop} {i:Nat} {O:Nat→Prop} {W W2:World} (h:Jn C B E1 l rec st idx I i O W) (hb:Below W.heap.size W W2):Jn C B E1 l rec st idx I i O W2:=by
 obtain ⟨x,c,Ei,h1,h2,h3,h4,h5,h6,h7⟩:=h
 exact ⟨x,c,Ei,h1,h2,h3.trans (h4.extBelow hb),h4.growSame hb,h5,(hb.block l (a1c h6)).trans h6,h7⟩
theorem c2N {B:World} {E1:Env} {l:Nat} {rec:LoopState→Option Code→Loop} {st:α→List (Nat×HObj)} {idx:α→Nat} {I:α→Prop} {i:Nat} {O:Nat→Prop} {W:World} (h:Jn C B E1 l rec st idx I i O W):∀ k,O k→k < W.heap.size:=by
 obtain ⟨x,c,Ei,h1,h2,h3,h4,h5,h6,h7⟩:=h
 intro k hk
 rcases (h7 k).1 hk with hk | rfl
 ·unfold KH at hk
  simp only [Classical.not_forall,ne_eq,Classical.not_not] at hk
  obtain ⟨id,o,lo,q1,q2,q3⟩:=hk
  obtain ⟨lo',q4,ao⟩:=h4.obj id o q1
  rw [q2] at q4;injection q4 with q4;subst q4
  exact ao.lt q3
 ·exact a1c h6
theorem b2W {B:World} {E1:Env} {l:Nat} {rec:LoopState→Option Code→Loop} {X:Exit→List (Nat×HObj)→Nat→Prop} {W W2:World} (h:Jxn C B E1 l rec X W) (hb:Below W.heap.size W W2):Jxn C B E1 l rec X W2:=by
 obtain ⟨cj,hp',c,Ei,h1,h3,h4,h5,h6⟩:=h
 exact ⟨cj,hp',c,Ei,h1,h3.trans (h4.extBelow hb),h4.growSame hb,h5,(hb.block l (a1c h6)).trans h6⟩
theorem a9p {B:World} {E1:Env} {l:Nat} {fn:FuncId} {tmps:Array Value} {dfs:Nat} {rec:LoopState→Option Code→Loop} (hrec:rec=fun s p=>{ state:=s,pending:=p,fn,tmps:=tmps,params:=ps,assign,body,defers:=dfs })
    {st:α→List (Nat×HObj)} {idx:α→Nat} {I:α→Prop} (hl0:C.w0.heap.size≤l) (hsz:tmps.size=n) (hV:b7l tm=true) (htm:∀ t x,tget tm t=some x→∀ ds,TVRep B E1 ⟨tmps,ds⟩ (tmps.getD t undef) x) (hps:∀ i,(ys i).length=ps.size) (hpb:ps.toList.all (fun p=>Nat.blt p n)=true)
    (round:∀ x c,I x→idx x < N→c0a P assign body ⟨n,psl ps.toList (ys (idx x)) tm,st x,c⟩ (fun C2=>RQ C2 (fun hp' _=>∃ y,I y∧idx y=idx x+1∧a0f hp' (st y)) (fun e hp' c'=>HQ C Q e ⟨n,tm,hp',c'⟩)))
    (hB0:C.w0.heap.size≤B.heap.size) (i:Nat) (O:Nat→Prop) (W:World) (F':Addr→Prop) (vs:List Value) (hi:i < N) (hJ:Jn C B E1 l rec st idx I i O W) (hF1:∀ a,F' a→a.spot=none∧(W.cell? a).isSome=true) (hF2:∀ a,F' a→¬ O a.block) (hF3:∀ a,F' a→E1.F a∨B.heap.size≤a.block) (hv:RepAll W (Env.just F') vs (ys i)) :
    YieldAt Fence.wide 0 P l vs.toArray W fun e W'=>KeepsO O W W'∧((e=.returned (.bool true)∧∃ O',Jn C B E1 l rec st idx I (i+1) O' W'∧∀ k,O' k→O k∨W.heap.size≤k)∨(e=.returned (.bool false)∧Jxn C B E1 l rec (fun e hp' c'=>HQ C Q e ⟨n,tm,hp',c'⟩) W')):=by
  obtain ⟨x,c,Ei0,rfl,hI,eB0,rW0,hG,hl,hO⟩:=hJ
  obtain ⟨Ei,hEi⟩:∃ Ei:Env,Ei=⟨fun a=>Ei0.F a∨F' a,Ei0.L,Ei0.G,Ei0.M⟩:=⟨_,rfl⟩
  have hEF:∀ a,F' a→Ei.F a:=fun a ha=>by rw [hEi];exact .inr ha
  have hKH:KH Ei (hget (st x))=KH Ei0 (hget (st x)):=by rw [hEi];rfl
  have e01:Ext W Ei0 W Ei:=by rw [hEi];exact ⟨Nat.le_refl _,fun a h=>⟨.inl h,rfl⟩,fun _ h=>h,fun _ _ h _=>h,fun _ h=>h⟩
  have rW:R C.K C.w0 C.E0.F Ei (hget (st x)) W:=by
    have hfrz:∀ a,Ei.F a→a.spot=none∧(W.cell? a).isSome=true:=fun a ha=>by
      rw [hEi] at ha;rcases ha with ha | ha;exact rW0.frz a ha;exact hF1 a ha
    have hnew:∀ a,Ei.F a→C.E0.F a∨C.w0.heap.size≤a.block∨¬ C.K a.block:=fun a ha=>by
      rw [hEi] at ha
      rcases ha with ha | ha
      · exact rW0.fnew a ha
      · rcases hF3 a ha with h | h
        · exact rW0.fnew a (eB0.F a h).1
        · exact .inr (.inl (Nat.le_trans hB0 h))
    refine ⟨rW0.os,rW0.tape,rW0.output,rW0.size,rW0.keep,hfrz,hnew,rW0.klib,rW0.lib,fun b hb=>rW0.bks b (by rw [hEi] at hb;exact hb),fun id o ho=>?_,fun id id' o o' l l' b ho ho' hl hl'=>rW0.inj id id' o o' l l' b ho ho' (by rw [hEi] at hl;exact hl) (by rw [hEi] at hl';exact hl')⟩
    obtain ⟨lo,hlo,ao⟩:=rW0.obj id o ho
    refine ⟨lo,by rw [hEi];exact hlo,ao.ext e01 (fun _ _=>rfl) (fun b k hA hF=>?_)⟩
    rw [hEi] at hF
    rcases hF with hF | hF
    · exact hF
    · exact absurd ((hO b).2 (.inl (fun hk=>hk id o lo ho hlo hA))) (hF2 _ hF)
  have eB:Ext B E1 W Ei:=eB0.trans e01
  have hvl:vs.length=(ys (idx x)).length:=(hv.get).1
  have hsz':vs.toArray.size=(rec .ready none).params.size:=by rw [hrec];simp [hvl,hps]
  have hy:=run_yield (P:=P) (args:=vs.toArray) hl hsz'
  refine ⟨_,_,_,_,hy,roundIn_of_wpIn trivial ?_⟩
  have hps2:(rec .ready none).params=ps:=by rw [hrec]
  have hts2:(rec .ready none).tmps=tmps:=by rw [hrec]
  have has2:(rec .ready none).assign=assign:=by rw [hrec]
  have hbd2:(rec .ready none).body=body:=by rw [hrec]
  rw [hps2,hts2,has2,hbd2]
  have hlW:=a1c hl
  have nb:=rW.notBk hl rfl
  have hfold:(ps.zip vs.toArray).foldl (fun tmps (x:Tmp×Value)=>tmps.setIfInBounds x.1 x.2) tmps=(ps.toList.zip vs).foldl (fun t p=>t.setIfInBounds p.1 p.2) tmps:=by
    rw [←Array.foldl_toList];simp
  have hfold':(Array.foldl (fun (t:Array Value) (x:Tmp×Value)=>match x with | (p,v)=>t.setIfInBounds p v) tmps (ps.zip vs.toArray))=(ps.toList.zip vs).foldl (fun t p=>t.setIfInBounds p.1 p.2) tmps:=hfold
  rw [hfold']
  have hzs:∀ (q:List (Tmp×Value)) (t:Array Value),(q.foldl (fun t p=>t.setIfInBounds p.1 p.2) t).size=t.size:=by
    intro q
    induction q with
    | nil=>intro t;rfl
    | cons z q ih=>intro t;rw [List.foldl_cons,ih];simp
  have hjust:Ext W (Env.just F') W Ei:=Ext.just hEF
  have libA:∀ W',R C.K C.w0 C.E0.F Ei (hget (st x)) W'→LibW W':=fun _ r=>r.libw
  obtain ⟨hV0,hslots⟩:=c0l (w:=W) (E:=Ei) ps.toList vs (ys (idx x)) tm tmps (hv.ext hjust) (by simp [hps]) (by rw [hsz];exact hpb) hV (fun t y hy ds=>(htm t y hy ds).ext eB)
  have sat0:Sat ⟨KH Ei (hget (st x)),W,Ei,[],some l,none⟩ ⟨n,psl ps.toList (ys (idx x)) tm,st x,c⟩ ⟨(ps.toList.zip vs).foldl (fun t p=>t.setIfInBounds p.1 p.2) tmps,[]⟩ W :=
    ⟨Ei,Ext.refl _ _,rW.reb,(by rw [hEi];exact hG),by rw [hzs,hsz],rfl,fun t y hy=>hslots t y hy []⟩
  refine round x c hI hi ⟨KH Ei (hget (st x)),W,Ei,[],some l,none⟩ l ⟨rfl,rfl,rfl,hlW,nb.2,_,hl⟩ _ (fun s1 hb a1 Wa hsat=>?_) _ W sat0
  obtain ⟨Ea,ea,ra,hGa,hsza,hdfa,hta⟩:=hsat
  have rA:=rW.unreb ra
  have hla:Wa.heap[l]?=some (.loop (rec .ready none)):=(ra.keep l hlW nb.2).trans hl
  have hlaW:=a1c hla
  have hst:(rec .ready none).state=.ready:=by rw [hrec]
  refine ⟨_,run_beginRound hla hst,?_⟩
  obtain ⟨e2,r2⟩:=rA.book hla rfl hl0 (rA.notM hla) (Bk.put Wa l (.loop { rec .ready none with state:=.busy }))
  have hl2:(Wa.putObj l (.loop { rec .ready none with state:=.busy })).heap[l]?=some (.loop { rec .ready none with state:=.busy }):=World.putObj_heap_same hlaW
  have nb2:=r2.notBk hl2 rfl
  have hl2W:=a1c hl2
  have hda:a1.defers=[]:=hdfa
  have sat2:Sat ⟨KH Ea (hget s1.hp),Wa.putObj l (.loop { rec .ready none with state:=.busy }),Ea,[],some l,none⟩ s1 a1 (Wa.putObj l (.loop { rec .ready none with state:=.busy })) :=
    ⟨Ea,Ext.refl _ _,r2.reb,hGa,hsza,hda,fun t y hy=>(hta t y hy).ext e2⟩
  refine wpIn_mono (hb ⟨KH Ea (hget s1.hp),_,Ea,[],some l,none⟩ ⟨rfl,rfl,rfl,hl2W,nb2.2,_,hl2⟩ a1 _ sat2) (fun e a' W3 hq=>?_)
  have fin:∀ (jump:Option Code) (hp':List (Nat×HObj)) (c':Nat),RB ⟨KH Ea (hget s1.hp),Wa.putObj l (.loop { rec .ready none with state:=.busy }),Ea,[],some l,none⟩ hp' c' W3 →
      ∃ W4 E3,(Instr.endRound l jump).run P W3=.ok (.bool jump.isNone) W4∧KeepsO O W W4∧(∀ k,¬ KH E3 (hget hp') k→O k∨W.heap.size≤k)∧Ext B E1 W4 E3∧R C.K C.w0 C.E0.F E3 (hget hp') W4∧(∀ g,E3.G g→g < c')∧W4.heap[l]?=some (.loop (rec (if jump.isNone then .ready else .done) jump)):=by
    intro jump hp' c' ⟨E3,e3,r3,hG3⟩
    have hl3:W3.heap[l]?=some (.loop { rec .ready none with state:=.busy }):=(r3.keep l hl2W nb2.2).trans hl2
    have r3':=r2.unreb r3
    obtain ⟨e4,r4⟩:=r3'.book hl3 rfl hl0 (r3'.notM hl3) (Bk.put W3 l (.loop { ({ rec .ready none with state:=.busy }:Loop) with state:=if jump.isNone then .ready else .done,pending:=jump }))
    have own2:∀ k,k < W.heap.size→¬ O k→KH Ea (hget s1.hp) k:=fun k hk hno=>Classical.byContradiction fun hn=>by
      unfold KH at hn
      simp only [Classical.not_forall,ne_eq,Classical.not_not] at hn
      obtain ⟨id,o,lo,q1,q2,q3⟩:=hn
      obtain ⟨lo',q4,ao⟩:=ra.obj id o q1
      rw [q2] at q4;injection q4 with q4;subst q4
      have:=ao.notK q3 hk
      rw [hKH] at this
      exact hno ((hO k).2 (.inl this))
    refine ⟨_,E3,run_endRound jump hl3,⟨?_,fun k hk hno=>?_,r4.libw⟩,fun k hk=>?_,eB.trans (ea.trans (e2.trans (e3.trans e4))),r4,hG3,?_⟩
    · exact Nat.le_trans ea.sz (Nat.le_trans e2.sz (Nat.le_trans e3.sz e4.sz))
    · have hkl:k≠l:=fun e=>hno ((hO k).2 (.inr e))
      have hk1:KH Ei (hget (st x)) k:=by rw [hKH];exact Classical.byContradiction fun h=>hno ((hO k).2 (.inl h))
      have hka:k < Wa.heap.size:=Nat.lt_of_lt_of_le hk ea.sz
      have hk2:k < (Wa.putObj l (.loop { rec .ready none with state:=.busy })).heap.size:=by rw [World.putObj_size];exact hka
      rw [World.putObj_heap_other hkl,r3.keep k hk2 (own2 k hk hno),World.putObj_heap_other hkl]
      exact ra.keep k hk hk1
    · rcases Nat.lt_or_ge k W.heap.size with h | h
      · left
        refine Classical.byContradiction fun hno=>hk (fun id o lo q1 q2 q3=>?_)
        obtain ⟨lo',q4,ao⟩:=r3.obj id o q1
        rw [q2] at q4;injection q4 with q4;subst q4
        have hk2:k < (Wa.putObj l (.loop { rec .ready none with state:=.busy })).heap.size:=by rw [World.putObj_size];exact Nat.lt_of_lt_of_le h ea.sz
        exact ao.notK q3 hk2 (own2 k h hno)
      · exact .inr h
    · rw [World.putObj_heap_same (a1c hl3),hrec]
  cases e with
  | normal =>
    obtain ⟨hp',c',⟨y,hy1,hy2,hy3⟩,hrb⟩:=hq
    obtain ⟨W4,E3,h1,hk,ho,h2,h3,h4,h5⟩:=fin none hp' c' hrb
    refine ⟨_,W4,h1,hk,.inl ⟨rfl,_,⟨y,c',E3,hy2,hy1,h2,h3.weak hy3,h4,h5,fun b=>Iff.rfl⟩,fun k hk'=>?_⟩⟩
    rcases hk' with hk' | rfl
    · refine ho k (fun hK=>hk' (fun id o' lo q1 q2=>?_))
      obtain ⟨o,q3,_⟩:=hy3 id o' q1
      exact hK id o lo q3 q2
    · exact .inl ((hO k).2 (.inr rfl))
  | ret =>
    obtain ⟨hp',c',hX,hrb⟩:=hq
    obtain ⟨W4,E3,h1,hk,_,h2,h3,h4,h5⟩:=fin (some .ret) hp' c' hrb
    exact ⟨_,W4,h1,hk,.inr ⟨rfl,.ret,hp',c',E3,.inl ⟨rfl,hX⟩,h2,h3,h4,h5⟩⟩
  | exit id =>
    obtain ⟨hp',c',hX,hrb⟩:=hq
    obtain ⟨W4,E3,h1,hk,_,h2,h3,h4,h5⟩:=fin (some (.exit id)) hp' c' hrb
    exact ⟨_,W4,h1,hk,.inr ⟨rfl,.exit id,hp',c',E3,.inr ⟨id,rfl,hX⟩,h2,h3,h4,h5⟩⟩
  | goto t=>exact hq.elim
  | panic ch=>exact hq.elim
  | outgrown=>exact hq.elim
end
section
variable {α:Type} {P:Program} {C:Ctx} {Q:Exit→Act→World→Prop} {n clk:Nat} {tm:List (Nat×TV)} {hp:List (Nat×HObj)} {ps:Array Tmp} {assign body:Code} {N:Nat} {ys:Nat→List HV}
theorem a5G (w:World) (E:Env):a9N w E []:=fun _ _ h=>by cases h
theorem a8v {B:World} {E1:Env} {l:Nat} {fn:FuncId} {tmps:Array Value} {dfs:Nat} {rec:LoopState→Option Code→Loop} (hrec:rec=fun s p=>{ state:=s,pending:=p,fn,tmps:=tmps,params:=ps,assign,body,defers:=dfs })
  {st:α→List (Nat×HObj)} {idx:α→Nat} {I:α→Prop} (hl0:C.w0.heap.size≤l) (a':Act) (sat:∀ (hp':List (Nat×HObj)) (c':Nat) (Ei:Env) (W:World),Ext B E1 W Ei→R C.K C.w0 C.E0.F Ei (hget hp') W→(∀ g,Ei.G g→g < c')→Sat C ⟨n,tm,hp',c'⟩ a' W)
  (done:∀ x c,I x→idx x=N→HQ C Q .normal ⟨n,tm,st x,c⟩) (W:World)
  (h:(∃ O,Jn C B E1 l rec st idx I N O W)∨∃ i,i < N∧Jxn C B E1 l rec (fun e hp' c'=>HQ C Q e ⟨n,tm,hp',c'⟩) W) :
  ∃ jump W2,(Instr.endLoop l).run P W=.ok jump W2∧(match jump with | none=>Q .normal a' W2 | some c=>c.wpIn (b7D C.rd) 0 P Q a' W2):=by
 rcases h with ⟨_,x,c,Ei,h1,h2,h3,h4,h5,h6,_⟩ | ⟨i,_,cj,hp',c,Ei,h1,h3,h4,h5,h6⟩
 ·obtain ⟨e2,r2⟩:=h4.book h6 rfl hl0 (h4.notM h6) (Bk.put W l (.loop { rec .ready none with state:=.exhausted }))
  refine ⟨none,_,?_,done x c h2 h1 a' _ (sat _ _ Ei _ (h3.trans e2) r2 h5)⟩
  have:=run_endLoop (P:=P) h6 (by rw [hrec];simp)
  rw [hrec] at this ⊢
  exact this
 ·obtain ⟨e2,r2⟩:=h4.book h6 rfl hl0 (h4.notM h6) (Bk.put W l (.loop { rec .done (some cj) with state:=.exhausted }))
  refine ⟨some cj,W.putObj l (.loop { rec .done (some cj) with state:=.exhausted }),?_,?_⟩
  ·have:=run_endLoop (P:=P) h6 (by rw [hrec];simp)
   rw [hrec] at this ⊢
   exact this
  ·have hs:=sat _ _ Ei _ (h3.trans e2) r2 h5
   rcases h1 with ⟨rfl,hX⟩ | ⟨id,rfl,hX⟩
   ·exact wpIn_ret (hX a' _ hs)
   ·exact wpIn_exit (hX a' _ hs)
theorem a8a {t:Nat} {f:FuncId} {m:Nat} {cfs:Nat→HV} {cs caps:List HV} (hC:C.rd=none∧C.ds=[]∧C.mks=some C.w0.heap.size)
    (hit:b9S P f caps N ys) (ht:tget tm t=some (.v (.fn (.func f) m cfs))) (hcs:cs.length=m) (hci:∀ i,i < m→cs[i]?=some (cfs i)) (hz:FzAll [] cs caps)
    (hV:b7l tm=true) (hps:∀ i,(ys i).length=ps.size) (hpb:ps.toList.all (fun p=>Nat.blt p n)=true)
    (st:α→List (Nat×HObj)) (idx:α→Nat) (I:α→Prop) (x0:α) (h0:I x0) (hi0:idx x0=0) (hs0:a0f hp (st x0)) (hfl:((st x0).all fun p=>p.2.fl == 0||Nat.blt p.2.n p.2.fl)=true)
    (round:∀ x c,I x→idx x < N→c0a P assign body ⟨n,psl ps.toList (ys (idx x)) tm,st x,c⟩ (fun C2=>RQ C2 (fun hp' _=>∃ y,I y∧idx y=idx x+1∧a0f hp' (st y)) (fun e hp' c'=>HQ C Q e ⟨n,tm,hp',c'⟩)))
    (done:∀ x c,I x→idx x=N→HQ C Q .normal ⟨n,tm,st x,c⟩):HWp C P (.rangeFunc (.tmp t) ps assign body) ⟨n,tm,hp,clk⟩ Q:=by
  intro a w ⟨E,e0,r,hG,hsz,hdf,htm⟩
  have hfn:Rep w E (a.eval (.tmp t)) (.fn (.func f) m cfs):=htm t _ ht
  rw [hC.1]
  refine wpIn_rangeFunc fun fn _=>?_
  generalize hρ:a.eval (.tmp t)=u at hfn
  cases hfn with
  | fn _ vcs _ _ vs hn hv hr =>
    have hcap:=b1A hn hv hr hcs hci
    obtain ⟨rec,hrec⟩:∃ rec:LoopState→Option Code→Loop,rec=fun s p=>{ state:=s,pending:=p,fn,tmps:=a.tmps,params:=ps,assign,body,defers:=w.heap.size }:=⟨_,rfl⟩
    obtain ⟨W1,hW1⟩:∃ W1,(w.alloc (.deferred (some []))).alloc (.loop (rec .ready none))=W1:=⟨_,rfl⟩
    have hbel:Below w.heap.size w W1:=by rw [←hW1];exact (((Below.refl _ w).alloc (Nat.le_refl _) _).alloc (by simp) _)
    have hD1:W1.heap[w.heap.size]?=some (.deferred (some [])):=by
      rw [←hW1];exact (Below.heap_alloc _ _ _ (by simp)).trans (World.alloc_heap_new w _)
    have hL1:W1.heap[w.heap.size+1]?=some (.loop (rec .ready none)):=by
      rw [←hW1];have:=World.alloc_heap_new (w.alloc (.deferred (some []))) (.loop (rec .ready none));rwa [World.size_alloc] at this
    have e1:Ext w E W1 (E.mark w.heap.size):=(r.extBelow hbel).trans (Ext.mark _ _ _)
    have r1:R C.K C.w0 C.E0.F (E.mark w.heap.size) (hget hp) W1:=(r.growSame hbel).mark hD1
    have hw0:C.w0.heap.size≤w.heap.size+1:=Nat.le_succ_of_le r.size
    refine ⟨w.heap.size+1,[{ target:=.collected w.heap.size,args:=#[] }],W1,{ target:=.fn (.func f) vcs,args:=#[.func (.yield (w.heap.size+1)) #[] #[]] },W1,f,
      #[.func (.yield (w.heap.size+1)) #[] #[]]++vcs,W1,?_,?_,fun _ _=>trivial,?_,a5e,?_⟩
    · rw [←hW1,hrec];exact run_enterLoop_outer _ _ _ _ _
    · simp only [resolve,hρ]
      simp [go_sem]
    · have:=a0R hit.1 (#[.func (.yield (w.heap.size+1)) #[] #[]]++vcs) W1
      simp only [invoke]
      exact this
    · refine a7h (r:=none) ?_
      have hfr:∀ p,E.F p→p.spot=none∧(W1.cell? p).isSome=true:=fun p hp=>by
        have:=r.frz p hp
        exact ⟨this.1,by rw [(e1.F p hp).2];exact this.2⟩
      have hcap1:RepAll W1 (Env.just E.F) vcs.toList caps:=by
        have:=hz.sound (a5G W1 (E.mark w.heap.size)) (hcap.ext e1)
        exact this
      have hfo:∀ p,E.F p→¬ (¬ KH (E.mark w.heap.size) (hget (st x0)) p.block∨p.block=w.heap.size+1):=fun p hp=>by
        rintro (h | h)
        · exact h ((r1.weak hs0).noFl (fun id o ho=>by have:=List.all_eq_true.1 hfl _ (a1C ho);simpa [Nat.blt_eq] using this) p hp)
        · exact ((r1.weak hs0).notBk hL1 rfl).1 p hp h
      have hslots:∀ t x,tget tm t=some x→∀ ds,TVRep W1 (E.mark w.heap.size) ⟨a.tmps,ds⟩ (a.tmps.getD t undef) x:=fun t x hx ds=>by
        obtain ⟨z,rfl⟩:=a4l hV t x hx
        exact (htm t _ hx).ext e1
      have hc:=hit.2 (w.heap.size+1) W1 E.F vcs.toList (Jn C W1 (E.mark w.heap.size) (w.heap.size+1) rec st idx I) (fun _=>Jxn C W1 (E.mark w.heap.size) (w.heap.size+1) rec (fun e hp' c'=>HQ C Q e ⟨n,tm,hp',c'⟩))
        _ hfr hfo hcap1 r1.libw (fun i O W2 W3 h hb=>b5k h hb) (fun i W2 W3 h hb=>b2W h hb) (fun i O W2 h=>c2N h)
        (fun i O W2 F' vs2 hi hJ q1 q2 q3 hv2=>a9p hrec hw0 hsz hV hslots hps hpb round (Nat.le_trans r.size hbel.size) i O W2 F' vs2 hi hJ q1 q2 q3 hv2)
        ⟨x0,clk,E.mark w.heap.size,hi0,h0,Ext.refl _ _,r1.weak hs0,hG,hL1,fun b=>Iff.rfl⟩
      have harr:#[Value.func (.yield (w.heap.size+1)) #[] #[]]++vcs.toList.toArray=#[.func (.yield (w.heap.size+1)) #[] #[]]++vcs:=by simp
      rw [harr] at hc
      refine Calls.mono hc (fun e W2 ⟨⟨v,he⟩,hj⟩=>?_)
      subst he
      have hsat:∀ (hp':List (Nat×HObj)) (c':Nat) (Ei:Env) (W:World),Ext W1 (E.mark w.heap.size) W Ei→R C.K C.w0 C.E0.F Ei (hget hp') W→(∀ g,Ei.G g→g < c')→Sat C ⟨n,tm,hp',c'⟩ { a with defers:=[⟨.collected w.heap.size,#[]⟩]++a.defers } W:=by
        intro hp' c' Ei W e2 r2 hG2
        refine ⟨Ei,e0.trans (e1.trans e2),r2,hG2,hsz,?_,fun t x hx=>?_⟩
        · rw [hC.2.1,hC.2.2] at hdf ⊢
          obtain ⟨Ds,h1,h2,h3⟩:=hdf
          refine ⟨w.heap.size::Ds,by rw [h1];rfl,List.nodup_cons.2 ⟨fun hm=>?_,h2⟩,fun D hD=>?_⟩
          · exact absurd (a1c (r.bks _ (h3 _ hm).1)) (Nat.lt_irrefl _)
          · rcases List.mem_cons.1 hD with rfl | hD
            · exact ⟨e2.M _ (.inr rfl),r.size⟩
            · exact ⟨e2.M _ (e1.M _ (h3 D hD).1),(h3 D hD).2⟩
        · obtain ⟨z,rfl⟩:=a4l hV t x hx
          exact (htm t _ hx).ext (e1.trans e2)
      obtain ⟨jump,W3,h1,h2⟩:=a8v hrec hw0 _ hsat done W2 hj
      rw [hC.1] at h2
      exact ⟨jump,W3,h1,h2⟩
theorem b8V {t l0:Nat} {f:FuncId} {m:Nat} {cfs:Nat→HV} {cs caps:List HV} (hC:c5x C l0)
    (hit:b9S P f caps N ys) (ht:tget tm t=some (.v (.fn (.func f) m cfs))) (hcs:cs.length=m) (hci:∀ i,i < m→cs[i]?=some (cfs i)) (hz:FzAll [] cs caps)
    (hV:b7l tm=true) (hps:∀ i,(ys i).length=ps.size) (hpb:ps.toList.all (fun p=>Nat.blt p n)=true)
    (st:α→List (Nat×HObj)) (idx:α→Nat) (I:α→Prop) (x0:α) (h0:I x0) (hi0:idx x0=0) (hs0:a0f hp (st x0)) (hfl:((st x0).all fun p=>p.2.fl == 0||Nat.blt p.2.n p.2.fl)=true)
    (round:∀ x c,I x→idx x < N→c0a P assign body ⟨n,psl ps.toList (ys (idx x)) tm,st x,c⟩ (fun C2=>RQ C2 (fun hp' _=>∃ y,I y∧idx y=idx x+1∧a0f hp' (st y)) (fun e hp' c'=>HQ C Q e ⟨n,tm,hp',c'⟩)))
    (done:∀ x c,I x→idx x=N→HQ C Q .normal ⟨n,tm,st x,c⟩):HWp C P (.rangeFunc (.tmp t) ps assign body) ⟨n,tm,hp,clk⟩ Q:=by
  intro a w ⟨E,e0,r,hG,hsz,hdf,htm⟩
  obtain ⟨hr1,hr2,hr3,hr4,hr5,r0,hr6⟩:=hC
  have hfn:Rep w E (a.eval (.tmp t)) (.fn (.func f) m cfs):=htm t _ ht
  have hl0:w.heap[l0]?=some (.loop r0):=(r.keep l0 hr4 hr5).trans hr6
  rw [hr1]
  refine wpIn_rangeFunc fun fn _=>?_
  generalize hρ:a.eval (.tmp t)=u at hfn
  cases hfn with
  | fn _ vcs _ _ vs hn hv hr =>
    have hcap:=b1A hn hv hr hcs hci
    obtain ⟨rec,hrec⟩:∃ rec:LoopState→Option Code→Loop,rec=fun s p=>{ state:=s,pending:=p,fn,tmps:=a.tmps,params:=ps,assign,body,defers:=r0.defers }:=⟨_,rfl⟩
    obtain ⟨W1,hW1⟩:∃ W1,w.alloc (.loop (rec .ready none))=W1:=⟨_,rfl⟩
    have hbel:Below w.heap.size w W1:=by rw [←hW1];exact ((Below.refl _ w).alloc (Nat.le_refl _) _)
    have hL1:W1.heap[w.heap.size]?=some (.loop (rec .ready none)):=by rw [←hW1];exact World.alloc_heap_new w _
    have e1:Ext w E W1 E:=r.extBelow hbel
    have r1:R C.K C.w0 C.E0.F E (hget hp) W1:=r.growSame hbel
    refine ⟨w.heap.size,[],W1,{ target:=.fn (.func f) vcs,args:=#[.func (.yield w.heap.size) #[] #[]] },W1,f,
      #[.func (.yield w.heap.size) #[] #[]]++vcs,W1,?_,?_,fun _ _=>trivial,?_,a5e,?_⟩
    · rw [←hW1,hrec];exact run_enterLoop_inner hl0 _ _ _ _ _
    · simp only [resolve,hρ]
      simp [go_sem]
    · have:=a0R hit.1 (#[.func (.yield w.heap.size) #[] #[]]++vcs) W1
      simp only [invoke]
      exact this
    · refine a7h (r:=some l0) ?_
      have hfr:∀ p,E.F p→p.spot=none∧(W1.cell? p).isSome=true:=fun p hp=>by
        have:=r.frz p hp
        exact ⟨this.1,by rw [(e1.F p hp).2];exact this.2⟩
      have hcap1:RepAll W1 (Env.just E.F) vcs.toList caps:=hz.sound (a5G W1 E) (hcap.ext e1)
      have hfo:∀ p,E.F p→¬ (¬ KH E (hget (st x0)) p.block∨p.block=w.heap.size):=fun p hp=>by
        rintro (h | h)
        · exact h ((r1.weak hs0).noFl (fun id o ho=>by have:=List.all_eq_true.1 hfl _ (a1C ho);simpa [Nat.blt_eq] using this) p hp)
        · exact ((r1.weak hs0).notBk hL1 rfl).1 p hp h
      have hslots:∀ t x,tget tm t=some x→∀ ds,TVRep W1 E ⟨a.tmps,ds⟩ (a.tmps.getD t undef) x:=fun t x hx ds=>by
        obtain ⟨z,rfl⟩:=a4l hV t x hx
        exact (htm t _ hx).ext e1
      have hc:=hit.2 w.heap.size W1 E.F vcs.toList (Jn C W1 E w.heap.size rec st idx I) (fun _=>Jxn C W1 E w.heap.size rec (fun e hp' c'=>HQ C Q e ⟨n,tm,hp',c'⟩))
        _ hfr hfo hcap1 r1.libw (fun i O W2 W3 h hb=>b5k h hb) (fun i W2 W3 h hb=>b2W h hb) (fun i O W2 h=>c2N h)
        (fun i O W2 F' vs2 hi hJ q1 q2 q3 hv2=>a9p hrec r.size hsz hV hslots hps hpb round (Nat.le_trans r.size hbel.size) i O W2 F' vs2 hi hJ q1 q2 q3 hv2)
        ⟨x0,clk,E,hi0,h0,Ext.refl _ _,r1.weak hs0,hG,hL1,fun b=>Iff.rfl⟩
      have harr:#[Value.func (.yield w.heap.size) #[] #[]]++vcs.toList.toArray=#[.func (.yield w.heap.size) #[] #[]]++vcs:=by simp
      rw [harr] at hc
      refine Calls.mono hc (fun e W2 ⟨⟨v,he⟩,hj⟩=>?_)
      subst he
      have hsat:∀ (hp':List (Nat×HObj)) (c':Nat) (Ei:Env) (W:World),Ext W1 E W Ei→R C.K C.w0 C.E0.F Ei (hget hp') W→(∀ g,Ei.G g→g < c')→Sat C ⟨n,tm,hp',c'⟩ { a with defers:=[]++a.defers } W:=by
        intro hp' c' Ei W e2 r2 hG2
        refine ⟨Ei,e0.trans (e1.trans e2),r2,hG2,hsz,?_,fun t x hx=>?_⟩
        · exact hdf.ext (e1.trans e2)
        · obtain ⟨z,rfl⟩:=a4l hV t x hx
          exact (htm t _ hx).ext (e1.trans e2)
      obtain ⟨jump,W3,h1,h2⟩:=a8v hrec r.size _ hsat done W2 hj
      rw [hr1] at h2
      exact ⟨jump,W3,h1,h2⟩
end
section
variable {P:Program} {Post:HEnd→List (Nat×HObj)→Nat→Prop}
theorem a8V {f:FuncId} {fn:Func} {c:Code} (hf:P.funcs[f]?=some fn) (hb:fn.body=some c) (hn:(fn.name == "runtime.NumGoroutine")=false) (args:List HV) (r:HV) (tm:List (Nat×TV)) (htm:a7v 0 args=tm) (n:Nat) (hnt:fn.ntmps=n) (hlen:Nat.ble args.length n=true)
  (h:∀ w F,HWp (Ctx.topM w F) P c ⟨n,tm,[],0⟩ (bodyPostM Fence.wide 0 P fn (a0Z w F r))):HPure P f args r:=by
 refine ⟨⟨fn,c,hf,hb,hn⟩,fun w F vs hF hr hw=>callsIn_wide.1 (callsIn_of_wp_marks (F:=Fence.wide) (n:=0) hf hb trivial (h w F _ w ?_))⟩
 obtain ⟨hl,hg⟩:=hr.get
 have hlen:args.length≤n:=by simpa using hlen
 refine ⟨Env.just F,Ext.refl _ _,⟨rfl,rfl,rfl,Nat.le_refl _,fun _ _ _=>rfl,hF,fun a ha=>.inl ha,fun _ _=>trivial,hw,(fun b hb=>hb.elim),(fun id o ho=>by cases ho),(fun id id' o o' l l' b ho=>by cases ho)⟩,fun g hg=>hg.elim,?_,⟨[],rfl,List.nodup_nil,fun D hD=>by cases hD⟩,fun t x hx=>?_⟩
 ·simp [hl,hnt];omega
 ·rw [←htm] at hx
  obtain ⟨i,y,rfl,h2,rfl⟩:=a2j args 0 t x hx
  obtain ⟨v,hv,hrep⟩:=hg i y h2
  have hi:i < vs.length:=by
   rcases Nat.lt_or_ge i vs.length with h | h
   ·exact h
   ·rw [List.getElem?_eq_none h] at hv;cases hv
  have:(vs.toArray++Array.replicate (fn.ntmps - vs.toArray.size) undef).getD (0+i) undef=v:=by
   rw [Nat.zero_add]
   simp only [Array.getD_eq_getD_getElem?]
   rw [Array.getElem?_append_left (by simpa using hi)]
   simp [hv]
  show Rep w _ _ y
  rw [this]
  exact hrep
theorem b0H {f:FuncId} {fn:Func} {c:Code} (hf:P.funcs[f]?=some fn) (hb:fn.body=some c) (hn:(fn.name == "runtime.NumGoroutine")=false) (clk:Nat) (args:List HV) (pre:List (Nat×HObj)) (tm:List (Nat×TV)) (htm:a7v 0 args=tm) (n:Nat) (hnt:fn.ntmps=n) (hlen:Nat.ble args.length n=true)
  (h:∀ X:Clr,X.Ok→X.pre=pre→(∀ b,X.E.M b→b < X.w.heap.size)→HWp X.ctxM P c ⟨n,tm,pre,clk⟩ (bodyPostM Fence.wide 0 P fn (a1v X Post))):a4s P f clk args pre Post:=by
 refine ⟨⟨fn,c,hf,hb,hn⟩,fun X vs ok hX hr hG=>callsIn_wide.1 (callsIn_of_wp_marks (F:=Fence.wide) (n:=0) hf hb trivial (h X ok hX (fun b hb=>a1c (ok.r.bks b hb)) _ X.w ?_))⟩
 obtain ⟨hl,hg⟩:=hr.get
 have hlen:args.length≤n:=by simpa using hlen
 have rs:=ok.start
 rw [hX] at rs
 refine ⟨X.E,Ext.refl _ _,rs,hG,?_,⟨[],rfl,List.nodup_nil,fun D hD=>by cases hD⟩,fun t x hx=>?_⟩
 ·simp [hl,hnt];omega
 ·rw [←htm] at hx
  obtain ⟨i,y,rfl,h2,rfl⟩:=a2j args 0 t x hx
  obtain ⟨v,hv,hrep⟩:=hg i y h2
  have hi:i < vs.length:=by
   rcases Nat.lt_or_ge i vs.length with h | h
   ·exact h
   ·rw [List.getElem?_eq_none h] at hv;cases hv
  have:(vs.toArray++Array.replicate (fn.ntmps - vs.toArray.size) undef).getD (0+i) undef=v:=by
   rw [Nat.zero_add]
   simp only [Array.getD_eq_getD_getElem?]
   rw [Array.getElem?_append_left (by simpa using hi)]
   simp [hv]
  show Rep X.w _ _ y
  rw [this]
  exact hrep
theorem a7j {w:World} {F:Addr→Prop} {fn:Func} {Rp:Ending→World→Prop} {s:HSt} (h:HQ (Ctx.top w F) (bodyPost P fn Rp) .ret s):HQ (Ctx.topM w F) (bodyPostM Fence.wide 0 P fn Rp) .ret s:=b8a ⟨rfl,rfl,fun b hb=>hb.elim⟩ h
theorem b4u {X:Clr} {fn:Func} {Rp:Ending→World→Prop} {s:HSt} (hM:∀ b,X.E.M b→b < X.w.heap.size) (h:HQ X.ctx (bodyPost P fn Rp) .ret s):HQ X.ctxM (bodyPostM Fence.wide 0 P fn Rp) .ret s:=b8a ⟨rfl,rfl,hM⟩ h
end
structure ItX (P:Program) where
 l:Nat
 W0:World
 F0:Addr→Prop
 J:Nat→(Nat→Prop)→World→Prop
 Jx:Nat→World→Prop
 N:Nat
 ys:Nat→List HV
 jb:∀ i O W1 W2,J i O W1→Below W1.heap.size W1 W2→J i O W2
 ob:∀ i O W1,J i O W1→∀ k,O k→k < W1.heap.size
 jxb:∀ i W1 W2,Jx i W1→Below W1.heap.size W1 W2→Jx i W2
 yl:∀ i O W1 F' vs,i < N→J i O W1→(∀ a,F' a→a.spot=none∧(W1.cell? a).isSome=true)→(∀ a,F' a→¬ O a.block)→(∀ a,F' a→F0 a∨W0.heap.size≤a.block)→RepAll W1 (Env.just F') vs (ys i) →
   YieldAt Fence.wide 0 P l vs.toArray W1 fun e W'=>KeepsO O W1 W'∧((e=.returned (.bool true)∧∃ O',J (i+1) O' W'∧∀ k,O' k→O k∨W1.heap.size≤k)∨(e=.returned (.bool false)∧Jx (i+1) W'))
structure FrOk (P:Program) (X:ItX P) (W:World) (F:Addr→Prop):Prop where
 frz:∀ a,F a→a.spot=none∧(W.cell? a).isSome=true
 new:∀ a,F a→X.F0 a∨X.W0.heap.size≤a.block
 size:X.W0.heap.size≤W.heap.size
 lib:LibW W
structure GoodW (P:Program) (X:ItX P) (i:Nat) (O:Nat→Prop) (W:World) (F:Addr→Prop):Prop where
 j:X.J i O W
 fr:FrOk P X W F
 own:∀ a,F a→¬ O a.block
def c3q (P:Program) (X:ItX P) (e:Ending) (w:World):Prop:=(∃ v,e=.returned v)∧((∃ O,X.J X.N O w)∨∃ i,i < X.N∧X.Jx (i+1) w)
section
variable {P:Program} {X:ItX P} {fn:Func} {Q:Exit→Act→World→Prop} {n clk:Nat} {tm:List (Nat×TV)} {hp:List (Nat×HObj)}
theorem b2r {W w:World} {F0:Addr→Prop} {E:Env} {h:Nat→Option HObj} (r:R (fun _=>True) W F0 E h w):Below W.heap.size W w :=
 ⟨r.os,r.tape,r.output,r.size,fun k hk=>r.keep k hk trivial⟩
def b2E (tm tm':List (Nat×TV)):Prop:=∀ t x,tget tm' t=some x→∃ y z,x=.v z∧tget tm t=some (.v y)∧Fz [] y z
theorem b2E.nil {tm:List (Nat×TV)}:b2E tm []:=fun t x h=>by cases h
theorem b2E.cons {tm r:List (Nat×TV)} {t:Nat} {y z:HV} (h:tget tm t=some (.v y)) (hz:Fz [] y z) (hr:b2E tm r):b2E tm ((t,.v z)::r):=fun t' x h'=>by
 rw [a0B] at h'
 split at h'
 ·rename_i e;subst e;injection h' with h';subst h';exact ⟨y,z,rfl,h,hz⟩
 ·exact hr t' x h'
theorem b5r {f:FuncId} {c:Code} (hf:P.funcs[f]?=some fn) (hb:fn.body=some c) (hn:(fn.name == "runtime.NumGoroutine")=false) (caps:List HV) (N:Nat) (ys:Nat→List HV) (tm:List (Nat×TV)) (htm:a7v 1 caps=tm) (n:Nat) (hnt:fn.ntmps=n) (hlen:Nat.ble (caps.length+1) n=true)
  (h:∀ X:ItX P,X.N=N→X.ys=ys→∀ O W F,GoodW P X 0 O W F→HWp (Ctx.top W F) P c ⟨n,(0,.v (.fn (.yield X.l) 0 fun _=>default))::tm,[],0⟩ (bodyPost P fn (c3q P X))):b9S P f caps N ys:=by
 refine ⟨⟨fn,c,hf,hb,hn⟩,fun l W F cvs J Jx O0 hF hFO hr hw hjb hjxb hob hyl hj=>?_⟩
 have key:=h ⟨l,W,F,J,Jx,N,ys,hjb,hob,hjxb,hyl⟩ rfl rfl O0 W F ⟨hj,⟨hF,fun a ha=>.inl ha,Nat.le_refl _,hw⟩,hFO⟩
 refine calls_of_wp hf hb (a6N.1 (key _ W ?_))
 obtain ⟨hl,hg⟩:=hr.get
 have hlen:caps.length+1≤n:=by simpa using hlen
 refine ⟨Env.just F,Ext.refl _ _,⟨rfl,rfl,rfl,Nat.le_refl _,fun _ _ _=>rfl,hF,fun a ha=>.inl ha,fun _ _=>trivial,hw,(fun b hb=>hb.elim),(fun id o ho=>by cases ho),(fun id id' o o' l l' b ho=>by cases ho)⟩,fun g hg=>hg.elim,?_,rfl,fun t x hx=>?_⟩
 ·simp [hl,hnt];omega
 ·rw [a0B] at hx
  split at hx
  ·rename_i e;subst e;injection hx with hx;subst hx
   have:((#[Value.func (.yield l) #[] #[]]++cvs.toArray)++Array.replicate (fn.ntmps - (#[Value.func (.yield l) #[] #[]]++cvs.toArray).size) undef).getD 0 undef=.func (.yield l) #[] #[]:=by
    simp only [Array.getD_eq_getD_getElem?]
    rw [Array.getElem?_append_left (by simp),Array.getElem?_append_left (by simp)]
    rfl
   show Rep W _ _ _
   rw [this]
   exact .fn _ _ _ _ (fun _=>undef) rfl (fun i hi=>absurd hi (Nat.not_lt_zero _)) (fun i hi=>absurd hi (Nat.not_lt_zero _))
  ·rw [←htm] at hx
   obtain ⟨i,y,rfl,h2,rfl⟩:=a2j caps 1 t x hx
   obtain ⟨v,hv,hrep⟩:=hg i y h2
   have hi:i < cvs.length:=by
    rcases Nat.lt_or_ge i cvs.length with h | h
    ·exact h
    ·rw [List.getElem?_eq_none h] at hv;cases hv
   have:((#[Value.func (.yield l) #[] #[]]++cvs.toArray)++Array.replicate (fn.ntmps - (#[Value.func (.yield l) #[] #[]]++cvs.toArray).size) undef).getD (1+i) undef=v:=by
    simp only [Array.getD_eq_getD_getElem?]
    rw [Array.getElem?_append_left (by simp;omega),Array.getElem?_append_right (by simp)]
    simp [hv]
   show Rep W _ _ y
   rw [this]
   exact hrep
theorem b1f {W:World} {F:Addr→Prop} {s:HSt} (hres:fn.results=#[]) (hg:(∃ O,X.J X.N O W)∨∃ i,i < X.N∧X.Jx (i+1) W):HQ (Ctx.top W F) (bodyPost P fn (c3q P X)) .ret s:=by
 intro a w ⟨E,e0,r,hG,hsz,hdf,ht⟩
 have hb:Below W.heap.size W w:=b2r r
 refine ⟨hdf,.tuple #[],?_,⟨_,rfl⟩,?_⟩
 ·simp [results,hres,go_sem]
 ·rcases hg with ⟨O,h⟩ | ⟨i,hi,h⟩
  ·exact .inl ⟨O,X.jb _ _ _ _ h hb⟩
  ·exact .inr ⟨i,hi,X.jxb _ _ _ h hb⟩
theorem b5C {ops:Array Oper} {rest:List Oper} {ty:TypeId} {pos:String} {af:Array Edge} {W:World} {F:Addr→Prop} {i:Nat} {O:Nat→Prop} (hg:GoodW P X i O W F) (hi:i < X.N) {t d:Nat} {y0:Nat→HV} {args:List Operand} {at_:Array TypeId} {xs:List HV} (tm':List (Nat×TV))
    (h0:tget tm t=some (.v (.fn (.yield X.l) 0 y0))) (hx:a2k (a0J (tget tm)) args xs) (hz:FzAll [] xs (X.ys i)) (htm:b2E tm tm') (hlt:Nat.blt d n=true)
    (hyes:∀ O' W' F',GoodW P X (i+1) O' W' F'→HSeq (Ctx.top W' F') P ops rest ⟨n,(d,.v (.imm (.bool true)))::tm',[],0⟩ Q)
    (hno:∀ W' F',FrOk P X W' F'→X.Jx (i+1) W'→HSeq (Ctx.top W' F') P ops rest ⟨n,(d,.v (.imm (.bool false)))::tm',[],0⟩ Q) :
    HSeq (Ctx.top W F) P ops (⟨some d,.call ⟨.value (.tmp t),args.toArray,at_⟩,ty,pos,af,none⟩::rest) ⟨n,tm,hp,clk⟩ Q:=by
  intro a w ⟨E,e0,r,hG,hsz,hdf,ht⟩
  have hlt:d < n:=by simpa [Nat.blt_eq] using hlt
  have hb:Below W.heap.size W w:=b2r r
  unfold a9u
  rw [if_pos (by simp [Region.wanted])]
  right
  have hrep:=a5s ht hx
  have hfn:Rep w E (a.eval (.tmp t)) (.fn (.yield X.l) 0 y0):=ht t _ h0
  refine ⟨fun _ _=>trivial,?_⟩
  rw [show ∀ o:Oper,o.semAt Fence.wide.round a.eval=execOp a.eval o from fun o=>Oper.semAt_none _ _]
  have hargs:args.toArray.map a.eval=(args.map a.eval).toArray:=by simp
  have hfrz:RepAll w (Env.just E.F) (args.map a.eval) (X.ys i):=hz.sound (a5G w E) hrep
  have hown:∀ p,E.F p→¬ O p.block:=fun p hp=>by
    rcases r.fnew p hp with h1 | h1 | h1
    · exact hg.own p h1
    · intro hO
      have:=X.ob _ _ _ hg.j _ hO
      exact absurd h1 (by show ¬ W.heap.size≤_;omega)
    · exact absurd trivial h1
  obtain ⟨fn',tmps',as',bd',hy,hround⟩:=X.yl i O w E.F (args.map a.eval) hi (X.jb _ _ _ _ hg.j hb) r.frz hown (fun p hp=>by
    rcases r.fnew p hp with h1 | h1 | h1
    · exact hg.fr.new p h1
    · exact .inr (Nat.le_trans hg.fr.size h1)
    · exact absurd trivial h1) hfrz
  unfold execOp
  generalize hρ:a.eval (.tmp t)=u at hfn
  cases hfn with
  | fn _ vcs _ _ vs hn hv hr =>
    have hvc:vcs=#[]:=Array.eq_empty_of_size_eq_zero hn
    subst hvc
    simp only [resolve,hρ,Deferred.ofValue,invoke,Sem.run_bind,Sem.run_pure,Result.andThen_ok,Array.empty_append,Array.append_empty]
    rw [hargs,hy]
    refine ⟨a5e,RoundIn.mono hround (fun e W' he=>?_)⟩
    obtain ⟨hk,he⟩:=he
    have hfr':FrOk P X W' E.F:=⟨fun p hp=>⟨(r.frz p hp).1,by rw [World.cell?_of_block (hk.block _ (a1p (r.frz p hp).2) (hown p hp))];exact (r.frz p hp).2⟩,fun p hp=>by
      rcases r.fnew p hp with h1 | h1 | h1
      · exact hg.fr.new p h1
      · exact .inr (Nat.le_trans hg.fr.size h1)
      · exact absurd trivial h1,Nat.le_trans hg.fr.size (Nat.le_trans r.size hk.size),hk.lib⟩
    have eK:Ext w (Env.just E.F) W' (Env.just E.F):=⟨hk.size,fun p hp=>⟨hp,World.cell?_of_block (hk.block _ (a1p (r.frz p hp).2) (hown p hp))⟩,fun _ h=>h,fun _ _ h _=>h,fun _ h=>h⟩
    have hsat:∀ b:Bool,Sat (Ctx.top W' E.F) ⟨n,(d,.v (.imm (.bool b)))::tm',[],0⟩ (a.put (some d) (.bool b)) W':=fun b=>by
      refine ⟨Env.just E.F,Ext.refl _ _,⟨rfl,rfl,rfl,Nat.le_refl _,fun _ _ _=>rfl,hfr'.frz,fun a ha=>.inl ha,fun _ _=>trivial,hfr'.lib,(fun b hb=>hb.elim),(fun id o ho=>by cases ho),(fun id id' o o' l l' b ho=>by cases ho)⟩,fun g hg=>hg.elim,by simp [Act.put,hsz],hdf,fun t' x hx=>?_⟩
      rw [a0B] at hx
      split at hx
      · rename_i e;subst e;injection hx with hx;subst hx
        rw [a1b (by rw [hsz];exact hlt)]
        exact .imm _
      · rename_i e
        obtain ⟨y,z,rfl,h1,h2⟩:=htm t' x hx
        rw [a0E e]
        exact (h2.sound (a5G w E) (ht t' _ h1)).ext eK
    rcases he with ⟨rfl,O',hj,ho⟩ | ⟨rfl,hj⟩
    · refine hyes O' W' E.F ⟨hj,hfr',fun p hp hO=>?_⟩ _ W' (hsat true)
      rcases ho _ hO with h1 | h1
      · exact hown p hp h1
      · have:=a1p (r.frz p hp).2;omega
    · exact hno W' E.F hfr' hj _ W' (hsat false)
theorem b1x {α:Type} {body:Code} {W:World} {F:Addr→Prop} {O:Nat→Prop} {tm0:List (Nat×TV)} {hp0:List (Nat×HObj)} {c0:Nat} (st:α→List (Nat×TV)) (I:α→Prop) (idx:α→Nat) (m:α→Nat) (x0:α) (h0:I x0) (hg0:GoodW P X (idx x0) O W F) (hs0:a4I (Ctx.top W F) ⟨n,tm0,hp0,c0⟩ ⟨n,st x0,[],c0⟩)
  (round:∀ x O W F c,I x→GoodW P X (idx x) O W F→∀ N:Act→World→Prop,(∀ y O' W' F' c' s',I y→m y < m x→GoodW P X (idx y) O' W' F'→a4I (Ctx.top W' F') s' ⟨n,st y,[],c'⟩→HQ (Ctx.top W' F') (Exit.then N Q) .normal s')→HWp (Ctx.top W F) P body ⟨n,st x,[],c⟩ (Exit.then N Q)) :
  HWp (Ctx.top W F) P (.loop body) ⟨n,tm0,hp0,c0⟩ Q:=by
 intro a w hs
 refine a5T (fun k a w=>∃ x O W F c,m x=k∧I x∧GoodW P X (idx x) O W F∧Sat (Ctx.top W F) ⟨n,st x,[],c⟩ a w) (m x0) ⟨x0,O,W,F,c0,rfl,h0,hg0,hs0 a w hs⟩ ?_
 rintro k a w ⟨x,O,W,F,c,rfl,hx,hg,hs⟩
 exact round x O W F c hx hg (fun a' w'=>∃ j,j < m x∧∃ y O W F c,m y=j∧I y∧GoodW P X (idx y) O W F∧Sat (Ctx.top W F) ⟨n,st y,[],c⟩ a' w') (fun y O' W' F' c' s' hy hlt hg' hsub a w hs=>⟨m y,hlt,y,O',W',F',c',rfl,hy,hg',hsub a w hs⟩) a w hs
end
@[reducible] def Th (P:Program) (rd:Option Nat) (y:Code) (Q:Exit→Act→World→Prop):Exit→Act→World→Prop:=Exit.then (fun a w=>Code.wpR rd P y Q a w) Q
def c9l:List (Nat×TV)→Bool
 | []=>true
 | (_,.un _ _ _)::_=>false
 | (_,.v _)::r=>c9l r
structure Run (n:Nat) (G' G:Prop):Prop where h:G'→G
structure WSeq (C:Ctx) (P:Program) (ops:Array Oper) (l:List Oper) (s:HSt) (Q:Exit→Act→World→Prop):Prop where h:HSeq C P ops l s Q
structure WWp (C:Ctx) (P:Program) (c:Code) (s:HSt) (Q:Exit→Act→World→Prop):Prop where h:HWp C P c s Q
structure WQ (C:Ctx) (Q:Exit→Act→World→Prop) (e:Exit) (s:HSt):Prop where h:HQ C Q e s
structure WDr (P:Program) (n clk:Nat) (tm0:List (Nat×TV)) (hp0:List (Nat×HObj)) (L dn:List Oper) (ss:List HSpec) (rest:List Oper) (k:Nat) (tm:List (Nat×TV)) (hp:List (Nat×HObj)) (Fin:Prop):Prop where h:HDr P n clk tm0 hp0 L dn ss rest k tm hp Fin
theorem rg {n:Nat} {G' G G1:Prop} (h:G1→G) (k:Run n G' G1):Run (n+1) G' G:=⟨fun x=>h (k.h x)⟩
theorem rq_ {p q:Prop} (h:p→q:=by (intro h;first | rfl | cases h)):p→q:=h
theorem omg {p:Prop} (h:p:=by (first | exact Nat.le_of_ble_eq_true rfl | omega | (dsimp only;omega) | (simp only [hcs] at *;omega) | (simp <;> omega))):p:=h
theorem ckk {a b:Nat} (h:a=b:=by ((try simp only [Nat.add_assoc,Nat.reduceAdd]);exact rfl)):a=b:=h
section
variable {P:Program} {T:TypeId} {b:Bool} {s fo k n e:Nat} {z:List Value} {l:List (Nat×Nat)}
theorem iEl (h:ElI P T e s:=by infer_instance):elOf P T=some (e,s):=h.h
theorem iTy (h:TyI P T b s:=by infer_instance):tyOf P T=some (b,s):=h.h
theorem iFd (h:FdI P T k fo:=by infer_instance):fdOf P T k=some fo:=h.h
theorem iAl (h:AlI P T n s:=by infer_instance):arL P T=some (n,s):=h.h
theorem iSt (h:StI P T z l:=by infer_instance):stOf P T=some (z,l):=h.h
end
section
variable {ov:Nat→Option HV} {pl:List (Nat×Nat)} {sz i o s k:Nat} {x:Operand} {ps:List (Nat×Operand)} {hs:List (Nat×Nat×HV)} {h:HV} {l:List HV}
theorem po0:a3B ov pl sz [] []:=trivial
theorem po1 (h1:ovl ov x=some h) (h2:pl[i]?=some (o,s)) (h3:h.flat=true) (h4:h.wid=s) (h5:Nat.ble (o+s) sz=true) (r:a3B ov pl sz ps hs):a3B ov pl sz ((i,x)::ps) ((o,s,h)::hs):=⟨h1,h2,h3,h4,h5,r⟩
theorem poo (h:a3B ov pl sz ps hs:=by repeat (first | exact po0 | apply po1 rfl rfl rfl rfl rfl)):a3B ov pl sz ps hs:=h
theorem lo0:a5h ov sz k [] []:=trivial
theorem lo1 (h2:ovl ov x=some h) (h3:h.flat=true) (h4:h.wid=sz) (r:a5h ov sz (k+1) ps l):a5h ov sz k ((k,x)::ps) (h::l):=⟨rfl,h2,h3,h4,r⟩
theorem loo (h:a5h ov sz k ps l:=by repeat (first | exact lo0 | apply lo1 rfl rfl rfl)):a5h ov sz k ps l:=h
theorem oa0:a2k ov [] []:=trivial
theorem oa1 {xs:List Operand} (h1:ovl ov x=some h) (r:a2k ov xs l):a2k ov (x::xs) (h::l):=⟨h1,r⟩
theorem oaa {xs:List Operand} (h:a2k ov xs l:=by repeat (first | exact oa0 | apply oa1 rfl)):a2k ov xs l:=h
theorem lhh {z:Option Operand} {a d:Int} (h:z=none∧a=d∨∃ k y,z=some y∧ovl ov y=some (.imm (.int k a)):=by first | exact .inl ⟨rfl,rfl⟩ | exact .inr ⟨_,_,rfl,rfl⟩ | fail):z=none∧a=d∨∃ k y,z=some y∧ovl ov y=some (.imm (.int k a)):=h
end
section
variable {P:Program} {ov:Nat→Option HV} {g:Nat} {d:Option Tmp} {ty T:TypeId} {pos:String} {af:Array Edge} {gd:Option (Nat×Bool)} {x:Operand} {n s:Nat} {e:TypeId}
theorem c2v {l:List UInt8} (hE:P.underlying T=some .string) (h1:ovl ov x=some (strV l)):HOp P ⟨d,.call ⟨.builtin .len,#[x],#[T]⟩,ty,pos,af,gd⟩ ov g [] (intV (l.length:Int)) []:=b2Q rfl hE h1
theorem c7g {f:Nat→Nat→HV} (h1:ovl ov x=some (.sl s n f)) (hE:elOf P T=some (e,s)):HOp P ⟨d,.call ⟨.builtin .len,#[x],#[T]⟩,ty,pos,af,gd⟩ ov g [] (intV (n:Int)) []:=a2z rfl (a0L hE).1 h1
theorem c8z {id gg lo:Nat} (h1:ovl ov x=some (.os id gg lo n)) (hE:elOf P T=some (e,s)):HOp P ⟨d,.call ⟨.builtin .len,#[x],#[T]⟩,ty,pos,af,gd⟩ ov g [] (intV (n:Int)) []:=a3p rfl (a0L hE).1 h1
theorem c5N {A:Option Addr} {c:Nat} (h1:ovl ov x=some (.imm (.slice A n c))) (hE:elOf P T=some (e,s)):HOp P ⟨d,.call ⟨.builtin .len,#[x],#[T]⟩,ty,pos,af,gd⟩ ov g [] (intV (n:Int)) []:=a2D rfl (a0L hE).1 h1
end
section
variable {P:Program} {ov:Nat→Option HV} {g:Nat} {d:Option Tmp} {ty T yT:TypeId} {pos:String} {af:Array Edge} {gd:Option (Nat×Bool)} {x:Operand} {k k':IntKind} {lo hi a:Int}
theorem ik_ (h:IkI P T k:=by infer_instance):IkI P T k:=h
theorem c9V (h:WOk k lo hi:=by first | exact c3R | exact b8P | exact b4y | exact c4j | exact b4x | exact c4K | fail):WOk k lo hi:=h
theorem c8Y (hT:IkI P yT k') (w:WOk k' lo hi) (h1:ovl ov x=some (.imm (.int k a))) (hl:lo≤a) (hh:a≤hi) (hS:IkI P T k):HOp P ⟨d,.convert T yT x,ty,pos,af,gd⟩ ov g [] (.imm (.int k' a)) []:=b8p w hT.h (by rw [hS.h];rfl) h1 hl hh
theorem c9b (hT:IkI P yT k') (h1:ovl ov x=some (.imm (.int k a))) (hS:IkI P T k):HOp P ⟨d,.convert T yT x,ty,pos,af,gd⟩ ov g [] (.imm (.int k' (k'.wrap a))) []:=b6i hT.h (by rw [hS.h];rfl) h1
end
theorem hpA {P:Program} {o:Oper} {ov:Nat→Option HV} {g:Nat} {v:HV} (h:HOp P o ov g [] v []:=by first
 | (apply a3W;exact rfl)
 | (apply a9Q;exact rfl)
 | (apply a9d;(iterate 2 exact rfl))
 | (apply b4a;(iterate 2 exact rfl))
 | (apply c5o;(iterate 2 exact rfl))
 | (apply c3O;(iterate 2 exact rfl))
 | (apply c4G;(iterate 2 exact rfl))
 | (apply c6j;(iterate 2 exact rfl))
 | (apply c5V;(iterate 2 exact rfl))
 | (apply c1o;(iterate 3 exact rfl);(iterate 2 exact omg))
 | (apply a4B;(iterate 3 exact rfl);(iterate 2 exact omg))
 | (apply c1E;(iterate 3 exact rfl);(iterate 2 exact omg))
 | (apply c6b;exact rfl)
 | (apply a9l;exact iEl;(iterate 2 exact rfl);(iterate 3 exact omg))
 | (apply a0r;exact iTy;exact rfl;exact omg;exact rq_)
 | (apply a8u;exact iFd;exact rfl;exact omg)
 | (apply b6h;exact iFd;exact rfl)
 | (apply a8B;exact rfl)
 | (apply a8O;exact rfl)
 | (apply c2v;exact kr;exact rfl)
 | (apply c7g;exact rfl;exact iEl)
 | (apply c8z;exact rfl;exact iEl)
 | (apply c5N;exact rfl;exact iEl)
 | (apply b4I;exact kr;(iterate 2 exact rfl);(iterate 2 exact omg))
 | (apply b2p;exact kr;exact rfl;(iterate 2 exact lhh);(iterate 3 exact omg))
 | (apply b0c;exact iEl;exact rfl;(iterate 2 exact lhh);(iterate 3 exact omg))
 | (apply b8W;(iterate 2 exact rfl))
 | (apply b8E;(iterate 2 exact rfl))
 | (apply c2E;(iterate 2 exact rfl);exact omg)
 | (apply c4e;exact (fun w=>kr);(iterate 2 exact rfl))
 | (apply c4M;exact (fun w=>kr);(iterate 2 exact rfl))
 | (apply c5f;(iterate 2 exact rfl))
 | (apply c5W;(iterate 2 exact rfl))
 | (apply b1G;exact b8P;(iterate 3 exact rfl);(iterate 2 exact omg))
 | (apply b1G;exact b4x;(iterate 3 exact rfl);(iterate 2 exact omg))
 | (apply b1G;exact b4y;(iterate 3 exact rfl);(iterate 2 exact omg))
 | (apply b1E;exact b8P;(iterate 3 exact rfl);(iterate 2 exact omg))
 | (apply b1E;exact b4x;(iterate 3 exact rfl);(iterate 2 exact omg))
 | (apply b1E;exact b4y;(iterate 3 exact rfl);(iterate 2 exact omg))
 | (apply c1F;(iterate 2 exact rfl))
 | (apply c3T;(iterate 2 exact rfl))
 | (apply c4s;(iterate 2 exact rfl);exact omg)
 | (apply c5k;(iterate 2 exact rfl);exact omg)
 | (apply c8Y;exact ik_;exact c9V;exact rfl;(iterate 2 exact omg);exact ik_)
 | (apply c9b;exact ik_;exact rfl;exact ik_)
 | (apply b7k;exact iAl;(iterate 2 exact rfl);(iterate 2 exact omg))
 | (apply b7i;exact iAl;(iterate 2 exact rfl);(iterate 3 exact omg))
 | (apply b8n;exact iSt;(iterate 2 exact rfl);exact poo)
 | (apply b3h;exact oaa)
 | (apply b0A;exact rfl)
 | (apply b3U;exact kr;(iterate 2 exact rfl))
 | (apply b3V;exact kr;(iterate 2 exact rfl))
 | (apply b4H;exact kr;(iterate 2 exact rfl))
 | (apply b3A;exact kr;(iterate 2 exact rfl))
 | (apply b4V;exact kr;(iterate 2 exact rfl))
 | (apply b3Y;exact kr;(iterate 2 exact rfl))
 | (apply c0I;exact kr;exact rfl)
 | (apply a9L;exact kr;exact rfl)
 | (apply a9z;exact kr;exact rfl)
 | fail):HOp P o ov g [] v []:=h
section
variable {qq:Nat} {GG:Prop} {C:Ctx} {P:Program} {ops:Array Oper} {Q:Exit→Act→World→Prop} {n clk c':Nat} {tm:List (Nat×TV)} {hp:List (Nat×HObj)} {rest:List Oper} {v:HV} {d gi j:Nat} {op:Op} {ty T:TypeId} {pos:String} {af:Array Edge} {x y:Operand} {b c:Bool} {id gg i off s m sz fl lo:Nat} {oty:TypeId} {f:Nat→Nat→HV}
theorem cr_ {id:Nat} {l:List Oper} {s:HSt} (nd:C.rd=none∨l.all Oper.calm=true) (h:Run qq GG (WSeq C P l.toArray l s Q)):Run (qq+1) GG (WWp C P (.region id l.toArray false) s Q):=rg (fun h=>⟨b7F h.h nd⟩) h
theorem cu_ {tm':List (Nat×TV)} (hu:a7C tm=true) (ht:a5g tm []=tm') (h:Run qq GG (WQ C Q .normal ⟨n,tm',hp,clk⟩)):Run (qq+1) GG (WSeq C P ops [] ⟨n,tm,hp,clk⟩ Q):=rg (fun h=>⟨b7L hu ht h.h⟩) h
theorem zm (hx:ovl (a0J (tget tm)) x=some v) (hlt:Nat.blt d n=true) (hk:a0T tm d=true) (h:Run qq GG (WSeq C P ops rest ⟨n,(d,.v v)::tm,hp,clk⟩ Q)):Run (qq+1) GG (WSeq C P ops (⟨some d,.move x,ty,pos,af,none⟩::rest) ⟨n,tm,hp,clk⟩ Q):=rg (fun h=>⟨stm hx hlt hk h.h⟩) h
theorem za (hx:ovl (a0J (tget tm)) x=some v) (hlt:Nat.blt d n=true) (hk:a0T tm d=true) (h:Run qq GG (WSeq C P ops rest ⟨n,(d,.v v)::tm,hp,clk⟩ Q)):Run (qq+1) GG (WSeq C P ops (⟨some d,.assign x,ty,pos,af,none⟩::rest) ⟨n,tm,hp,clk⟩ Q):=rg (fun h=>⟨sta hx hlt hk h.h⟩) h
theorem cs_ {x y:Code} {s:HSt} (h:Run qq GG (WWp C P x s (Th P C.rd y Q))):Run (qq+1) GG (WWp C P (.seq x y) s Q):=rg (fun h=>⟨fun a w hs=>wpIn_seq (h.h a w hs)⟩) h
theorem ct_ {rd:Option Nat} {y:Code} {s:HSt} (hr:rd=C.rd) (h:Run qq GG (WWp C P y s Q)):Run (qq+1) GG (WQ C (Th P rd y Q) .normal s):=rg (fun h=>⟨by subst hr;exact h.h⟩) h
theorem cn_ {Q:Exit→Act→World→Prop} (hu:c9l tm=true) (h:Run qq GG (WQ C Q .normal ⟨n,tm,hp,clk⟩)):Run (qq+1) GG (WSeq C P ops [] ⟨n,tm,hp,clk⟩ Q):=rg (fun h=>⟨a3U h.h⟩) h
theorem wdc {s:HSt} {t:Nat} {cx cy:Code} {b:Bool} {p q:Prop} (h1:b=true→p→HWp C P cx s Q) (h2:b=false→q→HWp C P cy s Q) (hb:tget s.tm t=some (.v (.imm (.bool b))):=by exact rfl) (hp:(b=true)=p:=by (try simp only [hcs,Int.reduceToNat]);exact rfl) (hq:(b=false)=q:=by (try simp only [hcs,Int.reduceToNat]);exact rfl):HWp C P (.cond (.tmp t) cx cy) s Q :=
 c4x b hb (fun h=>h1 h (hp▸h)) (fun h=>h2 h (hq▸h))
theorem zf {fo k:Nat} (hT:FdI P T k fo) (h1:ovl (a0J (tget tm)) x=some (.pt id gg i off)) (hlt:Nat.blt d n=true) (hk:a0T tm d=true) (h:Run qq GG (WSeq C P ops rest ⟨n,(d,.v (.pt id gg i (off+fo)))::tm,hp,clk⟩ Q)):Run (qq+1) GG (WSeq C P ops (⟨some d,.fieldAddr T x k,ty,pos,af,none⟩::rest) ⟨n,tm,hp,clk⟩ Q):=rg (fun h=>⟨sf hT.h h.h h1 hlt hk⟩) h
theorem zl (hT:TyI P T b s) (h1:ovl (a0J (tget tm)) x=some (.pt id gg i off)) (hid:hget hp id=some ⟨gg,m,sz,oty,fl,f⟩) (hi:i < m) (hoff:off+s≤sz) (hs:(b||Nat.beq s 1)=true) (hlt:Nat.blt d n=true) (hk:a0T tm d=true) (h:Run qq GG (WSeq C P ops rest ⟨n,(d,.v (ldv b s (f i) off))::tm,hp,clk⟩ Q)):Run (qq+1) GG (WSeq C P ops (⟨some d,.load T x,ty,pos,af,none⟩::rest) ⟨n,tm,hp,clk⟩ Q):=rg (fun h=>⟨st1 (a0D hT.h h1 hi hoff (fun e=>by subst e;simpa using hs)) hid hlt hk h.h⟩) h
theorem zw {hv:HV} (hT:TyI P T b s) (h1:ovl (a0J (tget tm)) x=some (.pt id gg 0 0)) (h2:ovl (a0J (tget tm)) y=some hv) (hf:hv.flat=true) (hw:hv.wid=s) (hid:hget hp id=some ⟨gg,1,s,oty,0,f⟩) (hc:clk+1=c') (h:Run qq GG (WSeq C P ops rest ⟨n,tm,(id,⟨gg,1,s,oty,0,fun _ j=>hv.cell j⟩)::hp,c'⟩ Q)):Run (qq+1) GG (WSeq C P ops (⟨none,.store T x y,ty,pos,af,none⟩::rest) ⟨n,tm,hp,clk⟩ Q):=rg (fun h=>⟨c8q (a9U hT.h h1 h2 hf hw) rfl rfl (a0P hid) hc h.h⟩) h
theorem zs {hv:HV} (hT:TyI P T b s) (h1:ovl (a0J (tget tm)) x=some (.pt id gg i off)) (h2:ovl (a0J (tget tm)) y=some hv) (hf:hv.flat=true) (hw:hv.wid=s) (hid:hget hp id=some ⟨gg,m,sz,oty,fl,f⟩) (hi:i < m) (hfl:fl≤i) (hoff:off+s≤sz) (hc:clk+1=c') (h:Run qq GG (WSeq C P ops rest ⟨n,tm,(id,⟨gg,m,sz,oty,fl,upd f i off s (fun j=>hv.cell j)⟩)::hp,c'⟩ Q)):Run (qq+1) GG (WSeq C P ops (⟨none,.store T x y,ty,pos,af,none⟩::rest) ⟨n,tm,hp,clk⟩ Q):=rg (fun h=>⟨c8q (b2z hT.h h1 h2 hf hw hi hfl hoff) rfl rfl (a0P hid) hc h.h⟩) h
theorem zi {e:TypeId} {k:IntKind} {a:Int} (hT:ElI P T e s) (h1:ovl (a0J (tget tm)) x=some (.os id gg lo i)) (h2:ovl (a0J (tget tm)) y=some (.imm (.int k a))) (hid:hget hp id=some ⟨gg,m,s,oty,fl,f⟩) (ha:0≤a) (hi:a < i) (hlt:Nat.blt d n=true) (hk:a0T tm d=true) (h:Run qq GG (WSeq C P ops rest ⟨n,(d,.v (.pt id gg (lo+a.toNat) 0))::tm,hp,clk⟩ Q)):Run (qq+1) GG (WSeq C P ops (⟨some d,.indexAddr T x y,ty,pos,af,none⟩::rest) ⟨n,tm,hp,clk⟩ Q):=rg (fun h=>⟨st1 (a5m hT.h h1 h2 ha hi) hid hlt hk h.h⟩) h
theorem zc {e:TypeId} {z w:Option Operand} {a t:Int} (hT:ElI P T e s) (h1:ovl (a0J (tget tm)) x=some (.os id gg lo i)) (hid:hget hp id=some ⟨gg,m,s,oty,fl,f⟩) (hl:z=none∧a=0∨∃ k q,z=some q∧ovl (a0J (tget tm)) q=some (.imm (.int k a))) (hh:w=none∧t=i∨∃ k q,w=some q∧ovl (a0J (tget tm)) q=some (.imm (.int k t))) (h0:0≤a) (hlh:a≤t) (hn:t≤i) (hlt:Nat.blt d n=true) (hk:a0T tm d=true) (h:Run qq GG (WSeq C P ops rest ⟨n,(d,.v (.os id gg (lo+a.toNat) (t - a).toNat))::tm,hp,clk⟩ Q)):Run (qq+1) GG (WSeq C P ops (⟨some d,.slice T x z w none,ty,pos,af,none⟩::rest) ⟨n,tm,hp,clk⟩ Q):=rg (fun h=>⟨st1 (b0g hT.h h1 hl hh h0 hlh hn) hid hlt hk h.h⟩) h
theorem zA {e:TypeId} {r k t q:Nat} {fn:Nat→Nat→HV} (hT:EiI P T e s r) (h1:ovl (a0J (tget tm)) x=some (.os id gg 0 m)) (h2:ovl (a0J (tget tm)) y=some (.sl s k fn)) (hid:hget hp id=some ⟨gg,t,s,e,fl,f⟩) (hr:r≤1000) (hm:m≤t) (hfl:fl≤m) (hk:m+k≤2000000000) (hq:m+k=q) (hlt:Nat.blt d n=true) (hn:a0T tm d=true) (hc:clk+1=c') (h:Run qq GG (WSeq C P ops rest ⟨n,(d,.v (.os id clk 0 q))::tm,(id,⟨clk,q,s,e,fl,cat m f fn⟩)::hp,c'⟩ Q)):Run (qq+1) GG (WSeq C P ops (⟨some d,.call ⟨.builtin .append,#[x,y],#[T,T]⟩,ty,pos,af,none⟩::rest) ⟨n,tm,hp,clk⟩ Q):=rg (fun h=>⟨a0u d (a0a hT.h hr h1 hm hfl (a0O h2) hk hq) rfl rfl (a0i hid a0g) hlt hn hc h.h⟩) h
theorem zB {e:TypeId} {r k t q g2 m2 sz2 fl2 id2:Nat} {oty2:TypeId} {fn:Nat→Nat→HV} (hT:EiI P T e s r) (h1:ovl (a0J (tget tm)) x=some (.os id gg 0 m)) (h2:ovl (a0J (tget tm)) y=some (.os id2 g2 0 k)) (hid:hget hp id=some ⟨gg,t,s,e,fl,f⟩) (hid2:hget hp id2=some ⟨g2,m2,s,oty2,fl2,fn⟩) (hr:r≤1000) (hm:m≤t) (hfl:fl≤m) (hm2:k≤m2) (hk:m+k≤2000000000) (hq:m+k=q) (hlt:Nat.blt d n=true) (hn:a0T tm d=true) (hc:clk+1=c') (h:Run qq GG (WSeq C P ops rest ⟨n,(d,.v (.os id clk 0 q))::tm,(id,⟨clk,q,s,e,fl,cat m f fn⟩)::hp,c'⟩ Q)):Run (qq+1) GG (WSeq C P ops (⟨some d,.call ⟨.builtin .append,#[x,y],#[T,T]⟩,ty,pos,af,none⟩::rest) ⟨n,tm,hp,clk⟩ Q):=rg (fun h=>⟨a0u d (a0a hT.h hr h1 hm hfl (a0x h2 hm2) hk hq) rfl rfl (a0i hid (a0P hid2)) hlt hn hc h.h⟩) h
theorem zb {hv:HV} (hT:TyI P T b sz) (h1:ovl (a0J (tget tm)) x=some hv) (hf:hv.flat=true) (hw:hv.wid=sz) (hp0:0 < sz) (hm:sz≤1000000) (hlt:Nat.blt d n=true) (hk:a0T tm d=true) (hc:clk+1=c') (h:Run qq GG (WSeq C P ops rest ⟨n,(d,.v (.pt d clk 0 0))::tm,(d,⟨clk,1,sz,T,0,fun _ j=>hv.cell j⟩)::hp,c'⟩ Q)):Run (qq+1) GG (WSeq C P ops (⟨some d,.box T x,ty,pos,af,none⟩::rest) ⟨n,tm,hp,clk⟩ Q):=rg (fun h=>⟨a0u d (a6a h1 hf hw hp0 hm) rfl rfl a0g hlt hk hc h.h⟩) h
theorem zo {cs:List Value} (hT:ZcI P T cs) (hY:TyI P T b sz) (hsz:cs.length=sz) (h1:cs.all (·.oneCell')=true) (hp0:0 < sz) (hm:sz≤1000000) (hlt:Nat.blt d n=true) (hk:a0T tm d=true) (hc:clk+1=c') (h:Run qq GG (WSeq C P ops rest ⟨n,(d,.v (.pt d clk 0 0))::tm,(d,⟨clk,1,sz,T,0,fun _ j=>.imm (cs.getD j undef)⟩)::hp,c'⟩ Q)):Run (qq+1) GG (WSeq C P ops (⟨some d,.alloc T,ty,pos,af,none⟩::rest) ⟨n,tm,hp,clk⟩ Q):=rg (fun h=>⟨a0u d (a0X hT.h hsz h1 hp0 hm) rfl rfl a0g hlt hk hc h.h⟩) h
theorem zv {e:TypeId} {r t:Nat} {ps:List (Nat×Operand)} {hs:List HV} (hT:EiI P T e s r) (hps:a5h (a0J (tget tm)) s 0 ps hs) (hs0:0 < s) (hn:hs.length=t) (hsm:t * s≤16777216) (hlt:Nat.blt d n=true) (hk:a0T tm d=true) (hc:clk+1=c') (h:Run qq GG (WSeq C P ops rest ⟨n,(d,.v (.os d clk 0 t))::tm,(d,⟨clk,t,s,e,0,bsf hs⟩)::hp,c'⟩ Q)):Run (qq+1) GG (WSeq C P ops (⟨some d,.buildSlice T t ps.toArray,ty,pos,af,none⟩::rest) ⟨n,tm,hp,clk⟩ Q):=rg (fun h=>⟨a0u d (a0b hT.h hs0 hn hsm hps) rfl rfl a0g hlt hk hc h.h⟩) h
theorem z0 (hop:HOp P ⟨some d,op,ty,pos,af,none⟩ (a0J (tget tm)) clk [] v []) (hlt:Nat.blt d n=true) (hk:a0T tm d=true) (h:Run qq GG (WSeq C P ops rest ⟨n,(d,.v v)::tm,hp,clk⟩ Q)):Run (qq+1) GG (WSeq C P ops (⟨some d,op,ty,pos,af,none⟩::rest) ⟨n,tm,hp,clk⟩ Q):=rg (fun h=>⟨st0 hop hlt hk h.h⟩) h
theorem zp {need:List Nat} {z:Operand} (hst:HStep P ops ⟨some d,.pick x y z,ty,pos,af,none⟩ (tget tm) clk ⟨.v v,need,[],[]⟩) (hlt:Nat.blt d n=true) (hk:a0T tm d=true) (h:Run qq GG (WSeq C P ops rest ⟨n,(d,.v v)::tm,hp,clk⟩ Q)):Run (qq+1) GG (WSeq C P ops (⟨some d,.pick x y z,ty,pos,af,none⟩::rest) ⟨n,tm,hp,clk⟩ Q):=rg (fun h=>⟨d0f d hst rfl hlt hk h.h⟩) h
theorem ym (hgi:(ops[gi]?).bind (·.dst)=some j) (hc:tget tm j=some (.v (.imm (.bool c)))) (hx:ovl (a1L (tget tm) j b) x=some v) (hlt:Nat.blt d n=true) (hk:a0T tm d=true) (hjd:Nat.beq j d=false) (h:Run qq GG (WSeq C P ops rest ⟨n,(d,.un j b v)::tm,hp,clk⟩ Q)):Run (qq+1) GG (WSeq C P ops (⟨some d,.move x,ty,pos,af,some (gi,b)⟩::rest) ⟨n,tm,hp,clk⟩ Q):=rg (fun h=>⟨gm j h.h hx hgi hc hlt hk hjd⟩) h
theorem y0 (hgi:(ops[gi]?).bind (·.dst)=some j) (hc:tget tm j=some (.v (.imm (.bool c)))) (hop:c=b→HOp P ⟨some d,op,ty,pos,af,some (gi,b)⟩ (a1L (tget tm) j b) clk [] v []) (hlt:Nat.blt d n=true) (hk:a0T tm d=true) (hjd:Nat.beq j d=false) (h:Run qq GG (WSeq C P ops rest ⟨n,(d,.un j b v)::tm,hp,clk⟩ Q)):Run (qq+1) GG (WSeq C P ops (⟨some d,op,ty,pos,af,some (gi,b)⟩::rest) ⟨n,tm,hp,clk⟩ Q):=rg (fun h=>⟨stg j hop hgi hc hlt hk hjd h.h⟩) h
theorem y3 {j2:Nat} {b2 c2:Bool} (hgi:(ops[gi]?).bind (·.dst)=some j) (hc:tget tm j=some (.un j2 b2 (.imm (.bool c)))) (hc2:tget tm j2=some (.v (.imm (.bool c2)))) (hop:c=b→c2=b2→HOp P ⟨some d,op,ty,pos,af,some (gi,b)⟩ (a1L (tget tm) j b) clk [] v []) (hlt:Nat.blt d n=true) (hk:a0T tm d=true) (hjd:Nat.beq j d=false) (h:Run qq GG (WSeq C P ops rest ⟨n,(d,.un j b v)::tm,hp,clk⟩ Q)):Run (qq+1) GG (WSeq C P ops (⟨some d,op,ty,pos,af,some (gi,b)⟩::rest) ⟨n,tm,hp,clk⟩ Q):=rg (fun h=>⟨a4R d gi j j2 b2 b c c2 hop rfl rfl hgi hc hc2 a0g hlt hk hjd h.h⟩) h
theorem y2 {j2:Nat} {b2:Bool} (hgi:(ops[gi]?).bind (·.dst)=some j) (hc:tget tm j=some (.un j2 b2 (.imm (.bool c)))) (hop:c=b→HOp P ⟨some d,op,ty,pos,af,some (gi,b)⟩ (a1L (tget tm) j b) clk [] v []) (hlt:Nat.blt d n=true) (hk:a0T tm d=true) (hjd:Nat.beq j d=false) (h:Run qq GG (WSeq C P ops rest ⟨n,(d,.un j b v)::tm,hp,clk⟩ Q)):Run (qq+1) GG (WSeq C P ops (⟨some d,op,ty,pos,af,some (gi,b)⟩::rest) ⟨n,tm,hp,clk⟩ Q):=rg (fun h=>⟨sth j hop hgi hc hlt hk hjd h.h⟩) h
theorem yl {b2:Bool} (hT:TyI P T b s) (hgi:(ops[gi]?).bind (·.dst)=some j) (hc:tget tm j=some (.v (.imm (.bool c)))) (h1:ovl (a1L (tget tm) j b2) x=some (.pt id gg i off)) (hid:hget hp id=some ⟨gg,m,sz,oty,fl,f⟩) (hi:c=b2→i < m) (hoff:off+s≤sz) (hs:(b||Nat.beq s 1)=true) (hlt:Nat.blt d n=true) (hk:a0T tm d=true) (hjd:Nat.beq j d=false) (h:Run qq GG (WSeq C P ops rest ⟨n,(d,.un j b2 (ldv b s (f i) off))::tm,hp,clk⟩ Q)):Run (qq+1) GG (WSeq C P ops (⟨some d,.load T x,ty,pos,af,some (gi,b2)⟩::rest) ⟨n,tm,hp,clk⟩ Q):=rg (fun h=>⟨a5v d gi j b2 c (fun hb=>a0D hT.h h1 (hi hb) hoff (fun e=>by subst e;simpa using hs)) rfl rfl hgi hc (a0P hid) hlt hk hjd h.h⟩) h
theorem yi {e:TypeId} {k:IntKind} {a:Int} (hT:ElI P T e s) (hgi:(ops[gi]?).bind (·.dst)=some j) (hc:tget tm j=some (.v (.imm (.bool c)))) (h1:ovl (a1L (tget tm) j b) x=some (.os id gg lo i)) (h2:ovl (a1L (tget tm) j b) y=some (.imm (.int k a))) (hid:hget hp id=some ⟨gg,m,s,oty,fl,f⟩) (ha:c=b→0≤a∧a < i) (hlt:Nat.blt d n=true) (hk:a0T tm d=true) (hjd:Nat.beq j d=false) (h:Run qq GG (WSeq C P ops rest ⟨n,(d,.un j b (.pt id gg (lo+a.toNat) 0))::tm,hp,clk⟩ Q)):Run (qq+1) GG (WSeq C P ops (⟨some d,.indexAddr T x y,ty,pos,af,some (gi,b)⟩::rest) ⟨n,tm,hp,clk⟩ Q):=rg (fun h=>⟨a5v d gi j b c (fun hb=>a5m hT.h h1 h2 (ha hb).1 (ha hb).2) rfl rfl hgi hc (a0P hid) hlt hk hjd h.h⟩) h
theorem yl3 {j2:Nat} {b2 b3 c2:Bool} (hT:TyI P T b s) (hgi:(ops[gi]?).bind (·.dst)=some j) (hc:tget tm j=some (.un j2 b3 (.imm (.bool c)))) (hc2:tget tm j2=some (.v (.imm (.bool c2)))) (h1:ovl (a1L (tget tm) j b2) x=some (.pt id gg i off)) (hid:hget hp id=some ⟨gg,m,sz,oty,fl,f⟩) (hi:c=b2→c2=b3→i < m) (hoff:off+s≤sz) (hs:(b||Nat.beq s 1)=true) (hlt:Nat.blt d n=true) (hk:a0T tm d=true) (hjd:Nat.beq j d=false) (h:Run qq GG (WSeq C P ops rest ⟨n,(d,.un j b2 (ldv b s (f i) off))::tm,hp,clk⟩ Q)):Run (qq+1) GG (WSeq C P ops (⟨some d,.load T x,ty,pos,af,some (gi,b2)⟩::rest) ⟨n,tm,hp,clk⟩ Q):=rg (fun h=>⟨a4R d gi j j2 b3 b2 c c2 (fun hb hb2=>a0D hT.h h1 (hi hb hb2) hoff (fun e=>by subst e;simpa using hs)) rfl rfl hgi hc hc2 (a0P hid) hlt hk hjd h.h⟩) h
theorem yp {need:List Nat} {z:Operand} (hgi:(ops[gi]?).bind (·.dst)=some j) (hst:HStep P ops ⟨some d,.pick x y z,ty,pos,af,some (gi,b)⟩ (tget tm) clk ⟨.un j b v,need,[],[]⟩) (hlt:Nat.blt d n=true) (hk:a0T tm d=true) (hjd:Nat.beq j d=false) (h:Run qq GG (WSeq C P ops rest ⟨n,(d,.un j b v)::tm,hp,clk⟩ Q)):Run (qq+1) GG (WSeq C P ops (⟨some d,.pick x y z,ty,pos,af,some (gi,b)⟩::rest) ⟨n,tm,hp,clk⟩ Q):=rg (fun h=>⟨c8K d hst rfl hlt hk hjd h.h⟩) h
theorem ch_ {s:HSt} {N:Act→World→Prop} {id:Nat} (h:Run qq GG (WQ C Q (.exit id) s)):Run (qq+1) GG (WQ C (Exit.then N Q) (.exit id) s):=rg (fun h=>⟨h.h⟩) h
theorem cq_ {s:HSt} {N:Act→World→Prop} (h:Run qq GG (WQ C Q .ret s)):Run (qq+1) GG (WQ C (Exit.then N Q) .ret s):=rg (fun h=>⟨h.h⟩) h
theorem cb_ {s:HSt} {id:Nat} (h:Run qq GG (WQ C Q .normal s)):Run (qq+1) GG (WQ C (Exit.inBlock id Q) .normal s):=rg (fun h=>⟨h.h⟩) h
theorem cv_ {s:HSt} {id:Nat} (h:Run qq GG (WQ C Q .ret s)):Run (qq+1) GG (WQ C (Exit.inBlock id Q) .ret s):=rg (fun h=>⟨h.h⟩) h
theorem ci_ {s:HSt} {id:Nat} (h:Run qq GG (WQ C Q .normal s)):Run (qq+1) GG (WQ C (Exit.inBlock id Q) (.exit id) s):=rg (fun h=>⟨b0Y h.h⟩) h
theorem co_ {s:HSt} {id id':Nat} (hne:Nat.beq id' id=false) (h:Run qq GG (WQ C Q (.exit id') s)):Run (qq+1) GG (WQ C (Exit.inBlock id Q) (.exit id') s):=rg (fun h=>⟨b3N hne h.h⟩) h
theorem ck_ {s:HSt} (h:Run qq GG (WQ C Q .normal s)):Run (qq+1) GG (WWp C P .skip s Q):=rg (fun h=>⟨c3Z h.h⟩) h
theorem ce_ {s:HSt} {id:Nat} (h:Run qq GG (WQ C Q (.exit id) s)):Run (qq+1) GG (WWp C P (.exit id) s Q):=rg (fun h=>⟨c4Q h.h⟩) h
theorem cw_ {s:HSt} (h:Run qq GG (WQ C Q .ret s)):Run (qq+1) GG (WWp C P .ret s Q):=rg (fun h=>⟨c7Q h.h⟩) h
theorem cl_ {s:HSt} {id:Nat} {c:Code} (h:Run qq GG (WWp C P c s (Exit.inBlock id Q))):Run (qq+1) GG (WWp C P (.block id c) s Q):=rg (fun h=>⟨c2i h.h⟩) h
theorem cd_ {l:List Oper} {id:Nat} (h:Run qq GG (WDr P n clk tm hp l [] [] l 0 tm hp (HWp C P (.region id l.toArray true) ⟨n,tm,hp,clk⟩ Q))):Run (qq+1) GG (WWp C P (.region id l.toArray true) ⟨n,tm,hp,clk⟩ Q):=rg (fun h=>⟨c0U h.h⟩) h
theorem e1 {m:Nat} {G:Prop} {l:List Oper} {s:HSt} (h:Run m G (WSeq C P ops l s Q)):Run m G (HSeq C P ops l s Q):=⟨fun x=>(h.h x).h⟩
theorem e2 {m:Nat} {G:Prop} {c:Code} {s:HSt} (h:Run m G (WWp C P c s Q)):Run m G (HWp C P c s Q):=⟨fun x=>(h.h x).h⟩
theorem e3 {m:Nat} {G:Prop} {e:Exit} {s:HSt} (h:Run m G (WQ C Q e s)):Run m G (HQ C Q e s):=⟨fun x=>(h.h x).h⟩
theorem f1 {l:List Oper} {s:HSt}:Run 0 (HSeq C P ops l s Q) (WSeq C P ops l s Q):=⟨fun x=>⟨x⟩⟩
theorem f2 {c:Code} {s:HSt}:Run 0 (HWp C P c s Q) (WWp C P c s Q):=⟨fun x=>⟨x⟩⟩
theorem f3 {e:Exit} {s:HSt}:Run 0 (HQ C Q e s) (WQ C Q e s):=⟨fun x=>⟨x⟩⟩
end
section
variable {qq:Nat} {GG:Prop} {C:Ctx} {P:Program} {Q:Exit→Act→World→Prop} {n clk k k' c':Nat} {tm0 tm:List (Nat×TV)} {hp0 hp:List (Nat×HObj)} {ss:List HSpec} {Fin:Prop} {rest dn L:List Oper} {v:HV} {d gi j:Nat} {op:Op} {ty T:TypeId} {pos:String} {af:Array Edge} {x y:Operand} {b c:Bool} {id gg i off s m sz fl lo:Nat} {oty:TypeId} {f:Nat→Nat→HV}
theorem xm (hx:ovl (a0J (tget tm)) x=some v) (hlt:Nat.blt d n=true) (hk':k+1=k') (h:Run qq GG (WDr P n clk tm0 hp0 L (dn++[⟨some d,.move x,ty,pos,af,none⟩]) (ss++[⟨.v v,a0A ⟨some d,.move x,ty,pos,af,none⟩,[],[]⟩]) rest k' ((d,.v v)::tm) hp Fin)):Run (qq+1) GG (WDr P n clk tm0 hp0 L dn ss (⟨some d,.move x,ty,pos,af,none⟩::rest) k tm hp Fin):=rg (fun h=>⟨dm k' h.h hx hlt hk'⟩) h
theorem xl (hT:TyI P T b s) (h1:ovl (a0J (tget tm)) x=some (.pt id gg i off)) (hid:hget hp id=some ⟨gg,m,sz,oty,fl,f⟩) (hi:i < m) (hoff:off+s≤sz) (hs:(b||Nat.beq s 1)=true) (hlt:Nat.blt d n=true) (hk':k+1=k') (h:Run qq GG (WDr P n clk tm0 hp0 L (dn++[⟨some d,.load T x,ty,pos,af,none⟩]) (ss++[⟨.v (ldv b s (f i) off),a0A ⟨some d,.load T x,ty,pos,af,none⟩,[(id,⟨gg,m,sz,oty,fl,f⟩)],[]⟩]) rest k' ((d,.v (ldv b s (f i) off))::tm) hp Fin)):Run (qq+1) GG (WDr P n clk tm0 hp0 L dn ss (⟨some d,.load T x,ty,pos,af,none⟩::rest) k tm hp Fin):=rg (fun h=>⟨a3a d (a0D hT.h h1 hi hoff (fun e=>by subst e;simpa using hs)) rfl rfl (a0P hid) hlt rfl hk' h.h⟩) h
theorem xi {e:TypeId} {q:IntKind} {a:Int} (hT:ElI P T e s) (h1:ovl (a0J (tget tm)) x=some (.os id gg lo i)) (h2:ovl (a0J (tget tm)) y=some (.imm (.int q a))) (hid:hget hp id=some ⟨gg,m,s,oty,fl,f⟩) (ha:0≤a) (hi:a < i) (hlt:Nat.blt d n=true) (hk':k+1=k') (h:Run qq GG (WDr P n clk tm0 hp0 L (dn++[⟨some d,.indexAddr T x y,ty,pos,af,none⟩]) (ss++[⟨.v (.pt id gg (lo+a.toNat) 0),a0A ⟨some d,.indexAddr T x y,ty,pos,af,none⟩,[(id,⟨gg,m,s,oty,fl,f⟩)],[]⟩]) rest k' ((d,.v (.pt id gg (lo+a.toNat) 0))::tm) hp Fin)):Run (qq+1) GG (WDr P n clk tm0 hp0 L dn ss (⟨some d,.indexAddr T x y,ty,pos,af,none⟩::rest) k tm hp Fin):=rg (fun h=>⟨a3a d (a5m hT.h h1 h2 ha hi) rfl rfl (a0P hid) hlt rfl hk' h.h⟩) h
theorem xw {hv:HV} (hT:TyI P T b s) (h1:ovl (a0J (tget tm)) x=some (.pt id gg 0 0)) (h2:ovl (a0J (tget tm)) y=some hv) (hf:hv.flat=true) (hw:hv.wid=s) (hid:hget hp id=some ⟨gg,1,s,oty,0,f⟩) (hk':k+1=k') (h:Run qq GG (WDr P n clk tm0 hp0 L (dn++[⟨none,.store T x y,ty,pos,af,none⟩]) (ss++[⟨.v (.imm undef),a0A ⟨none,.store T x y,ty,pos,af,none⟩,[(id,⟨gg,1,s,oty,0,f⟩)],[(id,⟨gg,1,s,oty,0,fun _ j=>hv.cell j⟩)]⟩]) rest k' tm ((id,⟨gg,1,s,oty,0,fun _ j=>hv.cell j⟩)::hp) Fin)):Run (qq+1) GG (WDr P n clk tm0 hp0 L dn ss (⟨none,.store T x y,ty,pos,af,none⟩::rest) k tm hp Fin):=rg (fun h=>⟨c4n (a9U hT.h h1 h2 hf hw) rfl rfl (a0P hid) hk' h.h⟩) h
theorem xs {hv:HV} (hT:TyI P T b s) (h1:ovl (a0J (tget tm)) x=some (.pt id gg i off)) (h2:ovl (a0J (tget tm)) y=some hv) (hf:hv.flat=true) (hw:hv.wid=s) (hid:hget hp id=some ⟨gg,m,sz,oty,fl,f⟩) (hi:i < m) (hfl:fl≤i) (hoff:off+s≤sz) (hk':k+1=k') (h:Run qq GG (WDr P n clk tm0 hp0 L (dn++[⟨none,.store T x y,ty,pos,af,none⟩]) (ss++[⟨.v (.imm undef),a0A ⟨none,.store T x y,ty,pos,af,none⟩,[(id,⟨gg,m,sz,oty,fl,f⟩)],[(id,⟨gg,m,sz,oty,fl,upd f i off s (fun j=>hv.cell j)⟩)]⟩]) rest k' tm ((id,⟨gg,m,sz,oty,fl,upd f i off s (fun j=>hv.cell j)⟩)::hp) Fin)):Run (qq+1) GG (WDr P n clk tm0 hp0 L dn ss (⟨none,.store T x y,ty,pos,af,none⟩::rest) k tm hp Fin):=rg (fun h=>⟨c4n (b2z hT.h h1 h2 hf hw hi hfl hoff) rfl rfl (a0P hid) hk' h.h⟩) h
theorem x0 (hop:HOp P ⟨some d,op,ty,pos,af,none⟩ (a0J (tget tm)) (clk+k) [] v []) (hlt:Nat.blt d n=true) (hk':k+1=k') (h:Run qq GG (WDr P n clk tm0 hp0 L (dn++[⟨some d,op,ty,pos,af,none⟩]) (ss++[⟨.v v,a0A ⟨some d,op,ty,pos,af,none⟩,[],[]⟩]) rest k' ((d,.v v)::tm) hp Fin)):Run (qq+1) GG (WDr P n clk tm0 hp0 L dn ss (⟨some d,op,ty,pos,af,none⟩::rest) k tm hp Fin):=rg (fun h=>⟨d0 k' hop h.h hlt hk'⟩) h
theorem xp {need:List Nat} {z:Operand} (hst:HStep P L.toArray ⟨some d,.pick x y z,ty,pos,af,none⟩ (tget tm) (clk+k) ⟨.v v,need,[],[]⟩) (hlt:Nat.blt d n=true) (hk':k+1=k') (h:Run qq GG (WDr P n clk tm0 hp0 L (dn++[⟨some d,.pick x y z,ty,pos,af,none⟩]) (ss++[⟨.v v,need,[],[]⟩]) rest k' ((d,.v v)::tm) hp Fin)):Run (qq+1) GG (WDr P n clk tm0 hp0 L dn ss (⟨some d,.pick x y z,ty,pos,af,none⟩::rest) k tm hp Fin):=rg (fun h=>⟨c9Z d hst rfl hlt rfl hk' h.h⟩) h
theorem xg (hgi:(L.toArray[gi]?).bind (·.dst)=some j) (hc:tget tm j=some (.v (.imm (.bool c)))) (hop:c=b→HOp P ⟨some d,op,ty,pos,af,some (gi,b)⟩ (a1L (tget tm) j b) (clk+k) [] v []) (hlt:Nat.blt d n=true) (hk':k+1=k') (h:Run qq GG (WDr P n clk tm0 hp0 L (dn++[⟨some d,op,ty,pos,af,some (gi,b)⟩]) (ss++[⟨.un j b v,j::a0A ⟨some d,op,ty,pos,af,some (gi,b)⟩,[],[]⟩]) rest k' ((d,.un j b v)::tm) hp Fin)):Run (qq+1) GG (WDr P n clk tm0 hp0 L dn ss (⟨some d,op,ty,pos,af,some (gi,b)⟩::rest) k tm hp Fin):=rg (fun h=>⟨b5U d gi j b c hop rfl rfl hgi hc a0g hlt rfl rfl hk' h.h⟩) h
theorem xn {id:Nat} {l:List Oper} (hu:c9l tm=true) (hm:P.follows .mixedOrders=true) (hc:c4p l ss tm0=true) (hc':clk+k=c') (nd:C.rd=none∨l.all Oper.calm=true) (h:Run qq GG (WQ C Q .normal ⟨n,tm,hp,c'⟩)):Run (qq+1) GG (WDr P n clk tm0 hp0 l dn ss [] k tm hp (HWp C P (.region id l.toArray true) ⟨n,tm0,hp0,clk⟩ Q)):=rg (fun h=>⟨b0h hm hc hc' h.h nd⟩) h
theorem e4 {m:Nat} {G:Prop} (h:Run m G (WDr P n clk tm0 hp0 L dn ss rest k tm hp Fin)):Run m G (HDr P n clk tm0 hp0 L dn ss rest k tm hp Fin):=⟨fun x=>(h.h x).h⟩
theorem f4:Run 0 (HDr P n clk tm0 hp0 L dn ss rest k tm hp Fin) (WDr P n clk tm0 hp0 L dn ss rest k tm hp Fin):=⟨fun x=>⟨x⟩⟩
end
theorem ru (n:Nat) {G' G:Prop} (k:G') (h:Run n G' G:=by ((with_reducible first | apply e1 | apply e2 | apply e3 | apply e4);repeat (first
 | exact f1
 | exact f2
 | exact f3
 | exact f4
 | (apply zm;(iterate 3 exact rfl))
 | (apply za;(iterate 3 exact rfl))
 | apply cs_
 | (apply cr_;(first | exact .inr rfl | exact .inl rfl | exact .inl (by assumption)))
 | (apply cn_;exact rfl)
 | (apply cu_;exact rfl;(simp only [a5g,a7v];exact rfl))
 | (apply ct_;exact rfl)
 | apply ck_
 | apply ce_
 | apply cw_
 | apply cl_
 | apply ch_
 | apply cq_
 | apply cb_
 | apply cv_
 | apply ci_
 | (apply co_;exact rfl)
 | apply cd_
 | (apply zf;infer_instance;(iterate 3 exact rfl))
 | (apply zl;infer_instance;(iterate 2 exact rfl);(iterate 2 exact omg);(iterate 3 exact rfl))
 | (apply zw;infer_instance;(iterate 5 exact rfl);exact ckk)
 | (apply zs;infer_instance;(iterate 5 exact rfl);(iterate 3 exact omg);exact ckk)
 | (apply zi;infer_instance;(iterate 3 exact rfl);(iterate 2 exact omg);(iterate 2 exact rfl))
 | (apply zc;infer_instance;(iterate 2 exact rfl);(iterate 2 exact lhh);(iterate 3 exact omg);(iterate 2 exact rfl))
 | (apply zA;infer_instance;(iterate 3 exact rfl);exact nb rfl;(iterate 3 exact omg);(iterate 3 exact rfl);exact ckk)
 | (apply zB;infer_instance;(iterate 4 exact rfl);exact nb rfl;(iterate 4 exact omg);(iterate 3 exact rfl);exact ckk)
 | (apply zb;infer_instance;(iterate 3 exact rfl);(iterate 2 exact nb rfl);(iterate 2 exact rfl);exact ckk)
 | (apply zo;(iterate 2 infer_instance);(iterate 2 exact rfl);(iterate 2 exact nb rfl);(iterate 2 exact rfl);exact ckk)
 | (apply zv;infer_instance;exact loo;exact nb rfl;exact rfl;exact nb rfl;(iterate 2 exact rfl);exact ckk)
 | (apply zp;(first | exact b2J _ _ rfl rfl rfl | exact b5j _ _ rfl rfl rfl | exact a5w _ _ _ _ rfl rfl rfl (fun _=>.refl _) (fun _=>.refl _) | fail);(iterate 2 exact rfl))
 | (apply z0;exact hpA;(iterate 2 exact rfl))
 | (apply ym;(iterate 6 exact rfl))
 | (apply yl;infer_instance;(iterate 4 exact rfl);(intro hb;exact omg);exact omg;(iterate 4 exact rfl))
 | (apply yl3;infer_instance;(iterate 5 exact rfl);(intro hb hb2;exact omg);exact omg;(iterate 4 exact rfl))
 | (apply yi;infer_instance;(iterate 5 exact rfl);(intro hb;exact ⟨omg,omg⟩);(iterate 3 exact rfl))
 | (apply yp;exact rfl;(first | exact b0a _ _ rfl rfl rfl rfl | exact b3c _ _ rfl rfl rfl rfl | exact a4G _ _ _ _ rfl rfl rfl rfl (fun _=>.refl _) (fun _=>.refl _) | fail);(iterate 3 exact rfl))
 | (apply y0;(iterate 2 exact rfl);(intro hb;exact hpA);(iterate 3 exact rfl))
 | (apply y3;(iterate 3 exact rfl);(intro hb hb2;exact hpA);(iterate 3 exact rfl))
 | (apply y2;(iterate 2 exact rfl);(intro hb;exact hpA);(iterate 3 exact rfl))
 | (apply xm;(iterate 2 exact rfl);exact ckk)
 | (apply xl;infer_instance;(iterate 2 exact rfl);(iterate 2 exact omg);(iterate 2 exact rfl);exact ckk)
 | (apply xi;infer_instance;(iterate 3 exact rfl);(iterate 2 exact omg);exact rfl;exact ckk)
 | (apply xw;infer_instance;(iterate 5 exact rfl);exact ckk)
 | (apply xs;infer_instance;(iterate 5 exact rfl);(iterate 3 exact omg);exact ckk)
 | (apply xp;(first | exact b2J _ _ rfl rfl rfl | exact b5j _ _ rfl rfl rfl | exact a5w _ _ _ _ rfl rfl rfl (fun _=>.refl _) (fun _=>.refl _) | fail);exact rfl;exact ckk)
 | (apply x0;exact hpA;exact rfl;exact ckk)
 | (apply xg;(iterate 2 exact rfl);(intro hb;exact hpA);exact rfl;exact ckk)
 | (apply xn;exact rfl;(iterate 2 kernel_rfl);exact ckk;(first | exact .inr rfl | exact .inl rfl | exact .inl (by assumption)))
 | fail))):G:=h.h k
section
variable {C:Ctx} {P:Program} {ops:Array Oper} {Q:Exit→Act→World→Prop} {n clk:Nat} {tm:List (Nat×TV)} {hp:List (Nat×HObj)} {rest:List Oper} {v v':HV} {d gi j j2:Nat} {ty:TypeId} {pos:String} {af:Array Edge} {b b2 c c2:Bool}
theorem rvl (v':HV) (e:v=v') (h:HSeq C P ops rest ⟨n,(d,.v v')::tm,hp,clk⟩ Q):HSeq C P ops rest ⟨n,(d,.v v)::tm,hp,clk⟩ Q:=by subst e;exact h
theorem ryx (v':HV) {p:Prop} (e:p→v=v') (hp':∀ w E (a:Act),(∀ t x,tget tm t=some x→t≠d→TVRep w E a (a.tmps.getD t undef) x)→a.tmps.getD j undef=.bool b→p) (h:HSeq C P ops rest ⟨n,(d,.un j b v')::tm,hp,clk⟩ Q):HSeq C P ops rest ⟨n,(d,.un j b v)::tm,hp,clk⟩ Q:=fun a w ⟨E,e0,r,hG,hsz,hdf,ht⟩ =>
  h a w ⟨E, e0, r, hG, hsz, hdf, fun t x hx => by
    rw [a0B] at hx
    split at hx
    · rename_i ht'
      injection hx with hx;subst hx;subst ht'
      have h0:=ht t (.un j b v) (by rw [a0B,if_pos rfl])
      refine ⟨fun hj=>?_,h0.2⟩
      have:=e (hp' w E a (fun t' x hx hne=>ht t' x (by rw [a0B,if_neg hne];exact hx)) hj)
      subst this;exact h0.1 hj
    · rename_i hne;exact ht t x (by rw [a0B,if_neg hne];exact hx)⟩
theorem ry (v':HV) (hc:tget tm j=some (.v (.imm (.bool c)))) (e:c=b→v=v') (h:HSeq C P ops rest ⟨n,(d,.un j b v')::tm,hp,clk⟩ Q) (hjd:Nat.beq j d=false:=by exact rfl):HSeq C P ops rest ⟨n,(d,.un j b v)::tm,hp,clk⟩ Q :=
 ryx v' e (fun w E a ht hj=>by
  have:=Rep.imm_inv (ht j _ hc (fun h=>by subst h;simp at hjd));rw [hj] at this;injection this with this;exact this.symm) h
theorem ry3 (v':HV) (hc:tget tm j=some (.un j2 b2 (.imm (.bool c)))) (hc2:tget tm j2=some (.v (.imm (.bool c2)))) (e:c=b→c2=b2→v=v') (h:HSeq C P ops rest ⟨n,(d,.un j b v')::tm,hp,clk⟩ Q) (hjd:Nat.beq j d=false:=by exact rfl) (hjd2:Nat.beq j2 d=false:=by exact rfl):HSeq C P ops rest ⟨n,(d,.un j b v)::tm,hp,clk⟩ Q :=
 ryx (p:=c=b∧c2=b2) v' (fun h=>e h.1 h.2) (fun w E a ht hj=>by
  have h1:=ht j _ hc (fun h=>by subst h;simp at hjd)
  have h2:=Rep.imm_inv (ht j2 _ hc2 (fun h=>by subst h;simp at hjd2))
  have h3:a.tmps.getD j2 undef=.bool b2:=Classical.byContradiction fun h=>by have:=h1.2 h;rw [hj] at this;exact absurd this (by simp [undef])
  have h4:=Rep.imm_inv (h1.1 h3)
  rw [hj] at h4;rw [h3] at h2;injection h4 with h4;injection h2 with h2;exact ⟨h4.symm,h2.symm⟩) h
theorem fz0 {sh:List (Nat×HObj)}:FzAll sh [] []:=trivial
theorem fz1 {sh:List (Nat×HObj)} {x y:HV} {xs ys:List HV} (h:Fz sh x y) (r:FzAll sh xs ys):FzAll sh (x::xs) (y::ys):=⟨h,r⟩
theorem fzz {sh:List (Nat×HObj)} {xs ys:List HV} (h:FzAll sh xs ys:=by repeat (first | exact fz0 | (apply fz1;(first | exact fe | exact fzc | fail)))):FzAll sh xs ys:=h
theorem cll {f:FuncId} {args:List Operand} {at_:Array TypeId} {xs ys:List HV} (hp':HPure P f ys v) (h:HSeq C P ops rest ⟨n,(d,.v v)::tm,hp,clk⟩ Q) (hx:a2k (a0J (tget tm)) args xs:=by exact oaa) (hz:FzAll [] xs ys:=by exact fzz) (hlt:Nat.blt d n=true:=by exact rfl) (hk:a0T tm d=true:=by exact rfl):HSeq C P ops (⟨some d,.call ⟨.value (.func f),args.toArray,at_⟩,ty,pos,af,none⟩::rest) ⟨n,tm,hp,clk⟩ Q:=st0 (a0e hp' hx hz) hlt hk h
theorem clx {k k':Nat} {tm0:List (Nat×TV)} {hp0:List (Nat×HObj)} {ss:List HSpec} {Fin:Prop} {dn L:List Oper} {f:FuncId} {args:List Operand} {at_:Array TypeId} {xs ys:List HV} (hp':HPure P f ys v) (h:HDr P n clk tm0 hp0 L (dn++[⟨some d,.call ⟨.value (.func f),args.toArray,at_⟩,ty,pos,af,none⟩]) (ss++[⟨.v v,a0A ⟨some d,.call ⟨.value (.func f),args.toArray,at_⟩,ty,pos,af,none⟩,[],[]⟩]) rest k' ((d,.v v)::tm) hp Fin) (hx:a2k (a0J (tget tm)) args xs:=by exact oaa) (hz:FzAll [] xs ys:=by exact fzz) (hlt:Nat.blt d n=true:=by exact rfl) (hk':k+1=k':=by exact ckk):HDr P n clk tm0 hp0 L dn ss (⟨some d,.call ⟨.value (.func f),args.toArray,at_⟩,ty,pos,af,none⟩::rest) k tm hp Fin:=d0 k' (a0e hp' hx hz) h hlt hk'
theorem rvc {s:HSt} {t:Nat} {T oty:TypeId} {id gg sz n osz fl:Nat} {b:Bool} {f:Nat→Nat→HV} {x:HV} (h:tget s.tm t=some (.v (.pt id gg 0 0))) (ho:hget s.hp id=some ⟨gg,n,osz,oty,fl,f⟩) (hT:TyI P T b sz) (hs:b=false→sz=1) (hn:Nat.blt 0 n=true) (hz:Nat.ble sz osz=true) (hx:ldv b sz (f 0) 0=x):a6k P s (.cell t T) x:=hx▸a0I h ho hT.h hs hn hz
theorem rvx {s:HSt} {r:ResultVar} {x:HV} (h:a6k P s r x:=by first | exact a0h rfl | (apply rvc;exact rfl;exact rfl;infer_instance;exact rq_;exact rfl;exact rfl;exact rfl) | fail):a6k P s r x:=h
def RV1 (P:Program) (fn:Func) (s:HSt) (x:HV):Prop:=∃ r,fn.results=#[r]∧a6k P s r x
theorem rw1 {fn:Func} {s:HSt} {x:HV} (h:RV1 P fn s x:=by (refine ⟨_,rfl,?_⟩;exact rvx)):RV1 P fn s x:=h
end
section
variable {P:Program} {w:World} {F:Addr→Prop} {fn:Func} {r1 r2 r3:ResultVar} {s:HSt} {x1 x2 x3 y:HV}
theorem rt1 (hz:Fz [] x1 y) (hres:fn.results=#[r1]:=by exact rfl) (h1:a6k P s r1 x1:=by exact rvx):HQ (Ctx.top w F) (bodyPost P fn (a0Z w F y)) .ret s:=a5f hres h1 [] rfl a0g hz
theorem rt2 (hz:Fz [] (t2 x1 x2) y) (hres:fn.results=#[r1,r2]:=by exact rfl) (h1:a6k P s r1 x1:=by exact rvx) (h2:a6k P s r2 x2:=by exact rvx):HQ (Ctx.top w F) (bodyPost P fn (a0Z w F y)) .ret s:=a8y hres h1 h2 [] rfl a0g hz
theorem rt3 (hz:Fz [] (t3 x1 x2 x3) y) (hres:fn.results=#[r1,r2,r3]:=by exact rfl) (h1:a6k P s r1 x1:=by exact rvx) (h2:a6k P s r2 x2:=by exact rvx) (h3:a6k P s r3 x3:=by exact rvx):HQ (Ctx.top w F) (bodyPost P fn (a0Z w F y)) .ret s:=b0I hres h1 h2 h3 [] rfl a0g hz
variable {α:Type} {I:α→Nat→Prop} {r:α→HV} {kpf:α→List (Nat×HObj)} {X:Clr} {pre:List (Nat×HObj)}
theorem fr1 (ok:X.Ok) (hX:X.pre=pre) (h1:RV1 P fn s x1) (x:α) (hI:I x s.clk) (hz:Kz (kpf x) [] x1 (r x)) (hkp:b3C (kpf x) [] s.hp (kpf x)) (hpk:(pre.all fun p=>(hget (kpf x) p.1).isSome)=true:=by exact rfl) (hks:((kpf x).all fun p=>!(([]:List (Nat×HObj)).map (·.1)).any (Nat.beq p.1))=true:=by exact rfl):HQ X.ctx (bodyPost P fn (a1v X (a9t I r kpf))) .ret s:=by obtain ⟨_,a,b⟩:=h1;exact a1q ok hX a3g.one a b [] rfl a0g x hI hpk hks hz hkp
end
set_option maxHeartbeats 1000000
def tbF (R:List (List Int)) (A:List Bool) (i j:Nat):HV:=match Nat.blt j 32 with
 | true=>intV ((R.getD i []).getD j 0)
 | false=>boolV (A.getD i false)
@[reducible] def tabP (R:List (List Int)) (A:List Bool):HV:=.fp 1 (fun _=>.sl 33 R.length (tbF R A))
theorem a2u {R:List (List Int)} {A:List Bool} {i j:Nat} (h:j < 32):tbF R A i j=intV ((R.getD i []).getD j 0):=by
 unfold tbF;rw [show Nat.blt j 32=true from by simpa [Nat.blt_eq] using h]
theorem b3w {R:List (List Int)} {A:List Bool} {i:Nat}:tbF R A i 32=boolV (A.getD i false):=rfl
theorem b3e {sh:List (Nat×HObj)} (R:List (List Int)) (A:List Bool) (i j:Nat):Fz sh (tbF R A i j) (tbF R A i j):=by unfold tbF;split <;> exact .imm _
instance (R:List (List Int)) (A:List Bool) (i j:Nat):Frz (tbF R A i j):=⟨b3e R A i j⟩
@[reducible] def c3S (R:List (List Int)) (at_:Int):Bool:=decide (at_≥0)&&decide (at_ < (R.length:Int))
def nxT (R:List (List Int)) (at_ s:Int):Int:=if (0≤at_∧at_ < R.length)∧0≤s∧s < 32 then (R.getD at_.toNat []).getD s.toNat 0 else -1
theorem b1F (R:List (List Int)) (A:List Bool):HPure Tryz.prog 13 [tabP R A] (intV (R.length:Int)):=by
 refine a0k Tryz.func13 rfl kr _ _ _ rfl 10 rfl rfl (fun w F=>?_)
 refine ru 12 ?_
 refine wdc (fun hr0 hc0=>?_) (fun hr0 hc0=>?_)
 ·skip
  exfalso;simp at hr0
 refine ru 13 ?_
 refine rt1 ?_
 exact Frz.fz
theorem c3K (R:List (List Int)) (A:List Bool) (at_:Int):HPure Tryz.prog 36 [tabP R A,intV at_] (boolV (c3S R at_)):=by
 refine a0k Tryz.func36 rfl kr _ _ _ rfl 20 rfl rfl (fun w F=>?_)
 refine ru 26 ?_
 refine rt1 ?_
 exact .imm _
theorem b8o (R:List (List Int)) (A:List Bool) (at_:Int):HPure Tryz.prog 14 [tabP R A,intV at_] (boolV (c3S R at_&&A.getD at_.toNat false)):=by
 refine a0k Tryz.func14 rfl kr _ _ _ rfl 18 rfl rfl (fun w F=>?_)
 refine ru 9 ?_
 refine cll (c3K R A at_) ?_
 refine ru 9 ?_
 refine ry (boolV (A.getD at_.toNat false)) rfl (fun hb=>rfl) ?_
 refine ru 5 ?_
 refine rt1 ?_
 exact .imm _
theorem b5N (R:List (List Int)) (A:List Bool) (at_ s:Int):HPure Tryz.prog 11 [tabP R A,intV at_,intV s] (t2 (intV (if nxT R at_ s=-1 then 0 else nxT R at_ s)) (boolV (nxT R at_ s != -1))):=by
 refine a0k Tryz.func11 rfl kr _ _ _ rfl 43 rfl rfl (fun w F=>?_)
 refine ru 11 ?_
 refine cll (c3K R A at_) ?_
 refine ru 20 ?_
 refine ry (intV ((R.getD at_.toNat []).getD s.toNat 0)) rfl (fun hb=>(by simp at hb;show tbF R A at_.toNat (0+(s.toNat * 1+0))=_;rw [show 0+(s.toNat * 1+0)=s.toNat by omega];exact a2u om)) ?_
 refine ru 4 ?_
 refine wdc (fun hr0 hc0=>?_) (fun hr0 hc0=>?_)
 ·skip
  have hx:nxT R at_ s=-1:=(by unfold nxT;split;(rename_i hq;obtain ⟨⟨a1,a2⟩,a3,a4⟩:=hq;have h9:=hr0;simp only [c3S,ge_iff_le,decide_eq_true a1,decide_eq_true a2,Bool.and_self,Bool.not_true,Bool.false_or,Bool.or_eq_true,decide_eq_true_eq,beq_iff_eq] at h9;omega);rfl)
  refine ru 8 ?_
  refine rt2 ?_
  rw [hx];exact a4F (.imm _) (.imm _)
 have hin:((0≤at_∧at_ < R.length)∧0≤s∧s < 32)∧(R.getD at_.toNat []).getD s.toNat 0≠-1:=(by have h9:=hr0;simp only [Bool.or_eq_false_iff,Bool.not_eq_false',Bool.and_eq_true,decide_eq_true_eq,decide_eq_false_iff_not,beq_eq_false_iff_ne,ne_eq,ge_iff_le] at h9;obtain ⟨⟨⟨⟨b1,b2⟩,b3⟩,b4⟩,b5⟩:=h9;exact ⟨⟨⟨b1,b2⟩,by omega,by omega⟩,b5⟩);have hx:nxT R at_ s=(R.getD at_.toNat []).getD s.toNat 0:=(by unfold nxT;rw [if_pos hin.1])
 refine ru 14 ?_
 refine rvl (intV ((R.getD at_.toNat []).getD s.toNat 0)) ((by show tbF R A at_.toNat (0+(s.toNat * 1+0))=_;rw [show 0+(s.toNat * 1+0)=s.toNat by omega];exact a2u om)) ?_
 refine ru 5 ?_
 refine rt2 ?_
 rw [hx,if_neg hin.2];exact a4F (.imm _) (Fz.eq (by rw [show ((R.getD at_.toNat []).getD s.toNat 0 != -1)=true from bne_iff_ne.2 hin.2]))
set_option linter.unusedSectionVars false
@[reducible] def b4l (g:Nat) (l:List (Value×Value)):HObj:=⟨g,0,2,0,1,fun _ _=>.imm (.tuple (l.map fun p=>Value.tuple #[p.1,p.2]).toArray)⟩
theorem c2F {o:HObj} {ob:Obj} {g:Nat} {l:List (Value×Value)} (h:RawIs o ob) (ho:o=b4l g l):∃ es,ob=.map es es.size∧es.toList.map (fun e=>(e.key,e.val))=l∧∀ (i:Nat) (e:MapEntry),es[i]?=some e→e.born=i:=by
  cases h with
  | iter g' ty' s' p'=>injection ho with _ _ hs;cases hs
  | map g' ty' es c hc hb =>
    subst hc
    injection ho with _ _ _ _ _ hf
    have h0:=congrFun (congrFun hf 0) 0
    injection h0 with h0
    injection h0 with h0
    refine ⟨es,rfl,?_,hb⟩
    have h1:=congrArg Array.toList h0
    simp only [Array.toList_map] at h1
    have h2:(es.toList.map fun e=>(e.key,e.val)).map (fun p=>Value.tuple #[p.1,p.2])=l.map fun p=>Value.tuple #[p.1,p.2]:=by
      rw [List.map_map];exact h1
    refine (List.map_inj_right (fun p q hpq=>?_)).1 h2
    injection hpq with hpq
    have a1:p.1=q.1:=by have:=congrArg (fun a=>a[0]?) hpq;simpa using this
    have a2:p.2=q.2:=by have:=congrArg (fun a=>a[1]?) hpq;simpa using this
    exact Prod.ext a1 a2
theorem b9E (g:Nat) (es:Array MapEntry) (l:List (Value×Value)) (h:es.toList.map (fun e=>(e.key,e.val))=l) (hb:∀ (i:Nat) (e:MapEntry),es[i]?=some e→e.born=i):RawIs (b4l g l) (.map es es.size):=by
 have e:b4l g l=⟨g,0,2,0,1,fun _ _=>.imm (.tuple (es.map fun e=>.tuple #[e.key,e.val]))⟩:=by
  unfold b4l
  congr 1
  funext i j
  congr 2
  subst h
  rw [List.map_map]
  apply Array.ext'
  simp
 rw [e];exact .map g 0 es _ rfl hb
section
variable {K:Nat→Prop} {w0 w w':World} {F0:Addr→Prop} {E E':Env} {h h':Nat→Option HObj}
theorem R.mapAt (r:R K w0 F0 E h w) {id g:Nat} {l:List (Value×Value)} (ho:h id=some (b4l g l)):∃ lc b es,E.L id=some lc∧lc.g=g∧lc.A=some b∧w.heap[b]?=some (.map es es.size)∧es.toList.map (fun e=>(e.key,e.val))=l∧∀ (i:Nat) (e:MapEntry),es[i]?=some e→e.born=i:=by
 obtain ⟨lc,hl,a⟩:=r.obj id _ ho
 rcases a.at_ with ⟨h0,h1,h2,h3⟩ | ⟨b,cs,h1,h2,h3,h4,h5,h6,h8,h9⟩ | ⟨b,ob,h1,h2,h3,h4⟩
 ·exact absurd h3 (by show ¬ (1≤0);omega)
 ·exact absurd h9.2 (by show ¬ (1≤0);omega)
 ·obtain ⟨es,rfl,e,hb⟩:=c2F h3 rfl
  exact ⟨lc,b,es,hl,a.g,h1,h2,e,hb⟩
theorem R.setMap (r:R K w0 F0 E h w) {id g:Nat} {l l':List (Value×Value)} {lc:Loc} {b:Nat} {es es':Array MapEntry} {c:Nat} (ho:h id=some (b4l g l)) (hl:E.L id=some lc) (hb:lc.A=some b) (hw:w.heap[b]?=some (.map es c)) (he:es'.toList.map (fun e=>(e.key,e.val))=l') (hbn:∀ (i:Nat) (e:MapEntry),es'[i]?=some e→e.born=i) :
  Ext w E { w with heap:=w.heap.setIfInBounds b (.map es' es'.size) } E∧R K w0 F0 E (a3e h id (b4l g l')) { w with heap:=w.heap.setIfInBounds b (.map es' es'.size) }:=by
 obtain ⟨l2,hl',a⟩:=r.obj id _ ho
 rw [hl] at hl';injection hl' with hl';subst hl'
 have hlt:=a.lt hb
 refine r.write id _ _ lc b ho hl hb rfl rfl rfl (by simp) (fun k hk=>?_) (fun k hk=>?_) (fun e=>⟨a.g,a.G,a.sz,a.pos,.inr (.inr ⟨b,_,hb,?_,b9E g es' l' he hbn,a.notK hb⟩)⟩)
 ·show (w.heap.setIfInBounds b _)[k]?=_
  rw [Array.getElem?_setIfInBounds_ne (Ne.symm hk)]
 ·have:=(r.frz _ hk).2
  simp [World.cell?,hw] at this
 ·show (w.heap.setIfInBounds b _)[b]?=_
  rw [Array.getElem?_setIfInBounds_self_of_lt hlt]
end
def mfind {α:Type} [DecidableEq α] (a:α):List (α×Value)→Nat→Option (Nat×Value)
 | [],_=>none
 | p::r,i=>if a=p.1 then some (i,p.2) else mfind a r (i+1)
def c6t {α:Type} [DecidableEq α] (l:List (α×Value)) (a:α):Option Value:=(mfind a l 0).map (·.2)
def c7Y {α:Type} [DecidableEq α] (l:List (α×Value)) (a:α) (v:Value):List (α×Value):=match mfind a l 0 with | some (i,_)=>l.set i (a,v) | none=>l++[(a,v)]
@[reducible] def encL {α:Type} (enc:α→Value) (l:List (α×Value)):List (Value×Value):=l.map fun p=>(enc p.1,p.2)
structure KeyOk (P:Program) (T:TypeId) (α:Type) [DecidableEq α] (enc:α→Value) (zero:Value):Prop where
 all:∃ kt et,P.underlying T=some (.map kt et)∧(∀ w,(zeroValue et).run P w=.ok zero w)∧(∀ b a w,(Instr.checkKey b 10000 kt (enc a)).run P w=.ok () w) ∧
  (∀ a (es:List MapEntry) (l:List (α×Value)),es.map (fun e=>(e.key,e.val))=encL enc l→∀ w,(Instr.findKey kt (enc a) es).run P w=.ok (mfind a l 0) w)
 stay:∀ a,Instr.sameBits 10000 (enc a) (enc a)=true
theorem b2s {α:Type} [DecidableEq α] {a:α}:∀ {l:List (α×Value)} {i n:Nat} {v:Value},mfind a l i=some (n,v)→∃ k,n=i+k∧l[k]?=some (a,v)
  | [],i,n,v,h=>by cases h
  | p :: r, i, n, v, h => by
    unfold mfind at h
    split at h
    · rename_i e;injection h with h;injection h with h1 h2
      exact ⟨0,by omega,by rw [e,←h2];rfl⟩
    · obtain ⟨k,h1,h2⟩:=b2s h
      exact ⟨k+1,by omega,by simpa using h2⟩
section
variable {P:Program} {ov:Nat→Option HV} {g:Nat} {d:Option Tmp} {ty:TypeId} {pos:String} {af:Array Edge} {gd:Option (Nat×Bool)} {T yT:TypeId} {x y z:Operand}
theorem b3P {id:Nat}:HOp P ⟨d,.makeMap T none,ty,pos,af,gd⟩ ov g [] (.mp id g) [(id,b4l g [])]:=by
 refine ⟨?_⟩;intro K w0 F0 E hh a w Q N r ht hG hBd hpre hN
 have hnew:=r.newRaw id (b4l g []) (.map #[] 0) (b9E g #[] [] rfl (fun i e h=>by simp at h)) hG (by show 0 < 2;omega)
 refine a3Q (v:=.map (some w.heap.size)) (w':=w.alloc (.map #[] 0)) ?_ (hN _ _ _ hnew.1 hnew.2 (fun g' hg'=>hg'.imp (fun h=>h) fun h=>⟨by simp,h⟩) ?_)
 ·simp only [execOp,Instr.makeMap,Option.map_none,Sem.run_bind,Sem.run_pure,Result.andThen_ok];rfl
 ·refine .mp w.heap.size id g (.inr rfl) (fun l hl _=>?_)
  rw [Env.new_L] at hl;injection hl with hl;subst hl
  rfl
section
variable {α:Type} [DecidableEq α] {enc:α→Value} {zero:Value}
def lkV (ok:Bool) (r:Option Value) (zero:Value):HV:=match ok with | true=>t2 (.imm (r.getD zero)) (.imm (.bool r.isSome)) | false=>.imm (r.getD zero)
def lkW (ok:Bool) (r:Option Value) (zero:Value):Value:=match ok with | true=>.tuple #[r.getD zero,.bool r.isSome] | false=>r.getD zero
theorem c7f {w:World} {E:Env} (ok:Bool) (r:Option Value) (zero:Value):Rep w E (lkW ok r zero) (lkV ok r zero):=by
 cases ok with
 | true=>exact .tup _ 2 _ (fun i=>match i with | 0=>r.getD zero | _=>.bool r.isSome) rfl (fun i hi=>by match i,hi with | 0,_=>rfl | 1,_=>rfl) (fun i hi=>by match i,hi with | 0,_=>exact .imm _ | 1,_=>exact .imm _)
 | false=>exact .imm _
theorem b6R (hK:KeyOk P T α enc zero) (w:World) (b:Nat) (es:Array MapEntry) (c:Nat) (hb:w.heap[b]?=some (.map es c)) (l:List (α×Value)) (he:es.toList.map (fun e=>(e.key,e.val))=encL enc l) (a:α) (ok:Bool) :
  (Instr.lookup T (.map (some b)) (enc a) ok).run P w=.ok (lkW ok (c6t l a) zero) w:=by
 obtain ⟨kt,et,h1,h2,h3,h4⟩:=hK.all
 unfold Instr.lookup
 have hg:(getObj b).run P w=.ok (.map es c) w:=by simp [getObj,Sem.run,hb]
 simp only [Sem.run_bind,run_underlying h1,Result.andThen_ok,hg,Sem.run_pure,h3,h4 a es.toList l he]
 unfold c6t lkW
 cases mfind a l 0 with
 | none=>simp only [Sem.run_bind,h2,Result.andThen_ok,Sem.run_pure,Option.map_none,Option.getD_none,Option.isSome_none];cases ok <;> rfl
 | some p=>obtain ⟨i,v⟩:=p;simp only [Sem.run_pure,Result.andThen_ok,Option.map_some,Option.getD_some,Option.isSome_some];cases ok <;> rfl
def b8N (hv:HV) (v:Value):Prop:=∀ (w:World) (E:Env) (u:Value),Rep w E u hv→u=v
theorem b8N.imm (v:Value):b8N (.imm v) v:=fun _ _ _ h=>h.imm_inv
theorem b6N (hK:KeyOk P T α enc zero) {id gg:Nat} {l:List (α×Value)} {a:α} {ok:Bool} {hk:HV} (h1:ovl ov x=some (.mp id gg)) (h2:ovl ov y=some hk) (h3:b8N hk (enc a)) :
    HOp P ⟨d,.lookup T x y ok,ty,pos,af,gd⟩ ov g [(id,b4l gg (encL enc l))] (lkV ok (c6t l a) zero) []:=by
  refine ⟨?_⟩;intro K w0 F0 E hh ac w Q N r ht hG hBd hpre hN
  have ho:=hpre _ (List.mem_cons_self ..)
  obtain ⟨lc,b,es,hl,hlg,hlA,hwb,he,hbn⟩:=r.mapAt ho
  have hX:=ht x _ (by simp [Op.operands]) h1
  have e2:=h3 _ _ _ (ht y _ (by simp [Op.operands]) h2)
  generalize hρ:ac.eval x=u at hX
  cases hX with
  | mp b' _ _ hgg hh' =>
    have h4:=hh' lc hl hlg
    rw [hlA] at h4;injection h4 with h4;subst h4
    refine a3Q (v:=lkW ok (c6t l a) zero) ?_ (hN _ _ _ (Ext.refl _ _) r (fun g' hg'=>.inl hg') (c7f ok _ zero))
    simp only [execOp,hρ,e2,Sem.run_bind,b6R hK w b es es.size hwb l he a ok,Result.andThen_ok,Sem.run_pure]
theorem c0D {es:Array MapEntry} (h:∀ (i:Nat) (e:MapEntry),es[i]?=some e→e.born=i) (k v:Value):∀ (i:Nat) (e:MapEntry),(es.push ⟨k,v,es.size⟩)[i]?=some e→e.born=i:=fun i e he=>by
 rw [Array.getElem?_push] at he
 split at he
 ·rename_i e1;injection he with he;subst he;exact e1.symm
 ·exact h i e he
theorem b4e {es:Array MapEntry} (h:∀ (i:Nat) (e:MapEntry),es[i]?=some e→e.born=i) (k:Nat) (f:MapEntry→MapEntry) (hf:∀ e,(f e).born=e.born):∀ (i:Nat) (e:MapEntry),(es.modify k f)[i]?=some e→e.born=i:=fun i e he=>by
  rw [Array.getElem?_modify] at he
  split at he
  · cases hq : es[i]? with
    | none=>rw [hq] at he;cases he
    | some e0=>rw [hq] at he;injection he with he;subst he;rw [hf];exact h i e0 hq
  · exact h i e he
theorem b0Z (hK:KeyOk P T α enc zero) (w:World) (b:Nat) (es:Array MapEntry) (hb:w.heap[b]?=some (.map es es.size)) (hbn:∀ (i:Nat) (e:MapEntry),es[i]?=some e→e.born=i) (l:List (α×Value)) (he:es.toList.map (fun e=>(e.key,e.val))=encL enc l) (a:α) (v:Value) :
    ∃ es',(Instr.mapUpdate T (.map (some b)) (enc a) v).run P w=.ok () { w with heap:=w.heap.setIfInBounds b (.map es' es'.size) }∧es'.toList.map (fun e=>(e.key,e.val))=encL enc (c7Y l a v)∧∀ (i:Nat) (e:MapEntry),es'[i]?=some e→e.born=i:=by
  obtain ⟨kt,et,h1,h2,h3,h4⟩:=hK.all
  have hg:(getObj b).run P w=.ok (.map es es.size) w:=by simp [getObj,Sem.run,hb]
  have hs:∀ o,(setObj b o).run P w=.ok () { w with heap:=w.heap.setIfInBounds b o }:=fun o=>by simp [setObj,Sem.run,hb]
  unfold c7Y
  cases hm:mfind a l 0 with
  | none =>
    refine ⟨es.push { key:=enc a,val:=v,born:=es.size },?_,?_,c0D hbn _ _⟩
    · unfold Instr.mapUpdate
      simp only [Sem.run_bind,run_underlying h1,Result.andThen_ok,hg,h3,h4 a es.toList l he,hm,hs,Array.size_push]
    · simp [he,encL]
  | some p =>
    obtain ⟨i,u⟩:=p
    obtain ⟨k,rfl,hk⟩:=b2s hm
    rw [Nat.zero_add] at *
    have hkey:∃ e,es[k]?=some e∧e.key=enc a:=by
      have:=congrArg (fun q=>q[k]?) he
      simp only [encL,List.getElem?_map,hk,Option.map_some] at this
      cases hq:es[k]? with
      | none=>rw [←Array.getElem?_toList] at hq;rw [hq] at this;cases this
      | some e=>rw [←Array.getElem?_toList] at hq;rw [hq] at this;injection this with this;injection this with t1 t2;exact ⟨e,rfl,t1⟩
    obtain ⟨e,hek,hea⟩:=hkey
    have hst:(Instr.keyThatStays (((es[k]?).map (·.key)).getD (enc a)) (enc a)).run P w=.ok (enc a) w:=by
      unfold Instr.keyThatStays
      rw [hek]
      simp [hea,hK.stay a]
    refine ⟨es.modify k fun e=>{ e with key:=enc a,val:=v },?_,?_,b4e hbn k _ (fun _=>rfl)⟩
    · unfold Instr.mapUpdate
      simp only [Sem.run_bind,run_underlying h1,Result.andThen_ok,hg,h3,h4 a es.toList l he,hm,hst,hs,Array.size_modify]
    · rw [Array.toList_modify]
      apply List.ext_getElem?
      intro j
      have hj:=congrArg (fun q=>q[j]?) he
      simp only [encL,List.getElem?_map] at hj
      simp only [encL,List.getElem?_map,List.getElem?_modify,List.getElem?_set]
      have hkl:k < l.length:=by
        rcases Nat.lt_or_ge k l.length with h | h
        · exact h
        · rw [List.getElem?_eq_none h] at hk;cases hk
      by_cases e:k=j
      · subst e
        rw [if_pos rfl,if_pos hkl]
        rw [←Array.getElem?_toList] at hek
        rw [hek];simp
      · rw [if_neg e,←hj]
        simp [e]
theorem b0o (hK:KeyOk P T α enc zero) {id gg:Nat} {l:List (α×Value)} {a:α} {v:Value} {hk:HV} (h1:ovl ov x=some (.mp id gg)) (h2:ovl ov y=some hk) (h3:b8N hk (enc a)) (h4:ovl ov z=some (.imm v)) :
    HOp P ⟨d,.mapUpdate T x y z,ty,pos,af,gd⟩ ov g [(id,b4l gg (encL enc l))] (.imm undef) [(id,b4l gg (encL enc (c7Y l a v)))]:=by
  refine ⟨?_⟩;intro K w0 F0 E hh ac w Q N r ht hG hBd hpre hN
  have ho:=hpre _ (List.mem_cons_self ..)
  obtain ⟨lc,b,es,hl,hlg,hlA,hwb,he,hbn⟩:=r.mapAt ho
  have hX:=ht x _ (by simp [Op.operands]) h1
  have e2:=h3 _ _ _ (ht y _ (by simp [Op.operands]) h2)
  have e3:=Rep.imm_inv (ht z _ (by simp [Op.operands]) h4)
  generalize hρ:ac.eval x=u at hX
  cases hX with
  | mp b' _ _ hgg hh' =>
    have h4:=hh' lc hl hlg
    rw [hlA] at h4;injection h4 with h4;subst h4
    obtain ⟨es',hrun,he',hbn'⟩:=b0Z hK w b es hwb hbn l he a v
    have a3e:=r.setMap ho hl hlA hwb he' hbn'
    refine c3h (w':={ w with heap:=w.heap.setIfInBounds b (.map es' es'.size) }) ?_ (hN _ _ _ a3e.1 a3e.2 (fun g' hg'=>.inl hg') (.imm _))
    simp only [execOp,hρ,e2,e3,Sem.run_bind,hrun,Result.andThen_ok,Sem.run_pure]
end
end
section
variable {P:Program} {α:Type} [DecidableEq α] {enc:α→Value}
theorem a5P {kt:TypeId} (heq:∀ a b w,(Op.equal kt (enc a) (enc b)).run P w=.ok (decide (a=b)) w) (a:α) (w:World) :
    ∀ (es:List MapEntry) (l:List (α×Value)) (i:Nat),es.map (fun e=>(e.key,e.val))=encL enc l→(Instr.findAsking kt (enc a) es i).run P w=.ok (mfind a l i) w
  | [],[],i,_=>rfl
  | [],p::l,i,h=>by simp [encL] at h
  | e::es,[],i,h=>by simp [encL] at h
  | e :: es, p :: l, i, h => by
    simp only [encL,List.map_cons,List.cons.injEq,Prod.mk.injEq] at h
    obtain ⟨⟨h1,h2⟩,h3⟩:=h
    unfold Instr.findAsking
    rw [Sem.run_bind,h1,heq]
    simp only [Result.andThen_ok]
    by_cases ha:a=p.1
    · rw [decide_eq_true ha,mfind,if_pos ha,h2];rfl
    · rw [decide_eq_false ha,mfind,if_neg ha];exact a5P heq a w es l (i+1) h3
theorem b2I {T kt et:TypeId} {zero:Value} {fs:Array Field} (h1:P.underlying T=some (.map kt et)) (h2:P.underlying kt=some (.struct fs)) (h3:∀ w,(zeroValue et).run P w=.ok zero w)
    (hck:∀ b a w,(Instr.checkKey b 10000 kt (enc a)).run P w=.ok () w) (heq:∀ a b w,(Op.equal kt (enc a) (enc b)).run P w=.ok (decide (a=b)) w) (hst:∀ a,Instr.sameBits 10000 (enc a) (enc a)=true):KeyOk P T α enc zero where
  all:=⟨kt,et,h1,h3,hck,fun a es l h w=>by
    unfold Instr.findKey
    rw [Sem.run_bind,run_underlying h2]
    simp only [Result.andThen_ok]
    cases es with
    | nil => cases l with
      | nil=>rfl
      | cons p l=>simp [encL] at h
    | cons e es =>
      have hn:Instr.findNow (.struct fs) (enc a) (e::es) 0=none:=by
        unfold Instr.findNow Instr.sameNow
        cases enc a <;> cases e.key <;> rfl
      rw [hn]
      exact a5P heq a w (e::es) l 0 h⟩
  stay:=hst
end
end Go.Proofs.YtdbbbafiegpbpaaGreatDoor
namespace Go.Proofs.YtdbbbafiegpbpaaGreatDoor
set_option linter.unusedSimpArgs false
set_option linter.unusedVariables false
section
variable {α:Type} [DecidableEq α]
def ixA (b:α):List α→Nat→Option Nat
 | [],_=>none
 | x::r,i=>if x=b then some i else ixA b r (i+1)
def idA (S:List α) (b:α):Option Nat:=ixA b (S.drop 1) 1
theorem b5M {b:α}:∀ {S:List α} {i n:Nat},ixA b S i=some n→∃ k,n=i+k∧S[k]?=some b
  | [],i,n,h=>by cases h
  | x :: r, i, n, h => by
    unfold ixA at h
    split at h
    · rename_i e;injection h with h;exact ⟨0,by omega,by rw [e];rfl⟩
    · obtain ⟨k,h1,h2⟩:=b5M h
      exact ⟨k+1,by omega,by simpa using h2⟩
theorem b5E {b:α}:∀ {S:List α} {i:Nat},ixA b S i=none↔b∉S
  | [],i=>by simp [ixA]
  | x :: r, i => by
    unfold ixA
    by_cases e:x=b
    · rw [if_pos e];simp [e]
    · rw [if_neg e,b5E,List.mem_cons,not_or];exact ⟨fun h=>⟨fun h'=>e h'.symm,h⟩,fun h=>h.2⟩
theorem c6P {S:List α} {b:α} {n:Nat} (h:idA S b=some n):1≤n∧n < S.length∧S[n]?=some b:=by
 obtain ⟨k,h1,h2⟩:=b5M h
 rw [List.getElem?_drop] at h2
 subst h1
 have:1+k < S.length:=by
  rcases Nat.lt_or_ge (1+k) S.length with g | g
  ·exact g
  ·rw [List.getElem?_eq_none g] at h2;cases h2
 exact ⟨by omega,this,h2⟩
def a4g (z:α) (S:List α) (b:α):List α×Int:=if b=z then (S,-1) else match idA S b with
 | some n=>(S,(n:Int))
 | none=>(S++[b],(S.length:Int))
def a1z (z:α) (g:Nat→α) (S:List α):Nat→List α×List Int
 | 0=>(S,[])
 | k+1=>((a4g z (a1z z g S k).1 (g k)).1,(a1z z g S k).2++[(a4g z (a1z z g S k).1 (g k)).2])
theorem b1i (z:α) (S:List α) (b:α):S.length≤(a4g z S b).1.length∧(a4g z S b).1.length≤S.length+1:=by
 unfold a4g
 split
 ·exact ⟨Nat.le_refl _,Nat.le_succ _⟩
 ·split
  ·exact ⟨Nat.le_refl _,Nat.le_succ _⟩
  ·simp
theorem a3V (z:α) (g:Nat→α) (S:List α):∀ k,S.length≤(a1z z g S k).1.length∧(a1z z g S k).1.length≤S.length+k∧(a1z z g S k).2.length=k
  | 0=>⟨Nat.le_refl _,Nat.le_refl _,rfl⟩
  | k + 1 => by
    have ih:=a3V z g S k
    have hp:=b1i z (a1z z g S k).1 (g k)
    unfold a1z
    simp only [List.length_append,List.length_cons,List.length_nil]
    omega
theorem c4v (z:α) (S:List α) (hS:0 < S.length) (b:α):-1≤(a4g z S b).2∧(a4g z S b).2 < (a4g z S b).1.length∧(a4g z S b).2≠0:=by
 unfold a4g
 split
 ·exact ⟨Int.le_refl _,by show (-1:Int) < (S.length:Int);omega,by show (-1:Int)≠0;decide⟩
 ·split
  ·rename_i n hn
   have:=c6P hn
   exact ⟨by show (-1:Int)≤(n:Int);omega,by show (n:Int) < (S.length:Int);omega,by show (n:Int)≠0;omega⟩
  ·refine ⟨by show (-1:Int)≤(S.length:Int);omega,?_,by show (S.length:Int)≠0;omega⟩
   show (S.length:Int) < ((S++[b]).length:Int)
   rw [List.length_append];show (S.length:Int) < ((S.length+1:Nat):Int);omega
theorem b7Z (z:α) (g:Nat→α) (S:List α) (hS:0 < S.length):∀ k,∀ x∈(a1z z g S k).2,-1≤x∧x < (a1z z g S k).1.length∧x≠0
  | 0=>fun x h=>by cases h
  | k + 1 => fun x h => by
    have hl:=a3V z g S k
    have hp:=b1i z (a1z z g S k).1 (g k)
    have ht:=c4v z (a1z z g S k).1 (by omega) (g k)
    unfold a1z at h ⊢
    rcases List.mem_append.1 h with h | h
    · have:=b7Z z g S hS k x h
      exact ⟨this.1,by show x < ((a4g z (a1z z g S k).1 (g k)).1.length:Int);omega,this.2.2⟩
    · simp only [List.mem_cons,List.not_mem_nil,or_false] at h
      subst h
      exact ht
def c2Q (z:α) (g:List α→Nat→Nat→α):Nat→Nat→List α→List (List Int)→Option (List α×List (List Int))
 | 0,at_,S,R=>some (S,R)
 | n+1,at_,S,R=>if at_ < S.length then (if 200 < (a1z z (g S at_) S 32).1.length then none else c2Q z g n (at_+1) (a1z z (g S at_) S 32).1 (R++[(a1z z (g S at_) S 32).2])) else some (S,R)
def goA (z:α) (g:List α→Nat→Nat→α) (at_:Nat) (S:List α) (R:List (List Int)):Option (List α×List (List Int)):=c2Q z g (200 - at_) at_ S R
theorem b9s {z:α} {g:List α→Nat→Nat→α} {at_:Nat} {S:List α} {R:List (List Int)} (h:S.length≤at_):goA z g at_ S R=some (S,R):=by
 unfold goA
 cases 200 - at_ with
 | zero=>rfl
 | succ n=>unfold c2Q;rw [if_neg (by omega)]
theorem c5M {z:α} {g:List α→Nat→Nat→α} {at_:Nat} {S:List α} {R:List (List Int)} (h:at_ < S.length) (hS:S.length≤200) (h3:200 < (a1z z (g S at_) S 32).1.length):goA z g at_ S R=none:=by
 unfold goA
 rw [show 200 - at_=(200 - (at_+1))+1 by omega,c2Q,if_pos h,if_pos h3]
theorem c6H {z:α} {g:List α→Nat→Nat→α} {at_:Nat} {S:List α} {R:List (List Int)} (h:at_ < S.length) (hS:S.length≤200) (h3:¬ 200 < (a1z z (g S at_) S 32).1.length):goA z g at_ S R=goA z g (at_+1) (a1z z (g S at_) S 32).1 (R++[(a1z z (g S at_) S 32).2]):=by
 unfold goA
 rw [show 200 - at_=(200 - (at_+1))+1 by omega,c2Q,if_pos h,if_neg h3]
end
end Go.Proofs.YtdbbbafiegpbpaaGreatDoor
namespace Go.Proofs.YtdbbbafiegpbpaaGreatDoor
set_option linter.unusedSimpArgs false
set_option linter.unusedVariables false
open Go.RowKit
theorem b8A {α:Type} {w:World} {E:Env} {v:Value} (sz:Nat) (enc:α→List Value) (henc:∀ x,(enc x).length=sz) (encF:α→Nat→HV) (hF:∀ x j,j < sz→encF x j=.imm ((enc x).getD j undef)) (d:α) (l:List α)
    (h:Rep w E v (.sl sz l.length (fun i=>encF (l.getD i d)))):∃ A c,v=.slice A l.length c∧l.length≤c∧c≤maxLen∧Sl w w.heap.size sz enc A l:=by
  cases h with
  | sl A _ c _ _ vs hc hm hA h =>
    refine ⟨A,c,rfl,hc,hm,henc,a3u henc l,fun hn=>?_⟩
    obtain ⟨b,o,rfl,hlt,hcell⟩:=hA hn
    refine ⟨_,rfl,hlt,fun p u hu=>?_⟩
    have hp:p < l.length * sz:=by
      rcases Nat.lt_or_ge p (l.flatMap enc).length with h1 | h1
      · rwa [a3u henc] at h1
      · rw [List.getElem?_eq_none h1] at hu;cases hu
    have hs:0 < sz:=Nat.pos_of_ne_zero (fun h0=>by subst h0;simp at hp)
    have hi:p / sz < l.length:=(Nat.div_lt_iff_lt_mul hs).2 hp
    have hj:p % sz < sz:=Nat.mod_lt _ hs
    have e1:p=p / sz * sz+p % sz:=by rw [Nat.mul_comm];exact (Nat.div_add_mod p sz).symm
    rw [a3C,e1,(hcell _ _ hi hj).2.1]
    rw [e1,a1U henc l _ _ hi hj] at hu
    have hr:Rep w E (vs (p / sz) (p % sz)) (encF (l.getD (p / sz) d) (p % sz)):=h _ _ hi hj
    rw [hF _ _ hj] at hr
    have hv:=hr.imm_inv
    rw [hv]
    have hg:l.getD (p / sz) d=l[p / sz]:=by simp [List.getD,List.getElem?_eq_getElem hi]
    rw [hg]
    have:(enc l[p / sz]).getD (p % sz) undef=u:=by simp [List.getD,hu]
    rw [this]
theorem a8i {w w':World} {F:Addr→Prop} {u:Value} (hF:∀ a,F a→a.spot=none∧(w.cell? a).isSome=true) (hb:Below w.heap.size w w'):a0Z w F (.imm u) (.returned u) w' :=
 ⟨hb,u,F,rfl,fun _ h=>h,fun _ h=>.inl h,fun a ha=>⟨(hF a ha).1,by rw [World.cell?_of_block (hb.block _ (a1p (hF a ha).2))];exact (hF a ha).2⟩,.imm u⟩
theorem b3K {w:World} {n:Nat}:Below w.heap.size w (w.drewN n):=a9o (Below.refl _ _) n
theorem b0d {α:Type} {w w':World} {F:Addr→Prop} (hF:∀ a,F a→a.spot=none∧(w.cell? a).isSome=true) {e:TypeId} {sz:Nat} {enc:α→List Value} (encF:α→Nat→HV) (hFe:∀ x j,j < sz→encF x j=.imm ((enc x).getD j undef)) (h1:∀ x,∀ u∈enc x,u.oneCell'=true) (d:α) {l:List α} {en:Ending}
  (h:a3b e sz enc w l en w'):a0Z w F (.sl sz l.length (fun i=>encF (l.getD i d))) en w':=by
 obtain ⟨A,c,rfl,hown,hb⟩:=h
 have henc:=hown.1
 have hFk:∀ a,F a→(w'.cell? a)=w.cell? a:=fun a ha=>World.cell?_of_block (hb.block _ (a1p (hF a ha).2))
 rcases hown.2.2 with ⟨hv,hn⟩ | ⟨b,cap,cur,hv,hbase,hblk,hn,hcap,hsz,htake⟩
 ·injection hv with hA _ hc
  subst hA;subst hc
  have hl:l=[]:=List.eq_nil_of_length_eq_zero hn
  subst hl
  refine ⟨hb,_,F,rfl,fun _ h=>h,fun _ h=>.inl h,fun a ha=>⟨(hF a ha).1,by rw [hFk a ha];exact (hF a ha).2⟩,?_⟩
  exact .sl _ 0 0 sz _ (fun _ _=>undef) (Nat.le_refl _) (Nat.zero_le _) (fun h=>absurd h (Nat.lt_irrefl _)) (fun i j hi=>absurd hi (Nat.not_lt_zero _))
 ·injection hv with hA _ hc
  subst hA;subst hc
  have hB:Blk w' b e cur:=hblk
  have hcell:∀ i j,i < l.length→j < sz→w'.cell? ⟨b,i * sz+j,none⟩=some ((enc (l.getD i d)).getD j undef):=by
   intro i j hi hj
   have hlt:=a7N (sz:=sz) hi hj
   have hg:l.getD i d=l[i]:=by simp [List.getD,List.getElem?_eq_getElem hi]
   have hj':j < (enc l[i]).length:=by rw [henc];exact hj
   have hg2:(enc l[i]).getD j undef=(enc l[i])[j]:=by simp [List.getD,List.getElem?_eq_getElem hj']
   rw [hB.cell,hg,hg2,←Array.getElem?_toList]
   have:=a1U henc l i j hi hj
   rw [←htake,List.getElem?_take,if_pos hlt] at this
   rw [this,List.getElem?_eq_getElem hj']
  refine ⟨hb,_,fun a=>F a∨(a.block=b∧a.spot=none∧a.off < l.length * sz),rfl,fun _ h=>.inl h,fun a ha=>?_,fun a ha=>?_,?_⟩
  ·rcases ha with ha | ⟨ha,_⟩
   ·exact .inl ha
   ·exact .inr (by rw [ha];exact hbase)
  ·rcases ha with ha | ⟨ha,hs,ho⟩
   ·exact ⟨(hF a ha).1,by rw [hFk a ha];exact (hF a ha).2⟩
   ·obtain ⟨ab,ao,asp⟩:=a
    simp only at ha hs ho
    subst ha;subst hs
    refine ⟨rfl,?_⟩
    have:ao < cur.size:=by rw [hsz];exact Nat.lt_of_lt_of_le ho (Nat.mul_le_mul_right _ hn)
    rw [hB.cell,Array.getElem?_eq_getElem this];rfl
  ·refine .sl _ _ _ sz _ (fun i j=>(enc (l.getD i d)).getD j undef) hn hcap (fun hp=>⟨b,0,rfl,hB.lt,fun i j hi hj=>?_⟩) (fun i j hi hj=>by show Rep _ _ _ (encF _ _);rw [hFe _ _ hj];exact .imm _)
   rw [Nat.zero_add]
   refine ⟨.inr ⟨rfl,rfl,a7N hi hj⟩,hcell i j hi hj,?_⟩
   have hj':j < (enc (l.getD i d)).length:=by rw [henc];exact hj
   have hg2:(enc (l.getD i d)).getD j undef=(enc (l.getD i d))[j]:=by rw [List.getD_eq_getElem?_getD,List.getElem?_eq_getElem hj'];rfl
   rw [hg2]
   exact h1 _ _ (List.getElem_mem hj')
theorem c7L {w:World} {E:Env} {vs:List Value} {x:HV} (h:RepAll w E vs [x]):∃ v,vs=[v]∧Rep w E v x:=by
 match vs,h with
 | [v],h=>exact ⟨v,rfl,h.1⟩
theorem c6v {w:World} {E:Env} {vs:List Value} {x y:HV} (h:RepAll w E vs [x,y]):∃ u v,vs=[u,v]∧Rep w E u x∧Rep w E v y:=by
 match vs,h with
 | [u,v],h=>exact ⟨u,v,rfl,h.1,h.2.1⟩
def c6s (w:World) (a:Addr):Prop:=a.spot=none∧(w.cell? a).isSome=true
theorem c3f {α:Type} {w:World} {B:Nat} {A:Option Addr} {c:Nat} (sz:Nat) (hs:0 < sz) (enc:α→List Value) (enc1:∀ x,∀ u∈enc x,u.oneCell'=true) (encF:α→Nat→HV) (d:α) (l:List α) (hc:l.length≤c) (hm:c≤maxLen) (h:Sl w B sz enc A l)
  (hr:∀ i j,i < l.length→j < sz→Rep w (Env.just (c6s w)) ((enc (l.getD i d)).getD j undef) (encF (l.getD i d) j)):Rep w (Env.just (c6s w)) (.slice A l.length c) (.sl sz l.length (fun i=>encF (l.getD i d))):=by
 refine .sl A l.length c sz _ (fun i j=>(enc (l.getD i d)).getD j undef) hc hm (fun hn=>?_) hr
 obtain ⟨b,o,rfl,hb⟩:=h.addr hn hs
 have cell:∀ i j,i < l.length→j < sz→w.cell? ⟨b,o+(i * sz+j),none⟩=some ((enc (l.getD i d)).getD j undef)∧((enc (l.getD i d)).getD j undef).oneCell'=true:=by
  intro i j hi hj
  have:=h.cell_ hi j hj
  have hg:l.getD i d=l[i]:=by rw [List.getD_eq_getElem?_getD,List.getElem?_eq_getElem hi];rfl
  have hj':j < (enc l[i]).length:=by rw [h.1];exact hj
  have hg2:(enc l[i]).getD j undef=(enc l[i])[j]:=by rw [List.getD_eq_getElem?_getD,List.getElem?_eq_getElem hj'];rfl
  rw [hg,hg2,show o+(i * sz+j)=o+i * sz+j from by omega,this,List.getElem?_eq_getElem hj']
  exact ⟨rfl,enc1 _ _ (List.getElem_mem hj')⟩
 have hlt:b < w.heap.size:=by
  have:=(cell 0 0 hn hs).1
  exact World.block_lt_of_cell? w _ this
 exact ⟨b,o,rfl,hlt,fun i j hi hj=>⟨⟨rfl,by rw [(cell i j hi hj).1];rfl⟩,(cell i j hi hj).1,(cell i j hi hj).2⟩⟩
theorem c1g {P:Program} {f:FuncId} {xs:List HV} (h:HPure P f xs (boolV true)) (w:World) (vs:List Value) (hr:RepAll w (Env.just (c6s w)) vs xs) (hw:LibW w):Calls P f vs.toArray w fun e w'=>e=.returned (.bool true)∧Below w.heap.size w w':=by
 refine (h.2 w (c6s w) vs (fun a h=>h) hr hw).mono ?_
 rintro e w' ⟨hb,v,F',rfl,_,_,_,hv⟩
 rw [hv.imm_inv]
 exact ⟨rfl,hb⟩
end Go.Proofs.YtdbbbafiegpbpaaGreatDoor
namespace Go.Proofs
open Go.Shelf
def Tryz.laysC172_ren:Go.Shelf.Ren:=⟨fun | 172=>117 | 244=>118 | 245=>119 | 247=>120 | 279=>121 | 280=>122 | 281=>123 | 282=>124 | 287=>125 | 316=>126 | 171=>128 | 205=>127 | 321=>129 | 322=>130 | 243=>131 | 246=>132 | 283=>133 | 284=>134 | 285=>135 | 286=>136 | 129=>138 | 317=>137 | 318=>139 | 319=>140 | 320=>141 | 337=>142 | 338=>60 | n=>n,fun | 9=>9 | 3=>3 | 75=>192 | 76=>193 | 4=>4 | 5=>5 | 167=>196 | 37=>197 | 0=>0 | 85=>198 | 2=>2 | 168=>200 | 53=>44 | 175=>203 | 46=>136 | 210=>207 | 127=>211 | 145=>214 | 143=>212 | 21=>21 | 171=>216 | 173=>218 | 212=>221 | 51=>222 | 20=>20 | 213=>223 | 232=>226 | 233=>171 | 80=>227 | n=>n,fun | 15=>2 | 16=>3 | 17=>4 | 18=>5 | 19=>0 | n=>n⟩
theorem Tryz.laysC172:Go.Proofs.LaysC.n172 Tryz.prog Tryz.laysC172_ren:={
 mixed:=by kernel_rfl
 f129:=Tryz.func138.trans (congrArg some (by kernel_rfl))
 f171:=Tryz.func128.trans (congrArg some (by kernel_rfl))
 f172:=Tryz.func117.trans (congrArg some (by kernel_rfl))
 f205:=Tryz.func127.trans (congrArg some (by kernel_rfl))
 f243:=Tryz.func131.trans (congrArg some (by kernel_rfl))
 f244:=Tryz.func118.trans (congrArg some (by kernel_rfl))
 f245:=Tryz.func119.trans (congrArg some (by kernel_rfl))
 f246:=Tryz.func132.trans (congrArg some (by kernel_rfl))
 f247:=Tryz.func120.trans (congrArg some (by kernel_rfl))
 f279:=Tryz.func121.trans (congrArg some (by kernel_rfl))
 f280:=Tryz.func122.trans (congrArg some (by kernel_rfl))
 f281:=Tryz.func123.trans (congrArg some (by kernel_rfl))
 f282:=Tryz.func124.trans (congrArg some (by kernel_rfl))
 f283:=Tryz.func133.trans (congrArg some (by kernel_rfl))
 f284:=Tryz.func134.trans (congrArg some (by kernel_rfl))
 f285:=Tryz.func135.trans (congrArg some (by kernel_rfl))
 f286:=Tryz.func136.trans (congrArg some (by kernel_rfl))
 f287:=Tryz.func125.trans (congrArg some (by kernel_rfl))
 f316:=Tryz.func126.trans (congrArg some (by kernel_rfl))
 f317:=Tryz.func137.trans (congrArg some (by kernel_rfl))
 f318:=Tryz.func139.trans (congrArg some (by kernel_rfl))
 f319:=Tryz.func140.trans (congrArg some (by kernel_rfl))
 f320:=Tryz.func141.trans (congrArg some (by kernel_rfl))
 f321:=Tryz.func129.trans (congrArg some (by kernel_rfl))
 f322:=Tryz.func130.trans (congrArg some (by kernel_rfl))
 f337:=Tryz.func142.trans (congrArg some (by kernel_rfl))
 f338:=Tryz.func60.trans (congrArg some (by kernel_rfl))
 t0:=Tryz.underlying0
 a0:=Tryz.isAgg0
 z0:=Tryz.sizeOf0
 v0:=Tryz.zeroValue0
 t2:=Tryz.underlying2
 a2:=Tryz.isAgg2
 z2:=Tryz.sizeOf2
 v2:=Tryz.zeroValue2
 t3:=Tryz.underlying3
 a3:=Tryz.isAgg3
 z3:=Tryz.sizeOf3
 v3:=Tryz.zeroValue3
 t4:=Tryz.underlying4
 a4:=Tryz.isAgg4
 z4:=Tryz.sizeOf4
 v4:=Tryz.zeroValue4
 t5:=Tryz.underlying5
 a5:=Tryz.isAgg5
 z5:=Tryz.sizeOf5
 v5:=Tryz.zeroValue5
 t9:=Tryz.underlying9
 a9:=Tryz.isAgg9
 z9:=Tryz.sizeOf9
 v9:=Tryz.zeroValue9
 t20:=Tryz.underlying20
 a20:=Tryz.isAgg20
 z20:=Tryz.sizeOf20
 v20:=Tryz.zeroValue20
 t21:=Tryz.underlying21
 a21:=Tryz.isAgg21
 z21:=Tryz.sizeOf21
 v21:=Tryz.zeroValue21
 t37:=Tryz.underlying197
 a37:=Tryz.isAgg197
 z37:=Tryz.sizeOf197
 v37:=Tryz.zeroValue197
 t46:=Tryz.underlying136
 a46:=Tryz.isAgg136
 z46:=Tryz.sizeOf136
 v46:=Tryz.zeroValue136
 t51:=Tryz.underlying222
 a51:=Tryz.isAgg222
 z51:=Tryz.sizeOf222
 v51:=Tryz.zeroValue222
 t53:=Tryz.underlying44
 a53:=Tryz.isAgg44
 z53:=Tryz.sizeOf44
 v53:=Tryz.zeroValue44
 t75:=Tryz.underlying192
 a75:=Tryz.isAgg192
 z75:=Tryz.sizeOf192
 v75:=Tryz.zeroValue192
 t76:=Tryz.underlying193
 a76:=Tryz.isAgg193
 z76:=Tryz.sizeOf193
 v76:=Tryz.zeroValue193
 t85:=Tryz.underlying198
 a85:=Tryz.isAgg198
 z85:=Tryz.sizeOf198
 v85:=Tryz.zeroValue198
 t127:=Tryz.underlying211
 a127:=Tryz.isAgg211
 z127:=Tryz.sizeOf211
 v127:=Tryz.zeroValue211
 t143:=Tryz.underlying212
 a143:=Tryz.isAgg212
 z143:=Tryz.sizeOf212
 v143:=Tryz.zeroValue212
 t145:=Tryz.underlying214
 a145:=Tryz.isAgg214
 z145:=Tryz.sizeOf214
 v145:=Tryz.zeroValue214
 t167:=Tryz.underlying196
 a167:=Tryz.isAgg196
 z167:=Tryz.sizeOf196
 v167:=Tryz.zeroValue196
 t168:=Tryz.underlying200
 a168:=Tryz.isAgg200
 z168:=Tryz.sizeOf200
 v168:=Tryz.zeroValue200
 t171:=Tryz.underlying216
 a171:=Tryz.isAgg216
 z171:=Tryz.sizeOf216
 v171:=Tryz.zeroValue216
 t173:=Tryz.underlying218
 a173:=Tryz.isAgg218
 z173:=Tryz.sizeOf218
 v173:=Tryz.zeroValue218
 t175:=Tryz.underlying203
 a175:=Tryz.isAgg203
 z175:=Tryz.sizeOf203
 v175:=Tryz.zeroValue203
 t210:=Tryz.underlying207
 a210:=Tryz.isAgg207
 z210:=Tryz.sizeOf207
 v210:=Tryz.zeroValue207
 t212:=Tryz.underlying221
 a212:=Tryz.isAgg221
 z212:=Tryz.sizeOf221
 v212:=Tryz.zeroValue221
 t213:=Tryz.underlying223
 a213:=Tryz.isAgg223
 z213:=Tryz.sizeOf223
 t232:=Tryz.underlying226
 a232:=Tryz.isAgg226
 z232:=Tryz.sizeOf226
 v232:=Tryz.zeroValue226
 t233:=Tryz.underlying171
 a233:=Tryz.isAgg171
 z233:=Tryz.sizeOf171
 v233:=Tryz.zeroValue171
 g15:=by kernel_rfl
 g16:=by kernel_rfl
 g17:=by kernel_rfl
 g18:=by kernel_rfl
 g19:=by kernel_rfl
 t80:=Tryz.underlying227
 a80:=Tryz.isAgg227
 z80:=Tryz.sizeOf227
 v80:=Tryz.zeroValue227
 i0:=by kernel_rfl
 i2:=by kernel_rfl
 i3:=by kernel_rfl
 i4:=by kernel_rfl
 i5:=by kernel_rfl
 i9:=by kernel_rfl
 i20:=by kernel_rfl
 i21:=by kernel_rfl
 i37:=by kernel_rfl
 i46:=by kernel_rfl
 i51:=by kernel_rfl
 i53:=by kernel_rfl
 i75:=by kernel_rfl
 i76:=by kernel_rfl
 i80:=by kernel_rfl
 i85:=by kernel_rfl
 i127:=by kernel_rfl
 i143:=by kernel_rfl
 i145:=by kernel_rfl
 i167:=by kernel_rfl
 i168:=by kernel_rfl
 i171:=by kernel_rfl
 i173:=by kernel_rfl
 i175:=by kernel_rfl
 i210:=by kernel_rfl
 i212:=by kernel_rfl
 i232:=by kernel_rfl
 i233:=by kernel_rfl
 m15:=by kernel_rfl
 m16:=by kernel_rfl
 m17:=by kernel_rfl
 m18:=by kernel_rfl
 m19:=by kernel_rfl
 c0:=by kernel_rfl
 c2:=by kernel_rfl
 c3:=by kernel_rfl
 c4:=by kernel_rfl
 c5:=by kernel_rfl
 c9:=by kernel_rfl
 c20:=by kernel_rfl
 c21:=by kernel_rfl
 c37:=by kernel_rfl
 c46:=by kernel_rfl
 c51:=by kernel_rfl
 c53:=by kernel_rfl
 c75:=by kernel_rfl
 c76:=by kernel_rfl
 c80:=by kernel_rfl
 c85:=by kernel_rfl
 c127:=by kernel_rfl
 c143:=by kernel_rfl
 c145:=by kernel_rfl
 c167:=by kernel_rfl
 c168:=by kernel_rfl
 c171:=by kernel_rfl
 c173:=by kernel_rfl
 c175:=by kernel_rfl
 c210:=by kernel_rfl
 c212:=by kernel_rfl
 c213:=by kernel_rfl
 c232:=by kernel_rfl
 c233:=by kernel_rfl }
open Go.RowKit in
theorem Tryz.strconv_Atoi_ok (s:ByteArray) (hmax:s.size≤9223372036854775806) (v:Int) (h:Lib.atoiAll s.data.toList=.ok v) (w:World) :
  Calls Tryz.prog 117 #[.string s] w fun e w'=>e=.returned (.tuple #[.int .i64 v,.nilIface])∧(w'=w∨∃ t,w'=Lib.bytesWorld w 5 t):=Any.strconv_Atoi_ok Tryz.laysC172 s hmax v h w
end Go.Proofs
namespace Go.Proofs.YtdbbbafiegpbpaaGreatDoor
set_option linter.unusedSimpArgs false
set_option linter.unusedVariables false
open Go.Lib Go.RowKit
end Go.Proofs.YtdbbbafiegpbpaaGreatDoor
namespace Go.Proofs.YtdbbbafiegpbpaaGreatDoor
set_option linter.unusedSimpArgs false
set_option linter.unusedVariables false
open Go.RowKit
open Go.Lib hiding intOf
theorem a8q {P:Program} {w w':World} {name:String} {x:Array Value} (h:w.var? P name=some x) (b:Below w.heap.size w w'):w'.var? P name=some x:=by
  unfold World.var? at *
  cases hg:P.globalNamed name with
  | none=>rw [hg] at h;cases h
  | some g =>
    rw [hg] at h
    simp only [Option.bind_some] at h ⊢
    cases hh:w.heap[g]? with
    | none=>rw [hh] at h;cases h
    | some o =>
      have hlt:g < w.heap.size:=by
        rcases Nat.lt_or_ge g w.heap.size with h1 | h1
        · exact h1
        · rw [Array.getElem?_eq_none h1] at hh;cases hh
      rw [b.block g hlt]
      exact h
structure LibAt (w:World):Prop where
 tab:Lib.TabIs Tryz.prog w "internal/strconv.uint64pow10" .u64 Lib.pow10Tab
 syn:∃ tp p,w.var? Tryz.prog "strconv.ErrSyntax" = some #[.iface tp p]
 rng:∃ tp p,w.var? Tryz.prog "strconv.ErrRange" = some #[.iface tp p]
theorem LibAt.below {w w':World} (h:LibAt w) (b:Below w.heap.size w w'):LibAt w' :=
 ⟨a8q h.tab b,h.syn.imp fun _ h=>h.imp fun _ h=>a8q h b,h.rng.imp fun _ h=>h.imp fun _ h=>a8q h b⟩
theorem c2l {w W:World} {t:Nat} (h:W=w∨∃ s,W=Lib.bytesWorld w t s):Below w.heap.size w W:=by
 rcases h with rfl | ⟨s,rfl⟩
 ·exact Below.refl _ _
 ·exact Lib.bytesWorld_below _ _ _
end Go.Proofs.YtdbbbafiegpbpaaGreatDoor
namespace Go.Proofs.YtdbbbafiegpbpaaGreatDoor
set_option linter.unusedSimpArgs false
set_option linter.unusedVariables false
def bz (s:List UInt8) (i:Nat):Int:=if i < s.length then ((s.getD i 0).toNat:Int) else 0
def smallZ (x:Int):Bool:=decide (97≤x)&&decide (x≤122)
def a0Q (x:Int):Bool:=decide (48≤x)&&decide (x≤57)
theorem a3E {s:List UInt8} {i:Nat} (h:i < s.length):bz s i=((s.getD i 0).toNat:Int):=by unfold bz;rw [if_pos h]
theorem a6x {s:List UInt8} {i:Nat} (h:s.length≤i):bz s i=0:=by unfold bz;rw [if_neg (by omega)]
theorem a4e {s:List UInt8} {i:Nat} (h:bz s i≠0):i < s.length:=by
 rcases Nat.lt_or_ge i s.length with h1 | h1
 ·exact h1
 ·exact absurd (a6x h1) h
theorem a1P {x:Int}:a0Q x=true↔48≤x∧x≤57:=by simp [a0Q]
theorem b9R {x:Int}:smallZ x=true↔97≤x∧x≤122:=by simp [smallZ]
theorem a2b {s:List UInt8} {i:Nat} (h:a0Q (bz s i)=true):i < s.length:=a4e (by have:=a1P.1 h;omega)
theorem a7W {s:List UInt8} {i:Nat} (h:smallZ (bz s i)=true):i < s.length:=a4e (by have:=b9R.1 h;omega)
def a4N (s:List UInt8) (i:Nat):Option Int×Nat :=
 if a0Q (bz s i)=true then
  if a0Q (bz s (i+1))=true then
   if bz s i=48 then (none,i+1)
   else if a0Q (bz s (i+2))=true then (none,i+2)
   else (some (10 * (bz s i - 48)+(bz s (i+1) - 48)),i+2)
  else (some (bz s i - 48),i+1)
 else (none,i)
def a1r (s:List UInt8) (p:Nat):Int×Int:=if s.length≤p then ((s.length:Int),5) else ((p:Int),2)
theorem b6s {s:List UInt8} {p:Nat} (h:p < s.length):a1r s p=((p:Int),2):=by unfold a1r;rw [if_neg (by omega)]
def numR (s:List UInt8) (i:Nat) (low:Int):Except (Int×Int) (Int×Nat) :=
 match a4N s i with
 | (none,p)=>.error (a1r s p)
 | (some n,q)=>if n < low∨20 < n then .error ((i:Int),3) else .ok (n,q)
structure Sg where
 kind:Int
 at_:Int
 low:Int
 high:Int
 name:List UInt8
 deriving DecidableEq
def a2t (s:List UInt8) (i:Nat):Except (Int×Int) (Sg×Nat) :=
  match numR s (i+1) 0 with
  | .error e=>.error e
  | .ok (n, p) =>
    if bz s p=44 then
      if bz s (p+1)=125 then .ok (⟨5,i,n,-1,[]⟩,p+2)
      else match numR s (p+1) (if 1 > n then 1 else n) with
        | .error e=>.error e
        | .ok (m,q)=>if bz s q=125 then .ok (⟨5,i,n,m,[]⟩,q+1) else .error (a1r s q)
    else if bz s p=125 then (if n=0 then .error (((i+1:Nat):Int),3) else .ok (⟨5,i,n,n,[]⟩,p+1))
    else .error (a1r s p)
def alnumZ (x:Int):Bool:=smallZ x||a0Q x
def a7O (s:List UInt8) (i:Nat):Nat→Nat
 | 0=>0
 | f+1=>if alnumZ (bz s i)=true then a7O s (i+1) f+1 else 0
def b1L (s:List UInt8) (i:Nat):Except (Int×Int) (Sg×Nat) :=
 if a7O s i 13=13 then .error (((i+12:Nat):Int),2) else .ok (⟨1,i,0,0,(s.drop i).take (a7O s i 13)⟩,i+a7O s i 13)
def a3L (s:List UInt8) (i:Nat):Except (Int×Int) (Sg×Nat) :=
 if smallZ (bz s i)=true then b1L s i
 else if bz s i=123 then a2t s i
 else if bz s i=40 then .ok (⟨2,i,0,0,[]⟩,i+1)
 else if bz s i=41 then .ok (⟨3,i,0,0,[]⟩,i+1)
 else if bz s i=124 then .ok (⟨4,i,0,0,[]⟩,i+1)
 else if bz s i=42 then .ok (⟨5,i,0,-1,[]⟩,i+1)
 else if bz s i=43 then .ok (⟨5,i,1,-1,[]⟩,i+1)
 else if bz s i=63 then .ok (⟨5,i,0,1,[]⟩,i+1)
 else .error (a1r s i)
def a4L (x:Int):Bool:=smallZ x||decide (x=40)||decide (x=41)||decide (x=124)||decide (x=42)||decide (x=43)||decide (x=63)||decide (x=123)
def b3t (s:List UInt8):Nat→Nat→List Sg→Except (Int×Int) (List Sg)
  | 0,_,out=>.ok out
  | f + 1, i, out =>
    if s.length≤i then .ok out
    else if bz s i=32 then b3t s f (i+1) out
    else if out.length=200 then (if a4L (bz s i)=true then .error ((i:Int),4) else .error (a1r s i))
    else match a3L s i with
      | .error e=>.error e
      | .ok (x,q)=>b3t s f q (out++[x])
def lexV (s:List UInt8):Except (Int×Int) (List Sg):=b3t s s.length 0 []
theorem c9z:∀ n:Fin 10,(match Go.Lib.atoiAll [UInt8.ofNat (48+n.val)] with | .ok v=>v == (n.val:Int) | _=>false)=true:=by decide +kernel
theorem c9r:∀ n m:Fin 10,(match Go.Lib.atoiAll [UInt8.ofNat (48+n.val),UInt8.ofNat (48+m.val)] with | .ok v=>v == (10 * n.val+m.val:Int) | _=>false)=true:=by decide +kernel
theorem c2s {a:UInt8} (h:a0Q (a.toNat:Int)=true):Go.Lib.atoiAll [a]=.ok ((a.toNat:Int) - 48):=by
 have hd:=a1P.1 h
 have e:a=UInt8.ofNat (48+(a.toNat - 48)):=by
  rw [show 48+(a.toNat - 48)=a.toNat by omega];simp
 have:=c9z ⟨a.toNat - 48,by omega⟩
 simp only [←e] at this
 split at this
 ·rename_i v hv
  rw [hv];simp at this;rw [this];congr 1;omega
 ·cases this
theorem c2h {a b:UInt8} (h:a0Q (a.toNat:Int)=true) (h':a0Q (b.toNat:Int)=true):Go.Lib.atoiAll [a,b]=.ok (10 * ((a.toNat:Int) - 48)+((b.toNat:Int) - 48)):=by
 have hd:=a1P.1 h
 have hd':=a1P.1 h'
 have e:a=UInt8.ofNat (48+(a.toNat - 48)):=by
  rw [show 48+(a.toNat - 48)=a.toNat by omega];simp
 have e':b=UInt8.ofNat (48+(b.toNat - 48)):=by
  rw [show 48+(b.toNat - 48)=b.toNat by omega];simp
 have:=c9r ⟨a.toNat - 48,by omega⟩ ⟨b.toNat - 48,by omega⟩
 simp only [←e,←e'] at this
 split at this
 ·rename_i v hv
  rw [hv];simp at this;rw [this];congr 1;omega
 ·cases this
theorem c6k {s:List UInt8} {i:Nat} (h:i < s.length):(s.drop i).take 1=[s.getD i 0]:=by
 rw [List.getD_eq_getElem?_getD,List.getElem?_eq_getElem h,List.drop_eq_getElem_cons h]
 rfl
theorem c4k {s:List UInt8} {i:Nat} (h:i+1 < s.length):(s.drop i).take 2=[s.getD i 0,s.getD (i+1) 0]:=by
 rw [List.getD_eq_getElem?_getD,List.getD_eq_getElem?_getD,List.getElem?_eq_getElem h,List.getElem?_eq_getElem (by omega:i < s.length),List.drop_eq_getElem_cons (by omega:i < s.length),List.drop_eq_getElem_cons h]
 rfl
theorem c1j {s:List UInt8} {i k:Nat} (hk:k≤2) (h0:0 < k→a0Q (bz s i)=true) (h1:1 < k→a0Q (bz s (i+1))=true∧bz s i≠48) (hd:a0Q (bz s (i+k))=true) (hc:k=2∨(0 < k∧bz s i=48)):a4N s i=(none,i+k):=by
  unfold a4N
  match k,hk,h0,h1,hd,hc with
  | 0,_,_,_,_,hc=>omega
  | 1, _, h0, _, hd, hc =>
    rw [if_pos (h0 (by omega)),if_pos hd,if_pos (by omega)]
  | 2, _, h0, h1, hd, hc =>
    rw [if_pos (h0 (by omega)),if_pos (h1 (by omega)).1,if_neg (h1 (by omega)).2,if_pos hd]
theorem b1r {s:List UInt8} {i:Nat} (hd:a0Q (bz s i)=false):a4N s i=(none,i):=by
 unfold a4N
 rw [if_neg (by rw [hd];decide)]
theorem c5e {s:List UInt8} {i k:Nat} (hk:k≤2) (hk0:k≠0) (h0:0 < k→a0Q (bz s i)=true) (h1:1 < k→a0Q (bz s (i+1))=true∧bz s i≠48) (hd:a0Q (bz s (i+k))=false) :
    ∃ v,Go.Lib.atoiAll ((s.drop i).take (i+k - i))=.ok v∧a4N s i=(some v,i+k)∧0≤v∧v≤99:=by
  have hd':¬ a0Q (bz s (i+k))=true:=by rw [hd];decide
  match k,hk,hk0,h0,h1,hd' with
  | 1, _, _, h0, _, hd' =>
    have h:=h0 (by omega)
    have hlt:=a2b h
    have hdi:=a1P.1 h
    refine ⟨bz s i - 48,?_,?_,by omega,by omega⟩
    · rw [show i+1 - i=1 by omega,c6k hlt]
      rw [a3E hlt] at h ⊢
      exact c2s h
    · unfold a4N
      rw [if_pos h,if_neg hd']
  | 2, _, _, h0, h1, hd' =>
    have h:=h0 (by omega)
    have h2:=h1 (by omega)
    have hlt:=a2b h2.1
    have hdi:=a1P.1 h
    have hdj:=a1P.1 h2.1
    refine ⟨10 * (bz s i - 48)+(bz s (i+1) - 48),?_,?_,by omega,by omega⟩
    · rw [show i+2 - i=2 by omega,c4k hlt]
      rw [a3E (by omega)] at h ⊢
      have h3:=h2.1
      rw [a3E hlt] at h3 ⊢
      exact c2h h h3
    · unfold a4N
      rw [if_pos h,if_pos h2.1,if_neg h2.2,if_neg hd']
theorem a7U {s:List UInt8} {i p:Nat} {low:Int} (h:a4N s i=(none,p)):numR s i low=.error (a1r s p):=by unfold numR;rw [h]
theorem a7s {s:List UInt8} {i q:Nat} {low v:Int} (h:a4N s i=(some v,q)) (hv:v < low∨20 < v):numR s i low=.error ((i:Int),3):=by unfold numR;rw [h];simp only;rw [if_pos hv]
theorem a9g {s:List UInt8} {i q:Nat} {low v:Int} (h:a4N s i=(some v,q)) (hv:¬ (v < low∨20 < v)):numR s i low=.ok (v,q):=by unfold numR;rw [h];simp only;rw [if_neg hv]
theorem a6b {s:List UInt8} {i q:Nat} {o:Option Int} (hi:i≤s.length) (h:a4N s i=(o,q)):q≤s.length∧i≤q∧(∀ v,o=some v→i < q∧0≤v):=by
 unfold a4N at h
 split at h
 ·rename_i h1
  have:=a2b h1
  have d1:=a1P.1 h1
  split at h
  ·rename_i h2
   have:=a2b h2
   have d2:=a1P.1 h2
   split at h
   ·injection h with h h';subst h;subst h';exact ⟨by omega,by omega,fun v hv=>by cases hv⟩
   ·split at h
    ·rename_i h3
     have:=a2b h3
     injection h with h h';subst h;subst h';exact ⟨by omega,by omega,fun v hv=>by cases hv⟩
    ·injection h with h h';subst h;subst h';exact ⟨by omega,by omega,fun v hv=>by injection hv with hv;omega⟩
  ·injection h with h h';subst h;subst h';exact ⟨by omega,by omega,fun v hv=>by injection hv with hv;omega⟩
 ·injection h with h h';subst h;subst h';exact ⟨by omega,by omega,fun v hv=>by cases hv⟩
theorem b1C {s:List UInt8} {i q:Nat} {low v:Int} (hi:i≤s.length) (h:numR s i low=.ok (v,q)):q≤s.length∧i < q∧low≤v∧v≤20:=by
 unfold numR at h
 split at h
 ·cases h
 ·rename_i n q' hn
  split at h
  ·cases h
  ·rename_i hv
   injection h with h;injection h with h1 h2;subst h1;subst h2
   have:=a6b hi hn
   have h3:=this.2.2 _ rfl
   refine ⟨this.1,h3.1,?_,?_⟩ <;> omega
theorem c1U {s:List UInt8} {i k:Nat} (hk:k≤2) (h0:0 < k→a0Q (bz s i)=true) (h1:1 < k→a0Q (bz s (i+1))=true∧bz s i≠48) (hd:a0Q (bz s (i+k))=true) (hc:¬ (k=2∨(0 < k∧bz s i=48))) :
  k+1≤2∧i+(k+1)≤s.length∧(0 < k+1→a0Q (bz s i)=true)∧(1 < k+1→a0Q (bz s (i+1))=true∧bz s i≠48):=by
 have:=a2b hd
 have hk2:k < 2:=by omega
 match k,hk2,h0,h1,hd,hc with
 | 0,_,h0,h1,hd,hc=>exact ⟨by omega,by omega,fun _=>hd,fun h=>absurd h (by omega)⟩
 | 1,_,h0,h1,hd,hc=>exact ⟨by omega,by omega,fun _=>h0 (by omega),fun _=>⟨hd,fun h=>hc (.inr ⟨by omega,h⟩)⟩⟩
theorem b3k {s:List UInt8}:∀ {f i k:Nat},k≤f→(∀ j,j < k→alnumZ (bz s (i+j))=true)→(k < f→alnumZ (bz s (i+k))=false)→a7O s i f=k
  | 0,i,k,hk,_,_=>by simp [a7O];omega
  | f + 1, i, 0, _, _, h2 => by
    have:=h2 (by omega)
    rw [Nat.add_zero] at this
    simp [a7O,this]
  | f + 1, i, k + 1, hk, h1, h2 => by
    have h0:=h1 0 (by omega)
    rw [Nat.add_zero] at h0
    have:=b3k (s:=s) (f:=f) (i:=i+1) (k:=k) (by omega) (fun j hj=>by rw [show i+1+j=i+(j+1) by omega];exact h1 (j+1) (by omega)) (fun hkf=>by rw [show i+1+k=i+(k+1) by omega];exact h2 (by omega))
    simp [a7O,h0,this]
theorem b8u {s:List UInt8} {i:Nat} (h:∀ j,j < 13→alnumZ (bz s (i+j))=true):b1L s i=.error (((i+12:Nat):Int),2):=by
 unfold b1L
 rw [if_pos (b3k (Nat.le_refl _) h (fun h=>absurd h (by omega)))]
theorem b8C {s:List UInt8} {i k:Nat} (hk:k≤12) (h:∀ j,j < k→alnumZ (bz s (i+j))=true) (h2:alnumZ (bz s (i+k))=false):b1L s i=.ok (⟨1,i,0,0,(s.drop i).take (i+k - i)⟩,i+k):=by
 unfold b1L
 have:=b3k (f:=13) (by omega) h (fun _=>h2)
 rw [this,if_neg (by omega),show i+k - i=k by omega]
def b7A (k:Nat):Int:=match k with | 0=>40 | 1=>41 | 2=>124 | 3=>42 | 4=>43 | _=>63
theorem b9x (k:Nat):40≤b7A k∧b7A k≤124:=by
 unfold b7A;split <;> omega
theorem c1T {s:List UInt8} {i:Nat} (h0:smallZ (bz s i)=false) (h1:bz s i≠123) (h:∀ j,j < 6→bz s i≠b7A j):a3L s i=.error (a1r s i):=by
 unfold a3L
 rw [if_neg (by rw [h0];decide),if_neg h1,if_neg (show ¬ bz s i=40 from h 0 (by omega)),if_neg (show ¬ bz s i=41 from h 1 (by omega)),if_neg (show ¬ bz s i=124 from h 2 (by omega)),if_neg (show ¬ bz s i=42 from h 3 (by omega)),if_neg (show ¬ bz s i=43 from h 4 (by omega)),if_neg (show ¬ bz s i=63 from h 5 (by omega))]
theorem c8h {s:List UInt8} {i:Nat} (h:bz s i=42):a3L s i=.ok (⟨5,i,0,-1,[]⟩,i+1):=by
 unfold a3L;rw [h];rfl
theorem c7M {s:List UInt8} {i:Nat} (h:bz s i=43):a3L s i=.ok (⟨5,i,1,-1,[]⟩,i+1):=by
 unfold a3L;rw [h];rfl
theorem c7B {s:List UInt8} {i:Nat} (h:bz s i=63):a3L s i=.ok (⟨5,i,0,1,[]⟩,i+1):=by
 unfold a3L;rw [h];rfl
theorem c5q {s:List UInt8} {i k:Nat} (hk:k < 6) (h:bz s i=b7A k) (h1:b7A k≠42) (h2:b7A k≠43) (h3:b7A k≠63):a3L s i=.ok (⟨2+k,i,0,0,[]⟩,i+1):=by
 match k,hk,h,h1,h2,h3 with
 | 0,_,h,_,_,_=>unfold a3L;rw [h];rfl
 | 1,_,h,_,_,_=>unfold a3L;rw [h];rfl
 | 2,_,h,_,_,_=>unfold a3L;rw [h];rfl
 | 3,_,_,h,_,_=>exact absurd rfl h
 | 4,_,_,_,h,_=>exact absurd rfl h
 | 5,_,_,_,_,h=>exact absurd rfl h
theorem b4p {s:List UInt8}:∀ {f i:Nat},i≤s.length→i+a7O s i f≤s.length
  | 0,i,h=>by simp [a7O];exact h
  | f + 1, i, h => by
    unfold a7O
    split
    · rename_i ha
      have hlt:i < s.length:=a4e (fun h0=>by rw [h0] at ha;exact absurd ha (by decide))
      have:=b4p (s:=s) (f:=f) (i:=i+1) hlt
      omega
    · omega
theorem a7t {s:List UInt8} {i q:Nat} {x:Sg} (h:a3L s i=.ok (x,q)):i < q∧q≤s.length:=by
 have key:∀ {c:Int} {y:Sg},bz s i=c→c≠0→(Except.ok (y,i+1):Except (Int×Int) (Sg×Nat))=.ok (x,q)→i < q∧q≤s.length:=by
  intro c y h1 h2 h3
  injection h3 with h3;injection h3 with _ h3
  have:=a4e (s:=s) (i:=i) (by rw [h1];exact h2)
  omega
 unfold a3L at h
 split at h
 ·rename_i hs
  have hlt:=a7W hs
  unfold b1L at h
  split at h
  ·cases h
  ·injection h with h;injection h with _ h
   have h1:0 < a7O s i 13:=by
    have:alnumZ (bz s i)=true:=by unfold alnumZ;rw [hs];rfl
    unfold a7O;rw [if_pos this];omega
   have:=b4p (s:=s) (f:=13) (i:=i) (by omega)
   omega
 split at h
 ·rename_i hc
  have hlt:=a4e (s:=s) (i:=i) (by omega)
  unfold a2t at h
  split at h
  ·cases h
  ·rename_i n p hn
   have hp:=b1C (by omega) hn
   split at h
   ·rename_i h44
    have hl2:=a4e (s:=s) (i:=p) (by omega)
    split at h
    ·rename_i h125
     have:=a4e (s:=s) (i:=p+1) (by omega)
     injection h with h;injection h with _ h;omega
    ·split at h
     ·cases h
     ·rename_i m q' hm
      have hq:=b1C (by omega) hm
      split at h
      ·rename_i h125
       have:=a4e (s:=s) (i:=q') (by omega)
       injection h with h;injection h with _ h;omega
      ·cases h
   ·split at h
    ·rename_i h125
     have:=a4e (s:=s) (i:=p) (by omega)
     split at h
     ·cases h
     ·injection h with h;injection h with _ h;omega
    ·cases h
 split at h
 ·rename_i hc;exact key hc (by decide) h
 split at h
 ·rename_i hc;exact key hc (by decide) h
 split at h
 ·rename_i hc;exact key hc (by decide) h
 split at h
 ·rename_i hc;exact key hc (by decide) h
 split at h
 ·rename_i hc;exact key hc (by decide) h
 split at h
 ·rename_i hc;exact key hc (by decide) h
 cases h
theorem a6z {s:List UInt8}:∀ {f f' i:Nat} {out:List Sg},s.length - i≤f→s.length - i≤f'→b3t s f i out=b3t s f' i out
  | 0,0,_,_,_,_=>rfl
  | 0,f'+1,i,out,h,h'=>by simp only [b3t];rw [if_pos (by omega)]
  | f+1,0,i,out,h,h'=>by simp only [b3t];rw [if_pos (by omega)]
  | f + 1, f' + 1, i, out, h, h' => by
    simp only [b3t]
    by_cases h1:s.length≤i
    · rw [if_pos h1,if_pos h1]
    · rw [if_neg h1,if_neg h1]
      by_cases h2:bz s i=32
      · rw [if_pos h2,if_pos h2];exact a6z (by omega) (by omega)
      · rw [if_neg h2,if_neg h2]
        by_cases h3:out.length=200
        · rw [if_pos h3,if_pos h3]
        · rw [if_neg h3,if_neg h3]
          cases hx:a3L s i with
          | error e=>rfl
          | ok y =>
            obtain ⟨x,q⟩:=y
            have:=a7t hx
            exact a6z (by omega) (by omega)
def a4D (s:List UInt8) (i:Nat) (out:List Sg):Except (Int×Int) (List Sg):=b3t s (s.length - i) i out
theorem b3B (s:List UInt8):a4D s 0 []=lexV s:=rfl
theorem a8n {s:List UInt8} {i:Nat} {out:List Sg} (h:s.length≤i):a4D s i out=.ok out:=by
 unfold a4D;rw [show s.length - i=0 by omega];rfl
theorem a4c {s:List UInt8} {i:Nat} {out:List Sg} (h:i < s.length):a4D s i out=if bz s i=32 then a4D s (i+1) out
    else if out.length=200 then (if a4L (bz s i)=true then .error ((i:Int),4) else .error (a1r s i))
    else match a3L s i with
      | .error e=>.error e
      | .ok (x,q)=>a4D s q (out++[x]):=by
  unfold a4D
  rw [show s.length - i=(s.length - i - 1)+1 by omega]
  simp only [b3t]
  rw [if_neg (by omega)]
  by_cases h2:bz s i=32
  · rw [if_pos h2,if_pos h2];exact a6z (by omega) (by omega)
  · rw [if_neg h2,if_neg h2]
    by_cases h3:out.length=200
    · rw [if_pos h3,if_pos h3]
    · rw [if_neg h3,if_neg h3]
      cases hx:a3L s i with
      | error e=>rfl
      | ok y =>
        obtain ⟨x,q⟩:=y
        have:=a7t hx
        exact a6z (by omega) (by omega)
theorem b9z:∀ n:Fin 256,(decide (Go.Lib.indexByte [40,41,124,42,43,63,123] (UInt8.ofNat n.val) < 0))=!(decide ((n.val:Int)=40)||decide ((n.val:Int)=41)||decide ((n.val:Int)=124)||decide ((n.val:Int)=42)||decide ((n.val:Int)=43)||decide ((n.val:Int)=63)||decide ((n.val:Int)=123)):=by decide +kernel
theorem b2M (c:UInt8):(!smallZ (c.toNat:Int)&&decide (Go.Lib.indexByte [40,41,124,42,43,63,123] c < 0))=!a4L (c.toNat:Int):=by
 have:=b9z ⟨c.toNat,c.toNat_lt⟩
 simp only [UInt8.ofNat_toNat] at this
 rw [this]
 unfold a4L
 simp only [Bool.not_or,Bool.and_assoc]
theorem b1u {s:List UInt8} {i:Nat} {out:List Sg} (h:i < s.length) (h0:bz s i=32):a4D s i out=a4D s (i+1) out:=by
 rw [a4c h,if_pos h0]
theorem b2B {s:List UInt8} {i:Nat} {out:List Sg} (h:i < s.length) (h0:¬ bz s i=32) (h1:out.length=200) (h2:a4L (bz s i)=false):a4D s i out=.error (a1r s i):=by
 rw [a4c h,if_neg h0,if_pos h1,if_neg (by rw [h2];decide)]
theorem a9S {s:List UInt8} {i:Nat} {out:List Sg} (h:i < s.length) (h0:¬ bz s i=32) (h1:out.length=200) (h2:a4L (bz s i)=true):a4D s i out=.error ((i:Int),4):=by
 rw [a4c h,if_neg h0,if_pos h1,if_pos h2]
theorem b2K {s:List UInt8} {i:Nat} {out:List Sg} {e:Int×Int} (h:i < s.length) (h0:¬ bz s i=32) (h1:¬ out.length=200) (h2:a3L s i=.error e):a4D s i out=.error e:=by
 rw [a4c h,if_neg h0,if_neg h1,h2]
theorem b1j {s:List UInt8} {i q:Nat} {x:Sg} {out:List Sg} (h:i < s.length) (h0:¬ bz s i=32) (h1:¬ out.length=200) (h2:a3L s i=.ok (x,q)):a4D s i out=a4D s q (out++[x]):=by
 rw [a4c h,if_neg h0,if_neg h1,h2]
theorem b2m (s:List UInt8) (i:Nat):a0Q (bz s i)=(decide ((i:Int) < s.length)&&a0Q ((s.getD i 0).toNat:Int)):=by
 rcases Nat.lt_or_ge i s.length with h | h
 ·rw [a3E h,show decide ((i:Int) < s.length)=true from decide_eq_true (by omega),Bool.true_and]
 ·rw [a6x h,show decide ((i:Int) < s.length)=false from decide_eq_false (by omega),Bool.false_and];decide
theorem c1q (s:List UInt8) (i:Nat):smallZ (bz s i)=(decide ((i:Int) < s.length)&&smallZ ((s.getD i 0).toNat:Int)):=by
 rcases Nat.lt_or_ge i s.length with h | h
 ·rw [a3E h,show decide ((i:Int) < s.length)=true from decide_eq_true (by omega),Bool.true_and]
 ·rw [a6x h,show decide ((i:Int) < s.length)=false from decide_eq_false (by omega),Bool.false_and];decide
theorem c0u (s:List UInt8) (i:Nat):(decide ((s.length:Int)≤i)||!a0Q ((s.getD i 0).toNat:Int))=!a0Q (bz s i):=by
 rcases Nat.lt_or_ge i s.length with h | h
 ·rw [a3E h,show decide ((s.length:Int)≤i)=false from decide_eq_false (by omega),Bool.false_or]
 ·rw [a6x h,show decide ((s.length:Int)≤i)=true from decide_eq_true (by omega),Bool.true_or];decide
theorem b8J (s:List UInt8) (i:Nat) {c:Int} (hc:c≠0):(decide ((i:Int) < s.length)&&((s.getD i 0).toNat:Int) == c)=decide (bz s i=c):=by
 rcases Nat.lt_or_ge i s.length with h | h
 ·rw [a3E h,show decide ((i:Int) < s.length)=true from decide_eq_true (by omega),Bool.true_and];rfl
 ·rw [a6x h,show decide ((i:Int) < s.length)=false from decide_eq_false (by omega),Bool.false_and]
  exact (decide_eq_false (fun h=>hc h.symm)).symm
theorem a8S (s:List UInt8) (i:Nat) {c:Int} (hc:c≠0):(decide ((s.length:Int)≤i)||((s.getD i 0).toNat:Int) != c)=!decide (bz s i=c):=by
 rcases Nat.lt_or_ge i s.length with h | h
 ·rw [a3E h,show decide ((s.length:Int)≤i)=false from decide_eq_false (by omega),Bool.false_or];rfl
 ·rw [a6x h,show decide ((s.length:Int)≤i)=true from decide_eq_true (by omega),Bool.true_or]
  rw [decide_eq_false (fun h=>hc h.symm)];rfl
def a1M (s:List UInt8) (i:Nat):Sg×Int×Int :=
  match a4N s (i+1) with
  | (none,p)=>(⟨5,i,0,0,[]⟩,a1r s p)
  | (some n, p) =>
    if 20 < n∨(n=0∧bz s p=125) then (⟨5,i,0,0,[]⟩,((i+1:Nat):Int),3)
    else if bz s p=44 then
      if bz s (p+1)=125 then (⟨5,i,n,-1,[]⟩,((p+2:Nat):Int),0)
      else match a4N s (p+1) with
        | (none,q)=>(⟨5,i,n,-1,[]⟩,a1r s q)
        | (some m, q) => if m < 1 ∨ 20 < m ∨ m < n then (⟨5, i, n, -1, []⟩, ((p + 1 : Nat) : Int), 3)
          else if bz s q=125 then (⟨5,i,n,m,[]⟩,((q+1:Nat):Int),0) else (⟨5,i,n,m,[]⟩,a1r s q)
    else if bz s p=125 then (⟨5,i,n,n,[]⟩,((p+1:Nat):Int),0)
    else (⟨5,i,n,n,[]⟩,a1r s p)
def sgZ:Sg:=⟨0,0,0,0,[]⟩
def c1s (s:List UInt8) (i:Nat):Sg×Int×Int :=
 if a7O s i 13=13 then (sgZ,((i+12:Nat):Int),2) else (⟨1,i,0,0,(s.drop i).take (a7O s i 13)⟩,((i+a7O s i 13:Nat):Int),0)
def a7E (s:List UInt8) (i:Nat):Sg×Int×Int :=
 if smallZ (bz s i)=true then c1s s i
 else if bz s i=40 then (⟨2,i,0,0,[]⟩,((i+1:Nat):Int),0)
 else if bz s i=41 then (⟨3,i,0,0,[]⟩,((i+1:Nat):Int),0)
 else if bz s i=124 then (⟨4,i,0,0,[]⟩,((i+1:Nat):Int),0)
 else if bz s i=42 then (⟨5,i,0,-1,[]⟩,((i+1:Nat):Int),0)
 else if bz s i=43 then (⟨5,i,1,-1,[]⟩,((i+1:Nat):Int),0)
 else if bz s i=63 then (⟨5,i,0,1,[]⟩,((i+1:Nat):Int),0)
 else if bz s i=123 then a1M s i
 else (sgZ,(i:Int),2)
def c8y (r:Except (Int×Int) (Sg×Nat)) (f:Sg×Int×Int):Prop:=match r with
 | .ok (x,q)=>f=(x,(q:Int),0)
 | .error e=>f.2=e∧e.2≠0
theorem a6t (s:List UInt8) (p:Nat):(a1r s p).2≠0:=by unfold a1r;split <;> simp
theorem b6E (s:List UInt8) (i:Nat) (hi:i < s.length):c8y (a2t s i) (a1M s i):=by
  unfold a2t a1M
  cases hn:a4N s (i+1) with
  | mk o p =>
    cases o with
    | none=>rw [a7U hn];exact ⟨rfl,a6t s p⟩
    | some n =>
      have h0:=(a6b (by omega) hn).2.2 n rfl
      by_cases h20:20 < n
      · rw [a7s hn (.inr h20)]
        simp only
        rw [if_pos (.inl h20)]
        exact ⟨rfl,by simp⟩
      · rw [a9g hn (by omega)]
        simp only
        by_cases h44:bz s p=44
        · rw [if_pos h44,if_neg (show ¬ (20 < n∨n=0∧bz s p=125) by omega),if_pos h44]
          by_cases h125:bz s (p+1)=125
          · rw [if_pos h125,if_pos h125];rfl
          · rw [if_neg h125,if_neg h125]
            have hlt:=a4e (s:=s) (i:=p) (by omega)
            cases hm:a4N s (p+1) with
            | mk o2 q =>
              cases o2 with
              | none=>rw [a7U hm];exact ⟨rfl,a6t s q⟩
              | some m =>
                simp only
                by_cases hr:m < (if 1 > n then 1 else n)∨20 < m
                · rw [a7s hm hr]
                  rw [if_pos (show m < 1∨20 < m∨m < n by split at hr <;> omega)]
                  exact ⟨rfl,by simp⟩
                · rw [a9g hm hr]
                  rw [if_neg (show ¬ (m < 1∨20 < m∨m < n) by split at hr <;> omega)]
                  simp only
                  by_cases h5:bz s q=125
                  · rw [if_pos h5,if_pos h5];rfl
                  · rw [if_neg h5,if_neg h5];exact ⟨rfl,a6t s q⟩
        · rw [if_neg h44]
          by_cases h125:bz s p=125
          · by_cases hz:n=0
            · rw [if_pos h125,if_pos hz,if_pos (.inr ⟨hz,h125⟩)];exact ⟨rfl,by simp⟩
            · rw [if_pos h125,if_neg hz,if_neg (show ¬ (20 < n∨n=0∧bz s p=125) by omega),if_neg h44,if_pos h125];rfl
          · rw [if_neg h125,if_neg (show ¬ (20 < n∨n=0∧bz s p=125) by omega),if_neg h44,if_neg h125];exact ⟨rfl,a6t s p⟩
theorem b4Z (s:List UInt8) (i:Nat) (hi:i < s.length):c8y (a3L s i) (a7E s i):=by
 unfold a3L a7E
 by_cases h:smallZ (bz s i)=true
 ·rw [if_pos h,if_pos h]
  unfold b1L c1s
  split
  ·exact ⟨rfl,by simp⟩
  ·rfl
 rw [if_neg h,if_neg h]
 by_cases h1:bz s i=123
 ·rw [if_pos h1,if_neg (show ¬ bz s i=40 by omega),if_neg (show ¬ bz s i=41 by omega),if_neg (show ¬ bz s i=124 by omega),if_neg (show ¬ bz s i=42 by omega),if_neg (show ¬ bz s i=43 by omega),if_neg (show ¬ bz s i=63 by omega),if_pos h1]
  exact b6E s i hi
 rw [if_neg h1]
 by_cases h2:bz s i=40
 ·rw [if_pos h2,if_pos h2];rfl
 rw [if_neg h2,if_neg h2]
 by_cases h3:bz s i=41
 ·rw [if_pos h3,if_pos h3];rfl
 rw [if_neg h3,if_neg h3]
 by_cases h4:bz s i=124
 ·rw [if_pos h4,if_pos h4];rfl
 rw [if_neg h4,if_neg h4]
 by_cases h5:bz s i=42
 ·rw [if_pos h5,if_pos h5];rfl
 rw [if_neg h5,if_neg h5]
 by_cases h6:bz s i=43
 ·rw [if_pos h6,if_pos h6];rfl
 rw [if_neg h6,if_neg h6]
 by_cases h7:bz s i=63
 ·rw [if_pos h7,if_pos h7];rfl
 rw [if_neg h7,if_neg h7,if_neg h1]
 rw [b6s hi]
 exact ⟨rfl,by simp⟩
theorem b8G (s:List UInt8) (p:Nat) (n:Int):(decide (20 < n)||((n == 0&&decide ((p:Int) < s.length))&&((s.getD p 0).toNat:Int) == 125))=decide (20 < n∨(n=0∧bz s p=125)):=by
 rw [Bool.and_assoc,b8J s p (by decide),Bool.decide_or,Bool.decide_and]
 rfl
theorem b6g (s:List UInt8) (i:Nat):(decide ((i:Int) < s.length)&&(smallZ ((s.getD i 0).toNat:Int)||a0Q ((s.getD i 0).toNat:Int)))=alnumZ (bz s i):=by
 unfold alnumZ
 rw [c1q,b2m,Bool.and_or_distrib_left]
theorem a9h {s:List UInt8} {i:Nat} (h:a4L (bz s i)=false):a3L s i=.error (a1r s i):=by
 unfold a4L at h
 simp only [Bool.or_eq_false_iff,decide_eq_false_iff_not] at h
 obtain ⟨⟨⟨⟨⟨⟨⟨h0,h1⟩,h2⟩,h3⟩,h4⟩,h5⟩,h6⟩,h7⟩:=h
 unfold a3L
 rw [if_neg (by rw [h0];decide),if_neg h7,if_neg h1,if_neg h2,if_neg h3,if_neg h4,if_neg h5,if_neg h6]
end Go.Proofs.YtdbbbafiegpbpaaGreatDoor
