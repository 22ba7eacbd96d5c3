import Derived.Test.YtmkefpjpghmonaaGreatAwB
import Derived.Test.YtmkefpjpghmonaaGreatChecked
import Derived.IntWalk
namespace Go.Proofs.YtmkefpjpghmonaaGreat
open Go.Av
@[push_cast] theorem agT_1 : agT Tryz.prog 1 = some false := by kernel_rfl
@[push_cast] theorem szT_1 : szT Tryz.prog 1 = some 1 := by kernel_rfl
@[push_cast] theorem kiT_1 : kiT Tryz.prog 1 = some .other := by kernel_rfl
@[push_cast] theorem zeT_1 : zeT Tryz.prog 1 = some [.nf] := by kernel_rfl
@[push_cast] theorem agT_2 : agT Tryz.prog 2 = some false := by kernel_rfl
@[push_cast] theorem szT_2 : szT Tryz.prog 2 = some 1 := by kernel_rfl
@[push_cast] theorem kiT_2 : kiT Tryz.prog 2 = some (.int .i64) := by kernel_rfl
@[push_cast] theorem zeT_2 : zeT Tryz.prog 2 = some [.i .i64 0] := by kernel_rfl
@[push_cast] theorem agT_3 : agT Tryz.prog 3 = some false := by kernel_rfl
@[push_cast] theorem szT_3 : szT Tryz.prog 3 = some 1 := by kernel_rfl
@[push_cast] theorem kiT_3 : kiT Tryz.prog 3 = some (.int .i64) := by kernel_rfl
@[push_cast] theorem zeT_3 : zeT Tryz.prog 3 = some [.i .i64 0] := by kernel_rfl
@[push_cast] theorem agT_4 : agT Tryz.prog 4 = some false := by kernel_rfl
@[push_cast] theorem szT_4 : szT Tryz.prog 4 = some 1 := by kernel_rfl
@[push_cast] theorem kiT_4 : kiT Tryz.prog 4 = some .bool := by kernel_rfl
@[push_cast] theorem zeT_4 : zeT Tryz.prog 4 = some [.b false] := by kernel_rfl
@[push_cast] theorem agT_5 : agT Tryz.prog 5 = some false := by kernel_rfl
@[push_cast] theorem szT_5 : szT Tryz.prog 5 = some 1 := by kernel_rfl
@[push_cast] theorem kiT_5 : kiT Tryz.prog 5 = some (.int .u8) := by kernel_rfl
@[push_cast] theorem zeT_5 : zeT Tryz.prog 5 = some [.i .u8 0] := by kernel_rfl
@[push_cast] theorem agT_6 : agT Tryz.prog 6 = some false := by kernel_rfl
@[push_cast] theorem szT_6 : szT Tryz.prog 6 = some 1 := by kernel_rfl
@[push_cast] theorem kiT_6 : kiT Tryz.prog 6 = some (.int .u8) := by kernel_rfl
@[push_cast] theorem zeT_6 : zeT Tryz.prog 6 = some [.i .u8 0] := by kernel_rfl
@[push_cast] theorem agT_7 : agT Tryz.prog 7 = some true := by kernel_rfl
@[push_cast] theorem szT_7 : szT Tryz.prog 7 = some 4 := by kernel_rfl
@[push_cast] theorem kiT_7 : kiT Tryz.prog 7 = some .other := by kernel_rfl
@[push_cast] theorem zeT_7 : zeT Tryz.prog 7 = some [.i .i64 0, .i .i64 0, .b false, .i .u8 0] := by kernel_rfl
@[push_cast] theorem flT_7_0 : flT Tryz.prog 7 0 = some (0, 1, false) := by kernel_rfl
@[push_cast] theorem flT_7_1 : flT Tryz.prog 7 1 = some (1, 1, false) := by kernel_rfl
@[push_cast] theorem flT_7_2 : flT Tryz.prog 7 2 = some (2, 1, false) := by kernel_rfl
@[push_cast] theorem flT_7_3 : flT Tryz.prog 7 3 = some (3, 1, false) := by kernel_rfl
@[push_cast] theorem buT_7 : buT Tryz.prog 7 = some [(0, 1), (1, 1), (2, 1), (3, 1)] := by kernel_rfl
@[push_cast] theorem eqG_7 : Tryz.prog.eqGuardType Tryz.prog.depth 7 = false := by kernel_rfl
@[push_cast] theorem agT_8 : agT Tryz.prog 8 = some true := by kernel_rfl
@[push_cast] theorem szT_8 : szT Tryz.prog 8 = some 4 := by kernel_rfl
@[push_cast] theorem kiT_8 : kiT Tryz.prog 8 = some .other := by kernel_rfl
@[push_cast] theorem zeT_8 : zeT Tryz.prog 8 = some [.i .i64 0, .i .i64 0, .b false, .i .u8 0] := by kernel_rfl
@[push_cast] theorem flT_8_0 : flT Tryz.prog 8 0 = some (0, 1, false) := by kernel_rfl
@[push_cast] theorem flT_8_1 : flT Tryz.prog 8 1 = some (1, 1, false) := by kernel_rfl
@[push_cast] theorem flT_8_2 : flT Tryz.prog 8 2 = some (2, 1, false) := by kernel_rfl
@[push_cast] theorem flT_8_3 : flT Tryz.prog 8 3 = some (3, 1, false) := by kernel_rfl
@[push_cast] theorem buT_8 : buT Tryz.prog 8 = some [(0, 1), (1, 1), (2, 1), (3, 1)] := by kernel_rfl
@[push_cast] theorem eqG_8 : Tryz.prog.eqGuardType Tryz.prog.depth 8 = false := by kernel_rfl
@[push_cast] theorem agT_9 : agT Tryz.prog 9 = some false := by kernel_rfl
@[push_cast] theorem szT_9 : szT Tryz.prog 9 = some 1 := by kernel_rfl
@[push_cast] theorem kiT_9 : kiT Tryz.prog 9 = some .string := by kernel_rfl
@[push_cast] theorem zeT_9 : zeT Tryz.prog 9 = some [.s ByteArray.empty] := by kernel_rfl
@[push_cast] theorem agT_20 : agT Tryz.prog 20 = some false := by kernel_rfl
@[push_cast] theorem szT_20 : szT Tryz.prog 20 = some 1 := by kernel_rfl
@[push_cast] theorem kiT_20 : kiT Tryz.prog 20 = some .iface := by kernel_rfl
@[push_cast] theorem zeT_20 : zeT Tryz.prog 20 = some [.ni] := by kernel_rfl
@[push_cast] theorem agT_21 : agT Tryz.prog 21 = some false := by kernel_rfl
@[push_cast] theorem szT_21 : szT Tryz.prog 21 = some 1 := by kernel_rfl
@[push_cast] theorem kiT_21 : kiT Tryz.prog 21 = some (.int .i32) := by kernel_rfl
@[push_cast] theorem zeT_21 : zeT Tryz.prog 21 = some [.i .i32 0] := by kernel_rfl
@[push_cast] theorem agT_22 : agT Tryz.prog 22 = some true := by kernel_rfl
@[push_cast] theorem szT_22 : szT Tryz.prog 22 = some 4 := by kernel_rfl
@[push_cast] theorem kiT_22 : kiT Tryz.prog 22 = some .other := by kernel_rfl
@[push_cast] theorem zeT_22 : zeT Tryz.prog 22 = some [.i .i64 0, .i .i64 0, .i .i64 0, .i .i64 0] := by kernel_rfl
@[push_cast] theorem arT_22 : arT Tryz.prog 22 = some (4, 1, false) := by kernel_rfl
@[push_cast] theorem buT_22 : buT Tryz.prog 22 = some [(0, 1), (1, 1), (2, 1), (3, 1)] := by kernel_rfl
@[push_cast] theorem eqG_22 : Tryz.prog.eqGuardType Tryz.prog.depth 22 = false := by kernel_rfl
@[push_cast] theorem agT_23 : agT Tryz.prog 23 = some false := by kernel_rfl
@[push_cast] theorem szT_23 : szT Tryz.prog 23 = some 1 := by kernel_rfl
@[push_cast] theorem kiT_23 : kiT Tryz.prog 23 = some .other := by kernel_rfl
@[push_cast] theorem zeT_23 : zeT Tryz.prog 23 = some [.ro true [] 0] := by kernel_rfl
@[push_cast] theorem slT_23 : slT Tryz.prog 23 = some (3, 1, 8) := by kernel_rfl
@[push_cast] theorem und_23 : Tryz.prog.underlying 23 = some (.slice 3) := by kernel_rfl
@[push_cast] theorem agT_25 : agT Tryz.prog 25 = some true := by kernel_rfl
@[push_cast] theorem szT_25 : szT Tryz.prog 25 = some 7 := by kernel_rfl
@[push_cast] theorem kiT_25 : kiT Tryz.prog 25 = some .other := by kernel_rfl
@[push_cast] theorem zeT_25 : zeT Tryz.prog 25 = some [.i .i64 0, .i .i64 0, .i .i64 0, .i .i64 0, .i .i64 0, .i .i64 0, .ro true [] 0] := by kernel_rfl
@[push_cast] theorem flT_25_0 : flT Tryz.prog 25 0 = some (0, 1, false) := by kernel_rfl
@[push_cast] theorem flT_25_1 : flT Tryz.prog 25 1 = some (1, 1, false) := by kernel_rfl
@[push_cast] theorem flT_25_2 : flT Tryz.prog 25 2 = some (2, 4, true) := by kernel_rfl
@[push_cast] theorem flT_25_3 : flT Tryz.prog 25 3 = some (6, 1, false) := by kernel_rfl
@[push_cast] theorem buT_25 : buT Tryz.prog 25 = some [(0, 1), (1, 1), (2, 4), (6, 1)] := by kernel_rfl
@[push_cast] theorem eqG_25 : Tryz.prog.eqGuardType Tryz.prog.depth 25 = false := by kernel_rfl
@[push_cast] theorem agT_26 : agT Tryz.prog 26 = some false := by kernel_rfl
@[push_cast] theorem szT_26 : szT Tryz.prog 26 = some 1 := by kernel_rfl
@[push_cast] theorem kiT_26 : kiT Tryz.prog 26 = some .other := by kernel_rfl
@[push_cast] theorem zeT_26 : zeT Tryz.prog 26 = some [.ro true [] 0] := by kernel_rfl
@[push_cast] theorem slT_26 : slT Tryz.prog 26 = some (5, 1, 1) := by kernel_rfl
@[push_cast] theorem und_26 : Tryz.prog.underlying 26 = some (.slice 5) := by kernel_rfl
@[push_cast] theorem agT_27 : agT Tryz.prog 27 = some false := by kernel_rfl
@[push_cast] theorem szT_27 : szT Tryz.prog 27 = some 1 := by kernel_rfl
@[push_cast] theorem kiT_27 : kiT Tryz.prog 27 = some .other := by kernel_rfl
@[push_cast] theorem zeT_27 : zeT Tryz.prog 27 = some [.ro true [] 0] := by kernel_rfl
@[push_cast] theorem slT_27 : slT Tryz.prog 27 = some (48, 4, 48) := by kernel_rfl
@[push_cast] theorem und_27 : Tryz.prog.underlying 27 = some (.slice 48) := by kernel_rfl
@[push_cast] theorem agT_30 : agT Tryz.prog 30 = some false := by kernel_rfl
@[push_cast] theorem szT_30 : szT Tryz.prog 30 = some 1 := by kernel_rfl
@[push_cast] theorem kiT_30 : kiT Tryz.prog 30 = some .other := by kernel_rfl
@[push_cast] theorem zeT_30 : zeT Tryz.prog 30 = some [.ro true [] 0] := by kernel_rfl
@[push_cast] theorem slT_30 : slT Tryz.prog 30 = some (63, 26, 240) := by kernel_rfl
@[push_cast] theorem und_30 : Tryz.prog.underlying 30 = some (.slice 63) := by kernel_rfl
@[push_cast] theorem agT_31 : agT Tryz.prog 31 = some false := by kernel_rfl
@[push_cast] theorem szT_31 : szT Tryz.prog 31 = some 1 := by kernel_rfl
@[push_cast] theorem kiT_31 : kiT Tryz.prog 31 = some (.int .u64) := by kernel_rfl
@[push_cast] theorem zeT_31 : zeT Tryz.prog 31 = some [.i .u64 0] := by kernel_rfl
@[push_cast] theorem agT_33 : agT Tryz.prog 33 = some true := by kernel_rfl
@[push_cast] theorem szT_33 : szT Tryz.prog 33 = some 4 := by kernel_rfl
@[push_cast] theorem kiT_33 : kiT Tryz.prog 33 = some .other := by kernel_rfl
@[push_cast] theorem zeT_33 : zeT Tryz.prog 33 = some [.i .u64 0, .i .u64 0, .i .u64 0, .i .u64 0] := by kernel_rfl
@[push_cast] theorem arT_33 : arT Tryz.prog 33 = some (4, 1, false) := by kernel_rfl
@[push_cast] theorem buT_33 : buT Tryz.prog 33 = some [(0, 1), (1, 1), (2, 1), (3, 1)] := by kernel_rfl
@[push_cast] theorem eqG_33 : Tryz.prog.eqGuardType Tryz.prog.depth 33 = false := by kernel_rfl
@[push_cast] theorem agT_35 : agT Tryz.prog 35 = some true := by kernel_rfl
@[push_cast] theorem szT_35 : szT Tryz.prog 35 = some 9 := by kernel_rfl
@[push_cast] theorem kiT_35 : kiT Tryz.prog 35 = some .other := by kernel_rfl
@[push_cast] theorem zeT_35 : zeT Tryz.prog 35 = some [.b false, .i .u64 0, .i .u64 0, .i .u64 0, .i .u64 0, .i .u64 0, .i .u64 0, .i .u64 0, .i .u64 0] := by kernel_rfl
@[push_cast] theorem flT_35_0 : flT Tryz.prog 35 0 = some (0, 1, false) := by kernel_rfl
@[push_cast] theorem flT_35_1 : flT Tryz.prog 35 1 = some (1, 4, true) := by kernel_rfl
@[push_cast] theorem flT_35_2 : flT Tryz.prog 35 2 = some (5, 4, true) := by kernel_rfl
@[push_cast] theorem buT_35 : buT Tryz.prog 35 = some [(0, 1), (1, 4), (5, 4)] := by kernel_rfl
@[push_cast] theorem eqG_35 : Tryz.prog.eqGuardType Tryz.prog.depth 35 = false := by kernel_rfl
@[push_cast] theorem agT_37 : agT Tryz.prog 37 = some true := by kernel_rfl
@[push_cast] theorem szT_37 : szT Tryz.prog 37 = some 21 := by kernel_rfl
@[push_cast] theorem kiT_37 : kiT Tryz.prog 37 = some .other := by kernel_rfl
@[push_cast] theorem zeT_37 : zeT Tryz.prog 37 = some [.i .i64 0, .i .i64 0, .i .i64 0, .i .i64 0, .i .i64 0, .i .i64 0, .ro true [] 0, .i .i64 0, .i .i64 0, .ro true [] 0, .ro true [] 0, .i .i64 0, .b false, .i .u64 0, .i .u64 0, .i .u64 0, .i .u64 0, .i .u64 0, .i .u64 0, .i .u64 0, .i .u64 0] := by kernel_rfl
@[push_cast] theorem flT_37_0 : flT Tryz.prog 37 0 = some (0, 7, true) := by kernel_rfl
@[push_cast] theorem flT_37_1 : flT Tryz.prog 37 1 = some (7, 1, false) := by kernel_rfl
@[push_cast] theorem flT_37_2 : flT Tryz.prog 37 2 = some (8, 1, false) := by kernel_rfl
@[push_cast] theorem flT_37_3 : flT Tryz.prog 37 3 = some (9, 1, false) := by kernel_rfl
@[push_cast] theorem flT_37_4 : flT Tryz.prog 37 4 = some (10, 1, false) := by kernel_rfl
@[push_cast] theorem flT_37_5 : flT Tryz.prog 37 5 = some (11, 1, false) := by kernel_rfl
@[push_cast] theorem flT_37_6 : flT Tryz.prog 37 6 = some (12, 9, true) := by kernel_rfl
@[push_cast] theorem buT_37 : buT Tryz.prog 37 = some [(0, 7), (7, 1), (8, 1), (9, 1), (10, 1), (11, 1), (12, 9)] := by kernel_rfl
@[push_cast] theorem eqG_37 : Tryz.prog.eqGuardType Tryz.prog.depth 37 = false := by kernel_rfl
@[push_cast] theorem agT_38 : agT Tryz.prog 38 = some false := by kernel_rfl
@[push_cast] theorem szT_38 : szT Tryz.prog 38 = some 1 := by kernel_rfl
@[push_cast] theorem kiT_38 : kiT Tryz.prog 38 = some (.int .i64) := by kernel_rfl
@[push_cast] theorem zeT_38 : zeT Tryz.prog 38 = some [.i .i64 0] := by kernel_rfl
@[push_cast] theorem agT_46 : agT Tryz.prog 46 = some false := by kernel_rfl
@[push_cast] theorem szT_46 : szT Tryz.prog 46 = some 1 := by kernel_rfl
@[push_cast] theorem kiT_46 : kiT Tryz.prog 46 = some (.int .u64) := by kernel_rfl
@[push_cast] theorem zeT_46 : zeT Tryz.prog 46 = some [.i .u64 0] := by kernel_rfl
@[push_cast] theorem agT_48 : agT Tryz.prog 48 = some true := by kernel_rfl
@[push_cast] theorem szT_48 : szT Tryz.prog 48 = some 4 := by kernel_rfl
@[push_cast] theorem kiT_48 : kiT Tryz.prog 48 = some .other := by kernel_rfl
@[push_cast] theorem zeT_48 : zeT Tryz.prog 48 = some [.i .i64 0, .i .i64 0, .i .i64 0, .ro true [] 0] := by kernel_rfl
@[push_cast] theorem flT_48_0 : flT Tryz.prog 48 0 = some (0, 1, false) := by kernel_rfl
@[push_cast] theorem flT_48_1 : flT Tryz.prog 48 1 = some (1, 1, false) := by kernel_rfl
@[push_cast] theorem flT_48_2 : flT Tryz.prog 48 2 = some (2, 1, false) := by kernel_rfl
@[push_cast] theorem flT_48_3 : flT Tryz.prog 48 3 = some (3, 1, false) := by kernel_rfl
@[push_cast] theorem buT_48 : buT Tryz.prog 48 = some [(0, 1), (1, 1), (2, 1), (3, 1)] := by kernel_rfl
@[push_cast] theorem eqG_48 : Tryz.prog.eqGuardType Tryz.prog.depth 48 = false := by kernel_rfl
@[push_cast] theorem agT_60 : agT Tryz.prog 60 = some false := by kernel_rfl
@[push_cast] theorem szT_60 : szT Tryz.prog 60 = some 1 := by kernel_rfl
@[push_cast] theorem kiT_60 : kiT Tryz.prog 60 = some .other := by kernel_rfl
@[push_cast] theorem zeT_60 : zeT Tryz.prog 60 = some [.ro true [] 0] := by kernel_rfl
@[push_cast] theorem slT_60 : slT Tryz.prog 60 = some (120, 32, 32) := by kernel_rfl
@[push_cast] theorem und_60 : Tryz.prog.underlying 60 = some (.slice 120) := by kernel_rfl
@[push_cast] theorem agT_61 : agT Tryz.prog 61 = some false := by kernel_rfl
@[push_cast] theorem szT_61 : szT Tryz.prog 61 = some 1 := by kernel_rfl
@[push_cast] theorem kiT_61 : kiT Tryz.prog 61 = some .other := by kernel_rfl
@[push_cast] theorem zeT_61 : zeT Tryz.prog 61 = some [.ro true [] 0] := by kernel_rfl
@[push_cast] theorem slT_61 : slT Tryz.prog 61 = some (35, 9, 72) := by kernel_rfl
@[push_cast] theorem und_61 : Tryz.prog.underlying 61 = some (.slice 35) := by kernel_rfl
@[push_cast] theorem agT_63 : agT Tryz.prog 63 = some true := by kernel_rfl
@[push_cast] theorem szT_63 : szT Tryz.prog 63 = some 26 := by kernel_rfl
@[push_cast] theorem kiT_63 : kiT Tryz.prog 63 = some .other := by kernel_rfl
@[push_cast] theorem zeT_63 : zeT Tryz.prog 63 = some [.i .i64 0, .b false, .i .u64 0, .i .u64 0, .i .u64 0, .i .u64 0, .i .u64 0, .i .u64 0, .i .u64 0, .i .u64 0, .s ByteArray.empty, .i .i64 0, .b false, .ro true [] 0, .ro true [] 0, .b false, .b false, .b false, .i .u64 0, .i .u64 0, .i .u64 0, .i .u64 0, .i .u64 0, .i .u64 0, .i .u64 0, .i .u64 0] := by kernel_rfl
@[push_cast] theorem flT_63_0 : flT Tryz.prog 63 0 = some (0, 1, false) := by kernel_rfl
@[push_cast] theorem flT_63_1 : flT Tryz.prog 63 1 = some (1, 9, true) := by kernel_rfl
@[push_cast] theorem flT_63_2 : flT Tryz.prog 63 2 = some (10, 1, false) := by kernel_rfl
@[push_cast] theorem flT_63_3 : flT Tryz.prog 63 3 = some (11, 1, false) := by kernel_rfl
@[push_cast] theorem flT_63_4 : flT Tryz.prog 63 4 = some (12, 1, false) := by kernel_rfl
@[push_cast] theorem flT_63_5 : flT Tryz.prog 63 5 = some (13, 1, false) := by kernel_rfl
@[push_cast] theorem flT_63_6 : flT Tryz.prog 63 6 = some (14, 1, false) := by kernel_rfl
@[push_cast] theorem flT_63_7 : flT Tryz.prog 63 7 = some (15, 1, false) := by kernel_rfl
@[push_cast] theorem flT_63_8 : flT Tryz.prog 63 8 = some (16, 1, false) := by kernel_rfl
@[push_cast] theorem flT_63_9 : flT Tryz.prog 63 9 = some (17, 9, true) := by kernel_rfl
@[push_cast] theorem buT_63 : buT Tryz.prog 63 = some [(0, 1), (1, 9), (10, 1), (11, 1), (12, 1), (13, 1), (14, 1), (15, 1), (16, 1), (17, 9)] := by kernel_rfl
@[push_cast] theorem eqG_63 : Tryz.prog.eqGuardType Tryz.prog.depth 63 = false := by kernel_rfl
@[push_cast] theorem agT_64 : agT Tryz.prog 64 = some false := by kernel_rfl
@[push_cast] theorem szT_64 : szT Tryz.prog 64 = some 1 := by kernel_rfl
@[push_cast] theorem kiT_64 : kiT Tryz.prog 64 = some .other := by kernel_rfl
@[push_cast] theorem zeT_64 : zeT Tryz.prog 64 = some [.nf] := by kernel_rfl
@[push_cast] theorem agT_77 : agT Tryz.prog 77 = some true := by kernel_rfl
@[push_cast] theorem szT_77 : szT Tryz.prog 77 = some 8 := by kernel_rfl
@[push_cast] theorem kiT_77 : kiT Tryz.prog 77 = some .other := by kernel_rfl
@[push_cast] theorem zeT_77 : zeT Tryz.prog 77 = some [.i .u64 0, .i .u64 0, .i .u64 0, .i .u64 0, .i .u64 0, .i .u64 0, .i .u64 0, .i .u64 0] := by kernel_rfl
@[push_cast] theorem flT_77_0 : flT Tryz.prog 77 0 = some (0, 4, true) := by kernel_rfl
@[push_cast] theorem flT_77_1 : flT Tryz.prog 77 1 = some (4, 4, true) := by kernel_rfl
@[push_cast] theorem buT_77 : buT Tryz.prog 77 = some [(0, 4), (4, 4)] := by kernel_rfl
@[push_cast] theorem eqG_77 : Tryz.prog.eqGuardType Tryz.prog.depth 77 = false := by kernel_rfl
@[push_cast] theorem agT_79 : agT Tryz.prog 79 = some true := by kernel_rfl
@[push_cast] theorem szT_79 : szT Tryz.prog 79 = some 22 := by kernel_rfl
@[push_cast] theorem kiT_79 : kiT Tryz.prog 79 = some .other := by kernel_rfl
@[push_cast] theorem zeT_79 : zeT Tryz.prog 79 = some [.i .i64 0, .b false, .i .u64 0, .i .u64 0, .i .u64 0, .i .u64 0, .i .u64 0, .i .u64 0, .i .u64 0, .i .u64 0, .s ByteArray.empty, .ro true [] 0, .ro true [] 0, .i .i64 0, .i .u64 0, .i .u64 0, .i .u64 0, .i .u64 0, .i .u64 0, .i .u64 0, .i .u64 0, .i .u64 0] := by kernel_rfl
@[push_cast] theorem flT_79_0 : flT Tryz.prog 79 0 = some (0, 1, false) := by kernel_rfl
@[push_cast] theorem flT_79_1 : flT Tryz.prog 79 1 = some (1, 9, true) := by kernel_rfl
@[push_cast] theorem flT_79_2 : flT Tryz.prog 79 2 = some (10, 1, false) := by kernel_rfl
@[push_cast] theorem flT_79_3 : flT Tryz.prog 79 3 = some (11, 1, false) := by kernel_rfl
@[push_cast] theorem flT_79_4 : flT Tryz.prog 79 4 = some (12, 1, false) := by kernel_rfl
@[push_cast] theorem flT_79_5 : flT Tryz.prog 79 5 = some (13, 1, false) := by kernel_rfl
@[push_cast] theorem flT_79_6 : flT Tryz.prog 79 6 = some (14, 8, true) := by kernel_rfl
@[push_cast] theorem buT_79 : buT Tryz.prog 79 = some [(0, 1), (1, 9), (10, 1), (11, 1), (12, 1), (13, 1), (14, 8)] := by kernel_rfl
@[push_cast] theorem eqG_79 : Tryz.prog.eqGuardType Tryz.prog.depth 79 = false := by kernel_rfl
@[push_cast] theorem agT_86 : agT Tryz.prog 86 = some false := by kernel_rfl
@[push_cast] theorem szT_86 : szT Tryz.prog 86 = some 1 := by kernel_rfl
@[push_cast] theorem kiT_86 : kiT Tryz.prog 86 = some .other := by kernel_rfl
@[push_cast] theorem zeT_86 : zeT Tryz.prog 86 = some [.ro true [] 0] := by kernel_rfl
@[push_cast] theorem slT_86 : slT Tryz.prog 86 = some (194, 5, 56) := by kernel_rfl
@[push_cast] theorem und_86 : Tryz.prog.underlying 86 = some (.slice 194) := by kernel_rfl
@[push_cast] theorem agT_88 : agT Tryz.prog 88 = some false := by kernel_rfl
@[push_cast] theorem szT_88 : szT Tryz.prog 88 = some 1 := by kernel_rfl
@[push_cast] theorem kiT_88 : kiT Tryz.prog 88 = some .other := by kernel_rfl
@[push_cast] theorem zeT_88 : zeT Tryz.prog 88 = some [.np] := by kernel_rfl
@[push_cast] theorem ptT_88 : ptT Tryz.prog 88 = true := by kernel_rfl
@[push_cast] theorem agT_89 : agT Tryz.prog 89 = some false := by kernel_rfl
@[push_cast] theorem szT_89 : szT Tryz.prog 89 = some 1 := by kernel_rfl
@[push_cast] theorem kiT_89 : kiT Tryz.prog 89 = some .other := by kernel_rfl
@[push_cast] theorem zeT_89 : zeT Tryz.prog 89 = some [.np] := by kernel_rfl
@[push_cast] theorem ptT_89 : ptT Tryz.prog 89 = true := by kernel_rfl
@[push_cast] theorem agT_92 : agT Tryz.prog 92 = some false := by kernel_rfl
@[push_cast] theorem szT_92 : szT Tryz.prog 92 = some 1 := by kernel_rfl
@[push_cast] theorem kiT_92 : kiT Tryz.prog 92 = some .other := by kernel_rfl
@[push_cast] theorem zeT_92 : zeT Tryz.prog 92 = some [.ro true [] 0] := by kernel_rfl
@[push_cast] theorem slT_92 : slT Tryz.prog 92 = some (99, 4, 48) := by kernel_rfl
@[push_cast] theorem und_92 : Tryz.prog.underlying 92 = some (.slice 99) := by kernel_rfl
@[push_cast] theorem agT_93 : agT Tryz.prog 93 = some false := by kernel_rfl
@[push_cast] theorem szT_93 : szT Tryz.prog 93 = some 1 := by kernel_rfl
@[push_cast] theorem kiT_93 : kiT Tryz.prog 93 = some .other := by kernel_rfl
@[push_cast] theorem zeT_93 : zeT Tryz.prog 93 = some [.ro true [] 0] := by kernel_rfl
@[push_cast] theorem slT_93 : slT Tryz.prog 93 = some (37, 21, 216) := by kernel_rfl
@[push_cast] theorem und_93 : Tryz.prog.underlying 93 = some (.slice 37) := by kernel_rfl
@[push_cast] theorem agT_94 : agT Tryz.prog 94 = some false := by kernel_rfl
@[push_cast] theorem szT_94 : szT Tryz.prog 94 = some 1 := by kernel_rfl
@[push_cast] theorem kiT_94 : kiT Tryz.prog 94 = some .other := by kernel_rfl
@[push_cast] theorem zeT_94 : zeT Tryz.prog 94 = some [.ro true [] 0] := by kernel_rfl
@[push_cast] theorem slT_94 : slT Tryz.prog 94 = some (125, 1, 24) := by kernel_rfl
@[push_cast] theorem und_94 : Tryz.prog.underlying 94 = some (.slice 125) := by kernel_rfl
@[push_cast] theorem agT_96 : agT Tryz.prog 96 = some true := by kernel_rfl
@[push_cast] theorem szT_96 : szT Tryz.prog 96 = some 25 := by kernel_rfl
@[push_cast] theorem kiT_96 : kiT Tryz.prog 96 = some .other := by kernel_rfl
@[push_cast] theorem zeT_96 : zeT Tryz.prog 96 = some [.i .i64 0, .i .i64 0, .i .i64 0, .i .i64 0, .i .i64 0, .i .i64 0, .ro true [] 0, .i .i64 0, .i .i64 0, .ro true [] 0, .ro true [] 0, .i .i64 0, .b false, .i .u64 0, .i .u64 0, .i .u64 0, .i .u64 0, .i .u64 0, .i .u64 0, .i .u64 0, .i .u64 0, .ro true [] 0, .ro true [] 0, .ro true [] 0, .ro true [] 0] := by kernel_rfl
@[push_cast] theorem flT_96_0 : flT Tryz.prog 96 0 = some (0, 21, true) := by kernel_rfl
@[push_cast] theorem flT_96_1 : flT Tryz.prog 96 1 = some (21, 1, false) := by kernel_rfl
@[push_cast] theorem flT_96_2 : flT Tryz.prog 96 2 = some (22, 1, false) := by kernel_rfl
@[push_cast] theorem flT_96_3 : flT Tryz.prog 96 3 = some (23, 1, false) := by kernel_rfl
@[push_cast] theorem flT_96_4 : flT Tryz.prog 96 4 = some (24, 1, false) := by kernel_rfl
@[push_cast] theorem buT_96 : buT Tryz.prog 96 = some [(0, 21), (21, 1), (22, 1), (23, 1), (24, 1)] := by kernel_rfl
@[push_cast] theorem eqG_96 : Tryz.prog.eqGuardType Tryz.prog.depth 96 = false := by kernel_rfl
@[push_cast] theorem agT_97 : agT Tryz.prog 97 = some false := by kernel_rfl
@[push_cast] theorem szT_97 : szT Tryz.prog 97 = some 1 := by kernel_rfl
@[push_cast] theorem kiT_97 : kiT Tryz.prog 97 = some .other := by kernel_rfl
@[push_cast] theorem zeT_97 : zeT Tryz.prog 97 = some [.ro true [] 0] := by kernel_rfl
@[push_cast] theorem slT_97 : slT Tryz.prog 97 = some (107, 2, 32) := by kernel_rfl
@[push_cast] theorem und_97 : Tryz.prog.underlying 97 = some (.slice 107) := by kernel_rfl
@[push_cast] theorem agT_99 : agT Tryz.prog 99 = some true := by kernel_rfl
@[push_cast] theorem szT_99 : szT Tryz.prog 99 = some 4 := by kernel_rfl
@[push_cast] theorem kiT_99 : kiT Tryz.prog 99 = some .other := by kernel_rfl
@[push_cast] theorem zeT_99 : zeT Tryz.prog 99 = some [.i .i64 0, .i .i64 0, .i .i64 0, .ro true [] 0] := by kernel_rfl
@[push_cast] theorem flT_99_0 : flT Tryz.prog 99 0 = some (0, 1, false) := by kernel_rfl
@[push_cast] theorem flT_99_1 : flT Tryz.prog 99 1 = some (1, 1, false) := by kernel_rfl
@[push_cast] theorem flT_99_2 : flT Tryz.prog 99 2 = some (2, 1, false) := by kernel_rfl
@[push_cast] theorem flT_99_3 : flT Tryz.prog 99 3 = some (3, 1, false) := by kernel_rfl
@[push_cast] theorem buT_99 : buT Tryz.prog 99 = some [(0, 1), (1, 1), (2, 1), (3, 1)] := by kernel_rfl
@[push_cast] theorem eqG_99 : Tryz.prog.eqGuardType Tryz.prog.depth 99 = false := by kernel_rfl
@[push_cast] theorem agT_107 : agT Tryz.prog 107 = some true := by kernel_rfl
@[push_cast] theorem szT_107 : szT Tryz.prog 107 = some 2 := by kernel_rfl
@[push_cast] theorem kiT_107 : kiT Tryz.prog 107 = some .other := by kernel_rfl
@[push_cast] theorem zeT_107 : zeT Tryz.prog 107 = some [.i .i64 0, .ro true [] 0] := by kernel_rfl
@[push_cast] theorem flT_107_0 : flT Tryz.prog 107 0 = some (0, 1, false) := by kernel_rfl
@[push_cast] theorem flT_107_1 : flT Tryz.prog 107 1 = some (1, 1, false) := by kernel_rfl
@[push_cast] theorem buT_107 : buT Tryz.prog 107 = some [(0, 1), (1, 1)] := by kernel_rfl
@[push_cast] theorem eqG_107 : Tryz.prog.eqGuardType Tryz.prog.depth 107 = false := by kernel_rfl
@[push_cast] theorem agT_120 : agT Tryz.prog 120 = some true := by kernel_rfl
@[push_cast] theorem szT_120 : szT Tryz.prog 120 = some 32 := by kernel_rfl
@[push_cast] theorem kiT_120 : kiT Tryz.prog 120 = some .other := by kernel_rfl
@[push_cast] theorem zeT_120 : zeT Tryz.prog 120 = some [.i .u8 0, .i .u8 0, .i .u8 0, .i .u8 0, .i .u8 0, .i .u8 0, .i .u8 0, .i .u8 0, .i .u8 0, .i .u8 0, .i .u8 0, .i .u8 0, .i .u8 0, .i .u8 0, .i .u8 0, .i .u8 0, .i .u8 0, .i .u8 0, .i .u8 0, .i .u8 0, .i .u8 0, .i .u8 0, .i .u8 0, .i .u8 0, .i .u8 0, .i .u8 0, .i .u8 0, .i .u8 0, .i .u8 0, .i .u8 0, .i .u8 0, .i .u8 0] := by kernel_rfl
@[push_cast] theorem arT_120 : arT Tryz.prog 120 = some (32, 1, false) := by kernel_rfl
@[push_cast] theorem buT_120 : buT Tryz.prog 120 = some [(0, 1), (1, 1), (2, 1), (3, 1), (4, 1), (5, 1), (6, 1), (7, 1), (8, 1), (9, 1), (10, 1), (11, 1), (12, 1), (13, 1), (14, 1), (15, 1), (16, 1), (17, 1), (18, 1), (19, 1), (20, 1), (21, 1), (22, 1), (23, 1), (24, 1), (25, 1), (26, 1), (27, 1), (28, 1), (29, 1), (30, 1), (31, 1)] := by kernel_rfl
@[push_cast] theorem eqG_120 : Tryz.prog.eqGuardType Tryz.prog.depth 120 = false := by kernel_rfl
@[push_cast] theorem agT_125 : agT Tryz.prog 125 = some false := by kernel_rfl
@[push_cast] theorem szT_125 : szT Tryz.prog 125 = some 1 := by kernel_rfl
@[push_cast] theorem kiT_125 : kiT Tryz.prog 125 = some .other := by kernel_rfl
@[push_cast] theorem zeT_125 : zeT Tryz.prog 125 = some [.ro true [] 0] := by kernel_rfl
@[push_cast] theorem slT_125 : slT Tryz.prog 125 = some (38, 1, 8) := by kernel_rfl
@[push_cast] theorem und_125 : Tryz.prog.underlying 125 = some (.slice 38) := by kernel_rfl
@[push_cast] theorem agT_133 : agT Tryz.prog 133 = some true := by kernel_rfl
@[push_cast] theorem szT_133 : szT Tryz.prog 133 = some 4 := by kernel_rfl
@[push_cast] theorem kiT_133 : kiT Tryz.prog 133 = some .other := by kernel_rfl
@[push_cast] theorem zeT_133 : zeT Tryz.prog 133 = some [.i .i64 0, .i .i64 0, .i .i64 0, .b false] := by kernel_rfl
@[push_cast] theorem flT_133_0 : flT Tryz.prog 133 0 = some (0, 1, false) := by kernel_rfl
@[push_cast] theorem flT_133_1 : flT Tryz.prog 133 1 = some (1, 1, false) := by kernel_rfl
@[push_cast] theorem flT_133_2 : flT Tryz.prog 133 2 = some (2, 1, false) := by kernel_rfl
@[push_cast] theorem flT_133_3 : flT Tryz.prog 133 3 = some (3, 1, false) := by kernel_rfl
@[push_cast] theorem buT_133 : buT Tryz.prog 133 = some [(0, 1), (1, 1), (2, 1), (3, 1)] := by kernel_rfl
@[push_cast] theorem eqG_133 : Tryz.prog.eqGuardType Tryz.prog.depth 133 = false := by kernel_rfl
@[push_cast] theorem agT_156 : agT Tryz.prog 156 = some false := by kernel_rfl
@[push_cast] theorem szT_156 : szT Tryz.prog 156 = some 1 := by kernel_rfl
@[push_cast] theorem kiT_156 : kiT Tryz.prog 156 = some .other := by kernel_rfl
@[push_cast] theorem zeT_156 : zeT Tryz.prog 156 = some [.np] := by kernel_rfl
@[push_cast] theorem ptT_156 : ptT Tryz.prog 156 = true := by kernel_rfl
@[push_cast] theorem agT_158 : agT Tryz.prog 158 = some false := by kernel_rfl
@[push_cast] theorem szT_158 : szT Tryz.prog 158 = some 1 := by kernel_rfl
@[push_cast] theorem kiT_158 : kiT Tryz.prog 158 = some .other := by kernel_rfl
@[push_cast] theorem zeT_158 : zeT Tryz.prog 158 = some [.np] := by kernel_rfl
@[push_cast] theorem ptT_158 : ptT Tryz.prog 158 = true := by kernel_rfl
@[push_cast] theorem agT_166 : agT Tryz.prog 166 = some false := by kernel_rfl
@[push_cast] theorem szT_166 : szT Tryz.prog 166 = some 1 := by kernel_rfl
@[push_cast] theorem kiT_166 : kiT Tryz.prog 166 = some .other := by kernel_rfl
@[push_cast] theorem zeT_166 : zeT Tryz.prog 166 = some [.np] := by kernel_rfl
@[push_cast] theorem ptT_166 : ptT Tryz.prog 166 = true := by kernel_rfl
@[push_cast] theorem agT_168 : agT Tryz.prog 168 = some true := by kernel_rfl
@[push_cast] theorem szT_168 : szT Tryz.prog 168 = some 23 := by kernel_rfl
@[push_cast] theorem kiT_168 : kiT Tryz.prog 168 = some .other := by kernel_rfl
@[push_cast] theorem zeT_168 : zeT Tryz.prog 168 = some [.i .i64 0, .i .i64 0, .i .i64 0, .i .i64 0, .i .i64 0, .i .i64 0, .ro true [] 0, .i .i64 0, .i .i64 0, .ro true [] 0, .ro true [] 0, .i .i64 0, .b false, .i .u64 0, .i .u64 0, .i .u64 0, .i .u64 0, .i .u64 0, .i .u64 0, .i .u64 0, .i .u64 0, .i .i64 0, .i .i64 0] := by kernel_rfl
@[push_cast] theorem flT_168_0 : flT Tryz.prog 168 0 = some (0, 21, true) := by kernel_rfl
@[push_cast] theorem flT_168_1 : flT Tryz.prog 168 1 = some (21, 1, false) := by kernel_rfl
@[push_cast] theorem flT_168_2 : flT Tryz.prog 168 2 = some (22, 1, false) := by kernel_rfl
@[push_cast] theorem buT_168 : buT Tryz.prog 168 = some [(0, 21), (21, 1), (22, 1)] := by kernel_rfl
@[push_cast] theorem eqG_168 : Tryz.prog.eqGuardType Tryz.prog.depth 168 = false := by kernel_rfl
@[push_cast] theorem agT_175 : agT Tryz.prog 175 = some false := by kernel_rfl
@[push_cast] theorem szT_175 : szT Tryz.prog 175 = some 1 := by kernel_rfl
@[push_cast] theorem kiT_175 : kiT Tryz.prog 175 = some .other := by kernel_rfl
@[push_cast] theorem zeT_175 : zeT Tryz.prog 175 = some [.nf] := by kernel_rfl
@[push_cast] theorem agT_187 : agT Tryz.prog 187 = some false := by kernel_rfl
@[push_cast] theorem szT_187 : szT Tryz.prog 187 = some 1 := by kernel_rfl
@[push_cast] theorem kiT_187 : kiT Tryz.prog 187 = some .other := by kernel_rfl
@[push_cast] theorem zeT_187 : zeT Tryz.prog 187 = some [.np] := by kernel_rfl
@[push_cast] theorem ptT_187 : ptT Tryz.prog 187 = true := by kernel_rfl
@[push_cast] theorem agT_189 : agT Tryz.prog 189 = some true := by kernel_rfl
@[push_cast] theorem szT_189 : szT Tryz.prog 189 = some 3 := by kernel_rfl
@[push_cast] theorem kiT_189 : kiT Tryz.prog 189 = some .other := by kernel_rfl
@[push_cast] theorem zeT_189 : zeT Tryz.prog 189 = some [.ro true [] 0, .i .i64 0, .b false] := by kernel_rfl
@[push_cast] theorem flT_189_0 : flT Tryz.prog 189 0 = some (0, 1, false) := by kernel_rfl
@[push_cast] theorem flT_189_1 : flT Tryz.prog 189 1 = some (1, 1, false) := by kernel_rfl
@[push_cast] theorem flT_189_2 : flT Tryz.prog 189 2 = some (2, 1, false) := by kernel_rfl
@[push_cast] theorem buT_189 : buT Tryz.prog 189 = some [(0, 1), (1, 1), (2, 1)] := by kernel_rfl
@[push_cast] theorem eqG_189 : Tryz.prog.eqGuardType Tryz.prog.depth 189 = false := by kernel_rfl
@[push_cast] theorem agT_194 : agT Tryz.prog 194 = some true := by kernel_rfl
@[push_cast] theorem szT_194 : szT Tryz.prog 194 = some 5 := by kernel_rfl
@[push_cast] theorem kiT_194 : kiT Tryz.prog 194 = some .other := by kernel_rfl
@[push_cast] theorem zeT_194 : zeT Tryz.prog 194 = some [.i .i64 0, .b false, .i .i64 0, .i .i64 0, .ro true [] 0] := by kernel_rfl
@[push_cast] theorem flT_194_0 : flT Tryz.prog 194 0 = some (0, 1, false) := by kernel_rfl
@[push_cast] theorem flT_194_1 : flT Tryz.prog 194 1 = some (1, 1, false) := by kernel_rfl
@[push_cast] theorem flT_194_2 : flT Tryz.prog 194 2 = some (2, 1, false) := by kernel_rfl
@[push_cast] theorem flT_194_3 : flT Tryz.prog 194 3 = some (3, 1, false) := by kernel_rfl
@[push_cast] theorem flT_194_4 : flT Tryz.prog 194 4 = some (4, 1, false) := by kernel_rfl
@[push_cast] theorem buT_194 : buT Tryz.prog 194 = some [(0, 1), (1, 1), (2, 1), (3, 1), (4, 1)] := by kernel_rfl
@[push_cast] theorem eqG_194 : Tryz.prog.eqGuardType Tryz.prog.depth 194 = false := by kernel_rfl
@[push_cast] theorem agT_200 : agT Tryz.prog 200 = some true := by kernel_rfl
@[push_cast] theorem szT_200 : szT Tryz.prog 200 = some 58 := by kernel_rfl
@[push_cast] theorem kiT_200 : kiT Tryz.prog 200 = some .other := by kernel_rfl
@[push_cast] theorem zeT_200 : zeT Tryz.prog 200 = some [.i .i64 0, .i .i64 0, .i .i64 0, .ro true [] 0, .i .u8 0, .i .u8 0, .i .u8 0, .i .u8 0, .i .u8 0, .i .u8 0, .i .u8 0, .i .u8 0, .i .u8 0, .i .u8 0, .i .u8 0, .i .u8 0, .i .u8 0, .i .u8 0, .i .u8 0, .i .u8 0, .i .u8 0, .i .u8 0, .i .u8 0, .i .u8 0, .i .u8 0, .i .u8 0, .i .u8 0, .i .u8 0, .i .u8 0, .i .u8 0, .i .u8 0, .i .u8 0, .i .u8 0, .i .u8 0, .i .u8 0, .i .u8 0, .i .i64 0, .i .i64 0, .i .i64 0, .i .i64 0, .i .i64 0, .i .i64 0, .ro true [] 0, .i .i64 0, .i .i64 0, .ro true [] 0, .ro true [] 0, .i .i64 0, .b false, .i .u64 0, .i .u64 0, .i .u64 0, .i .u64 0, .i .u64 0, .i .u64 0, .i .u64 0, .i .u64 0, .ro true [] 0] := by kernel_rfl
@[push_cast] theorem flT_200_0 : flT Tryz.prog 200 0 = some (0, 4, true) := by kernel_rfl
@[push_cast] theorem flT_200_1 : flT Tryz.prog 200 1 = some (4, 32, true) := by kernel_rfl
@[push_cast] theorem flT_200_2 : flT Tryz.prog 200 2 = some (36, 21, true) := by kernel_rfl
@[push_cast] theorem flT_200_3 : flT Tryz.prog 200 3 = some (57, 1, false) := by kernel_rfl
@[push_cast] theorem buT_200 : buT Tryz.prog 200 = some [(0, 4), (4, 32), (36, 21), (57, 1)] := by kernel_rfl
@[push_cast] theorem eqG_200 : Tryz.prog.eqGuardType Tryz.prog.depth 200 = false := by kernel_rfl
@[push_cast] theorem agT_201 : agT Tryz.prog 201 = some false := by kernel_rfl
@[push_cast] theorem szT_201 : szT Tryz.prog 201 = some 1 := by kernel_rfl
@[push_cast] theorem kiT_201 : kiT Tryz.prog 201 = some .other := by kernel_rfl
@[push_cast] theorem zeT_201 : zeT Tryz.prog 201 = some [.ro true [] 0] := by kernel_rfl
@[push_cast] theorem slT_201 : slT Tryz.prog 201 = some (200, 58, 320) := by kernel_rfl
@[push_cast] theorem und_201 : Tryz.prog.underlying 201 = some (.slice 200) := by kernel_rfl
@[push_cast] theorem agT_203 : agT Tryz.prog 203 = some true := by kernel_rfl
@[push_cast] theorem szT_203 : szT Tryz.prog 203 = some 23 := by kernel_rfl
@[push_cast] theorem kiT_203 : kiT Tryz.prog 203 = some .other := by kernel_rfl
@[push_cast] theorem zeT_203 : zeT Tryz.prog 203 = some [.i .i64 0, .i .i64 0, .i .i64 0, .i .i64 0, .i .i64 0, .i .i64 0, .ro true [] 0, .i .i64 0, .i .i64 0, .ro true [] 0, .ro true [] 0, .i .i64 0, .b false, .i .u64 0, .i .u64 0, .i .u64 0, .i .u64 0, .i .u64 0, .i .u64 0, .i .u64 0, .i .u64 0, .ro true [] 0, .i .i64 0] := by kernel_rfl
@[push_cast] theorem flT_203_0 : flT Tryz.prog 203 0 = some (0, 21, true) := by kernel_rfl
@[push_cast] theorem flT_203_1 : flT Tryz.prog 203 1 = some (21, 1, false) := by kernel_rfl
@[push_cast] theorem flT_203_2 : flT Tryz.prog 203 2 = some (22, 1, false) := by kernel_rfl
@[push_cast] theorem buT_203 : buT Tryz.prog 203 = some [(0, 21), (21, 1), (22, 1)] := by kernel_rfl
@[push_cast] theorem eqG_203 : Tryz.prog.eqGuardType Tryz.prog.depth 203 = false := by kernel_rfl
@[push_cast] theorem agT_219 : agT Tryz.prog 219 = some false := by kernel_rfl
@[push_cast] theorem szT_219 : szT Tryz.prog 219 = some 1 := by kernel_rfl
@[push_cast] theorem kiT_219 : kiT Tryz.prog 219 = some .other := by kernel_rfl
@[push_cast] theorem zeT_219 : zeT Tryz.prog 219 = some [.ro true [] 0] := by kernel_rfl
@[push_cast] theorem slT_219 : slT Tryz.prog 219 = some (33, 4, 32) := by kernel_rfl
@[push_cast] theorem und_219 : Tryz.prog.underlying 219 = some (.slice 33) := by kernel_rfl
@[push_cast] theorem agT_230 : agT Tryz.prog 230 = some false := by kernel_rfl
@[push_cast] theorem szT_230 : szT Tryz.prog 230 = some 1 := by kernel_rfl
@[push_cast] theorem kiT_230 : kiT Tryz.prog 230 = some .other := by kernel_rfl
@[push_cast] theorem zeT_230 : zeT Tryz.prog 230 = some [.np] := by kernel_rfl
@[push_cast] theorem ptT_230 : ptT Tryz.prog 230 = true := by kernel_rfl
@[push_cast] theorem agT_232 : agT Tryz.prog 232 = some true := by kernel_rfl
@[push_cast] theorem szT_232 : szT Tryz.prog 232 = some 3 := by kernel_rfl
@[push_cast] theorem kiT_232 : kiT Tryz.prog 232 = some .other := by kernel_rfl
@[push_cast] theorem zeT_232 : zeT Tryz.prog 232 = some [.ro true [] 0, .i .i64 0, .b false] := by kernel_rfl
@[push_cast] theorem flT_232_0 : flT Tryz.prog 232 0 = some (0, 1, false) := by kernel_rfl
@[push_cast] theorem flT_232_1 : flT Tryz.prog 232 1 = some (1, 1, false) := by kernel_rfl
@[push_cast] theorem flT_232_2 : flT Tryz.prog 232 2 = some (2, 1, false) := by kernel_rfl
@[push_cast] theorem buT_232 : buT Tryz.prog 232 = some [(0, 1), (1, 1), (2, 1)] := by kernel_rfl
@[push_cast] theorem eqG_232 : Tryz.prog.eqGuardType Tryz.prog.depth 232 = false := by kernel_rfl
@[push_cast] theorem agT_237 : agT Tryz.prog 237 = some true := by kernel_rfl
@[push_cast] theorem szT_237 : szT Tryz.prog 237 = some 10 := by kernel_rfl
@[push_cast] theorem kiT_237 : kiT Tryz.prog 237 = some .other := by kernel_rfl
@[push_cast] theorem zeT_237 : zeT Tryz.prog 237 = some [.b false, .i .u64 0, .i .u64 0, .i .u64 0, .i .u64 0, .i .u64 0, .i .u64 0, .i .u64 0, .i .u64 0, .s ByteArray.empty] := by kernel_rfl
@[push_cast] theorem flT_237_0 : flT Tryz.prog 237 0 = some (0, 9, true) := by kernel_rfl
@[push_cast] theorem flT_237_1 : flT Tryz.prog 237 1 = some (9, 1, false) := by kernel_rfl
@[push_cast] theorem buT_237 : buT Tryz.prog 237 = some [(0, 9), (9, 1)] := by kernel_rfl
@[push_cast] theorem eqG_237 : Tryz.prog.eqGuardType Tryz.prog.depth 237 = false := by kernel_rfl
@[push_cast] theorem agT_240 : agT Tryz.prog 240 = some true := by kernel_rfl
@[push_cast] theorem szT_240 : szT Tryz.prog 240 = some 2 := by kernel_rfl
@[push_cast] theorem kiT_240 : kiT Tryz.prog 240 = some .other := by kernel_rfl
@[push_cast] theorem zeT_240 : zeT Tryz.prog 240 = some [.ro true [] 0, .ro true [] 0] := by kernel_rfl
@[push_cast] theorem flT_240_0 : flT Tryz.prog 240 0 = some (0, 1, false) := by kernel_rfl
@[push_cast] theorem flT_240_1 : flT Tryz.prog 240 1 = some (1, 1, false) := by kernel_rfl
@[push_cast] theorem buT_240 : buT Tryz.prog 240 = some [(0, 1), (1, 1)] := by kernel_rfl
@[push_cast] theorem eqG_240 : Tryz.prog.eqGuardType Tryz.prog.depth 240 = false := by kernel_rfl
@[push_cast] theorem agT_243 : agT Tryz.prog 243 = some true := by kernel_rfl
@[push_cast] theorem szT_243 : szT Tryz.prog 243 = some 18 := by kernel_rfl
@[push_cast] theorem kiT_243 : kiT Tryz.prog 243 = some .other := by kernel_rfl
@[push_cast] theorem zeT_243 : zeT Tryz.prog 243 = some [.i .i64 0, .b false, .i .u64 0, .i .u64 0, .i .u64 0, .i .u64 0, .i .u64 0, .i .u64 0, .i .u64 0, .i .u64 0, .i .u64 0, .i .u64 0, .i .u64 0, .i .u64 0, .i .u64 0, .i .u64 0, .i .u64 0, .i .u64 0] := by kernel_rfl
@[push_cast] theorem flT_243_0 : flT Tryz.prog 243 0 = some (0, 1, false) := by kernel_rfl
@[push_cast] theorem flT_243_1 : flT Tryz.prog 243 1 = some (1, 9, true) := by kernel_rfl
@[push_cast] theorem flT_243_2 : flT Tryz.prog 243 2 = some (10, 8, true) := by kernel_rfl
@[push_cast] theorem buT_243 : buT Tryz.prog 243 = some [(0, 1), (1, 9), (10, 8)] := by kernel_rfl
@[push_cast] theorem eqG_243 : Tryz.prog.eqGuardType Tryz.prog.depth 243 = false := by kernel_rfl
@[push_cast] theorem agT_246 : agT Tryz.prog 246 = some true := by kernel_rfl
@[push_cast] theorem szT_246 : szT Tryz.prog 246 = some 17 := by kernel_rfl
@[push_cast] theorem kiT_246 : kiT Tryz.prog 246 = some .other := by kernel_rfl
@[push_cast] theorem zeT_246 : zeT Tryz.prog 246 = some [.b false, .i .u64 0, .i .u64 0, .i .u64 0, .i .u64 0, .i .u64 0, .i .u64 0, .i .u64 0, .i .u64 0, .i .u64 0, .i .u64 0, .i .u64 0, .i .u64 0, .i .u64 0, .i .u64 0, .i .u64 0, .i .u64 0] := by kernel_rfl
@[push_cast] theorem flT_246_0 : flT Tryz.prog 246 0 = some (0, 9, true) := by kernel_rfl
@[push_cast] theorem flT_246_1 : flT Tryz.prog 246 1 = some (9, 8, true) := by kernel_rfl
@[push_cast] theorem buT_246 : buT Tryz.prog 246 = some [(0, 9), (9, 8)] := by kernel_rfl
@[push_cast] theorem eqG_246 : Tryz.prog.eqGuardType Tryz.prog.depth 246 = false := by kernel_rfl
@[push_cast] theorem agT_254 : agT Tryz.prog 254 = some false := by kernel_rfl
@[push_cast] theorem szT_254 : szT Tryz.prog 254 = some 1 := by kernel_rfl
@[push_cast] theorem kiT_254 : kiT Tryz.prog 254 = some .other := by kernel_rfl
@[push_cast] theorem zeT_254 : zeT Tryz.prog 254 = some [.ro true [] 0] := by kernel_rfl
@[push_cast] theorem slT_254 : slT Tryz.prog 254 = some (26, 1, 24) := by kernel_rfl
@[push_cast] theorem und_254 : Tryz.prog.underlying 254 = some (.slice 26) := by kernel_rfl
@[push_cast] theorem agT_263 : agT Tryz.prog 263 = some true := by kernel_rfl
@[push_cast] theorem szT_263 : szT Tryz.prog 263 = some 12 := by kernel_rfl
@[push_cast] theorem kiT_263 : kiT Tryz.prog 263 = some .other := by kernel_rfl
@[push_cast] theorem zeT_263 : zeT Tryz.prog 263 = some [.i .u64 0, .i .u64 0, .i .u64 0, .i .u64 0, .i .u64 0, .i .u64 0, .i .u64 0, .i .u64 0, .i .u64 0, .i .u64 0, .i .u64 0, .i .u64 0] := by kernel_rfl
@[push_cast] theorem flT_263_0 : flT Tryz.prog 263 0 = some (0, 4, true) := by kernel_rfl
@[push_cast] theorem flT_263_1 : flT Tryz.prog 263 1 = some (4, 4, true) := by kernel_rfl
@[push_cast] theorem flT_263_2 : flT Tryz.prog 263 2 = some (8, 4, true) := by kernel_rfl
@[push_cast] theorem buT_263 : buT Tryz.prog 263 = some [(0, 4), (4, 4), (8, 4)] := by kernel_rfl
@[push_cast] theorem eqG_263 : Tryz.prog.eqGuardType Tryz.prog.depth 263 = false := by kernel_rfl
@[push_cast] theorem agT_305 : agT Tryz.prog 305 = some false := by kernel_rfl
@[push_cast] theorem szT_305 : szT Tryz.prog 305 = some 1 := by kernel_rfl
@[push_cast] theorem kiT_305 : kiT Tryz.prog 305 = some (.int .u32) := by kernel_rfl
@[push_cast] theorem zeT_305 : zeT Tryz.prog 305 = some [.i .u32 0] := by kernel_rfl
@[push_cast] theorem agT_306 : agT Tryz.prog 306 = some true := by kernel_rfl
@[push_cast] theorem szT_306 : szT Tryz.prog 306 = some 64 := by kernel_rfl
@[push_cast] theorem kiT_306 : kiT Tryz.prog 306 = some .other := by kernel_rfl
@[push_cast] theorem zeT_306 : zeT Tryz.prog 306 = some [.i .u32 0, .i .u32 0, .i .u32 0, .i .u32 0, .i .u32 0, .i .u32 0, .i .u32 0, .i .u32 0, .i .u32 0, .i .u32 0, .i .u32 0, .i .u32 0, .i .u32 0, .i .u32 0, .i .u32 0, .i .u32 0, .i .u32 0, .i .u32 0, .i .u32 0, .i .u32 0, .i .u32 0, .i .u32 0, .i .u32 0, .i .u32 0, .i .u32 0, .i .u32 0, .i .u32 0, .i .u32 0, .i .u32 0, .i .u32 0, .i .u32 0, .i .u32 0, .i .u32 0, .i .u32 0, .i .u32 0, .i .u32 0, .i .u32 0, .i .u32 0, .i .u32 0, .i .u32 0, .i .u32 0, .i .u32 0, .i .u32 0, .i .u32 0, .i .u32 0, .i .u32 0, .i .u32 0, .i .u32 0, .i .u32 0, .i .u32 0, .i .u32 0, .i .u32 0, .i .u32 0, .i .u32 0, .i .u32 0, .i .u32 0, .i .u32 0, .i .u32 0, .i .u32 0, .i .u32 0, .i .u32 0, .i .u32 0, .i .u32 0, .i .u32 0] := by kernel_rfl
@[push_cast] theorem arT_306 : arT Tryz.prog 306 = some (64, 1, false) := by kernel_rfl
@[push_cast] theorem buT_306 : buT Tryz.prog 306 = some [(0, 1), (1, 1), (2, 1), (3, 1), (4, 1), (5, 1), (6, 1), (7, 1), (8, 1), (9, 1), (10, 1), (11, 1), (12, 1), (13, 1), (14, 1), (15, 1), (16, 1), (17, 1), (18, 1), (19, 1), (20, 1), (21, 1), (22, 1), (23, 1), (24, 1), (25, 1), (26, 1), (27, 1), (28, 1), (29, 1), (30, 1), (31, 1), (32, 1), (33, 1), (34, 1), (35, 1), (36, 1), (37, 1), (38, 1), (39, 1), (40, 1), (41, 1), (42, 1), (43, 1), (44, 1), (45, 1), (46, 1), (47, 1), (48, 1), (49, 1), (50, 1), (51, 1), (52, 1), (53, 1), (54, 1), (55, 1), (56, 1), (57, 1), (58, 1), (59, 1), (60, 1), (61, 1), (62, 1), (63, 1)] := by kernel_rfl
@[push_cast] theorem eqG_306 : Tryz.prog.eqGuardType Tryz.prog.depth 306 = false := by kernel_rfl
@[push_cast] theorem agT_308 : agT Tryz.prog 308 = some true := by kernel_rfl
@[push_cast] theorem szT_308 : szT Tryz.prog 308 = some 8 := by kernel_rfl
@[push_cast] theorem kiT_308 : kiT Tryz.prog 308 = some .other := by kernel_rfl
@[push_cast] theorem zeT_308 : zeT Tryz.prog 308 = some [.i .u32 0, .i .u32 0, .i .u32 0, .i .u32 0, .i .u32 0, .i .u32 0, .i .u32 0, .i .u32 0] := by kernel_rfl
@[push_cast] theorem arT_308 : arT Tryz.prog 308 = some (8, 1, false) := by kernel_rfl
@[push_cast] theorem buT_308 : buT Tryz.prog 308 = some [(0, 1), (1, 1), (2, 1), (3, 1), (4, 1), (5, 1), (6, 1), (7, 1)] := by kernel_rfl
@[push_cast] theorem eqG_308 : Tryz.prog.eqGuardType Tryz.prog.depth 308 = false := by kernel_rfl
@[push_cast] theorem agT_315 : agT Tryz.prog 315 = some false := by kernel_rfl
@[push_cast] theorem szT_315 : szT Tryz.prog 315 = some 1 := by kernel_rfl
@[push_cast] theorem kiT_315 : kiT Tryz.prog 315 = some .other := by kernel_rfl
@[push_cast] theorem zeT_315 : zeT Tryz.prog 315 = some [.ro true [] 0] := by kernel_rfl
@[push_cast] theorem slT_315 : slT Tryz.prog 315 = some (305, 1, 4) := by kernel_rfl
@[push_cast] theorem und_315 : Tryz.prog.underlying 315 = some (.slice 305) := by kernel_rfl
@[push_cast] theorem agT_320 : agT Tryz.prog 320 = some true := by kernel_rfl
@[push_cast] theorem szT_320 : szT Tryz.prog 320 = some 12 := by kernel_rfl
@[push_cast] theorem kiT_320 : kiT Tryz.prog 320 = some .other := by kernel_rfl
@[push_cast] theorem zeT_320 : zeT Tryz.prog 320 = some [.i .u64 0, .i .u64 0, .i .u64 0, .i .u64 0, .i .u64 0, .i .u64 0, .i .u64 0, .i .u64 0, .i .u64 0, .i .u64 0, .i .u64 0, .i .u64 0] := by kernel_rfl
@[push_cast] theorem flT_320_0 : flT Tryz.prog 320 0 = some (0, 4, true) := by kernel_rfl
@[push_cast] theorem flT_320_1 : flT Tryz.prog 320 1 = some (4, 4, true) := by kernel_rfl
@[push_cast] theorem flT_320_2 : flT Tryz.prog 320 2 = some (8, 4, true) := by kernel_rfl
@[push_cast] theorem buT_320 : buT Tryz.prog 320 = some [(0, 4), (4, 4), (8, 4)] := by kernel_rfl
@[push_cast] theorem eqG_320 : Tryz.prog.eqGuardType Tryz.prog.depth 320 = false := by kernel_rfl
@[push_cast] theorem agT_348 : agT Tryz.prog 348 = some true := by kernel_rfl
@[push_cast] theorem szT_348 : szT Tryz.prog 348 = some 8 := by kernel_rfl
@[push_cast] theorem kiT_348 : kiT Tryz.prog 348 = some .other := by kernel_rfl
@[push_cast] theorem zeT_348 : zeT Tryz.prog 348 = some [.i .u64 0, .i .u64 0, .i .u64 0, .i .u64 0, .i .u64 0, .i .u64 0, .i .u64 0, .i .u64 0] := by kernel_rfl
@[push_cast] theorem arT_348 : arT Tryz.prog 348 = some (8, 1, false) := by kernel_rfl
@[push_cast] theorem buT_348 : buT Tryz.prog 348 = some [(0, 1), (1, 1), (2, 1), (3, 1), (4, 1), (5, 1), (6, 1), (7, 1)] := by kernel_rfl
@[push_cast] theorem eqG_348 : Tryz.prog.eqGuardType Tryz.prog.depth 348 = false := by kernel_rfl
@[push_cast] theorem agT_350 : agT Tryz.prog 350 = some true := by kernel_rfl
@[push_cast] theorem szT_350 : szT Tryz.prog 350 = some 64 := by kernel_rfl
@[push_cast] theorem kiT_350 : kiT Tryz.prog 350 = some .other := by kernel_rfl
@[push_cast] theorem zeT_350 : zeT Tryz.prog 350 = some [.i .u8 0, .i .u8 0, .i .u8 0, .i .u8 0, .i .u8 0, .i .u8 0, .i .u8 0, .i .u8 0, .i .u8 0, .i .u8 0, .i .u8 0, .i .u8 0, .i .u8 0, .i .u8 0, .i .u8 0, .i .u8 0, .i .u8 0, .i .u8 0, .i .u8 0, .i .u8 0, .i .u8 0, .i .u8 0, .i .u8 0, .i .u8 0, .i .u8 0, .i .u8 0, .i .u8 0, .i .u8 0, .i .u8 0, .i .u8 0, .i .u8 0, .i .u8 0, .i .u8 0, .i .u8 0, .i .u8 0, .i .u8 0, .i .u8 0, .i .u8 0, .i .u8 0, .i .u8 0, .i .u8 0, .i .u8 0, .i .u8 0, .i .u8 0, .i .u8 0, .i .u8 0, .i .u8 0, .i .u8 0, .i .u8 0, .i .u8 0, .i .u8 0, .i .u8 0, .i .u8 0, .i .u8 0, .i .u8 0, .i .u8 0, .i .u8 0, .i .u8 0, .i .u8 0, .i .u8 0, .i .u8 0, .i .u8 0, .i .u8 0, .i .u8 0] := by kernel_rfl
@[push_cast] theorem arT_350 : arT Tryz.prog 350 = some (64, 1, false) := by kernel_rfl
@[push_cast] theorem buT_350 : buT Tryz.prog 350 = some [(0, 1), (1, 1), (2, 1), (3, 1), (4, 1), (5, 1), (6, 1), (7, 1), (8, 1), (9, 1), (10, 1), (11, 1), (12, 1), (13, 1), (14, 1), (15, 1), (16, 1), (17, 1), (18, 1), (19, 1), (20, 1), (21, 1), (22, 1), (23, 1), (24, 1), (25, 1), (26, 1), (27, 1), (28, 1), (29, 1), (30, 1), (31, 1), (32, 1), (33, 1), (34, 1), (35, 1), (36, 1), (37, 1), (38, 1), (39, 1), (40, 1), (41, 1), (42, 1), (43, 1), (44, 1), (45, 1), (46, 1), (47, 1), (48, 1), (49, 1), (50, 1), (51, 1), (52, 1), (53, 1), (54, 1), (55, 1), (56, 1), (57, 1), (58, 1), (59, 1), (60, 1), (61, 1), (62, 1), (63, 1)] := by kernel_rfl
@[push_cast] theorem eqG_350 : Tryz.prog.eqGuardType Tryz.prog.depth 350 = false := by kernel_rfl
theorem mixed : Tryz.prog.follows .mixedOrders = true := by kernel_rfl
theorem upd_upd (h : Heap) (j : Nat) (r s : Option Row) : Av.upd (Av.upd h j r) j s = Av.upd h j s := by funext x; unfold Av.upd; split <;> rfl
theorem upd_at (h : Heap) (j x : Nat) (r : Option Row) : Av.upd h j r x = if x = j then r else h x := rfl
theorem nes1 (n : Nat) : (n = n + 1) = False := by simp only [eq_iff_iff, iff_false]; omega
theorem nez1 (n : Nat) : (n + 1 = n) = False := by simp only [eq_iff_iff, iff_false]; omega
theorem nes2 (n : Nat) : (n = n + 1 + 1) = False := by simp only [eq_iff_iff, iff_false]; omega
theorem nez2 (n : Nat) : (n + 1 + 1 = n) = False := by simp only [eq_iff_iff, iff_false]; omega
theorem nes3 (n : Nat) : (n = n + 1 + 1 + 1) = False := by simp only [eq_iff_iff, iff_false]; omega
theorem nez3 (n : Nat) : (n + 1 + 1 + 1 = n) = False := by simp only [eq_iff_iff, iff_false]; omega
theorem nes4 (n : Nat) : (n = n + 1 + 1 + 1 + 1) = False := by simp only [eq_iff_iff, iff_false]; omega
theorem nez4 (n : Nat) : (n + 1 + 1 + 1 + 1 = n) = False := by simp only [eq_iff_iff, iff_false]; omega
theorem nes5 (n : Nat) : (n = n + 1 + 1 + 1 + 1 + 1) = False := by simp only [eq_iff_iff, iff_false]; omega
theorem nez5 (n : Nat) : (n + 1 + 1 + 1 + 1 + 1 = n) = False := by simp only [eq_iff_iff, iff_false]; omega
theorem nes6 (n : Nat) : (n = n + 1 + 1 + 1 + 1 + 1 + 1) = False := by simp only [eq_iff_iff, iff_false]; omega
theorem nez6 (n : Nat) : (n + 1 + 1 + 1 + 1 + 1 + 1 = n) = False := by simp only [eq_iff_iff, iff_false]; omega
theorem nes7 (n : Nat) : (n = n + 1 + 1 + 1 + 1 + 1 + 1 + 1) = False := by simp only [eq_iff_iff, iff_false]; omega
theorem nez7 (n : Nat) : (n + 1 + 1 + 1 + 1 + 1 + 1 + 1 = n) = False := by simp only [eq_iff_iff, iff_false]; omega
theorem nes8 (n : Nat) : (n = n + 1 + 1 + 1 + 1 + 1 + 1 + 1 + 1) = False := by simp only [eq_iff_iff, iff_false]; omega
theorem nez8 (n : Nat) : (n + 1 + 1 + 1 + 1 + 1 + 1 + 1 + 1 = n) = False := by simp only [eq_iff_iff, iff_false]; omega
theorem nes9 (n : Nat) : (n = n + 1 + 1 + 1 + 1 + 1 + 1 + 1 + 1 + 1) = False := by simp only [eq_iff_iff, iff_false]; omega
theorem nez9 (n : Nat) : (n + 1 + 1 + 1 + 1 + 1 + 1 + 1 + 1 + 1 = n) = False := by simp only [eq_iff_iff, iff_false]; omega
theorem nes10 (n : Nat) : (n = n + 1 + 1 + 1 + 1 + 1 + 1 + 1 + 1 + 1 + 1) = False := by simp only [eq_iff_iff, iff_false]; omega
theorem nez10 (n : Nat) : (n + 1 + 1 + 1 + 1 + 1 + 1 + 1 + 1 + 1 + 1 = n) = False := by simp only [eq_iff_iff, iff_false]; omega
theorem nes11 (n : Nat) : (n = n + 1 + 1 + 1 + 1 + 1 + 1 + 1 + 1 + 1 + 1 + 1) = False := by simp only [eq_iff_iff, iff_false]; omega
theorem nez11 (n : Nat) : (n + 1 + 1 + 1 + 1 + 1 + 1 + 1 + 1 + 1 + 1 + 1 = n) = False := by simp only [eq_iff_iff, iff_false]; omega
theorem nes12 (n : Nat) : (n = n + 1 + 1 + 1 + 1 + 1 + 1 + 1 + 1 + 1 + 1 + 1 + 1) = False := by simp only [eq_iff_iff, iff_false]; omega
theorem nez12 (n : Nat) : (n + 1 + 1 + 1 + 1 + 1 + 1 + 1 + 1 + 1 + 1 + 1 + 1 = n) = False := by simp only [eq_iff_iff, iff_false]; omega
theorem nes13 (n : Nat) : (n = n + 1 + 1 + 1 + 1 + 1 + 1 + 1 + 1 + 1 + 1 + 1 + 1 + 1) = False := by simp only [eq_iff_iff, iff_false]; omega
theorem nez13 (n : Nat) : (n + 1 + 1 + 1 + 1 + 1 + 1 + 1 + 1 + 1 + 1 + 1 + 1 + 1 = n) = False := by simp only [eq_iff_iff, iff_false]; omega
theorem nes14 (n : Nat) : (n = n + 1 + 1 + 1 + 1 + 1 + 1 + 1 + 1 + 1 + 1 + 1 + 1 + 1 + 1) = False := by simp only [eq_iff_iff, iff_false]; omega
theorem nez14 (n : Nat) : (n + 1 + 1 + 1 + 1 + 1 + 1 + 1 + 1 + 1 + 1 + 1 + 1 + 1 + 1 = n) = False := by simp only [eq_iff_iff, iff_false]; omega
theorem nes15 (n : Nat) : (n = n + 1 + 1 + 1 + 1 + 1 + 1 + 1 + 1 + 1 + 1 + 1 + 1 + 1 + 1 + 1) = False := by simp only [eq_iff_iff, iff_false]; omega
theorem nez15 (n : Nat) : (n + 1 + 1 + 1 + 1 + 1 + 1 + 1 + 1 + 1 + 1 + 1 + 1 + 1 + 1 + 1 = n) = False := by simp only [eq_iff_iff, iff_false]; omega
theorem nes16 (n : Nat) : (n = n + 1 + 1 + 1 + 1 + 1 + 1 + 1 + 1 + 1 + 1 + 1 + 1 + 1 + 1 + 1 + 1) = False := by simp only [eq_iff_iff, iff_false]; omega
theorem nez16 (n : Nat) : (n + 1 + 1 + 1 + 1 + 1 + 1 + 1 + 1 + 1 + 1 + 1 + 1 + 1 + 1 + 1 + 1 = n) = False := by simp only [eq_iff_iff, iff_false]; omega
theorem nes17 (n : Nat) : (n = n + 1 + 1 + 1 + 1 + 1 + 1 + 1 + 1 + 1 + 1 + 1 + 1 + 1 + 1 + 1 + 1 + 1) = False := by simp only [eq_iff_iff, iff_false]; omega
theorem nez17 (n : Nat) : (n + 1 + 1 + 1 + 1 + 1 + 1 + 1 + 1 + 1 + 1 + 1 + 1 + 1 + 1 + 1 + 1 + 1 = n) = False := by simp only [eq_iff_iff, iff_false]; omega
theorem nes18 (n : Nat) : (n = n + 1 + 1 + 1 + 1 + 1 + 1 + 1 + 1 + 1 + 1 + 1 + 1 + 1 + 1 + 1 + 1 + 1 + 1) = False := by simp only [eq_iff_iff, iff_false]; omega
theorem nez18 (n : Nat) : (n + 1 + 1 + 1 + 1 + 1 + 1 + 1 + 1 + 1 + 1 + 1 + 1 + 1 + 1 + 1 + 1 + 1 + 1 = n) = False := by simp only [eq_iff_iff, iff_false]; omega
theorem nes19 (n : Nat) : (n = n + 1 + 1 + 1 + 1 + 1 + 1 + 1 + 1 + 1 + 1 + 1 + 1 + 1 + 1 + 1 + 1 + 1 + 1 + 1) = False := by simp only [eq_iff_iff, iff_false]; omega
theorem nez19 (n : Nat) : (n + 1 + 1 + 1 + 1 + 1 + 1 + 1 + 1 + 1 + 1 + 1 + 1 + 1 + 1 + 1 + 1 + 1 + 1 + 1 = n) = False := by simp only [eq_iff_iff, iff_false]; omega
theorem nes20 (n : Nat) : (n = n + 1 + 1 + 1 + 1 + 1 + 1 + 1 + 1 + 1 + 1 + 1 + 1 + 1 + 1 + 1 + 1 + 1 + 1 + 1 + 1) = False := by simp only [eq_iff_iff, iff_false]; omega
theorem nez20 (n : Nat) : (n + 1 + 1 + 1 + 1 + 1 + 1 + 1 + 1 + 1 + 1 + 1 + 1 + 1 + 1 + 1 + 1 + 1 + 1 + 1 + 1 = n) = False := by simp only [eq_iff_iff, iff_false]; omega
theorem nes21 (n : Nat) : (n = n + 1 + 1 + 1 + 1 + 1 + 1 + 1 + 1 + 1 + 1 + 1 + 1 + 1 + 1 + 1 + 1 + 1 + 1 + 1 + 1 + 1) = False := by simp only [eq_iff_iff, iff_false]; omega
theorem nez21 (n : Nat) : (n + 1 + 1 + 1 + 1 + 1 + 1 + 1 + 1 + 1 + 1 + 1 + 1 + 1 + 1 + 1 + 1 + 1 + 1 + 1 + 1 + 1 = n) = False := by simp only [eq_iff_iff, iff_false]; omega
theorem nes22 (n : Nat) : (n = n + 1 + 1 + 1 + 1 + 1 + 1 + 1 + 1 + 1 + 1 + 1 + 1 + 1 + 1 + 1 + 1 + 1 + 1 + 1 + 1 + 1 + 1) = False := by simp only [eq_iff_iff, iff_false]; omega
theorem nez22 (n : Nat) : (n + 1 + 1 + 1 + 1 + 1 + 1 + 1 + 1 + 1 + 1 + 1 + 1 + 1 + 1 + 1 + 1 + 1 + 1 + 1 + 1 + 1 + 1 = n) = False := by simp only [eq_iff_iff, iff_false]; omega
theorem nes23 (n : Nat) : (n = n + 1 + 1 + 1 + 1 + 1 + 1 + 1 + 1 + 1 + 1 + 1 + 1 + 1 + 1 + 1 + 1 + 1 + 1 + 1 + 1 + 1 + 1 + 1) = False := by simp only [eq_iff_iff, iff_false]; omega
theorem nez23 (n : Nat) : (n + 1 + 1 + 1 + 1 + 1 + 1 + 1 + 1 + 1 + 1 + 1 + 1 + 1 + 1 + 1 + 1 + 1 + 1 + 1 + 1 + 1 + 1 + 1 = n) = False := by simp only [eq_iff_iff, iff_false]; omega
theorem nes24 (n : Nat) : (n = n + 1 + 1 + 1 + 1 + 1 + 1 + 1 + 1 + 1 + 1 + 1 + 1 + 1 + 1 + 1 + 1 + 1 + 1 + 1 + 1 + 1 + 1 + 1 + 1) = False := by simp only [eq_iff_iff, iff_false]; omega
theorem nez24 (n : Nat) : (n + 1 + 1 + 1 + 1 + 1 + 1 + 1 + 1 + 1 + 1 + 1 + 1 + 1 + 1 + 1 + 1 + 1 + 1 + 1 + 1 + 1 + 1 + 1 + 1 = n) = False := by simp only [eq_iff_iff, iff_false]; omega
theorem nes25 (n : Nat) : (n = n + 1 + 1 + 1 + 1 + 1 + 1 + 1 + 1 + 1 + 1 + 1 + 1 + 1 + 1 + 1 + 1 + 1 + 1 + 1 + 1 + 1 + 1 + 1 + 1 + 1) = False := by simp only [eq_iff_iff, iff_false]; omega
theorem nez25 (n : Nat) : (n + 1 + 1 + 1 + 1 + 1 + 1 + 1 + 1 + 1 + 1 + 1 + 1 + 1 + 1 + 1 + 1 + 1 + 1 + 1 + 1 + 1 + 1 + 1 + 1 + 1 = n) = False := by simp only [eq_iff_iff, iff_false]; omega
theorem nes26 (n : Nat) : (n = n + 1 + 1 + 1 + 1 + 1 + 1 + 1 + 1 + 1 + 1 + 1 + 1 + 1 + 1 + 1 + 1 + 1 + 1 + 1 + 1 + 1 + 1 + 1 + 1 + 1 + 1) = False := by simp only [eq_iff_iff, iff_false]; omega
theorem nez26 (n : Nat) : (n + 1 + 1 + 1 + 1 + 1 + 1 + 1 + 1 + 1 + 1 + 1 + 1 + 1 + 1 + 1 + 1 + 1 + 1 + 1 + 1 + 1 + 1 + 1 + 1 + 1 + 1 = n) = False := by simp only [eq_iff_iff, iff_false]; omega
theorem nes27 (n : Nat) : (n = n + 1 + 1 + 1 + 1 + 1 + 1 + 1 + 1 + 1 + 1 + 1 + 1 + 1 + 1 + 1 + 1 + 1 + 1 + 1 + 1 + 1 + 1 + 1 + 1 + 1 + 1 + 1) = False := by simp only [eq_iff_iff, iff_false]; omega
theorem nez27 (n : Nat) : (n + 1 + 1 + 1 + 1 + 1 + 1 + 1 + 1 + 1 + 1 + 1 + 1 + 1 + 1 + 1 + 1 + 1 + 1 + 1 + 1 + 1 + 1 + 1 + 1 + 1 + 1 + 1 = n) = False := by simp only [eq_iff_iff, iff_false]; omega
theorem nes28 (n : Nat) : (n = n + 1 + 1 + 1 + 1 + 1 + 1 + 1 + 1 + 1 + 1 + 1 + 1 + 1 + 1 + 1 + 1 + 1 + 1 + 1 + 1 + 1 + 1 + 1 + 1 + 1 + 1 + 1 + 1) = False := by simp only [eq_iff_iff, iff_false]; omega
theorem nez28 (n : Nat) : (n + 1 + 1 + 1 + 1 + 1 + 1 + 1 + 1 + 1 + 1 + 1 + 1 + 1 + 1 + 1 + 1 + 1 + 1 + 1 + 1 + 1 + 1 + 1 + 1 + 1 + 1 + 1 + 1 = n) = False := by simp only [eq_iff_iff, iff_false]; omega
theorem nes29 (n : Nat) : (n = n + 1 + 1 + 1 + 1 + 1 + 1 + 1 + 1 + 1 + 1 + 1 + 1 + 1 + 1 + 1 + 1 + 1 + 1 + 1 + 1 + 1 + 1 + 1 + 1 + 1 + 1 + 1 + 1 + 1) = False := by simp only [eq_iff_iff, iff_false]; omega
theorem nez29 (n : Nat) : (n + 1 + 1 + 1 + 1 + 1 + 1 + 1 + 1 + 1 + 1 + 1 + 1 + 1 + 1 + 1 + 1 + 1 + 1 + 1 + 1 + 1 + 1 + 1 + 1 + 1 + 1 + 1 + 1 + 1 = n) = False := by simp only [eq_iff_iff, iff_false]; omega
theorem nes30 (n : Nat) : (n = n + 1 + 1 + 1 + 1 + 1 + 1 + 1 + 1 + 1 + 1 + 1 + 1 + 1 + 1 + 1 + 1 + 1 + 1 + 1 + 1 + 1 + 1 + 1 + 1 + 1 + 1 + 1 + 1 + 1 + 1) = False := by simp only [eq_iff_iff, iff_false]; omega
theorem nez30 (n : Nat) : (n + 1 + 1 + 1 + 1 + 1 + 1 + 1 + 1 + 1 + 1 + 1 + 1 + 1 + 1 + 1 + 1 + 1 + 1 + 1 + 1 + 1 + 1 + 1 + 1 + 1 + 1 + 1 + 1 + 1 + 1 = n) = False := by simp only [eq_iff_iff, iff_false]; omega
theorem nes31 (n : Nat) : (n = n + 1 + 1 + 1 + 1 + 1 + 1 + 1 + 1 + 1 + 1 + 1 + 1 + 1 + 1 + 1 + 1 + 1 + 1 + 1 + 1 + 1 + 1 + 1 + 1 + 1 + 1 + 1 + 1 + 1 + 1 + 1) = False := by simp only [eq_iff_iff, iff_false]; omega
theorem nez31 (n : Nat) : (n + 1 + 1 + 1 + 1 + 1 + 1 + 1 + 1 + 1 + 1 + 1 + 1 + 1 + 1 + 1 + 1 + 1 + 1 + 1 + 1 + 1 + 1 + 1 + 1 + 1 + 1 + 1 + 1 + 1 + 1 + 1 = n) = False := by simp only [eq_iff_iff, iff_false]; omega
theorem nes32 (n : Nat) : (n = n + 1 + 1 + 1 + 1 + 1 + 1 + 1 + 1 + 1 + 1 + 1 + 1 + 1 + 1 + 1 + 1 + 1 + 1 + 1 + 1 + 1 + 1 + 1 + 1 + 1 + 1 + 1 + 1 + 1 + 1 + 1 + 1) = False := by simp only [eq_iff_iff, iff_false]; omega
theorem nez32 (n : Nat) : (n + 1 + 1 + 1 + 1 + 1 + 1 + 1 + 1 + 1 + 1 + 1 + 1 + 1 + 1 + 1 + 1 + 1 + 1 + 1 + 1 + 1 + 1 + 1 + 1 + 1 + 1 + 1 + 1 + 1 + 1 + 1 + 1 = n) = False := by simp only [eq_iff_iff, iff_false]; omega
theorem nes33 (n : Nat) : (n = n + 1 + 1 + 1 + 1 + 1 + 1 + 1 + 1 + 1 + 1 + 1 + 1 + 1 + 1 + 1 + 1 + 1 + 1 + 1 + 1 + 1 + 1 + 1 + 1 + 1 + 1 + 1 + 1 + 1 + 1 + 1 + 1 + 1) = False := by simp only [eq_iff_iff, iff_false]; omega
theorem nez33 (n : Nat) : (n + 1 + 1 + 1 + 1 + 1 + 1 + 1 + 1 + 1 + 1 + 1 + 1 + 1 + 1 + 1 + 1 + 1 + 1 + 1 + 1 + 1 + 1 + 1 + 1 + 1 + 1 + 1 + 1 + 1 + 1 + 1 + 1 + 1 = n) = False := by simp only [eq_iff_iff, iff_false]; omega
theorem nes34 (n : Nat) : (n = n + 1 + 1 + 1 + 1 + 1 + 1 + 1 + 1 + 1 + 1 + 1 + 1 + 1 + 1 + 1 + 1 + 1 + 1 + 1 + 1 + 1 + 1 + 1 + 1 + 1 + 1 + 1 + 1 + 1 + 1 + 1 + 1 + 1 + 1) = False := by simp only [eq_iff_iff, iff_false]; omega
theorem nez34 (n : Nat) : (n + 1 + 1 + 1 + 1 + 1 + 1 + 1 + 1 + 1 + 1 + 1 + 1 + 1 + 1 + 1 + 1 + 1 + 1 + 1 + 1 + 1 + 1 + 1 + 1 + 1 + 1 + 1 + 1 + 1 + 1 + 1 + 1 + 1 + 1 = n) = False := by simp only [eq_iff_iff, iff_false]; omega
theorem nes35 (n : Nat) : (n = n + 1 + 1 + 1 + 1 + 1 + 1 + 1 + 1 + 1 + 1 + 1 + 1 + 1 + 1 + 1 + 1 + 1 + 1 + 1 + 1 + 1 + 1 + 1 + 1 + 1 + 1 + 1 + 1 + 1 + 1 + 1 + 1 + 1 + 1 + 1) = False := by simp only [eq_iff_iff, iff_false]; omega
theorem nez35 (n : Nat) : (n + 1 + 1 + 1 + 1 + 1 + 1 + 1 + 1 + 1 + 1 + 1 + 1 + 1 + 1 + 1 + 1 + 1 + 1 + 1 + 1 + 1 + 1 + 1 + 1 + 1 + 1 + 1 + 1 + 1 + 1 + 1 + 1 + 1 + 1 + 1 = n) = False := by simp only [eq_iff_iff, iff_false]; omega
theorem nes36 (n : Nat) : (n = n + 1 + 1 + 1 + 1 + 1 + 1 + 1 + 1 + 1 + 1 + 1 + 1 + 1 + 1 + 1 + 1 + 1 + 1 + 1 + 1 + 1 + 1 + 1 + 1 + 1 + 1 + 1 + 1 + 1 + 1 + 1 + 1 + 1 + 1 + 1 + 1) = False := by simp only [eq_iff_iff, iff_false]; omega
theorem nez36 (n : Nat) : (n + 1 + 1 + 1 + 1 + 1 + 1 + 1 + 1 + 1 + 1 + 1 + 1 + 1 + 1 + 1 + 1 + 1 + 1 + 1 + 1 + 1 + 1 + 1 + 1 + 1 + 1 + 1 + 1 + 1 + 1 + 1 + 1 + 1 + 1 + 1 + 1 = n) = False := by simp only [eq_iff_iff, iff_false]; omega
theorem nes37 (n : Nat) : (n = n + 1 + 1 + 1 + 1 + 1 + 1 + 1 + 1 + 1 + 1 + 1 + 1 + 1 + 1 + 1 + 1 + 1 + 1 + 1 + 1 + 1 + 1 + 1 + 1 + 1 + 1 + 1 + 1 + 1 + 1 + 1 + 1 + 1 + 1 + 1 + 1 + 1) = False := by simp only [eq_iff_iff, iff_false]; omega
theorem nez37 (n : Nat) : (n + 1 + 1 + 1 + 1 + 1 + 1 + 1 + 1 + 1 + 1 + 1 + 1 + 1 + 1 + 1 + 1 + 1 + 1 + 1 + 1 + 1 + 1 + 1 + 1 + 1 + 1 + 1 + 1 + 1 + 1 + 1 + 1 + 1 + 1 + 1 + 1 + 1 = n) = False := by simp only [eq_iff_iff, iff_false]; omega
theorem nes38 (n : Nat) : (n = n + 1 + 1 + 1 + 1 + 1 + 1 + 1 + 1 + 1 + 1 + 1 + 1 + 1 + 1 + 1 + 1 + 1 + 1 + 1 + 1 + 1 + 1 + 1 + 1 + 1 + 1 + 1 + 1 + 1 + 1 + 1 + 1 + 1 + 1 + 1 + 1 + 1 + 1) = False := by simp only [eq_iff_iff, iff_false]; omega
theorem nez38 (n : Nat) : (n + 1 + 1 + 1 + 1 + 1 + 1 + 1 + 1 + 1 + 1 + 1 + 1 + 1 + 1 + 1 + 1 + 1 + 1 + 1 + 1 + 1 + 1 + 1 + 1 + 1 + 1 + 1 + 1 + 1 + 1 + 1 + 1 + 1 + 1 + 1 + 1 + 1 + 1 = n) = False := by simp only [eq_iff_iff, iff_false]; omega
theorem nes39 (n : Nat) : (n = n + 1 + 1 + 1 + 1 + 1 + 1 + 1 + 1 + 1 + 1 + 1 + 1 + 1 + 1 + 1 + 1 + 1 + 1 + 1 + 1 + 1 + 1 + 1 + 1 + 1 + 1 + 1 + 1 + 1 + 1 + 1 + 1 + 1 + 1 + 1 + 1 + 1 + 1 + 1) = False := by simp only [eq_iff_iff, iff_false]; omega
theorem nez39 (n : Nat) : (n + 1 + 1 + 1 + 1 + 1 + 1 + 1 + 1 + 1 + 1 + 1 + 1 + 1 + 1 + 1 + 1 + 1 + 1 + 1 + 1 + 1 + 1 + 1 + 1 + 1 + 1 + 1 + 1 + 1 + 1 + 1 + 1 + 1 + 1 + 1 + 1 + 1 + 1 + 1 = n) = False := by simp only [eq_iff_iff, iff_false]; omega
theorem nes40 (n : Nat) : (n = n + 1 + 1 + 1 + 1 + 1 + 1 + 1 + 1 + 1 + 1 + 1 + 1 + 1 + 1 + 1 + 1 + 1 + 1 + 1 + 1 + 1 + 1 + 1 + 1 + 1 + 1 + 1 + 1 + 1 + 1 + 1 + 1 + 1 + 1 + 1 + 1 + 1 + 1 + 1 + 1) = False := by simp only [eq_iff_iff, iff_false]; omega
theorem nez40 (n : Nat) : (n + 1 + 1 + 1 + 1 + 1 + 1 + 1 + 1 + 1 + 1 + 1 + 1 + 1 + 1 + 1 + 1 + 1 + 1 + 1 + 1 + 1 + 1 + 1 + 1 + 1 + 1 + 1 + 1 + 1 + 1 + 1 + 1 + 1 + 1 + 1 + 1 + 1 + 1 + 1 + 1 = n) = False := by simp only [eq_iff_iff, iff_false]; omega
attribute [push_cast] calleeA stepE callR resE aeff aev ofC ofC1 put_at Av.put_none inTmps List.getD_cons_zero List.getD_cons_succ AV.boxable if_true if_false AV.cells aload place app_cons app_nil upd_same Av.part abin aconv aindexAddr fillA splice_one abuiltin alen amax amin aun aindex Option.map_some Option.isSome_some List.map_cons List.map_nil List.nil_append List.append_nil List.cons_append Nat.le_refl Nat.zero_add Nat.add_zero List.length_cons List.length_nil List.drop_succ_cons List.drop_zero List.take_succ_cons List.take_zero beq_self_eq_true bne_self_eq_false Bool.not_true Bool.not_false List.set_cons_zero List.set_cons_succ Bool.false_eq_true IntWalk.i64_in decide_true decide_false Int.toNat_zero and_self and_true true_and List.getElem?_cons_zero List.getElem?_cons_succ aappend aapp view Bool.and_true Bool.true_and Nat.mul_one Option.map_none aslice asliceB nilOp Int.toNat_natCast aggOp upd_at upd_upd Nat.add_right_cancel_iff  nes1 nez1 nes2 nez2 nes3 nez3 nes4 nez4 nes5 nez5 nes6 nez6 nes7 nez7 nes8 nez8 nes9 nez9 nes10 nez10 nes11 nez11 nes12 nez12 nes13 nez13 nes14 nez14 nes15 nez15 nes16 nez16 nes17 nez17 nes18 nez18 nes19 nez19 nes20 nez20 nes21 nez21 nes22 nez22 nes23 nez23 nes24 nez24 nes25 nez25 nes26 nez26 nes27 nez27 nes28 nez28 nes29 nez29 nes30 nez30 nes31 nez31 nes32 nez32 nes33 nez33 nes34 nez34 nes35 nez35 nes36 nez36 nes37 nez37 nes38 nez38 nes39 nez39 nes40 nez40
end Go.Proofs.YtmkefpjpghmonaaGreat
