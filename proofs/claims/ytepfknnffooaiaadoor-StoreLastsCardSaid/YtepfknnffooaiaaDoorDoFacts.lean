import Derived.Test.YtepfknnffooaiaaDoorAvF
import Derived.Test.YtepfknnffooaiaaDoorChecked
import Derived.IntWalk
namespace Go.Proofs.YtepfknnffooaiaaDoor
open Go.Av
theorem agT_3 : agT Tryd.prog 3 = some false := by kernel_rfl
theorem szT_3 : szT Tryd.prog 3 = some 1 := by kernel_rfl
theorem kiT_3 : kiT Tryd.prog 3 = some (.int .i64) := by kernel_rfl
theorem agT_5 : agT Tryd.prog 5 = some false := by kernel_rfl
theorem szT_5 : szT Tryd.prog 5 = some 1 := by kernel_rfl
theorem kiT_5 : kiT Tryd.prog 5 = some (.int .u8) := by kernel_rfl
theorem agT_24 : agT Tryd.prog 24 = some false := by kernel_rfl
theorem szT_24 : szT Tryd.prog 24 = some 1 := by kernel_rfl
theorem kiT_24 : kiT Tryd.prog 24 = some (.int .i64) := by kernel_rfl
theorem agT_62 : agT Tryd.prog 62 = some false := by kernel_rfl
theorem szT_62 : szT Tryd.prog 62 = some 1 := by kernel_rfl
theorem kiT_62 : kiT Tryd.prog 62 = some (.int .u64) := by kernel_rfl
theorem agT_4 : agT Tryd.prog 4 = some false := by kernel_rfl
theorem szT_4 : szT Tryd.prog 4 = some 1 := by kernel_rfl
theorem kiT_4 : kiT Tryd.prog 4 = some .bool := by kernel_rfl
theorem agT_9 : agT Tryd.prog 9 = some false := by kernel_rfl
theorem szT_9 : szT Tryd.prog 9 = some 1 := by kernel_rfl
theorem kiT_9 : kiT Tryd.prog 9 = some .string := by kernel_rfl
theorem agT_44 : agT Tryd.prog 44 = some false := by kernel_rfl
theorem szT_44 : szT Tryd.prog 44 = some 1 := by kernel_rfl
theorem kiT_44 : kiT Tryd.prog 44 = some .other := by kernel_rfl
theorem agT_45 : agT Tryd.prog 45 = some false := by kernel_rfl
theorem szT_45 : szT Tryd.prog 45 = some 1 := by kernel_rfl
theorem kiT_45 : kiT Tryd.prog 45 = some .other := by kernel_rfl
theorem agT_30 : agT Tryd.prog 30 = some false := by kernel_rfl
theorem szT_30 : szT Tryd.prog 30 = some 1 := by kernel_rfl
theorem kiT_30 : kiT Tryd.prog 30 = some .other := by kernel_rfl
theorem agT_22 : agT Tryd.prog 22 = some false := by kernel_rfl
theorem szT_22 : szT Tryd.prog 22 = some 1 := by kernel_rfl
theorem kiT_22 : kiT Tryd.prog 22 = some .other := by kernel_rfl
theorem agT_41 : agT Tryd.prog 41 = some false := by kernel_rfl
theorem szT_41 : szT Tryd.prog 41 = some 1 := by kernel_rfl
theorem kiT_41 : kiT Tryd.prog 41 = some .other := by kernel_rfl
theorem agT_51 : agT Tryd.prog 51 = some false := by kernel_rfl
theorem szT_51 : szT Tryd.prog 51 = some 1 := by kernel_rfl
theorem kiT_51 : kiT Tryd.prog 51 = some .other := by kernel_rfl
theorem agT_52 : agT Tryd.prog 52 = some false := by kernel_rfl
theorem szT_52 : szT Tryd.prog 52 = some 1 := by kernel_rfl
theorem kiT_52 : kiT Tryd.prog 52 = some .other := by kernel_rfl
theorem agT_23 : agT Tryd.prog 23 = some false := by kernel_rfl
theorem szT_23 : szT Tryd.prog 23 = some 1 := by kernel_rfl
theorem kiT_23 : kiT Tryd.prog 23 = some .other := by kernel_rfl
theorem agT_53 : agT Tryd.prog 53 = some false := by kernel_rfl
theorem szT_53 : szT Tryd.prog 53 = some 1 := by kernel_rfl
theorem kiT_53 : kiT Tryd.prog 53 = some .other := by kernel_rfl
theorem agT_27 : agT Tryd.prog 27 = some false := by kernel_rfl
theorem szT_27 : szT Tryd.prog 27 = some 1 := by kernel_rfl
theorem kiT_27 : kiT Tryd.prog 27 = some .other := by kernel_rfl
theorem agT_89 : agT Tryd.prog 89 = some false := by kernel_rfl
theorem szT_89 : szT Tryd.prog 89 = some 1 := by kernel_rfl
theorem kiT_89 : kiT Tryd.prog 89 = some .other := by kernel_rfl
theorem agT_66 : agT Tryd.prog 66 = some false := by kernel_rfl
theorem szT_66 : szT Tryd.prog 66 = some 1 := by kernel_rfl
theorem kiT_66 : kiT Tryd.prog 66 = some .iface := by kernel_rfl
theorem agT_20 : agT Tryd.prog 20 = some false := by kernel_rfl
theorem szT_20 : szT Tryd.prog 20 = some 1 := by kernel_rfl
theorem kiT_20 : kiT Tryd.prog 20 = some .iface := by kernel_rfl
theorem slT_45 : slT Tryd.prog 45 = some (3, 1, 8) := by kernel_rfl
theorem slT_44 : slT Tryd.prog 44 = some (4, 1, 1) := by kernel_rfl
theorem slT_30 : slT Tryd.prog 30 = some (5, 1, 1) := by kernel_rfl
theorem slT_22 : slT Tryd.prog 22 = some (30, 1, 24) := by kernel_rfl
theorem slT_41 : slT Tryd.prog 41 = some (47, 6, 96) := by kernel_rfl
theorem slT_51 : slT Tryd.prog 51 = some (57, 2, 32) := by kernel_rfl
theorem slT_52 : slT Tryd.prog 52 = some (74, 2, 32) := by kernel_rfl
theorem zeT_3 : zeT Tryd.prog 3 = some [.i .i64 0] := by kernel_rfl
theorem zeT_4 : zeT Tryd.prog 4 = some [.b false] := by kernel_rfl
theorem zeT_5 : zeT Tryd.prog 5 = some [.i .u8 0] := by kernel_rfl
theorem zeT_30 : zeT Tryd.prog 30 = some [.ro true [] 0] := by kernel_rfl
theorem zeT_24 : zeT Tryd.prog 24 = some [.i .i64 0] := by kernel_rfl
theorem flT_55_0 : flT Tryd.prog 55 0 = some (0, 1, false) := by kernel_rfl
theorem flT_55_1 : flT Tryd.prog 55 1 = some (1, 1, false) := by kernel_rfl
theorem flT_55_2 : flT Tryd.prog 55 2 = some (2, 1, false) := by kernel_rfl
theorem flT_55_3 : flT Tryd.prog 55 3 = some (3, 1, false) := by kernel_rfl
theorem flT_55_4 : flT Tryd.prog 55 4 = some (4, 1, false) := by kernel_rfl
theorem agT_55 : agT Tryd.prog 55 = some true := by kernel_rfl
theorem szT_55 : szT Tryd.prog 55 = some 5 := by kernel_rfl
theorem buT_55 : buT Tryd.prog 55 = some [(0, 1), (1, 1), (2, 1), (3, 1), (4, 1)] := by kernel_rfl
theorem zeT_55 : zeT Tryd.prog 55 = some [.ro true [] 0, .ro true [] 0, .ro true [] 0, .b false, .np] := by kernel_rfl
theorem flT_57_0 : flT Tryd.prog 57 0 = some (0, 1, false) := by kernel_rfl
theorem flT_57_1 : flT Tryd.prog 57 1 = some (1, 1, false) := by kernel_rfl
theorem agT_57 : agT Tryd.prog 57 = some true := by kernel_rfl
theorem szT_57 : szT Tryd.prog 57 = some 2 := by kernel_rfl
theorem buT_57 : buT Tryd.prog 57 = some [(0, 1), (1, 1)] := by kernel_rfl
theorem zeT_57 : zeT Tryd.prog 57 = some [.ro true [] 0, .b false] := by kernel_rfl
theorem flT_74_0 : flT Tryd.prog 74 0 = some (0, 1, false) := by kernel_rfl
theorem flT_74_1 : flT Tryd.prog 74 1 = some (1, 1, false) := by kernel_rfl
theorem agT_74 : agT Tryd.prog 74 = some true := by kernel_rfl
theorem szT_74 : szT Tryd.prog 74 = some 2 := by kernel_rfl
theorem buT_74 : buT Tryd.prog 74 = some [(0, 1), (1, 1)] := by kernel_rfl
theorem zeT_74 : zeT Tryd.prog 74 = some [.i .i64 0, .ro true [] 0] := by kernel_rfl
theorem flT_77_0 : flT Tryd.prog 77 0 = some (0, 1, false) := by kernel_rfl
theorem flT_77_1 : flT Tryd.prog 77 1 = some (1, 1, false) := by kernel_rfl
theorem flT_77_2 : flT Tryd.prog 77 2 = some (2, 1, false) := by kernel_rfl
theorem agT_77 : agT Tryd.prog 77 = some true := by kernel_rfl
theorem szT_77 : szT Tryd.prog 77 = some 3 := by kernel_rfl
theorem buT_77 : buT Tryd.prog 77 = some [(0, 1), (1, 1), (2, 1)] := by kernel_rfl
theorem zeT_77 : zeT Tryd.prog 77 = some [.i .i64 0, .ro true [] 0, .i .i64 0] := by kernel_rfl
theorem flT_47_0 : flT Tryd.prog 47 0 = some (0, 1, false) := by kernel_rfl
theorem flT_47_1 : flT Tryd.prog 47 1 = some (1, 1, false) := by kernel_rfl
theorem flT_47_2 : flT Tryd.prog 47 2 = some (2, 1, false) := by kernel_rfl
theorem flT_47_3 : flT Tryd.prog 47 3 = some (3, 1, false) := by kernel_rfl
theorem flT_47_4 : flT Tryd.prog 47 4 = some (4, 1, false) := by kernel_rfl
theorem flT_47_5 : flT Tryd.prog 47 5 = some (5, 1, false) := by kernel_rfl
theorem agT_47 : agT Tryd.prog 47 = some true := by kernel_rfl
theorem szT_47 : szT Tryd.prog 47 = some 6 := by kernel_rfl
theorem buT_47 : buT Tryd.prog 47 = some [(0, 1), (1, 1), (2, 1), (3, 1), (4, 1), (5, 1)] := by kernel_rfl
theorem zeT_47 : zeT Tryd.prog 47 = some [.ro true [] 0, .i .i64 0, .i .i64 0, .ro true [] 0, .i .i64 0, .ro true [] 0] := by kernel_rfl
theorem flT_61_0 : flT Tryd.prog 61 0 = some (0, 1, false) := by kernel_rfl
theorem flT_61_1 : flT Tryd.prog 61 1 = some (1, 1, false) := by kernel_rfl
theorem agT_61 : agT Tryd.prog 61 = some true := by kernel_rfl
theorem szT_61 : szT Tryd.prog 61 = some 2 := by kernel_rfl
theorem buT_61 : buT Tryd.prog 61 = some [(0, 1), (1, 1)] := by kernel_rfl
theorem zeT_61 : zeT Tryd.prog 61 = some [.np, .ro true [] 0] := by kernel_rfl
theorem flT_64_0 : flT Tryd.prog 64 0 = some (0, 1, false) := by kernel_rfl
theorem flT_64_1 : flT Tryd.prog 64 1 = some (1, 1, false) := by kernel_rfl
theorem agT_64 : agT Tryd.prog 64 = some true := by kernel_rfl
theorem szT_64 : szT Tryd.prog 64 = some 2 := by kernel_rfl
theorem buT_64 : buT Tryd.prog 64 = some [(0, 1), (1, 1)] := by kernel_rfl
theorem zeT_64 : zeT Tryd.prog 64 = some [.i .u64 0, .i .i64 0] := by kernel_rfl
theorem flT_91_0 : flT Tryd.prog 91 0 = some (0, 1, false) := by kernel_rfl
theorem flT_91_1 : flT Tryd.prog 91 1 = some (1, 1, false) := by kernel_rfl
theorem agT_91 : agT Tryd.prog 91 = some true := by kernel_rfl
theorem szT_91 : szT Tryd.prog 91 = some 2 := by kernel_rfl
theorem buT_91 : buT Tryd.prog 91 = some [(0, 1), (1, 1)] := by kernel_rfl
theorem zeT_91 : zeT Tryd.prog 91 = some [.s ByteArray.empty, .ni] := by kernel_rfl
theorem ptT_23 : ptT Tryd.prog 23 = true := by kernel_rfl
theorem ptT_53 : ptT Tryd.prog 53 = true := by kernel_rfl
theorem ptT_27 : ptT Tryd.prog 27 = true := by kernel_rfl
theorem ptT_89 : ptT Tryd.prog 89 = true := by kernel_rfl
theorem und_30 : Tryd.prog.underlying 30 = some (.slice 5) := by kernel_rfl
theorem mixed : Tryd.prog.follows .mixedOrders = true := by kernel_rfl
end Go.Proofs.YtepfknnffooaiaaDoor
