import Derived.Test.YtepfknnffooaiaaAvF
import Derived.Test.YtepfknnffooaiaaChecked
import Derived.IntWalk
namespace Go.Proofs.Ytepfknnffooaiaa
open Go.Av
theorem agT_3 : agT Try.prog 3 = some false := by kernel_rfl
theorem szT_3 : szT Try.prog 3 = some 1 := by kernel_rfl
theorem kiT_3 : kiT Try.prog 3 = some (.int .i64) := by kernel_rfl
theorem agT_4 : agT Try.prog 4 = some false := by kernel_rfl
theorem szT_4 : szT Try.prog 4 = some 1 := by kernel_rfl
theorem kiT_4 : kiT Try.prog 4 = some .bool := by kernel_rfl
theorem agT_5 : agT Try.prog 5 = some false := by kernel_rfl
theorem szT_5 : szT Try.prog 5 = some 1 := by kernel_rfl
theorem kiT_5 : kiT Try.prog 5 = some (.int .u8) := by kernel_rfl
theorem agT_25 : agT Try.prog 25 = some false := by kernel_rfl
theorem szT_25 : szT Try.prog 25 = some 1 := by kernel_rfl
theorem kiT_25 : kiT Try.prog 25 = some (.int .i64) := by kernel_rfl
theorem agT_28 : agT Try.prog 28 = some false := by kernel_rfl
theorem szT_28 : szT Try.prog 28 = some 1 := by kernel_rfl
theorem kiT_28 : kiT Try.prog 28 = some (.int .u64) := by kernel_rfl
theorem agT_22 : agT Try.prog 22 = some false := by kernel_rfl
theorem szT_22 : szT Try.prog 22 = some 1 := by kernel_rfl
theorem kiT_22 : kiT Try.prog 22 = some .other := by kernel_rfl
theorem agT_23 : agT Try.prog 23 = some false := by kernel_rfl
theorem szT_23 : szT Try.prog 23 = some 1 := by kernel_rfl
theorem kiT_23 : kiT Try.prog 23 = some .other := by kernel_rfl
theorem agT_30 : agT Try.prog 30 = some false := by kernel_rfl
theorem szT_30 : szT Try.prog 30 = some 1 := by kernel_rfl
theorem kiT_30 : kiT Try.prog 30 = some .other := by kernel_rfl
theorem agT_37 : agT Try.prog 37 = some false := by kernel_rfl
theorem szT_37 : szT Try.prog 37 = some 1 := by kernel_rfl
theorem kiT_37 : kiT Try.prog 37 = some .other := by kernel_rfl
theorem agT_38 : agT Try.prog 38 = some false := by kernel_rfl
theorem szT_38 : szT Try.prog 38 = some 1 := by kernel_rfl
theorem kiT_38 : kiT Try.prog 38 = some .other := by kernel_rfl
theorem agT_52 : agT Try.prog 52 = some false := by kernel_rfl
theorem szT_52 : szT Try.prog 52 = some 1 := by kernel_rfl
theorem kiT_52 : kiT Try.prog 52 = some .other := by kernel_rfl
theorem agT_53 : agT Try.prog 53 = some false := by kernel_rfl
theorem szT_53 : szT Try.prog 53 = some 1 := by kernel_rfl
theorem kiT_53 : kiT Try.prog 53 = some .other := by kernel_rfl
theorem agT_24 : agT Try.prog 24 = some false := by kernel_rfl
theorem szT_24 : szT Try.prog 24 = some 1 := by kernel_rfl
theorem kiT_24 : kiT Try.prog 24 = some .other := by kernel_rfl
theorem agT_54 : agT Try.prog 54 = some false := by kernel_rfl
theorem szT_54 : szT Try.prog 54 = some 1 := by kernel_rfl
theorem kiT_54 : kiT Try.prog 54 = some .other := by kernel_rfl
theorem agT_47 : agT Try.prog 47 = some false := by kernel_rfl
theorem szT_47 : szT Try.prog 47 = some 1 := by kernel_rfl
theorem kiT_47 : kiT Try.prog 47 = some .other := by kernel_rfl
theorem slT_22 : slT Try.prog 22 = some (3, 1, 8) := by kernel_rfl
theorem slT_23 : slT Try.prog 23 = some (4, 1, 1) := by kernel_rfl
theorem slT_30 : slT Try.prog 30 = some (5, 1, 1) := by kernel_rfl
theorem slT_37 : slT Try.prog 37 = some (30, 1, 24) := by kernel_rfl
theorem slT_38 : slT Try.prog 38 = some (42, 6, 80) := by kernel_rfl
theorem slT_52 : slT Try.prog 52 = some (58, 2, 32) := by kernel_rfl
theorem slT_53 : slT Try.prog 53 = some (62, 2, 32) := by kernel_rfl
theorem zeT_3 : zeT Try.prog 3 = some [.i .i64 0] := by kernel_rfl
theorem zeT_4 : zeT Try.prog 4 = some [.b false] := by kernel_rfl
theorem zeT_5 : zeT Try.prog 5 = some [.i .u8 0] := by kernel_rfl
theorem zeT_30 : zeT Try.prog 30 = some [.ro true [] 0] := by kernel_rfl
theorem flT_56_0 : flT Try.prog 56 0 = some (0, 1, false) := by kernel_rfl
theorem flT_56_1 : flT Try.prog 56 1 = some (1, 1, false) := by kernel_rfl
theorem flT_56_2 : flT Try.prog 56 2 = some (2, 1, false) := by kernel_rfl
theorem flT_56_3 : flT Try.prog 56 3 = some (3, 1, false) := by kernel_rfl
theorem flT_56_4 : flT Try.prog 56 4 = some (4, 1, false) := by kernel_rfl
theorem agT_56 : agT Try.prog 56 = some true := by kernel_rfl
theorem szT_56 : szT Try.prog 56 = some 5 := by kernel_rfl
theorem buT_56 : buT Try.prog 56 = some [(0, 1), (1, 1), (2, 1), (3, 1), (4, 1)] := by kernel_rfl
theorem zeT_56 : zeT Try.prog 56 = some [.ro true [] 0, .ro true [] 0, .ro true [] 0, .b false, .np] := by kernel_rfl
theorem flT_58_0 : flT Try.prog 58 0 = some (0, 1, false) := by kernel_rfl
theorem flT_58_1 : flT Try.prog 58 1 = some (1, 1, false) := by kernel_rfl
theorem agT_58 : agT Try.prog 58 = some true := by kernel_rfl
theorem szT_58 : szT Try.prog 58 = some 2 := by kernel_rfl
theorem buT_58 : buT Try.prog 58 = some [(0, 1), (1, 1)] := by kernel_rfl
theorem zeT_58 : zeT Try.prog 58 = some [.ro true [] 0, .b false] := by kernel_rfl
theorem flT_62_0 : flT Try.prog 62 0 = some (0, 1, false) := by kernel_rfl
theorem flT_62_1 : flT Try.prog 62 1 = some (1, 1, false) := by kernel_rfl
theorem agT_62 : agT Try.prog 62 = some true := by kernel_rfl
theorem szT_62 : szT Try.prog 62 = some 2 := by kernel_rfl
theorem buT_62 : buT Try.prog 62 = some [(0, 1), (1, 1)] := by kernel_rfl
theorem zeT_62 : zeT Try.prog 62 = some [.i .i64 0, .ro true [] 0] := by kernel_rfl
theorem flT_65_0 : flT Try.prog 65 0 = some (0, 1, false) := by kernel_rfl
theorem flT_65_1 : flT Try.prog 65 1 = some (1, 1, false) := by kernel_rfl
theorem flT_65_2 : flT Try.prog 65 2 = some (2, 1, false) := by kernel_rfl
theorem agT_65 : agT Try.prog 65 = some true := by kernel_rfl
theorem szT_65 : szT Try.prog 65 = some 3 := by kernel_rfl
theorem buT_65 : buT Try.prog 65 = some [(0, 1), (1, 1), (2, 1)] := by kernel_rfl
theorem zeT_65 : zeT Try.prog 65 = some [.i .i64 0, .ro true [] 0, .i .i64 0] := by kernel_rfl
theorem flT_42_0 : flT Try.prog 42 0 = some (0, 1, false) := by kernel_rfl
theorem flT_42_1 : flT Try.prog 42 1 = some (1, 1, false) := by kernel_rfl
theorem flT_42_2 : flT Try.prog 42 2 = some (2, 1, false) := by kernel_rfl
theorem flT_42_3 : flT Try.prog 42 3 = some (3, 1, false) := by kernel_rfl
theorem flT_42_4 : flT Try.prog 42 4 = some (4, 1, false) := by kernel_rfl
theorem flT_42_5 : flT Try.prog 42 5 = some (5, 1, false) := by kernel_rfl
theorem agT_42 : agT Try.prog 42 = some true := by kernel_rfl
theorem szT_42 : szT Try.prog 42 = some 6 := by kernel_rfl
theorem buT_42 : buT Try.prog 42 = some [(0, 1), (1, 1), (2, 1), (3, 1), (4, 1), (5, 1)] := by kernel_rfl
theorem zeT_42 : zeT Try.prog 42 = some [.i .i64 0, .i .i64 0, .ro true [] 0, .b false, .ro true [] 0, .i .i64 0] := by kernel_rfl
theorem flT_68_0 : flT Try.prog 68 0 = some (0, 1, false) := by kernel_rfl
theorem flT_68_1 : flT Try.prog 68 1 = some (1, 1, false) := by kernel_rfl
theorem flT_68_2 : flT Try.prog 68 2 = some (2, 1, false) := by kernel_rfl
theorem flT_68_3 : flT Try.prog 68 3 = some (3, 1, false) := by kernel_rfl
theorem flT_68_4 : flT Try.prog 68 4 = some (4, 1, false) := by kernel_rfl
theorem flT_68_5 : flT Try.prog 68 5 = some (5, 1, false) := by kernel_rfl
theorem flT_68_6 : flT Try.prog 68 6 = some (6, 1, false) := by kernel_rfl
theorem agT_68 : agT Try.prog 68 = some true := by kernel_rfl
theorem szT_68 : szT Try.prog 68 = some 7 := by kernel_rfl
theorem buT_68 : buT Try.prog 68 = some [(0, 1), (1, 1), (2, 1), (3, 1), (4, 1), (5, 1), (6, 1)] := by kernel_rfl
theorem zeT_68 : zeT Try.prog 68 = some [.ro true [] 0, .ro true [] 0, .ro true [] 0, .b false, .i .i64 0, .ro true [] 0, .i .i64 0] := by kernel_rfl
theorem ptT_24 : ptT Try.prog 24 = true := by kernel_rfl
theorem ptT_54 : ptT Try.prog 54 = true := by kernel_rfl
theorem ptT_47 : ptT Try.prog 47 = true := by kernel_rfl
theorem und_30 : Try.prog.underlying 30 = some (.slice 5) := by kernel_rfl
theorem mixed : Try.prog.follows .mixedOrders = true := by kernel_rfl
end Go.Proofs.Ytepfknnffooaiaa
