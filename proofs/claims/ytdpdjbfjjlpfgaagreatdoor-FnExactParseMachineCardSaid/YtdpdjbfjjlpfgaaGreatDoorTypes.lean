/- Closed facts of the program: sizes, offsets and zero values of its types. -/
import Derived.Test.YtdpdjbfjjlpfgaaGreatDoorProg
import Derived.Test.YtdpdjbfjjlpfgaaGreatDoorFacts
namespace Go.Proofs.YtdpdjbfjjlpfgaaGreatDoor
open Go

theorem mixed : Tryz.prog.follows .mixedOrders = true := by kernel_rfl
theorem el24 : elem? Tryz.prog 24 = some (.slice none 0 0, 1, 24) := by kernel_rfl
theorem el3 : elem? Tryz.prog 3 = some (.int .i64 0, 1, 8) := by kernel_rfl
theorem el32 : elem? Tryz.prog 32 = some (.slice none 0 0, 1, 24) := by kernel_rfl
theorem el40 : elem? Tryz.prog 40 = some (.agg #[.int .i64 0, .slice none 0 0, .int .i64 0], 3, 40) := by kernel_rfl
theorem el5 : elem? Tryz.prog 5 = some (.int .u8 0, 1, 1) := by kernel_rfl
theorem el9 : elem? Tryz.prog 9 = some (.string ⟨#[]⟩, 1, 16) := by kernel_rfl
theorem fo26_0 : fieldOff Tryz.prog 26 0 = some 0 := by kernel_rfl
theorem fo26_1 : fieldOff Tryz.prog 26 1 = some 1 := by kernel_rfl
theorem fo26_2 : fieldOff Tryz.prog 26 2 = some 2 := by kernel_rfl
theorem fo26_3 : fieldOff Tryz.prog 26 3 = some 3 := by kernel_rfl
theorem fo26_4 : fieldOff Tryz.prog 26 4 = some 4 := by kernel_rfl
theorem fo26_5 : fieldOff Tryz.prog 26 5 = some 5 := by kernel_rfl
theorem fo26_6 : fieldOff Tryz.prog 26 6 = some 6 := by kernel_rfl
theorem fo40_0 : fieldOff Tryz.prog 40 0 = some 0 := by kernel_rfl
theorem fo40_1 : fieldOff Tryz.prog 40 1 = some 1 := by kernel_rfl
theorem fo40_2 : fieldOff Tryz.prog 40 2 = some 2 := by kernel_rfl
theorem one22 : one? Tryz.prog 22 = true := by kernel_rfl
theorem one23 : one? Tryz.prog 23 = true := by kernel_rfl
theorem one24 : one? Tryz.prog 24 = true := by kernel_rfl
theorem one3 : one? Tryz.prog 3 = true := by kernel_rfl
theorem one32 : one? Tryz.prog 32 = true := by kernel_rfl
theorem one9 : one? Tryz.prog 9 = true := by kernel_rfl
theorem sn26_7 : structN Tryz.prog 26 7 = true := by kernel_rfl
theorem sn40_3 : structN Tryz.prog 40 3 = true := by kernel_rfl
theorem st26 : structOf Tryz.prog 26 = true := by kernel_rfl
theorem st40 : structOf Tryz.prog 40 = true := by kernel_rfl
theorem sz22 : size? Tryz.prog 22 = some 1 := by kernel_rfl
theorem sz23 : size? Tryz.prog 23 = some 1 := by kernel_rfl
theorem sz24 : size? Tryz.prog 24 = some 1 := by kernel_rfl
theorem sz26 : size? Tryz.prog 26 = some 7 := by kernel_rfl
theorem sz3 : size? Tryz.prog 3 = some 1 := by kernel_rfl
theorem sz32 : size? Tryz.prog 32 = some 1 := by kernel_rfl
theorem sz40 : size? Tryz.prog 40 = some 3 := by kernel_rfl
theorem sz9 : size? Tryz.prog 9 = some 1 := by kernel_rfl
theorem zr26 : zero? Tryz.prog 26 = some (.agg #[.int .i64 0, .int .i64 0, .int .i64 0, .slice none 0 0, .slice none 0 0, .slice none 0 0, .slice none 0 0]) := by kernel_rfl
theorem zr40 : zero? Tryz.prog 40 = some (.agg #[.int .i64 0, .slice none 0 0, .int .i64 0]) := by kernel_rfl
end Go.Proofs.YtdpdjbfjjlpfgaaGreatDoor
