/- Closed facts of the program: sizes, offsets and zero values of its types. -/
import Derived.Test.YtiagmcjhpckcaaaProg
import Derived.Test.YtiagmcjhpckcaaaFacts
namespace Go.Proofs.Ytiagmcjhpckcaaa
open Go

theorem mixed : Try.prog.follows .mixedOrders = true := by kernel_rfl
theorem el100 : elem? Try.prog 100 = some (.agg #[.int .i64 0, .int .i64 0, .int .i64 0, .int .i64 0], 4, 32) := by kernel_rfl
theorem el112 : elem? Try.prog 112 = some (.slice none 0 0, 1, 24) := by kernel_rfl
theorem el114 : elem? Try.prog 114 = some (.agg #[.int .i64 0, .int .i64 0], 2, 16) := by kernel_rfl
theorem el117 : elem? Try.prog 117 = some (.slice none 0 0, 1, 24) := by kernel_rfl
theorem el23 : elem? Try.prog 23 = some (.slice none 0 0, 1, 24) := by kernel_rfl
theorem el3 : elem? Try.prog 3 = some (.int .i64 0, 1, 8) := by kernel_rfl
theorem el4 : elem? Try.prog 4 = some (.bool false, 1, 1) := by kernel_rfl
theorem el65 : elem? Try.prog 65 = some (.agg #[.int .i64 0, .int .i64 0], 2, 16) := by kernel_rfl
theorem fo100_0 : fieldOff Try.prog 100 0 = some 0 := by kernel_rfl
theorem fo100_1 : fieldOff Try.prog 100 1 = some 1 := by kernel_rfl
theorem fo100_2 : fieldOff Try.prog 100 2 = some 2 := by kernel_rfl
theorem fo100_3 : fieldOff Try.prog 100 3 = some 3 := by kernel_rfl
theorem fo114_0 : fieldOff Try.prog 114 0 = some 0 := by kernel_rfl
theorem fo114_1 : fieldOff Try.prog 114 1 = some 1 := by kernel_rfl
theorem fo133_0 : fieldOff Try.prog 133 0 = some 0 := by kernel_rfl
theorem fo133_1 : fieldOff Try.prog 133 1 = some 1 := by kernel_rfl
theorem fo35_0 : fieldOff Try.prog 35 0 = some 0 := by kernel_rfl
theorem fo35_1 : fieldOff Try.prog 35 1 = some 1 := by kernel_rfl
theorem fo35_2 : fieldOff Try.prog 35 2 = some 2 := by kernel_rfl
theorem fo41_0 : fieldOff Try.prog 41 0 = some 0 := by kernel_rfl
theorem fo41_1 : fieldOff Try.prog 41 1 = some 1 := by kernel_rfl
theorem fo41_2 : fieldOff Try.prog 41 2 = some 2 := by kernel_rfl
theorem fo63_0 : fieldOff Try.prog 63 0 = some 0 := by kernel_rfl
theorem fo63_1 : fieldOff Try.prog 63 1 = some 1 := by kernel_rfl
theorem fo63_2 : fieldOff Try.prog 63 2 = some 2 := by kernel_rfl
theorem fo63_3 : fieldOff Try.prog 63 3 = some 3 := by kernel_rfl
theorem fo63_4 : fieldOff Try.prog 63 4 = some 4 := by kernel_rfl
theorem fo65_0 : fieldOff Try.prog 65 0 = some 0 := by kernel_rfl
theorem fo65_1 : fieldOff Try.prog 65 1 = some 1 := by kernel_rfl
theorem fo67_0 : fieldOff Try.prog 67 0 = some 0 := by kernel_rfl
theorem fo67_1 : fieldOff Try.prog 67 1 = some 1 := by kernel_rfl
theorem fo71_0 : fieldOff Try.prog 71 0 = some 0 := by kernel_rfl
theorem fo71_1 : fieldOff Try.prog 71 1 = some 1 := by kernel_rfl
theorem fo71_2 : fieldOff Try.prog 71 2 = some 2 := by kernel_rfl
theorem fo71_3 : fieldOff Try.prog 71 3 = some 3 := by kernel_rfl
theorem fo71_4 : fieldOff Try.prog 71 4 = some 4 := by kernel_rfl
theorem one111 : one? Try.prog 111 = true := by kernel_rfl
theorem one112 : one? Try.prog 112 = true := by kernel_rfl
theorem one117 : one? Try.prog 117 = true := by kernel_rfl
theorem one165 : one? Try.prog 165 = true := by kernel_rfl
theorem one23 : one? Try.prog 23 = true := by kernel_rfl
theorem one3 : one? Try.prog 3 = true := by kernel_rfl
theorem one33 : one? Try.prog 33 = true := by kernel_rfl
theorem one39 : one? Try.prog 39 = true := by kernel_rfl
theorem one4 : one? Try.prog 4 = true := by kernel_rfl
theorem pr114 : pairT Try.prog 114 = true := by kernel_rfl
theorem sn100_4 : structN Try.prog 100 4 = true := by kernel_rfl
theorem sn114_2 : structN Try.prog 114 2 = true := by kernel_rfl
theorem sn41_3 : structN Try.prog 41 3 = true := by kernel_rfl
theorem sn63_5 : structN Try.prog 63 5 = true := by kernel_rfl
theorem sn71_5 : structN Try.prog 71 5 = true := by kernel_rfl
theorem st100 : structOf Try.prog 100 = true := by kernel_rfl
theorem st114 : structOf Try.prog 114 = true := by kernel_rfl
theorem st133 : structOf Try.prog 133 = true := by kernel_rfl
theorem st35 : structOf Try.prog 35 = true := by kernel_rfl
theorem st41 : structOf Try.prog 41 = true := by kernel_rfl
theorem st63 : structOf Try.prog 63 = true := by kernel_rfl
theorem st65 : structOf Try.prog 65 = true := by kernel_rfl
theorem st67 : structOf Try.prog 67 = true := by kernel_rfl
theorem st71 : structOf Try.prog 71 = true := by kernel_rfl
theorem sz100 : size? Try.prog 100 = some 4 := by kernel_rfl
theorem sz111 : size? Try.prog 111 = some 1 := by kernel_rfl
theorem sz112 : size? Try.prog 112 = some 1 := by kernel_rfl
theorem sz114 : size? Try.prog 114 = some 2 := by kernel_rfl
theorem sz117 : size? Try.prog 117 = some 1 := by kernel_rfl
theorem sz123 : size? Try.prog 123 = some 14 := by kernel_rfl
theorem sz133 : size? Try.prog 133 = some 2 := by kernel_rfl
theorem sz14 : size? Try.prog 14 = some 2 := by kernel_rfl
theorem sz165 : size? Try.prog 165 = some 1 := by kernel_rfl
theorem sz23 : size? Try.prog 23 = some 1 := by kernel_rfl
theorem sz3 : size? Try.prog 3 = some 1 := by kernel_rfl
theorem sz33 : size? Try.prog 33 = some 1 := by kernel_rfl
theorem sz35 : size? Try.prog 35 = some 3 := by kernel_rfl
theorem sz39 : size? Try.prog 39 = some 1 := by kernel_rfl
theorem sz4 : size? Try.prog 4 = some 1 := by kernel_rfl
theorem sz41 : size? Try.prog 41 = some 3 := by kernel_rfl
theorem sz63 : size? Try.prog 63 = some 5 := by kernel_rfl
theorem sz65 : size? Try.prog 65 = some 2 := by kernel_rfl
theorem sz67 : size? Try.prog 67 = some 2 := by kernel_rfl
theorem sz71 : size? Try.prog 71 = some 5 := by kernel_rfl
theorem zr100 : zero? Try.prog 100 = some (.agg #[.int .i64 0, .int .i64 0, .int .i64 0, .int .i64 0]) := by kernel_rfl
theorem zr114 : zero? Try.prog 114 = some (.agg #[.int .i64 0, .int .i64 0]) := by kernel_rfl
theorem zr123 : zero? Try.prog 123 = some (.agg #[.int .i64 0, .int .i64 0, .int .i64 0, .int .i64 0, .int .i64 0, .int .i64 0, .int .i64 0, .int .i64 0, .int .i64 0, .int .i64 0, .int .i64 0, .int .i64 0, .int .i64 0, .int .i64 0]) := by kernel_rfl
theorem zr165 : zero? Try.prog 165 = some (.int .u64 0) := by kernel_rfl
theorem zr3 : zero? Try.prog 3 = some (.int .i64 0) := by kernel_rfl
theorem zr41 : zero? Try.prog 41 = some (.agg #[.slice none 0 0, .slice none 0 0, .slice none 0 0]) := by kernel_rfl
theorem zr65 : zero? Try.prog 65 = some (.agg #[.int .i64 0, .int .i64 0]) := by kernel_rfl
end Go.Proofs.Ytiagmcjhpckcaaa
