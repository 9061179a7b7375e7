/- Closed facts of the program: sizes, offsets and zero values of its types. -/
import Derived.Test.YtgnlfhggebijcaaProg
import Derived.Test.YtgnlfhggebijcaaFacts
namespace Go.Proofs.Ytgnlfhggebijcaa
open Go

theorem mixed : Try.prog.follows .mixedOrders = true := by kernel_rfl
theorem el23 : elem? Try.prog 23 = some (.slice none 0 0, 1, 24) := by kernel_rfl
theorem el3 : elem? Try.prog 3 = some (.int .i64 0, 1, 8) := by kernel_rfl
theorem el65 : elem? Try.prog 65 = some (.slice none 0 0, 1, 24) := by kernel_rfl
theorem el68 : elem? Try.prog 68 = some (.agg #[.int .i64 0, .int .i64 0], 2, 16) := by kernel_rfl
theorem el74 : elem? Try.prog 74 = some (.agg #[.int .i64 0, .int .i64 0, .int .i64 0, .int .i64 0], 4, 32) := by kernel_rfl
theorem fo25_0 : fieldOff Try.prog 25 0 = some 0 := by kernel_rfl
theorem fo25_1 : fieldOff Try.prog 25 1 = some 1 := by kernel_rfl
theorem fo25_2 : fieldOff Try.prog 25 2 = some 2 := by kernel_rfl
theorem fo31_0 : fieldOff Try.prog 31 0 = some 0 := by kernel_rfl
theorem fo31_1 : fieldOff Try.prog 31 1 = some 1 := by kernel_rfl
theorem fo31_2 : fieldOff Try.prog 31 2 = some 2 := by kernel_rfl
theorem fo68_0 : fieldOff Try.prog 68 0 = some 0 := by kernel_rfl
theorem fo68_1 : fieldOff Try.prog 68 1 = some 1 := by kernel_rfl
theorem fo74_0 : fieldOff Try.prog 74 0 = some 0 := by kernel_rfl
theorem fo74_2 : fieldOff Try.prog 74 2 = some 2 := by kernel_rfl
theorem fo93_0 : fieldOff Try.prog 93 0 = some 0 := by kernel_rfl
theorem fo93_1 : fieldOff Try.prog 93 1 = some 1 := by kernel_rfl
theorem one119 : one? Try.prog 119 = true := by kernel_rfl
theorem one22 : one? Try.prog 22 = true := by kernel_rfl
theorem one23 : one? Try.prog 23 = true := by kernel_rfl
theorem one29 : one? Try.prog 29 = true := by kernel_rfl
theorem one3 : one? Try.prog 3 = true := by kernel_rfl
theorem one65 : one? Try.prog 65 = true := by kernel_rfl
theorem one81 : one? Try.prog 81 = true := by kernel_rfl
theorem pr68 : pairT Try.prog 68 = true := by kernel_rfl
theorem sn68_2 : structN Try.prog 68 2 = true := by kernel_rfl
theorem sn74_4 : structN Try.prog 74 4 = true := by kernel_rfl
theorem st25 : structOf Try.prog 25 = true := by kernel_rfl
theorem st31 : structOf Try.prog 31 = true := by kernel_rfl
theorem st68 : structOf Try.prog 68 = true := by kernel_rfl
theorem st74 : structOf Try.prog 74 = true := by kernel_rfl
theorem st93 : structOf Try.prog 93 = true := by kernel_rfl
theorem sz119 : size? Try.prog 119 = some 1 := by kernel_rfl
theorem sz22 : size? Try.prog 22 = some 1 := by kernel_rfl
theorem sz23 : size? Try.prog 23 = some 1 := by kernel_rfl
theorem sz25 : size? Try.prog 25 = some 3 := by kernel_rfl
theorem sz29 : size? Try.prog 29 = some 1 := by kernel_rfl
theorem sz3 : size? Try.prog 3 = some 1 := by kernel_rfl
theorem sz31 : size? Try.prog 31 = some 3 := by kernel_rfl
theorem sz65 : size? Try.prog 65 = some 1 := by kernel_rfl
theorem sz68 : size? Try.prog 68 = some 2 := by kernel_rfl
theorem sz74 : size? Try.prog 74 = some 4 := by kernel_rfl
theorem sz81 : size? Try.prog 81 = some 1 := by kernel_rfl
theorem sz93 : size? Try.prog 93 = some 2 := by kernel_rfl
theorem zr119 : zero? Try.prog 119 = some (.int .u64 0) := by kernel_rfl
theorem zr23 : zero? Try.prog 23 = some (.slice none 0 0) := by kernel_rfl
theorem zr3 : zero? Try.prog 3 = some (.int .i64 0) := by kernel_rfl
theorem zr31 : zero? Try.prog 31 = some (.agg #[.slice none 0 0, .slice none 0 0, .slice none 0 0]) := by kernel_rfl
theorem zr68 : zero? Try.prog 68 = some (.agg #[.int .i64 0, .int .i64 0]) := by kernel_rfl
theorem zr74 : zero? Try.prog 74 = some (.agg #[.int .i64 0, .int .i64 0, .int .i64 0, .int .i64 0]) := by kernel_rfl
end Go.Proofs.Ytgnlfhggebijcaa
