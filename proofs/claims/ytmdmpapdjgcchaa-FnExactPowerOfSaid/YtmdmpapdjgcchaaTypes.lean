/- Closed facts of the program: sizes, offsets and zero values of its types. -/
import Derived.Test.YtmdmpapdjgcchaaProg
import Derived.Test.YtmdmpapdjgcchaaFacts
namespace Go.Proofs.Ytmdmpapdjgcchaa
open Go

theorem mixed : Try.prog.follows .mixedOrders = true := by kernel_rfl
theorem el23 : elem? Try.prog 23 = some (.slice none 0 0, 1, 24) := by kernel_rfl
theorem el3 : elem? Try.prog 3 = some (.int .i64 0, 1, 8) := by kernel_rfl
theorem el4 : elem? Try.prog 4 = some (.bool false, 1, 1) := by kernel_rfl
theorem el69 : elem? Try.prog 69 = some (.slice none 0 0, 1, 24) := by kernel_rfl
theorem el71 : elem? Try.prog 71 = some (.agg #[.int .i64 0, .int .i64 0], 2, 16) := by kernel_rfl
theorem el77 : elem? Try.prog 77 = some (.agg #[.int .i64 0, .int .i64 0, .int .i64 0, .int .i64 0], 4, 32) := by kernel_rfl
theorem el83 : elem? Try.prog 83 = some (.agg #[.int .i64 0, .int .i64 0], 2, 16) := by kernel_rfl
theorem el87 : elem? Try.prog 87 = some (.agg #[.int .i64 0, .int .i64 0, .int .i64 0, .int .i64 0, .int .i64 0], 5, 40) := by kernel_rfl
theorem el90 : elem? Try.prog 90 = some (.agg #[.int .i64 0, .int .i64 0, .int .i64 0], 3, 24) := by kernel_rfl
theorem fo108_0 : fieldOff Try.prog 108 0 = some 0 := by kernel_rfl
theorem fo108_1 : fieldOff Try.prog 108 1 = some 1 := by kernel_rfl
theorem fo25_0 : fieldOff Try.prog 25 0 = some 0 := by kernel_rfl
theorem fo25_1 : fieldOff Try.prog 25 1 = some 1 := by kernel_rfl
theorem fo25_2 : fieldOff Try.prog 25 2 = some 2 := by kernel_rfl
theorem fo29_0 : fieldOff Try.prog 29 0 = some 0 := by kernel_rfl
theorem fo29_1 : fieldOff Try.prog 29 1 = some 1 := by kernel_rfl
theorem fo29_2 : fieldOff Try.prog 29 2 = some 2 := by kernel_rfl
theorem fo71_0 : fieldOff Try.prog 71 0 = some 0 := by kernel_rfl
theorem fo71_1 : fieldOff Try.prog 71 1 = some 1 := by kernel_rfl
theorem fo77_0 : fieldOff Try.prog 77 0 = some 0 := by kernel_rfl
theorem fo77_1 : fieldOff Try.prog 77 1 = some 1 := by kernel_rfl
theorem fo77_2 : fieldOff Try.prog 77 2 = some 2 := by kernel_rfl
theorem fo77_3 : fieldOff Try.prog 77 3 = some 3 := by kernel_rfl
theorem fo83_0 : fieldOff Try.prog 83 0 = some 0 := by kernel_rfl
theorem fo83_1 : fieldOff Try.prog 83 1 = some 1 := by kernel_rfl
theorem fo87_0 : fieldOff Try.prog 87 0 = some 0 := by kernel_rfl
theorem fo87_1 : fieldOff Try.prog 87 1 = some 1 := by kernel_rfl
theorem fo87_2 : fieldOff Try.prog 87 2 = some 2 := by kernel_rfl
theorem fo87_3 : fieldOff Try.prog 87 3 = some 3 := by kernel_rfl
theorem fo87_4 : fieldOff Try.prog 87 4 = some 4 := by kernel_rfl
theorem fo90_0 : fieldOff Try.prog 90 0 = some 0 := by kernel_rfl
theorem fo90_1 : fieldOff Try.prog 90 1 = some 1 := by kernel_rfl
theorem fo90_2 : fieldOff Try.prog 90 2 = some 2 := by kernel_rfl
theorem one139 : one? Try.prog 139 = true := by kernel_rfl
theorem one22 : one? Try.prog 22 = true := by kernel_rfl
theorem one23 : one? Try.prog 23 = true := by kernel_rfl
theorem one27 : one? Try.prog 27 = true := by kernel_rfl
theorem one3 : one? Try.prog 3 = true := by kernel_rfl
theorem one4 : one? Try.prog 4 = true := by kernel_rfl
theorem one69 : one? Try.prog 69 = true := by kernel_rfl
theorem one93 : one? Try.prog 93 = true := by kernel_rfl
theorem pr71 : pairT Try.prog 71 = true := by kernel_rfl
theorem sn29_3 : structN Try.prog 29 3 = true := by kernel_rfl
theorem sn71_2 : structN Try.prog 71 2 = true := by kernel_rfl
theorem sn77_4 : structN Try.prog 77 4 = true := by kernel_rfl
theorem sn83_2 : structN Try.prog 83 2 = true := by kernel_rfl
theorem sn87_5 : structN Try.prog 87 5 = true := by kernel_rfl
theorem sn90_3 : structN Try.prog 90 3 = true := by kernel_rfl
theorem st108 : structOf Try.prog 108 = true := by kernel_rfl
theorem st25 : structOf Try.prog 25 = true := by kernel_rfl
theorem st29 : structOf Try.prog 29 = true := by kernel_rfl
theorem st71 : structOf Try.prog 71 = true := by kernel_rfl
theorem st77 : structOf Try.prog 77 = true := by kernel_rfl
theorem st83 : structOf Try.prog 83 = true := by kernel_rfl
theorem st87 : structOf Try.prog 87 = true := by kernel_rfl
theorem st90 : structOf Try.prog 90 = true := by kernel_rfl
theorem sz108 : size? Try.prog 108 = some 2 := by kernel_rfl
theorem sz122 : size? Try.prog 122 = some 14 := by kernel_rfl
theorem sz139 : size? Try.prog 139 = some 1 := by kernel_rfl
theorem sz14 : size? Try.prog 14 = some 2 := by kernel_rfl
theorem sz22 : size? Try.prog 22 = some 1 := by kernel_rfl
theorem sz23 : size? Try.prog 23 = some 1 := by kernel_rfl
theorem sz25 : size? Try.prog 25 = some 3 := by kernel_rfl
theorem sz27 : size? Try.prog 27 = some 1 := by kernel_rfl
theorem sz29 : size? Try.prog 29 = some 3 := by kernel_rfl
theorem sz3 : size? Try.prog 3 = some 1 := by kernel_rfl
theorem sz4 : size? Try.prog 4 = some 1 := by kernel_rfl
theorem sz69 : size? Try.prog 69 = some 1 := by kernel_rfl
theorem sz71 : size? Try.prog 71 = some 2 := by kernel_rfl
theorem sz77 : size? Try.prog 77 = some 4 := by kernel_rfl
theorem sz83 : size? Try.prog 83 = some 2 := by kernel_rfl
theorem sz87 : size? Try.prog 87 = some 5 := by kernel_rfl
theorem sz90 : size? Try.prog 90 = some 3 := by kernel_rfl
theorem sz93 : size? Try.prog 93 = some 1 := by kernel_rfl
theorem zr122 : zero? Try.prog 122 = some (.agg #[.int .i64 0, .int .i64 0, .int .i64 0, .int .i64 0, .int .i64 0, .int .i64 0, .int .i64 0, .int .i64 0, .int .i64 0, .int .i64 0, .int .i64 0, .int .i64 0, .int .i64 0, .int .i64 0]) := by kernel_rfl
theorem zr139 : zero? Try.prog 139 = some (.int .u64 0) := by kernel_rfl
theorem zr29 : zero? Try.prog 29 = some (.agg #[.slice none 0 0, .slice none 0 0, .slice none 0 0]) := by kernel_rfl
theorem zr3 : zero? Try.prog 3 = some (.int .i64 0) := by kernel_rfl
theorem zr71 : zero? Try.prog 71 = some (.agg #[.int .i64 0, .int .i64 0]) := by kernel_rfl
theorem zr77 : zero? Try.prog 77 = some (.agg #[.int .i64 0, .int .i64 0, .int .i64 0, .int .i64 0]) := by kernel_rfl
theorem zr83 : zero? Try.prog 83 = some (.agg #[.int .i64 0, .int .i64 0]) := by kernel_rfl
theorem zr87 : zero? Try.prog 87 = some (.agg #[.int .i64 0, .int .i64 0, .int .i64 0, .int .i64 0, .int .i64 0]) := by kernel_rfl
theorem zr90 : zero? Try.prog 90 = some (.agg #[.int .i64 0, .int .i64 0, .int .i64 0]) := by kernel_rfl
end Go.Proofs.Ytmdmpapdjgcchaa
