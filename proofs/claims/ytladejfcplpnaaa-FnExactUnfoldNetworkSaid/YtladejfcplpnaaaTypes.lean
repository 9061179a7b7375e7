/- Closed facts of the program: sizes, offsets and zero values of its types. -/
import Derived.Test.YtladejfcplpnaaaProg
import Derived.Test.YtladejfcplpnaaaFacts
namespace Go.Proofs.Ytladejfcplpnaaa
open Go

theorem mixed : Try.prog.follows .mixedOrders = true := by kernel_rfl
theorem el23 : elem? Try.prog 23 = some (.slice none 0 0, 1, 24) := by kernel_rfl
theorem el3 : elem? Try.prog 3 = some (.int .i64 0, 1, 8) := by kernel_rfl
theorem el4 : elem? Try.prog 4 = some (.bool false, 1, 1) := by kernel_rfl
theorem el56 : elem? Try.prog 56 = some (.slice none 0 0, 1, 24) := by kernel_rfl
theorem el58 : elem? Try.prog 58 = some (.agg #[.int .i64 0, .int .i64 0, .int .i64 0, .int .i64 0], 4, 32) := by kernel_rfl
theorem el61 : elem? Try.prog 61 = some (.agg #[.int .i64 0, .int .i64 0], 2, 16) := by kernel_rfl
theorem el70 : elem? Try.prog 70 = some (.agg #[.int .i64 0, .int .i64 0], 2, 16) := by kernel_rfl
theorem el74 : elem? Try.prog 74 = some (.agg #[.int .i64 0, .int .i64 0, .int .i64 0, .int .i64 0, .int .i64 0], 5, 40) := by kernel_rfl
theorem el77 : elem? Try.prog 77 = some (.agg #[.int .i64 0, .int .i64 0, .int .i64 0], 3, 24) := by kernel_rfl
theorem fo25_0 : fieldOff Try.prog 25 0 = some 0 := by kernel_rfl
theorem fo25_1 : fieldOff Try.prog 25 1 = some 1 := by kernel_rfl
theorem fo25_2 : fieldOff Try.prog 25 2 = some 2 := by kernel_rfl
theorem fo31_0 : fieldOff Try.prog 31 0 = some 0 := by kernel_rfl
theorem fo31_1 : fieldOff Try.prog 31 1 = some 1 := by kernel_rfl
theorem fo31_2 : fieldOff Try.prog 31 2 = some 2 := by kernel_rfl
theorem fo58_0 : fieldOff Try.prog 58 0 = some 0 := by kernel_rfl
theorem fo58_1 : fieldOff Try.prog 58 1 = some 1 := by kernel_rfl
theorem fo58_2 : fieldOff Try.prog 58 2 = some 2 := by kernel_rfl
theorem fo58_3 : fieldOff Try.prog 58 3 = some 3 := by kernel_rfl
theorem fo61_0 : fieldOff Try.prog 61 0 = some 0 := by kernel_rfl
theorem fo61_1 : fieldOff Try.prog 61 1 = some 1 := by kernel_rfl
theorem fo70_0 : fieldOff Try.prog 70 0 = some 0 := by kernel_rfl
theorem fo70_1 : fieldOff Try.prog 70 1 = some 1 := by kernel_rfl
theorem fo74_0 : fieldOff Try.prog 74 0 = some 0 := by kernel_rfl
theorem fo74_1 : fieldOff Try.prog 74 1 = some 1 := by kernel_rfl
theorem fo74_2 : fieldOff Try.prog 74 2 = some 2 := by kernel_rfl
theorem fo74_3 : fieldOff Try.prog 74 3 = some 3 := by kernel_rfl
theorem fo74_4 : fieldOff Try.prog 74 4 = some 4 := by kernel_rfl
theorem fo77_0 : fieldOff Try.prog 77 0 = some 0 := by kernel_rfl
theorem fo77_1 : fieldOff Try.prog 77 1 = some 1 := by kernel_rfl
theorem fo77_2 : fieldOff Try.prog 77 2 = some 2 := by kernel_rfl
theorem fo89_0 : fieldOff Try.prog 89 0 = some 0 := by kernel_rfl
theorem fo89_1 : fieldOff Try.prog 89 1 = some 1 := by kernel_rfl
theorem one108 : one? Try.prog 108 = true := by kernel_rfl
theorem one22 : one? Try.prog 22 = true := by kernel_rfl
theorem one23 : one? Try.prog 23 = true := by kernel_rfl
theorem one29 : one? Try.prog 29 = true := by kernel_rfl
theorem one3 : one? Try.prog 3 = true := by kernel_rfl
theorem one4 : one? Try.prog 4 = true := by kernel_rfl
theorem one56 : one? Try.prog 56 = true := by kernel_rfl
theorem one80 : one? Try.prog 80 = true := by kernel_rfl
theorem pr61 : pairT Try.prog 61 = true := by kernel_rfl
theorem sn31_3 : structN Try.prog 31 3 = true := by kernel_rfl
theorem sn58_4 : structN Try.prog 58 4 = true := by kernel_rfl
theorem sn61_2 : structN Try.prog 61 2 = true := by kernel_rfl
theorem sn70_2 : structN Try.prog 70 2 = true := by kernel_rfl
theorem sn74_5 : structN Try.prog 74 5 = true := by kernel_rfl
theorem sn77_3 : structN Try.prog 77 3 = true := by kernel_rfl
theorem st25 : structOf Try.prog 25 = true := by kernel_rfl
theorem st31 : structOf Try.prog 31 = true := by kernel_rfl
theorem st58 : structOf Try.prog 58 = true := by kernel_rfl
theorem st61 : structOf Try.prog 61 = true := by kernel_rfl
theorem st70 : structOf Try.prog 70 = true := by kernel_rfl
theorem st74 : structOf Try.prog 74 = true := by kernel_rfl
theorem st77 : structOf Try.prog 77 = true := by kernel_rfl
theorem st89 : structOf Try.prog 89 = true := by kernel_rfl
theorem sz108 : size? Try.prog 108 = some 1 := by kernel_rfl
theorem sz22 : size? Try.prog 22 = some 1 := by kernel_rfl
theorem sz23 : size? Try.prog 23 = some 1 := by kernel_rfl
theorem sz25 : size? Try.prog 25 = some 3 := by kernel_rfl
theorem sz29 : size? Try.prog 29 = some 1 := by kernel_rfl
theorem sz3 : size? Try.prog 3 = some 1 := by kernel_rfl
theorem sz31 : size? Try.prog 31 = some 3 := by kernel_rfl
theorem sz4 : size? Try.prog 4 = some 1 := by kernel_rfl
theorem sz56 : size? Try.prog 56 = some 1 := by kernel_rfl
theorem sz58 : size? Try.prog 58 = some 4 := by kernel_rfl
theorem sz61 : size? Try.prog 61 = some 2 := by kernel_rfl
theorem sz70 : size? Try.prog 70 = some 2 := by kernel_rfl
theorem sz74 : size? Try.prog 74 = some 5 := by kernel_rfl
theorem sz77 : size? Try.prog 77 = some 3 := by kernel_rfl
theorem sz80 : size? Try.prog 80 = some 1 := by kernel_rfl
theorem sz89 : size? Try.prog 89 = some 2 := by kernel_rfl
theorem zr108 : zero? Try.prog 108 = some (.int .u64 0) := by kernel_rfl
theorem zr3 : zero? Try.prog 3 = some (.int .i64 0) := by kernel_rfl
theorem zr31 : zero? Try.prog 31 = some (.agg #[.slice none 0 0, .slice none 0 0, .slice none 0 0]) := by kernel_rfl
theorem zr58 : zero? Try.prog 58 = some (.agg #[.int .i64 0, .int .i64 0, .int .i64 0, .int .i64 0]) := by kernel_rfl
theorem zr61 : zero? Try.prog 61 = some (.agg #[.int .i64 0, .int .i64 0]) := by kernel_rfl
theorem zr70 : zero? Try.prog 70 = some (.agg #[.int .i64 0, .int .i64 0]) := by kernel_rfl
theorem zr74 : zero? Try.prog 74 = some (.agg #[.int .i64 0, .int .i64 0, .int .i64 0, .int .i64 0, .int .i64 0]) := by kernel_rfl
theorem zr77 : zero? Try.prog 77 = some (.agg #[.int .i64 0, .int .i64 0, .int .i64 0]) := by kernel_rfl
end Go.Proofs.Ytladejfcplpnaaa
