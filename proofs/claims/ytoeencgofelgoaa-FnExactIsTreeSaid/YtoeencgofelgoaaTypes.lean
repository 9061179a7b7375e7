/- Closed facts of the program: sizes, offsets and zero values of its types. -/
import Derived.Test.YtoeencgofelgoaaProg
import Derived.Test.YtoeencgofelgoaaFacts
namespace Go.Proofs.Ytoeencgofelgoaa
open Go

theorem mixed : Try.prog.follows .mixedOrders = true := by kernel_rfl
theorem el23 : elem? Try.prog 23 = some (.slice none 0 0, 1, 24) := by kernel_rfl
theorem el3 : elem? Try.prog 3 = some (.int .i64 0, 1, 8) := by kernel_rfl
theorem el4 : elem? Try.prog 4 = some (.bool false, 1, 1) := by kernel_rfl
theorem el66 : elem? Try.prog 66 = some (.agg #[.int .i64 0, .int .i64 0, .int .i64 0, .int .i64 0], 4, 32) := by kernel_rfl
theorem el69 : elem? Try.prog 69 = some (.agg #[.int .i64 0, .int .i64 0], 2, 16) := by kernel_rfl
theorem el72 : elem? Try.prog 72 = some (.slice none 0 0, 1, 24) := by kernel_rfl
theorem el74 : elem? Try.prog 74 = some (.agg #[.int .i64 0, .int .i64 0], 2, 16) := by kernel_rfl
theorem el97 : elem? Try.prog 97 = some (.slice none 0 0, 1, 24) := by kernel_rfl
theorem fo102_0 : fieldOff Try.prog 102 0 = some 0 := by kernel_rfl
theorem fo102_1 : fieldOff Try.prog 102 1 = some 1 := by kernel_rfl
theorem fo25_0 : fieldOff Try.prog 25 0 = some 0 := by kernel_rfl
theorem fo25_1 : fieldOff Try.prog 25 1 = some 1 := by kernel_rfl
theorem fo25_2 : fieldOff Try.prog 25 2 = some 2 := by kernel_rfl
theorem fo31_0 : fieldOff Try.prog 31 0 = some 0 := by kernel_rfl
theorem fo31_1 : fieldOff Try.prog 31 1 = some 1 := by kernel_rfl
theorem fo31_2 : fieldOff Try.prog 31 2 = some 2 := by kernel_rfl
theorem fo66_0 : fieldOff Try.prog 66 0 = some 0 := by kernel_rfl
theorem fo66_1 : fieldOff Try.prog 66 1 = some 1 := by kernel_rfl
theorem fo66_2 : fieldOff Try.prog 66 2 = some 2 := by kernel_rfl
theorem fo66_3 : fieldOff Try.prog 66 3 = some 3 := by kernel_rfl
theorem fo74_0 : fieldOff Try.prog 74 0 = some 0 := by kernel_rfl
theorem fo74_1 : fieldOff Try.prog 74 1 = some 1 := by kernel_rfl
theorem one134 : one? Try.prog 134 = true := by kernel_rfl
theorem one22 : one? Try.prog 22 = true := by kernel_rfl
theorem one23 : one? Try.prog 23 = true := by kernel_rfl
theorem one29 : one? Try.prog 29 = true := by kernel_rfl
theorem one3 : one? Try.prog 3 = true := by kernel_rfl
theorem one4 : one? Try.prog 4 = true := by kernel_rfl
theorem one72 : one? Try.prog 72 = true := by kernel_rfl
theorem one77 : one? Try.prog 77 = true := by kernel_rfl
theorem one97 : one? Try.prog 97 = true := by kernel_rfl
theorem pr74 : pairT Try.prog 74 = true := by kernel_rfl
theorem sn31_3 : structN Try.prog 31 3 = true := by kernel_rfl
theorem sn66_4 : structN Try.prog 66 4 = true := by kernel_rfl
theorem sn74_2 : structN Try.prog 74 2 = true := by kernel_rfl
theorem st102 : structOf Try.prog 102 = true := by kernel_rfl
theorem st25 : structOf Try.prog 25 = true := by kernel_rfl
theorem st31 : structOf Try.prog 31 = true := by kernel_rfl
theorem st66 : structOf Try.prog 66 = true := by kernel_rfl
theorem st74 : structOf Try.prog 74 = true := by kernel_rfl
theorem sz102 : size? Try.prog 102 = some 2 := by kernel_rfl
theorem sz134 : size? Try.prog 134 = some 1 := by kernel_rfl
theorem sz14 : size? Try.prog 14 = some 2 := by kernel_rfl
theorem sz2 : size? Try.prog 2 = some 1 := by kernel_rfl
theorem sz22 : size? Try.prog 22 = some 1 := by kernel_rfl
theorem sz23 : size? Try.prog 23 = some 1 := by kernel_rfl
theorem sz25 : size? Try.prog 25 = some 3 := by kernel_rfl
theorem sz29 : size? Try.prog 29 = some 1 := by kernel_rfl
theorem sz3 : size? Try.prog 3 = some 1 := by kernel_rfl
theorem sz31 : size? Try.prog 31 = some 3 := by kernel_rfl
theorem sz4 : size? Try.prog 4 = some 1 := by kernel_rfl
theorem sz66 : size? Try.prog 66 = some 4 := by kernel_rfl
theorem sz69 : size? Try.prog 69 = some 2 := by kernel_rfl
theorem sz72 : size? Try.prog 72 = some 1 := by kernel_rfl
theorem sz74 : size? Try.prog 74 = some 2 := by kernel_rfl
theorem sz77 : size? Try.prog 77 = some 1 := by kernel_rfl
theorem sz86 : size? Try.prog 86 = some 14 := by kernel_rfl
theorem sz97 : size? Try.prog 97 = some 1 := by kernel_rfl
theorem zr134 : zero? Try.prog 134 = some (.int .u64 0) := by kernel_rfl
theorem zr3 : zero? Try.prog 3 = some (.int .i64 0) := by kernel_rfl
theorem zr31 : zero? Try.prog 31 = some (.agg #[.slice none 0 0, .slice none 0 0, .slice none 0 0]) := by kernel_rfl
theorem zr66 : zero? Try.prog 66 = some (.agg #[.int .i64 0, .int .i64 0, .int .i64 0, .int .i64 0]) := by kernel_rfl
theorem zr74 : zero? Try.prog 74 = some (.agg #[.int .i64 0, .int .i64 0]) := by kernel_rfl
theorem zr86 : zero? Try.prog 86 = some (.agg #[.int .i64 0, .int .i64 0, .int .i64 0, .int .i64 0, .int .i64 0, .int .i64 0, .int .i64 0, .int .i64 0, .int .i64 0, .int .i64 0, .int .i64 0, .int .i64 0, .int .i64 0, .int .i64 0]) := by kernel_rfl
end Go.Proofs.Ytoeencgofelgoaa
