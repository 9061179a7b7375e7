/- Closed facts of the program: sizes, offsets and zero values of its types. -/
import Derived.Test.YtnngpblegbjfdaaProg
import Derived.Test.YtnngpblegbjfdaaFacts
namespace Go.Proofs.Ytnngpblegbjfdaa
open Go

theorem mixed : Try.prog.follows .mixedOrders = true := by kernel_rfl
theorem el23 : elem? Try.prog 23 = some (.slice none 0 0, 1, 24) := by kernel_rfl
theorem el3 : elem? Try.prog 3 = some (.int .i64 0, 1, 8) := by kernel_rfl
theorem el4 : elem? Try.prog 4 = some (.bool false, 1, 1) := by kernel_rfl
theorem el48 : elem? Try.prog 48 = some (.agg #[.int .i64 0, .int .i64 0, .int .i64 0, .int .i64 0], 4, 32) := by kernel_rfl
theorem el52 : elem? Try.prog 52 = some (.agg #[.int .i64 0, .int .i64 0], 2, 16) := by kernel_rfl
theorem el55 : elem? Try.prog 55 = some (.slice none 0 0, 1, 24) := by kernel_rfl
theorem el57 : elem? Try.prog 57 = some (.agg #[.int .i64 0, .int .i64 0], 2, 16) := by kernel_rfl
theorem el73 : elem? Try.prog 73 = some (.slice none 0 0, 1, 24) := by kernel_rfl
theorem fo25_0 : fieldOff Try.prog 25 0 = some 0 := by kernel_rfl
theorem fo25_1 : fieldOff Try.prog 25 1 = some 1 := by kernel_rfl
theorem fo25_2 : fieldOff Try.prog 25 2 = some 2 := by kernel_rfl
theorem fo31_0 : fieldOff Try.prog 31 0 = some 0 := by kernel_rfl
theorem fo31_1 : fieldOff Try.prog 31 1 = some 1 := by kernel_rfl
theorem fo31_2 : fieldOff Try.prog 31 2 = some 2 := by kernel_rfl
theorem fo48_0 : fieldOff Try.prog 48 0 = some 0 := by kernel_rfl
theorem fo48_1 : fieldOff Try.prog 48 1 = some 1 := by kernel_rfl
theorem fo48_2 : fieldOff Try.prog 48 2 = some 2 := by kernel_rfl
theorem fo48_3 : fieldOff Try.prog 48 3 = some 3 := by kernel_rfl
theorem fo57_0 : fieldOff Try.prog 57 0 = some 0 := by kernel_rfl
theorem fo57_1 : fieldOff Try.prog 57 1 = some 1 := by kernel_rfl
theorem fo79_0 : fieldOff Try.prog 79 0 = some 0 := by kernel_rfl
theorem fo79_1 : fieldOff Try.prog 79 1 = some 1 := by kernel_rfl
theorem one107 : one? Try.prog 107 = true := by kernel_rfl
theorem one22 : one? Try.prog 22 = true := by kernel_rfl
theorem one23 : one? Try.prog 23 = true := by kernel_rfl
theorem one29 : one? Try.prog 29 = true := by kernel_rfl
theorem one3 : one? Try.prog 3 = true := by kernel_rfl
theorem one4 : one? Try.prog 4 = true := by kernel_rfl
theorem one55 : one? Try.prog 55 = true := by kernel_rfl
theorem one60 : one? Try.prog 60 = true := by kernel_rfl
theorem one73 : one? Try.prog 73 = true := by kernel_rfl
theorem pr57 : pairT Try.prog 57 = true := by kernel_rfl
theorem sn48_4 : structN Try.prog 48 4 = true := by kernel_rfl
theorem sn57_2 : structN Try.prog 57 2 = true := by kernel_rfl
theorem st25 : structOf Try.prog 25 = true := by kernel_rfl
theorem st31 : structOf Try.prog 31 = true := by kernel_rfl
theorem st48 : structOf Try.prog 48 = true := by kernel_rfl
theorem st57 : structOf Try.prog 57 = true := by kernel_rfl
theorem st79 : structOf Try.prog 79 = true := by kernel_rfl
theorem sz107 : size? Try.prog 107 = some 1 := by kernel_rfl
theorem sz2 : size? Try.prog 2 = some 1 := by kernel_rfl
theorem sz22 : size? Try.prog 22 = some 1 := by kernel_rfl
theorem sz23 : size? Try.prog 23 = some 1 := by kernel_rfl
theorem sz25 : size? Try.prog 25 = some 3 := by kernel_rfl
theorem sz29 : size? Try.prog 29 = some 1 := by kernel_rfl
theorem sz3 : size? Try.prog 3 = some 1 := by kernel_rfl
theorem sz31 : size? Try.prog 31 = some 3 := by kernel_rfl
theorem sz4 : size? Try.prog 4 = some 1 := by kernel_rfl
theorem sz48 : size? Try.prog 48 = some 4 := by kernel_rfl
theorem sz52 : size? Try.prog 52 = some 2 := by kernel_rfl
theorem sz55 : size? Try.prog 55 = some 1 := by kernel_rfl
theorem sz57 : size? Try.prog 57 = some 2 := by kernel_rfl
theorem sz60 : size? Try.prog 60 = some 1 := by kernel_rfl
theorem sz73 : size? Try.prog 73 = some 1 := by kernel_rfl
theorem sz79 : size? Try.prog 79 = some 2 := by kernel_rfl
theorem zr107 : zero? Try.prog 107 = some (.int .u64 0) := by kernel_rfl
theorem zr3 : zero? Try.prog 3 = some (.int .i64 0) := by kernel_rfl
theorem zr31 : zero? Try.prog 31 = some (.agg #[.slice none 0 0, .slice none 0 0, .slice none 0 0]) := by kernel_rfl
theorem zr48 : zero? Try.prog 48 = some (.agg #[.int .i64 0, .int .i64 0, .int .i64 0, .int .i64 0]) := by kernel_rfl
theorem zr52 : zero? Try.prog 52 = some (.agg #[.int .i64 0, .int .i64 0]) := by kernel_rfl
theorem zr57 : zero? Try.prog 57 = some (.agg #[.int .i64 0, .int .i64 0]) := by kernel_rfl
end Go.Proofs.Ytnngpblegbjfdaa
