/- Closed facts of the program: sizes, offsets and zero values of its types. -/
import Derived.Test.YtjnkkadbfigmpaaProg
import Derived.Test.YtjnkkadbfigmpaaFacts
namespace Go.Proofs.Ytjnkkadbfigmpaa
open Go

theorem mixed : Try.prog.follows .mixedOrders = true := by kernel_rfl
theorem el104 : elem? Try.prog 104 = some (.agg #[.int .i64 0, .int .i64 0], 2, 16) := by kernel_rfl
theorem el23 : elem? Try.prog 23 = some (.slice none 0 0, 1, 24) := by kernel_rfl
theorem el3 : elem? Try.prog 3 = some (.int .i64 0, 1, 8) := by kernel_rfl
theorem el76 : elem? Try.prog 76 = some (.slice none 0 0, 1, 24) := by kernel_rfl
theorem el92 : elem? Try.prog 92 = some (.agg #[.int .i64 0, .int .i64 0], 2, 16) := by kernel_rfl
theorem fo104_0 : fieldOff Try.prog 104 0 = some 0 := by kernel_rfl
theorem fo104_1 : fieldOff Try.prog 104 1 = some 1 := by kernel_rfl
theorem fo123_0 : fieldOff Try.prog 123 0 = some 0 := by kernel_rfl
theorem fo123_1 : fieldOff Try.prog 123 1 = some 1 := by kernel_rfl
theorem fo25_0 : fieldOff Try.prog 25 0 = some 0 := by kernel_rfl
theorem fo25_1 : fieldOff Try.prog 25 1 = some 1 := by kernel_rfl
theorem fo25_2 : fieldOff Try.prog 25 2 = some 2 := by kernel_rfl
theorem fo31_0 : fieldOff Try.prog 31 0 = some 0 := by kernel_rfl
theorem fo31_1 : fieldOff Try.prog 31 1 = some 1 := by kernel_rfl
theorem fo31_2 : fieldOff Try.prog 31 2 = some 2 := by kernel_rfl
theorem fo90_0 : fieldOff Try.prog 90 0 = some 0 := by kernel_rfl
theorem fo90_1 : fieldOff Try.prog 90 1 = some 1 := by kernel_rfl
theorem fo90_2 : fieldOff Try.prog 90 2 = some 2 := by kernel_rfl
theorem fo90_3 : fieldOff Try.prog 90 3 = some 3 := by kernel_rfl
theorem fo90_4 : fieldOff Try.prog 90 4 = some 4 := by kernel_rfl
theorem fo92_0 : fieldOff Try.prog 92 0 = some 0 := by kernel_rfl
theorem fo92_1 : fieldOff Try.prog 92 1 = some 1 := by kernel_rfl
theorem fo94_0 : fieldOff Try.prog 94 0 = some 0 := by kernel_rfl
theorem fo94_1 : fieldOff Try.prog 94 1 = some 1 := by kernel_rfl
theorem fo97_0 : fieldOff Try.prog 97 0 = some 0 := by kernel_rfl
theorem fo97_1 : fieldOff Try.prog 97 1 = some 1 := by kernel_rfl
theorem fo97_2 : fieldOff Try.prog 97 2 = some 2 := by kernel_rfl
theorem fo97_3 : fieldOff Try.prog 97 3 = some 3 := by kernel_rfl
theorem fo97_4 : fieldOff Try.prog 97 4 = some 4 := by kernel_rfl
theorem one101 : one? Try.prog 101 = true := by kernel_rfl
theorem one151 : one? Try.prog 151 = true := by kernel_rfl
theorem one22 : one? Try.prog 22 = true := by kernel_rfl
theorem one23 : one? Try.prog 23 = true := by kernel_rfl
theorem one29 : one? Try.prog 29 = true := by kernel_rfl
theorem one3 : one? Try.prog 3 = true := by kernel_rfl
theorem one76 : one? Try.prog 76 = true := by kernel_rfl
theorem pr104 : pairT Try.prog 104 = true := by kernel_rfl
theorem sn104_2 : structN Try.prog 104 2 = true := by kernel_rfl
theorem sn31_3 : structN Try.prog 31 3 = true := by kernel_rfl
theorem sn90_5 : structN Try.prog 90 5 = true := by kernel_rfl
theorem sn97_5 : structN Try.prog 97 5 = true := by kernel_rfl
theorem st104 : structOf Try.prog 104 = true := by kernel_rfl
theorem st123 : structOf Try.prog 123 = true := by kernel_rfl
theorem st25 : structOf Try.prog 25 = true := by kernel_rfl
theorem st31 : structOf Try.prog 31 = true := by kernel_rfl
theorem st90 : structOf Try.prog 90 = true := by kernel_rfl
theorem st92 : structOf Try.prog 92 = true := by kernel_rfl
theorem st94 : structOf Try.prog 94 = true := by kernel_rfl
theorem st97 : structOf Try.prog 97 = true := by kernel_rfl
theorem sz101 : size? Try.prog 101 = some 1 := by kernel_rfl
theorem sz104 : size? Try.prog 104 = some 2 := by kernel_rfl
theorem sz114 : size? Try.prog 114 = some 14 := by kernel_rfl
theorem sz123 : size? Try.prog 123 = some 2 := by kernel_rfl
theorem sz14 : size? Try.prog 14 = some 2 := by kernel_rfl
theorem sz151 : size? Try.prog 151 = some 1 := by kernel_rfl
theorem sz22 : size? Try.prog 22 = some 1 := by kernel_rfl
theorem sz23 : size? Try.prog 23 = some 1 := by kernel_rfl
theorem sz25 : size? Try.prog 25 = some 3 := by kernel_rfl
theorem sz29 : size? Try.prog 29 = some 1 := by kernel_rfl
theorem sz3 : size? Try.prog 3 = some 1 := by kernel_rfl
theorem sz31 : size? Try.prog 31 = some 3 := by kernel_rfl
theorem sz76 : size? Try.prog 76 = some 1 := by kernel_rfl
theorem sz90 : size? Try.prog 90 = some 5 := by kernel_rfl
theorem sz92 : size? Try.prog 92 = some 2 := by kernel_rfl
theorem sz94 : size? Try.prog 94 = some 2 := by kernel_rfl
theorem sz97 : size? Try.prog 97 = some 5 := by kernel_rfl
theorem zr104 : zero? Try.prog 104 = some (.agg #[.int .i64 0, .int .i64 0]) := by kernel_rfl
theorem zr114 : zero? Try.prog 114 = some (.agg #[.int .i64 0, .int .i64 0, .int .i64 0, .int .i64 0, .int .i64 0, .int .i64 0, .int .i64 0, .int .i64 0, .int .i64 0, .int .i64 0, .int .i64 0, .int .i64 0, .int .i64 0, .int .i64 0]) := by kernel_rfl
theorem zr151 : zero? Try.prog 151 = some (.int .u64 0) := by kernel_rfl
theorem zr3 : zero? Try.prog 3 = some (.int .i64 0) := by kernel_rfl
theorem zr31 : zero? Try.prog 31 = some (.agg #[.slice none 0 0, .slice none 0 0, .slice none 0 0]) := by kernel_rfl
theorem zr92 : zero? Try.prog 92 = some (.agg #[.int .i64 0, .int .i64 0]) := by kernel_rfl
end Go.Proofs.Ytjnkkadbfigmpaa
