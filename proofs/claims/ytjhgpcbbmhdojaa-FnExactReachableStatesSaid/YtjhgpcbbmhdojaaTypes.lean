/- Closed facts of the program: sizes, offsets and zero values of its types. -/
import Derived.Test.YtjhgpcbbmhdojaaProg
import Derived.Test.YtjhgpcbbmhdojaaFacts
namespace Go.Proofs.Ytjhgpcbbmhdojaa
open Go

theorem mixed : Try.prog.follows .mixedOrders = true := by kernel_rfl
theorem el127 : elem? Try.prog 127 = some (.slice none 0 0, 1, 24) := by kernel_rfl
theorem el138 : elem? Try.prog 138 = some (.agg #[.int .i64 0, .int .i64 0], 2, 16) := by kernel_rfl
theorem el3 : elem? Try.prog 3 = some (.int .i64 0, 1, 8) := by kernel_rfl
theorem el33 : elem? Try.prog 33 = some (.slice none 0 0, 1, 24) := by kernel_rfl
theorem el4 : elem? Try.prog 4 = some (.bool false, 1, 1) := by kernel_rfl
theorem el71 : elem? Try.prog 71 = some (.agg #[.int .i64 0, .int .i64 0], 2, 16) := by kernel_rfl
theorem el84 : elem? Try.prog 84 = some (.agg #[.int .i64 0, .slice none 0 0, .int .i64 0], 3, 40) := by kernel_rfl
theorem fo103_0 : fieldOff Try.prog 103 0 = some 0 := by kernel_rfl
theorem fo103_1 : fieldOff Try.prog 103 1 = some 1 := by kernel_rfl
theorem fo103_2 : fieldOff Try.prog 103 2 = some 2 := by kernel_rfl
theorem fo103_3 : fieldOff Try.prog 103 3 = some 3 := by kernel_rfl
theorem fo103_4 : fieldOff Try.prog 103 4 = some 4 := by kernel_rfl
theorem fo105_0 : fieldOff Try.prog 105 0 = some 0 := by kernel_rfl
theorem fo105_1 : fieldOff Try.prog 105 1 = some 1 := by kernel_rfl
theorem fo105_2 : fieldOff Try.prog 105 2 = some 2 := by kernel_rfl
theorem fo105_3 : fieldOff Try.prog 105 3 = some 3 := by kernel_rfl
theorem fo105_4 : fieldOff Try.prog 105 4 = some 4 := by kernel_rfl
theorem fo118_0 : fieldOff Try.prog 118 0 = some 0 := by kernel_rfl
theorem fo118_1 : fieldOff Try.prog 118 1 = some 1 := by kernel_rfl
theorem fo118_2 : fieldOff Try.prog 118 2 = some 2 := by kernel_rfl
theorem fo138_0 : fieldOff Try.prog 138 0 = some 0 := by kernel_rfl
theorem fo138_1 : fieldOff Try.prog 138 1 = some 1 := by kernel_rfl
theorem fo146_0 : fieldOff Try.prog 146 0 = some 0 := by kernel_rfl
theorem fo146_1 : fieldOff Try.prog 146 1 = some 1 := by kernel_rfl
theorem fo35_0 : fieldOff Try.prog 35 0 = some 0 := by kernel_rfl
theorem fo35_1 : fieldOff Try.prog 35 1 = some 1 := by kernel_rfl
theorem fo35_2 : fieldOff Try.prog 35 2 = some 2 := by kernel_rfl
theorem fo35_3 : fieldOff Try.prog 35 3 = some 3 := by kernel_rfl
theorem fo35_4 : fieldOff Try.prog 35 4 = some 4 := by kernel_rfl
theorem fo35_5 : fieldOff Try.prog 35 5 = some 5 := by kernel_rfl
theorem fo35_6 : fieldOff Try.prog 35 6 = some 6 := by kernel_rfl
theorem fo40_0 : fieldOff Try.prog 40 0 = some 0 := by kernel_rfl
theorem fo40_1 : fieldOff Try.prog 40 1 = some 1 := by kernel_rfl
theorem fo40_2 : fieldOff Try.prog 40 2 = some 2 := by kernel_rfl
theorem fo40_3 : fieldOff Try.prog 40 3 = some 3 := by kernel_rfl
theorem fo40_4 : fieldOff Try.prog 40 4 = some 4 := by kernel_rfl
theorem fo40_5 : fieldOff Try.prog 40 5 = some 5 := by kernel_rfl
theorem fo40_6 : fieldOff Try.prog 40 6 = some 6 := by kernel_rfl
theorem fo55_0 : fieldOff Try.prog 55 0 = some 0 := by kernel_rfl
theorem fo55_1 : fieldOff Try.prog 55 1 = some 1 := by kernel_rfl
theorem fo55_2 : fieldOff Try.prog 55 2 = some 2 := by kernel_rfl
theorem fo60_0 : fieldOff Try.prog 60 0 = some 0 := by kernel_rfl
theorem fo60_1 : fieldOff Try.prog 60 1 = some 1 := by kernel_rfl
theorem fo60_2 : fieldOff Try.prog 60 2 = some 2 := by kernel_rfl
theorem fo71_0 : fieldOff Try.prog 71 0 = some 0 := by kernel_rfl
theorem fo71_1 : fieldOff Try.prog 71 1 = some 1 := by kernel_rfl
theorem fo73_0 : fieldOff Try.prog 73 0 = some 0 := by kernel_rfl
theorem fo73_1 : fieldOff Try.prog 73 1 = some 1 := by kernel_rfl
theorem fo84_0 : fieldOff Try.prog 84 0 = some 0 := by kernel_rfl
theorem fo84_1 : fieldOff Try.prog 84 1 = some 1 := by kernel_rfl
theorem fo84_2 : fieldOff Try.prog 84 2 = some 2 := by kernel_rfl
theorem one126 : one? Try.prog 126 = true := by kernel_rfl
theorem one127 : one? Try.prog 127 = true := by kernel_rfl
theorem one166 : one? Try.prog 166 = true := by kernel_rfl
theorem one3 : one? Try.prog 3 = true := by kernel_rfl
theorem one31 : one? Try.prog 31 = true := by kernel_rfl
theorem one32 : one? Try.prog 32 = true := by kernel_rfl
theorem one33 : one? Try.prog 33 = true := by kernel_rfl
theorem one38 : one? Try.prog 38 = true := by kernel_rfl
theorem one4 : one? Try.prog 4 = true := by kernel_rfl
theorem one53 : one? Try.prog 53 = true := by kernel_rfl
theorem one58 : one? Try.prog 58 = true := by kernel_rfl
theorem pr138 : pairT Try.prog 138 = true := by kernel_rfl
theorem sn103_5 : structN Try.prog 103 5 = true := by kernel_rfl
theorem sn105_5 : structN Try.prog 105 5 = true := by kernel_rfl
theorem sn138_2 : structN Try.prog 138 2 = true := by kernel_rfl
theorem st103 : structOf Try.prog 103 = true := by kernel_rfl
theorem st105 : structOf Try.prog 105 = true := by kernel_rfl
theorem st118 : structOf Try.prog 118 = true := by kernel_rfl
theorem st138 : structOf Try.prog 138 = true := by kernel_rfl
theorem st146 : structOf Try.prog 146 = true := by kernel_rfl
theorem st35 : structOf Try.prog 35 = true := by kernel_rfl
theorem st40 : structOf Try.prog 40 = true := by kernel_rfl
theorem st55 : structOf Try.prog 55 = true := by kernel_rfl
theorem st60 : structOf Try.prog 60 = true := by kernel_rfl
theorem st71 : structOf Try.prog 71 = true := by kernel_rfl
theorem st73 : structOf Try.prog 73 = true := by kernel_rfl
theorem st84 : structOf Try.prog 84 = true := by kernel_rfl
theorem sz103 : size? Try.prog 103 = some 5 := by kernel_rfl
theorem sz105 : size? Try.prog 105 = some 5 := by kernel_rfl
theorem sz118 : size? Try.prog 118 = some 3 := by kernel_rfl
theorem sz126 : size? Try.prog 126 = some 1 := by kernel_rfl
theorem sz127 : size? Try.prog 127 = some 1 := by kernel_rfl
theorem sz138 : size? Try.prog 138 = some 2 := by kernel_rfl
theorem sz146 : size? Try.prog 146 = some 2 := by kernel_rfl
theorem sz166 : size? Try.prog 166 = some 1 := by kernel_rfl
theorem sz3 : size? Try.prog 3 = some 1 := by kernel_rfl
theorem sz31 : size? Try.prog 31 = some 1 := by kernel_rfl
theorem sz32 : size? Try.prog 32 = some 1 := by kernel_rfl
theorem sz33 : size? Try.prog 33 = some 1 := by kernel_rfl
theorem sz35 : size? Try.prog 35 = some 7 := by kernel_rfl
theorem sz38 : size? Try.prog 38 = some 1 := by kernel_rfl
theorem sz4 : size? Try.prog 4 = some 1 := by kernel_rfl
theorem sz40 : size? Try.prog 40 = some 7 := by kernel_rfl
theorem sz53 : size? Try.prog 53 = some 1 := by kernel_rfl
theorem sz55 : size? Try.prog 55 = some 3 := by kernel_rfl
theorem sz58 : size? Try.prog 58 = some 1 := by kernel_rfl
theorem sz60 : size? Try.prog 60 = some 3 := by kernel_rfl
theorem sz71 : size? Try.prog 71 = some 2 := by kernel_rfl
theorem sz73 : size? Try.prog 73 = some 2 := by kernel_rfl
theorem sz84 : size? Try.prog 84 = some 3 := by kernel_rfl
theorem zr138 : zero? Try.prog 138 = some (.agg #[.int .i64 0, .int .i64 0]) := by kernel_rfl
theorem zr166 : zero? Try.prog 166 = some (.int .u64 0) := by kernel_rfl
theorem zr3 : zero? Try.prog 3 = some (.int .i64 0) := by kernel_rfl
theorem zr31 : zero? Try.prog 31 = some (.slice none 0 0) := by kernel_rfl
theorem zr40 : zero? Try.prog 40 = some (.agg #[.int .i64 0, .int .i64 0, .int .i64 0, .slice none 0 0, .slice none 0 0, .slice none 0 0, .slice none 0 0]) := by kernel_rfl
theorem zr60 : zero? Try.prog 60 = some (.agg #[.slice none 0 0, .slice none 0 0, .slice none 0 0]) := by kernel_rfl
theorem zr71 : zero? Try.prog 71 = some (.agg #[.int .i64 0, .int .i64 0]) := by kernel_rfl
theorem zr84 : zero? Try.prog 84 = some (.agg #[.int .i64 0, .slice none 0 0, .int .i64 0]) := by kernel_rfl
end Go.Proofs.Ytjhgpcbbmhdojaa
