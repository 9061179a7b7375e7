/- Closed facts of the program: sizes, offsets and zero values of its types. -/
import Derived.Test.YtebjcbgencenbaaProg
import Derived.Test.YtebjcbgencenbaaFacts
namespace Go.Proofs.Ytebjcbgencenbaa
open Go

theorem mixed : Try.prog.follows .mixedOrders = true := by kernel_rfl
theorem el101 : elem? Try.prog 101 = some (.agg #[.int .i64 0, .slice none 0 0, .int .i64 0], 3, 40) := by kernel_rfl
theorem el103 : elem? Try.prog 103 = some (.slice none 0 0, 1, 24) := by kernel_rfl
theorem el105 : elem? Try.prog 105 = some (.agg #[.int .i64 0, .int .i64 0], 2, 16) := by kernel_rfl
theorem el24 : elem? Try.prog 24 = some (.slice none 0 0, 1, 24) := by kernel_rfl
theorem el3 : elem? Try.prog 3 = some (.int .i64 0, 1, 8) := by kernel_rfl
theorem el5 : elem? Try.prog 5 = some (.int .u8 0, 1, 1) := by kernel_rfl
theorem fo101_0 : fieldOff Try.prog 101 0 = some 0 := by kernel_rfl
theorem fo101_1 : fieldOff Try.prog 101 1 = some 1 := by kernel_rfl
theorem fo101_2 : fieldOff Try.prog 101 2 = some 2 := by kernel_rfl
theorem fo105_0 : fieldOff Try.prog 105 0 = some 0 := by kernel_rfl
theorem fo105_1 : fieldOff Try.prog 105 1 = some 1 := by kernel_rfl
theorem fo118_0 : fieldOff Try.prog 118 0 = some 0 := by kernel_rfl
theorem fo118_1 : fieldOff Try.prog 118 1 = some 1 := by kernel_rfl
theorem fo26_0 : fieldOff Try.prog 26 0 = some 0 := by kernel_rfl
theorem fo26_1 : fieldOff Try.prog 26 1 = some 1 := by kernel_rfl
theorem fo26_2 : fieldOff Try.prog 26 2 = some 2 := by kernel_rfl
theorem fo26_3 : fieldOff Try.prog 26 3 = some 3 := by kernel_rfl
theorem fo26_4 : fieldOff Try.prog 26 4 = some 4 := by kernel_rfl
theorem fo26_5 : fieldOff Try.prog 26 5 = some 5 := by kernel_rfl
theorem fo26_6 : fieldOff Try.prog 26 6 = some 6 := by kernel_rfl
theorem fo29_0 : fieldOff Try.prog 29 0 = some 0 := by kernel_rfl
theorem fo29_1 : fieldOff Try.prog 29 1 = some 1 := by kernel_rfl
theorem fo29_2 : fieldOff Try.prog 29 2 = some 2 := by kernel_rfl
theorem fo36_0 : fieldOff Try.prog 36 0 = some 0 := by kernel_rfl
theorem fo36_1 : fieldOff Try.prog 36 1 = some 1 := by kernel_rfl
theorem fo36_2 : fieldOff Try.prog 36 2 = some 2 := by kernel_rfl
theorem fo36_3 : fieldOff Try.prog 36 3 = some 3 := by kernel_rfl
theorem fo36_4 : fieldOff Try.prog 36 4 = some 4 := by kernel_rfl
theorem fo36_5 : fieldOff Try.prog 36 5 = some 5 := by kernel_rfl
theorem fo36_6 : fieldOff Try.prog 36 6 = some 6 := by kernel_rfl
theorem fo40_0 : fieldOff Try.prog 40 0 = some 0 := by kernel_rfl
theorem fo40_1 : fieldOff Try.prog 40 1 = some 1 := by kernel_rfl
theorem fo40_2 : fieldOff Try.prog 40 2 = some 2 := by kernel_rfl
theorem fo98_0 : fieldOff Try.prog 98 0 = some 0 := by kernel_rfl
theorem fo98_1 : fieldOff Try.prog 98 1 = some 1 := by kernel_rfl
theorem fo98_2 : fieldOff Try.prog 98 2 = some 2 := by kernel_rfl
theorem one100 : one? Try.prog 100 = true := by kernel_rfl
theorem one103 : one? Try.prog 103 = true := by kernel_rfl
theorem one138 : one? Try.prog 138 = true := by kernel_rfl
theorem one22 : one? Try.prog 22 = true := by kernel_rfl
theorem one23 : one? Try.prog 23 = true := by kernel_rfl
theorem one24 : one? Try.prog 24 = true := by kernel_rfl
theorem one27 : one? Try.prog 27 = true := by kernel_rfl
theorem one3 : one? Try.prog 3 = true := by kernel_rfl
theorem one34 : one? Try.prog 34 = true := by kernel_rfl
theorem one38 : one? Try.prog 38 = true := by kernel_rfl
theorem one5 : one? Try.prog 5 = true := by kernel_rfl
theorem pr105 : pairT Try.prog 105 = true := by kernel_rfl
theorem sn105_2 : structN Try.prog 105 2 = true := by kernel_rfl
theorem st101 : structOf Try.prog 101 = true := by kernel_rfl
theorem st105 : structOf Try.prog 105 = true := by kernel_rfl
theorem st118 : structOf Try.prog 118 = true := by kernel_rfl
theorem st26 : structOf Try.prog 26 = true := by kernel_rfl
theorem st29 : structOf Try.prog 29 = true := by kernel_rfl
theorem st36 : structOf Try.prog 36 = true := by kernel_rfl
theorem st40 : structOf Try.prog 40 = true := by kernel_rfl
theorem st98 : structOf Try.prog 98 = true := by kernel_rfl
theorem sz100 : size? Try.prog 100 = some 1 := by kernel_rfl
theorem sz101 : size? Try.prog 101 = some 3 := by kernel_rfl
theorem sz103 : size? Try.prog 103 = some 1 := by kernel_rfl
theorem sz105 : size? Try.prog 105 = some 2 := by kernel_rfl
theorem sz118 : size? Try.prog 118 = some 2 := by kernel_rfl
theorem sz138 : size? Try.prog 138 = some 1 := by kernel_rfl
theorem sz22 : size? Try.prog 22 = some 1 := by kernel_rfl
theorem sz23 : size? Try.prog 23 = some 1 := by kernel_rfl
theorem sz24 : size? Try.prog 24 = some 1 := by kernel_rfl
theorem sz26 : size? Try.prog 26 = some 7 := by kernel_rfl
theorem sz27 : size? Try.prog 27 = some 1 := by kernel_rfl
theorem sz29 : size? Try.prog 29 = some 3 := by kernel_rfl
theorem sz3 : size? Try.prog 3 = some 1 := by kernel_rfl
theorem sz34 : size? Try.prog 34 = some 1 := by kernel_rfl
theorem sz36 : size? Try.prog 36 = some 7 := by kernel_rfl
theorem sz38 : size? Try.prog 38 = some 1 := by kernel_rfl
theorem sz40 : size? Try.prog 40 = some 3 := by kernel_rfl
theorem sz5 : size? Try.prog 5 = some 1 := by kernel_rfl
theorem sz98 : size? Try.prog 98 = some 3 := by kernel_rfl
theorem zr101 : zero? Try.prog 101 = some (.agg #[.int .i64 0, .slice none 0 0, .int .i64 0]) := by kernel_rfl
theorem zr105 : zero? Try.prog 105 = some (.agg #[.int .i64 0, .int .i64 0]) := by kernel_rfl
theorem zr138 : zero? Try.prog 138 = some (.int .u64 0) := by kernel_rfl
theorem zr3 : zero? Try.prog 3 = some (.int .i64 0) := by kernel_rfl
theorem zr36 : zero? Try.prog 36 = some (.agg #[.int .i64 0, .int .i64 0, .int .i64 0, .slice none 0 0, .slice none 0 0, .slice none 0 0, .slice none 0 0]) := by kernel_rfl
theorem zr40 : zero? Try.prog 40 = some (.agg #[.slice none 0 0, .slice none 0 0, .slice none 0 0]) := by kernel_rfl
end Go.Proofs.Ytebjcbgencenbaa
