/- Closed facts of the program: sizes, offsets and zero values of its types. -/
import Derived.Test.YtebjcbgencenbaaGreatProg
import Derived.Test.YtebjcbgencenbaaGreatFacts
namespace Go.Proofs.YtebjcbgencenbaaGreat
open Go

theorem mixed : Tryz.prog.follows .mixedOrders = true := by kernel_rfl
theorem el24 : elem? Tryz.prog 24 = some (.slice none 0 0, 1, 24) := by kernel_rfl
theorem el3 : elem? Tryz.prog 3 = some (.int .i64 0, 1, 8) := by kernel_rfl
theorem el78 : elem? Tryz.prog 78 = some (.agg #[.int .i64 0, .slice none 0 0, .int .i64 0], 3, 40) := by kernel_rfl
theorem el80 : elem? Tryz.prog 80 = some (.slice none 0 0, 1, 24) := by kernel_rfl
theorem el89 : elem? Tryz.prog 89 = some (.agg #[.int .i64 0, .int .i64 0], 2, 16) := by kernel_rfl
theorem fo26_0 : fieldOff Tryz.prog 26 0 = some 0 := by kernel_rfl
theorem fo26_1 : fieldOff Tryz.prog 26 1 = some 1 := by kernel_rfl
theorem fo26_2 : fieldOff Tryz.prog 26 2 = some 2 := by kernel_rfl
theorem fo26_3 : fieldOff Tryz.prog 26 3 = some 3 := by kernel_rfl
theorem fo26_4 : fieldOff Tryz.prog 26 4 = some 4 := by kernel_rfl
theorem fo26_5 : fieldOff Tryz.prog 26 5 = some 5 := by kernel_rfl
theorem fo26_6 : fieldOff Tryz.prog 26 6 = some 6 := by kernel_rfl
theorem fo29_0 : fieldOff Tryz.prog 29 0 = some 0 := by kernel_rfl
theorem fo29_1 : fieldOff Tryz.prog 29 1 = some 1 := by kernel_rfl
theorem fo29_2 : fieldOff Tryz.prog 29 2 = some 2 := by kernel_rfl
theorem fo36_0 : fieldOff Tryz.prog 36 0 = some 0 := by kernel_rfl
theorem fo36_1 : fieldOff Tryz.prog 36 1 = some 1 := by kernel_rfl
theorem fo36_2 : fieldOff Tryz.prog 36 2 = some 2 := by kernel_rfl
theorem fo36_3 : fieldOff Tryz.prog 36 3 = some 3 := by kernel_rfl
theorem fo36_4 : fieldOff Tryz.prog 36 4 = some 4 := by kernel_rfl
theorem fo36_5 : fieldOff Tryz.prog 36 5 = some 5 := by kernel_rfl
theorem fo36_6 : fieldOff Tryz.prog 36 6 = some 6 := by kernel_rfl
theorem fo40_0 : fieldOff Tryz.prog 40 0 = some 0 := by kernel_rfl
theorem fo40_1 : fieldOff Tryz.prog 40 1 = some 1 := by kernel_rfl
theorem fo40_2 : fieldOff Tryz.prog 40 2 = some 2 := by kernel_rfl
theorem fo70_0 : fieldOff Tryz.prog 70 0 = some 0 := by kernel_rfl
theorem fo70_1 : fieldOff Tryz.prog 70 1 = some 1 := by kernel_rfl
theorem fo70_2 : fieldOff Tryz.prog 70 2 = some 2 := by kernel_rfl
theorem fo78_0 : fieldOff Tryz.prog 78 0 = some 0 := by kernel_rfl
theorem fo78_1 : fieldOff Tryz.prog 78 1 = some 1 := by kernel_rfl
theorem fo78_2 : fieldOff Tryz.prog 78 2 = some 2 := by kernel_rfl
theorem fo89_0 : fieldOff Tryz.prog 89 0 = some 0 := by kernel_rfl
theorem fo89_1 : fieldOff Tryz.prog 89 1 = some 1 := by kernel_rfl
theorem fo94_0 : fieldOff Tryz.prog 94 0 = some 0 := by kernel_rfl
theorem fo94_1 : fieldOff Tryz.prog 94 1 = some 1 := by kernel_rfl
theorem one117 : one? Tryz.prog 117 = true := by kernel_rfl
theorem one22 : one? Tryz.prog 22 = true := by kernel_rfl
theorem one23 : one? Tryz.prog 23 = true := by kernel_rfl
theorem one24 : one? Tryz.prog 24 = true := by kernel_rfl
theorem one27 : one? Tryz.prog 27 = true := by kernel_rfl
theorem one3 : one? Tryz.prog 3 = true := by kernel_rfl
theorem one34 : one? Tryz.prog 34 = true := by kernel_rfl
theorem one38 : one? Tryz.prog 38 = true := by kernel_rfl
theorem one72 : one? Tryz.prog 72 = true := by kernel_rfl
theorem one80 : one? Tryz.prog 80 = true := by kernel_rfl
theorem pr89 : pairT Tryz.prog 89 = true := by kernel_rfl
theorem sn89_2 : structN Tryz.prog 89 2 = true := by kernel_rfl
theorem st26 : structOf Tryz.prog 26 = true := by kernel_rfl
theorem st29 : structOf Tryz.prog 29 = true := by kernel_rfl
theorem st36 : structOf Tryz.prog 36 = true := by kernel_rfl
theorem st40 : structOf Tryz.prog 40 = true := by kernel_rfl
theorem st70 : structOf Tryz.prog 70 = true := by kernel_rfl
theorem st78 : structOf Tryz.prog 78 = true := by kernel_rfl
theorem st89 : structOf Tryz.prog 89 = true := by kernel_rfl
theorem st94 : structOf Tryz.prog 94 = true := by kernel_rfl
theorem sz117 : size? Tryz.prog 117 = some 1 := by kernel_rfl
theorem sz22 : size? Tryz.prog 22 = some 1 := by kernel_rfl
theorem sz23 : size? Tryz.prog 23 = some 1 := by kernel_rfl
theorem sz24 : size? Tryz.prog 24 = some 1 := by kernel_rfl
theorem sz26 : size? Tryz.prog 26 = some 7 := by kernel_rfl
theorem sz27 : size? Tryz.prog 27 = some 1 := by kernel_rfl
theorem sz29 : size? Tryz.prog 29 = some 3 := by kernel_rfl
theorem sz3 : size? Tryz.prog 3 = some 1 := by kernel_rfl
theorem sz34 : size? Tryz.prog 34 = some 1 := by kernel_rfl
theorem sz36 : size? Tryz.prog 36 = some 7 := by kernel_rfl
theorem sz38 : size? Tryz.prog 38 = some 1 := by kernel_rfl
theorem sz40 : size? Tryz.prog 40 = some 3 := by kernel_rfl
theorem sz70 : size? Tryz.prog 70 = some 3 := by kernel_rfl
theorem sz72 : size? Tryz.prog 72 = some 1 := by kernel_rfl
theorem sz78 : size? Tryz.prog 78 = some 3 := by kernel_rfl
theorem sz80 : size? Tryz.prog 80 = some 1 := by kernel_rfl
theorem sz89 : size? Tryz.prog 89 = some 2 := by kernel_rfl
theorem sz94 : size? Tryz.prog 94 = some 2 := by kernel_rfl
theorem zr117 : zero? Tryz.prog 117 = some (.int .u64 0) := by kernel_rfl
theorem zr3 : zero? Tryz.prog 3 = some (.int .i64 0) := by kernel_rfl
theorem zr36 : zero? Tryz.prog 36 = some (.agg #[.int .i64 0, .int .i64 0, .int .i64 0, .slice none 0 0, .slice none 0 0, .slice none 0 0, .slice none 0 0]) := by kernel_rfl
theorem zr40 : zero? Tryz.prog 40 = some (.agg #[.slice none 0 0, .slice none 0 0, .slice none 0 0]) := by kernel_rfl
theorem zr78 : zero? Tryz.prog 78 = some (.agg #[.int .i64 0, .slice none 0 0, .int .i64 0]) := by kernel_rfl
theorem zr89 : zero? Tryz.prog 89 = some (.agg #[.int .i64 0, .int .i64 0]) := by kernel_rfl
end Go.Proofs.YtebjcbgencenbaaGreat
