/- Closed facts of the program: sizes, offsets and zero values of its types. -/
import Derived.Test.YtgelhpgjmcnajaaDoorProg
import Derived.Test.YtgelhpgjmcnajaaDoorFacts
namespace Go.Proofs.YtgelhpgjmcnajaaDoor
open Go

theorem mixed : Tryd.prog.follows .mixedOrders = true := by kernel_rfl
theorem el24 : elem? Tryd.prog 24 = some (.slice none 0 0, 1, 24) := by kernel_rfl
theorem el3 : elem? Tryd.prog 3 = some (.int .i64 0, 1, 8) := by kernel_rfl
theorem el47 : elem? Tryd.prog 47 = some (.agg #[.int .i64 0, .slice none 0 0, .int .i64 0], 3, 40) := by kernel_rfl
theorem el5 : elem? Tryd.prog 5 = some (.int .u8 0, 1, 1) := by kernel_rfl
theorem el9 : elem? Tryd.prog 9 = some (.string ⟨#[]⟩, 1, 16) := by kernel_rfl
theorem fo26_0 : fieldOff Tryd.prog 26 0 = some 0 := by kernel_rfl
theorem fo26_1 : fieldOff Tryd.prog 26 1 = some 1 := by kernel_rfl
theorem fo26_2 : fieldOff Tryd.prog 26 2 = some 2 := by kernel_rfl
theorem fo26_3 : fieldOff Tryd.prog 26 3 = some 3 := by kernel_rfl
theorem fo26_4 : fieldOff Tryd.prog 26 4 = some 4 := by kernel_rfl
theorem fo26_5 : fieldOff Tryd.prog 26 5 = some 5 := by kernel_rfl
theorem fo26_6 : fieldOff Tryd.prog 26 6 = some 6 := by kernel_rfl
theorem fo32_0 : fieldOff Tryd.prog 32 0 = some 0 := by kernel_rfl
theorem fo32_1 : fieldOff Tryd.prog 32 1 = some 1 := by kernel_rfl
theorem fo32_2 : fieldOff Tryd.prog 32 2 = some 2 := by kernel_rfl
theorem fo32_3 : fieldOff Tryd.prog 32 3 = some 3 := by kernel_rfl
theorem fo32_4 : fieldOff Tryd.prog 32 4 = some 4 := by kernel_rfl
theorem fo32_5 : fieldOff Tryd.prog 32 5 = some 5 := by kernel_rfl
theorem fo32_6 : fieldOff Tryd.prog 32 6 = some 6 := by kernel_rfl
theorem fo47_0 : fieldOff Tryd.prog 47 0 = some 0 := by kernel_rfl
theorem fo47_1 : fieldOff Tryd.prog 47 1 = some 1 := by kernel_rfl
theorem fo47_2 : fieldOff Tryd.prog 47 2 = some 2 := by kernel_rfl
theorem fo53_0 : fieldOff Tryd.prog 53 0 = some 0 := by kernel_rfl
theorem fo53_1 : fieldOff Tryd.prog 53 1 = some 1 := by kernel_rfl
theorem fo53_2 : fieldOff Tryd.prog 53 2 = some 2 := by kernel_rfl
theorem one22 : one? Tryd.prog 22 = true := by kernel_rfl
theorem one23 : one? Tryd.prog 23 = true := by kernel_rfl
theorem one24 : one? Tryd.prog 24 = true := by kernel_rfl
theorem one3 : one? Tryd.prog 3 = true := by kernel_rfl
theorem one30 : one? Tryd.prog 30 = true := by kernel_rfl
theorem st26 : structOf Tryd.prog 26 = true := by kernel_rfl
theorem st32 : structOf Tryd.prog 32 = true := by kernel_rfl
theorem st47 : structOf Tryd.prog 47 = true := by kernel_rfl
theorem st53 : structOf Tryd.prog 53 = true := by kernel_rfl
theorem sz22 : size? Tryd.prog 22 = some 1 := by kernel_rfl
theorem sz23 : size? Tryd.prog 23 = some 1 := by kernel_rfl
theorem sz24 : size? Tryd.prog 24 = some 1 := by kernel_rfl
theorem sz26 : size? Tryd.prog 26 = some 7 := by kernel_rfl
theorem sz3 : size? Tryd.prog 3 = some 1 := by kernel_rfl
theorem sz30 : size? Tryd.prog 30 = some 1 := by kernel_rfl
theorem sz32 : size? Tryd.prog 32 = some 7 := by kernel_rfl
theorem sz47 : size? Tryd.prog 47 = some 3 := by kernel_rfl
theorem sz53 : size? Tryd.prog 53 = some 3 := by kernel_rfl
theorem zr32 : zero? Tryd.prog 32 = some (.agg #[.int .i64 0, .int .i64 0, .int .i64 0, .slice none 0 0, .slice none 0 0, .slice none 0 0, .slice none 0 0]) := by kernel_rfl
theorem zr47 : zero? Tryd.prog 47 = some (.agg #[.int .i64 0, .slice none 0 0, .int .i64 0]) := by kernel_rfl
end Go.Proofs.YtgelhpgjmcnajaaDoor
