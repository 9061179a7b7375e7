/- Closed facts of the program: sizes, offsets and zero values of its types. -/
import Derived.Test.YticlopepmnlkmaaProg
import Derived.Test.YticlopepmnlkmaaFacts
namespace Go.Proofs.Yticlopepmnlkmaa
open Go

theorem mixed : Try.prog.follows .mixedOrders = true := by kernel_rfl
theorem el3 : elem? Try.prog 3 = some (.int .i64 0, 1, 8) := by kernel_rfl
theorem el46 : elem? Try.prog 46 = some (.slice none 0 0, 1, 24) := by kernel_rfl
theorem el5 : elem? Try.prog 5 = some (.int .u8 0, 1, 1) := by kernel_rfl
theorem el61 : elem? Try.prog 61 = some (.agg #[.int .i64 0, .int .i64 0], 2, 16) := by kernel_rfl
theorem el9 : elem? Try.prog 9 = some (.string ⟨#[]⟩, 1, 16) := by kernel_rfl
theorem fo25_0 : fieldOff Try.prog 25 0 = some 0 := by kernel_rfl
theorem fo25_1 : fieldOff Try.prog 25 1 = some 1 := by kernel_rfl
theorem fo25_2 : fieldOff Try.prog 25 2 = some 2 := by kernel_rfl
theorem fo31_0 : fieldOff Try.prog 31 0 = some 0 := by kernel_rfl
theorem fo31_1 : fieldOff Try.prog 31 1 = some 1 := by kernel_rfl
theorem fo31_2 : fieldOff Try.prog 31 2 = some 2 := by kernel_rfl
theorem fo51_1 : fieldOff Try.prog 51 1 = some 1 := by kernel_rfl
theorem fo61_0 : fieldOff Try.prog 61 0 = some 0 := by kernel_rfl
theorem fo61_1 : fieldOff Try.prog 61 1 = some 1 := by kernel_rfl
theorem fo76_0 : fieldOff Try.prog 76 0 = some 0 := by kernel_rfl
theorem fo76_1 : fieldOff Try.prog 76 1 = some 1 := by kernel_rfl
theorem one22 : one? Try.prog 22 = true := by kernel_rfl
theorem one23 : one? Try.prog 23 = true := by kernel_rfl
theorem one29 : one? Try.prog 29 = true := by kernel_rfl
theorem one3 : one? Try.prog 3 = true := by kernel_rfl
theorem one46 : one? Try.prog 46 = true := by kernel_rfl
theorem one49 : one? Try.prog 49 = true := by kernel_rfl
theorem one57 : one? Try.prog 57 = true := by kernel_rfl
theorem one9 : one? Try.prog 9 = true := by kernel_rfl
theorem one97 : one? Try.prog 97 = true := by kernel_rfl
theorem pr61 : pairT Try.prog 61 = true := by kernel_rfl
theorem sn61_2 : structN Try.prog 61 2 = true := by kernel_rfl
theorem st25 : structOf Try.prog 25 = true := by kernel_rfl
theorem st31 : structOf Try.prog 31 = true := by kernel_rfl
theorem st61 : structOf Try.prog 61 = true := by kernel_rfl
theorem st76 : structOf Try.prog 76 = true := by kernel_rfl
theorem sz22 : size? Try.prog 22 = some 1 := by kernel_rfl
theorem sz23 : size? Try.prog 23 = some 1 := by kernel_rfl
theorem sz25 : size? Try.prog 25 = some 3 := by kernel_rfl
theorem sz29 : size? Try.prog 29 = some 1 := by kernel_rfl
theorem sz3 : size? Try.prog 3 = some 1 := by kernel_rfl
theorem sz31 : size? Try.prog 31 = some 3 := by kernel_rfl
theorem sz46 : size? Try.prog 46 = some 1 := by kernel_rfl
theorem sz49 : size? Try.prog 49 = some 1 := by kernel_rfl
theorem sz57 : size? Try.prog 57 = some 1 := by kernel_rfl
theorem sz61 : size? Try.prog 61 = some 2 := by kernel_rfl
theorem sz76 : size? Try.prog 76 = some 2 := by kernel_rfl
theorem sz9 : size? Try.prog 9 = some 1 := by kernel_rfl
theorem sz97 : size? Try.prog 97 = some 1 := by kernel_rfl
theorem zr3 : zero? Try.prog 3 = some (.int .i64 0) := by kernel_rfl
theorem zr31 : zero? Try.prog 31 = some (.agg #[.slice none 0 0, .slice none 0 0, .slice none 0 0]) := by kernel_rfl
theorem zr51 : zero? Try.prog 51 = some (.agg #[.pointer none, .slice none 0 0]) := by kernel_rfl
theorem zr61 : zero? Try.prog 61 = some (.agg #[.int .i64 0, .int .i64 0]) := by kernel_rfl
theorem zr97 : zero? Try.prog 97 = some (.int .u64 0) := by kernel_rfl
end Go.Proofs.Yticlopepmnlkmaa
