/- Marks on []int results and arguments. -/
import Derived.Test.YtladejfcplpnaaaStd
import Derived.Test.YtladejfcplpnaaaPortMap
import Derived.Test.YtladejfcplpnaaaMark
namespace Go.Proofs.Ytladejfcplpnaaa
open Go Go.RowKit

theorem markIntS_ownH {lo hi n c : Nat} {E : TypeId} {a : Option Addr} {k : Int} {w : World} {xs : List Int} (hO : OwnH lo hi 0 0 w E 1 a n c (xs.map VI)) (hk : 0 ≤ k ∧ k ≤ 1125899906842624) (hn : n ≤ 1048576) :
    Fn Try.prog 21 #[.slice a n c, VI k] w (fun v w' => v = VI (k + (n : Int)) ∧ OwnH lo hi 0 0 w' E 1 a n c ((nums k n).map VI) ∧ Rg lo hi 0 0 w w') :=
  (markIntS_own hO.1 hk hn).mono fun v w' h => ⟨h.1, ⟨h.2.1, hO.2⟩, Rg.of_apd h.2.2 fun x hx => ⟨(hO.1.block x hx).1, (hO.2 x hx).1, (hO.2 x hx).2⟩⟩
theorem markIntS_arg {lo hi c : Nat} {a : Option Addr} {k : Int} {w : World} {xs : List Int} (hF : FInts lo hi w a c xs) (hk : 0 ≤ k ∧ k ≤ 1125899906842624) (hn : xs.length ≤ 1048576) : Fn Try.prog 21 #[.slice a xs.length c, VI k] w (fun v w' => v = VI (k + (xs.length : Int)) ∧ Mk lo hi w w') := markIntS_w (FInts.w hF) hk hn

end Go.Proofs.Ytladejfcplpnaaa
