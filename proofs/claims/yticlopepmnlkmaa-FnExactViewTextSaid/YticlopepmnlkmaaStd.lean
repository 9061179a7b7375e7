/- Standing words for the laws' walks. -/
import Derived.Test.YticlopepmnlkmaaNetwork
import Derived.Test.YticlopepmnlkmaaMore
namespace Go.Proofs.Yticlopepmnlkmaa
open Go Go.RowKit

theorem std_ok : True := trivial

end Go.Proofs.Yticlopepmnlkmaa
