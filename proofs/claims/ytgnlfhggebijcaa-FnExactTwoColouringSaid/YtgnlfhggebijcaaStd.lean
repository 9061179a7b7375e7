/- Standing words for the laws' walks. -/
import Derived.Test.YtgnlfhggebijcaaNetwork
import Derived.Test.YtgnlfhggebijcaaMore
namespace Go.Proofs.Ytgnlfhggebijcaa
open Go Go.RowKit

theorem std_ok : True := trivial

end Go.Proofs.Ytgnlfhggebijcaa
