/- Standing words for the laws' walks. -/
import Derived.Test.YtmdmpapdjgcchaaNetwork
import Derived.Test.YtmdmpapdjgcchaaMore
namespace Go.Proofs.Ytmdmpapdjgcchaa
open Go Go.RowKit

theorem std_ok : True := trivial

end Go.Proofs.Ytmdmpapdjgcchaa
