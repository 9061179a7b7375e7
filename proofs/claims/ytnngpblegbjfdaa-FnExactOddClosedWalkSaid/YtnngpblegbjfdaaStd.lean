/- Standing words for the laws' walks. -/
import Derived.Test.YtnngpblegbjfdaaNetwork
import Derived.Test.YtnngpblegbjfdaaMore
namespace Go.Proofs.Ytnngpblegbjfdaa
open Go Go.RowKit

theorem std_ok : True := trivial

end Go.Proofs.Ytnngpblegbjfdaa
