/- Standing words for the laws' walks. -/
import Derived.Test.YtoeencgofelgoaaNetwork
import Derived.Test.YtoeencgofelgoaaMore
namespace Go.Proofs.Ytoeencgofelgoaa
open Go Go.RowKit

theorem std_ok : True := trivial

end Go.Proofs.Ytoeencgofelgoaa
