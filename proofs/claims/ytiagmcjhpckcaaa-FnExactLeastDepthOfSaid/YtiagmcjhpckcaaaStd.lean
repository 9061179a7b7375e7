/- Standing words for the laws' walks. -/
import Derived.Test.YtiagmcjhpckcaaaNetwork
import Derived.Test.YtiagmcjhpckcaaaMore
namespace Go.Proofs.Ytiagmcjhpckcaaa
open Go Go.RowKit

theorem std_ok : True := trivial

end Go.Proofs.Ytiagmcjhpckcaaa
