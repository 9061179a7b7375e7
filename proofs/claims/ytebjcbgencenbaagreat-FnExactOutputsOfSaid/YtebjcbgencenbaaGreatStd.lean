/- Standing words for the laws' walks. -/
import Derived.Test.YtebjcbgencenbaaGreatNetwork
import Derived.Test.YtebjcbgencenbaaGreatMore
namespace Go.Proofs.YtebjcbgencenbaaGreat
open Go Go.RowKit

theorem std_ok : True := trivial

end Go.Proofs.YtebjcbgencenbaaGreat
