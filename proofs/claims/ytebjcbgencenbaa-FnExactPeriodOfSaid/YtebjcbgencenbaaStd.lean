/- Standing words for the laws' walks. -/
import Derived.Test.YtebjcbgencenbaaNetwork
import Derived.Test.YtebjcbgencenbaaMore
namespace Go.Proofs.Ytebjcbgencenbaa
open Go Go.RowKit

theorem std_ok : True := trivial

end Go.Proofs.Ytebjcbgencenbaa
