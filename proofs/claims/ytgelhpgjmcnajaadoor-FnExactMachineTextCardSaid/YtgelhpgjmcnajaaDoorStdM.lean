/- Standing words for the laws' walks, where there is no network. -/
import Derived.Test.YtgelhpgjmcnajaaDoorMachine
import Derived.Test.YtgelhpgjmcnajaaDoorMore
namespace Go.Proofs.YtgelhpgjmcnajaaDoor
open Go Go.RowKit

theorem std_ok : True := trivial

end Go.Proofs.YtgelhpgjmcnajaaDoor
