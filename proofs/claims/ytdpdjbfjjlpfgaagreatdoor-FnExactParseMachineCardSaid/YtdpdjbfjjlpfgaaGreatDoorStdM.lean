/- Standing words for the laws' walks, where there is no network. -/
import Derived.Test.YtdpdjbfjjlpfgaaGreatDoorMachine
import Derived.Test.YtdpdjbfjjlpfgaaGreatDoorMore
namespace Go.Proofs.YtdpdjbfjjlpfgaaGreatDoor
open Go Go.RowKit

theorem std_ok : True := trivial

end Go.Proofs.YtdpdjbfjjlpfgaaGreatDoor
