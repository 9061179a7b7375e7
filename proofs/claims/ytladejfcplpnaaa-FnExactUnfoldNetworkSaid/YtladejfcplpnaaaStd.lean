/- Standing words for the laws' walks. -/
import Derived.Test.YtladejfcplpnaaaNetwork
import Derived.Test.YtladejfcplpnaaaMore
namespace Go.Proofs.Ytladejfcplpnaaa
open Go Go.RowKit

theorem std_ok : True := trivial

end Go.Proofs.Ytladejfcplpnaaa
