/- Standing words for the laws' walks. -/
import Derived.Test.YtjnkkadbfigmpaaNetwork
import Derived.Test.YtjnkkadbfigmpaaMore
namespace Go.Proofs.Ytjnkkadbfigmpaa
open Go Go.RowKit

theorem std_ok : True := trivial

end Go.Proofs.Ytjnkkadbfigmpaa
