/- Contracts of rebusref05: Least, Fits. -/
import Derived.Test.YtdfhefnjoekgbaaQ
namespace Go.Proofs.Ytdfhefnjoekgbaa
open Go.RowKit Bv Fl

set_option maxHeartbeats 1000000
end Go.Proofs.Ytdfhefnjoekgbaa
