/- SqueezeLeast, for every input: the walk. -/
import Derived.Test.YtdfhefnjoekgbaaQm
import Derived.Test.YtdfhefnjoekgbaaVl
namespace Go.Proofs.Ytdfhefnjoekgbaa
open Go.ChangeShapes Go.WideShapes Go.RowKit Bv Fl
attribute [local go_sem ↓] Go.wp_at_zero Go.wp_at_succ

set_option maxHeartbeats 4000000
end Go.Proofs.Ytdfhefnjoekgbaa
