/- Contracts of rebusref05: Least, Fits. -/
import Derived.Test.YtdkgiklbmbkdaaaQ
namespace Go.Proofs.Ytdkgiklbmbkdaaa
open Go.RowKit Bv Fl

set_option maxHeartbeats 1000000
end Go.Proofs.Ytdkgiklbmbkdaaa
