/- The contract of toSpot. Without conditions. -/
import Derived.Test.YtcpbcmebfiilmaaMem
import Derived.Test.YtcpbcmebfiilmaaProg
import Derived.KernelRfl
namespace Go.Proofs.Ytcpbcmebfiilmaa
open Go.RowKit
end Go.Proofs.Ytcpbcmebfiilmaa
