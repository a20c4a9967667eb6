/- The contract of the reference's IsWay. Condition: the slice can be read. -/
import Derived.Test.YtciolimmfldpbaaWay
namespace Go.Proofs.Ytciolimmfldpbaa
open Go.RowKit
end Go.Proofs.Ytciolimmfldpbaa
