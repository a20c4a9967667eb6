/- The contract of toSpot. Without conditions. -/
import Derived.Test.YtciolimmfldpbaaMem
import Derived.Test.YtciolimmfldpbaaProg
import Derived.KernelRfl
namespace Go.Proofs.Ytciolimmfldpbaa
open Go.RowKit
end Go.Proofs.Ytciolimmfldpbaa
