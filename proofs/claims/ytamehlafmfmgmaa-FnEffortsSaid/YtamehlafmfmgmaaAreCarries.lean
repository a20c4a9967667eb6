/- The contract of the reference's AreCarries. Condition: the slice can be read, and its length is at most its capacity. -/
import Derived.Test.YtamehlafmfmgmaaAreSpec
namespace Go.Proofs.Ytamehlafmfmgmaa
open Go.RowKit
end Go.Proofs.Ytamehlafmfmgmaa
