/- The contract of the reference's list of pairs in conflict. Conditions: the transition is good, its slices can be read, and the least distance lies within its bounds. -/
import Derived.Test.YtmnngoioahnlnaaPairs
namespace Go.Proofs.Ytmnngoioahnlnaa
open Go.RowKit

end Go.Proofs.Ytmnngoioahnlnaa
