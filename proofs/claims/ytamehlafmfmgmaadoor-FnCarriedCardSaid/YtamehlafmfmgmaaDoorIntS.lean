/- The laws' helpers on slices of ints: toIntS copies, eqIntS says true of two slices that hold the same numbers, markIntS writes k, k+1 and so on, heldIntS finds them again. Conditions: lengths of at most 2^40, and that the slices can be read (or are owned). -/
import Derived.Test.YtamehlafmfmgmaaDoorLists
import Derived.Test.YtamehlafmfmgmaaDoorProg
import Derived.KernelRfl
import Derived.BigQuiet
import Derived.Deep.QuietTactic
namespace Go.Proofs.YtamehlafmfmgmaaDoor
open Go.RowKit

theorem intInfo : (Tryd.prog.info? 3).map (fun i => (i.zero, i.size, i.bytes)) = some (some (.int .i64 0), 1, 8) := by kernel_rfl

end Go.Proofs.YtamehlafmfmgmaaDoor
