/- Rows that are few and short: a word. Without conditions. -/
import Derived.Test.YtamehlafmfmgmaaDoorMem
namespace Go.Proofs.YtamehlafmfmgmaaDoor
def smallRows (rs : List (List Int)) : Prop := rs.length ≤ 1000 ∧ ∀ r ∈ rs, r.length ≤ 1000
end Go.Proofs.YtamehlafmfmgmaaDoor
