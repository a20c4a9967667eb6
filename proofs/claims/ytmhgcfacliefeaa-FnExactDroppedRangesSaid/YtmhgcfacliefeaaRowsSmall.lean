/- Rows that are few and short: a word. Without conditions. -/
import Derived.Test.YtmhgcfacliefeaaMem
namespace Go.Proofs.Ytmhgcfacliefeaa
def smallRows (rs : List (List Int)) : Prop := rs.length ≤ 1000 ∧ ∀ r ∈ rs, r.length ≤ 1000
end Go.Proofs.Ytmhgcfacliefeaa
