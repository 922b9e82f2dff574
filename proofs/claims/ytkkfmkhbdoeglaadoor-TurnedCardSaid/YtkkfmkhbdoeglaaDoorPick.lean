/- What the laws' pick answers, in plain Lean. No condition. -/
import Derived.Test.YtkkfmkhbdoeglaaDoorPlainB
namespace Go.Proofs.YtkkfmkhbdoeglaaDoor
open Go.RowKit

/-- which of n things a raw number speaks of -/
def pickN (c n : Int) : Int := if c < 0 then (-(c + 1)) % n else c % n
theorem pickN_bound (c n : Int) (hn : 0 < n) : 0 ≤ pickN c n ∧ pickN c n < n := by
  unfold pickN
  split
  · exact ⟨Int.emod_nonneg _ (by omega), Int.emod_lt_of_pos _ hn⟩
  · exact ⟨Int.emod_nonneg _ (by omega), Int.emod_lt_of_pos _ hn⟩
end Go.Proofs.YtkkfmkhbdoeglaaDoor
