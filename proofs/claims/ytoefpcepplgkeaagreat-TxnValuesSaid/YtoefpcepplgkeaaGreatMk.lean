/- The constants, by the kernel. -/
import Derived.Test.YtoefpcepplgkeaaGreatMj
section
set_option maxRecDepth 1000000
set_option maxHeartbeats 0
namespace Go.Proofs.YtoefpcepplgkeaaGreat
open Go Go.Ev Go.RowKit
theorem consts_run : gives constsV (outcomeB tab [primesO] 3600 ⟨.e, 0⟩ 274 []) = true := by decide +kernel
theorem consts_fact : Fact constsO := fact0 (one_fact primes_fact) consts_run
end Go.Proofs.YtoefpcepplgkeaaGreat
end
