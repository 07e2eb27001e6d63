/- The primes, by the kernel. -/
import Derived.Test.YtoefpcepplgkeaaGreatMi
section
set_option maxRecDepth 1000000
set_option maxHeartbeats 0
namespace Go.Proofs.YtoefpcepplgkeaaGreat
open Go Go.Ev Go.RowKit
theorem primes_run : gives primesV (outcomeB tab [] 5200 ⟨.e, 0⟩ 295 []) = true := by decide +kernel
theorem primes_fact : Fact primesO := fact0 noFacts primes_run
end Go.Proofs.YtoefpcepplgkeaaGreat
end
