/- sane() of layer 13 returns true, by the kernel. -/
import Derived.Test.YtoefpcepplgkeaaGreatMm
section
set_option maxRecDepth 1000000
set_option maxHeartbeats 0
namespace Go.Proofs.YtoefpcepplgkeaaGreat
open Go Go.Ev Go.RowKit
theorem sane_run : gives (.bool true) (outcomeB tab [sumsO] 3750 ⟨.e, 0⟩ 5 []) = true := by decide +kernel
theorem sane_any (w : World) : Calls Tryz.prog 5 #[] w fun e w' => e = .returned (.bool true) ∧ Below w.heap.size w w' :=
  closed (one_fact sums_fact) rfl (by rw [← outcomeB_eq]; exact gives_ok sane_run) w
end Go.Proofs.YtoefpcepplgkeaaGreat
end
