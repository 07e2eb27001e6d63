/- A digest, by the kernel. -/
import Derived.Test.YtoefpcepplgkeaaGreatMi
section
set_option maxRecDepth 1000000
set_option maxHeartbeats 0
namespace Go.Proofs.YtoefpcepplgkeaaGreat
open Go Go.Ev Go.RowKit
noncomputable def sumA0 : Value := .string ⟨#[120]⟩
noncomputable def sumV0 : Value := .agg (u8s [45, 113, 22, 66, 183, 38, 176, 68, 1, 98, 124, 169, 251, 172, 50, 245]).toArray
theorem sum0_run : gives sumV0 (outcomeB tab [rotO, constsO] 3600 ⟨.e, 0⟩ 179 [sumA0]) = true := by decide +kernel
end Go.Proofs.YtoefpcepplgkeaaGreat
end
