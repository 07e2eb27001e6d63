/- A digest, by the kernel. -/
import Derived.Test.YtoefpcepplgkeaaGreatMi
section
set_option maxRecDepth 1000000
set_option maxHeartbeats 0
namespace Go.Proofs.YtoefpcepplgkeaaGreat
open Go Go.Ev Go.RowKit
noncomputable def sumA1 : Value := .string ⟨#[0, 0, 1, 1, 97, 0, 45, 113, 22, 66, 183, 38, 176, 68, 1, 98, 124, 169, 251, 172, 50, 245]⟩
noncomputable def sumV1 : Value := .agg (u8s [241, 237, 126, 94, 87, 4, 162, 43, 10, 19, 182, 211, 77, 105, 24, 13]).toArray
theorem sum1_run : gives sumV1 (outcomeB tab [rotO, constsO] 3600 ⟨.e, 0⟩ 179 [sumA1]) = true := by decide +kernel
end Go.Proofs.YtoefpcepplgkeaaGreat
end
