/- A digest, by the kernel. -/
import Derived.Test.YtoefpcepplgkeaaGreatMi
section
set_option maxRecDepth 1000000
set_option maxHeartbeats 0
namespace Go.Proofs.YtoefpcepplgkeaaGreat
open Go Go.Ev Go.RowKit
noncomputable def sumA2 : Value := .string ⟨#[121]⟩
noncomputable def sumV2 : Value := .agg (u8s [161, 252, 228, 54, 56, 84, 255, 136, 140, 255, 75, 142, 120, 117, 214, 0]).toArray
theorem sum2_run : gives sumV2 (outcomeB tab [rotO, constsO] 3600 ⟨.e, 0⟩ 179 [sumA2]) = true := by decide +kernel
end Go.Proofs.YtoefpcepplgkeaaGreat
end
