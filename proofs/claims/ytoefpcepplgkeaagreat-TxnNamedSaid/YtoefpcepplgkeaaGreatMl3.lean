/- A digest, by the kernel. -/
import Derived.Test.YtoefpcepplgkeaaGreatMi
section
set_option maxRecDepth 1000000
set_option maxHeartbeats 0
namespace Go.Proofs.YtoefpcepplgkeaaGreat
open Go Go.Ev Go.RowKit
noncomputable def sumA3 : Value := .string ⟨#[0, 0, 2, 1, 97, 0, 45, 113, 22, 66, 183, 38, 176, 68, 1, 98, 124, 169, 251, 172, 50, 245, 1, 98, 0, 161, 252, 228, 54, 56, 84, 255, 136, 140, 255, 75, 142, 120, 117, 214, 0]⟩
noncomputable def sumV3 : Value := .agg (u8s [100, 5, 51, 20, 156, 208, 55, 124, 109, 183, 56, 222, 209, 22, 42, 79]).toArray
theorem sum3_run : gives sumV3 (outcomeB tab [rotO, constsO] 3600 ⟨.e, 0⟩ 179 [sumA3]) = true := by decide +kernel
end Go.Proofs.YtoefpcepplgkeaaGreat
end
