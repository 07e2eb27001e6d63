/- A digest, by the kernel. -/
import Derived.Test.YtoefpcepplgkeaaGreatMi
section
set_option maxRecDepth 1000000
set_option maxHeartbeats 0
namespace Go.Proofs.YtoefpcepplgkeaaGreat
open Go Go.Ev Go.RowKit
noncomputable def sumA5 : Value := .string ⟨#[0, 0, 1, 1, 116, 0, 247, 197, 66, 7, 13, 137, 25, 230, 94, 109, 246, 122, 124, 85, 8, 157]⟩
noncomputable def sumV5 : Value := .agg (u8s [1, 168, 47, 46, 193, 218, 198, 84, 73, 125, 72, 218, 152, 58, 77, 123]).toArray
theorem sum5_run : gives sumV5 (outcomeB tab [rotO, constsO] 3600 ⟨.e, 0⟩ 179 [sumA5]) = true := by decide +kernel
end Go.Proofs.YtoefpcepplgkeaaGreat
end
