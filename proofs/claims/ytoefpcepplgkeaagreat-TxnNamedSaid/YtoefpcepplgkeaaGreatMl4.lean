/- A digest, by the kernel. -/
import Derived.Test.YtoefpcepplgkeaaGreatMi
section
set_option maxRecDepth 1000000
set_option maxHeartbeats 0
namespace Go.Proofs.YtoefpcepplgkeaaGreat
open Go Go.Ev Go.RowKit
noncomputable def sumA4 : Value := .string ⟨#[1, 0, 0, 0, 2, 0, 0, 0, 1, 241, 237, 126, 94, 87, 4, 162, 43, 10, 19, 182, 211, 77, 105, 24, 13]⟩
noncomputable def sumV4 : Value := .agg (u8s [247, 197, 66, 7, 13, 137, 25, 230, 94, 109, 246, 122, 124, 85, 8, 157]).toArray
theorem sum4_run : gives sumV4 (outcomeB tab [rotO, constsO] 3600 ⟨.e, 0⟩ 179 [sumA4]) = true := by decide +kernel
end Go.Proofs.YtoefpcepplgkeaaGreat
end
