/- The digests that sane needs, as an oracle. -/
import Derived.Test.YtoefpcepplgkeaaGreatMl0
import Derived.Test.YtoefpcepplgkeaaGreatMl1
import Derived.Test.YtoefpcepplgkeaaGreatMl2
import Derived.Test.YtoefpcepplgkeaaGreatMl3
import Derived.Test.YtoefpcepplgkeaaGreatMl4
import Derived.Test.YtoefpcepplgkeaaGreatMl5
import Derived.Test.YtoefpcepplgkeaaGreatMk
section
set_option maxRecDepth 100000
namespace Go.Proofs.YtoefpcepplgkeaaGreat
open Go Go.Ev Go.RowKit
noncomputable def sumF (x : Value) : Option Value := match eqV x sumA0 with
  | true => some sumV0
  | false => match eqV x sumA1 with
  | true => some sumV1
  | false => match eqV x sumA2 with
  | true => some sumV2
  | false => match eqV x sumA3 with
  | true => some sumV3
  | false => match eqV x sumA4 with
  | true => some sumV4
  | false => match eqV x sumA5 with
  | true => some sumV5
  | false => none
noncomputable def sumsO : Orc := ⟨179, fun a => match a with
  | [x] => sumF x
  | _ => none⟩
theorem sums_fact : Fact sumsO := by
  intro args v h1 h2 h3 w
  simp only [sumsO] at h2
  split at h2
  · rename_i x
    unfold sumF at h2
    split at h2
    · rename_i he
      rw [eqV_sound he]
      cases h2
      exact closed (two_facts rot_fact consts_fact) rfl (by rw [← outcomeB_eq]; exact gives_ok sum0_run) w
    split at h2
    · rename_i he
      rw [eqV_sound he]
      cases h2
      exact closed (two_facts rot_fact consts_fact) rfl (by rw [← outcomeB_eq]; exact gives_ok sum1_run) w
    split at h2
    · rename_i he
      rw [eqV_sound he]
      cases h2
      exact closed (two_facts rot_fact consts_fact) rfl (by rw [← outcomeB_eq]; exact gives_ok sum2_run) w
    split at h2
    · rename_i he
      rw [eqV_sound he]
      cases h2
      exact closed (two_facts rot_fact consts_fact) rfl (by rw [← outcomeB_eq]; exact gives_ok sum3_run) w
    split at h2
    · rename_i he
      rw [eqV_sound he]
      cases h2
      exact closed (two_facts rot_fact consts_fact) rfl (by rw [← outcomeB_eq]; exact gives_ok sum4_run) w
    split at h2
    · rename_i he
      rw [eqV_sound he]
      cases h2
      exact closed (two_facts rot_fact consts_fact) rfl (by rw [← outcomeB_eq]; exact gives_ok sum5_run) w
    cases h2
  · cases h2
end Go.Proofs.YtoefpcepplgkeaaGreat
end
