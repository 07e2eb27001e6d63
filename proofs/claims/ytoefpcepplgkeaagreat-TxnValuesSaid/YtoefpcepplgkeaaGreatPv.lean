/- The closed facts of the row of TxnValues. (Printed by wip/txn/gen_rowf.py.). -/
import Derived.Test.YtoefpcepplgkeaaGreatRows
import Derived.JoinedOf
section
set_option linter.unusedVariables false
namespace Go.Proofs.YtoefpcepplgkeaaGreat.facts4
open Go
theorem g0 : ((Rows.txnValuesRow.inPlace == Tryz.prog.inPlace 4) && (Rows.txnValuesRow.unfollowed == Tryz.prog.unfollowed 4)) = true := by kernel_rfl
theorem g1 : ((Rows.txnValuesRow.recurses == Tryz.prog.recurses 4) && (Rows.txnValuesRow.named == Tryz.prog.varsNamed 4)) = true := by kernel_rfl
theorem g2 : (Tryz.prog.stopsHeard && (Rows.txnValuesRow.plainKeys == Tryz.prog.plainKeys) && laidOutB Tryz.prog && mapsRowed Tryz.prog) = true := by kernel_rfl
theorem f_inPlace : (Rows.txnValuesRow.inPlace == Tryz.prog.inPlace 4) = true := by have h := g0; simp only [Bool.and_eq_true] at h; exact h.1
theorem f_unfollowed : (Rows.txnValuesRow.unfollowed == Tryz.prog.unfollowed 4) = true := by have h := g0; simp only [Bool.and_eq_true] at h; exact h.2
theorem f_recurses : (Rows.txnValuesRow.recurses == Tryz.prog.recurses 4) = true := by have h := g1; simp only [Bool.and_eq_true] at h; exact h.1
theorem f_named : (Rows.txnValuesRow.named == Tryz.prog.varsNamed 4) = true := by have h := g1; simp only [Bool.and_eq_true] at h; exact h.2
theorem f_heard : Tryz.prog.stopsHeard = true := by have h := g2; simp only [Bool.and_eq_true] at h; exact h.1.1.1
theorem f_keys : (Rows.txnValuesRow.plainKeys == Tryz.prog.plainKeys) = true := by have h := g2; simp only [Bool.and_eq_true] at h; exact h.1.1.2
theorem f_laid : laidOutB Tryz.prog = true := by have h := g2; simp only [Bool.and_eq_true] at h; exact h.1.2
theorem f_maps : mapsRowed Tryz.prog = true := by have h := g2; simp only [Bool.and_eq_true] at h; exact h.2
theorem closed : joinedFacts Tryz.prog 4 Tryz.f4 Rows.txnValuesSpec Rows.txnValuesRow = true := by
  unfold joinedFacts
  rw [f_inPlace, f_unfollowed, f_recurses, f_named, f_heard, f_keys, f_laid, f_maps]
  kernel_rfl
end Go.Proofs.YtoefpcepplgkeaaGreat.facts4
end
