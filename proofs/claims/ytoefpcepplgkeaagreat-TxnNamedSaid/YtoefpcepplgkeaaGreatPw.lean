/- The closed facts of the row of TxnNamed. (Printed by wip/txn/gen_rowf.py.). -/
import Derived.Test.YtoefpcepplgkeaaGreatRows
import Derived.JoinedOf
section
set_option linter.unusedVariables false
namespace Go.Proofs.YtoefpcepplgkeaaGreat.facts3
open Go
theorem g0 : ((Rows.txnNamedRow.inPlace == Tryz.prog.inPlace 3) && (Rows.txnNamedRow.unfollowed == Tryz.prog.unfollowed 3)) = true := by kernel_rfl
theorem g1 : ((Rows.txnNamedRow.recurses == Tryz.prog.recurses 3) && (Rows.txnNamedRow.named == Tryz.prog.varsNamed 3)) = true := by kernel_rfl
theorem g2 : (Tryz.prog.stopsHeard && (Rows.txnNamedRow.plainKeys == Tryz.prog.plainKeys) && laidOutB Tryz.prog && mapsRowed Tryz.prog) = true := by kernel_rfl
theorem f_inPlace : (Rows.txnNamedRow.inPlace == Tryz.prog.inPlace 3) = true := by have h := g0; simp only [Bool.and_eq_true] at h; exact h.1
theorem f_unfollowed : (Rows.txnNamedRow.unfollowed == Tryz.prog.unfollowed 3) = true := by have h := g0; simp only [Bool.and_eq_true] at h; exact h.2
theorem f_recurses : (Rows.txnNamedRow.recurses == Tryz.prog.recurses 3) = true := by have h := g1; simp only [Bool.and_eq_true] at h; exact h.1
theorem f_named : (Rows.txnNamedRow.named == Tryz.prog.varsNamed 3) = true := by have h := g1; simp only [Bool.and_eq_true] at h; exact h.2
theorem f_heard : Tryz.prog.stopsHeard = true := by have h := g2; simp only [Bool.and_eq_true] at h; exact h.1.1.1
theorem f_keys : (Rows.txnNamedRow.plainKeys == Tryz.prog.plainKeys) = true := by have h := g2; simp only [Bool.and_eq_true] at h; exact h.1.1.2
theorem f_laid : laidOutB Tryz.prog = true := by have h := g2; simp only [Bool.and_eq_true] at h; exact h.1.2
theorem f_maps : mapsRowed Tryz.prog = true := by have h := g2; simp only [Bool.and_eq_true] at h; exact h.2
theorem closed : joinedFacts Tryz.prog 3 Tryz.f3 Rows.txnNamedSpec Rows.txnNamedRow = true := by
  unfold joinedFacts
  rw [f_inPlace, f_unfollowed, f_recurses, f_named, f_heard, f_keys, f_laid, f_maps]
  kernel_rfl
end Go.Proofs.YtoefpcepplgkeaaGreat.facts3
end
