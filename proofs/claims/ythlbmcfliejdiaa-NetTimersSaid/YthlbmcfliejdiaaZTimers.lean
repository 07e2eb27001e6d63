/- The reference's Cut and Heal. (Printed by wip/gen_ref.py.). The reference's others, Set, Stop and Tick. (Printed by wip/gen_reft.py.). The law NetTimers: it returns true. (Printed by wip/gen_law2.py.). The given row of NetTimers. (Printed by wip/gen_row.py.). -/
import Derived.Test.YthlbmcfliejdiaaGk
import Derived.Test.YthlbmcfliejdiaaGf
import Derived.Test.YthlbmcfliejdiaaGj
import Derived.Deep.DeepCutAuto
import Derived.Deep.CutBlock
import Derived.Test.YthlbmcfliejdiaaRows
import Derived.WalkKit
import Derived.ProofKit
import Derived.OpenShut
import Derived.ShutString
import Derived.ChangeOld
import Derived.Below
import Derived.SizedLaws
import Derived.Carry
section
set_option linter.unusedVariables false
set_option linter.unusedSimpArgs false
namespace Go.Proofs.Ythlbmcfliejdiaa
open Go.RowKit

theorem Own.put14 {α : Type} [Enc α] {w : World} {B b : Nat} {e : TypeId} {v : Value} {xs : List α} (h : Own w B e v xs) (hb : b < B) {a0 a1 a2 a3 a4 a5 a6 a7 a8 a9 a10 a11 a12 a13 : Value} : Own (put14 w b a0 a1 a2 a3 a4 a5 a6 a7 a8 a9 a10 a11 a12 a13) B e v xs := by
  unfold Go.Proofs.Ythlbmcfliejdiaa.put14
  repeat (refine Own.far ?_ (by exact hb) _)
  exact h
theorem made_start {w w0 : World} {c : Array Value} (h : w0 = (w.alloc (.cells c 26)).alloc (.cells #[.int .i64 0, .int .i64 0, .int .i64 0, .slice none 0 0, .slice none 0 0, .slice none 0 0, .int .i64 0, .int .i64 0, .int .i64 0, .int .i64 0, .int .i64 0, .string ⟨#[]⟩, .slice none 0 0, .int .i64 0] 35)) :
    Below w.heap.size w w0 ∧ w0.heap[w.heap.size]? = some (.cells c 26 (0, 0)) ∧ w0.heap[w.heap.size + 1]? = some (.cells #[.int .i64 0, .int .i64 0, .int .i64 0, .slice none 0 0, .slice none 0 0, .slice none 0 0, .int .i64 0, .int .i64 0, .int .i64 0, .int .i64 0, .int .i64 0, .string ⟨#[]⟩, .slice none 0 0, .int .i64 0] 35 (0, 0)) ∧ w0.heap.size = w.heap.size + 2 := by
  subst h
  refine ⟨below_alloc (below_alloc (Below.refl _ _) _) _, bl_alloc (bl_new _ _) _, ?_, by simp⟩
  have h := bl_new (w.alloc (.cells c 26)) (.cells #[.int .i64 0, .int .i64 0, .int .i64 0, .slice none 0 0, .slice none 0 0, .slice none 0 0, .int .i64 0, .int .i64 0, .int .i64 0, .int .i64 0, .int .i64 0, .string ⟨#[]⟩, .slice none 0 0, .int .i64 0] 35)
  rw [show (w.alloc (.cells c 26)).heap.size = w.heap.size + 1 from (by simp)] at h
  exact h
set_option maxHeartbeats 4000000 in
set_option maxRecDepth 100000 in
theorem RCut_any (x : Nt) (a b : Int) (v : Value) (w : World) (hV : NetV w v x) (hlc : x.cuts.length ≤ 10000000) (hlw : x.way.length ≤ 10000000) (hlt : x.timers.length ≤ 10000000) :
    Calls Try.prog 24 #[v, .int .i64 a, .int .i64 b] w fun e w' => ∃ v, e = .returned v ∧ MadeV w' v (formR x (cutM x a b)) ∧ Below w.heap.size w w' := by
  obtain ⟨AW, cW, AC, cC, AT, cT, rfl, hW, hC, hT⟩ := hV
  obtain ⟨w0, hw0⟩ : ∃ w0, w0 = (w.alloc (.cells #[.int .i64 x.nodes, .int .i64 x.now, .int .i64 x.next, .slice AW x.way.length cW, .slice AC x.cuts.length cC, .slice AT x.timers.length cT] 26)).alloc (.cells #[.int .i64 0, .int .i64 0, .int .i64 0, .slice none 0 0, .slice none 0 0, .slice none 0 0, .int .i64 0, .int .i64 0, .int .i64 0, .int .i64 0, .int .i64 0, .string ⟨#[]⟩, .slice none 0 0, .int .i64 0] 35) := ⟨_, rfl⟩
  obtain ⟨hb0, hz0, hm0, hs0⟩ := made_start hw0
  have HV : Hid (∀ W, Below w0.heap.size w0 W → NetV W (.agg #[.int .i64 x.nodes, .int .i64 x.now, .int .i64 x.next, .slice AW x.way.length cW, .slice AC x.cuts.length cC, .slice AT x.timers.length cT]) x) := fun W hb => ⟨AW, cW, AC, cC, AT, cT, rfl, hW.below (below_trans hb0 hb), hC.below (below_trans hb0 hb), hT.below (below_trans hb0 hb)⟩
  have his := fun (v : Value) (w : World) (hV : NetV w v x) => RIs_any x v w hV hlc hlw hlt
  have HB0 := Lib.hid hb0
  have HZ0 := Lib.hid hz0
  have HM0 := Lib.hid hm0
  have HS0 := Lib.hid hs0
  have HW0 := Lib.hid hw0
  have HC := Lib.hid (hC.below hb0)
  have HT := Lib.hid (hT.below hb0)
  have HWW := Lib.hid hW
  have HTW := Lib.hid hT
  have HCW := Lib.hid hC
  clear hb0 hz0 hm0 hs0 hw0 hW hC hT
  cases hc : checkB x
  · rw [hc] at his
    have HIS := Lib.hid his
    have HN : Hid (formR x (cutM x a b) = errR 2) := if_pos hc
    clear his hc
    go_enter Try.func24, Try.ntmps24
    go_wp2_with fail
    rw [← HW0.out]
    clear HW0
    refine calls_below (HIS.out _ _ (HV.out _ (Below.refl _ _))) ?_
    intro w1 hb1
    have hz1 := bl_below HZ0.out hb1
    obtain ⟨⟨k0, k1, k2, k3, k4, k5⟩, -⟩ := blc6 hz1
    have hlz := bl_lt hz1
    go_wp2_with fail
    refine calls_below (Rfailed_any 2 _) ?_
    intro w9 hb9
    have hb9' := below_trans hb1 hb9
    have hm9 := bl_below HM0.out hb9'
    have hl9 := bl_lt hm9
    obtain ⟨⟨d0, d1, d2, d3, d4, d5, d6, d7, d8, d9, d10, d11, d12, d13⟩, fz⟩ := blc14 hm9
    go_wp2
    exact ret_c Try.results24 (w.heap.size + 1) 35 _ _ rfl (put14_all hm9) Try.underlying35 rfl sizeMade rfl ⟨_, rfl, by rw [HN.out]; exact MadeV_err _ 2, put14_below (below_trans HB0.out hb9') (by omega)⟩
  rw [hc] at his
  have HIS := Lib.hid his
  have HF : Hid (formR x (cutM x a b) = cutM x a b) := if_neg (by rw [hc]; decide)
  have HOK : Hid (Ok x) := (ok_iff x).1 hc
  clear his hc
  obtain ⟨bA, hA⟩ : ∃ b, isNodeB x.nodes a = b := ⟨_, rfl⟩
  obtain ⟨bB, hB⟩ : ∃ b', isNodeB x.nodes b = b' := ⟨_, rfl⟩
  obtain ⟨bE, hE⟩ : ∃ b', (a == b) = b' := ⟨_, rfl⟩
  have htw : twoB x.nodes a b = (bA && bB && !bE) := by unfold twoB; rw [hA, hB, ← hE]; congr 1; rw [Bool.eq_iff_iff]; simp
  have hnA : Hid (∀ w, Calls Try.prog 61 #[.agg #[.int .i64 x.nodes, .int .i64 x.now, .int .i64 x.next, .slice AW x.way.length cW, .slice AC x.cuts.length cC, .slice AT x.timers.length cT], .int .i64 a] w fun e w' => e = .returned (.bool bA) ∧ Below w.heap.size w w') := fun w => by have h := RisNode_any x.nodes x.now x.next a AW AC AT x.way.length cW x.cuts.length cC x.timers.length cT w; rwa [hA] at h
  have hnB : Hid (∀ w, Calls Try.prog 61 #[.agg #[.int .i64 x.nodes, .int .i64 x.now, .int .i64 x.next, .slice AW x.way.length cW, .slice AC x.cuts.length cC, .slice AT x.timers.length cT], .int .i64 b] w fun e w' => e = .returned (.bool bB) ∧ Below w.heap.size w w') := fun w => by have h := RisNode_any x.nodes x.now x.next b AW AC AT x.way.length cW x.cuts.length cC x.timers.length cT w; rwa [hB] at h
  have HTW := Lib.hid htw
  clear htw hA hB
  cases bA
  · have HN : Hid (formR x (cutM x a b) = errR 1) := HF.out.trans (if_pos (HTW.out.trans (by first | rfl | (cases bB <;> rfl))))
    clear hE
    go_enter Try.func24, Try.ntmps24
    go_wp2_with fail
    rw [← HW0.out]
    clear HW0
    refine calls_below (HIS.out _ _ (HV.out _ (Below.refl _ _))) ?_
    intro w1 hb1
    have hz1 := bl_below HZ0.out hb1
    obtain ⟨⟨k0, k1, k2, k3, k4, k5⟩, -⟩ := blc6 hz1
    have hlz := bl_lt hz1
    go_wp2_with fail
    refine calls_below (hnA.out _) ?_
    intro w2 hb2
    replace hb2 := below_trans hb1 hb2
    clear hz1 k0 k1 k2 k3 k4 k5 hlz
    have hz1 := bl_below HZ0.out hb2
    obtain ⟨⟨k0, k1, k2, k3, k4, k5⟩, -⟩ := blc6 hz1
    have hlz := bl_lt hz1
    go_wp2_with fail
    refine calls_below (Rfailed_any 1 _) ?_
    intro w9 hb9
    have hb9' := below_trans hb2 hb9
    have hm9 := bl_below HM0.out hb9'
    have hl9 := bl_lt hm9
    obtain ⟨⟨d0, d1, d2, d3, d4, d5, d6, d7, d8, d9, d10, d11, d12, d13⟩, fz⟩ := blc14 hm9
    go_wp2
    exact ret_c Try.results24 (w.heap.size + 1) 35 _ _ rfl (put14_all hm9) Try.underlying35 rfl sizeMade rfl ⟨_, rfl, by rw [HN.out]; exact MadeV_err _ 1, put14_below (below_trans HB0.out hb9') (by omega)⟩
  cases bB
  · have HN : Hid (formR x (cutM x a b) = errR 1) := HF.out.trans (if_pos (HTW.out.trans (by first | rfl | (cases bB <;> rfl))))
    clear hE
    go_enter Try.func24, Try.ntmps24
    go_wp2_with fail
    rw [← HW0.out]
    clear HW0
    refine calls_below (HIS.out _ _ (HV.out _ (Below.refl _ _))) ?_
    intro w1 hb1
    have hz1 := bl_below HZ0.out hb1
    obtain ⟨⟨k0, k1, k2, k3, k4, k5⟩, -⟩ := blc6 hz1
    have hlz := bl_lt hz1
    go_wp2_with fail
    refine calls_below (hnA.out _) ?_
    intro w2 hb2
    replace hb2 := below_trans hb1 hb2
    clear hz1 k0 k1 k2 k3 k4 k5 hlz
    have hz1 := bl_below HZ0.out hb2
    obtain ⟨⟨k0, k1, k2, k3, k4, k5⟩, -⟩ := blc6 hz1
    have hlz := bl_lt hz1
    go_wp2_with fail
    refine calls_below (hnB.out _) ?_
    intro w3 hb3
    replace hb3 := below_trans hb2 hb3
    clear hz1 k0 k1 k2 k3 k4 k5 hlz
    have hz1 := bl_below HZ0.out hb3
    obtain ⟨⟨k0, k1, k2, k3, k4, k5⟩, -⟩ := blc6 hz1
    have hlz := bl_lt hz1
    go_wp2_with fail
    refine calls_below (Rfailed_any 1 _) ?_
    intro w9 hb9
    have hb9' := below_trans hb3 hb9
    have hm9 := bl_below HM0.out hb9'
    have hl9 := bl_lt hm9
    obtain ⟨⟨d0, d1, d2, d3, d4, d5, d6, d7, d8, d9, d10, d11, d12, d13⟩, fz⟩ := blc14 hm9
    go_wp2
    exact ret_c Try.results24 (w.heap.size + 1) 35 _ _ rfl (put14_all hm9) Try.underlying35 rfl sizeMade rfl ⟨_, rfl, by rw [HN.out]; exact MadeV_err _ 1, put14_below (below_trans HB0.out hb9') (by omega)⟩
  cases bE
  rotate_left 1
  · have HN : Hid (formR x (cutM x a b) = errR 1) := HF.out.trans (if_pos (HTW.out.trans (by first | rfl | (cases bB <;> rfl))))
    go_enter Try.func24, Try.ntmps24
    go_wp2_with fail
    rw [← HW0.out]
    clear HW0
    refine calls_below (HIS.out _ _ (HV.out _ (Below.refl _ _))) ?_
    intro w1 hb1
    have hz1 := bl_below HZ0.out hb1
    obtain ⟨⟨k0, k1, k2, k3, k4, k5⟩, -⟩ := blc6 hz1
    have hlz := bl_lt hz1
    go_wp2_with fail
    refine calls_below (hnA.out _) ?_
    intro w2 hb2
    replace hb2 := below_trans hb1 hb2
    clear hz1 k0 k1 k2 k3 k4 k5 hlz
    have hz1 := bl_below HZ0.out hb2
    obtain ⟨⟨k0, k1, k2, k3, k4, k5⟩, -⟩ := blc6 hz1
    have hlz := bl_lt hz1
    go_wp2_with fail
    refine calls_below (hnB.out _) ?_
    intro w3 hb3
    replace hb3 := below_trans hb2 hb3
    clear hz1 k0 k1 k2 k3 k4 k5 hlz
    have hz1 := bl_below HZ0.out hb3
    obtain ⟨⟨k0, k1, k2, k3, k4, k5⟩, -⟩ := blc6 hz1
    have hlz := bl_lt hz1
    go_wp2_with fail
    refine calls_below (Rfailed_any 1 _) ?_
    intro w9 hb9
    have hb9' := below_trans hb3 hb9
    have hm9 := bl_below HM0.out hb9'
    have hl9 := bl_lt hm9
    obtain ⟨⟨d0, d1, d2, d3, d4, d5, d6, d7, d8, d9, d10, d11, d12, d13⟩, fz⟩ := blc14 hm9
    go_wp2
    exact ret_c Try.results24 (w.heap.size + 1) 35 _ _ rfl (put14_all hm9) Try.underlying35 rfl sizeMade rfl ⟨_, rfl, by rw [HN.out]; exact MadeV_err _ 1, put14_below (below_trans HB0.out hb9') (by omega)⟩
  have HTT : Hid (twoB x.nodes a b = true) := HTW.out.trans rfl
  clear HTW
  have hcut := fun (v : Value) (w : World) (hV : NetV w v x) => Rcut_any x a b v w hV hlc
  cases hcb : cutB x a b
  rotate_left 1
  · rw [hcb] at hcut
    have hCut := Lib.hid hcut
    have HN : Hid (formR x (cutM x a b) = errR 5) := HF.out.trans (by rw [cut_e HTT.out, if_pos (of_decide_eq_true hcb)])
    clear hcut hcb
    go_enter Try.func24, Try.ntmps24
    go_wp2_with fail
    rw [← HW0.out]
    clear HW0
    refine calls_below (HIS.out _ _ (HV.out _ (Below.refl _ _))) ?_
    intro w1 hb1
    have hz1 := bl_below HZ0.out hb1
    obtain ⟨⟨k0, k1, k2, k3, k4, k5⟩, -⟩ := blc6 hz1
    have hlz := bl_lt hz1
    go_wp2_with fail
    refine calls_below (hnA.out _) ?_
    intro w2 hb2
    replace hb2 := below_trans hb1 hb2
    clear hz1 k0 k1 k2 k3 k4 k5 hlz
    have hz1 := bl_below HZ0.out hb2
    obtain ⟨⟨k0, k1, k2, k3, k4, k5⟩, -⟩ := blc6 hz1
    have hlz := bl_lt hz1
    go_wp2_with fail
    refine calls_below (hnB.out _) ?_
    intro w3 hb3
    replace hb3 := below_trans hb2 hb3
    clear hz1 k0 k1 k2 k3 k4 k5 hlz
    have hz1 := bl_below HZ0.out hb3
    obtain ⟨⟨k0, k1, k2, k3, k4, k5⟩, -⟩ := blc6 hz1
    have hlz := bl_lt hz1
    go_wp2_with fail
    refine calls_below (hCut.out _ _ (HV.out _ hb3)) ?_
    intro w4 hb4
    replace hb4 := below_trans hb3 hb4
    clear hz1 k0 k1 k2 k3 k4 k5 hlz
    have hz1 := bl_below HZ0.out hb4
    obtain ⟨⟨k0, k1, k2, k3, k4, k5⟩, -⟩ := blc6 hz1
    have hlz := bl_lt hz1
    go_wp2_with fail
    refine calls_below (Rfailed_any 5 _) ?_
    intro w9 hb9
    have hb9' := below_trans hb4 hb9
    have hm9 := bl_below HM0.out hb9'
    have hl9 := bl_lt hm9
    obtain ⟨⟨d0, d1, d2, d3, d4, d5, d6, d7, d8, d9, d10, d11, d12, d13⟩, fz⟩ := blc14 hm9
    go_wp2
    exact ret_c Try.results24 (w.heap.size + 1) 35 _ _ rfl (put14_all hm9) Try.underlying35 rfl sizeMade rfl ⟨_, rfl, by rw [HN.out]; exact MadeV_err _ 5, put14_below (below_trans HB0.out hb9') (by omega)⟩
  rw [hcb] at hcut
  have hCut := Lib.hid hcut
  have HN : Hid (formR x (cutM x a b) = ⟨{ x with cuts := insS lkCmp (mkLk a b) x.cuts }, 0, zLt, [], 0⟩) := HF.out.trans (by rw [cut_e HTT.out, if_neg (of_decide_eq_false hcb)])
  obtain ⟨c, hc⟩ : ∃ c, c = mkLk a b := ⟨_, rfl⟩
  have hpair : Hid (∀ w, Calls Try.prog 63 #[.int .i64 a, .int .i64 b] w fun e w' => e = .returned (.agg #[.int .i64 c.a, .int .i64 c.b]) ∧ Below w.heap.size w w') := by rw [hc]; exact fun w => Rpair_any a b w
  rw [← hc] at HN
  clear hc hcut hcb
  go_enter Try.func24, Try.ntmps24
  go_wp2_with fail
  rw [← HW0.out]
  clear HW0
  refine calls_below (HIS.out _ _ (HV.out _ (Below.refl _ _))) ?_
  intro w1 hb1
  have hz1 := bl_below HZ0.out hb1
  obtain ⟨⟨k0, k1, k2, k3, k4, k5⟩, -⟩ := blc6 hz1
  have hlz := bl_lt hz1
  go_wp2_with fail
  refine calls_below (hnA.out _) ?_
  intro w2 hb2
  replace hb2 := below_trans hb1 hb2
  clear hz1 k0 k1 k2 k3 k4 k5 hlz
  have hz1 := bl_below HZ0.out hb2
  obtain ⟨⟨k0, k1, k2, k3, k4, k5⟩, -⟩ := blc6 hz1
  have hlz := bl_lt hz1
  go_wp2_with fail
  refine calls_below (hnB.out _) ?_
  intro w3 hb3
  replace hb3 := below_trans hb2 hb3
  clear hz1 k0 k1 k2 k3 k4 k5 hlz
  have hz1 := bl_below HZ0.out hb3
  obtain ⟨⟨k0, k1, k2, k3, k4, k5⟩, -⟩ := blc6 hz1
  have hlz := bl_lt hz1
  go_wp2_with fail
  refine calls_below (hCut.out _ _ (HV.out _ hb3)) ?_
  intro w4 hb4
  replace hb4 := below_trans hb3 hb4
  clear hz1 k0 k1 k2 k3 k4 k5 hlz
  have hz1 := bl_below HZ0.out hb4
  obtain ⟨⟨k0, k1, k2, k3, k4, k5⟩, -⟩ := blc6 hz1
  have hlz := bl_lt hz1
  go_wp2_with fail
  refine calls_below (hpair.out _) ?_
  intro w5 hb5
  replace hb5 := below_trans hb4 hb5
  go_wp2
  obtain ⟨w6, hw6⟩ : ∃ w6, w6 = w5.alloc (.cells #[.int .i64 c.a, .int .i64 c.b] 100) := ⟨_, rfl⟩
  have hb6 : Below w0.heap.size w0 w6 := by rw [hw6]; exact below_alloc hb5 _
  have hl6 : w6.heap[w5.heap.size]? = some (.cells #[.int .i64 c.a, .int .i64 c.b] 100 (0, 0)) := by rw [hw6]; exact bl_new _ _
  have HB6 := Lib.hid hb6
  have HL6 := Lib.hid hl6
  have HS6 := Lib.hid hb5.size
  rw [← hw6]
  clear hw6 hb6 hl6 hb1 hb2 hb3 hb4 hb5 hz1 k0 k1 k2 k3 k4 k5 hlz
  go_loopw [8, 9, 10] (fun u dn i wr => ∃ k : Nat, k ≤ x.cuts.length ∧ i = .int .i64 k ∧ dn = .bool (gtAny lkCmp c (x.cuts.take k)) ∧ Hid (Own wr w6.heap.size 100 u (outS lkCmp c (x.cuts.take k))) ∧ Hid (Below w6.heap.size w6 wr)) (fun _ _ i _ => x.cuts.length - (intOf i).toNat)
  case atStart => exact ⟨0, Nat.zero_le _, rfl, rfl, (Own.nil _ _ _ : Own w6 w6.heap.size 100 (.slice none 0 0) ([] : List Lk)), Below.refl _ _⟩
  case round =>
    obtain ⟨k, hk, rfl, rfl, hO, hB⟩ := hrel
    have hB0 := below_trans HB6.out hB.out
    have hz1 := bl_below HZ0.out hB0
    obtain ⟨⟨k0, k1, k2, k3, k4, k5⟩, -⟩ := blc6 hz1
    have hlz := bl_lt hz1
    have hl7 := bl_below HL6.out hB.out
    have c0 := bl_cell hl7 0
    have c1 := bl_cell hl7 1
    simp at c0 c1
    have hll := bl_lt hl7
    obtain ⟨dn, hdn⟩ : ∃ dn, gtAny lkCmp c (x.cuts.take k) = dn := ⟨_, rfl⟩
    have HDN := Lib.hid hdn
    rw [hdn]
    clear hdn hz1 hl7 hB0
    by_cases hlk : k < x.cuts.length
    · obtain ⟨bb, off, d, rfl, hx, e0, e1⟩ := (HC.out.below (below_trans HB6.out hB.out)).lk k hlk
      have hbt : bb < wr.heap.size := World.block_lt_of_cell? wr _ e0
      have hts := Lib.hid (take_snoc' hx)
      go_upto_region 14 with fail
      obtain ⟨w7, hw7⟩ : ∃ w7, w7 = wr.alloc (.cells #[.int .i64 d.a, .int .i64 d.b] 100) := ⟨_, rfl⟩
      have hb7 : Below wr.heap.size wr w7 := by rw [hw7]; exact below_alloc (Below.refl _ _) _
      have hO7 : Own w7 w6.heap.size 100 u8 (outS lkCmp c (x.cuts.take k)) := by rw [hw7]; exact hO.out.alloc _
      have hd7 : w7.heap[wr.heap.size]? = some (.cells #[.int .i64 d.a, .int .i64 d.b] 100 (0, 0)) := by rw [hw7]; exact bl_new _ _
      have hB7 : Below w6.heap.size w6 w7 := below_trans hB.out hb7
      have HO7 := Lib.hid hO7
      have HD7 := Lib.hid hd7
      have HB7 := Lib.hid hB7
      have HNE : Hid (∀ g, (u8 : Value).ownBlock = some g → g < wr.heap.size) := fun g h => (hO.out.lt g h).2
      have HLL : Hid ((outS lkCmp c (x.cuts.take k)).length ≤ k + 1) := by
        have h1 := outS_len lkCmp c (x.cuts.take k)
        have h2 : (x.cuts.take k).length ≤ k := List.length_take_le _ _
        show _ ≤ _
        omega
      rw [← hw7]
      have hB0 := below_trans HB6.out hB7
      clear hw7 hb7 hO7 hd7 hB hO hll c0 c1 k0 k1 k2 k3 k4 k5 hlz e0 e1 hbt
      have hl7 := bl_below HL6.out hB7
      have c0 := (bl_cell hl7 0).trans rfl
      have c1 := (bl_cell hl7 1).trans rfl
      have e0 := (bl_cell HD7.out 0).trans rfl
      have e1 := (bl_cell HD7.out 1).trans rfl
      have hll := bl_lt hl7
      have hle := bl_lt HD7.out
      have hz1 := bl_below HZ0.out hB0
      obtain ⟨⟨k0, k1, k2, k3, k4, k5⟩, -⟩ := blc6 hz1
      have hlz := bl_lt hz1
      clear hl7 hz1 hB0 hB7
      cases dn
      rotate_left 1
      · skip
        go_wp2_with (at_builtin; refine hid_stop ?_)
        change wpList _ _ _ _ _ (w7.alloc _)
        refine wpList_app _ w6.heap.size rfl (.tmp 82) (.tmp 84) 23 100 _ 16 rfl Try.underlying23 infoC rfl (by decide) (by decide) u8 (outS lkCmp c (x.cuts.take k)) [d] (some ⟨w7.heap.size, 0, none⟩) 1 rfl rfl (HO7.out.alloc _) ?hR ?hB ?hL ?_
        case hR => exact Rd.new w7 100 d #[.int .i64 d.a, .int .i64 d.b] rfl
        case hB => have h := HB7.out.size; simp; omega
        case hL => have h := HLL.out; simp; omega
        intro v1 w8 ho hg hat
        have hgq : w7.grownBy w8 (u8 : Value).ownBlock := grown_of_alloc hg
        have hF1 : Hid (Own w8 w6.heap.size 100 v1 (outS lkCmp c (x.cuts.take (k + 1)))) := by
          show Own _ _ _ _ _
          rw [hts.out, outS_yes lkCmp c d HDN.out]
          exact ho
        have hF2 : Hid (Below w6.heap.size w6 w8) := HB7.out.grown hgq HB7.out.size (fun k hk => (HO7.out.lt k hk).1)
        have hF3 : Hid (gtAny lkCmp c (x.cuts.take (k + 1)) = true) := by show _ = _; rw [hts.out, gtAny_snoc, HDN.out]; rfl
        clear ho hg hgq hat
        go_wp2
        go_roundw
        case rel => exact ⟨k + 1, by omega, by go_num, by rw [hF3.out], hF1.out, hF2.out⟩
        case measure => simp [intOf]; omega
      by_cases h1 : c.a < d.a
      · have d1 : decide (c.a < d.a) = true := decide_eq_true h1
        have hgt : Hid (lkCmp c d < 0) := by show _ < _; rw [lkCmp_lt]; omega
        clear h1
        go_wp2_with (at_builtin; refine hid_stop ?_)
        change wpList _ _ _ _ _ (w7.alloc _)
        refine wpList_app _ w6.heap.size rfl (.tmp 78) (.tmp 80) 23 100 _ 16 rfl Try.underlying23 infoC rfl (by decide) (by decide) u8 (outS lkCmp c (x.cuts.take k)) [c] (some ⟨w7.heap.size, 0, none⟩) 1 rfl rfl (HO7.out.alloc _) ?hR ?hB ?hL ?_
        case hR => exact Rd.new w7 100 c #[.int .i64 c.a, .int .i64 c.b] rfl
        case hB => have h := HB7.out.size; simp; omega
        case hL => have h := HLL.out; simp; omega
        intro v1 w8 ho hg hat
        have hgq : w7.grownBy w8 (u8 : Value).ownBlock := grown_of_alloc hg
        have HO8 := Lib.hid ho
        have HB8 : Hid (Below w6.heap.size w6 w8) := HB7.out.grown hgq HB7.out.size (fun k hk => (HO7.out.lt k hk).1)
        have hd8 := bl_grown HD7.out hgq (fun h => by have := HNE.out _ h.symm; omega)
        clear ho hg hgq hat c0 c1 e0 e1 hll hle k0 k1 k2 k3 k4 k5 hlz
        have e0 := (bl_cell hd8 0).trans rfl
        have e1 := (bl_cell hd8 1).trans rfl
        have hle := bl_lt hd8
        go_wp2_with (at_builtin; refine hid_stop ?_)
        change wpList _ _ _ _ _ (w8.alloc _)
        refine wpList_app _ w6.heap.size rfl (.tmp 82) (.tmp 84) 23 100 _ 16 rfl Try.underlying23 infoC rfl (by decide) (by decide) v1 (outS lkCmp c (x.cuts.take k) ++ [c]) [d] (some ⟨w8.heap.size, 0, none⟩) 1 rfl rfl (HO8.out.alloc _) ?hR ?hB ?hL ?_
        case hR => exact Rd.new w8 100 d #[.int .i64 d.a, .int .i64 d.b] rfl
        case hB => have h := HB8.out.size; simp; omega
        case hL => have h := HLL.out; simp; omega
        intro v2 w9 ho hg hat
        have hgq : w8.grownBy w9 (v1 : Value).ownBlock := grown_of_alloc hg
        have hF1 : Hid (Own w9 w6.heap.size 100 v2 (outS lkCmp c (x.cuts.take (k + 1)))) := by
          show Own _ _ _ _ _
          rw [hts.out, outS_first lkCmp c d HDN.out hgt.out]
          exact ho
        have hF2 : Hid (Below w6.heap.size w6 w9) := HB8.out.grown hgq HB8.out.size (fun k hk => (HO8.out.lt k hk).1)
        have hF3 : Hid (gtAny lkCmp c (x.cuts.take (k + 1)) = true) := by show _ = _; rw [hts.out, gtAny_snoc, HDN.out, decide_eq_true hgt.out]; rfl
        clear ho hg hgq hat
        go_wp2
        go_roundw
        case rel => exact ⟨k + 1, by omega, by go_num, by rw [hF3.out], hF1.out, hF2.out⟩
        case measure => simp [intOf]; omega
      · have d1 : decide (c.a < d.a) = false := decide_eq_false h1
        by_cases h2 : d.a = c.a
        · have d2 : (d.a == c.a) = true := beq_iff_eq.2 h2
          by_cases h3 : c.b < d.b
          · have d3 : decide (c.b < d.b) = true := decide_eq_true h3
            have hgt : Hid (lkCmp c d < 0) := by show _ < _; rw [lkCmp_lt]; omega
            clear h1 h2 h3
            go_wp2_with (at_builtin; refine hid_stop ?_)
            change wpList _ _ _ _ _ (w7.alloc _)
            refine wpList_app _ w6.heap.size rfl (.tmp 78) (.tmp 80) 23 100 _ 16 rfl Try.underlying23 infoC rfl (by decide) (by decide) u8 (outS lkCmp c (x.cuts.take k)) [c] (some ⟨w7.heap.size, 0, none⟩) 1 rfl rfl (HO7.out.alloc _) ?hR ?hB ?hL ?_
            case hR => exact Rd.new w7 100 c #[.int .i64 c.a, .int .i64 c.b] rfl
            case hB => have h := HB7.out.size; simp; omega
            case hL => have h := HLL.out; simp; omega
            intro v1 w8 ho hg hat
            have hgq : w7.grownBy w8 (u8 : Value).ownBlock := grown_of_alloc hg
            have HO8 := Lib.hid ho
            have HB8 : Hid (Below w6.heap.size w6 w8) := HB7.out.grown hgq HB7.out.size (fun k hk => (HO7.out.lt k hk).1)
            have hd8 := bl_grown HD7.out hgq (fun h => by have := HNE.out _ h.symm; omega)
            clear ho hg hgq hat c0 c1 e0 e1 hll hle k0 k1 k2 k3 k4 k5 hlz
            have e0 := (bl_cell hd8 0).trans rfl
            have e1 := (bl_cell hd8 1).trans rfl
            have hle := bl_lt hd8
            go_wp2_with (at_builtin; refine hid_stop ?_)
            change wpList _ _ _ _ _ (w8.alloc _)
            refine wpList_app _ w6.heap.size rfl (.tmp 82) (.tmp 84) 23 100 _ 16 rfl Try.underlying23 infoC rfl (by decide) (by decide) v1 (outS lkCmp c (x.cuts.take k) ++ [c]) [d] (some ⟨w8.heap.size, 0, none⟩) 1 rfl rfl (HO8.out.alloc _) ?hR ?hB ?hL ?_
            case hR => exact Rd.new w8 100 d #[.int .i64 d.a, .int .i64 d.b] rfl
            case hB => have h := HB8.out.size; simp; omega
            case hL => have h := HLL.out; simp; omega
            intro v2 w9 ho hg hat
            have hgq : w8.grownBy w9 (v1 : Value).ownBlock := grown_of_alloc hg
            have hF1 : Hid (Own w9 w6.heap.size 100 v2 (outS lkCmp c (x.cuts.take (k + 1)))) := by
              show Own _ _ _ _ _
              rw [hts.out, outS_first lkCmp c d HDN.out hgt.out]
              exact ho
            have hF2 : Hid (Below w6.heap.size w6 w9) := HB8.out.grown hgq HB8.out.size (fun k hk => (HO8.out.lt k hk).1)
            have hF3 : Hid (gtAny lkCmp c (x.cuts.take (k + 1)) = true) := by show _ = _; rw [hts.out, gtAny_snoc, HDN.out, decide_eq_true hgt.out]; rfl
            clear ho hg hgq hat
            go_wp2
            go_roundw
            case rel => exact ⟨k + 1, by omega, by go_num, by rw [hF3.out], hF1.out, hF2.out⟩
            case measure => simp [intOf]; omega
          · have d3 : decide (c.b < d.b) = false := decide_eq_false h3
            have hgt : Hid (¬ lkCmp c d < 0) := by show ¬ _; rw [lkCmp_lt]; omega
            clear h1 h2 h3
            go_wp2_with (at_builtin; refine hid_stop ?_)
            change wpList _ _ _ _ _ (w7.alloc _)
            refine wpList_app _ w6.heap.size rfl (.tmp 82) (.tmp 84) 23 100 _ 16 rfl Try.underlying23 infoC rfl (by decide) (by decide) u8 (outS lkCmp c (x.cuts.take k)) [d] (some ⟨w7.heap.size, 0, none⟩) 1 rfl rfl (HO7.out.alloc _) ?hR ?hB ?hL ?_
            case hR => exact Rd.new w7 100 d #[.int .i64 d.a, .int .i64 d.b] rfl
            case hB => have h := HB7.out.size; simp; omega
            case hL => have h := HLL.out; simp; omega
            intro v1 w8 ho hg hat
            have hgq : w7.grownBy w8 (u8 : Value).ownBlock := grown_of_alloc hg
            have hF1 : Hid (Own w8 w6.heap.size 100 v1 (outS lkCmp c (x.cuts.take (k + 1)))) := by
              show Own _ _ _ _ _
              rw [hts.out, outS_no lkCmp c d HDN.out (by have h := hgt.out; omega)]
              exact ho
            have hF2 : Hid (Below w6.heap.size w6 w8) := HB7.out.grown hgq HB7.out.size (fun k hk => (HO7.out.lt k hk).1)
            have hF3 : Hid (gtAny lkCmp c (x.cuts.take (k + 1)) = false) := by show _ = _; rw [hts.out, gtAny_snoc, HDN.out]; rw [decide_eq_false (by have h := hgt.out; omega)]; rfl
            clear ho hg hgq hat
            go_wp2
            go_roundw
            case rel => exact ⟨k + 1, by omega, by go_num, by rw [hF3.out], hF1.out, hF2.out⟩
            case measure => simp [intOf]; omega
        · have d2 : (d.a == c.a) = false := beq_eq_false_iff_ne.2 h2
          have hgt : Hid (¬ lkCmp c d < 0) := by show ¬ _; rw [lkCmp_lt]; omega
          clear h1 h2
          go_wp2_with (at_builtin; refine hid_stop ?_)
          change wpList _ _ _ _ _ (w7.alloc _)
          refine wpList_app _ w6.heap.size rfl (.tmp 82) (.tmp 84) 23 100 _ 16 rfl Try.underlying23 infoC rfl (by decide) (by decide) u8 (outS lkCmp c (x.cuts.take k)) [d] (some ⟨w7.heap.size, 0, none⟩) 1 rfl rfl (HO7.out.alloc _) ?hR ?hB ?hL ?_
          case hR => exact Rd.new w7 100 d #[.int .i64 d.a, .int .i64 d.b] rfl
          case hB => have h := HB7.out.size; simp; omega
          case hL => have h := HLL.out; simp; omega
          intro v1 w8 ho hg hat
          have hgq : w7.grownBy w8 (u8 : Value).ownBlock := grown_of_alloc hg
          have hF1 : Hid (Own w8 w6.heap.size 100 v1 (outS lkCmp c (x.cuts.take (k + 1)))) := by
            show Own _ _ _ _ _
            rw [hts.out, outS_no lkCmp c d HDN.out (by have h := hgt.out; omega)]
            exact ho
          have hF2 : Hid (Below w6.heap.size w6 w8) := HB7.out.grown hgq HB7.out.size (fun k hk => (HO7.out.lt k hk).1)
          have hF3 : Hid (gtAny lkCmp c (x.cuts.take (k + 1)) = false) := by show _ = _; rw [hts.out, gtAny_snoc, HDN.out]; rw [decide_eq_false (by have h := hgt.out; omega)]; rfl
          clear ho hg hgq hat
          go_wp2
          go_roundw
          case rel => exact ⟨k + 1, by omega, by go_num, by rw [hF3.out], hF1.out, hF2.out⟩
          case measure => simp [intOf]; omega
    · have hkl : k = x.cuts.length := by omega
      have HKL := Lib.hid hkl
      clear hkl
      have HDE : Hid (gtAny lkCmp c x.cuts = dn) := by show _ = _; rw [← HDN.out, HKL.out, List.take_length]
      have HOE : Hid (Own wr w6.heap.size 100 u8 (outS lkCmp c x.cuts)) := by
        have h := hO.out
        rw [HKL.out, List.take_length] at h
        exact h
      clear HDN HKL hO
      go_upto_region 18 with fail
      cases dn
      · go_wp2_with (at_builtin; refine hid_stop ?_)
        change wpList _ _ _ _ _ (wr.alloc _)
        refine wpList_app _ w6.heap.size rfl (.tmp 88) (.tmp 90) 23 100 _ 16 rfl Try.underlying23 infoC rfl (by decide) (by decide) u8 (outS lkCmp c x.cuts) [c] (some ⟨wr.heap.size, 0, none⟩) 1 rfl rfl (HOE.out.alloc _) ?hR ?hB ?hL ?_
        case hR => exact Rd.new wr 100 c #[.int .i64 c.a, .int .i64 c.b] rfl
        case hB => have h := hB.out.size; simp; omega
        case hL => have h := outS_len lkCmp c x.cuts; simp; omega
        intro v1 w8 ho hg hat
        have hgq : wr.grownBy w8 (u8 : Value).ownBlock := grown_of_alloc hg
        have hb8 : Below w6.heap.size w6 w8 := hB.out.grown hgq hB.out.size (fun k hk => (HOE.out.lt k hk).1)
        have hO8 : Own w8 w6.heap.size 100 v1 (insS lkCmp c x.cuts) := by rw [← outS_end_no lkCmp c HDE.out]; exact ho
        clear ho hg hgq hat k0 k1 k2 k3 k4 k5 hlz c0 c1 hll hB HOE
        have HB8 := Lib.hid hb8
        clear hb8
        obtain ⟨A9, c9, hu9, -, -⟩ := Own.slice (hO8)
        have HO9 := Lib.hid (hO8)
        subst hu9
        have hz9 := bl_below HZ0.out (below_trans HB6.out HB8.out)
        have hm9 := bl_below HM0.out (below_trans HB6.out HB8.out)
        have HB9 := Lib.hid (below_trans HB6.out HB8.out)
        obtain ⟨⟨k0, k1, k2, k3, k4, k5⟩, f0, f1, f2, f3, f4, f5⟩ := blc6 hz9
        obtain ⟨⟨d0, d1, d2, d3, d4, d5, d6, d7, d8, d9, d10, d11, d12, d13⟩, fz⟩ := blc14 hm9
        have hlz := bl_lt hz9
        have hlm := bl_lt hm9
        clear hz9
        go_wp2
        have hfar := bl_far hm9 (p := ⟨w.heap.size, 4, none⟩) (by simp) (.slice A9 (insS lkCmp c x.cuts).length c9)
        have hbl : Below w.heap.size w (w8.setCell ⟨w.heap.size, 4, none⟩ (.slice A9 (insS lkCmp c x.cuts).length c9)) := (below_trans HB0.out HB9.out).setCell (Nat.le_refl _) _
        have hq9 := HS0.out
        have hq8 := HB6.out.size
        exact ret_c Try.results24 (w.heap.size + 1) 35 _ _ rfl (put14_all hfar) Try.underlying35 rfl sizeMade rfl ⟨_, rfl, by
          rw [HN.out]
          exact ⟨AW, cW, A9, c9, AT, cT, none, 0, rfl, ⟨AW, cW, A9, c9, AT, cT, rfl, HWW.out.below (put14_below hbl (by omega)), Own.rd ((HO9.out.far (by show w.heap.size < w6.heap.size; omega) _).put14 (by omega)), HTW.out.below (put14_below hbl (by omega))⟩, Rd.nil _ _⟩, put14_below hbl (by omega)⟩
      · have hO8 : Own wr w6.heap.size 100 u8 (insS lkCmp c x.cuts) := by rw [← outS_end_yes lkCmp c HDE.out]; exact HOE.out
        clear k0 k1 k2 k3 k4 k5 hlz c0 c1 hll HOE
        obtain ⟨A9, c9, hu9, -, -⟩ := Own.slice (hO8)
        have HO9 := Lib.hid (hO8)
        subst hu9
        have hz9 := bl_below HZ0.out (below_trans HB6.out hB.out)
        have hm9 := bl_below HM0.out (below_trans HB6.out hB.out)
        have HB9 := Lib.hid (below_trans HB6.out hB.out)
        obtain ⟨⟨k0, k1, k2, k3, k4, k5⟩, f0, f1, f2, f3, f4, f5⟩ := blc6 hz9
        obtain ⟨⟨d0, d1, d2, d3, d4, d5, d6, d7, d8, d9, d10, d11, d12, d13⟩, fz⟩ := blc14 hm9
        have hlz := bl_lt hz9
        have hlm := bl_lt hm9
        clear hz9
        go_wp2
        have hfar := bl_far hm9 (p := ⟨w.heap.size, 4, none⟩) (by simp) (.slice A9 (insS lkCmp c x.cuts).length c9)
        have hbl : Below w.heap.size w (wr.setCell ⟨w.heap.size, 4, none⟩ (.slice A9 (insS lkCmp c x.cuts).length c9)) := (below_trans HB0.out HB9.out).setCell (Nat.le_refl _) _
        have hq9 := HS0.out
        have hq8 := HB6.out.size
        exact ret_c Try.results24 (w.heap.size + 1) 35 _ _ rfl (put14_all hfar) Try.underlying35 rfl sizeMade rfl ⟨_, rfl, by
          rw [HN.out]
          exact ⟨AW, cW, A9, c9, AT, cT, none, 0, rfl, ⟨AW, cW, A9, c9, AT, cT, rfl, HWW.out.below (put14_below hbl (by omega)), Own.rd ((HO9.out.far (by show w.heap.size < w6.heap.size; omega) _).put14 (by omega)), HTW.out.below (put14_below hbl (by omega))⟩, Rd.nil _ _⟩, put14_below hbl (by omega)⟩
attribute [local go_sem high] eqATm eqALt eqAAc eqALk
set_option maxHeartbeats 4000000 in
set_option maxRecDepth 100000 in
theorem RHeal_any (x : Nt) (a b : Int) (v : Value) (w : World) (hV : NetV w v x) (hlc : x.cuts.length ≤ 10000000) (hlw : x.way.length ≤ 10000000) (hlt : x.timers.length ≤ 10000000) :
    Calls Try.prog 26 #[v, .int .i64 a, .int .i64 b] w fun e w' => ∃ v, e = .returned v ∧ MadeV w' v (formR x (healM x a b)) ∧ Below w.heap.size w w' := by
  obtain ⟨AW, cW, AC, cC, AT, cT, rfl, hW, hC, hT⟩ := hV
  obtain ⟨w0, hw0⟩ : ∃ w0, w0 = (w.alloc (.cells #[.int .i64 x.nodes, .int .i64 x.now, .int .i64 x.next, .slice AW x.way.length cW, .slice AC x.cuts.length cC, .slice AT x.timers.length cT] 26)).alloc (.cells #[.int .i64 0, .int .i64 0, .int .i64 0, .slice none 0 0, .slice none 0 0, .slice none 0 0, .int .i64 0, .int .i64 0, .int .i64 0, .int .i64 0, .int .i64 0, .string ⟨#[]⟩, .slice none 0 0, .int .i64 0] 35) := ⟨_, rfl⟩
  obtain ⟨hb0, hz0, hm0, hs0⟩ := made_start hw0
  have HV : Hid (∀ W, Below w0.heap.size w0 W → NetV W (.agg #[.int .i64 x.nodes, .int .i64 x.now, .int .i64 x.next, .slice AW x.way.length cW, .slice AC x.cuts.length cC, .slice AT x.timers.length cT]) x) := fun W hb => ⟨AW, cW, AC, cC, AT, cT, rfl, hW.below (below_trans hb0 hb), hC.below (below_trans hb0 hb), hT.below (below_trans hb0 hb)⟩
  have his := fun (v : Value) (w : World) (hV : NetV w v x) => RIs_any x v w hV hlc hlw hlt
  have HB0 := Lib.hid hb0
  have HZ0 := Lib.hid hz0
  have HM0 := Lib.hid hm0
  have HS0 := Lib.hid hs0
  have HW0 := Lib.hid hw0
  have HC := Lib.hid (hC.below hb0)
  have HT := Lib.hid (hT.below hb0)
  have HWW := Lib.hid hW
  have HTW := Lib.hid hT
  have HCW := Lib.hid hC
  clear hb0 hz0 hm0 hs0 hw0 hW hC hT
  cases hc : checkB x
  · rw [hc] at his
    have HIS := Lib.hid his
    have HN : Hid (formR x (healM x a b) = errR 2) := if_pos hc
    clear his hc
    go_enter Try.func26, Try.ntmps26
    go_wp2_with fail
    rw [← HW0.out]
    clear HW0
    refine calls_below (HIS.out _ _ (HV.out _ (Below.refl _ _))) ?_
    intro w1 hb1
    have hz1 := bl_below HZ0.out hb1
    obtain ⟨⟨k0, k1, k2, k3, k4, k5⟩, -⟩ := blc6 hz1
    have hlz := bl_lt hz1
    go_wp2_with fail
    refine calls_below (Rfailed_any 2 _) ?_
    intro w9 hb9
    have hb9' := below_trans hb1 hb9
    have hm9 := bl_below HM0.out hb9'
    have hl9 := bl_lt hm9
    obtain ⟨⟨d0, d1, d2, d3, d4, d5, d6, d7, d8, d9, d10, d11, d12, d13⟩, fz⟩ := blc14 hm9
    go_wp2
    exact ret_c Try.results26 (w.heap.size + 1) 35 _ _ rfl (put14_all hm9) Try.underlying35 rfl sizeMade rfl ⟨_, rfl, by rw [HN.out]; exact MadeV_err _ 2, put14_below (below_trans HB0.out hb9') (by omega)⟩
  rw [hc] at his
  have HIS := Lib.hid his
  have HF : Hid (formR x (healM x a b) = healM x a b) := if_neg (by rw [hc]; decide)
  have HOK : Hid (Ok x) := (ok_iff x).1 hc
  clear his hc
  obtain ⟨bA, hA⟩ : ∃ b, isNodeB x.nodes a = b := ⟨_, rfl⟩
  obtain ⟨bB, hB⟩ : ∃ b', isNodeB x.nodes b = b' := ⟨_, rfl⟩
  obtain ⟨bE, hE⟩ : ∃ b', (a == b) = b' := ⟨_, rfl⟩
  have htw : twoB x.nodes a b = (bA && bB && !bE) := by unfold twoB; rw [hA, hB, ← hE]; congr 1; rw [Bool.eq_iff_iff]; simp
  have hnA : Hid (∀ w, Calls Try.prog 61 #[.agg #[.int .i64 x.nodes, .int .i64 x.now, .int .i64 x.next, .slice AW x.way.length cW, .slice AC x.cuts.length cC, .slice AT x.timers.length cT], .int .i64 a] w fun e w' => e = .returned (.bool bA) ∧ Below w.heap.size w w') := fun w => by have h := RisNode_any x.nodes x.now x.next a AW AC AT x.way.length cW x.cuts.length cC x.timers.length cT w; rwa [hA] at h
  have hnB : Hid (∀ w, Calls Try.prog 61 #[.agg #[.int .i64 x.nodes, .int .i64 x.now, .int .i64 x.next, .slice AW x.way.length cW, .slice AC x.cuts.length cC, .slice AT x.timers.length cT], .int .i64 b] w fun e w' => e = .returned (.bool bB) ∧ Below w.heap.size w w') := fun w => by have h := RisNode_any x.nodes x.now x.next b AW AC AT x.way.length cW x.cuts.length cC x.timers.length cT w; rwa [hB] at h
  have HTW := Lib.hid htw
  clear htw hA hB
  cases bA
  · have HN : Hid (formR x (healM x a b) = errR 1) := HF.out.trans (if_pos (HTW.out.trans (by first | rfl | (cases bB <;> rfl))))
    clear hE
    go_enter Try.func26, Try.ntmps26
    go_wp2_with fail
    rw [← HW0.out]
    clear HW0
    refine calls_below (HIS.out _ _ (HV.out _ (Below.refl _ _))) ?_
    intro w1 hb1
    have hz1 := bl_below HZ0.out hb1
    obtain ⟨⟨k0, k1, k2, k3, k4, k5⟩, -⟩ := blc6 hz1
    have hlz := bl_lt hz1
    go_wp2_with fail
    refine calls_below (hnA.out _) ?_
    intro w2 hb2
    replace hb2 := below_trans hb1 hb2
    clear hz1 k0 k1 k2 k3 k4 k5 hlz
    have hz1 := bl_below HZ0.out hb2
    obtain ⟨⟨k0, k1, k2, k3, k4, k5⟩, -⟩ := blc6 hz1
    have hlz := bl_lt hz1
    go_wp2_with fail
    refine calls_below (Rfailed_any 1 _) ?_
    intro w9 hb9
    have hb9' := below_trans hb2 hb9
    have hm9 := bl_below HM0.out hb9'
    have hl9 := bl_lt hm9
    obtain ⟨⟨d0, d1, d2, d3, d4, d5, d6, d7, d8, d9, d10, d11, d12, d13⟩, fz⟩ := blc14 hm9
    go_wp2
    exact ret_c Try.results26 (w.heap.size + 1) 35 _ _ rfl (put14_all hm9) Try.underlying35 rfl sizeMade rfl ⟨_, rfl, by rw [HN.out]; exact MadeV_err _ 1, put14_below (below_trans HB0.out hb9') (by omega)⟩
  cases bB
  · have HN : Hid (formR x (healM x a b) = errR 1) := HF.out.trans (if_pos (HTW.out.trans (by first | rfl | (cases bB <;> rfl))))
    clear hE
    go_enter Try.func26, Try.ntmps26
    go_wp2_with fail
    rw [← HW0.out]
    clear HW0
    refine calls_below (HIS.out _ _ (HV.out _ (Below.refl _ _))) ?_
    intro w1 hb1
    have hz1 := bl_below HZ0.out hb1
    obtain ⟨⟨k0, k1, k2, k3, k4, k5⟩, -⟩ := blc6 hz1
    have hlz := bl_lt hz1
    go_wp2_with fail
    refine calls_below (hnA.out _) ?_
    intro w2 hb2
    replace hb2 := below_trans hb1 hb2
    clear hz1 k0 k1 k2 k3 k4 k5 hlz
    have hz1 := bl_below HZ0.out hb2
    obtain ⟨⟨k0, k1, k2, k3, k4, k5⟩, -⟩ := blc6 hz1
    have hlz := bl_lt hz1
    go_wp2_with fail
    refine calls_below (hnB.out _) ?_
    intro w3 hb3
    replace hb3 := below_trans hb2 hb3
    clear hz1 k0 k1 k2 k3 k4 k5 hlz
    have hz1 := bl_below HZ0.out hb3
    obtain ⟨⟨k0, k1, k2, k3, k4, k5⟩, -⟩ := blc6 hz1
    have hlz := bl_lt hz1
    go_wp2_with fail
    refine calls_below (Rfailed_any 1 _) ?_
    intro w9 hb9
    have hb9' := below_trans hb3 hb9
    have hm9 := bl_below HM0.out hb9'
    have hl9 := bl_lt hm9
    obtain ⟨⟨d0, d1, d2, d3, d4, d5, d6, d7, d8, d9, d10, d11, d12, d13⟩, fz⟩ := blc14 hm9
    go_wp2
    exact ret_c Try.results26 (w.heap.size + 1) 35 _ _ rfl (put14_all hm9) Try.underlying35 rfl sizeMade rfl ⟨_, rfl, by rw [HN.out]; exact MadeV_err _ 1, put14_below (below_trans HB0.out hb9') (by omega)⟩
  cases bE
  rotate_left 1
  · have HN : Hid (formR x (healM x a b) = errR 1) := HF.out.trans (if_pos (HTW.out.trans (by first | rfl | (cases bB <;> rfl))))
    go_enter Try.func26, Try.ntmps26
    go_wp2_with fail
    rw [← HW0.out]
    clear HW0
    refine calls_below (HIS.out _ _ (HV.out _ (Below.refl _ _))) ?_
    intro w1 hb1
    have hz1 := bl_below HZ0.out hb1
    obtain ⟨⟨k0, k1, k2, k3, k4, k5⟩, -⟩ := blc6 hz1
    have hlz := bl_lt hz1
    go_wp2_with fail
    refine calls_below (hnA.out _) ?_
    intro w2 hb2
    replace hb2 := below_trans hb1 hb2
    clear hz1 k0 k1 k2 k3 k4 k5 hlz
    have hz1 := bl_below HZ0.out hb2
    obtain ⟨⟨k0, k1, k2, k3, k4, k5⟩, -⟩ := blc6 hz1
    have hlz := bl_lt hz1
    go_wp2_with fail
    refine calls_below (hnB.out _) ?_
    intro w3 hb3
    replace hb3 := below_trans hb2 hb3
    clear hz1 k0 k1 k2 k3 k4 k5 hlz
    have hz1 := bl_below HZ0.out hb3
    obtain ⟨⟨k0, k1, k2, k3, k4, k5⟩, -⟩ := blc6 hz1
    have hlz := bl_lt hz1
    go_wp2_with fail
    refine calls_below (Rfailed_any 1 _) ?_
    intro w9 hb9
    have hb9' := below_trans hb3 hb9
    have hm9 := bl_below HM0.out hb9'
    have hl9 := bl_lt hm9
    obtain ⟨⟨d0, d1, d2, d3, d4, d5, d6, d7, d8, d9, d10, d11, d12, d13⟩, fz⟩ := blc14 hm9
    go_wp2
    exact ret_c Try.results26 (w.heap.size + 1) 35 _ _ rfl (put14_all hm9) Try.underlying35 rfl sizeMade rfl ⟨_, rfl, by rw [HN.out]; exact MadeV_err _ 1, put14_below (below_trans HB0.out hb9') (by omega)⟩
  have HTT : Hid (twoB x.nodes a b = true) := HTW.out.trans rfl
  clear HTW
  have hcut := fun (v : Value) (w : World) (hV : NetV w v x) => Rcut_any x a b v w hV hlc
  cases hcb : cutB x a b
  · rw [hcb] at hcut
    have hCut := Lib.hid hcut
    have HN : Hid (formR x (healM x a b) = errR 4) := HF.out.trans (by rw [heal_e HTT.out, if_neg (of_decide_eq_false hcb)])
    clear hcut hcb
    go_enter Try.func26, Try.ntmps26
    go_wp2_with fail
    rw [← HW0.out]
    clear HW0
    refine calls_below (HIS.out _ _ (HV.out _ (Below.refl _ _))) ?_
    intro w1 hb1
    have hz1 := bl_below HZ0.out hb1
    obtain ⟨⟨k0, k1, k2, k3, k4, k5⟩, -⟩ := blc6 hz1
    have hlz := bl_lt hz1
    go_wp2_with fail
    refine calls_below (hnA.out _) ?_
    intro w2 hb2
    replace hb2 := below_trans hb1 hb2
    clear hz1 k0 k1 k2 k3 k4 k5 hlz
    have hz1 := bl_below HZ0.out hb2
    obtain ⟨⟨k0, k1, k2, k3, k4, k5⟩, -⟩ := blc6 hz1
    have hlz := bl_lt hz1
    go_wp2_with fail
    refine calls_below (hnB.out _) ?_
    intro w3 hb3
    replace hb3 := below_trans hb2 hb3
    clear hz1 k0 k1 k2 k3 k4 k5 hlz
    have hz1 := bl_below HZ0.out hb3
    obtain ⟨⟨k0, k1, k2, k3, k4, k5⟩, -⟩ := blc6 hz1
    have hlz := bl_lt hz1
    go_wp2_with fail
    refine calls_below (hCut.out _ _ (HV.out _ hb3)) ?_
    intro w4 hb4
    replace hb4 := below_trans hb3 hb4
    clear hz1 k0 k1 k2 k3 k4 k5 hlz
    have hz1 := bl_below HZ0.out hb4
    obtain ⟨⟨k0, k1, k2, k3, k4, k5⟩, -⟩ := blc6 hz1
    have hlz := bl_lt hz1
    go_wp2_with fail
    refine calls_below (Rfailed_any 4 _) ?_
    intro w9 hb9
    have hb9' := below_trans hb4 hb9
    have hm9 := bl_below HM0.out hb9'
    have hl9 := bl_lt hm9
    obtain ⟨⟨d0, d1, d2, d3, d4, d5, d6, d7, d8, d9, d10, d11, d12, d13⟩, fz⟩ := blc14 hm9
    go_wp2
    exact ret_c Try.results26 (w.heap.size + 1) 35 _ _ rfl (put14_all hm9) Try.underlying35 rfl sizeMade rfl ⟨_, rfl, by rw [HN.out]; exact MadeV_err _ 4, put14_below (below_trans HB0.out hb9') (by omega)⟩
  rw [hcb] at hcut
  have hCut := Lib.hid hcut
  have HN : Hid (formR x (healM x a b) = ⟨{ x with cuts := x.cuts.filter (fun d => decide (d ≠ mkLk a b)) }, 0, zLt, [], 0⟩) := HF.out.trans (by rw [heal_e HTT.out, if_pos (of_decide_eq_true hcb)])
  obtain ⟨c, hc⟩ : ∃ c, c = mkLk a b := ⟨_, rfl⟩
  have hpair : Hid (∀ w, Calls Try.prog 63 #[.int .i64 a, .int .i64 b] w fun e w' => e = .returned (.agg #[.int .i64 c.a, .int .i64 c.b]) ∧ Below w.heap.size w w') := by rw [hc]; exact fun w => Rpair_any a b w
  rw [← hc] at HN
  clear hc hcut hcb
  go_enter Try.func26, Try.ntmps26
  go_wp2_with fail
  rw [← HW0.out]
  clear HW0
  refine calls_below (HIS.out _ _ (HV.out _ (Below.refl _ _))) ?_
  intro w1 hb1
  have hz1 := bl_below HZ0.out hb1
  obtain ⟨⟨k0, k1, k2, k3, k4, k5⟩, -⟩ := blc6 hz1
  have hlz := bl_lt hz1
  go_wp2_with fail
  refine calls_below (hnA.out _) ?_
  intro w2 hb2
  replace hb2 := below_trans hb1 hb2
  clear hz1 k0 k1 k2 k3 k4 k5 hlz
  have hz1 := bl_below HZ0.out hb2
  obtain ⟨⟨k0, k1, k2, k3, k4, k5⟩, -⟩ := blc6 hz1
  have hlz := bl_lt hz1
  go_wp2_with fail
  refine calls_below (hnB.out _) ?_
  intro w3 hb3
  replace hb3 := below_trans hb2 hb3
  clear hz1 k0 k1 k2 k3 k4 k5 hlz
  have hz1 := bl_below HZ0.out hb3
  obtain ⟨⟨k0, k1, k2, k3, k4, k5⟩, -⟩ := blc6 hz1
  have hlz := bl_lt hz1
  go_wp2_with fail
  refine calls_below (hCut.out _ _ (HV.out _ hb3)) ?_
  intro w4 hb4
  replace hb4 := below_trans hb3 hb4
  clear hz1 k0 k1 k2 k3 k4 k5 hlz
  have hz1 := bl_below HZ0.out hb4
  obtain ⟨⟨k0, k1, k2, k3, k4, k5⟩, -⟩ := blc6 hz1
  have hlz := bl_lt hz1
  obtain ⟨w6, hw6⟩ : ∃ w6, w6 = w4 := ⟨_, rfl⟩
  have HB6 : Hid (Below w0.heap.size w0 w6) := by rw [hw6]; exact hb4
  clear hz1 k0 k1 k2 k3 k4 k5 hlz hb1 hb2 hb3
  go_upto_block 1 with fail
  rw [← hw6]
  clear hw6 hb4
  go_wp2
  go_loopw [7, 8] (fun u i wr => ∃ k : Nat, k ≤ x.cuts.length ∧ i = .int .i64 k ∧ Hid (Own wr w6.heap.size 100 u ((x.cuts.take k).filter (fun d => decide (d ≠ c)))) ∧ Hid (Below w6.heap.size w6 wr)) (fun _ i _ => x.cuts.length - (intOf i).toNat)
  case atStart => exact ⟨0, Nat.zero_le _, rfl, (Own.nil _ _ _ : Own w6 w6.heap.size 100 (.slice none 0 0) ([] : List Lk)), Below.refl _ _⟩
  case round =>
    obtain ⟨k, hk, rfl, hO, hB⟩ := hrel
    have hB0 := below_trans HB6.out hB.out
    have hz1 := bl_below HZ0.out hB0
    obtain ⟨⟨k0, k1, k2, k3, k4, k5⟩, -⟩ := blc6 hz1
    have hlz := bl_lt hz1
    clear hz1 hB0
    by_cases hlk : k < x.cuts.length
    · obtain ⟨bb, off, d, rfl, hx, e0, e1⟩ := (HC.out.below (below_trans HB6.out hB.out)).lk k hlk
      have hbt : bb < wr.heap.size := World.block_lt_of_cell? wr _ e0
      have hts := Lib.hid (take_snoc' hx)
      have hq := lk_eq d c
      by_cases hcl : d = c
      all_goals
        first | rw [decide_eq_true hcl] at hq | rw [decide_eq_false hcl] at hq
        have HCL := Lib.hid hcl
        clear hcl
        go_wp2
        refine wp_mixT [(0, true), (1, true), (2, true), (3, true), (4, true), (5, true), (6, true), (7, false)] 8
          (fun w' => Below wr.heap.size wr w')
          (by kernel_rfl) (by kernel_rfl) (by kernel_rfl) (by kernel_rfl) (by kernel_rfl) (fun d _ _ _ _ h => by cases d <;> exact h) (Below.refl _ _).drew ?_
        simp only [pick, List.map_cons, List.map_nil, List.getD_cons_zero, List.getD_cons_succ, List.drop_succ_cons, List.drop_zero]
        iterate 7
          apply mix_take
          case hw => rfl
          case hy => intro W hW; obtain ⟨hwc, -⟩ := bcell hW; go_simp; try rfl
          simp only [Act.put, List.setIfInBounds_toArray, List.set_cons_zero, List.set_cons_succ]
        refine mix_do fun K' hK' => ?_
        go_wp2_with fail
        refine calls_below (hpair.out _) ?_
        intro w2 hb2
        have hb2' : Below wr.heap.size wr w2 := below_trans (Below.refl _ wr).drew hb2
        go_wp2
        refine hK' _ _ hb2' (mix_nil ?_)
        clear hK' K'
        have hB2 : Below w6.heap.size w6 w2 := below_trans hB.out hb2'
        have HO2 : Hid (Own w2 w6.heap.size 100 u7 ((x.cuts.take k).filter (fun d => decide (d ≠ c)))) := hO.out.below hb2'
        have HB2 := Lib.hid hB2
        clear k0 k1 k2 k3 k4 k5 hlz
        have hz1 := bl_below HZ0.out (below_trans HB6.out hB2)
        obtain ⟨⟨k0, k1, k2, k3, k4, k5⟩, -⟩ := blc6 hz1
        have hlz := bl_lt hz1
        have e0' := cell_below hb2' e0
        have e1' := cell_below hb2' e1
        have hbt2 : bb < w2.heap.size := World.block_lt_of_cell? w2 _ e0'
        clear hz1 hB2 hB hO hb2 hb2' e0 e1 hbt
      · have hlc : Hid ((x.cuts.take (k + 1)).filter (fun d => decide (d ≠ c)) = (x.cuts.take k).filter (fun d => decide (d ≠ c))) := by
          show _ = _
          rw [hts.out, List.filter_append]
          simp [HCL.out]
        go_wp2
        go_roundw
        case rel => exact ⟨k + 1, by omega, by go_num, by show Own _ _ _ _ _; rw [hlc.out]; exact HO2.out, HB2.out⟩
        case measure => simp [intOf]; omega
      · have hlc : Hid ((x.cuts.take (k + 1)).filter (fun d => decide (d ≠ c)) = (x.cuts.take k).filter (fun d => decide (d ≠ c)) ++ [d]) := by
          show _ = _
          rw [hts.out, List.filter_append]
          simp [HCL.out]
        go_upto_region 12 with fail
        go_wp2_with (at_builtin; refine hid_stop ?_)
        change wpList _ _ _ _ _ (w2.alloc _)
        refine wpList_app _ w6.heap.size rfl (.tmp 54) (.tmp 60) 23 100 _ 16 rfl Try.underlying23 infoC rfl (by decide) (by decide) u7 ((x.cuts.take k).filter (fun d => decide (d ≠ c))) [d] (some ⟨w2.heap.size, 0, none⟩) 1 rfl rfl (HO2.out.alloc _) ?hR ?hB ?hL ?_
        case hR => exact Rd.new w2 100 d #[.int .i64 d.a, .int .i64 d.b] rfl
        case hB => have h := HB2.out.size; simp; omega
        case hL =>
          have h1 : ((x.cuts.take k).filter (fun d => decide (d ≠ c))).length ≤ k := Nat.le_trans (List.length_filter_le _ _) (List.length_take_le _ _)
          simp at h1 ⊢
          omega
        intro v1 w8 ho hg hat
        have hgq : w2.grownBy w8 (u7 : Value).ownBlock := grown_of_alloc hg
        have hF1 : Hid (Own w8 w6.heap.size 100 v1 ((x.cuts.take (k + 1)).filter (fun d => decide (d ≠ c)))) := by
          show Own _ _ _ _ _
          rw [hlc.out]
          exact ho
        have hF2 : Hid (Below w6.heap.size w6 w8) := HB2.out.grown hgq HB2.out.size (fun k hk => (HO2.out.lt k hk).1)
        clear ho hg hgq hat
        go_wp2
        go_roundw
        case rel => exact ⟨k + 1, by omega, by go_num, hF1.out, hF2.out⟩
        case measure => simp [intOf]; omega
    · have hkl : k = x.cuts.length := by omega
      have HKL := Lib.hid hkl
      clear hkl
      have hO8 : Own wr w6.heap.size 100 u7 (x.cuts.filter (fun d => decide (d ≠ c))) := by
        have h := hO.out
        rw [HKL.out, List.take_length] at h
        exact h
      clear HKL hO k0 k1 k2 k3 k4 k5 hlz
      obtain ⟨A9, c9, hu9, -, -⟩ := Own.slice hO8
      have HO9 := Lib.hid hO8
      subst hu9
      have hz9 := bl_below HZ0.out (below_trans HB6.out hB.out)
      have hm9 := bl_below HM0.out (below_trans HB6.out hB.out)
      have HB9 := Lib.hid (below_trans HB6.out hB.out)
      obtain ⟨⟨k0, k1, k2, k3, k4, k5⟩, f0, f1, f2, f3, f4, f5⟩ := blc6 hz9
      obtain ⟨⟨d0, d1, d2, d3, d4, d5, d6, d7, d8, d9, d10, d11, d12, d13⟩, fz⟩ := blc14 hm9
      have hlz := bl_lt hz9
      have hlm := bl_lt hm9
      clear hz9
      obtain ⟨xs, hxs⟩ : ∃ xs, xs = x.cuts.filter (fun d => decide (d ≠ c)) := ⟨_, rfl⟩
      rw [← hxs] at HO9 HN
      simp only [← hxs]
      have HXS := Lib.hid hxs
      clear hxs
      go_wp2
      have hfar := bl_far hm9 (p := ⟨w.heap.size, 4, none⟩) (by simp) (.slice A9 xs.length c9)
      have hbl : Below w.heap.size w (wr.setCell ⟨w.heap.size, 4, none⟩ (.slice A9 xs.length c9)) := (below_trans HB0.out HB9.out).setCell (Nat.le_refl _) _
      have hq9 := HS0.out
      have hq8 := HB6.out.size
      exact ret_c Try.results26 (w.heap.size + 1) 35 _ _ rfl (put14_all hfar) Try.underlying35 rfl sizeMade rfl ⟨_, rfl, by
        rw [HN.out]
        exact ⟨AW, cW, A9, c9, AT, cT, none, 0, rfl, ⟨AW, cW, A9, c9, AT, cT, rfl, HWW.out.below (put14_below hbl (by omega)), Own.rd ((HO9.out.far (by show w.heap.size < w6.heap.size; omega) _).put14 (by omega)), HTW.out.below (put14_below hbl (by omega))⟩, Rd.nil _ _⟩, put14_below hbl (by omega)⟩
end Go.Proofs.Ythlbmcfliejdiaa
end

section
set_option linter.unusedVariables false
set_option linter.unusedSimpArgs false
namespace Go.Proofs.Ythlbmcfliejdiaa
open Go.RowKit

set_option maxHeartbeats 4000000 in
set_option maxRecDepth 100000 in
theorem Rothers_any (A : Option Addr) (c : Nat) (xs : List Tm) (nd tg : Int) (w : World) (hR : Rd w A xs) (hl : xs.length ≤ 10000000) :
    Calls Try.prog 68 #[.slice A xs.length c, .int .i64 nd, .int .i64 tg] w fun e w' => ∃ u, e = .returned u ∧ Own w' w.heap.size 86 u (othersF nd tg xs) ∧ Below w.heap.size w w' := by
  have HR := Lib.hid hR
  clear hR
  go_enter Try.func68, Try.ntmps68
  go_wp2
  go_loopw [7, 8] (fun u i wr => ∃ k : Nat, k ≤ xs.length ∧ i = .int .i64 k ∧ Hid (Own wr w.heap.size 86 u (othersF nd tg (xs.take k))) ∧ Hid (Below w.heap.size w wr)) (fun _ i _ => xs.length - (intOf i).toNat)
  case atStart => exact ⟨0, Nat.zero_le _, rfl, (Own.nil _ _ _ : Own w w.heap.size 86 (.slice none 0 0) ([] : List Tm)), Below.refl _ _⟩
  case round =>
    obtain ⟨k, hk, rfl, hO, hB⟩ := hrel
    by_cases hlk : k < xs.length
    · obtain ⟨bb, off, d, rfl, hx, e0, e1, e2⟩ := (HR.out.below hB.out).tm k hlk
      have hbt : bb < wr.heap.size := World.block_lt_of_cell? wr _ e0
      have hts := Lib.hid (take_snoc' hx)
      have hlen : Hid ((othersF nd tg (xs.take k)).length ≤ k) := Nat.le_trans (List.length_filter_le _ _) (List.length_take_le _ _)
      cases q1 : (d.node != nd)
      · cases q2 : (d.tag != tg)
        · have hlc : Hid (othersF nd tg (xs.take (k + 1)) = othersF nd tg (xs.take k)) := by
            show _ = _
            rw [hts.out, othersF, List.filter_append]
            simp [isTm, bne_eq_false_iff_eq.1 q1, bne_eq_false_iff_eq.1 q2, othersF]
          go_wp2
          go_roundw
          case rel => exact ⟨k + 1, by omega, by go_num, by show Own _ _ _ _ _; rw [hlc.out]; exact hO.out, hB.out⟩
          case measure => simp [intOf]; omega
        · have hlc : Hid (othersF nd tg (xs.take (k + 1)) = othersF nd tg (xs.take k) ++ [d]) := by
            show _ = _
            rw [hts.out, othersF, List.filter_append]
            simp [isTm, bne_iff_ne.1 q2, othersF]
          go_upto_region 6 with fail
          go_wp2_with (at_builtin; refine hid_stop ?_)
          change wpList _ _ _ _ _ (wr.alloc _)
          refine wpList_app _ w.heap.size rfl (.tmp 31) (.tmp 36) 24 86 _ 24 rfl Try.underlying24 infoT rfl (by decide) (by decide) u7 (othersF nd tg (xs.take k)) [d] (some ⟨wr.heap.size, 0, none⟩) 1 rfl rfl (hO.out.alloc _) ?hR ?hB ?hL ?_
          case hR => exact Rd.new wr 86 d #[.int .i64 d.t, .int .i64 d.node, .int .i64 d.tag] rfl
          case hB => have h := (hB.out).size; simp; omega
          case hL => have h := hlen.out; simp; omega
          intro v1 w8 ho hg hat
          have hgq : wr.grownBy w8 (u7 : Value).ownBlock := grown_of_alloc hg
          have hF1 : Hid (Own w8 w.heap.size 86 v1 (othersF nd tg (xs.take (k + 1)))) := by
            show Own _ _ _ _ _
            rw [hlc.out]
            exact ho
          have hF2 : Hid (Below w.heap.size w w8) := hB.out.grown hgq hB.out.size (fun k hk => (hO.out.lt k hk).1)
          clear ho hg hgq hat
          go_wp2
          go_roundw
          case rel => exact ⟨k + 1, by omega, by go_num, hF1.out, hF2.out⟩
          case measure => simp [intOf]; omega
      · have hlc : Hid (othersF nd tg (xs.take (k + 1)) = othersF nd tg (xs.take k) ++ [d]) := by
          show _ = _
          rw [hts.out, othersF, List.filter_append]
          simp [isTm, bne_iff_ne.1 q1, othersF]
        go_upto_region 6 with fail
        go_wp2_with (at_builtin; refine hid_stop ?_)
        change wpList _ _ _ _ _ (wr.alloc _)
        refine wpList_app _ w.heap.size rfl (.tmp 31) (.tmp 36) 24 86 _ 24 rfl Try.underlying24 infoT rfl (by decide) (by decide) u7 (othersF nd tg (xs.take k)) [d] (some ⟨wr.heap.size, 0, none⟩) 1 rfl rfl (hO.out.alloc _) ?hR ?hB ?hL ?_
        case hR => exact Rd.new wr 86 d #[.int .i64 d.t, .int .i64 d.node, .int .i64 d.tag] rfl
        case hB => have h := (hB.out).size; simp; omega
        case hL => have h := hlen.out; simp; omega
        intro v1 w8 ho hg hat
        have hgq : wr.grownBy w8 (u7 : Value).ownBlock := grown_of_alloc hg
        have hF1 : Hid (Own w8 w.heap.size 86 v1 (othersF nd tg (xs.take (k + 1)))) := by
          show Own _ _ _ _ _
          rw [hlc.out]
          exact ho
        have hF2 : Hid (Below w.heap.size w w8) := hB.out.grown hgq hB.out.size (fun k hk => (hO.out.lt k hk).1)
        clear ho hg hgq hat
        go_wp2
        go_roundw
        case rel => exact ⟨k + 1, by omega, by go_num, hF1.out, hF2.out⟩
        case measure => simp [intOf]; omega
    · have hkl : k = xs.length := by omega
      have HKL := Lib.hid hkl
      clear hkl
      go_wp2
      go_ret
      refine ⟨_, rfl, ?_, hB.out⟩
      have h := hO.out
      rw [HKL.out, List.take_length] at h
      exact h
set_option maxHeartbeats 4000000 in
set_option maxRecDepth 100000 in
theorem RStop_any (x : Nt) (nd tg : Int) (v : Value) (w : World) (hV : NetV w v x) (hlc : x.cuts.length ≤ 10000000) (hlw : x.way.length ≤ 10000000) (hlt : x.timers.length ≤ 10000000) :
    Calls Try.prog 30 #[v, .int .i64 nd, .int .i64 tg] w fun e w' => ∃ v, e = .returned v ∧ MadeV w' v (formR x (stopM x nd tg)) ∧ Below w.heap.size w w' := by
  obtain ⟨AW, cW, AC, cC, AT, cT, rfl, hW, hC, hT⟩ := hV
  obtain ⟨w0, hw0⟩ : ∃ w0, w0 = (w.alloc (.cells #[.int .i64 x.nodes, .int .i64 x.now, .int .i64 x.next, .slice AW x.way.length cW, .slice AC x.cuts.length cC, .slice AT x.timers.length cT] 26)).alloc (.cells #[.int .i64 0, .int .i64 0, .int .i64 0, .slice none 0 0, .slice none 0 0, .slice none 0 0, .int .i64 0, .int .i64 0, .int .i64 0, .int .i64 0, .int .i64 0, .string ⟨#[]⟩, .slice none 0 0, .int .i64 0] 35) := ⟨_, rfl⟩
  obtain ⟨hb0, hz0, hm0, hs0⟩ := made_start hw0
  have HV : Hid (∀ W, Below w0.heap.size w0 W → NetV W (.agg #[.int .i64 x.nodes, .int .i64 x.now, .int .i64 x.next, .slice AW x.way.length cW, .slice AC x.cuts.length cC, .slice AT x.timers.length cT]) x) := fun W hb => ⟨AW, cW, AC, cC, AT, cT, rfl, hW.below (below_trans hb0 hb), hC.below (below_trans hb0 hb), hT.below (below_trans hb0 hb)⟩
  have his := fun (v : Value) (w : World) (hV : NetV w v x) => RIs_any x v w hV hlc hlw hlt
  have HB0 := Lib.hid hb0
  have HZ0 := Lib.hid hz0
  have HM0 := Lib.hid hm0
  have HS0 := Lib.hid hs0
  have HW0 := Lib.hid hw0
  have HC := Lib.hid (hC.below hb0)
  have HT := Lib.hid (hT.below hb0)
  have HWW := Lib.hid hW
  have HTW := Lib.hid hT
  have HCW := Lib.hid hC
  clear hb0 hz0 hm0 hs0 hw0 hW hC hT
  cases hc : checkB x
  · rw [hc] at his
    have HIS := Lib.hid his
    have HN : Hid (formR x (stopM x nd tg) = errR 2) := if_pos hc
    clear his hc
    go_enter Try.func30, Try.ntmps30
    go_wp2_with fail
    rw [← HW0.out]
    clear HW0
    refine calls_below (HIS.out _ _ (HV.out _ (Below.refl _ _))) ?_
    intro w1 hb1
    have hz1 := bl_below HZ0.out hb1
    obtain ⟨⟨k0, k1, k2, k3, k4, k5⟩, -⟩ := blc6 hz1
    have hlz := bl_lt hz1
    go_wp2_with fail
    refine calls_below (Rfailed_any 2 _) ?_
    intro w9 hb9
    have hb9' := below_trans hb1 hb9
    have hm9 := bl_below HM0.out hb9'
    have hl9 := bl_lt hm9
    obtain ⟨⟨d0, d1, d2, d3, d4, d5, d6, d7, d8, d9, d10, d11, d12, d13⟩, fz⟩ := blc14 hm9
    go_wp2
    exact ret_c Try.results30 (w.heap.size + 1) 35 _ _ rfl (put14_all hm9) Try.underlying35 rfl sizeMade rfl ⟨_, rfl, by rw [HN.out]; exact MadeV_err _ 2, put14_below (below_trans HB0.out hb9') (by omega)⟩
  rw [hc] at his
  have HIS := Lib.hid his
  have HF : Hid (formR x (stopM x nd tg) = stopM x nd tg) := if_neg (by rw [hc]; decide)
  have HOK : Hid (Ok x) := (ok_iff x).1 hc
  clear his hc
  obtain ⟨bA, hA⟩ : ∃ b, isNodeB x.nodes nd = b := ⟨_, rfl⟩
  have hnA : Hid (∀ w, Calls Try.prog 61 #[.agg #[.int .i64 x.nodes, .int .i64 x.now, .int .i64 x.next, .slice AW x.way.length cW, .slice AC x.cuts.length cC, .slice AT x.timers.length cT], .int .i64 nd] w fun e w' => e = .returned (.bool bA) ∧ Below w.heap.size w w') := fun w => by have h := RisNode_any x.nodes x.now x.next nd AW AC AT x.way.length cW x.cuts.length cC x.timers.length cT w; rwa [hA] at h
  have htw : stopB x.nodes nd tg = (bA && decide (0 ≤ tg) && decide (tg ≤ 2147483647)) := by unfold stopB; rw [hA]
  have HTW := Lib.hid htw
  clear htw hA
  have hot := fun (A : Option Addr) (c : Nat) (w : World) (hR : Rd w A x.timers) => Rothers_any A c x.timers nd tg w hR hlt
  obtain ⟨ls, hls⟩ : ∃ ls, ls = othersF nd tg x.timers := ⟨_, rfl⟩
  have hle := others_len nd tg x.timers
  have hmod : stopM x nd tg = if stopB x.nodes nd tg = false then errR 1 else if ls.length = x.timers.length then errR 4 else ⟨{ x with timers := ls }, 0, zLt, [], 0⟩ := by rw [hls]; rfl
  rw [← hls] at hot hle
  have HOT := Lib.hid hot
  have HMOD := Lib.hid hmod
  clear hls hot hmod
  go_enter Try.func30, Try.ntmps30
  go_wp2_with fail
  rw [← HW0.out]
  clear HW0
  refine calls_below (HIS.out _ _ (HV.out _ (Below.refl _ _))) ?_
  intro w1 hb1
  have hz1 := bl_below HZ0.out hb1
  obtain ⟨⟨k0, k1, k2, k3, k4, k5⟩, -⟩ := blc6 hz1
  have hlz := bl_lt hz1
  go_upto_region 3 with fail
  go_cut [23] (fun s wx => s = .bool (!stopB x.nodes nd tg) ∧ Hid (Below w1.heap.size w1 wx))
  case first =>
    go_wp2_with fail
    refine calls_below (hnA.out _) ?_
    intro w2 hb2
    cases bA
    · go_wp2
      go_meet
      case rel => exact ⟨by rw [HTW.out]; rfl, hb2⟩
    · by_cases c1 : tg < 0
      · have d1 : decide (tg < 0) = true := decide_eq_true c1
        clear c1
        go_wp2
        go_meet
        case rel => exact ⟨by rw [HTW.out, decide_eq_false (by have := of_decide_eq_true d1; omega)]; rfl, hb2⟩
      · have d1 : decide (tg < 0) = false := decide_eq_false c1
        clear c1
        by_cases c2 : 2147483647 < tg
        · have d2 : decide (2147483647 < tg) = true := decide_eq_true c2
          clear c2
          go_wp2
          go_meet
          case rel => exact ⟨by rw [HTW.out, decide_eq_true (by have := of_decide_eq_false d1; omega), decide_eq_false (by have := of_decide_eq_true d2; omega)]; rfl, hb2⟩
        · have d2 : decide (2147483647 < tg) = false := decide_eq_false c2
          clear c2
          go_wp2
          go_meet
          case rel => exact ⟨by rw [HTW.out, decide_eq_true (by have := of_decide_eq_false d1; omega), decide_eq_true (by have := of_decide_eq_false d2; omega)]; rfl, hb2⟩
  case rest =>
    obtain ⟨rfl, hb2⟩ := hcut
    obtain ⟨w2, hw2⟩ : ∃ w2, w2 = wc := ⟨_, rfl⟩
    have hb2' : Below w0.heap.size w0 w2 := by rw [hw2]; exact below_trans hb1 hb2.out
    rw [← hw2]
    clear hw2 hb2 k0 k1 k2 k3 k4 k5 hlz hz1
    cases hsb : stopB x.nodes nd tg
    · have HN : Hid (formR x (stopM x nd tg) = errR 1) := HF.out.trans (HMOD.out.trans (if_pos hsb))
      clear hsb
      go_wp2_with fail
      refine calls_below (Rfailed_any 1 _) ?_
      intro w9 hb9
      have hb9' := below_trans hb2' hb9
      have hm9 := bl_below HM0.out hb9'
      have hl9 := bl_lt hm9
      obtain ⟨⟨d0, d1, d2, d3, d4, d5, d6, d7, d8, d9, d10, d11, d12, d13⟩, fz⟩ := blc14 hm9
      go_wp2
      exact ret_c Try.results30 (w.heap.size + 1) 35 _ _ rfl (put14_all hm9) Try.underlying35 rfl sizeMade rfl ⟨_, rfl, by rw [HN.out]; exact MadeV_err _ 1, put14_below (below_trans HB0.out hb9') (by omega)⟩
    have hmod2 := HMOD.out.trans (if_neg (by rw [hsb]; decide))
    have HM2 := Lib.hid hmod2
    clear hmod2 hsb
    obtain ⟨⟨k0, k1, k2, k3, k4, k5⟩, -⟩ := blc6 (bl_below HZ0.out hb2')
    have hlz := bl_lt (bl_below HZ0.out hb2')
    go_wp2_with fail
    refine (HOT.out _ _ _ (HT.out.below hb2')).mono ?_
    rintro e w3 ⟨u, rfl, hU, hb3⟩
    obtain ⟨A9, c9, rfl, -, -⟩ := Own.slice hU
    have HU := Lib.hid hU
    have hb3' := below_trans hb2' hb3
    clear hU k0 k1 k2 k3 k4 k5 hlz
    obtain ⟨⟨k0, k1, k2, k3, k4, k5⟩, -⟩ := blc6 (bl_below HZ0.out hb3')
    have hlz := bl_lt (bl_below HZ0.out hb3')
    by_cases hlen : ls.length = x.timers.length
    · have d1 : ((ls.length : Int) == (x.timers.length : Int)) = true := by simp [hlen]
      have HN : Hid (formR x (stopM x nd tg) = errR 4) := HF.out.trans (HM2.out.trans (if_pos hlen))
      clear hlen
      go_wp2_with fail
      refine calls_below (Rfailed_any 4 _) ?_
      intro w9 hb9
      have hb9' := below_trans hb3' hb9
      have hm9 := bl_below HM0.out hb9'
      have hl9 := bl_lt hm9
      obtain ⟨⟨d0, d1, d2, d3, d4, d5, d6, d7, d8, d9, d10, d11, d12, d13⟩, fz⟩ := blc14 hm9
      go_wp2
      exact ret_c Try.results30 (w.heap.size + 1) 35 _ _ rfl (put14_all hm9) Try.underlying35 rfl sizeMade rfl ⟨_, rfl, by rw [HN.out]; exact MadeV_err _ 4, put14_below (below_trans HB0.out hb9') (by omega)⟩
    have d1 : (ls.length == x.timers.length) = false := by simp [hlen]
    have HN : Hid (formR x (stopM x nd tg) = ⟨{ x with timers := ls }, 0, zLt, [], 0⟩) := HF.out.trans (HM2.out.trans (if_neg hlen))
    clear hlen
    have hq2 := hb2'.size
    clear k0 k1 k2 k3 k4 k5 hlz
    have HO9 := Lib.hid (HU.out)
    have hz9 := bl_below HZ0.out (hb3')
    have hm9 := bl_below HM0.out (hb3')
    have HB9 := Lib.hid (hb3')
    obtain ⟨⟨k0, k1, k2, k3, k4, k5⟩, f0, f1, f2, f3, f4, f5⟩ := blc6 hz9
    obtain ⟨⟨d0, d1, d2, d3, d4, d5, d6, d7, d8, d9, d10, d11, d12, d13⟩, fz⟩ := blc14 hm9
    have hlz := bl_lt hz9
    have hlm := bl_lt hm9
    clear hz9
    go_wp2
    have hfar := bl_far hm9 (p := ⟨w.heap.size, 5, none⟩) (by simp) (.slice A9 (ls).length c9)
    have hbl : Below w.heap.size w (w3.setCell ⟨w.heap.size, 5, none⟩ (.slice A9 (ls).length c9)) := (below_trans HB0.out HB9.out).setCell (Nat.le_refl _) _
    have hq9 := HS0.out

    exact ret_c Try.results30 (w.heap.size + 1) 35 _ _ rfl (put14_all hfar) Try.underlying35 rfl sizeMade rfl ⟨_, rfl, by
      rw [HN.out]
      exact ⟨AW, cW, AC, cC, A9, c9, none, 0, rfl, ⟨AW, cW, AC, cC, A9, c9, rfl, HWW.out.below (put14_below hbl (by omega)), HCW.out.below (put14_below hbl (by omega)), Own.rd ((HO9.out.far (by show w.heap.size < _; omega) _).put14 (by omega))⟩, Rd.nil _ _⟩, put14_below hbl (by omega)⟩
set_option maxHeartbeats 4000000 in
set_option maxRecDepth 100000 in
theorem RSet_any (x : Nt) (nd tg n : Int) (v : Value) (w : World) (hV : NetV w v x) (hlc : x.cuts.length ≤ 10000000) (hlw : x.way.length ≤ 10000000) (hlt : x.timers.length ≤ 10000000) :
    Calls Try.prog 28 #[v, .int .i64 nd, .int .i64 tg, .int .i64 n] w fun e w' => ∃ v, e = .returned v ∧ MadeV w' v (formR x (setM x nd tg n)) ∧ Below w.heap.size w w' := by
  obtain ⟨AW, cW, AC, cC, AT, cT, rfl, hW, hC, hT⟩ := hV
  obtain ⟨w0, hw0⟩ : ∃ w0, w0 = (w.alloc (.cells #[.int .i64 x.nodes, .int .i64 x.now, .int .i64 x.next, .slice AW x.way.length cW, .slice AC x.cuts.length cC, .slice AT x.timers.length cT] 26)).alloc (.cells #[.int .i64 0, .int .i64 0, .int .i64 0, .slice none 0 0, .slice none 0 0, .slice none 0 0, .int .i64 0, .int .i64 0, .int .i64 0, .int .i64 0, .int .i64 0, .string ⟨#[]⟩, .slice none 0 0, .int .i64 0] 35) := ⟨_, rfl⟩
  obtain ⟨hb0, hz0, hm0, hs0⟩ := made_start hw0
  have HV : Hid (∀ W, Below w0.heap.size w0 W → NetV W (.agg #[.int .i64 x.nodes, .int .i64 x.now, .int .i64 x.next, .slice AW x.way.length cW, .slice AC x.cuts.length cC, .slice AT x.timers.length cT]) x) := fun W hb => ⟨AW, cW, AC, cC, AT, cT, rfl, hW.below (below_trans hb0 hb), hC.below (below_trans hb0 hb), hT.below (below_trans hb0 hb)⟩
  have his := fun (v : Value) (w : World) (hV : NetV w v x) => RIs_any x v w hV hlc hlw hlt
  have HB0 := Lib.hid hb0
  have HZ0 := Lib.hid hz0
  have HM0 := Lib.hid hm0
  have HS0 := Lib.hid hs0
  have HW0 := Lib.hid hw0
  have HC := Lib.hid (hC.below hb0)
  have HT := Lib.hid (hT.below hb0)
  have HWW := Lib.hid hW
  have HTW := Lib.hid hT
  have HCW := Lib.hid hC
  clear hb0 hz0 hm0 hs0 hw0 hW hC hT
  cases hc : checkB x
  · rw [hc] at his
    have HIS := Lib.hid his
    have HN : Hid (formR x (setM x nd tg n) = errR 2) := if_pos hc
    clear his hc
    go_enter Try.func28, Try.ntmps28
    go_wp2_with fail
    rw [← HW0.out]
    clear HW0
    refine calls_below (HIS.out _ _ (HV.out _ (Below.refl _ _))) ?_
    intro w1 hb1
    have hz1 := bl_below HZ0.out hb1
    obtain ⟨⟨k0, k1, k2, k3, k4, k5⟩, -⟩ := blc6 hz1
    have hlz := bl_lt hz1
    go_wp2_with fail
    refine calls_below (Rfailed_any 2 _) ?_
    intro w9 hb9
    have hb9' := below_trans hb1 hb9
    have hm9 := bl_below HM0.out hb9'
    have hl9 := bl_lt hm9
    obtain ⟨⟨d0, d1, d2, d3, d4, d5, d6, d7, d8, d9, d10, d11, d12, d13⟩, fz⟩ := blc14 hm9
    go_wp2
    exact ret_c Try.results28 (w.heap.size + 1) 35 _ _ rfl (put14_all hm9) Try.underlying35 rfl sizeMade rfl ⟨_, rfl, by rw [HN.out]; exact MadeV_err _ 2, put14_below (below_trans HB0.out hb9') (by omega)⟩
  rw [hc] at his
  have HIS := Lib.hid his
  have HF : Hid (formR x (setM x nd tg n) = setM x nd tg n) := if_neg (by rw [hc]; decide)
  have HOK : Hid (Ok x) := (ok_iff x).1 hc
  clear his hc
  obtain ⟨bA, hA⟩ : ∃ b, isNodeB x.nodes nd = b := ⟨_, rfl⟩
  have hnA : Hid (∀ w, Calls Try.prog 61 #[.agg #[.int .i64 x.nodes, .int .i64 x.now, .int .i64 x.next, .slice AW x.way.length cW, .slice AC x.cuts.length cC, .slice AT x.timers.length cT], .int .i64 nd] w fun e w' => e = .returned (.bool bA) ∧ Below w.heap.size w w') := fun w => by have h := RisNode_any x.nodes x.now x.next nd AW AC AT x.way.length cW x.cuts.length cC x.timers.length cT w; rwa [hA] at h
  have htw : setB x.nodes nd tg n = (bA && decide (0 ≤ tg) && decide (tg ≤ 2147483647) && decide (1 ≤ n) && decide (n ≤ 1000)) := by unfold setB stopB; rw [hA]
  have HTW := Lib.hid htw
  clear htw hA
  have hot := fun (A : Option Addr) (c : Nat) (w : World) (hR : Rd w A x.timers) => Rothers_any A c x.timers nd tg w hR hlt
  obtain ⟨ls, hls⟩ : ∃ ls, ls = othersF nd tg x.timers := ⟨_, rfl⟩
  have hle := others_len nd tg x.timers
  have hmod : setM x nd tg n = if setB x.nodes nd tg n = false then errR 1 else if ls.length = 64 then errR 7 else ⟨{ x with timers := insS tmCmp ⟨x.now + n, nd, tg⟩ ls }, 0, zLt, [], 0⟩ := by rw [hls]; rfl
  rw [← hls] at hot hle
  have HOT := Lib.hid hot
  have HMOD := Lib.hid hmod
  clear hls hot hmod
  go_enter Try.func28, Try.ntmps28
  go_wp2_with fail
  rw [← HW0.out]
  clear HW0
  refine calls_below (HIS.out _ _ (HV.out _ (Below.refl _ _))) ?_
  intro w1 hb1
  have hz1 := bl_below HZ0.out hb1
  obtain ⟨⟨k0, k1, k2, k3, k4, k5⟩, -⟩ := blc6 hz1
  have hlz := bl_lt hz1
  go_upto_region 3 with fail
  go_cut [37] (fun s wx => s = .bool (!setB x.nodes nd tg n) ∧ Hid (Below w1.heap.size w1 wx))
  case first =>
    go_wp2_with fail
    refine calls_below (hnA.out _) ?_
    intro w2 hb2
    cases bA
    · go_wp2
      go_meet
      case rel => exact ⟨by rw [HTW.out]; rfl, hb2⟩
    cases d0 : decide (tg < 0)
    rotate_left 1
    · go_wp2
      go_meet
      case rel => exact ⟨by rw [HTW.out, decide_eq_false (p := 0 ≤ tg) (by have := of_decide_eq_true d0; omega)]; simp, hb2⟩
    cases d1 : decide (2147483647 < tg)
    rotate_left 1
    · go_wp2
      go_meet
      case rel => exact ⟨by rw [HTW.out, decide_eq_true (p := 0 ≤ tg) (by have := of_decide_eq_false d0; omega), decide_eq_false (p := tg ≤ 2147483647) (by have := of_decide_eq_true d1; omega)]; simp, hb2⟩
    cases d2 : decide (n < 1)
    rotate_left 1
    · go_wp2
      go_meet
      case rel => exact ⟨by rw [HTW.out, decide_eq_true (p := 0 ≤ tg) (by have := of_decide_eq_false d0; omega), decide_eq_true (p := tg ≤ 2147483647) (by have := of_decide_eq_false d1; omega), decide_eq_false (p := 1 ≤ n) (by have := of_decide_eq_true d2; omega)]; simp, hb2⟩
    cases d3 : decide (1000 < n)
    rotate_left 1
    · go_wp2
      go_meet
      case rel => exact ⟨by rw [HTW.out, decide_eq_true (p := 0 ≤ tg) (by have := of_decide_eq_false d0; omega), decide_eq_true (p := tg ≤ 2147483647) (by have := of_decide_eq_false d1; omega), decide_eq_true (p := 1 ≤ n) (by have := of_decide_eq_false d2; omega), decide_eq_false (p := n ≤ 1000) (by have := of_decide_eq_true d3; omega)]; simp, hb2⟩
    go_wp2
    go_meet
    case rel => exact ⟨by rw [HTW.out, decide_eq_true (p := 0 ≤ tg) (by have := of_decide_eq_false d0; omega), decide_eq_true (p := tg ≤ 2147483647) (by have := of_decide_eq_false d1; omega), decide_eq_true (p := 1 ≤ n) (by have := of_decide_eq_false d2; omega), decide_eq_true (p := n ≤ 1000) (by have := of_decide_eq_false d3; omega)]; rfl, hb2⟩
  case rest =>
    obtain ⟨rfl, hb2⟩ := hcut
    obtain ⟨w2, hw2⟩ : ∃ w2, w2 = wc := ⟨_, rfl⟩
    have hb2' : Below w0.heap.size w0 w2 := by rw [hw2]; exact below_trans hb1 hb2.out
    rw [← hw2]
    clear hw2 hb2 k0 k1 k2 k3 k4 k5 hlz hz1
    cases hsb : setB x.nodes nd tg n
    · have HN : Hid (formR x (setM x nd tg n) = errR 1) := HF.out.trans (HMOD.out.trans (if_pos hsb))
      clear hsb
      go_wp2_with fail
      refine calls_below (Rfailed_any 1 _) ?_
      intro w9 hb9
      have hb9' := below_trans hb2' hb9
      have hm9 := bl_below HM0.out hb9'
      have hl9 := bl_lt hm9
      obtain ⟨⟨d0, d1, d2, d3, d4, d5, d6, d7, d8, d9, d10, d11, d12, d13⟩, fz⟩ := blc14 hm9
      go_wp2
      exact ret_c Try.results28 (w.heap.size + 1) 35 _ _ rfl (put14_all hm9) Try.underlying35 rfl sizeMade rfl ⟨_, rfl, by rw [HN.out]; exact MadeV_err _ 1, put14_below (below_trans HB0.out hb9') (by omega)⟩
    have hmod2 := HMOD.out.trans (if_neg (by rw [hsb]; decide))
    have HM2 := Lib.hid hmod2
    have hn : 1 ≤ n ∧ n ≤ 1000 := by
      have h := HTW.out
      rw [hsb] at h
      simp only [Bool.true_eq, Bool.and_eq_true, decide_eq_true_eq] at h
      omega
    have hn1 := hn.1
    have hn2 := hn.2
    have ht0 : 0 ≤ x.now := HOK.out.t0
    have ht1 : x.now ≤ 1099511627776 := HOK.out.t1
    clear hmod2 hsb hn
    obtain ⟨⟨k0, k1, k2, k3, k4, k5⟩, -⟩ := blc6 (bl_below HZ0.out hb2')
    have hlz := bl_lt (bl_below HZ0.out hb2')
    go_wp2_with fail
    refine (HOT.out _ _ _ (HT.out.below hb2')).mono ?_
    rintro e w3 ⟨u, rfl, hU, hb3⟩
    obtain ⟨A8, c8, rfl, -, -⟩ := Own.slice hU
    have HU := Lib.hid hU
    have hb3' := below_trans hb2' hb3
    clear hU k0 k1 k2 k3 k4 k5 hlz
    obtain ⟨⟨k0, k1, k2, k3, k4, k5⟩, -⟩ := blc6 (bl_below HZ0.out hb3')
    have hlz := bl_lt (bl_below HZ0.out hb3')
    by_cases hlen : ls.length = 64
    · have d1 : ((ls.length : Int) == 64) = true := by simp [hlen]
      have HN : Hid (formR x (setM x nd tg n) = errR 7) := HF.out.trans (HM2.out.trans (if_pos hlen))
      clear hlen
      go_wp2_with fail
      refine calls_below (Rfailed_any 7 _) ?_
      intro w9 hb9
      have hb9' := below_trans hb3' hb9
      have hm9 := bl_below HM0.out hb9'
      have hl9 := bl_lt hm9
      obtain ⟨⟨d0, d1, d2, d3, d4, d5, d6, d7, d8, d9, d10, d11, d12, d13⟩, fz⟩ := blc14 hm9
      go_wp2
      exact ret_c Try.results28 (w.heap.size + 1) 35 _ _ rfl (put14_all hm9) Try.underlying35 rfl sizeMade rfl ⟨_, rfl, by rw [HN.out]; exact MadeV_err _ 7, put14_below (below_trans HB0.out hb9') (by omega)⟩
    have d1 : ((ls.length : Int) == 64) = false := by simp; omega
    have HN : Hid (formR x (setM x nd tg n) = ⟨{ x with timers := insS tmCmp ⟨x.now + n, nd, tg⟩ ls }, 0, zLt, [], 0⟩) := HF.out.trans (HM2.out.trans (if_neg hlen))
    clear hlen
    have hq2 := hb2'.size
    go_upto_block 0 with fail
    obtain ⟨c, hc⟩ : ∃ c : Tm, c = ⟨x.now + n, nd, tg⟩ := ⟨_, rfl⟩
    rw [← hc] at HN
    have hc1 : c.t = x.now + n := by rw [hc]
    have hc2 : c.node = nd := by rw [hc]
    have hc3 : c.tag = tg := by rw [hc]
    generalize hw6 : World.alloc _ _ = w6
    have hw6' : w6 = w3.alloc (.cells #[.int .i64 c.t, .int .i64 c.node, .int .i64 c.tag] 86) := by rw [hc1, hc2, hc3]; exact hw6.symm
    have hb6 : Below w3.heap.size w3 w6 := by rw [hw6']; exact below_alloc (Below.refl _ _) _
    have hl6 : w6.heap[w3.heap.size]? = some (.cells #[.int .i64 c.t, .int .i64 c.node, .int .i64 c.tag] 86 (0, 0)) := by rw [hw6']; exact bl_new _ _
    have HB6 := Lib.hid (below_trans hb3' hb6)
    have HL6 := Lib.hid hl6
    have HLS := Lib.hid (HU.out.rd.below hb6)
    clear hw6 hw6' hb6 hl6 hb2' hb3 hb3' k0 k1 k2 k3 k4 k5 hlz d1 hc hc1 hc2 hc3 HU
    have hlsl : ls.length ≤ 10000000 := by omega
    go_wp2
    go_loopw [11, 12, 13] (fun u dn i wr => ∃ k : Nat, k ≤ ls.length ∧ i = .int .i64 k ∧ dn = .bool (gtAny tmCmp c (ls.take k)) ∧ Hid (Own wr w6.heap.size 86 u (outS tmCmp c (ls.take k))) ∧ Hid (Below w6.heap.size w6 wr)) (fun _ _ i _ => ls.length - (intOf i).toNat)
    case atStart => exact ⟨0, Nat.zero_le _, rfl, rfl, (Own.nil _ _ _ : Own w6 w6.heap.size 86 (.slice none 0 0) ([] : List Tm)), Below.refl _ _⟩
    case round =>
      obtain ⟨k, hk, rfl, rfl, hO, hB⟩ := hrel
      have hl7 := bl_below HL6.out hB.out
      obtain ⟨⟨c0, c1, c2⟩, -⟩ := blc3 hl7
      have hll := bl_lt hl7
      obtain ⟨dn, hdn⟩ : ∃ dn, gtAny tmCmp c (ls.take k) = dn := ⟨_, rfl⟩
      have HDN := Lib.hid hdn
      rw [hdn]
      clear hdn hl7
      by_cases hlk : k < ls.length
      · obtain ⟨bb, off, d, rfl, hx, e0, e1, e2⟩ := (HLS.out.below hB.out).tm k hlk
        have hbt : bb < wr.heap.size := World.block_lt_of_cell? wr _ e0
        have hts := Lib.hid (take_snoc' hx)
        obtain ⟨bL, hbL⟩ : ∃ b, lesserB c d = b := ⟨_, rfl⟩
        have hLess : Hid (∀ w, Calls Try.prog 69 #[.agg #[.int .i64 c.t, .int .i64 c.node, .int .i64 c.tag], .agg #[.int .i64 d.t, .int .i64 d.node, .int .i64 d.tag]] w fun e w' => e = .returned (.bool bL) ∧ Below w.heap.size w w') := fun w => by have h := Rlesser_any c d w; rw [hbL] at h; exact h
        have HBL := Lib.hid hbL
        clear hbL
        go_upto_region 14 with fail
        go_cut [70] (fun s wx => s = .bool (!dn && bL) ∧ Hid (Below wr.heap.size wr wx))
        case first =>
          cases dn
          · refine wp_mixT [(0, true), (1, true), (2, true), (3, true), (4, true), (5, true), (6, true), (7, true), (8, false)] 9
              (fun w' => Below wr.heap.size wr w')
              (by kernel_rfl) (by kernel_rfl) (by kernel_rfl) (by kernel_rfl) (by kernel_rfl) (fun d _ _ _ _ h => by cases d <;> exact h) (Below.refl _ _).drew ?_
            simp only [pick, List.map_cons, List.map_nil, List.getD_cons_zero, List.getD_cons_succ, List.drop_succ_cons, List.drop_zero]
            iterate 8
              apply mix_take
              case hw => rfl
              case hy => intro W hW; obtain ⟨hwc, -⟩ := bcell hW; go_simp; try rfl
              simp only [Act.put, List.setIfInBounds_toArray, List.set_cons_zero, List.set_cons_succ]
            refine mix_do fun K' hK' => ?_
            go_wp2_with fail
            refine calls_below (hLess.out _) ?_
            intro w2 hb2
            have hb2' : Below wr.heap.size wr w2 := below_trans (Below.refl _ wr).drew hb2
            go_wp2
            refine hK' _ _ hb2' (mix_nil ?_)
            clear hK' K'
            go_wp2
            go_meet
            case rel => exact ⟨rfl, hb2'⟩
          · refine wp_mixT [(0, true), (1, true), (2, true), (3, true), (4, true), (5, true), (6, true), (7, true), (8, false)] 9
              (fun w' => Below wr.heap.size wr w')
              (by kernel_rfl) (by kernel_rfl) (by kernel_rfl) (by kernel_rfl) (by kernel_rfl) (fun d _ _ _ _ h => by cases d <;> exact h) (Below.refl _ _).drew ?_
            simp only [pick, List.map_cons, List.map_nil, List.getD_cons_zero, List.getD_cons_succ, List.drop_succ_cons, List.drop_zero]
            iterate 3
              apply mix_take
              case hw => rfl
              case hy => intro W hW; obtain ⟨hwc, -⟩ := bcell hW; go_simp; try rfl
              simp only [Act.put, List.setIfInBounds_toArray, List.set_cons_zero, List.set_cons_succ]
            iterate 5
              apply mix_skip
              case hw => rfl
              simp only [Act.put, List.setIfInBounds_toArray, List.set_cons_zero, List.set_cons_succ]
            refine mix_do fun K' hK' => ?_
            go_wp2
            refine hK' _ _ (Below.refl _ _).drew (mix_nil ?_)
            clear hK' K'
            go_wp2
            go_meet
            case rel => exact ⟨rfl, (Below.refl _ _).drew⟩
        case rest =>
          obtain ⟨rfl, hb7⟩ := hcut
          obtain ⟨w7, hw7⟩ : ∃ w7, w7 = wc := ⟨_, rfl⟩
          rw [← hw7] at hb7 ⊢
          clear hw7
          have hO7 : Own w7 w6.heap.size 86 u11 (outS tmCmp c (ls.take k)) := hO.out.below hb7.out
          have hB7 : Below w6.heap.size w6 w7 := below_trans hB.out hb7.out
          have HO7 := Lib.hid hO7
          have HB7 := Lib.hid hB7
          have HLL : Hid ((outS tmCmp c (ls.take k)).length ≤ k + 1) := by
            have h1 := outS_len tmCmp c (ls.take k)
            have h2 : (ls.take k).length ≤ k := List.length_take_le _ _
            show _ ≤ _
            omega
          clear c0 c1 c2 hll e0 e1 e2 hbt
          have hl7 := bl_below HL6.out hB7
          obtain ⟨⟨c0, c1, c2⟩, -⟩ := blc3 hl7
          have hll := bl_lt hl7
          obtain ⟨bb', off', d', hA', hx', e0, e1, e2⟩ := (HLS.out.below hB7).tm k hlk
          obtain rfl : d' = d := Option.some.inj (hx'.out.symm.trans hx.out)
          cases hA'
          have hbt : bb < w7.heap.size := World.block_lt_of_cell? w7 _ e0
          clear hl7 hB7 hO7 hb7 hO hB hx'
          cases dn
          rotate_left 1
          · simp only [Bool.not_true, Bool.false_and]
            go_wp2_with (at_builtin; refine hid_stop ?_)
            change wpList _ _ _ _ _ (w7.alloc _)
            refine wpList_app _ w6.heap.size rfl (.tmp 75) (.tmp 80) 24 86 _ 24 rfl Try.underlying24 infoT rfl (by decide) (by decide) u11 (outS tmCmp c (ls.take k)) [d'] (some ⟨w7.heap.size, 0, none⟩) 1 rfl rfl (HO7.out.alloc _) ?hR ?hB ?hL ?_
            case hR => exact Rd.new w7 86 d' #[.int .i64 d'.t, .int .i64 d'.node, .int .i64 d'.tag] rfl
            case hB => have h := (HB7.out).size; simp; omega
            case hL => have h := HLL.out; simp; omega
            intro v1 w8 ho hg hat
            have hgq : w7.grownBy w8 (u11 : Value).ownBlock := grown_of_alloc hg
            have hF1 : Hid (Own w8 w6.heap.size 86 v1 (outS tmCmp c (ls.take (k + 1)))) := by
              show Own _ _ _ _ _
              rw [hts.out, outS_yes tmCmp c d' HDN.out]
              exact ho
            have hF2 : Hid (Below w6.heap.size w6 w8) := HB7.out.grown hgq HB7.out.size (fun k hk => (HO7.out.lt k hk).1)
            have hF3 : Hid (gtAny tmCmp c (ls.take (k + 1)) = true) := by show _ = _; rw [hts.out, gtAny_snoc, HDN.out]; rfl
            clear ho hg hgq hat
            go_wp2
            go_roundw
            case rel => exact ⟨k + 1, by omega, by go_num, by rw [hF3.out], hF1.out, hF2.out⟩
            case measure => simp [intOf]; omega
          simp only [Bool.not_false, Bool.true_and]
          cases bL
          · have hgt : Hid (¬ tmCmp c d' < 0) := by show ¬ _; exact of_decide_eq_false HBL.out
            go_wp2_with (at_builtin; refine hid_stop ?_)
            change wpList _ _ _ _ _ (w7.alloc _)
            refine wpList_app _ w6.heap.size rfl (.tmp 75) (.tmp 80) 24 86 _ 24 rfl Try.underlying24 infoT rfl (by decide) (by decide) u11 (outS tmCmp c (ls.take k)) [d'] (some ⟨w7.heap.size, 0, none⟩) 1 rfl rfl (HO7.out.alloc _) ?hR ?hB ?hL ?_
            case hR => exact Rd.new w7 86 d' #[.int .i64 d'.t, .int .i64 d'.node, .int .i64 d'.tag] rfl
            case hB => have h := (HB7.out).size; simp; omega
            case hL => have h := HLL.out; simp; omega
            intro v1 w8 ho hg hat
            have hgq : w7.grownBy w8 (u11 : Value).ownBlock := grown_of_alloc hg
            have hF1 : Hid (Own w8 w6.heap.size 86 v1 (outS tmCmp c (ls.take (k + 1)))) := by
              show Own _ _ _ _ _
              rw [hts.out, outS_no tmCmp c d' HDN.out (by have h := hgt.out; omega)]
              exact ho
            have hF2 : Hid (Below w6.heap.size w6 w8) := HB7.out.grown hgq HB7.out.size (fun k hk => (HO7.out.lt k hk).1)
            have hF3 : Hid (gtAny tmCmp c (ls.take (k + 1)) = false) := by show _ = _; rw [hts.out, gtAny_snoc, HDN.out]; rw [decide_eq_false (by have h := hgt.out; omega)]; rfl
            clear ho hg hgq hat
            go_wp2
            go_roundw
            case rel => exact ⟨k + 1, by omega, by go_num, by rw [hF3.out], hF1.out, hF2.out⟩
            case measure => simp [intOf]; omega
          · have hgt : Hid (tmCmp c d' < 0) := by show _ < _; exact of_decide_eq_true HBL.out
            go_wp2_with (at_builtin; refine hid_stop ?_)
            change wpList _ _ _ _ _ (w7.alloc _)
            refine wpList_app _ w6.heap.size rfl (.tmp 71) (.tmp 73) 24 86 _ 24 rfl Try.underlying24 infoT rfl (by decide) (by decide) u11 (outS tmCmp c (ls.take k)) [c] (some ⟨w7.heap.size, 0, none⟩) 1 rfl rfl (HO7.out.alloc _) ?hR ?hB ?hL ?_
            case hR => exact Rd.new w7 86 c #[.int .i64 c.t, .int .i64 c.node, .int .i64 c.tag] rfl
            case hB => have h := (HB7.out).size; simp; omega
            case hL => have h := HLL.out; simp; omega
            intro v1 w8 ho hg hat
            have hgq : w7.grownBy w8 (u11 : Value).ownBlock := grown_of_alloc hg
            have HO8 := Lib.hid ho
            have HB8 : Hid (Below w6.heap.size w6 w8) := HB7.out.grown hgq HB7.out.size (fun k hk => (HO7.out.lt k hk).1)
            clear ho hg hgq hat c0 c1 c2 hll e0 e1 e2 hbt
            obtain ⟨bb2, off2, d2, hA2, hx2, e0, e1, e2⟩ := (HLS.out.below HB8.out).tm k hlk
            obtain rfl : d2 = d' := Option.some.inj (hx2.out.symm.trans hx.out)
            cases hA2
            have hbt : bb < w8.heap.size := World.block_lt_of_cell? w8 _ e0
            clear hx2
            go_wp2_with (at_builtin; refine hid_stop ?_)
            change wpList _ _ _ _ _ (w8.alloc _)
            refine wpList_app _ w6.heap.size rfl (.tmp 75) (.tmp 80) 24 86 _ 24 rfl Try.underlying24 infoT rfl (by decide) (by decide) v1 (outS tmCmp c (ls.take k) ++ [c]) [d2] (some ⟨w8.heap.size, 0, none⟩) 1 rfl rfl (HO8.out.alloc _) ?hR ?hB ?hL ?_
            case hR => exact Rd.new w8 86 d2 #[.int .i64 d2.t, .int .i64 d2.node, .int .i64 d2.tag] rfl
            case hB => have h := (HB8.out).size; simp; omega
            case hL => have h := HLL.out; simp; omega
            intro v2 w9 ho hg hat
            have hgq : w8.grownBy w9 (v1 : Value).ownBlock := grown_of_alloc hg
            have hF1 : Hid (Own w9 w6.heap.size 86 v2 (outS tmCmp c (ls.take (k + 1)))) := by
              show Own _ _ _ _ _
              rw [hts.out, outS_first tmCmp c d2 HDN.out hgt.out]
              exact ho
            have hF2 : Hid (Below w6.heap.size w6 w9) := HB8.out.grown hgq HB8.out.size (fun k hk => (HO8.out.lt k hk).1)
            have hF3 : Hid (gtAny tmCmp c (ls.take (k + 1)) = true) := by show _ = _; rw [hts.out, gtAny_snoc, HDN.out, decide_eq_true hgt.out]; rfl
            clear ho hg hgq hat
            go_wp2
            go_roundw
            case rel => exact ⟨k + 1, by omega, by go_num, by rw [hF3.out], hF1.out, hF2.out⟩
            case measure => simp [intOf]; omega
      · have hkl : k = ls.length := by omega
        have HKL := Lib.hid hkl
        clear hkl
        have HDE : Hid (gtAny tmCmp c ls = dn) := by show _ = _; rw [← HDN.out, HKL.out, List.take_length]
        have HOE : Hid (Own wr w6.heap.size 86 u11 (outS tmCmp c ls)) := by
          have h := hO.out
          rw [HKL.out, List.take_length] at h
          exact h
        clear HDN HKL hO
        go_upto_region 18 with fail
        cases dn
        · go_wp2_with (at_builtin; refine hid_stop ?_)
          change wpList _ _ _ _ _ (wr.alloc _)
          refine wpList_app _ w6.heap.size rfl (.tmp 84) (.tmp 86) 24 86 _ 24 rfl Try.underlying24 infoT rfl (by decide) (by decide) u11 (outS tmCmp c ls) [c] (some ⟨wr.heap.size, 0, none⟩) 1 rfl rfl (HOE.out.alloc _) ?hR ?hB ?hL ?_
          case hR => exact Rd.new wr 86 c #[.int .i64 c.t, .int .i64 c.node, .int .i64 c.tag] rfl
          case hB => have h := (hB.out).size; simp; omega
          case hL => have h := outS_len tmCmp c ls; simp; omega
          intro v1 w8 ho hg hat
          have hgq : wr.grownBy w8 (u11 : Value).ownBlock := grown_of_alloc hg
          have hb8 : Below w6.heap.size w6 w8 := hB.out.grown hgq hB.out.size (fun k hk => (HOE.out.lt k hk).1)
          have hO8 : Own w8 w6.heap.size 86 v1 (insS tmCmp c ls) := by rw [← outS_end_no tmCmp c HDE.out]; exact ho
          clear ho hg hgq hat c0 c1 c2 hll hB HOE
          have HB8 := Lib.hid hb8
          clear hb8
          obtain ⟨A9, c9, hu9, -, -⟩ := Own.slice (hO8)
          have HO9 := Lib.hid (hO8)
          subst hu9
          have hz9 := bl_below HZ0.out (below_trans HB6.out HB8.out)
          have hm9 := bl_below HM0.out (below_trans HB6.out HB8.out)
          have HB9 := Lib.hid (below_trans HB6.out HB8.out)
          obtain ⟨⟨k0, k1, k2, k3, k4, k5⟩, f0, f1, f2, f3, f4, f5⟩ := blc6 hz9
          obtain ⟨⟨d0, d1, d2, d3, d4, d5, d6, d7, d8, d9, d10, d11, d12, d13⟩, fz⟩ := blc14 hm9
          have hlz := bl_lt hz9
          have hlm := bl_lt hm9
          clear hz9
          go_wp2
          have hfar := bl_far hm9 (p := ⟨w.heap.size, 5, none⟩) (by simp) (.slice A9 (insS tmCmp c ls).length c9)
          have hbl : Below w.heap.size w (w8.setCell ⟨w.heap.size, 5, none⟩ (.slice A9 (insS tmCmp c ls).length c9)) := (below_trans HB0.out HB9.out).setCell (Nat.le_refl _) _
          have hq9 := HS0.out
          have hq8 := HB6.out.size
          exact ret_c Try.results28 (w.heap.size + 1) 35 _ _ rfl (put14_all hfar) Try.underlying35 rfl sizeMade rfl ⟨_, rfl, by
            rw [HN.out]
            exact ⟨AW, cW, AC, cC, A9, c9, none, 0, rfl, ⟨AW, cW, AC, cC, A9, c9, rfl, HWW.out.below (put14_below hbl (by omega)), HCW.out.below (put14_below hbl (by omega)), Own.rd ((HO9.out.far (by show w.heap.size < _; omega) _).put14 (by omega))⟩, Rd.nil _ _⟩, put14_below hbl (by omega)⟩
        · have hO8 : Own wr w6.heap.size 86 u11 (insS tmCmp c ls) := by rw [← outS_end_yes tmCmp c HDE.out]; exact HOE.out
          clear c0 c1 c2 hll HOE
          obtain ⟨A9, c9, hu9, -, -⟩ := Own.slice (hO8)
          have HO9 := Lib.hid (hO8)
          subst hu9
          have hz9 := bl_below HZ0.out (below_trans HB6.out hB.out)
          have hm9 := bl_below HM0.out (below_trans HB6.out hB.out)
          have HB9 := Lib.hid (below_trans HB6.out hB.out)
          obtain ⟨⟨k0, k1, k2, k3, k4, k5⟩, f0, f1, f2, f3, f4, f5⟩ := blc6 hz9
          obtain ⟨⟨d0, d1, d2, d3, d4, d5, d6, d7, d8, d9, d10, d11, d12, d13⟩, fz⟩ := blc14 hm9
          have hlz := bl_lt hz9
          have hlm := bl_lt hm9
          clear hz9
          go_wp2
          have hfar := bl_far hm9 (p := ⟨w.heap.size, 5, none⟩) (by simp) (.slice A9 (insS tmCmp c ls).length c9)
          have hbl : Below w.heap.size w (wr.setCell ⟨w.heap.size, 5, none⟩ (.slice A9 (insS tmCmp c ls).length c9)) := (below_trans HB0.out HB9.out).setCell (Nat.le_refl _) _
          have hq9 := HS0.out
          have hq8 := HB6.out.size
          exact ret_c Try.results28 (w.heap.size + 1) 35 _ _ rfl (put14_all hfar) Try.underlying35 rfl sizeMade rfl ⟨_, rfl, by
            rw [HN.out]
            exact ⟨AW, cW, AC, cC, A9, c9, none, 0, rfl, ⟨AW, cW, AC, cC, A9, c9, rfl, HWW.out.below (put14_below hbl (by omega)), HCW.out.below (put14_below hbl (by omega)), Own.rd ((HO9.out.far (by show w.heap.size < _; omega) _).put14 (by omega))⟩, Rd.nil _ _⟩, put14_below hbl (by omega)⟩
/-- The rows are different ones. -/
def neR (u v : Value) : Prop := u.ownBlock = none ∨ u.ownBlock ≠ v.ownBlock
theorem ne_flip {u v : Value} (h : neR u v) : neR v u := by
  unfold neR at *
  cases hv : v.ownBlock with
  | none => exact .inl rfl
  | some g =>
    right
    rcases h with h | h
    · rw [h]; intro h2; cases h2
    · rw [hv] at h; exact fun h2 => h h2.symm
theorem neR_new {u v v1 : Value} {w : World} {o : Obj} (h : neR u v) (hat : v1.ownBlock = u.ownBlock ∨ v1.ownBlock = some (w.alloc o).heap.size) (hl : ∀ g, v.ownBlock = some g → g < w.heap.size) : neR v1 v := by
  unfold neR at *
  rcases hat with e | e
  · rw [e]; exact h
  · rw [e]
    right
    intro h2
    have := hl _ h2.symm
    simp at this
    omega
def fireF (now : Int) (ts : List Tm) : List Tm := ts.filter (fun t => decide (t.t = now + 1))
def stayF (now : Int) (ts : List Tm) : List Tm := ts.filter (fun t => decide (t.t ≠ now + 1))
theorem filt_len (ts : List Tm) (now : Int) : (fireF now ts).length ≤ ts.length ∧ (stayF now ts).length ≤ ts.length := ⟨List.length_filter_le _ _, List.length_filter_le _ _⟩
set_option maxHeartbeats 4000000 in
set_option maxRecDepth 100000 in
theorem RTick_any (x : Nt) (v : Value) (w : World) (hV : NetV w v x) (hlc : x.cuts.length ≤ 10000000) (hlw : x.way.length ≤ 10000000) (hlt : x.timers.length ≤ 10000000) :
    Calls Try.prog 32 #[v] w fun e w' => ∃ v, e = .returned v ∧ MadeV w' v (formR x (tickM x)) ∧ Below w.heap.size w w' := by
  obtain ⟨AW, cW, AC, cC, AT, cT, rfl, hW, hC, hT⟩ := hV
  obtain ⟨w0, hw0⟩ : ∃ w0, w0 = (w.alloc (.cells #[.int .i64 x.nodes, .int .i64 x.now, .int .i64 x.next, .slice AW x.way.length cW, .slice AC x.cuts.length cC, .slice AT x.timers.length cT] 26)).alloc (.cells #[.int .i64 0, .int .i64 0, .int .i64 0, .slice none 0 0, .slice none 0 0, .slice none 0 0, .int .i64 0, .int .i64 0, .int .i64 0, .int .i64 0, .int .i64 0, .string ⟨#[]⟩, .slice none 0 0, .int .i64 0] 35) := ⟨_, rfl⟩
  obtain ⟨hb0, hz0, hm0, hs0⟩ := made_start hw0
  have HV : Hid (∀ W, Below w0.heap.size w0 W → NetV W (.agg #[.int .i64 x.nodes, .int .i64 x.now, .int .i64 x.next, .slice AW x.way.length cW, .slice AC x.cuts.length cC, .slice AT x.timers.length cT]) x) := fun W hb => ⟨AW, cW, AC, cC, AT, cT, rfl, hW.below (below_trans hb0 hb), hC.below (below_trans hb0 hb), hT.below (below_trans hb0 hb)⟩
  have his := fun (v : Value) (w : World) (hV : NetV w v x) => RIs_any x v w hV hlc hlw hlt
  have HB0 := Lib.hid hb0
  have HZ0 := Lib.hid hz0
  have HM0 := Lib.hid hm0
  have HS0 := Lib.hid hs0
  have HW0 := Lib.hid hw0
  have HC := Lib.hid (hC.below hb0)
  have HT := Lib.hid (hT.below hb0)
  have HWW := Lib.hid hW
  have HTW := Lib.hid hT
  have HCW := Lib.hid hC
  clear hb0 hz0 hm0 hs0 hw0 hW hC hT
  cases hc : checkB x
  · rw [hc] at his
    have HIS := Lib.hid his
    have HN : Hid (formR x (tickM x) = errR 2) := if_pos hc
    clear his hc
    go_enter Try.func32, Try.ntmps32
    go_wp2_with fail
    rw [← HW0.out]
    clear HW0
    refine calls_below (HIS.out _ _ (HV.out _ (Below.refl _ _))) ?_
    intro w1 hb1
    have hz1 := bl_below HZ0.out hb1
    obtain ⟨⟨k0, k1, k2, k3, k4, k5⟩, -⟩ := blc6 hz1
    have hlz := bl_lt hz1
    go_wp2_with fail
    refine calls_below (Rfailed_any 2 _) ?_
    intro w9 hb9
    have hb9' := below_trans hb1 hb9
    have hm9 := bl_below HM0.out hb9'
    have hl9 := bl_lt hm9
    obtain ⟨⟨d0, d1, d2, d3, d4, d5, d6, d7, d8, d9, d10, d11, d12, d13⟩, fz⟩ := blc14 hm9
    go_wp2
    exact ret_c Try.results32 (w.heap.size + 1) 35 _ _ rfl (put14_all hm9) Try.underlying35 rfl sizeMade rfl ⟨_, rfl, by rw [HN.out]; exact MadeV_err _ 2, put14_below (below_trans HB0.out hb9') (by omega)⟩
  rw [hc] at his
  have HIS := Lib.hid his
  have HF : Hid (formR x (tickM x) = tickM x) := if_neg (by rw [hc]; decide)
  have HOK : Hid (Ok x) := (ok_iff x).1 hc
  clear his hc
  have ht0 : 0 ≤ x.now := HOK.out.t0
  have ht1 : x.now ≤ 1099511627776 := HOK.out.t1
  by_cases hlim : x.now = 1099511627776
  · have d1 : (x.now == 1099511627776) = true := beq_iff_eq.2 hlim
    have HN : Hid (formR x (tickM x) = errR 3) := HF.out.trans (if_pos hlim)
    clear hlim
    go_enter Try.func32, Try.ntmps32
    go_wp2_with fail
    rw [← HW0.out]
    clear HW0
    refine calls_below (HIS.out _ _ (HV.out _ (Below.refl _ _))) ?_
    intro w1 hb1
    have hz1 := bl_below HZ0.out hb1
    obtain ⟨⟨k0, k1, k2, k3, k4, k5⟩, -⟩ := blc6 hz1
    have hlz := bl_lt hz1
    go_wp2_with fail
    refine calls_below (Rfailed_any 3 _) ?_
    intro w9 hb9
    have hb9' := below_trans hb1 hb9
    have hm9 := bl_below HM0.out hb9'
    have hl9 := bl_lt hm9
    obtain ⟨⟨d0, d1, d2, d3, d4, d5, d6, d7, d8, d9, d10, d11, d12, d13⟩, fz⟩ := blc14 hm9
    go_wp2
    exact ret_c Try.results32 (w.heap.size + 1) 35 _ _ rfl (put14_all hm9) Try.underlying35 rfl sizeMade rfl ⟨_, rfl, by rw [HN.out]; exact MadeV_err _ 3, put14_below (below_trans HB0.out hb9') (by omega)⟩
  have d1 : (x.now == 1099511627776) = false := beq_eq_false_iff_ne.2 hlim
  have HN : Hid (formR x (tickM x) = ⟨{ x with now := x.now + 1, timers := stayF x.now x.timers }, 0, zLt, fireF x.now x.timers, 0⟩) := HF.out.trans (if_neg hlim)
  clear hlim
  go_enter Try.func32, Try.ntmps32
  go_wp2_with fail
  rw [← HW0.out]
  clear HW0
  refine calls_below (HIS.out _ _ (HV.out _ (Below.refl _ _))) ?_
  intro w1 hb1
  have hz1 := bl_below HZ0.out hb1
  obtain ⟨⟨k0, k1, k2, k3, k4, k5⟩, f0, f1, f2, f3, f4, f5⟩ := blc6 hz1
  have hlz := bl_lt hz1
  go_upto_block 0 with fail
  generalize hw2 : World.setCell _ _ _ = w2
  have hz2 : w2.heap[w.heap.size]? = some (.cells #[.int .i64 x.nodes, .int .i64 (x.now + 1), .int .i64 x.next, .slice AW x.way.length cW, .slice AC x.cuts.length cC, .slice AT x.timers.length cT] 26 (0, 0)) := by rw [← hw2]; simpa using bl_set hz1 1 (.int .i64 (x.now + 1))
  have hm2 : w2.heap[w.heap.size + 1]? = some (.cells #[.int .i64 0, .int .i64 0, .int .i64 0, .slice none 0 0, .slice none 0 0, .slice none 0 0, .int .i64 0, .int .i64 0, .int .i64 0, .int .i64 0, .int .i64 0, .string ⟨#[]⟩, .slice none 0 0, .int .i64 0] 35 (0, 0)) := by rw [← hw2]; exact bl_far (bl_below HM0.out hb1) (by simp) _
  have hb2 : Below w.heap.size w w2 := by rw [← hw2]; exact (below_trans HB0.out hb1).setCell (Nat.le_refl _) _
  have hs2 : w.heap.size + 1 < w2.heap.size := bl_lt hm2
  have HZ2 := Lib.hid hz2
  have HM2 := Lib.hid hm2
  have HB2 := Lib.hid hb2
  have HS2 := Lib.hid hs2
  have HTT := Lib.hid (HTW.out.below hb2)
  clear hw2 hz2 hm2 hb2 hs2 hz1 k0 k1 k2 k3 k4 k5 f0 f1 f2 f3 f4 f5 hlz hb1 HZ0 HM0 HS0 HB0 HV HC HT d1
  go_wp2
  go_loopw [3, 4, 5] (fun p q i wr => ∃ k : Nat, k ≤ x.timers.length ∧ i = .int .i64 k ∧ Hid (Own wr w2.heap.size 86 p (fireF x.now (x.timers.take k))) ∧ Hid (Own wr w2.heap.size 86 q (stayF x.now (x.timers.take k))) ∧ Hid (neR p q) ∧ Hid (Below w2.heap.size w2 wr)) (fun _ _ i _ => x.timers.length - (intOf i).toNat)
  case atStart => exact ⟨0, Nat.zero_le _, rfl, (Own.nil _ _ _ : Own w2 w2.heap.size 86 (.slice none 0 0) ([] : List Tm)), (Own.nil _ _ _ : Own w2 w2.heap.size 86 (.slice none 0 0) ([] : List Tm)), .inl rfl, Below.refl _ _⟩
  case round =>
    obtain ⟨k, hk, rfl, hO3, hO4, HNE, hB⟩ := hrel
    have hz1 := bl_below HZ2.out hB.out
    obtain ⟨⟨k0, k1, k2, k3, k4, k5⟩, -⟩ := blc6 hz1
    have hlz := bl_lt hz1
    clear hz1
    by_cases hlk : k < x.timers.length
    · obtain ⟨bb, off, d, rfl, hx, e0, e1, e2⟩ := (HTT.out.below hB.out).tm k hlk
      have hbt : bb < wr.heap.size := World.block_lt_of_cell? wr _ e0
      have hts := Lib.hid (take_snoc' hx)
      go_upto_region 11 with fail
      go_cut [33] (fun s wx => s = .bool (d.t == x.now + 1) ∧ Hid (Below wr.heap.size wr wx))
      case first =>
        go_quiet (fail)
        go_wp2
        go_meet
        case rel => exact ⟨rfl, below_drewN (Below.refl _ _) _⟩
      case rest =>
        obtain ⟨rfl, hb7⟩ := hcut
        obtain ⟨w7, hw7⟩ : ∃ w7, w7 = wc := ⟨_, rfl⟩
        rw [← hw7] at hb7 ⊢
        clear hw7
        have hB7 : Below w2.heap.size w2 w7 := below_trans hB.out hb7.out
        have HB7 := Lib.hid hB7
        have Hu3 : Hid (Own w7 w2.heap.size 86 u3 (fireF x.now (x.timers.take k))) := hO3.out.below hb7.out
        have Hu4 : Hid (Own w7 w2.heap.size 86 u4 (stayF x.now (x.timers.take k))) := hO4.out.below hb7.out
        clear k0 k1 k2 k3 k4 k5 hlz
        obtain ⟨⟨k0, k1, k2, k3, k4, k5⟩, -⟩ := blc6 (bl_below HZ2.out hB7)
        have hlz := bl_lt (bl_below HZ2.out hB7)
        replace e0 := cell_below hb7.out e0
        replace e1 := cell_below hb7.out e1
        replace e2 := cell_below hb7.out e2
        replace hbt : bb < w7.heap.size := World.block_lt_of_cell? w7 _ e0
        clear hB7 hO3 hO4 hb7 hB
        cases q1 : (d.t == x.now + 1)
        · have hne : ¬ d.t = x.now + 1 := beq_eq_false_iff_ne.1 q1
          have hlfire : Hid (fireF x.now (x.timers.take (k + 1)) = fireF x.now (x.timers.take k)) := by
            show _ = _
            rw [hts.out, fireF, List.filter_append]; simp [hne, fireF]
          have hlstay : Hid (stayF x.now (x.timers.take (k + 1)) = stayF x.now (x.timers.take k) ++ [d]) := by
            show _ = _
            rw [hts.out, stayF, List.filter_append]; simp [hne, stayF]
          clear hne
          go_wp2_with (at_builtin; refine hid_stop ?_)
          change wpList _ _ _ _ _ (w7.alloc _)
          refine wpList_app _ w2.heap.size rfl (.tmp 42) (.tmp 48) 24 86 _ 24 rfl Try.underlying24 infoT rfl (by decide) (by decide) u4 (stayF x.now (x.timers.take k)) [d] (some ⟨w7.heap.size, 0, none⟩) 1 rfl rfl (Hu4.out.alloc _) ?hR ?hB ?hL ?_
          case hR => exact Rd.new w7 86 d #[.int .i64 d.t, .int .i64 d.node, .int .i64 d.tag] rfl
          case hB => have h := (HB7.out).size; simp; omega
          case hL => have h := filt_len (x.timers.take k) x.now; have h2 : (x.timers.take k).length ≤ k := List.length_take_le _ _; simp; omega
          intro v1 w8 ho hg hat
          have hgq : w7.grownBy w8 (u4 : Value).ownBlock := grown_of_alloc hg
          have hF1 : Hid (Own w8 w2.heap.size 86 v1 (stayF x.now (x.timers.take (k + 1)))) := by
            show Own _ _ _ _ _
            rw [hlstay.out]
            exact ho
          have hF2 : Hid (Below w2.heap.size w2 w8) := HB7.out.grown hgq HB7.out.size (fun k hk => (Hu4.out.lt k hk).1)
          have hF3 : Hid (Own w8 w2.heap.size 86 u3 (fireF x.now (x.timers.take (k + 1)))) := by
            show Own _ _ _ _ _
            rw [hlfire.out]
            exact Hu3.out.kept hgq (HNE.out)
          have hF4 : Hid (neR v1 u3) := by
            show neR _ _
            refine neR_new ?_ hat (fun g hg => (Hu3.out.lt g hg).2)
            exact ne_flip HNE.out
          clear ho hg hgq hat
          go_wp2
          go_roundw
          case rel => exact ⟨k + 1, by omega, by go_num, hF3.out, hF1.out, ne_flip hF4.out, hF2.out⟩
          case measure => simp [intOf]; omega
        · have hne : d.t = x.now + 1 := beq_iff_eq.1 q1
          have hlfire : Hid (fireF x.now (x.timers.take (k + 1)) = fireF x.now (x.timers.take k) ++ [d]) := by
            show _ = _
            rw [hts.out, fireF, List.filter_append]; simp [hne, fireF]
          have hlstay : Hid (stayF x.now (x.timers.take (k + 1)) = stayF x.now (x.timers.take k)) := by
            show _ = _
            rw [hts.out, stayF, List.filter_append]; simp [hne, stayF]
          clear hne
          go_wp2_with (at_builtin; refine hid_stop ?_)
          change wpList _ _ _ _ _ (w7.alloc _)
          refine wpList_app _ w2.heap.size rfl (.tmp 34) (.tmp 40) 24 86 _ 24 rfl Try.underlying24 infoT rfl (by decide) (by decide) u3 (fireF x.now (x.timers.take k)) [d] (some ⟨w7.heap.size, 0, none⟩) 1 rfl rfl (Hu3.out.alloc _) ?hR ?hB ?hL ?_
          case hR => exact Rd.new w7 86 d #[.int .i64 d.t, .int .i64 d.node, .int .i64 d.tag] rfl
          case hB => have h := (HB7.out).size; simp; omega
          case hL => have h := filt_len (x.timers.take k) x.now; have h2 : (x.timers.take k).length ≤ k := List.length_take_le _ _; simp; omega
          intro v1 w8 ho hg hat
          have hgq : w7.grownBy w8 (u3 : Value).ownBlock := grown_of_alloc hg
          have hF1 : Hid (Own w8 w2.heap.size 86 v1 (fireF x.now (x.timers.take (k + 1)))) := by
            show Own _ _ _ _ _
            rw [hlfire.out]
            exact ho
          have hF2 : Hid (Below w2.heap.size w2 w8) := HB7.out.grown hgq HB7.out.size (fun k hk => (Hu3.out.lt k hk).1)
          have hF3 : Hid (Own w8 w2.heap.size 86 u4 (stayF x.now (x.timers.take (k + 1)))) := by
            show Own _ _ _ _ _
            rw [hlstay.out]
            exact Hu4.out.kept hgq (ne_flip HNE.out)
          have hF4 : Hid (neR v1 u4) := by
            show neR _ _
            refine neR_new ?_ hat (fun g hg => (Hu4.out.lt g hg).2)
            exact HNE.out
          clear ho hg hgq hat
          go_wp2
          go_roundw
          case rel => exact ⟨k + 1, by omega, by go_num, hF1.out, hF3.out, hF4.out, hF2.out⟩
          case measure => simp [intOf]; omega
    · have hkl : k = x.timers.length := by omega
      have HKL := Lib.hid hkl
      clear hkl
      have h3 : Own wr w2.heap.size 86 u3 (fireF x.now x.timers) := by
        have h := hO3.out
        rw [HKL.out, List.take_length] at h
        exact h
      have h4 : Own wr w2.heap.size 86 u4 (stayF x.now x.timers) := by
        have h := hO4.out
        rw [HKL.out, List.take_length] at h
        exact h
      obtain ⟨A3, c3, hu3, -, -⟩ := Own.slice h3
      obtain ⟨A4, c4, hu4, -, -⟩ := Own.slice h4
      have H3 := Lib.hid h3
      have H4 := Lib.hid h4
      subst hu3 hu4
      clear h3 h4 hO3 hO4 HKL k0 k1 k2 k3 k4 k5 hlz
      have hz9 := bl_below HZ2.out hB.out
      have hm9 := bl_below HM2.out hB.out
      obtain ⟨⟨k0, k1, k2, k3, k4, k5⟩, f0, f1, f2, f3, f4, f5⟩ := blc6 hz9
      obtain ⟨⟨d0, d1, d2, d3, d4, d5, d6, d7, d8, d9, d10, d11, d12, d13⟩, fz⟩ := blc14 hm9
      have hlz := bl_lt hz9
      have hlm := bl_lt hm9
      clear hz9
      go_wp2
      have hfar := bl_far hm9 (p := ⟨w.heap.size, 5, none⟩) (by simp) (.slice A4 (stayF x.now x.timers).length c4)
      have hbl : Below w.heap.size w (wr.setCell ⟨w.heap.size, 5, none⟩ (.slice A4 (stayF x.now x.timers).length c4)) := (HB2.out.trans (hB.out.mono HB2.out.size)).setCell (Nat.le_refl _) _
      have hq9 := HS2.out
      exact ret_c Try.results32 (w.heap.size + 1) 35 _ _ rfl (put14_all hfar) Try.underlying35 rfl sizeMade rfl ⟨_, rfl, by
        rw [HN.out]
        exact ⟨AW, cW, AC, cC, A4, c4, A3, c3, rfl, ⟨AW, cW, AC, cC, A4, c4, rfl, HWW.out.below (put14_below hbl (by omega)), HCW.out.below (put14_below hbl (by omega)), Own.rd ((H4.out.far (by show w.heap.size < _; omega) _).put14 (by omega))⟩, Own.rd ((H3.out.far (by show w.heap.size < _; omega) _).put14 (by omega))⟩, put14_below hbl (by omega)⟩
end Go.Proofs.Ythlbmcfliejdiaa
end

section
set_option linter.unusedVariables false
set_option linter.unusedSimpArgs false
namespace Go.Proofs.Ythlbmcfliejdiaa
open Go.RowKit

set_option maxHeartbeats 8000000 in
set_option maxRecDepth 100000 in
theorem NetTimers_any (x : Nt) (a b c : Int) (v : Value) (w : World) (hV : NetV w v x) (hlw : x.way.length ≤ 9223372036854775807) (hlc : x.cuts.length ≤ 9223372036854775807) (hlt : x.timers.length ≤ 9223372036854775807) :
    Calls Try.prog 6 #[v, .int .i64 a, .int .i64 b, .int .i64 c] w fun e w' => e = .returned (.bool true) ∧ Below w.heap.size w w' := by
  obtain ⟨AW1, cW1, AC1, cC1, AT1, cT1, rfl, hW, hC, hT⟩ := hV
  have HV : Hid (∀ W, Below w.heap.size w W → NetV W (.agg #[.int .i64 x.nodes, .int .i64 x.now, .int .i64 x.next, .slice AW1 x.way.length cW1, .slice AC1 x.cuts.length cC1, .slice AT1 x.timers.length cT1]) x) := fun W hb => ⟨AW1, cW1, AC1, cC1, AT1, cT1, rfl, hW.below hb, hC.below hb, hT.below hb⟩
  clear hW hC hT
  have hsm := fun (v : Value) (w : World) (hV : NetV w v x) => small_any x v w hV hlw hlc hlt
  obtain ⟨w0, hw0⟩ : ∃ w0, w0 = w.alloc (.cells #[.int .i64 x.nodes, .int .i64 x.now, .int .i64 x.next, .slice AW1 x.way.length cW1, .slice AC1 x.cuts.length cC1, .slice AT1 x.timers.length cT1] 26) := ⟨_, rfl⟩
  have hb0 : Below w.heap.size w w0 := by rw [hw0]; exact below_alloc (Below.refl _ _) _
  have hz0 : w0.heap[w.heap.size]? = some (.cells #[.int .i64 x.nodes, .int .i64 x.now, .int .i64 x.next, .slice AW1 x.way.length cW1, .slice AC1 x.cuts.length cC1, .slice AT1 x.timers.length cT1] 26 (0, 0)) := by rw [hw0]; exact bl_new _ _
  have HW0 := Lib.hid hw0
  have HB0 := Lib.hid hb0
  have HZ0 := Lib.hid hz0
  clear hw0 hb0 hz0
  cases hs : smallB x
  · rw [hs] at hsm
    have HS := Lib.hid hsm
    clear hsm hs
    go_enter Try.func6, Try.ntmps6
    go_wp2_with (first
      | (go_at_call 12; rw [← HW0.out]; refine calls_below (HS.out _ _ (HV.out _ HB0.out)) ?_; intro w1 hb1)
      | (go_at_call 13; refine calls_below (sane_any _) ?_; intro w2 hb2))
    go_ret
    exact ⟨rfl, below_trans HB0.out (below_trans hb1 hb2)⟩
  rw [hs] at hsm
  have hln := small_lens hs
  have HS := Lib.hid hsm
  have HL := Lib.hid hln
  clear hsm hs hln hlw hlc hlt
  obtain ⟨r1, hr1⟩ : ∃ r, r = formR x (setM x a b c) := ⟨_, rfl⟩
  have hp1 := fun (v : Value) (w : World) (hV : NetV w v x) => Set_any x a b c v w (by have := HL.out; omega) (by have := HL.out; omega) (by have := HL.out; omega) hV
  have hq1 := fun (v : Value) (w : World) (hV : NetV w v x) => RSet_any x a b c v w hV (by have := HL.out; omega) (by have := HL.out; omega) (by have := HL.out; omega)
  have hl1 := len_set x a b c (by have := HL.out; omega) (by have := HL.out; omega) (by have := HL.out; omega)
  rw [← hr1] at hp1 hq1 hl1
  have HP1 := Lib.hid hp1
  have HQ1 := Lib.hid hq1
  have HL1 := Lib.hid hl1
  clear hp1 hq1 hl1 hr1
  obtain ⟨r2, hr2⟩ : ∃ r, r = formR x (stopM x a b) := ⟨_, rfl⟩
  have hp2 := fun (v : Value) (w : World) (hV : NetV w v x) => Stop_any x a b v w (by have := HL.out; omega) (by have := HL.out; omega) (by have := HL.out; omega) hV
  have hq2 := fun (v : Value) (w : World) (hV : NetV w v x) => RStop_any x a b v w hV (by have := HL.out; omega) (by have := HL.out; omega) (by have := HL.out; omega)
  have hl2 := len_stop x a b (by have := HL.out; omega) (by have := HL.out; omega) (by have := HL.out; omega)
  rw [← hr2] at hp2 hq2 hl2
  have HP2 := Lib.hid hp2
  have HQ2 := Lib.hid hq2
  have HL2 := Lib.hid hl2
  clear hp2 hq2 hl2 hr2
  obtain ⟨r3, hr3⟩ : ∃ r, r = formR x (tickM x) := ⟨_, rfl⟩
  have hp3 := fun (v : Value) (w : World) (hV : NetV w v x) => Tick_any x v w (by have := HL.out; omega) (by have := HL.out; omega) (by have := HL.out; omega) hV
  have hq3 := fun (v : Value) (w : World) (hV : NetV w v x) => RTick_any x v w hV (by have := HL.out; omega) (by have := HL.out; omega) (by have := HL.out; omega)
  have hl3 := len_tick x  (by have := HL.out; omega) (by have := HL.out; omega) (by have := HL.out; omega)
  rw [← hr3] at hp3 hq3 hl3
  have HP3 := Lib.hid hp3
  have HQ3 := Lib.hid hq3
  have HL3 := Lib.hid hl3
  have hlts := len_ts x (by have := HL.out; omega)
  rw [← hr3] at hlts
  have HTS := Lib.hid hlts
  clear hlts
  clear hp3 hq3 hl3 hr3
  go_enter Try.func6, Try.ntmps6
  go_wp2_with fail
  rw [← HW0.out]
  clear HW0
  refine calls_below (HS.out _ _ (HV.out _ HB0.out)) ?_
  intro w1 hb1
  have k0 := 0; have k1 := 0; have k2 := 0; have k3 := 0; have k4 := 0; have k5 := 0; have hlz := 0
  clear k0 k1 k2 k3 k4 k5 hlz
  have hz1 := bl_below HZ0.out hb1
  obtain ⟨⟨k0, k1, k2, k3, k4, k5⟩, -⟩ := blc6 hz1
  have hlz := bl_lt hz1
  clear hz1
  go_wp2_with fail
  refine (HP1.out _ _ (HV.out _ (below_trans HB0.out hb1))).mono ?_
  rintro e w2 ⟨vw2, rfl, hO, hb⟩
  obtain ⟨PW1, pW1, PC1, pC1, PT1, pT1, rfl, oW, oC, oT⟩ := hO
  have hN1 : ∀ W, Below w2.heap.size w2 W → NetV W (.agg #[.int .i64 r1.x.nodes, .int .i64 r1.x.now, .int .i64 r1.x.next, .slice PW1 r1.x.way.length pW1, .slice PC1 r1.x.cuts.length pC1, .slice PT1 r1.x.timers.length pT1]) r1.x := fun W hb => ⟨PW1, pW1, PC1, pC1, PT1, pT1, rfl, oW.rd.below hb, oC.rd.below hb, oT.rd.below hb⟩
  clear oW oC oT
  have hb2 := below_trans hb1 hb
  clear hb
  clear k0 k1 k2 k3 k4 k5 hlz
  have hz1 := bl_below HZ0.out hb2
  obtain ⟨⟨k0, k1, k2, k3, k4, k5⟩, -⟩ := blc6 hz1
  have hlz := bl_lt hz1
  clear hz1
  go_wp2_with fail
  refine calls_world ?_
  intro w3 hw'
  have hb' : Below w2.heap.size w2 w3 := by rw [hw']; exact below_alloc (Below.refl _ _) _
  have hg1 : w3.heap[w2.heap.size]? = some (.cells #[.int .i64 r1.x.nodes, .int .i64 r1.x.now, .int .i64 r1.x.next, .slice PW1 r1.x.way.length pW1, .slice PC1 r1.x.cuts.length pC1, .slice PT1 r1.x.timers.length pT1] 26 (0, 0)) := by rw [hw']; exact bl_new _ _
  have hb3 := below_trans hb2 hb'
  clear hw'
  replace hN1 : ∀ W, Below w3.heap.size w3 W → NetV W (.agg #[.int .i64 r1.x.nodes, .int .i64 r1.x.now, .int .i64 r1.x.next, .slice PW1 r1.x.way.length pW1, .slice PC1 r1.x.cuts.length pC1, .slice PT1 r1.x.timers.length pT1]) r1.x := fun W hb => hN1 W (below_trans hb' hb)
  clear hb'
  refine (HQ1.out _ _ (HV.out _ (below_trans HB0.out hb3))).mono ?_
  rintro e w4 ⟨vw4, rfl, hO, hb⟩
  obtain ⟨MW1, mW1, MC1, mC1, MT1, mT1, MF1, mF1, rfl, oV, oF⟩ := hO
  have hM1 : ∀ W, Below w4.heap.size w4 W → NetV W (.agg #[.int .i64 r1.x.nodes, .int .i64 r1.x.now, .int .i64 r1.x.next, .slice MW1 r1.x.way.length mW1, .slice MC1 r1.x.cuts.length mC1, .slice MT1 r1.x.timers.length mT1]) r1.x := fun W hb => oV.below hb
  clear oV oF
  replace hg1 := bl_below hg1 hb
  replace hN1 : ∀ W, Below w4.heap.size w4 W → NetV W (.agg #[.int .i64 r1.x.nodes, .int .i64 r1.x.now, .int .i64 r1.x.next, .slice PW1 r1.x.way.length pW1, .slice PC1 r1.x.cuts.length pC1, .slice PT1 r1.x.timers.length pT1]) r1.x := fun W hb' => hN1 W (below_trans hb hb')
  have hb4 := below_trans hb3 hb
  clear hb
  clear k0 k1 k2 k3 k4 k5 hlz
  have hz1 := bl_below HZ0.out hb4
  obtain ⟨⟨k0, k1, k2, k3, k4, k5⟩, -⟩ := blc6 hz1
  have hlz := bl_lt hz1
  clear hz1
  go_wp2_with fail
  refine calls_world ?_
  intro w4' hw'
  have hb' : Below w4.heap.size w4 w4' := by rw [hw']; exact below_alloc (Below.refl _ _) _
  have hm1 : w4'.heap[w4.heap.size]? = some (.cells #[.int .i64 r1.x.nodes, .int .i64 r1.x.now, .int .i64 r1.x.next, .slice MW1 r1.x.way.length mW1, .slice MC1 r1.x.cuts.length mC1, .slice MT1 r1.x.timers.length mT1, .int .i64 r1.id, .int .i64 r1.l.id, .int .i64 r1.l.fr, .int .i64 r1.l.to, .int .i64 r1.l.rd, .string r1.l.data, .slice MF1 r1.ts.length mF1, .int .i64 r1.e] 35 (0, 0)) := by rw [hw']; exact bl_new _ _
  have hg1 := bl_below hg1 hb'
  clear hw'
  replace hb4 := below_trans hb4 hb'
  replace hN1 : ∀ W, Below w4'.heap.size w4' W → NetV W (.agg #[.int .i64 r1.x.nodes, .int .i64 r1.x.now, .int .i64 r1.x.next, .slice PW1 r1.x.way.length pW1, .slice PC1 r1.x.cuts.length pC1, .slice PT1 r1.x.timers.length pT1]) r1.x := fun W hb => hN1 W (below_trans hb' hb)
  replace hM1 : ∀ W, Below w4'.heap.size w4' W → NetV W (.agg #[.int .i64 r1.x.nodes, .int .i64 r1.x.now, .int .i64 r1.x.next, .slice MW1 r1.x.way.length mW1, .slice MC1 r1.x.cuts.length mC1, .slice MT1 r1.x.timers.length mT1]) r1.x := fun W hb => hM1 W (below_trans hb' hb)
  clear hb'
  refine (HP2.out _ _ (HV.out _ (below_trans HB0.out hb4))).mono ?_
  rintro e w6 ⟨vw6, rfl, hO, hb⟩
  obtain ⟨PW2, pW2, PC2, pC2, PT2, pT2, rfl, oW, oC, oT⟩ := hO
  have hN2 : ∀ W, Below w6.heap.size w6 W → NetV W (.agg #[.int .i64 r2.x.nodes, .int .i64 r2.x.now, .int .i64 r2.x.next, .slice PW2 r2.x.way.length pW2, .slice PC2 r2.x.cuts.length pC2, .slice PT2 r2.x.timers.length pT2]) r2.x := fun W hb => ⟨PW2, pW2, PC2, pC2, PT2, pT2, rfl, oW.rd.below hb, oC.rd.below hb, oT.rd.below hb⟩
  clear oW oC oT
  replace hg1 := bl_below hg1 hb
  replace hm1 := bl_below hm1 hb
  replace hN1 : ∀ W, Below w6.heap.size w6 W → NetV W (.agg #[.int .i64 r1.x.nodes, .int .i64 r1.x.now, .int .i64 r1.x.next, .slice PW1 r1.x.way.length pW1, .slice PC1 r1.x.cuts.length pC1, .slice PT1 r1.x.timers.length pT1]) r1.x := fun W hb' => hN1 W (below_trans hb hb')
  replace hM1 : ∀ W, Below w6.heap.size w6 W → NetV W (.agg #[.int .i64 r1.x.nodes, .int .i64 r1.x.now, .int .i64 r1.x.next, .slice MW1 r1.x.way.length mW1, .slice MC1 r1.x.cuts.length mC1, .slice MT1 r1.x.timers.length mT1]) r1.x := fun W hb' => hM1 W (below_trans hb hb')
  have hb6 := below_trans hb4 hb
  clear hb
  clear k0 k1 k2 k3 k4 k5 hlz
  have hz1 := bl_below HZ0.out hb6
  obtain ⟨⟨k0, k1, k2, k3, k4, k5⟩, -⟩ := blc6 hz1
  have hlz := bl_lt hz1
  clear hz1
  go_wp2_with fail
  refine calls_world ?_
  intro w7 hw'
  have hb' : Below w6.heap.size w6 w7 := by rw [hw']; exact below_alloc (Below.refl _ _) _
  have hg2 : w7.heap[w6.heap.size]? = some (.cells #[.int .i64 r2.x.nodes, .int .i64 r2.x.now, .int .i64 r2.x.next, .slice PW2 r2.x.way.length pW2, .slice PC2 r2.x.cuts.length pC2, .slice PT2 r2.x.timers.length pT2] 26 (0, 0)) := by rw [hw']; exact bl_new _ _
  have hb7 := below_trans hb6 hb'
  clear hw'
  replace hg1 := bl_below hg1 hb'
  replace hm1 := bl_below hm1 hb'
  replace hN1 : ∀ W, Below w7.heap.size w7 W → NetV W (.agg #[.int .i64 r1.x.nodes, .int .i64 r1.x.now, .int .i64 r1.x.next, .slice PW1 r1.x.way.length pW1, .slice PC1 r1.x.cuts.length pC1, .slice PT1 r1.x.timers.length pT1]) r1.x := fun W hb => hN1 W (below_trans hb' hb)
  replace hM1 : ∀ W, Below w7.heap.size w7 W → NetV W (.agg #[.int .i64 r1.x.nodes, .int .i64 r1.x.now, .int .i64 r1.x.next, .slice MW1 r1.x.way.length mW1, .slice MC1 r1.x.cuts.length mC1, .slice MT1 r1.x.timers.length mT1]) r1.x := fun W hb => hM1 W (below_trans hb' hb)
  replace hN2 : ∀ W, Below w7.heap.size w7 W → NetV W (.agg #[.int .i64 r2.x.nodes, .int .i64 r2.x.now, .int .i64 r2.x.next, .slice PW2 r2.x.way.length pW2, .slice PC2 r2.x.cuts.length pC2, .slice PT2 r2.x.timers.length pT2]) r2.x := fun W hb => hN2 W (below_trans hb' hb)
  clear hb'
  refine (HQ2.out _ _ (HV.out _ (below_trans HB0.out hb7))).mono ?_
  rintro e w8 ⟨vw8, rfl, hO, hb⟩
  obtain ⟨MW2, mW2, MC2, mC2, MT2, mT2, MF2, mF2, rfl, oV, oF⟩ := hO
  have hM2 : ∀ W, Below w8.heap.size w8 W → NetV W (.agg #[.int .i64 r2.x.nodes, .int .i64 r2.x.now, .int .i64 r2.x.next, .slice MW2 r2.x.way.length mW2, .slice MC2 r2.x.cuts.length mC2, .slice MT2 r2.x.timers.length mT2]) r2.x := fun W hb => oV.below hb
  clear oV oF
  replace hg2 := bl_below hg2 hb
  replace hN2 : ∀ W, Below w8.heap.size w8 W → NetV W (.agg #[.int .i64 r2.x.nodes, .int .i64 r2.x.now, .int .i64 r2.x.next, .slice PW2 r2.x.way.length pW2, .slice PC2 r2.x.cuts.length pC2, .slice PT2 r2.x.timers.length pT2]) r2.x := fun W hb' => hN2 W (below_trans hb hb')
  replace hg1 := bl_below hg1 hb
  replace hm1 := bl_below hm1 hb
  replace hN1 : ∀ W, Below w8.heap.size w8 W → NetV W (.agg #[.int .i64 r1.x.nodes, .int .i64 r1.x.now, .int .i64 r1.x.next, .slice PW1 r1.x.way.length pW1, .slice PC1 r1.x.cuts.length pC1, .slice PT1 r1.x.timers.length pT1]) r1.x := fun W hb' => hN1 W (below_trans hb hb')
  replace hM1 : ∀ W, Below w8.heap.size w8 W → NetV W (.agg #[.int .i64 r1.x.nodes, .int .i64 r1.x.now, .int .i64 r1.x.next, .slice MW1 r1.x.way.length mW1, .slice MC1 r1.x.cuts.length mC1, .slice MT1 r1.x.timers.length mT1]) r1.x := fun W hb' => hM1 W (below_trans hb hb')
  have hb8 := below_trans hb7 hb
  clear hb
  clear k0 k1 k2 k3 k4 k5 hlz
  have hz1 := bl_below HZ0.out hb8
  obtain ⟨⟨k0, k1, k2, k3, k4, k5⟩, -⟩ := blc6 hz1
  have hlz := bl_lt hz1
  clear hz1
  go_wp2_with fail
  refine calls_world ?_
  intro w8' hw'
  have hb' : Below w8.heap.size w8 w8' := by rw [hw']; exact below_alloc (Below.refl _ _) _
  have hm2 : w8'.heap[w8.heap.size]? = some (.cells #[.int .i64 r2.x.nodes, .int .i64 r2.x.now, .int .i64 r2.x.next, .slice MW2 r2.x.way.length mW2, .slice MC2 r2.x.cuts.length mC2, .slice MT2 r2.x.timers.length mT2, .int .i64 r2.id, .int .i64 r2.l.id, .int .i64 r2.l.fr, .int .i64 r2.l.to, .int .i64 r2.l.rd, .string r2.l.data, .slice MF2 r2.ts.length mF2, .int .i64 r2.e] 35 (0, 0)) := by rw [hw']; exact bl_new _ _
  have hg2 := bl_below hg2 hb'
  clear hw'
  replace hb8 := below_trans hb8 hb'
  replace hg1 := bl_below hg1 hb'
  replace hm1 := bl_below hm1 hb'
  replace hN1 : ∀ W, Below w8'.heap.size w8' W → NetV W (.agg #[.int .i64 r1.x.nodes, .int .i64 r1.x.now, .int .i64 r1.x.next, .slice PW1 r1.x.way.length pW1, .slice PC1 r1.x.cuts.length pC1, .slice PT1 r1.x.timers.length pT1]) r1.x := fun W hb => hN1 W (below_trans hb' hb)
  replace hM1 : ∀ W, Below w8'.heap.size w8' W → NetV W (.agg #[.int .i64 r1.x.nodes, .int .i64 r1.x.now, .int .i64 r1.x.next, .slice MW1 r1.x.way.length mW1, .slice MC1 r1.x.cuts.length mC1, .slice MT1 r1.x.timers.length mT1]) r1.x := fun W hb => hM1 W (below_trans hb' hb)
  replace hN2 : ∀ W, Below w8'.heap.size w8' W → NetV W (.agg #[.int .i64 r2.x.nodes, .int .i64 r2.x.now, .int .i64 r2.x.next, .slice PW2 r2.x.way.length pW2, .slice PC2 r2.x.cuts.length pC2, .slice PT2 r2.x.timers.length pT2]) r2.x := fun W hb => hN2 W (below_trans hb' hb)
  replace hM2 : ∀ W, Below w8'.heap.size w8' W → NetV W (.agg #[.int .i64 r2.x.nodes, .int .i64 r2.x.now, .int .i64 r2.x.next, .slice MW2 r2.x.way.length mW2, .slice MC2 r2.x.cuts.length mC2, .slice MT2 r2.x.timers.length mT2]) r2.x := fun W hb => hM2 W (below_trans hb' hb)
  clear hb'
  refine (HP3.out _ _ (HV.out _ (below_trans HB0.out hb8))).mono ?_
  rintro e w10 ⟨vw10, AS, cS, rfl, hRS, hO, hb⟩
  have hS : ∀ W, Below w10.heap.size w10 W → Rd W AS r3.ts := fun W hb => hRS.below hb
  clear hRS
  obtain ⟨PW3, pW3, PC3, pC3, PT3, pT3, rfl, oW, oC, oT⟩ := hO
  have hN3 : ∀ W, Below w10.heap.size w10 W → NetV W (.agg #[.int .i64 r3.x.nodes, .int .i64 r3.x.now, .int .i64 r3.x.next, .slice PW3 r3.x.way.length pW3, .slice PC3 r3.x.cuts.length pC3, .slice PT3 r3.x.timers.length pT3]) r3.x := fun W hb => ⟨PW3, pW3, PC3, pC3, PT3, pT3, rfl, oW.rd.below hb, oC.rd.below hb, oT.rd.below hb⟩
  clear oW oC oT
  replace hg1 := bl_below hg1 hb
  replace hm1 := bl_below hm1 hb
  replace hN1 : ∀ W, Below w10.heap.size w10 W → NetV W (.agg #[.int .i64 r1.x.nodes, .int .i64 r1.x.now, .int .i64 r1.x.next, .slice PW1 r1.x.way.length pW1, .slice PC1 r1.x.cuts.length pC1, .slice PT1 r1.x.timers.length pT1]) r1.x := fun W hb' => hN1 W (below_trans hb hb')
  replace hM1 : ∀ W, Below w10.heap.size w10 W → NetV W (.agg #[.int .i64 r1.x.nodes, .int .i64 r1.x.now, .int .i64 r1.x.next, .slice MW1 r1.x.way.length mW1, .slice MC1 r1.x.cuts.length mC1, .slice MT1 r1.x.timers.length mT1]) r1.x := fun W hb' => hM1 W (below_trans hb hb')
  replace hg2 := bl_below hg2 hb
  replace hm2 := bl_below hm2 hb
  replace hN2 : ∀ W, Below w10.heap.size w10 W → NetV W (.agg #[.int .i64 r2.x.nodes, .int .i64 r2.x.now, .int .i64 r2.x.next, .slice PW2 r2.x.way.length pW2, .slice PC2 r2.x.cuts.length pC2, .slice PT2 r2.x.timers.length pT2]) r2.x := fun W hb' => hN2 W (below_trans hb hb')
  replace hM2 : ∀ W, Below w10.heap.size w10 W → NetV W (.agg #[.int .i64 r2.x.nodes, .int .i64 r2.x.now, .int .i64 r2.x.next, .slice MW2 r2.x.way.length mW2, .slice MC2 r2.x.cuts.length mC2, .slice MT2 r2.x.timers.length mT2]) r2.x := fun W hb' => hM2 W (below_trans hb hb')
  have hb10 := below_trans hb8 hb
  clear hb
  clear k0 k1 k2 k3 k4 k5 hlz
  have hz1 := bl_below HZ0.out hb10
  obtain ⟨⟨k0, k1, k2, k3, k4, k5⟩, -⟩ := blc6 hz1
  have hlz := bl_lt hz1
  clear hz1
  go_wp2_with fail
  refine calls_world ?_
  intro w11 hw'
  have hb' : Below w10.heap.size w10 w11 := by rw [hw']; exact below_alloc (Below.refl _ _) _
  have hg3 : w11.heap[w10.heap.size]? = some (.cells #[.int .i64 r3.x.nodes, .int .i64 r3.x.now, .int .i64 r3.x.next, .slice PW3 r3.x.way.length pW3, .slice PC3 r3.x.cuts.length pC3, .slice PT3 r3.x.timers.length pT3] 26 (0, 0)) := by rw [hw']; exact bl_new _ _
  have hb11 := below_trans hb10 hb'
  clear hw'
  replace hg1 := bl_below hg1 hb'
  replace hm1 := bl_below hm1 hb'
  replace hN1 : ∀ W, Below w11.heap.size w11 W → NetV W (.agg #[.int .i64 r1.x.nodes, .int .i64 r1.x.now, .int .i64 r1.x.next, .slice PW1 r1.x.way.length pW1, .slice PC1 r1.x.cuts.length pC1, .slice PT1 r1.x.timers.length pT1]) r1.x := fun W hb => hN1 W (below_trans hb' hb)
  replace hM1 : ∀ W, Below w11.heap.size w11 W → NetV W (.agg #[.int .i64 r1.x.nodes, .int .i64 r1.x.now, .int .i64 r1.x.next, .slice MW1 r1.x.way.length mW1, .slice MC1 r1.x.cuts.length mC1, .slice MT1 r1.x.timers.length mT1]) r1.x := fun W hb => hM1 W (below_trans hb' hb)
  replace hg2 := bl_below hg2 hb'
  replace hm2 := bl_below hm2 hb'
  replace hN2 : ∀ W, Below w11.heap.size w11 W → NetV W (.agg #[.int .i64 r2.x.nodes, .int .i64 r2.x.now, .int .i64 r2.x.next, .slice PW2 r2.x.way.length pW2, .slice PC2 r2.x.cuts.length pC2, .slice PT2 r2.x.timers.length pT2]) r2.x := fun W hb => hN2 W (below_trans hb' hb)
  replace hM2 : ∀ W, Below w11.heap.size w11 W → NetV W (.agg #[.int .i64 r2.x.nodes, .int .i64 r2.x.now, .int .i64 r2.x.next, .slice MW2 r2.x.way.length mW2, .slice MC2 r2.x.cuts.length mC2, .slice MT2 r2.x.timers.length mT2]) r2.x := fun W hb => hM2 W (below_trans hb' hb)
  replace hN3 : ∀ W, Below w11.heap.size w11 W → NetV W (.agg #[.int .i64 r3.x.nodes, .int .i64 r3.x.now, .int .i64 r3.x.next, .slice PW3 r3.x.way.length pW3, .slice PC3 r3.x.cuts.length pC3, .slice PT3 r3.x.timers.length pT3]) r3.x := fun W hb => hN3 W (below_trans hb' hb)
  replace hS : ∀ W, Below w11.heap.size w11 W → Rd W AS r3.ts := fun W hb => hS W (below_trans hb' hb)
  clear hb'
  refine (HQ3.out _ _ (HV.out _ (below_trans HB0.out hb11))).mono ?_
  rintro e w12 ⟨vw12, rfl, hO, hb⟩
  obtain ⟨MW3, mW3, MC3, mC3, MT3, mT3, MF3, mF3, rfl, oV, oF⟩ := hO
  have hM3 : ∀ W, Below w12.heap.size w12 W → NetV W (.agg #[.int .i64 r3.x.nodes, .int .i64 r3.x.now, .int .i64 r3.x.next, .slice MW3 r3.x.way.length mW3, .slice MC3 r3.x.cuts.length mC3, .slice MT3 r3.x.timers.length mT3]) r3.x := fun W hb => oV.below hb
  have hF : ∀ W, Below w12.heap.size w12 W → Rd W MF3 r3.ts := fun W hb => oF.below hb
  replace hS : ∀ W, Below w12.heap.size w12 W → Rd W AS r3.ts := fun W hb' => hS W (below_trans hb hb')
  clear oV oF
  replace hg3 := bl_below hg3 hb
  replace hN3 : ∀ W, Below w12.heap.size w12 W → NetV W (.agg #[.int .i64 r3.x.nodes, .int .i64 r3.x.now, .int .i64 r3.x.next, .slice PW3 r3.x.way.length pW3, .slice PC3 r3.x.cuts.length pC3, .slice PT3 r3.x.timers.length pT3]) r3.x := fun W hb' => hN3 W (below_trans hb hb')
  replace hg1 := bl_below hg1 hb
  replace hm1 := bl_below hm1 hb
  replace hN1 : ∀ W, Below w12.heap.size w12 W → NetV W (.agg #[.int .i64 r1.x.nodes, .int .i64 r1.x.now, .int .i64 r1.x.next, .slice PW1 r1.x.way.length pW1, .slice PC1 r1.x.cuts.length pC1, .slice PT1 r1.x.timers.length pT1]) r1.x := fun W hb' => hN1 W (below_trans hb hb')
  replace hM1 : ∀ W, Below w12.heap.size w12 W → NetV W (.agg #[.int .i64 r1.x.nodes, .int .i64 r1.x.now, .int .i64 r1.x.next, .slice MW1 r1.x.way.length mW1, .slice MC1 r1.x.cuts.length mC1, .slice MT1 r1.x.timers.length mT1]) r1.x := fun W hb' => hM1 W (below_trans hb hb')
  replace hg2 := bl_below hg2 hb
  replace hm2 := bl_below hm2 hb
  replace hN2 : ∀ W, Below w12.heap.size w12 W → NetV W (.agg #[.int .i64 r2.x.nodes, .int .i64 r2.x.now, .int .i64 r2.x.next, .slice PW2 r2.x.way.length pW2, .slice PC2 r2.x.cuts.length pC2, .slice PT2 r2.x.timers.length pT2]) r2.x := fun W hb' => hN2 W (below_trans hb hb')
  replace hM2 : ∀ W, Below w12.heap.size w12 W → NetV W (.agg #[.int .i64 r2.x.nodes, .int .i64 r2.x.now, .int .i64 r2.x.next, .slice MW2 r2.x.way.length mW2, .slice MC2 r2.x.cuts.length mC2, .slice MT2 r2.x.timers.length mT2]) r2.x := fun W hb' => hM2 W (below_trans hb hb')
  have hb12 := below_trans hb11 hb
  clear hb
  clear k0 k1 k2 k3 k4 k5 hlz
  have hz1 := bl_below HZ0.out hb12
  obtain ⟨⟨k0, k1, k2, k3, k4, k5⟩, -⟩ := blc6 hz1
  have hlz := bl_lt hz1
  clear hz1
  go_wp2_with fail
  refine calls_world ?_
  intro v0 hw'
  have hb' : Below w12.heap.size w12 v0 := by rw [hw']; exact below_alloc (Below.refl _ _) _
  have hm3 : v0.heap[w12.heap.size]? = some (.cells #[.int .i64 r3.x.nodes, .int .i64 r3.x.now, .int .i64 r3.x.next, .slice MW3 r3.x.way.length mW3, .slice MC3 r3.x.cuts.length mC3, .slice MT3 r3.x.timers.length mT3, .int .i64 r3.id, .int .i64 r3.l.id, .int .i64 r3.l.fr, .int .i64 r3.l.to, .int .i64 r3.l.rd, .string r3.l.data, .slice MF3 r3.ts.length mF3, .int .i64 r3.e] 35 (0, 0)) := by rw [hw']; exact bl_new _ _
  clear hw' k0 k1 k2 k3 k4 k5 hlz
  have hv0 := below_trans hb12 hb'
  replace hg1 := bl_below hg1 hb'
  replace hm1 := bl_below hm1 hb'
  replace hN1 : ∀ W, Below v0.heap.size v0 W → NetV W (.agg #[.int .i64 r1.x.nodes, .int .i64 r1.x.now, .int .i64 r1.x.next, .slice PW1 r1.x.way.length pW1, .slice PC1 r1.x.cuts.length pC1, .slice PT1 r1.x.timers.length pT1]) r1.x := fun W h => hN1 W (below_trans hb' h)
  replace hM1 : ∀ W, Below v0.heap.size v0 W → NetV W (.agg #[.int .i64 r1.x.nodes, .int .i64 r1.x.now, .int .i64 r1.x.next, .slice MW1 r1.x.way.length mW1, .slice MC1 r1.x.cuts.length mC1, .slice MT1 r1.x.timers.length mT1]) r1.x := fun W h => hM1 W (below_trans hb' h)
  replace hg2 := bl_below hg2 hb'
  replace hm2 := bl_below hm2 hb'
  replace hN2 : ∀ W, Below v0.heap.size v0 W → NetV W (.agg #[.int .i64 r2.x.nodes, .int .i64 r2.x.now, .int .i64 r2.x.next, .slice PW2 r2.x.way.length pW2, .slice PC2 r2.x.cuts.length pC2, .slice PT2 r2.x.timers.length pT2]) r2.x := fun W h => hN2 W (below_trans hb' h)
  replace hM2 : ∀ W, Below v0.heap.size v0 W → NetV W (.agg #[.int .i64 r2.x.nodes, .int .i64 r2.x.now, .int .i64 r2.x.next, .slice MW2 r2.x.way.length mW2, .slice MC2 r2.x.cuts.length mC2, .slice MT2 r2.x.timers.length mT2]) r2.x := fun W h => hM2 W (below_trans hb' h)
  replace hg3 := bl_below hg3 hb'
  replace hN3 : ∀ W, Below v0.heap.size v0 W → NetV W (.agg #[.int .i64 r3.x.nodes, .int .i64 r3.x.now, .int .i64 r3.x.next, .slice PW3 r3.x.way.length pW3, .slice PC3 r3.x.cuts.length pC3, .slice PT3 r3.x.timers.length pT3]) r3.x := fun W h => hN3 W (below_trans hb' h)
  replace hM3 : ∀ W, Below v0.heap.size v0 W → NetV W (.agg #[.int .i64 r3.x.nodes, .int .i64 r3.x.now, .int .i64 r3.x.next, .slice MW3 r3.x.way.length mW3, .slice MC3 r3.x.cuts.length mC3, .slice MT3 r3.x.timers.length mT3]) r3.x := fun W h => hM3 W (below_trans hb' h)
  replace hS : ∀ W, Below v0.heap.size v0 W → Rd W AS r3.ts := fun W h => hS W (below_trans hb' h)
  replace hF : ∀ W, Below v0.heap.size v0 W → Rd W MF3 r3.ts := fun W h => hF W (below_trans hb' h)
  refine calls_below (sane_any _) ?_
  intro v1 hb
  replace hg1 := bl_below hg1 hb
  replace hm1 := bl_below hm1 hb
  replace hN1 : ∀ W, Below v1.heap.size v1 W → NetV W (.agg #[.int .i64 r1.x.nodes, .int .i64 r1.x.now, .int .i64 r1.x.next, .slice PW1 r1.x.way.length pW1, .slice PC1 r1.x.cuts.length pC1, .slice PT1 r1.x.timers.length pT1]) r1.x := fun W h => hN1 W (below_trans hb h)
  replace hM1 : ∀ W, Below v1.heap.size v1 W → NetV W (.agg #[.int .i64 r1.x.nodes, .int .i64 r1.x.now, .int .i64 r1.x.next, .slice MW1 r1.x.way.length mW1, .slice MC1 r1.x.cuts.length mC1, .slice MT1 r1.x.timers.length mT1]) r1.x := fun W h => hM1 W (below_trans hb h)
  replace hg2 := bl_below hg2 hb
  replace hm2 := bl_below hm2 hb
  replace hN2 : ∀ W, Below v1.heap.size v1 W → NetV W (.agg #[.int .i64 r2.x.nodes, .int .i64 r2.x.now, .int .i64 r2.x.next, .slice PW2 r2.x.way.length pW2, .slice PC2 r2.x.cuts.length pC2, .slice PT2 r2.x.timers.length pT2]) r2.x := fun W h => hN2 W (below_trans hb h)
  replace hM2 : ∀ W, Below v1.heap.size v1 W → NetV W (.agg #[.int .i64 r2.x.nodes, .int .i64 r2.x.now, .int .i64 r2.x.next, .slice MW2 r2.x.way.length mW2, .slice MC2 r2.x.cuts.length mC2, .slice MT2 r2.x.timers.length mT2]) r2.x := fun W h => hM2 W (below_trans hb h)
  replace hg3 := bl_below hg3 hb
  replace hm3 := bl_below hm3 hb
  replace hN3 : ∀ W, Below v1.heap.size v1 W → NetV W (.agg #[.int .i64 r3.x.nodes, .int .i64 r3.x.now, .int .i64 r3.x.next, .slice PW3 r3.x.way.length pW3, .slice PC3 r3.x.cuts.length pC3, .slice PT3 r3.x.timers.length pT3]) r3.x := fun W h => hN3 W (below_trans hb h)
  replace hM3 : ∀ W, Below v1.heap.size v1 W → NetV W (.agg #[.int .i64 r3.x.nodes, .int .i64 r3.x.now, .int .i64 r3.x.next, .slice MW3 r3.x.way.length mW3, .slice MC3 r3.x.cuts.length mC3, .slice MT3 r3.x.timers.length mT3]) r3.x := fun W h => hM3 W (below_trans hb h)
  replace hS : ∀ W, Below v1.heap.size v1 W → Rd W AS r3.ts := fun W h => hS W (below_trans hb h)
  replace hF : ∀ W, Below v1.heap.size v1 W → Rd W MF3 r3.ts := fun W h => hF W (below_trans hb h)
  have hv1 := below_trans hv0 hb
  clear hb hb'
  obtain ⟨⟨y10, y11, y12, y13, y14, y15⟩, -⟩ := blc6 hg1
  obtain ⟨⟨z10, z11, z12, z13, z14, z15, z16, z17, z18, z19, z110, z111, z112, z113⟩, -⟩ := blc14 hm1
  have hly1 := bl_lt hg1
  have hlq1 := bl_lt hm1
  obtain ⟨⟨y20, y21, y22, y23, y24, y25⟩, -⟩ := blc6 hg2
  obtain ⟨⟨z20, z21, z22, z23, z24, z25, z26, z27, z28, z29, z210, z211, z212, z213⟩, -⟩ := blc14 hm2
  have hly2 := bl_lt hg2
  have hlq2 := bl_lt hm2
  obtain ⟨⟨y30, y31, y32, y33, y34, y35⟩, -⟩ := blc6 hg3
  obtain ⟨⟨z30, z31, z32, z33, z34, z35, z36, z37, z38, z39, z310, z311, z312, z313⟩, -⟩ := blc14 hm3
  have hly3 := bl_lt hg3
  have hlq3 := bl_lt hm3
  have XN1 := Lib.hid hN1
  have XM1 := Lib.hid hM1
  have XN2 := Lib.hid hN2
  have XM2 := Lib.hid hM2
  have XN3 := Lib.hid hN3
  have XM3 := Lib.hid hM3
  have XS := Lib.hid hS
  have XF := Lib.hid hF
  clear hS hF
  clear hN1 hM1 hN2 hM2 hN3 hM3
  go_wp2_with fail
  refine calls_below (RSame_any r1.x r1.x _ _ _ (XN1.out _ (Below.refl _ _)) (XM1.out _ (Below.refl _ _)) (by have := HL1.out; omega) (by have := HL1.out; omega) (by have := HL1.out; omega)) ?_
  intro v2 hb
  rw [decide_eq_true (rfl : r1.x = r1.x)]
  have hN1 := XN1.out
  have hM1 := XM1.out
  have hN2 := XN2.out
  have hM2 := XM2.out
  have hN3 := XN3.out
  have hM3 := XM3.out
  have hS := XS.out
  have hF := XF.out
  clear XS XF
  clear XN1 XM1 XN2 XM2 XN3 XM3
  clear y10 y11 y12 y13 y14 y15 z10 z11 z12 z13 z14 z15 z16 z17 z18 z19 z110 z111 z112 z113 hly1 hlq1 y20 y21 y22 y23 y24 y25 z20 z21 z22 z23 z24 z25 z26 z27 z28 z29 z210 z211 z212 z213 hly2 hlq2 y30 y31 y32 y33 y34 y35 z30 z31 z32 z33 z34 z35 z36 z37 z38 z39 z310 z311 z312 z313 hly3 hlq3
  replace hg1 := bl_below hg1 hb
  replace hm1 := bl_below hm1 hb
  replace hN1 : ∀ W, Below v2.heap.size v2 W → NetV W (.agg #[.int .i64 r1.x.nodes, .int .i64 r1.x.now, .int .i64 r1.x.next, .slice PW1 r1.x.way.length pW1, .slice PC1 r1.x.cuts.length pC1, .slice PT1 r1.x.timers.length pT1]) r1.x := fun W h => hN1 W (below_trans hb h)
  replace hM1 : ∀ W, Below v2.heap.size v2 W → NetV W (.agg #[.int .i64 r1.x.nodes, .int .i64 r1.x.now, .int .i64 r1.x.next, .slice MW1 r1.x.way.length mW1, .slice MC1 r1.x.cuts.length mC1, .slice MT1 r1.x.timers.length mT1]) r1.x := fun W h => hM1 W (below_trans hb h)
  replace hg2 := bl_below hg2 hb
  replace hm2 := bl_below hm2 hb
  replace hN2 : ∀ W, Below v2.heap.size v2 W → NetV W (.agg #[.int .i64 r2.x.nodes, .int .i64 r2.x.now, .int .i64 r2.x.next, .slice PW2 r2.x.way.length pW2, .slice PC2 r2.x.cuts.length pC2, .slice PT2 r2.x.timers.length pT2]) r2.x := fun W h => hN2 W (below_trans hb h)
  replace hM2 : ∀ W, Below v2.heap.size v2 W → NetV W (.agg #[.int .i64 r2.x.nodes, .int .i64 r2.x.now, .int .i64 r2.x.next, .slice MW2 r2.x.way.length mW2, .slice MC2 r2.x.cuts.length mC2, .slice MT2 r2.x.timers.length mT2]) r2.x := fun W h => hM2 W (below_trans hb h)
  replace hg3 := bl_below hg3 hb
  replace hm3 := bl_below hm3 hb
  replace hN3 : ∀ W, Below v2.heap.size v2 W → NetV W (.agg #[.int .i64 r3.x.nodes, .int .i64 r3.x.now, .int .i64 r3.x.next, .slice PW3 r3.x.way.length pW3, .slice PC3 r3.x.cuts.length pC3, .slice PT3 r3.x.timers.length pT3]) r3.x := fun W h => hN3 W (below_trans hb h)
  replace hM3 : ∀ W, Below v2.heap.size v2 W → NetV W (.agg #[.int .i64 r3.x.nodes, .int .i64 r3.x.now, .int .i64 r3.x.next, .slice MW3 r3.x.way.length mW3, .slice MC3 r3.x.cuts.length mC3, .slice MT3 r3.x.timers.length mT3]) r3.x := fun W h => hM3 W (below_trans hb h)
  replace hS : ∀ W, Below v2.heap.size v2 W → Rd W AS r3.ts := fun W h => hS W (below_trans hb h)
  replace hF : ∀ W, Below v2.heap.size v2 W → Rd W MF3 r3.ts := fun W h => hF W (below_trans hb h)
  have hv2 := below_trans hv1 hb
  clear hb
  obtain ⟨⟨y10, y11, y12, y13, y14, y15⟩, -⟩ := blc6 hg1
  obtain ⟨⟨z10, z11, z12, z13, z14, z15, z16, z17, z18, z19, z110, z111, z112, z113⟩, -⟩ := blc14 hm1
  have hly1 := bl_lt hg1
  have hlq1 := bl_lt hm1
  obtain ⟨⟨y20, y21, y22, y23, y24, y25⟩, -⟩ := blc6 hg2
  obtain ⟨⟨z20, z21, z22, z23, z24, z25, z26, z27, z28, z29, z210, z211, z212, z213⟩, -⟩ := blc14 hm2
  have hly2 := bl_lt hg2
  have hlq2 := bl_lt hm2
  obtain ⟨⟨y30, y31, y32, y33, y34, y35⟩, -⟩ := blc6 hg3
  obtain ⟨⟨z30, z31, z32, z33, z34, z35, z36, z37, z38, z39, z310, z311, z312, z313⟩, -⟩ := blc14 hm3
  have hly3 := bl_lt hg3
  have hlq3 := bl_lt hm3
  have XN1 := Lib.hid hN1
  have XM1 := Lib.hid hM1
  have XN2 := Lib.hid hN2
  have XM2 := Lib.hid hM2
  have XN3 := Lib.hid hN3
  have XM3 := Lib.hid hM3
  have XS := Lib.hid hS
  have XF := Lib.hid hF
  clear hS hF
  clear hN1 hM1 hN2 hM2 hN3 hM3
  go_wp2_with fail
  refine calls_below (RSame_any r2.x r2.x _ _ _ (XN2.out _ (Below.refl _ _)) (XM2.out _ (Below.refl _ _)) (by have := HL2.out; omega) (by have := HL2.out; omega) (by have := HL2.out; omega)) ?_
  intro v3 hb
  rw [decide_eq_true (rfl : r2.x = r2.x)]
  have hN1 := XN1.out
  have hM1 := XM1.out
  have hN2 := XN2.out
  have hM2 := XM2.out
  have hN3 := XN3.out
  have hM3 := XM3.out
  have hS := XS.out
  have hF := XF.out
  clear XS XF
  clear XN1 XM1 XN2 XM2 XN3 XM3
  clear y10 y11 y12 y13 y14 y15 z10 z11 z12 z13 z14 z15 z16 z17 z18 z19 z110 z111 z112 z113 hly1 hlq1 y20 y21 y22 y23 y24 y25 z20 z21 z22 z23 z24 z25 z26 z27 z28 z29 z210 z211 z212 z213 hly2 hlq2 y30 y31 y32 y33 y34 y35 z30 z31 z32 z33 z34 z35 z36 z37 z38 z39 z310 z311 z312 z313 hly3 hlq3
  replace hg1 := bl_below hg1 hb
  replace hm1 := bl_below hm1 hb
  replace hN1 : ∀ W, Below v3.heap.size v3 W → NetV W (.agg #[.int .i64 r1.x.nodes, .int .i64 r1.x.now, .int .i64 r1.x.next, .slice PW1 r1.x.way.length pW1, .slice PC1 r1.x.cuts.length pC1, .slice PT1 r1.x.timers.length pT1]) r1.x := fun W h => hN1 W (below_trans hb h)
  replace hM1 : ∀ W, Below v3.heap.size v3 W → NetV W (.agg #[.int .i64 r1.x.nodes, .int .i64 r1.x.now, .int .i64 r1.x.next, .slice MW1 r1.x.way.length mW1, .slice MC1 r1.x.cuts.length mC1, .slice MT1 r1.x.timers.length mT1]) r1.x := fun W h => hM1 W (below_trans hb h)
  replace hg2 := bl_below hg2 hb
  replace hm2 := bl_below hm2 hb
  replace hN2 : ∀ W, Below v3.heap.size v3 W → NetV W (.agg #[.int .i64 r2.x.nodes, .int .i64 r2.x.now, .int .i64 r2.x.next, .slice PW2 r2.x.way.length pW2, .slice PC2 r2.x.cuts.length pC2, .slice PT2 r2.x.timers.length pT2]) r2.x := fun W h => hN2 W (below_trans hb h)
  replace hM2 : ∀ W, Below v3.heap.size v3 W → NetV W (.agg #[.int .i64 r2.x.nodes, .int .i64 r2.x.now, .int .i64 r2.x.next, .slice MW2 r2.x.way.length mW2, .slice MC2 r2.x.cuts.length mC2, .slice MT2 r2.x.timers.length mT2]) r2.x := fun W h => hM2 W (below_trans hb h)
  replace hg3 := bl_below hg3 hb
  replace hm3 := bl_below hm3 hb
  replace hN3 : ∀ W, Below v3.heap.size v3 W → NetV W (.agg #[.int .i64 r3.x.nodes, .int .i64 r3.x.now, .int .i64 r3.x.next, .slice PW3 r3.x.way.length pW3, .slice PC3 r3.x.cuts.length pC3, .slice PT3 r3.x.timers.length pT3]) r3.x := fun W h => hN3 W (below_trans hb h)
  replace hM3 : ∀ W, Below v3.heap.size v3 W → NetV W (.agg #[.int .i64 r3.x.nodes, .int .i64 r3.x.now, .int .i64 r3.x.next, .slice MW3 r3.x.way.length mW3, .slice MC3 r3.x.cuts.length mC3, .slice MT3 r3.x.timers.length mT3]) r3.x := fun W h => hM3 W (below_trans hb h)
  replace hS : ∀ W, Below v3.heap.size v3 W → Rd W AS r3.ts := fun W h => hS W (below_trans hb h)
  replace hF : ∀ W, Below v3.heap.size v3 W → Rd W MF3 r3.ts := fun W h => hF W (below_trans hb h)
  have hv3 := below_trans hv2 hb
  clear hb
  obtain ⟨⟨y10, y11, y12, y13, y14, y15⟩, -⟩ := blc6 hg1
  obtain ⟨⟨z10, z11, z12, z13, z14, z15, z16, z17, z18, z19, z110, z111, z112, z113⟩, -⟩ := blc14 hm1
  have hly1 := bl_lt hg1
  have hlq1 := bl_lt hm1
  obtain ⟨⟨y20, y21, y22, y23, y24, y25⟩, -⟩ := blc6 hg2
  obtain ⟨⟨z20, z21, z22, z23, z24, z25, z26, z27, z28, z29, z210, z211, z212, z213⟩, -⟩ := blc14 hm2
  have hly2 := bl_lt hg2
  have hlq2 := bl_lt hm2
  obtain ⟨⟨y30, y31, y32, y33, y34, y35⟩, -⟩ := blc6 hg3
  obtain ⟨⟨z30, z31, z32, z33, z34, z35, z36, z37, z38, z39, z310, z311, z312, z313⟩, -⟩ := blc14 hm3
  have hly3 := bl_lt hg3
  have hlq3 := bl_lt hm3
  have XN1 := Lib.hid hN1
  have XM1 := Lib.hid hM1
  have XN2 := Lib.hid hN2
  have XM2 := Lib.hid hM2
  have XN3 := Lib.hid hN3
  have XM3 := Lib.hid hM3
  have XS := Lib.hid hS
  have XF := Lib.hid hF
  clear hS hF
  clear hN1 hM1 hN2 hM2 hN3 hM3
  go_wp2_with fail
  refine calls_below (RSame_any r3.x r3.x _ _ _ (XN3.out _ (Below.refl _ _)) (XM3.out _ (Below.refl _ _)) (by have := HL3.out; omega) (by have := HL3.out; omega) (by have := HL3.out; omega)) ?_
  intro v4 hb
  rw [decide_eq_true (rfl : r3.x = r3.x)]
  have hN1 := XN1.out
  have hM1 := XM1.out
  have hN2 := XN2.out
  have hM2 := XM2.out
  have hN3 := XN3.out
  have hM3 := XM3.out
  have hS := XS.out
  have hF := XF.out
  clear XS XF
  clear XN1 XM1 XN2 XM2 XN3 XM3
  clear y10 y11 y12 y13 y14 y15 z10 z11 z12 z13 z14 z15 z16 z17 z18 z19 z110 z111 z112 z113 hly1 hlq1 y20 y21 y22 y23 y24 y25 z20 z21 z22 z23 z24 z25 z26 z27 z28 z29 z210 z211 z212 z213 hly2 hlq2 y30 y31 y32 y33 y34 y35 z30 z31 z32 z33 z34 z35 z36 z37 z38 z39 z310 z311 z312 z313 hly3 hlq3
  replace hg1 := bl_below hg1 hb
  replace hm1 := bl_below hm1 hb
  replace hN1 : ∀ W, Below v4.heap.size v4 W → NetV W (.agg #[.int .i64 r1.x.nodes, .int .i64 r1.x.now, .int .i64 r1.x.next, .slice PW1 r1.x.way.length pW1, .slice PC1 r1.x.cuts.length pC1, .slice PT1 r1.x.timers.length pT1]) r1.x := fun W h => hN1 W (below_trans hb h)
  replace hM1 : ∀ W, Below v4.heap.size v4 W → NetV W (.agg #[.int .i64 r1.x.nodes, .int .i64 r1.x.now, .int .i64 r1.x.next, .slice MW1 r1.x.way.length mW1, .slice MC1 r1.x.cuts.length mC1, .slice MT1 r1.x.timers.length mT1]) r1.x := fun W h => hM1 W (below_trans hb h)
  replace hg2 := bl_below hg2 hb
  replace hm2 := bl_below hm2 hb
  replace hN2 : ∀ W, Below v4.heap.size v4 W → NetV W (.agg #[.int .i64 r2.x.nodes, .int .i64 r2.x.now, .int .i64 r2.x.next, .slice PW2 r2.x.way.length pW2, .slice PC2 r2.x.cuts.length pC2, .slice PT2 r2.x.timers.length pT2]) r2.x := fun W h => hN2 W (below_trans hb h)
  replace hM2 : ∀ W, Below v4.heap.size v4 W → NetV W (.agg #[.int .i64 r2.x.nodes, .int .i64 r2.x.now, .int .i64 r2.x.next, .slice MW2 r2.x.way.length mW2, .slice MC2 r2.x.cuts.length mC2, .slice MT2 r2.x.timers.length mT2]) r2.x := fun W h => hM2 W (below_trans hb h)
  replace hg3 := bl_below hg3 hb
  replace hm3 := bl_below hm3 hb
  replace hN3 : ∀ W, Below v4.heap.size v4 W → NetV W (.agg #[.int .i64 r3.x.nodes, .int .i64 r3.x.now, .int .i64 r3.x.next, .slice PW3 r3.x.way.length pW3, .slice PC3 r3.x.cuts.length pC3, .slice PT3 r3.x.timers.length pT3]) r3.x := fun W h => hN3 W (below_trans hb h)
  replace hM3 : ∀ W, Below v4.heap.size v4 W → NetV W (.agg #[.int .i64 r3.x.nodes, .int .i64 r3.x.now, .int .i64 r3.x.next, .slice MW3 r3.x.way.length mW3, .slice MC3 r3.x.cuts.length mC3, .slice MT3 r3.x.timers.length mT3]) r3.x := fun W h => hM3 W (below_trans hb h)
  replace hS : ∀ W, Below v4.heap.size v4 W → Rd W AS r3.ts := fun W h => hS W (below_trans hb h)
  replace hF : ∀ W, Below v4.heap.size v4 W → Rd W MF3 r3.ts := fun W h => hF W (below_trans hb h)
  have hv4 := below_trans hv3 hb
  clear hb
  obtain ⟨⟨y10, y11, y12, y13, y14, y15⟩, -⟩ := blc6 hg1
  obtain ⟨⟨z10, z11, z12, z13, z14, z15, z16, z17, z18, z19, z110, z111, z112, z113⟩, -⟩ := blc14 hm1
  have hly1 := bl_lt hg1
  have hlq1 := bl_lt hm1
  obtain ⟨⟨y20, y21, y22, y23, y24, y25⟩, -⟩ := blc6 hg2
  obtain ⟨⟨z20, z21, z22, z23, z24, z25, z26, z27, z28, z29, z210, z211, z212, z213⟩, -⟩ := blc14 hm2
  have hly2 := bl_lt hg2
  have hlq2 := bl_lt hm2
  obtain ⟨⟨y30, y31, y32, y33, y34, y35⟩, -⟩ := blc6 hg3
  obtain ⟨⟨z30, z31, z32, z33, z34, z35, z36, z37, z38, z39, z310, z311, z312, z313⟩, -⟩ := blc14 hm3
  have hly3 := bl_lt hg3
  have hlq3 := bl_lt hm3
  clear hN1 hM1 hN2 hM2 hN3 hM3
  have XS := Lib.hid hS
  have XF := Lib.hid hF
  clear hS hF
  go_wp2_with fail
  refine calls_below (RSameTimers_any AS MF3 cS mF3 r3.ts r3.ts _ (XS.out _ (Below.refl _ _)) (XF.out _ (Below.refl _ _)) (by have := HTS.out; omega)) ?_
  intro v5 hb
  rw [decide_eq_true (rfl : r3.ts = r3.ts)]
  have hv5 := below_trans hv4 hb
  clear hb
  go_wp2
  go_ret
  exact ⟨rfl, below_trans HB0.out hv5⟩
end Go.Proofs.Ythlbmcfliejdiaa
end

section
set_option linter.unusedVariables false
namespace Go.Proofs.Ythlbmcfliejdiaa.netTimers
open Go.ChangeShapes Go.WideShapes Go.ChangeAt Go.RowKit
theorem own : ownKnob Try.prog.godebug = none := by kernel_rfl
theorem laidOut : laidOutB Try.prog = true := by kernel_rfl
set_option maxRecDepth 100000 in
theorem lifted (os : Os) (started : os.Started) (H : Type) (enc : TypeId × Value → H) :
    ReturnsInHanded {} Try.checked os 6 .any (Rows.netTimersSpec.pre6 enc Try.prog Try.f6 Rows.netTimersRow.domain false) (Rows.netTimersSpec.post enc Try.prog Try.f6 false true false false) := by
  refine returnsInHanded_of_change_sized (C := Try.checked) own started (by kernel_rfl) Try.func6
    (ChangeSpec.witness6 (enc := enc) (C := Try.checked) false ⟨#[], #[.agg #[.int .i64 0, .int .i64 0, .int .i64 0, .slice none 0 0, .slice none 0 0, .slice none 0 0], .int .i64 0, .int .i64 0, .int .i64 0], []⟩ 8 (by kernel_rfl) (by kernel_rfl) (by kernel_rfl) (by kernel_rfl)) ?_
  intro W base args ds gs before hval0 hW hcnd hsz0 _
  have hval : ∀ (j : Nat) t v, Try.f6.params[j]? = some t → args[j]? = some v → Value.okWide Try.prog W .any base t v := hval0
  have hW' := hW
  obtain ⟨p, q, hA0, hV, rfl, hfz, hnd⟩ := hW
  have hA : DataW.TrodAll enc Try.prog W 0 (fun _ => true) true Try.f6.params.toList args.toList ds p := hA0
  rw [Try.params6] at hA hval
  obtain ⟨v0, vs0, d0, ds0, p0, q0, hargs, rfl, rfl, h0, r0⟩ := trodAll_cons hA
  obtain ⟨v1, vs1, d1, ds1, p1, q1, rfl, rfl, rfl, h1, r1⟩ := trodAll_cons r0
  obtain ⟨v2, vs2, d2, ds2, p2, q2, rfl, rfl, rfl, h2, r2⟩ := trodAll_cons r1
  obtain ⟨v3, vs3, d3, ds3, p3, q3, rfl, rfl, rfl, h3, r3⟩ := trodAll_cons r2
  obtain ⟨rfl, rfl, rfl⟩ := trodAll_nil r3
  obtain rfl : args = #[v0, v1, v2, v3] := by cases args; simp_all
  obtain ⟨rfl, rfl⟩ := trodVars_none hV
  have k0 := h0
  have lt0 : ∀ x ∈ p0, x.block < W.heap.size := by obtain ⟨m, hm⟩ := k0; exact DataW.trod_lt m _ _ _ hm
  obtain ⟨x0, hx0, hw0, hc0, ht0⟩ := NetV_open (hval 0 26 v0 rfl rfl) h0
  obtain ⟨a1, rfl, rfl, rfl, w1⟩ := open_int Try.underlying3 (hval 1 3 v1 rfl rfl) h1
  obtain ⟨a2, rfl, rfl, rfl, w2⟩ := open_int Try.underlying3 (hval 2 3 v2 rfl rfl) h2
  obtain ⟨a3, rfl, rfl, rfl, w3⟩ := open_int Try.underlying3 (hval 3 3 v3 rfl rfl) h3
  clear hA0 hval0 hsz0
  refine (NetTimers_any x0 a1 a2 a3 v0 W hx0 hw0 hc0 ht0).mono fun e W' ⟨he, bel⟩ => ?_
  subst he
  exact ⟨_, rfl, _, _, _, [], _, [], hW', trodAll_mk1 (shut_bool Try.underlying4 _), (trodAll_cons_mk (Below.trod laidOut (by kernel_rfl) (of_decide_eq_true (by kernel_rfl)) k0 bel lt0) (trodAll_cons_mk (shut_int Try.underlying3 w1) (trodAll_cons_mk (shut_int Try.underlying3 w2) (trodAll_cons_mk (shut_int Try.underlying3 w3) trodAll_mk0)))), rfl, bel.frame _, fun h => by cases h⟩
theorem over : Rows.netTimersRow.holds Try.pinned (OpenSpec.ofChange Rows.netTimersSpec) :=
  OpenClaim.holds_of_wide 6 Try.f6 rfl rfl rfl rfl rfl rfl rfl ⟨rfl, rfl, rfl, rfl, rfl⟩ rfl rfl rfl rfl rfl (by kernel_rfl) Try.func6 (by kernel_rfl)
    (of_decide_eq_true (by kernel_rfl)) (by unfold Func.isWrapper; first | (rw [if_pos (by decide +kernel)]; kernel_rfl) | (rw [if_neg (by decide +kernel)]; exact ⟨rfl, rfl⟩))
    (fun os started H enc _ => lifted os started H enc)
theorem proved : Rows.NetTimersSaid := over
end Go.Proofs.Ythlbmcfliejdiaa.netTimers
namespace Go.Proofs.Ythlbmcfliejdiaa
theorem netTimers_holds : Rows.NetTimersSaid := netTimers.proved
end Go.Proofs.Ythlbmcfliejdiaa
end
