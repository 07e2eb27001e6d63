/- The reference's Cut and Heal. (Printed by wip/gen_ref.py.). append at a step of a region that draws; what goes with it. The reference's has, the drawn regions that append, without. (Printed by wip/gen_refl.py.). The reference's without, Send, Deliver, Lose, Double, Delay. (Printed by wip/gen_refl2.py.). The reference's Send, Double, Delay. (Printed by wip/gen_refl3.py.). The law NetLetters: it returns true. (Printed by wip/gen_lawn.py.). The arguments of the laws, opened: lists with their capacity, what is seen. (Printed by wip/gen_open3.py.). The given row of NetLetters. (Printed by wip/gen_row.py.). -/
import Derived.Test.YthlbmcfliejdiaaGreatGk
import Derived.Test.YthlbmcfliejdiaaGreatGf
import Derived.Test.YthlbmcfliejdiaaGreatGj
import Derived.Deep.DeepCutAuto
import Derived.Deep.CutBlock
import Derived.Deep.RegionHeld3
import Derived.Deep.RegionLaw
import Derived.Test.YthlbmcfliejdiaaGreatRows
import Derived.WalkKit
import Derived.ProofKit
import Derived.OpenShut
import Derived.ShutString
import Derived.ChangeOld
import Derived.Below
import Derived.SizedLaws
import Derived.Carry
import Derived.ChangeMaps5
section
set_option linter.unusedVariables false
set_option linter.unusedSimpArgs false
namespace Go.Proofs.YthlbmcfliejdiaaGreat
open Go.RowKit

theorem Own.put14 {α : Type} [Enc α] {w : World} {B b : Nat} {e : TypeId} {v : Value} {xs : List α} (h : Own w B e v xs) (hb : b < B) {a0 a1 a2 a3 a4 a5 a6 a7 a8 a9 a10 a11 a12 a13 : Value} : Own (put14 w b a0 a1 a2 a3 a4 a5 a6 a7 a8 a9 a10 a11 a12 a13) B e v xs := by
  unfold Go.Proofs.YthlbmcfliejdiaaGreat.put14
  repeat (refine Own.far ?_ (by exact hb) _)
  exact h
theorem made_start {w w0 : World} {c : Array Value} (h : w0 = (w.alloc (.cells c 26)).alloc (.cells #[.int .i64 0, .int .i64 0, .int .i64 0, .slice none 0 0, .slice none 0 0, .slice none 0 0, .int .i64 0, .int .i64 0, .int .i64 0, .int .i64 0, .int .i64 0, .string ⟨#[]⟩, .slice none 0 0, .int .i64 0] 35)) :
    Below w.heap.size w w0 ∧ w0.heap[w.heap.size]? = some (.cells c 26 (0, 0)) ∧ w0.heap[w.heap.size + 1]? = some (.cells #[.int .i64 0, .int .i64 0, .int .i64 0, .slice none 0 0, .slice none 0 0, .slice none 0 0, .int .i64 0, .int .i64 0, .int .i64 0, .int .i64 0, .int .i64 0, .string ⟨#[]⟩, .slice none 0 0, .int .i64 0] 35 (0, 0)) ∧ w0.heap.size = w.heap.size + 2 := by
  subst h
  refine ⟨below_alloc (below_alloc (Below.refl _ _) _) _, bl_alloc (bl_new _ _) _, ?_, by simp⟩
  have h := bl_new (w.alloc (.cells c 26)) (.cells #[.int .i64 0, .int .i64 0, .int .i64 0, .slice none 0 0, .slice none 0 0, .slice none 0 0, .int .i64 0, .int .i64 0, .int .i64 0, .int .i64 0, .int .i64 0, .string ⟨#[]⟩, .slice none 0 0, .int .i64 0] 35)
  rw [show (w.alloc (.cells c 26)).heap.size = w.heap.size + 1 from (by simp)] at h
  exact h
set_option maxHeartbeats 4000000 in
set_option maxRecDepth 100000 in
theorem RCut_any (x : Nt) (a b : Int) (v : Value) (w : World) (hV : NetV w v x) (hlc : x.cuts.length ≤ 10000000) (hlw : x.way.length ≤ 10000000) (hlt : x.timers.length ≤ 10000000) :
    Calls Tryz.prog 89 #[v, .int .i64 a, .int .i64 b] w fun e w' => ∃ v, e = .returned v ∧ MadeV w' v (formR x (cutM x a b)) ∧ Below w.heap.size w w' := by
  obtain ⟨AW, cW, AC, cC, AT, cT, rfl, hW, hC, hT⟩ := hV
  obtain ⟨w0, hw0⟩ : ∃ w0, w0 = (w.alloc (.cells #[.int .i64 x.nodes, .int .i64 x.now, .int .i64 x.next, .slice AW x.way.length cW, .slice AC x.cuts.length cC, .slice AT x.timers.length cT] 26)).alloc (.cells #[.int .i64 0, .int .i64 0, .int .i64 0, .slice none 0 0, .slice none 0 0, .slice none 0 0, .int .i64 0, .int .i64 0, .int .i64 0, .int .i64 0, .int .i64 0, .string ⟨#[]⟩, .slice none 0 0, .int .i64 0] 35) := ⟨_, rfl⟩
  obtain ⟨hb0, hz0, hm0, hs0⟩ := made_start hw0
  have HV : Hid (∀ W, Below w0.heap.size w0 W → NetV W (.agg #[.int .i64 x.nodes, .int .i64 x.now, .int .i64 x.next, .slice AW x.way.length cW, .slice AC x.cuts.length cC, .slice AT x.timers.length cT]) x) := fun W hb => ⟨AW, cW, AC, cC, AT, cT, rfl, hW.below (below_trans hb0 hb), hC.below (below_trans hb0 hb), hT.below (below_trans hb0 hb)⟩
  have his := fun (v : Value) (w : World) (hV : NetV w v x) => RIs_any x v w hV hlc hlw hlt
  have HB0 := Lib.hid hb0
  have HZ0 := Lib.hid hz0
  have HM0 := Lib.hid hm0
  have HS0 := Lib.hid hs0
  have HW0 := Lib.hid hw0
  have HC := Lib.hid (hC.below hb0)
  have HT := Lib.hid (hT.below hb0)
  have HWW := Lib.hid hW
  have HTW := Lib.hid hT
  have HCW := Lib.hid hC
  clear hb0 hz0 hm0 hs0 hw0 hW hC hT
  cases hc : checkB x
  · rw [hc] at his
    have HIS := Lib.hid his
    have HN : Hid (formR x (cutM x a b) = errR 2) := if_pos hc
    clear his hc
    go_enter Tryz.func89, Tryz.ntmps89
    go_wp2_with fail
    rw [← HW0.out]
    clear HW0
    refine calls_below (HIS.out _ _ (HV.out _ (Below.refl _ _))) ?_
    intro w1 hb1
    have hz1 := bl_below HZ0.out hb1
    obtain ⟨⟨k0, k1, k2, k3, k4, k5⟩, -⟩ := blc6 hz1
    have hlz := bl_lt hz1
    go_wp2_with fail
    refine calls_below (Rfailed_any 2 _) ?_
    intro w9 hb9
    have hb9' := below_trans hb1 hb9
    have hm9 := bl_below HM0.out hb9'
    have hl9 := bl_lt hm9
    obtain ⟨⟨d0, d1, d2, d3, d4, d5, d6, d7, d8, d9, d10, d11, d12, d13⟩, fz⟩ := blc14 hm9
    go_wp2
    exact ret_c Tryz.results89 (w.heap.size + 1) 35 _ _ rfl (put14_all hm9) Tryz.underlying35 rfl sizeMade rfl ⟨_, rfl, by rw [HN.out]; exact MadeV_err _ 2, put14_below (below_trans HB0.out hb9') (by omega)⟩
  rw [hc] at his
  have HIS := Lib.hid his
  have HF : Hid (formR x (cutM x a b) = cutM x a b) := if_neg (by rw [hc]; decide)
  have HOK : Hid (Ok x) := (ok_iff x).1 hc
  clear his hc
  obtain ⟨bA, hA⟩ : ∃ b, isNodeB x.nodes a = b := ⟨_, rfl⟩
  obtain ⟨bB, hB⟩ : ∃ b', isNodeB x.nodes b = b' := ⟨_, rfl⟩
  obtain ⟨bE, hE⟩ : ∃ b', (a == b) = b' := ⟨_, rfl⟩
  have htw : twoB x.nodes a b = (bA && bB && !bE) := by unfold twoB; rw [hA, hB, ← hE]; congr 1; rw [Bool.eq_iff_iff]; simp
  have hnA : Hid (∀ w, Calls Tryz.prog 41 #[.agg #[.int .i64 x.nodes, .int .i64 x.now, .int .i64 x.next, .slice AW x.way.length cW, .slice AC x.cuts.length cC, .slice AT x.timers.length cT], .int .i64 a] w fun e w' => e = .returned (.bool bA) ∧ Below w.heap.size w w') := fun w => by have h := RisNode_any x.nodes x.now x.next a AW AC AT x.way.length cW x.cuts.length cC x.timers.length cT w; rwa [hA] at h
  have hnB : Hid (∀ w, Calls Tryz.prog 41 #[.agg #[.int .i64 x.nodes, .int .i64 x.now, .int .i64 x.next, .slice AW x.way.length cW, .slice AC x.cuts.length cC, .slice AT x.timers.length cT], .int .i64 b] w fun e w' => e = .returned (.bool bB) ∧ Below w.heap.size w w') := fun w => by have h := RisNode_any x.nodes x.now x.next b AW AC AT x.way.length cW x.cuts.length cC x.timers.length cT w; rwa [hB] at h
  have HTW := Lib.hid htw
  clear htw hA hB
  cases bA
  · have HN : Hid (formR x (cutM x a b) = errR 1) := HF.out.trans (if_pos (HTW.out.trans (by first | rfl | (cases bB <;> rfl))))
    clear hE
    go_enter Tryz.func89, Tryz.ntmps89
    go_wp2_with fail
    rw [← HW0.out]
    clear HW0
    refine calls_below (HIS.out _ _ (HV.out _ (Below.refl _ _))) ?_
    intro w1 hb1
    have hz1 := bl_below HZ0.out hb1
    obtain ⟨⟨k0, k1, k2, k3, k4, k5⟩, -⟩ := blc6 hz1
    have hlz := bl_lt hz1
    go_wp2_with fail
    refine calls_below (hnA.out _) ?_
    intro w2 hb2
    replace hb2 := below_trans hb1 hb2
    clear hz1 k0 k1 k2 k3 k4 k5 hlz
    have hz1 := bl_below HZ0.out hb2
    obtain ⟨⟨k0, k1, k2, k3, k4, k5⟩, -⟩ := blc6 hz1
    have hlz := bl_lt hz1
    go_wp2_with fail
    refine calls_below (Rfailed_any 1 _) ?_
    intro w9 hb9
    have hb9' := below_trans hb2 hb9
    have hm9 := bl_below HM0.out hb9'
    have hl9 := bl_lt hm9
    obtain ⟨⟨d0, d1, d2, d3, d4, d5, d6, d7, d8, d9, d10, d11, d12, d13⟩, fz⟩ := blc14 hm9
    go_wp2
    exact ret_c Tryz.results89 (w.heap.size + 1) 35 _ _ rfl (put14_all hm9) Tryz.underlying35 rfl sizeMade rfl ⟨_, rfl, by rw [HN.out]; exact MadeV_err _ 1, put14_below (below_trans HB0.out hb9') (by omega)⟩
  cases bB
  · have HN : Hid (formR x (cutM x a b) = errR 1) := HF.out.trans (if_pos (HTW.out.trans (by first | rfl | (cases bB <;> rfl))))
    clear hE
    go_enter Tryz.func89, Tryz.ntmps89
    go_wp2_with fail
    rw [← HW0.out]
    clear HW0
    refine calls_below (HIS.out _ _ (HV.out _ (Below.refl _ _))) ?_
    intro w1 hb1
    have hz1 := bl_below HZ0.out hb1
    obtain ⟨⟨k0, k1, k2, k3, k4, k5⟩, -⟩ := blc6 hz1
    have hlz := bl_lt hz1
    go_wp2_with fail
    refine calls_below (hnA.out _) ?_
    intro w2 hb2
    replace hb2 := below_trans hb1 hb2
    clear hz1 k0 k1 k2 k3 k4 k5 hlz
    have hz1 := bl_below HZ0.out hb2
    obtain ⟨⟨k0, k1, k2, k3, k4, k5⟩, -⟩ := blc6 hz1
    have hlz := bl_lt hz1
    go_wp2_with fail
    refine calls_below (hnB.out _) ?_
    intro w3 hb3
    replace hb3 := below_trans hb2 hb3
    clear hz1 k0 k1 k2 k3 k4 k5 hlz
    have hz1 := bl_below HZ0.out hb3
    obtain ⟨⟨k0, k1, k2, k3, k4, k5⟩, -⟩ := blc6 hz1
    have hlz := bl_lt hz1
    go_wp2_with fail
    refine calls_below (Rfailed_any 1 _) ?_
    intro w9 hb9
    have hb9' := below_trans hb3 hb9
    have hm9 := bl_below HM0.out hb9'
    have hl9 := bl_lt hm9
    obtain ⟨⟨d0, d1, d2, d3, d4, d5, d6, d7, d8, d9, d10, d11, d12, d13⟩, fz⟩ := blc14 hm9
    go_wp2
    exact ret_c Tryz.results89 (w.heap.size + 1) 35 _ _ rfl (put14_all hm9) Tryz.underlying35 rfl sizeMade rfl ⟨_, rfl, by rw [HN.out]; exact MadeV_err _ 1, put14_below (below_trans HB0.out hb9') (by omega)⟩
  cases bE
  rotate_left 1
  · have HN : Hid (formR x (cutM x a b) = errR 1) := HF.out.trans (if_pos (HTW.out.trans (by first | rfl | (cases bB <;> rfl))))
    go_enter Tryz.func89, Tryz.ntmps89
    go_wp2_with fail
    rw [← HW0.out]
    clear HW0
    refine calls_below (HIS.out _ _ (HV.out _ (Below.refl _ _))) ?_
    intro w1 hb1
    have hz1 := bl_below HZ0.out hb1
    obtain ⟨⟨k0, k1, k2, k3, k4, k5⟩, -⟩ := blc6 hz1
    have hlz := bl_lt hz1
    go_wp2_with fail
    refine calls_below (hnA.out _) ?_
    intro w2 hb2
    replace hb2 := below_trans hb1 hb2
    clear hz1 k0 k1 k2 k3 k4 k5 hlz
    have hz1 := bl_below HZ0.out hb2
    obtain ⟨⟨k0, k1, k2, k3, k4, k5⟩, -⟩ := blc6 hz1
    have hlz := bl_lt hz1
    go_wp2_with fail
    refine calls_below (hnB.out _) ?_
    intro w3 hb3
    replace hb3 := below_trans hb2 hb3
    clear hz1 k0 k1 k2 k3 k4 k5 hlz
    have hz1 := bl_below HZ0.out hb3
    obtain ⟨⟨k0, k1, k2, k3, k4, k5⟩, -⟩ := blc6 hz1
    have hlz := bl_lt hz1
    go_wp2_with fail
    refine calls_below (Rfailed_any 1 _) ?_
    intro w9 hb9
    have hb9' := below_trans hb3 hb9
    have hm9 := bl_below HM0.out hb9'
    have hl9 := bl_lt hm9
    obtain ⟨⟨d0, d1, d2, d3, d4, d5, d6, d7, d8, d9, d10, d11, d12, d13⟩, fz⟩ := blc14 hm9
    go_wp2
    exact ret_c Tryz.results89 (w.heap.size + 1) 35 _ _ rfl (put14_all hm9) Tryz.underlying35 rfl sizeMade rfl ⟨_, rfl, by rw [HN.out]; exact MadeV_err _ 1, put14_below (below_trans HB0.out hb9') (by omega)⟩
  have HTT : Hid (twoB x.nodes a b = true) := HTW.out.trans rfl
  clear HTW
  have hcut := fun (v : Value) (w : World) (hV : NetV w v x) => Rcut_any x a b v w hV hlc
  cases hcb : cutB x a b
  rotate_left 1
  · rw [hcb] at hcut
    have hCut := Lib.hid hcut
    have HN : Hid (formR x (cutM x a b) = errR 5) := HF.out.trans (by rw [cut_e HTT.out, if_pos (of_decide_eq_true hcb)])
    clear hcut hcb
    go_enter Tryz.func89, Tryz.ntmps89
    go_wp2_with fail
    rw [← HW0.out]
    clear HW0
    refine calls_below (HIS.out _ _ (HV.out _ (Below.refl _ _))) ?_
    intro w1 hb1
    have hz1 := bl_below HZ0.out hb1
    obtain ⟨⟨k0, k1, k2, k3, k4, k5⟩, -⟩ := blc6 hz1
    have hlz := bl_lt hz1
    go_wp2_with fail
    refine calls_below (hnA.out _) ?_
    intro w2 hb2
    replace hb2 := below_trans hb1 hb2
    clear hz1 k0 k1 k2 k3 k4 k5 hlz
    have hz1 := bl_below HZ0.out hb2
    obtain ⟨⟨k0, k1, k2, k3, k4, k5⟩, -⟩ := blc6 hz1
    have hlz := bl_lt hz1
    go_wp2_with fail
    refine calls_below (hnB.out _) ?_
    intro w3 hb3
    replace hb3 := below_trans hb2 hb3
    clear hz1 k0 k1 k2 k3 k4 k5 hlz
    have hz1 := bl_below HZ0.out hb3
    obtain ⟨⟨k0, k1, k2, k3, k4, k5⟩, -⟩ := blc6 hz1
    have hlz := bl_lt hz1
    go_wp2_with fail
    refine calls_below (hCut.out _ _ (HV.out _ hb3)) ?_
    intro w4 hb4
    replace hb4 := below_trans hb3 hb4
    clear hz1 k0 k1 k2 k3 k4 k5 hlz
    have hz1 := bl_below HZ0.out hb4
    obtain ⟨⟨k0, k1, k2, k3, k4, k5⟩, -⟩ := blc6 hz1
    have hlz := bl_lt hz1
    go_wp2_with fail
    refine calls_below (Rfailed_any 5 _) ?_
    intro w9 hb9
    have hb9' := below_trans hb4 hb9
    have hm9 := bl_below HM0.out hb9'
    have hl9 := bl_lt hm9
    obtain ⟨⟨d0, d1, d2, d3, d4, d5, d6, d7, d8, d9, d10, d11, d12, d13⟩, fz⟩ := blc14 hm9
    go_wp2
    exact ret_c Tryz.results89 (w.heap.size + 1) 35 _ _ rfl (put14_all hm9) Tryz.underlying35 rfl sizeMade rfl ⟨_, rfl, by rw [HN.out]; exact MadeV_err _ 5, put14_below (below_trans HB0.out hb9') (by omega)⟩
  rw [hcb] at hcut
  have hCut := Lib.hid hcut
  have HN : Hid (formR x (cutM x a b) = ⟨{ x with cuts := insS lkCmp (mkLk a b) x.cuts }, 0, zLt, [], 0⟩) := HF.out.trans (by rw [cut_e HTT.out, if_neg (of_decide_eq_false hcb)])
  obtain ⟨c, hc⟩ : ∃ c, c = mkLk a b := ⟨_, rfl⟩
  have hpair : Hid (∀ w, Calls Tryz.prog 110 #[.int .i64 a, .int .i64 b] w fun e w' => e = .returned (.agg #[.int .i64 c.a, .int .i64 c.b]) ∧ Below w.heap.size w w') := by rw [hc]; exact fun w => Rpair_any a b w
  rw [← hc] at HN
  clear hc hcut hcb
  go_enter Tryz.func89, Tryz.ntmps89
  go_wp2_with fail
  rw [← HW0.out]
  clear HW0
  refine calls_below (HIS.out _ _ (HV.out _ (Below.refl _ _))) ?_
  intro w1 hb1
  have hz1 := bl_below HZ0.out hb1
  obtain ⟨⟨k0, k1, k2, k3, k4, k5⟩, -⟩ := blc6 hz1
  have hlz := bl_lt hz1
  go_wp2_with fail
  refine calls_below (hnA.out _) ?_
  intro w2 hb2
  replace hb2 := below_trans hb1 hb2
  clear hz1 k0 k1 k2 k3 k4 k5 hlz
  have hz1 := bl_below HZ0.out hb2
  obtain ⟨⟨k0, k1, k2, k3, k4, k5⟩, -⟩ := blc6 hz1
  have hlz := bl_lt hz1
  go_wp2_with fail
  refine calls_below (hnB.out _) ?_
  intro w3 hb3
  replace hb3 := below_trans hb2 hb3
  clear hz1 k0 k1 k2 k3 k4 k5 hlz
  have hz1 := bl_below HZ0.out hb3
  obtain ⟨⟨k0, k1, k2, k3, k4, k5⟩, -⟩ := blc6 hz1
  have hlz := bl_lt hz1
  go_wp2_with fail
  refine calls_below (hCut.out _ _ (HV.out _ hb3)) ?_
  intro w4 hb4
  replace hb4 := below_trans hb3 hb4
  clear hz1 k0 k1 k2 k3 k4 k5 hlz
  have hz1 := bl_below HZ0.out hb4
  obtain ⟨⟨k0, k1, k2, k3, k4, k5⟩, -⟩ := blc6 hz1
  have hlz := bl_lt hz1
  go_wp2_with fail
  refine calls_below (hpair.out _) ?_
  intro w5 hb5
  replace hb5 := below_trans hb4 hb5
  go_wp2
  obtain ⟨w6, hw6⟩ : ∃ w6, w6 = w5.alloc (.cells #[.int .i64 c.a, .int .i64 c.b] 96) := ⟨_, rfl⟩
  have hb6 : Below w0.heap.size w0 w6 := by rw [hw6]; exact below_alloc hb5 _
  have hl6 : w6.heap[w5.heap.size]? = some (.cells #[.int .i64 c.a, .int .i64 c.b] 96 (0, 0)) := by rw [hw6]; exact bl_new _ _
  have HB6 := Lib.hid hb6
  have HL6 := Lib.hid hl6
  have HS6 := Lib.hid hb5.size
  rw [← hw6]
  clear hw6 hb6 hl6 hb1 hb2 hb3 hb4 hb5 hz1 k0 k1 k2 k3 k4 k5 hlz
  go_loopw [8, 9, 10] (fun u dn i wr => ∃ k : Nat, k ≤ x.cuts.length ∧ i = .int .i64 k ∧ dn = .bool (gtAny lkCmp c (x.cuts.take k)) ∧ Hid (Own wr w6.heap.size 96 u (outS lkCmp c (x.cuts.take k))) ∧ Hid (Below w6.heap.size w6 wr)) (fun _ _ i _ => x.cuts.length - (intOf i).toNat)
  case atStart => exact ⟨0, Nat.zero_le _, rfl, rfl, (Own.nil _ _ _ : Own w6 w6.heap.size 96 (.slice none 0 0) ([] : List Lk)), Below.refl _ _⟩
  case round =>
    obtain ⟨k, hk, rfl, rfl, hO, hB⟩ := hrel
    have hB0 := below_trans HB6.out hB.out
    have hz1 := bl_below HZ0.out hB0
    obtain ⟨⟨k0, k1, k2, k3, k4, k5⟩, -⟩ := blc6 hz1
    have hlz := bl_lt hz1
    have hl7 := bl_below HL6.out hB.out
    have c0 := bl_cell hl7 0
    have c1 := bl_cell hl7 1
    simp at c0 c1
    have hll := bl_lt hl7
    obtain ⟨dn, hdn⟩ : ∃ dn, gtAny lkCmp c (x.cuts.take k) = dn := ⟨_, rfl⟩
    have HDN := Lib.hid hdn
    rw [hdn]
    clear hdn hz1 hl7 hB0
    by_cases hlk : k < x.cuts.length
    · obtain ⟨bb, off, d, rfl, hx, e0, e1⟩ := (HC.out.below (below_trans HB6.out hB.out)).lk k hlk
      have hbt : bb < wr.heap.size := World.block_lt_of_cell? wr _ e0
      have hts := Lib.hid (take_snoc' hx)
      go_upto_region 14 with fail
      obtain ⟨w7, hw7⟩ : ∃ w7, w7 = wr.alloc (.cells #[.int .i64 d.a, .int .i64 d.b] 96) := ⟨_, rfl⟩
      have hb7 : Below wr.heap.size wr w7 := by rw [hw7]; exact below_alloc (Below.refl _ _) _
      have hO7 : Own w7 w6.heap.size 96 u8 (outS lkCmp c (x.cuts.take k)) := by rw [hw7]; exact hO.out.alloc _
      have hd7 : w7.heap[wr.heap.size]? = some (.cells #[.int .i64 d.a, .int .i64 d.b] 96 (0, 0)) := by rw [hw7]; exact bl_new _ _
      have hB7 : Below w6.heap.size w6 w7 := below_trans hB.out hb7
      have HO7 := Lib.hid hO7
      have HD7 := Lib.hid hd7
      have HB7 := Lib.hid hB7
      have HNE : Hid (∀ g, (u8 : Value).ownBlock = some g → g < wr.heap.size) := fun g h => (hO.out.lt g h).2
      have HLL : Hid ((outS lkCmp c (x.cuts.take k)).length ≤ k + 1) := by
        have h1 := outS_len lkCmp c (x.cuts.take k)
        have h2 : (x.cuts.take k).length ≤ k := List.length_take_le _ _
        show _ ≤ _
        omega
      rw [← hw7]
      have hB0 := below_trans HB6.out hB7
      clear hw7 hb7 hO7 hd7 hB hO hll c0 c1 k0 k1 k2 k3 k4 k5 hlz e0 e1 hbt
      have hl7 := bl_below HL6.out hB7
      have c0 := (bl_cell hl7 0).trans rfl
      have c1 := (bl_cell hl7 1).trans rfl
      have e0 := (bl_cell HD7.out 0).trans rfl
      have e1 := (bl_cell HD7.out 1).trans rfl
      have hll := bl_lt hl7
      have hle := bl_lt HD7.out
      have hz1 := bl_below HZ0.out hB0
      obtain ⟨⟨k0, k1, k2, k3, k4, k5⟩, -⟩ := blc6 hz1
      have hlz := bl_lt hz1
      clear hl7 hz1 hB0 hB7
      cases dn
      rotate_left 1
      · skip
        go_wp2_with (at_builtin; refine hid_stop ?_)
        change wpList _ _ _ _ _ (w7.alloc _)
        refine wpList_app _ w6.heap.size rfl (.tmp 82) (.tmp 84) 23 96 _ 16 rfl Tryz.underlying23 infoC rfl (by decide) (by decide) u8 (outS lkCmp c (x.cuts.take k)) [d] (some ⟨w7.heap.size, 0, none⟩) 1 rfl rfl (HO7.out.alloc _) ?hR ?hB ?hL ?_
        case hR => exact Rd.new w7 96 d #[.int .i64 d.a, .int .i64 d.b] rfl
        case hB => have h := HB7.out.size; simp; omega
        case hL => have h := HLL.out; simp; omega
        intro v1 w8 ho hg hat
        have hgq : w7.grownBy w8 (u8 : Value).ownBlock := grown_of_alloc hg
        have hF1 : Hid (Own w8 w6.heap.size 96 v1 (outS lkCmp c (x.cuts.take (k + 1)))) := by
          show Own _ _ _ _ _
          rw [hts.out, outS_yes lkCmp c d HDN.out]
          exact ho
        have hF2 : Hid (Below w6.heap.size w6 w8) := HB7.out.grown hgq HB7.out.size (fun k hk => (HO7.out.lt k hk).1)
        have hF3 : Hid (gtAny lkCmp c (x.cuts.take (k + 1)) = true) := by show _ = _; rw [hts.out, gtAny_snoc, HDN.out]; rfl
        clear ho hg hgq hat
        go_wp2
        go_roundw
        case rel => exact ⟨k + 1, by omega, by go_num, by rw [hF3.out], hF1.out, hF2.out⟩
        case measure => simp [intOf]; omega
      by_cases h1 : c.a < d.a
      · have d1 : decide (c.a < d.a) = true := decide_eq_true h1
        have hgt : Hid (lkCmp c d < 0) := by show _ < _; rw [lkCmp_lt]; omega
        clear h1
        go_wp2_with (at_builtin; refine hid_stop ?_)
        change wpList _ _ _ _ _ (w7.alloc _)
        refine wpList_app _ w6.heap.size rfl (.tmp 78) (.tmp 80) 23 96 _ 16 rfl Tryz.underlying23 infoC rfl (by decide) (by decide) u8 (outS lkCmp c (x.cuts.take k)) [c] (some ⟨w7.heap.size, 0, none⟩) 1 rfl rfl (HO7.out.alloc _) ?hR ?hB ?hL ?_
        case hR => exact Rd.new w7 96 c #[.int .i64 c.a, .int .i64 c.b] rfl
        case hB => have h := HB7.out.size; simp; omega
        case hL => have h := HLL.out; simp; omega
        intro v1 w8 ho hg hat
        have hgq : w7.grownBy w8 (u8 : Value).ownBlock := grown_of_alloc hg
        have HO8 := Lib.hid ho
        have HB8 : Hid (Below w6.heap.size w6 w8) := HB7.out.grown hgq HB7.out.size (fun k hk => (HO7.out.lt k hk).1)
        have hd8 := bl_grown HD7.out hgq (fun h => by have := HNE.out _ h.symm; omega)
        clear ho hg hgq hat c0 c1 e0 e1 hll hle k0 k1 k2 k3 k4 k5 hlz
        have e0 := (bl_cell hd8 0).trans rfl
        have e1 := (bl_cell hd8 1).trans rfl
        have hle := bl_lt hd8
        go_wp2_with (at_builtin; refine hid_stop ?_)
        change wpList _ _ _ _ _ (w8.alloc _)
        refine wpList_app _ w6.heap.size rfl (.tmp 82) (.tmp 84) 23 96 _ 16 rfl Tryz.underlying23 infoC rfl (by decide) (by decide) v1 (outS lkCmp c (x.cuts.take k) ++ [c]) [d] (some ⟨w8.heap.size, 0, none⟩) 1 rfl rfl (HO8.out.alloc _) ?hR ?hB ?hL ?_
        case hR => exact Rd.new w8 96 d #[.int .i64 d.a, .int .i64 d.b] rfl
        case hB => have h := HB8.out.size; simp; omega
        case hL => have h := HLL.out; simp; omega
        intro v2 w9 ho hg hat
        have hgq : w8.grownBy w9 (v1 : Value).ownBlock := grown_of_alloc hg
        have hF1 : Hid (Own w9 w6.heap.size 96 v2 (outS lkCmp c (x.cuts.take (k + 1)))) := by
          show Own _ _ _ _ _
          rw [hts.out, outS_first lkCmp c d HDN.out hgt.out]
          exact ho
        have hF2 : Hid (Below w6.heap.size w6 w9) := HB8.out.grown hgq HB8.out.size (fun k hk => (HO8.out.lt k hk).1)
        have hF3 : Hid (gtAny lkCmp c (x.cuts.take (k + 1)) = true) := by show _ = _; rw [hts.out, gtAny_snoc, HDN.out, decide_eq_true hgt.out]; rfl
        clear ho hg hgq hat
        go_wp2
        go_roundw
        case rel => exact ⟨k + 1, by omega, by go_num, by rw [hF3.out], hF1.out, hF2.out⟩
        case measure => simp [intOf]; omega
      · have d1 : decide (c.a < d.a) = false := decide_eq_false h1
        by_cases h2 : d.a = c.a
        · have d2 : (d.a == c.a) = true := beq_iff_eq.2 h2
          by_cases h3 : c.b < d.b
          · have d3 : decide (c.b < d.b) = true := decide_eq_true h3
            have hgt : Hid (lkCmp c d < 0) := by show _ < _; rw [lkCmp_lt]; omega
            clear h1 h2 h3
            go_wp2_with (at_builtin; refine hid_stop ?_)
            change wpList _ _ _ _ _ (w7.alloc _)
            refine wpList_app _ w6.heap.size rfl (.tmp 78) (.tmp 80) 23 96 _ 16 rfl Tryz.underlying23 infoC rfl (by decide) (by decide) u8 (outS lkCmp c (x.cuts.take k)) [c] (some ⟨w7.heap.size, 0, none⟩) 1 rfl rfl (HO7.out.alloc _) ?hR ?hB ?hL ?_
            case hR => exact Rd.new w7 96 c #[.int .i64 c.a, .int .i64 c.b] rfl
            case hB => have h := HB7.out.size; simp; omega
            case hL => have h := HLL.out; simp; omega
            intro v1 w8 ho hg hat
            have hgq : w7.grownBy w8 (u8 : Value).ownBlock := grown_of_alloc hg
            have HO8 := Lib.hid ho
            have HB8 : Hid (Below w6.heap.size w6 w8) := HB7.out.grown hgq HB7.out.size (fun k hk => (HO7.out.lt k hk).1)
            have hd8 := bl_grown HD7.out hgq (fun h => by have := HNE.out _ h.symm; omega)
            clear ho hg hgq hat c0 c1 e0 e1 hll hle k0 k1 k2 k3 k4 k5 hlz
            have e0 := (bl_cell hd8 0).trans rfl
            have e1 := (bl_cell hd8 1).trans rfl
            have hle := bl_lt hd8
            go_wp2_with (at_builtin; refine hid_stop ?_)
            change wpList _ _ _ _ _ (w8.alloc _)
            refine wpList_app _ w6.heap.size rfl (.tmp 82) (.tmp 84) 23 96 _ 16 rfl Tryz.underlying23 infoC rfl (by decide) (by decide) v1 (outS lkCmp c (x.cuts.take k) ++ [c]) [d] (some ⟨w8.heap.size, 0, none⟩) 1 rfl rfl (HO8.out.alloc _) ?hR ?hB ?hL ?_
            case hR => exact Rd.new w8 96 d #[.int .i64 d.a, .int .i64 d.b] rfl
            case hB => have h := HB8.out.size; simp; omega
            case hL => have h := HLL.out; simp; omega
            intro v2 w9 ho hg hat
            have hgq : w8.grownBy w9 (v1 : Value).ownBlock := grown_of_alloc hg
            have hF1 : Hid (Own w9 w6.heap.size 96 v2 (outS lkCmp c (x.cuts.take (k + 1)))) := by
              show Own _ _ _ _ _
              rw [hts.out, outS_first lkCmp c d HDN.out hgt.out]
              exact ho
            have hF2 : Hid (Below w6.heap.size w6 w9) := HB8.out.grown hgq HB8.out.size (fun k hk => (HO8.out.lt k hk).1)
            have hF3 : Hid (gtAny lkCmp c (x.cuts.take (k + 1)) = true) := by show _ = _; rw [hts.out, gtAny_snoc, HDN.out, decide_eq_true hgt.out]; rfl
            clear ho hg hgq hat
            go_wp2
            go_roundw
            case rel => exact ⟨k + 1, by omega, by go_num, by rw [hF3.out], hF1.out, hF2.out⟩
            case measure => simp [intOf]; omega
          · have d3 : decide (c.b < d.b) = false := decide_eq_false h3
            have hgt : Hid (¬ lkCmp c d < 0) := by show ¬ _; rw [lkCmp_lt]; omega
            clear h1 h2 h3
            go_wp2_with (at_builtin; refine hid_stop ?_)
            change wpList _ _ _ _ _ (w7.alloc _)
            refine wpList_app _ w6.heap.size rfl (.tmp 82) (.tmp 84) 23 96 _ 16 rfl Tryz.underlying23 infoC rfl (by decide) (by decide) u8 (outS lkCmp c (x.cuts.take k)) [d] (some ⟨w7.heap.size, 0, none⟩) 1 rfl rfl (HO7.out.alloc _) ?hR ?hB ?hL ?_
            case hR => exact Rd.new w7 96 d #[.int .i64 d.a, .int .i64 d.b] rfl
            case hB => have h := HB7.out.size; simp; omega
            case hL => have h := HLL.out; simp; omega
            intro v1 w8 ho hg hat
            have hgq : w7.grownBy w8 (u8 : Value).ownBlock := grown_of_alloc hg
            have hF1 : Hid (Own w8 w6.heap.size 96 v1 (outS lkCmp c (x.cuts.take (k + 1)))) := by
              show Own _ _ _ _ _
              rw [hts.out, outS_no lkCmp c d HDN.out (by have h := hgt.out; omega)]
              exact ho
            have hF2 : Hid (Below w6.heap.size w6 w8) := HB7.out.grown hgq HB7.out.size (fun k hk => (HO7.out.lt k hk).1)
            have hF3 : Hid (gtAny lkCmp c (x.cuts.take (k + 1)) = false) := by show _ = _; rw [hts.out, gtAny_snoc, HDN.out]; rw [decide_eq_false (by have h := hgt.out; omega)]; rfl
            clear ho hg hgq hat
            go_wp2
            go_roundw
            case rel => exact ⟨k + 1, by omega, by go_num, by rw [hF3.out], hF1.out, hF2.out⟩
            case measure => simp [intOf]; omega
        · have d2 : (d.a == c.a) = false := beq_eq_false_iff_ne.2 h2
          have hgt : Hid (¬ lkCmp c d < 0) := by show ¬ _; rw [lkCmp_lt]; omega
          clear h1 h2
          go_wp2_with (at_builtin; refine hid_stop ?_)
          change wpList _ _ _ _ _ (w7.alloc _)
          refine wpList_app _ w6.heap.size rfl (.tmp 82) (.tmp 84) 23 96 _ 16 rfl Tryz.underlying23 infoC rfl (by decide) (by decide) u8 (outS lkCmp c (x.cuts.take k)) [d] (some ⟨w7.heap.size, 0, none⟩) 1 rfl rfl (HO7.out.alloc _) ?hR ?hB ?hL ?_
          case hR => exact Rd.new w7 96 d #[.int .i64 d.a, .int .i64 d.b] rfl
          case hB => have h := HB7.out.size; simp; omega
          case hL => have h := HLL.out; simp; omega
          intro v1 w8 ho hg hat
          have hgq : w7.grownBy w8 (u8 : Value).ownBlock := grown_of_alloc hg
          have hF1 : Hid (Own w8 w6.heap.size 96 v1 (outS lkCmp c (x.cuts.take (k + 1)))) := by
            show Own _ _ _ _ _
            rw [hts.out, outS_no lkCmp c d HDN.out (by have h := hgt.out; omega)]
            exact ho
          have hF2 : Hid (Below w6.heap.size w6 w8) := HB7.out.grown hgq HB7.out.size (fun k hk => (HO7.out.lt k hk).1)
          have hF3 : Hid (gtAny lkCmp c (x.cuts.take (k + 1)) = false) := by show _ = _; rw [hts.out, gtAny_snoc, HDN.out]; rw [decide_eq_false (by have h := hgt.out; omega)]; rfl
          clear ho hg hgq hat
          go_wp2
          go_roundw
          case rel => exact ⟨k + 1, by omega, by go_num, by rw [hF3.out], hF1.out, hF2.out⟩
          case measure => simp [intOf]; omega
    · have hkl : k = x.cuts.length := by omega
      have HKL := Lib.hid hkl
      clear hkl
      have HDE : Hid (gtAny lkCmp c x.cuts = dn) := by show _ = _; rw [← HDN.out, HKL.out, List.take_length]
      have HOE : Hid (Own wr w6.heap.size 96 u8 (outS lkCmp c x.cuts)) := by
        have h := hO.out
        rw [HKL.out, List.take_length] at h
        exact h
      clear HDN HKL hO
      go_upto_region 18 with fail
      cases dn
      · go_wp2_with (at_builtin; refine hid_stop ?_)
        change wpList _ _ _ _ _ (wr.alloc _)
        refine wpList_app _ w6.heap.size rfl (.tmp 88) (.tmp 90) 23 96 _ 16 rfl Tryz.underlying23 infoC rfl (by decide) (by decide) u8 (outS lkCmp c x.cuts) [c] (some ⟨wr.heap.size, 0, none⟩) 1 rfl rfl (HOE.out.alloc _) ?hR ?hB ?hL ?_
        case hR => exact Rd.new wr 96 c #[.int .i64 c.a, .int .i64 c.b] rfl
        case hB => have h := hB.out.size; simp; omega
        case hL => have h := outS_len lkCmp c x.cuts; simp; omega
        intro v1 w8 ho hg hat
        have hgq : wr.grownBy w8 (u8 : Value).ownBlock := grown_of_alloc hg
        have hb8 : Below w6.heap.size w6 w8 := hB.out.grown hgq hB.out.size (fun k hk => (HOE.out.lt k hk).1)
        have hO8 : Own w8 w6.heap.size 96 v1 (insS lkCmp c x.cuts) := by rw [← outS_end_no lkCmp c HDE.out]; exact ho
        clear ho hg hgq hat k0 k1 k2 k3 k4 k5 hlz c0 c1 hll hB HOE
        have HB8 := Lib.hid hb8
        clear hb8
        obtain ⟨A9, c9, hu9, -, -⟩ := Own.slice (hO8)
        have HO9 := Lib.hid (hO8)
        subst hu9
        have hz9 := bl_below HZ0.out (below_trans HB6.out HB8.out)
        have hm9 := bl_below HM0.out (below_trans HB6.out HB8.out)
        have HB9 := Lib.hid (below_trans HB6.out HB8.out)
        obtain ⟨⟨k0, k1, k2, k3, k4, k5⟩, f0, f1, f2, f3, f4, f5⟩ := blc6 hz9
        obtain ⟨⟨d0, d1, d2, d3, d4, d5, d6, d7, d8, d9, d10, d11, d12, d13⟩, fz⟩ := blc14 hm9
        have hlz := bl_lt hz9
        have hlm := bl_lt hm9
        clear hz9
        go_wp2
        have hfar := bl_far hm9 (p := ⟨w.heap.size, 4, none⟩) (by simp) (.slice A9 (insS lkCmp c x.cuts).length c9)
        have hbl : Below w.heap.size w (w8.setCell ⟨w.heap.size, 4, none⟩ (.slice A9 (insS lkCmp c x.cuts).length c9)) := (below_trans HB0.out HB9.out).setCell (Nat.le_refl _) _
        have hq9 := HS0.out
        have hq8 := HB6.out.size
        exact ret_c Tryz.results89 (w.heap.size + 1) 35 _ _ rfl (put14_all hfar) Tryz.underlying35 rfl sizeMade rfl ⟨_, rfl, by
          rw [HN.out]
          exact ⟨AW, cW, A9, c9, AT, cT, none, 0, rfl, ⟨AW, cW, A9, c9, AT, cT, rfl, HWW.out.below (put14_below hbl (by omega)), Own.rd ((HO9.out.far (by show w.heap.size < w6.heap.size; omega) _).put14 (by omega)), HTW.out.below (put14_below hbl (by omega))⟩, Rd.nil _ _⟩, put14_below hbl (by omega)⟩
      · have hO8 : Own wr w6.heap.size 96 u8 (insS lkCmp c x.cuts) := by rw [← outS_end_yes lkCmp c HDE.out]; exact HOE.out
        clear k0 k1 k2 k3 k4 k5 hlz c0 c1 hll HOE
        obtain ⟨A9, c9, hu9, -, -⟩ := Own.slice (hO8)
        have HO9 := Lib.hid (hO8)
        subst hu9
        have hz9 := bl_below HZ0.out (below_trans HB6.out hB.out)
        have hm9 := bl_below HM0.out (below_trans HB6.out hB.out)
        have HB9 := Lib.hid (below_trans HB6.out hB.out)
        obtain ⟨⟨k0, k1, k2, k3, k4, k5⟩, f0, f1, f2, f3, f4, f5⟩ := blc6 hz9
        obtain ⟨⟨d0, d1, d2, d3, d4, d5, d6, d7, d8, d9, d10, d11, d12, d13⟩, fz⟩ := blc14 hm9
        have hlz := bl_lt hz9
        have hlm := bl_lt hm9
        clear hz9
        go_wp2
        have hfar := bl_far hm9 (p := ⟨w.heap.size, 4, none⟩) (by simp) (.slice A9 (insS lkCmp c x.cuts).length c9)
        have hbl : Below w.heap.size w (wr.setCell ⟨w.heap.size, 4, none⟩ (.slice A9 (insS lkCmp c x.cuts).length c9)) := (below_trans HB0.out HB9.out).setCell (Nat.le_refl _) _
        have hq9 := HS0.out
        have hq8 := HB6.out.size
        exact ret_c Tryz.results89 (w.heap.size + 1) 35 _ _ rfl (put14_all hfar) Tryz.underlying35 rfl sizeMade rfl ⟨_, rfl, by
          rw [HN.out]
          exact ⟨AW, cW, A9, c9, AT, cT, none, 0, rfl, ⟨AW, cW, A9, c9, AT, cT, rfl, HWW.out.below (put14_below hbl (by omega)), Own.rd ((HO9.out.far (by show w.heap.size < w6.heap.size; omega) _).put14 (by omega)), HTW.out.below (put14_below hbl (by omega))⟩, Rd.nil _ _⟩, put14_below hbl (by omega)⟩
attribute [local go_sem high] eqATm eqALt eqAAc eqALk
set_option maxHeartbeats 4000000 in
set_option maxRecDepth 100000 in
theorem RHeal_any (x : Nt) (a b : Int) (v : Value) (w : World) (hV : NetV w v x) (hlc : x.cuts.length ≤ 10000000) (hlw : x.way.length ≤ 10000000) (hlt : x.timers.length ≤ 10000000) :
    Calls Tryz.prog 90 #[v, .int .i64 a, .int .i64 b] w fun e w' => ∃ v, e = .returned v ∧ MadeV w' v (formR x (healM x a b)) ∧ Below w.heap.size w w' := by
  obtain ⟨AW, cW, AC, cC, AT, cT, rfl, hW, hC, hT⟩ := hV
  obtain ⟨w0, hw0⟩ : ∃ w0, w0 = (w.alloc (.cells #[.int .i64 x.nodes, .int .i64 x.now, .int .i64 x.next, .slice AW x.way.length cW, .slice AC x.cuts.length cC, .slice AT x.timers.length cT] 26)).alloc (.cells #[.int .i64 0, .int .i64 0, .int .i64 0, .slice none 0 0, .slice none 0 0, .slice none 0 0, .int .i64 0, .int .i64 0, .int .i64 0, .int .i64 0, .int .i64 0, .string ⟨#[]⟩, .slice none 0 0, .int .i64 0] 35) := ⟨_, rfl⟩
  obtain ⟨hb0, hz0, hm0, hs0⟩ := made_start hw0
  have HV : Hid (∀ W, Below w0.heap.size w0 W → NetV W (.agg #[.int .i64 x.nodes, .int .i64 x.now, .int .i64 x.next, .slice AW x.way.length cW, .slice AC x.cuts.length cC, .slice AT x.timers.length cT]) x) := fun W hb => ⟨AW, cW, AC, cC, AT, cT, rfl, hW.below (below_trans hb0 hb), hC.below (below_trans hb0 hb), hT.below (below_trans hb0 hb)⟩
  have his := fun (v : Value) (w : World) (hV : NetV w v x) => RIs_any x v w hV hlc hlw hlt
  have HB0 := Lib.hid hb0
  have HZ0 := Lib.hid hz0
  have HM0 := Lib.hid hm0
  have HS0 := Lib.hid hs0
  have HW0 := Lib.hid hw0
  have HC := Lib.hid (hC.below hb0)
  have HT := Lib.hid (hT.below hb0)
  have HWW := Lib.hid hW
  have HTW := Lib.hid hT
  have HCW := Lib.hid hC
  clear hb0 hz0 hm0 hs0 hw0 hW hC hT
  cases hc : checkB x
  · rw [hc] at his
    have HIS := Lib.hid his
    have HN : Hid (formR x (healM x a b) = errR 2) := if_pos hc
    clear his hc
    go_enter Tryz.func90, Tryz.ntmps90
    go_wp2_with fail
    rw [← HW0.out]
    clear HW0
    refine calls_below (HIS.out _ _ (HV.out _ (Below.refl _ _))) ?_
    intro w1 hb1
    have hz1 := bl_below HZ0.out hb1
    obtain ⟨⟨k0, k1, k2, k3, k4, k5⟩, -⟩ := blc6 hz1
    have hlz := bl_lt hz1
    go_wp2_with fail
    refine calls_below (Rfailed_any 2 _) ?_
    intro w9 hb9
    have hb9' := below_trans hb1 hb9
    have hm9 := bl_below HM0.out hb9'
    have hl9 := bl_lt hm9
    obtain ⟨⟨d0, d1, d2, d3, d4, d5, d6, d7, d8, d9, d10, d11, d12, d13⟩, fz⟩ := blc14 hm9
    go_wp2
    exact ret_c Tryz.results90 (w.heap.size + 1) 35 _ _ rfl (put14_all hm9) Tryz.underlying35 rfl sizeMade rfl ⟨_, rfl, by rw [HN.out]; exact MadeV_err _ 2, put14_below (below_trans HB0.out hb9') (by omega)⟩
  rw [hc] at his
  have HIS := Lib.hid his
  have HF : Hid (formR x (healM x a b) = healM x a b) := if_neg (by rw [hc]; decide)
  have HOK : Hid (Ok x) := (ok_iff x).1 hc
  clear his hc
  obtain ⟨bA, hA⟩ : ∃ b, isNodeB x.nodes a = b := ⟨_, rfl⟩
  obtain ⟨bB, hB⟩ : ∃ b', isNodeB x.nodes b = b' := ⟨_, rfl⟩
  obtain ⟨bE, hE⟩ : ∃ b', (a == b) = b' := ⟨_, rfl⟩
  have htw : twoB x.nodes a b = (bA && bB && !bE) := by unfold twoB; rw [hA, hB, ← hE]; congr 1; rw [Bool.eq_iff_iff]; simp
  have hnA : Hid (∀ w, Calls Tryz.prog 41 #[.agg #[.int .i64 x.nodes, .int .i64 x.now, .int .i64 x.next, .slice AW x.way.length cW, .slice AC x.cuts.length cC, .slice AT x.timers.length cT], .int .i64 a] w fun e w' => e = .returned (.bool bA) ∧ Below w.heap.size w w') := fun w => by have h := RisNode_any x.nodes x.now x.next a AW AC AT x.way.length cW x.cuts.length cC x.timers.length cT w; rwa [hA] at h
  have hnB : Hid (∀ w, Calls Tryz.prog 41 #[.agg #[.int .i64 x.nodes, .int .i64 x.now, .int .i64 x.next, .slice AW x.way.length cW, .slice AC x.cuts.length cC, .slice AT x.timers.length cT], .int .i64 b] w fun e w' => e = .returned (.bool bB) ∧ Below w.heap.size w w') := fun w => by have h := RisNode_any x.nodes x.now x.next b AW AC AT x.way.length cW x.cuts.length cC x.timers.length cT w; rwa [hB] at h
  have HTW := Lib.hid htw
  clear htw hA hB
  cases bA
  · have HN : Hid (formR x (healM x a b) = errR 1) := HF.out.trans (if_pos (HTW.out.trans (by first | rfl | (cases bB <;> rfl))))
    clear hE
    go_enter Tryz.func90, Tryz.ntmps90
    go_wp2_with fail
    rw [← HW0.out]
    clear HW0
    refine calls_below (HIS.out _ _ (HV.out _ (Below.refl _ _))) ?_
    intro w1 hb1
    have hz1 := bl_below HZ0.out hb1
    obtain ⟨⟨k0, k1, k2, k3, k4, k5⟩, -⟩ := blc6 hz1
    have hlz := bl_lt hz1
    go_wp2_with fail
    refine calls_below (hnA.out _) ?_
    intro w2 hb2
    replace hb2 := below_trans hb1 hb2
    clear hz1 k0 k1 k2 k3 k4 k5 hlz
    have hz1 := bl_below HZ0.out hb2
    obtain ⟨⟨k0, k1, k2, k3, k4, k5⟩, -⟩ := blc6 hz1
    have hlz := bl_lt hz1
    go_wp2_with fail
    refine calls_below (Rfailed_any 1 _) ?_
    intro w9 hb9
    have hb9' := below_trans hb2 hb9
    have hm9 := bl_below HM0.out hb9'
    have hl9 := bl_lt hm9
    obtain ⟨⟨d0, d1, d2, d3, d4, d5, d6, d7, d8, d9, d10, d11, d12, d13⟩, fz⟩ := blc14 hm9
    go_wp2
    exact ret_c Tryz.results90 (w.heap.size + 1) 35 _ _ rfl (put14_all hm9) Tryz.underlying35 rfl sizeMade rfl ⟨_, rfl, by rw [HN.out]; exact MadeV_err _ 1, put14_below (below_trans HB0.out hb9') (by omega)⟩
  cases bB
  · have HN : Hid (formR x (healM x a b) = errR 1) := HF.out.trans (if_pos (HTW.out.trans (by first | rfl | (cases bB <;> rfl))))
    clear hE
    go_enter Tryz.func90, Tryz.ntmps90
    go_wp2_with fail
    rw [← HW0.out]
    clear HW0
    refine calls_below (HIS.out _ _ (HV.out _ (Below.refl _ _))) ?_
    intro w1 hb1
    have hz1 := bl_below HZ0.out hb1
    obtain ⟨⟨k0, k1, k2, k3, k4, k5⟩, -⟩ := blc6 hz1
    have hlz := bl_lt hz1
    go_wp2_with fail
    refine calls_below (hnA.out _) ?_
    intro w2 hb2
    replace hb2 := below_trans hb1 hb2
    clear hz1 k0 k1 k2 k3 k4 k5 hlz
    have hz1 := bl_below HZ0.out hb2
    obtain ⟨⟨k0, k1, k2, k3, k4, k5⟩, -⟩ := blc6 hz1
    have hlz := bl_lt hz1
    go_wp2_with fail
    refine calls_below (hnB.out _) ?_
    intro w3 hb3
    replace hb3 := below_trans hb2 hb3
    clear hz1 k0 k1 k2 k3 k4 k5 hlz
    have hz1 := bl_below HZ0.out hb3
    obtain ⟨⟨k0, k1, k2, k3, k4, k5⟩, -⟩ := blc6 hz1
    have hlz := bl_lt hz1
    go_wp2_with fail
    refine calls_below (Rfailed_any 1 _) ?_
    intro w9 hb9
    have hb9' := below_trans hb3 hb9
    have hm9 := bl_below HM0.out hb9'
    have hl9 := bl_lt hm9
    obtain ⟨⟨d0, d1, d2, d3, d4, d5, d6, d7, d8, d9, d10, d11, d12, d13⟩, fz⟩ := blc14 hm9
    go_wp2
    exact ret_c Tryz.results90 (w.heap.size + 1) 35 _ _ rfl (put14_all hm9) Tryz.underlying35 rfl sizeMade rfl ⟨_, rfl, by rw [HN.out]; exact MadeV_err _ 1, put14_below (below_trans HB0.out hb9') (by omega)⟩
  cases bE
  rotate_left 1
  · have HN : Hid (formR x (healM x a b) = errR 1) := HF.out.trans (if_pos (HTW.out.trans (by first | rfl | (cases bB <;> rfl))))
    go_enter Tryz.func90, Tryz.ntmps90
    go_wp2_with fail
    rw [← HW0.out]
    clear HW0
    refine calls_below (HIS.out _ _ (HV.out _ (Below.refl _ _))) ?_
    intro w1 hb1
    have hz1 := bl_below HZ0.out hb1
    obtain ⟨⟨k0, k1, k2, k3, k4, k5⟩, -⟩ := blc6 hz1
    have hlz := bl_lt hz1
    go_wp2_with fail
    refine calls_below (hnA.out _) ?_
    intro w2 hb2
    replace hb2 := below_trans hb1 hb2
    clear hz1 k0 k1 k2 k3 k4 k5 hlz
    have hz1 := bl_below HZ0.out hb2
    obtain ⟨⟨k0, k1, k2, k3, k4, k5⟩, -⟩ := blc6 hz1
    have hlz := bl_lt hz1
    go_wp2_with fail
    refine calls_below (hnB.out _) ?_
    intro w3 hb3
    replace hb3 := below_trans hb2 hb3
    clear hz1 k0 k1 k2 k3 k4 k5 hlz
    have hz1 := bl_below HZ0.out hb3
    obtain ⟨⟨k0, k1, k2, k3, k4, k5⟩, -⟩ := blc6 hz1
    have hlz := bl_lt hz1
    go_wp2_with fail
    refine calls_below (Rfailed_any 1 _) ?_
    intro w9 hb9
    have hb9' := below_trans hb3 hb9
    have hm9 := bl_below HM0.out hb9'
    have hl9 := bl_lt hm9
    obtain ⟨⟨d0, d1, d2, d3, d4, d5, d6, d7, d8, d9, d10, d11, d12, d13⟩, fz⟩ := blc14 hm9
    go_wp2
    exact ret_c Tryz.results90 (w.heap.size + 1) 35 _ _ rfl (put14_all hm9) Tryz.underlying35 rfl sizeMade rfl ⟨_, rfl, by rw [HN.out]; exact MadeV_err _ 1, put14_below (below_trans HB0.out hb9') (by omega)⟩
  have HTT : Hid (twoB x.nodes a b = true) := HTW.out.trans rfl
  clear HTW
  have hcut := fun (v : Value) (w : World) (hV : NetV w v x) => Rcut_any x a b v w hV hlc
  cases hcb : cutB x a b
  · rw [hcb] at hcut
    have hCut := Lib.hid hcut
    have HN : Hid (formR x (healM x a b) = errR 4) := HF.out.trans (by rw [heal_e HTT.out, if_neg (of_decide_eq_false hcb)])
    clear hcut hcb
    go_enter Tryz.func90, Tryz.ntmps90
    go_wp2_with fail
    rw [← HW0.out]
    clear HW0
    refine calls_below (HIS.out _ _ (HV.out _ (Below.refl _ _))) ?_
    intro w1 hb1
    have hz1 := bl_below HZ0.out hb1
    obtain ⟨⟨k0, k1, k2, k3, k4, k5⟩, -⟩ := blc6 hz1
    have hlz := bl_lt hz1
    go_wp2_with fail
    refine calls_below (hnA.out _) ?_
    intro w2 hb2
    replace hb2 := below_trans hb1 hb2
    clear hz1 k0 k1 k2 k3 k4 k5 hlz
    have hz1 := bl_below HZ0.out hb2
    obtain ⟨⟨k0, k1, k2, k3, k4, k5⟩, -⟩ := blc6 hz1
    have hlz := bl_lt hz1
    go_wp2_with fail
    refine calls_below (hnB.out _) ?_
    intro w3 hb3
    replace hb3 := below_trans hb2 hb3
    clear hz1 k0 k1 k2 k3 k4 k5 hlz
    have hz1 := bl_below HZ0.out hb3
    obtain ⟨⟨k0, k1, k2, k3, k4, k5⟩, -⟩ := blc6 hz1
    have hlz := bl_lt hz1
    go_wp2_with fail
    refine calls_below (hCut.out _ _ (HV.out _ hb3)) ?_
    intro w4 hb4
    replace hb4 := below_trans hb3 hb4
    clear hz1 k0 k1 k2 k3 k4 k5 hlz
    have hz1 := bl_below HZ0.out hb4
    obtain ⟨⟨k0, k1, k2, k3, k4, k5⟩, -⟩ := blc6 hz1
    have hlz := bl_lt hz1
    go_wp2_with fail
    refine calls_below (Rfailed_any 4 _) ?_
    intro w9 hb9
    have hb9' := below_trans hb4 hb9
    have hm9 := bl_below HM0.out hb9'
    have hl9 := bl_lt hm9
    obtain ⟨⟨d0, d1, d2, d3, d4, d5, d6, d7, d8, d9, d10, d11, d12, d13⟩, fz⟩ := blc14 hm9
    go_wp2
    exact ret_c Tryz.results90 (w.heap.size + 1) 35 _ _ rfl (put14_all hm9) Tryz.underlying35 rfl sizeMade rfl ⟨_, rfl, by rw [HN.out]; exact MadeV_err _ 4, put14_below (below_trans HB0.out hb9') (by omega)⟩
  rw [hcb] at hcut
  have hCut := Lib.hid hcut
  have HN : Hid (formR x (healM x a b) = ⟨{ x with cuts := x.cuts.filter (fun d => decide (d ≠ mkLk a b)) }, 0, zLt, [], 0⟩) := HF.out.trans (by rw [heal_e HTT.out, if_pos (of_decide_eq_true hcb)])
  obtain ⟨c, hc⟩ : ∃ c, c = mkLk a b := ⟨_, rfl⟩
  have hpair : Hid (∀ w, Calls Tryz.prog 110 #[.int .i64 a, .int .i64 b] w fun e w' => e = .returned (.agg #[.int .i64 c.a, .int .i64 c.b]) ∧ Below w.heap.size w w') := by rw [hc]; exact fun w => Rpair_any a b w
  rw [← hc] at HN
  clear hc hcut hcb
  go_enter Tryz.func90, Tryz.ntmps90
  go_wp2_with fail
  rw [← HW0.out]
  clear HW0
  refine calls_below (HIS.out _ _ (HV.out _ (Below.refl _ _))) ?_
  intro w1 hb1
  have hz1 := bl_below HZ0.out hb1
  obtain ⟨⟨k0, k1, k2, k3, k4, k5⟩, -⟩ := blc6 hz1
  have hlz := bl_lt hz1
  go_wp2_with fail
  refine calls_below (hnA.out _) ?_
  intro w2 hb2
  replace hb2 := below_trans hb1 hb2
  clear hz1 k0 k1 k2 k3 k4 k5 hlz
  have hz1 := bl_below HZ0.out hb2
  obtain ⟨⟨k0, k1, k2, k3, k4, k5⟩, -⟩ := blc6 hz1
  have hlz := bl_lt hz1
  go_wp2_with fail
  refine calls_below (hnB.out _) ?_
  intro w3 hb3
  replace hb3 := below_trans hb2 hb3
  clear hz1 k0 k1 k2 k3 k4 k5 hlz
  have hz1 := bl_below HZ0.out hb3
  obtain ⟨⟨k0, k1, k2, k3, k4, k5⟩, -⟩ := blc6 hz1
  have hlz := bl_lt hz1
  go_wp2_with fail
  refine calls_below (hCut.out _ _ (HV.out _ hb3)) ?_
  intro w4 hb4
  replace hb4 := below_trans hb3 hb4
  clear hz1 k0 k1 k2 k3 k4 k5 hlz
  have hz1 := bl_below HZ0.out hb4
  obtain ⟨⟨k0, k1, k2, k3, k4, k5⟩, -⟩ := blc6 hz1
  have hlz := bl_lt hz1
  obtain ⟨w6, hw6⟩ : ∃ w6, w6 = w4 := ⟨_, rfl⟩
  have HB6 : Hid (Below w0.heap.size w0 w6) := by rw [hw6]; exact hb4
  clear hz1 k0 k1 k2 k3 k4 k5 hlz hb1 hb2 hb3
  go_upto_block 1 with fail
  rw [← hw6]
  clear hw6 hb4
  go_wp2
  go_loopw [7, 8] (fun u i wr => ∃ k : Nat, k ≤ x.cuts.length ∧ i = .int .i64 k ∧ Hid (Own wr w6.heap.size 96 u ((x.cuts.take k).filter (fun d => decide (d ≠ c)))) ∧ Hid (Below w6.heap.size w6 wr)) (fun _ i _ => x.cuts.length - (intOf i).toNat)
  case atStart => exact ⟨0, Nat.zero_le _, rfl, (Own.nil _ _ _ : Own w6 w6.heap.size 96 (.slice none 0 0) ([] : List Lk)), Below.refl _ _⟩
  case round =>
    obtain ⟨k, hk, rfl, hO, hB⟩ := hrel
    have hB0 := below_trans HB6.out hB.out
    have hz1 := bl_below HZ0.out hB0
    obtain ⟨⟨k0, k1, k2, k3, k4, k5⟩, -⟩ := blc6 hz1
    have hlz := bl_lt hz1
    clear hz1 hB0
    by_cases hlk : k < x.cuts.length
    · obtain ⟨bb, off, d, rfl, hx, e0, e1⟩ := (HC.out.below (below_trans HB6.out hB.out)).lk k hlk
      have hbt : bb < wr.heap.size := World.block_lt_of_cell? wr _ e0
      have hts := Lib.hid (take_snoc' hx)
      have hq := lk_eq d c
      by_cases hcl : d = c
      all_goals
        first | rw [decide_eq_true hcl] at hq | rw [decide_eq_false hcl] at hq
        have HCL := Lib.hid hcl
        clear hcl
        go_wp2
        refine wp_mixT [(0, true), (1, true), (2, true), (3, true), (4, true), (5, true), (6, true), (7, false)] 8
          (fun w' => Below wr.heap.size wr w')
          (by kernel_rfl) (by kernel_rfl) (by kernel_rfl) (by kernel_rfl) (by kernel_rfl) (fun d _ _ _ _ h => by cases d <;> exact h) (Below.refl _ _).drew ?_
        simp only [pick, List.map_cons, List.map_nil, List.getD_cons_zero, List.getD_cons_succ, List.drop_succ_cons, List.drop_zero]
        iterate 7
          apply mix_take
          case hw => rfl
          case hy => intro W hW; obtain ⟨hwc, -⟩ := bcell hW; go_simp; try rfl
          simp only [Act.put, List.setIfInBounds_toArray, List.set_cons_zero, List.set_cons_succ]
        refine mix_do fun K' hK' => ?_
        go_wp2_with fail
        refine calls_below (hpair.out _) ?_
        intro w2 hb2
        have hb2' : Below wr.heap.size wr w2 := below_trans (Below.refl _ wr).drew hb2
        go_wp2
        refine hK' _ _ hb2' (mix_nil ?_)
        clear hK' K'
        have hB2 : Below w6.heap.size w6 w2 := below_trans hB.out hb2'
        have HO2 : Hid (Own w2 w6.heap.size 96 u7 ((x.cuts.take k).filter (fun d => decide (d ≠ c)))) := hO.out.below hb2'
        have HB2 := Lib.hid hB2
        clear k0 k1 k2 k3 k4 k5 hlz
        have hz1 := bl_below HZ0.out (below_trans HB6.out hB2)
        obtain ⟨⟨k0, k1, k2, k3, k4, k5⟩, -⟩ := blc6 hz1
        have hlz := bl_lt hz1
        have e0' := cell_below hb2' e0
        have e1' := cell_below hb2' e1
        have hbt2 : bb < w2.heap.size := World.block_lt_of_cell? w2 _ e0'
        clear hz1 hB2 hB hO hb2 hb2' e0 e1 hbt
      · have hlc : Hid ((x.cuts.take (k + 1)).filter (fun d => decide (d ≠ c)) = (x.cuts.take k).filter (fun d => decide (d ≠ c))) := by
          show _ = _
          rw [hts.out, List.filter_append]
          simp [HCL.out]
        go_wp2
        go_roundw
        case rel => exact ⟨k + 1, by omega, by go_num, by show Own _ _ _ _ _; rw [hlc.out]; exact HO2.out, HB2.out⟩
        case measure => simp [intOf]; omega
      · have hlc : Hid ((x.cuts.take (k + 1)).filter (fun d => decide (d ≠ c)) = (x.cuts.take k).filter (fun d => decide (d ≠ c)) ++ [d]) := by
          show _ = _
          rw [hts.out, List.filter_append]
          simp [HCL.out]
        go_upto_region 12 with fail
        go_wp2_with (at_builtin; refine hid_stop ?_)
        change wpList _ _ _ _ _ (w2.alloc _)
        refine wpList_app _ w6.heap.size rfl (.tmp 54) (.tmp 60) 23 96 _ 16 rfl Tryz.underlying23 infoC rfl (by decide) (by decide) u7 ((x.cuts.take k).filter (fun d => decide (d ≠ c))) [d] (some ⟨w2.heap.size, 0, none⟩) 1 rfl rfl (HO2.out.alloc _) ?hR ?hB ?hL ?_
        case hR => exact Rd.new w2 96 d #[.int .i64 d.a, .int .i64 d.b] rfl
        case hB => have h := HB2.out.size; simp; omega
        case hL =>
          have h1 : ((x.cuts.take k).filter (fun d => decide (d ≠ c))).length ≤ k := Nat.le_trans (List.length_filter_le _ _) (List.length_take_le _ _)
          simp at h1 ⊢
          omega
        intro v1 w8 ho hg hat
        have hgq : w2.grownBy w8 (u7 : Value).ownBlock := grown_of_alloc hg
        have hF1 : Hid (Own w8 w6.heap.size 96 v1 ((x.cuts.take (k + 1)).filter (fun d => decide (d ≠ c)))) := by
          show Own _ _ _ _ _
          rw [hlc.out]
          exact ho
        have hF2 : Hid (Below w6.heap.size w6 w8) := HB2.out.grown hgq HB2.out.size (fun k hk => (HO2.out.lt k hk).1)
        clear ho hg hgq hat
        go_wp2
        go_roundw
        case rel => exact ⟨k + 1, by omega, by go_num, hF1.out, hF2.out⟩
        case measure => simp [intOf]; omega
    · have hkl : k = x.cuts.length := by omega
      have HKL := Lib.hid hkl
      clear hkl
      have hO8 : Own wr w6.heap.size 96 u7 (x.cuts.filter (fun d => decide (d ≠ c))) := by
        have h := hO.out
        rw [HKL.out, List.take_length] at h
        exact h
      clear HKL hO k0 k1 k2 k3 k4 k5 hlz
      obtain ⟨A9, c9, hu9, -, -⟩ := Own.slice hO8
      have HO9 := Lib.hid hO8
      subst hu9
      have hz9 := bl_below HZ0.out (below_trans HB6.out hB.out)
      have hm9 := bl_below HM0.out (below_trans HB6.out hB.out)
      have HB9 := Lib.hid (below_trans HB6.out hB.out)
      obtain ⟨⟨k0, k1, k2, k3, k4, k5⟩, f0, f1, f2, f3, f4, f5⟩ := blc6 hz9
      obtain ⟨⟨d0, d1, d2, d3, d4, d5, d6, d7, d8, d9, d10, d11, d12, d13⟩, fz⟩ := blc14 hm9
      have hlz := bl_lt hz9
      have hlm := bl_lt hm9
      clear hz9
      obtain ⟨xs, hxs⟩ : ∃ xs, xs = x.cuts.filter (fun d => decide (d ≠ c)) := ⟨_, rfl⟩
      rw [← hxs] at HO9 HN
      simp only [← hxs]
      have HXS := Lib.hid hxs
      clear hxs
      go_wp2
      have hfar := bl_far hm9 (p := ⟨w.heap.size, 4, none⟩) (by simp) (.slice A9 xs.length c9)
      have hbl : Below w.heap.size w (wr.setCell ⟨w.heap.size, 4, none⟩ (.slice A9 xs.length c9)) := (below_trans HB0.out HB9.out).setCell (Nat.le_refl _) _
      have hq9 := HS0.out
      have hq8 := HB6.out.size
      exact ret_c Tryz.results90 (w.heap.size + 1) 35 _ _ rfl (put14_all hfar) Tryz.underlying35 rfl sizeMade rfl ⟨_, rfl, by
        rw [HN.out]
        exact ⟨AW, cW, A9, c9, AT, cT, none, 0, rfl, ⟨AW, cW, A9, c9, AT, cT, rfl, HWW.out.below (put14_below hbl (by omega)), Own.rd ((HO9.out.far (by show w.heap.size < w6.heap.size; omega) _).put14 (by omega)), HTW.out.below (put14_below hbl (by omega))⟩, Rd.nil _ _⟩, put14_below hbl (by omega)⟩
end Go.Proofs.YthlbmcfliejdiaaGreat
end

section
set_option linter.unusedVariables false
set_option linter.unusedSimpArgs false
namespace Go.Proofs.YthlbmcfliejdiaaGreat
open Go.RowKit

theorem Rd.take {α : Type} [Enc α] {w : World} {A : Option Addr} {xs : List α} (h : Rd w A xs) (m : Nat) : Rd w A (xs.take m) := by
  intro i hi
  have hi2 : i < xs.length := by rw [List.length_take] at hi; omega
  obtain ⟨b, off, e, hc⟩ := h i hi2
  refine ⟨b, off, e, fun k v hk => hc k v ?_⟩
  rw [List.getElem_take] at hk
  exact hk
theorem Sns.take {w : World} {rs : List SnR} {xs : List Sn} (h : Sns w rs xs) (m : Nat) : Sns w (rs.take m) (xs.take m) := by
  refine ⟨by rw [List.length_take, List.length_take, h.1], fun i r s hr hs => ?_⟩
  rw [List.getElem?_take] at hr hs
  split at hr
  · rw [if_pos ‹_›] at hs; exact h.2 i r s hr hs
  · cases hr
theorem Rd.dropAt {α : Type} [Enc α] {w : World} {b off : Nat} {xs : List α} (h : Rd w (some ⟨b, off, none⟩) xs) (m : Nat) : Rd w (some ⟨b, off + m * Enc.sz α, none⟩) (xs.drop m) := by
  intro i hi
  have hi2 : m + i < xs.length := by rw [List.length_drop] at hi; omega
  obtain ⟨b', off', e, hc⟩ := h (m + i) hi2
  cases e
  refine ⟨b, off + m * Enc.sz α, rfl, fun k v hk => ?_⟩
  rw [List.getElem_drop] at hk
  have := hc k v hk
  rw [Nat.add_mul] at this
  rw [show off + m * Enc.sz α + i * Enc.sz α + k = off + (m * Enc.sz α + i * Enc.sz α) + k by omega]
  exact this
theorem Sns.drop {w : World} {rs : List SnR} {xs : List Sn} (h : Sns w rs xs) (m : Nat) : Sns w (rs.drop m) (xs.drop m) := by
  refine ⟨by rw [List.length_drop, List.length_drop, h.1], fun i r s hr hs => ?_⟩
  rw [List.getElem?_drop] at hr hs
  exact h.2 _ r s hr hs
theorem Sns.append {w : World} {rs qs : List SnR} {xs ys : List Sn} (h : Sns w rs xs) (k : Sns w qs ys) : Sns w (rs ++ qs) (xs ++ ys) := by
  refine ⟨by simp [h.1, k.1], fun i r s hr hs => ?_⟩
  rcases Nat.lt_or_ge i rs.length with hi | hi
  · rw [List.getElem?_append_left hi] at hr
    rw [List.getElem?_append_left (by rw [← h.1]; exact hi)] at hs
    exact h.2 i r s hr hs
  · rw [List.getElem?_append_right hi] at hr
    rw [List.getElem?_append_right (by rw [← h.1]; exact hi), ← h.1] at hs
    exact k.2 _ r s hr hs
theorem Sns.one {w : World} {r : SnR} {s : Sn} (h : IsSn w r s) : Sns w [r] [s] := by
  refine ⟨rfl, fun i r' s' hr hs => ?_⟩
  match i, hr, hs with
  | 0, hr, hs => cases hr; cases hs; exact h
  | i + 1, hr, _ => simp at hr
/-- A new row of no elements is one's own. -/
theorem Own.fresh {α : Type} [Enc α] (w : World) (B : Nat) (e : TypeId) (H : Nat) (hH : w.heap.size = H) (hB : B ≤ H) : Own (w.alloc (.cells #[] e)) B e (.slice (some ⟨H, 0, none⟩) 0 0) ([] : List α) := by
  subst hH
  exact ⟨by simp [flat], .inr ⟨w.heap.size, 0, #[], rfl, hB, bl_new w _, Nat.le_refl _, by simp [maxLen], by simp, by simp [flat]⟩⟩
theorem Rd.blk {α : Type} [Enc α] {w : World} {g : Nat} {e : TypeId} {fr : Nat × Nat} {cs : Array Value} (x : α) (hg : w.heap[g]? = some (.cells cs e fr)) (h : cs.toList = Enc.enc x) : Rd w (some ⟨g, 0, none⟩) [x] := by
  refine Rd.of_cells fun j u hj => ?_
  rw [flat_sing, ← h] at hj
  rw [bl_cell hg, Nat.zero_add]
  simpa using hj
/-- append at a step of a region that draws. -/
theorem step_app {α : Type} [Enc α] {P : Program} {ops : Array Oper} {o : Oper} {a : Act} {K : Act → World → Prop} {Q : Exit → Act → World → Prop} {E : Prop} (W : World) (base : Nat) (hgd : o.guard = none) (s x : Operand) (t e : TypeId) (z : Value) (bytes : Nat)
    (ho : o.op = .call { callee := .builtin .append, args := #[s, x], argTypes := #[t, t] })
    (ht : P.underlying t = some (.slice e)) (hinfo : (P.info? e).map (fun i => (i.zero, i.size, i.bytes)) = some (some z, Enc.sz α, bytes)) (hz : z.cells.size = Enc.sz α) (hs0 : 0 < Enc.sz α) (hb0 : 0 < bytes)
    (v : Value) (xs ys : List α) (A : Option Addr) (c : Nat) (hs : a.eval s = v) (hx : a.eval x = .slice A ys.length c) (hbase : base ≤ W.heap.size) (HO : Own W base e v xs) (HR : Rd W A ys) (hl : (xs.length + ys.length) * bytes ≤ 140737488355328)
    (h : ∀ v1 w1, Own w1 base e v1 (xs ++ ys) → Below base W w1 → W.grownBy w1 v.ownBlock → K (a.put o.dst v1) w1) :
    if Region.wanted o (yielded ops a.tmps) = true then Oper.wp P o a W K Q else E := by
  obtain ⟨v1, w1, hr, h1, h2, h3⟩ := run_app (P := P) W base t o.type e z bytes ht hinfo hz hs0 hb0 v xs ys A c HO HR hbase hl
  have hw : Region.wanted o (yielded ops a.tmps) = true := by simp [Region.wanted, hgd]
  rw [if_pos hw]
  unfold Oper.wp execOp
  simp only [ho, resolve, invoke, builtin, Sem.run_bind, Sem.run_pure, Result.andThen_ok, List.map_toArray, List.map_cons, List.map_nil, hs, hx, hr]
  exact h v1 w1 h1 ((Below.refl base W).grown h2 hbase (fun k hk => (HO.lt k hk).1)) h2
/-- A region of a code, by its number. -/
def regR (n : Nat) : Code → Option Code
  | .region k ops d => if k = n then some (.region k ops d) else none
  | .loop c => regR n c
  | .seq a b => match regR n a with
    | some c => some c
    | none => regR n b
  | .block _ c => regR n c
  | .scope c => regR n c
  | .cond _ a b => match regR n a with
    | some c => some c
    | none => regR n b
  | _ => none
/-- Old cells but those of one block read as before. -/
theorem keepG {W w' : World} {g : Nat} (h : Below W.heap.size W w') : ∀ (b o : Nat), b < W.heap.size → ¬ b = g → w'.cell? ⟨b, o, none⟩ = W.cell? ⟨b, o, none⟩ := fun b o hb _ => (bcell h).1 b o hb
theorem keepG2 {W w' : World} {g i : Nat} {v : Value} (h : Below W.heap.size W w') : ∀ (b o : Nat), b < W.heap.size → ¬ b = g → (w'.setCell ⟨g, i, none⟩ v).cell? ⟨b, o, none⟩ = W.cell? ⟨b, o, none⟩ := fun b o hb hne => by
  rw [← (bcell h).1 b o hb]
  exact World.cell?_of_block (Below.heap_setCell w' ⟨g, i, none⟩ v b hne)
/-- What the new row and its store leave. -/
theorem put_end {α : Type} [Enc α] {W w2 : World} {g : Nat} {e t : TypeId} {fr : Nat × Nat} {u c0 c1 c2 c3 c4 c5 : Value} {ys : List α} (hb : Below W.heap.size W w2) (ho : Own w2 W.heap.size e u ys) (HG : W.heap[g]? = some (.cells #[c0, c1, c2, c3, c4, c5] t fr)) :
    Own (w2.setCell ⟨g, 3, none⟩ u) W.heap.size e u ys ∧ (w2.setCell ⟨g, 3, none⟩ u).heap[g]? = some (.cells #[c0, c1, c2, u, c4, c5] t fr) ∧ Below g W (w2.setCell ⟨g, 3, none⟩ u) ∧ (∀ k o, k ≠ g → W.heap[k]? = some o → (w2.setCell ⟨g, 3, none⟩ u).heap[k]? = some o) := by
  have hlt := bl_lt HG
  refine ⟨ho.far (p := ⟨g, 3, none⟩) hlt _, by simpa using bl_set (bl_below HG hb) 3 u, (hb.mono (Nat.le_of_lt hlt)).setCell (Nat.le_refl _) _, fun k o hne hk => bl_far (bl_below hk hb) hne _⟩
end Go.Proofs.YthlbmcfliejdiaaGreat
end

section
set_option linter.unusedVariables false
set_option linter.unusedSimpArgs false
namespace Go.Proofs.YthlbmcfliejdiaaGreat
open Go.RowKit

/-- A network whose letters' row is no longer than its room. -/
def NetC (w : World) (v : Value) (x : Nt) : Prop := ∃ AW cW AC cC AT cT, v = .agg #[.int .i64 x.nodes, .int .i64 x.now, .int .i64 x.next, .slice AW x.way.length cW, .slice AC x.cuts.length cC, .slice AT x.timers.length cT] ∧ Rd w AW x.way ∧ Rd w AC x.cuts ∧ Rd w AT x.timers ∧ x.way.length ≤ cW
theorem NetC.netV {w : World} {v : Value} {x : Nt} (h : NetC w v x) : NetV w v x := by
  obtain ⟨AW, cW, AC, cC, AT, cT, e, h1, h2, h3, -⟩ := h
  exact ⟨AW, cW, AC, cC, AT, cT, e, h1, h2, h3⟩
theorem NetC.below {w w1 : World} {v : Value} {x : Nt} (h : NetC w v x) (hb : Below w.heap.size w w1) : NetC w1 v x := by
  obtain ⟨AW, cW, AC, cC, AT, cT, e, h1, h2, h3, h4⟩ := h
  exact ⟨AW, cW, AC, cC, AT, cT, e, h1.below hb, h2.below hb, h3.below hb, h4⟩
/-- .. in what is made. -/
def MadeC (w : World) (v : Value) (r : Rs) : Prop :=
  ∃ AW cW AC cC AT cT AF cF, v = .agg #[.int .i64 r.x.nodes, .int .i64 r.x.now, .int .i64 r.x.next, .slice AW r.x.way.length cW, .slice AC r.x.cuts.length cC, .slice AT r.x.timers.length cT, .int .i64 r.id, .int .i64 r.l.id, .int .i64 r.l.fr, .int .i64 r.l.to, .int .i64 r.l.rd, .string r.l.data, .slice AF r.ts.length cF, .int .i64 r.e] ∧ NetV w (.agg #[.int .i64 r.x.nodes, .int .i64 r.x.now, .int .i64 r.x.next, .slice AW r.x.way.length cW, .slice AC r.x.cuts.length cC, .slice AT r.x.timers.length cT]) r.x ∧ Rd w AF r.ts ∧ r.x.way.length ≤ cW
theorem MadeC.madeV {w : World} {v : Value} {r : Rs} (h : MadeC w v r) : MadeV w v r := by
  obtain ⟨AW, cW, AC, cC, AT, cT, AF, cF, e, h1, h2, -⟩ := h
  exact ⟨AW, cW, AC, cC, AT, cT, AF, cF, e, h1, h2⟩
theorem MadeC_err (w : World) (k : Int) : MadeC w (.agg #[.int .i64 0, .int .i64 0, .int .i64 0, .slice none 0 0, .slice none 0 0, .slice none 0 0, .int .i64 0, .int .i64 0, .int .i64 0, .int .i64 0, .int .i64 0, .string ⟨#[]⟩, .slice none 0 0, .int .i64 k]) (errR k) :=
  ⟨none, 0, none, 0, none, 0, none, 0, rfl, zNetV_is w, Rd.nil _ _, Nat.le_refl _⟩
theorem own_far6w {α : Type} [Enc α] {w : World} {B b : Nat} {e : TypeId} {v : Value} {xs : List α} (h : Own w B e v xs) (hp : b < B) (a0 a1 a2 a3 a4 a5 : Value) :
    Own ((((((w.setCell ⟨b, 0, none⟩ a0).setCell ⟨b, 1, none⟩ a1).setCell ⟨b, 2, none⟩ a2).setCell ⟨b, 3, none⟩ a3).setCell ⟨b, 4, none⟩ a4).setCell ⟨b, 5, none⟩ a5) B e v xs :=
  (((((h.far (p := ⟨b, 0, none⟩) hp _).far (p := ⟨b, 1, none⟩) hp _).far (p := ⟨b, 2, none⟩) hp _).far (p := ⟨b, 3, none⟩) hp _).far (p := ⟨b, 4, none⟩) hp _).far (p := ⟨b, 5, none⟩) hp _
/-- All blocks from B on that stood are as they were. -/
def Abv (B : Nat) (w' W : World) : Prop := w'.heap.size ≤ W.heap.size ∧ ∀ k, B ≤ k → k < w'.heap.size → W.heap[k]? = w'.heap[k]?
theorem Abv.refl (B : Nat) (w : World) : Abv B w w := ⟨Nat.le_refl _, fun _ _ _ => rfl⟩
theorem Abv.of {B : Nat} {w W : World} (h : Below w.heap.size w W) : Abv B w W := ⟨h.size, fun k _ hk => h.block k hk⟩
theorem Own.abv {α : Type} [Enc α] {w W : World} {B B' : Nat} {e : TypeId} {v : Value} {xs : List α} (h : Own w B' e v xs) (hB : B ≤ B') (hA : Abv B w W) : Own W B' e v xs := by
  refine ⟨h.1, ?_⟩
  rcases h.2 with h0 | ⟨g, cap, cur, hv, hb, hg, hr⟩
  · exact .inl h0
  · exact .inr ⟨g, cap, cur, hv, hb, (hA.2 g (Nat.le_trans hB hb) (bl_lt hg)).trans hg, hr⟩
/-- What is made, in every world that keeps the blocks from B on, and where the argument's rows are read. -/
def MadeA (B : Nat) (w' : World) (x : Nt) (AW AC AT : Option Addr) (v : Value) (r : Rs) : Prop :=
  ∀ W, Abv B w' W → Rd W AW x.way → Rd W AC x.cuts → Rd W AT x.timers → MadeC W v r
theorem own_row {α : Type} [Enc α] {w : World} {B : Nat} {e : TypeId} {v : Value} {xs : List α} (h : Own w B e v xs) (hx : 0 < xs.length) : ∃ g cap, v = .slice (some ⟨g, 0, none⟩) xs.length cap := by
  rcases h.2 with ⟨_, h0⟩ | ⟨g, cap, cur, rfl, _⟩
  · omega
  · exact ⟨g, cap, rfl⟩
set_option maxHeartbeats 400000 in
theorem Rhas_any (x : Nt) (i : Int) (v : Value) (w : World) (hV : NetV w v x) : Calls Tryz.prog 43 #[v, .int .i64 i] w fun e w' => e = .returned (.bool (hasB x.way.length i)) ∧ Below w.heap.size w w' := by
  obtain ⟨AW, cW, AC, cC, AT, cT, rfl, hW, hC, hT⟩ := hV
  clear hW hC hT
  by_cases h : 0 ≤ i
  · go_enter Tryz.func43, Tryz.ntmps43
    go_wp2
    go_ret
    exact ⟨ret_bool (by simp [hasB, *]), below_alloc (Below.refl _ _) _⟩
  · go_enter Tryz.func43, Tryz.ntmps43
    go_wp2
    go_ret
    exact ⟨ret_bool (by simp [hasB, *]; omega), below_alloc (Below.refl _ _) _⟩
noncomputable def regSend : Code := ((Tryz.f8.body.bind (regR 10)).getD .skip)
set_option maxHeartbeats 4000000 in
set_option maxRecDepth 100000 in
theorem putSend (x : Nt) (f : Nat → Value) (W : World) (g : Nat) (AW AC AT : Option Addr) (cW cC cT : Nat) (gl : Nat) (l : Lt) (v8 : Value) (K : Act → World → Prop) (Q : Exit → Act → World → Prop)
    (h8 : f 8 = v8) (hn : f 4 = .pointer (some ⟨g, 0, none⟩)) (hlt : f 9 = .pointer (some ⟨gl, 0, none⟩))
    (HG : Hid (W.heap[g]? = some (.cells #[.int .i64 x.nodes, .int .i64 x.now, .int .i64 x.next, .slice AW x.way.length cW, .slice AC x.cuts.length cC, .slice AT x.timers.length cT] 26 (0, 0)))) (HGL : Hid (W.heap[gl]? = some (.cells #[.int .i64 l.id, .int .i64 l.fr, .int .i64 l.to, .int .i64 l.rd, .string l.data] 33 (0, 0)))) (hgl : ¬ gl = g) (HR : Hid (Rd W AW x.way)) (hlen : x.way.length ≤ 10000000)
    (hK : ∀ a w', (∃ f' u, a = st 73 f' ∧ f' 4 = .pointer (some ⟨g, 0, none⟩) ∧ f' 8 = v8 ∧ f' 9 = .pointer (some ⟨gl, 0, none⟩) ∧ Hid (Own w' W.heap.size 33 u (x.way ++ [l])) ∧ Hid (w'.heap[g]? = some (.cells #[.int .i64 x.nodes, .int .i64 x.now, .int .i64 x.next, u, .slice AC x.cuts.length cC, .slice AT x.timers.length cT] 26 (0, 0))) ∧ Hid (Below g W w') ∧ Hid (∀ k o, k ≠ g → W.heap[k]? = some o → w'.heap[k]? = some o)) → K a w') :
    regSend.wp Tryz.prog (Exit.then K Q) (st 73 f) W := by
  conv => arg 2; whnf
  have HRT : Hid (∀ w', Below W.heap.size W w' → Rd w' AW x.way) := fun w' hb => HR.out.below hb
  have HL : Hid ((0 + x.way.length) * 48 ≤ 140737488355328) := by show _ ≤ _; omega
  have HL1 : Hid ((x.way.length + 1) * 48 ≤ 140737488355328) := by show _ ≤ _; omega
  obtain ⟨⟨p0, p1, p2, p3, p4⟩, -⟩ := blc5 HGL.out
  have hlp := bl_lt HGL.out
  have HK := Lib.hid hK
  obtain ⟨⟨k0, k1, k2, k3, k4, k5⟩, f0, f1, f2, f3, f4, f5⟩ := blc6 HG.out
  have hlg := bl_lt HG.out
  rw [show st 73 f = ⟨#[f 0, f 1, f 2, f 3, f 4, f 5, f 6, f 7, f 8, f 9, f 10, f 11, f 12, f 13, f 14, f 15, f 16, f 17, f 18, f 19, f 20, f 21, f 22, f 23, f 24, f 25, f 26, f 27, f 28, f 29, f 30, f 31, f 32, f 33, f 34, f 35, f 36, f 37, f 38, f 39, f 40, f 41, f 42, f 43, f 44, f 45, f 46, f 47, f 48, f 49, f 50, f 51, f 52, f 53, f 54, f 55, f 56, f 57, f 58, f 59, f 60, f 61, f 62, f 63, f 64, f 65, f 66, f 67, f 68, f 69, f 70, f 71, f 72], []⟩ by rfl, h8, hn, hlt]
  clear hK hlen h8 hn hlt
  refine wp_region_noPanic ?_
  go_region_law
    ((first
      | ((refine step_app (α := Lt) _ W.heap.size rfl (.tmp 56) (.tmp 58) 22 33 _ 48 (by rfl) Tryz.underlying22 infoW rfl (by decide) (by decide) (.slice (some ⟨W.heap.size, 0, none⟩) 0 0) [] x.way AW cW (by rfl) (by rfl) (Below.size (B := W.heap.size) (by (repeat (first | (with_reducible assumption) | (with_reducible exact Below.refl _ _) | (with_reducible refine below_alloc ?_ _) | (with_reducible refine Below.drew ?_))))) (Own.fresh W _ _ _ rfl (Nat.le_refl _)) (HRT.out _ (by (repeat (first | (with_reducible assumption) | (with_reducible exact Below.refl _ _) | (with_reducible refine below_alloc ?_ _) | (with_reducible refine Below.drew ?_))))) (by exact HL.out) ?_); (intro v1 w1 ho1 hb1 hg1); (have hW1 : Below W.heap.size W w1 := Below.trans (B := W.heap.size) (by (repeat (first | (with_reducible assumption) | (with_reducible exact Below.refl _ _) | (with_reducible refine below_alloc ?_ _) | (with_reducible refine Below.drew ?_)))) hb1); (obtain ⟨⟨p01, p11, p21, p31, p41⟩, -⟩ := blc5 (bl_below HGL.out hW1)); (have hlp1 := bl_lt (bl_below HGL.out hW1)))
      | ((refine step_app (α := Lt) _ W.heap.size rfl (.tmp 56) (.tmp 58) 22 33 _ 48 (by rfl) Tryz.underlying22 infoW rfl (by decide) (by decide) (.slice (some ⟨W.heap.size, 0, none⟩) 0 0) [] x.way AW cW (by rfl) (by rfl) (Below.size (B := W.heap.size) (by (repeat (first | (with_reducible assumption) | (with_reducible exact Below.refl _ _) | (with_reducible refine below_alloc ?_ _) | (with_reducible refine Below.drew ?_))))) ((Own.fresh W _ _ _ rfl (Nat.le_refl _)).alloc _) (HRT.out _ (by (repeat (first | (with_reducible assumption) | (with_reducible exact Below.refl _ _) | (with_reducible refine below_alloc ?_ _) | (with_reducible refine Below.drew ?_))))) (by exact HL.out) ?_); (intro v1 w1 ho1 hb1 hg1); (have hW1 : Below W.heap.size W w1 := Below.trans (B := W.heap.size) (by (repeat (first | (with_reducible assumption) | (with_reducible exact Below.refl _ _) | (with_reducible refine below_alloc ?_ _) | (with_reducible refine Below.drew ?_)))) hb1); (obtain ⟨⟨p01, p11, p21, p31, p41⟩, -⟩ := blc5 (bl_below HGL.out hW1)); (have hlp1 := bl_lt (bl_below HGL.out hW1)); (have hR6 : Rd w1 (some ⟨W.heap.size + 1, 0, none⟩) [l] := Rd.blk l (bl_grown (o := .cells #[.int .i64 l.id, .int .i64 l.fr, .int .i64 l.to, .int .i64 l.rd, .string l.data] 33) (bl_drew (bl_new2 W (.cells #[] 33) _)) hg1 (by simp [Value.ownBlock])) rfl))
      | ((refine step_app (α := Lt) _ W.heap.size rfl (.tmp 56) (.tmp 58) 22 33 _ 48 (by rfl) Tryz.underlying22 infoW rfl (by decide) (by decide) (.slice (some ⟨W.heap.size + 1, 0, none⟩) 0 0) [] x.way AW cW (by rfl) (by rfl) (Below.size (B := W.heap.size) (by (repeat (first | (with_reducible assumption) | (with_reducible exact Below.refl _ _) | (with_reducible refine below_alloc ?_ _) | (with_reducible refine Below.drew ?_))))) (Own.fresh (W.alloc (.cells #[.int .i64 l.id, .int .i64 l.fr, .int .i64 l.to, .int .i64 l.rd, .string l.data] 33)) _ _ _ (by simp) (Nat.le_succ _)) (HRT.out _ (by (repeat (first | (with_reducible assumption) | (with_reducible exact Below.refl _ _) | (with_reducible refine below_alloc ?_ _) | (with_reducible refine Below.drew ?_))))) (by exact HL.out) ?_); (intro v1 w1 ho1 hb1 hg1); (have hW1 : Below W.heap.size W w1 := Below.trans (B := W.heap.size) (by (repeat (first | (with_reducible assumption) | (with_reducible exact Below.refl _ _) | (with_reducible refine below_alloc ?_ _) | (with_reducible refine Below.drew ?_)))) hb1); (obtain ⟨⟨p01, p11, p21, p31, p41⟩, -⟩ := blc5 (bl_below HGL.out hW1)); (have hlp1 := bl_lt (bl_below HGL.out hW1)); (have hR6 : Rd w1 (some ⟨W.heap.size, 0, none⟩) [l] := Rd.blk l (bl_grown (o := .cells #[.int .i64 l.id, .int .i64 l.fr, .int .i64 l.to, .int .i64 l.rd, .string l.data] 33) (bl_drew (bl_alloc (bl_new W _) (.cells #[] 33))) hg1 (by simp [Value.ownBlock])) rfl))
      | ((refine step_app (α := Lt) _ W.heap.size rfl (.tmp 59) (.tmp 61) 22 33 _ 48 (by rfl) Tryz.underlying22 infoW rfl (by decide) (by decide) v1 x.way [l] (some ⟨w1.heap.size, 0, none⟩) 1 (by rfl) (by rfl) (Below.size (B := W.heap.size) (by (repeat (first | (with_reducible assumption) | (with_reducible exact Below.refl _ _) | (with_reducible refine below_alloc ?_ _) | (with_reducible refine Below.drew ?_))))) (ho1.alloc _) (Rd.new w1 33 l #[.int .i64 l.id, .int .i64 l.fr, .int .i64 l.to, .int .i64 l.rd, .string l.data] rfl) (by exact HL1.out) ?_); (intro v2 w2 ho2 hb2 hg2); (have hW2 : Below W.heap.size W w2 := Below.trans (B := W.heap.size) (by (repeat (first | (with_reducible assumption) | (with_reducible exact Below.refl _ _) | (with_reducible refine below_alloc ?_ _) | (with_reducible refine Below.drew ?_)))) hb2); (obtain ⟨A2, c2, hv2, -, -⟩ := ho2.slice); (obtain ⟨n2, hn2⟩ : ∃ n2, n2 = (x.way ++ [l]).length := ⟨_, rfl⟩); (rw [← hn2] at hv2); (replace hn2 := Lib.hid hn2); (subst hv2); (obtain ⟨⟨k02, k12, k22, k32, k42, k52⟩, f02, f12, f22, f32, f42, f52⟩ := blc6 (bl_below HG.out hW2)); (have hlg2 := bl_lt (bl_below HG.out hW2)))
      | ((refine step_app (α := Lt) _ W.heap.size rfl (.tmp 59) (.tmp 61) 22 33 _ 48 (by rfl) Tryz.underlying22 infoW rfl (by decide) (by decide) v1 x.way [l] (some ⟨W.heap.size + 1, 0, none⟩) 1 (by rfl) (by rfl) (Below.size (B := W.heap.size) (by (repeat (first | (with_reducible assumption) | (with_reducible exact Below.refl _ _) | (with_reducible refine below_alloc ?_ _) | (with_reducible refine Below.drew ?_))))) ho1 hR6 (by exact HL1.out) ?_); (intro v2 w2 ho2 hb2 hg2); (have hW2 : Below W.heap.size W w2 := Below.trans (B := W.heap.size) (by (repeat (first | (with_reducible assumption) | (with_reducible exact Below.refl _ _) | (with_reducible refine below_alloc ?_ _) | (with_reducible refine Below.drew ?_)))) hb2); (obtain ⟨A2, c2, hv2, -, -⟩ := ho2.slice); (obtain ⟨n2, hn2⟩ : ∃ n2, n2 = (x.way ++ [l]).length := ⟨_, rfl⟩); (rw [← hn2] at hv2); (replace hn2 := Lib.hid hn2); (subst hv2); (obtain ⟨⟨k02, k12, k22, k32, k42, k52⟩, f02, f12, f22, f32, f42, f52⟩ := blc6 (bl_below HG.out hW2)); (have hlg2 := bl_lt (bl_below HG.out hW2)))
      | ((refine step_app (α := Lt) _ W.heap.size rfl (.tmp 59) (.tmp 61) 22 33 _ 48 (by rfl) Tryz.underlying22 infoW rfl (by decide) (by decide) v1 x.way [l] (some ⟨W.heap.size, 0, none⟩) 1 (by rfl) (by rfl) (Below.size (B := W.heap.size) (by (repeat (first | (with_reducible assumption) | (with_reducible exact Below.refl _ _) | (with_reducible refine below_alloc ?_ _) | (with_reducible refine Below.drew ?_))))) ho1 hR6 (by exact HL1.out) ?_); (intro v2 w2 ho2 hb2 hg2); (have hW2 : Below W.heap.size W w2 := Below.trans (B := W.heap.size) (by (repeat (first | (with_reducible assumption) | (with_reducible exact Below.refl _ _) | (with_reducible refine below_alloc ?_ _) | (with_reducible refine Below.drew ?_)))) hb2); (obtain ⟨A2, c2, hv2, -, -⟩ := ho2.slice); (obtain ⟨n2, hn2⟩ : ∃ n2, n2 = (x.way ++ [l]).length := ⟨_, rfl⟩); (rw [← hn2] at hv2); (replace hn2 := Lib.hid hn2); (subst hv2); (obtain ⟨⟨k02, k12, k22, k32, k42, k52⟩, f02, f12, f22, f32, f42, f52⟩ := blc6 (bl_below HG.out hW2)); (have hlg2 := bl_lt (bl_below HG.out hW2)))
      | fail "no arm"))
  all_goals
    obtain ⟨e1, e2, e3, e4⟩ := put_end hW2 ho2 HG.out
    exact HK.out _ _ ⟨_, _, st_of 73 (by rfl), rfl, rfl, rfl, e1, e2, e3, e4⟩
noncomputable def regDouble : Code := ((Tryz.f15.body.bind (regR 8)).getD .skip)
set_option maxHeartbeats 4000000 in
set_option maxRecDepth 100000 in
theorem putDouble (x : Nt) (f : Nat → Value) (W : World) (g : Nat) (AW AC AT : Option Addr) (cW cC cT : Nat) (gl : Nat) (l : Lt) (v4 : Value) (K : Act → World → Prop) (Q : Exit → Act → World → Prop)
    (h4 : f 4 = v4) (hn : f 2 = .pointer (some ⟨g, 0, none⟩)) (hlt : f 5 = .pointer (some ⟨gl, 0, none⟩))
    (HG : Hid (W.heap[g]? = some (.cells #[.int .i64 x.nodes, .int .i64 x.now, .int .i64 x.next, .slice AW x.way.length cW, .slice AC x.cuts.length cC, .slice AT x.timers.length cT] 26 (0, 0)))) (HGL : Hid (W.heap[gl]? = some (.cells #[.int .i64 l.id, .int .i64 l.fr, .int .i64 l.to, .int .i64 l.rd, .string l.data] 33 (0, 0)))) (hgl : ¬ gl = g) (HR : Hid (Rd W AW x.way)) (hlen : x.way.length ≤ 10000000)
    (hK : ∀ a w', (∃ f' u, a = st 39 f' ∧ f' 2 = .pointer (some ⟨g, 0, none⟩) ∧ f' 4 = v4 ∧ f' 5 = .pointer (some ⟨gl, 0, none⟩) ∧ Hid (Own w' W.heap.size 33 u (x.way ++ [l])) ∧ Hid (w'.heap[g]? = some (.cells #[.int .i64 x.nodes, .int .i64 x.now, .int .i64 x.next, u, .slice AC x.cuts.length cC, .slice AT x.timers.length cT] 26 (0, 0))) ∧ Hid (Below g W w') ∧ Hid (∀ k o, k ≠ g → W.heap[k]? = some o → w'.heap[k]? = some o)) → K a w') :
    regDouble.wp Tryz.prog (Exit.then K Q) (st 39 f) W := by
  conv => arg 2; whnf
  have HRT : Hid (∀ w', Below W.heap.size W w' → Rd w' AW x.way) := fun w' hb => HR.out.below hb
  have HL : Hid ((0 + x.way.length) * 48 ≤ 140737488355328) := by show _ ≤ _; omega
  have HL1 : Hid ((x.way.length + 1) * 48 ≤ 140737488355328) := by show _ ≤ _; omega
  obtain ⟨⟨p0, p1, p2, p3, p4⟩, -⟩ := blc5 HGL.out
  have hlp := bl_lt HGL.out
  have HK := Lib.hid hK
  obtain ⟨⟨k0, k1, k2, k3, k4, k5⟩, f0, f1, f2, f3, f4, f5⟩ := blc6 HG.out
  have hlg := bl_lt HG.out
  rw [show st 39 f = ⟨#[f 0, f 1, f 2, f 3, f 4, f 5, f 6, f 7, f 8, f 9, f 10, f 11, f 12, f 13, f 14, f 15, f 16, f 17, f 18, f 19, f 20, f 21, f 22, f 23, f 24, f 25, f 26, f 27, f 28, f 29, f 30, f 31, f 32, f 33, f 34, f 35, f 36, f 37, f 38], []⟩ by rfl, h4, hn, hlt]
  clear hK hlen h4 hn hlt
  refine wp_region_noPanic ?_
  go_region_law
    ((first
      | ((refine step_app (α := Lt) _ W.heap.size rfl (.tmp 28) (.tmp 30) 22 33 _ 48 (by rfl) Tryz.underlying22 infoW rfl (by decide) (by decide) (.slice (some ⟨W.heap.size, 0, none⟩) 0 0) [] x.way AW cW (by rfl) (by rfl) (Below.size (B := W.heap.size) (by (repeat (first | (with_reducible assumption) | (with_reducible exact Below.refl _ _) | (with_reducible refine below_alloc ?_ _) | (with_reducible refine Below.drew ?_))))) (Own.fresh W _ _ _ rfl (Nat.le_refl _)) (HRT.out _ (by (repeat (first | (with_reducible assumption) | (with_reducible exact Below.refl _ _) | (with_reducible refine below_alloc ?_ _) | (with_reducible refine Below.drew ?_))))) (by exact HL.out) ?_); (intro v1 w1 ho1 hb1 hg1); (have hW1 : Below W.heap.size W w1 := Below.trans (B := W.heap.size) (by (repeat (first | (with_reducible assumption) | (with_reducible exact Below.refl _ _) | (with_reducible refine below_alloc ?_ _) | (with_reducible refine Below.drew ?_)))) hb1); (obtain ⟨⟨p01, p11, p21, p31, p41⟩, -⟩ := blc5 (bl_below HGL.out hW1)); (have hlp1 := bl_lt (bl_below HGL.out hW1)))
      | ((refine step_app (α := Lt) _ W.heap.size rfl (.tmp 28) (.tmp 30) 22 33 _ 48 (by rfl) Tryz.underlying22 infoW rfl (by decide) (by decide) (.slice (some ⟨W.heap.size, 0, none⟩) 0 0) [] x.way AW cW (by rfl) (by rfl) (Below.size (B := W.heap.size) (by (repeat (first | (with_reducible assumption) | (with_reducible exact Below.refl _ _) | (with_reducible refine below_alloc ?_ _) | (with_reducible refine Below.drew ?_))))) ((Own.fresh W _ _ _ rfl (Nat.le_refl _)).alloc _) (HRT.out _ (by (repeat (first | (with_reducible assumption) | (with_reducible exact Below.refl _ _) | (with_reducible refine below_alloc ?_ _) | (with_reducible refine Below.drew ?_))))) (by exact HL.out) ?_); (intro v1 w1 ho1 hb1 hg1); (have hW1 : Below W.heap.size W w1 := Below.trans (B := W.heap.size) (by (repeat (first | (with_reducible assumption) | (with_reducible exact Below.refl _ _) | (with_reducible refine below_alloc ?_ _) | (with_reducible refine Below.drew ?_)))) hb1); (obtain ⟨⟨p01, p11, p21, p31, p41⟩, -⟩ := blc5 (bl_below HGL.out hW1)); (have hlp1 := bl_lt (bl_below HGL.out hW1)); (have hR6 : Rd w1 (some ⟨W.heap.size + 1, 0, none⟩) [l] := Rd.blk l (bl_grown (o := .cells #[.int .i64 l.id, .int .i64 l.fr, .int .i64 l.to, .int .i64 l.rd, .string l.data] 33) (bl_drew (bl_new2 W (.cells #[] 33) _)) hg1 (by simp [Value.ownBlock])) rfl))
      | ((refine step_app (α := Lt) _ W.heap.size rfl (.tmp 28) (.tmp 30) 22 33 _ 48 (by rfl) Tryz.underlying22 infoW rfl (by decide) (by decide) (.slice (some ⟨W.heap.size + 1, 0, none⟩) 0 0) [] x.way AW cW (by rfl) (by rfl) (Below.size (B := W.heap.size) (by (repeat (first | (with_reducible assumption) | (with_reducible exact Below.refl _ _) | (with_reducible refine below_alloc ?_ _) | (with_reducible refine Below.drew ?_))))) (Own.fresh (W.alloc (.cells #[.int .i64 l.id, .int .i64 l.fr, .int .i64 l.to, .int .i64 l.rd, .string l.data] 33)) _ _ _ (by simp) (Nat.le_succ _)) (HRT.out _ (by (repeat (first | (with_reducible assumption) | (with_reducible exact Below.refl _ _) | (with_reducible refine below_alloc ?_ _) | (with_reducible refine Below.drew ?_))))) (by exact HL.out) ?_); (intro v1 w1 ho1 hb1 hg1); (have hW1 : Below W.heap.size W w1 := Below.trans (B := W.heap.size) (by (repeat (first | (with_reducible assumption) | (with_reducible exact Below.refl _ _) | (with_reducible refine below_alloc ?_ _) | (with_reducible refine Below.drew ?_)))) hb1); (obtain ⟨⟨p01, p11, p21, p31, p41⟩, -⟩ := blc5 (bl_below HGL.out hW1)); (have hlp1 := bl_lt (bl_below HGL.out hW1)); (have hR6 : Rd w1 (some ⟨W.heap.size, 0, none⟩) [l] := Rd.blk l (bl_grown (o := .cells #[.int .i64 l.id, .int .i64 l.fr, .int .i64 l.to, .int .i64 l.rd, .string l.data] 33) (bl_drew (bl_alloc (bl_new W _) (.cells #[] 33))) hg1 (by simp [Value.ownBlock])) rfl))
      | ((refine step_app (α := Lt) _ W.heap.size rfl (.tmp 31) (.tmp 33) 22 33 _ 48 (by rfl) Tryz.underlying22 infoW rfl (by decide) (by decide) v1 x.way [l] (some ⟨w1.heap.size, 0, none⟩) 1 (by rfl) (by rfl) (Below.size (B := W.heap.size) (by (repeat (first | (with_reducible assumption) | (with_reducible exact Below.refl _ _) | (with_reducible refine below_alloc ?_ _) | (with_reducible refine Below.drew ?_))))) (ho1.alloc _) (Rd.new w1 33 l #[.int .i64 l.id, .int .i64 l.fr, .int .i64 l.to, .int .i64 l.rd, .string l.data] rfl) (by exact HL1.out) ?_); (intro v2 w2 ho2 hb2 hg2); (have hW2 : Below W.heap.size W w2 := Below.trans (B := W.heap.size) (by (repeat (first | (with_reducible assumption) | (with_reducible exact Below.refl _ _) | (with_reducible refine below_alloc ?_ _) | (with_reducible refine Below.drew ?_)))) hb2); (obtain ⟨A2, c2, hv2, -, -⟩ := ho2.slice); (obtain ⟨n2, hn2⟩ : ∃ n2, n2 = (x.way ++ [l]).length := ⟨_, rfl⟩); (rw [← hn2] at hv2); (replace hn2 := Lib.hid hn2); (subst hv2); (obtain ⟨⟨k02, k12, k22, k32, k42, k52⟩, f02, f12, f22, f32, f42, f52⟩ := blc6 (bl_below HG.out hW2)); (have hlg2 := bl_lt (bl_below HG.out hW2)))
      | ((refine step_app (α := Lt) _ W.heap.size rfl (.tmp 31) (.tmp 33) 22 33 _ 48 (by rfl) Tryz.underlying22 infoW rfl (by decide) (by decide) v1 x.way [l] (some ⟨W.heap.size + 1, 0, none⟩) 1 (by rfl) (by rfl) (Below.size (B := W.heap.size) (by (repeat (first | (with_reducible assumption) | (with_reducible exact Below.refl _ _) | (with_reducible refine below_alloc ?_ _) | (with_reducible refine Below.drew ?_))))) ho1 hR6 (by exact HL1.out) ?_); (intro v2 w2 ho2 hb2 hg2); (have hW2 : Below W.heap.size W w2 := Below.trans (B := W.heap.size) (by (repeat (first | (with_reducible assumption) | (with_reducible exact Below.refl _ _) | (with_reducible refine below_alloc ?_ _) | (with_reducible refine Below.drew ?_)))) hb2); (obtain ⟨A2, c2, hv2, -, -⟩ := ho2.slice); (obtain ⟨n2, hn2⟩ : ∃ n2, n2 = (x.way ++ [l]).length := ⟨_, rfl⟩); (rw [← hn2] at hv2); (replace hn2 := Lib.hid hn2); (subst hv2); (obtain ⟨⟨k02, k12, k22, k32, k42, k52⟩, f02, f12, f22, f32, f42, f52⟩ := blc6 (bl_below HG.out hW2)); (have hlg2 := bl_lt (bl_below HG.out hW2)))
      | ((refine step_app (α := Lt) _ W.heap.size rfl (.tmp 31) (.tmp 33) 22 33 _ 48 (by rfl) Tryz.underlying22 infoW rfl (by decide) (by decide) v1 x.way [l] (some ⟨W.heap.size, 0, none⟩) 1 (by rfl) (by rfl) (Below.size (B := W.heap.size) (by (repeat (first | (with_reducible assumption) | (with_reducible exact Below.refl _ _) | (with_reducible refine below_alloc ?_ _) | (with_reducible refine Below.drew ?_))))) ho1 hR6 (by exact HL1.out) ?_); (intro v2 w2 ho2 hb2 hg2); (have hW2 : Below W.heap.size W w2 := Below.trans (B := W.heap.size) (by (repeat (first | (with_reducible assumption) | (with_reducible exact Below.refl _ _) | (with_reducible refine below_alloc ?_ _) | (with_reducible refine Below.drew ?_)))) hb2); (obtain ⟨A2, c2, hv2, -, -⟩ := ho2.slice); (obtain ⟨n2, hn2⟩ : ∃ n2, n2 = (x.way ++ [l]).length := ⟨_, rfl⟩); (rw [← hn2] at hv2); (replace hn2 := Lib.hid hn2); (subst hv2); (obtain ⟨⟨k02, k12, k22, k32, k42, k52⟩, f02, f12, f22, f32, f42, f52⟩ := blc6 (bl_below HG.out hW2)); (have hlg2 := bl_lt (bl_below HG.out hW2)))
      | fail "no arm"))
  all_goals
    obtain ⟨e1, e2, e3, e4⟩ := put_end hW2 ho2 HG.out
    exact HK.out _ _ ⟨_, _, st_of 39 (by rfl), rfl, rfl, rfl, e1, e2, e3, e4⟩
noncomputable def regWithout : Code := ((Tryz.f45.body.bind (regR 1)).getD .skip)
set_option maxHeartbeats 4000000 in
set_option maxRecDepth 100000 in
theorem putWithout (x : Nt) (f : Nat → Value) (W : World) (g : Nat) (AW AC AT : Option Addr) (cW cC cT : Nat) (m : Nat) (v4 : Value) (K : Act → World → Prop) (Q : Exit → Act → World → Prop)
    (h4 : f 4 = v4) (hn : f 2 = .pointer (some ⟨g, 0, none⟩)) (hm : f 1 = .int .i64 (m : Int))
    (HG : Hid (W.heap[g]? = some (.cells #[.int .i64 x.nodes, .int .i64 x.now, .int .i64 x.next, .slice AW x.way.length cW, .slice AC x.cuts.length cC, .slice AT x.timers.length cT] 26 (0, 0)))) (hmx : m < x.way.length) (hcap : x.way.length ≤ cW) (HR : Hid (Rd W AW x.way)) (hlen : x.way.length ≤ 10000000)
    (hK : ∀ a w', (∃ f' u, a = st 19 f' ∧ f' 1 = .int .i64 (m : Int) ∧ f' 2 = .pointer (some ⟨g, 0, none⟩) ∧ f' 4 = v4 ∧ Hid (Own w' W.heap.size 33 u (x.way.take m ++ x.way.drop (m + 1))) ∧ Hid (w'.heap[g]? = some (.cells #[.int .i64 x.nodes, .int .i64 x.now, .int .i64 x.next, u, .slice AC x.cuts.length cC, .slice AT x.timers.length cT] 26 (0, 0))) ∧ Hid (Below g W w') ∧ Hid (∀ k o, k ≠ g → W.heap[k]? = some o → w'.heap[k]? = some o)) → K a w') :
    regWithout.wp Tryz.prog (Exit.then K Q) (st 19 f) W := by
  conv => arg 2; whnf
  have hml : (x.way.take m).length = m := by rw [List.length_take]; omega
  have HML := Lib.hid hml
  have HRT : Hid (∀ w', Below W.heap.size W w' → Rd w' AW (x.way.take m)) := fun w' hb => (HR.out.below hb).take m
  have HL : Hid ((0 + m) * 48 ≤ 140737488355328) := by show _ ≤ _; omega
  have HL1 : Hid ((m + (x.way.drop (m + 1)).length) * 48 ≤ 140737488355328) := by show _ ≤ _; rw [List.length_drop]; omega
  have q1 : (0 : Int) ≤ (m : Int) := by omega
  have q2 : (m : Int) ≤ (cW : Int) := by omega
  have q3 : (0 : Int) ≤ (m : Int) + 1 := by omega
  have q4 : (m : Int) + 1 ≤ (x.way.length : Int) := by omega
  have qw : IntKind.i64.wrap ((m : Int) + 1) = (m : Int) + 1 := IntWalk.i64_in _ (by omega)
  have HK := Lib.hid hK
  obtain ⟨⟨k0, k1, k2, k3, k4, k5⟩, f0, f1, f2, f3, f4, f5⟩ := blc6 HG.out
  have hlg := bl_lt HG.out
  rw [show st 19 f = ⟨#[f 0, f 1, f 2, f 3, f 4, f 5, f 6, f 7, f 8, f 9, f 10, f 11, f 12, f 13, f 14, f 15, f 16, f 17, f 18], []⟩ by rfl, h4, hn, hm]
  clear hK hlen h4 hn hm hml
  obtain ⟨bl, ol, rfl⟩ : ∃ bl ol, AW = some ⟨bl, ol, none⟩ := by
    obtain ⟨b, o, h, -⟩ := HR.out m hmx
    exact ⟨b, o, h⟩
  have q5 : (x.way.length : Int) ≤ (cW : Int) := by omega
  by_cases h7 : cW = m + 1
  · have HD0 : Hid (0 = (x.way.drop (m + 1)).length) := by show _ = _; rw [List.length_drop]; omega
    subst h7
    have q6 : (m : Int) ≤ (m : Int) + 1 := by omega
    have q7 : (x.way.length : Int) ≤ (m : Int) + 1 := by omega
    obtain ⟨AD, cD, HD, HRD⟩ : ∃ AD cD, Hid (Value.slice (some ⟨bl, ol, none⟩) 0 0 = .slice AD (x.way.drop (m + 1)).length cD) ∧ Hid (∀ w', Below W.heap.size W w' → Rd w' AD (x.way.drop (m + 1))) :=
      ⟨some ⟨bl, ol, none⟩, 0, congrArg (fun k => Value.slice (some ⟨bl, ol, none⟩) k 0) HD0.out, fun w' _ => by rw [List.drop_eq_nil_of_le (by have := HD0.out; rw [List.length_drop] at this; omega)]; exact fun i hi => absurd hi (by simp)⟩
    refine wp_region_noPanic ?_
    go_region_law
      ((first
        | ((refine step_app (α := Lt) _ W.heap.size rfl (.tmp 5) (.tmp 9) 22 33 _ 48 (by rfl) Tryz.underlying22 infoW rfl (by decide) (by decide) (.slice (some ⟨W.heap.size, 0, none⟩) 0 0) [] (x.way.take m) (some ⟨bl, ol, none⟩) (m + 1) (by rfl) (show _ = _ from congrArg (fun n => Value.slice (some ⟨bl, ol, none⟩) n (m + 1)) HML.out.symm) (Below.size (B := W.heap.size) (by (repeat (first | (with_reducible assumption) | (with_reducible exact Below.refl _ _) | (with_reducible refine below_alloc ?_ _) | (with_reducible refine Below.drew ?_))))) (Own.fresh W _ _ _ rfl (Nat.le_refl _)) (HRT.out _ (by (repeat (first | (with_reducible assumption) | (with_reducible exact Below.refl _ _) | (with_reducible refine below_alloc ?_ _) | (with_reducible refine Below.drew ?_))))) (by rw [HML.out]; exact HL.out) ?_); (intro v1 w1 ho1 hb1 hg1); (have hW1 : Below W.heap.size W w1 := Below.trans (B := W.heap.size) (by (repeat (first | (with_reducible assumption) | (with_reducible exact Below.refl _ _) | (with_reducible refine below_alloc ?_ _) | (with_reducible refine Below.drew ?_)))) hb1); (obtain ⟨⟨k01, k11, k21, k31, k41, k51⟩, f01, f11, f21, f31, f41, f51⟩ := blc6 (bl_below HG.out hW1)); (have hlg1 := bl_lt (bl_below HG.out hW1)))
        | ((refine step_app (α := Lt) _ W.heap.size rfl (.tmp 10) (.tmp 15) 22 33 _ 48 (by rfl) Tryz.underlying22 infoW rfl (by decide) (by decide) v1 (x.way.take m) (x.way.drop (m + 1)) AD cD (by rfl) (show _ = _ from HD.out) (Below.size (B := W.heap.size) (by (repeat (first | (with_reducible assumption) | (with_reducible exact Below.refl _ _) | (with_reducible refine below_alloc ?_ _) | (with_reducible refine Below.drew ?_))))) ho1 (HRD.out _ (by (repeat (first | (with_reducible assumption) | (with_reducible exact Below.refl _ _) | (with_reducible refine below_alloc ?_ _) | (with_reducible refine Below.drew ?_))))) (by rw [HML.out]; exact HL1.out) ?_); (intro v2 w2 ho2 hb2 hg2); (have hW2 : Below W.heap.size W w2 := Below.trans (B := W.heap.size) (by (repeat (first | (with_reducible assumption) | (with_reducible exact Below.refl _ _) | (with_reducible refine below_alloc ?_ _) | (with_reducible refine Below.drew ?_)))) hb2); (obtain ⟨A2, c2, hv2, -, -⟩ := ho2.slice); (obtain ⟨n2, hn2⟩ : ∃ n2, n2 = (x.way.take m ++ x.way.drop (m + 1)).length := ⟨_, rfl⟩); (rw [← hn2] at hv2); (replace hn2 := Lib.hid hn2); (subst hv2); (obtain ⟨⟨k02, k12, k22, k32, k42, k52⟩, f02, f12, f22, f32, f42, f52⟩ := blc6 (bl_below HG.out hW2)); (have hlg2 := bl_lt (bl_below HG.out hW2)))
        | fail "no arm"))
    all_goals
      obtain ⟨e1, e2, e3, e4⟩ := put_end hW2 ho2 HG.out
      exact HK.out _ _ ⟨_, _, st_of 19 (by rfl), rfl, rfl, rfl, e1, e2, e3, e4⟩
  · obtain ⟨AD, cD, HD, HRD⟩ : ∃ AD cD, Hid (Value.slice (some ⟨bl, ol + (m + 1) * 5, none⟩) (x.way.length - (m + 1)) (cW - (m + 1)) = .slice AD (x.way.drop (m + 1)).length cD) ∧ Hid (∀ w', Below W.heap.size W w' → Rd w' AD (x.way.drop (m + 1))) :=
      ⟨_, _, congrArg (fun k => Value.slice (some ⟨bl, ol + (m + 1) * 5, none⟩) k (cW - (m + 1))) List.length_drop.symm, fun w' hb => (HR.out.below hb).dropAt (m + 1)⟩
    refine wp_region_noPanic ?_
    go_region_law
      ((first
        | ((refine step_app (α := Lt) _ W.heap.size rfl (.tmp 5) (.tmp 9) 22 33 _ 48 (by rfl) Tryz.underlying22 infoW rfl (by decide) (by decide) (.slice (some ⟨W.heap.size, 0, none⟩) 0 0) [] (x.way.take m) (some ⟨bl, ol, none⟩) cW (by rfl) (show _ = _ from congrArg (fun n => Value.slice (some ⟨bl, ol, none⟩) n cW) HML.out.symm) (Below.size (B := W.heap.size) (by (repeat (first | (with_reducible assumption) | (with_reducible exact Below.refl _ _) | (with_reducible refine below_alloc ?_ _) | (with_reducible refine Below.drew ?_))))) (Own.fresh W _ _ _ rfl (Nat.le_refl _)) (HRT.out _ (by (repeat (first | (with_reducible assumption) | (with_reducible exact Below.refl _ _) | (with_reducible refine below_alloc ?_ _) | (with_reducible refine Below.drew ?_))))) (by rw [HML.out]; exact HL.out) ?_); (intro v1 w1 ho1 hb1 hg1); (have hW1 : Below W.heap.size W w1 := Below.trans (B := W.heap.size) (by (repeat (first | (with_reducible assumption) | (with_reducible exact Below.refl _ _) | (with_reducible refine below_alloc ?_ _) | (with_reducible refine Below.drew ?_)))) hb1); (obtain ⟨⟨k01, k11, k21, k31, k41, k51⟩, f01, f11, f21, f31, f41, f51⟩ := blc6 (bl_below HG.out hW1)); (have hlg1 := bl_lt (bl_below HG.out hW1)))
        | ((refine step_app (α := Lt) _ W.heap.size rfl (.tmp 10) (.tmp 15) 22 33 _ 48 (by rfl) Tryz.underlying22 infoW rfl (by decide) (by decide) v1 (x.way.take m) (x.way.drop (m + 1)) AD cD (by rfl) (show _ = _ from HD.out) (Below.size (B := W.heap.size) (by (repeat (first | (with_reducible assumption) | (with_reducible exact Below.refl _ _) | (with_reducible refine below_alloc ?_ _) | (with_reducible refine Below.drew ?_))))) ho1 (HRD.out _ (by (repeat (first | (with_reducible assumption) | (with_reducible exact Below.refl _ _) | (with_reducible refine below_alloc ?_ _) | (with_reducible refine Below.drew ?_))))) (by rw [HML.out]; exact HL1.out) ?_); (intro v2 w2 ho2 hb2 hg2); (have hW2 : Below W.heap.size W w2 := Below.trans (B := W.heap.size) (by (repeat (first | (with_reducible assumption) | (with_reducible exact Below.refl _ _) | (with_reducible refine below_alloc ?_ _) | (with_reducible refine Below.drew ?_)))) hb2); (obtain ⟨A2, c2, hv2, -, -⟩ := ho2.slice); (obtain ⟨n2, hn2⟩ : ∃ n2, n2 = (x.way.take m ++ x.way.drop (m + 1)).length := ⟨_, rfl⟩); (rw [← hn2] at hv2); (replace hn2 := Lib.hid hn2); (subst hv2); (obtain ⟨⟨k02, k12, k22, k32, k42, k52⟩, f02, f12, f22, f32, f42, f52⟩ := blc6 (bl_below HG.out hW2)); (have hlg2 := bl_lt (bl_below HG.out hW2)))
        | fail "no arm"))
    all_goals
      obtain ⟨e1, e2, e3, e4⟩ := put_end hW2 ho2 HG.out
      exact HK.out _ _ ⟨_, _, st_of 19 (by rfl), rfl, rfl, rfl, e1, e2, e3, e4⟩
end Go.Proofs.YthlbmcfliejdiaaGreat
end

section
set_option linter.unusedVariables false
set_option linter.unusedSimpArgs false
namespace Go.Proofs.YthlbmcfliejdiaaGreat
open Go.RowKit

set_option maxHeartbeats 4000000 in
set_option maxRecDepth 100000 in
theorem Rwithout_any (x : Nt) (m : Nat) (AW AC AT : Option Addr) (cW cC cT : Nat) (w : World) (hW : Rd w AW x.way) (hcap : x.way.length ≤ cW) (hmx : m < x.way.length) (hl : x.way.length ≤ 10000000) :
    Calls Tryz.prog 45 #[.agg #[.int .i64 x.nodes, .int .i64 x.now, .int .i64 x.next, .slice AW x.way.length cW, .slice AC x.cuts.length cC, .slice AT x.timers.length cT], .int .i64 (m : Int)] w fun e w' => ∃ A c, e = .returned (.agg #[.int .i64 x.nodes, .int .i64 x.now, .int .i64 x.next, .slice A (x.way.eraseIdx m).length c, .slice AC x.cuts.length cC, .slice AT x.timers.length cT]) ∧
      Own w' w.heap.size 33 (.slice A (x.way.eraseIdx m).length c) (x.way.eraseIdx m) ∧ (x.way.eraseIdx m).length ≤ c ∧ Below w.heap.size w w' := by
  obtain ⟨w0, hw0⟩ : ∃ w0, w0 = (w.alloc (.cells #[.int .i64 x.nodes, .int .i64 x.now, .int .i64 x.next, .slice AW x.way.length cW, .slice AC x.cuts.length cC, .slice AT x.timers.length cT] 26)).alloc (.cells #[.int .i64 0, .int .i64 0, .int .i64 0, .slice none 0 0, .slice none 0 0, .slice none 0 0] 26) := ⟨_, rfl⟩
  have HB0 : Hid (Below w.heap.size w w0) := by rw [hw0]; exact below_alloc (below_alloc (Below.refl _ _) _) _
  have HG0 : Hid (w0.heap[w.heap.size]? = some (.cells #[.int .i64 x.nodes, .int .i64 x.now, .int .i64 x.next, .slice AW x.way.length cW, .slice AC x.cuts.length cC, .slice AT x.timers.length cT] 26 (0, 0))) := by rw [hw0]; exact bl_alloc (bl_new _ _) _
  have HM0 : Hid (w0.heap[w.heap.size + 1]? = some (.cells #[.int .i64 0, .int .i64 0, .int .i64 0, .slice none 0 0, .slice none 0 0, .slice none 0 0] 26 (0, 0))) := by rw [hw0]; exact bl_new2 _ _ _
  have HS0 : Hid (w0.heap.size = w.heap.size + 2) := by rw [hw0]; show _ = _; simp
  have HR := Lib.hid (hW.below HB0.out)
  have HW0 := Lib.hid hw0
  clear hw0 hW
  go_enter Tryz.func45, Tryz.ntmps45
  go_upto_region 1 with fail
  rw [← HW0.out]
  clear HW0
  refine wp_st 19 (by rfl) fun f0 hf0 => ?_
  refine wp_cut (fun a wx => ∃ f' u, a = st 19 f' ∧ f' 1 = .int .i64 (m : Int) ∧ f' 2 = .pointer (some ⟨w.heap.size, 0, none⟩) ∧ f' 4 = .pointer (some ⟨w.heap.size + 1, 0, none⟩) ∧ Hid (Own wx w0.heap.size 33 u (x.way.take m ++ x.way.drop (m + 1))) ∧ Hid (wx.heap[w.heap.size]? = some (.cells #[.int .i64 x.nodes, .int .i64 x.now, .int .i64 x.next, u, .slice AC x.cuts.length cC, .slice AT x.timers.length cT] 26 (0, 0))) ∧ Hid (Below w.heap.size w0 wx) ∧ Hid (∀ k o, k ≠ w.heap.size → w0.heap[k]? = some o → wx.heap[k]? = some o)) ?rest ?first
  case first =>
    intro J K' hJ hK'
    exact putWithout x f0 w0 w.heap.size AW AC AT cW cC cT m _ K' _ ((hf0 4).trans rfl) ((hf0 2).trans rfl) ((hf0 1).trans rfl) HG0 hmx hcap HR hl
      (fun a w' ⟨f', u, he, h1, h2, h4, hO, hG, hB, hF⟩ => hK' _ _ (Met.intro (hJ _ _ ⟨f', u, he, h1, h2, h4, hO, hG, hB, hF⟩)))
  case rest =>
    rintro a' w5 ⟨f', u, rfl, h1, h2, h4, HO, HG, HB, HF⟩
    rw [show st 19 f' = ⟨#[f' 0, f' 1, f' 2, f' 3, f' 4, f' 5, f' 6, f' 7, f' 8, f' 9, f' 10, f' 11, f' 12, f' 13, f' 14, f' 15, f' 16, f' 17, f' 18], []⟩ by rfl, h1, h2, h4]
    rw [← List.eraseIdx_eq_take_drop_succ] at HO
    obtain ⟨A, c, rfl, hc, hR⟩ := HO.out.slice
    have HC := Lib.hid hc
    have hm5 := HF.out (w.heap.size + 1) _ (by omega) HM0.out
    obtain ⟨⟨k0, k1, k2, k3, k4, k5⟩, f0, f1, f2, f3, f4, f5⟩ := blc6 HG.out
    have hlg := bl_lt HG.out
    obtain ⟨⟨d0, d1, d2, d3, d4, d5⟩, g0, g1, g2, g3, g4, g5⟩ := blc6 hm5
    have hlm := bl_lt hm5
    have hs0 := HS0.out
    have HM5 := Lib.hid hm5
    clear hf0 f0 h1 h2 h4 hR hc hm5
    go_wp2
    exact ret_c Tryz.results45 (w.heap.size + 1) 26 _ _ rfl (bl_all6 HM5.out _ _ _ _ _ _) Tryz.underlying26 rfl sizeNet rfl ⟨A, c, rfl, (own_far6w HO.out (by omega) _ _ _ _ _ _).weaken (by omega), HC.out, below_set6 (HB0.out.trans HB.out) (by omega) _ _ _ _ _ _⟩
set_option maxHeartbeats 4000000 in
set_option maxRecDepth 100000 in
theorem RLose_any (x : Nt) (i : Int) (w : World) (AW AC AT : Option Addr) (cW cC cT : Nat) (hW : Rd w AW x.way) (hC : Rd w AC x.cuts) (hT : Rd w AT x.timers) (hcap : x.way.length ≤ cW) (hlc : x.cuts.length ≤ 10000000) (hlw : x.way.length ≤ 10000000) (hlt : x.timers.length ≤ 10000000) :
    Calls Tryz.prog 13 #[.agg #[.int .i64 x.nodes, .int .i64 x.now, .int .i64 x.next, .slice AW x.way.length cW, .slice AC x.cuts.length cC, .slice AT x.timers.length cT], .int .i64 i] w fun e w' => ∃ v, e = .returned v ∧ MadeA w.heap.size w' x AW AC AT v (formR x (loseM x i)) ∧ Below w.heap.size w w' := by
  obtain ⟨w0, hw0⟩ : ∃ w0, w0 = (w.alloc (.cells #[.int .i64 x.nodes, .int .i64 x.now, .int .i64 x.next, .slice AW x.way.length cW, .slice AC x.cuts.length cC, .slice AT x.timers.length cT] 26)).alloc (.cells #[.int .i64 0, .int .i64 0, .int .i64 0, .slice none 0 0, .slice none 0 0, .slice none 0 0, .int .i64 0, .int .i64 0, .int .i64 0, .int .i64 0, .int .i64 0, .string ⟨#[]⟩, .slice none 0 0, .int .i64 0] 35) := ⟨_, rfl⟩
  obtain ⟨hb0, hz0, hm0, hs0⟩ := made_start hw0
  have HV : Hid (∀ W, Below w0.heap.size w0 W → NetV W (.agg #[.int .i64 x.nodes, .int .i64 x.now, .int .i64 x.next, .slice AW x.way.length cW, .slice AC x.cuts.length cC, .slice AT x.timers.length cT]) x) := fun W hb => ⟨AW, cW, AC, cC, AT, cT, rfl, hW.below (below_trans hb0 hb), hC.below (below_trans hb0 hb), hT.below (below_trans hb0 hb)⟩
  have his := fun (v : Value) (w : World) (hV : NetV w v x) => RIs_any x v w hV hlc hlw hlt
  have HB0 := Lib.hid hb0
  have HZ0 := Lib.hid hz0
  have HM0 := Lib.hid hm0
  have HS0 := Lib.hid hs0
  have HW0 := Lib.hid hw0
  have HC := Lib.hid (hC.below hb0)
  have HT := Lib.hid (hT.below hb0)
  have HWW := Lib.hid hW
  have HTW := Lib.hid hT
  have HCW := Lib.hid hC
  clear hb0 hz0 hm0 hs0 hw0 hW hC hT
  cases hc : checkB x
  · rw [hc] at his
    have HIS := Lib.hid his
    have HN : Hid (formR x (loseM x i) = errR 2) := if_pos hc
    clear his hc
    go_enter Tryz.func13, Tryz.ntmps13
    go_wp2_with fail
    rw [← HW0.out]
    clear HW0
    refine calls_below (HIS.out _ _ (HV.out _ (Below.refl _ _))) ?_
    intro w1 hb1
    have hz1 := bl_below HZ0.out hb1
    obtain ⟨⟨k0, k1, k2, k3, k4, k5⟩, -⟩ := blc6 hz1
    have hlz := bl_lt hz1
    go_wp2_with fail
    refine calls_below (Rfailed_any 2 _) ?_
    intro w9 hb9
    have hb9' := below_trans hb1 hb9
    have hm9 := bl_below HM0.out hb9'
    have hl9 := bl_lt hm9
    obtain ⟨⟨d0, d1, d2, d3, d4, d5, d6, d7, d8, d9, d10, d11, d12, d13⟩, fz⟩ := blc14 hm9
    go_wp2
    exact ret_c Tryz.results13 (w.heap.size + 1) 35 _ _ rfl (put14_all hm9) Tryz.underlying35 rfl sizeMade rfl ⟨_, rfl, by rw [HN.out]; exact fun W _ _ _ _ => MadeC_err W 2, put14_below (below_trans HB0.out hb9') (by omega)⟩
  rw [hc] at his
  have HIS := Lib.hid his
  have HF : Hid (formR x (loseM x i) = loseM x i) := if_neg (by rw [hc]; decide)
  have HOK : Hid (Ok x) := (ok_iff x).1 hc
  clear his hc
  have hhas := fun (v : Value) (w : World) (hV : NetV w v x) => Rhas_any x i v w hV
  cases hh : hasB x.way.length i
  · rw [hh] at hhas
    have hHas := Lib.hid hhas
    have HN : Hid (formR x (loseM x i) = errR 4) := HF.out.trans (if_pos hh)
    clear hhas hh
    go_enter Tryz.func13, Tryz.ntmps13
    go_wp2_with fail
    rw [← HW0.out]
    clear HW0
    refine calls_below (HIS.out _ _ (HV.out _ (Below.refl _ _))) ?_
    intro w1 hb1
    have hz1 := bl_below HZ0.out hb1
    obtain ⟨⟨k0, k1, k2, k3, k4, k5⟩, -⟩ := blc6 hz1
    have hlz := bl_lt hz1
    go_wp2_with fail
    refine calls_below (hHas.out _ _ (HV.out _ hb1)) ?_
    intro w2 hb2
    replace hb2 := below_trans hb1 hb2
    clear hz1 k0 k1 k2 k3 k4 k5 hlz
    have hz1 := bl_below HZ0.out hb2
    obtain ⟨⟨k0, k1, k2, k3, k4, k5⟩, -⟩ := blc6 hz1
    have hlz := bl_lt hz1
    go_wp2_with fail
    refine calls_below (Rfailed_any 4 _) ?_
    intro w9 hb9
    have hb9' := below_trans hb2 hb9
    have hm9 := bl_below HM0.out hb9'
    have hl9 := bl_lt hm9
    obtain ⟨⟨d0, d1, d2, d3, d4, d5, d6, d7, d8, d9, d10, d11, d12, d13⟩, fz⟩ := blc14 hm9
    go_wp2
    exact ret_c Tryz.results13 (w.heap.size + 1) 35 _ _ rfl (put14_all hm9) Tryz.underlying35 rfl sizeMade rfl ⟨_, rfl, by rw [HN.out]; exact fun W _ _ _ _ => MadeC_err W 4, put14_below (below_trans HB0.out hb9') (by omega)⟩
  rw [hh] at hhas
  have hHas := Lib.hid hhas
  obtain ⟨m, hm, rfl⟩ : ∃ m : Nat, m < x.way.length ∧ i = (m : Int) := by
    have h := hh
    simp only [hasB, Bool.and_eq_true, decide_eq_true_eq] at h
    obtain ⟨m, rfl⟩ := Int.eq_ofNat_of_zero_le h.1
    exact ⟨m, by omega, rfl⟩
  obtain ⟨bb, off, l, rfl, hxl, c0, c1, c2, c3, c4⟩ := HWW.out.lt m hm
  have hll : x.way[m]? = some l := hxl.out
  have hml : ((m : Int)).toNat = m := rfl
  have HCL : Hid (∀ W, Below w0.heap.size w0 W → W.cell? ⟨bb, off + m * 5, none⟩ = some (.int .i64 l.id) ∧ W.cell? ⟨bb, off + m * 5 + 1, none⟩ = some (.int .i64 l.fr) ∧ W.cell? ⟨bb, off + m * 5 + 2, none⟩ = some (.int .i64 l.to) ∧ W.cell? ⟨bb, off + m * 5 + 3, none⟩ = some (.int .i64 l.rd) ∧ W.cell? ⟨bb, off + m * 5 + 4, none⟩ = some (.string l.data)) := fun W hb =>
    ⟨cell_below (below_trans HB0.out hb) c0, cell_below (below_trans HB0.out hb) c1, cell_below (below_trans HB0.out hb) c2, cell_below (below_trans HB0.out hb) c3, cell_below (below_trans HB0.out hb) c4⟩
  clear hhas hxl c0 c1 c2 c3 c4
  have HN : Hid (formR x (loseM x (m : Int)) = ⟨{ x with way := x.way.eraseIdx m }, 0, l, [], 0⟩) := HF.out.trans (by unfold loseM; rw [if_neg (by rw [hh]; decide), hml, hll])
  clear hh hll hml
  go_enter Tryz.func13, Tryz.ntmps13
  go_wp2_with fail
  rw [← HW0.out]
  clear HW0
  refine calls_below (HIS.out _ _ (HV.out _ (Below.refl _ _))) ?_
  intro w1 hb1
  have hz1 := bl_below HZ0.out hb1
  obtain ⟨⟨k0, k1, k2, k3, k4, k5⟩, -⟩ := blc6 hz1
  have hlz := bl_lt hz1
  go_wp2_with fail
  refine calls_below (hHas.out _ _ (HV.out _ hb1)) ?_
  intro w2 hb2
  replace hb2 := below_trans hb1 hb2
  clear hz1 k0 k1 k2 k3 k4 k5 hlz
  have hz1 := bl_below HZ0.out hb2
  obtain ⟨⟨k0, k1, k2, k3, k4, k5⟩, -⟩ := blc6 hz1
  have hlz := bl_lt hz1
  go_upto_region 5 with fail
  obtain ⟨c0, c1, c2, c3, c4⟩ := HCL.out _ hb2
  have hbb := World.block_lt_of_cell? _ _ c0
  refine wp_mixT [(0, true), (1, true), (3, true), (4, true), (5, true), (6, true), (7, true), (2, false)] 8 (fun w' => Below w2.heap.size w2 w')
    (by kernel_rfl) (by kernel_rfl) (by kernel_rfl) (by kernel_rfl) (by kernel_rfl) (fun d _ _ _ _ h => by cases d <;> exact h) (Below.refl _ _).drew ?_
  simp only [pick, List.map_cons, List.map_nil, List.getD_cons_zero, List.getD_cons_succ, List.drop_succ_cons, List.drop_zero]
  iterate 7
    apply mix_take
    case hw => rfl
    case hy => intro W hW; obtain ⟨hwc, -⟩ := bcell hW; go_simp; try rfl
    simp only [Act.put, List.setIfInBounds_toArray, List.set_cons_zero, List.set_cons_succ]
  refine mix_do fun K' hK' => ?_
  go_wp2_with fail
  refine (Rwithout_any x m (some ⟨bb, off, none⟩) AC AT cW cC cT _ (HWW.out.below ((below_trans HB0.out hb2).drew)) hcap hm hlw).mono ?_
  rintro e w7 ⟨A, c, rfl, hO7, hc7, hb7⟩
  have hb7' : Below w2.heap.size w2 w7 := below_trans (Below.refl _ w2).drew hb7
  go_wp2
  refine hK' _ _ hb7' (mix_nil ?_)
  clear hK' K'
  have HB7 := Lib.hid (below_trans hb2 hb7')
  have HO7 := Lib.hid hO7
  have HC7 := Lib.hid hc7
  have hm9 := bl_below HM0.out HB7.out
  have hl9 := bl_lt hm9
  have HSZ : Hid (w.heap.size + 2 ≤ w2.heap.size) := by show _ ≤ _; have h1 := HS0.out; have h2 := (hb2).size; omega
  obtain ⟨⟨d0, d1, d2, d3, d4, d5, d6, d7, d8, d9, d10, d11, d12, d13⟩, fz⟩ := blc14 hm9
  clear hO7 hc7 hb7 hb7' k0 k1 k2 k3 k4 k5 hlz hz1 c0 c1 c2 c3 c4
  go_wp2
  have hbl : Below w.heap.size w w7 := below_trans HB0.out HB7.out
  have hq := HSZ.out
  exact ret_c Tryz.results13 (w.heap.size + 1) 35 _ _ rfl (put14_all hm9) Tryz.underlying35 rfl sizeMade rfl ⟨_, rfl, by
    rw [HN.out]
    exact fun W hA _ hC hT => ⟨A, c, AC, cC, AT, cT, none, 0, rfl, ⟨A, c, AC, cC, AT, cT, rfl, Own.rd (Own.abv (Own.put14 HO7.out (by first | omega | (show _ < w2.heap.size; omega))) (by show w.heap.size ≤ w2.heap.size; omega) hA), hC, hT⟩, Rd.nil _ _, HC7.out⟩, put14_below hbl (by omega)⟩
set_option maxHeartbeats 4000000 in
set_option maxRecDepth 100000 in
theorem RDeliver_any (x : Nt) (i : Int) (w : World) (AW AC AT : Option Addr) (cW cC cT : Nat) (hW : Rd w AW x.way) (hC : Rd w AC x.cuts) (hT : Rd w AT x.timers) (hcap : x.way.length ≤ cW) (hlc : x.cuts.length ≤ 10000000) (hlw : x.way.length ≤ 10000000) (hlt : x.timers.length ≤ 10000000) :
    Calls Tryz.prog 11 #[.agg #[.int .i64 x.nodes, .int .i64 x.now, .int .i64 x.next, .slice AW x.way.length cW, .slice AC x.cuts.length cC, .slice AT x.timers.length cT], .int .i64 i] w fun e w' => ∃ v, e = .returned v ∧ MadeA w.heap.size w' x AW AC AT v (formR x (deliverM x i)) ∧ Below w.heap.size w w' := by
  obtain ⟨w0, hw0⟩ : ∃ w0, w0 = (w.alloc (.cells #[.int .i64 x.nodes, .int .i64 x.now, .int .i64 x.next, .slice AW x.way.length cW, .slice AC x.cuts.length cC, .slice AT x.timers.length cT] 26)).alloc (.cells #[.int .i64 0, .int .i64 0, .int .i64 0, .slice none 0 0, .slice none 0 0, .slice none 0 0, .int .i64 0, .int .i64 0, .int .i64 0, .int .i64 0, .int .i64 0, .string ⟨#[]⟩, .slice none 0 0, .int .i64 0] 35) := ⟨_, rfl⟩
  obtain ⟨hb0, hz0, hm0, hs0⟩ := made_start hw0
  have HV : Hid (∀ W, Below w0.heap.size w0 W → NetV W (.agg #[.int .i64 x.nodes, .int .i64 x.now, .int .i64 x.next, .slice AW x.way.length cW, .slice AC x.cuts.length cC, .slice AT x.timers.length cT]) x) := fun W hb => ⟨AW, cW, AC, cC, AT, cT, rfl, hW.below (below_trans hb0 hb), hC.below (below_trans hb0 hb), hT.below (below_trans hb0 hb)⟩
  have his := fun (v : Value) (w : World) (hV : NetV w v x) => RIs_any x v w hV hlc hlw hlt
  have HB0 := Lib.hid hb0
  have HZ0 := Lib.hid hz0
  have HM0 := Lib.hid hm0
  have HS0 := Lib.hid hs0
  have HW0 := Lib.hid hw0
  have HC := Lib.hid (hC.below hb0)
  have HT := Lib.hid (hT.below hb0)
  have HWW := Lib.hid hW
  have HTW := Lib.hid hT
  have HCW := Lib.hid hC
  clear hb0 hz0 hm0 hs0 hw0 hW hC hT
  cases hc : checkB x
  · rw [hc] at his
    have HIS := Lib.hid his
    have HN : Hid (formR x (deliverM x i) = errR 2) := if_pos hc
    clear his hc
    go_enter Tryz.func11, Tryz.ntmps11
    go_wp2_with fail
    rw [← HW0.out]
    clear HW0
    refine calls_below (HIS.out _ _ (HV.out _ (Below.refl _ _))) ?_
    intro w1 hb1
    have hz1 := bl_below HZ0.out hb1
    obtain ⟨⟨k0, k1, k2, k3, k4, k5⟩, -⟩ := blc6 hz1
    have hlz := bl_lt hz1
    go_wp2_with fail
    refine calls_below (Rfailed_any 2 _) ?_
    intro w9 hb9
    have hb9' := below_trans hb1 hb9
    have hm9 := bl_below HM0.out hb9'
    have hl9 := bl_lt hm9
    obtain ⟨⟨d0, d1, d2, d3, d4, d5, d6, d7, d8, d9, d10, d11, d12, d13⟩, fz⟩ := blc14 hm9
    go_wp2
    exact ret_c Tryz.results11 (w.heap.size + 1) 35 _ _ rfl (put14_all hm9) Tryz.underlying35 rfl sizeMade rfl ⟨_, rfl, by rw [HN.out]; exact fun W _ _ _ _ => MadeC_err W 2, put14_below (below_trans HB0.out hb9') (by omega)⟩
  rw [hc] at his
  have HIS := Lib.hid his
  have HF : Hid (formR x (deliverM x i) = deliverM x i) := if_neg (by rw [hc]; decide)
  have HOK : Hid (Ok x) := (ok_iff x).1 hc
  clear his hc
  have hhas := fun (v : Value) (w : World) (hV : NetV w v x) => Rhas_any x i v w hV
  cases hh : hasB x.way.length i
  · rw [hh] at hhas
    have hHas := Lib.hid hhas
    have HN : Hid (formR x (deliverM x i) = errR 4) := HF.out.trans (if_pos hh)
    clear hhas hh
    go_enter Tryz.func11, Tryz.ntmps11
    go_wp2_with fail
    rw [← HW0.out]
    clear HW0
    refine calls_below (HIS.out _ _ (HV.out _ (Below.refl _ _))) ?_
    intro w1 hb1
    have hz1 := bl_below HZ0.out hb1
    obtain ⟨⟨k0, k1, k2, k3, k4, k5⟩, -⟩ := blc6 hz1
    have hlz := bl_lt hz1
    go_wp2_with fail
    refine calls_below (hHas.out _ _ (HV.out _ hb1)) ?_
    intro w2 hb2
    replace hb2 := below_trans hb1 hb2
    clear hz1 k0 k1 k2 k3 k4 k5 hlz
    have hz1 := bl_below HZ0.out hb2
    obtain ⟨⟨k0, k1, k2, k3, k4, k5⟩, -⟩ := blc6 hz1
    have hlz := bl_lt hz1
    go_wp2_with fail
    refine calls_below (Rfailed_any 4 _) ?_
    intro w9 hb9
    have hb9' := below_trans hb2 hb9
    have hm9 := bl_below HM0.out hb9'
    have hl9 := bl_lt hm9
    obtain ⟨⟨d0, d1, d2, d3, d4, d5, d6, d7, d8, d9, d10, d11, d12, d13⟩, fz⟩ := blc14 hm9
    go_wp2
    exact ret_c Tryz.results11 (w.heap.size + 1) 35 _ _ rfl (put14_all hm9) Tryz.underlying35 rfl sizeMade rfl ⟨_, rfl, by rw [HN.out]; exact fun W _ _ _ _ => MadeC_err W 4, put14_below (below_trans HB0.out hb9') (by omega)⟩
  rw [hh] at hhas
  have hHas := Lib.hid hhas
  obtain ⟨m, hm, rfl⟩ : ∃ m : Nat, m < x.way.length ∧ i = (m : Int) := by
    have h := hh
    simp only [hasB, Bool.and_eq_true, decide_eq_true_eq] at h
    obtain ⟨m, rfl⟩ := Int.eq_ofNat_of_zero_le h.1
    exact ⟨m, by omega, rfl⟩
  obtain ⟨bb, off, l, rfl, hxl, c0, c1, c2, c3, c4⟩ := HWW.out.lt m hm
  have hll : x.way[m]? = some l := hxl.out
  have hml : ((m : Int)).toNat = m := rfl
  have HCL : Hid (∀ W, Below w0.heap.size w0 W → W.cell? ⟨bb, off + m * 5, none⟩ = some (.int .i64 l.id) ∧ W.cell? ⟨bb, off + m * 5 + 1, none⟩ = some (.int .i64 l.fr) ∧ W.cell? ⟨bb, off + m * 5 + 2, none⟩ = some (.int .i64 l.to) ∧ W.cell? ⟨bb, off + m * 5 + 3, none⟩ = some (.int .i64 l.rd) ∧ W.cell? ⟨bb, off + m * 5 + 4, none⟩ = some (.string l.data)) := fun W hb =>
    ⟨cell_below (below_trans HB0.out hb) c0, cell_below (below_trans HB0.out hb) c1, cell_below (below_trans HB0.out hb) c2, cell_below (below_trans HB0.out hb) c3, cell_below (below_trans HB0.out hb) c4⟩
  clear hhas hxl c0 c1 c2 c3 c4
  have hcan := fun (v : Value) (w : World) (hV : NetV w v x) => Rcan_any x l v w hV hlc
  cases hcb : canB x l
  · rw [hcb] at hcan
    have hCan := Lib.hid hcan
    have HN : Hid (formR x (deliverM x (m : Int)) = errR 6) := HF.out.trans (by unfold deliverM; rw [if_neg (by rw [hh]; decide), hml, hll]; show (if canB x l = false then _ else _) = _; rw [if_pos hcb])
    clear hcan hcb hh hll hml
    go_enter Tryz.func11, Tryz.ntmps11
    go_wp2_with fail
    rw [← HW0.out]
    clear HW0
    refine calls_below (HIS.out _ _ (HV.out _ (Below.refl _ _))) ?_
    intro w1 hb1
    have hz1 := bl_below HZ0.out hb1
    obtain ⟨⟨k0, k1, k2, k3, k4, k5⟩, -⟩ := blc6 hz1
    have hlz := bl_lt hz1
    go_wp2_with fail
    refine calls_below (hHas.out _ _ (HV.out _ hb1)) ?_
    intro w2 hb2
    replace hb2 := below_trans hb1 hb2
    clear hz1 k0 k1 k2 k3 k4 k5 hlz
    have hz1 := bl_below HZ0.out hb2
    obtain ⟨⟨k0, k1, k2, k3, k4, k5⟩, -⟩ := blc6 hz1
    have hlz := bl_lt hz1
    go_upto_region 5 with fail
    obtain ⟨c0, c1, c2, c3, c4⟩ := HCL.out _ hb2
    have hbb := World.block_lt_of_cell? _ _ c0
    refine wp_still_tail 6 (by kernel_rfl) (by kernel_rfl) ?_
    simp only [List.take_succ_cons, List.take_zero, List.drop_succ_cons, List.drop_zero]
    repeat still_step
    refine wpStill_nil ?_
    go_wp2_with fail
    refine calls_below (hCan.out _ _ ((HV.out _ hb2).drew)) ?_
    intro w3 hb3
    replace hb3 := below_trans (below_trans hb2 (Below.refl _ w2).drew) hb3
    clear hz1 k0 k1 k2 k3 k4 k5 hlz hbb
    clear c0 c1 c2 c3 c4
    have hz1 := bl_below HZ0.out hb3
    obtain ⟨⟨k0, k1, k2, k3, k4, k5⟩, -⟩ := blc6 hz1
    have hlz := bl_lt hz1
    go_wp2_with fail
    refine calls_below (Rfailed_any 6 _) ?_
    intro w9 hb9
    have hb9' := below_trans hb3 hb9
    have hm9 := bl_below HM0.out hb9'
    have hl9 := bl_lt hm9
    obtain ⟨⟨d0, d1, d2, d3, d4, d5, d6, d7, d8, d9, d10, d11, d12, d13⟩, fz⟩ := blc14 hm9
    go_wp2
    exact ret_c Tryz.results11 (w.heap.size + 1) 35 _ _ rfl (put14_all hm9) Tryz.underlying35 rfl sizeMade rfl ⟨_, rfl, by rw [HN.out]; exact fun W _ _ _ _ => MadeC_err W 6, put14_below (below_trans HB0.out hb9') (by omega)⟩
  rw [hcb] at hcan
  have hCan := Lib.hid hcan
  have HN : Hid (formR x (deliverM x (m : Int)) = ⟨{ x with way := x.way.eraseIdx m }, 0, l, [], 0⟩) := HF.out.trans (by unfold deliverM; rw [if_neg (by rw [hh]; decide), hml, hll]; show (if canB x l = false then _ else _) = _; rw [if_neg (by rw [hcb]; decide)])
  clear hcan hcb hh hll hml
  go_enter Tryz.func11, Tryz.ntmps11
  go_wp2_with fail
  rw [← HW0.out]
  clear HW0
  refine calls_below (HIS.out _ _ (HV.out _ (Below.refl _ _))) ?_
  intro w1 hb1
  have hz1 := bl_below HZ0.out hb1
  obtain ⟨⟨k0, k1, k2, k3, k4, k5⟩, -⟩ := blc6 hz1
  have hlz := bl_lt hz1
  go_wp2_with fail
  refine calls_below (hHas.out _ _ (HV.out _ hb1)) ?_
  intro w2 hb2
  replace hb2 := below_trans hb1 hb2
  clear hz1 k0 k1 k2 k3 k4 k5 hlz
  have hz1 := bl_below HZ0.out hb2
  obtain ⟨⟨k0, k1, k2, k3, k4, k5⟩, -⟩ := blc6 hz1
  have hlz := bl_lt hz1
  go_upto_region 5 with fail
  obtain ⟨c0, c1, c2, c3, c4⟩ := HCL.out _ hb2
  have hbb := World.block_lt_of_cell? _ _ c0
  refine wp_still_tail 6 (by kernel_rfl) (by kernel_rfl) ?_
  simp only [List.take_succ_cons, List.take_zero, List.drop_succ_cons, List.drop_zero]
  repeat still_step
  refine wpStill_nil ?_
  go_wp2_with fail
  refine calls_below (hCan.out _ _ ((HV.out _ hb2).drew)) ?_
  intro w3 hb3
  replace hb3 := below_trans (below_trans hb2 (Below.refl _ w2).drew) hb3
  clear hz1 k0 k1 k2 k3 k4 k5 hlz hbb
  clear c0 c1 c2 c3 c4
  have hz1 := bl_below HZ0.out hb3
  obtain ⟨⟨k0, k1, k2, k3, k4, k5⟩, -⟩ := blc6 hz1
  have hlz := bl_lt hz1
  go_upto_region 7 with fail
  obtain ⟨c0, c1, c2, c3, c4⟩ := HCL.out _ hb3
  have hbb := World.block_lt_of_cell? _ _ c0
  refine wp_mixT [(0, true), (1, true), (3, true), (4, true), (5, true), (6, true), (7, true), (2, false)] 8 (fun w' => Below w3.heap.size w3 w')
    (by kernel_rfl) (by kernel_rfl) (by kernel_rfl) (by kernel_rfl) (by kernel_rfl) (fun d _ _ _ _ h => by cases d <;> exact h) (Below.refl _ _).drew ?_
  simp only [pick, List.map_cons, List.map_nil, List.getD_cons_zero, List.getD_cons_succ, List.drop_succ_cons, List.drop_zero]
  iterate 7
    apply mix_take
    case hw => rfl
    case hy => intro W hW; obtain ⟨hwc, -⟩ := bcell hW; go_simp; try rfl
    simp only [Act.put, List.setIfInBounds_toArray, List.set_cons_zero, List.set_cons_succ]
  refine mix_do fun K' hK' => ?_
  go_wp2_with fail
  refine (Rwithout_any x m (some ⟨bb, off, none⟩) AC AT cW cC cT _ (HWW.out.below ((below_trans HB0.out hb3).drew)) hcap hm hlw).mono ?_
  rintro e w7 ⟨A, c, rfl, hO7, hc7, hb7⟩
  have hb7' : Below w3.heap.size w3 w7 := below_trans (Below.refl _ w3).drew hb7
  go_wp2
  refine hK' _ _ hb7' (mix_nil ?_)
  clear hK' K'
  have HB7 := Lib.hid (below_trans hb3 hb7')
  have HO7 := Lib.hid hO7
  have HC7 := Lib.hid hc7
  have hm9 := bl_below HM0.out HB7.out
  have hl9 := bl_lt hm9
  have HSZ : Hid (w.heap.size + 2 ≤ w3.heap.size) := by show _ ≤ _; have h1 := HS0.out; have h2 := (hb3).size; omega
  obtain ⟨⟨d0, d1, d2, d3, d4, d5, d6, d7, d8, d9, d10, d11, d12, d13⟩, fz⟩ := blc14 hm9
  clear hO7 hc7 hb7 hb7' k0 k1 k2 k3 k4 k5 hlz hz1 c0 c1 c2 c3 c4
  go_wp2
  have hbl : Below w.heap.size w w7 := below_trans HB0.out HB7.out
  have hq := HSZ.out
  exact ret_c Tryz.results11 (w.heap.size + 1) 35 _ _ rfl (put14_all hm9) Tryz.underlying35 rfl sizeMade rfl ⟨_, rfl, by
    rw [HN.out]
    exact fun W hA _ hC hT => ⟨A, c, AC, cC, AT, cT, none, 0, rfl, ⟨A, c, AC, cC, AT, cT, rfl, Own.rd (Own.abv (Own.put14 HO7.out (by first | omega | (show _ < w3.heap.size; omega))) (by show w.heap.size ≤ w3.heap.size; omega) hA), hC, hT⟩, Rd.nil _ _, HC7.out⟩, put14_below hbl (by omega)⟩
end Go.Proofs.YthlbmcfliejdiaaGreat
end

section
set_option linter.unusedVariables false
set_option linter.unusedSimpArgs false
namespace Go.Proofs.YthlbmcfliejdiaaGreat
open Go.RowKit

set_option maxHeartbeats 4000000 in
set_option maxRecDepth 100000 in
theorem RSend_any (x : Nt) (a b : Int) (data : ByteArray) (w : World) (AW AC AT : Option Addr) (cW cC cT : Nat) (hW : Rd w AW x.way) (hC : Rd w AC x.cuts) (hT : Rd w AT x.timers) (hcap : x.way.length ≤ cW) (hlc : x.cuts.length ≤ 10000000) (hlw : x.way.length ≤ 10000000) (hlt : x.timers.length ≤ 10000000) :
    Calls Tryz.prog 8 #[.agg #[.int .i64 x.nodes, .int .i64 x.now, .int .i64 x.next, .slice AW x.way.length cW, .slice AC x.cuts.length cC, .slice AT x.timers.length cT], .int .i64 a, .int .i64 b, .string data] w fun e w' => ∃ v, e = .returned v ∧ MadeA w.heap.size w' x AW AC AT v (formR x (sendM x a b data)) ∧ Below w.heap.size w w' := by
  obtain ⟨w0, hw0⟩ : ∃ w0, w0 = (w.alloc (.cells #[.int .i64 x.nodes, .int .i64 x.now, .int .i64 x.next, .slice AW x.way.length cW, .slice AC x.cuts.length cC, .slice AT x.timers.length cT] 26)).alloc (.cells #[.int .i64 0, .int .i64 0, .int .i64 0, .slice none 0 0, .slice none 0 0, .slice none 0 0, .int .i64 0, .int .i64 0, .int .i64 0, .int .i64 0, .int .i64 0, .string ⟨#[]⟩, .slice none 0 0, .int .i64 0] 35) := ⟨_, rfl⟩
  obtain ⟨hb0, hz0, hm0, hs0⟩ := made_start hw0
  have HV : Hid (∀ W, Below w0.heap.size w0 W → NetV W (.agg #[.int .i64 x.nodes, .int .i64 x.now, .int .i64 x.next, .slice AW x.way.length cW, .slice AC x.cuts.length cC, .slice AT x.timers.length cT]) x) := fun W hb => ⟨AW, cW, AC, cC, AT, cT, rfl, hW.below (below_trans hb0 hb), hC.below (below_trans hb0 hb), hT.below (below_trans hb0 hb)⟩
  have his := fun (v : Value) (w : World) (hV : NetV w v x) => RIs_any x v w hV hlc hlw hlt
  have HB0 := Lib.hid hb0
  have HZ0 := Lib.hid hz0
  have HM0 := Lib.hid hm0
  have HS0 := Lib.hid hs0
  have HW0 := Lib.hid hw0
  have HC := Lib.hid (hC.below hb0)
  have HT := Lib.hid (hT.below hb0)
  have HWW := Lib.hid hW
  have HTW := Lib.hid hT
  have HCW := Lib.hid hC
  clear hb0 hz0 hm0 hs0 hw0 hW hC hT
  cases hc : checkB x
  · rw [hc] at his
    have HIS := Lib.hid his
    have HN : Hid (formR x (sendM x a b data) = errR 2) := if_pos hc
    clear his hc
    go_enter Tryz.func8, Tryz.ntmps8
    go_wp2_with fail
    rw [← HW0.out]
    clear HW0
    refine calls_below (HIS.out _ _ (HV.out _ (Below.refl _ _))) ?_
    intro w1 hb1
    have hz1 := bl_below HZ0.out hb1
    obtain ⟨⟨k0, k1, k2, k3, k4, k5⟩, -⟩ := blc6 hz1
    have hlz := bl_lt hz1
    go_wp2_with fail
    refine calls_below (Rfailed_any 2 _) ?_
    intro w9 hb9
    have hb9' := below_trans hb1 hb9
    have hm9 := bl_below HM0.out hb9'
    have hl9 := bl_lt hm9
    obtain ⟨⟨d0, d1, d2, d3, d4, d5, d6, d7, d8, d9, d10, d11, d12, d13⟩, fz⟩ := blc14 hm9
    go_wp2
    exact ret_c Tryz.results8 (w.heap.size + 1) 35 _ _ rfl (put14_all hm9) Tryz.underlying35 rfl sizeMade rfl ⟨_, rfl, by rw [HN.out]; exact fun W _ _ _ _ => MadeC_err W 2, put14_below (below_trans HB0.out hb9') (by omega)⟩
  rw [hc] at his
  have HIS := Lib.hid his
  have HF : Hid (formR x (sendM x a b data) = sendM x a b data) := if_neg (by rw [hc]; decide)
  have HOK : Hid (Ok x) := (ok_iff x).1 hc
  clear his hc
  obtain ⟨bA, hA⟩ : ∃ b, isNodeB x.nodes a = b := ⟨_, rfl⟩
  obtain ⟨bB, hB⟩ : ∃ b', isNodeB x.nodes b = b' := ⟨_, rfl⟩
  obtain ⟨bE, hE⟩ : ∃ b', (a == b) = b' := ⟨_, rfl⟩
  obtain ⟨bD, hD⟩ : ∃ b', decide ((500000 : Int) < (data.size : Int)) = b' := ⟨_, rfl⟩
  have htw : sendB x a b data = (bA && bB && !bE && !bD) := by
    unfold sendB; rw [hA, hB, ← hE, ← hD]
    congr 1
    · congr 1
      rw [Bool.eq_iff_iff]; simp
    · rw [Bool.eq_iff_iff]; simp; omega
  have hnA : Hid (∀ w, Calls Tryz.prog 41 #[.agg #[.int .i64 x.nodes, .int .i64 x.now, .int .i64 x.next, .slice AW x.way.length cW, .slice AC x.cuts.length cC, .slice AT x.timers.length cT], .int .i64 a] w fun e w' => e = .returned (.bool bA) ∧ Below w.heap.size w w') := fun w => by have h := RisNode_any x.nodes x.now x.next a AW AC AT x.way.length cW x.cuts.length cC x.timers.length cT w; rwa [hA] at h
  have hnB : Hid (∀ w, Calls Tryz.prog 41 #[.agg #[.int .i64 x.nodes, .int .i64 x.now, .int .i64 x.next, .slice AW x.way.length cW, .slice AC x.cuts.length cC, .slice AT x.timers.length cT], .int .i64 b] w fun e w' => e = .returned (.bool bB) ∧ Below w.heap.size w w') := fun w => by have h := RisNode_any x.nodes x.now x.next b AW AC AT x.way.length cW x.cuts.length cC x.timers.length cT w; rwa [hB] at h
  have HTW := Lib.hid htw
  clear htw hA hB
  cases bA
  · have HN : Hid (formR x (sendM x a b data) = errR 1) := HF.out.trans (if_pos (HTW.out.trans rfl))
    clear hE hD
    go_enter Tryz.func8, Tryz.ntmps8
    go_wp2_with fail
    rw [← HW0.out]
    clear HW0
    refine calls_below (HIS.out _ _ (HV.out _ (Below.refl _ _))) ?_
    intro w1 hb1
    have hz1 := bl_below HZ0.out hb1
    obtain ⟨⟨k0, k1, k2, k3, k4, k5⟩, -⟩ := blc6 hz1
    have hlz := bl_lt hz1
    go_wp2_with fail
    refine calls_below (hnA.out _) ?_
    intro w2 hb2
    replace hb2 := below_trans hb1 hb2
    clear hz1 k0 k1 k2 k3 k4 k5 hlz
    have hz1 := bl_below HZ0.out hb2
    obtain ⟨⟨k0, k1, k2, k3, k4, k5⟩, -⟩ := blc6 hz1
    have hlz := bl_lt hz1
    go_wp2_with fail
    refine calls_below (Rfailed_any 1 _) ?_
    intro w9 hb9
    have hb9' := below_trans hb2 hb9
    have hm9 := bl_below HM0.out hb9'
    have hl9 := bl_lt hm9
    obtain ⟨⟨d0, d1, d2, d3, d4, d5, d6, d7, d8, d9, d10, d11, d12, d13⟩, fz⟩ := blc14 hm9
    go_wp2
    exact ret_c Tryz.results8 (w.heap.size + 1) 35 _ _ rfl (put14_all hm9) Tryz.underlying35 rfl sizeMade rfl ⟨_, rfl, by rw [HN.out]; exact fun W _ _ _ _ => MadeC_err W 1, put14_below (below_trans HB0.out hb9') (by omega)⟩
  cases bB
  · have HN : Hid (formR x (sendM x a b data) = errR 1) := HF.out.trans (if_pos (HTW.out.trans rfl))
    clear hE hD
    go_enter Tryz.func8, Tryz.ntmps8
    go_wp2_with fail
    rw [← HW0.out]
    clear HW0
    refine calls_below (HIS.out _ _ (HV.out _ (Below.refl _ _))) ?_
    intro w1 hb1
    have hz1 := bl_below HZ0.out hb1
    obtain ⟨⟨k0, k1, k2, k3, k4, k5⟩, -⟩ := blc6 hz1
    have hlz := bl_lt hz1
    go_wp2_with fail
    refine calls_below (hnA.out _) ?_
    intro w2 hb2
    replace hb2 := below_trans hb1 hb2
    clear hz1 k0 k1 k2 k3 k4 k5 hlz
    have hz1 := bl_below HZ0.out hb2
    obtain ⟨⟨k0, k1, k2, k3, k4, k5⟩, -⟩ := blc6 hz1
    have hlz := bl_lt hz1
    go_wp2_with fail
    refine calls_below (hnB.out _) ?_
    intro w3 hb3
    replace hb3 := below_trans hb2 hb3
    clear hz1 k0 k1 k2 k3 k4 k5 hlz
    have hz1 := bl_below HZ0.out hb3
    obtain ⟨⟨k0, k1, k2, k3, k4, k5⟩, -⟩ := blc6 hz1
    have hlz := bl_lt hz1
    go_wp2_with fail
    refine calls_below (Rfailed_any 1 _) ?_
    intro w9 hb9
    have hb9' := below_trans hb3 hb9
    have hm9 := bl_below HM0.out hb9'
    have hl9 := bl_lt hm9
    obtain ⟨⟨d0, d1, d2, d3, d4, d5, d6, d7, d8, d9, d10, d11, d12, d13⟩, fz⟩ := blc14 hm9
    go_wp2
    exact ret_c Tryz.results8 (w.heap.size + 1) 35 _ _ rfl (put14_all hm9) Tryz.underlying35 rfl sizeMade rfl ⟨_, rfl, by rw [HN.out]; exact fun W _ _ _ _ => MadeC_err W 1, put14_below (below_trans HB0.out hb9') (by omega)⟩
  cases bE
  rotate_left 1
  · have HN : Hid (formR x (sendM x a b data) = errR 1) := HF.out.trans (if_pos (HTW.out.trans rfl))
    clear hD
    go_enter Tryz.func8, Tryz.ntmps8
    go_wp2_with fail
    rw [← HW0.out]
    clear HW0
    refine calls_below (HIS.out _ _ (HV.out _ (Below.refl _ _))) ?_
    intro w1 hb1
    have hz1 := bl_below HZ0.out hb1
    obtain ⟨⟨k0, k1, k2, k3, k4, k5⟩, -⟩ := blc6 hz1
    have hlz := bl_lt hz1
    go_wp2_with fail
    refine calls_below (hnA.out _) ?_
    intro w2 hb2
    replace hb2 := below_trans hb1 hb2
    clear hz1 k0 k1 k2 k3 k4 k5 hlz
    have hz1 := bl_below HZ0.out hb2
    obtain ⟨⟨k0, k1, k2, k3, k4, k5⟩, -⟩ := blc6 hz1
    have hlz := bl_lt hz1
    go_wp2_with fail
    refine calls_below (hnB.out _) ?_
    intro w3 hb3
    replace hb3 := below_trans hb2 hb3
    clear hz1 k0 k1 k2 k3 k4 k5 hlz
    have hz1 := bl_below HZ0.out hb3
    obtain ⟨⟨k0, k1, k2, k3, k4, k5⟩, -⟩ := blc6 hz1
    have hlz := bl_lt hz1
    go_wp2_with fail
    refine calls_below (Rfailed_any 1 _) ?_
    intro w9 hb9
    have hb9' := below_trans hb3 hb9
    have hm9 := bl_below HM0.out hb9'
    have hl9 := bl_lt hm9
    obtain ⟨⟨d0, d1, d2, d3, d4, d5, d6, d7, d8, d9, d10, d11, d12, d13⟩, fz⟩ := blc14 hm9
    go_wp2
    exact ret_c Tryz.results8 (w.heap.size + 1) 35 _ _ rfl (put14_all hm9) Tryz.underlying35 rfl sizeMade rfl ⟨_, rfl, by rw [HN.out]; exact fun W _ _ _ _ => MadeC_err W 1, put14_below (below_trans HB0.out hb9') (by omega)⟩
  cases bD
  rotate_left 1
  · have HN : Hid (formR x (sendM x a b data) = errR 1) := HF.out.trans (if_pos (HTW.out.trans rfl))
    go_enter Tryz.func8, Tryz.ntmps8
    go_wp2_with fail
    rw [← HW0.out]
    clear HW0
    refine calls_below (HIS.out _ _ (HV.out _ (Below.refl _ _))) ?_
    intro w1 hb1
    have hz1 := bl_below HZ0.out hb1
    obtain ⟨⟨k0, k1, k2, k3, k4, k5⟩, -⟩ := blc6 hz1
    have hlz := bl_lt hz1
    go_wp2_with fail
    refine calls_below (hnA.out _) ?_
    intro w2 hb2
    replace hb2 := below_trans hb1 hb2
    clear hz1 k0 k1 k2 k3 k4 k5 hlz
    have hz1 := bl_below HZ0.out hb2
    obtain ⟨⟨k0, k1, k2, k3, k4, k5⟩, -⟩ := blc6 hz1
    have hlz := bl_lt hz1
    go_wp2_with fail
    refine calls_below (hnB.out _) ?_
    intro w3 hb3
    replace hb3 := below_trans hb2 hb3
    clear hz1 k0 k1 k2 k3 k4 k5 hlz
    have hz1 := bl_below HZ0.out hb3
    obtain ⟨⟨k0, k1, k2, k3, k4, k5⟩, -⟩ := blc6 hz1
    have hlz := bl_lt hz1
    go_wp2_with fail
    refine calls_below (Rfailed_any 1 _) ?_
    intro w9 hb9
    have hb9' := below_trans hb3 hb9
    have hm9 := bl_below HM0.out hb9'
    have hl9 := bl_lt hm9
    obtain ⟨⟨d0, d1, d2, d3, d4, d5, d6, d7, d8, d9, d10, d11, d12, d13⟩, fz⟩ := blc14 hm9
    go_wp2
    exact ret_c Tryz.results8 (w.heap.size + 1) 35 _ _ rfl (put14_all hm9) Tryz.underlying35 rfl sizeMade rfl ⟨_, rfl, by rw [HN.out]; exact fun W _ _ _ _ => MadeC_err W 1, put14_below (below_trans HB0.out hb9') (by omega)⟩
  have hTT : sendB x a b data = true := HTW.out.trans rfl
  clear HTW
  have hmo : sendM x a b data = if x.next = 1099511627776 then errR 3 else if x.way.length = 200 then errR 7 else ⟨{ x with next := x.next + 1, way := x.way ++ [⟨x.next, a, b, x.now, data⟩] }, x.next, ⟨x.next, a, b, x.now, data⟩, [], 0⟩ := if_neg (by rw [hTT]; decide)
  clear hTT
  cases q1 : (x.next == 1099511627776)
  rotate_left 1
  · have HN : Hid (formR x (sendM x a b data) = errR 3) := HF.out.trans (hmo.trans (if_pos (beq_iff_eq.1 q1)))
    clear hmo
    go_enter Tryz.func8, Tryz.ntmps8
    go_wp2_with fail
    rw [← HW0.out]
    clear HW0
    refine calls_below (HIS.out _ _ (HV.out _ (Below.refl _ _))) ?_
    intro w1 hb1
    have hz1 := bl_below HZ0.out hb1
    obtain ⟨⟨k0, k1, k2, k3, k4, k5⟩, -⟩ := blc6 hz1
    have hlz := bl_lt hz1
    go_wp2_with fail
    refine calls_below (hnA.out _) ?_
    intro w2 hb2
    replace hb2 := below_trans hb1 hb2
    clear hz1 k0 k1 k2 k3 k4 k5 hlz
    have hz1 := bl_below HZ0.out hb2
    obtain ⟨⟨k0, k1, k2, k3, k4, k5⟩, -⟩ := blc6 hz1
    have hlz := bl_lt hz1
    go_wp2_with fail
    refine calls_below (hnB.out _) ?_
    intro w3 hb3
    replace hb3 := below_trans hb2 hb3
    clear hz1 k0 k1 k2 k3 k4 k5 hlz
    have hz1 := bl_below HZ0.out hb3
    obtain ⟨⟨k0, k1, k2, k3, k4, k5⟩, -⟩ := blc6 hz1
    have hlz := bl_lt hz1
    go_wp2_with fail
    refine calls_below (Rfailed_any 3 _) ?_
    intro w9 hb9
    have hb9' := below_trans hb3 hb9
    have hm9 := bl_below HM0.out hb9'
    have hl9 := bl_lt hm9
    obtain ⟨⟨d0, d1, d2, d3, d4, d5, d6, d7, d8, d9, d10, d11, d12, d13⟩, fz⟩ := blc14 hm9
    go_wp2
    exact ret_c Tryz.results8 (w.heap.size + 1) 35 _ _ rfl (put14_all hm9) Tryz.underlying35 rfl sizeMade rfl ⟨_, rfl, by rw [HN.out]; exact fun W _ _ _ _ => MadeC_err W 3, put14_below (below_trans HB0.out hb9') (by omega)⟩
  rw [if_neg (beq_eq_false_iff_ne.1 q1)] at hmo
  cases q2 : ((x.way.length : Int) == 200)
  rotate_left 1
  · have HN : Hid (formR x (sendM x a b data) = errR 7) := HF.out.trans (hmo.trans (if_pos (by have := beq_iff_eq.1 q2; omega)))
    clear hmo
    go_enter Tryz.func8, Tryz.ntmps8
    go_wp2_with fail
    rw [← HW0.out]
    clear HW0
    refine calls_below (HIS.out _ _ (HV.out _ (Below.refl _ _))) ?_
    intro w1 hb1
    have hz1 := bl_below HZ0.out hb1
    obtain ⟨⟨k0, k1, k2, k3, k4, k5⟩, -⟩ := blc6 hz1
    have hlz := bl_lt hz1
    go_wp2_with fail
    refine calls_below (hnA.out _) ?_
    intro w2 hb2
    replace hb2 := below_trans hb1 hb2
    clear hz1 k0 k1 k2 k3 k4 k5 hlz
    have hz1 := bl_below HZ0.out hb2
    obtain ⟨⟨k0, k1, k2, k3, k4, k5⟩, -⟩ := blc6 hz1
    have hlz := bl_lt hz1
    go_wp2_with fail
    refine calls_below (hnB.out _) ?_
    intro w3 hb3
    replace hb3 := below_trans hb2 hb3
    clear hz1 k0 k1 k2 k3 k4 k5 hlz
    have hz1 := bl_below HZ0.out hb3
    obtain ⟨⟨k0, k1, k2, k3, k4, k5⟩, -⟩ := blc6 hz1
    have hlz := bl_lt hz1
    go_wp2_with fail
    refine calls_below (Rfailed_any 7 _) ?_
    intro w9 hb9
    have hb9' := below_trans hb3 hb9
    have hm9 := bl_below HM0.out hb9'
    have hl9 := bl_lt hm9
    obtain ⟨⟨d0, d1, d2, d3, d4, d5, d6, d7, d8, d9, d10, d11, d12, d13⟩, fz⟩ := blc14 hm9
    go_wp2
    exact ret_c Tryz.results8 (w.heap.size + 1) 35 _ _ rfl (put14_all hm9) Tryz.underlying35 rfl sizeMade rfl ⟨_, rfl, by rw [HN.out]; exact fun W _ _ _ _ => MadeC_err W 7, put14_below (below_trans HB0.out hb9') (by omega)⟩
  rw [if_neg (by have := beq_eq_false_iff_ne.1 q2; omega)] at hmo
  obtain ⟨l, hl⟩ : ∃ l : Lt, l = ⟨x.next, a, b, x.now, data⟩ := ⟨_, rfl⟩
  rw [← hl] at hmo
  have HL := Lib.hid hl
  have HN : Hid (formR x (sendM x a b data) = ⟨{ x with next := x.next + 1, way := x.way ++ [l] }, l.id, l, [], 0⟩) := HF.out.trans (hmo.trans (by rw [show l.id = x.next by rw [hl]]))
  have nx0 : 0 ≤ x.next := HOK.out.s0
  have nx1 : x.next ≤ 1099511627776 := HOK.out.s1
  have bl_newL : ∀ (W : World) (o : Obj), (W.alloc (.cells #[.int .i64 x.next, .int .i64 a, .int .i64 b, .int .i64 x.now, .string data] 33)).heap[W.heap.size]? = some (.cells #[.int .i64 l.id, .int .i64 l.fr, .int .i64 l.to, .int .i64 l.rd, .string l.data] 33 (0, 0)) := fun W o => by rw [hl]; exact bl_new W _
  have HNL := Lib.hid bl_newL
  clear hmo hl bl_newL
  go_enter Tryz.func8, Tryz.ntmps8
  go_wp2_with fail
  rw [← HW0.out]
  clear HW0
  refine calls_below (HIS.out _ _ (HV.out _ (Below.refl _ _))) ?_
  intro w1 hb1
  have hz1 := bl_below HZ0.out hb1
  obtain ⟨⟨k0, k1, k2, k3, k4, k5⟩, -⟩ := blc6 hz1
  have hlz := bl_lt hz1
  go_wp2_with fail
  refine calls_below (hnA.out _) ?_
  intro w2 hb2
  replace hb2 := below_trans hb1 hb2
  clear hz1 k0 k1 k2 k3 k4 k5 hlz
  have hz1 := bl_below HZ0.out hb2
  obtain ⟨⟨k0, k1, k2, k3, k4, k5⟩, -⟩ := blc6 hz1
  have hlz := bl_lt hz1
  go_wp2_with fail
  refine calls_below (hnB.out _) ?_
  intro w3 hb3
  replace hb3 := below_trans hb2 hb3
  clear hz1 k0 k1 k2 k3 k4 k5 hlz
  have hz1 := bl_below HZ0.out hb3
  obtain ⟨⟨k0, k1, k2, k3, k4, k5⟩, -⟩ := blc6 hz1
  have hlz := bl_lt hz1
  go_upto_region 10 with fail
  obtain ⟨w4, hw4⟩ : ∃ w4, w4 = w3.alloc (.cells #[.int .i64 x.next, .int .i64 a, .int .i64 b, .int .i64 x.now, .string data] 33) := ⟨_, rfl⟩
  have HB4 : Hid (Below w0.heap.size w0 w4) := by rw [hw4]; exact below_alloc hb3 _
  have HGL : Hid (w4.heap[w3.heap.size]? = some (.cells #[.int .i64 l.id, .int .i64 l.fr, .int .i64 l.to, .int .i64 l.rd, .string l.data] 33 (0, 0))) := by rw [hw4]; exact HNL.out _ (.cells #[] 33)
  have HLN : Hid (w.heap.size + 2 ≤ w3.heap.size) := by show _ ≤ _; have h1 := HS0.out; have h2 := (hb3).size; omega
  have HLS : Hid (w3.heap.size < w4.heap.size) := by rw [hw4]; show _ < _; simp
  rw [← hw4]
  clear hw4 k0 k1 k2 k3 k4 k5 hlz hz1
  have HG4 := Lib.hid (bl_below HZ0.out HB4.out)
  have HM4 := Lib.hid (bl_below HM0.out HB4.out)
  have HR4 := Lib.hid (HWW.out.below (below_trans HB0.out HB4.out))
  refine wp_st 73 (by rfl) fun f0 hf0 => ?_
  refine wp_cut (fun a wx => ∃ f' u, a = st 73 f' ∧ f' 4 = .pointer (some ⟨w.heap.size, 0, none⟩) ∧ f' 8 = .pointer (some ⟨w.heap.size + 1, 0, none⟩) ∧ f' 9 = .pointer (some ⟨w3.heap.size, 0, none⟩) ∧ Hid (Own wx w4.heap.size 33 u (x.way ++ [l])) ∧ Hid (wx.heap[w.heap.size]? = some (.cells #[.int .i64 x.nodes, .int .i64 x.now, .int .i64 x.next, u, .slice AC x.cuts.length cC, .slice AT x.timers.length cT] 26 (0, 0))) ∧ Hid (Below w.heap.size w4 wx) ∧ Hid (∀ k o, k ≠ w.heap.size → w4.heap[k]? = some o → wx.heap[k]? = some o)) ?rest ?first
  case first =>
    intro J K' hJ hK'
    exact putSend x f0 w4 w.heap.size AW AC AT cW cC cT w3.heap.size l _ K' _ ((hf0 8).trans rfl) ((hf0 4).trans rfl) ((hf0 9).trans rfl) HG4 HGL (by have := HLN.out; omega) HR4 (by omega)
      (fun a w' ⟨f', u, he, h1, h2, h3, hO, hG, hB, hF⟩ => hK' _ _ (Met.intro (hJ _ _ ⟨f', u, he, h1, h2, h3, hO, hG, hB, hF⟩)))
  case rest =>
    rintro a' w5 ⟨f', u, rfl, h1, h2, h3, HO, HG, HB, HF⟩
    rw [show st 73 f' = ⟨#[f' 0, f' 1, f' 2, f' 3, f' 4, f' 5, f' 6, f' 7, f' 8, f' 9, f' 10, f' 11, f' 12, f' 13, f' 14, f' 15, f' 16, f' 17, f' 18, f' 19, f' 20, f' 21, f' 22, f' 23, f' 24, f' 25, f' 26, f' 27, f' 28, f' 29, f' 30, f' 31, f' 32, f' 33, f' 34, f' 35, f' 36, f' 37, f' 38, f' 39, f' 40, f' 41, f' 42, f' 43, f' 44, f' 45, f' 46, f' 47, f' 48, f' 49, f' 50, f' 51, f' 52, f' 53, f' 54, f' 55, f' 56, f' 57, f' 58, f' 59, f' 60, f' 61, f' 62, f' 63, f' 64, f' 65, f' 66, f' 67, f' 68, f' 69, f' 70, f' 71, f' 72], []⟩ by rfl, h1, h2, h3]
    obtain ⟨A, c, rfl, hc, hR⟩ := HO.out.slice
    have HC9 := Lib.hid hc
    have hm5 := HF.out (w.heap.size + 1) _ (by omega) HM4.out
    have hl5 := HF.out w3.heap.size _ (by have := HLN.out; omega) HGL.out
    obtain ⟨⟨k0, k1, k2, k3, k4, k5⟩, f0, f1, f2, f3, f4, f5⟩ := blc6 HG.out
    have hlg := bl_lt HG.out
    obtain ⟨⟨d0, d1, d2, d3, d4, d5, d6, d7, d8, d9, d10, d11, d12, d13⟩, fz⟩ := blc14 hm5
    have hlm := bl_lt hm5
    obtain ⟨⟨g0, g1, g2, g3, g4⟩, -⟩ := blc5 hl5
    have hll5 := bl_lt hl5
    have n1 : ¬ w3.heap.size = w.heap.size := by have := HLN.out; omega
    have n2 : ¬ w3.heap.size = w.heap.size + 1 := by have := HLN.out; omega
    have HM5 := Lib.hid hm5
    have HB5 := Lib.hid (HB0.out.trans ((HB4.out.mono (by have := HS0.out; omega)).trans HB.out))
    have HLT : Hid (w.heap.size + 1 < w4.heap.size) := by show _ < _; have := HLN.out; have := HLS.out; omega
    clear hf0 f0 h1 h2 h3 hR hc hm5 hl5
    go_wp2
    have hfar := bl_far HM5.out (p := ⟨w.heap.size, 2, none⟩) (by simp) (.int .i64 (x.next + 1))
    have hbl : Below w.heap.size w (w5.setCell ⟨w.heap.size, 2, none⟩ (.int .i64 (x.next + 1))) := HB5.out.setCell (Nat.le_refl _) _
    have hq := HLT.out
    exact ret_c Tryz.results8 (w.heap.size + 1) 35 _ _ rfl (put14_all hfar) Tryz.underlying35 rfl sizeMade rfl ⟨_, rfl, by
      rw [HN.out]
      exact fun W hA _ hC hT => ⟨A, c, AC, cC, AT, cT, none, 0, by simp, ⟨A, c, AC, cC, AT, cT, rfl, Own.rd (Own.abv (Own.put14 (HO.out.far (p := ⟨w.heap.size, 2, none⟩) (by show w.heap.size < w4.heap.size; omega) _) (by omega)) (by omega) hA), hC, hT⟩, Rd.nil _ _, HC9.out⟩, put14_below hbl (by omega)⟩
set_option maxHeartbeats 4000000 in
set_option maxRecDepth 100000 in
theorem RDouble_any (x : Nt) (i : Int) (w : World) (AW AC AT : Option Addr) (cW cC cT : Nat) (hW : Rd w AW x.way) (hC : Rd w AC x.cuts) (hT : Rd w AT x.timers) (hcap : x.way.length ≤ cW) (hlc : x.cuts.length ≤ 10000000) (hlw : x.way.length ≤ 10000000) (hlt : x.timers.length ≤ 10000000) :
    Calls Tryz.prog 15 #[.agg #[.int .i64 x.nodes, .int .i64 x.now, .int .i64 x.next, .slice AW x.way.length cW, .slice AC x.cuts.length cC, .slice AT x.timers.length cT], .int .i64 i] w fun e w' => ∃ v, e = .returned v ∧ MadeA w.heap.size w' x AW AC AT v (formR x (doubleM x i)) ∧ Below w.heap.size w w' := by
  obtain ⟨w0, hw0⟩ : ∃ w0, w0 = (w.alloc (.cells #[.int .i64 x.nodes, .int .i64 x.now, .int .i64 x.next, .slice AW x.way.length cW, .slice AC x.cuts.length cC, .slice AT x.timers.length cT] 26)).alloc (.cells #[.int .i64 0, .int .i64 0, .int .i64 0, .slice none 0 0, .slice none 0 0, .slice none 0 0, .int .i64 0, .int .i64 0, .int .i64 0, .int .i64 0, .int .i64 0, .string ⟨#[]⟩, .slice none 0 0, .int .i64 0] 35) := ⟨_, rfl⟩
  obtain ⟨hb0, hz0, hm0, hs0⟩ := made_start hw0
  have HV : Hid (∀ W, Below w0.heap.size w0 W → NetV W (.agg #[.int .i64 x.nodes, .int .i64 x.now, .int .i64 x.next, .slice AW x.way.length cW, .slice AC x.cuts.length cC, .slice AT x.timers.length cT]) x) := fun W hb => ⟨AW, cW, AC, cC, AT, cT, rfl, hW.below (below_trans hb0 hb), hC.below (below_trans hb0 hb), hT.below (below_trans hb0 hb)⟩
  have his := fun (v : Value) (w : World) (hV : NetV w v x) => RIs_any x v w hV hlc hlw hlt
  have HB0 := Lib.hid hb0
  have HZ0 := Lib.hid hz0
  have HM0 := Lib.hid hm0
  have HS0 := Lib.hid hs0
  have HW0 := Lib.hid hw0
  have HC := Lib.hid (hC.below hb0)
  have HT := Lib.hid (hT.below hb0)
  have HWW := Lib.hid hW
  have HTW := Lib.hid hT
  have HCW := Lib.hid hC
  clear hb0 hz0 hm0 hs0 hw0 hW hC hT
  cases hc : checkB x
  · rw [hc] at his
    have HIS := Lib.hid his
    have HN : Hid (formR x (doubleM x i) = errR 2) := if_pos hc
    clear his hc
    go_enter Tryz.func15, Tryz.ntmps15
    go_wp2_with fail
    rw [← HW0.out]
    clear HW0
    refine calls_below (HIS.out _ _ (HV.out _ (Below.refl _ _))) ?_
    intro w1 hb1
    have hz1 := bl_below HZ0.out hb1
    obtain ⟨⟨k0, k1, k2, k3, k4, k5⟩, -⟩ := blc6 hz1
    have hlz := bl_lt hz1
    go_wp2_with fail
    refine calls_below (Rfailed_any 2 _) ?_
    intro w9 hb9
    have hb9' := below_trans hb1 hb9
    have hm9 := bl_below HM0.out hb9'
    have hl9 := bl_lt hm9
    obtain ⟨⟨d0, d1, d2, d3, d4, d5, d6, d7, d8, d9, d10, d11, d12, d13⟩, fz⟩ := blc14 hm9
    go_wp2
    exact ret_c Tryz.results15 (w.heap.size + 1) 35 _ _ rfl (put14_all hm9) Tryz.underlying35 rfl sizeMade rfl ⟨_, rfl, by rw [HN.out]; exact fun W _ _ _ _ => MadeC_err W 2, put14_below (below_trans HB0.out hb9') (by omega)⟩
  rw [hc] at his
  have HIS := Lib.hid his
  have HF : Hid (formR x (doubleM x i) = doubleM x i) := if_neg (by rw [hc]; decide)
  have HOK : Hid (Ok x) := (ok_iff x).1 hc
  clear his hc
  have hhas := fun (v : Value) (w : World) (hV : NetV w v x) => Rhas_any x i v w hV
  cases hh : hasB x.way.length i
  · rw [hh] at hhas
    have hHas := Lib.hid hhas
    have HN : Hid (formR x (doubleM x i) = errR 4) := HF.out.trans (if_pos hh)
    clear hhas hh
    go_enter Tryz.func15, Tryz.ntmps15
    go_wp2_with fail
    rw [← HW0.out]
    clear HW0
    refine calls_below (HIS.out _ _ (HV.out _ (Below.refl _ _))) ?_
    intro w1 hb1
    have hz1 := bl_below HZ0.out hb1
    obtain ⟨⟨k0, k1, k2, k3, k4, k5⟩, -⟩ := blc6 hz1
    have hlz := bl_lt hz1
    go_wp2_with fail
    refine calls_below (hHas.out _ _ (HV.out _ hb1)) ?_
    intro w2 hb2
    replace hb2 := below_trans hb1 hb2
    clear hz1 k0 k1 k2 k3 k4 k5 hlz
    have hz1 := bl_below HZ0.out hb2
    obtain ⟨⟨k0, k1, k2, k3, k4, k5⟩, -⟩ := blc6 hz1
    have hlz := bl_lt hz1
    go_wp2_with fail
    refine calls_below (Rfailed_any 4 _) ?_
    intro w9 hb9
    have hb9' := below_trans hb2 hb9
    have hm9 := bl_below HM0.out hb9'
    have hl9 := bl_lt hm9
    obtain ⟨⟨d0, d1, d2, d3, d4, d5, d6, d7, d8, d9, d10, d11, d12, d13⟩, fz⟩ := blc14 hm9
    go_wp2
    exact ret_c Tryz.results15 (w.heap.size + 1) 35 _ _ rfl (put14_all hm9) Tryz.underlying35 rfl sizeMade rfl ⟨_, rfl, by rw [HN.out]; exact fun W _ _ _ _ => MadeC_err W 4, put14_below (below_trans HB0.out hb9') (by omega)⟩
  rw [hh] at hhas
  have hHas := Lib.hid hhas
  obtain ⟨m, hm, rfl⟩ : ∃ m : Nat, m < x.way.length ∧ i = (m : Int) := by
    have h := hh
    simp only [hasB, Bool.and_eq_true, decide_eq_true_eq] at h
    obtain ⟨m, rfl⟩ := Int.eq_ofNat_of_zero_le h.1
    exact ⟨m, by omega, rfl⟩
  obtain ⟨bb, off, l, rfl, hxl, c0, c1, c2, c3, c4⟩ := HWW.out.lt m hm
  have hll : x.way[m]? = some l := hxl.out
  have hml : ((m : Int)).toNat = m := rfl
  have HCL : Hid (∀ W, Below w0.heap.size w0 W → W.cell? ⟨bb, off + m * 5, none⟩ = some (.int .i64 l.id) ∧ W.cell? ⟨bb, off + m * 5 + 1, none⟩ = some (.int .i64 l.fr) ∧ W.cell? ⟨bb, off + m * 5 + 2, none⟩ = some (.int .i64 l.to) ∧ W.cell? ⟨bb, off + m * 5 + 3, none⟩ = some (.int .i64 l.rd) ∧ W.cell? ⟨bb, off + m * 5 + 4, none⟩ = some (.string l.data)) := fun W hb =>
    ⟨cell_below (below_trans HB0.out hb) c0, cell_below (below_trans HB0.out hb) c1, cell_below (below_trans HB0.out hb) c2, cell_below (below_trans HB0.out hb) c3, cell_below (below_trans HB0.out hb) c4⟩
  clear hhas hxl c0 c1 c2 c3 c4
  have hmo : doubleM x (m : Int) = if x.way.length = 200 then errR 7 else ⟨{ x with way := x.way ++ [l] }, 0, l, [], 0⟩ := by unfold doubleM; rw [if_neg (by rw [hh]; decide), hml, hll]
  clear hh hll hml
  cases q2 : ((x.way.length : Int) == 200)
  rotate_left 1
  · have HN : Hid (formR x (doubleM x (m : Int)) = errR 7) := HF.out.trans (hmo.trans (if_pos (by have := beq_iff_eq.1 q2; omega)))
    clear hmo
    go_enter Tryz.func15, Tryz.ntmps15
    go_wp2_with fail
    rw [← HW0.out]
    clear HW0
    refine calls_below (HIS.out _ _ (HV.out _ (Below.refl _ _))) ?_
    intro w1 hb1
    have hz1 := bl_below HZ0.out hb1
    obtain ⟨⟨k0, k1, k2, k3, k4, k5⟩, -⟩ := blc6 hz1
    have hlz := bl_lt hz1
    go_wp2_with fail
    refine calls_below (hHas.out _ _ (HV.out _ hb1)) ?_
    intro w2 hb2
    replace hb2 := below_trans hb1 hb2
    clear hz1 k0 k1 k2 k3 k4 k5 hlz
    have hz1 := bl_below HZ0.out hb2
    obtain ⟨⟨k0, k1, k2, k3, k4, k5⟩, -⟩ := blc6 hz1
    have hlz := bl_lt hz1
    go_wp2_with fail
    refine calls_below (Rfailed_any 7 _) ?_
    intro w9 hb9
    have hb9' := below_trans hb2 hb9
    have hm9 := bl_below HM0.out hb9'
    have hl9 := bl_lt hm9
    obtain ⟨⟨d0, d1, d2, d3, d4, d5, d6, d7, d8, d9, d10, d11, d12, d13⟩, fz⟩ := blc14 hm9
    go_wp2
    exact ret_c Tryz.results15 (w.heap.size + 1) 35 _ _ rfl (put14_all hm9) Tryz.underlying35 rfl sizeMade rfl ⟨_, rfl, by rw [HN.out]; exact fun W _ _ _ _ => MadeC_err W 7, put14_below (below_trans HB0.out hb9') (by omega)⟩
  have HN : Hid (formR x (doubleM x (m : Int)) = ⟨{ x with way := x.way ++ [l] }, 0, l, [], 0⟩) := HF.out.trans (hmo.trans (if_neg (by have := beq_eq_false_iff_ne.1 q2; omega)))
  clear hmo
  go_enter Tryz.func15, Tryz.ntmps15
  go_wp2_with fail
  rw [← HW0.out]
  clear HW0
  refine calls_below (HIS.out _ _ (HV.out _ (Below.refl _ _))) ?_
  intro w1 hb1
  have hz1 := bl_below HZ0.out hb1
  obtain ⟨⟨k0, k1, k2, k3, k4, k5⟩, -⟩ := blc6 hz1
  have hlz := bl_lt hz1
  go_wp2_with fail
  refine calls_below (hHas.out _ _ (HV.out _ hb1)) ?_
  intro w2 hb2
  replace hb2 := below_trans hb1 hb2
  clear hz1 k0 k1 k2 k3 k4 k5 hlz
  have hz1 := bl_below HZ0.out hb2
  obtain ⟨⟨k0, k1, k2, k3, k4, k5⟩, -⟩ := blc6 hz1
  have hlz := bl_lt hz1
  obtain ⟨c0, c1, c2, c3, c4⟩ := HCL.out _ hb2
  have hbb := World.block_lt_of_cell? _ _ c0
  go_upto_region 8 with fail
  clear c0 c1 c2 c3 c4 hbb
  obtain ⟨w4, hw4⟩ : ∃ w4, w4 = w2.alloc (.cells #[.int .i64 l.id, .int .i64 l.fr, .int .i64 l.to, .int .i64 l.rd, .string l.data] 33) := ⟨_, rfl⟩
  have HB4 : Hid (Below w0.heap.size w0 w4) := by rw [hw4]; exact below_alloc hb2 _
  have HGL : Hid (w4.heap[w2.heap.size]? = some (.cells #[.int .i64 l.id, .int .i64 l.fr, .int .i64 l.to, .int .i64 l.rd, .string l.data] 33 (0, 0))) := by rw [hw4]; exact bl_new _ _
  have HLN : Hid (w.heap.size + 2 ≤ w2.heap.size) := by show _ ≤ _; have h1 := HS0.out; have h2 := (hb2).size; omega
  have HLS : Hid (w2.heap.size < w4.heap.size) := by rw [hw4]; show _ < _; simp
  rw [← hw4]
  clear hw4 k0 k1 k2 k3 k4 k5 hlz hz1
  have HG4 := Lib.hid (bl_below HZ0.out HB4.out)
  have HM4 := Lib.hid (bl_below HM0.out HB4.out)
  have HR4 := Lib.hid (HWW.out.below (below_trans HB0.out HB4.out))
  refine wp_st 39 (by rfl) fun f0 hf0 => ?_
  refine wp_cut (fun a wx => ∃ f' u, a = st 39 f' ∧ f' 2 = .pointer (some ⟨w.heap.size, 0, none⟩) ∧ f' 4 = .pointer (some ⟨w.heap.size + 1, 0, none⟩) ∧ f' 5 = .pointer (some ⟨w2.heap.size, 0, none⟩) ∧ Hid (Own wx w4.heap.size 33 u (x.way ++ [l])) ∧ Hid (wx.heap[w.heap.size]? = some (.cells #[.int .i64 x.nodes, .int .i64 x.now, .int .i64 x.next, u, .slice AC x.cuts.length cC, .slice AT x.timers.length cT] 26 (0, 0))) ∧ Hid (Below w.heap.size w4 wx) ∧ Hid (∀ k o, k ≠ w.heap.size → w4.heap[k]? = some o → wx.heap[k]? = some o)) ?rest ?first
  case first =>
    intro J K' hJ hK'
    exact putDouble x f0 w4 w.heap.size (some ⟨bb, off, none⟩) AC AT cW cC cT w2.heap.size l _ K' _ ((hf0 4).trans rfl) ((hf0 2).trans rfl) ((hf0 5).trans rfl) HG4 HGL (by have := HLN.out; omega) HR4 (by omega)
      (fun a w' ⟨f', u, he, h1, h2, h3, hO, hG, hB, hF⟩ => hK' _ _ (Met.intro (hJ _ _ ⟨f', u, he, h1, h2, h3, hO, hG, hB, hF⟩)))
  case rest =>
    rintro a' w5 ⟨f', u, rfl, h1, h2, h3, HO, HG, HB, HF⟩
    rw [show st 39 f' = ⟨#[f' 0, f' 1, f' 2, f' 3, f' 4, f' 5, f' 6, f' 7, f' 8, f' 9, f' 10, f' 11, f' 12, f' 13, f' 14, f' 15, f' 16, f' 17, f' 18, f' 19, f' 20, f' 21, f' 22, f' 23, f' 24, f' 25, f' 26, f' 27, f' 28, f' 29, f' 30, f' 31, f' 32, f' 33, f' 34, f' 35, f' 36, f' 37, f' 38], []⟩ by rfl, h1, h2, h3]
    obtain ⟨A, c, rfl, hc, hR⟩ := HO.out.slice
    have HC9 := Lib.hid hc
    have hm5 := HF.out (w.heap.size + 1) _ (by omega) HM4.out
    have hl5 := HF.out w2.heap.size _ (by have := HLN.out; omega) HGL.out
    obtain ⟨⟨k0, k1, k2, k3, k4, k5⟩, f0, f1, f2, f3, f4, f5⟩ := blc6 HG.out
    have hlg := bl_lt HG.out
    obtain ⟨⟨d0, d1, d2, d3, d4, d5, d6, d7, d8, d9, d10, d11, d12, d13⟩, fz⟩ := blc14 hm5
    have hlm := bl_lt hm5
    obtain ⟨⟨g0, g1, g2, g3, g4⟩, -⟩ := blc5 hl5
    have hll5 := bl_lt hl5
    have n1 : ¬ w2.heap.size = w.heap.size := by have := HLN.out; omega
    have n2 : ¬ w2.heap.size = w.heap.size + 1 := by have := HLN.out; omega
    have HM5 := Lib.hid hm5
    have HB5 := Lib.hid (HB0.out.trans ((HB4.out.mono (by have := HS0.out; omega)).trans HB.out))
    have HLT : Hid (w.heap.size + 1 < w4.heap.size) := by show _ < _; have := HLN.out; have := HLS.out; omega
    clear hf0 f0 h1 h2 h3 hR hc hm5 hl5
    go_wp2
    have hbl := HB5.out
    have hq := HLT.out
    exact ret_c Tryz.results15 (w.heap.size + 1) 35 _ _ rfl (put14_all HM5.out) Tryz.underlying35 rfl sizeMade rfl ⟨_, rfl, by
      rw [HN.out]
      exact fun W hA _ hC hT => ⟨A, c, AC, cC, AT, cT, none, 0, by simp, ⟨A, c, AC, cC, AT, cT, rfl, Own.rd (Own.abv (Own.put14 HO.out (by omega)) (by omega) hA), hC, hT⟩, Rd.nil _ _, HC9.out⟩, put14_below hbl (by omega)⟩
set_option maxHeartbeats 4000000 in
set_option maxRecDepth 100000 in
theorem RDelay_any (x : Nt) (i n : Int) (w : World) (AW AC AT : Option Addr) (cW cC cT : Nat) (hW : Rd w AW x.way) (hC : Rd w AC x.cuts) (hT : Rd w AT x.timers) (hcap : x.way.length ≤ cW) (hlc : x.cuts.length ≤ 10000000) (hlw : x.way.length ≤ 10000000) (hlt : x.timers.length ≤ 10000000) :
    Calls Tryz.prog 17 #[.agg #[.int .i64 x.nodes, .int .i64 x.now, .int .i64 x.next, .slice AW x.way.length cW, .slice AC x.cuts.length cC, .slice AT x.timers.length cT], .int .i64 i, .int .i64 n] w fun e w' => ∃ v, e = .returned v ∧ MadeA w.heap.size w' x AW AC AT v (formR x (delayM x i n)) ∧ Below w.heap.size w w' := by
  obtain ⟨w0, hw0⟩ : ∃ w0, w0 = (w.alloc (.cells #[.int .i64 x.nodes, .int .i64 x.now, .int .i64 x.next, .slice AW x.way.length cW, .slice AC x.cuts.length cC, .slice AT x.timers.length cT] 26)).alloc (.cells #[.int .i64 0, .int .i64 0, .int .i64 0, .slice none 0 0, .slice none 0 0, .slice none 0 0, .int .i64 0, .int .i64 0, .int .i64 0, .int .i64 0, .int .i64 0, .string ⟨#[]⟩, .slice none 0 0, .int .i64 0] 35) := ⟨_, rfl⟩
  obtain ⟨hb0, hz0, hm0, hs0⟩ := made_start hw0
  have HV : Hid (∀ W, Below w0.heap.size w0 W → NetV W (.agg #[.int .i64 x.nodes, .int .i64 x.now, .int .i64 x.next, .slice AW x.way.length cW, .slice AC x.cuts.length cC, .slice AT x.timers.length cT]) x) := fun W hb => ⟨AW, cW, AC, cC, AT, cT, rfl, hW.below (below_trans hb0 hb), hC.below (below_trans hb0 hb), hT.below (below_trans hb0 hb)⟩
  have his := fun (v : Value) (w : World) (hV : NetV w v x) => RIs_any x v w hV hlc hlw hlt
  have HB0 := Lib.hid hb0
  have HZ0 := Lib.hid hz0
  have HM0 := Lib.hid hm0
  have HS0 := Lib.hid hs0
  have HW0 := Lib.hid hw0
  have HC := Lib.hid (hC.below hb0)
  have HT := Lib.hid (hT.below hb0)
  have HWW := Lib.hid hW
  have HTW := Lib.hid hT
  have HCW := Lib.hid hC
  clear hb0 hz0 hm0 hs0 hw0 hW hC hT
  cases hc : checkB x
  · rw [hc] at his
    have HIS := Lib.hid his
    have HN : Hid (formR x (delayM x i n) = errR 2) := if_pos hc
    clear his hc
    go_enter Tryz.func17, Tryz.ntmps17
    go_wp2_with fail
    rw [← HW0.out]
    clear HW0
    refine calls_below (HIS.out _ _ (HV.out _ (Below.refl _ _))) ?_
    intro w1 hb1
    have hz1 := bl_below HZ0.out hb1
    obtain ⟨⟨k0, k1, k2, k3, k4, k5⟩, -⟩ := blc6 hz1
    have hlz := bl_lt hz1
    go_wp2_with fail
    refine calls_below (Rfailed_any 2 _) ?_
    intro w9 hb9
    have hb9' := below_trans hb1 hb9
    have hm9 := bl_below HM0.out hb9'
    have hl9 := bl_lt hm9
    obtain ⟨⟨d0, d1, d2, d3, d4, d5, d6, d7, d8, d9, d10, d11, d12, d13⟩, fz⟩ := blc14 hm9
    go_wp2
    exact ret_c Tryz.results17 (w.heap.size + 1) 35 _ _ rfl (put14_all hm9) Tryz.underlying35 rfl sizeMade rfl ⟨_, rfl, by rw [HN.out]; exact fun W _ _ _ _ => MadeC_err W 2, put14_below (below_trans HB0.out hb9') (by omega)⟩
  rw [hc] at his
  have HIS := Lib.hid his
  have HF : Hid (formR x (delayM x i n) = delayM x i n) := if_neg (by rw [hc]; decide)
  have HOK : Hid (Ok x) := (ok_iff x).1 hc
  clear his hc
  have hhas := fun (v : Value) (w : World) (hV : NetV w v x) => Rhas_any x i v w hV
  cases hh : hasB x.way.length i
  · rw [hh] at hhas
    have hHas := Lib.hid hhas
    have HN : Hid (formR x (delayM x i n) = errR 4) := HF.out.trans (if_pos hh)
    clear hhas hh
    go_enter Tryz.func17, Tryz.ntmps17
    go_wp2_with fail
    rw [← HW0.out]
    clear HW0
    refine calls_below (HIS.out _ _ (HV.out _ (Below.refl _ _))) ?_
    intro w1 hb1
    have hz1 := bl_below HZ0.out hb1
    obtain ⟨⟨k0, k1, k2, k3, k4, k5⟩, -⟩ := blc6 hz1
    have hlz := bl_lt hz1
    go_wp2_with fail
    refine calls_below (hHas.out _ _ (HV.out _ hb1)) ?_
    intro w2 hb2
    replace hb2 := below_trans hb1 hb2
    clear hz1 k0 k1 k2 k3 k4 k5 hlz
    have hz1 := bl_below HZ0.out hb2
    obtain ⟨⟨k0, k1, k2, k3, k4, k5⟩, -⟩ := blc6 hz1
    have hlz := bl_lt hz1
    go_wp2_with fail
    refine calls_below (Rfailed_any 4 _) ?_
    intro w9 hb9
    have hb9' := below_trans hb2 hb9
    have hm9 := bl_below HM0.out hb9'
    have hl9 := bl_lt hm9
    obtain ⟨⟨d0, d1, d2, d3, d4, d5, d6, d7, d8, d9, d10, d11, d12, d13⟩, fz⟩ := blc14 hm9
    go_wp2
    exact ret_c Tryz.results17 (w.heap.size + 1) 35 _ _ rfl (put14_all hm9) Tryz.underlying35 rfl sizeMade rfl ⟨_, rfl, by rw [HN.out]; exact fun W _ _ _ _ => MadeC_err W 4, put14_below (below_trans HB0.out hb9') (by omega)⟩
  rw [hh] at hhas
  have hHas := Lib.hid hhas
  obtain ⟨m, hm, rfl⟩ : ∃ m : Nat, m < x.way.length ∧ i = (m : Int) := by
    have h := hh
    simp only [hasB, Bool.and_eq_true, decide_eq_true_eq] at h
    obtain ⟨m, rfl⟩ := Int.eq_ofNat_of_zero_le h.1
    exact ⟨m, by omega, rfl⟩
  obtain ⟨bb, off, l, rfl, hxl, c0, c1, c2, c3, c4⟩ := HWW.out.lt m hm
  have hll : x.way[m]? = some l := hxl.out
  have hml : ((m : Int)).toNat = m := rfl
  have HCL : Hid (∀ W, Below w0.heap.size w0 W → W.cell? ⟨bb, off + m * 5, none⟩ = some (.int .i64 l.id) ∧ W.cell? ⟨bb, off + m * 5 + 1, none⟩ = some (.int .i64 l.fr) ∧ W.cell? ⟨bb, off + m * 5 + 2, none⟩ = some (.int .i64 l.to) ∧ W.cell? ⟨bb, off + m * 5 + 3, none⟩ = some (.int .i64 l.rd) ∧ W.cell? ⟨bb, off + m * 5 + 4, none⟩ = some (.string l.data)) := fun W hb =>
    ⟨cell_below (below_trans HB0.out hb) c0, cell_below (below_trans HB0.out hb) c1, cell_below (below_trans HB0.out hb) c2, cell_below (below_trans HB0.out hb) c3, cell_below (below_trans HB0.out hb) c4⟩
  clear hhas hxl c0 c1 c2 c3 c4
  have hmo : delayM x (m : Int) n = if n < 0 ∨ 1000 < n then errR 1 else ⟨{ x with way := x.way.set m { l with rd := x.now + n } }, 0, { l with rd := x.now + n }, [], 0⟩ := by unfold delayM; rw [if_neg (by rw [hh]; decide), hml, hll]
  clear hh hml
  cases q1 : decide (n < 0)
  rotate_left 1
  · have HN : Hid (formR x (delayM x (m : Int) n) = errR 1) := HF.out.trans (hmo.trans (if_pos (.inl (of_decide_eq_true q1))))
    clear hmo hll
    go_enter Tryz.func17, Tryz.ntmps17
    go_wp2_with fail
    rw [← HW0.out]
    clear HW0
    refine calls_below (HIS.out _ _ (HV.out _ (Below.refl _ _))) ?_
    intro w1 hb1
    have hz1 := bl_below HZ0.out hb1
    obtain ⟨⟨k0, k1, k2, k3, k4, k5⟩, -⟩ := blc6 hz1
    have hlz := bl_lt hz1
    go_wp2_with fail
    refine calls_below (hHas.out _ _ (HV.out _ hb1)) ?_
    intro w2 hb2
    replace hb2 := below_trans hb1 hb2
    clear hz1 k0 k1 k2 k3 k4 k5 hlz
    have hz1 := bl_below HZ0.out hb2
    obtain ⟨⟨k0, k1, k2, k3, k4, k5⟩, -⟩ := blc6 hz1
    have hlz := bl_lt hz1
    go_wp2_with fail
    refine calls_below (Rfailed_any 1 _) ?_
    intro w9 hb9
    have hb9' := below_trans hb2 hb9
    have hm9 := bl_below HM0.out hb9'
    have hl9 := bl_lt hm9
    obtain ⟨⟨d0, d1, d2, d3, d4, d5, d6, d7, d8, d9, d10, d11, d12, d13⟩, fz⟩ := blc14 hm9
    go_wp2
    exact ret_c Tryz.results17 (w.heap.size + 1) 35 _ _ rfl (put14_all hm9) Tryz.underlying35 rfl sizeMade rfl ⟨_, rfl, by rw [HN.out]; exact fun W _ _ _ _ => MadeC_err W 1, put14_below (below_trans HB0.out hb9') (by omega)⟩
  cases q2 : decide (1000 < n)
  rotate_left 1
  · have HN : Hid (formR x (delayM x (m : Int) n) = errR 1) := HF.out.trans (hmo.trans (if_pos (.inr (of_decide_eq_true q2))))
    clear hmo hll
    go_enter Tryz.func17, Tryz.ntmps17
    go_wp2_with fail
    rw [← HW0.out]
    clear HW0
    refine calls_below (HIS.out _ _ (HV.out _ (Below.refl _ _))) ?_
    intro w1 hb1
    have hz1 := bl_below HZ0.out hb1
    obtain ⟨⟨k0, k1, k2, k3, k4, k5⟩, -⟩ := blc6 hz1
    have hlz := bl_lt hz1
    go_wp2_with fail
    refine calls_below (hHas.out _ _ (HV.out _ hb1)) ?_
    intro w2 hb2
    replace hb2 := below_trans hb1 hb2
    clear hz1 k0 k1 k2 k3 k4 k5 hlz
    have hz1 := bl_below HZ0.out hb2
    obtain ⟨⟨k0, k1, k2, k3, k4, k5⟩, -⟩ := blc6 hz1
    have hlz := bl_lt hz1
    go_wp2_with fail
    refine calls_below (Rfailed_any 1 _) ?_
    intro w9 hb9
    have hb9' := below_trans hb2 hb9
    have hm9 := bl_below HM0.out hb9'
    have hl9 := bl_lt hm9
    obtain ⟨⟨d0, d1, d2, d3, d4, d5, d6, d7, d8, d9, d10, d11, d12, d13⟩, fz⟩ := blc14 hm9
    go_wp2
    exact ret_c Tryz.results17 (w.heap.size + 1) 35 _ _ rfl (put14_all hm9) Tryz.underlying35 rfl sizeMade rfl ⟨_, rfl, by rw [HN.out]; exact fun W _ _ _ _ => MadeC_err W 1, put14_below (below_trans HB0.out hb9') (by omega)⟩
  have n0 : 0 ≤ n := by have := of_decide_eq_false q1; omega
  have n1 : n ≤ 1000 := by have := of_decide_eq_false q2; omega
  obtain ⟨l', hl'⟩ : ∃ l' : Lt, l' = { l with rd := x.now + n } := ⟨_, rfl⟩
  have HN : Hid (formR x (delayM x (m : Int) n) = ⟨{ x with way := x.way.set m l' }, 0, l', [], 0⟩) := HF.out.trans (hmo.trans (by rw [if_neg (by omega), hl']))
  have nx0 : 0 ≤ x.now := HOK.out.t0
  have nx1 : x.now ≤ 1099511627776 := HOK.out.t1
  have HLL := Lib.hid hll
  have HL' := Lib.hid hl'
  clear hmo hll hl'
  go_enter Tryz.func17, Tryz.ntmps17
  go_wp2_with fail
  rw [← HW0.out]
  clear HW0
  refine calls_below (HIS.out _ _ (HV.out _ (Below.refl _ _))) ?_
  intro w1 hb1
  have hz1 := bl_below HZ0.out hb1
  obtain ⟨⟨k0, k1, k2, k3, k4, k5⟩, -⟩ := blc6 hz1
  have hlz := bl_lt hz1
  go_wp2_with fail
  refine calls_below (hHas.out _ _ (HV.out _ hb1)) ?_
  intro w2 hb2
  replace hb2 := below_trans hb1 hb2
  clear hz1 k0 k1 k2 k3 k4 k5 hlz
  have hz1 := bl_below HZ0.out hb2
  obtain ⟨⟨k0, k1, k2, k3, k4, k5⟩, -⟩ := blc6 hz1
  have hlz := bl_lt hz1
  go_upto_region 7 with fail
  go_wp2_with (at_builtin; refine hid_stop ?_)
  change wpList _ _ _ _ _ (w2.alloc _)
  refine wpList_app _ w2.heap.size rfl (.tmp 26) (.tmp 28) 22 33 _ 48 rfl Tryz.underlying22 infoW rfl (by decide) (by decide) (.slice (some ⟨w2.heap.size, 0, none⟩) 0 0) [] x.way (some ⟨bb, off, none⟩) cW rfl rfl (Own.fresh w2 _ _ _ rfl (Nat.le_refl _)) ?hR ?hB ?hL ?_
  case hR => exact HWW.out.below (below_alloc (below_trans HB0.out hb2) _)
  case hB => simp
  case hL => simp; omega
  intro v1 w6 ho hg hat
  have hbw6 : Below w2.heap.size w2 w6 := (below_alloc (Below.refl _ w2) (.cells #[] 33)).grown hg (by simp) (fun k hk => by cases hk; exact Nat.le_refl _)
  have HB6 := Lib.hid (below_trans hb2 hbw6)
  have ho' : Own w6 w2.heap.size 33 v1 x.way := ho
  obtain ⟨g9, c9, rfl⟩ := own_row ho' (by omega)
  obtain ⟨cur, hgc, -⟩ := ho'.open
  obtain ⟨bq, oq, l2, e9, hx2, b0, b1, b2, b3, b4⟩ := ho'.rd.lt m hm
  cases e9
  obtain rfl : l2 = l := Option.some.inj (hx2.out.symm.trans HLL.out)
  simp only [Nat.zero_add] at b0 b1 b2 b3 b4
  have fz3 := bl_frozen hgc (m * 5 + 3)
  have hg9 := bl_lt hgc
  have hg9b := (ho'.lt g9 rfl).1
  have HCP : Hid (x.way.length ≤ c9) := by
    obtain ⟨_, _, e, h, -⟩ := ho'.slice
    cases e
    exact h
  have HO6 := Lib.hid ho'
  have hsz : w.heap.size + 2 ≤ w2.heap.size := by have h1 := HS0.out; have h2 := hb2.size; omega
  have n3 : ¬ g9 = w.heap.size := by omega
  have n4 : ¬ w.heap.size = g9 := by omega
  have n5 : ¬ g9 = w.heap.size + 1 := by omega
  have n6 : ¬ w.heap.size + 1 = g9 := by omega
  have hq0 : (0 : Int) ≤ (m : Int) := by omega
  have hq1 : (m : Int) < (x.way.length : Int) := by omega
  have HSZ := Lib.hid hsz
  have HG9 := Lib.hid hg9b
  clear ho ho' hg hat hgc hx2 k0 k1 k2 k3 k4 k5 hlz hz1 hbw6 hsz hg9b
  have hz6 := bl_below HZ0.out HB6.out
  have hm6 := bl_below HM0.out HB6.out
  obtain ⟨⟨k0, k1, k2, k3, k4, k5⟩, f0, f1, f2, f3, f4, f5⟩ := blc6 hz6
  have hlz := bl_lt hz6
  obtain ⟨⟨d0, d1, d2, d3, d4, d5, d6, d7, d8, d9, d10, d11, d12, d13⟩, fz⟩ := blc14 hm6
  have hlm := bl_lt hm6
  have HM6 := Lib.hid hm6
  clear hz6 hm6 hb1 hb2
  go_upto_region 9 with fail
  refine wp_still_tail 7 (by kernel_rfl) (by kernel_rfl) ?_
  simp only [List.take_succ_cons, List.take_zero, List.drop_succ_cons, List.drop_zero]
  repeat still_step
  refine wpStill_nil ?_
  go_wp2
  have hq1 := HSZ.out
  have hq2 := HG9.out
  have hfar := bl_far (bl_far HM6.out (p := ⟨w.heap.size, 3, none⟩) (by simp) (.slice (some ⟨g9, 0, none⟩) x.way.length c9)) (p := ⟨g9, m * 5 + 3, none⟩) n6 (.int .i64 (x.now + n))
  have hbl : Below w.heap.size w ((w6.setCell ⟨w.heap.size, 3, none⟩ (.slice (some ⟨g9, 0, none⟩) x.way.length c9)).setCell ⟨g9, m * 5 + 3, none⟩ (.int .i64 (x.now + n))) := ((below_trans HB0.out HB6.out).setCell (Nat.le_refl _) _).setCell (by show w.heap.size ≤ g9; omega) _
  have ho7 : Own ((w6.setCell ⟨w.heap.size, 3, none⟩ (.slice (some ⟨g9, 0, none⟩) x.way.length c9)).setCell ⟨g9, m * 5 + 3, none⟩ (.int .i64 (x.now + n))) w2.heap.size 33 (.slice (some ⟨g9, 0, none⟩) x.way.length c9) (x.way.set m l') :=
    (HO6.out.far (p := ⟨w.heap.size, 3, none⟩) (by show w.heap.size < w2.heap.size; omega) _).store m 3 l2 l' (.int .i64 (x.now + n)) (by decide) HLL.out (by rw [HL'.out]; rfl)
  have HCPS : Hid ((x.way.set m l').length ≤ c9) := by show _ ≤ _; rw [List.length_set]; exact HCP.out
  exact ret_c Tryz.results17 (w.heap.size + 1) 35 _ _ rfl (bl_drew (put14_all hfar)) Tryz.underlying35 rfl sizeMade rfl ⟨_, rfl, by
    rw [HN.out]
    exact fun W hA _ hC hT => ⟨some ⟨g9, 0, none⟩, c9, AC, cC, AT, cT, none, 0, by rw [HL'.out]; simp, ⟨some ⟨g9, 0, none⟩, c9, AC, cC, AT, cT, rfl, Own.rd (Own.abv (Own.drew (Own.put14 ho7 (by omega))) (by omega) hA), hC, hT⟩, Rd.nil _ _, HCPS.out⟩, (put14_below hbl (by omega)).drew⟩
end Go.Proofs.YthlbmcfliejdiaaGreat
end

section
set_option linter.unusedVariables false
set_option linter.unusedSimpArgs false
namespace Go.Proofs.YthlbmcfliejdiaaGreat
open Go.RowKit
attribute [local go_sem high] eqATm eqALt eqAAc eqALk

theorem Send_any (x : Nt) (fr tn : Int) (data : ByteArray) (v : Value) (w : World) (hlw : x.way.length ≤ 10000000) (hlc : x.cuts.length ≤ 10000000) (hlt : x.timers.length ≤ 10000000) (hV : NetV w v x) :
    Calls Tryz.prog 7 #[v, .int .i64 fr, .int .i64 tn, .string data] w fun e w' => ∃ v', e = .returned (.tuple #[v', .int .i64 (formR x (sendM x fr tn data)).id, .int .i64 (formR x (sendM x fr tn data)).e]) ∧ pubW w (formR x (sendM x fr tn data)) v' w' := by
  cases hx : checkB x
  · refine (Send_form x fr tn data v w hlw hlc hlt hV hx).mono fun e w' h => ⟨zNetV, ?_, ?_, h.2⟩
    · rw [h.1]; simp [formR, hx, errR]
    · simp only [formR, hx, if_true]; exact zNetV_own _ _
  · have hk := (ok_iff x).1 hx
    have hf : formR x (sendM x fr tn data) = sendM x fr tn data := by simp [formR, hx]
    rw [hf]
    exact Send_good x fr tn data v w hV hk
theorem send_badN {x : Nt} {fr tn : Int} {data : ByteArray} (h : (sendM x fr tn data).e ≠ 0) : sendM x fr tn data = errR (sendM x fr tn data).e := by
  unfold sendM at h ⊢
  repeat' split
  all_goals first | rfl | (simp_all)
theorem len_send (x : Nt) (fr tn : Int) (data : ByteArray) : (formR x (sendM x fr tn data)).x.way.length ≤ 300 ∧ (formR x (sendM x fr tn data)).x.cuts.length ≤ 300 ∧ (formR x (sendM x fr tn data)).x.timers.length ≤ 300 := len_form x (sendM x fr tn data) (fun h he => send_keeps h fr tn data he) (fun h => send_badN h)
theorem deliver_badN {x : Nt} {i : Int} (h : (deliverM x i).e ≠ 0) : deliverM x i = errR (deliverM x i).e := by
  unfold deliverM at h ⊢
  repeat' split
  all_goals first | rfl | (simp_all)
theorem len_deliver (x : Nt) (i : Int) : (formR x (deliverM x i)).x.way.length ≤ 300 ∧ (formR x (deliverM x i)).x.cuts.length ≤ 300 ∧ (formR x (deliverM x i)).x.timers.length ≤ 300 := len_form x (deliverM x i) (fun h he => deliver_keeps h i he) (fun h => deliver_badN h)
theorem lose_badN {x : Nt} {i : Int} (h : (loseM x i).e ≠ 0) : loseM x i = errR (loseM x i).e := by
  unfold loseM at h ⊢
  repeat' split
  all_goals first | rfl | (simp_all)
theorem len_lose (x : Nt) (i : Int) : (formR x (loseM x i)).x.way.length ≤ 300 ∧ (formR x (loseM x i)).x.cuts.length ≤ 300 ∧ (formR x (loseM x i)).x.timers.length ≤ 300 := len_form x (loseM x i) (fun h he => lose_keeps h i he) (fun h => lose_badN h)
theorem double_badN {x : Nt} {i : Int} (h : (doubleM x i).e ≠ 0) : doubleM x i = errR (doubleM x i).e := by
  unfold doubleM at h ⊢
  repeat' split
  all_goals first | rfl | (simp_all)
theorem len_double (x : Nt) (i : Int) : (formR x (doubleM x i)).x.way.length ≤ 300 ∧ (formR x (doubleM x i)).x.cuts.length ≤ 300 ∧ (formR x (doubleM x i)).x.timers.length ≤ 300 := len_form x (doubleM x i) (fun h he => double_keeps h i he) (fun h => double_badN h)
theorem delay_badN {x : Nt} {i n : Int} (h : (delayM x i n).e ≠ 0) : delayM x i n = errR (delayM x i n).e := by
  unfold delayM at h ⊢
  repeat' split
  all_goals first | rfl | (simp_all)
theorem len_delay (x : Nt) (i n : Int) : (formR x (delayM x i n)).x.way.length ≤ 300 ∧ (formR x (delayM x i n)).x.cuts.length ≤ 300 ∧ (formR x (delayM x i n)).x.timers.length ≤ 300 := len_form x (delayM x i n) (fun h he => delay_keeps h i n he) (fun h => delay_badN h)
section
variable {w w0 : World} {b B : Nat} {a0 a1 a2 a3 a4 a5 a6 a7 a8 a9 a10 a11 a12 a13 : Value}
theorem put14_net {v : Value} {x : Nt} (h : NetO w B v x) (hb : b < B) : NetO (put14 w b a0 a1 a2 a3 a4 a5 a6 a7 a8 a9 a10 a11 a12 a13) B v x := by
  unfold put14
  repeat (refine NetO.far ?_ (by exact hb) _)
  exact h
theorem put14_farN {k : Nat} {o : Obj} (h : w.heap[k]? = some o) (hne : k ≠ b) : (put14 w b a0 a1 a2 a3 a4 a5 a6 a7 a8 a9 a10 a11 a12 a13).heap[k]? = some o := by
  unfold put14
  repeat (refine bl_far ?_ (by exact hne) _)
  exact h
theorem put14_abv (hb : b < B) : Abv B w (put14 w b a0 a1 a2 a3 a4 a5 a6 a7 a8 a9 a10 a11 a12 a13) := by
  refine ⟨by unfold put14; simp [World.setCell], fun k hk hlt => ?_⟩
  exact put14_farN (Array.getElem?_eq_getElem hlt) (by omega) |>.trans (Array.getElem?_eq_getElem hlt).symm
end
set_option maxHeartbeats 8000000 in
set_option maxRecDepth 100000 in
theorem NetLetters_any (x : Nt) (fr tn : Int) (data : ByteArray) (i n : Int) (v : Value) (w : World) (hV : NetC w v x) (hlw : x.way.length ≤ 9223372036854775807) (hlc : x.cuts.length ≤ 9223372036854775807) (hlt : x.timers.length ≤ 9223372036854775807) :
    Calls Tryz.prog 3 #[v, .int .i64 fr, .int .i64 tn, .string data, .int .i64 i, .int .i64 n] w fun e w' => e = .returned (.bool true) ∧ Below w.heap.size w w' := by
  obtain ⟨AW1, cW1, AC1, cC1, AT1, cT1, rfl, hW, hC, hT, hcap⟩ := hV
  have HV : Hid (∀ W, Below w.heap.size w W → NetV W (.agg #[.int .i64 x.nodes, .int .i64 x.now, .int .i64 x.next, .slice AW1 x.way.length cW1, .slice AC1 x.cuts.length cC1, .slice AT1 x.timers.length cT1]) x) := fun W hb => ⟨AW1, cW1, AC1, cC1, AT1, cT1, rfl, hW.below hb, hC.below hb, hT.below hb⟩
  have HW := Lib.hid hW
  have HC := Lib.hid hC
  have HT := Lib.hid hT
  clear hW hC hT
  have hsm := fun (v : Value) (w : World) (hV : NetV w v x) => small_any x v w hV hlw hlc hlt
  obtain ⟨w0, hw0⟩ : ∃ w0, w0 = w.alloc (.cells #[.int .i64 x.nodes, .int .i64 x.now, .int .i64 x.next, .slice AW1 x.way.length cW1, .slice AC1 x.cuts.length cC1, .slice AT1 x.timers.length cT1] 26) := ⟨_, rfl⟩
  have hb0 : Below w.heap.size w w0 := by rw [hw0]; exact below_alloc (Below.refl _ _) _
  have hz0 : w0.heap[w.heap.size]? = some (.cells #[.int .i64 x.nodes, .int .i64 x.now, .int .i64 x.next, .slice AW1 x.way.length cW1, .slice AC1 x.cuts.length cC1, .slice AT1 x.timers.length cT1] 26 (0, 0)) := by rw [hw0]; exact bl_new _ _
  have HW0 := Lib.hid hw0
  have HB0 := Lib.hid hb0
  have HZ0 := Lib.hid hz0
  clear hw0 hb0 hz0
  cases hs : smallB x
  · rw [hs] at hsm
    have HS := Lib.hid hsm
    clear hsm hs
    go_enter Tryz.func3, Tryz.ntmps3
    go_wp2_with (first
      | (go_at_call 5; rw [← HW0.out]; refine calls_below (HS.out _ _ (HV.out _ HB0.out)) ?_; intro w1 hb1)
      | (go_at_call 6; refine calls_below (sane_any _) ?_; intro w2 hb2))
    go_ret
    exact ⟨rfl, below_trans HB0.out (below_trans hb1 hb2)⟩
  rw [hs] at hsm
  have hln := small_lens hs
  have HS := Lib.hid hsm
  have HL := Lib.hid hln
  clear hsm hs hln hlw hlc hlt
  obtain ⟨r1, hr1⟩ : ∃ r, r = formR x (sendM x fr tn data) := ⟨_, rfl⟩
  have hp1 := fun (v : Value) (w : World) (hV : NetV w v x) => Send_any x fr tn data v w (by have := HL.out; omega) (by have := HL.out; omega) (by have := HL.out; omega) hV
  have hq1 := fun (w : World) (hW : Rd w AW1 x.way) (hC : Rd w AC1 x.cuts) (hT : Rd w AT1 x.timers) => RSend_any x fr tn data w AW1 AC1 AT1 cW1 cC1 cT1 hW hC hT hcap (by have := HL.out; omega) (by have := HL.out; omega) (by have := HL.out; omega)
  have hl1 := len_send x fr tn data
  rw [← hr1] at hp1 hq1 hl1
  have HP1 := Lib.hid hp1
  have HQ1 := Lib.hid hq1
  have HL1 := Lib.hid hl1
  clear hp1 hq1 hl1 hr1
  obtain ⟨r2, hr2⟩ : ∃ r, r = formR x (deliverM x i) := ⟨_, rfl⟩
  have hp2 := fun (v : Value) (w : World) (hV : NetV w v x) => Deliver_any x i v w (by have := HL.out; omega) (by have := HL.out; omega) (by have := HL.out; omega) hV
  have hq2 := fun (w : World) (hW : Rd w AW1 x.way) (hC : Rd w AC1 x.cuts) (hT : Rd w AT1 x.timers) => RDeliver_any x i w AW1 AC1 AT1 cW1 cC1 cT1 hW hC hT hcap (by have := HL.out; omega) (by have := HL.out; omega) (by have := HL.out; omega)
  have hl2 := len_deliver x i
  rw [← hr2] at hp2 hq2 hl2
  have HP2 := Lib.hid hp2
  have HQ2 := Lib.hid hq2
  have HL2 := Lib.hid hl2
  clear hp2 hq2 hl2 hr2
  obtain ⟨r3, hr3⟩ : ∃ r, r = formR x (loseM x i) := ⟨_, rfl⟩
  have hp3 := fun (v : Value) (w : World) (hV : NetV w v x) => Lose_any x i v w (by have := HL.out; omega) (by have := HL.out; omega) (by have := HL.out; omega) hV
  have hq3 := fun (w : World) (hW : Rd w AW1 x.way) (hC : Rd w AC1 x.cuts) (hT : Rd w AT1 x.timers) => RLose_any x i w AW1 AC1 AT1 cW1 cC1 cT1 hW hC hT hcap (by have := HL.out; omega) (by have := HL.out; omega) (by have := HL.out; omega)
  have hl3 := len_lose x i
  rw [← hr3] at hp3 hq3 hl3
  have HP3 := Lib.hid hp3
  have HQ3 := Lib.hid hq3
  have HL3 := Lib.hid hl3
  clear hp3 hq3 hl3 hr3
  obtain ⟨r4, hr4⟩ : ∃ r, r = formR x (doubleM x i) := ⟨_, rfl⟩
  have hp4 := fun (v : Value) (w : World) (hV : NetV w v x) => Double_any x i v w (by have := HL.out; omega) (by have := HL.out; omega) (by have := HL.out; omega) hV
  have hq4 := fun (w : World) (hW : Rd w AW1 x.way) (hC : Rd w AC1 x.cuts) (hT : Rd w AT1 x.timers) => RDouble_any x i w AW1 AC1 AT1 cW1 cC1 cT1 hW hC hT hcap (by have := HL.out; omega) (by have := HL.out; omega) (by have := HL.out; omega)
  have hl4 := len_double x i
  rw [← hr4] at hp4 hq4 hl4
  have HP4 := Lib.hid hp4
  have HQ4 := Lib.hid hq4
  have HL4 := Lib.hid hl4
  clear hp4 hq4 hl4 hr4
  obtain ⟨r5, hr5⟩ : ∃ r, r = formR x (delayM x i n) := ⟨_, rfl⟩
  have hp5 := fun (v : Value) (w : World) (hV : NetV w v x) => Delay_any x i n v w (by have := HL.out; omega) (by have := HL.out; omega) (by have := HL.out; omega) hV
  have hq5 := fun (w : World) (hW : Rd w AW1 x.way) (hC : Rd w AC1 x.cuts) (hT : Rd w AT1 x.timers) => RDelay_any x i n w AW1 AC1 AT1 cW1 cC1 cT1 hW hC hT hcap (by have := HL.out; omega) (by have := HL.out; omega) (by have := HL.out; omega)
  have hl5 := len_delay x i n
  rw [← hr5] at hp5 hq5 hl5
  have HP5 := Lib.hid hp5
  have HQ5 := Lib.hid hq5
  have HL5 := Lib.hid hl5
  clear hp5 hq5 hl5 hr5
  clear hcap
  have ways : (decide ((300 : Int) < (data.size : Int)) = false ∧ decide ((500010 : Int) < (data.size : Int)) = false) ∨ (decide ((300 : Int) < (data.size : Int)) = true ∧ decide ((data.size : Int) ≤ 500000) = true) ∨ (decide ((300 : Int) < (data.size : Int)) = true ∧ decide ((data.size : Int) ≤ 500000) = false ∧ decide ((500010 : Int) < (data.size : Int)) = true) ∨ (decide ((300 : Int) < (data.size : Int)) = true ∧ decide ((data.size : Int) ≤ 500000) = false ∧ decide ((500010 : Int) < (data.size : Int)) = false) := by
    simp only [decide_eq_false_iff_not, decide_eq_true_eq]
    omega
  go_enter Tryz.func3, Tryz.ntmps3
  go_wp2_with fail
  rw [← HW0.out]
  clear HW0
  refine calls_below (HS.out _ _ (HV.out _ HB0.out)) ?_
  intro w1 hb1
  have hways : ∃ bd : Bool, Hid True ∧ True := ⟨true, trivial, trivial⟩
  clear hways
  rcases ways with ⟨q1, q3⟩ | ⟨q1, q2⟩ | ⟨q1, q2, q3⟩ | ⟨q1, q2, q3⟩
  rotate_left 1
  · go_wp2_with fail
    refine calls_below (sane_any _) ?_
    intro w2 hb2
    go_wp2
    go_ret
    exact ⟨rfl, below_trans HB0.out (below_trans hb1 hb2)⟩
  · go_wp2_with fail
    refine calls_below (sane_any _) ?_
    intro w2 hb2
    go_wp2
    go_ret
    exact ⟨rfl, below_trans HB0.out (below_trans hb1 hb2)⟩
  all_goals
    have hz := bl_below HZ0.out hb1
    obtain ⟨⟨k0, k1, k2, k3, k4, k5⟩, -⟩ := blc6 hz
    have hlz := bl_lt hz
    clear hz
    go_wp2_with fail
    refine (HP1.out _ _ (HV.out _ (below_trans HB0.out hb1))).mono ?_
    rintro e wB1 ⟨vw, rfl, hO, hb⟩
    obtain ⟨PW1, pW1, PC1, pC1, PT1, pT1, rfl, oW, oC, oT⟩ := hO
    have hO1 : NetO wB1 w1.heap.size (.agg #[.int .i64 r1.x.nodes, .int .i64 r1.x.now, .int .i64 r1.x.next, .slice PW1 r1.x.way.length pW1, .slice PC1 r1.x.cuts.length pC1, .slice PT1 r1.x.timers.length pT1]) r1.x := ⟨PW1, pW1, PC1, pC1, PT1, pT1, rfl, oW, oC, oT⟩
    have hbB1 := below_trans hb1 hb
    clear oW oC oT k0 k1 k2 k3 k4 k5 hlz
    have hz := bl_below HZ0.out hbB1
    obtain ⟨⟨k0, k1, k2, k3, k4, k5⟩, -⟩ := blc6 hz
    have hlz := bl_lt hz
    clear hz
    go_wp2_with fail
    refine calls_world ?_
    intro wC1 hw'
    have hbb : Below wB1.heap.size wB1 wC1 := by rw [hw']; exact below_alloc (Below.refl _ _) _
    have hgy : wC1.heap[wB1.heap.size]? = some (.cells #[.int .i64 r1.x.nodes, .int .i64 r1.x.now, .int .i64 r1.x.next, .slice PW1 r1.x.way.length pW1, .slice PC1 r1.x.cuts.length pC1, .slice PT1 r1.x.timers.length pT1] 26 (0, 0)) := by rw [hw']; exact bl_new _ _
    have hbC1 := below_trans hbB1 hbb
    replace hO1 := hO1.below hbb
    obtain ⟨gy, hgyn⟩ : ∃ gy, gy = wB1.heap.size := ⟨_, rfl⟩
    have hgy0 : w0.heap.size ≤ gy := by rw [hgyn]; exact hbB1.size
    rw [← hgyn] at hgy
    have hgylt : gy < wC1.heap.size := bl_lt hgy
    rw [← hgyn]
    clear hw' hbb hgyn k0 k1 k2 k3 k4 k5 hlz
    refine (HQ1.out _ (HW.out.below (below_trans HB0.out hbC1)) (HC.out.below (below_trans HB0.out hbC1)) (HT.out.below (below_trans HB0.out hbC1))).mono ?_
    rintro e wD1 ⟨vw, rfl, hMA, hb⟩
    have hbD1 := below_trans hbC1 hb
    obtain ⟨MW1, mW1, MC1, mC1, MT1, mT1, MF1, mF1, rfl, -, -, -⟩ := hMA wD1 (Abv.refl _ _) (HW.out.below (below_trans HB0.out hbD1)) (HC.out.below (below_trans HB0.out hbD1)) (HT.out.below (below_trans HB0.out hbD1))
    replace hgy := bl_below hgy hb
    replace hO1 := hO1.below hb
    have hlgy := bl_lt hgy
    obtain ⟨⟨y0, y1, y2, y3, y4, y5⟩, u0, u1, u2, u3, u4, u5⟩ := blc6 hgy
    clear hb
    have hz := bl_below HZ0.out hbD1
    obtain ⟨⟨k0, k1, k2, k3, k4, k5⟩, -⟩ := blc6 hz
    have hlz := bl_lt hz
    clear hz
    go_wp2_with fail
    refine calls_world ?_
    intro wE1 hw'
    have hbb : Below wD1.heap.size wD1 wE1 := by rw [hw']; exact below_alloc (Below.refl _ _) _
    have hga : wE1.heap[wD1.heap.size]? = some (.cells #[.int .i64 r1.x.nodes, .int .i64 r1.x.now, .int .i64 r1.x.next, .slice MW1 r1.x.way.length mW1, .slice MC1 r1.x.cuts.length mC1, .slice MT1 r1.x.timers.length mT1, .int .i64 r1.id, .int .i64 r1.l.id, .int .i64 r1.l.fr, .int .i64 r1.l.to, .int .i64 r1.l.rd, .string r1.l.data, .slice MF1 r1.ts.length mF1, .int .i64 r1.e] 35 (0, 0)) := by rw [hw']; exact bl_new _ _
    have hbE1 := below_trans hbD1 hbb
    have hNE := (hO1.below hbb).netV
    have hME := (hMA wE1 (Abv.of hbb) (HW.out.below (below_trans HB0.out hbE1)) (HC.out.below (below_trans HB0.out hbE1)) (HT.out.below (below_trans HB0.out hbE1))).madeV
    obtain ⟨_, _, _, _, _, _, _, _, e9, hME, -⟩ := hME
    cases e9
    replace hgy := bl_below hgy hbb
    obtain ⟨ga, hgan⟩ : ∃ ga, ga = wD1.heap.size := ⟨_, rfl⟩
    have hga0 : w0.heap.size ≤ ga := by rw [hgan]; exact hbD1.size
    have hne : gy ≠ ga := by rw [hgan]; have := hbD1.size; omega
    rw [← hgan] at hga
    rw [← hgan]
    clear hw' hgan hbb hMA hO1 k0 k1 k2 k3 k4 k5 hlz y0 y1 y2 y3 y4 y5 u0 u1 u2 u3 u4 u5
    have hsame := RSame_any r1.x r1.x _ _ wE1 hNE hME (by have := HL1.out; omega) (by have := HL1.out; omega) (by have := HL1.out; omega)
    rw [decide_eq_true rfl] at hsame
    refine calls_below hsame ?_
    intro wF1 hb
    have hbF1 := below_trans hbE1 hb
    replace hgy := bl_below hgy hb
    replace hga := bl_below hga hb
    have HNE := Lib.hid hne
    have nx1 : ¬ w.heap.size = gy := by have := bl_lt HZ0.out; omega
    have nx2 : ¬ gy = w.heap.size := by have := bl_lt HZ0.out; omega
    have nx3 : ¬ w.heap.size = ga := by have := bl_lt HZ0.out; omega
    have nx4 : ¬ ga = w.heap.size := by have := bl_lt HZ0.out; omega
    have HGY0 := Lib.hid hgy0
    have HGA0 := Lib.hid hga0
    clear hb hsame hNE hME hlgy hgylt hne hgy0 hga0
    have hz := bl_below HZ0.out hbF1
    obtain ⟨⟨k0, k1, k2, k3, k4, k5⟩, -⟩ := blc6 hz
    have hlz := bl_lt hz
    clear hz
    go_upto_region 7 with fail
    go_wp2_with fail
    refine (HP2.out _ _ (HV.out _ (below_trans HB0.out hbF1))).mono ?_
    rintro e wB2 ⟨vw, rfl, hO, hb⟩
    obtain ⟨PW2, pW2, PC2, pC2, PT2, pT2, rfl, oW, oC, oT⟩ := hO
    have hO2 : NetO wB2 wF1.heap.size (.agg #[.int .i64 r2.x.nodes, .int .i64 r2.x.now, .int .i64 r2.x.next, .slice PW2 r2.x.way.length pW2, .slice PC2 r2.x.cuts.length pC2, .slice PT2 r2.x.timers.length pT2]) r2.x := ⟨PW2, pW2, PC2, pC2, PT2, pT2, rfl, oW, oC, oT⟩
    have hbB2 := below_trans hbF1 hb
    clear oW oC oT k0 k1 k2 k3 k4 k5 hlz
    have HGY := Lib.hid (bl_below hgy hb)
    have HGA := Lib.hid (bl_below hga hb)
    have hlgy := bl_lt HGY.out
    have hlga := bl_lt HGA.out
    obtain ⟨⟨y0, y1, y2, y3, y4, y5⟩, u0, u1, u2, u3, u4, u5⟩ := blc6 HGY.out
    have HO := Lib.hid hO2
    have HLY : Hid (gy < wF1.heap.size) := bl_lt hgy
    have HLA : Hid (ga < wF1.heap.size) := bl_lt hga
    have HLYB := Lib.hid hlgy
    have HLAB := Lib.hid hlga
    have ny1 : ¬ gy = wB2.heap.size := by omega
    have ny2 : ¬ wB2.heap.size = gy := by omega
    clear hb hgy hga hO2
    have hz := bl_below HZ0.out hbB2
    obtain ⟨⟨k0, k1, k2, k3, k4, k5⟩, -⟩ := blc6 hz
    have hlz := bl_lt hz
    clear hz
    go_wp2_with fail
    refine calls_world ?_
    intro wC2 hw'
    have HBC : Hid (Below w0.heap.size w0 wC2) := by rw [hw']; exact below_alloc (below_set6 hbB2 HGY0.out _ _ _ _ _ _) _
    have HGYC : Hid (wC2.heap[gy]? = some (.cells #[.int .i64 r2.x.nodes, .int .i64 r2.x.now, .int .i64 r2.x.next, .slice PW2 r2.x.way.length pW2, .slice PC2 r2.x.cuts.length pC2, .slice PT2 r2.x.timers.length pT2] 26 (0, 0))) := by rw [hw']; exact bl_alloc (bl_all6 HGY.out _ _ _ _ _ _) _
    obtain ⟨m0, m1, m2, m3, m4, m5, m6, m7, m8, m9, m10, m11, m12, m13, hga⟩ : ∃ m0 m1 m2 m3 m4 m5 m6 m7 m8 m9 m10 m11 m12 m13, wB2.heap[ga]? = some (.cells #[m0, m1, m2, m3, m4, m5, m6, m7, m8, m9, m10, m11, m12, m13] 35 (0, 0)) := ⟨_, _, _, _, _, _, _, _, _, _, _, _, _, _, HGA.out⟩
    have HGAC : Hid (wC2.heap[ga]? = some (.cells #[m0, m1, m2, m3, m4, m5, m6, m7, m8, m9, m10, m11, m12, m13] 35 (0, 0))) := by rw [hw']; exact bl_alloc (bl_far6 hga (fun e => HNE.out e.symm) _ _ _ _ _ _) _
    have HOC : Hid (NetO wC2 wF1.heap.size (.agg #[.int .i64 r2.x.nodes, .int .i64 r2.x.now, .int .i64 r2.x.next, .slice PW2 r2.x.way.length pW2, .slice PC2 r2.x.cuts.length pC2, .slice PT2 r2.x.timers.length pT2]) r2.x) := by rw [hw']; exact NetO.alloc (HO.out.far6 HLY.out _ _ _ _ _ _) _
    have HGLC : Hid (wC2.heap[wB2.heap.size]? = some (.cells #[.int .i64 r2.l.id, .int .i64 r2.l.fr, .int .i64 r2.l.to, .int .i64 r2.l.rd, .string r2.l.data] 33 (0, 0))) := by rw [hw']; exact bl_newS (by simp [World.setCell])
    have HLYC : Hid (gy < wC2.heap.size) := bl_lt HGYC.out
    have HLAC : Hid (ga < wC2.heap.size) := bl_lt HGAC.out
    have hbC2 := HBC.out
    clear hw' hga HGY HGA HO hlgy hlga ny1 ny2 k0 k1 k2 k3 k4 k5 hlz y0 y1 y2 y3 y4 y5 u0 u1 u2 u3 u4 u5
    refine (HQ2.out _ (HW.out.below (below_trans HB0.out hbC2)) (HC.out.below (below_trans HB0.out hbC2)) (HT.out.below (below_trans HB0.out hbC2))).mono ?_
    rintro e wD2 ⟨vw, rfl, hMA, hb⟩
    have hbD2 := below_trans hbC2 hb
    obtain ⟨MW2, mW2, MC2, mC2, MT2, mT2, MF2, mF2, rfl, -, -, -⟩ := hMA wD2 (Abv.refl _ _) (HW.out.below (below_trans HB0.out hbD2)) (HC.out.below (below_trans HB0.out hbD2)) (HT.out.below (below_trans HB0.out hbD2))
    have HGYD := Lib.hid (bl_below HGYC.out hb)
    have HGAD := Lib.hid (bl_below HGAC.out hb)
    have HOD := Lib.hid (HOC.out.below hb)
    have HMA := Lib.hid hMA
    have HGLD := Lib.hid (bl_below HGLC.out hb)
    obtain ⟨⟨l0, l1, l2, l3, l4⟩, -⟩ := blc5 HGLD.out
    have hll := bl_lt HGLD.out
    have nl1 : ¬ wB2.heap.size = gy := by have := HLYB.out; omega
    have nl2 : ¬ wB2.heap.size = ga := by have := HLAB.out; omega
    clear HGLC
    clear hb hMA HGYC HGAC HOC HBC hbC2
    obtain ⟨⟨y0, y1, y2, y3, y4, y5⟩, u0, u1, u2, u3, u4, u5⟩ := blc6 HGYD.out
    have hlgy := bl_lt HGYD.out
    obtain ⟨⟨a0, a1, a2, a3, a4, a5, a6, a7, a8, a9, a10, a11, a12, a13⟩, fzz⟩ := blc14 HGAD.out
    have hlga := bl_lt HGAD.out
    have ng1 : ¬ gy = ga := HNE.out
    have ng2 : ¬ ga = gy := fun e => HNE.out e.symm
    have hz := bl_below HZ0.out hbD2
    obtain ⟨⟨k0, k1, k2, k3, k4, k5⟩, -⟩ := blc6 hz
    have hlz := bl_lt hz
    clear hz
    clear u0 u1 u2 u3 u4 u5
    go_wp2_with fail
    refine calls_world ?_
    intro wE2 hw'
    have hwE : wE2 = put14 wD2 ga (.int .i64 r2.x.nodes) (.int .i64 r2.x.now) (.int .i64 r2.x.next) (.slice MW2 r2.x.way.length mW2) (.slice MC2 r2.x.cuts.length mC2) (.slice MT2 r2.x.timers.length mT2) (.int .i64 r2.id) (.int .i64 r2.l.id) (.int .i64 r2.l.fr) (.int .i64 r2.l.to) (.int .i64 r2.l.rd) (.string r2.l.data) (.slice MF2 r2.ts.length mF2) (.int .i64 r2.e) := hw'
    clear hw'
    have hbE2 : Below w0.heap.size w0 wE2 := by rw [hwE]; exact put14_below hbD2 HGA0.out
    have hgy : wE2.heap[gy]? = some (.cells #[.int .i64 r2.x.nodes, .int .i64 r2.x.now, .int .i64 r2.x.next, .slice PW2 r2.x.way.length pW2, .slice PC2 r2.x.cuts.length pC2, .slice PT2 r2.x.timers.length pT2] 26 (0, 0)) := by rw [hwE]; exact put14_farN HGYD.out HNE.out
    have hga : wE2.heap[ga]? = some (.cells #[.int .i64 r2.x.nodes, .int .i64 r2.x.now, .int .i64 r2.x.next, .slice MW2 r2.x.way.length mW2, .slice MC2 r2.x.cuts.length mC2, .slice MT2 r2.x.timers.length mT2, .int .i64 r2.id, .int .i64 r2.l.id, .int .i64 r2.l.fr, .int .i64 r2.l.to, .int .i64 r2.l.rd, .string r2.l.data, .slice MF2 r2.ts.length mF2, .int .i64 r2.e] 35 (0, 0)) := by rw [hwE]; exact put14_all HGAD.out
    have hNE : NetV wE2 (.agg #[.int .i64 r2.x.nodes, .int .i64 r2.x.now, .int .i64 r2.x.next, .slice PW2 r2.x.way.length pW2, .slice PC2 r2.x.cuts.length pC2, .slice PT2 r2.x.timers.length pT2]) r2.x := by rw [hwE]; exact (put14_net HOD.out HLA.out).netV
    have hME := (HMA.out wE2 (by rw [hwE]; exact put14_abv HLAC.out) (HW.out.below (below_trans HB0.out hbE2)) (HC.out.below (below_trans HB0.out hbE2)) (HT.out.below (below_trans HB0.out hbE2))).madeV
    obtain ⟨_, _, _, _, _, _, _, _, e9, hME, -⟩ := hME
    cases e9
    clear hwE HMA HGYD HGAD HOD k0 k1 k2 k3 k4 k5 hlz y0 y1 y2 y3 y4 y5 a0 a1 a2 a3 a4 a5 a6 a7 a8 a9 a10 a11 a12 a13 fzz hlgy hlga ng1 ng2 l0 l1 l2 l3 l4 hll nl1 nl2 HGLD
    have hsame := RSame_any r2.x r2.x _ _ wE2 hNE hME (by have := HL2.out; omega) (by have := HL2.out; omega) (by have := HL2.out; omega)
    rw [decide_eq_true rfl] at hsame
    refine calls_below hsame ?_
    intro wF2 hb
    have hbF2 := below_trans hbE2 hb
    replace hgy := bl_below hgy hb
    replace hga := bl_below hga hb
    clear hb hsame hNE hME HLY HLA HLYC HLAC
    have hz := bl_below HZ0.out hbF2
    obtain ⟨⟨k0, k1, k2, k3, k4, k5⟩, -⟩ := blc6 hz
    have hlz := bl_lt hz
    clear hz
    go_upto_region 11 with fail
    go_wp2_with fail
    refine (HP3.out _ _ (HV.out _ (below_trans HB0.out hbF2))).mono ?_
    rintro e wB3 ⟨vw, rfl, hO, hb⟩
    obtain ⟨PW3, pW3, PC3, pC3, PT3, pT3, rfl, oW, oC, oT⟩ := hO
    have hO3 : NetO wB3 wF2.heap.size (.agg #[.int .i64 r3.x.nodes, .int .i64 r3.x.now, .int .i64 r3.x.next, .slice PW3 r3.x.way.length pW3, .slice PC3 r3.x.cuts.length pC3, .slice PT3 r3.x.timers.length pT3]) r3.x := ⟨PW3, pW3, PC3, pC3, PT3, pT3, rfl, oW, oC, oT⟩
    have hbB3 := below_trans hbF2 hb
    clear oW oC oT k0 k1 k2 k3 k4 k5 hlz
    have HGY := Lib.hid (bl_below hgy hb)
    have HGA := Lib.hid (bl_below hga hb)
    have hlgy := bl_lt HGY.out
    have hlga := bl_lt HGA.out
    obtain ⟨⟨y0, y1, y2, y3, y4, y5⟩, u0, u1, u2, u3, u4, u5⟩ := blc6 HGY.out
    have HO := Lib.hid hO3
    have HLY : Hid (gy < wF2.heap.size) := bl_lt hgy
    have HLA : Hid (ga < wF2.heap.size) := bl_lt hga
    have HLYB := Lib.hid hlgy
    have HLAB := Lib.hid hlga
    have ny1 : ¬ gy = wB3.heap.size := by omega
    have ny2 : ¬ wB3.heap.size = gy := by omega
    clear hb hgy hga hO3
    have hz := bl_below HZ0.out hbB3
    obtain ⟨⟨k0, k1, k2, k3, k4, k5⟩, -⟩ := blc6 hz
    have hlz := bl_lt hz
    clear hz
    go_wp2_with fail
    refine calls_world ?_
    intro wC3 hw'
    have HBC : Hid (Below w0.heap.size w0 wC3) := by rw [hw']; exact below_set6 hbB3 HGY0.out _ _ _ _ _ _
    have HGYC : Hid (wC3.heap[gy]? = some (.cells #[.int .i64 r3.x.nodes, .int .i64 r3.x.now, .int .i64 r3.x.next, .slice PW3 r3.x.way.length pW3, .slice PC3 r3.x.cuts.length pC3, .slice PT3 r3.x.timers.length pT3] 26 (0, 0))) := by rw [hw']; exact bl_all6 HGY.out _ _ _ _ _ _
    obtain ⟨m0, m1, m2, m3, m4, m5, m6, m7, m8, m9, m10, m11, m12, m13, hga⟩ : ∃ m0 m1 m2 m3 m4 m5 m6 m7 m8 m9 m10 m11 m12 m13, wB3.heap[ga]? = some (.cells #[m0, m1, m2, m3, m4, m5, m6, m7, m8, m9, m10, m11, m12, m13] 35 (0, 0)) := ⟨_, _, _, _, _, _, _, _, _, _, _, _, _, _, HGA.out⟩
    have HGAC : Hid (wC3.heap[ga]? = some (.cells #[m0, m1, m2, m3, m4, m5, m6, m7, m8, m9, m10, m11, m12, m13] 35 (0, 0))) := by rw [hw']; exact bl_far6 hga (fun e => HNE.out e.symm) _ _ _ _ _ _
    have HOC : Hid (NetO wC3 wF2.heap.size (.agg #[.int .i64 r3.x.nodes, .int .i64 r3.x.now, .int .i64 r3.x.next, .slice PW3 r3.x.way.length pW3, .slice PC3 r3.x.cuts.length pC3, .slice PT3 r3.x.timers.length pT3]) r3.x) := by rw [hw']; exact HO.out.far6 HLY.out _ _ _ _ _ _
    have HLYC : Hid (gy < wC3.heap.size) := bl_lt HGYC.out
    have HLAC : Hid (ga < wC3.heap.size) := bl_lt HGAC.out
    have hbC3 := HBC.out
    clear hw' hga HGY HGA HO hlgy hlga ny1 ny2 k0 k1 k2 k3 k4 k5 hlz y0 y1 y2 y3 y4 y5 u0 u1 u2 u3 u4 u5
    refine (HQ3.out _ (HW.out.below (below_trans HB0.out hbC3)) (HC.out.below (below_trans HB0.out hbC3)) (HT.out.below (below_trans HB0.out hbC3))).mono ?_
    rintro e wD3 ⟨vw, rfl, hMA, hb⟩
    have hbD3 := below_trans hbC3 hb
    obtain ⟨MW3, mW3, MC3, mC3, MT3, mT3, MF3, mF3, rfl, -, -, -⟩ := hMA wD3 (Abv.refl _ _) (HW.out.below (below_trans HB0.out hbD3)) (HC.out.below (below_trans HB0.out hbD3)) (HT.out.below (below_trans HB0.out hbD3))
    have HGYD := Lib.hid (bl_below HGYC.out hb)
    have HGAD := Lib.hid (bl_below HGAC.out hb)
    have HOD := Lib.hid (HOC.out.below hb)
    have HMA := Lib.hid hMA
    clear hb hMA HGYC HGAC HOC HBC hbC3
    obtain ⟨⟨y0, y1, y2, y3, y4, y5⟩, u0, u1, u2, u3, u4, u5⟩ := blc6 HGYD.out
    have hlgy := bl_lt HGYD.out
    obtain ⟨⟨a0, a1, a2, a3, a4, a5, a6, a7, a8, a9, a10, a11, a12, a13⟩, fzz⟩ := blc14 HGAD.out
    have hlga := bl_lt HGAD.out
    have ng1 : ¬ gy = ga := HNE.out
    have ng2 : ¬ ga = gy := fun e => HNE.out e.symm
    have hz := bl_below HZ0.out hbD3
    obtain ⟨⟨k0, k1, k2, k3, k4, k5⟩, -⟩ := blc6 hz
    have hlz := bl_lt hz
    clear hz
    clear u0 u1 u2 u3 u4 u5
    go_wp2_with fail
    refine calls_world ?_
    intro wE3 hw'
    have hwE : wE3 = put14 wD3 ga (.int .i64 r3.x.nodes) (.int .i64 r3.x.now) (.int .i64 r3.x.next) (.slice MW3 r3.x.way.length mW3) (.slice MC3 r3.x.cuts.length mC3) (.slice MT3 r3.x.timers.length mT3) (.int .i64 r3.id) (.int .i64 r3.l.id) (.int .i64 r3.l.fr) (.int .i64 r3.l.to) (.int .i64 r3.l.rd) (.string r3.l.data) (.slice MF3 r3.ts.length mF3) (.int .i64 r3.e) := hw'
    clear hw'
    have hbE3 : Below w0.heap.size w0 wE3 := by rw [hwE]; exact put14_below hbD3 HGA0.out
    have hgy : wE3.heap[gy]? = some (.cells #[.int .i64 r3.x.nodes, .int .i64 r3.x.now, .int .i64 r3.x.next, .slice PW3 r3.x.way.length pW3, .slice PC3 r3.x.cuts.length pC3, .slice PT3 r3.x.timers.length pT3] 26 (0, 0)) := by rw [hwE]; exact put14_farN HGYD.out HNE.out
    have hga : wE3.heap[ga]? = some (.cells #[.int .i64 r3.x.nodes, .int .i64 r3.x.now, .int .i64 r3.x.next, .slice MW3 r3.x.way.length mW3, .slice MC3 r3.x.cuts.length mC3, .slice MT3 r3.x.timers.length mT3, .int .i64 r3.id, .int .i64 r3.l.id, .int .i64 r3.l.fr, .int .i64 r3.l.to, .int .i64 r3.l.rd, .string r3.l.data, .slice MF3 r3.ts.length mF3, .int .i64 r3.e] 35 (0, 0)) := by rw [hwE]; exact put14_all HGAD.out
    have hNE : NetV wE3 (.agg #[.int .i64 r3.x.nodes, .int .i64 r3.x.now, .int .i64 r3.x.next, .slice PW3 r3.x.way.length pW3, .slice PC3 r3.x.cuts.length pC3, .slice PT3 r3.x.timers.length pT3]) r3.x := by rw [hwE]; exact (put14_net HOD.out HLA.out).netV
    have hME := (HMA.out wE3 (by rw [hwE]; exact put14_abv HLAC.out) (HW.out.below (below_trans HB0.out hbE3)) (HC.out.below (below_trans HB0.out hbE3)) (HT.out.below (below_trans HB0.out hbE3))).madeV
    obtain ⟨_, _, _, _, _, _, _, _, e9, hME, -⟩ := hME
    cases e9
    clear hwE HMA HGYD HGAD HOD k0 k1 k2 k3 k4 k5 hlz y0 y1 y2 y3 y4 y5 a0 a1 a2 a3 a4 a5 a6 a7 a8 a9 a10 a11 a12 a13 fzz hlgy hlga ng1 ng2 
    have hsame := RSame_any r3.x r3.x _ _ wE3 hNE hME (by have := HL3.out; omega) (by have := HL3.out; omega) (by have := HL3.out; omega)
    rw [decide_eq_true rfl] at hsame
    refine calls_below hsame ?_
    intro wF3 hb
    have hbF3 := below_trans hbE3 hb
    replace hgy := bl_below hgy hb
    replace hga := bl_below hga hb
    clear hb hsame hNE hME HLY HLA HLYC HLAC
    have hz := bl_below HZ0.out hbF3
    obtain ⟨⟨k0, k1, k2, k3, k4, k5⟩, -⟩ := blc6 hz
    have hlz := bl_lt hz
    clear hz
    go_upto_region 15 with fail
    go_wp2_with fail
    refine (HP4.out _ _ (HV.out _ (below_trans HB0.out hbF3))).mono ?_
    rintro e wB4 ⟨vw, rfl, hO, hb⟩
    obtain ⟨PW4, pW4, PC4, pC4, PT4, pT4, rfl, oW, oC, oT⟩ := hO
    have hO4 : NetO wB4 wF3.heap.size (.agg #[.int .i64 r4.x.nodes, .int .i64 r4.x.now, .int .i64 r4.x.next, .slice PW4 r4.x.way.length pW4, .slice PC4 r4.x.cuts.length pC4, .slice PT4 r4.x.timers.length pT4]) r4.x := ⟨PW4, pW4, PC4, pC4, PT4, pT4, rfl, oW, oC, oT⟩
    have hbB4 := below_trans hbF3 hb
    clear oW oC oT k0 k1 k2 k3 k4 k5 hlz
    have HGY := Lib.hid (bl_below hgy hb)
    have HGA := Lib.hid (bl_below hga hb)
    have hlgy := bl_lt HGY.out
    have hlga := bl_lt HGA.out
    obtain ⟨⟨y0, y1, y2, y3, y4, y5⟩, u0, u1, u2, u3, u4, u5⟩ := blc6 HGY.out
    have HO := Lib.hid hO4
    have HLY : Hid (gy < wF3.heap.size) := bl_lt hgy
    have HLA : Hid (ga < wF3.heap.size) := bl_lt hga
    have HLYB := Lib.hid hlgy
    have HLAB := Lib.hid hlga
    have ny1 : ¬ gy = wB4.heap.size := by omega
    have ny2 : ¬ wB4.heap.size = gy := by omega
    clear hb hgy hga hO4
    have hz := bl_below HZ0.out hbB4
    obtain ⟨⟨k0, k1, k2, k3, k4, k5⟩, -⟩ := blc6 hz
    have hlz := bl_lt hz
    clear hz
    go_wp2_with fail
    refine calls_world ?_
    intro wC4 hw'
    have HBC : Hid (Below w0.heap.size w0 wC4) := by rw [hw']; exact below_set6 hbB4 HGY0.out _ _ _ _ _ _
    have HGYC : Hid (wC4.heap[gy]? = some (.cells #[.int .i64 r4.x.nodes, .int .i64 r4.x.now, .int .i64 r4.x.next, .slice PW4 r4.x.way.length pW4, .slice PC4 r4.x.cuts.length pC4, .slice PT4 r4.x.timers.length pT4] 26 (0, 0))) := by rw [hw']; exact bl_all6 HGY.out _ _ _ _ _ _
    obtain ⟨m0, m1, m2, m3, m4, m5, m6, m7, m8, m9, m10, m11, m12, m13, hga⟩ : ∃ m0 m1 m2 m3 m4 m5 m6 m7 m8 m9 m10 m11 m12 m13, wB4.heap[ga]? = some (.cells #[m0, m1, m2, m3, m4, m5, m6, m7, m8, m9, m10, m11, m12, m13] 35 (0, 0)) := ⟨_, _, _, _, _, _, _, _, _, _, _, _, _, _, HGA.out⟩
    have HGAC : Hid (wC4.heap[ga]? = some (.cells #[m0, m1, m2, m3, m4, m5, m6, m7, m8, m9, m10, m11, m12, m13] 35 (0, 0))) := by rw [hw']; exact bl_far6 hga (fun e => HNE.out e.symm) _ _ _ _ _ _
    have HOC : Hid (NetO wC4 wF3.heap.size (.agg #[.int .i64 r4.x.nodes, .int .i64 r4.x.now, .int .i64 r4.x.next, .slice PW4 r4.x.way.length pW4, .slice PC4 r4.x.cuts.length pC4, .slice PT4 r4.x.timers.length pT4]) r4.x) := by rw [hw']; exact HO.out.far6 HLY.out _ _ _ _ _ _
    have HLYC : Hid (gy < wC4.heap.size) := bl_lt HGYC.out
    have HLAC : Hid (ga < wC4.heap.size) := bl_lt HGAC.out
    have hbC4 := HBC.out
    clear hw' hga HGY HGA HO hlgy hlga ny1 ny2 k0 k1 k2 k3 k4 k5 hlz y0 y1 y2 y3 y4 y5 u0 u1 u2 u3 u4 u5
    refine (HQ4.out _ (HW.out.below (below_trans HB0.out hbC4)) (HC.out.below (below_trans HB0.out hbC4)) (HT.out.below (below_trans HB0.out hbC4))).mono ?_
    rintro e wD4 ⟨vw, rfl, hMA, hb⟩
    have hbD4 := below_trans hbC4 hb
    obtain ⟨MW4, mW4, MC4, mC4, MT4, mT4, MF4, mF4, rfl, -, -, -⟩ := hMA wD4 (Abv.refl _ _) (HW.out.below (below_trans HB0.out hbD4)) (HC.out.below (below_trans HB0.out hbD4)) (HT.out.below (below_trans HB0.out hbD4))
    have HGYD := Lib.hid (bl_below HGYC.out hb)
    have HGAD := Lib.hid (bl_below HGAC.out hb)
    have HOD := Lib.hid (HOC.out.below hb)
    have HMA := Lib.hid hMA
    clear hb hMA HGYC HGAC HOC HBC hbC4
    obtain ⟨⟨y0, y1, y2, y3, y4, y5⟩, u0, u1, u2, u3, u4, u5⟩ := blc6 HGYD.out
    have hlgy := bl_lt HGYD.out
    obtain ⟨⟨a0, a1, a2, a3, a4, a5, a6, a7, a8, a9, a10, a11, a12, a13⟩, fzz⟩ := blc14 HGAD.out
    have hlga := bl_lt HGAD.out
    have ng1 : ¬ gy = ga := HNE.out
    have ng2 : ¬ ga = gy := fun e => HNE.out e.symm
    have hz := bl_below HZ0.out hbD4
    obtain ⟨⟨k0, k1, k2, k3, k4, k5⟩, -⟩ := blc6 hz
    have hlz := bl_lt hz
    clear hz
    clear u0 u1 u2 u3 u4 u5
    go_wp2_with fail
    refine calls_world ?_
    intro wE4 hw'
    have hwE : wE4 = put14 wD4 ga (.int .i64 r4.x.nodes) (.int .i64 r4.x.now) (.int .i64 r4.x.next) (.slice MW4 r4.x.way.length mW4) (.slice MC4 r4.x.cuts.length mC4) (.slice MT4 r4.x.timers.length mT4) (.int .i64 r4.id) (.int .i64 r4.l.id) (.int .i64 r4.l.fr) (.int .i64 r4.l.to) (.int .i64 r4.l.rd) (.string r4.l.data) (.slice MF4 r4.ts.length mF4) (.int .i64 r4.e) := hw'
    clear hw'
    have hbE4 : Below w0.heap.size w0 wE4 := by rw [hwE]; exact put14_below hbD4 HGA0.out
    have hgy : wE4.heap[gy]? = some (.cells #[.int .i64 r4.x.nodes, .int .i64 r4.x.now, .int .i64 r4.x.next, .slice PW4 r4.x.way.length pW4, .slice PC4 r4.x.cuts.length pC4, .slice PT4 r4.x.timers.length pT4] 26 (0, 0)) := by rw [hwE]; exact put14_farN HGYD.out HNE.out
    have hga : wE4.heap[ga]? = some (.cells #[.int .i64 r4.x.nodes, .int .i64 r4.x.now, .int .i64 r4.x.next, .slice MW4 r4.x.way.length mW4, .slice MC4 r4.x.cuts.length mC4, .slice MT4 r4.x.timers.length mT4, .int .i64 r4.id, .int .i64 r4.l.id, .int .i64 r4.l.fr, .int .i64 r4.l.to, .int .i64 r4.l.rd, .string r4.l.data, .slice MF4 r4.ts.length mF4, .int .i64 r4.e] 35 (0, 0)) := by rw [hwE]; exact put14_all HGAD.out
    have hNE : NetV wE4 (.agg #[.int .i64 r4.x.nodes, .int .i64 r4.x.now, .int .i64 r4.x.next, .slice PW4 r4.x.way.length pW4, .slice PC4 r4.x.cuts.length pC4, .slice PT4 r4.x.timers.length pT4]) r4.x := by rw [hwE]; exact (put14_net HOD.out HLA.out).netV
    have hME := (HMA.out wE4 (by rw [hwE]; exact put14_abv HLAC.out) (HW.out.below (below_trans HB0.out hbE4)) (HC.out.below (below_trans HB0.out hbE4)) (HT.out.below (below_trans HB0.out hbE4))).madeV
    obtain ⟨_, _, _, _, _, _, _, _, e9, hME, -⟩ := hME
    cases e9
    clear hwE HMA HGYD HGAD HOD k0 k1 k2 k3 k4 k5 hlz y0 y1 y2 y3 y4 y5 a0 a1 a2 a3 a4 a5 a6 a7 a8 a9 a10 a11 a12 a13 fzz hlgy hlga ng1 ng2 
    have hsame := RSame_any r4.x r4.x _ _ wE4 hNE hME (by have := HL4.out; omega) (by have := HL4.out; omega) (by have := HL4.out; omega)
    rw [decide_eq_true rfl] at hsame
    refine calls_below hsame ?_
    intro wF4 hb
    have hbF4 := below_trans hbE4 hb
    replace hgy := bl_below hgy hb
    replace hga := bl_below hga hb
    clear hb hsame hNE hME HLY HLA HLYC HLAC
    have hz := bl_below HZ0.out hbF4
    obtain ⟨⟨k0, k1, k2, k3, k4, k5⟩, -⟩ := blc6 hz
    have hlz := bl_lt hz
    clear hz
    go_upto_region 19 with fail
    go_wp2_with fail
    refine (HP5.out _ _ (HV.out _ (below_trans HB0.out hbF4))).mono ?_
    rintro e wB5 ⟨vw, rfl, hO, hb⟩
    obtain ⟨PW5, pW5, PC5, pC5, PT5, pT5, rfl, oW, oC, oT⟩ := hO
    have hO5 : NetO wB5 wF4.heap.size (.agg #[.int .i64 r5.x.nodes, .int .i64 r5.x.now, .int .i64 r5.x.next, .slice PW5 r5.x.way.length pW5, .slice PC5 r5.x.cuts.length pC5, .slice PT5 r5.x.timers.length pT5]) r5.x := ⟨PW5, pW5, PC5, pC5, PT5, pT5, rfl, oW, oC, oT⟩
    have hbB5 := below_trans hbF4 hb
    clear oW oC oT k0 k1 k2 k3 k4 k5 hlz
    have HGY := Lib.hid (bl_below hgy hb)
    have HGA := Lib.hid (bl_below hga hb)
    have hlgy := bl_lt HGY.out
    have hlga := bl_lt HGA.out
    obtain ⟨⟨y0, y1, y2, y3, y4, y5⟩, u0, u1, u2, u3, u4, u5⟩ := blc6 HGY.out
    have HO := Lib.hid hO5
    have HLY : Hid (gy < wF4.heap.size) := bl_lt hgy
    have HLA : Hid (ga < wF4.heap.size) := bl_lt hga
    have HLYB := Lib.hid hlgy
    have HLAB := Lib.hid hlga
    have ny1 : ¬ gy = wB5.heap.size := by omega
    have ny2 : ¬ wB5.heap.size = gy := by omega
    clear hb hgy hga hO5
    have hz := bl_below HZ0.out hbB5
    obtain ⟨⟨k0, k1, k2, k3, k4, k5⟩, -⟩ := blc6 hz
    have hlz := bl_lt hz
    clear hz
    go_wp2_with fail
    refine calls_world ?_
    intro wC5 hw'
    have HBC : Hid (Below w0.heap.size w0 wC5) := by rw [hw']; exact below_set6 hbB5 HGY0.out _ _ _ _ _ _
    have HGYC : Hid (wC5.heap[gy]? = some (.cells #[.int .i64 r5.x.nodes, .int .i64 r5.x.now, .int .i64 r5.x.next, .slice PW5 r5.x.way.length pW5, .slice PC5 r5.x.cuts.length pC5, .slice PT5 r5.x.timers.length pT5] 26 (0, 0))) := by rw [hw']; exact bl_all6 HGY.out _ _ _ _ _ _
    obtain ⟨m0, m1, m2, m3, m4, m5, m6, m7, m8, m9, m10, m11, m12, m13, hga⟩ : ∃ m0 m1 m2 m3 m4 m5 m6 m7 m8 m9 m10 m11 m12 m13, wB5.heap[ga]? = some (.cells #[m0, m1, m2, m3, m4, m5, m6, m7, m8, m9, m10, m11, m12, m13] 35 (0, 0)) := ⟨_, _, _, _, _, _, _, _, _, _, _, _, _, _, HGA.out⟩
    have HGAC : Hid (wC5.heap[ga]? = some (.cells #[m0, m1, m2, m3, m4, m5, m6, m7, m8, m9, m10, m11, m12, m13] 35 (0, 0))) := by rw [hw']; exact bl_far6 hga (fun e => HNE.out e.symm) _ _ _ _ _ _
    have HOC : Hid (NetO wC5 wF4.heap.size (.agg #[.int .i64 r5.x.nodes, .int .i64 r5.x.now, .int .i64 r5.x.next, .slice PW5 r5.x.way.length pW5, .slice PC5 r5.x.cuts.length pC5, .slice PT5 r5.x.timers.length pT5]) r5.x) := by rw [hw']; exact HO.out.far6 HLY.out _ _ _ _ _ _
    have HLYC : Hid (gy < wC5.heap.size) := bl_lt HGYC.out
    have HLAC : Hid (ga < wC5.heap.size) := bl_lt HGAC.out
    have hbC5 := HBC.out
    clear hw' hga HGY HGA HO hlgy hlga ny1 ny2 k0 k1 k2 k3 k4 k5 hlz y0 y1 y2 y3 y4 y5 u0 u1 u2 u3 u4 u5
    refine (HQ5.out _ (HW.out.below (below_trans HB0.out hbC5)) (HC.out.below (below_trans HB0.out hbC5)) (HT.out.below (below_trans HB0.out hbC5))).mono ?_
    rintro e wD5 ⟨vw, rfl, hMA, hb⟩
    have hbD5 := below_trans hbC5 hb
    obtain ⟨MW5, mW5, MC5, mC5, MT5, mT5, MF5, mF5, rfl, -, -, -⟩ := hMA wD5 (Abv.refl _ _) (HW.out.below (below_trans HB0.out hbD5)) (HC.out.below (below_trans HB0.out hbD5)) (HT.out.below (below_trans HB0.out hbD5))
    have HGYD := Lib.hid (bl_below HGYC.out hb)
    have HGAD := Lib.hid (bl_below HGAC.out hb)
    have HOD := Lib.hid (HOC.out.below hb)
    have HMA := Lib.hid hMA
    clear hb hMA HGYC HGAC HOC HBC hbC5
    obtain ⟨⟨y0, y1, y2, y3, y4, y5⟩, u0, u1, u2, u3, u4, u5⟩ := blc6 HGYD.out
    have hlgy := bl_lt HGYD.out
    obtain ⟨⟨a0, a1, a2, a3, a4, a5, a6, a7, a8, a9, a10, a11, a12, a13⟩, fzz⟩ := blc14 HGAD.out
    have hlga := bl_lt HGAD.out
    have ng1 : ¬ gy = ga := HNE.out
    have ng2 : ¬ ga = gy := fun e => HNE.out e.symm
    have hz := bl_below HZ0.out hbD5
    obtain ⟨⟨k0, k1, k2, k3, k4, k5⟩, -⟩ := blc6 hz
    have hlz := bl_lt hz
    clear hz
    clear u0 u1 u2 u3 u4 u5
    go_wp2_with fail
    refine calls_world ?_
    intro wE5 hw'
    have hwE : wE5 = put14 wD5 ga (.int .i64 r5.x.nodes) (.int .i64 r5.x.now) (.int .i64 r5.x.next) (.slice MW5 r5.x.way.length mW5) (.slice MC5 r5.x.cuts.length mC5) (.slice MT5 r5.x.timers.length mT5) (.int .i64 r5.id) (.int .i64 r5.l.id) (.int .i64 r5.l.fr) (.int .i64 r5.l.to) (.int .i64 r5.l.rd) (.string r5.l.data) (.slice MF5 r5.ts.length mF5) (.int .i64 r5.e) := hw'
    clear hw'
    have hbE5 : Below w0.heap.size w0 wE5 := by rw [hwE]; exact put14_below hbD5 HGA0.out
    have hgy : wE5.heap[gy]? = some (.cells #[.int .i64 r5.x.nodes, .int .i64 r5.x.now, .int .i64 r5.x.next, .slice PW5 r5.x.way.length pW5, .slice PC5 r5.x.cuts.length pC5, .slice PT5 r5.x.timers.length pT5] 26 (0, 0)) := by rw [hwE]; exact put14_farN HGYD.out HNE.out
    have hga : wE5.heap[ga]? = some (.cells #[.int .i64 r5.x.nodes, .int .i64 r5.x.now, .int .i64 r5.x.next, .slice MW5 r5.x.way.length mW5, .slice MC5 r5.x.cuts.length mC5, .slice MT5 r5.x.timers.length mT5, .int .i64 r5.id, .int .i64 r5.l.id, .int .i64 r5.l.fr, .int .i64 r5.l.to, .int .i64 r5.l.rd, .string r5.l.data, .slice MF5 r5.ts.length mF5, .int .i64 r5.e] 35 (0, 0)) := by rw [hwE]; exact put14_all HGAD.out
    have hNE : NetV wE5 (.agg #[.int .i64 r5.x.nodes, .int .i64 r5.x.now, .int .i64 r5.x.next, .slice PW5 r5.x.way.length pW5, .slice PC5 r5.x.cuts.length pC5, .slice PT5 r5.x.timers.length pT5]) r5.x := by rw [hwE]; exact (put14_net HOD.out HLA.out).netV
    have hME := (HMA.out wE5 (by rw [hwE]; exact put14_abv HLAC.out) (HW.out.below (below_trans HB0.out hbE5)) (HC.out.below (below_trans HB0.out hbE5)) (HT.out.below (below_trans HB0.out hbE5))).madeV
    obtain ⟨_, _, _, _, _, _, _, _, e9, hME, -⟩ := hME
    cases e9
    clear hwE HMA HGYD HGAD HOD k0 k1 k2 k3 k4 k5 hlz y0 y1 y2 y3 y4 y5 a0 a1 a2 a3 a4 a5 a6 a7 a8 a9 a10 a11 a12 a13 fzz hlgy hlga
    refine calls_below (sane_any _) ?_
    intro wS hb
    replace hgy := bl_below hgy hb
    replace hga := bl_below hga hb
    replace hNE := hNE.below hb
    replace hME := hME.below hb
    have hbS := below_trans hbE5 hb
    have hlgy := bl_lt hgy
    have hlga := bl_lt hga
    obtain ⟨⟨y0, y1, y2, y3, y4, y5⟩, u0, u1, u2, u3, u4, u5⟩ := blc6 hgy
    obtain ⟨⟨a0, a1, a2, a3, a4, a5, a6, a7, a8, a9, a10, a11, a12, a13⟩, fzz⟩ := blc14 hga
    have HNV := Lib.hid hNE
    have HMV := Lib.hid hME
    clear hb hgy hga hNE hME u0 u1 u2 u3 u4 u5 fzz
    go_wp2_with fail
    have hsame := RSame_any r5.x r5.x _ _ wS HNV.out HMV.out (by have := HL5.out; omega) (by have := HL5.out; omega) (by have := HL5.out; omega)
    rw [decide_eq_true rfl] at hsame
    refine calls_below hsame ?_
    intro wT hb
    have hbT := below_trans hbS hb
    clear hb hsame y0 y1 y2 y3 y4 y5 a0 a1 a2 a3 a4 a5 a6 a7 a8 a9 a10 a11 a12 a13 hlgy hlga ng1 ng2
    go_wp2
    go_ret
    exact ⟨rfl, below_trans HB0.out hbT⟩

end Go.Proofs.YthlbmcfliejdiaaGreat
end

section
set_option linter.unusedVariables false
set_option linter.unusedSimpArgs false
namespace Go.Proofs.YthlbmcfliejdiaaGreat
open Go.RowKit Go.ChangeShapes Go.WideShapes Go.Deep

section
variable {H : Type} {enc : TypeId × Value → H} {P : Program} {W : World} {base : Nat} {spare : Nat → Bool} {held : Bool}
theorem rd_openC {α : Type} [Enc α] [Inhabited α] {t e : TypeId} {fuel : Nat} {cs : List Value} {x : DataW H × List MemPlace} (ht : P.underlying t = some (.slice e)) (hce : P.cellsOf e = Enc.sz α) (hpos : 0 < Enc.sz α)
    (hel : ∀ n cs' y, DataW.trod enc P W base spare held n e cs' = some y → ∃ z : α, cs' = Enc.enc z) (h : DataW.trod enc P W base spare held fuel t cs = some x) :
    ∃ (A : Option Addr) (xs : List α) (cap : Nat), cs = [.slice A xs.length cap] ∧ Rd W A xs ∧ xs.length ≤ maxLen ∧ xs.length ≤ cap := by
  rcases open_slice ht h with ⟨rfl, rfl⟩ | ⟨a, len, cap, m, n, D, Pl, rfl, hb, hl, hm, hmm, rfl, hx⟩
  · exact ⟨none, [], 0, rfl, Rd.nil _ _, Nat.zero_le _, Nat.zero_le _⟩
  have hlm : len ≤ m := by rw [hmm]; split <;> omega
  obtain ⟨f, hf⟩ := choose_lt (n := len) (p := fun i (z : α) => W.cells? base (a.add (i * P.cellsOf e)) (P.cellsOf e) = some (Enc.enc z)) (fun i hi => by
    obtain ⟨cs', h1, h2⟩ := hx i (by omega)
    obtain ⟨z, rfl⟩ := hel _ _ _ h2
    exact ⟨z, h1⟩)
  refine ⟨some a, (List.range len).map f, cap, by simp, ?_, by simp; omega, by simp; omega⟩
  intro i hi
  have hi' : i < len := by simpa using hi
  obtain ⟨b, off, spot⟩ := a
  have hsp : spot = none := by
    obtain ⟨_, _, hc⟩ := World.cells?_some (hf 0 (by omega))
    have h0 := hc 0 (by omega)
    rw [List.getElem?_eq_getElem (by rw [Enc.len]; exact hpos)] at h0
    simpa [Addr.add] using World.cell?_spot h0
  subst hsp
  refine ⟨b, off, rfl, fun k v hk => ?_⟩
  have hxi : ((List.range len).map f)[i] = f i := by simp
  rw [hxi] at hk
  obtain ⟨_, _, hc⟩ := World.cells?_some (hf i hi')
  have hks : k < Enc.sz α := by
    have := (List.getElem?_eq_some_iff.1 hk).1
    rwa [Enc.len] at this
  have h1 := hc k (by omega)
  rw [hk, hce, add_add] at h1
  have h2 : (⟨b, off, none⟩ : Addr).add (i * Enc.sz α + k) = ⟨b, off + i * Enc.sz α + k, none⟩ := by
    rw [add_plain, Nat.add_assoc]
  rw [h2] at h1
  exact h1
end

section
variable {H : Type} {enc : TypeId × Value → H} {W : World} {base : Nat} {spare : Nat → Bool} {held : Bool}
set_option maxRecDepth 100000 in
theorem ActsC_open {r : Reach} {b0 : Nat} {v : Value} {d : DataW H} {p : List MemPlace} (hv : Value.okWide Tryz.prog W r b0 46 v) (h : DataW.Trod enc Tryz.prog W base spare held 46 v d p) :
    ∃ (A : Option Addr) (xs : List Ac) (c : Nat), v = .slice A xs.length c ∧ Rd W A xs ∧ xs.length ≤ 9223372036854775807 ∧ xs.length ≤ c := by
  obtain ⟨a, len, cap, rfl⟩ := okWide_slice Tryz.underlying46 hv
  obtain ⟨fuel, hf⟩ := h
  have hcs : (Value.slice a len cap).cells.toList = [.slice a len cap] := rfl
  rw [hcs] at hf
  obtain ⟨A, xs, c, he, hR, hl, hc⟩ := rd_openC (α := Ac) Tryz.underlying46 (by kernel_rfl) (by decide) el_Ac hf
  simp at he
  obtain ⟨rfl, rfl, rfl⟩ := he
  exact ⟨_, xs, _, rfl, hR, by unfold maxLen at hl; omega, hc⟩
set_option maxRecDepth 100000 in
theorem u16_open {t : TypeId} {r : Reach} {b0 : Nat} {v : Value} {d : DataW H} {ps : List MemPlace} (ht : Tryz.prog.underlying t = some (.int .u16)) (hval : Value.okWide Tryz.prog W r b0 t v) (hd : DataW.Trod enc Tryz.prog W base spare held t v d ps) :
    ∃ n, v = .int .u16 n ∧ d = .lit (.int .u16 n) ∧ ps = [] ∧ (Lit.int .u16 n).wf = true ∧ 0 ≤ n ∧ n ≤ 65535 := by
  obtain ⟨n, h1, h2, h3, h4⟩ := open_int ht hval hd
  have h := h4
  simp only [Lit.wf, IntKind.min, IntKind.max, IntKind.signed, IntKind.bits, Bool.and_eq_true, decide_eq_true_eq, if_true, Bool.false_eq_true, if_false] at h
  exact ⟨n, h1, h2, h3, h4, by omega, by omega⟩
set_option maxRecDepth 100000 in
theorem Seen_open {r : Reach} {b0 : Nat} {v : Value} {d : DataW H} {p : List MemPlace} (hv : Value.okWide Tryz.prog W r b0 52 v) (h : DataW.Trod enc Tryz.prog W base spare held 52 v d p) :
    ∃ (s : Sn) (ta : Option Addr) (tc : Nat), v = .agg #[.int .i64 s.a.k, .int .i64 s.a.a, .int .i64 s.a.b, .int .i64 s.a.n, .string s.a.data, .int .i64 s.e, .int .i64 s.now, .int .i64 s.l.id, .int .i64 s.l.fr, .int .i64 s.l.to, .int .i64 s.l.rd, .string s.l.data, .slice ta s.ts.length tc] ∧ Rd W ta s.ts := by
  obtain ⟨cs, rfl, hsz⟩ := okWide_struct Tryz.underlying52 hv
  obtain ⟨fuel, hf⟩ := h
  obtain ⟨xs, k, rfl, _, hlen, hxl, hf⟩ := DataW.trod_struct Tryz.underlying52 hf
  have hC : Tryz.prog.cellsOf 52 = 13 := by kernel_rfl
  have hcs : (Value.agg cs).cells.toList = cs.toList := rfl
  rw [hcs] at hlen hf
  rw [hC] at hlen
  obtain ⟨l⟩ := cs
  match l, hlen, xs, hxl with
  | [c0, c1, c2, c3, c4, c5, c6, c7, c8, c9, c10, c11, c12], _, [x0, x1, x2, x3, x4], _ =>
    have g0 : DataW.trod enc Tryz.prog W base spare held k 50 (([c0, c1, c2, c3, c4, c5, c6, c7, c8, c9, c10, c11, c12].drop 0).take (Tryz.prog.cellsOf 50)) = some x0 := hf 0 _ rfl
    have g1 : DataW.trod enc Tryz.prog W base spare held k 29 (([c0, c1, c2, c3, c4, c5, c6, c7, c8, c9, c10, c11, c12].drop 5).take (Tryz.prog.cellsOf 29)) = some x1 := hf 1 _ rfl
    have g2 : DataW.trod enc Tryz.prog W base spare held k 3 (([c0, c1, c2, c3, c4, c5, c6, c7, c8, c9, c10, c11, c12].drop 6).take (Tryz.prog.cellsOf 3)) = some x2 := hf 2 _ rfl
    have g3 : DataW.trod enc Tryz.prog W base spare held k 33 (([c0, c1, c2, c3, c4, c5, c6, c7, c8, c9, c10, c11, c12].drop 7).take (Tryz.prog.cellsOf 33)) = some x3 := hf 3 _ rfl
    have g4 : DataW.trod enc Tryz.prog W base spare held k 24 (([c0, c1, c2, c3, c4, c5, c6, c7, c8, c9, c10, c11, c12].drop 12).take (Tryz.prog.cellsOf 24)) = some x4 := hf 4 _ rfl
    rw [show Tryz.prog.cellsOf 50 = 5 by kernel_rfl] at g0
    rw [show Tryz.prog.cellsOf 29 = 1 by kernel_rfl] at g1
    rw [c_int] at g2
    rw [show Tryz.prog.cellsOf 33 = 5 by kernel_rfl] at g3
    rw [show Tryz.prog.cellsOf 24 = 1 by kernel_rfl] at g4
    obtain ⟨a, e0⟩ := el_Ac _ _ _ g0
    obtain ⟨n1, e1, -⟩ := DataW.trod_int Tryz.underlying29 g1
    obtain ⟨n2, e2, -⟩ := DataW.trod_int Tryz.underlying3 g2
    obtain ⟨l, e3⟩ := el_Lt _ _ _ g3
    obtain ⟨A4, ts, tc, e4, r4, m4⟩ := rd_open (α := Tm) Tryz.underlying24 (by kernel_rfl) (by decide) el_Tm g4
    simp [Enc.enc] at e0 e1 e2 e3 e4
    obtain ⟨rfl, rfl, rfl, rfl, rfl⟩ := e0
    obtain ⟨rfl, rfl, rfl, rfl, rfl⟩ := e3
    subst e1 e2 e4
    exact ⟨⟨a, n1, n2, l, ts⟩, A4, tc, rfl, r4⟩
set_option maxRecDepth 100000 in
theorem NetC_open {r : Reach} {b0 : Nat} {v : Value} {d : DataW H} {p : List MemPlace} (hv : Value.okWide Tryz.prog W r b0 26 v) (h : DataW.Trod enc Tryz.prog W base spare held 26 v d p) :
    ∃ (x : Nt) (AW : Option Addr) (cW : Nat) (AC : Option Addr) (cC : Nat) (AT : Option Addr) (cT : Nat), v = .agg #[.int .i64 x.nodes, .int .i64 x.now, .int .i64 x.next, .slice AW x.way.length cW, .slice AC x.cuts.length cC, .slice AT x.timers.length cT] ∧ Rd W AW x.way ∧ Rd W AC x.cuts ∧ Rd W AT x.timers ∧ x.way.length ≤ cW ∧ x.way.length ≤ 9223372036854775807 ∧ x.cuts.length ≤ 9223372036854775807 ∧ x.timers.length ≤ 9223372036854775807 := by
  obtain ⟨cs, rfl, hsz⟩ := okWide_struct Tryz.underlying26 hv
  obtain ⟨fuel, hf⟩ := h
  obtain ⟨xs, k, rfl, _, hlen, hxl, hf⟩ := DataW.trod_struct Tryz.underlying26 hf
  have hC : Tryz.prog.cellsOf 26 = 6 := by kernel_rfl
  have hcs : (Value.agg cs).cells.toList = cs.toList := rfl
  rw [hcs] at hlen hf
  rw [hC] at hlen
  obtain ⟨l⟩ := cs
  match l, hlen, xs, hxl with
  | [c0, c1, c2, c3, c4, c5], _, [x0, x1, x2, x3, x4, x5], _ =>
    have g0 : DataW.trod enc Tryz.prog W base spare held k 3 (([c0, c1, c2, c3, c4, c5].drop 0).take (Tryz.prog.cellsOf 3)) = some x0 := hf 0 _ rfl
    have g1 : DataW.trod enc Tryz.prog W base spare held k 3 (([c0, c1, c2, c3, c4, c5].drop 1).take (Tryz.prog.cellsOf 3)) = some x1 := hf 1 _ rfl
    have g2 : DataW.trod enc Tryz.prog W base spare held k 3 (([c0, c1, c2, c3, c4, c5].drop 2).take (Tryz.prog.cellsOf 3)) = some x2 := hf 2 _ rfl
    have g3 : DataW.trod enc Tryz.prog W base spare held k 22 (([c0, c1, c2, c3, c4, c5].drop 3).take (Tryz.prog.cellsOf 22)) = some x3 := hf 3 _ rfl
    have g4 : DataW.trod enc Tryz.prog W base spare held k 23 (([c0, c1, c2, c3, c4, c5].drop 4).take (Tryz.prog.cellsOf 23)) = some x4 := hf 4 _ rfl
    have g5 : DataW.trod enc Tryz.prog W base spare held k 24 (([c0, c1, c2, c3, c4, c5].drop 5).take (Tryz.prog.cellsOf 24)) = some x5 := hf 5 _ rfl
    rw [c_int] at g0 g1 g2
    rw [show Tryz.prog.cellsOf 22 = 1 by kernel_rfl] at g3
    rw [show Tryz.prog.cellsOf 23 = 1 by kernel_rfl] at g4
    rw [show Tryz.prog.cellsOf 24 = 1 by kernel_rfl] at g5
    obtain ⟨n0, e0, -⟩ := DataW.trod_int Tryz.underlying3 g0
    obtain ⟨n1, e1, -⟩ := DataW.trod_int Tryz.underlying3 g1
    obtain ⟨n2, e2, -⟩ := DataW.trod_int Tryz.underlying3 g2
    obtain ⟨A3, l3, k3, e3, r3, m3, q3⟩ := rd_openC (α := Lt) Tryz.underlying22 (by kernel_rfl) (by decide) el_Lt g3
    obtain ⟨A4, l4, k4, e4, r4, m4⟩ := rd_open (α := Lk) Tryz.underlying23 (by kernel_rfl) (by decide) el_Lk g4
    obtain ⟨A5, l5, k5, e5, r5, m5⟩ := rd_open (α := Tm) Tryz.underlying24 (by kernel_rfl) (by decide) el_Tm g5
    simp at e0 e1 e2 e3 e4 e5
    subst e0 e1 e2 e3 e4 e5
    have hml : maxLen ≤ 9223372036854775807 := by decide
    exact ⟨⟨n0, n1, n2, l3, l4, l5⟩, A3, k3, A4, k4, A5, k5, rfl, r3, r4, r5, q3, Nat.le_trans m3 hml, Nat.le_trans m4 hml, Nat.le_trans m5 hml⟩
end
end Go.Proofs.YthlbmcfliejdiaaGreat
end

section
set_option linter.unusedVariables false
namespace Go.Proofs.YthlbmcfliejdiaaGreat.netLetters
open Go.ChangeShapes Go.WideShapes Go.ChangeAt Go.RowKit Go.ChangeMaps
theorem own : ownKnob Tryz.prog.godebug = none := by kernel_rfl
theorem laidOut : laidOutB Tryz.prog = true := by kernel_rfl
set_option maxRecDepth 100000 in
theorem lifted (os : Os) (started : os.Started) (H : Type) (enc : TypeId × Value → H) :
    ReturnsInHanded {} Tryz.checked os 3 .any (Rows.netLettersSpec.pre6 enc Tryz.prog Tryz.f3 Rows.netLettersRow.domain false) (Rows.netLettersSpec.post enc Tryz.prog Tryz.f3 false true false false) := by
  refine returnsInHanded_of_change_sized (C := Tryz.checked) own started (by kernel_rfl) Tryz.func3
    (ChangeSpec.witness6 (enc := enc) (C := Tryz.checked) false ⟨#[], #[.agg #[.int .i64 0, .int .i64 0, .int .i64 0, .slice none 0 0, .slice none 0 0, .slice none 0 0], .int .i64 0, .int .i64 0, .string ⟨#[]⟩, .int .i64 0, .int .i64 0], []⟩ 8 (by kernel_rfl) (by kernel_rfl) (by kernel_rfl) (by kernel_rfl)) ?_
  intro W base args ds gs before hval0 hW hcnd hsz0 _
  have hval : ∀ (j : Nat) t v, Tryz.f3.params[j]? = some t → args[j]? = some v → Value.okWide Tryz.prog W .any base t v := hval0
  have hW' := hW
  obtain ⟨p, q, hA0, hV, rfl, hfz, hnd⟩ := hW
  have hA : DataW.TrodAll enc Tryz.prog W 0 (fun _ => true) true Tryz.f3.params.toList args.toList ds p := hA0
  rw [Tryz.params3] at hA hval
  obtain ⟨v0, vs0, d0, ds0, p0, q0, hargs, rfl, rfl, h0, r0⟩ := trodAll_cons hA
  obtain ⟨v1, vs1, d1, ds1, p1, q1, rfl, rfl, rfl, h1, r1⟩ := trodAll_cons r0
  obtain ⟨v2, vs2, d2, ds2, p2, q2, rfl, rfl, rfl, h2, r2⟩ := trodAll_cons r1
  obtain ⟨v3, vs3, d3, ds3, p3, q3, rfl, rfl, rfl, h3, r3⟩ := trodAll_cons r2
  obtain ⟨v4, vs4, d4, ds4, p4, q4, rfl, rfl, rfl, h4, r4⟩ := trodAll_cons r3
  obtain ⟨v5, vs5, d5, ds5, p5, q5, rfl, rfl, rfl, h5, r5⟩ := trodAll_cons r4
  obtain ⟨rfl, rfl, rfl⟩ := trodAll_nil r5
  obtain rfl : args = #[v0, v1, v2, v3, v4, v5] := by cases args; simp_all
  obtain ⟨rfl, rfl⟩ := trodVars_none hV
  have k0 := h0
  have lt0 : ∀ x ∈ p0, x.block < W.heap.size := by obtain ⟨m, hm⟩ := k0; exact DataW.trod_lt m _ _ _ hm
  obtain ⟨x0, AW0, cW0, AC0, cC0, AT0, cT0, e0, r10, r20, r30, r40, hw0, hc0, ht0⟩ := NetC_open (hval 0 26 v0 rfl rfl) h0
  have hx0 : NetC W v0 x0 := ⟨AW0, cW0, AC0, cC0, AT0, cT0, e0, r10, r20, r30, r40⟩
  obtain ⟨a1, rfl, rfl, rfl, w1⟩ := open_int Tryz.underlying3 (hval 1 3 v1 rfl rfl) h1
  obtain ⟨a2, rfl, rfl, rfl, w2⟩ := open_int Tryz.underlying3 (hval 2 3 v2 rfl rfl) h2
  obtain ⟨s3, rfl, rfl, rfl, w3⟩ := open_string Tryz.underlying9 (hval 3 9 v3 rfl rfl) h3
  obtain ⟨a4, rfl, rfl, rfl, w4⟩ := open_int Tryz.underlying3 (hval 4 3 v4 rfl rfl) h4
  obtain ⟨a5, rfl, rfl, rfl, w5⟩ := open_int Tryz.underlying3 (hval 5 3 v5 rfl rfl) h5
  clear hA0 hval0 hsz0
  refine (NetLetters_any x0 a1 a2 s3 a4 a5 v0 W hx0 hw0 hc0 ht0).mono fun e W' ⟨he, bel⟩ => ?_
  subst he
  exact ⟨_, rfl, _, _, _, [], _, [], hW', trodAll_mk1 (shut_bool Tryz.underlying4 _), (trodAll_cons_mk (Below.trod laidOut (by kernel_rfl) (of_decide_eq_true (by kernel_rfl)) k0 bel lt0) (trodAll_cons_mk (shut_int Tryz.underlying3 w1) (trodAll_cons_mk (shut_int Tryz.underlying3 w2) (trodAll_cons_mk (shut_string Tryz.underlying9 w3) (trodAll_cons_mk (shut_int Tryz.underlying3 w4) (trodAll_cons_mk (shut_int Tryz.underlying3 w5) trodAll_mk0)))))), rfl, bel.frame _, fun h => by cases h⟩
theorem over : Rows.netLettersRow.holds Tryz.pinned (OpenSpec.ofChange Rows.netLettersSpec) :=
  OpenClaim.holds_of_wide 3 Tryz.f3 rfl rfl rfl rfl rfl rfl rfl ⟨rfl, rfl, rfl, rfl, rfl⟩ rfl rfl rfl rfl rfl (by kernel_rfl) Tryz.func3 (by kernel_rfl)
    (of_decide_eq_true (by kernel_rfl)) (by unfold Func.isWrapper; first | (rw [if_pos (by decide +kernel)]; kernel_rfl) | (rw [if_neg (by decide +kernel)]; exact ⟨rfl, rfl⟩))
    (fun os started H enc _ => lifted os started H enc)
theorem proved : Rows.NetLettersSaid := over
end Go.Proofs.YthlbmcfliejdiaaGreat.netLetters
namespace Go.Proofs.YthlbmcfliejdiaaGreat
theorem netLetters_holds : Rows.NetLettersSaid := netLetters.proved
end Go.Proofs.YthlbmcfliejdiaaGreat
end
