/- The law NetCuts: it returns true. (Printed by wip/gen_lawk.py.). The given row of NetCuts. (Printed by wip/gen_row.py.). -/
import Derived.Test.YthlbmcfliejdiaaGj
import Derived.Test.YthlbmcfliejdiaaGf
import Derived.Deep.DeepCutAuto
import Derived.Deep.CutBlock
import Derived.Deep.RegionHeld3
import Derived.Test.YthlbmcfliejdiaaRows
import Derived.WalkKit
import Derived.ProofKit
import Derived.OpenShut
import Derived.ShutString
import Derived.ChangeOld
import Derived.Below
import Derived.SizedLaws
import Derived.Carry
section
set_option linter.unusedVariables false
set_option linter.unusedSimpArgs false
namespace Go.Proofs.Ythlbmcfliejdiaa
open Go.RowKit

/-- What the first test leaves. -/
def kutQ (x : Nt) (a b : Int) (xs : List Ac) (s : Value) : Prop := ∃ bb, s = .bool bb ∧ (bb = false → smallB x = true ∧ fewB xs 60 = true ∧ checkB x = true ∧ 0 ≤ a ∧ a < x.nodes ∧ 0 ≤ b ∧ b < x.nodes ∧ a ≠ b)
set_option maxHeartbeats 8000000 in
set_option maxRecDepth 100000 in
theorem NetCuts_any (x : Nt) (a b : Int) (xs : List Ac) (A : Option Addr) (c : Nat) (v : Value) (w : World) (hV : NetV w v x) (hlw : x.way.length ≤ 9223372036854775807) (hlc : x.cuts.length ≤ 9223372036854775807) (hlt : x.timers.length ≤ 9223372036854775807)
    (hR : Rd w A xs) (hl : xs.length ≤ 9223372036854775807) :
    Calls Try.prog 7 #[v, .int .i64 a, .int .i64 b, .slice A xs.length c] w fun e w' => e = .returned (.bool true) ∧ Below w.heap.size w w' := by
  obtain ⟨AW1, cW1, AC1, cC1, AT1, cT1, rfl, hW, hC, hT⟩ := hV
  obtain ⟨w0, hw0⟩ : ∃ w0, w0 = w.alloc (.cells #[.int .i64 x.nodes, .int .i64 x.now, .int .i64 x.next, .slice AW1 x.way.length cW1, .slice AC1 x.cuts.length cC1, .slice AT1 x.timers.length cT1] 26) := ⟨_, rfl⟩
  have hb0 : Below w.heap.size w w0 := by rw [hw0]; exact below_alloc (Below.refl _ _) _
  have hz0 : w0.heap[w.heap.size]? = some (.cells #[.int .i64 x.nodes, .int .i64 x.now, .int .i64 x.next, .slice AW1 x.way.length cW1, .slice AC1 x.cuts.length cC1, .slice AT1 x.timers.length cT1] 26 (0, 0)) := by rw [hw0]; exact bl_new _ _
  have HV : Hid (∀ W, Below w0.heap.size w0 W → NetV W (.agg #[.int .i64 x.nodes, .int .i64 x.now, .int .i64 x.next, .slice AW1 x.way.length cW1, .slice AC1 x.cuts.length cC1, .slice AT1 x.timers.length cT1]) x) := fun W hb => ⟨AW1, cW1, AC1, cC1, AT1, cT1, rfl, hW.below (below_trans hb0 hb), hC.below (below_trans hb0 hb), hT.below (below_trans hb0 hb)⟩
  have HR := Lib.hid (hR.below hb0)
  have hsm := fun (v : Value) (w : World) (hV : NetV w v x) => small_any x v w hV hlw hlc hlt
  have hfw := fun (w : World) (hR : Rd w A xs) => few_any A c xs 60 w hR hl
  have hck : ∀ (v : Value) (w : World) (hV : NetV w v x), Calls Try.prog 19 #[v] w fun e w' => e = .returned (.int .i64 (chkE x)) ∧ Below w.heap.size w w' := fun v w hV => by
    obtain ⟨AW, cW, AC, cC, AT, cT, rfl, hW, hC, hT⟩ := hV
    exact Check_any x AW AC AT cW cC cT w hlw hlc hlt hW hC hT
  have HW0 := Lib.hid hw0
  have HB0 := Lib.hid hb0
  have HZ0 := Lib.hid hz0
  have HS := Lib.hid hsm
  have HFW := Lib.hid hfw
  have HCK := Lib.hid hck
  clear hw0 hb0 hz0 hW hC hT hsm hfw hck hR
  go_enter Try.func7, Try.ntmps7
  go_upto_region 1 with fail
  rw [← HW0.out]
  clear HW0
  go_cut [59] (fun s wx => kutQ x a b xs s ∧ Hid (Below w0.heap.size w0 wx))
  case first =>
    obtain ⟨⟨k0, k1, k2, k3, k4, k5⟩, -⟩ := blc6 (bl_below HZ0.out (Below.refl _ _))
    have hlz := bl_lt (bl_below HZ0.out (Below.refl _ _))
    go_wp2_with fail
    refine calls_below (HS.out _ _ (HV.out _ (Below.refl _ _))) ?_
    intro w1 hb1
    clear k0 k1 k2 k3 k4 k5 hlz
    cases hs : smallB x
    · go_wp2
      go_meet
      case rel => exact ⟨⟨_, rfl, fun h => by cases h⟩, hb1⟩
    go_wp2_with fail
    refine calls_below (HFW.out _ (HR.out.below hb1)) ?_
    intro w2 hb2
    replace hb2 := below_trans hb1 hb2
    cases hf : fewB xs 60
    · go_wp2
      go_meet
      case rel => exact ⟨⟨_, rfl, fun h => by cases h⟩, hb2⟩
    obtain ⟨⟨k0, k1, k2, k3, k4, k5⟩, -⟩ := blc6 (bl_below HZ0.out hb2)
    have hlz := bl_lt (bl_below HZ0.out hb2)
    go_wp2_with fail
    refine calls_below (HCK.out _ _ (HV.out _ hb2)) ?_
    intro w3 hb3
    replace hb3 := below_trans hb2 hb3
    clear k0 k1 k2 k3 k4 k5 hlz
    obtain ⟨⟨k0, k1, k2, k3, k4, k5⟩, -⟩ := blc6 (bl_below HZ0.out hb3)
    have hlz := bl_lt (bl_below HZ0.out hb3)
    cases hc : checkB x
    · have q : chkE x = 2 := (chkE_bad hc).symm
      rw [q]
      clear q
      go_wp2
      go_meet
      case rel => exact ⟨⟨_, rfl, fun h => by cases h⟩, hb3⟩
    have q : chkE x = 0 := (chkE_ok hc).symm
    rw [q]
    clear q
    cases d1 : decide (a < 0)
    rotate_left 1
    · go_wp2
      go_meet
      case rel => exact ⟨⟨_, rfl, fun h => by cases h⟩, hb3⟩
    cases d2 : decide (x.nodes ≤ a)
    rotate_left 1
    · go_wp2
      go_meet
      case rel => exact ⟨⟨_, rfl, fun h => by cases h⟩, hb3⟩
    cases d3 : decide (b < 0)
    rotate_left 1
    · go_wp2
      go_meet
      case rel => exact ⟨⟨_, rfl, fun h => by cases h⟩, hb3⟩
    cases d4 : decide (x.nodes ≤ b)
    rotate_left 1
    · go_wp2
      go_meet
      case rel => exact ⟨⟨_, rfl, fun h => by cases h⟩, hb3⟩
    cases d5 : (a == b)
    rotate_left 1
    · go_wp2
      go_meet
      case rel => exact ⟨⟨_, rfl, fun h => by cases h⟩, hb3⟩
    go_wp2
    go_meet
    case rel =>
      refine ⟨⟨_, rfl, fun _ => ?_⟩, hb3⟩
      have e1 := of_decide_eq_false d1
      have e2 := of_decide_eq_false d2
      have e3 := of_decide_eq_false d3
      have e4 := of_decide_eq_false d4
      have e5 := beq_eq_false_iff_ne.1 d5
      exact ⟨hs, hf, hc, by omega, by omega, by omega, by omega, e5⟩
  case rest =>
    obtain ⟨⟨bb, rfl, hbb⟩, hb1⟩ := hcut
    obtain ⟨w1, hw1⟩ : ∃ w1, w1 = wc := ⟨_, rfl⟩
    rw [← hw1] at hb1 ⊢
    clear hw1
    cases bb
    rotate_left 1
    · go_wp2_with (go_at_call 13; refine calls_below (sane_any _) ?_; intro w7 hb7)
      go_ret
      exact ⟨rfl, below_trans HB0.out (below_trans hb1.out hb7)⟩
    obtain ⟨hs, hf, hc, ha0, ha1, hb0', hb1', hab⟩ := hbb rfl
    have hok := (ok_iff x).1 hc
    have hlx := len_ok hok
    have htw : twoB x.nodes a b = true := by unfold twoB isNodeB; simp; omega
    have hlxs : xs.length ≤ 60 := by unfold fewB at hf; simp only [Bool.and_eq_true, decide_eq_true_eq] at hf; omega
    have hfm : ∀ r, formR x r = r := fun r => if_neg (by rw [hc]; decide)
    have HOK := Lib.hid hok
    have HTW := Lib.hid htw
    have HFM := Lib.hid hfm
    have HL := Lib.hid hlx
    clear hs hf hc ha0 ha1 hb0' hb1' hab hbb hlx htw hok hfm HS HFW HCK
    have hb1o := hb1.out
    obtain ⟨⟨k0, k1, k2, k3, k4, k5⟩, -⟩ := blc6 (bl_below HZ0.out hb1o)
    have hlz := bl_lt (bl_below HZ0.out hb1o)
    by_cases hin : mkLk a b ∈ x.cuts
    · obtain ⟨q1, q2, q3, q4⟩ := cuts_twice HOK.out HTW.out hin
      obtain ⟨y, hy⟩ : ∃ y, y = (healM x a b).x := ⟨_, rfl⟩
      have hly := len_ok q2
      have hd1 : ∀ (v : Value) (w : World), NetV w v x → Calls Try.prog 23 #[v, .int .i64 a, .int .i64 b] w fun e w' => ∃ v', e = .returned (.tuple #[v', .int .i64 5]) ∧ NetO w' w.heap.size v' zNt ∧ Below w.heap.size w w' := fun v w hV => by
        have h := Cut_any x a b v w (by have := HL.out; omega) (by have := HL.out; omega) (by have := HL.out; omega) hV
        rw [HFM.out, cut_e HTW.out, if_pos hin] at h
        exact h
      have hd2 : ∀ (v : Value) (w : World), NetV w v x → Calls Try.prog 25 #[v, .int .i64 a, .int .i64 b] w fun e w' => ∃ v', e = .returned (.tuple #[v', .int .i64 0]) ∧ NetO w' w.heap.size v' y ∧ Below w.heap.size w w' := fun v w hV => by
        have h := Heal_any x a b v w (by have := HL.out; omega) (by have := HL.out; omega) (by have := HL.out; omega) hV
        rw [HFM.out, q1] at h
        rw [hy]
        exact h
      have hd3 : ∀ (v : Value) (w : World), NetV w v y → Calls Try.prog 23 #[v, .int .i64 b, .int .i64 a] w fun e w' => ∃ v', e = .returned (.tuple #[v', .int .i64 0]) ∧ NetO w' w.heap.size v' x ∧ Below w.heap.size w w' := fun v w hV => by
        rw [hy] at hV
        have h := Cut_any (healM x a b).x b a v w (by omega) (by omega) (by omega) hV
        have hf : formR (healM x a b).x (cutM (healM x a b).x b a) = cutM (healM x a b).x b a := if_neg (by rw [(ok_iff _).2 q2]; decide)
        rw [hf, q3] at h
        unfold pubW at h
        rw [q4] at h
        exact h
      have HD1 := Lib.hid hd1
      have HD2 := Lib.hid hd2
      have HD3 := Lib.hid hd3
      clear hd1 hd2 hd3 q1 q2 q3 q4 hly hin hy
      go_wp2_with fail
      refine (HD1.out _ _ (HV.out _ hb1o)).mono ?_
      rintro e w2 ⟨v2, rfl, hO2, hb2⟩
      obtain ⟨AW2, cW2, AC2, cC2, AT2, cT2, rfl, -, -, -⟩ := hO2
      have hb2' := below_trans hb1o hb2
      clear k0 k1 k2 k3 k4 k5 hlz
      obtain ⟨⟨k0, k1, k2, k3, k4, k5⟩, -⟩ := blc6 (bl_below HZ0.out hb2')
      have hlz := bl_lt (bl_below HZ0.out hb2')
      go_wp2_with fail
      refine calls_world ?_
      intro w3 hw3
      have hb3 : Below w0.heap.size w0 w3 := by rw [hw3]; exact below_alloc hb2' _
      clear hw3
      refine (HD2.out _ _ (HV.out _ hb3)).mono ?_
      rintro e w4 ⟨v4, rfl, hO4, hb4⟩
      obtain ⟨AW4, cW4, AC4, cC4, AT4, cT4, rfl, oW4, oC4, oT4⟩ := hO4
      have HN4 : Hid (∀ W, Below w4.heap.size w4 W → NetV W (.agg #[.int .i64 y.nodes, .int .i64 y.now, .int .i64 y.next, .slice AW4 y.way.length cW4, .slice AC4 y.cuts.length cC4, .slice AT4 y.timers.length cT4]) y) := fun W hb => ⟨AW4, cW4, AC4, cC4, AT4, cT4, rfl, oW4.rd.below hb, oC4.rd.below hb, oT4.rd.below hb⟩
      have hb4' := below_trans hb3 hb4
      clear oW4 oC4 oT4 k0 k1 k2 k3 k4 k5 hlz
      obtain ⟨⟨k0, k1, k2, k3, k4, k5⟩, -⟩ := blc6 (bl_below HZ0.out hb4')
      have hlz := bl_lt (bl_below HZ0.out hb4')
      go_wp2_with fail
      refine calls_world ?_
      intro w5 hw5
      have hb45 : Below w4.heap.size w4 w5 := by rw [hw5]; exact below_alloc (Below.refl _ _) _
      have hb5 : Below w0.heap.size w0 w5 := below_trans hb4' hb45
      clear hw5
      refine (HD3.out _ _ (HN4.out _ hb45)).mono ?_
      rintro e w6 ⟨v6, rfl, hO6, hb6⟩
      obtain ⟨AW6, cW6, AC6, cC6, AT6, cT6, rfl, oW6, oC6, oT6⟩ := hO6
      have HN6 : Hid (∀ W, Below w6.heap.size w6 W → NetV W (.agg #[.int .i64 x.nodes, .int .i64 x.now, .int .i64 x.next, .slice AW6 x.way.length cW6, .slice AC6 x.cuts.length cC6, .slice AT6 x.timers.length cT6]) x) := fun W hb => ⟨AW6, cW6, AC6, cC6, AT6, cT6, rfl, oW6.rd.below hb, oC6.rd.below hb, oT6.rd.below hb⟩
      have hb6' := below_trans hb5 hb6
      clear oW6 oC6 oT6 k0 k1 k2 k3 k4 k5 hlz
      go_wp2_with fail
      refine calls_world ?_
      intro w7 hw7
      have hb67 : Below w6.heap.size w6 w7 := by rw [hw7]; exact below_alloc (Below.refl _ _) _
      have hg7 : w7.heap[w6.heap.size]? = some (.cells #[.int .i64 x.nodes, .int .i64 x.now, .int .i64 x.next, .slice AW6 x.way.length cW6, .slice AC6 x.cuts.length cC6, .slice AT6 x.timers.length cT6] 26 (0, 0)) := by rw [hw7]; exact bl_new _ _
      clear hw7
      refine calls_below (sane_any _) ?_
      intro w8 hb8
      have hb68 := below_trans hb67 hb8
      have hg8 := bl_below hg7 hb8
      have hb8' := below_trans hb6' hb68
      obtain ⟨⟨k0, k1, k2, k3, k4, k5⟩, -⟩ := blc6 (bl_below HZ0.out hb8')
      have hlz := bl_lt (bl_below HZ0.out hb8')
      obtain ⟨⟨m0, m1, m2, m3, m4, m5⟩, -⟩ := blc6 hg8
      have hlm := bl_lt hg8
      go_wp2_with fail
      refine calls_below (RSame_any x x _ _ _ (HN6.out _ hb68) (HV.out _ hb8') (by have := HL.out; omega) (by have := HL.out; omega) (by have := HL.out; omega)) ?_
      intro w9 hb9
      rw [decide_eq_true (rfl : x = x)]
      go_wp2
      go_ret
      exact ⟨rfl, below_trans HB0.out (below_trans hb8' hb9)⟩
    · obtain ⟨q1, q2, q3, q4, q5⟩ := cuts_once HOK.out HTW.out hin
      obtain ⟨y, hy⟩ : ∃ y, y = (cutM x a b).x := ⟨_, rfl⟩
      have hly := len_ok q2
      have hd1 : ∀ (v : Value) (w : World), NetV w v x → Calls Try.prog 23 #[v, .int .i64 a, .int .i64 b] w fun e w' => ∃ v', e = .returned (.tuple #[v', .int .i64 0]) ∧ NetO w' w.heap.size v' y ∧ Below w.heap.size w w' := fun v w hV => by
        have h := Cut_any x a b v w (by have := HL.out; omega) (by have := HL.out; omega) (by have := HL.out; omega) hV
        rw [HFM.out, q1] at h
        rw [hy]
        exact h
      have hd2 : ∀ (v : Value) (w : World), NetV w v y → Calls Try.prog 25 #[v, .int .i64 b, .int .i64 a] w fun e w' => ∃ v', e = .returned (.tuple #[v', .int .i64 0]) ∧ NetO w' w.heap.size v' x ∧ Below w.heap.size w w' := fun v w hV => by
        rw [hy] at hV
        have h := Heal_any (cutM x a b).x b a v w (by omega) (by omega) (by omega) hV
        have hf : formR (cutM x a b).x (healM (cutM x a b).x b a) = healM (cutM x a b).x b a := if_neg (by rw [(ok_iff _).2 q2]; decide)
        rw [hf, q4] at h
        unfold pubW at h
        rw [q5] at h
        exact h
      have hyo : Ok y := by rw [hy]; exact q2
      have hyc : mkLk a b ∈ y.cuts := by rw [hy]; exact q3
      have HD1 := Lib.hid hd1
      have HD2 := Lib.hid hd2
      have HYO := Lib.hid hyo
      have HYC := Lib.hid hyc
      clear hd1 hd2 q1 q2 q3 q4 q5 hly hin hyo hyc hy
      go_wp2_with fail
      refine (HD1.out _ _ (HV.out _ hb1o)).mono ?_
      rintro e w2 ⟨v2, rfl, hO2, hb2⟩
      obtain ⟨AW2, cW2, AC2, cC2, AT2, cT2, rfl, oW2, oC2, oT2⟩ := hO2
      have HN2 : Hid (∀ W, Below w2.heap.size w2 W → NetV W (.agg #[.int .i64 y.nodes, .int .i64 y.now, .int .i64 y.next, .slice AW2 y.way.length cW2, .slice AC2 y.cuts.length cC2, .slice AT2 y.timers.length cT2]) y) := fun W hb => ⟨AW2, cW2, AC2, cC2, AT2, cT2, rfl, oW2.rd.below hb, oC2.rd.below hb, oT2.rd.below hb⟩
      have hb2' := below_trans hb1o hb2
      clear oW2 oC2 oT2 k0 k1 k2 k3 k4 k5 hlz
      go_wp2_with fail
      refine calls_world ?_
      intro w3 hw3
      have hb23 : Below w2.heap.size w2 w3 := by rw [hw3]; exact below_alloc (Below.refl _ _) _
      have hg3 : w3.heap[w2.heap.size]? = some (.cells #[.int .i64 y.nodes, .int .i64 y.now, .int .i64 y.next, .slice AW2 y.way.length cW2, .slice AC2 y.cuts.length cC2, .slice AT2 y.timers.length cT2] 26 (0, 0)) := by rw [hw3]; exact bl_new _ _
      clear hw3
      refine (HD2.out _ _ (HN2.out _ hb23)).mono ?_
      rintro e w4 ⟨v4, rfl, hO4, hb4⟩
      obtain ⟨AW4, cW4, AC4, cC4, AT4, cT4, rfl, oW4, oC4, oT4⟩ := hO4
      have HN4 : Hid (∀ W, Below w4.heap.size w4 W → NetV W (.agg #[.int .i64 x.nodes, .int .i64 x.now, .int .i64 x.next, .slice AW4 x.way.length cW4, .slice AC4 x.cuts.length cC4, .slice AT4 x.timers.length cT4]) x) := fun W hb => ⟨AW4, cW4, AC4, cC4, AT4, cT4, rfl, oW4.rd.below hb, oC4.rd.below hb, oT4.rd.below hb⟩
      have hb24 := below_trans hb23 hb4
      have hg4 := bl_below hg3 hb4
      have hb4' := below_trans hb2' hb24
      clear oW4 oC4 oT4
      obtain ⟨⟨k0, k1, k2, k3, k4, k5⟩, -⟩ := blc6 (bl_below HZ0.out hb4')
      have hlz := bl_lt (bl_below HZ0.out hb4')
      go_wp2_with fail
      refine calls_world ?_
      intro w5 hw5
      have hb45 : Below w4.heap.size w4 w5 := by rw [hw5]; exact below_alloc (Below.refl _ _) _
      have hg5 := bl_below hg4 hb45
      have hb5' := below_trans hb4' hb45
      clear hw5
      refine calls_below (RSame_any x x _ _ _ (HN4.out _ hb45) (HV.out _ hb5') (by have := HL.out; omega) (by have := HL.out; omega) (by have := HL.out; omega)) ?_
      intro w6 hb6
      rw [decide_eq_true (rfl : x = x)]
      have hb26 := below_trans (below_trans hb24 hb45) hb6
      have hg6 := bl_below hg5 hb6
      have hb6' := below_trans hb5' hb6
      have hv6 := HN2.out _ hb26
      have hbs6 := hb2'.size
      obtain ⟨g, hg⟩ : ∃ g, g = w2.heap.size := ⟨_, rfl⟩
      rw [← hg] at hg6 hbs6 ⊢
      have HG6 := Lib.hid hg6
      have HB6 := Lib.hid hb6'
      have HV6 := Lib.hid hv6
      have HR6 := Lib.hid (HR.out.below hb6')
      clear k0 k1 k2 k3 k4 k5 hlz hg6 hb6' hv6 hb26 hb6 hb5' hg5 hb45 hb4' hg4 hb24 hb4 hg3 hb23 hb2' hb2 hb1o hb1 hg HN2 HN4 HD1 HD2
      go_upto_block 0 with fail
      go_wp2
      go_loopw [17] (fun i wr => ∃ (k : Nat) (AW : Option Addr) (cW : Nat) (AC : Option Addr) (cC : Nat) (AT : Option Addr) (cT : Nat) (z : Nt), k ≤ xs.length ∧ i = .int .i64 k ∧ Hid (Ok z ∧ mkLk a b ∈ z.cuts) ∧ Hid (wr.heap[g]? = some (.cells #[.int .i64 z.nodes, .int .i64 z.now, .int .i64 z.next, .slice AW z.way.length cW, .slice AC z.cuts.length cC, .slice AT z.timers.length cT] 26 (0, 0))) ∧ Hid (NetV wr (.agg #[.int .i64 z.nodes, .int .i64 z.now, .int .i64 z.next, .slice AW z.way.length cW, .slice AC z.cuts.length cC, .slice AT z.timers.length cT]) z) ∧ Hid (Below w0.heap.size w0 wr)) (fun i _ => xs.length - (intOf i).toNat)
      case atStart => exact ⟨0, AW2, cW2, AC2, cC2, AT2, cT2, y, Nat.zero_le _, rfl, ⟨HYO.out, HYC.out⟩, HG6.out, HV6.out, HB6.out⟩
      case round =>
        clear HG6 HB6 HV6
        obtain ⟨k, AW, cW, AC, cC, AT, cT, z, hk, rfl, HZ, HG, HVZ, HB⟩ := hrel
        obtain ⟨⟨k0, k1, k2, k3, k4, k5⟩, f0, f1, f2, f3, f4, f5⟩ := blc6 HG.out
        have hlg := bl_lt HG.out
        have hbs := HB.out.size
        have hlz := len_ok HZ.out.1
        by_cases hlk : k < xs.length
        · have hRk := HR.out.below HB.out
          obtain ⟨bb, off, d, rfl, hx, c0, c1, c2, c3, c4⟩ := hRk.ac k hlk
          have hbt : bb < wr.heap.size := World.block_lt_of_cell? wr _ c0
          clear hRk
          cases q7 : (d.k == 7)
          rotate_left 1
          · go_wp2
            go_roundw
            case rel => exact ⟨k + 1, AW, cW, AC, cC, AT, cT, z, by omega, by go_num, HZ, HG, HVZ, HB⟩
            case measure => simp [intOf]; omega
          obtain ⟨z', hz'⟩ : ∃ y, y = doXR z d := ⟨_, rfl⟩
          obtain ⟨s', hs'⟩ : ∃ y, y = doSR z d := ⟨_, rfl⟩
          have he : doER z = 0 := by unfold doER; rw [(ok_iff z).2 HZ.out.1]; rfl
          have HDO := Lib.hid fun (v : Value) (w : World) (hV : NetV w v z) => Do_use hz' hs' he.symm v w hlz.1 hlz.2.1 hlz.2.2 hV
          have HZ' : Hid (Ok z' ∧ mkLk a b ∈ z'.cuts) := by
            show _ ∧ _
            rw [hz', doXR_ok HZ.out.1]
            exact ⟨do_keeps HZ.out.1 d, do_cuts d (beq_eq_false_iff_ne.1 q7) _ HZ.out.2⟩
          have HDL : Hid (d.k = 2 → s'.e = 0 → ¬ (s'.l.fr = a ∧ s'.l.to = b ∨ s'.l.fr = b ∧ s'.l.to = a)) := fun hk he2 => by
            rw [hs', doSR_ok HZ.out.1] at he2 ⊢
            exact deliver_cut d a b HZ.out.2 hk he2
          clear hz' hs' he hlz
          go_upto_region 15 with fail
          go_cut [18, 19, 20] (fun s18 s19 s20 wx => ∃ (g1 g2 : Nat) (AW' : Option Addr) (cW' : Nat) (AC' : Option Addr) (cC' : Nat) (AT' : Option Addr) (cT' : Nat) (A' : Option Addr) (c' : Nat), s18 = .pointer (some ⟨g1, 0, none⟩) ∧ s19 = .pointer (some ⟨g2, 0, none⟩) ∧ s20 = .int .i64 0 ∧
            Hid (wx.heap[g1]? = some (.cells #[.int .i64 z'.nodes, .int .i64 z'.now, .int .i64 z'.next, .slice AW' z'.way.length cW', .slice AC' z'.cuts.length cC', .slice AT' z'.timers.length cT'] 26 (0, 0))) ∧ Hid (wx.heap[g2]? = some (.cells #[.int .i64 s'.a.k, .int .i64 s'.a.a, .int .i64 s'.a.b, .int .i64 s'.a.n, .string s'.a.data, .int .i64 s'.e, .int .i64 s'.now, .int .i64 s'.l.id, .int .i64 s'.l.fr, .int .i64 s'.l.to, .int .i64 s'.l.rd, .string s'.l.data, .slice A' s'.ts.length c'] 55 (0, 0))) ∧
            Hid (NetO wx wr.heap.size (.agg #[.int .i64 z'.nodes, .int .i64 z'.now, .int .i64 z'.next, .slice AW' z'.way.length cW', .slice AC' z'.cuts.length cC', .slice AT' z'.timers.length cT']) z') ∧ Hid (wr.heap.size ≤ g1) ∧ Hid (Below wr.heap.size wr wx))
          case first =>
            go_region_held3 (fun w' => (∀ (b o : Nat), b < wr.heap.size → w'.cell? ⟨b, o, none⟩ = wr.cell? ⟨b, o, none⟩) ∧ Below wr.heap.size wr w')
              (first | (with_reducible assumption) | (refine keepC ?_; repeat (first | (with_reducible assumption) | exact keepR (by with_reducible assumption) | (with_reducible exact Below.refl _ _) | (with_reducible refine Below.setCell ?_ (by first | exact Nat.le_refl _ | exact Below.size (keepR (by with_reducible assumption)) | exact Nat.le_add_right_of_le (Below.size (keepR (by with_reducible assumption))) | exact Below.size (by with_reducible assumption) | exact Nat.le_add_right_of_le (Below.size (by with_reducible assumption)) | simp) _) | (with_reducible refine below_alloc ?_ _) | (with_reducible refine Below.drew ?_) | exact below_trans (keepR (by with_reducible assumption)) (by with_reducible assumption))))
              ((go_at_call 34; refine (HDO.out _ _ (HVZ.out.below (keepR (by assumption)))).mono ?_; rintro e wd ⟨AWd, cWd, ACd, cCd, ATd, cTd, Ad, cd, rfl, hn, hR, hbd⟩; have hbW : Below wr.heap.size wr wd := below_trans (keepR (by assumption)) hbd; (first | ((with_reducible have hA := bl_below (bl_drew (bl_alloc (bl_new wr (.cells #[.int .i64 0, .int .i64 0, .int .i64 0, .slice none 0 0, .slice none 0 0, .slice none 0 0] 26)) (.cells #[.int .i64 0, .int .i64 0, .int .i64 0, .int .i64 0, .string ⟨#[]⟩, .int .i64 0, .int .i64 0, .int .i64 0, .int .i64 0, .int .i64 0, .int .i64 0, .string ⟨#[]⟩, .slice none 0 0] 55))) hbd); (with_reducible have hB' := bl_below (bl_drew (bl_new2 wr (.cells #[.int .i64 0, .int .i64 0, .int .i64 0, .slice none 0 0, .slice none 0 0, .slice none 0 0] 26) (.cells #[.int .i64 0, .int .i64 0, .int .i64 0, .int .i64 0, .string ⟨#[]⟩, .int .i64 0, .int .i64 0, .int .i64 0, .int .i64 0, .int .i64 0, .int .i64 0, .string ⟨#[]⟩, .slice none 0 0] 55))) hbd); obtain ⟨⟨x0, x1, x2, x3, x4, x5⟩, y0, y1, y2, y3, y4, y5⟩ := blc6 hA; have hlx := bl_lt hA; obtain ⟨⟨p0, p1, p2, p3, p4, p5, p6, p7, p8, p9, p10, p11, p12⟩, r0, r1, r2, r3, r4, r5, r6, r7, r8, r9, r10, r11, r12⟩ := blc13 hB'; have hlp := bl_lt hB') | ((with_reducible have hA := bl_below (bl_drew (bl_alloc (bl_new wr (.cells #[.int .i64 0, .int .i64 0, .int .i64 0, .int .i64 0, .string ⟨#[]⟩, .int .i64 0, .int .i64 0, .int .i64 0, .int .i64 0, .int .i64 0, .int .i64 0, .string ⟨#[]⟩, .slice none 0 0] 55)) (.cells #[.int .i64 0, .int .i64 0, .int .i64 0, .slice none 0 0, .slice none 0 0, .slice none 0 0] 26))) hbd); (with_reducible have hB' := bl_below (bl_drew (bl_new2 wr (.cells #[.int .i64 0, .int .i64 0, .int .i64 0, .int .i64 0, .string ⟨#[]⟩, .int .i64 0, .int .i64 0, .int .i64 0, .int .i64 0, .int .i64 0, .int .i64 0, .string ⟨#[]⟩, .slice none 0 0] 55) (.cells #[.int .i64 0, .int .i64 0, .int .i64 0, .slice none 0 0, .slice none 0 0, .slice none 0 0] 26))) hbd); obtain ⟨⟨p0, p1, p2, p3, p4, p5, p6, p7, p8, p9, p10, p11, p12⟩, r0, r1, r2, r3, r4, r5, r6, r7, r8, r9, r10, r11, r12⟩ := blc13 hA; have hlp := bl_lt hA; obtain ⟨⟨x0, x1, x2, x3, x4, x5⟩, y0, y1, y2, y3, y4, y5⟩ := blc6 hB'; have hlx := bl_lt hB') | ((with_reducible have hA := bl_below (bl_drew (bl_new wr (.cells #[.int .i64 0, .int .i64 0, .int .i64 0, .slice none 0 0, .slice none 0 0, .slice none 0 0] 26))) hbd); obtain ⟨⟨x0, x1, x2, x3, x4, x5⟩, y0, y1, y2, y3, y4, y5⟩ := blc6 hA; have hlx := bl_lt hA) | ((with_reducible have hA := bl_below (bl_drew (bl_new wr (.cells #[.int .i64 0, .int .i64 0, .int .i64 0, .int .i64 0, .string ⟨#[]⟩, .int .i64 0, .int .i64 0, .int .i64 0, .int .i64 0, .int .i64 0, .int .i64 0, .string ⟨#[]⟩, .slice none 0 0] 55))) hbd); obtain ⟨⟨p0, p1, p2, p3, p4, p5, p6, p7, p8, p9, p10, p11, p12⟩, r0, r1, r2, r3, r4, r5, r6, r7, r8, r9, r10, r11, r12⟩ := blc13 hA; have hlp := bl_lt hA) | ((with_reducible have hA := bl_below (bl_alloc (bl_new wr (.cells #[.int .i64 0, .int .i64 0, .int .i64 0, .slice none 0 0, .slice none 0 0, .slice none 0 0] 26)) (.cells #[.int .i64 0, .int .i64 0, .int .i64 0, .int .i64 0, .string ⟨#[]⟩, .int .i64 0, .int .i64 0, .int .i64 0, .int .i64 0, .int .i64 0, .int .i64 0, .string ⟨#[]⟩, .slice none 0 0] 55)) hbd); (with_reducible have hB' := bl_below (bl_new2 wr (.cells #[.int .i64 0, .int .i64 0, .int .i64 0, .slice none 0 0, .slice none 0 0, .slice none 0 0] 26) (.cells #[.int .i64 0, .int .i64 0, .int .i64 0, .int .i64 0, .string ⟨#[]⟩, .int .i64 0, .int .i64 0, .int .i64 0, .int .i64 0, .int .i64 0, .int .i64 0, .string ⟨#[]⟩, .slice none 0 0] 55)) hbd); obtain ⟨⟨x0, x1, x2, x3, x4, x5⟩, y0, y1, y2, y3, y4, y5⟩ := blc6 hA; have hlx := bl_lt hA; obtain ⟨⟨p0, p1, p2, p3, p4, p5, p6, p7, p8, p9, p10, p11, p12⟩, r0, r1, r2, r3, r4, r5, r6, r7, r8, r9, r10, r11, r12⟩ := blc13 hB'; have hlp := bl_lt hB') | ((with_reducible have hA := bl_below (bl_alloc (bl_new wr (.cells #[.int .i64 0, .int .i64 0, .int .i64 0, .int .i64 0, .string ⟨#[]⟩, .int .i64 0, .int .i64 0, .int .i64 0, .int .i64 0, .int .i64 0, .int .i64 0, .string ⟨#[]⟩, .slice none 0 0] 55)) (.cells #[.int .i64 0, .int .i64 0, .int .i64 0, .slice none 0 0, .slice none 0 0, .slice none 0 0] 26)) hbd); (with_reducible have hB' := bl_below (bl_new2 wr (.cells #[.int .i64 0, .int .i64 0, .int .i64 0, .int .i64 0, .string ⟨#[]⟩, .int .i64 0, .int .i64 0, .int .i64 0, .int .i64 0, .int .i64 0, .int .i64 0, .string ⟨#[]⟩, .slice none 0 0] 55) (.cells #[.int .i64 0, .int .i64 0, .int .i64 0, .slice none 0 0, .slice none 0 0, .slice none 0 0] 26)) hbd); obtain ⟨⟨p0, p1, p2, p3, p4, p5, p6, p7, p8, p9, p10, p11, p12⟩, r0, r1, r2, r3, r4, r5, r6, r7, r8, r9, r10, r11, r12⟩ := blc13 hA; have hlp := bl_lt hA; obtain ⟨⟨x0, x1, x2, x3, x4, x5⟩, y0, y1, y2, y3, y4, y5⟩ := blc6 hB'; have hlx := bl_lt hB') | ((with_reducible have hA := bl_below (bl_new wr (.cells #[.int .i64 0, .int .i64 0, .int .i64 0, .slice none 0 0, .slice none 0 0, .slice none 0 0] 26)) hbd); obtain ⟨⟨x0, x1, x2, x3, x4, x5⟩, y0, y1, y2, y3, y4, y5⟩ := blc6 hA; have hlx := bl_lt hA) | ((with_reducible have hA := bl_below (bl_new wr (.cells #[.int .i64 0, .int .i64 0, .int .i64 0, .int .i64 0, .string ⟨#[]⟩, .int .i64 0, .int .i64 0, .int .i64 0, .int .i64 0, .int .i64 0, .int .i64 0, .string ⟨#[]⟩, .slice none 0 0] 55)) hbd); obtain ⟨⟨p0, p1, p2, p3, p4, p5, p6, p7, p8, p9, p10, p11, p12⟩, r0, r1, r2, r3, r4, r5, r6, r7, r8, r9, r10, r11, r12⟩ := blc13 hA; have hlp := bl_lt hA) | skip)))
            all_goals
              have hws : wr.heap.size ≤ wd.heap.size := hbW.size
            · go_wp2
              go_meet
              case rel => exact ⟨_, _, AWd, cWd, ACd, cCd, ATd, cTd, Ad, cd, rfl, rfl, rfl, bl_alloc (bl_new _ _) _, bl_new2 _ _ _, (hn.below (below_alloc (below_alloc (Below.refl _ _) _) _)).weaken (by simp <;> omega), hws, below_alloc (below_alloc hbW _) _⟩
            · go_wp2
              go_meet
              case rel => exact ⟨_, _, AWd, cWd, ACd, cCd, ATd, cTd, Ad, cd, rfl, rfl, rfl, bl_new2 _ _ _, bl_alloc (bl_new _ _) _, (hn.below (below_alloc (below_alloc (Below.refl _ _) _) _)).weaken (by simp <;> omega), Nat.le_add_right_of_le hws, below_alloc (below_alloc hbW _) _⟩
            · go_wp2
              go_meet
              case rel => exact ⟨_, _, AWd, cWd, ACd, cCd, ATd, cTd, Ad, cd, rfl, rfl, rfl, bl_alloc (bl_all6 hA _ _ _ _ _ _) _, bl_newS (by simp [World.setCell]), ((hn.far6 (by simp) _ _ _ _ _ _).alloc _).weaken (by simp <;> omega), Nat.le_refl _, below_alloc (below_set6 hbW (Nat.le_refl _) _ _ _ _ _ _) _⟩
            · go_wp2
              go_meet
              case rel => exact ⟨_, _, AWd, cWd, ACd, cCd, ATd, cTd, Ad, cd, rfl, rfl, rfl, put13_far (bl_all6 hA _ _ _ _ _ _) (by omega), put13_all (bl_far6 hB' (by omega) _ _ _ _ _ _), (put13_net (hn.far6 (by simp <;> omega) _ _ _ _ _ _) (by simp <;> omega)).weaken (by simp <;> omega), Nat.le_refl _, put13_below (below_set6 hbW (Nat.le_refl _) _ _ _ _ _ _) (by omega)⟩
            · go_wp2
              go_meet
              case rel => exact ⟨_, _, AWd, cWd, ACd, cCd, ATd, cTd, Ad, cd, rfl, rfl, rfl, bl_newS (by simp [World.setCell]), bl_alloc (put13_all hA) _, ((put13_net hn (by simp)).alloc _).weaken (by simp <;> omega), hws, below_alloc (put13_below hbW (Nat.le_refl _)) _⟩
            · go_wp2
              go_meet
              case rel => exact ⟨_, _, AWd, cWd, ACd, cCd, ATd, cTd, Ad, cd, rfl, rfl, rfl, put13_far (bl_all6 hB' _ _ _ _ _ _) (by omega), put13_all (bl_far6 hA (by omega) _ _ _ _ _ _), (put13_net (hn.far6 (by simp <;> omega) _ _ _ _ _ _) (by simp <;> omega)).weaken (by simp <;> omega), Nat.le_add_right _ _, put13_below (below_set6 hbW (Nat.le_add_right _ _) _ _ _ _ _ _) (Nat.le_refl _)⟩
          case rest =>
            obtain ⟨g1, g2, AW', cW', AC', cC', AT', cT', A', c', rfl, rfl, rfl, HG1, HG2, HVN, HGE, HB7⟩ := hcut
            obtain ⟨w7, hw7⟩ : ∃ w7, w7 = wc := ⟨_, rfl⟩
            rw [← hw7] at HG1 HG2 HVN HB7 ⊢
            clear hw7
            clear k0 k1 k2 k3 k4 k5 f0 f1 f2 f3 f4 f5
            have hG7 := bl_below HG.out HB7.out
            have hgl := bl_lt hG7
            obtain ⟨⟨p0, p1, p2, p3, p4, p5, p6, p7, p8, p9, p10, p11, p12⟩, -⟩ := blc13 HG2.out
            have hlp := bl_lt HG2.out
            replace c0 := cell_below HB7.out c0
            replace hbt : bb < w7.heap.size := World.block_lt_of_cell? w7 _ c0
            clear c1 c2 c3 c4
            go_upto_region 19 with fail
            obtain ⟨w8, hw8⟩ : ∃ w8, w8 = w7.alloc (.cells #[.int .i64 s'.l.id, .int .i64 s'.l.fr, .int .i64 s'.l.to, .int .i64 s'.l.rd, .string s'.l.data] 33) := ⟨_, rfl⟩
            have hb78 : Below w7.heap.size w7 w8 := by rw [hw8]; exact below_alloc (Below.refl _ _) _
            have hm8 : w8.heap[w7.heap.size]? = some (.cells #[.int .i64 s'.l.id, .int .i64 s'.l.fr, .int .i64 s'.l.to, .int .i64 s'.l.rd, .string s'.l.data] 33 (0, 0)) := by rw [hw8]; exact bl_new _ _
            rw [← hw8]
            clear hw8 p0 p1 p2 p3 p4 p5 p6 p7 p8 p9 p10 p11 p12 hlp
            obtain ⟨⟨p0, p1, p2, p3, p4, p5, p6, p7, p8, p9, p10, p11, p12⟩, -⟩ := blc13 (bl_below HG2.out hb78)
            have hlp := bl_lt (bl_below HG2.out hb78)
            obtain ⟨⟨m0, m1, m2, m3, m4⟩, -⟩ := blc5 hm8
            have hlm := bl_lt hm8
            replace c0 := cell_below hb78 c0
            replace hbt : bb < w8.heap.size := World.block_lt_of_cell? w8 _ c0
            have HB78 := Lib.hid hb78
            have HG7 := Lib.hid hG7
            clear hb78 hm8 hG7 hgl
            go_cut [177] (fun s wx => s = .bool false ∧ w8 = wx)
            case first =>
              cases d1 : (s'.e == 0)
              · go_wp2
                go_meet
                case rel => exact ⟨rfl, rfl⟩
              cases d2 : (d.k == 2)
              · go_wp2
                go_meet
                case rel => exact ⟨rfl, rfl⟩
              cases d3 : (s'.l.fr == a)
              · cases d5 : (s'.l.fr == b)
                · go_wp2
                  go_meet
                  case rel => exact ⟨rfl, rfl⟩
                cases d6 : (s'.l.to == a)
                · go_wp2
                  go_meet
                  case rel => exact ⟨rfl, rfl⟩
                exact absurd (.inr ⟨beq_iff_eq.1 d5, beq_iff_eq.1 d6⟩) (HDL.out (beq_iff_eq.1 d2) (beq_iff_eq.1 d1))
              cases d4 : (s'.l.to == b)
              · cases d5 : (s'.l.fr == b)
                · go_wp2
                  go_meet
                  case rel => exact ⟨rfl, rfl⟩
                cases d6 : (s'.l.to == a)
                · go_wp2
                  go_meet
                  case rel => exact ⟨rfl, rfl⟩
                exact absurd (.inr ⟨beq_iff_eq.1 d5, beq_iff_eq.1 d6⟩) (HDL.out (beq_iff_eq.1 d2) (beq_iff_eq.1 d1))
              exact absurd (.inl ⟨beq_iff_eq.1 d3, beq_iff_eq.1 d4⟩) (HDL.out (beq_iff_eq.1 d2) (beq_iff_eq.1 d1))
            case rest =>
              obtain ⟨rfl, rfl⟩ := hcut
              have hg18 := bl_below HG1.out HB78.out
              obtain ⟨⟨k0, k1, k2, k3, k4, k5⟩, -⟩ := blc6 hg18
              have hG8 := bl_below HG7.out HB78.out
              obtain ⟨⟨x0, x1, x2, x3, x4, x5⟩, f0, f1, f2, f3, f4, f5⟩ := blc6 hG8
              have hl1 := bl_lt hg18
              have hl2 := bl_lt hG8
              have hv8 := (HVN.out.below HB78.out).far6 hlg (.int .i64 z'.nodes) (.int .i64 z'.now) (.int .i64 z'.next) (.slice AW' z'.way.length cW') (.slice AC' z'.cuts.length cC') (.slice AT' z'.timers.length cT')
              have hb08 := below_trans (below_trans HB.out HB7.out) HB78.out
              have hge := HGE.out
              clear p0 p1 p2 p3 p4 p5 p6 p7 p8 p9 p10 p11 p12 m0 m1 m2 m3 m4 c0
              have HV8 := Lib.hid hv8
              have HB8 := Lib.hid hb08
              have HG8 := Lib.hid hG8
              clear hv8 hb08 hG8 hg18
              go_wp2
              go_roundw
              case rel => exact ⟨k + 1, AW', cW', AC', cC', AT', cT', z', by omega, by go_num, HZ', bl_all6 HG8.out _ _ _ _ _ _, HV8.out.v, below_set6 HB8.out hbs6 _ _ _ _ _ _⟩
              case measure => simp [intOf]; omega
        · have hkl : k = xs.length := by omega
          clear k0 k1 k2 k3 k4 k5 f0 f1 f2 f3 f4 f5
          go_wp2_with (go_at_call 13; refine calls_below (sane_any _) ?_; intro w7 hb7)
          go_ret
          exact ⟨rfl, below_trans HB0.out (below_trans HB.out hb7)⟩
end Go.Proofs.Ythlbmcfliejdiaa
end

section
set_option linter.unusedVariables false
namespace Go.Proofs.Ythlbmcfliejdiaa.netCuts
open Go.ChangeShapes Go.WideShapes Go.ChangeAt Go.RowKit
theorem own : ownKnob Try.prog.godebug = none := by kernel_rfl
theorem laidOut : laidOutB Try.prog = true := by kernel_rfl
set_option maxRecDepth 100000 in
theorem lifted (os : Os) (started : os.Started) (H : Type) (enc : TypeId × Value → H) :
    ReturnsInHanded {} Try.checked os 7 .any (Rows.netCutsSpec.pre6 enc Try.prog Try.f7 Rows.netCutsRow.domain false) (Rows.netCutsSpec.post enc Try.prog Try.f7 false true false false) := by
  refine returnsInHanded_of_change_sized (C := Try.checked) own started (by kernel_rfl) Try.func7
    (ChangeSpec.witness6 (enc := enc) (C := Try.checked) false ⟨#[], #[.agg #[.int .i64 0, .int .i64 0, .int .i64 0, .slice none 0 0, .slice none 0 0, .slice none 0 0], .int .i64 0, .int .i64 0, .slice none 0 0], []⟩ 8 (by kernel_rfl) (by kernel_rfl) (by kernel_rfl) (by kernel_rfl)) ?_
  intro W base args ds gs before hval0 hW hcnd hsz0 _
  have hval : ∀ (j : Nat) t v, Try.f7.params[j]? = some t → args[j]? = some v → Value.okWide Try.prog W .any base t v := hval0
  have hW' := hW
  obtain ⟨p, q, hA0, hV, rfl, hfz, hnd⟩ := hW
  have hA : DataW.TrodAll enc Try.prog W 0 (fun _ => true) true Try.f7.params.toList args.toList ds p := hA0
  rw [Try.params7] at hA hval
  obtain ⟨v0, vs0, d0, ds0, p0, q0, hargs, rfl, rfl, h0, r0⟩ := trodAll_cons hA
  obtain ⟨v1, vs1, d1, ds1, p1, q1, rfl, rfl, rfl, h1, r1⟩ := trodAll_cons r0
  obtain ⟨v2, vs2, d2, ds2, p2, q2, rfl, rfl, rfl, h2, r2⟩ := trodAll_cons r1
  obtain ⟨v3, vs3, d3, ds3, p3, q3, rfl, rfl, rfl, h3, r3⟩ := trodAll_cons r2
  obtain ⟨rfl, rfl, rfl⟩ := trodAll_nil r3
  obtain rfl : args = #[v0, v1, v2, v3] := by cases args; simp_all
  obtain ⟨rfl, rfl⟩ := trodVars_none hV
  have k0 := h0
  have lt0 : ∀ x ∈ p0, x.block < W.heap.size := by obtain ⟨m, hm⟩ := k0; exact DataW.trod_lt m _ _ _ hm
  obtain ⟨x0, hx0, hw0, hc0, ht0⟩ := NetV_open (hval 0 26 v0 rfl rfl) h0
  obtain ⟨a1, rfl, rfl, rfl, w1⟩ := open_int Try.underlying3 (hval 1 3 v1 rfl rfl) h1
  obtain ⟨a2, rfl, rfl, rfl, w2⟩ := open_int Try.underlying3 (hval 2 3 v2 rfl rfl) h2
  have k3 := h3
  have lt3 : ∀ x ∈ p3, x.block < W.heap.size := by obtain ⟨m, hm⟩ := k3; exact DataW.trod_lt m _ _ _ hm
  obtain ⟨A3, xs3, c3, rfl, hR3, hl3⟩ := Acts_open (hval 3 46 v3 rfl rfl) h3
  clear hA0 hval0 hsz0
  refine (NetCuts_any x0 a1 a2 xs3 A3 c3 v0 W hx0 hw0 hc0 ht0 hR3 hl3).mono fun e W' ⟨he, bel⟩ => ?_
  subst he
  exact ⟨_, rfl, _, _, _, [], _, [], hW', trodAll_mk1 (shut_bool Try.underlying4 _), (trodAll_cons_mk (Below.trod laidOut (by kernel_rfl) (of_decide_eq_true (by kernel_rfl)) k0 bel lt0) (trodAll_cons_mk (shut_int Try.underlying3 w1) (trodAll_cons_mk (shut_int Try.underlying3 w2) (trodAll_cons_mk (Below.trod laidOut (by kernel_rfl) (of_decide_eq_true (by kernel_rfl)) k3 bel lt3) trodAll_mk0)))), rfl, bel.frame _, fun h => by cases h⟩
theorem over : Rows.netCutsRow.holds Try.pinned (OpenSpec.ofChange Rows.netCutsSpec) :=
  OpenClaim.holds_of_wide 7 Try.f7 rfl rfl rfl rfl rfl rfl rfl ⟨rfl, rfl, rfl, rfl, rfl⟩ rfl rfl rfl rfl rfl (by kernel_rfl) Try.func7 (by kernel_rfl)
    (of_decide_eq_true (by kernel_rfl)) (by unfold Func.isWrapper; first | (rw [if_pos (by decide +kernel)]; kernel_rfl) | (rw [if_neg (by decide +kernel)]; exact ⟨rfl, rfl⟩))
    (fun os started H enc _ => lifted os started H enc)
theorem proved : Rows.NetCutsSaid := over
end Go.Proofs.Ythlbmcfliejdiaa.netCuts
namespace Go.Proofs.Ythlbmcfliejdiaa
theorem netCuts_holds : Rows.NetCutsSaid := netCuts.proved
end Go.Proofs.Ythlbmcfliejdiaa
end
