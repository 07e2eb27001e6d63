/- The law NetTwoWays: it returns true. The given row of NetTwoWays. (Printed by wip/gen_row.py.). -/
import Derived.Test.YthlbmcfliejdiaaGf
import Derived.Test.YthlbmcfliejdiaaGj
import Derived.Deep.DeepCutAuto
import Derived.Test.YthlbmcfliejdiaaRows
import Derived.WalkKit
import Derived.ProofKit
import Derived.OpenShut
import Derived.ShutString
import Derived.ChangeOld
import Derived.Below
import Derived.SizedLaws
import Derived.Carry
section
set_option linter.unusedVariables false
set_option linter.unusedSimpArgs false
namespace Go.Proofs.Ythlbmcfliejdiaa
open Go.RowKit

/-- What the second test leaves. -/
def tmQ (a b : Ac) (s : Value) : Prop := ∃ bb, s = .bool bb ∧ (bb = false → (a.k = 8 ∨ a.k = 9) ∧ (b.k = 8 ∨ b.k = 9) ∧ a.a ≠ b.a)
def e0Q (p : Prop) (s : Value) : Prop := ∃ bb, s = .bool bb ∧ (bb = false → p)
set_option maxHeartbeats 8000000 in
set_option maxRecDepth 100000 in
theorem NetTwoWays_any (x : Nt) (i : Int) (a b : Ac) (v : Value) (w : World) (hV : NetV w v x) (hlw : x.way.length ≤ 9223372036854775807) (hlc : x.cuts.length ≤ 9223372036854775807) (hlt : x.timers.length ≤ 9223372036854775807) :
    Calls Try.prog 8 #[v, .int .i64 i, .agg #[.int .i64 a.k, .int .i64 a.a, .int .i64 a.b, .int .i64 a.n, .string a.data], .agg #[.int .i64 b.k, .int .i64 b.a, .int .i64 b.b, .int .i64 b.n, .string b.data]] w fun e w' => e = .returned (.bool true) ∧ Below w.heap.size w w' := by
  obtain ⟨AW1, cW1, AC1, cC1, AT1, cT1, rfl, hW, hC, hT⟩ := hV
  have HV : Hid (∀ W, Below w.heap.size w W → NetV W (.agg #[.int .i64 x.nodes, .int .i64 x.now, .int .i64 x.next, .slice AW1 x.way.length cW1, .slice AC1 x.cuts.length cC1, .slice AT1 x.timers.length cT1]) x) := fun W hb => ⟨AW1, cW1, AC1, cC1, AT1, cT1, rfl, hW.below hb, hC.below hb, hT.below hb⟩
  clear hW hC hT
  have hsm := fun (v : Value) (w : World) (hV : NetV w v x) => small_any x v w hV hlw hlc hlt
  obtain ⟨w0, hw0⟩ : ∃ w0, w0 = ((w.alloc (.cells #[.int .i64 x.nodes, .int .i64 x.now, .int .i64 x.next, .slice AW1 x.way.length cW1, .slice AC1 x.cuts.length cC1, .slice AT1 x.timers.length cT1] 26)).alloc (.cells #[.int .i64 a.k, .int .i64 a.a, .int .i64 a.b, .int .i64 a.n, .string a.data] 53)).alloc (.cells #[.int .i64 b.k, .int .i64 b.a, .int .i64 b.b, .int .i64 b.n, .string b.data] 53) := ⟨_, rfl⟩
  have hb0 : Below w.heap.size w w0 := by rw [hw0]; exact below_alloc (below_alloc (below_alloc (Below.refl _ _) _) _) _
  have hz0 : w0.heap[w.heap.size]? = some (.cells #[.int .i64 x.nodes, .int .i64 x.now, .int .i64 x.next, .slice AW1 x.way.length cW1, .slice AC1 x.cuts.length cC1, .slice AT1 x.timers.length cT1] 26 (0, 0)) := by rw [hw0]; exact bl_alloc (bl_alloc (bl_new _ _) _) _
  have hp0 : w0.heap[w.heap.size + 1]? = some (.cells #[.int .i64 a.k, .int .i64 a.a, .int .i64 a.b, .int .i64 a.n, .string a.data] 53 (0, 0)) := by
    rw [hw0]
    have h := bl_new (w.alloc (.cells #[.int .i64 x.nodes, .int .i64 x.now, .int .i64 x.next, .slice AW1 x.way.length cW1, .slice AC1 x.cuts.length cC1, .slice AT1 x.timers.length cT1] 26)) (.cells #[.int .i64 a.k, .int .i64 a.a, .int .i64 a.b, .int .i64 a.n, .string a.data] 53)
    rw [show (w.alloc (.cells #[.int .i64 x.nodes, .int .i64 x.now, .int .i64 x.next, .slice AW1 x.way.length cW1, .slice AC1 x.cuts.length cC1, .slice AT1 x.timers.length cT1] 26)).heap.size = w.heap.size + 1 from (by simp)] at h
    exact bl_alloc h _
  have hq0 : w0.heap[w.heap.size + 1 + 1]? = some (.cells #[.int .i64 b.k, .int .i64 b.a, .int .i64 b.b, .int .i64 b.n, .string b.data] 53 (0, 0)) := by
    rw [hw0]
    have h := bl_new ((w.alloc (.cells #[.int .i64 x.nodes, .int .i64 x.now, .int .i64 x.next, .slice AW1 x.way.length cW1, .slice AC1 x.cuts.length cC1, .slice AT1 x.timers.length cT1] 26)).alloc (.cells #[.int .i64 a.k, .int .i64 a.a, .int .i64 a.b, .int .i64 a.n, .string a.data] 53)) (.cells #[.int .i64 b.k, .int .i64 b.a, .int .i64 b.b, .int .i64 b.n, .string b.data] 53)
    rw [show ((w.alloc (.cells #[.int .i64 x.nodes, .int .i64 x.now, .int .i64 x.next, .slice AW1 x.way.length cW1, .slice AC1 x.cuts.length cC1, .slice AT1 x.timers.length cT1] 26)).alloc (.cells #[.int .i64 a.k, .int .i64 a.a, .int .i64 a.b, .int .i64 a.n, .string a.data] 53)).heap.size = w.heap.size + 1 + 1 from (by simp)] at h
    exact h
  have HW0 := Lib.hid hw0
  have HB0 := Lib.hid hb0
  have HZ0 := Lib.hid hz0
  have HP0 := Lib.hid hp0
  have HQ0 := Lib.hid hq0
  clear hw0 hb0 hz0 hp0 hq0
  cases hs : smallB x
  · rw [hs] at hsm
    have HS := Lib.hid hsm
    clear hsm hs
    go_enter Try.func8, Try.ntmps8
    go_wp2_with (first
      | (go_at_call 12; rw [← HW0.out]; refine calls_below (HS.out _ _ (HV.out _ HB0.out)) ?_; intro w1 hb1)
      | (go_at_call 13; refine calls_below (sane_any _) ?_; intro w2 hb2))
    go_ret
    exact ⟨rfl, below_trans HB0.out (below_trans hb1 hb2)⟩
  rw [hs] at hsm
  have hln := small_lens hs
  have HS := Lib.hid hsm
  have HL := Lib.hid hln
  clear hsm hs hln hlw hlc hlt
  obtain ⟨r1, hr1⟩ : ∃ r, r = formR x (deliverM x i) := ⟨_, rfl⟩
  obtain ⟨r2, hr2⟩ : ∃ r, r = formR x (loseM x i) := ⟨_, rfl⟩
  have hdl := two_dlR x i
  have hd1 := fun (v : Value) (w : World) (hV : NetV w v x) => Deliver_any x i v w (by have := HL.out; omega) (by have := HL.out; omega) (by have := HL.out; omega) hV
  have hd2 := fun (v : Value) (w : World) (hV : NetV w v x) => Lose_any x i v w (by have := HL.out; omega) (by have := HL.out; omega) (by have := HL.out; omega) hV
  have hl1 := way_deliver x i 300 (by have := HL.out; omega) (by have := HL.out; omega) (by have := HL.out; omega)
  rw [← hr1, ← hr2] at hdl
  rw [← hr1] at hd1 hl1
  rw [← hr2] at hd2
  have HDL := Lib.hid hdl
  have HD1 := Lib.hid hd1
  have HD2 := Lib.hid hd2
  have HL1 := Lib.hid hl1
  clear hdl hd1 hd2 hl1 hr1 hr2
  obtain ⟨y1, hy1⟩ : ∃ y, y = doXR x a := ⟨_, rfl⟩
  obtain ⟨y2, hy2⟩ : ∃ y, y = doXR y1 b := ⟨_, rfl⟩
  obtain ⟨y3, hy3⟩ : ∃ y, y = doXR x b := ⟨_, rfl⟩
  obtain ⟨y4, hy4⟩ : ∃ y, y = doXR y3 a := ⟨_, rfl⟩
  obtain ⟨s1, hs1⟩ : ∃ y, y = doSR x a := ⟨_, rfl⟩
  obtain ⟨s2, hs2⟩ : ∃ y, y = doSR y1 b := ⟨_, rfl⟩
  obtain ⟨s3, hs3⟩ : ∃ y, y = doSR x b := ⟨_, rfl⟩
  obtain ⟨s4, hs4⟩ : ∃ y, y = doSR y3 a := ⟨_, rfl⟩
  obtain ⟨e1, he1⟩ : ∃ y, y = doER x := ⟨_, rfl⟩
  obtain ⟨e2, he2⟩ : ∃ y, y = doER y1 := ⟨_, rfl⟩
  obtain ⟨e3, he3⟩ : ∃ y, y = doER y3 := ⟨_, rfl⟩
  have hLx : x.way.length ≤ 300 ∧ x.cuts.length ≤ 300 ∧ x.timers.length ≤ 300 := by have := HL.out; omega
  have hL1 := lens_do a hLx.1 hLx.2.1 hLx.2.2
  have hL3 := lens_do b hLx.1 hLx.2.1 hLx.2.2
  have hL2 := lens_do b hL1.1 hL1.2.1 hL1.2.2
  rw [← hy1] at hL1 hL2
  rw [← hy3] at hL3
  rw [← hy2] at hL2
  have HA1 := Lib.hid fun (v : Value) (w : World) (hV : NetV w v x) => Do_use hy1 hs1 he1 v w hLx.1 hLx.2.1 hLx.2.2 hV
  have HA2 := Lib.hid fun (v : Value) (w : World) (hV : NetV w v y1) => Do_use hy2 hs2 he2 v w hL1.1 hL1.2.1 hL1.2.2 hV
  have HA3 := Lib.hid fun (v : Value) (w : World) (hV : NetV w v x) => Do_use hy3 hs3 he1 v w hLx.1 hLx.2.1 hLx.2.2 hV
  have HA4 := Lib.hid fun (v : Value) (w : World) (hV : NetV w v y3) => Do_use hy4 hs4 he3 v w hL3.1 hL3.2.1 hL3.2.2 hV
  have HL2 := Lib.hid hL2
  have HEQ : Hid ((a.k = 8 ∨ a.k = 9) → (b.k = 8 ∨ b.k = 9) → a.a ≠ b.a → e1 = 0 → s1.e = 0 → s2.e = 0 → s3.e = 0 → s4.e = 0 → y2 = y4) := fun ha hb hab q1 q2 q3 q4 q5 => by
    rw [hy2, hy4, hy1, hy3]
    exact two_waysR x a b ha hb hab (he1 ▸ q1) (hs1 ▸ q2) (by rw [← hy1]; exact hs2 ▸ q3) (hs3 ▸ q4) (by rw [← hy3]; exact hs4 ▸ q5)
  clear hLx hL1 hL3 hL2 hy1 hy2 hy3 hy4 hs1 hs2 hs3 hs4 he1 he2 he3
  go_enter Try.func8, Try.ntmps8
  go_wp2_with fail
  rw [← HW0.out]
  clear HW0
  refine calls_below (HS.out _ _ (HV.out _ HB0.out)) ?_
  intro w1 hb1
  have k0 := 0; have k1 := 0; have k2 := 0; have k3 := 0; have k4 := 0; have k5 := 0; have hlz := 0
  clear k0 k1 k2 k3 k4 k5 hlz
  have hz1 := bl_below HZ0.out hb1
  obtain ⟨⟨k0, k1, k2, k3, k4, k5⟩, -⟩ := blc6 hz1
  have hlz := bl_lt hz1
  clear hz1
  have hB1 := below_trans HB0.out hb1
  go_wp2_with fail
  refine (HD1.out _ _ (HV.out _ hB1)).mono ?_
  rintro e w2 ⟨v2, rfl, hO2, hb2⟩
  obtain ⟨AW2, cW2, AC2, cC2, AT2, cT2, rfl, oW2, oC2, oT2⟩ := hO2
  have HN2 : Hid (∀ W, Below w2.heap.size w2 W → NetV W (.agg #[.int .i64 r1.x.nodes, .int .i64 r1.x.now, .int .i64 r1.x.next, .slice AW2 r1.x.way.length cW2, .slice AC2 r1.x.cuts.length cC2, .slice AT2 r1.x.timers.length cT2]) r1.x) := fun W hb => ⟨AW2, cW2, AC2, cC2, AT2, cT2, rfl, oW2.rd.below hb, oC2.rd.below hb, oT2.rd.below hb⟩
  clear oW2 oC2 oT2
  replace hb2 := below_trans hb1 hb2
  clear k0 k1 k2 k3 k4 k5 hlz
  have hz1 := bl_below HZ0.out hb2
  obtain ⟨⟨k0, k1, k2, k3, k4, k5⟩, -⟩ := blc6 hz1
  have hlz := bl_lt hz1
  clear hz1
  go_wp2_with fail
  refine calls_world ?_
  intro w3 hw3
  have hb23 : Below w2.heap.size w2 w3 := by rw [hw3]; exact below_alloc (below_alloc (Below.refl _ _) _) _
  have hg3 : w3.heap[w2.heap.size]? = some (.cells #[.int .i64 r1.x.nodes, .int .i64 r1.x.now, .int .i64 r1.x.next, .slice AW2 r1.x.way.length cW2, .slice AC2 r1.x.cuts.length cC2, .slice AT2 r1.x.timers.length cT2] 26 (0, 0)) := by rw [hw3]; exact bl_alloc (bl_new _ _) _
  clear hw3
  refine (HD2.out _ _ (HV.out _ (below_trans HB0.out (below_trans hb2 hb23)))).mono ?_
  rintro e w4 ⟨v4, rfl, hO4, hb4⟩
  obtain ⟨AW4, cW4, AC4, cC4, AT4, cT4, rfl, oW4, oC4, oT4⟩ := hO4
  have HN4 : Hid (∀ W, Below w4.heap.size w4 W → NetV W (.agg #[.int .i64 r2.x.nodes, .int .i64 r2.x.now, .int .i64 r2.x.next, .slice AW4 r2.x.way.length cW4, .slice AC4 r2.x.cuts.length cC4, .slice AT4 r2.x.timers.length cT4]) r2.x) := fun W hb => ⟨AW4, cW4, AC4, cC4, AT4, cT4, rfl, oW4.rd.below hb, oC4.rd.below hb, oT4.rd.below hb⟩
  clear oW4 oC4 oT4
  have hb24 := below_trans hb23 hb4
  have hg4 := bl_below hg3 hb4
  have hb04 := below_trans hb2 hb24
  clear k0 k1 k2 k3 k4 k5 hlz
  have hz1 := bl_below HZ0.out hb04
  obtain ⟨⟨k0, k1, k2, k3, k4, k5⟩, -⟩ := blc6 hz1
  have hlz := bl_lt hz1
  clear hz1
  go_upto_region 5 with fail
  obtain ⟨w5, hw5⟩ : ∃ w5, w5 = w4.alloc (.cells #[.int .i64 r2.x.nodes, .int .i64 r2.x.now, .int .i64 r2.x.next, .slice AW4 r2.x.way.length cW4, .slice AC4 r2.x.cuts.length cC4, .slice AT4 r2.x.timers.length cT4] 26) := ⟨_, rfl⟩
  rw [← hw5]
  have hb45 : Below w4.heap.size w4 w5 := by rw [hw5]; exact below_alloc (Below.refl _ _) _
  have hg5 := bl_below hg4 hb45
  have hh5 : w5.heap[w4.heap.size]? = some (.cells #[.int .i64 r2.x.nodes, .int .i64 r2.x.now, .int .i64 r2.x.next, .slice AW4 r2.x.way.length cW4, .slice AC4 r2.x.cuts.length cC4, .slice AT4 r2.x.timers.length cT4] 26 (0, 0)) := by rw [hw5]; exact bl_new _ _
  clear hw5
  have hb05 := below_trans hb04 hb45
  have hv2 := HN2.out _ (below_trans hb24 hb45)
  have hv4 := HN4.out _ hb45
  have HV2 := Lib.hid hv2
  have HV4 := Lib.hid hv4
  clear hv2 hv4 HN2 HN4
  clear k0 k1 k2 k3 k4 k5 hlz
  have hz1 := bl_below HZ0.out hb05
  obtain ⟨⟨k0, k1, k2, k3, k4, k5⟩, -⟩ := blc6 hz1
  have hlz := bl_lt hz1
  clear hz1
  obtain ⟨⟨m0, m1, m2, m3, m4, m5⟩, -⟩ := blc6 hg5
  obtain ⟨⟨n0, n1, n2, n3, n4, n5⟩, -⟩ := blc6 hh5
  have hlm := bl_lt hg5
  have hln := bl_lt hh5
  go_cut [51] (fun s wx => s = .bool false ∧ Hid (Below w5.heap.size w5 wx))
  case first =>
    by_cases hE : r1.e = 0
    · have hq := HDL.out hE
      have q1 : (r1.e == 0) = true := by rw [hE]; rfl
      have q2 : (r2.e != 0) = false := by rw [hq.1]; rfl
      have HQ := Lib.hid hq.2
      clear hE hq
      go_wp2_with fail
      refine calls_below (RSame_any r1.x r2.x _ _ _ HV2.out HV4.out (by have := HL1.out; omega) (by have := HL1.out; omega) (by have := HL1.out; omega)) ?_
      intro w6 hb6
      rw [HQ.out, decide_eq_true (rfl : r1.x = r1.x)]
      go_wp2
      go_meet
      case rel => exact ⟨rfl, hb6⟩
    · have q1 : (r1.e == 0) = false := beq_eq_false_iff_ne.2 hE
      clear hE
      go_wp2
      go_meet
      case rel => exact ⟨rfl, Below.refl _ _⟩
  case rest =>
    obtain ⟨rfl, hb6⟩ := hcut
    go_upto_region 7 with fail
    have HB5 := Lib.hid hb05
    have HB6 := Lib.hid hb6
    clear hb05 hb6 hb24 hb04 hb4 hb45 hg4 hg5 hh5 hb23 hg3 m0 m1 m2 m3 m4 m5 n0 n1 n2 n3 n4 n5 k0 k1 k2 k3 k4 k5 hlz hlm hln hb1 hb2 HV2 HV4
    obtain ⟨w6, hw6⟩ : ∃ w6, w6 = wc := ⟨_, rfl⟩
    have hb06 : Below w0.heap.size w0 w6 := by rw [hw6]; exact below_trans HB5.out HB6.out
    rw [← hw6]
    clear HB5 HB6 hw6
    obtain ⟨⟨a0, a1, a2, a3, a4⟩, -⟩ := blc5 (bl_below HP0.out hb06)
    obtain ⟨⟨b0, b1, b2, b3, b4⟩, -⟩ := blc5 (bl_below HQ0.out hb06)
    have hla := bl_lt (bl_below HP0.out hb06)
    have hlb := bl_lt (bl_below HQ0.out hb06)
    go_cut [14] (fun s wx => s = .bool (decide ((a.k = 8 ∨ a.k = 9) ∧ (b.k = 8 ∨ b.k = 9))) ∧ w6 = wx)
    case first =>
      cases d1 : (a.k == 8) <;> cases d2 : (a.k == 9) <;> cases d3 : (b.k == 8) <;> cases d4 : (b.k == 9)
      all_goals
        go_wp2
        go_meet
        case rel =>
          refine ⟨congrArg Value.bool ?_, rfl⟩
          simp only [beq_iff_eq, beq_eq_false_iff_ne, ne_eq] at d1 d2 d3 d4
          first
            | exact (decide_eq_true (by omega)).symm
            | exact (decide_eq_false (by omega)).symm
    case rest =>
      obtain ⟨rfl, rfl⟩ := hcut
      obtain ⟨T, hT⟩ : ∃ T, decide ((a.k = 8 ∨ a.k = 9) ∧ (b.k = 8 ∨ b.k = 9)) = T := ⟨_, rfl⟩
      have HTT := Lib.hid hT
      rw [hT]
      clear hT
      go_upto_region 8 with fail
      go_cut [88] (fun s wx => tmQ a b s ∧ w6 = wx)
      case first =>
        cases T
        · go_wp2
          go_meet
          case rel => exact ⟨⟨_, rfl, fun h => by cases h⟩, rfl⟩
        · cases d1 : (a.a == b.a)
          · go_wp2
            go_meet
            case rel => exact ⟨⟨_, rfl, fun _ => by have h := of_decide_eq_true HTT.out; exact ⟨h.1, h.2, beq_eq_false_iff_ne.1 d1⟩⟩, rfl⟩
          · go_wp2
            go_meet
            case rel => exact ⟨⟨_, rfl, fun h => by cases h⟩, rfl⟩
      case rest =>
        obtain ⟨hq, rfl⟩ := hcut
        obtain ⟨bb, rfl, hbb⟩ := hq
        have HBB := Lib.hid hbb
        have HB06 := Lib.hid hb06
        clear hbb HTT
        cases bb
        rotate_left 1
        · go_wp2_with (go_at_call 13; refine calls_below (sane_any _) ?_; intro w7 hb7)
          go_ret
          exact ⟨rfl, below_trans HB0.out (below_trans HB06.out hb7)⟩
        obtain ⟨⟨k0, k1, k2, k3, k4, k5⟩, -⟩ := blc6 (bl_below HZ0.out HB06.out)
        have hlz := bl_lt (bl_below HZ0.out HB06.out)
        go_wp2_with fail
        refine (HA1.out _ _ (HV.out _ (below_trans HB0.out HB06.out))).mono ?_
        rintro e w7 ⟨AW7, cW7, AC7, cC7, AT7, cT7, A7, c7, rfl, hn7, -, hb7⟩
        have hb07 := below_trans HB06.out hb7
        clear k0 k1 k2 k3 k4 k5 hlz hla hlb a0 a1 a2 a3 a4 b0 b1 b2 b3 b4 hb06
        obtain ⟨⟨b0, b1, b2, b3, b4⟩, -⟩ := blc5 (bl_below HQ0.out hb07)
        have hlb := bl_lt (bl_below HQ0.out hb07)
        have n71 : ¬ w.heap.size = w7.heap.size := by have := bl_lt (bl_below HZ0.out hb07); omega
        have n72 : ¬ w.heap.size + 1 = w7.heap.size := by have := bl_lt (bl_below HQ0.out hb07); omega
        have n73 : ¬ w.heap.size + 1 + 1 = w7.heap.size := by have := bl_lt (bl_below HQ0.out hb07); omega
        have n77 : w.heap.size + 1 < w7.heap.size := by have := bl_lt (bl_below HQ0.out hb07); omega
        have n78 : w.heap.size < w7.heap.size := by omega
        have n74 : ¬ w7.heap.size = w.heap.size := by omega
        have n75 : ¬ w7.heap.size = w.heap.size + 1 := by omega
        have n76 : ¬ w7.heap.size = w.heap.size + 1 + 1 := by omega
        go_wp2_with fail
        refine calls_world ?_
        intro w8 hw8
        have hb78 : Below w7.heap.size w7 w8 := by rw [hw8]; exact below_alloc (below_alloc (Below.refl _ _) _) _
        have hg8 : w8.heap[w7.heap.size]? = some (.cells #[.int .i64 y1.nodes, .int .i64 y1.now, .int .i64 y1.next, .slice AW7 y1.way.length cW7, .slice AC7 y1.cuts.length cC7, .slice AT7 y1.timers.length cT7] 26 (0, 0)) := by rw [hw8]; exact bl_alloc (bl_new _ _) _
        have hs8 : w8.heap[w7.heap.size + 1]? = some (.cells #[.int .i64 s1.a.k, .int .i64 s1.a.a, .int .i64 s1.a.b, .int .i64 s1.a.n, .string s1.a.data, .int .i64 s1.e, .int .i64 s1.now, .int .i64 s1.l.id, .int .i64 s1.l.fr, .int .i64 s1.l.to, .int .i64 s1.l.rd, .string s1.l.data, .slice A7 s1.ts.length c7] 55 (0, 0)) := by
          rw [hw8]
          have h := bl_new (w7.alloc (.cells #[.int .i64 y1.nodes, .int .i64 y1.now, .int .i64 y1.next, .slice AW7 y1.way.length cW7, .slice AC7 y1.cuts.length cC7, .slice AT7 y1.timers.length cT7] 26)) (.cells #[.int .i64 s1.a.k, .int .i64 s1.a.a, .int .i64 s1.a.b, .int .i64 s1.a.n, .string s1.a.data, .int .i64 s1.e, .int .i64 s1.now, .int .i64 s1.l.id, .int .i64 s1.l.fr, .int .i64 s1.l.to, .int .i64 s1.l.rd, .string s1.l.data, .slice A7 s1.ts.length c7] 55)
          rw [show (w7.alloc (.cells #[.int .i64 y1.nodes, .int .i64 y1.now, .int .i64 y1.next, .slice AW7 y1.way.length cW7, .slice AC7 y1.cuts.length cC7, .slice AT7 y1.timers.length cT7] 26)).heap.size = w7.heap.size + 1 from (by simp)] at h
          exact h
        clear hw8
        refine (HA2.out _ _ (hn7.v.below hb78)).mono ?_
        rintro e w9 ⟨AW9, cW9, AC9, cC9, AT9, cT9, A9, c9, rfl, hn9, -, hb9⟩
        have hb79 := below_trans hb78 hb9
        have hg9 := bl_below hg8 hb9
        have hs9 := bl_below hs8 hb9
        have hb09 := below_trans hb07 hb79
        clear hlb b0 b1 b2 b3 b4 hn7 hb7
        obtain ⟨⟨b0, b1, b2, b3, b4⟩, -⟩ := blc5 (bl_below HQ0.out hb09)
        have hlb := bl_lt (bl_below HQ0.out hb09)
        obtain ⟨⟨k0, k1, k2, k3, k4, k5⟩, -⟩ := blc6 (bl_below HZ0.out hb09)
        have hlz := bl_lt (bl_below HZ0.out hb09)
        obtain ⟨⟨g0, g1, g2, g3, g4, g5⟩, f0, f1, f2, f3, f4, f5⟩ := blc6 hg9
        have hlg := bl_lt hg9
        have n91 : ¬ w.heap.size = w9.heap.size := by have := bl_lt (bl_below HZ0.out hb09); omega
        have n92 : ¬ w.heap.size + 1 = w9.heap.size := by have := bl_lt (bl_below HQ0.out hb09); omega
        have n93 : ¬ w.heap.size + 1 + 1 = w9.heap.size := by have := bl_lt (bl_below HQ0.out hb09); omega
        have n97 : w.heap.size + 1 < w9.heap.size := by have := bl_lt (bl_below HQ0.out hb09); omega
        have n98 : w.heap.size < w9.heap.size := by omega
        have n94 : ¬ w9.heap.size = w.heap.size := by omega
        have n95 : ¬ w9.heap.size = w.heap.size + 1 := by omega
        have n96 : ¬ w9.heap.size = w.heap.size + 1 + 1 := by omega
        go_wp2_with fail
        refine calls_world ?_
        intro w10 hw10
        have hs79 := bl_lt hg8
        have hs78 := bl_lt hs8
        have hq07 := hb07.size
        have hg10 : w10.heap[w7.heap.size]? = some (.cells #[.int .i64 y2.nodes, .int .i64 y2.now, .int .i64 y2.next, .slice AW9 y2.way.length cW9, .slice AC9 y2.cuts.length cC9, .slice AT9 y2.timers.length cT9] 26 (0, 0)) := by rw [hw10]; exact bl_alloc (bl_all6 hg9 _ _ _ _ _ _) _
        have hsa : w10.heap[w7.heap.size + 1]? = some (.cells #[.int .i64 s1.a.k, .int .i64 s1.a.a, .int .i64 s1.a.b, .int .i64 s1.a.n, .string s1.a.data, .int .i64 s1.e, .int .i64 s1.now, .int .i64 s1.l.id, .int .i64 s1.l.fr, .int .i64 s1.l.to, .int .i64 s1.l.rd, .string s1.l.data, .slice A7 s1.ts.length c7] 55 (0, 0)) := by rw [hw10]; exact bl_alloc (bl_far6 hs9 (by omega) _ _ _ _ _ _) _
        have hsb : w10.heap[w9.heap.size]? = some (.cells #[.int .i64 s2.a.k, .int .i64 s2.a.a, .int .i64 s2.a.b, .int .i64 s2.a.n, .string s2.a.data, .int .i64 s2.e, .int .i64 s2.now, .int .i64 s2.l.id, .int .i64 s2.l.fr, .int .i64 s2.l.to, .int .i64 s2.l.rd, .string s2.l.data, .slice A9 s2.ts.length c9] 55 (0, 0)) := by rw [hw10]; exact bl_newS (by simp [World.setCell])
        have HN10 : Hid (∀ W, Below w10.heap.size w10 W → NetV W (.agg #[.int .i64 y2.nodes, .int .i64 y2.now, .int .i64 y2.next, .slice AW9 y2.way.length cW9, .slice AC9 y2.cuts.length cC9, .slice AT9 y2.timers.length cT9]) y2) := by
          have h : NetV w10 (.agg #[.int .i64 y2.nodes, .int .i64 y2.now, .int .i64 y2.next, .slice AW9 y2.way.length cW9, .slice AC9 y2.cuts.length cC9, .slice AT9 y2.timers.length cT9]) y2 := by rw [hw10]; exact ((hn9.far6 (by omega) _ _ _ _ _ _).alloc _).v
          exact fun W hb => h.below hb
        have hb010 : Below w0.heap.size w0 w10 := by rw [hw10]; exact below_alloc (below_set6 hb09 (by omega) _ _ _ _ _ _) _
        clear hw10 hn9 hb9 hb79 hg9 hs9 hg8 hs8 hb78 hb09 k0 k1 k2 k3 k4 k5 hlz b0 b1 b2 b3 b4 hlb g0 g1 g2 g3 g4 g5 f0 f1 f2 f3 f4 f5 hlg n91 n92 n93 n94 n95 n96 n97 n98 n71 n72 n73 n74 n75 n76 n77 n78
        refine (HA3.out _ _ (HV.out _ (below_trans HB0.out hb010))).mono ?_
        rintro e w11 ⟨AW11, cW11, AC11, cC11, AT11, cT11, A11, c11, rfl, hn11, -, hb11⟩
        have hb011 := below_trans hb010 hb11
        obtain ⟨⟨a0, a1, a2, a3, a4⟩, -⟩ := blc5 (bl_below HP0.out hb011)
        have hla := bl_lt (bl_below HP0.out hb011)
        have n111 : ¬ w.heap.size = w11.heap.size := by have := bl_lt (bl_below HZ0.out hb011); omega
        have n112 : ¬ w.heap.size + 1 = w11.heap.size := by have := bl_lt (bl_below HQ0.out hb011); omega
        have n113 : ¬ w.heap.size + 1 + 1 = w11.heap.size := by have := bl_lt (bl_below HQ0.out hb011); omega
        have n117 : w.heap.size + 1 < w11.heap.size := by have := bl_lt (bl_below HQ0.out hb011); omega
        have n118 : w.heap.size < w11.heap.size := by omega
        have n114 : ¬ w11.heap.size = w.heap.size := by omega
        have n115 : ¬ w11.heap.size = w.heap.size + 1 := by omega
        have n116 : ¬ w11.heap.size = w.heap.size + 1 + 1 := by omega
        go_wp2_with fail
        refine calls_world ?_
        intro w12 hw12
        have hb1112 : Below w11.heap.size w11 w12 := by rw [hw12]; exact below_alloc (below_alloc (Below.refl _ _) _) _
        have hb1012 := below_trans hb11 hb1112
        have hg12 : w12.heap[w11.heap.size]? = some (.cells #[.int .i64 y3.nodes, .int .i64 y3.now, .int .i64 y3.next, .slice AW11 y3.way.length cW11, .slice AC11 y3.cuts.length cC11, .slice AT11 y3.timers.length cT11] 26 (0, 0)) := by rw [hw12]; exact bl_alloc (bl_new _ _) _
        have hsc : w12.heap[w11.heap.size + 1]? = some (.cells #[.int .i64 s3.a.k, .int .i64 s3.a.a, .int .i64 s3.a.b, .int .i64 s3.a.n, .string s3.a.data, .int .i64 s3.e, .int .i64 s3.now, .int .i64 s3.l.id, .int .i64 s3.l.fr, .int .i64 s3.l.to, .int .i64 s3.l.rd, .string s3.l.data, .slice A11 s3.ts.length c11] 55 (0, 0)) := by rw [hw12]; exact bl_newS (by simp)
        clear hw12
        refine (HA4.out _ _ (hn11.v.below hb1112)).mono ?_
        rintro e w13 ⟨AW13, cW13, AC13, cC13, AT13, cT13, A13, c13, rfl, hn13, -, hb13⟩
        have hb1013 := below_trans hb1012 hb13
        have hg13 := bl_below hg12 hb13
        have hsc13 := bl_below hsc hb13
        have hsa13 := bl_below hsa hb1013
        have hsb13 := bl_below hsb hb1013
        have hgp13 := bl_below hg10 hb1013
        have hb013 := below_trans hb010 hb1013
        have hV13 := HN10.out _ hb1013
        clear a0 a1 a2 a3 a4 hla n111 n112 n113 n114 n115 n116 n117 n118
        obtain ⟨⟨g0, g1, g2, g3, g4, g5⟩, f0, f1, f2, f3, f4, f5⟩ := blc6 hg13
        have hlg := bl_lt hg13
        go_upto_region 14 with fail
        generalize hw14 : World.alloc _ _ = w14
        have hs1112 := bl_lt hsc
        have hz11 := bl_lt hg12
        have hq10 := bl_lt hg10
        have hq10a := bl_lt hsa
        have hq10b := bl_lt hsb
        have hb12s := hb1112.size
        have hb11s := hb11.size
        have hb13s := hb13.size
        have hg14 : w14.heap[w11.heap.size]? = some (.cells #[.int .i64 y4.nodes, .int .i64 y4.now, .int .i64 y4.next, .slice AW13 y4.way.length cW13, .slice AC13 y4.cuts.length cC13, .slice AT13 y4.timers.length cT13] 26 (0, 0)) := by rw [← hw14]; exact bl_alloc (bl_all6 hg13 _ _ _ _ _ _) _
        have hp14 : w14.heap[w7.heap.size]? = some (.cells #[.int .i64 y2.nodes, .int .i64 y2.now, .int .i64 y2.next, .slice AW9 y2.way.length cW9, .slice AC9 y2.cuts.length cC9, .slice AT9 y2.timers.length cT9] 26 (0, 0)) := by rw [← hw14]; exact bl_alloc (bl_far6 hgp13 (by omega) _ _ _ _ _ _) _
        have ha14 : w14.heap[w7.heap.size + 1]? = some (.cells #[.int .i64 s1.a.k, .int .i64 s1.a.a, .int .i64 s1.a.b, .int .i64 s1.a.n, .string s1.a.data, .int .i64 s1.e, .int .i64 s1.now, .int .i64 s1.l.id, .int .i64 s1.l.fr, .int .i64 s1.l.to, .int .i64 s1.l.rd, .string s1.l.data, .slice A7 s1.ts.length c7] 55 (0, 0)) := by rw [← hw14]; exact bl_alloc (bl_far6 hsa13 (by omega) _ _ _ _ _ _) _
        have hb14 : w14.heap[w9.heap.size]? = some (.cells #[.int .i64 s2.a.k, .int .i64 s2.a.a, .int .i64 s2.a.b, .int .i64 s2.a.n, .string s2.a.data, .int .i64 s2.e, .int .i64 s2.now, .int .i64 s2.l.id, .int .i64 s2.l.fr, .int .i64 s2.l.to, .int .i64 s2.l.rd, .string s2.l.data, .slice A9 s2.ts.length c9] 55 (0, 0)) := by rw [← hw14]; exact bl_alloc (bl_far6 hsb13 (by omega) _ _ _ _ _ _) _
        have hc14 : w14.heap[w11.heap.size + 1]? = some (.cells #[.int .i64 s3.a.k, .int .i64 s3.a.a, .int .i64 s3.a.b, .int .i64 s3.a.n, .string s3.a.data, .int .i64 s3.e, .int .i64 s3.now, .int .i64 s3.l.id, .int .i64 s3.l.fr, .int .i64 s3.l.to, .int .i64 s3.l.rd, .string s3.l.data, .slice A11 s3.ts.length c11] 55 (0, 0)) := by rw [← hw14]; exact bl_alloc (bl_far6 hsc13 (by omega) _ _ _ _ _ _) _
        have hd14 : w14.heap[w13.heap.size]? = some (.cells #[.int .i64 s4.a.k, .int .i64 s4.a.a, .int .i64 s4.a.b, .int .i64 s4.a.n, .string s4.a.data, .int .i64 s4.e, .int .i64 s4.now, .int .i64 s4.l.id, .int .i64 s4.l.fr, .int .i64 s4.l.to, .int .i64 s4.l.rd, .string s4.l.data, .slice A13 s4.ts.length c13] 55 (0, 0)) := by rw [← hw14]; exact bl_newS (by simp [World.setCell])
        have HV2 : Hid (NetV w14 (.agg #[.int .i64 y2.nodes, .int .i64 y2.now, .int .i64 y2.next, .slice AW9 y2.way.length cW9, .slice AC9 y2.cuts.length cC9, .slice AT9 y2.timers.length cT9]) y2) := by
          have h : Below w10.heap.size w10 w14 := by rw [← hw14]; exact below_alloc (below_set6 hb1013 (by omega) _ _ _ _ _ _) _
          exact HN10.out _ h
        have HV4 : Hid (NetV w14 (.agg #[.int .i64 y4.nodes, .int .i64 y4.now, .int .i64 y4.next, .slice AW13 y4.way.length cW13, .slice AC13 y4.cuts.length cC13, .slice AT13 y4.timers.length cT13]) y4) := by
          have h : NetV w14 (.agg #[.int .i64 y4.nodes, .int .i64 y4.now, .int .i64 y4.next, .slice AW13 y4.way.length cW13, .slice AC13 y4.cuts.length cC13, .slice AT13 y4.timers.length cT13]) y4 := by rw [← hw14]; exact ((hn13.far6 (by omega) _ _ _ _ _ _).alloc _).v
          exact h
        have HB14 : Hid (Below w0.heap.size w0 w14) := by
          have h := hb010.size
          show Below _ _ _
          rw [← hw14]; exact below_alloc (below_set6 hb013 (by omega) _ _ _ _ _ _) _
        clear hw14 hn13 hb13 hb1013 hg13 hsc13 hsa13 hsb13 hgp13 hb013 hV13 hg12 hsc hb1112 hb1012 hn11 hb11 hb011 HN10 hg10 hsa hsb hb010 g0 g1 g2 g3 g4 g5 f0 f1 f2 f3 f4 f5 hlg hs79 hs78 hq07 hs1112 hz11 hq10 hq10a hq10b hb12s hb11s hb13s hb07
        have a5 := (bl_cell ha14 5).trans rfl
        have b5 := (bl_cell hb14 5).trans rfl
        have c5 := (bl_cell hc14 5).trans rfl
        have d5 := (bl_cell hd14 5).trans rfl
        have hla := bl_lt ha14
        have hlb := bl_lt hb14
        have hlc := bl_lt hc14
        have hld := bl_lt hd14
        go_cut [151] (fun s wx => e0Q (e1 = 0 ∧ e2 = 0 ∧ e1 = 0 ∧ e3 = 0 ∧ s1.e = 0 ∧ s2.e = 0 ∧ s3.e = 0 ∧ s4.e = 0) s ∧ w14 = wx)
        case first =>
          cases d1 : (e1 != 0)
          rotate_left 1
          · go_wp2
            go_meet
            case rel => exact ⟨⟨_, rfl, fun h => by cases h⟩, rfl⟩
          cases d2 : (e2 != 0)
          rotate_left 1
          · go_wp2
            go_meet
            case rel => exact ⟨⟨_, rfl, fun h => by cases h⟩, rfl⟩
          cases d3 : (e3 != 0)
          rotate_left 1
          · go_wp2
            go_meet
            case rel => exact ⟨⟨_, rfl, fun h => by cases h⟩, rfl⟩
          cases d4 : (s1.e != 0)
          rotate_left 1
          · go_wp2
            go_meet
            case rel => exact ⟨⟨_, rfl, fun h => by cases h⟩, rfl⟩
          cases d5 : (s2.e != 0)
          rotate_left 1
          · go_wp2
            go_meet
            case rel => exact ⟨⟨_, rfl, fun h => by cases h⟩, rfl⟩
          cases d6 : (s3.e != 0)
          rotate_left 1
          · go_wp2
            go_meet
            case rel => exact ⟨⟨_, rfl, fun h => by cases h⟩, rfl⟩
          cases d7 : (s4.e != 0)
          rotate_left 1
          · go_wp2
            go_meet
            case rel => exact ⟨⟨_, rfl, fun h => by cases h⟩, rfl⟩
          go_wp2
          go_meet
          case rel => exact ⟨⟨_, rfl, fun _ => ⟨bne_eq_false_iff_eq.1 d1, bne_eq_false_iff_eq.1 d2, bne_eq_false_iff_eq.1 d1, bne_eq_false_iff_eq.1 d3, bne_eq_false_iff_eq.1 d4, bne_eq_false_iff_eq.1 d5, bne_eq_false_iff_eq.1 d6, bne_eq_false_iff_eq.1 d7⟩⟩, rfl⟩
        case rest =>
          obtain ⟨⟨bb, rfl, hbb⟩, rfl⟩ := hcut
          cases bb
          rotate_left 1
          · clear a5 b5 c5 d5 hbb
            go_wp2_with (go_at_call 13; refine calls_below (sane_any _) ?_; intro w15 hb15)
            go_ret
            exact ⟨rfl, below_trans HB0.out (below_trans HB14.out hb15)⟩
          have hq := hbb rfl
          have hy : (a.k = 8 ∨ a.k = 9) ∧ (b.k = 8 ∨ b.k = 9) ∧ a.a ≠ b.a := by first | exact HBB.out rfl | exact HBB.out trivial
          have HYY := Lib.hid (HEQ.out hy.1 hy.2.1 hy.2.2 hq.1 hq.2.2.2.2.1 hq.2.2.2.2.2.1 hq.2.2.2.2.2.2.1 hq.2.2.2.2.2.2.2)
          clear hq hy hbb a5 b5 c5 d5 hla hlb hlc hld
          go_wp2_with fail
          refine calls_below (sane_any _) ?_
          intro w15 hb15
          have hp15 := bl_below hp14 hb15
          have hg15 := bl_below hg14 hb15
          obtain ⟨⟨k0, k1, k2, k3, k4, k5⟩, -⟩ := blc6 hp15
          obtain ⟨⟨m0, m1, m2, m3, m4, m5⟩, -⟩ := blc6 hg15
          have hlz := bl_lt hp15
          have hlm := bl_lt hg15
          go_wp2_with fail
          refine calls_below (RSame_any y2 y4 _ _ _ (HV2.out.below hb15) (HV4.out.below hb15) (by have := HL2.out; omega) (by have := HL2.out; omega) (by have := HL2.out; omega)) ?_
          intro w16 hb16
          rw [decide_eq_true HYY.out]
          go_wp2
          go_ret
          exact ⟨rfl, below_trans HB0.out (below_trans HB14.out (below_trans hb15 hb16))⟩
end Go.Proofs.Ythlbmcfliejdiaa
end

section
set_option linter.unusedVariables false
namespace Go.Proofs.Ythlbmcfliejdiaa.netTwoWays
open Go.ChangeShapes Go.WideShapes Go.ChangeAt Go.RowKit
theorem own : ownKnob Try.prog.godebug = none := by kernel_rfl
theorem laidOut : laidOutB Try.prog = true := by kernel_rfl
set_option maxRecDepth 100000 in
theorem lifted (os : Os) (started : os.Started) (H : Type) (enc : TypeId × Value → H) :
    ReturnsInHanded {} Try.checked os 8 .any (Rows.netTwoWaysSpec.pre6 enc Try.prog Try.f8 Rows.netTwoWaysRow.domain false) (Rows.netTwoWaysSpec.post enc Try.prog Try.f8 false true false false) := by
  refine returnsInHanded_of_change_sized (C := Try.checked) own started (by kernel_rfl) Try.func8
    (ChangeSpec.witness6 (enc := enc) (C := Try.checked) false ⟨#[], #[.agg #[.int .i64 0, .int .i64 0, .int .i64 0, .slice none 0 0, .slice none 0 0, .slice none 0 0], .int .i64 0, .agg #[.int .i64 0, .int .i64 0, .int .i64 0, .int .i64 0, .string ⟨#[]⟩], .agg #[.int .i64 0, .int .i64 0, .int .i64 0, .int .i64 0, .string ⟨#[]⟩]], []⟩ 8 (by kernel_rfl) (by kernel_rfl) (by kernel_rfl) (by kernel_rfl)) ?_
  intro W base args ds gs before hval0 hW hcnd hsz0 _
  have hval : ∀ (j : Nat) t v, Try.f8.params[j]? = some t → args[j]? = some v → Value.okWide Try.prog W .any base t v := hval0
  have hW' := hW
  obtain ⟨p, q, hA0, hV, rfl, hfz, hnd⟩ := hW
  have hA : DataW.TrodAll enc Try.prog W 0 (fun _ => true) true Try.f8.params.toList args.toList ds p := hA0
  rw [Try.params8] at hA hval
  obtain ⟨v0, vs0, d0, ds0, p0, q0, hargs, rfl, rfl, h0, r0⟩ := trodAll_cons hA
  obtain ⟨v1, vs1, d1, ds1, p1, q1, rfl, rfl, rfl, h1, r1⟩ := trodAll_cons r0
  obtain ⟨v2, vs2, d2, ds2, p2, q2, rfl, rfl, rfl, h2, r2⟩ := trodAll_cons r1
  obtain ⟨v3, vs3, d3, ds3, p3, q3, rfl, rfl, rfl, h3, r3⟩ := trodAll_cons r2
  obtain ⟨rfl, rfl, rfl⟩ := trodAll_nil r3
  obtain rfl : args = #[v0, v1, v2, v3] := by cases args; simp_all
  obtain ⟨rfl, rfl⟩ := trodVars_none hV
  have k0 := h0
  have lt0 : ∀ x ∈ p0, x.block < W.heap.size := by obtain ⟨m, hm⟩ := k0; exact DataW.trod_lt m _ _ _ hm
  obtain ⟨x0, hx0, hw0, hc0, ht0⟩ := NetV_open (hval 0 26 v0 rfl rfl) h0
  obtain ⟨a1, rfl, rfl, rfl, w1⟩ := open_int Try.underlying3 (hval 1 3 v1 rfl rfl) h1
  have k2 := h2
  have lt2 : ∀ x ∈ p2, x.block < W.heap.size := by obtain ⟨m, hm⟩ := k2; exact DataW.trod_lt m _ _ _ hm
  obtain ⟨a2, rfl⟩ := AcV_open (hval 2 53 v2 rfl rfl) h2
  have k3 := h3
  have lt3 : ∀ x ∈ p3, x.block < W.heap.size := by obtain ⟨m, hm⟩ := k3; exact DataW.trod_lt m _ _ _ hm
  obtain ⟨a3, rfl⟩ := AcV_open (hval 3 53 v3 rfl rfl) h3
  clear hA0 hval0 hsz0
  refine (NetTwoWays_any x0 a1 a2 a3 v0 W hx0 hw0 hc0 ht0).mono fun e W' ⟨he, bel⟩ => ?_
  subst he
  exact ⟨_, rfl, _, _, _, [], _, [], hW', trodAll_mk1 (shut_bool Try.underlying4 _), (trodAll_cons_mk (Below.trod laidOut (by kernel_rfl) (of_decide_eq_true (by kernel_rfl)) k0 bel lt0) (trodAll_cons_mk (shut_int Try.underlying3 w1) (trodAll_cons_mk (Below.trod laidOut (by kernel_rfl) (of_decide_eq_true (by kernel_rfl)) k2 bel lt2) (trodAll_cons_mk (Below.trod laidOut (by kernel_rfl) (of_decide_eq_true (by kernel_rfl)) k3 bel lt3) trodAll_mk0)))), rfl, bel.frame _, fun h => by cases h⟩
theorem over : Rows.netTwoWaysRow.holds Try.pinned (OpenSpec.ofChange Rows.netTwoWaysSpec) :=
  OpenClaim.holds_of_wide 8 Try.f8 rfl rfl rfl rfl rfl rfl rfl ⟨rfl, rfl, rfl, rfl, rfl⟩ rfl rfl rfl rfl rfl (by kernel_rfl) Try.func8 (by kernel_rfl)
    (of_decide_eq_true (by kernel_rfl)) (by unfold Func.isWrapper; first | (rw [if_pos (by decide +kernel)]; kernel_rfl) | (rw [if_neg (by decide +kernel)]; exact ⟨rfl, rfl⟩))
    (fun os started H enc _ => lifted os started H enc)
theorem proved : Rows.NetTwoWaysSaid := over
end Go.Proofs.Ythlbmcfliejdiaa.netTwoWays
namespace Go.Proofs.Ythlbmcfliejdiaa
theorem netTwoWays_holds : Rows.NetTwoWaysSaid := netTwoWays.proved
end Go.Proofs.Ythlbmcfliejdiaa
end
