/- The law NetChecks: it returns true. The given row of NetChecks. (Printed by wip/gen_row.py.). -/
import Derived.Test.YthlbmcfliejdiaaGk
import Derived.Test.YthlbmcfliejdiaaGi
import Derived.Test.YthlbmcfliejdiaaGj
import Derived.Test.YthlbmcfliejdiaaRows
import Derived.WalkKit
import Derived.ProofKit
import Derived.OpenShut
import Derived.ShutString
import Derived.ChangeOld
import Derived.Below
import Derived.SizedLaws
import Derived.Carry
section
set_option linter.unusedVariables false
set_option linter.unusedSimpArgs false
namespace Go.Proofs.Ythlbmcfliejdiaa
open Go.RowKit

set_option maxHeartbeats 8000000 in
set_option maxRecDepth 100000 in
theorem NetChecks_any (x : Nt) (n : Int) (v : Value) (w : World) (hV : NetV w v x) (hlw : x.way.length ≤ 9223372036854775807) (hlc : x.cuts.length ≤ 9223372036854775807) (hlt : x.timers.length ≤ 9223372036854775807) :
    Calls Try.prog 3 #[v, .int .i64 n] w fun e w' => e = .returned (.bool true) ∧ Below w.heap.size w w' := by
  obtain ⟨AW1, cW1, AC1, cC1, AT1, cT1, rfl, hW, hC, hT⟩ := hV
  have HV : Hid (∀ W, Below w.heap.size w W → NetV W (.agg #[.int .i64 x.nodes, .int .i64 x.now, .int .i64 x.next, .slice AW1 x.way.length cW1, .slice AC1 x.cuts.length cC1, .slice AT1 x.timers.length cT1]) x) := fun W hb => ⟨AW1, cW1, AC1, cC1, AT1, cT1, rfl, hW.below hb, hC.below hb, hT.below hb⟩
  clear hW hC hT
  have hsm := fun (v : Value) (w : World) (hV : NetV w v x) => small_any x v w hV hlw hlc hlt
  cases hs : smallB x
  · rw [hs] at hsm
    have HS := Lib.hid hsm
    clear hsm hs
    go_enter Try.func3, Try.ntmps3
    go_wp2_with (first
      | (go_at_call 12; refine calls_below (HS.out _ _ (HV.out _ (below_alloc (Below.refl _ _) _))) ?_; intro w1 hb1)
      | (go_at_call 13; refine calls_below (sane_any _) ?_; intro w2 hb2))
    go_ret
    exact ⟨rfl, below_trans (below_alloc (Below.refl _ _) _) (below_trans hb1 hb2)⟩
  · rw [hs] at hsm
    have hln := small_lens hs
    have HS := Lib.hid hsm
    have HL := Lib.hid hln
    clear hsm hs hln
    obtain ⟨r, hr⟩ : ∃ r, r = newR n := ⟨_, rfl⟩
    have hn1 := fun w => New_any n w
    have hn2 := fun w => RNew_any n w
    have hl3 := newR_lens n
    rw [← hr] at hn1 hn2 hl3
    have HN1 := Lib.hid hn1
    have HN2 := Lib.hid hn2
    have HL3 := Lib.hid hl3
    clear hn1 hn2 hl3 hr
    obtain ⟨L, hL⟩ : ∃ L, L = rdyL x := ⟨_, rfl⟩
    obtain ⟨E, hE⟩ : ∃ E, E = chkE x := ⟨_, rfl⟩
    have hr1 := fun (v : Value) (w : World) (hV : NetV w v x) => Ready_any x v w hV (by have := HL.out; omega) (by have := HL.out; omega) (by have := HL.out; omega)
    have hr2 := fun (v : Value) (w : World) (hV : NetV w v x) => RReady_any x v w hV (by have := HL.out; omega) (by have := HL.out; omega) (by have := HL.out; omega)
    have hc2 := fun (v : Value) (w : World) (hV : NetV w v x) => RCheck_any x v w hV (by have := HL.out; omega) (by have := HL.out; omega) (by have := HL.out; omega)
    have hc1 : ∀ (v : Value) (w : World) (hV : NetV w v x), Calls Try.prog 19 #[v] w fun e w' => e = .returned (.int .i64 (chkE x)) ∧ Below w.heap.size w w' := fun v w hV => by
      obtain ⟨AW, cW, AC, cC, AT, cT, rfl, hW, hC, hT⟩ := hV
      exact Check_any x AW AC AT cW cC cT w hlw hlc hlt hW hC hT
    have hLl : L.length ≤ 10000000 := by
      rw [hL]; unfold rdyL; split
      · have := HL.out.1
        have : (rdyF x).length ≤ x.way.length := by unfold rdyF; exact Nat.le_trans (List.length_filter_le _ _) (by simp)
        simp [intsI]; omega
      · simp
    rw [← hL, ← hE] at hr1 hr2
    rw [← hE] at hc1 hc2
    have HR1 := Lib.hid hr1
    have HR2 := Lib.hid hr2
    have HC1 := Lib.hid hc1
    have HC2 := Lib.hid hc2
    have HLL := Lib.hid hLl
    clear hr1 hr2 hc1 hc2 hL hE hLl hlw hlc hlt
    go_enter Try.func3, Try.ntmps3
    go_wp2_with (first
      | (go_at_call 12; refine calls_below (HS.out _ _ (HV.out _ (below_alloc (Below.refl _ _) _))) ?_; intro w1 hb1; have g0 := bl_below (bl_new w (.cells #[.int .i64 x.nodes, .int .i64 x.now, .int .i64 x.next, .slice AW1 x.way.length cW1, .slice AC1 x.cuts.length cC1, .slice AT1 x.timers.length cT1] 26)) hb1; have hw1 := below_trans (below_alloc (Below.refl w.heap.size w) _) hb1)
      | (go_at_call 14; refine (HN1.out _).mono ?_; rintro e w2 ⟨v2, rfl, hV2, hb2⟩; obtain ⟨AW2, cW2, AC2, cC2, AT2, cT2, rfl, rW2, rC2, rT2⟩ := hV2; have HV2 : Hid (∀ W, Below w2.heap.size w2 W → NetV W (.agg #[.int .i64 r.x.nodes, .int .i64 r.x.now, .int .i64 r.x.next, .slice AW2 r.x.way.length cW2, .slice AC2 r.x.cuts.length cC2, .slice AT2 r.x.timers.length cT2]) r.x) := fun W hb => ⟨AW2, cW2, AC2, cC2, AT2, cT2, rfl, rW2.below hb, rC2.below hb, rT2.below hb⟩; clear rW2 rC2 rT2; replace g0 := bl_below g0 hb2; have hw2 := below_trans hw1 hb2; clear hb2)
      | (go_at_call 15; refine (HN2.out _).mono ?_; rintro e w3 ⟨v3, rfl, hM3, hb3⟩; obtain ⟨AW, cW, AC, cC, AT, cT, AF, cF, rfl, hV3, -⟩ := hM3; have HV3 : Hid (∀ W, Below w3.heap.size w3 W → NetV W _ r.x) := fun W hb => hV3.below hb; clear hV3; replace g0 := bl_below (bl_alloc g0 _) hb3; have g5 := bl_below (bl_new w2 (.cells #[.int .i64 r.x.nodes, .int .i64 r.x.now, .int .i64 r.x.next, .slice AW2 r.x.way.length cW2, .slice AC2 r.x.cuts.length cC2, .slice AT2 r.x.timers.length cT2] 26)) hb3; have hw3 := below_trans (below_alloc hw2 _) hb3; have hw23 := below_trans (below_alloc (Below.refl w2.heap.size w2) _) hb3; clear hb3; obtain ⟨⟨k0, k1, k2, k3, k4, k5⟩, -⟩ := blc6 g0; have hl0 := bl_lt g0)
      | (go_at_call 16; refine (HR1.out _ _ (HV.out _ (below_alloc hw3 _))).mono ?_; rintro e w4 ⟨A4, c4, rfl, hR4, hb4⟩; have HR4 : Hid (∀ W, Below w4.heap.size w4 W → Rd W A4 L) := fun W hb => hR4.below hb; clear hR4; replace g0 := bl_below (bl_alloc g0 _) hb4; replace g5 := bl_below (bl_alloc g5 _) hb4; have g7 := bl_below (bl_new w3 (.cells #[.int .i64 r.x.nodes, .int .i64 r.x.now, .int .i64 r.x.next, .slice AW r.x.way.length cW, .slice AC r.x.cuts.length cC, .slice AT r.x.timers.length cT, .int .i64 r.id, .int .i64 r.l.id, .int .i64 r.l.fr, .int .i64 r.l.to, .int .i64 r.l.rd, .string r.l.data, .slice AF r.ts.length cF, .int .i64 r.e] 35)) hb4; have hw4 := below_trans (below_alloc hw3 _) hb4; have hw34 := below_trans (below_alloc (Below.refl w3.heap.size w3) _) hb4; replace hw23 := below_trans hw23 hw34; clear hb4 k0 k1 k2 k3 k4 k5 hl0; obtain ⟨⟨k0, k1, k2, k3, k4, k5⟩, -⟩ := blc6 g0; have hl0 := bl_lt g0)
      | (go_at_call 17; refine (HR2.out _ _ (HV.out _ hw4)).mono ?_; rintro e w5 ⟨A5, c5, rfl, hR5, hb5⟩; have HR5 : Hid (∀ W, Below w5.heap.size w5 W → Rd W A5 L) := fun W hb => hR5.below hb; clear hR5; replace g0 := bl_below g0 hb5; replace g5 := bl_below g5 hb5; replace g7 := bl_below g7 hb5; have hw5 := below_trans hw4 hb5; have hw45 := hb5; replace hw34 := below_trans hw34 hb5; replace hw23 := below_trans hw23 hb5; clear hb5 k0 k1 k2 k3 k4 k5 hl0))
    obtain ⟨w6, hw6⟩ : ∃ w6, w6 = w5.alloc (.cells #[.slice A5 L.length c5, .int .i64 E] 41) := ⟨_, rfl⟩
    have hb6 : Below w5.heap.size w5 w6 := by rw [hw6]; exact below_alloc (Below.refl _ _) _
    have HG0 := Lib.hid (bl_below g0 hb6)
    have HG5 := Lib.hid (bl_below g5 hb6)
    have HG7 := Lib.hid (bl_below g7 hb6)
    have HG10 : Hid (w6.heap[w5.heap.size]? = some (.cells #[.slice A5 L.length c5, .int .i64 E] 41 (0, 0))) := by rw [hw6]; exact bl_new _ _
    have HX : Hid (NetV w6 (.agg #[.int .i64 x.nodes, .int .i64 x.now, .int .i64 x.next, .slice AW1 x.way.length cW1, .slice AC1 x.cuts.length cC1, .slice AT1 x.timers.length cT1]) x) := HV.out _ (below_trans hw5 hb6)
    have HY : Hid (NetV w6 (.agg #[.int .i64 r.x.nodes, .int .i64 r.x.now, .int .i64 r.x.next, .slice AW2 r.x.way.length cW2, .slice AC2 r.x.cuts.length cC2, .slice AT2 r.x.timers.length cT2]) r.x) := HV2.out _ (below_trans hw23 hb6)
    have HZ : Hid (NetV w6 (.agg #[.int .i64 r.x.nodes, .int .i64 r.x.now, .int .i64 r.x.next, .slice AW r.x.way.length cW, .slice AC r.x.cuts.length cC, .slice AT r.x.timers.length cT]) r.x) := HV3.out _ (below_trans hw34 hb6)
    have HP : Hid (Rd w6 A4 L) := HR4.out _ (below_trans hw45 hb6)
    have HQ : Hid (Rd w6 A5 L) := HR5.out _ hb6
    have HB6 : Hid (Below w.heap.size w w6) := below_trans hw5 hb6
    rw [← hw6]
    clear hw6 hb6 g0 g5 g7 hw1 hw2 hw3 hw4 hw5 hw23 hw34 hw45 HV HV2 HV3 HR4 HR5 hb1
    go_loopw [11] (fun i wr => ∃ k : Nat, k ≤ L.length ∧ i = .int .i64 k ∧ Hid (Below w6.heap.size w6 wr)) (fun i _ => L.length - (intOf i).toNat)
    case atStart => exact ⟨0, Nat.zero_le _, rfl, Below.refl _ _⟩
    case round =>
      obtain ⟨k, hk, rfl, hB⟩ := hrel
      obtain ⟨⟨m0, m1⟩, -⟩ := blc2 (bl_below HG10.out hB.out)
      have hlm := bl_lt (bl_below HG10.out hB.out)
      by_cases hlk : k < L.length
      · have hLL := HLL.out
        obtain ⟨b1, off1, z, rfl, hz, c1⟩ := (HP.out.below hB.out).int k hlk
        obtain ⟨b2, off2, z2, rfl, hz2, c2⟩ := (HQ.out.below hB.out).int k hlk
        obtain rfl : z = z2 := Option.some.inj (hz.out.symm.trans hz2.out)
        have hbt1 : b1 < wr.heap.size := World.block_lt_of_cell? wr _ c1
        have hbt2 : b2 < wr.heap.size := World.block_lt_of_cell? wr _ c2
        go_wp2
        go_quiet (fail)
        go_wp2
        go_roundw
        case rel => exact ⟨k + 1, by omega, by go_num, below_drewN hB.out _⟩
        case measure => simp [intOf]; omega
      · have hg0 := bl_below HG0.out hB.out
        have hg5 := bl_below HG5.out hB.out
        have hg7 := bl_below HG7.out hB.out
        obtain ⟨⟨k0, k1, k2, k3, k4, k5⟩, -⟩ := blc6 hg0
        obtain ⟨⟨y0, y1, y2, y3, y4, y5⟩, -⟩ := blc6 hg5
        obtain ⟨⟨z0, z1, z2, z3, z4, z5, z6, z7, z8, z9, z10, z11, z12, z13⟩, -⟩ := blc14 hg7
        have hl0 := bl_lt hg0
        have hl5 := bl_lt hg5
        have hl7 := bl_lt hg7
        have hX := Lib.hid (HX.out.below hB.out)
        have hY := Lib.hid (HY.out.below hB.out)
        have hZ := Lib.hid (HZ.out.below hB.out)
        clear hg0 hg5 hg7
        have hsame : Hid (∀ w, NetV w (.agg #[.int .i64 r.x.nodes, .int .i64 r.x.now, .int .i64 r.x.next, .slice AW2 r.x.way.length cW2, .slice AC2 r.x.cuts.length cC2, .slice AT2 r.x.timers.length cT2]) r.x → NetV w (.agg #[.int .i64 r.x.nodes, .int .i64 r.x.now, .int .i64 r.x.next, .slice AW r.x.way.length cW, .slice AC r.x.cuts.length cC, .slice AT r.x.timers.length cT]) r.x → Calls Try.prog 18 #[.agg #[.int .i64 r.x.nodes, .int .i64 r.x.now, .int .i64 r.x.next, .slice AW2 r.x.way.length cW2, .slice AC2 r.x.cuts.length cC2, .slice AT2 r.x.timers.length cT2], .agg #[.int .i64 r.x.nodes, .int .i64 r.x.now, .int .i64 r.x.next, .slice AW r.x.way.length cW, .slice AC r.x.cuts.length cC, .slice AT r.x.timers.length cT]] w fun e w' => e = .returned (.bool true) ∧ Below w.heap.size w w') := fun w h1 h2 => by
          have h := RSame_any r.x r.x _ _ w h1 h2 HL3.out.1 HL3.out.2.1 HL3.out.2.2
          rwa [decide_eq_true (rfl : r.x = r.x)] at h
        go_wp2
        refine wp_mixT [(0, false), (1, true), (2, true), (3, true), (4, true), (5, true), (6, true), (7, true), (8, true), (9, true), (10, true), (11, false), (12, true), (13, true), (14, true), (16, true), (15, false), (17, false), (18, true), (19, true), (20, true), (21, true), (22, true), (23, true), (24, true), (25, true)] 26
          (fun w' => Below wr.heap.size wr w')
          (by kernel_rfl) (by kernel_rfl) (by kernel_rfl) (by kernel_rfl) (by kernel_rfl) (fun d _ _ _ _ h => by cases d <;> exact h) (Below.refl _ _).drew ?_
        simp only [pick, List.map_cons, List.map_nil, List.getD_cons_zero, List.getD_cons_succ, List.drop_succ_cons, List.drop_zero]
        refine mix_do fun K' hK' => ?_
        go_wp2_with fail
        refine calls_below (sane_any _) ?_
        intro v1 hb1
        have hb1' : Below wr.heap.size wr v1 := below_trans (Below.refl _ wr).drew hb1
        go_wp2
        refine hK' _ _ hb1' ?_
        clear hK' K'
        iterate 10
          apply mix_take
          case hw => rfl
          case hy => intro W hW; obtain ⟨hwc, -⟩ := bcell hW; go_simp; try rfl
          simp only [Act.put, List.setIfInBounds_toArray, List.set_cons_zero, List.set_cons_succ]
        refine mix_do fun K' hK' => ?_
        go_wp2_with fail
        refine calls_below (hsame.out _ (hY.out.below hb1') (hZ.out.below hb1')) ?_
        intro v2 hb2
        have hb2' : Below wr.heap.size wr v2 := below_trans hb1' hb2
        go_wp2
        refine hK' _ _ hb2' ?_
        clear hK' K'
        iterate 4
          apply mix_take
          case hw => rfl
          case hy => intro W hW; obtain ⟨hwc, -⟩ := bcell hW; go_simp; try rfl
          simp only [Act.put, List.setIfInBounds_toArray, List.set_cons_zero, List.set_cons_succ]
        refine mix_do fun K' hK' => ?_
        go_wp2_with fail
        refine calls_below (HC1.out _ _ (hX.out.below hb2')) ?_
        intro v3 hb3
        have hb3' : Below wr.heap.size wr v3 := below_trans hb2' hb3
        go_wp2
        refine hK' _ _ hb3' ?_
        clear hK' K'
        refine mix_do fun K' hK' => ?_
        go_wp2_with fail
        refine calls_below (HC2.out _ _ (hX.out.below hb3')) ?_
        intro v4 hb4
        have hb4' : Below wr.heap.size wr v4 := below_trans hb3' hb4
        go_wp2
        refine hK' _ _ hb4' ?_
        clear hK' K'
        iterate 8
          apply mix_take
          case hw => rfl
          case hy => intro W hW; obtain ⟨hwc, -⟩ := bcell hW; go_simp; try rfl
          simp only [Act.put, List.setIfInBounds_toArray, List.set_cons_zero, List.set_cons_succ]
        refine mix_nil ?_
        go_wp2
        go_ret
        exact ⟨rfl, below_trans HB6.out (below_trans hB.out hb4')⟩
end Go.Proofs.Ythlbmcfliejdiaa
end

section
set_option linter.unusedVariables false
namespace Go.Proofs.Ythlbmcfliejdiaa.netChecks
open Go.ChangeShapes Go.WideShapes Go.ChangeAt Go.RowKit
theorem own : ownKnob Try.prog.godebug = none := by kernel_rfl
theorem laidOut : laidOutB Try.prog = true := by kernel_rfl
set_option maxRecDepth 100000 in
theorem lifted (os : Os) (started : os.Started) (H : Type) (enc : TypeId × Value → H) :
    ReturnsInHanded {} Try.checked os 3 .any (Rows.netChecksSpec.pre6 enc Try.prog Try.f3 Rows.netChecksRow.domain false) (Rows.netChecksSpec.post enc Try.prog Try.f3 false true false false) := by
  refine returnsInHanded_of_change_sized (C := Try.checked) own started (by kernel_rfl) Try.func3
    (ChangeSpec.witness6 (enc := enc) (C := Try.checked) false ⟨#[], #[.agg #[.int .i64 0, .int .i64 0, .int .i64 0, .slice none 0 0, .slice none 0 0, .slice none 0 0], .int .i64 0], []⟩ 8 (by kernel_rfl) (by kernel_rfl) (by kernel_rfl) (by kernel_rfl)) ?_
  intro W base args ds gs before hval0 hW hcnd hsz0 _
  have hval : ∀ (j : Nat) t v, Try.f3.params[j]? = some t → args[j]? = some v → Value.okWide Try.prog W .any base t v := hval0
  have hW' := hW
  obtain ⟨p, q, hA0, hV, rfl, hfz, hnd⟩ := hW
  have hA : DataW.TrodAll enc Try.prog W 0 (fun _ => true) true Try.f3.params.toList args.toList ds p := hA0
  rw [Try.params3] at hA hval
  obtain ⟨v0, vs0, d0, ds0, p0, q0, hargs, rfl, rfl, h0, r0⟩ := trodAll_cons hA
  obtain ⟨v1, vs1, d1, ds1, p1, q1, rfl, rfl, rfl, h1, r1⟩ := trodAll_cons r0
  obtain ⟨rfl, rfl, rfl⟩ := trodAll_nil r1
  obtain rfl : args = #[v0, v1] := by cases args; simp_all
  obtain ⟨rfl, rfl⟩ := trodVars_none hV
  have k0 := h0
  have lt0 : ∀ x ∈ p0, x.block < W.heap.size := by obtain ⟨m, hm⟩ := k0; exact DataW.trod_lt m _ _ _ hm
  obtain ⟨x0, hx0, hw0, hc0, ht0⟩ := NetV_open (hval 0 26 v0 rfl rfl) h0
  obtain ⟨a1, rfl, rfl, rfl, w1⟩ := open_int Try.underlying3 (hval 1 3 v1 rfl rfl) h1
  clear hA0 hval0 hsz0
  refine (NetChecks_any x0 a1 v0 W hx0 hw0 hc0 ht0).mono fun e W' ⟨he, bel⟩ => ?_
  subst he
  exact ⟨_, rfl, _, _, _, [], _, [], hW', trodAll_mk1 (shut_bool Try.underlying4 _), (trodAll_cons_mk (Below.trod laidOut (by kernel_rfl) (of_decide_eq_true (by kernel_rfl)) k0 bel lt0) (trodAll_cons_mk (shut_int Try.underlying3 w1) trodAll_mk0)), rfl, bel.frame _, fun h => by cases h⟩
theorem over : Rows.netChecksRow.holds Try.pinned (OpenSpec.ofChange Rows.netChecksSpec) :=
  OpenClaim.holds_of_wide 3 Try.f3 rfl rfl rfl rfl rfl rfl rfl ⟨rfl, rfl, rfl, rfl, rfl⟩ rfl rfl rfl rfl rfl (by kernel_rfl) Try.func3 (by kernel_rfl)
    (of_decide_eq_true (by kernel_rfl)) (by unfold Func.isWrapper; first | (rw [if_pos (by decide +kernel)]; kernel_rfl) | (rw [if_neg (by decide +kernel)]; exact ⟨rfl, rfl⟩))
    (fun os started H enc _ => lifted os started H enc)
theorem proved : Rows.NetChecksSaid := over
end Go.Proofs.Ythlbmcfliejdiaa.netChecks
namespace Go.Proofs.Ythlbmcfliejdiaa
theorem netChecks_holds : Rows.NetChecksSaid := netChecks.proved
end Go.Proofs.Ythlbmcfliejdiaa
end
