/- The reference's Is: it returns checkB. The reference's New, Check and Ready; the program's New, Ready and Check in the same words. -/
import Derived.Test.YthlbmcfliejdiaaGreatGj
section
set_option linter.unusedVariables false
set_option linter.unusedSimpArgs false
namespace Go.Proofs.YthlbmcfliejdiaaGreat
open Go.RowKit
set_option maxRecDepth 100000 in
theorem st_lit (f : Nat → Value) (l : List Value) (hl : l.length = 254) (h : ∀ j, j < 186 ∨ 229 ≤ j → f j = l.getD j undef) : st 254 f = ⟨(l.take 186 ++ ([f 186, f 187, f 188, f 189, f 190, f 191, f 192, f 193, f 194, f 195, f 196, f 197, f 198, f 199, f 200, f 201, f 202, f 203, f 204, f 205, f 206, f 207, f 208, f 209, f 210, f 211, f 212, f 213, f 214, f 215, f 216, f 217, f 218, f 219, f 220, f 221, f 222, f 223, f 224, f 225, f 226, f 227, f 228] ++ l.drop 229)).toArray, []⟩ := by
  have hm : [f 186, f 187, f 188, f 189, f 190, f 191, f 192, f 193, f 194, f 195, f 196, f 197, f 198, f 199, f 200, f 201, f 202, f 203, f 204, f 205, f 206, f 207, f 208, f 209, f 210, f 211, f 212, f 213, f 214, f 215, f 216, f 217, f 218, f 219, f 220, f 221, f 222, f 223, f 224, f 225, f 226, f 227, f 228] = (List.range 43).map (fun i => f (186 + i)) := by
    have h : List.range 43 = [0, 1, 2, 3, 4, 5, 6, 7, 8, 9, 10, 11, 12, 13, 14, 15, 16, 17, 18, 19, 20, 21, 22, 23, 24, 25, 26, 27, 28, 29, 30, 31, 32, 33, 34, 35, 36, 37, 38, 39, 40, 41, 42] := by decide +kernel
    rw [h]; rfl
  rw [hm]
  unfold st
  simp only [Act.mk.injEq, and_true]
  congr 1
  apply List.ext_getElem
  · simp [hl]
  · intro k h1 h2
    have hk : k < 254 := by simpa using h1
    simp only [List.getElem_map, List.getElem_range, List.getElem_append, List.length_take, List.length_map, List.length_range, hl]
    have hg : ∀ j (hj : j < l.length), l.getD j undef = l[j] := fun j hj => by simp [List.getD_eq_getElem?_getD, List.getElem?_eq_getElem hj]
    by_cases c1 : k < 186
    · rw [dif_pos (by omega), h k (by omega), hg k (by omega)]
      simp
    · by_cases c2 : k < 229
      · rw [dif_neg (by omega), dif_pos (by omega)]
        congr 1; omega
      · rw [dif_neg (by omega), dif_neg (by omega), h k (by omega), hg k (by omega)]
        simp only [List.getElem_drop]
        congr 1; omega

theorem all_take_succ {α : Type} (p : α → Bool) {xs : List α} {k : Nat} {x : α} (h : Hid (xs[k]? = some x)) : (xs.take (k + 1)).all p = ((xs.take k).all p && p x) := by
  rw [List.take_add_one, h.out, List.all_append]; simp
set_option maxHeartbeats 8000000 in
set_option maxRecDepth 100000 in
theorem RIs_any (x : Nt) (v : Value) (w : World) (hV : NetV w v x) (hlc : x.cuts.length ≤ 10000000) (hlw : x.way.length ≤ 10000000) (hlt : x.timers.length ≤ 10000000) :
    Calls Tryz.prog 39 #[v] w fun e w' => e = .returned (.bool (checkB x)) ∧ Below w.heap.size w w' := by
  obtain ⟨AW, cW, AC, cC, AT, cT, rfl, hW, hC, hT⟩ := hV
  have HW := Lib.hid hW
  have HC := Lib.hid hC
  have HT := Lib.hid hT
  clear hW hC hT
  go_enter Tryz.func39, Tryz.ntmps39
  go_wp2
  · go_ret
    exact ⟨ret_bool (checkB_no (fun h => by unfold preB at h; omega)).symm, below_alloc (Below.refl _ _) _⟩
  rotate_left 1
  iterate 7
    · go_ret
      exact ⟨ret_bool (checkB_no (fun h => by unfold preB at h; omega)).symm, below_alloc (Below.refl _ _) _⟩
  have hpre : preB x := by unfold preB; omega
  have hnow : 0 ≤ x.now := hpre.2.2.1
  have hnow2 : x.now ≤ 1099511627776 := hpre.2.2.2.1
  have hchk : Hid (checkB x = (x.way.all (isLetterB x.nodes x.next) && (cutsR x.nodes none x.cuts && tmsR x.nodes x.now [] x.timers))) := checkB_loops hpre
  have HNOW := Lib.hid hnow
  clear hpre
  rename_i g1 g2 g3 g4 g5 g6 g7 g8 K0 A0
  clear g1 g2 g3 g4 g5 g6 g7 g8
  obtain ⟨w0, hw0⟩ : ∃ w0, w0 = w.alloc (.cells #[.int .i64 x.nodes, .int .i64 x.now, .int .i64 x.next, .slice AW x.way.length cW, .slice AC x.cuts.length cC, .slice AT x.timers.length cT] 26) := ⟨_, rfl⟩
  have hb0 : Below w.heap.size w w0 := by rw [hw0]; exact below_alloc (Below.refl _ _) _
  have hz0 : w0.heap[w.heap.size]? = some (.cells #[.int .i64 x.nodes, .int .i64 x.now, .int .i64 x.next, .slice AW x.way.length cW, .slice AC x.cuts.length cC, .slice AT x.timers.length cT] 26 (0, 0)) := by rw [hw0]; exact bl_new _ _
  have HB0 := Lib.hid hb0
  have HZ0 := Lib.hid hz0
  have HW := Lib.hid (HW.out.below hb0)
  have HC := Lib.hid (HC.out.below hb0)
  have HT := Lib.hid (HT.out.below hb0)
  rw [← hw0]
  clear hb0 hz0 hw0
  go_loopw [3] (fun i wr => ∃ k : Nat, k ≤ x.way.length ∧ i = .int .i64 k ∧ Hid (x.way.all (isLetterB x.nodes x.next) = (x.way.drop k).all (isLetterB x.nodes x.next)) ∧ Hid (Below w0.heap.size w0 wr)) (fun i _ => x.way.length - (intOf i).toNat)
  case atStart => exact ⟨0, Nat.zero_le _, rfl, rfl, Below.refl _ _⟩
  case round =>
    obtain ⟨k, hk, rfl, ho, hB⟩ := hrel
    have hz := bl_below HZ0.out hB.out
    obtain ⟨⟨k0, k1, k2, k3, k4, k5⟩, -⟩ := blc6 hz
    have hlz := bl_lt hz
    by_cases hlk : k < x.way.length
    · obtain ⟨b, off, l, rfl, hx, c0, c1, c2, c3, c4⟩ := (HW.out.below hB.out).lt k hlk
      have hd : Hid ((x.way.drop k).all (isLetterB x.nodes x.next) = (isLetterB x.nodes x.next l && (x.way.drop (k + 1)).all (isLetterB x.nodes x.next))) := by
        show _ = _
        rw [drop_at hx, List.all_cons]
      go_wp2_with (first
        | (go_at_call 41; refine calls_below (RisNode_any _ _ _ _ _ _ _ _ _ _ _ _ _ _) ?_; intro w1 hb1; (first | (replace hb0 := below_trans hb0 hb1; clear hc hb1) | (have hb0 := hb1; clear hb1)); obtain ⟨hc, -⟩ := bcell hb0)
        | (go_at_call 72; refine (RisTime_any _ _).mono ?_; rintro e w2 ⟨rfl, rfl⟩))
      all_goals try
        go_ret
        have hno : isLetterB x.nodes x.next l = false := by
          refine Bool.eq_false_iff.2 fun h => ?_
          obtain ⟨e1, e2, e3, e4, e5, e6, e7⟩ := (letter_iff _ _ _).1 h
          first
            | contradiction
            | omega
            | (have e3' := beq_eq_false_iff_ne.1 e3; contradiction)
            | (have hx := ‹(((l.fr == l.to) = true ∨ l.id < 0) ∨ x.next ≤ l.id) ∨ 500000 < (l.data.size : Int)›
               rcases hx with ((hx | hx) | hx) | hx
               · rw [e3] at hx; cases hx
               all_goals omega)
            | (have hx := ‹isNodeB x.nodes l.fr = false›; rw [hx] at e1; cases e1)
            | (have hx := ‹isNodeB x.nodes l.to = false›; rw [hx] at e2; cases e2)
            | (have hx := ‹isTimeB l.rd = false›; rw [hx] at e6; cases e6)
        exact ⟨ret_bool (by rw [hchk.out, ho.out, hd.out, hno]; rfl), below_trans HB0.out (below_trans hB.out (below_trans (below_alloc (Below.refl _ _) _) hb0))⟩
      have hx := ‹(((l.fr == l.to) = false ∧ 0 ≤ l.id) ∧ l.id < x.next) ∧ (l.data.size : Int) ≤ 500000›
      have hyes : isLetterB x.nodes x.next l = true := (letter_iff _ _ _).2 ⟨by assumption, by assumption, hx.1.1.1, hx.1.1.2, hx.1.2, by assumption, by omega⟩
      go_roundw
      case rel => exact ⟨k + 1, by omega, by go_num, by show _ = _; rw [ho.out, hd.out, hyes]; rfl, below_trans hB.out (below_trans (below_alloc (Below.refl _ _) _) hb0)⟩
      case measure => simp [intOf]; omega
    · have hway : Hid (checkB x = (cutsR x.nodes none x.cuts && tmsR x.nodes x.now [] x.timers)) := by
        show _ = _
        rw [hchk.out, ho.out, List.drop_of_length_le (by omega), List.all_nil, Bool.true_and]
      clear ho hchk
      obtain rfl : k = x.way.length := by omega
      go_wp2
      have HB1 := Lib.hid hB.out
      clear hB hz hlz k0 k1 k2 k3 k4 k5 hlk hk
      go_loopw [5] (fun i wr => ∃ k : Nat, k ≤ x.cuts.length ∧ i = .int .i64 k ∧ Hid (cutsR x.nodes none x.cuts = cutsR x.nodes (prevO x.cuts k) (x.cuts.drop k)) ∧ Hid (Below w0.heap.size w0 wr)) (fun i _ => x.cuts.length - (intOf i).toNat)
      case atStart => exact ⟨0, Nat.zero_le _, rfl, rfl, HB1.out⟩
      case round =>
        clear HB1
        obtain ⟨k, hk, rfl, ho, hB⟩ := hrel
        have hz := bl_below HZ0.out hB.out
        obtain ⟨⟨k0, k1, k2, k3, k4, k5⟩, -⟩ := blc6 hz
        have hlz := bl_lt hz
        by_cases hlk : k < x.cuts.length
        · obtain ⟨b, off, l, rfl, hx, c0, c1⟩ := (HC.out.below hB.out).lk k hlk
          have hd : Hid (cutsR x.nodes (prevO x.cuts k) (x.cuts.drop k) = (linkB x.nodes l && prevC (prevO x.cuts k) l && cutsR x.nodes (prevO x.cuts (k + 1)) (x.cuts.drop (k + 1)))) := by
            show _ = _
            rw [drop_at hx, cutsR]
            show _ = (_ && cutsR x.nodes (x.cuts[k]?) _)
            rw [hx.out]
          have hbt : b < wr.heap.size := World.block_lt_of_cell? wr _ c0
          go_wp2_with (go_at_call 41; refine calls_below (RisNode_any _ _ _ _ _ _ _ _ _ _ _ _ _ _) ?_; intro w1 hb1; (first | (replace hb0 := below_trans hb0 hb1; clear hc hb1) | (have hb0 := hb1; clear hb1)); obtain ⟨hc, -⟩ := bcell hb0)
          all_goals try
            go_ret
            have hno : linkB x.nodes l = false := by
              refine Bool.eq_false_iff.2 fun h => ?_
              obtain ⟨e1, e2, e3⟩ := (link_iff _ _).1 h
              first
                | contradiction
                | omega
            exact ⟨ret_bool (by rw [hway.out, ho.out, hd.out, hno]; rfl), below_trans HB0.out (below_trans hB.out (below_trans (below_alloc (Below.refl _ _) _) hb0))⟩
          have hyes : Hid (linkB x.nodes l = true) := (link_iff _ _).2 ⟨by assumption, by assumption, by assumption⟩
          rename_i w1 g1 g2 g3 K2 A2
          clear g1 g2 g3
          have hB2 : Below w0.heap.size w0 w1 := below_trans hB.out (below_trans (below_alloc (Below.refl _ _) _) hb0)
          have t0 : w1.cell? ⟨wr.heap.size, 0, none⟩ = some (.int .i64 l.a) := by rw [hc _ _ (by simp)]; go_simp
          have t1 : w1.cell? ⟨wr.heap.size, 1, none⟩ = some (.int .i64 l.b) := by rw [hc _ _ (by simp)]; go_simp
          have ht : wr.heap.size < w1.heap.size := by have := hb0.size; simp at this; omega
          clear hc hb0 hz hlz k0 k1 k2 k3 k4 k5
          have hz := bl_below HZ0.out hB2
          obtain ⟨⟨k0, k1, k2, k3, k4, k5⟩, -⟩ := blc6 hz
          have hlz := bl_lt hz
          have HB2 := Lib.hid hB2
          clear hz hB2
          rcases Nat.eq_zero_or_pos k with h0 | h0
          · have hp : Hid (prevC (prevO x.cuts k) l = true) := by show _ = _; rw [h0]; rfl
            subst h0
            go_quiet (fail)
            go_wp2
            go_roundw
            case rel => exact ⟨1, by omega, by go_num, by show _ = _; rw [ho.out, hd.out, hyes.out, hp.out]; rfl, below_drewN HB2.out _⟩
            case measure => simp [intOf]; omega
          · obtain ⟨m, rfl⟩ : ∃ m, k = m + 1 := ⟨k - 1, by omega⟩
            obtain ⟨b', off', q, e, hq, p0, p1⟩ := (HC.out.below HB2.out).lk m (by omega)
            cases e
            have hp : Hid (prevC (prevO x.cuts (m + 1)) l = decide (lkCmp q l < 0)) := by show prevC (x.cuts[m]?) l = _; rw [hq.out]; rfl
            have hw : IntKind.i64.wrap (m : Int) = m := IntWalk.i64_in _ (by omega)
            have z0 : (0 : Int) ≤ (m : Int) + 1 := by omega
            have z1 : ((m : Int) + 1).toNat = m + 1 := by omega
            have z2 : m < x.cuts.length := by omega
            have z3 : decide ((0 : Int) < (m : Int) + 1) = true := decide_eq_true (by omega)
            by_cases h1 : l.a < q.a
            · have hn : Hid (decide (lkCmp q l < 0) = false) := decide_eq_false (by rw [lkCmp_lt]; omega)
              have d1 : decide (l.a < q.a) = true := decide_eq_true h1
              clear h0
              go_quiet (fail)
              go_wp2
              go_ret
              exact ⟨ret_bool (by rw [hway.out, ho.out, hd.out, hp.out, hn.out, hyes.out]; rfl), below_trans HB0.out (below_drewN HB2.out _)⟩
            · have d1 : decide (l.a < q.a) = false := decide_eq_false h1
              by_cases h2 : q.a = l.a
              · have d2 : (q.a == l.a) = true := by rw [beq_iff_eq]; exact h2
                by_cases h3 : l.b ≤ q.b
                · have hn : Hid (decide (lkCmp q l < 0) = false) := decide_eq_false (by rw [lkCmp_lt]; omega)
                  have d3 : decide (l.b ≤ q.b) = true := decide_eq_true h3
                  clear h0 h2
                  go_quiet (fail)
                  go_wp2
                  go_ret
                  exact ⟨ret_bool (by rw [hway.out, ho.out, hd.out, hp.out, hn.out, hyes.out]; rfl), below_trans HB0.out (below_drewN HB2.out _)⟩
                · have hn : Hid (decide (lkCmp q l < 0) = true) := decide_eq_true (by rw [lkCmp_lt]; omega)
                  have d3 : decide (l.b ≤ q.b) = false := decide_eq_false h3
                  clear h0 h2
                  go_quiet (fail)
                  go_wp2
                  go_roundw
                  case rel => exact ⟨m + 1 + 1, by omega, by go_num, by show _ = _; rw [ho.out, hd.out, hyes.out, hp.out, hn.out]; rfl, below_drewN HB2.out _⟩
                  case measure => simp [intOf]; omega
              · have d2 : (q.a == l.a) = false := beq_eq_false_iff_ne.2 h2
                have hn : Hid (decide (lkCmp q l < 0) = true) := decide_eq_true (by rw [lkCmp_lt]; omega)
                clear h0
                go_quiet (fail)
                go_wp2
                go_roundw
                case rel => exact ⟨m + 1 + 1, by omega, by go_num, by show _ = _; rw [ho.out, hd.out, hyes.out, hp.out, hn.out]; rfl, below_drewN HB2.out _⟩
                case measure => simp [intOf]; omega
        · have hcut : Hid (checkB x = tmsR x.nodes x.now [] x.timers) := by
            show _ = _
            rw [hway.out, ho.out, List.drop_of_length_le (by omega), cutsR, Bool.true_and]
          clear ho hway
          obtain rfl : k = x.cuts.length := by omega
          go_wp2
          have HB1 := Lib.hid hB.out
          clear hB hz hlz k0 k1 k2 k3 k4 k5 hlk hk
          go_loopw [7] (fun i wr => ∃ k : Nat, k ≤ x.timers.length ∧ i = .int .i64 k ∧ Hid (tmsR x.nodes x.now [] x.timers = tmsR x.nodes x.now (x.timers.take k) (x.timers.drop k)) ∧ Hid (Below w0.heap.size w0 wr)) (fun i _ => x.timers.length - (intOf i).toNat)
          case atStart => exact ⟨0, Nat.zero_le _, rfl, rfl, HB1.out⟩
          case round =>
            clear HB1
            obtain ⟨k, hk, rfl, ho, hB⟩ := hrel
            have hz := bl_below HZ0.out hB.out
            obtain ⟨⟨k0, k1, k2, k3, k4, k5⟩, -⟩ := blc6 hz
            have hlz := bl_lt hz
            by_cases hlk : k < x.timers.length
            · obtain ⟨b, off, l, rfl, hx, c0, c1, c2⟩ := (HT.out.below hB.out).tm k hlk
              have hd : Hid (tmsR x.nodes x.now (x.timers.take k) (x.timers.drop k) = (isTimerB x.nodes x.now l && prevOk (prevO x.timers k) l && (x.timers.take k).all (nePair l) && tmsR x.nodes x.now (x.timers.take (k + 1)) (x.timers.drop (k + 1)))) := by
                show _ = _
                rw [drop_at hx, tmsR, last_take _ _ hk, List.take_add_one, hx.out]
                rfl
              have hbt : b < wr.heap.size := World.block_lt_of_cell? wr _ c0
              obtain ⟨W, hW⟩ : ∃ W, W = wr.alloc (.cells #[.int .i64 l.t, .int .i64 l.node, .int .i64 l.tag] 86) := ⟨_, rfl⟩
              have hBW : Below w0.heap.size w0 W := by rw [hW]; exact below_trans hB.out (below_alloc (Below.refl _ _) _)
              have hT8 : W.heap[wr.heap.size]? = some (.cells #[.int .i64 l.t, .int .i64 l.node, .int .i64 l.tag] 86 (0, 0)) := by rw [hW]; exact bl_new _ _
              have HBW := Lib.hid hBW
              have HT8 := Lib.hid hT8
              go_wp2
              rw [← hW]
              clear hW hz hlz k0 k1 k2 k3 k4 k5 c0 c1 c2 hbt
              have t0 := bl_cell hT8 0
              have t1 := bl_cell hT8 1
              have t2 := bl_cell hT8 2
              simp at t0 t1 t2
              have hlt8 := bl_lt hT8
              clear hT8
              have hz := bl_below HZ0.out hBW
              obtain ⟨⟨k0, k1, k2, k3, k4, k5⟩, -⟩ := blc6 hz
              have hlz := bl_lt hz
              clear hz hBW
              have hbt : b < W.heap.size := by obtain ⟨b9, off9, y9, e9, h9, c9, -⟩ := (HT.out.below HBW.out).tm k hlk; cases e9; exact World.block_lt_of_cell? W _ c9
              have htb := timer_iff HNOW.out l (nodes := x.nodes)
              obtain ⟨bN, hN⟩ : ∃ b, isNodeB x.nodes l.node = b := ⟨_, rfl⟩
              obtain ⟨bT, hTI⟩ : ∃ b, isTimeB l.t = b := ⟨_, rfl⟩
              have hNode : Hid (∀ w, Calls Tryz.prog 41 #[.agg #[.int .i64 x.nodes, .int .i64 x.now, .int .i64 x.next, .slice AW x.way.length cW, .slice AC x.cuts.length cC, .slice (some ⟨b, off, none⟩) x.timers.length cT], .int .i64 l.node] w fun e w' => e = .returned (.bool bN) ∧ Below w.heap.size w w') := fun w => by have h := RisNode_any x.nodes x.now x.next l.node AW AC (some ⟨b, off, none⟩) x.way.length cW x.cuts.length cC x.timers.length cT w; rw [hN] at h; exact h
              have hTime : Hid (∀ w, Calls Tryz.prog 72 #[.int .i64 l.t] w fun e w' => e = .returned (.bool bT) ∧ Below w.heap.size w w') := fun w => by have h := RisTime_any l.t w; rw [hTI] at h; refine h.mono ?_; rintro e w2 ⟨h1, h2⟩; subst h2; exact ⟨h1, Below.refl _ _⟩
              obtain ⟨b2, e2⟩ : ∃ b, decide (l.tag < 0) = b := ⟨_, rfl⟩
              obtain ⟨b3, e3⟩ : ∃ b, decide (2147483647 < l.tag) = b := ⟨_, rfl⟩
              obtain ⟨b4, e4⟩ : ∃ b, decide (l.t ≤ x.now) = b := ⟨_, rfl⟩
              obtain ⟨b6, e6⟩ : ∃ b, decide ((0 : Int) < (k : Int)) = b := ⟨_, rfl⟩
              have HE : Hid (isNodeB x.nodes l.node = bN ∧ isTimeB l.t = bT ∧ decide (l.tag < 0) = b2 ∧ decide (2147483647 < l.tag) = b3 ∧ decide (l.t ≤ x.now) = b4 ∧ decide ((0 : Int) < (k : Int)) = b6) := ⟨hN, hTI, e2, e3, e4, e6⟩
              have HTB := Lib.hid htb
              clear htb hN hTI
              refine wp_st 254 (by rfl) fun f0 hf0 => ?_
              have q1 : f0 1 = .pointer (some ⟨w.heap.size, 0, none⟩) := (hf0 1).trans rfl
              have q7 : f0 7 = .int .i64 (k : Int) := (hf0 7).trans rfl
              have q8 : f0 8 = .pointer (some ⟨wr.heap.size, 0, none⟩) := (hf0 8).trans rfl
              have HF0 := Lib.hid hf0
              clear hf0
              refine wp_mixW [3, 2, 3, 5, 5, 10, 7, 8, 9, 10, 15, 12, 13, 14, 15, 22, 17, 20, 19, 20, 21, 22, 27, 24, 25, 28, 27, 28, 31, 30, 31, 40, 33, 36, 35, 36, 37, 39, 39, 40] [(0, true), (1, true), (2, true), (3, false), (4, true), (5, true), (6, true), (7, true), (8, true), (9, true), (10, true), (11, true), (12, true), (13, true), (14, true), (15, true), (16, true), (17, true), (18, true), (19, true), (20, true), (21, true), (22, true), (23, true), (24, true), (25, false), (26, true), (27, true), (28, true), (29, true), (30, true), (31, true), (32, true), (33, true), (34, true), (35, true), (36, true), (37, true), (38, true), (39, false)] 40
                (fun w' => Below W.heap.size W w')
                (by kernel_rfl) (by kernel_rfl) (by kernel_rfl) (by kernel_rfl) (by kernel_rfl) (fun d _ _ _ _ h => by cases d <;> exact h) (Below.refl _ _).drew ?_
              intro ops K Q1 hops HK
              have o_5 := hops.out 5 _ rfl
              have o_10 := hops.out 10 _ rfl
              have o_15 := hops.out 15 _ rfl
              have o_22 := hops.out 22 _ rfl
              have o_28 := hops.out 28 _ rfl
              have o_31 := hops.out 31 _ rfl
              clear hops
              simp only [pick, List.map_cons, List.map_nil, List.getD_cons_zero, List.getD_cons_succ, List.drop_succ_cons, List.drop_zero]
              apply mixS_take (i := 186) rfl (by decide) (want_none rfl)
              case hy => intro W' hW'; obtain ⟨hwc, -⟩ := bcell hW'; simp only [execOp, st_eval, st_const, st_func, upd, Nat.reduceLT, Nat.reduceEqDiff, if_true, if_false, ite_true, ite_false, reduceIte, q1, q7, q8, List.map_toArray, List.map_cons, List.map_nil]; (try go_simp); try rfl
              apply mixS_take (i := 187) rfl (by decide) (want_none rfl)
              case hy => intro W' hW'; obtain ⟨hwc, -⟩ := bcell hW'; simp only [execOp, st_eval, st_const, st_func, upd, Nat.reduceLT, Nat.reduceEqDiff, if_true, if_false, ite_true, ite_false, reduceIte, q1, q7, q8, List.map_toArray, List.map_cons, List.map_nil]; (try go_simp); try rfl
              apply mixS_take (i := 188) rfl (by decide) (want_none rfl)
              case hy => intro W' hW'; obtain ⟨hwc, -⟩ := bcell hW'; simp only [execOp, st_eval, st_const, st_func, upd, Nat.reduceLT, Nat.reduceEqDiff, if_true, if_false, ite_true, ite_false, reduceIte, q1, q7, q8, List.map_toArray, List.map_cons, List.map_nil]; (try go_simp); try rfl
              apply mixS_call (i := 189) (F := 41) rfl (by decide) (want_none rfl)
              case he => simp only [execOp, st_eval, st_const, st_func, upd, Nat.reduceLT, Nat.reduceEqDiff, if_true, if_false, ite_true, ite_false, reduceIte, q1, q7, q8, List.map_toArray, List.map_cons, List.map_nil]; (try go_simp); try rfl
              case hc => exact hNode.out _
              intro w1 hb1
              have hb1' : Below W.heap.size W w1 := below_trans (Below.refl _ W).drew hb1
              refine ⟨hb1', ?_⟩
              apply mixS_take (i := 190) rfl (by decide) (want_none rfl)
              case hy => intro W' hW'; obtain ⟨hwc, -⟩ := bcell hW'; simp only [execOp, st_eval, st_const, st_func, upd, Nat.reduceLT, Nat.reduceEqDiff, if_true, if_false, ite_true, ite_false, reduceIte, q1, q7, q8, List.map_toArray, List.map_cons, List.map_nil]; (try go_simp); try rfl
              apply mixS_take (i := 191) rfl (by decide) (want_none rfl)
              case hy => intro W' hW'; obtain ⟨hwc, -⟩ := bcell hW'; simp only [execOp, st_eval, st_const, st_func, upd, Nat.reduceLT, Nat.reduceEqDiff, if_true, if_false, ite_true, ite_false, reduceIte, q1, q7, q8, List.map_toArray, List.map_cons, List.map_nil]; (try go_simp); try rfl
              cases bN
              · have HNO : Hid (isTimerB x.nodes x.now l = false) := Bool.eq_false_iff.2 fun h => by have h1 := HTB.out.1 h; have h2 := HE.out; (try simp only [decide_eq_true_eq, decide_eq_false_iff_not] at h2); first | (rw [h2.1] at h1; simp at h1; done) | (rw [h2.2.1] at h1; simp at h1; done) | omega
                refine mixS_skip (i := 192) rfl (by decide) (want_st_no (j := 5) (i := 191) rfl o_5 rfl (by decide) (by first | rfl | simp [upd, *])) ?_
                refine mixS_skip (i := 193) rfl (by decide) (want_st_no (j := 5) (i := 191) rfl o_5 rfl (by decide) (by first | rfl | simp [upd, *])) ?_
                refine mixS_skip (i := 194) rfl (by decide) (want_st_no (j := 5) (i := 191) rfl o_5 rfl (by decide) (by first | rfl | simp [upd, *])) ?_
                apply mixS_take (i := 195) rfl (by decide) (want_none rfl)
                case hy => intro W' hW'; obtain ⟨hwc, -⟩ := bcell hW'; simp only [execOp, st_eval, st_const, st_func, upd, Nat.reduceLT, Nat.reduceEqDiff, if_true, if_false, ite_true, ite_false, reduceIte, q1, q7, q8, List.map_toArray, List.map_cons, List.map_nil]; (try go_simp); try rfl
                apply mixS_take (i := 196) rfl (by decide) (want_none rfl)
                case hy => intro W' hW'; obtain ⟨hwc, -⟩ := bcell hW'; simp only [execOp, st_eval, st_const, st_func, upd, Nat.reduceLT, Nat.reduceEqDiff, if_true, if_false, ite_true, ite_false, reduceIte, q1, q7, q8, List.map_toArray, List.map_cons, List.map_nil]; (try go_simp); try rfl
                refine mixS_skip (i := 197) rfl (by decide) (want_st_no (j := 10) (i := 196) rfl o_10 rfl (by decide) (by first | rfl | simp [upd, *])) ?_
                refine mixS_skip (i := 198) rfl (by decide) (want_st_no (j := 10) (i := 196) rfl o_10 rfl (by decide) (by first | rfl | simp [upd, *])) ?_
                refine mixS_skip (i := 199) rfl (by decide) (want_st_no (j := 10) (i := 196) rfl o_10 rfl (by decide) (by first | rfl | simp [upd, *])) ?_
                apply mixS_take (i := 200) rfl (by decide) (want_none rfl)
                case hy => intro W' hW'; obtain ⟨hwc, -⟩ := bcell hW'; simp only [execOp, st_eval, st_const, st_func, upd, Nat.reduceLT, Nat.reduceEqDiff, if_true, if_false, ite_true, ite_false, reduceIte, q1, q7, q8, List.map_toArray, List.map_cons, List.map_nil]; (try go_simp); try rfl
                apply mixS_take (i := 201) rfl (by decide) (want_none rfl)
                case hy => intro W' hW'; obtain ⟨hwc, -⟩ := bcell hW'; simp only [execOp, st_eval, st_const, st_func, upd, Nat.reduceLT, Nat.reduceEqDiff, if_true, if_false, ite_true, ite_false, reduceIte, q1, q7, q8, List.map_toArray, List.map_cons, List.map_nil]; (try go_simp); try rfl
                refine mixS_skip (i := 202) rfl (by decide) (want_st_no (j := 15) (i := 201) rfl o_15 rfl (by decide) (by first | rfl | simp [upd, *])) ?_
                refine mixS_skip (i := 203) rfl (by decide) (want_st_no (j := 15) (i := 201) rfl o_15 rfl (by decide) (by first | rfl | simp [upd, *])) ?_
                refine mixS_skip (i := 204) rfl (by decide) (want_st_no (j := 15) (i := 201) rfl o_15 rfl (by decide) (by first | rfl | simp [upd, *])) ?_
                refine mixS_skip (i := 205) rfl (by decide) (want_st_no (j := 15) (i := 201) rfl o_15 rfl (by decide) (by first | rfl | simp [upd, *])) ?_
                refine mixS_skip (i := 206) rfl (by decide) (want_st_no (j := 15) (i := 201) rfl o_15 rfl (by decide) (by first | rfl | simp [upd, *])) ?_
                apply mixS_take (i := 207) rfl (by decide) (want_none rfl)
                case hy => intro W' hW'; obtain ⟨hwc, -⟩ := bcell hW'; simp only [execOp, st_eval, st_const, st_func, upd, Nat.reduceLT, Nat.reduceEqDiff, if_true, if_false, ite_true, ite_false, reduceIte, q1, q7, q8, List.map_toArray, List.map_cons, List.map_nil]; (try go_simp); try rfl
                apply mixS_take (i := 208) rfl (by decide) (want_none rfl)
                case hy => intro W' hW'; obtain ⟨hwc, -⟩ := bcell hW'; simp only [execOp, st_eval, st_const, st_func, upd, Nat.reduceLT, Nat.reduceEqDiff, if_true, if_false, ite_true, ite_false, reduceIte, q1, q7, q8, List.map_toArray, List.map_cons, List.map_nil]; (try go_simp); try rfl
                refine mixS_skip (i := 209) rfl (by decide) (want_st_no (j := 22) (i := 208) rfl o_22 rfl (by decide) (by first | rfl | simp [upd, *])) ?_
                refine mixS_skip (i := 210) rfl (by decide) (want_st_no (j := 22) (i := 208) rfl o_22 rfl (by decide) (by first | rfl | simp [upd, *])) ?_
                refine mixS_none (i := 211) rfl (by decide) (want_st_no (j := 22) (i := 208) rfl o_22 rfl (by decide) (by first | rfl | simp [upd, *])) (by first | exact hb2' | exact hb1') ?_
                refine mixS_skip (i := 212) rfl (by decide) (want_st_no (j := 22) (i := 208) rfl o_22 rfl (by decide) (by first | rfl | simp [upd, *])) ?_
                apply mixS_take (i := 213) rfl (by decide) (want_none rfl)
                case hy => intro W' hW'; obtain ⟨hwc, -⟩ := bcell hW'; simp only [execOp, st_eval, st_const, st_func, upd, Nat.reduceLT, Nat.reduceEqDiff, if_true, if_false, ite_true, ite_false, reduceIte, q1, q7, q8, List.map_toArray, List.map_cons, List.map_nil]; (try go_simp); try rfl
                apply mixS_take (i := 214) rfl (by decide) (want_none rfl)
                case hy => intro W' hW'; obtain ⟨hwc, -⟩ := bcell hW'; simp only [execOp, st_eval, st_const, st_func, upd, Nat.reduceLT, Nat.reduceEqDiff, if_true, if_false, ite_true, ite_false, reduceIte, q1, q7, q8, List.map_toArray, List.map_cons, List.map_nil]; (try go_simp); try rfl
                refine mixS_skip (i := 215) rfl (by decide) (want_st_no (j := 28) (i := 214) rfl o_28 rfl (by decide) (by first | rfl | simp [upd, *])) ?_
                refine mixS_skip (i := 216) rfl (by decide) (want_st_no (j := 28) (i := 214) rfl o_28 rfl (by decide) (by first | rfl | simp [upd, *])) ?_
                refine mixS_skip (i := 217) rfl (by decide) (want_st_no (j := 28) (i := 214) rfl o_28 rfl (by decide) (by first | rfl | simp [upd, *])) ?_
                refine mixS_skip (i := 218) rfl (by decide) (want_st_un (j := 31) (i := 217) rfl o_31 rfl (by decide) (by first | rfl | simp [upd, *])) ?_
                refine mixS_skip (i := 219) rfl (by decide) (want_st_un (j := 31) (i := 217) rfl o_31 rfl (by decide) (by first | rfl | simp [upd, *])) ?_
                refine mixS_skip (i := 220) rfl (by decide) (want_st_un (j := 31) (i := 217) rfl o_31 rfl (by decide) (by first | rfl | simp [upd, *])) ?_
                refine mixS_skip (i := 221) rfl (by decide) (want_st_un (j := 31) (i := 217) rfl o_31 rfl (by decide) (by first | rfl | simp [upd, *])) ?_
                refine mixS_skip (i := 222) rfl (by decide) (want_st_un (j := 31) (i := 217) rfl o_31 rfl (by decide) (by first | rfl | simp [upd, *])) ?_
                refine mixS_skip (i := 223) rfl (by decide) (want_st_un (j := 31) (i := 217) rfl o_31 rfl (by decide) (by first | rfl | simp [upd, *])) ?_
                refine mixS_skip (i := 224) rfl (by decide) (want_st_un (j := 31) (i := 217) rfl o_31 rfl (by decide) (by first | rfl | simp [upd, *])) ?_
                refine mixS_none (i := 225) rfl (by decide) (want_st_un (j := 31) (i := 217) rfl o_31 rfl (by decide) (by first | rfl | simp [upd, *])) (by first | exact hb2' | exact hb1') ?_
                refine mix_nil (HK.out _ _ ?_)
                generalize hf9 : upd _ _ _ = f9
                have hlow : ∀ j, j < 186 ∨ 229 ≤ j → f9 j = f0 j := fun j hj => by rw [← hf9]; repeat (rw [upd_ne (by omega)])
                have hA := st_lit f9 _ (by rfl) (fun j hj => (hlow j hj).trans (HF0.out j))
                simp only [List.take_succ_cons, List.take_zero, List.drop_succ_cons, List.drop_zero, List.cons_append, List.nil_append] at hA
                rw [hA]
                have p214 := congrFun hf9 214
                simp [upd, undef] at p214
                have p217 := congrFun hf9 217
                simp [upd, undef] at p217
                have p225 := congrFun hf9 225
                simp [upd, undef] at p225
                rw [← p214, ← p217, ← p225]
                clear hf9 hA hlow p214 p217 p225
                go_wp2
                go_ret
                exact ⟨ret_bool (by rw [hcut.out, ho.out, hd.out, HNO.out]; rfl), below_trans HB0.out (below_trans HBW.out (by first | exact hb3' | exact hb2' | exact hb1'))⟩
              apply mixS_take (i := 192) rfl (by decide) (want_st (j := 5) (i := 191) rfl o_5 rfl (by decide) (by first | rfl | simp [upd, *]))
              case hy => intro W' hW'; obtain ⟨hwc, -⟩ := bcell hW'; simp only [execOp, st_eval, st_const, st_func, upd, Nat.reduceLT, Nat.reduceEqDiff, if_true, if_false, ite_true, ite_false, reduceIte, q1, q7, q8, List.map_toArray, List.map_cons, List.map_nil]; (try go_simp); try rfl
              apply mixS_take (i := 193) rfl (by decide) (want_st (j := 5) (i := 191) rfl o_5 rfl (by decide) (by first | rfl | simp [upd, *]))
              case hy => intro W' hW'; obtain ⟨hwc, -⟩ := bcell hW'; simp only [execOp, st_eval, st_const, st_func, upd, Nat.reduceLT, Nat.reduceEqDiff, if_true, if_false, ite_true, ite_false, reduceIte, q1, q7, q8, List.map_toArray, List.map_cons, List.map_nil]; (try go_simp); try rfl
              apply mixS_take (i := 194) rfl (by decide) (want_st (j := 5) (i := 191) rfl o_5 rfl (by decide) (by first | rfl | simp [upd, *]))
              case hy => intro W' hW'; obtain ⟨hwc, -⟩ := bcell hW'; simp only [execOp, st_eval, st_const, st_func, upd, Nat.reduceLT, Nat.reduceEqDiff, if_true, if_false, ite_true, ite_false, reduceIte, q1, q7, q8, List.map_toArray, List.map_cons, List.map_nil]; (try go_simp); try rfl
              apply mixS_take (i := 195) rfl (by decide) (want_none rfl)
              case hy => intro W' hW'; obtain ⟨hwc, -⟩ := bcell hW'; simp only [execOp, st_eval, st_const, st_func, upd, Nat.reduceLT, Nat.reduceEqDiff, if_true, if_false, ite_true, ite_false, reduceIte, q1, q7, q8, List.map_toArray, List.map_cons, List.map_nil]; (try go_simp); try rfl
              apply mixS_take (i := 196) rfl (by decide) (want_none rfl)
              case hy => intro W' hW'; obtain ⟨hwc, -⟩ := bcell hW'; simp only [execOp, st_eval, st_const, st_func, upd, Nat.reduceLT, Nat.reduceEqDiff, if_true, if_false, ite_true, ite_false, reduceIte, q1, q7, q8, List.map_toArray, List.map_cons, List.map_nil]; (try go_simp); try rfl
              cases b2
              rotate_left 1
              · have HNO : Hid (isTimerB x.nodes x.now l = false) := Bool.eq_false_iff.2 fun h => by have h1 := HTB.out.1 h; have h2 := HE.out; (try simp only [decide_eq_true_eq, decide_eq_false_iff_not] at h2); first | (rw [h2.1] at h1; simp at h1; done) | (rw [h2.2.1] at h1; simp at h1; done) | omega
                refine mixS_skip (i := 197) rfl (by decide) (want_st_no (j := 10) (i := 196) rfl o_10 rfl (by decide) (by first | rfl | simp [upd, *])) ?_
                refine mixS_skip (i := 198) rfl (by decide) (want_st_no (j := 10) (i := 196) rfl o_10 rfl (by decide) (by first | rfl | simp [upd, *])) ?_
                refine mixS_skip (i := 199) rfl (by decide) (want_st_no (j := 10) (i := 196) rfl o_10 rfl (by decide) (by first | rfl | simp [upd, *])) ?_
                apply mixS_take (i := 200) rfl (by decide) (want_none rfl)
                case hy => intro W' hW'; obtain ⟨hwc, -⟩ := bcell hW'; simp only [execOp, st_eval, st_const, st_func, upd, Nat.reduceLT, Nat.reduceEqDiff, if_true, if_false, ite_true, ite_false, reduceIte, q1, q7, q8, List.map_toArray, List.map_cons, List.map_nil]; (try go_simp); try rfl
                apply mixS_take (i := 201) rfl (by decide) (want_none rfl)
                case hy => intro W' hW'; obtain ⟨hwc, -⟩ := bcell hW'; simp only [execOp, st_eval, st_const, st_func, upd, Nat.reduceLT, Nat.reduceEqDiff, if_true, if_false, ite_true, ite_false, reduceIte, q1, q7, q8, List.map_toArray, List.map_cons, List.map_nil]; (try go_simp); try rfl
                refine mixS_skip (i := 202) rfl (by decide) (want_st_no (j := 15) (i := 201) rfl o_15 rfl (by decide) (by first | rfl | simp [upd, *])) ?_
                refine mixS_skip (i := 203) rfl (by decide) (want_st_no (j := 15) (i := 201) rfl o_15 rfl (by decide) (by first | rfl | simp [upd, *])) ?_
                refine mixS_skip (i := 204) rfl (by decide) (want_st_no (j := 15) (i := 201) rfl o_15 rfl (by decide) (by first | rfl | simp [upd, *])) ?_
                refine mixS_skip (i := 205) rfl (by decide) (want_st_no (j := 15) (i := 201) rfl o_15 rfl (by decide) (by first | rfl | simp [upd, *])) ?_
                refine mixS_skip (i := 206) rfl (by decide) (want_st_no (j := 15) (i := 201) rfl o_15 rfl (by decide) (by first | rfl | simp [upd, *])) ?_
                apply mixS_take (i := 207) rfl (by decide) (want_none rfl)
                case hy => intro W' hW'; obtain ⟨hwc, -⟩ := bcell hW'; simp only [execOp, st_eval, st_const, st_func, upd, Nat.reduceLT, Nat.reduceEqDiff, if_true, if_false, ite_true, ite_false, reduceIte, q1, q7, q8, List.map_toArray, List.map_cons, List.map_nil]; (try go_simp); try rfl
                apply mixS_take (i := 208) rfl (by decide) (want_none rfl)
                case hy => intro W' hW'; obtain ⟨hwc, -⟩ := bcell hW'; simp only [execOp, st_eval, st_const, st_func, upd, Nat.reduceLT, Nat.reduceEqDiff, if_true, if_false, ite_true, ite_false, reduceIte, q1, q7, q8, List.map_toArray, List.map_cons, List.map_nil]; (try go_simp); try rfl
                refine mixS_skip (i := 209) rfl (by decide) (want_st_no (j := 22) (i := 208) rfl o_22 rfl (by decide) (by first | rfl | simp [upd, *])) ?_
                refine mixS_skip (i := 210) rfl (by decide) (want_st_no (j := 22) (i := 208) rfl o_22 rfl (by decide) (by first | rfl | simp [upd, *])) ?_
                refine mixS_none (i := 211) rfl (by decide) (want_st_no (j := 22) (i := 208) rfl o_22 rfl (by decide) (by first | rfl | simp [upd, *])) (by first | exact hb2' | exact hb1') ?_
                refine mixS_skip (i := 212) rfl (by decide) (want_st_no (j := 22) (i := 208) rfl o_22 rfl (by decide) (by first | rfl | simp [upd, *])) ?_
                apply mixS_take (i := 213) rfl (by decide) (want_none rfl)
                case hy => intro W' hW'; obtain ⟨hwc, -⟩ := bcell hW'; simp only [execOp, st_eval, st_const, st_func, upd, Nat.reduceLT, Nat.reduceEqDiff, if_true, if_false, ite_true, ite_false, reduceIte, q1, q7, q8, List.map_toArray, List.map_cons, List.map_nil]; (try go_simp); try rfl
                apply mixS_take (i := 214) rfl (by decide) (want_none rfl)
                case hy => intro W' hW'; obtain ⟨hwc, -⟩ := bcell hW'; simp only [execOp, st_eval, st_const, st_func, upd, Nat.reduceLT, Nat.reduceEqDiff, if_true, if_false, ite_true, ite_false, reduceIte, q1, q7, q8, List.map_toArray, List.map_cons, List.map_nil]; (try go_simp); try rfl
                refine mixS_skip (i := 215) rfl (by decide) (want_st_no (j := 28) (i := 214) rfl o_28 rfl (by decide) (by first | rfl | simp [upd, *])) ?_
                refine mixS_skip (i := 216) rfl (by decide) (want_st_no (j := 28) (i := 214) rfl o_28 rfl (by decide) (by first | rfl | simp [upd, *])) ?_
                refine mixS_skip (i := 217) rfl (by decide) (want_st_no (j := 28) (i := 214) rfl o_28 rfl (by decide) (by first | rfl | simp [upd, *])) ?_
                refine mixS_skip (i := 218) rfl (by decide) (want_st_un (j := 31) (i := 217) rfl o_31 rfl (by decide) (by first | rfl | simp [upd, *])) ?_
                refine mixS_skip (i := 219) rfl (by decide) (want_st_un (j := 31) (i := 217) rfl o_31 rfl (by decide) (by first | rfl | simp [upd, *])) ?_
                refine mixS_skip (i := 220) rfl (by decide) (want_st_un (j := 31) (i := 217) rfl o_31 rfl (by decide) (by first | rfl | simp [upd, *])) ?_
                refine mixS_skip (i := 221) rfl (by decide) (want_st_un (j := 31) (i := 217) rfl o_31 rfl (by decide) (by first | rfl | simp [upd, *])) ?_
                refine mixS_skip (i := 222) rfl (by decide) (want_st_un (j := 31) (i := 217) rfl o_31 rfl (by decide) (by first | rfl | simp [upd, *])) ?_
                refine mixS_skip (i := 223) rfl (by decide) (want_st_un (j := 31) (i := 217) rfl o_31 rfl (by decide) (by first | rfl | simp [upd, *])) ?_
                refine mixS_skip (i := 224) rfl (by decide) (want_st_un (j := 31) (i := 217) rfl o_31 rfl (by decide) (by first | rfl | simp [upd, *])) ?_
                refine mixS_none (i := 225) rfl (by decide) (want_st_un (j := 31) (i := 217) rfl o_31 rfl (by decide) (by first | rfl | simp [upd, *])) (by first | exact hb2' | exact hb1') ?_
                refine mix_nil (HK.out _ _ ?_)
                generalize hf9 : upd _ _ _ = f9
                have hlow : ∀ j, j < 186 ∨ 229 ≤ j → f9 j = f0 j := fun j hj => by rw [← hf9]; repeat (rw [upd_ne (by omega)])
                have hA := st_lit f9 _ (by rfl) (fun j hj => (hlow j hj).trans (HF0.out j))
                simp only [List.take_succ_cons, List.take_zero, List.drop_succ_cons, List.drop_zero, List.cons_append, List.nil_append] at hA
                rw [hA]
                have p214 := congrFun hf9 214
                simp [upd, undef] at p214
                have p217 := congrFun hf9 217
                simp [upd, undef] at p217
                have p225 := congrFun hf9 225
                simp [upd, undef] at p225
                rw [← p214, ← p217, ← p225]
                clear hf9 hA hlow p214 p217 p225
                go_wp2
                go_ret
                exact ⟨ret_bool (by rw [hcut.out, ho.out, hd.out, HNO.out]; rfl), below_trans HB0.out (below_trans HBW.out (by first | exact hb3' | exact hb2' | exact hb1'))⟩
              apply mixS_take (i := 197) rfl (by decide) (want_st (j := 10) (i := 196) rfl o_10 rfl (by decide) (by first | rfl | simp [upd, *]))
              case hy => intro W' hW'; obtain ⟨hwc, -⟩ := bcell hW'; simp only [execOp, st_eval, st_const, st_func, upd, Nat.reduceLT, Nat.reduceEqDiff, if_true, if_false, ite_true, ite_false, reduceIte, q1, q7, q8, List.map_toArray, List.map_cons, List.map_nil]; (try go_simp); try rfl
              apply mixS_take (i := 198) rfl (by decide) (want_st (j := 10) (i := 196) rfl o_10 rfl (by decide) (by first | rfl | simp [upd, *]))
              case hy => intro W' hW'; obtain ⟨hwc, -⟩ := bcell hW'; simp only [execOp, st_eval, st_const, st_func, upd, Nat.reduceLT, Nat.reduceEqDiff, if_true, if_false, ite_true, ite_false, reduceIte, q1, q7, q8, List.map_toArray, List.map_cons, List.map_nil]; (try go_simp); try rfl
              apply mixS_take (i := 199) rfl (by decide) (want_st (j := 10) (i := 196) rfl o_10 rfl (by decide) (by first | rfl | simp [upd, *]))
              case hy => intro W' hW'; obtain ⟨hwc, -⟩ := bcell hW'; simp only [execOp, st_eval, st_const, st_func, upd, Nat.reduceLT, Nat.reduceEqDiff, if_true, if_false, ite_true, ite_false, reduceIte, q1, q7, q8, List.map_toArray, List.map_cons, List.map_nil]; (try go_simp); try rfl
              apply mixS_take (i := 200) rfl (by decide) (want_none rfl)
              case hy => intro W' hW'; obtain ⟨hwc, -⟩ := bcell hW'; simp only [execOp, st_eval, st_const, st_func, upd, Nat.reduceLT, Nat.reduceEqDiff, if_true, if_false, ite_true, ite_false, reduceIte, q1, q7, q8, List.map_toArray, List.map_cons, List.map_nil]; (try go_simp); try rfl
              apply mixS_take (i := 201) rfl (by decide) (want_none rfl)
              case hy => intro W' hW'; obtain ⟨hwc, -⟩ := bcell hW'; simp only [execOp, st_eval, st_const, st_func, upd, Nat.reduceLT, Nat.reduceEqDiff, if_true, if_false, ite_true, ite_false, reduceIte, q1, q7, q8, List.map_toArray, List.map_cons, List.map_nil]; (try go_simp); try rfl
              cases b3
              rotate_left 1
              · have HNO : Hid (isTimerB x.nodes x.now l = false) := Bool.eq_false_iff.2 fun h => by have h1 := HTB.out.1 h; have h2 := HE.out; (try simp only [decide_eq_true_eq, decide_eq_false_iff_not] at h2); first | (rw [h2.1] at h1; simp at h1; done) | (rw [h2.2.1] at h1; simp at h1; done) | omega
                refine mixS_skip (i := 202) rfl (by decide) (want_st_no (j := 15) (i := 201) rfl o_15 rfl (by decide) (by first | rfl | simp [upd, *])) ?_
                refine mixS_skip (i := 203) rfl (by decide) (want_st_no (j := 15) (i := 201) rfl o_15 rfl (by decide) (by first | rfl | simp [upd, *])) ?_
                refine mixS_skip (i := 204) rfl (by decide) (want_st_no (j := 15) (i := 201) rfl o_15 rfl (by decide) (by first | rfl | simp [upd, *])) ?_
                refine mixS_skip (i := 205) rfl (by decide) (want_st_no (j := 15) (i := 201) rfl o_15 rfl (by decide) (by first | rfl | simp [upd, *])) ?_
                refine mixS_skip (i := 206) rfl (by decide) (want_st_no (j := 15) (i := 201) rfl o_15 rfl (by decide) (by first | rfl | simp [upd, *])) ?_
                apply mixS_take (i := 207) rfl (by decide) (want_none rfl)
                case hy => intro W' hW'; obtain ⟨hwc, -⟩ := bcell hW'; simp only [execOp, st_eval, st_const, st_func, upd, Nat.reduceLT, Nat.reduceEqDiff, if_true, if_false, ite_true, ite_false, reduceIte, q1, q7, q8, List.map_toArray, List.map_cons, List.map_nil]; (try go_simp); try rfl
                apply mixS_take (i := 208) rfl (by decide) (want_none rfl)
                case hy => intro W' hW'; obtain ⟨hwc, -⟩ := bcell hW'; simp only [execOp, st_eval, st_const, st_func, upd, Nat.reduceLT, Nat.reduceEqDiff, if_true, if_false, ite_true, ite_false, reduceIte, q1, q7, q8, List.map_toArray, List.map_cons, List.map_nil]; (try go_simp); try rfl
                refine mixS_skip (i := 209) rfl (by decide) (want_st_no (j := 22) (i := 208) rfl o_22 rfl (by decide) (by first | rfl | simp [upd, *])) ?_
                refine mixS_skip (i := 210) rfl (by decide) (want_st_no (j := 22) (i := 208) rfl o_22 rfl (by decide) (by first | rfl | simp [upd, *])) ?_
                refine mixS_none (i := 211) rfl (by decide) (want_st_no (j := 22) (i := 208) rfl o_22 rfl (by decide) (by first | rfl | simp [upd, *])) (by first | exact hb2' | exact hb1') ?_
                refine mixS_skip (i := 212) rfl (by decide) (want_st_no (j := 22) (i := 208) rfl o_22 rfl (by decide) (by first | rfl | simp [upd, *])) ?_
                apply mixS_take (i := 213) rfl (by decide) (want_none rfl)
                case hy => intro W' hW'; obtain ⟨hwc, -⟩ := bcell hW'; simp only [execOp, st_eval, st_const, st_func, upd, Nat.reduceLT, Nat.reduceEqDiff, if_true, if_false, ite_true, ite_false, reduceIte, q1, q7, q8, List.map_toArray, List.map_cons, List.map_nil]; (try go_simp); try rfl
                apply mixS_take (i := 214) rfl (by decide) (want_none rfl)
                case hy => intro W' hW'; obtain ⟨hwc, -⟩ := bcell hW'; simp only [execOp, st_eval, st_const, st_func, upd, Nat.reduceLT, Nat.reduceEqDiff, if_true, if_false, ite_true, ite_false, reduceIte, q1, q7, q8, List.map_toArray, List.map_cons, List.map_nil]; (try go_simp); try rfl
                refine mixS_skip (i := 215) rfl (by decide) (want_st_no (j := 28) (i := 214) rfl o_28 rfl (by decide) (by first | rfl | simp [upd, *])) ?_
                refine mixS_skip (i := 216) rfl (by decide) (want_st_no (j := 28) (i := 214) rfl o_28 rfl (by decide) (by first | rfl | simp [upd, *])) ?_
                refine mixS_skip (i := 217) rfl (by decide) (want_st_no (j := 28) (i := 214) rfl o_28 rfl (by decide) (by first | rfl | simp [upd, *])) ?_
                refine mixS_skip (i := 218) rfl (by decide) (want_st_un (j := 31) (i := 217) rfl o_31 rfl (by decide) (by first | rfl | simp [upd, *])) ?_
                refine mixS_skip (i := 219) rfl (by decide) (want_st_un (j := 31) (i := 217) rfl o_31 rfl (by decide) (by first | rfl | simp [upd, *])) ?_
                refine mixS_skip (i := 220) rfl (by decide) (want_st_un (j := 31) (i := 217) rfl o_31 rfl (by decide) (by first | rfl | simp [upd, *])) ?_
                refine mixS_skip (i := 221) rfl (by decide) (want_st_un (j := 31) (i := 217) rfl o_31 rfl (by decide) (by first | rfl | simp [upd, *])) ?_
                refine mixS_skip (i := 222) rfl (by decide) (want_st_un (j := 31) (i := 217) rfl o_31 rfl (by decide) (by first | rfl | simp [upd, *])) ?_
                refine mixS_skip (i := 223) rfl (by decide) (want_st_un (j := 31) (i := 217) rfl o_31 rfl (by decide) (by first | rfl | simp [upd, *])) ?_
                refine mixS_skip (i := 224) rfl (by decide) (want_st_un (j := 31) (i := 217) rfl o_31 rfl (by decide) (by first | rfl | simp [upd, *])) ?_
                refine mixS_none (i := 225) rfl (by decide) (want_st_un (j := 31) (i := 217) rfl o_31 rfl (by decide) (by first | rfl | simp [upd, *])) (by first | exact hb2' | exact hb1') ?_
                refine mix_nil (HK.out _ _ ?_)
                generalize hf9 : upd _ _ _ = f9
                have hlow : ∀ j, j < 186 ∨ 229 ≤ j → f9 j = f0 j := fun j hj => by rw [← hf9]; repeat (rw [upd_ne (by omega)])
                have hA := st_lit f9 _ (by rfl) (fun j hj => (hlow j hj).trans (HF0.out j))
                simp only [List.take_succ_cons, List.take_zero, List.drop_succ_cons, List.drop_zero, List.cons_append, List.nil_append] at hA
                rw [hA]
                have p214 := congrFun hf9 214
                simp [upd, undef] at p214
                have p217 := congrFun hf9 217
                simp [upd, undef] at p217
                have p225 := congrFun hf9 225
                simp [upd, undef] at p225
                rw [← p214, ← p217, ← p225]
                clear hf9 hA hlow p214 p217 p225
                go_wp2
                go_ret
                exact ⟨ret_bool (by rw [hcut.out, ho.out, hd.out, HNO.out]; rfl), below_trans HB0.out (below_trans HBW.out (by first | exact hb3' | exact hb2' | exact hb1'))⟩
              apply mixS_take (i := 202) rfl (by decide) (want_st (j := 15) (i := 201) rfl o_15 rfl (by decide) (by first | rfl | simp [upd, *]))
              case hy => intro W' hW'; obtain ⟨hwc, -⟩ := bcell hW'; simp only [execOp, st_eval, st_const, st_func, upd, Nat.reduceLT, Nat.reduceEqDiff, if_true, if_false, ite_true, ite_false, reduceIte, q1, q7, q8, List.map_toArray, List.map_cons, List.map_nil]; (try go_simp); try rfl
              apply mixS_take (i := 203) rfl (by decide) (want_st (j := 15) (i := 201) rfl o_15 rfl (by decide) (by first | rfl | simp [upd, *]))
              case hy => intro W' hW'; obtain ⟨hwc, -⟩ := bcell hW'; simp only [execOp, st_eval, st_const, st_func, upd, Nat.reduceLT, Nat.reduceEqDiff, if_true, if_false, ite_true, ite_false, reduceIte, q1, q7, q8, List.map_toArray, List.map_cons, List.map_nil]; (try go_simp); try rfl
              apply mixS_take (i := 204) rfl (by decide) (want_st (j := 15) (i := 201) rfl o_15 rfl (by decide) (by first | rfl | simp [upd, *]))
              case hy => intro W' hW'; obtain ⟨hwc, -⟩ := bcell hW'; simp only [execOp, st_eval, st_const, st_func, upd, Nat.reduceLT, Nat.reduceEqDiff, if_true, if_false, ite_true, ite_false, reduceIte, q1, q7, q8, List.map_toArray, List.map_cons, List.map_nil]; (try go_simp); try rfl
              apply mixS_take (i := 205) rfl (by decide) (want_st (j := 15) (i := 201) rfl o_15 rfl (by decide) (by first | rfl | simp [upd, *]))
              case hy => intro W' hW'; obtain ⟨hwc, -⟩ := bcell hW'; simp only [execOp, st_eval, st_const, st_func, upd, Nat.reduceLT, Nat.reduceEqDiff, if_true, if_false, ite_true, ite_false, reduceIte, q1, q7, q8, List.map_toArray, List.map_cons, List.map_nil]; (try go_simp); try rfl
              apply mixS_take (i := 206) rfl (by decide) (want_st (j := 15) (i := 201) rfl o_15 rfl (by decide) (by first | rfl | simp [upd, *]))
              case hy => intro W' hW'; obtain ⟨hwc, -⟩ := bcell hW'; simp only [execOp, st_eval, st_const, st_func, upd, Nat.reduceLT, Nat.reduceEqDiff, if_true, if_false, ite_true, ite_false, reduceIte, q1, q7, q8, List.map_toArray, List.map_cons, List.map_nil]; (try go_simp); try rfl
              apply mixS_take (i := 207) rfl (by decide) (want_none rfl)
              case hy => intro W' hW'; obtain ⟨hwc, -⟩ := bcell hW'; simp only [execOp, st_eval, st_const, st_func, upd, Nat.reduceLT, Nat.reduceEqDiff, if_true, if_false, ite_true, ite_false, reduceIte, q1, q7, q8, List.map_toArray, List.map_cons, List.map_nil]; (try go_simp); try rfl
              apply mixS_take (i := 208) rfl (by decide) (want_none rfl)
              case hy => intro W' hW'; obtain ⟨hwc, -⟩ := bcell hW'; simp only [execOp, st_eval, st_const, st_func, upd, Nat.reduceLT, Nat.reduceEqDiff, if_true, if_false, ite_true, ite_false, reduceIte, q1, q7, q8, List.map_toArray, List.map_cons, List.map_nil]; (try go_simp); try rfl
              cases b4
              rotate_left 1
              · have HNO : Hid (isTimerB x.nodes x.now l = false) := Bool.eq_false_iff.2 fun h => by have h1 := HTB.out.1 h; have h2 := HE.out; (try simp only [decide_eq_true_eq, decide_eq_false_iff_not] at h2); first | (rw [h2.1] at h1; simp at h1; done) | (rw [h2.2.1] at h1; simp at h1; done) | omega
                refine mixS_skip (i := 209) rfl (by decide) (want_st_no (j := 22) (i := 208) rfl o_22 rfl (by decide) (by first | rfl | simp [upd, *])) ?_
                refine mixS_skip (i := 210) rfl (by decide) (want_st_no (j := 22) (i := 208) rfl o_22 rfl (by decide) (by first | rfl | simp [upd, *])) ?_
                refine mixS_none (i := 211) rfl (by decide) (want_st_no (j := 22) (i := 208) rfl o_22 rfl (by decide) (by first | rfl | simp [upd, *])) (by first | exact hb2' | exact hb1') ?_
                refine mixS_skip (i := 212) rfl (by decide) (want_st_no (j := 22) (i := 208) rfl o_22 rfl (by decide) (by first | rfl | simp [upd, *])) ?_
                apply mixS_take (i := 213) rfl (by decide) (want_none rfl)
                case hy => intro W' hW'; obtain ⟨hwc, -⟩ := bcell hW'; simp only [execOp, st_eval, st_const, st_func, upd, Nat.reduceLT, Nat.reduceEqDiff, if_true, if_false, ite_true, ite_false, reduceIte, q1, q7, q8, List.map_toArray, List.map_cons, List.map_nil]; (try go_simp); try rfl
                apply mixS_take (i := 214) rfl (by decide) (want_none rfl)
                case hy => intro W' hW'; obtain ⟨hwc, -⟩ := bcell hW'; simp only [execOp, st_eval, st_const, st_func, upd, Nat.reduceLT, Nat.reduceEqDiff, if_true, if_false, ite_true, ite_false, reduceIte, q1, q7, q8, List.map_toArray, List.map_cons, List.map_nil]; (try go_simp); try rfl
                refine mixS_skip (i := 215) rfl (by decide) (want_st_no (j := 28) (i := 214) rfl o_28 rfl (by decide) (by first | rfl | simp [upd, *])) ?_
                refine mixS_skip (i := 216) rfl (by decide) (want_st_no (j := 28) (i := 214) rfl o_28 rfl (by decide) (by first | rfl | simp [upd, *])) ?_
                refine mixS_skip (i := 217) rfl (by decide) (want_st_no (j := 28) (i := 214) rfl o_28 rfl (by decide) (by first | rfl | simp [upd, *])) ?_
                refine mixS_skip (i := 218) rfl (by decide) (want_st_un (j := 31) (i := 217) rfl o_31 rfl (by decide) (by first | rfl | simp [upd, *])) ?_
                refine mixS_skip (i := 219) rfl (by decide) (want_st_un (j := 31) (i := 217) rfl o_31 rfl (by decide) (by first | rfl | simp [upd, *])) ?_
                refine mixS_skip (i := 220) rfl (by decide) (want_st_un (j := 31) (i := 217) rfl o_31 rfl (by decide) (by first | rfl | simp [upd, *])) ?_
                refine mixS_skip (i := 221) rfl (by decide) (want_st_un (j := 31) (i := 217) rfl o_31 rfl (by decide) (by first | rfl | simp [upd, *])) ?_
                refine mixS_skip (i := 222) rfl (by decide) (want_st_un (j := 31) (i := 217) rfl o_31 rfl (by decide) (by first | rfl | simp [upd, *])) ?_
                refine mixS_skip (i := 223) rfl (by decide) (want_st_un (j := 31) (i := 217) rfl o_31 rfl (by decide) (by first | rfl | simp [upd, *])) ?_
                refine mixS_skip (i := 224) rfl (by decide) (want_st_un (j := 31) (i := 217) rfl o_31 rfl (by decide) (by first | rfl | simp [upd, *])) ?_
                refine mixS_none (i := 225) rfl (by decide) (want_st_un (j := 31) (i := 217) rfl o_31 rfl (by decide) (by first | rfl | simp [upd, *])) (by first | exact hb2' | exact hb1') ?_
                refine mix_nil (HK.out _ _ ?_)
                generalize hf9 : upd _ _ _ = f9
                have hlow : ∀ j, j < 186 ∨ 229 ≤ j → f9 j = f0 j := fun j hj => by rw [← hf9]; repeat (rw [upd_ne (by omega)])
                have hA := st_lit f9 _ (by rfl) (fun j hj => (hlow j hj).trans (HF0.out j))
                simp only [List.take_succ_cons, List.take_zero, List.drop_succ_cons, List.drop_zero, List.cons_append, List.nil_append] at hA
                rw [hA]
                have p214 := congrFun hf9 214
                simp [upd, undef] at p214
                have p217 := congrFun hf9 217
                simp [upd, undef] at p217
                have p225 := congrFun hf9 225
                simp [upd, undef] at p225
                rw [← p214, ← p217, ← p225]
                clear hf9 hA hlow p214 p217 p225
                go_wp2
                go_ret
                exact ⟨ret_bool (by rw [hcut.out, ho.out, hd.out, HNO.out]; rfl), below_trans HB0.out (below_trans HBW.out (by first | exact hb3' | exact hb2' | exact hb1'))⟩
              apply mixS_take (i := 209) rfl (by decide) (want_st (j := 22) (i := 208) rfl o_22 rfl (by decide) (by first | rfl | simp [upd, *]))
              case hy => intro W' hW'; obtain ⟨hwc, -⟩ := bcell hW'; simp only [execOp, st_eval, st_const, st_func, upd, Nat.reduceLT, Nat.reduceEqDiff, if_true, if_false, ite_true, ite_false, reduceIte, q1, q7, q8, List.map_toArray, List.map_cons, List.map_nil]; (try go_simp); try rfl
              apply mixS_take (i := 210) rfl (by decide) (want_st (j := 22) (i := 208) rfl o_22 rfl (by decide) (by first | rfl | simp [upd, *]))
              case hy => intro W' hW'; obtain ⟨hwc, -⟩ := bcell hW'; simp only [execOp, st_eval, st_const, st_func, upd, Nat.reduceLT, Nat.reduceEqDiff, if_true, if_false, ite_true, ite_false, reduceIte, q1, q7, q8, List.map_toArray, List.map_cons, List.map_nil]; (try go_simp); try rfl
              apply mixS_call (i := 211) (F := 72) rfl (by decide) (want_st (j := 22) (i := 208) rfl o_22 rfl (by decide) (by first | rfl | simp [upd, *]))
              case he => simp only [execOp, st_eval, st_const, st_func, upd, Nat.reduceLT, Nat.reduceEqDiff, if_true, if_false, ite_true, ite_false, reduceIte, q1, q7, q8, List.map_toArray, List.map_cons, List.map_nil]; (try go_simp); try rfl
              case hc => exact hTime.out _
              intro w2 hb2
              have hb2' : Below W.heap.size W w2 := below_trans hb1' hb2
              refine ⟨hb2', ?_⟩
              apply mixS_take (i := 212) rfl (by decide) (want_st (j := 22) (i := 208) rfl o_22 rfl (by decide) (by first | rfl | simp [upd, *]))
              case hy => intro W' hW'; obtain ⟨hwc, -⟩ := bcell hW'; simp only [execOp, st_eval, st_const, st_func, upd, Nat.reduceLT, Nat.reduceEqDiff, if_true, if_false, ite_true, ite_false, reduceIte, q1, q7, q8, List.map_toArray, List.map_cons, List.map_nil]; (try go_simp); try rfl
              apply mixS_take (i := 213) rfl (by decide) (want_none rfl)
              case hy => intro W' hW'; obtain ⟨hwc, -⟩ := bcell hW'; simp only [execOp, st_eval, st_const, st_func, upd, Nat.reduceLT, Nat.reduceEqDiff, if_true, if_false, ite_true, ite_false, reduceIte, q1, q7, q8, List.map_toArray, List.map_cons, List.map_nil]; (try go_simp); try rfl
              apply mixS_take (i := 214) rfl (by decide) (want_none rfl)
              case hy => intro W' hW'; obtain ⟨hwc, -⟩ := bcell hW'; simp only [execOp, st_eval, st_const, st_func, upd, Nat.reduceLT, Nat.reduceEqDiff, if_true, if_false, ite_true, ite_false, reduceIte, q1, q7, q8, List.map_toArray, List.map_cons, List.map_nil]; (try go_simp); try rfl
              cases bT
              · have HNO : Hid (isTimerB x.nodes x.now l = false) := Bool.eq_false_iff.2 fun h => by have h1 := HTB.out.1 h; have h2 := HE.out; (try simp only [decide_eq_true_eq, decide_eq_false_iff_not] at h2); first | (rw [h2.1] at h1; simp at h1; done) | (rw [h2.2.1] at h1; simp at h1; done) | omega
                refine mixS_skip (i := 215) rfl (by decide) (want_st_no (j := 28) (i := 214) rfl o_28 rfl (by decide) (by first | rfl | simp [upd, *])) ?_
                refine mixS_skip (i := 216) rfl (by decide) (want_st_no (j := 28) (i := 214) rfl o_28 rfl (by decide) (by first | rfl | simp [upd, *])) ?_
                refine mixS_skip (i := 217) rfl (by decide) (want_st_no (j := 28) (i := 214) rfl o_28 rfl (by decide) (by first | rfl | simp [upd, *])) ?_
                refine mixS_skip (i := 218) rfl (by decide) (want_st_un (j := 31) (i := 217) rfl o_31 rfl (by decide) (by first | rfl | simp [upd, *])) ?_
                refine mixS_skip (i := 219) rfl (by decide) (want_st_un (j := 31) (i := 217) rfl o_31 rfl (by decide) (by first | rfl | simp [upd, *])) ?_
                refine mixS_skip (i := 220) rfl (by decide) (want_st_un (j := 31) (i := 217) rfl o_31 rfl (by decide) (by first | rfl | simp [upd, *])) ?_
                refine mixS_skip (i := 221) rfl (by decide) (want_st_un (j := 31) (i := 217) rfl o_31 rfl (by decide) (by first | rfl | simp [upd, *])) ?_
                refine mixS_skip (i := 222) rfl (by decide) (want_st_un (j := 31) (i := 217) rfl o_31 rfl (by decide) (by first | rfl | simp [upd, *])) ?_
                refine mixS_skip (i := 223) rfl (by decide) (want_st_un (j := 31) (i := 217) rfl o_31 rfl (by decide) (by first | rfl | simp [upd, *])) ?_
                refine mixS_skip (i := 224) rfl (by decide) (want_st_un (j := 31) (i := 217) rfl o_31 rfl (by decide) (by first | rfl | simp [upd, *])) ?_
                refine mixS_none (i := 225) rfl (by decide) (want_st_un (j := 31) (i := 217) rfl o_31 rfl (by decide) (by first | rfl | simp [upd, *])) (by first | exact hb2' | exact hb1') ?_
                refine mix_nil (HK.out _ _ ?_)
                generalize hf9 : upd _ _ _ = f9
                have hlow : ∀ j, j < 186 ∨ 229 ≤ j → f9 j = f0 j := fun j hj => by rw [← hf9]; repeat (rw [upd_ne (by omega)])
                have hA := st_lit f9 _ (by rfl) (fun j hj => (hlow j hj).trans (HF0.out j))
                simp only [List.take_succ_cons, List.take_zero, List.drop_succ_cons, List.drop_zero, List.cons_append, List.nil_append] at hA
                rw [hA]
                have p214 := congrFun hf9 214
                simp [upd, undef] at p214
                have p217 := congrFun hf9 217
                simp [upd, undef] at p217
                have p225 := congrFun hf9 225
                simp [upd, undef] at p225
                rw [← p214, ← p217, ← p225]
                clear hf9 hA hlow p214 p217 p225
                go_wp2
                go_ret
                exact ⟨ret_bool (by rw [hcut.out, ho.out, hd.out, HNO.out]; rfl), below_trans HB0.out (below_trans HBW.out (by first | exact hb3' | exact hb2' | exact hb1'))⟩
              have HYES : Hid (isTimerB x.nodes x.now l = true) := HTB.out.2 (by have h2 := HE.out; simp only [decide_eq_true_eq, decide_eq_false_iff_not] at h2; exact ⟨h2.1, by omega, by omega, by omega, h2.2.1⟩)
              apply mixS_take (i := 215) rfl (by decide) (want_st (j := 28) (i := 214) rfl o_28 rfl (by decide) (by first | rfl | simp [upd, *]))
              case hy => intro W' hW'; obtain ⟨hwc, -⟩ := bcell hW'; simp only [execOp, st_eval, st_const, st_func, upd, Nat.reduceLT, Nat.reduceEqDiff, if_true, if_false, ite_true, ite_false, reduceIte, q1, q7, q8, List.map_toArray, List.map_cons, List.map_nil]; (try go_simp); try rfl
              apply mixS_take (i := 216) rfl (by decide) (want_st (j := 28) (i := 214) rfl o_28 rfl (by decide) (by first | rfl | simp [upd, *]))
              case hy => intro W' hW'; obtain ⟨hwc, -⟩ := bcell hW'; simp only [execOp, st_eval, st_const, st_func, upd, Nat.reduceLT, Nat.reduceEqDiff, if_true, if_false, ite_true, ite_false, reduceIte, q1, q7, q8, List.map_toArray, List.map_cons, List.map_nil]; (try go_simp); try rfl
              apply mixS_take (i := 217) rfl (by decide) (want_st (j := 28) (i := 214) rfl o_28 rfl (by decide) (by first | rfl | simp [upd, *]))
              case hy => intro W' hW'; obtain ⟨hwc, -⟩ := bcell hW'; simp only [execOp, st_eval, st_const, st_func, upd, Nat.reduceLT, Nat.reduceEqDiff, if_true, if_false, ite_true, ite_false, reduceIte, q1, q7, q8, List.map_toArray, List.map_cons, List.map_nil]; (try go_simp); try rfl
              cases b6
              · have h0 : k = 0 := by have h2 := HE.out.2.2.2.2.2; simp only [decide_eq_false_iff_not] at h2; omega
                have HPO : Hid (prevOk (prevO x.timers k) l = true) := by show _ = _; rw [h0]; rfl
                subst h0
                refine mixS_skip (i := 218) rfl (by decide) (want_st_no (j := 31) (i := 217) rfl o_31 rfl (by decide) (by first | rfl | simp [upd, *])) ?_
                refine mixS_skip (i := 219) rfl (by decide) (want_st_no (j := 31) (i := 217) rfl o_31 rfl (by decide) (by first | rfl | simp [upd, *])) ?_
                refine mixS_skip (i := 220) rfl (by decide) (want_st_no (j := 31) (i := 217) rfl o_31 rfl (by decide) (by first | rfl | simp [upd, *])) ?_
                refine mixS_skip (i := 221) rfl (by decide) (want_st_no (j := 31) (i := 217) rfl o_31 rfl (by decide) (by first | rfl | simp [upd, *])) ?_
                refine mixS_skip (i := 222) rfl (by decide) (want_st_no (j := 31) (i := 217) rfl o_31 rfl (by decide) (by first | rfl | simp [upd, *])) ?_
                refine mixS_skip (i := 223) rfl (by decide) (want_st_no (j := 31) (i := 217) rfl o_31 rfl (by decide) (by first | rfl | simp [upd, *])) ?_
                refine mixS_skip (i := 224) rfl (by decide) (want_st_no (j := 31) (i := 217) rfl o_31 rfl (by decide) (by first | rfl | simp [upd, *])) ?_
                refine mixS_none (i := 225) rfl (by decide) (want_st_no (j := 31) (i := 217) rfl o_31 rfl (by decide) (by first | rfl | simp [upd, *])) (by first | exact hb2' | exact hb1') ?_
                refine mix_nil (HK.out _ _ ?_)
                generalize hf9 : upd _ _ _ = f9
                have hlow : ∀ j, j < 186 ∨ 229 ≤ j → f9 j = f0 j := fun j hj => by rw [← hf9]; repeat (rw [upd_ne (by omega)])
                have hA := st_lit f9 _ (by rfl) (fun j hj => (hlow j hj).trans (HF0.out j))
                simp only [List.take_succ_cons, List.take_zero, List.drop_succ_cons, List.drop_zero, List.cons_append, List.nil_append] at hA
                rw [hA]
                have p214 := congrFun hf9 214
                simp [upd, undef] at p214
                have p217 := congrFun hf9 217
                simp [upd, undef] at p217
                have p225 := congrFun hf9 225
                simp [upd, undef] at p225
                rw [← p214, ← p217, ← p225]
                clear hf9 hA hlow p214 p217 p225
                go_wp2
                obtain ⟨v0, hv0⟩ : ∃ v0, v0 = w2 := ⟨_, rfl⟩
                have HBV : Hid (Below w0.heap.size w0 v0) := by rw [hv0]; exact below_trans HBW.out hb2'
                have HTV : Hid (v0.heap[wr.heap.size]? = some (.cells #[.int .i64 l.t, .int .i64 l.node, .int .i64 l.tag] 86 (0, 0))) := by rw [hv0]; exact bl_below HT8.out hb2'
                rw [← hv0]
                clear hv0
                go_loopw [9] (fun i wq => ∃ j : Nat, j ≤ 0 ∧ i = .int .i64 j ∧ Hid ((x.timers.take j).all (nePair l) = true) ∧ Hid (Below v0.heap.size v0 wq)) (fun i _ => 0 - (intOf i).toNat)
                case atStart => exact ⟨0, Nat.zero_le _, rfl, rfl, Below.refl _ _⟩
                case round =>
                  obtain ⟨j, hj, rfl, hjo, hjB⟩ := hrel
                  have hz := bl_below HZ0.out (below_trans HBV.out hjB.out)
                  obtain ⟨⟨k0, k1, k2, k3, k4, k5⟩, -⟩ := blc6 hz
                  have hlz := bl_lt hz
                  have hT9 := bl_below HTV.out hjB.out
                  have t0 := bl_cell hT9 0
                  have t1 := bl_cell hT9 1
                  have t2 := bl_cell hT9 2
                  simp at t0 t1 t2
                  have hlt9 := bl_lt hT9
                  by_cases hjk : j < 0
                  · exact absurd hjk (Nat.not_lt_zero _)
                  · obtain rfl : j = 0 := by omega
                    go_wp2
                    go_roundw
                    case rel => exact ⟨0 + 1, by omega, by go_num, by show _ = _; rw [ho.out, hd.out, HYES.out, HPO.out, hjo.out]; rfl, below_trans HBV.out hjB.out⟩
                    case measure => simp [intOf]; omega
              have h0 : 0 < k := by have h2 := HE.out.2.2.2.2.2; simp only [decide_eq_true_eq] at h2; omega
              obtain ⟨m, rfl⟩ : ∃ m, k = m + 1 := ⟨k - 1, by omega⟩
              obtain ⟨b1, off1, q, e, hq, p0, p1, p2⟩ := (HT.out.below HBW.out).tm m (by omega)
              cases e
              have hp : Hid (prevOk (prevO x.timers (m + 1)) l = lesserB q l) := by show prevOk (x.timers[m]?) l = _; rw [hq.out]; rfl
              have hw : IntKind.i64.wrap (m : Int) = m := IntWalk.i64_in _ (by omega)
              have z0 : (0 : Int) ≤ (m : Int) + 1 := by omega
              have z1 : ((m : Int) + 1).toNat = m + 1 := by omega
              have z2 : m < x.timers.length := by omega
              obtain ⟨bL, hLE⟩ : ∃ b, lesserB q l = b := ⟨_, rfl⟩
              have hLess : Hid (∀ w, Calls Tryz.prog 73 #[.agg #[.int .i64 q.t, .int .i64 q.node, .int .i64 q.tag], .agg #[.int .i64 l.t, .int .i64 l.node, .int .i64 l.tag]] w fun e w' => e = .returned (.bool bL) ∧ Below w.heap.size w w') := fun w => by have h := Rlesser_any q l w; rw [hLE] at h; exact h
              have HLE := Lib.hid hLE
              clear hLE h0
              apply mixS_take (i := 218) rfl (by decide) (want_st (j := 31) (i := 217) rfl o_31 rfl (by decide) (by first | rfl | simp [upd, *]))
              case hy => intro W' hW'; obtain ⟨hwc, -⟩ := bcell hW'; simp only [execOp, st_eval, st_const, st_func, upd, Nat.reduceLT, Nat.reduceEqDiff, if_true, if_false, ite_true, ite_false, reduceIte, q1, q7, q8, List.map_toArray, List.map_cons, List.map_nil]; (try go_simp); try rfl
              apply mixS_take (i := 219) rfl (by decide) (want_st (j := 31) (i := 217) rfl o_31 rfl (by decide) (by first | rfl | simp [upd, *]))
              case hy => intro W' hW'; obtain ⟨hwc, -⟩ := bcell hW'; simp only [execOp, st_eval, st_const, st_func, upd, Nat.reduceLT, Nat.reduceEqDiff, if_true, if_false, ite_true, ite_false, reduceIte, q1, q7, q8, List.map_toArray, List.map_cons, List.map_nil]; (try go_simp); try rfl
              apply mixS_take (i := 220) rfl (by decide) (want_st (j := 31) (i := 217) rfl o_31 rfl (by decide) (by first | rfl | simp [upd, *]))
              case hy => intro W' hW'; obtain ⟨hwc, -⟩ := bcell hW'; simp only [execOp, st_eval, st_const, st_func, upd, Nat.reduceLT, Nat.reduceEqDiff, if_true, if_false, ite_true, ite_false, reduceIte, q1, q7, q8, List.map_toArray, List.map_cons, List.map_nil]; (try go_simp); try rfl
              apply mixS_take (i := 221) rfl (by decide) (want_st (j := 31) (i := 217) rfl o_31 rfl (by decide) (by first | rfl | simp [upd, *]))
              case hy => intro W' hW'; obtain ⟨hwc, -⟩ := bcell hW'; simp only [execOp, st_eval, st_const, st_func, upd, Nat.reduceLT, Nat.reduceEqDiff, if_true, if_false, ite_true, ite_false, reduceIte, q1, q7, q8, List.map_toArray, List.map_cons, List.map_nil]; (try go_simp); try rfl
              apply mixS_take (i := 222) rfl (by decide) (want_st (j := 31) (i := 217) rfl o_31 rfl (by decide) (by first | rfl | simp [upd, *]))
              case hy => intro W' hW'; obtain ⟨hwc, -⟩ := bcell hW'; simp only [execOp, st_eval, st_const, st_func, upd, Nat.reduceLT, Nat.reduceEqDiff, if_true, if_false, ite_true, ite_false, reduceIte, q1, q7, q8, List.map_toArray, List.map_cons, List.map_nil]; (try go_simp); try rfl
              apply mixS_take (i := 223) rfl (by decide) (want_st (j := 31) (i := 217) rfl o_31 rfl (by decide) (by first | rfl | simp [upd, *]))
              case hy => intro W' hW'; obtain ⟨hwc, -⟩ := bcell hW'; simp only [execOp, st_eval, st_const, st_func, upd, Nat.reduceLT, Nat.reduceEqDiff, if_true, if_false, ite_true, ite_false, reduceIte, q1, q7, q8, List.map_toArray, List.map_cons, List.map_nil]; (try go_simp); try rfl
              apply mixS_take (i := 224) rfl (by decide) (want_st (j := 31) (i := 217) rfl o_31 rfl (by decide) (by first | rfl | simp [upd, *]))
              case hy => intro W' hW'; obtain ⟨hwc, -⟩ := bcell hW'; simp only [execOp, st_eval, st_const, st_func, upd, Nat.reduceLT, Nat.reduceEqDiff, if_true, if_false, ite_true, ite_false, reduceIte, q1, q7, q8, List.map_toArray, List.map_cons, List.map_nil]; (try go_simp); try rfl
              apply mixS_call (i := 225) (F := 73) rfl (by decide) (want_st (j := 31) (i := 217) rfl o_31 rfl (by decide) (by first | rfl | simp [upd, *]))
              case he => simp only [execOp, st_eval, st_const, st_func, upd, Nat.reduceLT, Nat.reduceEqDiff, if_true, if_false, ite_true, ite_false, reduceIte, q1, q7, q8, List.map_toArray, List.map_cons, List.map_nil]; (try go_simp); try rfl
              case hc => exact hLess.out _
              intro w3 hb3
              have hb3' : Below W.heap.size W w3 := below_trans hb2' hb3
              refine ⟨hb3', ?_⟩
              cases bL
              · have HPO : Hid (prevOk (prevO x.timers (m + 1)) l = false) := hp.out.trans HLE.out
                refine mix_nil (HK.out _ _ ?_)
                generalize hf9 : upd _ _ _ = f9
                have hlow : ∀ j, j < 186 ∨ 229 ≤ j → f9 j = f0 j := fun j hj => by rw [← hf9]; repeat (rw [upd_ne (by omega)])
                have hA := st_lit f9 _ (by rfl) (fun j hj => (hlow j hj).trans (HF0.out j))
                simp only [List.take_succ_cons, List.take_zero, List.drop_succ_cons, List.drop_zero, List.cons_append, List.nil_append] at hA
                rw [hA]
                have p214 := congrFun hf9 214
                simp [upd, undef] at p214
                have p217 := congrFun hf9 217
                simp [upd, undef] at p217
                have p225 := congrFun hf9 225
                simp [upd, undef] at p225
                rw [← p214, ← p217, ← p225]
                clear hf9 hA hlow p214 p217 p225
                go_wp2
                go_ret
                exact ⟨ret_bool (by rw [hcut.out, ho.out, hd.out, HYES.out, HPO.out]; rfl), below_trans HB0.out (below_trans HBW.out (by first | exact hb3' | exact hb2' | exact hb1'))⟩
              have HPO : Hid (prevOk (prevO x.timers (m + 1)) l = true) := hp.out.trans HLE.out
              refine mix_nil (HK.out _ _ ?_)
              generalize hf9 : upd _ _ _ = f9
              have hlow : ∀ j, j < 186 ∨ 229 ≤ j → f9 j = f0 j := fun j hj => by rw [← hf9]; repeat (rw [upd_ne (by omega)])
              have hA := st_lit f9 _ (by rfl) (fun j hj => (hlow j hj).trans (HF0.out j))
              simp only [List.take_succ_cons, List.take_zero, List.drop_succ_cons, List.drop_zero, List.cons_append, List.nil_append] at hA
              rw [hA]
              have p214 := congrFun hf9 214
              simp [upd, undef] at p214
              have p217 := congrFun hf9 217
              simp [upd, undef] at p217
              have p225 := congrFun hf9 225
              simp [upd, undef] at p225
              rw [← p214, ← p217, ← p225]
              clear hf9 hA hlow p214 p217 p225
              go_wp2
              obtain ⟨v0, hv0⟩ : ∃ v0, v0 = w3 := ⟨_, rfl⟩
              have HBV : Hid (Below w0.heap.size w0 v0) := by rw [hv0]; exact below_trans HBW.out hb3'
              have HTV : Hid (v0.heap[wr.heap.size]? = some (.cells #[.int .i64 l.t, .int .i64 l.node, .int .i64 l.tag] 86 (0, 0))) := by rw [hv0]; exact bl_below HT8.out hb3'
              rw [← hv0]
              clear hv0
              go_loopw [9] (fun i wq => ∃ j : Nat, j ≤ (m + 1) ∧ i = .int .i64 j ∧ Hid ((x.timers.take j).all (nePair l) = true) ∧ Hid (Below v0.heap.size v0 wq)) (fun i _ => (m + 1) - (intOf i).toNat)
              case atStart => exact ⟨0, Nat.zero_le _, rfl, rfl, Below.refl _ _⟩
              case round =>
                obtain ⟨j, hj, rfl, hjo, hjB⟩ := hrel
                have hz := bl_below HZ0.out (below_trans HBV.out hjB.out)
                obtain ⟨⟨k0, k1, k2, k3, k4, k5⟩, -⟩ := blc6 hz
                have hlz := bl_lt hz
                have hT9 := bl_below HTV.out hjB.out
                have t0 := bl_cell hT9 0
                have t1 := bl_cell hT9 1
                have t2 := bl_cell hT9 2
                simp at t0 t1 t2
                have hlt9 := bl_lt hT9
                by_cases hjk : j < (m + 1)
                · have hjl : j < x.timers.length := by omega
                  obtain ⟨b2, off2, s, e, hs, s0, s1, s2⟩ := (HT.out.below (below_trans HBV.out hjB.out)).tm j hjl
                  cases e
                  have hbt2 : b < wr.heap.size := World.block_lt_of_cell? wr _ s0
                  have hz9 := Lib.hid hz
                  have hT9 := Lib.hid hT9
                  clear hz
                  have hne := Lib.hid (all_take_succ (nePair l) hs)
                  have hmem : Hid (s ∈ x.timers.take (m + 1)) := List.mem_take_iff_getElem.2 ⟨j, by omega, (List.getElem?_eq_some_iff.1 hs.out).2⟩
                  cases q1 : (s.node == l.node)
                  · have hp : Hid (nePair l s = true) := by show _ = _; unfold nePair; rw [q1]; rfl
                    go_wp2
                    go_quiet (fail)
                    go_wp2
                    go_roundw
                    case rel => exact ⟨j + 1, by omega, by go_num, by show _ = _; rw [hne.out, hjo.out, hp.out]; rfl, below_drewN hjB.out _⟩
                    case measure => simp [intOf]; omega
                  · cases q2 : (s.tag == l.tag)
                    · have hp : Hid (nePair l s = true) := by show _ = _; unfold nePair; rw [q1, q2]; rfl
                      go_wp2
                      go_quiet (fail)
                      go_wp2
                      go_roundw
                      case rel => exact ⟨j + 1, by omega, by go_num, by show _ = _; rw [hne.out, hjo.out, hp.out]; rfl, below_drewN hjB.out _⟩
                      case measure => simp [intOf]; omega
                    · have hp : Hid (nePair l s = false) := by show _ = _; unfold nePair; rw [q1, q2]; rfl
                      have hall : Hid ((x.timers.take (m + 1)).all (nePair l) = false) := List.all_eq_false.2 ⟨s, hmem.out, by rw [hp.out]; decide⟩
                      go_wp2
                      go_quiet (fail)
                      go_wp2
                      go_ret
                      exact ⟨ret_bool (by rw [hcut.out, ho.out, hd.out, HYES.out, HPO.out, hall.out]; rfl), below_trans HB0.out (below_drewN (below_trans HBV.out hjB.out) _)⟩
                · obtain rfl : j = (m + 1) := by omega
                  go_wp2
                  go_roundw
                  case rel => exact ⟨(m + 1) + 1, by omega, by go_num, by show _ = _; rw [ho.out, hd.out, HYES.out, HPO.out, hjo.out]; rfl, below_trans HBV.out hjB.out⟩
                  case measure => simp [intOf]; omega
            · have htm : checkB x = true := by
                rw [hcut.out, ho.out, List.drop_of_length_le (by omega), tmsR]
              have HTM := Lib.hid htm
              clear htm
              obtain rfl : k = x.timers.length := by omega
              go_wp2
              go_ret
              exact ⟨ret_bool HTM.out.symm, below_trans HB0.out hB.out⟩
end Go.Proofs.YthlbmcfliejdiaaGreat
end

section
set_option linter.unusedVariables false
set_option linter.unusedSimpArgs false
namespace Go.Proofs.YthlbmcfliejdiaaGreat
open Go.RowKit

/-! A store of all the cells of what an operation of the reference returns. -/
def put14 (w : World) (b : Nat) (a0 a1 a2 a3 a4 a5 a6 a7 a8 a9 a10 a11 a12 a13 : Value) : World := (((((((((((((w.setCell ⟨b, 0, none⟩ a0).setCell ⟨b, 1, none⟩ a1).setCell ⟨b, 2, none⟩ a2).setCell ⟨b, 3, none⟩ a3).setCell ⟨b, 4, none⟩ a4).setCell ⟨b, 5, none⟩ a5).setCell ⟨b, 6, none⟩ a6).setCell ⟨b, 7, none⟩ a7).setCell ⟨b, 8, none⟩ a8).setCell ⟨b, 9, none⟩ a9).setCell ⟨b, 10, none⟩ a10).setCell ⟨b, 11, none⟩ a11).setCell ⟨b, 12, none⟩ a12).setCell ⟨b, 13, none⟩ a13
section
variable {w : World} {b B : Nat} {a0 a1 a2 a3 a4 a5 a6 a7 a8 a9 a10 a11 a12 a13 : Value}
theorem put14_all {t : TypeId} {fr : Nat × Nat} {c0 c1 c2 c3 c4 c5 c6 c7 c8 c9 c10 c11 c12 c13 : Value} (h : w.heap[b]? = some (.cells #[c0, c1, c2, c3, c4, c5, c6, c7, c8, c9, c10, c11, c12, c13] t fr)) :
    (put14 w b a0 a1 a2 a3 a4 a5 a6 a7 a8 a9 a10 a11 a12 a13).heap[b]? = some (.cells #[a0, a1, a2, a3, a4, a5, a6, a7, a8, a9, a10, a11, a12, a13] t fr) := by
  unfold put14
  simpa using bl_set (bl_set (bl_set (bl_set (bl_set (bl_set (bl_set (bl_set (bl_set (bl_set (bl_set (bl_set (bl_set (bl_set h 0 a0) 1 a1) 2 a2) 3 a3) 4 a4) 5 a5) 6 a6) 7 a7) 8 a8) 9 a9) 10 a10) 11 a11) 12 a12) 13 a13
theorem put14_below {w1 : World} (h : Below B w1 w) (hb : B ≤ b) : Below B w1 (put14 w b a0 a1 a2 a3 a4 a5 a6 a7 a8 a9 a10 a11 a12 a13) := by
  unfold put14
  repeat (refine Below.setCell ?_ (by exact hb) _)
  exact h
end
end Go.Proofs.YthlbmcfliejdiaaGreat
end
