/- The contracts of the method set. The contracts of the method set: the timer is replaced; both together. The contracts of the method tick. The contract of the iterator that the method ready returns: the places of the letters that can be delivered now, in order. The contracts of slices.AppendSeq and slices.Collect over the iterator of the method ready. -/
import Derived.Test.YthlbmcfliejdiaaGreatGc
import Derived.Deep.LoopGhost
import Derived.Test.YthlbmcfliejdiaaGreatGb
import Derived.Test.YthlbmcfliejdiaaGreatGa
import Derived.RangeFuncNested
import Derived.RangeFuncBound
import Derived.RangeFuncCalls
import Derived.RangeFuncLeaves
import Derived.Shelf.Abstract
import Derived.Shelf.RegionOpen
import Derived.OwnWalkIn
import Derived.TacticsInMore
import Derived.LoopNIn
import Derived.LoopIn
import Derived.Maps.AppendAt
import Derived.RangeFuncBox
import Derived.RangeFuncWrites
section
set_option linter.unusedVariables false
set_option linter.unusedSimpArgs false
namespace Go.Proofs.YthlbmcfliejdiaaGreat
open Go.RowKit

def setB (nodes nd tg n : Int) : Bool := stopB nodes nd tg && decide (1 ≤ n) && decide (n ≤ 1000)
/-- The timers but that of a node with a tag. -/
def tmDrop (nd tg : Int) (xs : List Tm) : List Tm := if 0 ≤ ixF (isTm nd tg) xs 0 then xs.eraseIdx (ixF (isTm nd tg) xs 0).toNat else xs

set_option maxHeartbeats 2000000 in
set_option maxRecDepth 100000 in
theorem set_arg (B g : Nat) (x : Nt) (nd tg n : Int) (w : World) (hS : St w B g x) (hb : setB x.nodes nd tg n = false) :
    Calls Tryz.prog 66 #[.pointer (some ⟨g, 0, none⟩), .int .i64 nd, .int .i64 tg, .int .i64 n] w fun e w' => e = .returned (.int .i64 1) ∧ Below w.heap.size w w' := by
  have HB := Lib.hid hb
  clear hb
  obtain ⟨AW, cW, AC, cC, AT, cT, hg, hB, oW, oC, oT⟩ := hS.open
  have k0 := bl_cell hg 0
  have k1 := bl_cell hg 1
  have k2 := bl_cell hg 2
  have k3 := bl_cell hg 3
  have k4 := bl_cell hg 4
  have k5 := bl_cell hg 5
  simp at k0 k1 k2 k3 k4 k5
  have hlt := bl_lt hg
  clear hg oW oC oT hS
  cases hn : isNodeB x.nodes nd
  · go_enter Tryz.func66, Tryz.ntmps66
    go_wp2_with (go_at_call 71; refine calls_below (isNode_any _ _ _ _ _ _ _ _ _ _ _ _ _ _) ?_; intro w1 hb1; rw [hn])
    go_ret
    exact ⟨rfl, hb1⟩
  · have HN := Lib.hid hn
    clear hn
    have hz := HB.out
    simp only [setB, stopB, HN.out, Bool.true_and, Bool.and_eq_false_iff, decide_eq_false_iff_not] at hz
    by_cases h0 : 0 ≤ tg
    · by_cases h1 : tg ≤ 2147483647
      · by_cases h2 : 1 ≤ n
        · have h3 : 1000 < n := by omega
          clear hz
          go_enter Tryz.func66, Tryz.ntmps66
          go_wp2_with (go_at_call 71; refine calls_below (isNode_any _ _ _ _ _ _ _ _ _ _ _ _ _ _) ?_; intro w1 hb1; rw [HN.out])
          go_ret
          exact ⟨rfl, hb1⟩
        · have h3 : n < 1 := by omega
          clear hz
          go_enter Tryz.func66, Tryz.ntmps66
          go_wp2_with (go_at_call 71; refine calls_below (isNode_any _ _ _ _ _ _ _ _ _ _ _ _ _ _) ?_; intro w1 hb1; rw [HN.out])
          go_ret
          exact ⟨rfl, hb1⟩
      · have h3 : 2147483647 < tg := by omega
        clear hz
        go_enter Tryz.func66, Tryz.ntmps66
        go_wp2_with (go_at_call 71; refine calls_below (isNode_any _ _ _ _ _ _ _ _ _ _ _ _ _ _) ?_; intro w1 hb1; rw [HN.out])
        go_ret
        exact ⟨rfl, hb1⟩
    · have h1 : tg < 0 := by omega
      clear hz
      go_enter Tryz.func66, Tryz.ntmps66
      go_wp2_with (go_at_call 71; refine calls_below (isNode_any _ _ _ _ _ _ _ _ _ _ _ _ _ _) ?_; intro w1 hb1; rw [HN.out])
      go_ret
      exact ⟨rfl, hb1⟩

set_option maxHeartbeats 2000000 in
set_option maxRecDepth 100000 in
theorem set_full (B g : Nat) (x : Nt) (nd tg n : Int) (w : World) (hS : St w B g x) (hb : setB x.nodes nd tg n = true) (hi : ixF (isTm nd tg) x.timers 0 = -1) (hl : x.timers.length = 64) :
    Calls Tryz.prog 66 #[.pointer (some ⟨g, 0, none⟩), .int .i64 nd, .int .i64 tg, .int .i64 n] w fun e w' => e = .returned (.int .i64 7) ∧ Below w.heap.size w w' := by
  have HI := Lib.hid hi
  simp only [setB, stopB, Bool.and_eq_true, decide_eq_true_eq] at hb
  obtain ⟨⟨⟨⟨hn, h0⟩, h1⟩, h2⟩, h3⟩ := hb
  have HN := Lib.hid hn
  obtain ⟨AW, cW, AC, cC, AT, cT, hg, hB, oW, oC, oT⟩ := hS.open
  have k0 := bl_cell hg 0
  have k1 := bl_cell hg 1
  have k2 := bl_cell hg 2
  have k3 := bl_cell hg 3
  have k4 := bl_cell hg 4
  have k5 := bl_cell hg 5
  simp at k0 k1 k2 k3 k4 k5
  have hlt := bl_lt hg
  have HL := Lib.hid hl
  clear oW oC oT hn hi hl
  go_enter Tryz.func66, Tryz.ntmps66
  go_wp2_with (first
    | (go_at_call 71; refine calls_below (isNode_any _ _ _ _ _ _ _ _ _ _ _ _ _ _) ?_; intro w1 hb1; rw [HN.out])
    | (go_at_call 102; refine calls_below (timer_any B g x nd tg _ (hS.below hb1) (by rw [HL.out]; omega)) ?_; intro w2 hb2; rw [HI.out]; have hg3 := bl_below hg (below_trans hb1 hb2); have k53 := bl_cell hg3 5; simp [HL.out] at k53; have hlt3 := bl_lt hg3))
  go_ret
  exact ⟨rfl, below_trans hb1 hb2⟩

set_option maxHeartbeats 4000000 in
set_option maxRecDepth 100000 in
theorem set_new (B g : Nat) (x : Nt) (nd tg n : Int) (w : World) (hS : St w B g x) (hb : setB x.nodes nd tg n = true) (hi : ixF (isTm nd tg) x.timers 0 = -1) (hl : x.timers.length ≤ 64) (hf : (tmDrop nd tg x.timers).length < 64) (hB0 : B ≤ w.heap.size) (hnow0 : 0 ≤ x.now) (hnow1 : x.now ≤ 1099511627776) :
    Calls Tryz.prog 66 #[.pointer (some ⟨g, 0, none⟩), .int .i64 nd, .int .i64 tg, .int .i64 n] w fun e w' =>
      ∃ p : Nat, bsAt tmCmp (tmDrop nd tg x.timers) p ⟨x.now + n, nd, tg⟩ ∧ e = .returned (.int .i64 0) ∧ St w' B g { x with timers := insAt (tmDrop nd tg x.timers) p ⟨x.now + n, nd, tg⟩ } ∧ Below B w w' ∧ Frm w w' g := by
  simp only [setB, stopB, Bool.and_eq_true, decide_eq_true_eq] at hb
  obtain ⟨⟨⟨⟨hn, h0⟩, h1⟩, h2⟩, h3⟩ := hb
  have HN := Lib.hid hn
  clear hn
  have hw : IntKind.i64.wrap (x.now + n) = x.now + n := IntWalk.i64_in _ (by omega)
  have d1 : decide (tg < 0) = false := by simpa using h0
  have d2 : decide (2147483647 < tg) = false := by simpa using h1
  have d3 : decide (n < 1) = false := by simp; omega
  have d4 : decide (1000 < n) = false := by simpa using h3
  have d5 : ¬ tg < 0 := by omega
  have d6 : ¬ 2147483647 < tg := by omega
  have d7 : ¬ n < 1 := by omega
  have d8 : ¬ 1000 < n := by omega
  obtain ⟨AW, cW, AC, cC, AT, cT, hg, hB, oW, oC, oT⟩ := hS.open
  have k0 := bl_cell hg 0
  have k1 := bl_cell hg 1
  have k2 := bl_cell hg 2
  have k3 := bl_cell hg 3
  have k4 := bl_cell hg 4
  have k5 := bl_cell hg 5
  simp at k0 k1 k2 k3 k4 k5
  have hlt := bl_lt hg
  obtain ⟨ts, hts⟩ : ∃ ts, ts = tmDrop nd tg x.timers := ⟨_, rfl⟩
  rw [← hts] at hf ⊢
  have q64 : ((ts.length : Int) == 64) = false := by rw [beq_eq_false_iff_ne]; omega
  have HF := Lib.hid hf
  clear hf
  have hte : ts = x.timers := by rw [hts]; unfold tmDrop; rw [hi]; simp
  have HI := Lib.hid hi
  rw [hte] at q64
  clear hi hts
  go_enter Tryz.func66, Tryz.ntmps66
  go_wp2_with (first
    | (go_at_call 71; refine calls_below (isNode_any _ _ _ _ _ _ _ _ _ _ _ _ _ _) ?_; intro w1 hb1; rw [HN.out])
    | (go_at_call 102; refine calls_below (timer_any B g x nd tg _ (hS.below hb1) (by omega)) ?_; intro w3 hb3; rw [HI.out]; have hg3 := bl_below hg (below_trans hb1 hb3); have k53 := bl_cell hg3 5; have k13 := bl_cell hg3 1; simp at k53 k13; have hlt3 := bl_lt hg3))
  have HF3 : Hid (Frm w w3 g) := Frm.of_below hS.lt (below_trans hb1 hb3)
  have hg0 := hS.lt
  obtain ⟨hBw, hS3⟩ : Below B w w3 ∧ St w3 B g { x with timers := ts } := ⟨(below_trans hb1 hb3).mono hB0, by rw [hte]; exact hS.below (below_trans hb1 hb3)⟩
  clear hb1 hb3 oW oC oT hg hg3 k53 k13 hlt3 k0 k1 k2 k3 k4 k5 hlt hte HI q64 hS
  obtain ⟨AW3, cW3, AC3, cC3, AT3, cT3, hg3, -, oW3, oC3, oT3⟩ := hS3.open
  obtain ⟨W, hW⟩ : ∃ W, W = w3.alloc (.cells #[.int .i64 (x.now + n), .int .i64 nd, .int .i64 tg] 86) := ⟨_, rfl⟩
  rw [← hW]
  have hgW := bl_alloc hg3 (.cells #[.int .i64 (x.now + n), .int .i64 nd, .int .i64 tg] 86)
  have hbW := bl_new w3 (.cells #[.int .i64 (x.now + n), .int .i64 nd, .int .i64 tg] 86)
  have oWW := oW3.alloc (.cells #[.int .i64 (x.now + n), .int .i64 nd, .int .i64 tg] 86)
  have oCW := oC3.alloc (.cells #[.int .i64 (x.now + n), .int .i64 nd, .int .i64 tg] 86)
  have oTW := oT3.alloc (.cells #[.int .i64 (x.now + n), .int .i64 nd, .int .i64 tg] 86)
  have hBW : Below B w W := by rw [hW]; exact hBw.alloc (by have := hBw.size; omega) _
  have HFW : Hid (Frm w W g) := by show Frm w W g; rw [hW]; exact HF3.out.below (by have := hBw.size; omega) hg0 (below_alloc (Below.refl _ _) _)
  clear HF3
  rw [← hW] at hgW hbW oWW oCW oTW
  have hnb : ∀ k, (Value.slice AT3 ts.length cT3).ownBlock = some k → k < w3.heap.size := fun k h => (oT3.lt k h).2
  generalize w3.heap.size = bx at *
  have g5 := bl_cell hgW 5
  have b0 := bl_cell hbW 0
  have b1 := bl_cell hbW 1
  have b2 := bl_cell hbW 2
  simp at g5 b0 b1 b2
  have hgl := bl_lt hgW
  have hbl := bl_lt hbW
  clear hW hg3 oW3 oC3 oT3 hS3 hBw
  have HR : Hid (Rd W AT3 ts) := by
    obtain ⟨A, c, e, _, h⟩ := oTW.slice
    cases e
    exact h
  refine wp_mix [(0, true), (1, true), (2, true), (3, true), (4, true), (5, true), (6, false), (7, true), (8, true), (9, true), (10, true)] 11
    (fun w' => Below W.heap.size W w')
    (by kernel_rfl) (by kernel_rfl) (by kernel_rfl) (by kernel_rfl) (by kernel_rfl) (fun d _ _ _ _ h => by cases d <;> exact h) (Below.refl _ _).drew ?_
  simp only [pick, List.map_cons, List.map_nil, List.getD_cons_zero, List.getD_cons_succ, List.drop_succ_cons, List.drop_zero]
  iterate 6
    apply mix_take
    case hw => rfl
    case hy => intro W' hW; obtain ⟨hwc, -⟩ := bcell hW; go_simp; try rfl
    simp only [Act.put, List.setIfInBounds_toArray, List.set_cons_zero, List.set_cons_succ]
  refine mix_do fun K' hK' => ?_
  go_wp2_with fail
  refine (BsT_any AT3 cT3 ts ⟨x.now + n, nd, tg⟩ _ (by have := HF.out; omega) (HR.out.drew)).mono ?_
  rintro e W2 ⟨p, rfl, hp, hb2⟩
  have hb2' : Below W.heap.size W W2 := below_trans (Below.refl _ W).drew hb2
  have HP := Lib.hid hp
  clear hp
  go_wp2
  refine hK' _ _ hb2' ?_
  clear hK' K'
  iterate 4
    apply mix_take
    case hw => rfl
    case hy => intro W' hW; go_simp; try rfl
    simp only [Act.put, List.setIfInBounds_toArray, List.set_cons_zero, List.set_cons_succ]
  refine mix_nil ?_
  go_wp2
  have hg2 := bl_below hgW hb2'
  have hx2 := bl_below hbW hb2'
  have g25 := bl_cell hg2 5
  have c0 := bl_cell hx2 0
  have c1 := bl_cell hx2 1
  have c2 := bl_cell hx2 2
  simp at g25 c0 c1 c2
  have hgl2 := bl_lt hg2
  have hbl2 := bl_lt hx2
  refine wp_mix [(0, true), (1, true), (2, true), (3, true), (4, true), (5, true), (6, true), (7, true), (8, false), (9, false)] 10
    (fun w' => w'.cell? ⟨g, 5, none⟩ = some (.slice AT3 ts.length cT3) ∧ w'.cell? ⟨bx, 0, none⟩ = some (.int .i64 (x.now + n)) ∧ w'.cell? ⟨bx, 1, none⟩ = some (.int .i64 nd) ∧ w'.cell? ⟨bx, 2, none⟩ = some (.int .i64 tg))
    (by kernel_rfl) (by kernel_rfl) (by kernel_rfl) (by kernel_rfl) (by kernel_rfl) (fun d _ _ _ _ h => by cases d <;> exact h) (by go_simp) ?_
  simp only [pick, List.map_cons, List.map_nil, List.getD_cons_zero, List.getD_cons_succ, List.drop_succ_cons, List.drop_zero]
  iterate 8
    apply mix_take
    case hw => rfl
    case hy => intro W' hW; obtain ⟨e0, e1, e2, e3⟩ := hW; go_simp; try rfl
    simp only [Act.put, List.setIfInBounds_toArray, List.set_cons_zero, List.set_cons_succ]
  refine mix_do fun K' hK' => ?_
  go_wp2
  refine hK' _ _ (by go_simp) ?_
  clear hK' K'
  refine mix_do fun K' hK' => ?_
  go_wp2_with fail
  have oC4 := oCW.below hb2'
  have oW4 := oWW.below hb2'
  have oT4 := oTW.below hb2'
  refine (InsertT_any (.slice AT3 ts.length cT3) p B W2.heap.size 86 ts ⟨x.now + n, nd, tg⟩ _ HP.out.1 (oT4.drew.alloc _) (by have := hBW.size; have := hb2'.size; simp; omega) (by have := HF.out; omega) (fun h => by have := (oT4.lt _ h).2; omega) (bl_new W2.drew _)).mono ?_
  rintro e w5 ⟨v5, rfl, oC5, hg5, hat⟩
  obtain ⟨A5, c5, rfl, -, -⟩ := oC5.slice
  have hgC : (Value.slice AT3 ts.length cT3).ownBlock ≠ some g := oT4.ne hg2 (by decide)
  have hxC : ¬ some bx = (Value.slice AT3 ts.length cT3).ownBlock := fun h => by
    have := hnb _ h.symm
    omega
  have hg5' := bl_grown (bl_alloc (bl_drew hg2) _) hg5 (fun h => hgC h.symm)
  have hx5' := bl_grown (bl_alloc (bl_drew hx2) _) hg5 hxC
  have k45 := bl_cell hg5' 5
  have f45 := bl_frozen hg5' 5
  have d0 := bl_cell hx5' 0
  have d1 := bl_cell hx5' 1
  have d2 := bl_cell hx5' 2
  simp at k45 d0 d1 d2
  go_wp2
  refine hK' _ _ (by go_simp) (mix_nil ?_)
  clear hK' K'
  go_wp2
  go_ret
  have hgr : W2.grownBy w5 (Value.slice AT3 ts.length cT3).ownBlock := grown_of_drew (grown_of_alloc hg5)
  have hK1 : Kp W2 w5 g (Value.slice AT3 ts.length cT3).ownBlock := (Kp.refl W2 g _).grown hgr (.inr (.inl rfl))
  have hK2 := hK1.setCell (p := ⟨g, 5, none⟩) (.inl rfl) (.slice A5 (insAt ts p ⟨x.now + n, nd, tg⟩).length c5)
  refine ⟨p, HP.out, rfl, ⟨.slice AW3 x.way.length cW3, .slice AC3 x.cuts.length cC3, .slice A5 (insAt ts p ⟨x.now + n, nd, tg⟩).length c5, by simpa using bl_set hg5' 5 _, hB, ?_, ?_, ?_⟩, ?_, ?_⟩
  · exact hK2.own oW4 (oW4.ne hg2 (by decide)) (oW4.ne_own oT4 (by decide))
  · exact hK2.own oC4 (oC4.ne hg2 (by decide)) (oC4.ne_own oT4 (by decide))
  · exact oC5.setCell (oC5.ne hg5' (by decide)) _
  · exact (hBW.trans (hb2'.mono (by have := hBW.size; omega))).trans (hK2.toBelow hB (fun k hk => (oT4.lt k hk).1) (by have := hBW.size; have := hb2'.size; omega))
  · exact (HFW.out.trans (Frm.of_below hgl hb2')).trans (Frm.kp (vT' := .slice A5 (insAt ts p ⟨x.now + n, nd, tg⟩).length c5) hK2 hg2 (.inr (.inr rfl)) (by simpa using bl_set hg5' 5 (.slice A5 (insAt ts p ⟨x.now + n, nd, tg⟩).length c5)) (inOld_self3 _ _ _ _) (inOld_self4 _ _ _ _) (inOld_5 (hat.imp_right fun h => ⟨_, h, by simp⟩)))

end Go.Proofs.YthlbmcfliejdiaaGreat
end

section
set_option linter.unusedVariables false
set_option linter.unusedSimpArgs false
namespace Go.Proofs.YthlbmcfliejdiaaGreat
open Go.RowKit

set_option maxHeartbeats 4000000 in
set_option maxRecDepth 100000 in
theorem set_again (B g : Nat) (x : Nt) (nd tg n : Int) (w : World) (hS : St w B g x) (i : Nat) (hb : setB x.nodes nd tg n = true) (hi : ixF (isTm nd tg) x.timers 0 = 0 + (i : Int)) (hil : i < x.timers.length) (hl : x.timers.length ≤ 64) (hf : (tmDrop nd tg x.timers).length < 64) (hB0 : B ≤ w.heap.size) (hnow0 : 0 ≤ x.now) (hnow1 : x.now ≤ 1099511627776) :
    Calls Tryz.prog 66 #[.pointer (some ⟨g, 0, none⟩), .int .i64 nd, .int .i64 tg, .int .i64 n] w fun e w' =>
      ∃ p : Nat, bsAt tmCmp (tmDrop nd tg x.timers) p ⟨x.now + n, nd, tg⟩ ∧ e = .returned (.int .i64 0) ∧ St w' B g { x with timers := insAt (tmDrop nd tg x.timers) p ⟨x.now + n, nd, tg⟩ } ∧ Below B w w' ∧ Frm w w' g := by
  simp only [setB, stopB, Bool.and_eq_true, decide_eq_true_eq] at hb
  obtain ⟨⟨⟨⟨hn, h0⟩, h1⟩, h2⟩, h3⟩ := hb
  have HN := Lib.hid hn
  clear hn
  have hw : IntKind.i64.wrap (x.now + n) = x.now + n := IntWalk.i64_in _ (by omega)
  have d1 : decide (tg < 0) = false := by simpa using h0
  have d2 : decide (2147483647 < tg) = false := by simpa using h1
  have d3 : decide (n < 1) = false := by simp; omega
  have d4 : decide (1000 < n) = false := by simpa using h3
  have d5 : ¬ tg < 0 := by omega
  have d6 : ¬ 2147483647 < tg := by omega
  have d7 : ¬ n < 1 := by omega
  have d8 : ¬ 1000 < n := by omega
  obtain ⟨AW, cW, AC, cC, AT, cT, hg, hB, oW, oC, oT⟩ := hS.open
  have k0 := bl_cell hg 0
  have k1 := bl_cell hg 1
  have k2 := bl_cell hg 2
  have k3 := bl_cell hg 3
  have k4 := bl_cell hg 4
  have k5 := bl_cell hg 5
  simp at k0 k1 k2 k3 k4 k5
  have hlt := bl_lt hg
  obtain ⟨ts, hts⟩ : ∃ ts, ts = tmDrop nd tg x.timers := ⟨_, rfl⟩
  rw [← hts] at hf ⊢
  have q64 : ((ts.length : Int) == 64) = false := by rw [beq_eq_false_iff_ne]; omega
  have HF := Lib.hid hf
  clear hf
  have hte : ts = x.timers.eraseIdx i := by rw [hts]; unfold tmDrop; rw [hi]; simp
  have hl1 : ts.length = x.timers.length - 1 := by rw [hte, List.length_eraseIdx]; simp [hil]
  obtain ⟨z, hz⟩ : ∃ z, x.timers[i]? = some z := ⟨_, List.getElem?_eq_getElem hil⟩
  have HZ := Lib.hid hz
  have hi' : ixF (isTm nd tg) x.timers 0 = (i : Int) := by rw [hi]; omega
  have HI := Lib.hid hi'
  have hgC : (Value.slice AT x.timers.length cT).ownBlock ≠ some g := oT.ne hg (by decide)
  obtain ⟨gc, rfl⟩ : ∃ gc, AT = some ⟨gc, 0, none⟩ := by
    rcases oT.2 with ⟨h, h0⟩ | ⟨g', cap, cur, h, _⟩
    · omega
    · injection h with h1 h2 h3
      exact ⟨g', h1⟩
  have hgn : gc ≠ g := by simpa [Value.ownBlock] using hgC
  have q0 : (0 : Int) ≤ (i : Int) := by omega
  rw [hl1] at q64
  clear hi hi' hts hz
  go_enter Tryz.func66, Tryz.ntmps66
  go_wp2_with (first
    | (go_at_call 71; refine calls_below (isNode_any _ _ _ _ _ _ _ _ _ _ _ _ _ _) ?_; intro w1 hb1; rw [HN.out])
    | (go_at_call 102; refine calls_below (timer_any B g x nd tg _ (hS.below hb1) (by omega)) ?_; intro w2 hb2; rw [HI.out]; have hg3 := bl_below hg (below_trans hb1 hb2); have k53 := bl_cell hg3 5; have f53 := bl_frozen hg3 5; simp at k53; have hlt3 := bl_lt hg3)
    | (go_at_call 96; refine (withoutT_any gc i cT B x.timers z _ HZ.out (oT.below (below_trans hb1 hb2))).mono ?_; rintro e w5 ⟨rfl, oC5, hg5⟩; have hg5' := bl_grown hg3 hg5 (by simpa using hgn.symm); have k55 := bl_cell hg5' 5; have f55 := bl_frozen hg5' 5; have k15 := bl_cell hg5' 1; simp at k55 k15; have hlt5 := bl_lt hg5'))
  have hb2' := below_trans hb1 hb2
  have oW3 := oW.below hb2'
  have oC3 := oC.below hb2'
  have oT3 := oT.below hb2'
  have hgr : w2.grownBy w5 (some gc) := hg5
  have hK1 : Kp w2 w5 g (some gc) := (Kp.refl w2 g _).grown hgr (.inr (.inl rfl))
  have hK2 := hK1.setCell (p := ⟨g, 5, none⟩) (.inl rfl) (.slice (some ⟨gc, 0, none⟩) (x.timers.length - 1) cT)
  obtain ⟨w3, hw3⟩ : ∃ w3, w3 = w5.setCell ⟨g, 5, none⟩ (.slice (some ⟨gc, 0, none⟩) (x.timers.length - 1) cT) := ⟨_, rfl⟩
  have hBw : Below B w w3 := by
    rw [hw3]
    exact (hb2'.mono hB0).trans (hK2.toBelow hB (fun k hk => by cases hk; exact (oT3.lt gc rfl).1) (by have := hb2'.size; omega))
  have hS3 : St w3 B g { x with timers := ts } := by
    rw [hte, hw3]
    refine ⟨.slice AW x.way.length cW, .slice AC x.cuts.length cC, .slice (some ⟨gc, 0, none⟩) (x.timers.length - 1) cT, by simpa using bl_set hg5' 5 _, hB, ?_, ?_, ?_⟩
    · exact hK2.own oW3 (oW3.ne hg3 (by decide)) (oW3.ne_own oT3 (by decide))
    · exact hK2.own oC3 (oC3.ne hg3 (by decide)) (oC3.ne_own oT3 (by decide))
    · exact oC5.setCell (oC5.ne hg5' (by decide)) _
  have HF3 : Hid (Frm w w3 g) := by
    show Frm w w3 g
    rw [hw3]
    exact (Frm.of_below hS.lt hb2').trans (Frm.kp (row := some gc) (vT' := .slice (some ⟨gc, 0, none⟩) (x.timers.length - 1) cT) hK2 hg3 (.inr (.inr rfl)) (by simpa using bl_set hg5' 5 (.slice (some ⟨gc, 0, none⟩) (x.timers.length - 1) cT)) (inOld_self3 _ _ _ _) (inOld_self4 _ _ _ _) (inOld_5 (.inl rfl)))
  have hg0 := hS.lt
  have hsz : w5.heap.size = w3.heap.size := by rw [hw3]; simp [World.setCell]
  rw [← hw3, hsz]
  clear hb1 hb2 oW oC oT hg hg3 k53 f53 hlt3 k0 k1 k2 k3 k4 k5 hlt hte HI q64 hS hb2' oW3 oC3 oT3 hgr hK1 hK2 oC5 hg5 hg5' k55 f55 k15 hlt5 hsz hw3 hl1 HZ hgC hgn q0 hil
  obtain ⟨AW3, cW3, AC3, cC3, AT3, cT3, hg3, -, oW3, oC3, oT3⟩ := hS3.open
  obtain ⟨W, hW⟩ : ∃ W, W = w3.alloc (.cells #[.int .i64 (x.now + n), .int .i64 nd, .int .i64 tg] 86) := ⟨_, rfl⟩
  rw [← hW]
  have hgW := bl_alloc hg3 (.cells #[.int .i64 (x.now + n), .int .i64 nd, .int .i64 tg] 86)
  have hbW := bl_new w3 (.cells #[.int .i64 (x.now + n), .int .i64 nd, .int .i64 tg] 86)
  have oWW := oW3.alloc (.cells #[.int .i64 (x.now + n), .int .i64 nd, .int .i64 tg] 86)
  have oCW := oC3.alloc (.cells #[.int .i64 (x.now + n), .int .i64 nd, .int .i64 tg] 86)
  have oTW := oT3.alloc (.cells #[.int .i64 (x.now + n), .int .i64 nd, .int .i64 tg] 86)
  have hBW : Below B w W := by rw [hW]; exact hBw.alloc (by have := hBw.size; omega) _
  have HFW : Hid (Frm w W g) := by show Frm w W g; rw [hW]; exact HF3.out.below (by have := hBw.size; omega) hg0 (below_alloc (Below.refl _ _) _)
  clear HF3
  rw [← hW] at hgW hbW oWW oCW oTW
  have hnb : ∀ k, (Value.slice AT3 ts.length cT3).ownBlock = some k → k < w3.heap.size := fun k h => (oT3.lt k h).2
  generalize w3.heap.size = bx at *
  have g5 := bl_cell hgW 5
  have b0 := bl_cell hbW 0
  have b1 := bl_cell hbW 1
  have b2 := bl_cell hbW 2
  simp at g5 b0 b1 b2
  have hgl := bl_lt hgW
  have hbl := bl_lt hbW
  clear hW hg3 oW3 oC3 oT3 hS3 hBw
  have HR : Hid (Rd W AT3 ts) := by
    obtain ⟨A, c, e, _, h⟩ := oTW.slice
    cases e
    exact h
  refine wp_mix [(0, true), (1, true), (2, true), (3, true), (4, true), (5, true), (6, false), (7, true), (8, true), (9, true), (10, true)] 11
    (fun w' => Below W.heap.size W w')
    (by kernel_rfl) (by kernel_rfl) (by kernel_rfl) (by kernel_rfl) (by kernel_rfl) (fun d _ _ _ _ h => by cases d <;> exact h) (Below.refl _ _).drew ?_
  simp only [pick, List.map_cons, List.map_nil, List.getD_cons_zero, List.getD_cons_succ, List.drop_succ_cons, List.drop_zero]
  iterate 6
    apply mix_take
    case hw => rfl
    case hy => intro W' hW; obtain ⟨hwc, -⟩ := bcell hW; go_simp; try rfl
    simp only [Act.put, List.setIfInBounds_toArray, List.set_cons_zero, List.set_cons_succ]
  refine mix_do fun K' hK' => ?_
  go_wp2_with fail
  refine (BsT_any AT3 cT3 ts ⟨x.now + n, nd, tg⟩ _ (by have := HF.out; omega) (HR.out.drew)).mono ?_
  rintro e W2 ⟨p, rfl, hp, hb2⟩
  have hb2' : Below W.heap.size W W2 := below_trans (Below.refl _ W).drew hb2
  have HP := Lib.hid hp
  clear hp
  go_wp2
  refine hK' _ _ hb2' ?_
  clear hK' K'
  iterate 4
    apply mix_take
    case hw => rfl
    case hy => intro W' hW; go_simp; try rfl
    simp only [Act.put, List.setIfInBounds_toArray, List.set_cons_zero, List.set_cons_succ]
  refine mix_nil ?_
  go_wp2
  have hg2 := bl_below hgW hb2'
  have hx2 := bl_below hbW hb2'
  have g25 := bl_cell hg2 5
  have c0 := bl_cell hx2 0
  have c1 := bl_cell hx2 1
  have c2 := bl_cell hx2 2
  simp at g25 c0 c1 c2
  have hgl2 := bl_lt hg2
  have hbl2 := bl_lt hx2
  refine wp_mix [(0, true), (1, true), (2, true), (3, true), (4, true), (5, true), (6, true), (7, true), (8, false), (9, false)] 10
    (fun w' => w'.cell? ⟨g, 5, none⟩ = some (.slice AT3 ts.length cT3) ∧ w'.cell? ⟨bx, 0, none⟩ = some (.int .i64 (x.now + n)) ∧ w'.cell? ⟨bx, 1, none⟩ = some (.int .i64 nd) ∧ w'.cell? ⟨bx, 2, none⟩ = some (.int .i64 tg))
    (by kernel_rfl) (by kernel_rfl) (by kernel_rfl) (by kernel_rfl) (by kernel_rfl) (fun d _ _ _ _ h => by cases d <;> exact h) (by go_simp) ?_
  simp only [pick, List.map_cons, List.map_nil, List.getD_cons_zero, List.getD_cons_succ, List.drop_succ_cons, List.drop_zero]
  iterate 8
    apply mix_take
    case hw => rfl
    case hy => intro W' hW; obtain ⟨e0, e1, e2, e3⟩ := hW; go_simp; try rfl
    simp only [Act.put, List.setIfInBounds_toArray, List.set_cons_zero, List.set_cons_succ]
  refine mix_do fun K' hK' => ?_
  go_wp2
  refine hK' _ _ (by go_simp) ?_
  clear hK' K'
  refine mix_do fun K' hK' => ?_
  go_wp2_with fail
  have oC4 := oCW.below hb2'
  have oW4 := oWW.below hb2'
  have oT4 := oTW.below hb2'
  refine (InsertT_any (.slice AT3 ts.length cT3) p B W2.heap.size 86 ts ⟨x.now + n, nd, tg⟩ _ HP.out.1 (oT4.drew.alloc _) (by have := hBW.size; have := hb2'.size; simp; omega) (by have := HF.out; omega) (fun h => by have := (oT4.lt _ h).2; omega) (bl_new W2.drew _)).mono ?_
  rintro e w5 ⟨v5, rfl, oC5, hg5, hat⟩
  obtain ⟨A5, c5, rfl, -, -⟩ := oC5.slice
  have hgC : (Value.slice AT3 ts.length cT3).ownBlock ≠ some g := oT4.ne hg2 (by decide)
  have hxC : ¬ some bx = (Value.slice AT3 ts.length cT3).ownBlock := fun h => by
    have := hnb _ h.symm
    omega
  have hg5' := bl_grown (bl_alloc (bl_drew hg2) _) hg5 (fun h => hgC h.symm)
  have hx5' := bl_grown (bl_alloc (bl_drew hx2) _) hg5 hxC
  have k45 := bl_cell hg5' 5
  have f45 := bl_frozen hg5' 5
  have d0 := bl_cell hx5' 0
  have d1 := bl_cell hx5' 1
  have d2 := bl_cell hx5' 2
  simp at k45 d0 d1 d2
  go_wp2
  refine hK' _ _ (by go_simp) (mix_nil ?_)
  clear hK' K'
  go_wp2
  go_ret
  have hgr : W2.grownBy w5 (Value.slice AT3 ts.length cT3).ownBlock := grown_of_drew (grown_of_alloc hg5)
  have hK1 : Kp W2 w5 g (Value.slice AT3 ts.length cT3).ownBlock := (Kp.refl W2 g _).grown hgr (.inr (.inl rfl))
  have hK2 := hK1.setCell (p := ⟨g, 5, none⟩) (.inl rfl) (.slice A5 (insAt ts p ⟨x.now + n, nd, tg⟩).length c5)
  refine ⟨p, HP.out, rfl, ⟨.slice AW3 x.way.length cW3, .slice AC3 x.cuts.length cC3, .slice A5 (insAt ts p ⟨x.now + n, nd, tg⟩).length c5, by simpa using bl_set hg5' 5 _, hB, ?_, ?_, ?_⟩, ?_, ?_⟩
  · exact hK2.own oW4 (oW4.ne hg2 (by decide)) (oW4.ne_own oT4 (by decide))
  · exact hK2.own oC4 (oC4.ne hg2 (by decide)) (oC4.ne_own oT4 (by decide))
  · exact oC5.setCell (oC5.ne hg5' (by decide)) _
  · exact (hBW.trans (hb2'.mono (by have := hBW.size; omega))).trans (hK2.toBelow hB (fun k hk => (oT4.lt k hk).1) (by have := hBW.size; have := hb2'.size; omega))
  · exact (HFW.out.trans (Frm.of_below hgl hb2')).trans (Frm.kp (vT' := .slice A5 (insAt ts p ⟨x.now + n, nd, tg⟩).length c5) hK2 hg2 (.inr (.inr rfl)) (by simpa using bl_set hg5' 5 (.slice A5 (insAt ts p ⟨x.now + n, nd, tg⟩).length c5)) (inOld_self3 _ _ _ _) (inOld_self4 _ _ _ _) (inOld_5 (hat.imp_right fun h => ⟨_, h, by simp⟩)))

theorem set_ok (B g : Nat) (x : Nt) (nd tg n : Int) (w : World) (hS : St w B g x) (hb : setB x.nodes nd tg n = true) (hl : x.timers.length ≤ 64) (hf : (tmDrop nd tg x.timers).length < 64) (hB0 : B ≤ w.heap.size) (hnow0 : 0 ≤ x.now) (hnow1 : x.now ≤ 1099511627776) :
    Calls Tryz.prog 66 #[.pointer (some ⟨g, 0, none⟩), .int .i64 nd, .int .i64 tg, .int .i64 n] w fun e w' =>
      ∃ p : Nat, bsAt tmCmp (tmDrop nd tg x.timers) p ⟨x.now + n, nd, tg⟩ ∧ e = .returned (.int .i64 0) ∧ St w' B g { x with timers := insAt (tmDrop nd tg x.timers) p ⟨x.now + n, nd, tg⟩ } ∧ Below B w w' ∧ Frm w w' g := by
  rcases ixF_in (isTm nd tg) x.timers 0 (by omega) with hi | ⟨i, hil, hi⟩
  · exact set_new B g x nd tg n w hS hb hi hl hf hB0 hnow0 hnow1
  · exact set_again B g x nd tg n w hS i hb hi hil hl hf hB0 hnow0 hnow1
end Go.Proofs.YthlbmcfliejdiaaGreat
end

section
set_option linter.unusedVariables false
set_option linter.unusedSimpArgs false
namespace Go.Proofs.YthlbmcfliejdiaaGreat
open Go.RowKit

theorem below_drewN {B : Nat} {w w1 : World} (h : Below B w w1) (n : Nat) : Below B w (w1.drewN n) := ⟨h.os, h.tape, h.output, h.size, h.block⟩
/-- Where the timers of a tick end: those ahead are of it, the one there is not. -/
def tickAt (now : Int) (xs : List Tm) (k : Nat) : Prop := k ≤ xs.length ∧ (∀ y ∈ xs.take k, y.t = now) ∧ (∀ z, xs[k]? = some z → z.t ≠ now)

set_option maxHeartbeats 1000000 in
set_option maxRecDepth 100000 in
theorem tick_lim (B g : Nat) (x : Nt) (w : World) (hS : St w B g x) (hn : x.now = 1099511627776) :
    Calls Tryz.prog 59 #[.pointer (some ⟨g, 0, none⟩)] w fun e w' => e = .returned (.tuple #[.slice none 0 0, .int .i64 3]) ∧ Below w.heap.size w w' := by
  obtain ⟨AW, cW, AC, cC, AT, cT, hg, hB, oW, oC, oT⟩ := hS.open
  have k1 := bl_cell hg 1
  simp at k1
  rw [hn] at k1
  clear hn hg oW oC oT hS
  go_enter Tryz.func59, Tryz.ntmps59
  go_wp2
  go_ret2
  exact ⟨rfl, Below.refl _ _⟩

set_option maxHeartbeats 4000000 in
set_option maxRecDepth 100000 in
theorem tick_ok (B g : Nat) (x : Nt) (w : World) (hS : St w B g x) (hn0 : 0 ≤ x.now) (hn1 : x.now < 1099511627776) (hl : x.timers.length ≤ 10000000) (hB0 : B ≤ w.heap.size) :
    Calls Tryz.prog 59 #[.pointer (some ⟨g, 0, none⟩)] w fun e w' => ∃ k v, tickAt (x.now + 1) x.timers k ∧ e = .returned (.tuple #[v, .int .i64 0]) ∧
      Own w' B 86 v (x.timers.take k) ∧ St w' B g { x with now := x.now + 1, timers := x.timers.drop k } ∧ Below B w w' ∧ Frm w w' g := by
  obtain ⟨AW, cW, AC, cC, AT, cT, hg, hB, oW, oC, oT⟩ := hS.open
  have k1 := bl_cell hg 1
  simp at k1
  have f1 := bl_frozen hg 1
  have hlt := bl_lt hg
  have hw : IntKind.i64.wrap (x.now + 1) = x.now + 1 := IntWalk.i64_in _ (by omega)
  have hq : (x.now == 1099511627776) = false := by rw [beq_eq_false_iff_ne]; omega
  have hS1 : Hid (St (w.setCell ⟨g, 1, none⟩ (.int .i64 (x.now + 1))) B g { x with now := x.now + 1 }) := by
    refine ⟨.slice AW x.way.length cW, .slice AC x.cuts.length cC, .slice AT x.timers.length cT, by simpa using bl_set hg 1 _, hB, ?_, ?_, ?_⟩
    · exact oW.setCell (oW.ne hg (by decide)) _
    · exact oC.setCell (oC.ne hg (by decide)) _
    · exact oT.setCell (oT.ne hg (by decide)) _
  have hB1 : Hid (Below B w (w.setCell ⟨g, 1, none⟩ (.int .i64 (x.now + 1)))) := (Below.refl B w).setCell (p := ⟨g, 1, none⟩) hB _
  have hF1 : Hid (Frm w (w.setCell ⟨g, 1, none⟩ (.int .i64 (x.now + 1))) g) :=
    Frm.kp (row := (Value.slice AW x.way.length cW).ownBlock) (vW' := .slice AW x.way.length cW) (vC' := .slice AC x.cuts.length cC) (vT' := .slice AT x.timers.length cT) ((Kp.refl w g (Value.slice AW x.way.length cW).ownBlock).setCell (p := ⟨g, 1, none⟩) (.inl rfl) _) hg (.inl rfl) (by simpa using bl_set hg 1 _) (inOld_self3 _ _ _ _) (inOld_self4 _ _ _ _) (inOld_self5 _ _ _ _)
  have hT1 : Hid (∀ a n c, (w.setCell ⟨g, 1, none⟩ (.int .i64 (x.now + 1))).cell? ⟨g, 5, none⟩ = some (.slice (some a) n c) → a.block < w.heap.size) := by
    have h5 := bl_cell hg 5
    simp at h5
    have h6 : (w.setCell ⟨g, 1, none⟩ (.int .i64 (x.now + 1))).cell? ⟨g, 5, none⟩ = w.cell? ⟨g, 5, none⟩ := by go_simp
    intro a n c h
    rw [h6, h5] at h
    cases h
    exact (oT.lt _ rfl).2
  clear hg oW oC oT hS
  go_enter Tryz.func59, Tryz.ntmps59
  go_wp2
  go_loopg [4] x.timers.length (fun kx v wr => ∃ k, k ≤ x.timers.length ∧ x.timers.length - k ≤ kx ∧ Hid (∀ y ∈ x.timers.take k, y.t = x.now + 1) ∧ Hid (Own wr w.heap.size 86 v (x.timers.take k)) ∧
    Hid (St wr B g { x with now := x.now + 1, timers := x.timers.drop k }) ∧ Hid (Below B w wr) ∧ Hid (Frm w wr g) ∧ Hid (∀ a n c, wr.cell? ⟨g, 5, none⟩ = some (.slice (some a) n c) → a.block < w.heap.size))
  case atStart => exact ⟨0, Nat.zero_le _, by omega, fun y hy => by simp at hy, Own.nil _ _ _, hS1.out, hB1.out, hF1.out, hT1.out⟩
  case round =>
    clear hS1 hB1 hT1 hF1 k1 f1
    obtain ⟨k, hk, hkx, hall, hO, hS, hBw, hFr, hTb⟩ := hrel
    obtain ⟨ys, hys⟩ : ∃ ys, ys = x.timers.drop k := ⟨_, rfl⟩
    obtain ⟨fs, hfs⟩ : ∃ fs, fs = x.timers.take k := ⟨_, rfl⟩
    rw [← hys] at hS
    rw [← hfs] at hO
    have HFS := Lib.hid hfs
    have HYS := Lib.hid hys
    clear hfs hys
    obtain ⟨AW, cW, AC, cC, AT, cT, hg, -, oW, oC, oT⟩ := hS.out.open
    obtain ⟨AF, cF, rfl, -, -⟩ := hO.out.slice
    have k1 := bl_cell hg 1
    have k5 := bl_cell hg 5
    simp at k1 k5
    have f5 := bl_frozen hg 5
    have hlt1 := bl_lt hg
    have HR : Hid (Rd wr AT ys) := by
      obtain ⟨A, c, e, _, h⟩ := oT.slice
      cases e
      exact h
    rcases ys with _ | ⟨z, r⟩
    · have hkl : k = x.timers.length := by
        have := congrArg List.length HYS.out
        simp at this
        omega
      go_wp2
      go_quiet (fail)
      go_wp2
      go_ret2
      exact ⟨k, _, ⟨hk, hall.out, fun z hz => by rw [hkl] at hz; simp at hz⟩, rfl, by rw [← HFS.out]; exact hO.out.weaken hB0, by rw [← HYS.out]; exact hS.out, below_drewN hBw.out _, hFr.out⟩
    · obtain ⟨gT, off, z', e, hz', c0, c1, c2⟩ := HR.out.tm 0 (by simp)
      subst e
      obtain rfl : z' = z := by simpa using hz'.out.symm
      simp only [Nat.zero_mul, Nat.add_zero] at c0 c1 c2
      have hkl : k < x.timers.length := by
        have := congrArg List.length HYS.out
        simp at this
        omega
      have hzk : Hid (x.timers[k]? = some z') := by
        show _ = _
        have := congrArg (·[0]?) HYS.out
        simpa using this.symm
      have hsz : (0 : Int) < ((z' :: r : List Tm).length : Int) := by simp
      obtain ⟨n, hn⟩ : ∃ n, n = (z' :: r : List Tm).length := ⟨_, rfl⟩
      rw [← hn] at k5 hsz
      have HN := Lib.hid hn
      clear hn
      have hsn : 0 < n := by omega
      have hsd : decide (0 < n) = true := by simpa using hsn
      have hbt : gT < wr.heap.size := World.block_lt_of_cell? wr _ c0
      by_cases hnow : z'.t = x.now + 1
      · have hq2 : (z'.t == x.now + 1) = true := by simpa using hnow
        go_wp2
        have HNOW := Lib.hid hnow
        go_quiet (fail)
        obtain ⟨wq, hwq⟩ : ∃ wq, wq = wr.drewN nq := ⟨_, rfl⟩
        rw [← hwq]
        have hBq : Hid (Below B w wq) := by rw [hwq]; exact below_drewN hBw.out _
        have hFq : Hid (Frm w wq g) := by rw [hwq]; exact hFr.out
        have hSq : St wq B g { x with now := x.now + 1, timers := z' :: r } := by rw [hwq]; exact hS.out
        have hOq : Hid (Own wq w.heap.size 86 (.slice AF fs.length cF) fs) := by rw [hwq]; exact hO.out
        have hTq : Hid (∀ a n c, wq.cell? ⟨g, 5, none⟩ = some (.slice (some a) n c) → a.block < w.heap.size) := by rw [hwq]; exact hTb.out
        clear hwq hTb hBw hFr hg oW oC oT hO k1 k5 f5 hlt1 hbt c0 c1 c2 hS HR
        obtain ⟨AW, cW, AC, cC, AT, cT, hg, -, oW, oC, oT⟩ := hSq.open
        have hgC : (Value.slice AT (z' :: r : List Tm).length cT).ownBlock ≠ some g := oT.ne hg (by decide)
        obtain ⟨gU, rfl⟩ : ∃ gU, AT = some ⟨gU, 0, none⟩ := by
          rcases oT.2 with ⟨h, h0⟩ | ⟨g', cap, cur, h, _⟩
          · simp at h0
          · injection h with h1 h2 h3
            exact ⟨g', h1⟩
        have hgn : gU ≠ g := by simpa [Value.ownBlock] using hgC
        have hul : gU < wq.heap.size := (oT.lt gU rfl).2
        have hgA := bl_alloc hg (.cells #[.int .i64 0, .int .i64 0, .int .i64 0] 86)
        have hbA := bl_new wq (.cells #[.int .i64 0, .int .i64 0, .int .i64 0] 86)
        have oTA := oT.alloc (.cells #[.int .i64 0, .int .i64 0, .int .i64 0] 86)
        have k5 := bl_cell hg 5
        simp at k5
        have hltq := bl_lt hg
        clear HN hsn hsd hsz
        go_wp2_with fail
        refine (withoutT_any gU 0 cT B (z' :: r) z' _ rfl oTA).mono ?_
        rintro e w5 ⟨rfl, oT5, hg5⟩
        have oT5' : Own w5 B 86 (.slice (some ⟨gU, 0, none⟩) r.length cT) r := oT5
        have hnb : ¬ wq.heap.size = gU := by omega
        have hg5' := bl_grown hgA hg5 (by simpa using hgn.symm)
        have hb5' := bl_grown hbA hg5 (by simpa using hnb)
        have f55 := bl_frozen hg5' 5
        have e0 := bl_frozen hb5' 0
        have e1 := bl_frozen hb5' 1
        have e2 := bl_frozen hb5' 2
        have s5 := bl_cell hg5' 5
        have s0 := bl_cell hb5' 0
        have s1 := bl_cell hb5' 1
        have s2 := bl_cell hb5' 2
        simp at s5 s0 s1 s2
        have hgr : wq.grownBy w5 (some gU) := grown_of_alloc hg5
        have hsz5 : wq.heap.size < w5.heap.size := bl_lt hb5'
        have n1 : ¬ wq.heap.size = g := by omega
        have n2 : ¬ g = wq.heap.size := by omega
        have hK1 : Kp wq w5 g (some gU) := (Kp.refl wq g _).grown hgr (.inr (.inl rfl))
        have hgw : gU < w.heap.size := hTq.out _ _ _ k5
        have hFl := hOq.out.lt
        have hFU : (Value.slice AF fs.length cF).ownBlock ≠ some gU := fun h => by have := (hFl _ h).1; omega
        have hFG : (Value.slice AF fs.length cF).ownBlock ≠ some g := fun h => by have := (hFl _ h).1; omega
        have hFB : (Value.slice AF fs.length cF).ownBlock ≠ some wq.heap.size := fun h => by have := (hFl _ h).2; omega
        have hO5 : Hid (Own w5 w.heap.size 86 (.slice AF fs.length cF) fs) := hOq.out.kept hgr (.inr hFU)
        have hw5 : w.heap.size ≤ w5.heap.size := by have := hBq.out.size; omega
        clear k5 hTq
        go_wp2_with (at_builtin; refine wpList_app _ w.heap.size rfl (.tmp 57) (.tmp 59) 24 86 _ 24 rfl Tryz.underlying24 infoT rfl (by decide) (by decide) (.slice AF fs.length cF) fs [z'] (some ⟨w5.heap.size, 0, none⟩) 1 rfl rfl ?hO ?hR ?hB ?hL ?_)
        case hO =>
          refine Own.alloc ?_ _
          repeat (refine Own.setCell ?_ (by first | exact hFG | exact hFB) _)
          exact hO5.out
        case hR =>
          have h := Rd.new ((((w5.setCell ⟨g, 5, none⟩ (.slice (some ⟨gU, 0, none⟩) r.length cT)).setCell ⟨wq.heap.size, 0, none⟩ (.int .i64 (x.now + 1))).setCell ⟨wq.heap.size, 1, none⟩ (.int .i64 z'.node)).setCell ⟨wq.heap.size, 2, none⟩ (.int .i64 z'.tag)) 86 z' #[.int .i64 (x.now + 1), .int .i64 z'.node, .int .i64 z'.tag] (by simp [Enc.enc, HNOW.out])
          have hs : ((((w5.setCell ⟨g, 5, none⟩ (.slice (some ⟨gU, 0, none⟩) r.length cT)).setCell ⟨wq.heap.size, 0, none⟩ (.int .i64 (x.now + 1))).setCell ⟨wq.heap.size, 1, none⟩ (.int .i64 z'.node)).setCell ⟨wq.heap.size, 2, none⟩ (.int .i64 z'.tag)).heap.size = w5.heap.size := by simp [World.setCell]
          rw [hs] at h
          exact h
        case hB => simp [World.setCell]; omega
        case hL =>
          have : fs.length ≤ x.timers.length := by rw [HFS.out]; simp; omega
          simp; omega
        intro v1 w6 hO6 hg6 hat
        obtain ⟨A6, c6, rfl, -, -⟩ := hO6.slice
        have b5 := bl_grown (bl_alloc (bl_far (bl_far (bl_far (bl_set hg5' 5 (.slice (some ⟨gU, 0, none⟩) r.length cT)) n2 _) n2 _) n2 _) _) hg6 (fun h => hFG h.symm)
        go_wp2
        go_roundg (x.timers.length - (k + 1))
        case measure => omega
        case rel =>
          have hKa := hK1.setCell (p := ⟨g, 5, none⟩) (.inl rfl) (.slice (some ⟨gU, 0, none⟩) r.length cT)
          have hKb := ((hKa.setCell (p := ⟨wq.heap.size, 0, none⟩) (.inr (Nat.le_refl _)) (.int .i64 (x.now + 1))).setCell (p := ⟨wq.heap.size, 1, none⟩) (.inr (Nat.le_refl _)) (.int .i64 z'.node)).setCell (p := ⟨wq.heap.size, 2, none⟩) (.inr (Nat.le_refl _)) (.int .i64 z'.tag)
          have hsub : Hid (fs ++ [z'] = x.timers.take (k + 1)) := by
            show _ = _
            rw [HFS.out, List.take_add_one, hzk.out]; rfl
          have hdr : Hid (r = x.timers.drop (k + 1)) := by
            show _ = _
            have := congrArg List.tail HYS.out
            simpa using this
          have hlen : r.length = (x.timers.drop (k + 1)).length := by rw [← hdr.out]
          refine ⟨k + 1, by omega, Nat.le_refl _, ?_, ?_, ?_, ?_, ?_, ?_⟩
          · show ∀ y ∈ x.timers.take (k + 1), y.t = x.now + 1
            rw [← hsub.out]
            intro y hy
            rcases List.mem_append.1 hy with h | h
            · exact hall.out y (by rw [← HFS.out]; exact h)
            · simp at h; subst h; exact HNOW.out
          · show Own w6 _ _ _ (x.timers.take (k + 1))
            rw [← hsub.out]; exact hO6
          · show St w6 B g { x with now := x.now + 1, timers := x.timers.drop (k + 1) }
            rw [← hdr.out]
            have oW6 := (((hKb.own oW (oW.ne hg (by decide)) (oW.ne_own oT (by decide))).alloc (.cells #[.int .i64 (x.now + 1), .int .i64 z'.node, .int .i64 z'.tag] 86)).kept hg6 (oW.ne_own hOq.out (by decide)))
            have oC6 := (((hKb.own oC (oC.ne hg (by decide)) (oC.ne_own oT (by decide))).alloc (.cells #[.int .i64 (x.now + 1), .int .i64 z'.node, .int .i64 z'.tag] 86)).kept hg6 (oC.ne_own hOq.out (by decide)))
            have hUG : (Value.slice (some ⟨gU, 0, none⟩) r.length cT).ownBlock ≠ some g := by simpa [Value.ownBlock] using hgn
            have hUB : (Value.slice (some ⟨gU, 0, none⟩) r.length cT).ownBlock ≠ some wq.heap.size := by simp [Value.ownBlock]; omega
            have oT6 := (((((oT5'.setCell (p := ⟨g, 5, none⟩) hUG (.slice (some ⟨gU, 0, none⟩) r.length cT)).setCell (p := ⟨wq.heap.size, 0, none⟩) hUB (.int .i64 (x.now + 1))).setCell (p := ⟨wq.heap.size, 1, none⟩) hUB (.int .i64 z'.node)).setCell (p := ⟨wq.heap.size, 2, none⟩) hUB (.int .i64 z'.tag)).alloc (.cells #[.int .i64 (x.now + 1), .int .i64 z'.node, .int .i64 z'.tag] 86)).kept hg6 (.inr (fun h => hFU h.symm))
            exact ⟨_, _, _, by simpa using b5, hB, oW6, oC6, oT6⟩
          · show Below B w w6
            have h1 := (hBq.out.trans (hKb.toBelow hB (fun k hk => by cases hk; exact (oT.lt _ rfl).1) (by have := hBq.out.size; omega))).alloc (o := .cells #[.int .i64 (x.now + 1), .int .i64 z'.node, .int .i64 z'.tag] 86) (by simp [World.setCell]; omega)
            exact h1.grown hg6 (by simp [World.setCell]; omega) (fun k hk => by have := (hFl k hk).1; omega)
          · show Frm w w6 g
            have hsq := hBq.out.size
            have hsz6 : wq.heap.size ≤ w5.heap.size := hgr.size
            refine Frm.grown (Frm.below (hFq.out.trans (Frm.kp (row := some gU) (vW' := .slice AW x.way.length cW) (vC' := .slice AC x.cuts.length cC) (vT' := .slice (some ⟨gU, 0, none⟩) r.length cT) hKb hg (.inr (.inr rfl)) (bl_far (bl_far (bl_far (by simpa using bl_set hg5' 5 (.slice (some ⟨gU, 0, none⟩) r.length cT)) n2 _) n2 _) n2 _) (inOld_self3 _ _ _ _) (inOld_self4 _ _ _ _) (inOld_5 (.inl rfl)))) ?_ hlt (below_alloc (Below.refl _ _) (.cells #[.int .i64 (x.now + 1), .int .i64 z'.node, .int .i64 z'.tag] 86))) ?_ hlt hg6 (fun r hr => (hFl r hr).1)
            all_goals (simp [World.setCell]; omega)
          · intro a n c h
            have h7 := bl_cell b5 5
            simp at h7
            rw [h7] at h
            cases h
            exact hgw
      · have hq2 : (z'.t == x.now + 1) = false := by simpa using hnow
        go_wp2
        go_quiet (fail)
        go_wp2
        go_ret2
        exact ⟨k, _, ⟨hk, hall.out, fun z hz => by have := hzk.out; rw [hz] at this; cases this; exact hnow⟩, rfl, by rw [← HFS.out]; exact hO.out.weaken hB0, by rw [← HYS.out]; exact hS.out, below_drewN hBw.out _, hFr.out⟩
end Go.Proofs.YthlbmcfliejdiaaGreat
end

section
set_option linter.unusedVariables false
set_option linter.unusedSimpArgs false
namespace Go.Proofs.YthlbmcfliejdiaaGreat
open Go.RowKit Go.Shelf
attribute [local go_sem] Oper.semAt_some

def prL (c : Lk) : Int × Int := (c.a, c.b)
def canB (x : Nt) (l : Lt) : Bool := decide (l.rd ≤ x.now) && !decide (((mkLk l.fr l.to).a, (mkLk l.fr l.to).b) ∈ x.cuts.map prL)
def canI (x : Nt) (k : Nat) : Bool := match x.way[k]? with
  | some l => canB x l
  | none => false
def rdyTo (x : Nt) (k : Nat) : List Nat := (List.range k).filter (canI x)
def rdyF (x : Nt) : List Nat := rdyTo x x.way.length
theorem rdyTo_succ (x : Nt) (k : Nat) : rdyTo x (k + 1) = if canI x k then rdyTo x k ++ [k] else rdyTo x k := by
  unfold rdyTo
  rw [List.range_succ, List.filter_append]
  cases h : canI x k <;> simp [h]
theorem rdyTo_pre (x : Nt) (k m : Nat) (h : k ≤ m) : rdyTo x k <+: rdyTo x m := by
  obtain ⟨d, rfl⟩ : ∃ d, m = k + d := ⟨m - k, by omega⟩
  induction d with
  | zero => exact List.prefix_refl _
  | succ d ih =>
    have h1 := ih (by omega)
    rw [← Nat.add_assoc, rdyTo_succ]
    split
    · exact h1.trans (List.prefix_append _ _)
    · exact h1

theorem callsIn_below {u : Nat} {P : Program} {f : FuncId} {args : Array Value} {w : World} {R : Ending → World → Prop} {v : Value} (h : Calls P f args w fun e w' => e = .returned v ∧ Below w.heap.size w w')
    (k : ∀ w', Below w.heap.size w w' → R (.returned v) w') : CallsIn Fence.wide u P f args w R := callsIn_wide.2 (calls_below h k)
theorem ab_below {β : Type} {m : Nat} {J : β → World → Prop} (hJ : AbidesFrom m J) {s : β} {A B : World} (h : J s A) (hb : Below A.heap.size A B) : J s B :=
  hJ s A B none h ⟨hb.os, hb.tape, hb.output, hb.size, fun i hi _ => hb.block i hi⟩ (by simp)
/-- What a round that goes on keeps: what lay below, and what is walked. -/
def Kpt (n : Nat) (A B : World) : Prop := Below n A B ∧ KeepsWalks A B
theorem IsSet.walks {w w1 : World} {b : Nat} {ks : List (Int × Int)} (h : IsSet w b ks) (hk : KeepsWalks w w1) : IsSet w1 b ks := by
  obtain ⟨es, clock, hb, hes⟩ := h
  exact ⟨es, clock, hk.same b _ hb rfl, hes⟩

set_option maxHeartbeats 4000000 in
set_option maxRecDepth 100000 in
theorem ready1_in (n l bx g B : Nat) (x : Nt) (w : World) (hbx : w.cell? ⟨bx, 0, none⟩ = some (.pointer (some ⟨g, 0, none⟩))) (hS : St w B g x) (hnd : (x.cuts.map prL).Nodup) (hlw : x.way.length ≤ 10000000) (hlc : x.cuts.length ≤ 10000000)
    (J Jx : List Nat → World → Prop) (W : World) (hb0 : Below w.heap.size w W) (hJ : AbidesFrom W.heap.size J)
    (hY : ∀ pre (k : Nat) W1, J pre W1 → pre.length < (rdyF x).length → YieldAt Fence.wide (n - 1) Tryz.prog l #[.int .i64 (k : Int)] W1 fun e W' =>
      (e = .returned (.bool true) ∧ J (pre ++ [k]) W' ∧ Kpt w.heap.size W1 W') ∨ (e = .returned (.bool false) ∧ Jx (pre ++ [k]) W')) (h0 : J [] W) :
    CallsIn Fence.wide n Tryz.prog 94 #[.func (.yield l) #[] #[], .pointer (some ⟨bx, 0, none⟩)] W fun e W' => (∃ v, e = .returned v) ∧ ((∃ xs, xs = rdyF x ∧ J xs W') ∨ (∃ pre, pre <+: rdyF x ∧ Jx pre W')) := by
  have HBX := Lib.hid hbx
  have HS := Lib.hid hS
  have HND := Lib.hid hnd
  have HJ := Lib.hid hJ
  have HY := Lib.hid hY
  have HB0 := Lib.hid hb0
  have H0 := Lib.hid h0
  have hbW := cell_below hb0 hbx
  obtain ⟨AW, cW, AC, cC, AT, cT, hg, hB, oW, oC, oT⟩ := hS.open
  have HG := Lib.hid hg
  have hgW := bl_below hg hb0
  have k4 := bl_cell hgW 4
  have k3 := bl_cell hgW 3
  simp at k4 k3
  have hlt := bl_lt hgW
  have hltb := World.block_lt_of_cell? W _ hbW
  simp only at hltb
  have HRC : Hid (Rd w AC x.cuts) := by
    obtain ⟨A, c, e, _, h⟩ := oC.slice
    cases e
    exact h
  have HRW : Hid (Rd w AW x.way) := by
    obtain ⟨A, c, e, _, h⟩ := oW.slice
    cases e
    exact h
  have HRC2 : Hid (Rd W AC x.cuts) := HRC.out.below hb0
  clear hbx hS hnd hJ hY hb0 h0 hg hgW oW oC oT HRC
  refine callsIn_of_wp Tryz.func94 rfl trivial ?_ rfl
  simp only [Tryz.ntmps94, List.size_toArray, List.length_cons, List.length_nil, Nat.reduceAdd, Nat.reduceSub, Array.replicate_succ, Array.replicate_zero, List.push_toArray, List.append_toArray, List.nil_append, List.cons_append]
  have hmm := @run_makeMap Tryz.prog
  gi_wp2
  have hB1 : Hid (Below W.heap.size W (W.alloc (.map #[] 0))) := below_alloc (Below.refl _ _) _
  have hS1 : Hid (IsSet (W.alloc (.map #[] 0)) W.heap.size []) := IsSet.new W
  have hJ1 : Hid (J [] (W.alloc (.map #[] 0))) := ab_below HJ.out H0.out (below_alloc (Below.refl _ _) _)
  gi_loopw [15] (fun i wr => ∃ k : Nat, k ≤ x.cuts.length ∧ i = .int .i64 (k : Int) ∧ Hid (IsSet wr W.heap.size ((x.cuts.take k).map prL)) ∧ Hid (Below W.heap.size W wr) ∧ Hid (J [] wr)) (fun i _ => x.cuts.length - (intOf i).toNat)
  case atStart => exact ⟨0, Nat.zero_le _, rfl, hS1.out, hB1.out, hJ1.out⟩
  case round =>
    clear hS1 hB1 hJ1 k4 k3 hbW
    obtain ⟨k, hk, rfl, hS, hB1, hJ1⟩ := hrel
    by_cases hkl : k < x.cuts.length
    · obtain ⟨b, off, c, rfl, hx, c0, c1⟩ := (HRC2.out.below hB1.out).lk k hkl
      have hbl := World.block_lt_of_cell? wr _ c0
      simp only at hbl
      have hset : Hid (IsSet (wr.alloc (.cells #[.int .i64 c.a, .int .i64 c.b] 96)) W.heap.size ((x.cuts.take k).map prL)) := hS.out.alloc _
      have hnm : (c.a, c.b) ∉ (x.cuts.take k).map prL := by
        have h1 := HND.out
        obtain ⟨hkx, hce⟩ := List.getElem?_eq_some_iff.1 hx.out
        rw [← List.take_append_drop k x.cuts, List.map_append, List.nodup_append] at h1
        intro hm
        refine h1.2.2 _ hm _ ?_ rfl
        rw [List.drop_eq_getElem_cons hkx, hce]
        exact List.mem_cons_self ..
      obtain ⟨w3, hu, hs3, hg3⟩ := link_insert _ W.heap.size _ c.a c.b hset.out hnm
      have HS3 := Lib.hid hs3
      have HG3 := Lib.hid hg3
      clear hnm hs3 hg3
      have hltm : W.heap.size < wr.heap.size := hS.out.lt
      gi_wp2
      go_roundw
      case rel =>
        refine ⟨k + 1, by omega, by go_num, ?_, ?_, ?_⟩
        · show IsSet _ _ _
          have h2 : (x.cuts.take (k + 1)).map prL = (x.cuts.take k).map prL ++ [(c.a, c.b)] := by rw [List.take_add_one, hx.out]; simp [prL]
          rw [h2]; exact HS3.out
        · show Below _ _ _
          have h3 := below_alloc hB1.out (.cells #[.int .i64 c.a, .int .i64 c.b] 96)
          exact h3.grown HG3.out h3.size (fun j e => by cases e; exact Nat.le_refl _)
        · show J [] _
          have h4 := ab_below HJ.out hJ1.out (below_alloc (Below.refl _ wr) (.cells #[.int .i64 c.a, .int .i64 c.b] 96))
          refine HJ.out _ _ _ _ h4 HG3.out (fun r e => ?_)
          cases e
          obtain ⟨es, clock, hb, -⟩ := hset.out
          exact ⟨Nat.le_refl _, _, hb, rfl⟩
      case measure => simp [intOf]; omega
    · obtain rfl : k = x.cuts.length := by omega
      rw [List.take_length] at hS
      have hbr := cell_below hB1.out (cell_below HB0.out HBX.out)
      have hbw : w.heap.size ≤ W.heap.size := HB0.out.size
      have hBr : Hid (Below w.heap.size w wr) := HB0.out.trans (hB1.out.mono hbw)
      have k3 := bl_cell (bl_below HG.out hBr.out) 3
      simp at k3
      have hl2 := bl_lt (bl_below HG.out hBr.out)
      clear HRC2
      gi_wp2
      gi_loopw [28] (fun i wq => ∃ k : Nat, k ≤ x.way.length ∧ i = .int .i64 (k : Int) ∧ Hid (IsSet wq W.heap.size (x.cuts.map prL)) ∧ Hid (Below w.heap.size w wq) ∧ Hid (J (rdyTo x k) wq)) (fun i _ => x.way.length - (intOf i).toNat)
      case atStart => exact ⟨0, Nat.zero_le _, rfl, hS.out, hBr.out, hJ1.out⟩
      case round =>
        clear hBr k3 hl2 hS hB1 hJ1 hbr
        obtain ⟨k, hk, rfl, hS, hBq, hJq⟩ := hrel
        by_cases hkl : k < x.way.length
        · obtain ⟨b, off, lt, rfl, hx, c0, c1, c2, c3, c4⟩ := (HRW.out.below hBq.out).lt k hkl
          have hbl := World.block_lt_of_cell? wr _ c0
          simp only at hbl
          gi_wp2
          obtain ⟨Wl, hWl⟩ : ∃ Wl, Wl = wr.alloc (.cells #[.int .i64 lt.id, .int .i64 lt.fr, .int .i64 lt.to, .int .i64 lt.rd, .string lt.data] 33) := ⟨_, rfl⟩
          rw [← hWl]
          have hBl : Hid (Below wr.heap.size wr Wl) := by rw [hWl]; exact below_alloc (Below.refl _ _) _
          have hlb : Wl.heap[wr.heap.size]? = some (.cells #[.int .i64 lt.id, .int .i64 lt.fr, .int .i64 lt.to, .int .i64 lt.rd, .string lt.data] 33 (0, 0)) := by rw [hWl]; exact bl_new _ _
          have hBwl : Hid (Below w.heap.size w Wl) := hBq.out.trans (hBl.out.mono hBq.out.size)
          have hSl : Hid (IsSet Wl W.heap.size (x.cuts.map prL)) := hS.out.below hBl.out
          have hJl : Hid (J (rdyTo x k) Wl) := ab_below HJ.out hJq.out hBl.out
          have e1 := bl_cell hlb 1
          have e2 := bl_cell hlb 2
          have e3 := bl_cell hlb 3
          simp at e1 e2 e3
          have hll := bl_lt hlb
          have kb := cell_below hBwl.out HBX.out
          have kbl := World.block_lt_of_cell? Wl _ kb
          simp only at kbl
          have kg := bl_cell (bl_below HG.out hBwl.out) 1
          simp at kg
          have kgl := bl_lt (bl_below HG.out hBwl.out)
          generalize wr.heap.size = bx2 at *
          clear hWl hlb c0 c1 c2 c3 c4 hbl
          by_cases hrd : lt.rd ≤ x.now
          · have hd : decide (lt.rd ≤ x.now) = true := decide_eq_true hrd
            have HRD := Lib.hid hrd
            clear hrd
            refine wpIn_mix [(0, true), (1, true), (2, true), (3, true), (4, true), (5, true), (6, true), (7, true), (8, true), (9, true), (10, true), (11, true), (12, true), (13, true), (14, false), (15, true), (16, true), (17, true), (18, true), (19, true), (20, true)] 21
              (fun w' => Below Wl.heap.size Wl w')
              (by kernel_rfl) (by kernel_rfl) (by kernel_rfl) (by kernel_rfl) (by kernel_rfl) (fun d _ _ _ _ h => by cases d <;> exact h) (Below.refl _ _).drew ?_
            simp only [pick, List.map_cons, List.map_nil, List.getD_cons_zero, List.getD_cons_succ, List.drop_succ_cons, List.drop_zero]
            iterate 14
              apply mixIn_take
              case hw => rfl
              case hy => intro W' hW; obtain ⟨hwc, -⟩ := bcell hW; go_simp; try rfl
              simp only [Act.put, List.setIfInBounds_toArray, List.set_cons_zero, List.set_cons_succ]
            refine mixIn_do fun K' hK' => ?_
            gi_wp2_with fail
            refine ⟨trivial, fun h => absurd h (by simp [Fence.wide]), callsIn_below (link_any lt.fr lt.to _) ?_⟩
            intro w2 hb2
            have hb2' : Below Wl.heap.size Wl w2 := below_trans (Below.refl _ Wl).drew hb2
            gi_wp2
            refine hK' _ _ hb2' ?_
            clear hK' K'
            have HB2 := Lib.hid hb2'
            have hJ2 : Hid (J (rdyTo x k) w2) := ab_below HJ.out hJl.out hb2'
            have hS2 : Hid (IsSet w2 W.heap.size (x.cuts.map prL)) := hSl.out.below hb2'
            have hBw2 : Hid (Below w.heap.size w w2) := hBwl.out.trans (hb2'.mono hBwl.out.size)
            clear hb2 hb2'
            by_cases hm : ((mkLk lt.fr lt.to).a, (mkLk lt.fr lt.to).b) ∈ x.cuts.map prL
            · have hmd : decide (((mkLk lt.fr lt.to).a, (mkLk lt.fr lt.to).b) ∈ x.cuts.map prL) = true := decide_eq_true hm
              have HM := Lib.hid hmd
              clear hm hmd
              iterate 4
                apply mixIn_take
                case hw => rfl
                case hy => intro W' hW; have hlk := link_lookup W' W.heap.size _ (mkLk lt.fr lt.to).a (mkLk lt.fr lt.to).b (hSl.out.below hW); rw [HM.out] at hlk; obtain ⟨hwc, -⟩ := bcell hW; go_simp; try rfl
                simp only [Act.put, List.setIfInBounds_toArray, List.set_cons_zero, List.set_cons_succ]
              iterate 2
                apply mixIn_skip
                case hw => simp [Region.wanted, yielded, *]
                simp only [Act.put, List.setIfInBounds_toArray, List.set_cons_zero, List.set_cons_succ]
              refine mixIn_nil ?_
              gi_wp2
              refine ⟨fun _ h => (by cases h), ?_⟩
              gi_wp2
              go_roundw
              case rel =>
                refine ⟨k + 1, by omega, by go_num, hS2.out, hBw2.out, ?_⟩
                show J _ _
                have hci : canI x k = false := by unfold canI; rw [hx.out]; show canB x lt = false; unfold canB; rw [HM.out]; simp
                rw [rdyTo_succ, hci]
                exact hJ2.out
              case measure => simp [intOf]; omega
            · have hmd : decide (((mkLk lt.fr lt.to).a, (mkLk lt.fr lt.to).b) ∈ x.cuts.map prL) = false := decide_eq_false hm
              have HM := Lib.hid hmd
              have hci : Hid (canI x k = true) := by
                show _ = _
                unfold canI; rw [hx.out]; show canB x lt = true; unfold canB; rw [hmd, decide_eq_true HRD.out]; rfl
              clear hm hmd
              iterate 6
                apply mixIn_take
                case hw => rfl
                case hy => intro W' hW; have hlk := link_lookup W' W.heap.size _ (mkLk lt.fr lt.to).a (mkLk lt.fr lt.to).b (hSl.out.below hW); rw [HM.out] at hlk; obtain ⟨hwc, -⟩ := bcell hW; go_simp; try rfl
                simp only [Act.put, List.setIfInBounds_toArray, List.set_cons_zero, List.set_cons_succ]
              refine mixIn_nil ?_
              have hlen : (rdyTo x k).length < (rdyF x).length := by
                have h1 := (rdyTo_pre x (k + 1) x.way.length (by omega)).length_le
                rw [rdyTo_succ, hci.out] at h1
                simp at h1
                exact h1
              obtain ⟨fn, tmps, assign, body, hy, hR⟩ := HY.out (rdyTo x k) k w2 hJ2.out hlen
              gi_wp2
              refine ⟨fun h => absurd h (by simp [Fence.wide]), hR.mono ?_⟩
              rintro e W3 (⟨rfl, hJ3, hk3⟩ | ⟨rfl, hJx3⟩)
              · gi_wp2
                go_roundw
                case rel =>
                  refine ⟨k + 1, by omega, by go_num, hS2.out.walks hk3.2, hBw2.out.trans hk3.1, ?_⟩
                  show J _ _
                  rw [rdyTo_succ, hci.out]
                  exact hJ3
                case measure => simp [intOf]; omega
              · have hpf : rdyTo x k ++ [k] <+: rdyF x := by
                  have h1 := rdyTo_pre x (k + 1) x.way.length (by omega)
                  rw [rdyTo_succ, hci.out] at h1
                  exact h1
                have HPF := Lib.hid hpf
                clear hpf
                gi_wp2
                refine bodyPost_ret (results_none rfl _ _ _) rfl ?_
                exact ⟨⟨_, rfl⟩, .inr ⟨rdyTo x k ++ [k], HPF.out, hJx3⟩⟩
          · have hd : decide (lt.rd ≤ x.now) = false := decide_eq_false hrd
            have HRD := Lib.hid hrd
            clear hrd
            refine wpIn_mix [(0, true), (1, true), (2, true), (3, true), (4, true), (5, true), (6, true), (7, true), (8, true), (9, true), (10, true), (11, true), (12, true), (13, true), (14, true), (15, true), (16, true), (17, true), (18, true), (19, true), (20, true)] 21
              (fun w' => Below Wl.heap.size Wl w')
              (by kernel_rfl) (by kernel_rfl) (by kernel_rfl) (by kernel_rfl) (by kernel_rfl) (fun d _ _ _ _ h => by cases d <;> exact h) (Below.refl _ _).drew ?_
            simp only [pick, List.map_cons, List.map_nil, List.getD_cons_zero, List.getD_cons_succ, List.drop_succ_cons, List.drop_zero]
            iterate 9
              apply mixIn_take
              case hw => rfl
              case hy => intro W' hW; obtain ⟨hwc, -⟩ := bcell hW; go_simp; try rfl
              simp only [Act.put, List.setIfInBounds_toArray, List.set_cons_zero, List.set_cons_succ]
            iterate 8
              apply mixIn_skip
              case hw => simp [Region.wanted, yielded, *]
              simp only [Act.put, List.setIfInBounds_toArray, List.set_cons_zero, List.set_cons_succ]
            iterate 2
              apply mixIn_take
              case hw => rfl
              case hy => intro W' hW; obtain ⟨hwc, -⟩ := bcell hW; go_simp; try rfl
              simp only [Act.put, List.setIfInBounds_toArray, List.set_cons_zero, List.set_cons_succ]
            iterate 2
              apply mixIn_skip
              case hw => simp [Region.wanted, yielded, *]
              simp only [Act.put, List.setIfInBounds_toArray, List.set_cons_zero, List.set_cons_succ]
            refine mixIn_nil ?_
            gi_wp2
            refine ⟨fun _ h => (by cases h), ?_⟩
            gi_wp2
            go_roundw
            case rel =>
              refine ⟨k + 1, by omega, by go_num, hSl.out, (show Below _ _ _ from hBwl.out.drew), ?_⟩
              show J _ _
              have hci : canI x k = false := by unfold canI; rw [hx.out]; show canB x lt = false; unfold canB; rw [decide_eq_false (by have := HRD.out; omega)]; rfl
              rw [rdyTo_succ, hci]
              exact ab_below HJ.out hJl.out (Below.refl _ _).drew
            case measure => simp [intOf]; omega
        · obtain rfl : k = x.way.length := by omega
          gi_wp2
          go_end0
          exact ⟨⟨_, rfl⟩, .inl ⟨rdyF x, rfl, hJq.out⟩⟩

theorem ready_stops (n bx g B : Nat) (x : Nt) (w : World) (hbx : w.cell? ⟨bx, 0, none⟩ = some (.pointer (some ⟨g, 0, none⟩))) (hS : St w B g x) (hnd : (x.cuts.map prL).Nodup) (hlw : x.way.length ≤ 10000000) (hlc : x.cuts.length ≤ 10000000) :
    SeqStopsK Fence.wide n Tryz.prog 94 #[.pointer (some ⟨bx, 0, none⟩)] (fun k : Nat => #[.int .i64 (k : Int)]) (Kpt w.heap.size) (fun xs => xs = rdyF x) (fun pre => pre <+: rdyF x) (rdyF x).length w :=
  fun l J Jx W hb hJ _ hY h0 => ready1_in n l bx g B x w hbx hS hnd hlw hlc J Jx W hb hJ hY h0

theorem ready_any (p : Option Addr) (w : World) : Calls Tryz.prog 58 #[.pointer p] w fun e w' =>
    e = .returned (.func (.func 94) #[] #[.pointer (some ⟨w.heap.size, 0, none⟩)]) ∧ w' = w.alloc (.cells #[.pointer p] 87) := by
  go_enter Tryz.func58, Tryz.ntmps58
  go_wp2
  go_ret
  exact ⟨rfl, rfl⟩
end Go.Proofs.YthlbmcfliejdiaaGreat
end

section
set_option linter.unusedVariables false
set_option linter.unusedSimpArgs false
namespace Go.Proofs.YthlbmcfliejdiaaGreat
open Go.RowKit Go.Shelf
attribute [local go_sem] Oper.semAt_some

theorem kpt_t {m : Nat} {A B C : World} (h : Kpt m A B) (k : Kpt m B C) : Kpt m A C := ⟨belowK_t h.1 k.1, walksK_t h.2 k.2⟩
theorem kpt_b {m : Nat} {w : World} (hn : m ≤ w.heap.size) (W : World) (l : Nat) (o o' : Obj) (hl : w.heap.size ≤ l) (h : W.heap[l]? = some o) (hc : o.isCells = false) (hw : o.isWalk = false) : Kpt m W (W.putObj l o') :=
  ⟨belowK_b hn W l o o' hl h hc hw, walksK_b W l o o' hl h hc hw⟩
def intsV (ks : List Nat) : List Value := ks.map fun k : Nat => Value.int .i64 (k : Int)
theorem infoInt : (Tryz.prog.info? 3).map (fun i => (i.zero, i.size, i.bytes)) = some (some (.int .i64 0), 1, 8) := by kernel_rfl

set_option maxRecDepth 100000 in
set_option maxHeartbeats 2000000 in
theorem AppendSeq_ready (bx g B : Nat) (x : Nt) (w : World) (hbx : w.cell? ⟨bx, 0, none⟩ = some (.pointer (some ⟨g, 0, none⟩))) (hS : St w B g x) (hnd : (x.cuts.map prL).Nodup) (hlw : x.way.length ≤ 10000000) (hlc : x.cuts.length ≤ 10000000) :
    CallsIn Fence.wide 6 Tryz.prog 101 #[.slice none 0 0, .func (.func 94) #[] #[.pointer (some ⟨bx, 0, none⟩)]] w fun e W' => ∃ v, e = .returned v ∧ W'.ownsRow w.heap.size 3 1 v (rdyF x).length (intsV (rdyF x)) ∧ Below w.heap.size w W' := by
  have hlen : (rdyF x).length ≤ 10000000 := by
    have h1 : (rdyF x).length ≤ (List.range x.way.length).length := List.length_filter_le _ _
    simp at h1
    omega
  obtain ⟨i0, hi, hz0, hz1, hz2⟩ := info_parts infoInt
  refine callsIn_of_wp_marks Tryz.func101 rfl trivial ?_ rfl
  simp only [Tryz.ntmps101, List.size_toArray, List.length_cons, List.length_nil, Nat.reduceAdd, Nat.reduceSub, Array.replicate_succ, Array.replicate_zero, List.push_toArray, List.append_toArray, List.nil_append, List.cons_append]
  gi_wp2
  have bO := Boxed.new w 79 (.slice none 0 0)
  have hB0 : Below w.heap.size w (w.alloc (.cells #[.slice none 0 0] 79)) := (Below.refl _ w).alloc (Nat.le_refl _) _
  refine wpIn_rangeFunc_ownG (F := Fence.wide) rfl (by decide) (gf := 94) (lb := #[.pointer (some ⟨bx, 0, none⟩)]) rfl trivial (enters_of Tryz.func94 (by kernel_rfl) rfl)
    (ready_stops 5 bx g B x w hbx hS hnd hlw hlc) kpt_t (kpt_b (by simp)) hB0 (fun _ => rfl)
    (fun pre W => (∃ v, Boxed W w.heap.size 79 v ∧ W.ownsRow w.heap.size 3 1 v pre.length (intsV pre) ∧ (v = .slice none 0 0 ↔ pre = [])) ∧ Below w.heap.size w W)
    (fun _ _ _ => False)
    (OwnFrom.and (Go.Own.from (holdsRow_own w.heap.size w.heap.size 79 3 1 (fun pre : List Nat => pre.length) (fun pre => intsV pre) (fun pre v => v = .slice none 0 0 ↔ pre = [])) _) (ownFrom_below (Nat.le_refl _) (by simp)))
    (fun _ _ _ _ _ hs _ _ => hs)
    ⟨⟨_, bO, World.ownsRow_nil _ _ _ _, by simp⟩, hB0⟩
    (fun k => { tmps := #[.slice none 0 0, .func (.func 94) #[] #[.pointer (some ⟨bx, 0, none⟩)], .pointer (some ⟨w.heap.size, 0, none⟩), undef, .slice none 0 0, .int .i64 (k : Int), .func (.func 94) #[] #[.pointer (some ⟨bx, 0, none⟩)], .int .i64 (k : Int), undef, undef, undef, undef, undef], defers := [] }) ?assign ?body ?done ?stop
  case assign =>
    intro l k W K hK
    gi_wp2
    exact hK
  case body =>
    rintro l pre k W ⟨⟨v, hv, hrow, hnil⟩, hB⟩ hlt
    have hc := hv.cell
    gi_wp2_with (gi_at_builtin; refine wpListIn_append_own _ rfl _ _ 79 rfl w.heap.size 3 i0 (.int .i64 0) 1 8 Tryz.underlying79 hi hz0 hz1 hz2 rfl (by decide) _ _ _ rfl (hrow.alloc _) ⟨W.heap.size, 0, none⟩ 1 1 [.int .i64 (k : Int)] rfl rfl (cell_one_new _ _ _) (by simp [Value.oneCell']) (by simp only [maxLen]; omega) (by omega) (by have := hB.size; simp; omega) ?_; intro v' w1 hown' hgrow _; obtain ⟨g', cap', rfl⟩ := ownsRow_succ hown'; obtain ⟨hv1, hv2, hr2, hk2, hb2⟩ := hv.appended (by decide) hrow hB.size (Nat.le_refl _) hown' hgrow; have hc1 := hv1.cell; have hf1 := hv1.frozen)
    exact ⟨hk2.from _, ⟨hb2, hk2.walks⟩, ⟨_, hv2, by simpa [intsV] using hr2, by simp⟩, hB.trans hb2⟩
  case done =>
    rintro D ys W hD rfl ⟨⟨v, hv, hrow, hnil⟩, hB⟩ hK
    have hc := hv.cell
    gi_wp2
    refine ⟨by simp, .inl ⟨_, _, rfl, run_takeDeferred hK, ?_⟩⟩
    exact ⟨_, results_tmp rfl _ _ _, v, rfl, ownsRow_putObj hrow _ hK rfl, hB.trans (belowK_b (w := w) (Nat.le_refl _) W D _ _ (by simp at hD; omega) hK rfl rfl)⟩
  case stop =>
    rintro D c pre W _ _ h _
    exact h.elim

set_option maxHeartbeats 400000 in
theorem Collect_ready (bx g B : Nat) (x : Nt) (w : World) (hbx : w.cell? ⟨bx, 0, none⟩ = some (.pointer (some ⟨g, 0, none⟩))) (hS : St w B g x) (hnd : (x.cuts.map prL).Nodup) (hlw : x.way.length ≤ 10000000) (hlc : x.cuts.length ≤ 10000000) :
    Calls Tryz.prog 64 #[.func (.func 94) #[] #[.pointer (some ⟨bx, 0, none⟩)]] w fun e w' => ∃ v, e = .returned v ∧ w'.ownsRow w.heap.size 3 1 v (rdyF x).length (intsV (rdyF x)) ∧ Below w.heap.size w w' := by
  go_enter Tryz.func64, Tryz.ntmps64
  go_wp2_with (go_at_call 101; refine (callsIn_wide.1 (AppendSeq_ready bx g B x w hbx hS hnd hlw hlc)).mono ?_; rintro e w1 ⟨v, rfl, hrow, hb⟩)
  go_ret
  exact ⟨_, rfl, hrow, hb⟩
end Go.Proofs.YthlbmcfliejdiaaGreat
end
