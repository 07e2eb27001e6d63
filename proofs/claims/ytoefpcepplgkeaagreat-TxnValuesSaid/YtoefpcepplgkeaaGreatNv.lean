/- TxnValues returns true. (Printed by wip/txn/gen_v.py.). -/
import Derived.Test.YtoefpcepplgkeaaGreatNj
import Derived.Test.YtoefpcepplgkeaaGreatMn
section
set_option linter.unusedVariables false
set_option linter.unusedSimpArgs false
namespace Go.Proofs.YtoefpcepplgkeaaGreat
open Go.RowKit
attribute [local go_sem high] eqNm

set_option maxHeartbeats 4000000 in
set_option maxRecDepth 100000 in
theorem TxnValues_any (n : Nmd) (name value : ByteArray) (w : World) : Calls Tryz.prog 4 #[.agg (nmC n), .string name, .string value] w fun e w' => e = .returned (.bool true) ∧ Below w.heap.size w w' := by
  have n0 := nm_0 n
  have HB0 := Lib.hid (below_alloc (Below.refl w.heap.size w) (.cells (nmC n) 27))
  have Hg := Lib.hid (bl_new w (.cells (nmC n) 27))
  have h1 : n.name.size ≤ 200 ∨ 200 < n.name.size := by omega
  have h2 : name.size ≤ 200 ∨ 200 < name.size := by omega
  have h3 : value.size ≤ 200 ∨ 200 < value.size := by omega
  obtain ⟨N0, hN0⟩ : ∃ N, n.name.size = N := ⟨_, rfl⟩
  rcases h1 with h1 | h1
  · rcases h2 with h2 | h2
    · rcases h3 with h3 | h3
      · go_enter Tryz.func4, Tryz.ntmps4
        have HL := Lib.hid (cells_all Hg.out)
        go_wp2_with ((with_reducible refine stop_load 27 (.tmp 3) ?hst ?_); (case hst => rfl))
        change wpList _ _ _ _ _ _
        refine wpList_loadC _ 27 (.tmp 3) (by rfl) (by rfl) ⟨w.heap.size, 0, none⟩ (by rfl) (nmC n) _ HL.out Tryz.underlying27 (by rfl) size27 ?_
        go_wp2_with fail
        refine calls_below (PutNamed_full n _) ?_
        intro w1 hq
        have HB1 := Lib.hid (below_trans HB0.out hq)
        replace Hg := Lib.hid (bl_below Hg.out hq)
        clear hq
        obtain ⟨E, hE⟩ : ∃ E, putE n = E := ⟨_, rfl⟩
        obtain ⟨T, hT⟩ : ∃ T, putS n = T := ⟨_, rfl⟩
        have HGP := Lib.hid (fun h : E = 0 => (show getE n.name T = 0 ∧ getR n.name T = n by rw [← hT]; exact get_put (hE.trans h)))
        simp only [hE, hT]
        clear hE hT HL
        by_cases hE0 : E = 0
        · subst hE0
          have CG := Lib.hid (fun w => GetNamed_full n.name T w)
          rw [(HGP.out rfl).1, (HGP.out rfl).2] at CG
          have c0 := (bl_cell Hg.out 0).trans (nm_0 n)
          have kl := bl_lt Hg.out
          clear HGP
          go_wp2_with fail
          refine calls_below (CG.out _) ?_
          intro w2 hq
          have HB2 := Lib.hid (below_trans HB1.out hq)
          replace Hg := Lib.hid (bl_below Hg.out hq)
          clear hq
          clear c0 kl
          go_wp2_with ((with_reducible refine stop_store 27 (.tmp 9) (.tmp 42) ?hst ?_); (case hst => rfl))
          change wpList _ _ _ _ _ _
          have hm := bl_new w2 (.cells #[.string ⟨#[]⟩, .int .i64 0, .int .i64 0, .int .i64 0, .int .u8 0, .int .u8 0, .int .u8 0, .int .u8 0, .int .u8 0, .int .u8 0, .int .u8 0, .int .u8 0, .int .u8 0, .int .u8 0, .int .u8 0, .int .u8 0, .int .u8 0, .int .u8 0, .int .u8 0, .int .u8 0] 27)
          refine wpList_store_row (by rfl) 27 (.tmp 9) (.tmp 42) (by rfl) w2.heap.size (nmC n) (by rfl) (by rfl) 27 _ hm size27 (by rfl) (nm_one n) ?_
          have hs := setRow_heap _ _ _ (nmC n) _ _ hm
          have hsz := HB2.out.size
          have hbn : Below w.heap.size w ((w2.alloc (.cells #[.string ⟨#[]⟩, .int .i64 0, .int .i64 0, .int .i64 0, .int .u8 0, .int .u8 0, .int .u8 0, .int .u8 0, .int .u8 0, .int .u8 0, .int .u8 0, .int .u8 0, .int .u8 0, .int .u8 0, .int .u8 0, .int .u8 0, .int .u8 0, .int .u8 0, .int .u8 0, .int .u8 0] 27)).setRow w2.heap.size (nmC n)) := below_setRow (below_alloc HB2.out _) hsz _
          have hne : w.heap.size ≠ w2.heap.size := by have := bl_lt Hg.out; omega
          replace Hg := Lib.hid ((setRow_other (w2.alloc (.cells #[.string ⟨#[]⟩, .int .i64 0, .int .i64 0, .int .i64 0, .int .u8 0, .int .u8 0, .int .u8 0, .int .u8 0, .int .u8 0, .int .u8 0, .int .u8 0, .int .u8 0, .int .u8 0, .int .u8 0, .int .u8 0, .int .u8 0, .int .u8 0, .int .u8 0, .int .u8 0, .int .u8 0] 27)) w2.heap.size w.heap.size (nmC n) hne).trans (bl_alloc Hg.out (.cells #[.string ⟨#[]⟩, .int .i64 0, .int .i64 0, .int .i64 0, .int .u8 0, .int .u8 0, .int .u8 0, .int .u8 0, .int .u8 0, .int .u8 0, .int .u8 0, .int .u8 0, .int .u8 0, .int .u8 0, .int .u8 0, .int .u8 0, .int .u8 0, .int .u8 0, .int .u8 0, .int .u8 0] 27)))
          clear hne
          obtain ⟨g1, hgd⟩ : ∃ g, w2.heap.size = g := ⟨_, rfl⟩
          rw [hgd] at hs hbn Hg
          simp only [hgd]
          obtain ⟨w3, hnew⟩ : ∃ W, (w2.alloc (.cells #[.string ⟨#[]⟩, .int .i64 0, .int .i64 0, .int .i64 0, .int .u8 0, .int .u8 0, .int .u8 0, .int .u8 0, .int .u8 0, .int .u8 0, .int .u8 0, .int .u8 0, .int .u8 0, .int .u8 0, .int .u8 0, .int .u8 0, .int .u8 0, .int .u8 0, .int .u8 0, .int .u8 0] 27)).setRow g1 (nmC n) = W := ⟨_, rfl⟩
          rw [hnew] at hs hbn Hg
          simp only [hnew]
          have Hg1 := Lib.hid hs
          have HB3 := Lib.hid hbn
          clear hs hbn hgd hnew hm hsz
          have HL1 := Lib.hid (cells_all Hg1.out)
          have HL3 := Lib.hid (cells_all Hg.out)
          have heq := nmdEq_refl n
          go_wp2_with ((with_reducible refine stop_load 27 (.tmp 9) ?hst ?_); (case hst => rfl))
          change wpList _ _ _ _ _ _
          refine wpList_loadC _ 27 (.tmp 9) (by rfl) (by rfl) ⟨g1, 0, none⟩ (by rfl) (nmC n) _ HL1.out Tryz.underlying27 (by rfl) size27 ?_
          go_wp2_with ((with_reducible refine stop_load 27 (.tmp 3) ?hst ?_); (case hst => rfl))
          change wpList _ _ _ _ _ _
          refine wpList_loadC _ 27 (.tmp 3) (by rfl) (by rfl) ⟨w.heap.size, 0, none⟩ (by rfl) (nmC n) _ HL3.out Tryz.underlying27 (by rfl) size27 ?_
          clear HL1 HL3
          go_wp2_with fail
          refine calls_below (GetNamed_full name value _) ?_
          intro w4 hq
          have HB4 := Lib.hid (below_trans HB3.out hq)
          replace Hg := Lib.hid (bl_below Hg.out hq)
          replace Hg1 := Lib.hid (bl_below Hg1.out hq)
          clear hq
          obtain ⟨m, hm'⟩ : ∃ m, getR name value = m := ⟨_, rfl⟩
          obtain ⟨f, hf'⟩ : ∃ f, getE name value = f := ⟨_, rfl⟩
          have HLW := Lib.hid (fun h : f = 0 => (show m.name = name ∧ putE m = 0 ∧ putS m = value by rw [← hm']; exact put_get (hf'.trans h)))
          simp only [hm', hf']
          clear hm' hf'
          go_wp2_with ((with_reducible refine stop_store 27 (.tmp 11) (.tmp 55) ?hst ?_); (case hst => rfl))
          change wpList _ _ _ _ _ _
          have hm := bl_new w4 (.cells #[.string ⟨#[]⟩, .int .i64 0, .int .i64 0, .int .i64 0, .int .u8 0, .int .u8 0, .int .u8 0, .int .u8 0, .int .u8 0, .int .u8 0, .int .u8 0, .int .u8 0, .int .u8 0, .int .u8 0, .int .u8 0, .int .u8 0, .int .u8 0, .int .u8 0, .int .u8 0, .int .u8 0] 27)
          refine wpList_store_row (by rfl) 27 (.tmp 11) (.tmp 55) (by rfl) w4.heap.size (nmC m) (by rfl) (by rfl) 27 _ hm size27 (by rfl) (nm_one m) ?_
          have hs := setRow_heap _ _ _ (nmC m) _ _ hm
          have hsz := HB4.out.size
          have hbn : Below w.heap.size w ((w4.alloc (.cells #[.string ⟨#[]⟩, .int .i64 0, .int .i64 0, .int .i64 0, .int .u8 0, .int .u8 0, .int .u8 0, .int .u8 0, .int .u8 0, .int .u8 0, .int .u8 0, .int .u8 0, .int .u8 0, .int .u8 0, .int .u8 0, .int .u8 0, .int .u8 0, .int .u8 0, .int .u8 0, .int .u8 0] 27)).setRow w4.heap.size (nmC m)) := below_setRow (below_alloc HB4.out _) hsz _
          have hne : w.heap.size ≠ w4.heap.size := by have := bl_lt Hg.out; omega
          replace Hg := Lib.hid ((setRow_other (w4.alloc (.cells #[.string ⟨#[]⟩, .int .i64 0, .int .i64 0, .int .i64 0, .int .u8 0, .int .u8 0, .int .u8 0, .int .u8 0, .int .u8 0, .int .u8 0, .int .u8 0, .int .u8 0, .int .u8 0, .int .u8 0, .int .u8 0, .int .u8 0, .int .u8 0, .int .u8 0, .int .u8 0, .int .u8 0] 27)) w4.heap.size w.heap.size (nmC m) hne).trans (bl_alloc Hg.out (.cells #[.string ⟨#[]⟩, .int .i64 0, .int .i64 0, .int .i64 0, .int .u8 0, .int .u8 0, .int .u8 0, .int .u8 0, .int .u8 0, .int .u8 0, .int .u8 0, .int .u8 0, .int .u8 0, .int .u8 0, .int .u8 0, .int .u8 0, .int .u8 0, .int .u8 0, .int .u8 0, .int .u8 0] 27)))
          clear hne
          have hne : g1 ≠ w4.heap.size := by have := bl_lt Hg1.out; omega
          replace Hg1 := Lib.hid ((setRow_other (w4.alloc (.cells #[.string ⟨#[]⟩, .int .i64 0, .int .i64 0, .int .i64 0, .int .u8 0, .int .u8 0, .int .u8 0, .int .u8 0, .int .u8 0, .int .u8 0, .int .u8 0, .int .u8 0, .int .u8 0, .int .u8 0, .int .u8 0, .int .u8 0, .int .u8 0, .int .u8 0, .int .u8 0, .int .u8 0] 27)) w4.heap.size g1 (nmC m) hne).trans (bl_alloc Hg1.out (.cells #[.string ⟨#[]⟩, .int .i64 0, .int .i64 0, .int .i64 0, .int .u8 0, .int .u8 0, .int .u8 0, .int .u8 0, .int .u8 0, .int .u8 0, .int .u8 0, .int .u8 0, .int .u8 0, .int .u8 0, .int .u8 0, .int .u8 0, .int .u8 0, .int .u8 0, .int .u8 0, .int .u8 0] 27)))
          clear hne
          obtain ⟨g2, hgd⟩ : ∃ g, w4.heap.size = g := ⟨_, rfl⟩
          rw [hgd] at hs hbn Hg Hg1
          simp only [hgd]
          obtain ⟨w5, hnew⟩ : ∃ W, (w4.alloc (.cells #[.string ⟨#[]⟩, .int .i64 0, .int .i64 0, .int .i64 0, .int .u8 0, .int .u8 0, .int .u8 0, .int .u8 0, .int .u8 0, .int .u8 0, .int .u8 0, .int .u8 0, .int .u8 0, .int .u8 0, .int .u8 0, .int .u8 0, .int .u8 0, .int .u8 0, .int .u8 0, .int .u8 0] 27)).setRow g2 (nmC m) = W := ⟨_, rfl⟩
          rw [hnew] at hs hbn Hg Hg1
          simp only [hnew]
          have Hg2 := Lib.hid hs
          have HB5 := Lib.hid hbn
          clear hs hbn hgd hnew hm hsz
          by_cases hf0 : f = 0
          · subst hf0
            obtain ⟨l1, l2, l3⟩ := HLW.out rfl
            have CP := Lib.hid (fun w => PutNamed_full m w)
            rw [l2, l3] at CP
            have HL2 := Lib.hid (cells_all Hg2.out)
            clear l2 l3
            go_wp2_with ((with_reducible refine stop_load 27 (.tmp 11) ?hst ?_); (case hst => rfl))
            change wpList _ _ _ _ _ _
            refine wpList_loadC _ 27 (.tmp 11) (by rfl) (by rfl) ⟨g2, 0, none⟩ (by rfl) (nmC m) _ HL2.out Tryz.underlying27 (by rfl) size27 ?_
            go_wp2_with fail
            refine calls_below (CP.out _) ?_
            intro w6 hq
            have HB6 := Lib.hid (below_trans HB5.out hq)
            replace Hg := Lib.hid (bl_below Hg.out hq)
            replace Hg1 := Lib.hid (bl_below Hg1.out hq)
            replace Hg2 := Lib.hid (bl_below Hg2.out hq)
            clear hq
            have c0 := ((bl_cell Hg2.out 0).trans (nm_0 m)).trans (by rw [l1])
            clear l1
            go_wp2_with fail
            refine calls_below (sane_any _) ?_
            intro wz hz
            have hbz := below_trans HB6.out hz
            go_wp2
            go_ret
            exact ⟨rfl, hbz⟩
          · go_wp2_with fail
            refine calls_below (sane_any _) ?_
            intro wz hz
            have hbz := below_trans HB5.out hz
            go_wp2
            go_ret
            exact ⟨rfl, hbz⟩
        · clear HGP
          go_wp2_with fail
          refine calls_below (GetNamed_full name value _) ?_
          intro w2 hq
          have HB2 := Lib.hid (below_trans HB1.out hq)
          replace Hg := Lib.hid (bl_below Hg.out hq)
          clear hq
          obtain ⟨m, hm'⟩ : ∃ m, getR name value = m := ⟨_, rfl⟩
          obtain ⟨f, hf'⟩ : ∃ f, getE name value = f := ⟨_, rfl⟩
          have HLW := Lib.hid (fun h : f = 0 => (show m.name = name ∧ putE m = 0 ∧ putS m = value by rw [← hm']; exact put_get (hf'.trans h)))
          simp only [hm', hf']
          clear hm' hf'
          go_wp2_with ((with_reducible refine stop_store 27 (.tmp 11) (.tmp 55) ?hst ?_); (case hst => rfl))
          change wpList _ _ _ _ _ _
          have hm := bl_new w2 (.cells #[.string ⟨#[]⟩, .int .i64 0, .int .i64 0, .int .i64 0, .int .u8 0, .int .u8 0, .int .u8 0, .int .u8 0, .int .u8 0, .int .u8 0, .int .u8 0, .int .u8 0, .int .u8 0, .int .u8 0, .int .u8 0, .int .u8 0, .int .u8 0, .int .u8 0, .int .u8 0, .int .u8 0] 27)
          refine wpList_store_row (by rfl) 27 (.tmp 11) (.tmp 55) (by rfl) w2.heap.size (nmC m) (by rfl) (by rfl) 27 _ hm size27 (by rfl) (nm_one m) ?_
          have hs := setRow_heap _ _ _ (nmC m) _ _ hm
          have hsz := HB2.out.size
          have hbn : Below w.heap.size w ((w2.alloc (.cells #[.string ⟨#[]⟩, .int .i64 0, .int .i64 0, .int .i64 0, .int .u8 0, .int .u8 0, .int .u8 0, .int .u8 0, .int .u8 0, .int .u8 0, .int .u8 0, .int .u8 0, .int .u8 0, .int .u8 0, .int .u8 0, .int .u8 0, .int .u8 0, .int .u8 0, .int .u8 0, .int .u8 0] 27)).setRow w2.heap.size (nmC m)) := below_setRow (below_alloc HB2.out _) hsz _
          have hne : w.heap.size ≠ w2.heap.size := by have := bl_lt Hg.out; omega
          replace Hg := Lib.hid ((setRow_other (w2.alloc (.cells #[.string ⟨#[]⟩, .int .i64 0, .int .i64 0, .int .i64 0, .int .u8 0, .int .u8 0, .int .u8 0, .int .u8 0, .int .u8 0, .int .u8 0, .int .u8 0, .int .u8 0, .int .u8 0, .int .u8 0, .int .u8 0, .int .u8 0, .int .u8 0, .int .u8 0, .int .u8 0, .int .u8 0] 27)) w2.heap.size w.heap.size (nmC m) hne).trans (bl_alloc Hg.out (.cells #[.string ⟨#[]⟩, .int .i64 0, .int .i64 0, .int .i64 0, .int .u8 0, .int .u8 0, .int .u8 0, .int .u8 0, .int .u8 0, .int .u8 0, .int .u8 0, .int .u8 0, .int .u8 0, .int .u8 0, .int .u8 0, .int .u8 0, .int .u8 0, .int .u8 0, .int .u8 0, .int .u8 0] 27)))
          clear hne
          obtain ⟨g2, hgd⟩ : ∃ g, w2.heap.size = g := ⟨_, rfl⟩
          rw [hgd] at hs hbn Hg
          simp only [hgd]
          obtain ⟨w3, hnew⟩ : ∃ W, (w2.alloc (.cells #[.string ⟨#[]⟩, .int .i64 0, .int .i64 0, .int .i64 0, .int .u8 0, .int .u8 0, .int .u8 0, .int .u8 0, .int .u8 0, .int .u8 0, .int .u8 0, .int .u8 0, .int .u8 0, .int .u8 0, .int .u8 0, .int .u8 0, .int .u8 0, .int .u8 0, .int .u8 0, .int .u8 0] 27)).setRow g2 (nmC m) = W := ⟨_, rfl⟩
          rw [hnew] at hs hbn Hg
          simp only [hnew]
          have Hg2 := Lib.hid hs
          have HB3 := Lib.hid hbn
          clear hs hbn hgd hnew hm hsz
          by_cases hf0 : f = 0
          · subst hf0
            obtain ⟨l1, l2, l3⟩ := HLW.out rfl
            have CP := Lib.hid (fun w => PutNamed_full m w)
            rw [l2, l3] at CP
            have HL2 := Lib.hid (cells_all Hg2.out)
            clear l2 l3
            go_wp2_with ((with_reducible refine stop_load 27 (.tmp 11) ?hst ?_); (case hst => rfl))
            change wpList _ _ _ _ _ _
            refine wpList_loadC _ 27 (.tmp 11) (by rfl) (by rfl) ⟨g2, 0, none⟩ (by rfl) (nmC m) _ HL2.out Tryz.underlying27 (by rfl) size27 ?_
            go_wp2_with fail
            refine calls_below (CP.out _) ?_
            intro w4 hq
            have HB4 := Lib.hid (below_trans HB3.out hq)
            replace Hg := Lib.hid (bl_below Hg.out hq)
            replace Hg2 := Lib.hid (bl_below Hg2.out hq)
            clear hq
            have c0 := ((bl_cell Hg2.out 0).trans (nm_0 m)).trans (by rw [l1])
            clear l1
            go_wp2_with fail
            refine calls_below (sane_any _) ?_
            intro wz hz
            have hbz := below_trans HB4.out hz
            go_wp2
            go_ret
            exact ⟨rfl, hbz⟩
          · go_wp2_with fail
            refine calls_below (sane_any _) ?_
            intro wz hz
            have hbz := below_trans HB3.out hz
            go_wp2
            go_ret
            exact ⟨rfl, hbz⟩
      · go_enter Tryz.func4, Tryz.ntmps4
        go_wp2_with fail
        refine calls_below (sane_any _) ?_
        intro wz hz
        have hbz := below_trans HB0.out hz
        go_wp2
        go_ret
        exact ⟨rfl, hbz⟩
    · go_enter Tryz.func4, Tryz.ntmps4
      go_wp2_with fail
      refine calls_below (sane_any _) ?_
      intro wz hz
      have hbz := below_trans HB0.out hz
      go_wp2
      go_ret
      exact ⟨rfl, hbz⟩
  · go_enter Tryz.func4, Tryz.ntmps4
    go_wp2_with fail
    refine calls_below (sane_any _) ?_
    intro wz hz
    have hbz := below_trans HB0.out hz
    go_wp2
    go_ret
    exact ⟨rfl, hbz⟩
end Go.Proofs.YtoefpcepplgkeaaGreat
end
