/- TxnNamed returns true. (Printed by wip/txn/gen_w.py.). -/
import Derived.Test.YtoefpcepplgkeaaGreatNj
import Derived.Test.YtoefpcepplgkeaaGreatMn
section
set_option linter.unusedVariables false
set_option linter.unusedSimpArgs false
namespace Go.Proofs.YtoefpcepplgkeaaGreat
open Go.RowKit
attribute [local go_sem high] eqNm
theorem one_nm (x : Nmd) (e : Int) : ∀ j v, (nmC x).toList[j]? = some v → (oneC x e)[0 + j]? = some v := by
  intro j v hv
  have h : (oneC x e).toList = (nmC x).toList ++ [.int .i64 e] := rfl
  rw [Nat.zero_add, ← Array.getElem?_toList, h, List.getElem?_append_left (List.getElem?_eq_some_iff.1 hv).1]
  exact hv
theorem one_20 (x : Nmd) (e : Int) : (oneC x e)[20]? = some (.int .i64 e) := rfl
theorem two_one (s : ByteArray) (e : Int) : (#[.string s, .int .i64 e] : Array Value).all (·.oneCell') = true := by simp [Value.oneCell']

set_option maxHeartbeats 4000000 in
set_option maxRecDepth 100000 in
theorem TxnNamed_any (n : Nmd) (name value : ByteArray) (w : World) (hn1 : n.name.size ≤ 9223372036854775807) (hn2 : name.size ≤ 9223372036854775807) : Calls Tryz.prog 3 #[.agg (nmC n), .string name, .string value] w fun e w' => e = .returned (.bool true) ∧ Below w.heap.size w w' := by
  have n0 := nm_0 n
  have HB0 := Lib.hid (below_alloc (Below.refl w.heap.size w) (.cells (nmC n) 27))
  have Hg := Lib.hid (bl_new w (.cells (nmC n) 27))
  have CQ := Lib.hid (fun w => RPut_full n hn1 w)
  have CH := Lib.hid (fun w => RGet_full name value hn2 w)
  have h1 : n.name.size ≤ 200 ∨ 200 < n.name.size := by omega
  have h2 : name.size ≤ 200 ∨ 200 < name.size := by omega
  have h3 : value.size ≤ 200 ∨ 200 < value.size := by omega
  clear hn1 hn2
  rcases h1 with h1 | h1
  · rcases h2 with h2 | h2
    · rcases h3 with h3 | h3
      · go_enter Tryz.func3, Tryz.ntmps3
        have HL := Lib.hid (cells_all Hg.out)
        go_wp2_with ((with_reducible refine stop_load 27 (.tmp 3) ?hst ?_); (case hst => rfl))
        change wpList _ _ _ _ _ _
        refine wpList_loadC _ 27 (.tmp 3) (by rfl) (by rfl) ⟨w.heap.size, 0, none⟩ (by rfl) (nmC n) _ HL.out Tryz.underlying27 (by rfl) size27 ?_
        go_wp2_with fail
        refine calls_below (PutNamed_full n _) ?_
        intro w1 hq
        have HB1 := Lib.hid (below_trans HB0.out hq)
        replace Hg := Lib.hid (bl_below Hg.out hq)
        clear hq
        obtain ⟨E, hE⟩ : ∃ E, putE n = E := ⟨_, rfl⟩
        obtain ⟨T, hT⟩ : ∃ T, putS n = T := ⟨_, rfl⟩
        rw [hE, hT] at CQ
        simp only [hE, hT]
        clear hE hT HL
        have HL := Lib.hid (cells_all Hg.out)
        go_wp2_with ((with_reducible refine stop_load 27 (.tmp 3) ?hst ?_); (case hst => rfl))
        change wpList _ _ _ _ _ _
        refine wpList_loadC _ 27 (.tmp 3) (by rfl) (by rfl) ⟨w.heap.size, 0, none⟩ (by rfl) (nmC n) _ HL.out Tryz.underlying27 (by rfl) size27 ?_
        go_wp2_with fail
        refine calls_below (CQ.out _) ?_
        intro w2 hq
        have HB2 := Lib.hid (below_trans HB1.out hq)
        replace Hg := Lib.hid (bl_below Hg.out hq)
        clear hq
        clear HL
        go_wp2_with ((with_reducible refine stop_store 33 (.tmp 9) (.tmp 34) ?hst ?_); (case hst => rfl))
        change wpList _ _ _ _ _ _
        have hm := bl_new w2 (.cells #[.string ⟨#[]⟩, .int .i64 0] 33)
        refine wpList_store_row (by rfl) 33 (.tmp 9) (.tmp 34) (by rfl) w2.heap.size #[.string T, .int .i64 E] (by rfl) (by rfl) 33 _ hm size33 (by rfl) (two_one T E) ?_
        have hs := setRow_heap _ _ _ #[.string T, .int .i64 E] _ _ hm
        have hsz := HB2.out.size
        have hbn : Below w.heap.size w ((w2.alloc (.cells #[.string ⟨#[]⟩, .int .i64 0] 33)).setRow w2.heap.size #[.string T, .int .i64 E]) := below_setRow (below_alloc HB2.out _) hsz _
        have hne : w.heap.size ≠ w2.heap.size := by have := bl_lt Hg.out; omega
        replace Hg := Lib.hid ((setRow_other (w2.alloc (.cells #[.string ⟨#[]⟩, .int .i64 0] 33)) w2.heap.size w.heap.size #[.string T, .int .i64 E] hne).trans (bl_alloc Hg.out (.cells #[.string ⟨#[]⟩, .int .i64 0] 33)))
        clear hne
        obtain ⟨g1, hgd⟩ : ∃ g, w2.heap.size = g := ⟨_, rfl⟩
        rw [hgd] at hs hbn Hg
        simp only [hgd]
        obtain ⟨w3, hnew⟩ : ∃ W, (w2.alloc (.cells #[.string ⟨#[]⟩, .int .i64 0] 33)).setRow g1 #[.string T, .int .i64 E] = W := ⟨_, rfl⟩
        rw [hnew] at hs hbn Hg
        simp only [hnew]
        have Hg1 := Lib.hid hs
        have HB3 := Lib.hid hbn
        clear hs hbn hgd hnew hm hsz
        go_wp2_with fail
        refine calls_below (GetNamed_full name value _) ?_
        intro w4 hq
        have HB4 := Lib.hid (below_trans HB3.out hq)
        replace Hg := Lib.hid (bl_below Hg.out hq)
        replace Hg1 := Lib.hid (bl_below Hg1.out hq)
        clear hq
        obtain ⟨m, hm'⟩ : ∃ m, getR name value = m := ⟨_, rfl⟩
        obtain ⟨f, hf'⟩ : ∃ f, getE name value = f := ⟨_, rfl⟩
        rw [hm', hf'] at CH
        simp only [hm', hf']
        clear hm' hf'
        go_wp2_with ((with_reducible refine stop_store 27 (.tmp 10) (.tmp 39) ?hst ?_); (case hst => rfl))
        change wpList _ _ _ _ _ _
        have hm := bl_new w4 (.cells #[.string ⟨#[]⟩, .int .i64 0, .int .i64 0, .int .i64 0, .int .u8 0, .int .u8 0, .int .u8 0, .int .u8 0, .int .u8 0, .int .u8 0, .int .u8 0, .int .u8 0, .int .u8 0, .int .u8 0, .int .u8 0, .int .u8 0, .int .u8 0, .int .u8 0, .int .u8 0, .int .u8 0] 27)
        refine wpList_store_row (by rfl) 27 (.tmp 10) (.tmp 39) (by rfl) w4.heap.size (nmC m) (by rfl) (by rfl) 27 _ hm size27 (by rfl) (nm_one m) ?_
        have hs := setRow_heap _ _ _ (nmC m) _ _ hm
        have hsz := HB4.out.size
        have hbn : Below w.heap.size w ((w4.alloc (.cells #[.string ⟨#[]⟩, .int .i64 0, .int .i64 0, .int .i64 0, .int .u8 0, .int .u8 0, .int .u8 0, .int .u8 0, .int .u8 0, .int .u8 0, .int .u8 0, .int .u8 0, .int .u8 0, .int .u8 0, .int .u8 0, .int .u8 0, .int .u8 0, .int .u8 0, .int .u8 0, .int .u8 0] 27)).setRow w4.heap.size (nmC m)) := below_setRow (below_alloc HB4.out _) hsz _
        have hne : w.heap.size ≠ w4.heap.size := by have := bl_lt Hg.out; omega
        replace Hg := Lib.hid ((setRow_other (w4.alloc (.cells #[.string ⟨#[]⟩, .int .i64 0, .int .i64 0, .int .i64 0, .int .u8 0, .int .u8 0, .int .u8 0, .int .u8 0, .int .u8 0, .int .u8 0, .int .u8 0, .int .u8 0, .int .u8 0, .int .u8 0, .int .u8 0, .int .u8 0, .int .u8 0, .int .u8 0, .int .u8 0, .int .u8 0] 27)) w4.heap.size w.heap.size (nmC m) hne).trans (bl_alloc Hg.out (.cells #[.string ⟨#[]⟩, .int .i64 0, .int .i64 0, .int .i64 0, .int .u8 0, .int .u8 0, .int .u8 0, .int .u8 0, .int .u8 0, .int .u8 0, .int .u8 0, .int .u8 0, .int .u8 0, .int .u8 0, .int .u8 0, .int .u8 0, .int .u8 0, .int .u8 0, .int .u8 0, .int .u8 0] 27)))
        clear hne
        have hne : g1 ≠ w4.heap.size := by have := bl_lt Hg1.out; omega
        replace Hg1 := Lib.hid ((setRow_other (w4.alloc (.cells #[.string ⟨#[]⟩, .int .i64 0, .int .i64 0, .int .i64 0, .int .u8 0, .int .u8 0, .int .u8 0, .int .u8 0, .int .u8 0, .int .u8 0, .int .u8 0, .int .u8 0, .int .u8 0, .int .u8 0, .int .u8 0, .int .u8 0, .int .u8 0, .int .u8 0, .int .u8 0, .int .u8 0] 27)) w4.heap.size g1 (nmC m) hne).trans (bl_alloc Hg1.out (.cells #[.string ⟨#[]⟩, .int .i64 0, .int .i64 0, .int .i64 0, .int .u8 0, .int .u8 0, .int .u8 0, .int .u8 0, .int .u8 0, .int .u8 0, .int .u8 0, .int .u8 0, .int .u8 0, .int .u8 0, .int .u8 0, .int .u8 0, .int .u8 0, .int .u8 0, .int .u8 0, .int .u8 0] 27)))
        clear hne
        obtain ⟨g2, hgd⟩ : ∃ g, w4.heap.size = g := ⟨_, rfl⟩
        rw [hgd] at hs hbn Hg Hg1
        simp only [hgd]
        obtain ⟨w5, hnew⟩ : ∃ W, (w4.alloc (.cells #[.string ⟨#[]⟩, .int .i64 0, .int .i64 0, .int .i64 0, .int .u8 0, .int .u8 0, .int .u8 0, .int .u8 0, .int .u8 0, .int .u8 0, .int .u8 0, .int .u8 0, .int .u8 0, .int .u8 0, .int .u8 0, .int .u8 0, .int .u8 0, .int .u8 0, .int .u8 0, .int .u8 0] 27)).setRow g2 (nmC m) = W := ⟨_, rfl⟩
        rw [hnew] at hs hbn Hg Hg1
        simp only [hnew]
        have Hg2 := Lib.hid hs
        have HB5 := Lib.hid hbn
        clear hs hbn hgd hnew hm hsz
        go_wp2_with fail
        refine calls_below (CH.out _) ?_
        intro w6 hq
        have HB6 := Lib.hid (below_trans HB5.out hq)
        replace Hg := Lib.hid (bl_below Hg.out hq)
        replace Hg1 := Lib.hid (bl_below Hg1.out hq)
        replace Hg2 := Lib.hid (bl_below Hg2.out hq)
        clear hq
        go_wp2_with ((with_reducible refine stop_store 38 (.tmp 12) (.tmp 43) ?hst ?_); (case hst => rfl))
        change wpList _ _ _ _ _ _
        have hm := bl_new w6 (.cells #[.string ⟨#[]⟩, .int .i64 0, .int .i64 0, .int .i64 0, .int .u8 0, .int .u8 0, .int .u8 0, .int .u8 0, .int .u8 0, .int .u8 0, .int .u8 0, .int .u8 0, .int .u8 0, .int .u8 0, .int .u8 0, .int .u8 0, .int .u8 0, .int .u8 0, .int .u8 0, .int .u8 0, .int .i64 0] 38)
        refine wpList_store_row (by rfl) 38 (.tmp 12) (.tmp 43) (by rfl) w6.heap.size (oneC m f) (by rfl) (by rfl) 38 _ hm size38 (by rfl) (one_one m f) ?_
        have hs := setRow_heap _ _ _ (oneC m f) _ _ hm
        have hsz := HB6.out.size
        have hbn : Below w.heap.size w ((w6.alloc (.cells #[.string ⟨#[]⟩, .int .i64 0, .int .i64 0, .int .i64 0, .int .u8 0, .int .u8 0, .int .u8 0, .int .u8 0, .int .u8 0, .int .u8 0, .int .u8 0, .int .u8 0, .int .u8 0, .int .u8 0, .int .u8 0, .int .u8 0, .int .u8 0, .int .u8 0, .int .u8 0, .int .u8 0, .int .i64 0] 38)).setRow w6.heap.size (oneC m f)) := below_setRow (below_alloc HB6.out _) hsz _
        have hne : w.heap.size ≠ w6.heap.size := by have := bl_lt Hg.out; omega
        replace Hg := Lib.hid ((setRow_other (w6.alloc (.cells #[.string ⟨#[]⟩, .int .i64 0, .int .i64 0, .int .i64 0, .int .u8 0, .int .u8 0, .int .u8 0, .int .u8 0, .int .u8 0, .int .u8 0, .int .u8 0, .int .u8 0, .int .u8 0, .int .u8 0, .int .u8 0, .int .u8 0, .int .u8 0, .int .u8 0, .int .u8 0, .int .u8 0, .int .i64 0] 38)) w6.heap.size w.heap.size (oneC m f) hne).trans (bl_alloc Hg.out (.cells #[.string ⟨#[]⟩, .int .i64 0, .int .i64 0, .int .i64 0, .int .u8 0, .int .u8 0, .int .u8 0, .int .u8 0, .int .u8 0, .int .u8 0, .int .u8 0, .int .u8 0, .int .u8 0, .int .u8 0, .int .u8 0, .int .u8 0, .int .u8 0, .int .u8 0, .int .u8 0, .int .u8 0, .int .i64 0] 38)))
        clear hne
        have hne : g1 ≠ w6.heap.size := by have := bl_lt Hg1.out; omega
        replace Hg1 := Lib.hid ((setRow_other (w6.alloc (.cells #[.string ⟨#[]⟩, .int .i64 0, .int .i64 0, .int .i64 0, .int .u8 0, .int .u8 0, .int .u8 0, .int .u8 0, .int .u8 0, .int .u8 0, .int .u8 0, .int .u8 0, .int .u8 0, .int .u8 0, .int .u8 0, .int .u8 0, .int .u8 0, .int .u8 0, .int .u8 0, .int .u8 0, .int .i64 0] 38)) w6.heap.size g1 (oneC m f) hne).trans (bl_alloc Hg1.out (.cells #[.string ⟨#[]⟩, .int .i64 0, .int .i64 0, .int .i64 0, .int .u8 0, .int .u8 0, .int .u8 0, .int .u8 0, .int .u8 0, .int .u8 0, .int .u8 0, .int .u8 0, .int .u8 0, .int .u8 0, .int .u8 0, .int .u8 0, .int .u8 0, .int .u8 0, .int .u8 0, .int .u8 0, .int .i64 0] 38)))
        clear hne
        have hne : g2 ≠ w6.heap.size := by have := bl_lt Hg2.out; omega
        replace Hg2 := Lib.hid ((setRow_other (w6.alloc (.cells #[.string ⟨#[]⟩, .int .i64 0, .int .i64 0, .int .i64 0, .int .u8 0, .int .u8 0, .int .u8 0, .int .u8 0, .int .u8 0, .int .u8 0, .int .u8 0, .int .u8 0, .int .u8 0, .int .u8 0, .int .u8 0, .int .u8 0, .int .u8 0, .int .u8 0, .int .u8 0, .int .u8 0, .int .i64 0] 38)) w6.heap.size g2 (oneC m f) hne).trans (bl_alloc Hg2.out (.cells #[.string ⟨#[]⟩, .int .i64 0, .int .i64 0, .int .i64 0, .int .u8 0, .int .u8 0, .int .u8 0, .int .u8 0, .int .u8 0, .int .u8 0, .int .u8 0, .int .u8 0, .int .u8 0, .int .u8 0, .int .u8 0, .int .u8 0, .int .u8 0, .int .u8 0, .int .u8 0, .int .u8 0, .int .i64 0] 38)))
        clear hne
        obtain ⟨g3, hgd⟩ : ∃ g, w6.heap.size = g := ⟨_, rfl⟩
        rw [hgd] at hs hbn Hg Hg1 Hg2
        simp only [hgd]
        obtain ⟨w7, hnew⟩ : ∃ W, (w6.alloc (.cells #[.string ⟨#[]⟩, .int .i64 0, .int .i64 0, .int .i64 0, .int .u8 0, .int .u8 0, .int .u8 0, .int .u8 0, .int .u8 0, .int .u8 0, .int .u8 0, .int .u8 0, .int .u8 0, .int .u8 0, .int .u8 0, .int .u8 0, .int .u8 0, .int .u8 0, .int .u8 0, .int .u8 0, .int .i64 0] 38)).setRow g3 (oneC m f) = W := ⟨_, rfl⟩
        rw [hnew] at hs hbn Hg Hg1 Hg2
        simp only [hnew]
        have Hg3 := Lib.hid hs
        have HB7 := Lib.hid hbn
        clear hs hbn hgd hnew hm hsz
        go_wp2_with fail
        refine calls_below (sane_any _) ?_
        intro wz hz
        have hbz := below_trans HB7.out hz
        have hg1 := bl_below Hg1.out hz
        have hg2 := bl_below Hg2.out hz
        have hg3 := bl_below Hg3.out hz
        have a0 := bl_cell hg1 0
        have a1 := bl_cell hg1 1
        have b0 := (bl_cell hg3 20).trans (one_20 m f)
        have l1 := bl_lt hg1
        have l2 := bl_lt hg2
        have l3 := bl_lt hg3
        have HL1 := Lib.hid (cells_all hg2)
        have HL3 := Lib.hid (cells_at hg3 0 (one_nm m f))
        have heq := nmdEq_refl m
        clear hz hg1 hg2 hg3
        go_wp2_with ((with_reducible refine stop_load 27 (.tmp 10) ?hst ?_); (case hst => rfl))
        change wpList _ _ _ _ _ _
        refine wpList_loadC _ 27 (.tmp 10) (by rfl) (by rfl) ⟨g2, 0, none⟩ (by rfl) (nmC m) _ HL1.out Tryz.underlying27 (by rfl) size27 ?_
        go_wp2_with ((with_reducible refine stop_load 27 (.tmp 59) ?hst ?_); (case hst => rfl))
        change wpList _ _ _ _ _ _
        refine wpList_loadC _ 27 (.tmp 59) (by rfl) (by rfl) ⟨g3, 0, none⟩ (by rfl) (nmC m) _ HL3.out Tryz.underlying27 (by rfl) size27 ?_
        go_wp2
        go_ret
        exact ⟨rfl, hbz⟩
      · go_enter Tryz.func3, Tryz.ntmps3
        go_wp2_with fail
        refine calls_below (sane_any _) ?_
        intro wz hz
        have hbz := below_trans HB0.out hz
        go_wp2
        go_ret
        exact ⟨rfl, hbz⟩
    · go_enter Tryz.func3, Tryz.ntmps3
      go_wp2_with fail
      refine calls_below (sane_any _) ?_
      intro wz hz
      have hbz := below_trans HB0.out hz
      go_wp2
      go_ret
      exact ⟨rfl, hbz⟩
  · go_enter Tryz.func3, Tryz.ntmps3
    go_wp2_with fail
    refine calls_below (sane_any _) ?_
    intro wz hz
    have hbz := below_trans HB0.out hz
    go_wp2
    go_ret
    exact ⟨rfl, hbz⟩
end Go.Proofs.YtoefpcepplgkeaaGreat
end
