/- The reference's PutNamed. (Printed by wip/txn/gen_p2.py.). -/
import Derived.Test.YtoefpcepplgkeaaGreatNh
section
set_option linter.unusedVariables false
set_option linter.unusedSimpArgs false
namespace Go.Proofs.YtoefpcepplgkeaaGreat
open Go.RowKit
theorem size33 : (Tryz.prog.info? 33).map (·.size) = some 2 := by kernel_rfl
theorem bapp (a b : List UInt8) : (ByteArray.mk ⟨a⟩) ++ ⟨⟨b⟩⟩ = ⟨⟨a ++ b⟩⟩ := by
  have : ((ByteArray.mk ⟨a⟩) ++ ⟨⟨b⟩⟩).data = (⟨a ++ b⟩ : Array UInt8) := by
    rw [ByteArray.data_append]
    simp
  exact congrArg ByteArray.mk this
theorem put_join (x : Nmd) : (((ByteArray.mk ⟨[byteOf x.number]⟩) ++ ⟨(be4 x.root).toArray⟩) ++ ⟨(be4 x.count).toArray⟩) ++ ⟨⟨[x.s0, x.s1, x.s2, x.s3, x.s4, x.s5, x.s6, x.s7, x.s8, x.s9, x.s10, x.s11, x.s12, x.s13, x.s14, x.s15]⟩⟩ = ⟨⟨putL x⟩⟩ := by
  rw [show (⟨(be4 x.root).toArray⟩ : ByteArray) = ⟨⟨be4 x.root⟩⟩ from rfl, show (⟨(be4 x.count).toArray⟩ : ByteArray) = ⟨⟨be4 x.count⟩⟩ from rfl, bapp, bapp, bapp]
  rfl
theorem blk2 {w : World} {g : Nat} {t : TypeId} {c0 c1 : Value} (h : w.heap[g]? = some (.cells #[c0, c1] t (0, 0))) : (w.cell? ⟨g, 0, none⟩ = some c0 ∧ w.cell? ⟨g, 1, none⟩ = some c1) ∧ w.frozen? ⟨g, 0, none⟩ = false ∧ w.frozen? ⟨g, 1, none⟩ = false :=
  ⟨⟨bl_cell h 0, bl_cell h 1⟩, bl_frozen h 0, bl_frozen h 1⟩
theorem set2 {w : World} {g : Nat} {t : TypeId} {c0 c1 : Value} (h : w.heap[g]? = some (.cells #[c0, c1] t (0, 0))) (a b : Value) : ((w.setCell ⟨g, 0, none⟩ a).setCell ⟨g, 1, none⟩ b).heap[g]? = some (.cells #[a, b] t (0, 0)) := by
  simpa using bl_set (bl_set h 0 a) 1 b
theorem right_bounds {x : Nmd} (h : rightB x = true) : (0 ≤ x.root ∧ x.root ≤ 9223372036854775807) ∧ (0 ≤ x.count ∧ x.count ≤ 9223372036854775807) := by
  simp only [rightB, zeroT, Bool.and_eq_true, Bool.or_eq_true, beq_iff_eq, decide_eq_true_eq] at h
  rcases h.2 with ⟨h1, h2, -⟩ | h1
  · omega
  · omega

set_option maxHeartbeats 4000000 in
set_option maxRecDepth 100000 in
theorem RPut_bad (x : Nmd) (hs : x.name.size ≤ 9223372036854775807) (h : nameB x.name = false ∨ rightB x = false) (w : World) : Calls Tryz.prog 7 #[.agg (nmC x)] w fun e w' => e = .returned (.agg #[.string ⟨#[]⟩, .int .i64 2]) ∧ Below w.heap.size w w' := by
  have cN := fun w => IsName_any x.name w hs
  have cR := fun w => right_any x w
  have n0 := nm_0 x
  obtain ⟨N, hN⟩ : ∃ N, nameB x.name = N := ⟨_, rfl⟩
  obtain ⟨R, hR⟩ : ∃ R, rightB x = R := ⟨_, rfl⟩
  rw [hN, hR] at h
  rw [hN] at cN
  rw [hR] at cR
  have hb := below_alloc (below_alloc (Below.refl w.heap.size w) (.cells (nmC x) 27)) (.cells #[.string ⟨#[]⟩, .int .i64 0] 33)
  have hg := bl_alloc (bl_new w (.cells (nmC x) 27)) (.cells #[.string ⟨#[]⟩, .int .i64 0] 33)
  have hr : ((w.alloc (.cells (nmC x) 27)).alloc (.cells #[.string ⟨#[]⟩, .int .i64 0] 33)).heap[w.heap.size + 1]? = some (.cells #[.string ⟨#[]⟩, .int .i64 0] 33 (0, 0)) := by simpa using bl_new (w.alloc (.cells (nmC x) 27)) (.cells #[.string ⟨#[]⟩, .int .i64 0] 33)
  have CN := Lib.hid cN
  have CR := Lib.hid cR
  have HB := Lib.hid hb
  have HG := Lib.hid hg
  have HR := Lib.hid hr
  clear cN cR hN hR hb hg hr
  cases N
  · go_enter Tryz.func7, Tryz.ntmps7
    go_wp2_with fail
    refine calls_below (CN.out _) ?_
    intro w1 hb1
    have hbe := below_trans HB.out hb1
    have hgr := bl_below HR.out hb1
    have hgl := bl_lt hgr
    obtain ⟨⟨q0, q1⟩, f0, f1⟩ := blk2 hgr
    clear hb1
    go_wp2
    exact ret_c Tryz.results7 (w.heap.size + 1) 33 _ _ (by rfl) (set2 hgr _ _) Tryz.underlying33 (by rfl) size33 (by rfl) ⟨rfl, Below.setCell (Below.setCell hbe (by simp) _) (by simp) _⟩
  · cases R
    · go_enter Tryz.func7, Tryz.ntmps7
      go_wp2_with fail
      refine calls_below (CN.out _) ?_
      intro w1 hb1
      have HL := Lib.hid (cells_all (bl_below HG.out hb1))
      have HB1 := Lib.hid (below_trans HB.out hb1)
      have HR1 := Lib.hid (bl_below HR.out hb1)
      clear hb1
      go_wp2_with ((with_reducible refine stop_load 27 (.tmp 1) ?hst ?_); (case hst => rfl))
      change wpList _ _ _ _ _ _
      refine wpList_loadC _ 27 (.tmp 1) (by rfl) (by rfl) ⟨w.heap.size, 0, none⟩ (by rfl) (nmC x) _ HL.out Tryz.underlying27 (by rfl) size27 ?_
      go_wp2_with fail
      refine calls_below (CR.out _) ?_
      intro w2 hb2
      have hbe := below_trans HB1.out hb2
      have hgr := bl_below HR1.out hb2
      have hgl := bl_lt hgr
      obtain ⟨⟨q0, q1⟩, f0, f1⟩ := blk2 hgr
      clear hb2
      go_wp2
      exact ret_c Tryz.results7 (w.heap.size + 1) 33 _ _ (by rfl) (set2 hgr _ _) Tryz.underlying33 (by rfl) size33 (by rfl) ⟨rfl, Below.setCell (Below.setCell hbe (by simp) _) (by simp) _⟩
    · rcases h with h | h <;> cases h

set_option maxHeartbeats 4000000 in
set_option maxRecDepth 100000 in
theorem RPut_ok (x : Nmd) (hs : x.name.size ≤ 9223372036854775807) (h1 : nameB x.name = true) (h2 : rightB x = true) (w : World) : Calls Tryz.prog 7 #[.agg (nmC x)] w fun e w' => e = .returned (.agg #[.string ⟨⟨putL x⟩⟩, .int .i64 0]) ∧ Below w.heap.size w w' := by
  have cN := fun w => IsName_any x.name w hs
  have cR := fun w => right_any x w
  have n0 := nm_0 x
  obtain ⟨hb1, hb2⟩ := right_bounds h2
  rw [h1] at cN
  rw [h2] at cR
  have hb := below_alloc (below_alloc (Below.refl w.heap.size w) (.cells (nmC x) 27)) (.cells #[.string ⟨#[]⟩, .int .i64 0] 33)
  have hg := bl_alloc (bl_new w (.cells (nmC x) 27)) (.cells #[.string ⟨#[]⟩, .int .i64 0] 33)
  have hr : ((w.alloc (.cells (nmC x) 27)).alloc (.cells #[.string ⟨#[]⟩, .int .i64 0] 33)).heap[w.heap.size + 1]? = some (.cells #[.string ⟨#[]⟩, .int .i64 0] 33 (0, 0)) := by simpa using bl_new (w.alloc (.cells (nmC x) 27)) (.cells #[.string ⟨#[]⟩, .int .i64 0] 33)
  have HB1' := Lib.hid hb1
  have HB2' := Lib.hid hb2
  have CN := Lib.hid cN
  have CR := Lib.hid cR
  have HB := Lib.hid hb
  have HG := Lib.hid hg
  have HR := Lib.hid hr
  clear cN cR hb hg hr h1 h2 hb1 hb2
  go_enter Tryz.func7, Tryz.ntmps7
  go_wp2_with fail
  refine calls_below (CN.out _) ?_
  intro w1 hb1
  have HL := Lib.hid (cells_all (bl_below HG.out hb1))
  have HG1 := Lib.hid (bl_below HG.out hb1)
  have HB1 := Lib.hid (below_trans HB.out hb1)
  have HR1 := Lib.hid (bl_below HR.out hb1)
  clear hb1
  go_wp2_with ((with_reducible refine stop_load 27 (.tmp 1) ?hst ?_); (case hst => rfl))
  change wpList _ _ _ _ _ _
  refine wpList_loadC _ 27 (.tmp 1) (by rfl) (by rfl) ⟨w.heap.size, 0, none⟩ (by rfl) (nmC x) _ HL.out Tryz.underlying27 (by rfl) size27 ?_
  go_wp2_with fail
  refine calls_below (CR.out _) ?_
  intro w0 hb2
  have HBX := Lib.hid (bl_below HG1.out hb2)
  have HB0 := Lib.hid (below_trans HB1.out hb2)
  have HR0 := Lib.hid (bl_below HR1.out hb2)
  clear hb2
  go_wp2_with fail
  have hbx := HBX.out
  have k1 := (bl_cell hbx 1).trans (nm_1 x)
  have k2 := (bl_cell hbx 2).trans (nm_2 x)
  have k3 := (bl_cell hbx 3).trans (nm_3 x)
  have kl := bl_lt hbx
  clear hbx
  refine wp_region_noPanic ?_
  refine wp_plan [] (.take 0 (.take 1 (.take 2 (.take 5 (.take 6 (.take 7 (.take 10 (.take 11 (.take 12 (.take 15 (.take 16 (.take 17 (.take 18 (.two 3 8 (.take 4 (.eff 8 (.take 9 (.eff 13 (.take 14 (.take 19 (.take 20 .tail))))))) (.two 3 13 (.take 4 (.take 9 (.eff 13 (.take 14 (.take 19 (.take 20 .tail)))))) (.eff 3 (.take 4 (.take 9 (.take 14 (.take 19 (.take 20 .tail))))))))))))))))))))) 21 (by kernel_rfl) (by kernel_rfl) (by kernel_rfl) (by kernel_rfl) (fun d v c a w h => h) ?_
  have hw1b : Later w0 w0.drew := (Later.refl _).drew
  replace k1 : w0.drew.cell? ⟨w.heap.size, 1, none⟩ = _ := k1
  replace k2 : w0.drew.cell? ⟨w.heap.size, 2, none⟩ = _ := k2
  replace k3 : w0.drew.cell? ⟨w.heap.size, 3, none⟩ = _ := k3
  replace kl : w.heap.size < w0.drew.heap.size := kl
  obtain ⟨w1, hwa⟩ : ∃ W, w0.drew = W := ⟨_, rfl⟩
  rw [hwa] at hw1b k1 k2 k3 kl ⊢
  clear hwa
  iterate 12
    apply plan_take
    case hw => rfl
    case hy => intro W hW; obtain ⟨hwc, -⟩ := bcell hW; simp only [List.getD_cons_zero, List.getD_cons_succ]; go_simp; try rfl
    simp only [List.getD_cons_zero, List.getD_cons_succ, Act.put, List.setIfInBounds_toArray, List.set_cons_zero, List.set_cons_succ]
  clear k1 k2 k3
  have hbs := rd_sum (bl_below HBX.out hw1b)
  refine plan_take (.string ⟨⟨[x.s0, x.s1, x.s2, x.s3, x.s4, x.s5, x.s6, x.s7, x.s8, x.s9, x.s10, x.s11, x.s12, x.s13, x.s14, x.s15]⟩⟩) (by rfl) (fun W hW => ?_) ?_
  · simp only [List.getD_cons_zero, List.getD_cons_succ]
    exact exec_conv W 70 9 5 (.tmp 30) rfl Tryz.underlying70 Tryz.underlying5 Tryz.underlying9 _ 16 [x.s0, x.s1, x.s2, x.s3, x.s4, x.s5, x.s6, x.s7, x.s8, x.s9, x.s10, x.s11, x.s12, x.s13, x.s14, x.s15] rfl (hbs.below hW)
  simp only [List.getD_cons_zero, List.getD_cons_succ, Act.put, List.setIfInBounds_toArray, List.set_cons_zero, List.set_cons_succ]
  clear hbs
  refine plan_two (fun K hK => ?_) (fun K hK => ?_)
  · simp only [List.getD_cons_zero, List.getD_cons_succ]
    go_wp2
    refine hK _ _ (Later.alloc (Later.refl _) _) ?_
    clear hK K
    have hg1 := bl_new w1 (.cells #[.int .u8 (x.number % 256)] 5)
    obtain ⟨g1, hgd⟩ : ∃ g, w1.heap.size = g := ⟨_, rfl⟩
    have hgs : Hid (w0.heap.size ≤ g1) := by show _ ≤ _; rw [← hgd]; exact hw1b.size
    rw [hgd] at hg1
    simp only [hgd]
    obtain ⟨w2, hnew⟩ : ∃ W, w1.alloc (.cells #[.int .u8 (x.number % 256)] 5) = W := ⟨_, rfl⟩
    have hw2b : Later w0 w2 := by rw [← hnew]; exact Later.alloc hw1b _
    rw [hnew] at hg1
    simp only [hnew]
    clear hgd hnew hgs
    refine plan_take (.string ⟨⟨[byteOf x.number]⟩⟩) (by rfl) (fun W hW => ?_) ?_
    · simp only [List.getD_cons_zero, List.getD_cons_succ]
      exact exec_conv W 70 9 5 (.tmp 16) rfl Tryz.underlying70 Tryz.underlying5 Tryz.underlying9 _ 1 [byteOf x.number] rfl ((Rd.bytes [byteOf x.number] hg1 (by simp [flat, Enc.enc, byteOf_toNat])).below hW)
    simp only [List.getD_cons_zero, List.getD_cons_succ, Act.put, List.setIfInBounds_toArray, List.set_cons_zero, List.set_cons_succ]
    refine plan_eff fun K hK => ?_
    simp only [List.getD_cons_zero, List.getD_cons_succ]
    go_wp2_with (go_at_call 23; refine calls_below (big_any x.root HB1'.out.1 HB1'.out.2 _) ?_; intro w3 hq)
    refine hK _ _ hq ?_
    have hw3b := Later.trans hw2b hq
    replace hg1 := bl_below hg1 hq
    clear hK K hq
    iterate 1
      apply plan_take
      case hw => rfl
      case hy => intro W hW; obtain ⟨hwc, -⟩ := bcell hW; simp only [List.getD_cons_zero, List.getD_cons_succ]; go_simp; try rfl
      simp only [List.getD_cons_zero, List.getD_cons_succ, Act.put, List.setIfInBounds_toArray, List.set_cons_zero, List.set_cons_succ]
    refine plan_eff fun K hK => ?_
    simp only [List.getD_cons_zero, List.getD_cons_succ]
    go_wp2_with (go_at_call 23; refine calls_below (big_any x.count HB2'.out.1 HB2'.out.2 _) ?_; intro w4 hq)
    refine hK _ _ hq ?_
    have hw4b := Later.trans hw3b hq
    replace hg1 := bl_below hg1 hq
    clear hK K hq
    iterate 3
      apply plan_take
      case hw => rfl
      case hy => intro W hW; obtain ⟨hwc, -⟩ := bcell hW; simp only [List.getD_cons_zero, List.getD_cons_succ]; go_simp; try rfl
      simp only [List.getD_cons_zero, List.getD_cons_succ, Act.put, List.setIfInBounds_toArray, List.set_cons_zero, List.set_cons_succ]
    refine plan_tail ?_
    simp only [List.drop_succ_cons, List.drop_zero]
    have hgr := bl_below HR0.out hw4b
    have hgl := bl_lt hgr
    obtain ⟨⟨q0, q1⟩, f0, f1⟩ := blk2 hgr
    go_wp2
    refine NoPanic.normal ?_
    go_wp2
    exact ret_c Tryz.results7 (w.heap.size + 1) 33 _ _ (by rfl) (set2 hgr _ _) Tryz.underlying33 (by rfl) size33 (by rfl) ⟨congrArg (fun s => Ending.returned (.agg #[.string s, .int .i64 0])) (put_join x), Below.setCell (Below.setCell (HB0.out.trans (hw4b.mono HB0.out.size)) (by simp) _) (by simp) _⟩
  · simp only [List.getD_cons_zero, List.getD_cons_succ]
    go_wp2_with (go_at_call 23; refine calls_below (big_any x.root HB1'.out.1 HB1'.out.2 _) ?_; intro w2 hq)
    refine hK _ _ hq ?_
    have hw2b := Later.trans hw1b hq
    clear hK K hq
    refine plan_two (fun K hK => ?_) (fun K hK => ?_)
    · simp only [List.getD_cons_zero, List.getD_cons_succ]
      go_wp2
      refine hK _ _ (Later.alloc (Later.refl _) _) ?_
      clear hK K
      have hg1 := bl_new w2 (.cells #[.int .u8 (x.number % 256)] 5)
      obtain ⟨g1, hgd⟩ : ∃ g, w2.heap.size = g := ⟨_, rfl⟩
      have hgs : Hid (w0.heap.size ≤ g1) := by show _ ≤ _; rw [← hgd]; exact hw2b.size
      rw [hgd] at hg1
      simp only [hgd]
      obtain ⟨w3, hnew⟩ : ∃ W, w2.alloc (.cells #[.int .u8 (x.number % 256)] 5) = W := ⟨_, rfl⟩
      have hw3b : Later w0 w3 := by rw [← hnew]; exact Later.alloc hw2b _
      rw [hnew] at hg1
      simp only [hnew]
      clear hgd hnew hgs
      refine plan_take (.string ⟨⟨[byteOf x.number]⟩⟩) (by rfl) (fun W hW => ?_) ?_
      · simp only [List.getD_cons_zero, List.getD_cons_succ]
        exact exec_conv W 70 9 5 (.tmp 16) rfl Tryz.underlying70 Tryz.underlying5 Tryz.underlying9 _ 1 [byteOf x.number] rfl ((Rd.bytes [byteOf x.number] hg1 (by simp [flat, Enc.enc, byteOf_toNat])).below hW)
      simp only [List.getD_cons_zero, List.getD_cons_succ, Act.put, List.setIfInBounds_toArray, List.set_cons_zero, List.set_cons_succ]
      iterate 1
        apply plan_take
        case hw => rfl
        case hy => intro W hW; obtain ⟨hwc, -⟩ := bcell hW; simp only [List.getD_cons_zero, List.getD_cons_succ]; go_simp; try rfl
        simp only [List.getD_cons_zero, List.getD_cons_succ, Act.put, List.setIfInBounds_toArray, List.set_cons_zero, List.set_cons_succ]
      refine plan_eff fun K hK => ?_
      simp only [List.getD_cons_zero, List.getD_cons_succ]
      go_wp2_with (go_at_call 23; refine calls_below (big_any x.count HB2'.out.1 HB2'.out.2 _) ?_; intro w4 hq)
      refine hK _ _ hq ?_
      have hw4b := Later.trans hw3b hq
      replace hg1 := bl_below hg1 hq
      clear hK K hq
      iterate 3
        apply plan_take
        case hw => rfl
        case hy => intro W hW; obtain ⟨hwc, -⟩ := bcell hW; simp only [List.getD_cons_zero, List.getD_cons_succ]; go_simp; try rfl
        simp only [List.getD_cons_zero, List.getD_cons_succ, Act.put, List.setIfInBounds_toArray, List.set_cons_zero, List.set_cons_succ]
      refine plan_tail ?_
      simp only [List.drop_succ_cons, List.drop_zero]
      have hgr := bl_below HR0.out hw4b
      have hgl := bl_lt hgr
      obtain ⟨⟨q0, q1⟩, f0, f1⟩ := blk2 hgr
      go_wp2
      refine NoPanic.normal ?_
      go_wp2
      exact ret_c Tryz.results7 (w.heap.size + 1) 33 _ _ (by rfl) (set2 hgr _ _) Tryz.underlying33 (by rfl) size33 (by rfl) ⟨congrArg (fun s => Ending.returned (.agg #[.string s, .int .i64 0])) (put_join x), Below.setCell (Below.setCell (HB0.out.trans (hw4b.mono HB0.out.size)) (by simp) _) (by simp) _⟩
    · simp only [List.getD_cons_zero, List.getD_cons_succ]
      go_wp2_with (go_at_call 23; refine calls_below (big_any x.count HB2'.out.1 HB2'.out.2 _) ?_; intro w3 hq)
      refine hK _ _ hq ?_
      have hw3b := Later.trans hw2b hq
      clear hK K hq
      refine plan_eff fun K hK => ?_
      simp only [List.getD_cons_zero, List.getD_cons_succ]
      go_wp2
      refine hK _ _ (Later.alloc (Later.refl _) _) ?_
      clear hK K
      have hg1 := bl_new w3 (.cells #[.int .u8 (x.number % 256)] 5)
      obtain ⟨g1, hgd⟩ : ∃ g, w3.heap.size = g := ⟨_, rfl⟩
      have hgs : Hid (w0.heap.size ≤ g1) := by show _ ≤ _; rw [← hgd]; exact hw3b.size
      rw [hgd] at hg1
      simp only [hgd]
      obtain ⟨w4, hnew⟩ : ∃ W, w3.alloc (.cells #[.int .u8 (x.number % 256)] 5) = W := ⟨_, rfl⟩
      have hw4b : Later w0 w4 := by rw [← hnew]; exact Later.alloc hw3b _
      rw [hnew] at hg1
      simp only [hnew]
      clear hgd hnew hgs
      refine plan_take (.string ⟨⟨[byteOf x.number]⟩⟩) (by rfl) (fun W hW => ?_) ?_
      · simp only [List.getD_cons_zero, List.getD_cons_succ]
        exact exec_conv W 70 9 5 (.tmp 16) rfl Tryz.underlying70 Tryz.underlying5 Tryz.underlying9 _ 1 [byteOf x.number] rfl ((Rd.bytes [byteOf x.number] hg1 (by simp [flat, Enc.enc, byteOf_toNat])).below hW)
      simp only [List.getD_cons_zero, List.getD_cons_succ, Act.put, List.setIfInBounds_toArray, List.set_cons_zero, List.set_cons_succ]
      iterate 1
        apply plan_take
        case hw => rfl
        case hy => intro W hW; obtain ⟨hwc, -⟩ := bcell hW; simp only [List.getD_cons_zero, List.getD_cons_succ]; go_simp; try rfl
        simp only [List.getD_cons_zero, List.getD_cons_succ, Act.put, List.setIfInBounds_toArray, List.set_cons_zero, List.set_cons_succ]
      iterate 3
        apply plan_take
        case hw => rfl
        case hy => intro W hW; obtain ⟨hwc, -⟩ := bcell hW; simp only [List.getD_cons_zero, List.getD_cons_succ]; go_simp; try rfl
        simp only [List.getD_cons_zero, List.getD_cons_succ, Act.put, List.setIfInBounds_toArray, List.set_cons_zero, List.set_cons_succ]
      refine plan_tail ?_
      simp only [List.drop_succ_cons, List.drop_zero]
      have hgr := bl_below HR0.out hw4b
      have hgl := bl_lt hgr
      obtain ⟨⟨q0, q1⟩, f0, f1⟩ := blk2 hgr
      go_wp2
      refine NoPanic.normal ?_
      go_wp2
      exact ret_c Tryz.results7 (w.heap.size + 1) 33 _ _ (by rfl) (set2 hgr _ _) Tryz.underlying33 (by rfl) size33 (by rfl) ⟨congrArg (fun s => Ending.returned (.agg #[.string s, .int .i64 0])) (put_join x), Below.setCell (Below.setCell (HB0.out.trans (hw4b.mono HB0.out.size)) (by simp) _) (by simp) _⟩

theorem PutNamed_full (x : Nmd) (w : World) : Calls Tryz.prog 6 #[.agg (nmC x)] w fun e w' => e = .returned (.tuple #[.string (putS x), .int .i64 (putE x)]) ∧ Below w.heap.size w w' := by
  unfold putS putE
  cases h1 : nameB x.name
  · exact PutNamed_bad x (.inl h1) w
  · cases h2 : rightB x
    · exact PutNamed_bad x (.inr h2) w
    · exact PutNamed_ok x h1 h2 w
theorem RPut_full (x : Nmd) (hs : x.name.size ≤ 9223372036854775807) (w : World) : Calls Tryz.prog 7 #[.agg (nmC x)] w fun e w' => e = .returned (.agg #[.string (putS x), .int .i64 (putE x)]) ∧ Below w.heap.size w w' := by
  unfold putS putE
  cases h1 : nameB x.name
  · exact RPut_bad x hs (.inl h1) w
  · cases h2 : rightB x
    · exact RPut_bad x hs (.inr h2) w
    · exact RPut_ok x hs h1 h2 w
end Go.Proofs.YtoefpcepplgkeaaGreat
end
