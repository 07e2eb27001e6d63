/- The program's PutNamed. (Printed by wip/txn/gen_p1.py.). -/
import Derived.Test.YtoefpcepplgkeaaGreatNg
section
set_option linter.unusedVariables false
set_option linter.unusedSimpArgs false
namespace Go.Proofs.YtoefpcepplgkeaaGreat
open Go.RowKit
/-- The value of a named tree in the catalog. -/
def putL (x : Nmd) : List UInt8 := byteOf x.number :: (be4 x.root ++ (be4 x.count ++ [x.s0, x.s1, x.s2, x.s3, x.s4, x.s5, x.s6, x.s7, x.s8, x.s9, x.s10, x.s11, x.s12, x.s13, x.s14, x.s15]))
def putE (x : Nmd) : Int := match nameB x.name, rightB x with
  | true, true => 0
  | _, _ => 2
def putS (x : Nmd) : ByteArray := if putE x = 0 then ⟨⟨putL x⟩⟩ else ⟨#[]⟩
theorem exec_conv {P : Program} {ev : Operand → Value} {o : Oper} (w : World) (src dst e : TypeId) (x : Operand) (ho : o.op = .convert src dst x) (hs : P.underlying src = some (.slice e)) (he : P.underlying e = some (.int .u8)) (hd : P.underlying dst = some .string) (A : Option Addr) (c : Nat) (xs : List UInt8) (hx : ev x = .slice A xs.length c) (HR : Rd w A xs) :
    (execOp ev o).run P w = .ok (.value (.string ⟨xs.toArray⟩)) w := by
  unfold execOp
  simp only [ho, hx, Sem.run_bind, Sem.run_pure, Result.andThen_ok, run_conv w src dst e hs he hd A c xs HR]
theorem rd_sum {w : World} {g : Nat} {t : TypeId} {fr : Nat × Nat} {x : Nmd} (hg : w.heap[g]? = some (.cells (nmC x) t fr)) : Rd w (some ⟨g, 4, none⟩) [x.s0, x.s1, x.s2, x.s3, x.s4, x.s5, x.s6, x.s7, x.s8, x.s9, x.s10, x.s11, x.s12, x.s13, x.s14, x.s15] := by
  refine Rd.of_cells fun j u hj => ?_
  rw [bl_cell hg]
  have h : (nmC x).toList.drop 4 = flat [x.s0, x.s1, x.s2, x.s3, x.s4, x.s5, x.s6, x.s7, x.s8, x.s9, x.s10, x.s11, x.s12, x.s13, x.s14, x.s15] := rfl
  rw [← h, List.getElem?_drop] at hj
  simpa using hj

set_option maxHeartbeats 4000000 in
set_option maxRecDepth 100000 in
theorem PutNamed_bad (x : Nmd) (h : nameB x.name = false ∨ rightB x = false) (w : World) : Calls Tryz.prog 6 #[.agg (nmC x)] w fun e w' => e = .returned (.tuple #[.string ⟨#[]⟩, .int .i64 2]) ∧ Below w.heap.size w w' := by
  have cN := fun w => isName_any x.name w
  have cR := fun w => isNamed_any x w
  have n0 := nm_0 x
  obtain ⟨N, hN⟩ : ∃ N, nameB x.name = N := ⟨_, rfl⟩
  obtain ⟨R, hR⟩ : ∃ R, rightB x = R := ⟨_, rfl⟩
  rw [hN, hR] at h
  rw [hN] at cN
  rw [hR] at cR
  have hb := below_alloc (Below.refl w.heap.size w) (.cells (nmC x) 27)
  have hg := bl_new w (.cells (nmC x) 27)
  have CN := Lib.hid cN
  have CR := Lib.hid cR
  have HB := Lib.hid hb
  have HG := Lib.hid hg
  clear cN cR hN hR hb hg
  cases N
  · go_enter Tryz.func6, Tryz.ntmps6
    go_wp2_with fail
    refine calls_below (CN.out _) ?_
    intro w1 hb1
    have hbe := below_trans HB.out hb1
    clear hb1
    go_wp2
    go_ret2
    exact ⟨rfl, hbe⟩
  · cases R
    · go_enter Tryz.func6, Tryz.ntmps6
      go_wp2_with fail
      refine calls_below (CN.out _) ?_
      intro w1 hb1
      have HL := Lib.hid (cells_all (bl_below HG.out hb1))
      have HB1 := Lib.hid (below_trans HB.out hb1)
      clear hb1
      go_wp2_with ((with_reducible refine stop_load 27 (.tmp 1) ?hst ?_); (case hst => rfl))
      change wpList _ _ _ _ _ _
      refine wpList_loadC _ 27 (.tmp 1) (by rfl) (by rfl) ⟨w.heap.size, 0, none⟩ (by rfl) (nmC x) _ HL.out Tryz.underlying27 (by rfl) size27 ?_
      go_wp2_with fail
      refine calls_below (CR.out _) ?_
      intro w2 hb2
      have hbe := below_trans HB1.out hb2
      clear hb2
      go_wp2
      go_ret2
      exact ⟨rfl, hbe⟩
    · rcases h with h | h <;> cases h

set_option maxHeartbeats 4000000 in
set_option maxRecDepth 100000 in
theorem PutNamed_ok (x : Nmd) (h1 : nameB x.name = true) (h2 : rightB x = true) (w : World) : Calls Tryz.prog 6 #[.agg (nmC x)] w fun e w' => e = .returned (.tuple #[.string ⟨⟨putL x⟩⟩, .int .i64 0]) ∧ Below w.heap.size w w' := by
  have cN := fun w => isName_any x.name w
  have cR := fun w => isNamed_any x w
  have n0 := nm_0 x
  rw [h1] at cN
  rw [h2] at cR
  have hb := below_alloc (Below.refl w.heap.size w) (.cells (nmC x) 27)
  have hg := bl_new w (.cells (nmC x) 27)
  have CN := Lib.hid cN
  have CR := Lib.hid cR
  have HB := Lib.hid hb
  have HG := Lib.hid hg
  clear cN cR hb hg h1 h2
  go_enter Tryz.func6, Tryz.ntmps6
  go_wp2_with fail
  refine calls_below (CN.out _) ?_
  intro w1 hb1
  have HL := Lib.hid (cells_all (bl_below HG.out hb1))
  have HG1 := Lib.hid (bl_below HG.out hb1)
  have HB1 := Lib.hid (below_trans HB.out hb1)
  clear hb1
  go_wp2_with ((with_reducible refine stop_load 27 (.tmp 1) ?hst ?_); (case hst => rfl))
  change wpList _ _ _ _ _ _
  refine wpList_loadC _ 27 (.tmp 1) (by rfl) (by rfl) ⟨w.heap.size, 0, none⟩ (by rfl) (nmC x) _ HL.out Tryz.underlying27 (by rfl) size27 ?_
  go_wp2_with fail
  refine calls_below (CR.out _) ?_
  intro w0 hb2
  have HBX := Lib.hid (bl_below HG1.out hb2)
  have HB0 := Lib.hid (below_trans HB1.out hb2)
  clear hb2
  go_wp2_with fail
  have hbx := HBX.out
  have k1 := (bl_cell hbx 1).trans (nm_1 x)
  have k2 := (bl_cell hbx 2).trans (nm_2 x)
  have k3 := (bl_cell hbx 3).trans (nm_3 x)
  have kl := bl_lt hbx
  clear hbx
  refine wp_region_noPanic ?_
  refine wp_plan [] (.take 0 (.take 1 (.take 2 (.take 4 (.take 5 (.take 6 (.take 8 (.take 9 (.take 10 (.take 12 (.take 13 (.take 14 (.two 3 7 (.eff 7 (.eff 11 (.eff 15 (.eff 16 (.take 17 .tail))))) (.two 3 11 (.eff 11 (.eff 15 (.eff 16 (.take 17 .tail)))) (.eff 3 (.eff 15 (.eff 16 (.take 17 .tail)))))))))))))))))) 18 (by kernel_rfl) (by kernel_rfl) (by kernel_rfl) (by kernel_rfl) (fun d v c a w h => h) ?_
  have hw1b : Later w0 w0.drew := (Later.refl _).drew
  replace k1 : w0.drew.cell? ⟨w.heap.size, 1, none⟩ = _ := k1
  replace k2 : w0.drew.cell? ⟨w.heap.size, 2, none⟩ = _ := k2
  replace k3 : w0.drew.cell? ⟨w.heap.size, 3, none⟩ = _ := k3
  replace kl : w.heap.size < w0.drew.heap.size := kl
  obtain ⟨w1, hwa⟩ : ∃ W, w0.drew = W := ⟨_, rfl⟩
  rw [hwa] at hw1b k1 k2 k3 kl ⊢
  clear hwa
  iterate 12
    apply plan_take
    case hw => rfl
    case hy => intro W hW; obtain ⟨hwc, -⟩ := bcell hW; simp only [List.getD_cons_zero, List.getD_cons_succ]; go_simp; try rfl
    simp only [List.getD_cons_zero, List.getD_cons_succ, Act.put, List.setIfInBounds_toArray, List.set_cons_zero, List.set_cons_succ]
  clear k1 k2 k3
  refine plan_two (fun K hK => ?_) (fun K hK => ?_)
  · simp only [List.getD_cons_zero, List.getD_cons_succ]
    go_wp2
    refine hK _ _ (Later.alloc (Later.refl _) _) ?_
    clear hK K
    have hg1 := bl_new w1 (.cells #[.int .u8 (x.number % 256)] 5)
    obtain ⟨g1, hgd⟩ : ∃ g, w1.heap.size = g := ⟨_, rfl⟩
    have hgs : Hid (w0.heap.size ≤ g1) := by show _ ≤ _; rw [← hgd]; exact hw1b.size
    rw [hgd] at hg1
    simp only [hgd]
    obtain ⟨w2, hnew⟩ : ∃ W, w1.alloc (.cells #[.int .u8 (x.number % 256)] 5) = W := ⟨_, rfl⟩
    have hw2b : Later w0 w2 := by rw [← hnew]; exact Later.alloc hw1b _
    rw [hnew] at hg1
    simp only [hnew]
    clear hgd hnew hgs
    refine plan_eff fun K hK => ?_
    simp only [List.getD_cons_zero, List.getD_cons_succ]
    go_wp2_with (go_at_call 20; refine (four_any x.root _).mono ?_; rintro e wq ⟨rfl, rfl⟩)
    refine hK _ _ (Later.alloc (Later.refl _) _) ?_
    clear hK K
    have hg2 := bl_new w2 (.cells #[.int .u8 (byteOf (x.root / 16777216)).toNat, .int .u8 (byteOf (x.root / 65536)).toNat, .int .u8 (byteOf (x.root / 256)).toNat, .int .u8 (byteOf x.root).toNat] 5)
    obtain ⟨g2, hgd⟩ : ∃ g, w2.heap.size = g := ⟨_, rfl⟩
    have hgs : Hid (w0.heap.size ≤ g2) := by show _ ≤ _; rw [← hgd]; exact hw2b.size
    rw [hgd] at hg2
    simp only [hgd]
    obtain ⟨w3, hnew⟩ : ∃ W, w2.alloc (.cells #[.int .u8 (byteOf (x.root / 16777216)).toNat, .int .u8 (byteOf (x.root / 65536)).toNat, .int .u8 (byteOf (x.root / 256)).toNat, .int .u8 (byteOf x.root).toNat] 5) = W := ⟨_, rfl⟩
    have hw3b : Later w0 w3 := by rw [← hnew]; exact Later.alloc hw2b _
    replace hg1 := bl_alloc hg1 (.cells #[.int .u8 (byteOf (x.root / 16777216)).toNat, .int .u8 (byteOf (x.root / 65536)).toNat, .int .u8 (byteOf (x.root / 256)).toNat, .int .u8 (byteOf x.root).toNat] 5)
    rw [hnew] at hg1 hg2
    simp only [hnew]
    clear hgd hnew hgs
    refine plan_eff fun K hK => ?_
    simp only [List.getD_cons_zero, List.getD_cons_succ]
    go_wp2_with (go_at_call 20; refine (four_any x.count _).mono ?_; rintro e wq ⟨rfl, rfl⟩)
    refine hK _ _ (Later.alloc (Later.refl _) _) ?_
    clear hK K
    have hg3 := bl_new w3 (.cells #[.int .u8 (byteOf (x.count / 16777216)).toNat, .int .u8 (byteOf (x.count / 65536)).toNat, .int .u8 (byteOf (x.count / 256)).toNat, .int .u8 (byteOf x.count).toNat] 5)
    obtain ⟨g3, hgd⟩ : ∃ g, w3.heap.size = g := ⟨_, rfl⟩
    have hgs : Hid (w0.heap.size ≤ g3) := by show _ ≤ _; rw [← hgd]; exact hw3b.size
    rw [hgd] at hg3
    simp only [hgd]
    obtain ⟨w4, hnew⟩ : ∃ W, w3.alloc (.cells #[.int .u8 (byteOf (x.count / 16777216)).toNat, .int .u8 (byteOf (x.count / 65536)).toNat, .int .u8 (byteOf (x.count / 256)).toNat, .int .u8 (byteOf x.count).toNat] 5) = W := ⟨_, rfl⟩
    have hw4b : Later w0 w4 := by rw [← hnew]; exact Later.alloc hw3b _
    replace hg1 := bl_alloc hg1 (.cells #[.int .u8 (byteOf (x.count / 16777216)).toNat, .int .u8 (byteOf (x.count / 65536)).toNat, .int .u8 (byteOf (x.count / 256)).toNat, .int .u8 (byteOf x.count).toNat] 5)
    replace hg2 := bl_alloc hg2 (.cells #[.int .u8 (byteOf (x.count / 16777216)).toNat, .int .u8 (byteOf (x.count / 65536)).toNat, .int .u8 (byteOf (x.count / 256)).toNat, .int .u8 (byteOf x.count).toNat] 5)
    rw [hnew] at hg1 hg2 hg3
    simp only [hnew]
    clear hgd hnew hgs
    refine plan_eff fun K hK => ?_
    simp only [List.getD_cons_zero, List.getD_cons_succ]
    go_wp2
    refine hK _ _ (Later.alloc (Later.refl _) _) ?_
    clear hK K
    have hg4 := bl_new w4 (.cells #[.slice (some ⟨g1, 0, none⟩) 1 1, .slice (some ⟨g2, 0, none⟩) 4 4, .slice (some ⟨g3, 0, none⟩) 4 4, .slice (some ⟨w.heap.size, 4, none⟩) 16 16] 70)
    obtain ⟨g4, hgd⟩ : ∃ g, w4.heap.size = g := ⟨_, rfl⟩
    have hgs : Hid (w0.heap.size ≤ g4) := by show _ ≤ _; rw [← hgd]; exact hw4b.size
    rw [hgd] at hg4
    simp only [hgd]
    obtain ⟨w5, hnew⟩ : ∃ W, w4.alloc (.cells #[.slice (some ⟨g1, 0, none⟩) 1 1, .slice (some ⟨g2, 0, none⟩) 4 4, .slice (some ⟨g3, 0, none⟩) 4 4, .slice (some ⟨w.heap.size, 4, none⟩) 16 16] 70) = W := ⟨_, rfl⟩
    have hw5b : Later w0 w5 := by rw [← hnew]; exact Later.alloc hw4b _
    replace hg1 := bl_alloc hg1 (.cells #[.slice (some ⟨g1, 0, none⟩) 1 1, .slice (some ⟨g2, 0, none⟩) 4 4, .slice (some ⟨g3, 0, none⟩) 4 4, .slice (some ⟨w.heap.size, 4, none⟩) 16 16] 70)
    replace hg2 := bl_alloc hg2 (.cells #[.slice (some ⟨g1, 0, none⟩) 1 1, .slice (some ⟨g2, 0, none⟩) 4 4, .slice (some ⟨g3, 0, none⟩) 4 4, .slice (some ⟨w.heap.size, 4, none⟩) 16 16] 70)
    replace hg3 := bl_alloc hg3 (.cells #[.slice (some ⟨g1, 0, none⟩) 1 1, .slice (some ⟨g2, 0, none⟩) 4 4, .slice (some ⟨g3, 0, none⟩) 4 4, .slice (some ⟨w.heap.size, 4, none⟩) 16 16] 70)
    rw [hnew] at hg1 hg2 hg3 hg4
    simp only [hnew]
    clear hgd hnew hgs
    have hrr : RdR w5 (some ⟨g4, 0, none⟩) [(some ⟨g1, 0, none⟩, [byteOf x.number], 1), (some ⟨g2, 0, none⟩, be4 x.root, 4), (some ⟨g3, 0, none⟩, be4 x.count, 4), (some ⟨w.heap.size, 4, none⟩, [x.s0, x.s1, x.s2, x.s3, x.s4, x.s5, x.s6, x.s7, x.s8, x.s9, x.s10, x.s11, x.s12, x.s13, x.s14, x.s15], 16)] := by
      have hbx := bl_below HBX.out hw5b
      intro i r hr
      match i, hr with
      | 0, hr => cases hr; exact ⟨⟨g4, 0, rfl, bl_cell hg4 0⟩, Rd.bytes _ hg1 (by simp [flat, Enc.enc, byteOf_toNat])⟩
      | 1, hr => cases hr; exact ⟨⟨g4, 0, rfl, bl_cell hg4 1⟩, Rd.bytes _ hg2 (by simp [flat, be4, Enc.enc])⟩
      | 2, hr => cases hr; exact ⟨⟨g4, 0, rfl, bl_cell hg4 2⟩, Rd.bytes _ hg3 (by simp [flat, be4, Enc.enc])⟩
      | 3, hr => cases hr; exact ⟨⟨g4, 0, rfl, bl_cell hg4 3⟩, rd_sum hbx⟩
      | i + 4, hr => simp at hr
    have cC := Concat_any (some ⟨g4, 0, none⟩) 4 _ w5 (by simp [allOf, be4]) (by simp) hrr
    have HCC := Lib.hid cC
    clear cC hrr
    refine plan_eff fun K hK => ?_
    simp only [List.getD_cons_zero, List.getD_cons_succ]
    go_wp2_with fail
    refine HCC.out.mono ?_
    rintro e wz ⟨v, rfl, ho, hbz⟩
    obtain ⟨A, c, rfl, -, hR⟩ := ho.slice
    go_wp2
    refine hK _ _ hbz ?_
    clear hK K
    refine plan_take (.string ⟨⟨putL x⟩⟩) (by rfl) (fun W hW => ?_) ?_
    · simp only [List.getD_cons_zero, List.getD_cons_succ]
      exact exec_conv W 70 9 5 (.tmp 29) rfl Tryz.underlying70 Tryz.underlying5 Tryz.underlying9 A c _ rfl (hR.below hW)
    simp only [List.getD_cons_zero, List.getD_cons_succ, Act.put, List.setIfInBounds_toArray, List.set_cons_zero, List.set_cons_succ]
    refine plan_tail ?_
    simp only [List.drop_succ_cons, List.drop_zero]
    have hbE := Later.trans hw5b hbz
    go_wp2
    refine NoPanic.normal ?_
    go_wp2
    go_ret2
    exact ⟨rfl, HB0.out.trans (hbE.mono HB0.out.size)⟩
  · simp only [List.getD_cons_zero, List.getD_cons_succ]
    go_wp2_with (go_at_call 20; refine (four_any x.root _).mono ?_; rintro e wq ⟨rfl, rfl⟩)
    refine hK _ _ (Later.alloc (Later.refl _) _) ?_
    clear hK K
    have hg2 := bl_new w1 (.cells #[.int .u8 (byteOf (x.root / 16777216)).toNat, .int .u8 (byteOf (x.root / 65536)).toNat, .int .u8 (byteOf (x.root / 256)).toNat, .int .u8 (byteOf x.root).toNat] 5)
    obtain ⟨g2, hgd⟩ : ∃ g, w1.heap.size = g := ⟨_, rfl⟩
    have hgs : Hid (w0.heap.size ≤ g2) := by show _ ≤ _; rw [← hgd]; exact hw1b.size
    rw [hgd] at hg2
    simp only [hgd]
    obtain ⟨w2, hnew⟩ : ∃ W, w1.alloc (.cells #[.int .u8 (byteOf (x.root / 16777216)).toNat, .int .u8 (byteOf (x.root / 65536)).toNat, .int .u8 (byteOf (x.root / 256)).toNat, .int .u8 (byteOf x.root).toNat] 5) = W := ⟨_, rfl⟩
    have hw2b : Later w0 w2 := by rw [← hnew]; exact Later.alloc hw1b _
    rw [hnew] at hg2
    simp only [hnew]
    clear hgd hnew hgs
    refine plan_two (fun K hK => ?_) (fun K hK => ?_)
    · simp only [List.getD_cons_zero, List.getD_cons_succ]
      go_wp2
      refine hK _ _ (Later.alloc (Later.refl _) _) ?_
      clear hK K
      have hg1 := bl_new w2 (.cells #[.int .u8 (x.number % 256)] 5)
      obtain ⟨g1, hgd⟩ : ∃ g, w2.heap.size = g := ⟨_, rfl⟩
      have hgs : Hid (w0.heap.size ≤ g1) := by show _ ≤ _; rw [← hgd]; exact hw2b.size
      rw [hgd] at hg1
      simp only [hgd]
      obtain ⟨w3, hnew⟩ : ∃ W, w2.alloc (.cells #[.int .u8 (x.number % 256)] 5) = W := ⟨_, rfl⟩
      have hw3b : Later w0 w3 := by rw [← hnew]; exact Later.alloc hw2b _
      replace hg2 := bl_alloc hg2 (.cells #[.int .u8 (x.number % 256)] 5)
      rw [hnew] at hg2 hg1
      simp only [hnew]
      clear hgd hnew hgs
      refine plan_eff fun K hK => ?_
      simp only [List.getD_cons_zero, List.getD_cons_succ]
      go_wp2_with (go_at_call 20; refine (four_any x.count _).mono ?_; rintro e wq ⟨rfl, rfl⟩)
      refine hK _ _ (Later.alloc (Later.refl _) _) ?_
      clear hK K
      have hg3 := bl_new w3 (.cells #[.int .u8 (byteOf (x.count / 16777216)).toNat, .int .u8 (byteOf (x.count / 65536)).toNat, .int .u8 (byteOf (x.count / 256)).toNat, .int .u8 (byteOf x.count).toNat] 5)
      obtain ⟨g3, hgd⟩ : ∃ g, w3.heap.size = g := ⟨_, rfl⟩
      have hgs : Hid (w0.heap.size ≤ g3) := by show _ ≤ _; rw [← hgd]; exact hw3b.size
      rw [hgd] at hg3
      simp only [hgd]
      obtain ⟨w4, hnew⟩ : ∃ W, w3.alloc (.cells #[.int .u8 (byteOf (x.count / 16777216)).toNat, .int .u8 (byteOf (x.count / 65536)).toNat, .int .u8 (byteOf (x.count / 256)).toNat, .int .u8 (byteOf x.count).toNat] 5) = W := ⟨_, rfl⟩
      have hw4b : Later w0 w4 := by rw [← hnew]; exact Later.alloc hw3b _
      replace hg2 := bl_alloc hg2 (.cells #[.int .u8 (byteOf (x.count / 16777216)).toNat, .int .u8 (byteOf (x.count / 65536)).toNat, .int .u8 (byteOf (x.count / 256)).toNat, .int .u8 (byteOf x.count).toNat] 5)
      replace hg1 := bl_alloc hg1 (.cells #[.int .u8 (byteOf (x.count / 16777216)).toNat, .int .u8 (byteOf (x.count / 65536)).toNat, .int .u8 (byteOf (x.count / 256)).toNat, .int .u8 (byteOf x.count).toNat] 5)
      rw [hnew] at hg2 hg1 hg3
      simp only [hnew]
      clear hgd hnew hgs
      refine plan_eff fun K hK => ?_
      simp only [List.getD_cons_zero, List.getD_cons_succ]
      go_wp2
      refine hK _ _ (Later.alloc (Later.refl _) _) ?_
      clear hK K
      have hg4 := bl_new w4 (.cells #[.slice (some ⟨g1, 0, none⟩) 1 1, .slice (some ⟨g2, 0, none⟩) 4 4, .slice (some ⟨g3, 0, none⟩) 4 4, .slice (some ⟨w.heap.size, 4, none⟩) 16 16] 70)
      obtain ⟨g4, hgd⟩ : ∃ g, w4.heap.size = g := ⟨_, rfl⟩
      have hgs : Hid (w0.heap.size ≤ g4) := by show _ ≤ _; rw [← hgd]; exact hw4b.size
      rw [hgd] at hg4
      simp only [hgd]
      obtain ⟨w5, hnew⟩ : ∃ W, w4.alloc (.cells #[.slice (some ⟨g1, 0, none⟩) 1 1, .slice (some ⟨g2, 0, none⟩) 4 4, .slice (some ⟨g3, 0, none⟩) 4 4, .slice (some ⟨w.heap.size, 4, none⟩) 16 16] 70) = W := ⟨_, rfl⟩
      have hw5b : Later w0 w5 := by rw [← hnew]; exact Later.alloc hw4b _
      replace hg2 := bl_alloc hg2 (.cells #[.slice (some ⟨g1, 0, none⟩) 1 1, .slice (some ⟨g2, 0, none⟩) 4 4, .slice (some ⟨g3, 0, none⟩) 4 4, .slice (some ⟨w.heap.size, 4, none⟩) 16 16] 70)
      replace hg1 := bl_alloc hg1 (.cells #[.slice (some ⟨g1, 0, none⟩) 1 1, .slice (some ⟨g2, 0, none⟩) 4 4, .slice (some ⟨g3, 0, none⟩) 4 4, .slice (some ⟨w.heap.size, 4, none⟩) 16 16] 70)
      replace hg3 := bl_alloc hg3 (.cells #[.slice (some ⟨g1, 0, none⟩) 1 1, .slice (some ⟨g2, 0, none⟩) 4 4, .slice (some ⟨g3, 0, none⟩) 4 4, .slice (some ⟨w.heap.size, 4, none⟩) 16 16] 70)
      rw [hnew] at hg2 hg1 hg3 hg4
      simp only [hnew]
      clear hgd hnew hgs
      have hrr : RdR w5 (some ⟨g4, 0, none⟩) [(some ⟨g1, 0, none⟩, [byteOf x.number], 1), (some ⟨g2, 0, none⟩, be4 x.root, 4), (some ⟨g3, 0, none⟩, be4 x.count, 4), (some ⟨w.heap.size, 4, none⟩, [x.s0, x.s1, x.s2, x.s3, x.s4, x.s5, x.s6, x.s7, x.s8, x.s9, x.s10, x.s11, x.s12, x.s13, x.s14, x.s15], 16)] := by
        have hbx := bl_below HBX.out hw5b
        intro i r hr
        match i, hr with
        | 0, hr => cases hr; exact ⟨⟨g4, 0, rfl, bl_cell hg4 0⟩, Rd.bytes _ hg1 (by simp [flat, Enc.enc, byteOf_toNat])⟩
        | 1, hr => cases hr; exact ⟨⟨g4, 0, rfl, bl_cell hg4 1⟩, Rd.bytes _ hg2 (by simp [flat, be4, Enc.enc])⟩
        | 2, hr => cases hr; exact ⟨⟨g4, 0, rfl, bl_cell hg4 2⟩, Rd.bytes _ hg3 (by simp [flat, be4, Enc.enc])⟩
        | 3, hr => cases hr; exact ⟨⟨g4, 0, rfl, bl_cell hg4 3⟩, rd_sum hbx⟩
        | i + 4, hr => simp at hr
      have cC := Concat_any (some ⟨g4, 0, none⟩) 4 _ w5 (by simp [allOf, be4]) (by simp) hrr
      have HCC := Lib.hid cC
      clear cC hrr
      refine plan_eff fun K hK => ?_
      simp only [List.getD_cons_zero, List.getD_cons_succ]
      go_wp2_with fail
      refine HCC.out.mono ?_
      rintro e wz ⟨v, rfl, ho, hbz⟩
      obtain ⟨A, c, rfl, -, hR⟩ := ho.slice
      go_wp2
      refine hK _ _ hbz ?_
      clear hK K
      refine plan_take (.string ⟨⟨putL x⟩⟩) (by rfl) (fun W hW => ?_) ?_
      · simp only [List.getD_cons_zero, List.getD_cons_succ]
        exact exec_conv W 70 9 5 (.tmp 29) rfl Tryz.underlying70 Tryz.underlying5 Tryz.underlying9 A c _ rfl (hR.below hW)
      simp only [List.getD_cons_zero, List.getD_cons_succ, Act.put, List.setIfInBounds_toArray, List.set_cons_zero, List.set_cons_succ]
      refine plan_tail ?_
      simp only [List.drop_succ_cons, List.drop_zero]
      have hbE := Later.trans hw5b hbz
      go_wp2
      refine NoPanic.normal ?_
      go_wp2
      go_ret2
      exact ⟨rfl, HB0.out.trans (hbE.mono HB0.out.size)⟩
    · simp only [List.getD_cons_zero, List.getD_cons_succ]
      go_wp2_with (go_at_call 20; refine (four_any x.count _).mono ?_; rintro e wq ⟨rfl, rfl⟩)
      refine hK _ _ (Later.alloc (Later.refl _) _) ?_
      clear hK K
      have hg3 := bl_new w2 (.cells #[.int .u8 (byteOf (x.count / 16777216)).toNat, .int .u8 (byteOf (x.count / 65536)).toNat, .int .u8 (byteOf (x.count / 256)).toNat, .int .u8 (byteOf x.count).toNat] 5)
      obtain ⟨g3, hgd⟩ : ∃ g, w2.heap.size = g := ⟨_, rfl⟩
      have hgs : Hid (w0.heap.size ≤ g3) := by show _ ≤ _; rw [← hgd]; exact hw2b.size
      rw [hgd] at hg3
      simp only [hgd]
      obtain ⟨w3, hnew⟩ : ∃ W, w2.alloc (.cells #[.int .u8 (byteOf (x.count / 16777216)).toNat, .int .u8 (byteOf (x.count / 65536)).toNat, .int .u8 (byteOf (x.count / 256)).toNat, .int .u8 (byteOf x.count).toNat] 5) = W := ⟨_, rfl⟩
      have hw3b : Later w0 w3 := by rw [← hnew]; exact Later.alloc hw2b _
      replace hg2 := bl_alloc hg2 (.cells #[.int .u8 (byteOf (x.count / 16777216)).toNat, .int .u8 (byteOf (x.count / 65536)).toNat, .int .u8 (byteOf (x.count / 256)).toNat, .int .u8 (byteOf x.count).toNat] 5)
      rw [hnew] at hg2 hg3
      simp only [hnew]
      clear hgd hnew hgs
      refine plan_eff fun K hK => ?_
      simp only [List.getD_cons_zero, List.getD_cons_succ]
      go_wp2
      refine hK _ _ (Later.alloc (Later.refl _) _) ?_
      clear hK K
      have hg1 := bl_new w3 (.cells #[.int .u8 (x.number % 256)] 5)
      obtain ⟨g1, hgd⟩ : ∃ g, w3.heap.size = g := ⟨_, rfl⟩
      have hgs : Hid (w0.heap.size ≤ g1) := by show _ ≤ _; rw [← hgd]; exact hw3b.size
      rw [hgd] at hg1
      simp only [hgd]
      obtain ⟨w4, hnew⟩ : ∃ W, w3.alloc (.cells #[.int .u8 (x.number % 256)] 5) = W := ⟨_, rfl⟩
      have hw4b : Later w0 w4 := by rw [← hnew]; exact Later.alloc hw3b _
      replace hg2 := bl_alloc hg2 (.cells #[.int .u8 (x.number % 256)] 5)
      replace hg3 := bl_alloc hg3 (.cells #[.int .u8 (x.number % 256)] 5)
      rw [hnew] at hg2 hg3 hg1
      simp only [hnew]
      clear hgd hnew hgs
      refine plan_eff fun K hK => ?_
      simp only [List.getD_cons_zero, List.getD_cons_succ]
      go_wp2
      refine hK _ _ (Later.alloc (Later.refl _) _) ?_
      clear hK K
      have hg4 := bl_new w4 (.cells #[.slice (some ⟨g1, 0, none⟩) 1 1, .slice (some ⟨g2, 0, none⟩) 4 4, .slice (some ⟨g3, 0, none⟩) 4 4, .slice (some ⟨w.heap.size, 4, none⟩) 16 16] 70)
      obtain ⟨g4, hgd⟩ : ∃ g, w4.heap.size = g := ⟨_, rfl⟩
      have hgs : Hid (w0.heap.size ≤ g4) := by show _ ≤ _; rw [← hgd]; exact hw4b.size
      rw [hgd] at hg4
      simp only [hgd]
      obtain ⟨w5, hnew⟩ : ∃ W, w4.alloc (.cells #[.slice (some ⟨g1, 0, none⟩) 1 1, .slice (some ⟨g2, 0, none⟩) 4 4, .slice (some ⟨g3, 0, none⟩) 4 4, .slice (some ⟨w.heap.size, 4, none⟩) 16 16] 70) = W := ⟨_, rfl⟩
      have hw5b : Later w0 w5 := by rw [← hnew]; exact Later.alloc hw4b _
      replace hg2 := bl_alloc hg2 (.cells #[.slice (some ⟨g1, 0, none⟩) 1 1, .slice (some ⟨g2, 0, none⟩) 4 4, .slice (some ⟨g3, 0, none⟩) 4 4, .slice (some ⟨w.heap.size, 4, none⟩) 16 16] 70)
      replace hg3 := bl_alloc hg3 (.cells #[.slice (some ⟨g1, 0, none⟩) 1 1, .slice (some ⟨g2, 0, none⟩) 4 4, .slice (some ⟨g3, 0, none⟩) 4 4, .slice (some ⟨w.heap.size, 4, none⟩) 16 16] 70)
      replace hg1 := bl_alloc hg1 (.cells #[.slice (some ⟨g1, 0, none⟩) 1 1, .slice (some ⟨g2, 0, none⟩) 4 4, .slice (some ⟨g3, 0, none⟩) 4 4, .slice (some ⟨w.heap.size, 4, none⟩) 16 16] 70)
      rw [hnew] at hg2 hg3 hg1 hg4
      simp only [hnew]
      clear hgd hnew hgs
      have hrr : RdR w5 (some ⟨g4, 0, none⟩) [(some ⟨g1, 0, none⟩, [byteOf x.number], 1), (some ⟨g2, 0, none⟩, be4 x.root, 4), (some ⟨g3, 0, none⟩, be4 x.count, 4), (some ⟨w.heap.size, 4, none⟩, [x.s0, x.s1, x.s2, x.s3, x.s4, x.s5, x.s6, x.s7, x.s8, x.s9, x.s10, x.s11, x.s12, x.s13, x.s14, x.s15], 16)] := by
        have hbx := bl_below HBX.out hw5b
        intro i r hr
        match i, hr with
        | 0, hr => cases hr; exact ⟨⟨g4, 0, rfl, bl_cell hg4 0⟩, Rd.bytes _ hg1 (by simp [flat, Enc.enc, byteOf_toNat])⟩
        | 1, hr => cases hr; exact ⟨⟨g4, 0, rfl, bl_cell hg4 1⟩, Rd.bytes _ hg2 (by simp [flat, be4, Enc.enc])⟩
        | 2, hr => cases hr; exact ⟨⟨g4, 0, rfl, bl_cell hg4 2⟩, Rd.bytes _ hg3 (by simp [flat, be4, Enc.enc])⟩
        | 3, hr => cases hr; exact ⟨⟨g4, 0, rfl, bl_cell hg4 3⟩, rd_sum hbx⟩
        | i + 4, hr => simp at hr
      have cC := Concat_any (some ⟨g4, 0, none⟩) 4 _ w5 (by simp [allOf, be4]) (by simp) hrr
      have HCC := Lib.hid cC
      clear cC hrr
      refine plan_eff fun K hK => ?_
      simp only [List.getD_cons_zero, List.getD_cons_succ]
      go_wp2_with fail
      refine HCC.out.mono ?_
      rintro e wz ⟨v, rfl, ho, hbz⟩
      obtain ⟨A, c, rfl, -, hR⟩ := ho.slice
      go_wp2
      refine hK _ _ hbz ?_
      clear hK K
      refine plan_take (.string ⟨⟨putL x⟩⟩) (by rfl) (fun W hW => ?_) ?_
      · simp only [List.getD_cons_zero, List.getD_cons_succ]
        exact exec_conv W 70 9 5 (.tmp 29) rfl Tryz.underlying70 Tryz.underlying5 Tryz.underlying9 A c _ rfl (hR.below hW)
      simp only [List.getD_cons_zero, List.getD_cons_succ, Act.put, List.setIfInBounds_toArray, List.set_cons_zero, List.set_cons_succ]
      refine plan_tail ?_
      simp only [List.drop_succ_cons, List.drop_zero]
      have hbE := Later.trans hw5b hbz
      go_wp2
      refine NoPanic.normal ?_
      go_wp2
      go_ret2
      exact ⟨rfl, HB0.out.trans (hbE.mono HB0.out.size)⟩
end Go.Proofs.YtoefpcepplgkeaaGreat
end
