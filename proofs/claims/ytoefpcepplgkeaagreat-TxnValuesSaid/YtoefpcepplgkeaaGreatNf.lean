/- The program's GetNamed. (Printed by wip/txn/gen_g1.py.). -/
import Derived.Test.YtoefpcepplgkeaaGreatNd
import Derived.Test.YtoefpcepplgkeaaGreatNe
import Derived.Test.YtoefpcepplgkeaaGreatNc
import Derived.Test.YtoefpcepplgkeaaGreatNb
import Derived.Lib.BufferWrite
import Derived.Deep.DeepCutAuto
import Derived.Deep.RegionHeld3
section
set_option linter.unusedVariables false
set_option linter.unusedSimpArgs false
namespace Go.Proofs.YtoefpcepplgkeaaGreat
open Go.RowKit

/-- The named tree that a name and 25 bytes are. -/
def getX (name : ByteArray) (l : List UInt8) : Nmd := match l with
  | [v0, v1, v2, v3, v4, v5, v6, v7, v8, v9, v10, v11, v12, v13, v14, v15, v16, v17, v18, v19, v20, v21, v22, v23, v24] => ⟨name, v0.toNat, num4 v1 v2 v3 v4, num4 v5 v6 v7 v8, v9, v10, v11, v12, v13, v14, v15, v16, v17, v18, v19, v20, v21, v22, v23, v24⟩
  | _ => zNm
theorem ex25 {l : List UInt8} (h : l.length = 25) : ∃ v0 v1 v2 v3 v4 v5 v6 v7 v8 v9 v10 v11 v12 v13 v14 v15 v16 v17 v18 v19 v20 v21 v22 v23 v24, l = [v0, v1, v2, v3, v4, v5, v6, v7, v8, v9, v10, v11, v12, v13, v14, v15, v16, v17, v18, v19, v20, v21, v22, v23, v24] := by
  match l, h with
  | [v0, v1, v2, v3, v4, v5, v6, v7, v8, v9, v10, v11, v12, v13, v14, v15, v16, v17, v18, v19, v20, v21, v22, v23, v24], _ => exact ⟨v0, v1, v2, v3, v4, v5, v6, v7, v8, v9, v10, v11, v12, v13, v14, v15, v16, v17, v18, v19, v20, v21, v22, v23, v24, rfl⟩
theorem ext_list (l : List UInt8) (a b : Nat) : (ByteArray.mk ⟨l⟩).extract a b = ⟨⟨(l.take b).drop a⟩⟩ := by
  have : ((ByteArray.mk ⟨l⟩).extract a b).data = (⟨(l.take b).drop a⟩ : Array UInt8) := by
    rw [ByteArray.data_extract]
    simp [List.extract, List.drop_take]
  exact congrArg ByteArray.mk this
/-- What GetNamed answers: the error, the named tree. -/
def getE (name v : ByteArray) : Int := match nameB name, decide (v.size = 25), rightB (getX name v.data.toList) with
  | false, _, _ => 2
  | true, true, true => 0
  | _, _, _ => 8
def getR (name v : ByteArray) : Nmd := if getE name v = 0 then getX name v.data.toList else zNm
theorem nm_zero : nmC zNm = #[.string ⟨#[]⟩, .int .i64 0, .int .i64 0, .int .i64 0, .int .u8 0, .int .u8 0, .int .u8 0, .int .u8 0, .int .u8 0, .int .u8 0, .int .u8 0, .int .u8 0, .int .u8 0, .int .u8 0, .int .u8 0, .int .u8 0, .int .u8 0, .int .u8 0, .int .u8 0, .int .u8 0] := rfl

set_option maxHeartbeats 4000000 in
set_option maxRecDepth 100000 in
theorem GetNamed_bad (name v : ByteArray) (hn : nameB name = false) (w : World) : Calls Tryz.prog 8 #[.string name, .string v] w fun e w' => e = .returned (.tuple #[.agg (nmC (getR name v)), .int .i64 (getE name v)]) ∧ Below w.heap.size w w' := by
  have he : getE name v = 2 := by unfold getE; rw [hn]
  have hr : getR name v = zNm := by unfold getR; rw [he]; rfl
  rw [he, hr, nm_zero]
  have cN := fun w => isName_any name w
  rw [hn] at cN
  clear he hr
  go_enter Tryz.func8, Tryz.ntmps8
  go_wp2_with fail
  refine calls_below (cN _) ?_
  intro w1 hb1
  have hG0 := bl_below (bl_new w (.cells #[.string ⟨#[]⟩, .int .i64 0, .int .i64 0, .int .i64 0, .int .u8 0, .int .u8 0, .int .u8 0, .int .u8 0, .int .u8 0, .int .u8 0, .int .u8 0, .int .u8 0, .int .u8 0, .int .u8 0, .int .u8 0, .int .u8 0, .int .u8 0, .int .u8 0, .int .u8 0, .int .u8 0] 27)) hb1
  have hb0 := below_trans (below_alloc (Below.refl w.heap.size w) (.cells #[.string ⟨#[]⟩, .int .i64 0, .int .i64 0, .int .i64 0, .int .u8 0, .int .u8 0, .int .u8 0, .int .u8 0, .int .u8 0, .int .u8 0, .int .u8 0, .int .u8 0, .int .u8 0, .int .u8 0, .int .u8 0, .int .u8 0, .int .u8 0, .int .u8 0, .int .u8 0, .int .u8 0] 27)) hb1
  clear cN hn hb1
  go_wp2_with ((with_reducible refine stop_store 27 (.tmp 4) (.tmp 10) ?hst ?_); (case hst => rfl))
  change wpList _ _ _ _ _ _
  refine wpList_store_row (by rfl) 27 (.tmp 4) (.tmp 10) (by rfl) w.heap.size #[.string ⟨#[]⟩, .int .i64 0, .int .i64 0, .int .i64 0, .int .u8 0, .int .u8 0, .int .u8 0, .int .u8 0, .int .u8 0, .int .u8 0, .int .u8 0, .int .u8 0, .int .u8 0, .int .u8 0, .int .u8 0, .int .u8 0, .int .u8 0, .int .u8 0, .int .u8 0, .int .u8 0] (by rfl) (by rfl) 27 _ hG0 size27 (by rfl) (by simp [Value.oneCell']) ?_
  go_wp2
  exact ret_ct Tryz.results8 w.heap.size 27 #[.string ⟨#[]⟩, .int .i64 0, .int .i64 0, .int .i64 0, .int .u8 0, .int .u8 0, .int .u8 0, .int .u8 0, .int .u8 0, .int .u8 0, .int .u8 0, .int .u8 0, .int .u8 0, .int .u8 0, .int .u8 0, .int .u8 0, .int .u8 0, .int .u8 0, .int .u8 0, .int .u8 0] _ (by rfl) (setRow_heap _ _ _ _ _ _ hG0) Tryz.underlying27 (by rfl) size27 (by rfl) ⟨rfl, below_setRow hb0 (Nat.le_refl _) _⟩

set_option maxHeartbeats 4000000 in
set_option maxRecDepth 100000 in
theorem GetNamed_len (name v : ByteArray) (hn : nameB name = true) (hv : ¬ v.size = 25) (w : World) : Calls Tryz.prog 8 #[.string name, .string v] w fun e w' => e = .returned (.tuple #[.agg (nmC (getR name v)), .int .i64 (getE name v)]) ∧ Below w.heap.size w w' := by
  have he : getE name v = 8 := by unfold getE; rw [hn, decide_eq_false hv]
  have hr : getR name v = zNm := by unfold getR; rw [he]; rfl
  rw [he, hr, nm_zero]
  have cN := fun w => isName_any name w
  rw [hn] at cN
  have hv2 : ¬ (v.size : Int) = 25 := by omega
  clear he hr
  go_enter Tryz.func8, Tryz.ntmps8
  go_wp2_with fail
  refine calls_below (cN _) ?_
  intro w1 hb1
  have hG0 := bl_below (bl_new w (.cells #[.string ⟨#[]⟩, .int .i64 0, .int .i64 0, .int .i64 0, .int .u8 0, .int .u8 0, .int .u8 0, .int .u8 0, .int .u8 0, .int .u8 0, .int .u8 0, .int .u8 0, .int .u8 0, .int .u8 0, .int .u8 0, .int .u8 0, .int .u8 0, .int .u8 0, .int .u8 0, .int .u8 0] 27)) hb1
  have hb0 := below_trans (below_alloc (Below.refl w.heap.size w) (.cells #[.string ⟨#[]⟩, .int .i64 0, .int .i64 0, .int .i64 0, .int .u8 0, .int .u8 0, .int .u8 0, .int .u8 0, .int .u8 0, .int .u8 0, .int .u8 0, .int .u8 0, .int .u8 0, .int .u8 0, .int .u8 0, .int .u8 0, .int .u8 0, .int .u8 0, .int .u8 0, .int .u8 0] 27)) hb1
  clear cN hn hb1
  go_wp2_with ((with_reducible refine stop_store 27 (.tmp 4) (.tmp 14) ?hst ?_); (case hst => rfl))
  change wpList _ _ _ _ _ _
  refine wpList_store_row (by rfl) 27 (.tmp 4) (.tmp 14) (by rfl) w.heap.size #[.string ⟨#[]⟩, .int .i64 0, .int .i64 0, .int .i64 0, .int .u8 0, .int .u8 0, .int .u8 0, .int .u8 0, .int .u8 0, .int .u8 0, .int .u8 0, .int .u8 0, .int .u8 0, .int .u8 0, .int .u8 0, .int .u8 0, .int .u8 0, .int .u8 0, .int .u8 0, .int .u8 0] (by rfl) (by rfl) 27 _ hG0 size27 (by rfl) (by simp [Value.oneCell']) ?_
  go_wp2
  exact ret_ct Tryz.results8 w.heap.size 27 #[.string ⟨#[]⟩, .int .i64 0, .int .i64 0, .int .i64 0, .int .u8 0, .int .u8 0, .int .u8 0, .int .u8 0, .int .u8 0, .int .u8 0, .int .u8 0, .int .u8 0, .int .u8 0, .int .u8 0, .int .u8 0, .int .u8 0, .int .u8 0, .int .u8 0, .int .u8 0, .int .u8 0] _ (by rfl) (setRow_heap _ _ _ _ _ _ hG0) Tryz.underlying27 (by rfl) size27 (by rfl) ⟨rfl, below_setRow hb0 (Nat.le_refl _) _⟩

set_option maxHeartbeats 4000000 in
set_option maxRecDepth 100000 in
theorem GetNamed_any (name : ByteArray) (v : ByteArray) (hv : v.size = 25) (hn : nameB name = true) (w : World) : Calls Tryz.prog 8 #[.string name, .string v] w fun e w' => e = .returned (.tuple #[.agg (nmC (getR name v)), .int .i64 (getE name v)]) ∧ Below w.heap.size w w' := by
  have he : getE name v = if rightB (getX name v.data.toList) = true then 0 else 8 := by
    unfold getE
    rw [hn, hv]
    cases rightB (getX name v.data.toList) <;> rfl
  have hr : getR name v = if rightB (getX name v.data.toList) = true then getX name v.data.toList else zNm := by
    unfold getR
    rw [he]
    cases rightB (getX name v.data.toList) <;> rfl
  rw [he, hr]
  obtain ⟨⟨l⟩⟩ := v
  have hl : l.length = 25 := hv
  have cN := fun w => isName_any name w
  rw [hn] at cN
  clear he hr
  obtain ⟨v0, v1, v2, v3, v4, v5, v6, v7, v8, v9, v10, v11, v12, v13, v14, v15, v16, v17, v18, v19, v20, v21, v22, v23, v24, rfl⟩ := ex25 hl
  obtain ⟨x, hx⟩ : ∃ x, getX name [v0, v1, v2, v3, v4, v5, v6, v7, v8, v9, v10, v11, v12, v13, v14, v15, v16, v17, v18, v19, v20, v21, v22, v23, v24] = x := ⟨_, rfl⟩
  simp only [hx]
  have hx1 : (ByteArray.mk ⟨[v0, v1, v2, v3, v4, v5, v6, v7, v8, v9, v10, v11, v12, v13, v14, v15, v16, v17, v18, v19, v20, v21, v22, v23, v24]⟩).extract 1 5 = ⟨⟨[v1, v2, v3, v4]⟩⟩ := ext_list _ 1 5
  have hx2 : (ByteArray.mk ⟨[v0, v1, v2, v3, v4, v5, v6, v7, v8, v9, v10, v11, v12, v13, v14, v15, v16, v17, v18, v19, v20, v21, v22, v23, v24]⟩).extract 5 9 = ⟨⟨[v5, v6, v7, v8]⟩⟩ := ext_list _ 5 9
  have hx3 : (ByteArray.mk ⟨[v0, v1, v2, v3, v4, v5, v6, v7, v8, v9, v10, v11, v12, v13, v14, v15, v16, v17, v18, v19, v20, v21, v22, v23, v24]⟩).extract 9 25 = ⟨⟨[v9, v10, v11, v12, v13, v14, v15, v16, v17, v18, v19, v20, v21, v22, v23, v24]⟩⟩ := ext_list _ 9 25
  have hsz : (ByteArray.mk ⟨[v0, v1, v2, v3, v4, v5, v6, v7, v8, v9, v10, v11, v12, v13, v14, v15, v16, v17, v18, v19, v20, v21, v22, v23, v24]⟩).size = 25 := rfl
  obtain ⟨V, hV⟩ : ∃ V, (ByteArray.mk ⟨[v0, v1, v2, v3, v4, v5, v6, v7, v8, v9, v10, v11, v12, v13, v14, v15, v16, v17, v18, v19, v20, v21, v22, v23, v24]⟩) = V := ⟨_, rfl⟩
  have hi0' : ∀ h : 0 < V.size, V[0] = v0 := by subst hV; intro h; rfl
  rw [hV] at hx1 hx2 hx3 hsz ⊢
  have hw0 : IntKind.i64.wrap (v0.toNat : Int) = (v0.toNat : Int) := IntWalk.i64_in _ (by have := UInt8.toNat_lt v0; omega)
  obtain ⟨R, hR⟩ : ∃ R, rightB x = R := ⟨_, rfl⟩
  have cR := fun w => isNamed_any x w
  rw [hR] at cR ⊢
  have HX := Lib.hid hx
  have HR := Lib.hid hR
  have CR := Lib.hid cR
  clear hv hl hV hx hR cR
  go_enter Tryz.func8, Tryz.ntmps8
  go_wp2_with (go_at_call 17; refine calls_below (cN _) ?_; intro w1 hb1)
  have hG0 := bl_below (bl_new w (.cells #[.string ⟨#[]⟩, .int .i64 0, .int .i64 0, .int .i64 0, .int .u8 0, .int .u8 0, .int .u8 0, .int .u8 0, .int .u8 0, .int .u8 0, .int .u8 0, .int .u8 0, .int .u8 0, .int .u8 0, .int .u8 0, .int .u8 0, .int .u8 0, .int .u8 0, .int .u8 0, .int .u8 0] 27)) hb1
  have hb0 := below_trans (below_alloc (Below.refl w.heap.size w) (.cells #[.string ⟨#[]⟩, .int .i64 0, .int .i64 0, .int .i64 0, .int .u8 0, .int .u8 0, .int .u8 0, .int .u8 0, .int .u8 0, .int .u8 0, .int .u8 0, .int .u8 0, .int .u8 0, .int .u8 0, .int .u8 0, .int .u8 0, .int .u8 0, .int .u8 0, .int .u8 0, .int .u8 0] 27)) hb1
  have HG0 := Lib.hid hG0
  have HB0 := Lib.hid hb0
  have HG1 := Lib.hid (bl_lt hG0)
  clear hG0 hb0 hb1 cN hn
  go_cut [6] (fun s6 wx => ∃ g, s6 = .pointer (some ⟨g, 0, none⟩) ∧ Hid (wx.heap[g]? = some (.cells #[.string name, .int .i64 v0.toNat, .int .i64 (num4 v1 v2 v3 v4), .int .i64 (num4 v5 v6 v7 v8), .int .u8 0, .int .u8 0, .int .u8 0, .int .u8 0, .int .u8 0, .int .u8 0, .int .u8 0, .int .u8 0, .int .u8 0, .int .u8 0, .int .u8 0, .int .u8 0, .int .u8 0, .int .u8 0, .int .u8 0, .int .u8 0] 27 (0, 0))) ∧ Hid (w1.heap.size ≤ g) ∧ Hid (Below w1.heap.size w1 wx))
  case first =>
    refine wp_region_noPanic ?_
    refine wp_plan [] (.take 0 (.take 1 (.take 2 (.take 3 (.take 4 (.take 5 (.take 7 (.take 8 (.two 6 12 (.two 9 12 (.take 10 (.take 11 (.eff 12 .tail))) (.eff 9 (.take 10 (.take 11 .tail)))) (.eff 6 (.eff 9 (.take 10 (.take 11 .tail))))))))))))) 13 (by kernel_rfl) (by kernel_rfl) (by kernel_rfl) (by kernel_rfl) (fun d v c a w h => h) ?_
    iterate 8
      apply plan_take
      case hw => rfl
      case hy => intro W hW; obtain ⟨hwc, -⟩ := bcell hW; simp only [List.getD_cons_zero, List.getD_cons_succ]; go_simp; try rfl
      simp only [List.getD_cons_zero, List.getD_cons_succ, Act.put, List.setIfInBounds_toArray, List.set_cons_zero, List.set_cons_succ]
    have hwab : Later w1 w1.drew := (Later.refl _).drew
    obtain ⟨wa, hwa⟩ : ∃ W, w1.drew = W := ⟨_, rfl⟩
    rw [hwa] at hwab ⊢
    clear hwa
    refine plan_two (fun K hK => ?_) (fun K hK => ?_)
    · simp only [List.getD_cons_zero, List.getD_cons_succ]
      go_wp2_with (go_at_call 24; refine calls_below (number_below v1 v2 v3 v4 _) ?_; intro wb hq)
      refine hK _ _ hq ?_
      have hwbb := Later.trans hwab hq
      clear hK K hq
      refine plan_two (fun K hK => ?_) (fun K hK => ?_)
      · simp only [List.getD_cons_zero, List.getD_cons_succ]
        go_wp2_with (go_at_call 24; refine calls_below (number_below v5 v6 v7 v8 _) ?_; intro wc hq)
        refine hK _ _ hq ?_
        have hwcb := Later.trans hwbb hq
        clear hK K hq
        iterate 2
          apply plan_take
          case hw => rfl
          case hy => intro W hW; obtain ⟨hwc, -⟩ := bcell hW; simp only [List.getD_cons_zero, List.getD_cons_succ]; go_simp; try rfl
          simp only [List.getD_cons_zero, List.getD_cons_succ, Act.put, List.setIfInBounds_toArray, List.set_cons_zero, List.set_cons_succ]
        refine plan_eff fun K hK => ?_
        simp only [List.getD_cons_zero, List.getD_cons_succ]
        go_wp2
        refine hK _ _ (Later.alloc (Later.refl _) _) ?_
        clear hK K
        have hmg := bl_new wc (.cells #[.string ⟨#[]⟩, .int .i64 0, .int .i64 0, .int .i64 0, .int .u8 0, .int .u8 0, .int .u8 0, .int .u8 0, .int .u8 0, .int .u8 0, .int .u8 0, .int .u8 0, .int .u8 0, .int .u8 0, .int .u8 0, .int .u8 0, .int .u8 0, .int .u8 0, .int .u8 0, .int .u8 0] 27)
        obtain ⟨g, hgd⟩ : ∃ g, wc.heap.size = g := ⟨_, rfl⟩
        have hgs : w1.heap.size ≤ g := by rw [← hgd]; exact hwcb.size
        rw [hgd] at hmg
        simp only [hgd]
        obtain ⟨wd, hwd⟩ : ∃ W, wc.alloc (.cells #[.string ⟨#[]⟩, .int .i64 0, .int .i64 0, .int .i64 0, .int .u8 0, .int .u8 0, .int .u8 0, .int .u8 0, .int .u8 0, .int .u8 0, .int .u8 0, .int .u8 0, .int .u8 0, .int .u8 0, .int .u8 0, .int .u8 0, .int .u8 0, .int .u8 0, .int .u8 0, .int .u8 0] 27) = W := ⟨_, rfl⟩
        have hwdb : Later w1 wd := by rw [← hwd]; exact Later.alloc hwcb _
        rw [hwd] at hmg
        simp only [hwd]
        clear hgd hwd
        refine plan_tail ?_
        simp only [List.drop_succ_cons, List.drop_zero]
        refine wpList_store_row (by rfl) 27 (.tmp 6) (.tmp 26) (by rfl) g #[.string name, .int .i64 v0.toNat, .int .i64 (num4 v1 v2 v3 v4), .int .i64 (num4 v5 v6 v7 v8), .int .u8 0, .int .u8 0, .int .u8 0, .int .u8 0, .int .u8 0, .int .u8 0, .int .u8 0, .int .u8 0, .int .u8 0, .int .u8 0, .int .u8 0, .int .u8 0, .int .u8 0, .int .u8 0, .int .u8 0, .int .u8 0] (by rfl) (by rfl) 27 _ hmg size27 (by rfl) (by simp [Value.oneCell']) ?_
        refine NoPanic.normal ?_
        go_wp2
        go_meet
        case rel => exact ⟨g, rfl, setRow_heap _ _ _ _ _ _ hmg, hgs, below_setRow hwdb hgs _⟩
      · simp only [List.getD_cons_zero, List.getD_cons_succ]
        go_wp2
        refine hK _ _ (Later.alloc (Later.refl _) _) ?_
        clear hK K
        have hmg := bl_new wb (.cells #[.string ⟨#[]⟩, .int .i64 0, .int .i64 0, .int .i64 0, .int .u8 0, .int .u8 0, .int .u8 0, .int .u8 0, .int .u8 0, .int .u8 0, .int .u8 0, .int .u8 0, .int .u8 0, .int .u8 0, .int .u8 0, .int .u8 0, .int .u8 0, .int .u8 0, .int .u8 0, .int .u8 0] 27)
        obtain ⟨g, hgd⟩ : ∃ g, wb.heap.size = g := ⟨_, rfl⟩
        have hgs : w1.heap.size ≤ g := by rw [← hgd]; exact hwbb.size
        rw [hgd] at hmg
        simp only [hgd]
        obtain ⟨wc, hwc⟩ : ∃ W, wb.alloc (.cells #[.string ⟨#[]⟩, .int .i64 0, .int .i64 0, .int .i64 0, .int .u8 0, .int .u8 0, .int .u8 0, .int .u8 0, .int .u8 0, .int .u8 0, .int .u8 0, .int .u8 0, .int .u8 0, .int .u8 0, .int .u8 0, .int .u8 0, .int .u8 0, .int .u8 0, .int .u8 0, .int .u8 0] 27) = W := ⟨_, rfl⟩
        have hwcb : Later w1 wc := by rw [← hwc]; exact Later.alloc hwbb _
        rw [hwc] at hmg
        simp only [hwc]
        clear hgd hwc
        refine plan_eff fun K hK => ?_
        simp only [List.getD_cons_zero, List.getD_cons_succ]
        go_wp2_with (go_at_call 24; refine calls_below (number_below v5 v6 v7 v8 _) ?_; intro wd hq)
        refine hK _ _ hq ?_
        have hwdb := Later.trans hwcb hq
        replace hmg := bl_below hmg hq
        clear hK K hq
        iterate 2
          apply plan_take
          case hw => rfl
          case hy => intro W hW; obtain ⟨hwc, -⟩ := bcell hW; simp only [List.getD_cons_zero, List.getD_cons_succ]; go_simp; try rfl
          simp only [List.getD_cons_zero, List.getD_cons_succ, Act.put, List.setIfInBounds_toArray, List.set_cons_zero, List.set_cons_succ]
        refine plan_tail ?_
        simp only [List.drop_succ_cons, List.drop_zero]
        refine wpList_store_row (by rfl) 27 (.tmp 6) (.tmp 26) (by rfl) g #[.string name, .int .i64 v0.toNat, .int .i64 (num4 v1 v2 v3 v4), .int .i64 (num4 v5 v6 v7 v8), .int .u8 0, .int .u8 0, .int .u8 0, .int .u8 0, .int .u8 0, .int .u8 0, .int .u8 0, .int .u8 0, .int .u8 0, .int .u8 0, .int .u8 0, .int .u8 0, .int .u8 0, .int .u8 0, .int .u8 0, .int .u8 0] (by rfl) (by rfl) 27 _ hmg size27 (by rfl) (by simp [Value.oneCell']) ?_
        refine NoPanic.normal ?_
        go_wp2
        go_meet
        case rel => exact ⟨g, rfl, setRow_heap _ _ _ _ _ _ hmg, hgs, below_setRow hwdb hgs _⟩
    · simp only [List.getD_cons_zero, List.getD_cons_succ]
      go_wp2
      refine hK _ _ (Later.alloc (Later.refl _) _) ?_
      clear hK K
      have hmg := bl_new wa (.cells #[.string ⟨#[]⟩, .int .i64 0, .int .i64 0, .int .i64 0, .int .u8 0, .int .u8 0, .int .u8 0, .int .u8 0, .int .u8 0, .int .u8 0, .int .u8 0, .int .u8 0, .int .u8 0, .int .u8 0, .int .u8 0, .int .u8 0, .int .u8 0, .int .u8 0, .int .u8 0, .int .u8 0] 27)
      obtain ⟨g, hgd⟩ : ∃ g, wa.heap.size = g := ⟨_, rfl⟩
      have hgs : w1.heap.size ≤ g := by rw [← hgd]; exact hwab.size
      rw [hgd] at hmg
      simp only [hgd]
      obtain ⟨wb, hwb⟩ : ∃ W, wa.alloc (.cells #[.string ⟨#[]⟩, .int .i64 0, .int .i64 0, .int .i64 0, .int .u8 0, .int .u8 0, .int .u8 0, .int .u8 0, .int .u8 0, .int .u8 0, .int .u8 0, .int .u8 0, .int .u8 0, .int .u8 0, .int .u8 0, .int .u8 0, .int .u8 0, .int .u8 0, .int .u8 0, .int .u8 0] 27) = W := ⟨_, rfl⟩
      have hwbb : Later w1 wb := by rw [← hwb]; exact Later.alloc hwab _
      rw [hwb] at hmg
      simp only [hwb]
      clear hgd hwb
      refine plan_eff fun K hK => ?_
      simp only [List.getD_cons_zero, List.getD_cons_succ]
      go_wp2_with (go_at_call 24; refine calls_below (number_below v1 v2 v3 v4 _) ?_; intro wc hq)
      refine hK _ _ hq ?_
      have hwcb := Later.trans hwbb hq
      replace hmg := bl_below hmg hq
      clear hK K hq
      refine plan_eff fun K hK => ?_
      simp only [List.getD_cons_zero, List.getD_cons_succ]
      go_wp2_with (go_at_call 24; refine calls_below (number_below v5 v6 v7 v8 _) ?_; intro wd hq)
      refine hK _ _ hq ?_
      have hwdb := Later.trans hwcb hq
      replace hmg := bl_below hmg hq
      clear hK K hq
      iterate 2
        apply plan_take
        case hw => rfl
        case hy => intro W hW; obtain ⟨hwc, -⟩ := bcell hW; simp only [List.getD_cons_zero, List.getD_cons_succ]; go_simp; try rfl
        simp only [List.getD_cons_zero, List.getD_cons_succ, Act.put, List.setIfInBounds_toArray, List.set_cons_zero, List.set_cons_succ]
      refine plan_tail ?_
      simp only [List.drop_succ_cons, List.drop_zero]
      refine wpList_store_row (by rfl) 27 (.tmp 6) (.tmp 26) (by rfl) g #[.string name, .int .i64 v0.toNat, .int .i64 (num4 v1 v2 v3 v4), .int .i64 (num4 v5 v6 v7 v8), .int .u8 0, .int .u8 0, .int .u8 0, .int .u8 0, .int .u8 0, .int .u8 0, .int .u8 0, .int .u8 0, .int .u8 0, .int .u8 0, .int .u8 0, .int .u8 0, .int .u8 0, .int .u8 0, .int .u8 0, .int .u8 0] (by rfl) (by rfl) 27 _ hmg size27 (by rfl) (by simp [Value.oneCell']) ?_
      refine NoPanic.normal ?_
      go_wp2
      go_meet
      case rel => exact ⟨g, rfl, setRow_heap _ _ _ _ _ _ hmg, hgs, below_setRow hwdb hgs _⟩
  case rest =>
    obtain ⟨g, rfl, HM, HGS, HBX⟩ := hcut
    have hne : ¬ w.heap.size = g := by have h1 := HGS.out; have h2 := HG1.out; omega
    have hG0 := bl_below HG0.out HBX.out
    have hgl := bl_lt HM.out
    have hg0l := bl_lt hG0
    have hcp := fun ty => Lib.run_copy_row_string (P := Tryz.prog) wc.drew 70 9 ty 5 g 4 16 16 ⟨⟨[v9, v10, v11, v12, v13, v14, v15, v16, v17, v18, v19, v20, v21, v22, v23, v24]⟩⟩ _ 27 Tryz.underlying70 size5 (bl_drew HM.out) (Nat.le_of_eq rfl) (Nat.le_of_eq rfl)
    go_wp2_with fail
    refine wp_region_noPanic ?_
    refine wp_plan [1, 2, 5, 4, 5] (.take 0 (.take 1 (.take 2 (.take 3 (.take 4 .tail))))) 5 (by kernel_rfl) (by kernel_rfl) (by kernel_rfl) (by kernel_rfl) (fun d v c a w h => h) ?_
    iterate 5
      apply plan_take
      case hw => rfl
      case hy => intro W hW; obtain ⟨hwc, -⟩ := bcell hW; simp only [List.getD_cons_zero, List.getD_cons_succ]; go_simp; try rfl
      simp only [List.getD_cons_zero, List.getD_cons_succ, Act.put, List.setIfInBounds_toArray, List.set_cons_zero, List.set_cons_succ]
    refine plan_tail ?_
    simp only [List.drop_succ_cons, List.drop_zero]
    have hrow : ((#[Value.string name, .int .i64 v0.toNat, .int .i64 (num4 v1 v2 v3 v4), .int .i64 (num4 v5 v6 v7 v8), .int .u8 0, .int .u8 0, .int .u8 0, .int .u8 0, .int .u8 0, .int .u8 0, .int .u8 0, .int .u8 0, .int .u8 0, .int .u8 0, .int .u8 0, .int .u8 0, .int .u8 0, .int .u8 0, .int .u8 0, .int .u8 0] : Array Value).toList.take 4 ++ Lib.byteCells [v9, v10, v11, v12, v13, v14, v15, v16, v17, v18, v19, v20, v21, v22, v23, v24] ++ (#[Value.string name, .int .i64 v0.toNat, .int .i64 (num4 v1 v2 v3 v4), .int .i64 (num4 v5 v6 v7 v8), .int .u8 0, .int .u8 0, .int .u8 0, .int .u8 0, .int .u8 0, .int .u8 0, .int .u8 0, .int .u8 0, .int .u8 0, .int .u8 0, .int .u8 0, .int .u8 0, .int .u8 0, .int .u8 0, .int .u8 0, .int .u8 0] : Array Value).toList.drop (4 + 16)).toArray = nmC x := by rw [← HX.out]; rfl
    have hcp2 := fun ty => (congrArg (fun c => Result.ok (goInt 16) (wc.drew.setRow g c)) hrow) ▸ hcp ty
    refine wpList_run_copy (by rfl) (.tmp 29) (.tmp 31) 70 9 (by rfl) _ _ (by rfl) (by rfl) (hcp2 _) ?_
    refine NoPanic.normal ?_
    have hm2 := setRow_heap _ _ _ (nmC x) _ _ (bl_drew HM.out)
    have hb2 : Below w1.heap.size w1 (wc.drew.setRow g (nmC x)) := below_setRow HBX.out.drew HGS.out _
    have hG2 := (setRow_other wc.drew g w.heap.size (nmC x) hne).trans (bl_drew hG0)
    obtain ⟨w2, hw2⟩ : ∃ W, wc.drew.setRow g (nmC x) = W := ⟨_, rfl⟩
    rw [hw2] at hm2 hb2 hG2 ⊢
    clear hcp hcp2 hrow hw2 hG0 hgl hg0l HM HBX
    have hb3 : Below w.heap.size w w2 := HB0.out.trans (hb2.mono HB0.out.size)
    have HL := Lib.hid (cells_all hm2)
    have HM2 := Lib.hid hm2
    have HB3 := Lib.hid hb3
    have HG2 := Lib.hid hG2
    clear hm2 hb2 hG2 hb3
    go_wp2_with ((with_reducible refine stop_load 27 (.tmp 6) ?hst ?_); (case hst => rfl))
    change wpList _ _ _ _ _ _
    refine wpList_loadC _ 27 (.tmp 6) (by rfl) (by rfl) ⟨g, 0, none⟩ (by rfl) (nmC x) _ HL.out Tryz.underlying27 (by rfl) size27 ?_
    cases R
    · go_wp2_with fail
      refine calls_below (CR.out _) ?_
      intro w3 hb3
      have hG3 := bl_below HG2.out hb3
      have hb4 := below_trans HB3.out hb3
      have HL3 := Lib.hid (cells_all (bl_below HM2.out hb3))
      have HG3 := Lib.hid hG3
      have HB4 := Lib.hid hb4
      clear hG3 hb4 hb3
      simp only [Bool.false_eq_true, if_false, nm_zero]
      go_wp2_with ((with_reducible refine stop_store 27 (.tmp 4) (.tmp 36) ?hst ?_); (case hst => rfl))
      change wpList _ _ _ _ _ _
      refine wpList_store_row (by rfl) 27 (.tmp 4) (.tmp 36) (by rfl) w.heap.size #[.string ⟨#[]⟩, .int .i64 0, .int .i64 0, .int .i64 0, .int .u8 0, .int .u8 0, .int .u8 0, .int .u8 0, .int .u8 0, .int .u8 0, .int .u8 0, .int .u8 0, .int .u8 0, .int .u8 0, .int .u8 0, .int .u8 0, .int .u8 0, .int .u8 0, .int .u8 0, .int .u8 0] (by rfl) (by rfl) 27 _ HG3.out size27 (by rfl) (by simp [Value.oneCell']) ?_
      go_wp2
      exact ret_ct Tryz.results8 w.heap.size 27 #[.string ⟨#[]⟩, .int .i64 0, .int .i64 0, .int .i64 0, .int .u8 0, .int .u8 0, .int .u8 0, .int .u8 0, .int .u8 0, .int .u8 0, .int .u8 0, .int .u8 0, .int .u8 0, .int .u8 0, .int .u8 0, .int .u8 0, .int .u8 0, .int .u8 0, .int .u8 0, .int .u8 0] _ (by rfl) (setRow_heap _ _ _ _ _ _ HG3.out) Tryz.underlying27 (by rfl) size27 (by rfl) ⟨rfl, below_setRow HB4.out (Nat.le_refl _) _⟩
    · go_wp2_with fail
      refine calls_below (CR.out _) ?_
      intro w3 hb3
      have hG3 := bl_below HG2.out hb3
      have hb4 := below_trans HB3.out hb3
      have HL3 := Lib.hid (cells_all (bl_below HM2.out hb3))
      have HG3 := Lib.hid hG3
      have HB4 := Lib.hid hb4
      clear hG3 hb4 hb3
      go_wp2_with ((with_reducible refine stop_load 27 (.tmp 6) ?hst ?_); (case hst => rfl))
      change wpList _ _ _ _ _ _
      refine wpList_loadC _ 27 (.tmp 6) (by rfl) (by rfl) ⟨g, 0, none⟩ (by rfl) (nmC x) _ HL3.out Tryz.underlying27 (by rfl) size27 ?_
      go_wp2_with ((with_reducible refine stop_store 27 (.tmp 4) (.tmp 37) ?hst ?_); (case hst => rfl))
      change wpList _ _ _ _ _ _
      refine wpList_store_row (by rfl) 27 (.tmp 4) (.tmp 37) (by rfl) w.heap.size (nmC x) (by rfl) (by rfl) 27 _ HG3.out size27 (by rfl) (nm_one x) ?_
      go_wp2
      exact ret_ct Tryz.results8 w.heap.size 27 (nmC x) _ (by rfl) (setRow_heap _ _ _ _ _ _ HG3.out) Tryz.underlying27 (by rfl) size27 (by rfl) ⟨rfl, below_setRow HB4.out (Nat.le_refl _) _⟩
theorem GetNamed_full (name v : ByteArray) (w : World) : Calls Tryz.prog 8 #[.string name, .string v] w fun e w' => e = .returned (.tuple #[.agg (nmC (getR name v)), .int .i64 (getE name v)]) ∧ Below w.heap.size w w' := by
  cases hn : nameB name
  · exact GetNamed_bad name v hn w
  · by_cases hv : v.size = 25
    · exact GetNamed_any name v hv hn w
    · exact GetNamed_len name v hn hv w
end Go.Proofs.YtoefpcepplgkeaaGreat
end
