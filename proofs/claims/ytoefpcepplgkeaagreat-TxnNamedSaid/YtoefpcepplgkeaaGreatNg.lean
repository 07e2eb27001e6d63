/- The reference's GetNamed. (Printed by wip/txn/gen_g2.py.). -/
import Derived.Test.YtoefpcepplgkeaaGreatNf
import Derived.KernelRfl
section
set_option linter.unusedVariables false
set_option linter.unusedSimpArgs false
namespace Go.Proofs.YtoefpcepplgkeaaGreat
open Go.RowKit
theorem size38 : (Tryz.prog.info? 38).map (·.size) = some 21 := by kernel_rfl
/-- A named tree and an error. -/
def oneC (x : Nmd) (e : Int) : Array Value := #[.string x.name, .int .i64 x.number, .int .i64 x.root, .int .i64 x.count, .int .u8 (x.s0.toNat : Int), .int .u8 (x.s1.toNat : Int), .int .u8 (x.s2.toNat : Int), .int .u8 (x.s3.toNat : Int), .int .u8 (x.s4.toNat : Int), .int .u8 (x.s5.toNat : Int), .int .u8 (x.s6.toNat : Int), .int .u8 (x.s7.toNat : Int), .int .u8 (x.s8.toNat : Int), .int .u8 (x.s9.toNat : Int), .int .u8 (x.s10.toNat : Int), .int .u8 (x.s11.toNat : Int), .int .u8 (x.s12.toNat : Int), .int .u8 (x.s13.toNat : Int), .int .u8 (x.s14.toNat : Int), .int .u8 (x.s15.toNat : Int), .int .i64 e]
theorem one_zero (e : Int) : oneC zNm e = #[.string ⟨#[]⟩, .int .i64 0, .int .i64 0, .int .i64 0, .int .u8 0, .int .u8 0, .int .u8 0, .int .u8 0, .int .u8 0, .int .u8 0, .int .u8 0, .int .u8 0, .int .u8 0, .int .u8 0, .int .u8 0, .int .u8 0, .int .u8 0, .int .u8 0, .int .u8 0, .int .u8 0, .int .i64 e] := rfl
theorem build38 (x : Nmd) : Tryz.prog.built 38 [(0, .agg (nmC x))] = some (oneC x 0) := by kernel_rfl
theorem one_one (x : Nmd) (e : Int) : (oneC x e).all (·.oneCell') = true := by simp [oneC, Value.oneCell']

set_option maxHeartbeats 4000000 in
set_option maxRecDepth 100000 in
theorem RGet_bad (name v : ByteArray) (hs : name.size ≤ 9223372036854775807) (hn : nameB name = false) (w : World) : Calls Tryz.prog 9 #[.string name, .string v] w fun e w' => e = .returned (.agg (oneC (getR name v) (getE name v))) ∧ Below w.heap.size w w' := by
  have he : getE name v = 2 := by unfold getE; rw [hn]
  have hr : getR name v = zNm := by unfold getR; rw [he]; rfl
  rw [he, hr, one_zero]
  have cN := fun w => IsName_any name w hs
  rw [hn] at cN
  clear he hr
  go_enter Tryz.func9, Tryz.ntmps9
  go_wp2_with fail
  refine calls_below (cN _) ?_
  intro w1 hb1
  have hG0 := bl_below (bl_new w (.cells #[.string ⟨#[]⟩, .int .i64 0, .int .i64 0, .int .i64 0, .int .u8 0, .int .u8 0, .int .u8 0, .int .u8 0, .int .u8 0, .int .u8 0, .int .u8 0, .int .u8 0, .int .u8 0, .int .u8 0, .int .u8 0, .int .u8 0, .int .u8 0, .int .u8 0, .int .u8 0, .int .u8 0, .int .i64 0] 38)) hb1
  have hb0 := below_trans (below_alloc (Below.refl w.heap.size w) (.cells #[.string ⟨#[]⟩, .int .i64 0, .int .i64 0, .int .i64 0, .int .u8 0, .int .u8 0, .int .u8 0, .int .u8 0, .int .u8 0, .int .u8 0, .int .u8 0, .int .u8 0, .int .u8 0, .int .u8 0, .int .u8 0, .int .u8 0, .int .u8 0, .int .u8 0, .int .u8 0, .int .u8 0, .int .i64 0] 38)) hb1
  clear cN hn hb1
  go_wp2_with ((with_reducible refine stop_store 38 (.tmp 4) (.tmp 10) ?hst ?_); (case hst => rfl))
  change wpList _ _ _ _ _ _
  refine wpList_store_row (by rfl) 38 (.tmp 4) (.tmp 10) (by rfl) w.heap.size #[.string ⟨#[]⟩, .int .i64 0, .int .i64 0, .int .i64 0, .int .u8 0, .int .u8 0, .int .u8 0, .int .u8 0, .int .u8 0, .int .u8 0, .int .u8 0, .int .u8 0, .int .u8 0, .int .u8 0, .int .u8 0, .int .u8 0, .int .u8 0, .int .u8 0, .int .u8 0, .int .u8 0, .int .i64 2] (by rfl) (by rfl) 38 _ hG0 size38 (by rfl) (by simp [Value.oneCell']) ?_
  go_wp2
  exact ret_c Tryz.results9 w.heap.size 38 #[.string ⟨#[]⟩, .int .i64 0, .int .i64 0, .int .i64 0, .int .u8 0, .int .u8 0, .int .u8 0, .int .u8 0, .int .u8 0, .int .u8 0, .int .u8 0, .int .u8 0, .int .u8 0, .int .u8 0, .int .u8 0, .int .u8 0, .int .u8 0, .int .u8 0, .int .u8 0, .int .u8 0, .int .i64 2] _ (by rfl) (setRow_heap _ _ _ _ _ _ hG0) Tryz.underlying38 (by rfl) size38 (by rfl) ⟨rfl, below_setRow hb0 (Nat.le_refl _) _⟩

set_option maxHeartbeats 4000000 in
set_option maxRecDepth 100000 in
theorem RGet_len (name v : ByteArray) (hs : name.size ≤ 9223372036854775807) (hn : nameB name = true) (hv : ¬ v.size = 25) (w : World) : Calls Tryz.prog 9 #[.string name, .string v] w fun e w' => e = .returned (.agg (oneC (getR name v) (getE name v))) ∧ Below w.heap.size w w' := by
  have he : getE name v = 8 := by unfold getE; rw [hn, decide_eq_false hv]
  have hr : getR name v = zNm := by unfold getR; rw [he]; rfl
  rw [he, hr, one_zero]
  have cN := fun w => IsName_any name w hs
  rw [hn] at cN
  have hv2 : ¬ (v.size : Int) = 25 := by omega
  clear he hr
  go_enter Tryz.func9, Tryz.ntmps9
  go_wp2_with fail
  refine calls_below (cN _) ?_
  intro w1 hb1
  have hG0 := bl_below (bl_new w (.cells #[.string ⟨#[]⟩, .int .i64 0, .int .i64 0, .int .i64 0, .int .u8 0, .int .u8 0, .int .u8 0, .int .u8 0, .int .u8 0, .int .u8 0, .int .u8 0, .int .u8 0, .int .u8 0, .int .u8 0, .int .u8 0, .int .u8 0, .int .u8 0, .int .u8 0, .int .u8 0, .int .u8 0, .int .i64 0] 38)) hb1
  have hb0 := below_trans (below_alloc (Below.refl w.heap.size w) (.cells #[.string ⟨#[]⟩, .int .i64 0, .int .i64 0, .int .i64 0, .int .u8 0, .int .u8 0, .int .u8 0, .int .u8 0, .int .u8 0, .int .u8 0, .int .u8 0, .int .u8 0, .int .u8 0, .int .u8 0, .int .u8 0, .int .u8 0, .int .u8 0, .int .u8 0, .int .u8 0, .int .u8 0, .int .i64 0] 38)) hb1
  clear cN hn hb1
  go_wp2_with ((with_reducible refine stop_store 38 (.tmp 4) (.tmp 14) ?hst ?_); (case hst => rfl))
  change wpList _ _ _ _ _ _
  refine wpList_store_row (by rfl) 38 (.tmp 4) (.tmp 14) (by rfl) w.heap.size #[.string ⟨#[]⟩, .int .i64 0, .int .i64 0, .int .i64 0, .int .u8 0, .int .u8 0, .int .u8 0, .int .u8 0, .int .u8 0, .int .u8 0, .int .u8 0, .int .u8 0, .int .u8 0, .int .u8 0, .int .u8 0, .int .u8 0, .int .u8 0, .int .u8 0, .int .u8 0, .int .u8 0, .int .i64 8] (by rfl) (by rfl) 38 _ hG0 size38 (by rfl) (by simp [Value.oneCell']) ?_
  go_wp2
  exact ret_c Tryz.results9 w.heap.size 38 #[.string ⟨#[]⟩, .int .i64 0, .int .i64 0, .int .i64 0, .int .u8 0, .int .u8 0, .int .u8 0, .int .u8 0, .int .u8 0, .int .u8 0, .int .u8 0, .int .u8 0, .int .u8 0, .int .u8 0, .int .u8 0, .int .u8 0, .int .u8 0, .int .u8 0, .int .u8 0, .int .u8 0, .int .i64 8] _ (by rfl) (setRow_heap _ _ _ _ _ _ hG0) Tryz.underlying38 (by rfl) size38 (by rfl) ⟨rfl, below_setRow hb0 (Nat.le_refl _) _⟩

set_option maxHeartbeats 4000000 in
set_option maxRecDepth 100000 in
theorem RGet_any (name : ByteArray) (v : ByteArray) (hs : name.size ≤ 9223372036854775807) (hv : v.size = 25) (hn : nameB name = true) (w : World) : Calls Tryz.prog 9 #[.string name, .string v] w fun e w' => e = .returned (.agg (oneC (getR name v) (getE name v))) ∧ Below w.heap.size w w' := by
  have he : getE name v = if rightB (getX name v.data.toList) = true then 0 else 8 := by
    unfold getE
    rw [hn, hv]
    cases rightB (getX name v.data.toList) <;> rfl
  have hr : getR name v = if rightB (getX name v.data.toList) = true then getX name v.data.toList else zNm := by
    unfold getR
    rw [he]
    cases rightB (getX name v.data.toList) <;> rfl
  rw [he, hr]
  obtain ⟨⟨l⟩⟩ := v
  have hl : l.length = 25 := hv
  have cN := fun w => IsName_any name w hs
  rw [hn] at cN
  clear he hr
  obtain ⟨v0, v1, v2, v3, v4, v5, v6, v7, v8, v9, v10, v11, v12, v13, v14, v15, v16, v17, v18, v19, v20, v21, v22, v23, v24, rfl⟩ := ex25 hl
  obtain ⟨x, hx⟩ : ∃ x, getX name [v0, v1, v2, v3, v4, v5, v6, v7, v8, v9, v10, v11, v12, v13, v14, v15, v16, v17, v18, v19, v20, v21, v22, v23, v24] = x := ⟨_, rfl⟩
  simp only [hx]
  have hx1 : (ByteArray.mk ⟨[v0, v1, v2, v3, v4, v5, v6, v7, v8, v9, v10, v11, v12, v13, v14, v15, v16, v17, v18, v19, v20, v21, v22, v23, v24]⟩).extract 1 5 = ⟨⟨[v1, v2, v3, v4]⟩⟩ := ext_list _ 1 5
  have hx2 : (ByteArray.mk ⟨[v0, v1, v2, v3, v4, v5, v6, v7, v8, v9, v10, v11, v12, v13, v14, v15, v16, v17, v18, v19, v20, v21, v22, v23, v24]⟩).extract 5 9 = ⟨⟨[v5, v6, v7, v8]⟩⟩ := ext_list _ 5 9
  have hsz : (ByteArray.mk ⟨[v0, v1, v2, v3, v4, v5, v6, v7, v8, v9, v10, v11, v12, v13, v14, v15, v16, v17, v18, v19, v20, v21, v22, v23, v24]⟩).size = 25 := rfl
  have hby : Hid (∀ k : Nat, k < 16 → ∀ h : 9 + k < (ByteArray.mk ⟨[v0, v1, v2, v3, v4, v5, v6, v7, v8, v9, v10, v11, v12, v13, v14, v15, v16, v17, v18, v19, v20, v21, v22, v23, v24]⟩).size, ∃ b : UInt8, (ByteArray.mk ⟨[v0, v1, v2, v3, v4, v5, v6, v7, v8, v9, v10, v11, v12, v13, v14, v15, v16, v17, v18, v19, v20, v21, v22, v23, v24]⟩)[9 + k]'h = b ∧ (nmC x)[4 + k]? = some (.int .u8 (b.toNat : Int))) := by
    show ∀ k : Nat, _
    rw [← hx]
    intro k hk h
    match k, hk with
    | 0, _ => exact ⟨_, rfl, rfl⟩
    | 1, _ => exact ⟨_, rfl, rfl⟩
    | 2, _ => exact ⟨_, rfl, rfl⟩
    | 3, _ => exact ⟨_, rfl, rfl⟩
    | 4, _ => exact ⟨_, rfl, rfl⟩
    | 5, _ => exact ⟨_, rfl, rfl⟩
    | 6, _ => exact ⟨_, rfl, rfl⟩
    | 7, _ => exact ⟨_, rfl, rfl⟩
    | 8, _ => exact ⟨_, rfl, rfl⟩
    | 9, _ => exact ⟨_, rfl, rfl⟩
    | 10, _ => exact ⟨_, rfl, rfl⟩
    | 11, _ => exact ⟨_, rfl, rfl⟩
    | 12, _ => exact ⟨_, rfl, rfl⟩
    | 13, _ => exact ⟨_, rfl, rfl⟩
    | 14, _ => exact ⟨_, rfl, rfl⟩
    | 15, _ => exact ⟨_, rfl, rfl⟩
    | k + 16, hk => exact absurd hk (by omega)
  obtain ⟨V, hV⟩ : ∃ V, (ByteArray.mk ⟨[v0, v1, v2, v3, v4, v5, v6, v7, v8, v9, v10, v11, v12, v13, v14, v15, v16, v17, v18, v19, v20, v21, v22, v23, v24]⟩) = V := ⟨_, rfl⟩
  have hi0' : ∀ h : 0 < V.size, V[0] = v0 := by subst hV; intro h; rfl
  rw [hV] at hx1 hx2 hsz hby ⊢
  have hw0 : IntKind.i64.wrap (v0.toNat : Int) = (v0.toNat : Int) := IntWalk.i64_in _ (by have := UInt8.toNat_lt v0; omega)
  obtain ⟨R, hR⟩ : ∃ R, rightB x = R := ⟨_, rfl⟩
  have cR := fun w => right_any x w
  rw [hR] at cR ⊢
  have hpre : Hid (∀ j, j < 4 → (#[.string name, .int .i64 v0.toNat, .int .i64 (num4 v1 v2 v3 v4), .int .i64 (num4 v5 v6 v7 v8), .int .u8 0, .int .u8 0, .int .u8 0, .int .u8 0, .int .u8 0, .int .u8 0, .int .u8 0, .int .u8 0, .int .u8 0, .int .u8 0, .int .u8 0, .int .u8 0, .int .u8 0, .int .u8 0, .int .u8 0, .int .u8 0] : Array Value)[j]? = (nmC x)[j]?) := by
    show ∀ j, _
    rw [← hx]
    intro j hj
    match j, hj with
    | 0, _ => rfl
    | 1, _ => rfl
    | 2, _ => rfl
    | 3, _ => rfl
  have HR := Lib.hid hR
  have CR := Lib.hid cR
  clear hv hl hV hx hR cR
  go_enter Tryz.func9, Tryz.ntmps9
  go_wp2_with fail
  refine calls_below (cN _) ?_
  intro w1 hb1
  have hG0 := bl_below (bl_new w (.cells #[.string ⟨#[]⟩, .int .i64 0, .int .i64 0, .int .i64 0, .int .u8 0, .int .u8 0, .int .u8 0, .int .u8 0, .int .u8 0, .int .u8 0, .int .u8 0, .int .u8 0, .int .u8 0, .int .u8 0, .int .u8 0, .int .u8 0, .int .u8 0, .int .u8 0, .int .u8 0, .int .u8 0, .int .i64 0] 38)) hb1
  have hb0 := below_trans (below_alloc (Below.refl w.heap.size w) (.cells #[.string ⟨#[]⟩, .int .i64 0, .int .i64 0, .int .i64 0, .int .u8 0, .int .u8 0, .int .u8 0, .int .u8 0, .int .u8 0, .int .u8 0, .int .u8 0, .int .u8 0, .int .u8 0, .int .u8 0, .int .u8 0, .int .u8 0, .int .u8 0, .int .u8 0, .int .u8 0, .int .u8 0, .int .i64 0] 38)) hb1
  have HG0 := Lib.hid hG0
  have HB0 := Lib.hid hb0
  have HG1 := Lib.hid (bl_lt hG0)
  clear hG0 hb0 hb1 cN hn
  go_upto_region 5 with fail
  go_cut [5] (fun s5 wx => ∃ g, s5 = .pointer (some ⟨g, 0, none⟩) ∧ Hid (wx.heap[g]? = some (.cells #[.string name, .int .i64 v0.toNat, .int .i64 (num4 v1 v2 v3 v4), .int .i64 (num4 v5 v6 v7 v8), .int .u8 0, .int .u8 0, .int .u8 0, .int .u8 0, .int .u8 0, .int .u8 0, .int .u8 0, .int .u8 0, .int .u8 0, .int .u8 0, .int .u8 0, .int .u8 0, .int .u8 0, .int .u8 0, .int .u8 0, .int .u8 0] 27 (0, 0))) ∧ Hid (w1.heap.size ≤ g) ∧ Hid (Below w1.heap.size w1 wx))
  case first =>
    refine wp_region_noPanic ?_
    refine wp_plan [] (.take 0 (.take 1 (.take 2 (.take 3 (.take 4 (.take 5 (.take 7 (.take 8 (.two 6 12 (.two 9 12 (.take 10 (.take 11 (.eff 12 .tail))) (.eff 9 (.take 10 (.take 11 .tail)))) (.eff 6 (.eff 9 (.take 10 (.take 11 .tail))))))))))))) 13 (by kernel_rfl) (by kernel_rfl) (by kernel_rfl) (by kernel_rfl) (fun d v c a w h => h) ?_
    iterate 8
      apply plan_take
      case hw => rfl
      case hy => intro W hW; obtain ⟨hwc, -⟩ := bcell hW; simp only [List.getD_cons_zero, List.getD_cons_succ]; go_simp; try rfl
      simp only [List.getD_cons_zero, List.getD_cons_succ, Act.put, List.setIfInBounds_toArray, List.set_cons_zero, List.set_cons_succ]
    have hwab : Later w1 w1.drew := (Later.refl _).drew
    obtain ⟨wa, hwa⟩ : ∃ W, w1.drew = W := ⟨_, rfl⟩
    rw [hwa] at hwab ⊢
    clear hwa
    refine plan_two (fun K hK => ?_) (fun K hK => ?_)
    · simp only [List.getD_cons_zero, List.getD_cons_succ]
      go_wp2_with (go_at_call 25; refine calls_below (small_below v1 v2 v3 v4 _) ?_; intro wb hq)
      refine hK _ _ hq ?_
      have hwbb := Later.trans hwab hq
      clear hK K hq
      refine plan_two (fun K hK => ?_) (fun K hK => ?_)
      · simp only [List.getD_cons_zero, List.getD_cons_succ]
        go_wp2_with (go_at_call 25; refine calls_below (small_below v5 v6 v7 v8 _) ?_; intro wc hq)
        refine hK _ _ hq ?_
        have hwcb := Later.trans hwbb hq
        clear hK K hq
        iterate 2
          apply plan_take
          case hw => rfl
          case hy => intro W hW; obtain ⟨hwc, -⟩ := bcell hW; simp only [List.getD_cons_zero, List.getD_cons_succ]; go_simp; try rfl
          simp only [List.getD_cons_zero, List.getD_cons_succ, Act.put, List.setIfInBounds_toArray, List.set_cons_zero, List.set_cons_succ]
        refine plan_eff fun K hK => ?_
        simp only [List.getD_cons_zero, List.getD_cons_succ]
        go_wp2
        refine hK _ _ (Later.alloc (Later.refl _) _) ?_
        clear hK K
        have hmg := bl_new wc (.cells #[.string ⟨#[]⟩, .int .i64 0, .int .i64 0, .int .i64 0, .int .u8 0, .int .u8 0, .int .u8 0, .int .u8 0, .int .u8 0, .int .u8 0, .int .u8 0, .int .u8 0, .int .u8 0, .int .u8 0, .int .u8 0, .int .u8 0, .int .u8 0, .int .u8 0, .int .u8 0, .int .u8 0] 27)
        obtain ⟨g, hgd⟩ : ∃ g, wc.heap.size = g := ⟨_, rfl⟩
        have hgs : w1.heap.size ≤ g := by rw [← hgd]; exact hwcb.size
        rw [hgd] at hmg
        simp only [hgd]
        obtain ⟨wd, hwd⟩ : ∃ W, wc.alloc (.cells #[.string ⟨#[]⟩, .int .i64 0, .int .i64 0, .int .i64 0, .int .u8 0, .int .u8 0, .int .u8 0, .int .u8 0, .int .u8 0, .int .u8 0, .int .u8 0, .int .u8 0, .int .u8 0, .int .u8 0, .int .u8 0, .int .u8 0, .int .u8 0, .int .u8 0, .int .u8 0, .int .u8 0] 27) = W := ⟨_, rfl⟩
        have hwdb : Later w1 wd := by rw [← hwd]; exact Later.alloc hwcb _
        rw [hwd] at hmg
        simp only [hwd]
        clear hgd hwd
        refine plan_tail ?_
        simp only [List.drop_succ_cons, List.drop_zero]
        refine wpList_store_row (by rfl) 27 (.tmp 5) (.tmp 26) (by rfl) g #[.string name, .int .i64 v0.toNat, .int .i64 (num4 v1 v2 v3 v4), .int .i64 (num4 v5 v6 v7 v8), .int .u8 0, .int .u8 0, .int .u8 0, .int .u8 0, .int .u8 0, .int .u8 0, .int .u8 0, .int .u8 0, .int .u8 0, .int .u8 0, .int .u8 0, .int .u8 0, .int .u8 0, .int .u8 0, .int .u8 0, .int .u8 0] (by rfl) (by rfl) 27 _ hmg size27 (by rfl) (by simp [Value.oneCell']) ?_
        refine NoPanic.normal ?_
        go_wp2
        go_meet
        case rel => exact ⟨g, rfl, setRow_heap _ _ _ _ _ _ hmg, hgs, below_setRow hwdb hgs _⟩
      · simp only [List.getD_cons_zero, List.getD_cons_succ]
        go_wp2
        refine hK _ _ (Later.alloc (Later.refl _) _) ?_
        clear hK K
        have hmg := bl_new wb (.cells #[.string ⟨#[]⟩, .int .i64 0, .int .i64 0, .int .i64 0, .int .u8 0, .int .u8 0, .int .u8 0, .int .u8 0, .int .u8 0, .int .u8 0, .int .u8 0, .int .u8 0, .int .u8 0, .int .u8 0, .int .u8 0, .int .u8 0, .int .u8 0, .int .u8 0, .int .u8 0, .int .u8 0] 27)
        obtain ⟨g, hgd⟩ : ∃ g, wb.heap.size = g := ⟨_, rfl⟩
        have hgs : w1.heap.size ≤ g := by rw [← hgd]; exact hwbb.size
        rw [hgd] at hmg
        simp only [hgd]
        obtain ⟨wc, hwc⟩ : ∃ W, wb.alloc (.cells #[.string ⟨#[]⟩, .int .i64 0, .int .i64 0, .int .i64 0, .int .u8 0, .int .u8 0, .int .u8 0, .int .u8 0, .int .u8 0, .int .u8 0, .int .u8 0, .int .u8 0, .int .u8 0, .int .u8 0, .int .u8 0, .int .u8 0, .int .u8 0, .int .u8 0, .int .u8 0, .int .u8 0] 27) = W := ⟨_, rfl⟩
        have hwcb : Later w1 wc := by rw [← hwc]; exact Later.alloc hwbb _
        rw [hwc] at hmg
        simp only [hwc]
        clear hgd hwc
        refine plan_eff fun K hK => ?_
        simp only [List.getD_cons_zero, List.getD_cons_succ]
        go_wp2_with (go_at_call 25; refine calls_below (small_below v5 v6 v7 v8 _) ?_; intro wd hq)
        refine hK _ _ hq ?_
        have hwdb := Later.trans hwcb hq
        replace hmg := bl_below hmg hq
        clear hK K hq
        iterate 2
          apply plan_take
          case hw => rfl
          case hy => intro W hW; obtain ⟨hwc, -⟩ := bcell hW; simp only [List.getD_cons_zero, List.getD_cons_succ]; go_simp; try rfl
          simp only [List.getD_cons_zero, List.getD_cons_succ, Act.put, List.setIfInBounds_toArray, List.set_cons_zero, List.set_cons_succ]
        refine plan_tail ?_
        simp only [List.drop_succ_cons, List.drop_zero]
        refine wpList_store_row (by rfl) 27 (.tmp 5) (.tmp 26) (by rfl) g #[.string name, .int .i64 v0.toNat, .int .i64 (num4 v1 v2 v3 v4), .int .i64 (num4 v5 v6 v7 v8), .int .u8 0, .int .u8 0, .int .u8 0, .int .u8 0, .int .u8 0, .int .u8 0, .int .u8 0, .int .u8 0, .int .u8 0, .int .u8 0, .int .u8 0, .int .u8 0, .int .u8 0, .int .u8 0, .int .u8 0, .int .u8 0] (by rfl) (by rfl) 27 _ hmg size27 (by rfl) (by simp [Value.oneCell']) ?_
        refine NoPanic.normal ?_
        go_wp2
        go_meet
        case rel => exact ⟨g, rfl, setRow_heap _ _ _ _ _ _ hmg, hgs, below_setRow hwdb hgs _⟩
    · simp only [List.getD_cons_zero, List.getD_cons_succ]
      go_wp2
      refine hK _ _ (Later.alloc (Later.refl _) _) ?_
      clear hK K
      have hmg := bl_new wa (.cells #[.string ⟨#[]⟩, .int .i64 0, .int .i64 0, .int .i64 0, .int .u8 0, .int .u8 0, .int .u8 0, .int .u8 0, .int .u8 0, .int .u8 0, .int .u8 0, .int .u8 0, .int .u8 0, .int .u8 0, .int .u8 0, .int .u8 0, .int .u8 0, .int .u8 0, .int .u8 0, .int .u8 0] 27)
      obtain ⟨g, hgd⟩ : ∃ g, wa.heap.size = g := ⟨_, rfl⟩
      have hgs : w1.heap.size ≤ g := by rw [← hgd]; exact hwab.size
      rw [hgd] at hmg
      simp only [hgd]
      obtain ⟨wb, hwb⟩ : ∃ W, wa.alloc (.cells #[.string ⟨#[]⟩, .int .i64 0, .int .i64 0, .int .i64 0, .int .u8 0, .int .u8 0, .int .u8 0, .int .u8 0, .int .u8 0, .int .u8 0, .int .u8 0, .int .u8 0, .int .u8 0, .int .u8 0, .int .u8 0, .int .u8 0, .int .u8 0, .int .u8 0, .int .u8 0, .int .u8 0] 27) = W := ⟨_, rfl⟩
      have hwbb : Later w1 wb := by rw [← hwb]; exact Later.alloc hwab _
      rw [hwb] at hmg
      simp only [hwb]
      clear hgd hwb
      refine plan_eff fun K hK => ?_
      simp only [List.getD_cons_zero, List.getD_cons_succ]
      go_wp2_with (go_at_call 25; refine calls_below (small_below v1 v2 v3 v4 _) ?_; intro wc hq)
      refine hK _ _ hq ?_
      have hwcb := Later.trans hwbb hq
      replace hmg := bl_below hmg hq
      clear hK K hq
      refine plan_eff fun K hK => ?_
      simp only [List.getD_cons_zero, List.getD_cons_succ]
      go_wp2_with (go_at_call 25; refine calls_below (small_below v5 v6 v7 v8 _) ?_; intro wd hq)
      refine hK _ _ hq ?_
      have hwdb := Later.trans hwcb hq
      replace hmg := bl_below hmg hq
      clear hK K hq
      iterate 2
        apply plan_take
        case hw => rfl
        case hy => intro W hW; obtain ⟨hwc, -⟩ := bcell hW; simp only [List.getD_cons_zero, List.getD_cons_succ]; go_simp; try rfl
        simp only [List.getD_cons_zero, List.getD_cons_succ, Act.put, List.setIfInBounds_toArray, List.set_cons_zero, List.set_cons_succ]
      refine plan_tail ?_
      simp only [List.drop_succ_cons, List.drop_zero]
      refine wpList_store_row (by rfl) 27 (.tmp 5) (.tmp 26) (by rfl) g #[.string name, .int .i64 v0.toNat, .int .i64 (num4 v1 v2 v3 v4), .int .i64 (num4 v5 v6 v7 v8), .int .u8 0, .int .u8 0, .int .u8 0, .int .u8 0, .int .u8 0, .int .u8 0, .int .u8 0, .int .u8 0, .int .u8 0, .int .u8 0, .int .u8 0, .int .u8 0, .int .u8 0, .int .u8 0, .int .u8 0, .int .u8 0] (by rfl) (by rfl) 27 _ hmg size27 (by rfl) (by simp [Value.oneCell']) ?_
      refine NoPanic.normal ?_
      go_wp2
      go_meet
      case rel => exact ⟨g, rfl, setRow_heap _ _ _ _ _ _ hmg, hgs, below_setRow hwdb hgs _⟩
  case rest =>
    obtain ⟨g, rfl, HM, HGS, HBX⟩ := hcut
    have hne : ¬ w.heap.size = g := by have h1 := HGS.out; have h2 := HG1.out; omega
    have HG := Lib.hid (bl_below HG0.out HBX.out)
    have HB1 := Lib.hid (HB0.out.trans (HBX.out.mono HB0.out.size))
    have HGL := Lib.hid (show w.heap.size ≤ g by have h1 := HGS.out; have h2 := HG1.out; omega)
    clear HG0 HB0 HBX HG1 HGS
    go_wp2
    go_loopw [6] (fun i wr => ∃ (k : Nat) (cs : Array Value), k ≤ 16 ∧ i = .int .i64 (k : Int) ∧ Hid (wr.heap[g]? = some (.cells cs 27 (0, 0))) ∧ Hid (cs.size = 20) ∧ Hid (∀ j, j < 4 + k → cs[j]? = (nmC x)[j]?) ∧ Hid (wr.heap[w.heap.size]? = some (.cells #[.string ⟨#[]⟩, .int .i64 0, .int .i64 0, .int .i64 0, .int .u8 0, .int .u8 0, .int .u8 0, .int .u8 0, .int .u8 0, .int .u8 0, .int .u8 0, .int .u8 0, .int .u8 0, .int .u8 0, .int .u8 0, .int .u8 0, .int .u8 0, .int .u8 0, .int .u8 0, .int .u8 0, .int .i64 0] 38 (0, 0))) ∧ Hid (Below w.heap.size w wr)) (fun i _ => 16 - (intOf i).toNat)
    case atStart => exact ⟨0, _, by omega, rfl, HM, rfl, hpre, HG, HB1⟩
    case round =>
      obtain ⟨k, cs, hk, rfl, HC, HS, HP, HGr, HBr⟩ := hrel
      clear HM HG HB1
      by_cases hlt : k < 16
      · have hb9 : 9 + k < V.size := by omega
        obtain ⟨b, hb, hnb⟩ := hby.out k hlt hb9
        have h0 : (0 : Int) ≤ k := by omega
        have hlk : ¬ ((k : Int) < 0) := by omega
        have hc1 := bl_cell HC.out (4 + k)
        have hcs : (cs[4 + k]?).isSome = true := by simp [HS.out]; omega
        obtain ⟨c, hc⟩ := Option.isSome_iff_exists.1 hcs
        rw [hc] at hc1
        have hf1 := bl_frozen HC.out (4 + k)
        have hadd : IntKind.i64.wrap (9 + (k : Int)) = ((9 + k : Nat) : Int) := by rw [IntWalk.i64_in _ (by omega)]; omega
        have Hnb := Lib.hid hnb
        have HC1 := Lib.hid hc
        clear hcs hnb hc
        go_wp2
        go_roundw
        case rel =>
          refine ⟨k + 1, cs.setIfInBounds (4 + k) (.int .u8 (b.toNat : Int)), hlt, by go_num, bl_set HC.out _ _, ?_, ?_, ?_, ?_⟩
          · show _ = _
            rw [Array.size_setIfInBounds]; exact HS.out
          · intro j hj
            by_cases hjk : j = 4 + k
            · subst hjk
              rw [Hnb.out, Array.getElem?_setIfInBounds_self]
              rw [if_pos (by rw [HS.out]; omega)]
            · rw [Array.getElem?_setIfInBounds_ne (Ne.symm hjk)]
              exact HP.out j (by omega)
          · exact bl_far HGr.out (by exact hne) _
          · exact Below.setCell HBr.out HGL.out _
        case measure => simp [intOf]; omega
      · have hcx : cs = nmC x := by
          refine Array.ext_getElem? fun j => ?_
          by_cases hj : j < 20
          · exact HP.out j (by omega)
          · rw [Array.getElem?_eq_none (by rw [HS.out]; omega), Array.getElem?_eq_none (by rw [nm_size]; omega)]
        rw [hcx] at HC
        clear HP HS hcx hpre hby
        have HL := Lib.hid (cells_all HC.out)
        go_wp2_with ((with_reducible refine stop_load 27 (.tmp 5) ?hst ?_); (case hst => rfl))
        change wpList _ _ _ _ _ _
        refine wpList_loadC _ 27 (.tmp 5) (by rfl) (by rfl) ⟨g, 0, none⟩ (by rfl) (nmC x) _ HL.out Tryz.underlying27 (by rfl) size27 ?_
        cases R
        · go_wp2_with fail
          refine calls_below (CR.out _) ?_
          intro w3 hb3
          have hG3 := bl_below HGr.out hb3
          have hb4 := below_trans HBr.out hb3
          have HL3 := Lib.hid (cells_all (bl_below HC.out hb3))
          have HG3 := Lib.hid hG3
          have HB4 := Lib.hid hb4
          clear hG3 hb4 hb3
          simp only [Bool.false_eq_true, if_false, one_zero]
          go_wp2_with ((with_reducible refine stop_store 38 (.tmp 4) (.tmp 42) ?hst ?_); (case hst => rfl))
          change wpList _ _ _ _ _ _
          refine wpList_store_row (by rfl) 38 (.tmp 4) (.tmp 42) (by rfl) w.heap.size #[.string ⟨#[]⟩, .int .i64 0, .int .i64 0, .int .i64 0, .int .u8 0, .int .u8 0, .int .u8 0, .int .u8 0, .int .u8 0, .int .u8 0, .int .u8 0, .int .u8 0, .int .u8 0, .int .u8 0, .int .u8 0, .int .u8 0, .int .u8 0, .int .u8 0, .int .u8 0, .int .u8 0, .int .i64 8] (by rfl) (by rfl) 38 _ HG3.out size38 (by rfl) (by simp [Value.oneCell']) ?_
          go_wp2
          exact ret_c Tryz.results9 w.heap.size 38 #[.string ⟨#[]⟩, .int .i64 0, .int .i64 0, .int .i64 0, .int .u8 0, .int .u8 0, .int .u8 0, .int .u8 0, .int .u8 0, .int .u8 0, .int .u8 0, .int .u8 0, .int .u8 0, .int .u8 0, .int .u8 0, .int .u8 0, .int .u8 0, .int .u8 0, .int .u8 0, .int .u8 0, .int .i64 8] _ (by rfl) (setRow_heap _ _ _ _ _ _ HG3.out) Tryz.underlying38 (by rfl) size38 (by rfl) ⟨rfl, below_setRow HB4.out (Nat.le_refl _) _⟩
        · go_wp2_with fail
          refine calls_below (CR.out _) ?_
          intro w3 hb3
          have hG3 := bl_below HGr.out hb3
          have hb4 := below_trans HBr.out hb3
          have HL3 := Lib.hid (cells_all (bl_below HC.out hb3))
          have HG3 := Lib.hid hG3
          have HB4 := Lib.hid hb4
          clear hG3 hb4 hb3
          go_wp2_with ((with_reducible refine stop_load 27 (.tmp 5) ?hst ?_); (case hst => rfl))
          change wpList _ _ _ _ _ _
          refine wpList_loadC _ 27 (.tmp 5) (by rfl) (by rfl) ⟨g, 0, none⟩ (by rfl) (nmC x) _ HL3.out Tryz.underlying27 (by rfl) size27 ?_
          refine wpList_buildE _ (by rfl) 38 #[(0, .tmp 43)] (by rfl) [(0, .agg (nmC x))] (by rfl) (oneC x 0) (build38 x) ?_
          go_wp2_with ((with_reducible refine stop_store 38 (.tmp 4) (.tmp 44) ?hst ?_); (case hst => rfl))
          change wpList _ _ _ _ _ _
          refine wpList_store_row (by rfl) 38 (.tmp 4) (.tmp 44) (by rfl) w.heap.size (oneC x 0) (by rfl) (by rfl) 38 _ HG3.out size38 (by rfl) (one_one x 0) ?_
          go_wp2
          exact ret_c Tryz.results9 w.heap.size 38 (oneC x 0) _ (by rfl) (setRow_heap _ _ _ _ _ _ HG3.out) Tryz.underlying38 (by rfl) size38 (by rfl) ⟨rfl, below_setRow HB4.out (Nat.le_refl _) _⟩
theorem RGet_full (name v : ByteArray) (hs : name.size ≤ 9223372036854775807) (w : World) : Calls Tryz.prog 9 #[.string name, .string v] w fun e w' => e = .returned (.agg (oneC (getR name v) (getE name v))) ∧ Below w.heap.size w w' := by
  cases hn : nameB name
  · exact RGet_bad name v hs hn w
  · by_cases hv : v.size = 25
    · exact RGet_any name v hs hv hn w
    · exact RGet_len name v hs hn hv w
end Go.Proofs.YtoefpcepplgkeaaGreat
end
