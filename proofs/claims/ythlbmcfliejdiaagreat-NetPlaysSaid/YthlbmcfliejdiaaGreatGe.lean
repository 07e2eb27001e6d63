/- The contracts of the method deliver. The contracts of the program's New and done; a network as a value. The contract of the program's changed, whatever function it is handed. The contracts of the program's Cut over the closure that it hands on. (Printed by wip/gen_pub.py.). The contracts of the program's Lose over the closure that it hands on. (Printed by wip/gen_pub.py.). The contracts of the program's Double over the closure that it hands on. (Printed by wip/gen_pub.py.). The contracts of the program's Set over the closure that it hands on. (Printed by wip/gen_pub.py.). The contracts of the program's Delay over the closure that it hands on. (Printed by wip/gen_pub.py.). -/
import Derived.Test.YthlbmcfliejdiaaGreatGd
import Derived.Test.YthlbmcfliejdiaaGreatGc
import Derived.Shelf.Abstract
import Derived.RangeFuncLeaves
section
set_option linter.unusedVariables false
set_option linter.unusedSimpArgs false
namespace Go.Proofs.YthlbmcfliejdiaaGreat
open Go.RowKit Go.Shelf
attribute [local go_sem] Oper.semAt_some

/-- Two results that lie in memory: a struct, a number. -/
theorem res_cn {P : Program} {fn : Func} {tmps : Array Value} {w : World} {p p' : Tmp} {ty ty' : TypeId} {v : Int} {k : IntKind} (h : fn.results = #[.cell p ty, .cell p' ty']) (g g' : Nat) (t : TypeId) (cs : Array Value) (d : TypeDesc) (hp : tmps.getD p undef = .pointer (some ⟨g, 0, none⟩)) (hg : w.heap[g]? = some (.cells cs t (0, 0)))
    (hu : P.underlying ty = some d) (hd : (match d with | .struct _ | .array _ _ => true | _ => false) = true) (hi : (P.info? ty).map (·.size) = some cs.size)
    (hp' : tmps.getD p' undef = .pointer (some ⟨g', 0, none⟩)) (hg' : w.cell? ⟨g', 0, none⟩ = some (.int k v)) (hu' : P.underlying ty' = some (.int k)) :
    (results fn tmps).run P w = .ok (.tuple #[.agg cs, .int k v]) w := by
  have h1 : tmps[p]?.getD undef = .pointer (some ⟨g, 0, none⟩) := by simpa using hp
  have h2 : tmps[p']?.getD undef = .pointer (some ⟨g', 0, none⟩) := by simpa using hp'
  have h3 : (loadVar ty' ⟨g', 0, none⟩).run P w = .ok (.int k v) w := by simp [loadVar, isAgg, run_underlying hu', go_sem, hg']
  simp [results, h, h1, h2, asAddr, run_loadVar_row w g t ty cs (0, 0) d hg hu hd hi, h3]

set_option maxHeartbeats 1000000 in
set_option maxRecDepth 100000 in
theorem deliver_none (B g : Nat) (x : Nt) (i : Int) (w : World) (hS : St w B g x) (hi : hasB x.way.length i = false) : Calls Tryz.prog 42 #[.pointer (some ⟨g, 0, none⟩), .int .i64 i] w fun e w' =>
    e = .returned (.tuple #[.agg #[.int .i64 zLt.id, .int .i64 zLt.fr, .int .i64 zLt.to, .int .i64 zLt.rd, .string zLt.data], .int .i64 4]) ∧ Below w.heap.size w w' := by
  have HI := Lib.hid hi
  clear hi
  go_enter Tryz.func42, Tryz.ntmps42
  go_wp2_with (go_at_call 74; refine (has_any B g x i _ ((((hS.alloc _).alloc _).alloc _).alloc _)).mono ?_; rintro e w' ⟨rfl, rfl⟩; rw [HI.out])
  refine bodyPost_ret (res_cn Tryz.results42 (w.heap.size + 1 + 1) (w.heap.size + 1 + 1 + 1) 33 #[.int .i64 zLt.id, .int .i64 zLt.fr, .int .i64 zLt.to, .int .i64 zLt.rd, .string zLt.data] _ rfl (bl_alloc (by have h := bl_new ((w.alloc (.cells #[.pointer (some ⟨g, 0, none⟩)] 87)).alloc (.cells #[.int .i64 i] 3)) (.cells #[.int .i64 0, .int .i64 0, .int .i64 0, .int .i64 0, .string ⟨#[]⟩] 33); simp only [World.size_alloc] at h; exact h) _) Tryz.underlying33 rfl sizeLt rfl (by go_simp) Tryz.underlying29) rfl ⟨rfl, below_alloc (below_alloc (below_alloc (below_alloc (Below.refl _ _) _) _) _) _⟩

def dlvQ (B g i : Nat) (x : Nt) (l : Lt) (w : World) (e : Ending) (w' : World) : Prop :=
  (i ∉ rdyF x ∧ e = .returned (.tuple #[.agg #[.int .i64 zLt.id, .int .i64 zLt.fr, .int .i64 zLt.to, .int .i64 zLt.rd, .string zLt.data], .int .i64 6]) ∧ Below w.heap.size w w') ∨
  (i ∈ rdyF x ∧ e = .returned (.tuple #[.agg #[.int .i64 l.id, .int .i64 l.fr, .int .i64 l.to, .int .i64 l.rd, .string l.data], .int .i64 0]) ∧ St w' B g { x with way := x.way.eraseIdx i } ∧ Below B w w' ∧ Frm w w' g)

theorem kept_cells {W W' : World} {row : Option Nat} {k : Nat} {c : Array Value} {t : TypeId} {f : Nat × Nat} (h : W.heap[k]? = some (.cells c t f)) (hg : W.grownBy W' row) (hr : ∀ r, row = some r → ∃ o : Obj, W.heap[r]? = some o ∧ o.isCells = false) : W'.heap[k]? = some (.cells c t f) := by
  refine (hg.block k (bl_lt h) (fun e => ?_)).trans h
  obtain ⟨o, ho, hc⟩ := hr k e.symm
  rw [h] at ho; cases ho; cases hc
theorem kept_own {α : Type} [Enc α] {W W' : World} {row : Option Nat} {B : Nat} {e : TypeId} {v : Value} {xs : List α} (h : Own W B e v xs) (hg : W.grownBy W' row) (hr : ∀ r, row = some r → ∃ o : Obj, W.heap[r]? = some o ∧ o.isCells = false) : Own W' B e v xs := by
  refine ⟨h.1, ?_⟩
  rcases h.2 with hn | ⟨g', cap, cur, rfl, hb, hgg, rest⟩
  · exact .inl hn
  · exact .inr ⟨g', cap, cur, rfl, hb, kept_cells hgg hg hr, rest⟩
theorem kept_St {W W' : World} {row : Option Nat} {B g : Nat} {x : Nt} (h : St W B g x) (hg : W.grownBy W' row) (hr : ∀ r, row = some r → ∃ o : Obj, W.heap[r]? = some o ∧ o.isCells = false) : St W' B g x := by
  obtain ⟨vW, vC, vT, hgg, hB, oW, oC, oT⟩ := h
  exact ⟨vW, vC, vT, kept_cells hgg hg hr, hB, kept_own oW hg hr, kept_own oC hg hr, kept_own oT hg hr⟩

theorem St.set5 {w : World} {B g b : Nat} {x : Nt} {c0 c1 c2 c3 c4 : Value} (h : St w B g x) (hb : w.heap[b]? = some (.cells #[c0, c1, c2, c3, c4] 33 (0, 0))) (hg : g ≠ b) (hw : ∀ v, w.cell? ⟨g, 3, none⟩ = some v → v.ownBlock ≠ some b) (a0 a1 a2 a3 a4 : Value) :
    St (((((w.setCell ⟨b, 0, none⟩ a0).setCell ⟨b, 1, none⟩ a1).setCell ⟨b, 2, none⟩ a2).setCell ⟨b, 3, none⟩ a3).setCell ⟨b, 4, none⟩ a4) B g x := by
  obtain ⟨vW, vC, vT, hgg, hB, oW, oC, oT⟩ := h
  have hW : vW.ownBlock ≠ some b := hw vW (by rw [bl_cell hgg 3]; rfl)
  have hC := oC.ne hb (by decide)
  have hT := oT.ne hb (by decide)
  exact ⟨vW, vC, vT, bl_far (bl_far (bl_far (bl_far (bl_far hgg hg _) hg _) hg _) hg _) hg _, hB,
    ((((oW.setCell hW _).setCell hW _).setCell hW _).setCell hW _).setCell hW _, ((((oC.setCell hC _).setCell hC _).setCell hC _).setCell hC _).setCell hC _, ((((oT.setCell hT _).setCell hT _).setCell hT _).setCell hT _).setCell hT _⟩
theorem St.set1 {w : World} {B g b : Nat} {x : Nt} {cs : Array Value} (h : St w B g x) (hb : w.heap[b]? = some (.cells cs 29 (0, 0))) (hg : g ≠ b) (a0 : Value) : St (w.setCell ⟨b, 0, none⟩ a0) B g x := by
  obtain ⟨vW, vC, vT, hgg, hB, oW, oC, oT⟩ := h
  exact ⟨vW, vC, vT, bl_far hgg hg _, hB, oW.setCell (oW.ne hb (by decide)) _, oC.setCell (oC.ne hb (by decide)) _, oT.setCell (oT.ne hb (by decide)) _⟩

set_option maxHeartbeats 4000000 in
set_option maxRecDepth 100000 in
theorem deliver_in (B g i : Nat) (x : Nt) (lt : Lt) (w : World) (hS : St w B g x) (hB0 : B ≤ w.heap.size) (hlt : x.way[i]? = some lt) (hnd : (x.cuts.map prL).Nodup) (hlw : x.way.length ≤ 10000000) (hlc : x.cuts.length ≤ 10000000) :
    CallsIn Fence.wide 8 Tryz.prog 42 #[.pointer (some ⟨g, 0, none⟩), .int .i64 i] w (dlvQ B g i x lt w) := by
  have hil := (List.getElem?_eq_some_iff.1 hlt).1
  have hh : hasB x.way.length i = true := by simp [hasB]; omega
  have HI := Lib.hid hh
  have hgw := hS.lt
  have HS := Lib.hid hS
  have HLT := Lib.hid hlt
  clear hh hlt hS
  refine callsIn_of_wp_marks Tryz.func42 rfl trivial ?_ rfl
  simp only [Tryz.ntmps42, List.size_toArray, List.length_cons, List.length_nil, Nat.reduceAdd, Nat.reduceSub, Array.replicate_succ, Array.replicate_zero, List.push_toArray, List.append_toArray, List.nil_append, List.cons_append]
  gi_wp2_with (first
    | (refine ⟨trivial, ?_⟩; gi_at_call 74; refine (callsIn_wide.2 (has_any B g x i _ ((((HS.out.alloc _).alloc _).alloc _).alloc _))).mono ?_; rintro e w' ⟨rfl, rfl⟩; rw [HI.out])
    | (refine ⟨trivial, ?_⟩; gi_at_call 58; refine (callsIn_wide.2 (ready_any _ _)).mono ?_; rintro e w' ⟨rfl, rfl⟩))
  obtain ⟨wL, hwL⟩ : ∃ wL, wL = (((((w.alloc (.cells #[.pointer (some ⟨g, 0, none⟩)] 87)).alloc (.cells #[.int .i64 i] 3)).alloc (.cells #[.int .i64 0, .int .i64 0, .int .i64 0, .int .i64 0, .string ⟨#[]⟩] 33)).alloc (.cells #[.int .i64 0] 29)).alloc (.cells #[.pointer (some ⟨g, 0, none⟩)] 87)) := ⟨_, rfl⟩
  rw [← hwL]
  have hBL : Below w.heap.size w wL := by rw [hwL]; exact below_alloc (below_alloc (below_alloc (below_alloc (below_alloc (Below.refl _ _) _) _) _) _) _
  have hsz : wL.heap.size = w.heap.size + 5 := by rw [hwL]; simp
  have h2 : wL.heap[w.heap.size]? = some (.cells #[.pointer (some ⟨g, 0, none⟩)] 87 (0, 0)) := by
    rw [hwL]; exact bl_alloc (bl_alloc (bl_alloc (bl_alloc (bl_new _ _) _) _) _) _
  have h3 : wL.heap[w.heap.size + 1]? = some (.cells #[.int .i64 i] 3 (0, 0)) := by
    rw [hwL]
    have h := bl_new (w.alloc (.cells #[.pointer (some ⟨g, 0, none⟩)] 87)) (.cells #[.int .i64 i] 3)
    simp only [World.size_alloc] at h
    exact bl_alloc (bl_alloc (bl_alloc h _) _) _
  have h4 : wL.heap[w.heap.size + 1 + 1]? = some (.cells #[.int .i64 0, .int .i64 0, .int .i64 0, .int .i64 0, .string ⟨#[]⟩] 33 (0, 0)) := by
    rw [hwL]
    have h := bl_new ((w.alloc (.cells #[.pointer (some ⟨g, 0, none⟩)] 87)).alloc (.cells #[.int .i64 i] 3)) (.cells #[.int .i64 0, .int .i64 0, .int .i64 0, .int .i64 0, .string ⟨#[]⟩] 33)
    simp only [World.size_alloc] at h
    exact bl_alloc (bl_alloc h _) _
  have h5 : wL.heap[w.heap.size + 1 + 1 + 1]? = some (.cells #[.int .i64 0] 29 (0, 0)) := by
    rw [hwL]
    have h := bl_new (((w.alloc (.cells #[.pointer (some ⟨g, 0, none⟩)] 87)).alloc (.cells #[.int .i64 i] 3)).alloc (.cells #[.int .i64 0, .int .i64 0, .int .i64 0, .int .i64 0, .string ⟨#[]⟩] 33)) (.cells #[.int .i64 0] 29)
    simp only [World.size_alloc] at h
    exact bl_alloc h _
  have h6 : wL.heap[w.heap.size + 1 + 1 + 1 + 1]? = some (.cells #[.pointer (some ⟨g, 0, none⟩)] 87 (0, 0)) := by
    rw [hwL]
    have h := bl_new ((((w.alloc (.cells #[.pointer (some ⟨g, 0, none⟩)] 87)).alloc (.cells #[.int .i64 i] 3)).alloc (.cells #[.int .i64 0, .int .i64 0, .int .i64 0, .int .i64 0, .string ⟨#[]⟩] 33)).alloc (.cells #[.int .i64 0] 29)) (.cells #[.pointer (some ⟨g, 0, none⟩)] 87)
    simp only [World.size_alloc] at h
    exact h
  clear hwL
  have HBL := Lib.hid hBL
  have HSZ := Lib.hid hsz
  have H2 := Lib.hid h2
  have H3 := Lib.hid h3
  have H4 := Lib.hid h4
  have H5 := Lib.hid h5
  have c6 := bl_cell h6 0
  simp at c6
  clear hBL hsz h2 h3 h4 h5 h6
  refine wpIn_rangeFunc_ownG (F := Fence.wide) rfl (by decide) (gf := 94) (lb := #[.pointer (some ⟨w.heap.size + 1 + 1 + 1 + 1, 0, none⟩)]) rfl trivial (enters_of Tryz.func94 (by kernel_rfl) rfl)
    (ready_stops 7 (w.heap.size + 1 + 1 + 1 + 1) g B x wL c6 (HS.out.below HBL.out) hnd hlw hlc) kpt_t (kpt_b (Nat.le_refl _)) (Below.refl _ _) (fun _ => rfl)
    (fun pre W => i ∉ pre ∧ Below wL.heap.size wL W)
    (fun c pre W => c = .ret ∧ i ∈ pre ∧ St W B g { x with way := x.way.eraseIdx i } ∧ Below B w W ∧ Frm w W g ∧ W.heap[w.heap.size + 1 + 1]? = some (.cells #[.int .i64 lt.id, .int .i64 lt.fr, .int .i64 lt.to, .int .i64 lt.rd, .string lt.data] 33 (0, 0)) ∧ W.heap[w.heap.size + 1 + 1 + 1]? = some (.cells #[.int .i64 0] 29 (0, 0)))
    (OwnFrom.and (ownFrom_pure _ (fun pre => i ∉ pre)) (ownFrom_below (Nat.le_refl _) (Nat.le_refl _)))
    (fun c s A W' row hs hg hr => ⟨hs.1, hs.2.1, kept_St hs.2.2.1 hg (fun r e => (hr r e).2), hs.2.2.2.1.grown hg (by have := hs.2.2.2.1.size; omega) (fun k e => by have := (hr k e).1; have := HSZ.out; omega), hs.2.2.2.2.1.grown (hs.2.2.2.1.size) hgw hg (fun k e => by have := (hr k e).1; have := HSZ.out; omega), kept_cells hs.2.2.2.2.2.1 hg (fun r e => (hr r e).2), kept_cells hs.2.2.2.2.2.2 hg (fun r e => (hr r e).2)⟩)
    ⟨by simp, Below.refl _ _⟩
    (fun k => { tmps := #[.pointer (some ⟨g, 0, none⟩), .int .i64 i, .pointer (some ⟨w.heap.size, 0, none⟩), .pointer (some ⟨w.heap.size + 1, 0, none⟩), .pointer (some ⟨w.heap.size + 1 + 1, 0, none⟩), .pointer (some ⟨w.heap.size + 1 + 1 + 1, 0, none⟩), .int .i64 (k : Int), .pointer (some ⟨g, 0, none⟩), .int .i64 i, .bool true, .bool false, undef, .pointer (some ⟨g, 0, none⟩), .func (.func 94) #[] #[.pointer (some ⟨w.heap.size + 1 + 1 + 1 + 1, 0, none⟩)], .int .i64 (k : Int), undef, undef, undef, undef, undef, undef, undef, undef, undef], defers := [] }) ?assign ?body ?done ?stop
  case assign =>
    intro l k W K hK
    gi_wp2
    exact hK
  case body =>
    rintro l pre k W ⟨hni, hB⟩ hlen
    have e2 := bl_cell (bl_below H2.out hB) 0
    have e3 := bl_cell (bl_below H3.out hB) 0
    simp at e2 e3
    have HNI := Lib.hid hni
    have HBW := Lib.hid hB
    clear hni hB
    by_cases hki : k = i
    · have hkb : ((k : Int) == (i : Int)) = true := by simp [hki]
      have HKI := Lib.hid hki
      clear hki
      have hSW : St W B g x := (HS.out.below HBL.out).below HBW.out
      have hBsz : B ≤ W.heap.size := by have := HBL.out.size; have := HBW.out.size; omega
      obtain ⟨AW, cW, AC, cC, AT, cT, hgg, -, oW, -, -⟩ := HS.out.open
      have c3W := bl_cell (bl_below (bl_below hgg HBL.out) HBW.out) 3
      simp at c3W
      have C3W := Lib.hid c3W
      have hgl := bl_lt hgg
      have HROW : Hid (∀ b, w.heap.size ≤ b → ¬ some b = (Value.slice AW x.way.length cW).ownBlock) := fun b hb h => by have := (oW.lt b h.symm).2; omega
      have hB4 := bl_below H4.out HBW.out
      have hB5' := bl_below H5.out HBW.out
      have HB4 := Lib.hid hB4
      have HB5 := Lib.hid hB5'
      clear c3W hgg oW hB4 hB5'
      gi_wp2_with (refine ⟨trivial, ?_⟩; gi_at_call 48; refine (CallsIn.inRound l (callsIn_wide.2 (lose_ok B g i x lt W hSW hBsz HLT.out))).mono ?_; rintro e w5 ⟨rfl, hS5, hB5, hF5, hO5, row, hK5, hr5, hq5⟩; have HF5 := Lib.hid hF5; clear hF5; obtain rfl := hr5 _ C3W.out; have hx4 := hK5.bl HB4.out (by omega) (HROW.out _ (by omega)); have hx5 := hK5.bl HB5.out (by omega) (HROW.out _ (by omega)); have y0 := bl_cell hx4 0; have y1 := bl_cell hx4 1; have y2 := bl_cell hx4 2; have y3 := bl_cell hx4 3; have y4 := bl_cell hx4 4; have y5 := bl_cell hx5 0; simp at y0 y1 y2 y3 y4 y5; have z0 := bl_frozen hx4 0; have z1 := bl_frozen hx4 1; have z2 := bl_frozen hx4 2; have z3 := bl_frozen hx4 3; have z4 := bl_frozen hx4 4; have z5 := bl_frozen hx5 0)
      have n1 : g ≠ w.heap.size + 1 + 1 := by omega
      have n2 : g ≠ w.heap.size + 1 + 1 + 1 := by omega
      have n3 : w.heap.size + 1 + 1 ≠ w.heap.size + 1 + 1 + 1 := by omega
      have hx5' := bl_far (bl_far (bl_far (bl_far (bl_far hx5 (p := ⟨w.heap.size + 1 + 1, 0, none⟩) (Ne.symm n3) (.int .i64 lt.id)) (p := ⟨w.heap.size + 1 + 1, 1, none⟩) (Ne.symm n3) (.int .i64 lt.fr)) (p := ⟨w.heap.size + 1 + 1, 2, none⟩) (Ne.symm n3) (.int .i64 lt.to)) (p := ⟨w.heap.size + 1 + 1, 3, none⟩) (Ne.symm n3) (.int .i64 lt.rd)) (p := ⟨w.heap.size + 1 + 1, 4, none⟩) (Ne.symm n3) (.string lt.data)
      refine ⟨KeepsOthers.from ?_ _, rfl, List.mem_append.2 (.inr (by simp [HKI.out])), ?_, ?_, ?_, ?_, ?_⟩
      · repeat (refine KeepsOthers.trans ?_ (KeepsOthers.setCell _ _ _))
        exact ⟨hO5.1, hO5.2⟩
      · exact (hS5.set5 hx4 n1 (fun v hv => by rw [hq5 v hv]; exact fun h => HROW.out _ (by omega) h.symm) _ _ _ _ _).set1 hx5' n2 _
      · have hb := ((HBL.out.mono hB0).trans (HBW.out.mono (by have := HBL.out.size; omega))).trans hB5
        exact (((((hb.setCell (p := ⟨w.heap.size + 1 + 1, 0, none⟩) (by show B ≤ w.heap.size + 1 + 1; omega) _).setCell (p := ⟨w.heap.size + 1 + 1, 1, none⟩) (by show B ≤ w.heap.size + 1 + 1; omega) _).setCell (p := ⟨w.heap.size + 1 + 1, 2, none⟩) (by show B ≤ w.heap.size + 1 + 1; omega) _).setCell (p := ⟨w.heap.size + 1 + 1, 3, none⟩) (by show B ≤ w.heap.size + 1 + 1; omega) _).setCell (p := ⟨w.heap.size + 1 + 1, 4, none⟩) (by show B ≤ w.heap.size + 1 + 1; omega) _).setCell (p := ⟨w.heap.size + 1 + 1 + 1, 0, none⟩) (by show B ≤ w.heap.size + 1 + 1 + 1; omega) _
      · have hf := ((Frm.of_below hgw HBL.out).trans (Frm.of_below (by have := HBL.out.size; omega) HBW.out)).trans HF5.out
        have hs5 : w.heap.size ≤ w5.heap.size := by have := HBL.out.size; have := HBW.out.size; have := hK5.size; omega
        have hz : ∀ (W : World) (p : Addr) (u : Value), w.heap.size ≤ W.heap.size → w.heap.size ≤ (W.setCell p u).heap.size := fun W p u h => by simpa [World.setCell] using h
        exact ((((((hf.setNew hs5 hgw (p := ⟨w.heap.size + 1 + 1, 0, none⟩) (by show w.heap.size ≤ w.heap.size + 1 + 1; omega) _).setNew (hz _ _ _ hs5) hgw (p := ⟨w.heap.size + 1 + 1, 1, none⟩) (by show w.heap.size ≤ w.heap.size + 1 + 1; omega) _).setNew (hz _ _ _ (hz _ _ _ hs5)) hgw (p := ⟨w.heap.size + 1 + 1, 2, none⟩) (by show w.heap.size ≤ w.heap.size + 1 + 1; omega) _).setNew (hz _ _ _ (hz _ _ _ (hz _ _ _ hs5))) hgw (p := ⟨w.heap.size + 1 + 1, 3, none⟩) (by show w.heap.size ≤ w.heap.size + 1 + 1; omega) _).setNew (hz _ _ _ (hz _ _ _ (hz _ _ _ (hz _ _ _ hs5)))) hgw (p := ⟨w.heap.size + 1 + 1, 4, none⟩) (by show w.heap.size ≤ w.heap.size + 1 + 1; omega) _).setNew (hz _ _ _ (hz _ _ _ (hz _ _ _ (hz _ _ _ (hz _ _ _ hs5))))) hgw (p := ⟨w.heap.size + 1 + 1 + 1, 0, none⟩) (by show w.heap.size ≤ w.heap.size + 1 + 1 + 1; omega) _)
      · exact bl_far (bl_all5 hx4 _ _ _ _ _) n3 _
      · simpa using bl_set hx5' 0 (.int .i64 0)
    · have hkb : ((k : Int) == (i : Int)) = false := by rw [beq_eq_false_iff_ne]; omega
      have HKI := Lib.hid hki
      clear hki
      gi_wp2
      exact ⟨KeepsFrom.refl _ _, ⟨Below.refl _ _, KeepsWalks.refl _⟩, fun h => (List.mem_append.1 h).elim HNI.out (fun h => by simp at h; exact HKI.out h.symm), HBW.out⟩
  case done =>
    rintro D ys W hD rfl ⟨hni, hB⟩ hK
    have hx4 := bl_below H4.out hB
    have hx5 := bl_below H5.out hB
    have y0 := bl_cell hx4 0
    have y1 := bl_cell hx4 1
    have y2 := bl_cell hx4 2
    have y3 := bl_cell hx4 3
    have y4 := bl_cell hx4 4
    have y5 := bl_cell hx5 0
    simp at y0 y1 y2 y3 y4 y5
    have z0 := bl_frozen hx4 0
    have z1 := bl_frozen hx4 1
    have z2 := bl_frozen hx4 2
    have z3 := bl_frozen hx4 3
    have z4 := bl_frozen hx4 4
    have z5 := bl_frozen hx5 0
    have HNI := Lib.hid hni
    have HKD := Lib.hid hK
    clear hni hK
    gi_wp2
    have n3 : w.heap.size + 1 + 1 ≠ w.heap.size + 1 + 1 + 1 := by omega
    have hx5' := bl_far (bl_far (bl_far (bl_far (bl_far hx5 (p := ⟨w.heap.size + 1 + 1, 0, none⟩) (Ne.symm n3) (.int .i64 0)) (p := ⟨w.heap.size + 1 + 1, 1, none⟩) (Ne.symm n3) (.int .i64 0)) (p := ⟨w.heap.size + 1 + 1, 2, none⟩) (Ne.symm n3) (.int .i64 0)) (p := ⟨w.heap.size + 1 + 1, 3, none⟩) (Ne.symm n3) (.int .i64 0)) (p := ⟨w.heap.size + 1 + 1, 4, none⟩) (Ne.symm n3) (.string ⟨#[]⟩)
    have hy4 := bl_far (bl_all5 hx4 (.int .i64 0) (.int .i64 0) (.int .i64 0) (.int .i64 0) (.string ⟨#[]⟩)) (p := ⟨w.heap.size + 1 + 1 + 1, 0, none⟩) n3 (.int .i64 6)
    have hy5 := bl_set hx5' 0 (.int .i64 6)
    simp only [List.setIfInBounds_toArray, List.set_cons_zero] at hy5
    have hKS := ((((((KeepsOthers.setCell W ⟨w.heap.size + 1 + 1, 0, none⟩ (.int .i64 0)).trans (KeepsOthers.setCell _ ⟨w.heap.size + 1 + 1, 1, none⟩ (.int .i64 0))).trans (KeepsOthers.setCell _ ⟨w.heap.size + 1 + 1, 2, none⟩ (.int .i64 0))).trans (KeepsOthers.setCell _ ⟨w.heap.size + 1 + 1, 3, none⟩ (.int .i64 0))).trans (KeepsOthers.setCell _ ⟨w.heap.size + 1 + 1, 4, none⟩ (.string ⟨#[]⟩))).trans (KeepsOthers.setCell _ ⟨w.heap.size + 1 + 1 + 1, 0, none⟩ (.int .i64 6))).same D _ HKD.out rfl
    have hBe := (((((((HBL.out.trans (hB.mono (by have := HBL.out.size; omega))).setCell (p := ⟨w.heap.size + 1 + 1, 0, none⟩) (by show w.heap.size ≤ w.heap.size + 1 + 1; omega) (.int .i64 0)).setCell (p := ⟨w.heap.size + 1 + 1, 1, none⟩) (by show w.heap.size ≤ w.heap.size + 1 + 1; omega) (.int .i64 0)).setCell (p := ⟨w.heap.size + 1 + 1, 2, none⟩) (by show w.heap.size ≤ w.heap.size + 1 + 1; omega) (.int .i64 0)).setCell (p := ⟨w.heap.size + 1 + 1, 3, none⟩) (by show w.heap.size ≤ w.heap.size + 1 + 1; omega) (.int .i64 0)).setCell (p := ⟨w.heap.size + 1 + 1, 4, none⟩) (by show w.heap.size ≤ w.heap.size + 1 + 1; omega) (.string ⟨#[]⟩)).setCell (p := ⟨w.heap.size + 1 + 1 + 1, 0, none⟩) (by show w.heap.size ≤ w.heap.size + 1 + 1 + 1; omega) (.int .i64 6))
    have hp4 := kept_cells hy4 (grownBy_putObj' _ D (.deferred none)) (fun r e => by cases e; exact ⟨_, hKS, rfl⟩)
    have hp5 := kept_cells hy5 (grownBy_putObj' _ D (.deferred none)) (fun r e => by cases e; exact ⟨_, hKS, rfl⟩)
    refine ⟨by simp, .inl ⟨_, _, rfl, run_takeDeferred hKS, ?_⟩⟩
    refine ⟨.tuple #[.agg #[.int .i64 zLt.id, .int .i64 zLt.fr, .int .i64 zLt.to, .int .i64 zLt.rd, .string zLt.data], .int .i64 6], res_cn Tryz.results42 (w.heap.size + 1 + 1) (w.heap.size + 1 + 1 + 1) 33 #[.int .i64 zLt.id, .int .i64 zLt.fr, .int .i64 zLt.to, .int .i64 zLt.rd, .string zLt.data] _ rfl hp4 Tryz.underlying33 rfl sizeLt rfl (by rw [bl_cell hp5 0]; rfl) Tryz.underlying29, .inl ⟨HNI.out, rfl, hBe.trans (belowK_b (w := wL) (by have := HSZ.out; omega) _ D _ _ hD hKS rfl rfl)⟩⟩
  case stop =>
    rintro D c pre W hD hpre ⟨rfl, hin, hSx, hBx, hFx, hx4, hx5⟩ hK
    have HFX := Lib.hid hFx
    clear hFx
    have HIN := Lib.hid hin
    have HPRE := Lib.hid hpre
    have HX4 := Lib.hid hx4
    have HX5 := Lib.hid hx5
    have HKD := Lib.hid hK
    have HSX := Lib.hid hSx
    have HBX := Lib.hid hBx
    clear hin hpre hx4 hx5 hK hSx hBx
    gi_wp2
    have hr : ∀ r, some D = some r → ∃ o : Obj, W.heap[r]? = some o ∧ o.isCells = false := fun r e => by cases e; exact ⟨_, HKD.out, rfl⟩
    have hp4 := kept_cells HX4.out (grownBy_putObj' W D (.deferred none)) hr
    have hp5 := kept_cells HX5.out (grownBy_putObj' W D (.deferred none)) hr
    refine ⟨by simp, .inl ⟨_, _, rfl, run_takeDeferred HKD.out, ?_⟩⟩
    refine ⟨.tuple #[.agg #[.int .i64 lt.id, .int .i64 lt.fr, .int .i64 lt.to, .int .i64 lt.rd, .string lt.data], .int .i64 0], res_cn Tryz.results42 (w.heap.size + 1 + 1) (w.heap.size + 1 + 1 + 1) 33 #[.int .i64 lt.id, .int .i64 lt.fr, .int .i64 lt.to, .int .i64 lt.rd, .string lt.data] _ rfl hp4 Tryz.underlying33 rfl sizeLt rfl (by rw [bl_cell hp5 0]; rfl) Tryz.underlying29, .inr ⟨HPRE.out.subset HIN.out, rfl, kept_St HSX.out (grownBy_putObj' W D (.deferred none)) hr, HBX.out.trans (belowK_b (w := wL) (by have := HSZ.out; omega) _ D _ _ hD HKD.out rfl rfl), HFX.out.grown HBX.out.size hgw (grownBy_putObj' W D (.deferred none)) (fun r e => by cases e; have := HSZ.out; omega)⟩⟩

theorem deliver_any (B g i : Nat) (x : Nt) (lt : Lt) (w : World) (hS : St w B g x) (hB0 : B ≤ w.heap.size) (hlt : x.way[i]? = some lt) (hnd : (x.cuts.map prL).Nodup) (hlw : x.way.length ≤ 10000000) (hlc : x.cuts.length ≤ 10000000) :
    Calls Tryz.prog 42 #[.pointer (some ⟨g, 0, none⟩), .int .i64 i] w (dlvQ B g i x lt w) := callsIn_wide.1 (deliver_in B g i x lt w hS hB0 hlt hnd hlw hlc)
end Go.Proofs.YthlbmcfliejdiaaGreat
end

section
set_option linter.unusedVariables false
set_option linter.unusedSimpArgs false
namespace Go.Proofs.YthlbmcfliejdiaaGreat
open Go.RowKit

/-- A value that is a network. -/
def NetV (w : World) (v : Value) (x : Nt) : Prop :=
  ∃ AW cW AC cC AT cT, v = .agg #[.int .i64 x.nodes, .int .i64 x.now, .int .i64 x.next, .slice AW x.way.length cW, .slice AC x.cuts.length cC, .slice AT x.timers.length cT] ∧ Rd w AW x.way ∧ Rd w AC x.cuts ∧ Rd w AT x.timers
theorem NetV.below {w w1 : World} {v : Value} {x : Nt} (h : NetV w v x) (hb : Below w.heap.size w w1) : NetV w1 v x := by
  obtain ⟨AW, cW, AC, cC, AT, cT, rfl, hW, hC, hT⟩ := h
  exact ⟨AW, cW, AC, cC, AT, cT, rfl, hW.below hb, hC.below hb, hT.below hb⟩
theorem NetV.drew {w : World} {v : Value} {x : Nt} (h : NetV w v x) : NetV w.drew v x := h
/-- A value that is a network whose lists lie in rows of their own, from block B on. -/
def NetO (w : World) (B : Nat) (v : Value) (x : Nt) : Prop :=
  ∃ AW cW AC cC AT cT, v = .agg #[.int .i64 x.nodes, .int .i64 x.now, .int .i64 x.next, .slice AW x.way.length cW, .slice AC x.cuts.length cC, .slice AT x.timers.length cT] ∧ Own w B 33 (.slice AW x.way.length cW) x.way ∧ Own w B 96 (.slice AC x.cuts.length cC) x.cuts ∧ Own w B 86 (.slice AT x.timers.length cT) x.timers
theorem NetO.below {w w1 : World} {B : Nat} {v : Value} {x : Nt} (h : NetO w B v x) (hb : Below w.heap.size w w1) : NetO w1 B v x := by
  obtain ⟨AW, cW, AC, cC, AT, cT, rfl, hW, hC, hT⟩ := h
  exact ⟨AW, cW, AC, cC, AT, cT, rfl, hW.below hb, hC.below hb, hT.below hb⟩
theorem NetO.far {w : World} {B : Nat} {v : Value} {x : Nt} (h : NetO w B v x) {p : Addr} (hp : p.block < B) (u : Value) : NetO (w.setCell p u) B v x := by
  obtain ⟨AW, cW, AC, cC, AT, cT, rfl, hW, hC, hT⟩ := h
  exact ⟨AW, cW, AC, cC, AT, cT, rfl, hW.far hp u, hC.far hp u, hT.far hp u⟩
theorem Own.rd {α : Type} [Enc α] {w : World} {B : Nat} {e : TypeId} {A : Option Addr} {n c : Nat} {xs : List α} (o : Own w B e (.slice A n c) xs) : Rd w A xs := by
  obtain ⟨A', c', e', _, h⟩ := o.slice
  cases e'
  exact h
theorem NetO.weaken {w : World} {B B' : Nat} {v : Value} {x : Nt} (h : NetO w B v x) (hb : B' ≤ B) : NetO w B' v x := by
  obtain ⟨AW, cW, AC, cC, AT, cT, rfl, hW, hC, hT⟩ := h
  exact ⟨AW, cW, AC, cC, AT, cT, rfl, hW.weaken hb, hC.weaken hb, hT.weaken hb⟩
theorem NetO.netV {w : World} {B : Nat} {v : Value} {x : Nt} (h : NetO w B v x) : NetV w v x := by
  obtain ⟨AW, cW, AC, cC, AT, cT, rfl, hW, hC, hT⟩ := h
  exact ⟨AW, cW, AC, cC, AT, cT, rfl, hW.rd, hC.rd, hT.rd⟩
/-- The zero network's value. -/
def zNetV : Value := .agg #[.int .i64 0, .int .i64 0, .int .i64 0, .slice none 0 0, .slice none 0 0, .slice none 0 0]
theorem zNetV_is (w : World) : NetV w zNetV zNt := ⟨none, 0, none, 0, none, 0, rfl, Rd.nil _ _, Rd.nil _ _, Rd.nil _ _⟩
set_option maxHeartbeats 400000 in
theorem New_ok (n : Int) (w : World) (h0 : 1 ≤ n) (h1 : n ≤ 16) : Calls Tryz.prog 31 #[.int .i64 n] w fun e w' => e = .returned (.tuple #[.agg #[.int .i64 n, .int .i64 0, .int .i64 0, .slice none 0 0, .slice none 0 0, .slice none 0 0], .int .i64 0]) ∧ Below w.heap.size w w' := by
  have d1 : decide (n < 1) = false := by simpa using h0
  have d2 : decide (16 < n) = false := by simpa using h1
  go_enter Tryz.func31, Tryz.ntmps31
  go_wp2
  exact ret_ct Tryz.results31 w.heap.size 26 #[.int .i64 n, .int .i64 0, .int .i64 0, .slice none 0 0, .slice none 0 0, .slice none 0 0] _ rfl (bl_new w _) Tryz.underlying26 rfl sizeNet rfl ⟨rfl, below_alloc (Below.refl _ _) _⟩

set_option maxHeartbeats 400000 in
theorem New_bad (n : Int) (w : World) (h : n < 1 ∨ 16 < n) : Calls Tryz.prog 31 #[.int .i64 n] w fun e w' => e = .returned (.tuple #[zNetV, .int .i64 1]) ∧ Below w.heap.size w w' := by
  rcases h with h | h
  · go_enter Tryz.func31, Tryz.ntmps31
    go_wp2
    exact ret_ct Tryz.results31 w.heap.size 26 #[.int .i64 0, .int .i64 0, .int .i64 0, .slice none 0 0, .slice none 0 0, .slice none 0 0] _ rfl (bl_new w _) Tryz.underlying26 rfl sizeNet rfl ⟨rfl, below_alloc (Below.refl _ _) _⟩
  · have h2 : ¬ n < 1 := by omega
    go_enter Tryz.func31, Tryz.ntmps31
    go_wp2
    exact ret_ct Tryz.results31 w.heap.size 26 #[.int .i64 0, .int .i64 0, .int .i64 0, .slice none 0 0, .slice none 0 0, .slice none 0 0] _ rfl (bl_new w _) Tryz.underlying26 rfl sizeNet rfl ⟨rfl, below_alloc (Below.refl _ _) _⟩

set_option maxHeartbeats 400000 in
theorem done_bad (p : Value) (k : Int) (w : World) (hk : k ≠ 0) : Calls Tryz.prog 38 #[p, .int .i64 k] w fun e w' => e = .returned (.tuple #[zNetV, .int .i64 k]) ∧ Below w.heap.size w w' := by
  have hk2 : (k != 0) = true := by simpa using hk
  clear hk
  go_enter Tryz.func38, Tryz.ntmps38
  go_wp2
  exact ret_ct Tryz.results38 w.heap.size 26 #[.int .i64 0, .int .i64 0, .int .i64 0, .slice none 0 0, .slice none 0 0, .slice none 0 0] _ rfl (bl_new w _) Tryz.underlying26 rfl sizeNet rfl ⟨rfl, below_alloc (Below.refl _ _) _⟩

set_option maxHeartbeats 1000000 in
theorem done_ok (B g : Nat) (x : Nt) (w : World) (hS : St w B g x) : Calls Tryz.prog 38 #[.pointer (some ⟨g, 0, none⟩), .int .i64 0] w fun e w' => ∃ v, e = .returned (.tuple #[v, .int .i64 0]) ∧ NetO w' B v x ∧ Below w.heap.size w w' := by
  obtain ⟨AW, cW, AC, cC, AT, cT, hg, -, oW, oC, oT⟩ := hS.open
  have hV : NetO w B (.agg #[.int .i64 x.nodes, .int .i64 x.now, .int .i64 x.next, .slice AW x.way.length cW, .slice AC x.cuts.length cC, .slice AT x.timers.length cT]) x := ⟨AW, cW, AC, cC, AT, cT, rfl, oW, oC, oT⟩
  have HV := Lib.hid hV
  have k0 := bl_cell hg 0
  have k1 := bl_cell hg 1
  have k2 := bl_cell hg 2
  have k3 := bl_cell hg 3
  have k4 := bl_cell hg 4
  have k5 := bl_cell hg 5
  simp at k0 k1 k2 k3 k4 k5
  have hlt := bl_lt hg
  have hl1 : g < w.heap.size + 1 := by omega
  have n3 : ¬ g = w.heap.size := by omega
  clear hg hV hS oW oC oT
  go_enter Tryz.func38, Tryz.ntmps38
  go_wp2
  exact ret_ct Tryz.results38 w.heap.size 26 #[.int .i64 x.nodes, .int .i64 x.now, .int .i64 x.next, .slice AW x.way.length cW, .slice AC x.cuts.length cC, .slice AT x.timers.length cT] _ rfl (bl_new w _) Tryz.underlying26 rfl sizeNet rfl ⟨_, rfl, HV.out.below (below_alloc (Below.refl _ _) _), below_alloc (Below.refl _ _) _⟩
end Go.Proofs.YthlbmcfliejdiaaGreat
end

section
set_option linter.unusedVariables false
set_option linter.unusedSimpArgs false
namespace Go.Proofs.YthlbmcfliejdiaaGreat
open Go.RowKit Go.Shelf

theorem below_set6 {w w1 : World} {B b : Nat} (h : Below B w w1) (hb : B ≤ b) (a0 a1 a2 a3 a4 a5 : Value) :
    Below B w ((((((w1.setCell ⟨b, 0, none⟩ a0).setCell ⟨b, 1, none⟩ a1).setCell ⟨b, 2, none⟩ a2).setCell ⟨b, 3, none⟩ a3).setCell ⟨b, 4, none⟩ a4).setCell ⟨b, 5, none⟩ a5) :=
  (((((h.setCell (p := ⟨b, 0, none⟩) hb a0).setCell (p := ⟨b, 1, none⟩) hb a1).setCell (p := ⟨b, 2, none⟩) hb a2).setCell (p := ⟨b, 3, none⟩) hb a3).setCell (p := ⟨b, 4, none⟩) hb a4).setCell (p := ⟨b, 5, none⟩) hb a5

set_option maxHeartbeats 1000000 in
set_option maxRecDepth 100000 in
theorem changed_bad (x : Nt) (f : Value) (v : Value) (w : World) (hlw : x.way.length ≤ 10000000) (hlc : x.cuts.length ≤ 10000000) (hlt : x.timers.length ≤ 10000000) (hV : NetV w v x) (hx : checkB x = false) :
    Calls Tryz.prog 46 #[v, f] w fun e w' => e = .returned (.tuple #[zNetV, .int .i64 2]) ∧ Below w.heap.size w w' := by
  obtain ⟨AW, cW, AC, cC, AT, cT, rfl, hW, hC, hT⟩ := hV
  have hb0 : Below w.heap.size w ((w.alloc (.cells #[.int .i64 x.nodes, .int .i64 x.now, .int .i64 x.next, .slice AW x.way.length cW, .slice AC x.cuts.length cC, .slice AT x.timers.length cT] 26)).alloc (.cells #[.int .i64 0, .int .i64 0, .int .i64 0, .slice none 0 0, .slice none 0 0, .slice none 0 0] 26)) := below_alloc (below_alloc (Below.refl _ _) _) _
  have HB0 := Lib.hid hb0
  have HX := Lib.hid hx
  clear hb0 hx
  go_enter Tryz.func46, Tryz.ntmps46
  go_wp2_with (go_at_call 36; refine (changing_bad x AW AC AT cW cC cT _ (by omega) (by omega) (by omega) (hW.below HB0.out) (hC.below HB0.out) (hT.below HB0.out) HX.out).mono ?_; rintro e w1 ⟨rfl, hb1⟩; have hz0 := bl_new (w.alloc (.cells #[.int .i64 x.nodes, .int .i64 x.now, .int .i64 x.next, .slice AW x.way.length cW, .slice AC x.cuts.length cC, .slice AT x.timers.length cT] 26)) (.cells #[.int .i64 0, .int .i64 0, .int .i64 0, .slice none 0 0, .slice none 0 0, .slice none 0 0] 26); simp only [World.size_alloc] at hz0; have hz := bl_below hz0 hb1; clear hz0; have a0 := bl_cell hz 0; have b0 := bl_frozen hz 0; have a1 := bl_cell hz 1; have b1 := bl_frozen hz 1; have a2 := bl_cell hz 2; have b2 := bl_frozen hz 2; have a3 := bl_cell hz 3; have b3 := bl_frozen hz 3; have a4 := bl_cell hz 4; have b4 := bl_frozen hz 4; have a5 := bl_cell hz 5; have b5 := bl_frozen hz 5; simp at a0 a1 a2 a3 a4 a5)
  exact ret_ct Tryz.results46 (w.heap.size + 1) 26 #[.int .i64 0, .int .i64 0, .int .i64 0, .slice none 0 0, .slice none 0 0, .slice none 0 0] _ rfl (bl_all6 hz _ _ _ _ _ _) Tryz.underlying26 rfl sizeNet rfl ⟨rfl, below_set6 (below_trans HB0.out hb1) (by omega) _ _ _ _ _ _⟩

section
variable {fid : FuncId} {lb : Array Value}
set_option maxHeartbeats 1000000 in
set_option maxRecDepth 100000 in
theorem changed_err (x : Nt) (k : Int) (v : Value) (w : World) (eg : ∀ args w, (callFunc fid args).run Tryz.prog w = .ok (.enter fid args) w) (hlw : x.way.length ≤ 10000000) (hlc : x.cuts.length ≤ 10000000) (hlt : x.timers.length ≤ 10000000) (hV : NetV w v x) (hx : checkB x = true) (hk : k ≠ 0)
    (hf : ∀ B g w1, w.heap.size ≤ B → Below w.heap.size w w1 → B ≤ w1.heap.size → St w1 B g x → Calls Tryz.prog fid (#[.pointer (some ⟨g, 0, none⟩)] ++ lb) w1 fun e w2 => e = .returned (.int .i64 k) ∧ Below w1.heap.size w1 w2) :
    Calls Tryz.prog 46 #[v, .func (.func fid) #[] lb] w fun e w' => e = .returned (.tuple #[zNetV, .int .i64 k]) ∧ Below w.heap.size w w' := by
  obtain ⟨AW, cW, AC, cC, AT, cT, rfl, hW, hC, hT⟩ := hV
  obtain ⟨wA, hwA⟩ : ∃ wA, wA = ((w.alloc (.cells #[.int .i64 x.nodes, .int .i64 x.now, .int .i64 x.next, .slice AW x.way.length cW, .slice AC x.cuts.length cC, .slice AT x.timers.length cT] 26)).alloc (.cells #[.int .i64 0, .int .i64 0, .int .i64 0, .slice none 0 0, .slice none 0 0, .slice none 0 0] 26)) := ⟨_, rfl⟩
  have hb0 : Below w.heap.size w wA := by rw [hwA]; exact below_alloc (below_alloc (Below.refl _ _) _) _
  have hs0 : wA.heap.size = w.heap.size + 2 := by rw [hwA]; simp
  have hzA : wA.heap[w.heap.size + 1]? = some (.cells #[.int .i64 0, .int .i64 0, .int .i64 0, .slice none 0 0, .slice none 0 0, .slice none 0 0] 26 (0, 0)) := by
    rw [hwA]
    have h := bl_new (w.alloc (.cells #[.int .i64 x.nodes, .int .i64 x.now, .int .i64 x.next, .slice AW x.way.length cW, .slice AC x.cuts.length cC, .slice AT x.timers.length cT] 26)) (.cells #[.int .i64 0, .int .i64 0, .int .i64 0, .slice none 0 0, .slice none 0 0, .slice none 0 0] 26)
    simp only [World.size_alloc] at h
    exact h
  have HB0 := Lib.hid hb0
  have HS0 := Lib.hid hs0
  have HZA := Lib.hid hzA
  have HX := Lib.hid hx
  have HF := Lib.hid hf
  have HWA := Lib.hid hwA
  have HW := Lib.hid (hW.below hb0)
  have HC := Lib.hid (hC.below hb0)
  have HT := Lib.hid (hT.below hb0)
  clear hb0 hs0 hzA hx hf hwA hW hC hT
  go_enter Tryz.func46, Tryz.ntmps46
  go_wp2_with (first
    | (go_at_call 36; rw [← HWA.out]; refine (changing_ok x AW AC AT cW cC cT wA (by omega) (by omega) (by omega) HW.out HC.out HT.out HX.out).mono ?_; rintro e w1 ⟨g, rfl, hS1, hb1⟩)
    | (go_at_fn fid; refine (HF.out wA.heap.size g w1 (by have := HS0.out; omega) (HB0.out.trans (hb1.mono HB0.out.size)) hb1.size hS1).mono ?_; rintro e w2 ⟨rfl, hb2⟩)
    | (go_at_call 38; refine (done_bad _ k _ hk).mono ?_; rintro e w3 ⟨rfl, hb3⟩; simp only [zNetV]; have hB3 : Below wA.heap.size wA w3 := below_trans (below_trans hb1 hb2) hb3; have hz := bl_below HZA.out hB3; have a0 := bl_cell hz 0; have b0 := bl_frozen hz 0; have a1 := bl_cell hz 1; have b1 := bl_frozen hz 1; have a2 := bl_cell hz 2; have b2 := bl_frozen hz 2; have a3 := bl_cell hz 3; have b3 := bl_frozen hz 3; have a4 := bl_cell hz 4; have b4 := bl_frozen hz 4; have a5 := bl_cell hz 5; have b5 := bl_frozen hz 5; simp at a0 a1 a2 a3 a4 a5))
  exact ret_ct Tryz.results46 (w.heap.size + 1) 26 #[.int .i64 0, .int .i64 0, .int .i64 0, .slice none 0 0, .slice none 0 0, .slice none 0 0] _ rfl (bl_all6 hz _ _ _ _ _ _) Tryz.underlying26 rfl sizeNet rfl ⟨rfl, below_set6 (below_trans HB0.out hB3) (by omega) _ _ _ _ _ _⟩

set_option maxHeartbeats 1000000 in
set_option maxRecDepth 100000 in
theorem changed_ok (x y : Nt) (v : Value) (w : World) (eg : ∀ args w, (callFunc fid args).run Tryz.prog w = .ok (.enter fid args) w) (hlw : x.way.length ≤ 10000000) (hlc : x.cuts.length ≤ 10000000) (hlt : x.timers.length ≤ 10000000) (hV : NetV w v x) (hx : checkB x = true)
    (hf : ∀ B g w1, w.heap.size ≤ B → Below w.heap.size w w1 → B ≤ w1.heap.size → St w1 B g x → Calls Tryz.prog fid (#[.pointer (some ⟨g, 0, none⟩)] ++ lb) w1 fun e w2 => e = .returned (.int .i64 0) ∧ St w2 B g y ∧ Below B w1 w2) :
    Calls Tryz.prog 46 #[v, .func (.func fid) #[] lb] w fun e w' => ∃ v', e = .returned (.tuple #[v', .int .i64 0]) ∧ NetO w' w.heap.size v' y ∧ Below w.heap.size w w' := by
  obtain ⟨AW, cW, AC, cC, AT, cT, rfl, hW, hC, hT⟩ := hV
  obtain ⟨wA, hwA⟩ : ∃ wA, wA = ((w.alloc (.cells #[.int .i64 x.nodes, .int .i64 x.now, .int .i64 x.next, .slice AW x.way.length cW, .slice AC x.cuts.length cC, .slice AT x.timers.length cT] 26)).alloc (.cells #[.int .i64 0, .int .i64 0, .int .i64 0, .slice none 0 0, .slice none 0 0, .slice none 0 0] 26)) := ⟨_, rfl⟩
  have hb0 : Below w.heap.size w wA := by rw [hwA]; exact below_alloc (below_alloc (Below.refl _ _) _) _
  have hs0 : wA.heap.size = w.heap.size + 2 := by rw [hwA]; simp
  have hzA : wA.heap[w.heap.size + 1]? = some (.cells #[.int .i64 0, .int .i64 0, .int .i64 0, .slice none 0 0, .slice none 0 0, .slice none 0 0] 26 (0, 0)) := by
    rw [hwA]
    have h := bl_new (w.alloc (.cells #[.int .i64 x.nodes, .int .i64 x.now, .int .i64 x.next, .slice AW x.way.length cW, .slice AC x.cuts.length cC, .slice AT x.timers.length cT] 26)) (.cells #[.int .i64 0, .int .i64 0, .int .i64 0, .slice none 0 0, .slice none 0 0, .slice none 0 0] 26)
    simp only [World.size_alloc] at h
    exact h
  have HB0 := Lib.hid hb0
  have HS0 := Lib.hid hs0
  have HZA := Lib.hid hzA
  have HX := Lib.hid hx
  have HF := Lib.hid hf
  have HWA := Lib.hid hwA
  have HW := Lib.hid (hW.below hb0)
  have HC := Lib.hid (hC.below hb0)
  have HT := Lib.hid (hT.below hb0)
  clear hb0 hs0 hzA hx hf hwA hW hC hT
  go_enter Tryz.func46, Tryz.ntmps46
  go_wp2_with (first
    | (go_at_call 36; rw [← HWA.out]; refine (changing_ok x AW AC AT cW cC cT wA (by omega) (by omega) (by omega) HW.out HC.out HT.out HX.out).mono ?_; rintro e w1 ⟨g, rfl, hS1, hb1⟩)
    | (go_at_fn fid; refine (HF.out wA.heap.size g w1 (by have := HS0.out; omega) (HB0.out.trans (hb1.mono HB0.out.size)) hb1.size hS1).mono ?_; rintro e w2 ⟨rfl, hS2, hb2⟩)
    | (go_at_call 38; refine (done_ok wA.heap.size g y _ hS2).mono ?_; rintro e w3 ⟨v3, rfl, hV3, hb3⟩; obtain ⟨AW3, cW3, AC3, cC3, AT3, cT3, rfl, rW3, rC3, rT3⟩ := hV3; have HV3 : Hid (NetO w3 wA.heap.size _ y) := ⟨AW3, cW3, AC3, cC3, AT3, cT3, rfl, rW3, rC3, rT3⟩; clear rW3 rC3 rT3; have hB3 : Below wA.heap.size wA w3 := (hb1.trans hb2).trans (hb3.mono (Nat.le_trans hb1.size hb2.size)); have hz := bl_below HZA.out hB3; have a0 := bl_cell hz 0; have b0 := bl_frozen hz 0; have a1 := bl_cell hz 1; have b1 := bl_frozen hz 1; have a2 := bl_cell hz 2; have b2 := bl_frozen hz 2; have a3 := bl_cell hz 3; have b3 := bl_frozen hz 3; have a4 := bl_cell hz 4; have b4 := bl_frozen hz 4; have a5 := bl_cell hz 5; have b5 := bl_frozen hz 5; simp at a0 a1 a2 a3 a4 a5))
  have hBw : Below w.heap.size w w3 := HB0.out.trans (hB3.mono HB0.out.size)
  have hg4 := bl_all6 hz (.int .i64 y.nodes) (.int .i64 y.now) (.int .i64 y.next) (.slice AW3 y.way.length cW3) (.slice AC3 y.cuts.length cC3) (.slice AT3 y.timers.length cT3)
  refine ret_ct Tryz.results46 (w.heap.size + 1) 26 #[.int .i64 y.nodes, .int .i64 y.now, .int .i64 y.next, .slice AW3 y.way.length cW3, .slice AC3 y.cuts.length cC3, .slice AT3 y.timers.length cT3] _ rfl hg4 Tryz.underlying26 rfl sizeNet rfl ⟨_, rfl, ?_, below_set6 hBw (by omega) _ _ _ _ _ _⟩
  have hlb : w.heap.size + 1 < wA.heap.size := by have := HS0.out; omega
  refine NetO.weaken ((((((HV3.out.far (p := ⟨w.heap.size + 1, 0, none⟩) hlb _).far (p := ⟨w.heap.size + 1, 1, none⟩) hlb _).far (p := ⟨w.heap.size + 1, 2, none⟩) hlb _).far (p := ⟨w.heap.size + 1, 3, none⟩) hlb _).far (p := ⟨w.heap.size + 1, 4, none⟩) hlb _).far (p := ⟨w.heap.size + 1, 5, none⟩) hlb _) (by have := HS0.out; omega)
end
end Go.Proofs.YthlbmcfliejdiaaGreat
end

section
set_option linter.unusedVariables false
set_option linter.unusedSimpArgs false
namespace Go.Proofs.YthlbmcfliejdiaaGreat
open Go.RowKit

set_option maxHeartbeats 1000000 in
set_option maxRecDepth 100000 in
theorem Cut_form (x : Nt) (a b : Int) (v : Value) (w : World) (hlw : x.way.length ≤ 10000000) (hlc : x.cuts.length ≤ 10000000) (hlt : x.timers.length ≤ 10000000) (hV : NetV w v x) (hx : checkB x = false) :
    Calls Tryz.prog 32 #[v, .int .i64 a, .int .i64 b] w fun e w' => e = .returned (.tuple #[zNetV, .int .i64 2]) ∧ Below w.heap.size w w' := by
  obtain ⟨AW, cW, AC, cC, AT, cT, rfl, hW, hC, hT⟩ := hV
  obtain ⟨wA, hwA⟩ : ∃ wA, wA = ((((w.alloc (.cells #[.int .i64 x.nodes, .int .i64 x.now, .int .i64 x.next, .slice AW x.way.length cW, .slice AC x.cuts.length cC, .slice AT x.timers.length cT] 26)).alloc (.cells #[.int .i64 a] 3)).alloc (.cells #[.int .i64 b] 3)).alloc (.cells #[.int .i64 0, .int .i64 0, .int .i64 0, .slice none 0 0, .slice none 0 0, .slice none 0 0] 26)) := ⟨_, rfl⟩
  have hb0 : Below w.heap.size w wA := by rw [hwA]; exact below_alloc (below_alloc (below_alloc (below_alloc (Below.refl _ _) _) _) _) _
  have hzA : wA.heap[w.heap.size + 1 + 1 + 1]? = some (.cells #[.int .i64 0, .int .i64 0, .int .i64 0, .slice none 0 0, .slice none 0 0, .slice none 0 0] 26 (0, 0)) := by
    rw [hwA]
    have h := bl_new (((w.alloc (.cells #[.int .i64 x.nodes, .int .i64 x.now, .int .i64 x.next, .slice AW x.way.length cW, .slice AC x.cuts.length cC, .slice AT x.timers.length cT] 26)).alloc (.cells #[.int .i64 a] 3)).alloc (.cells #[.int .i64 b] 3)) (.cells #[.int .i64 0, .int .i64 0, .int .i64 0, .slice none 0 0, .slice none 0 0, .slice none 0 0] 26)
    simp only [World.size_alloc] at h
    exact h
  have HB0 := Lib.hid hb0
  have HZA := Lib.hid hzA
  have HX := Lib.hid hx
  have HWA := Lib.hid hwA
  have HV : Hid (NetV wA (.agg #[.int .i64 x.nodes, .int .i64 x.now, .int .i64 x.next, .slice AW x.way.length cW, .slice AC x.cuts.length cC, .slice AT x.timers.length cT]) x) := ⟨AW, cW, AC, cC, AT, cT, rfl, hW.below hb0, hC.below hb0, hT.below hb0⟩
  clear hb0 hzA hx hwA hW hC hT
  go_enter Tryz.func32, Tryz.ntmps32
  go_wp2_with (go_at_call 46; rw [← HWA.out]; refine (changed_bad x _ _ wA hlw hlc hlt HV.out HX.out).mono ?_; rintro e w1 ⟨rfl, hb1⟩; simp only [zNetV]; have hz := bl_below HZA.out hb1; have a0 := bl_cell hz 0; have b0 := bl_frozen hz 0; have a1 := bl_cell hz 1; have b1 := bl_frozen hz 1; have a2 := bl_cell hz 2; have b2 := bl_frozen hz 2; have a3 := bl_cell hz 3; have b3 := bl_frozen hz 3; have a4 := bl_cell hz 4; have b4 := bl_frozen hz 4; have a5 := bl_cell hz 5; have b5 := bl_frozen hz 5; simp at a0 a1 a2 a3 a4 a5)
  exact ret_ct Tryz.results32 (w.heap.size + 1 + 1 + 1) 26 #[.int .i64 0, .int .i64 0, .int .i64 0, .slice none 0 0, .slice none 0 0, .slice none 0 0] _ rfl (bl_all6 hz _ _ _ _ _ _) Tryz.underlying26 rfl sizeNet rfl ⟨rfl, below_set6 (below_trans HB0.out hb1) (by omega) _ _ _ _ _ _⟩

set_option maxHeartbeats 1000000 in
set_option maxRecDepth 100000 in
theorem Cut_err (x : Nt) (a b k : Int) (v : Value) (w : World) (hlw : x.way.length ≤ 10000000) (hlc : x.cuts.length ≤ 10000000) (hlt : x.timers.length ≤ 10000000) (hV : NetV w v x) (hx : checkB x = true) (hk : k ≠ 0)
    (hf : ∀ B g p0 p1 w1, St w1 B g x → w1.cell? ⟨p0, 0, none⟩ = some (.int .i64 a) → w1.cell? ⟨p1, 0, none⟩ = some (.int .i64 b) → Calls Tryz.prog 62 #[.pointer (some ⟨g, 0, none⟩), .pointer (some ⟨p0, 0, none⟩), .pointer (some ⟨p1, 0, none⟩)] w1 fun e w2 => e = .returned (.int .i64 k) ∧ Below w1.heap.size w1 w2) :
    Calls Tryz.prog 32 #[v, .int .i64 a, .int .i64 b] w fun e w' => e = .returned (.tuple #[zNetV, .int .i64 k]) ∧ Below w.heap.size w w' := by
  obtain ⟨AW, cW, AC, cC, AT, cT, rfl, hW, hC, hT⟩ := hV
  obtain ⟨wA, hwA⟩ : ∃ wA, wA = ((((w.alloc (.cells #[.int .i64 x.nodes, .int .i64 x.now, .int .i64 x.next, .slice AW x.way.length cW, .slice AC x.cuts.length cC, .slice AT x.timers.length cT] 26)).alloc (.cells #[.int .i64 a] 3)).alloc (.cells #[.int .i64 b] 3)).alloc (.cells #[.int .i64 0, .int .i64 0, .int .i64 0, .slice none 0 0, .slice none 0 0, .slice none 0 0] 26)) := ⟨_, rfl⟩
  have hb0 : Below w.heap.size w wA := by rw [hwA]; exact below_alloc (below_alloc (below_alloc (below_alloc (Below.refl _ _) _) _) _) _
  have hzA : wA.heap[w.heap.size + 1 + 1 + 1]? = some (.cells #[.int .i64 0, .int .i64 0, .int .i64 0, .slice none 0 0, .slice none 0 0, .slice none 0 0] 26 (0, 0)) := by
    rw [hwA]
    have h := bl_new (((w.alloc (.cells #[.int .i64 x.nodes, .int .i64 x.now, .int .i64 x.next, .slice AW x.way.length cW, .slice AC x.cuts.length cC, .slice AT x.timers.length cT] 26)).alloc (.cells #[.int .i64 a] 3)).alloc (.cells #[.int .i64 b] 3)) (.cells #[.int .i64 0, .int .i64 0, .int .i64 0, .slice none 0 0, .slice none 0 0, .slice none 0 0] 26)
    simp only [World.size_alloc] at h
    exact h
  have hc0 : wA.cell? ⟨w.heap.size + 1, 0, none⟩ = some (.int .i64 a) := by rw [hwA]; go_simp
  have hc1 : wA.cell? ⟨w.heap.size + 1 + 1, 0, none⟩ = some (.int .i64 b) := by rw [hwA]; go_simp
  have HC0 := Lib.hid hc0
  have HC1 := Lib.hid hc1
  have HF := Lib.hid hf
  clear hf hc0 hc1
  have HB0 := Lib.hid hb0
  have HZA := Lib.hid hzA
  have HX := Lib.hid hx
  have HWA := Lib.hid hwA
  have HV : Hid (NetV wA (.agg #[.int .i64 x.nodes, .int .i64 x.now, .int .i64 x.next, .slice AW x.way.length cW, .slice AC x.cuts.length cC, .slice AT x.timers.length cT]) x) := ⟨AW, cW, AC, cC, AT, cT, rfl, hW.below hb0, hC.below hb0, hT.below hb0⟩
  clear hb0 hzA hx hwA hW hC hT
  go_enter Tryz.func32, Tryz.ntmps32
  go_wp2_with (go_at_call 46; rw [← HWA.out]; refine (changed_err (fid := 62) (lb := #[.pointer (some ⟨w.heap.size + 1, 0, none⟩), .pointer (some ⟨w.heap.size + 1 + 1, 0, none⟩)]) x k _ wA (enters_of Tryz.func62 (by kernel_rfl) rfl) hlw hlc hlt HV.out HX.out hk (fun B g w1 hB hbw hBs hSt => HF.out B g _ _ w1 hSt (cell_below hbw HC0.out) (cell_below hbw HC1.out))).mono ?_; rintro e w1 ⟨rfl, hb1⟩; simp only [zNetV]; have hz := bl_below HZA.out hb1; have a0 := bl_cell hz 0; have b0 := bl_frozen hz 0; have a1 := bl_cell hz 1; have b1 := bl_frozen hz 1; have a2 := bl_cell hz 2; have b2 := bl_frozen hz 2; have a3 := bl_cell hz 3; have b3 := bl_frozen hz 3; have a4 := bl_cell hz 4; have b4 := bl_frozen hz 4; have a5 := bl_cell hz 5; have b5 := bl_frozen hz 5; simp at a0 a1 a2 a3 a4 a5)
  exact ret_ct Tryz.results32 (w.heap.size + 1 + 1 + 1) 26 #[.int .i64 0, .int .i64 0, .int .i64 0, .slice none 0 0, .slice none 0 0, .slice none 0 0] _ rfl (bl_all6 hz _ _ _ _ _ _) Tryz.underlying26 rfl sizeNet rfl ⟨rfl, below_set6 (below_trans HB0.out hb1) (by omega) _ _ _ _ _ _⟩

set_option maxHeartbeats 1000000 in
set_option maxRecDepth 100000 in
theorem Cut_done (x y : Nt) (a b : Int) (v : Value) (w : World) (hlw : x.way.length ≤ 10000000) (hlc : x.cuts.length ≤ 10000000) (hlt : x.timers.length ≤ 10000000) (hV : NetV w v x) (hx : checkB x = true)
    (hf : ∀ B g p0 p1 w1, B ≤ w1.heap.size → St w1 B g x → w1.cell? ⟨p0, 0, none⟩ = some (.int .i64 a) → w1.cell? ⟨p1, 0, none⟩ = some (.int .i64 b) → Calls Tryz.prog 62 #[.pointer (some ⟨g, 0, none⟩), .pointer (some ⟨p0, 0, none⟩), .pointer (some ⟨p1, 0, none⟩)] w1 fun e w2 => e = .returned (.int .i64 0) ∧ St w2 B g y ∧ Below B w1 w2) :
    Calls Tryz.prog 32 #[v, .int .i64 a, .int .i64 b] w fun e w' => ∃ v', e = .returned (.tuple #[v', .int .i64 0]) ∧ NetO w' w.heap.size v' y ∧ Below w.heap.size w w' := by
  obtain ⟨AW, cW, AC, cC, AT, cT, rfl, hW, hC, hT⟩ := hV
  obtain ⟨wA, hwA⟩ : ∃ wA, wA = ((((w.alloc (.cells #[.int .i64 x.nodes, .int .i64 x.now, .int .i64 x.next, .slice AW x.way.length cW, .slice AC x.cuts.length cC, .slice AT x.timers.length cT] 26)).alloc (.cells #[.int .i64 a] 3)).alloc (.cells #[.int .i64 b] 3)).alloc (.cells #[.int .i64 0, .int .i64 0, .int .i64 0, .slice none 0 0, .slice none 0 0, .slice none 0 0] 26)) := ⟨_, rfl⟩
  have hb0 : Below w.heap.size w wA := by rw [hwA]; exact below_alloc (below_alloc (below_alloc (below_alloc (Below.refl _ _) _) _) _) _
  have hzA : wA.heap[w.heap.size + 1 + 1 + 1]? = some (.cells #[.int .i64 0, .int .i64 0, .int .i64 0, .slice none 0 0, .slice none 0 0, .slice none 0 0] 26 (0, 0)) := by
    rw [hwA]
    have h := bl_new (((w.alloc (.cells #[.int .i64 x.nodes, .int .i64 x.now, .int .i64 x.next, .slice AW x.way.length cW, .slice AC x.cuts.length cC, .slice AT x.timers.length cT] 26)).alloc (.cells #[.int .i64 a] 3)).alloc (.cells #[.int .i64 b] 3)) (.cells #[.int .i64 0, .int .i64 0, .int .i64 0, .slice none 0 0, .slice none 0 0, .slice none 0 0] 26)
    simp only [World.size_alloc] at h
    exact h
  have hc0 : wA.cell? ⟨w.heap.size + 1, 0, none⟩ = some (.int .i64 a) := by rw [hwA]; go_simp
  have hc1 : wA.cell? ⟨w.heap.size + 1 + 1, 0, none⟩ = some (.int .i64 b) := by rw [hwA]; go_simp
  have HC0 := Lib.hid hc0
  have HC1 := Lib.hid hc1
  have HF := Lib.hid hf
  clear hf hc0 hc1
  have HB0 := Lib.hid hb0
  have HZA := Lib.hid hzA
  have HX := Lib.hid hx
  have HWA := Lib.hid hwA
  have HV : Hid (NetV wA (.agg #[.int .i64 x.nodes, .int .i64 x.now, .int .i64 x.next, .slice AW x.way.length cW, .slice AC x.cuts.length cC, .slice AT x.timers.length cT]) x) := ⟨AW, cW, AC, cC, AT, cT, rfl, hW.below hb0, hC.below hb0, hT.below hb0⟩
  clear hb0 hzA hx hwA hW hC hT
  go_enter Tryz.func32, Tryz.ntmps32
  go_wp2_with (go_at_call 46; rw [← HWA.out]; refine (changed_ok (fid := 62) (lb := #[.pointer (some ⟨w.heap.size + 1, 0, none⟩), .pointer (some ⟨w.heap.size + 1 + 1, 0, none⟩)]) x y _ wA (enters_of Tryz.func62 (by kernel_rfl) rfl) hlw hlc hlt HV.out HX.out (fun B g w1 hB hbw hBs hSt => HF.out B g _ _ w1 hBs hSt (cell_below hbw HC0.out) (cell_below hbw HC1.out))).mono ?_; rintro e w1 ⟨v3, rfl, hV3, hb1⟩; obtain ⟨AW3, cW3, AC3, cC3, AT3, cT3, rfl, rW3, rC3, rT3⟩ := hV3; have HV3 : Hid (NetO w1 wA.heap.size _ y) := ⟨AW3, cW3, AC3, cC3, AT3, cT3, rfl, rW3, rC3, rT3⟩; clear rW3 rC3 rT3; have hz := bl_below HZA.out hb1; have a0 := bl_cell hz 0; have b0 := bl_frozen hz 0; have a1 := bl_cell hz 1; have b1 := bl_frozen hz 1; have a2 := bl_cell hz 2; have b2 := bl_frozen hz 2; have a3 := bl_cell hz 3; have b3 := bl_frozen hz 3; have a4 := bl_cell hz 4; have b4 := bl_frozen hz 4; have a5 := bl_cell hz 5; have b5 := bl_frozen hz 5; simp at a0 a1 a2 a3 a4 a5)
  have hsz : w.heap.size + 1 + 1 + 1 < wA.heap.size := bl_lt HZA.out
  have hg4 := bl_all6 hz (.int .i64 y.nodes) (.int .i64 y.now) (.int .i64 y.next) (.slice AW3 y.way.length cW3) (.slice AC3 y.cuts.length cC3) (.slice AT3 y.timers.length cT3)
  refine ret_ct Tryz.results32 (w.heap.size + 1 + 1 + 1) 26 #[.int .i64 y.nodes, .int .i64 y.now, .int .i64 y.next, .slice AW3 y.way.length cW3, .slice AC3 y.cuts.length cC3, .slice AT3 y.timers.length cT3] _ rfl hg4 Tryz.underlying26 rfl sizeNet rfl ⟨_, rfl, ?_, below_set6 (below_trans HB0.out hb1) (by omega) _ _ _ _ _ _⟩
  exact NetO.weaken ((((((HV3.out.far (p := ⟨w.heap.size + 1 + 1 + 1, 0, none⟩) hsz _).far (p := ⟨w.heap.size + 1 + 1 + 1, 1, none⟩) hsz _).far (p := ⟨w.heap.size + 1 + 1 + 1, 2, none⟩) hsz _).far (p := ⟨w.heap.size + 1 + 1 + 1, 3, none⟩) hsz _).far (p := ⟨w.heap.size + 1 + 1 + 1, 4, none⟩) hsz _).far (p := ⟨w.heap.size + 1 + 1 + 1, 5, none⟩) hsz _) (by omega)
end Go.Proofs.YthlbmcfliejdiaaGreat
end

section
set_option linter.unusedVariables false
set_option linter.unusedSimpArgs false
namespace Go.Proofs.YthlbmcfliejdiaaGreat
open Go.RowKit

end Go.Proofs.YthlbmcfliejdiaaGreat
end

section
set_option linter.unusedVariables false
set_option linter.unusedSimpArgs false
namespace Go.Proofs.YthlbmcfliejdiaaGreat
open Go.RowKit

end Go.Proofs.YthlbmcfliejdiaaGreat
end

section
set_option linter.unusedVariables false
set_option linter.unusedSimpArgs false
namespace Go.Proofs.YthlbmcfliejdiaaGreat
open Go.RowKit

set_option maxHeartbeats 1000000 in
set_option maxRecDepth 100000 in
theorem Set_form (x : Nt) (a b c : Int) (v : Value) (w : World) (hlw : x.way.length ≤ 10000000) (hlc : x.cuts.length ≤ 10000000) (hlt : x.timers.length ≤ 10000000) (hV : NetV w v x) (hx : checkB x = false) :
    Calls Tryz.prog 34 #[v, .int .i64 a, .int .i64 b, .int .i64 c] w fun e w' => e = .returned (.tuple #[zNetV, .int .i64 2]) ∧ Below w.heap.size w w' := by
  obtain ⟨AW, cW, AC, cC, AT, cT, rfl, hW, hC, hT⟩ := hV
  obtain ⟨wA, hwA⟩ : ∃ wA, wA = (((((w.alloc (.cells #[.int .i64 x.nodes, .int .i64 x.now, .int .i64 x.next, .slice AW x.way.length cW, .slice AC x.cuts.length cC, .slice AT x.timers.length cT] 26)).alloc (.cells #[.int .i64 a] 3)).alloc (.cells #[.int .i64 b] 3)).alloc (.cells #[.int .i64 c] 3)).alloc (.cells #[.int .i64 0, .int .i64 0, .int .i64 0, .slice none 0 0, .slice none 0 0, .slice none 0 0] 26)) := ⟨_, rfl⟩
  have hb0 : Below w.heap.size w wA := by rw [hwA]; exact below_alloc (below_alloc (below_alloc (below_alloc (below_alloc (Below.refl _ _) _) _) _) _) _
  have hzA : wA.heap[w.heap.size + 1 + 1 + 1 + 1]? = some (.cells #[.int .i64 0, .int .i64 0, .int .i64 0, .slice none 0 0, .slice none 0 0, .slice none 0 0] 26 (0, 0)) := by
    rw [hwA]
    have h := bl_new ((((w.alloc (.cells #[.int .i64 x.nodes, .int .i64 x.now, .int .i64 x.next, .slice AW x.way.length cW, .slice AC x.cuts.length cC, .slice AT x.timers.length cT] 26)).alloc (.cells #[.int .i64 a] 3)).alloc (.cells #[.int .i64 b] 3)).alloc (.cells #[.int .i64 c] 3)) (.cells #[.int .i64 0, .int .i64 0, .int .i64 0, .slice none 0 0, .slice none 0 0, .slice none 0 0] 26)
    simp only [World.size_alloc] at h
    exact h
  have HB0 := Lib.hid hb0
  have HZA := Lib.hid hzA
  have HX := Lib.hid hx
  have HWA := Lib.hid hwA
  have HV : Hid (NetV wA (.agg #[.int .i64 x.nodes, .int .i64 x.now, .int .i64 x.next, .slice AW x.way.length cW, .slice AC x.cuts.length cC, .slice AT x.timers.length cT]) x) := ⟨AW, cW, AC, cC, AT, cT, rfl, hW.below hb0, hC.below hb0, hT.below hb0⟩
  clear hb0 hzA hx hwA hW hC hT
  go_enter Tryz.func34, Tryz.ntmps34
  go_wp2_with (go_at_call 46; rw [← HWA.out]; refine (changed_bad x _ _ wA hlw hlc hlt HV.out HX.out).mono ?_; rintro e w1 ⟨rfl, hb1⟩; simp only [zNetV]; have hz := bl_below HZA.out hb1; have a0 := bl_cell hz 0; have b0 := bl_frozen hz 0; have a1 := bl_cell hz 1; have b1 := bl_frozen hz 1; have a2 := bl_cell hz 2; have b2 := bl_frozen hz 2; have a3 := bl_cell hz 3; have b3 := bl_frozen hz 3; have a4 := bl_cell hz 4; have b4 := bl_frozen hz 4; have a5 := bl_cell hz 5; have b5 := bl_frozen hz 5; simp at a0 a1 a2 a3 a4 a5)
  exact ret_ct Tryz.results34 (w.heap.size + 1 + 1 + 1 + 1) 26 #[.int .i64 0, .int .i64 0, .int .i64 0, .slice none 0 0, .slice none 0 0, .slice none 0 0] _ rfl (bl_all6 hz _ _ _ _ _ _) Tryz.underlying26 rfl sizeNet rfl ⟨rfl, below_set6 (below_trans HB0.out hb1) (by omega) _ _ _ _ _ _⟩

set_option maxHeartbeats 1000000 in
set_option maxRecDepth 100000 in
theorem Set_err (x : Nt) (a b c k : Int) (v : Value) (w : World) (hlw : x.way.length ≤ 10000000) (hlc : x.cuts.length ≤ 10000000) (hlt : x.timers.length ≤ 10000000) (hV : NetV w v x) (hx : checkB x = true) (hk : k ≠ 0)
    (hf : ∀ B g p0 p1 p2 w1, St w1 B g x → w1.cell? ⟨p0, 0, none⟩ = some (.int .i64 a) → w1.cell? ⟨p1, 0, none⟩ = some (.int .i64 b) → w1.cell? ⟨p2, 0, none⟩ = some (.int .i64 c) → Calls Tryz.prog 65 #[.pointer (some ⟨g, 0, none⟩), .pointer (some ⟨p0, 0, none⟩), .pointer (some ⟨p1, 0, none⟩), .pointer (some ⟨p2, 0, none⟩)] w1 fun e w2 => e = .returned (.int .i64 k) ∧ Below w1.heap.size w1 w2) :
    Calls Tryz.prog 34 #[v, .int .i64 a, .int .i64 b, .int .i64 c] w fun e w' => e = .returned (.tuple #[zNetV, .int .i64 k]) ∧ Below w.heap.size w w' := by
  obtain ⟨AW, cW, AC, cC, AT, cT, rfl, hW, hC, hT⟩ := hV
  obtain ⟨wA, hwA⟩ : ∃ wA, wA = (((((w.alloc (.cells #[.int .i64 x.nodes, .int .i64 x.now, .int .i64 x.next, .slice AW x.way.length cW, .slice AC x.cuts.length cC, .slice AT x.timers.length cT] 26)).alloc (.cells #[.int .i64 a] 3)).alloc (.cells #[.int .i64 b] 3)).alloc (.cells #[.int .i64 c] 3)).alloc (.cells #[.int .i64 0, .int .i64 0, .int .i64 0, .slice none 0 0, .slice none 0 0, .slice none 0 0] 26)) := ⟨_, rfl⟩
  have hb0 : Below w.heap.size w wA := by rw [hwA]; exact below_alloc (below_alloc (below_alloc (below_alloc (below_alloc (Below.refl _ _) _) _) _) _) _
  have hzA : wA.heap[w.heap.size + 1 + 1 + 1 + 1]? = some (.cells #[.int .i64 0, .int .i64 0, .int .i64 0, .slice none 0 0, .slice none 0 0, .slice none 0 0] 26 (0, 0)) := by
    rw [hwA]
    have h := bl_new ((((w.alloc (.cells #[.int .i64 x.nodes, .int .i64 x.now, .int .i64 x.next, .slice AW x.way.length cW, .slice AC x.cuts.length cC, .slice AT x.timers.length cT] 26)).alloc (.cells #[.int .i64 a] 3)).alloc (.cells #[.int .i64 b] 3)).alloc (.cells #[.int .i64 c] 3)) (.cells #[.int .i64 0, .int .i64 0, .int .i64 0, .slice none 0 0, .slice none 0 0, .slice none 0 0] 26)
    simp only [World.size_alloc] at h
    exact h
  have hc0 : wA.cell? ⟨w.heap.size + 1, 0, none⟩ = some (.int .i64 a) := by rw [hwA]; go_simp
  have hc1 : wA.cell? ⟨w.heap.size + 1 + 1, 0, none⟩ = some (.int .i64 b) := by rw [hwA]; go_simp
  have hc2 : wA.cell? ⟨w.heap.size + 1 + 1 + 1, 0, none⟩ = some (.int .i64 c) := by rw [hwA]; go_simp
  have HC0 := Lib.hid hc0
  have HC1 := Lib.hid hc1
  have HC2 := Lib.hid hc2
  have HF := Lib.hid hf
  clear hf hc0 hc1 hc2
  have HB0 := Lib.hid hb0
  have HZA := Lib.hid hzA
  have HX := Lib.hid hx
  have HWA := Lib.hid hwA
  have HV : Hid (NetV wA (.agg #[.int .i64 x.nodes, .int .i64 x.now, .int .i64 x.next, .slice AW x.way.length cW, .slice AC x.cuts.length cC, .slice AT x.timers.length cT]) x) := ⟨AW, cW, AC, cC, AT, cT, rfl, hW.below hb0, hC.below hb0, hT.below hb0⟩
  clear hb0 hzA hx hwA hW hC hT
  go_enter Tryz.func34, Tryz.ntmps34
  go_wp2_with (go_at_call 46; rw [← HWA.out]; refine (changed_err (fid := 65) (lb := #[.pointer (some ⟨w.heap.size + 1, 0, none⟩), .pointer (some ⟨w.heap.size + 1 + 1, 0, none⟩), .pointer (some ⟨w.heap.size + 1 + 1 + 1, 0, none⟩)]) x k _ wA (enters_of Tryz.func65 (by kernel_rfl) rfl) hlw hlc hlt HV.out HX.out hk (fun B g w1 hB hbw hBs hSt => HF.out B g _ _ _ w1 hSt (cell_below hbw HC0.out) (cell_below hbw HC1.out) (cell_below hbw HC2.out))).mono ?_; rintro e w1 ⟨rfl, hb1⟩; simp only [zNetV]; have hz := bl_below HZA.out hb1; have a0 := bl_cell hz 0; have b0 := bl_frozen hz 0; have a1 := bl_cell hz 1; have b1 := bl_frozen hz 1; have a2 := bl_cell hz 2; have b2 := bl_frozen hz 2; have a3 := bl_cell hz 3; have b3 := bl_frozen hz 3; have a4 := bl_cell hz 4; have b4 := bl_frozen hz 4; have a5 := bl_cell hz 5; have b5 := bl_frozen hz 5; simp at a0 a1 a2 a3 a4 a5)
  exact ret_ct Tryz.results34 (w.heap.size + 1 + 1 + 1 + 1) 26 #[.int .i64 0, .int .i64 0, .int .i64 0, .slice none 0 0, .slice none 0 0, .slice none 0 0] _ rfl (bl_all6 hz _ _ _ _ _ _) Tryz.underlying26 rfl sizeNet rfl ⟨rfl, below_set6 (below_trans HB0.out hb1) (by omega) _ _ _ _ _ _⟩

set_option maxHeartbeats 1000000 in
set_option maxRecDepth 100000 in
theorem Set_done (x y : Nt) (a b c : Int) (v : Value) (w : World) (hlw : x.way.length ≤ 10000000) (hlc : x.cuts.length ≤ 10000000) (hlt : x.timers.length ≤ 10000000) (hV : NetV w v x) (hx : checkB x = true)
    (hf : ∀ B g p0 p1 p2 w1, B ≤ w1.heap.size → St w1 B g x → w1.cell? ⟨p0, 0, none⟩ = some (.int .i64 a) → w1.cell? ⟨p1, 0, none⟩ = some (.int .i64 b) → w1.cell? ⟨p2, 0, none⟩ = some (.int .i64 c) → Calls Tryz.prog 65 #[.pointer (some ⟨g, 0, none⟩), .pointer (some ⟨p0, 0, none⟩), .pointer (some ⟨p1, 0, none⟩), .pointer (some ⟨p2, 0, none⟩)] w1 fun e w2 => e = .returned (.int .i64 0) ∧ St w2 B g y ∧ Below B w1 w2) :
    Calls Tryz.prog 34 #[v, .int .i64 a, .int .i64 b, .int .i64 c] w fun e w' => ∃ v', e = .returned (.tuple #[v', .int .i64 0]) ∧ NetO w' w.heap.size v' y ∧ Below w.heap.size w w' := by
  obtain ⟨AW, cW, AC, cC, AT, cT, rfl, hW, hC, hT⟩ := hV
  obtain ⟨wA, hwA⟩ : ∃ wA, wA = (((((w.alloc (.cells #[.int .i64 x.nodes, .int .i64 x.now, .int .i64 x.next, .slice AW x.way.length cW, .slice AC x.cuts.length cC, .slice AT x.timers.length cT] 26)).alloc (.cells #[.int .i64 a] 3)).alloc (.cells #[.int .i64 b] 3)).alloc (.cells #[.int .i64 c] 3)).alloc (.cells #[.int .i64 0, .int .i64 0, .int .i64 0, .slice none 0 0, .slice none 0 0, .slice none 0 0] 26)) := ⟨_, rfl⟩
  have hb0 : Below w.heap.size w wA := by rw [hwA]; exact below_alloc (below_alloc (below_alloc (below_alloc (below_alloc (Below.refl _ _) _) _) _) _) _
  have hzA : wA.heap[w.heap.size + 1 + 1 + 1 + 1]? = some (.cells #[.int .i64 0, .int .i64 0, .int .i64 0, .slice none 0 0, .slice none 0 0, .slice none 0 0] 26 (0, 0)) := by
    rw [hwA]
    have h := bl_new ((((w.alloc (.cells #[.int .i64 x.nodes, .int .i64 x.now, .int .i64 x.next, .slice AW x.way.length cW, .slice AC x.cuts.length cC, .slice AT x.timers.length cT] 26)).alloc (.cells #[.int .i64 a] 3)).alloc (.cells #[.int .i64 b] 3)).alloc (.cells #[.int .i64 c] 3)) (.cells #[.int .i64 0, .int .i64 0, .int .i64 0, .slice none 0 0, .slice none 0 0, .slice none 0 0] 26)
    simp only [World.size_alloc] at h
    exact h
  have hc0 : wA.cell? ⟨w.heap.size + 1, 0, none⟩ = some (.int .i64 a) := by rw [hwA]; go_simp
  have hc1 : wA.cell? ⟨w.heap.size + 1 + 1, 0, none⟩ = some (.int .i64 b) := by rw [hwA]; go_simp
  have hc2 : wA.cell? ⟨w.heap.size + 1 + 1 + 1, 0, none⟩ = some (.int .i64 c) := by rw [hwA]; go_simp
  have HC0 := Lib.hid hc0
  have HC1 := Lib.hid hc1
  have HC2 := Lib.hid hc2
  have HF := Lib.hid hf
  clear hf hc0 hc1 hc2
  have HB0 := Lib.hid hb0
  have HZA := Lib.hid hzA
  have HX := Lib.hid hx
  have HWA := Lib.hid hwA
  have HV : Hid (NetV wA (.agg #[.int .i64 x.nodes, .int .i64 x.now, .int .i64 x.next, .slice AW x.way.length cW, .slice AC x.cuts.length cC, .slice AT x.timers.length cT]) x) := ⟨AW, cW, AC, cC, AT, cT, rfl, hW.below hb0, hC.below hb0, hT.below hb0⟩
  clear hb0 hzA hx hwA hW hC hT
  go_enter Tryz.func34, Tryz.ntmps34
  go_wp2_with (go_at_call 46; rw [← HWA.out]; refine (changed_ok (fid := 65) (lb := #[.pointer (some ⟨w.heap.size + 1, 0, none⟩), .pointer (some ⟨w.heap.size + 1 + 1, 0, none⟩), .pointer (some ⟨w.heap.size + 1 + 1 + 1, 0, none⟩)]) x y _ wA (enters_of Tryz.func65 (by kernel_rfl) rfl) hlw hlc hlt HV.out HX.out (fun B g w1 hB hbw hBs hSt => HF.out B g _ _ _ w1 hBs hSt (cell_below hbw HC0.out) (cell_below hbw HC1.out) (cell_below hbw HC2.out))).mono ?_; rintro e w1 ⟨v3, rfl, hV3, hb1⟩; obtain ⟨AW3, cW3, AC3, cC3, AT3, cT3, rfl, rW3, rC3, rT3⟩ := hV3; have HV3 : Hid (NetO w1 wA.heap.size _ y) := ⟨AW3, cW3, AC3, cC3, AT3, cT3, rfl, rW3, rC3, rT3⟩; clear rW3 rC3 rT3; have hz := bl_below HZA.out hb1; have a0 := bl_cell hz 0; have b0 := bl_frozen hz 0; have a1 := bl_cell hz 1; have b1 := bl_frozen hz 1; have a2 := bl_cell hz 2; have b2 := bl_frozen hz 2; have a3 := bl_cell hz 3; have b3 := bl_frozen hz 3; have a4 := bl_cell hz 4; have b4 := bl_frozen hz 4; have a5 := bl_cell hz 5; have b5 := bl_frozen hz 5; simp at a0 a1 a2 a3 a4 a5)
  have hsz : w.heap.size + 1 + 1 + 1 + 1 < wA.heap.size := bl_lt HZA.out
  have hg4 := bl_all6 hz (.int .i64 y.nodes) (.int .i64 y.now) (.int .i64 y.next) (.slice AW3 y.way.length cW3) (.slice AC3 y.cuts.length cC3) (.slice AT3 y.timers.length cT3)
  refine ret_ct Tryz.results34 (w.heap.size + 1 + 1 + 1 + 1) 26 #[.int .i64 y.nodes, .int .i64 y.now, .int .i64 y.next, .slice AW3 y.way.length cW3, .slice AC3 y.cuts.length cC3, .slice AT3 y.timers.length cT3] _ rfl hg4 Tryz.underlying26 rfl sizeNet rfl ⟨_, rfl, ?_, below_set6 (below_trans HB0.out hb1) (by omega) _ _ _ _ _ _⟩
  exact NetO.weaken ((((((HV3.out.far (p := ⟨w.heap.size + 1 + 1 + 1 + 1, 0, none⟩) hsz _).far (p := ⟨w.heap.size + 1 + 1 + 1 + 1, 1, none⟩) hsz _).far (p := ⟨w.heap.size + 1 + 1 + 1 + 1, 2, none⟩) hsz _).far (p := ⟨w.heap.size + 1 + 1 + 1 + 1, 3, none⟩) hsz _).far (p := ⟨w.heap.size + 1 + 1 + 1 + 1, 4, none⟩) hsz _).far (p := ⟨w.heap.size + 1 + 1 + 1 + 1, 5, none⟩) hsz _) (by omega)
end Go.Proofs.YthlbmcfliejdiaaGreat
end

section
set_option linter.unusedVariables false
set_option linter.unusedSimpArgs false
namespace Go.Proofs.YthlbmcfliejdiaaGreat
open Go.RowKit

set_option maxHeartbeats 1000000 in
set_option maxRecDepth 100000 in
theorem Delay_form (x : Nt) (a b : Int) (v : Value) (w : World) (hlw : x.way.length ≤ 10000000) (hlc : x.cuts.length ≤ 10000000) (hlt : x.timers.length ≤ 10000000) (hV : NetV w v x) (hx : checkB x = false) :
    Calls Tryz.prog 16 #[v, .int .i64 a, .int .i64 b] w fun e w' => e = .returned (.tuple #[zNetV, .int .i64 2]) ∧ Below w.heap.size w w' := by
  obtain ⟨AW, cW, AC, cC, AT, cT, rfl, hW, hC, hT⟩ := hV
  obtain ⟨wA, hwA⟩ : ∃ wA, wA = ((((w.alloc (.cells #[.int .i64 x.nodes, .int .i64 x.now, .int .i64 x.next, .slice AW x.way.length cW, .slice AC x.cuts.length cC, .slice AT x.timers.length cT] 26)).alloc (.cells #[.int .i64 a] 3)).alloc (.cells #[.int .i64 b] 3)).alloc (.cells #[.int .i64 0, .int .i64 0, .int .i64 0, .slice none 0 0, .slice none 0 0, .slice none 0 0] 26)) := ⟨_, rfl⟩
  have hb0 : Below w.heap.size w wA := by rw [hwA]; exact below_alloc (below_alloc (below_alloc (below_alloc (Below.refl _ _) _) _) _) _
  have hzA : wA.heap[w.heap.size + 1 + 1 + 1]? = some (.cells #[.int .i64 0, .int .i64 0, .int .i64 0, .slice none 0 0, .slice none 0 0, .slice none 0 0] 26 (0, 0)) := by
    rw [hwA]
    have h := bl_new (((w.alloc (.cells #[.int .i64 x.nodes, .int .i64 x.now, .int .i64 x.next, .slice AW x.way.length cW, .slice AC x.cuts.length cC, .slice AT x.timers.length cT] 26)).alloc (.cells #[.int .i64 a] 3)).alloc (.cells #[.int .i64 b] 3)) (.cells #[.int .i64 0, .int .i64 0, .int .i64 0, .slice none 0 0, .slice none 0 0, .slice none 0 0] 26)
    simp only [World.size_alloc] at h
    exact h
  have HB0 := Lib.hid hb0
  have HZA := Lib.hid hzA
  have HX := Lib.hid hx
  have HWA := Lib.hid hwA
  have HV : Hid (NetV wA (.agg #[.int .i64 x.nodes, .int .i64 x.now, .int .i64 x.next, .slice AW x.way.length cW, .slice AC x.cuts.length cC, .slice AT x.timers.length cT]) x) := ⟨AW, cW, AC, cC, AT, cT, rfl, hW.below hb0, hC.below hb0, hT.below hb0⟩
  clear hb0 hzA hx hwA hW hC hT
  go_enter Tryz.func16, Tryz.ntmps16
  go_wp2_with (go_at_call 46; rw [← HWA.out]; refine (changed_bad x _ _ wA hlw hlc hlt HV.out HX.out).mono ?_; rintro e w1 ⟨rfl, hb1⟩; simp only [zNetV]; have hz := bl_below HZA.out hb1; have a0 := bl_cell hz 0; have b0 := bl_frozen hz 0; have a1 := bl_cell hz 1; have b1 := bl_frozen hz 1; have a2 := bl_cell hz 2; have b2 := bl_frozen hz 2; have a3 := bl_cell hz 3; have b3 := bl_frozen hz 3; have a4 := bl_cell hz 4; have b4 := bl_frozen hz 4; have a5 := bl_cell hz 5; have b5 := bl_frozen hz 5; simp at a0 a1 a2 a3 a4 a5)
  exact ret_ct Tryz.results16 (w.heap.size + 1 + 1 + 1) 26 #[.int .i64 0, .int .i64 0, .int .i64 0, .slice none 0 0, .slice none 0 0, .slice none 0 0] _ rfl (bl_all6 hz _ _ _ _ _ _) Tryz.underlying26 rfl sizeNet rfl ⟨rfl, below_set6 (below_trans HB0.out hb1) (by omega) _ _ _ _ _ _⟩

set_option maxHeartbeats 1000000 in
set_option maxRecDepth 100000 in
theorem Delay_err (x : Nt) (a b k : Int) (v : Value) (w : World) (hlw : x.way.length ≤ 10000000) (hlc : x.cuts.length ≤ 10000000) (hlt : x.timers.length ≤ 10000000) (hV : NetV w v x) (hx : checkB x = true) (hk : k ≠ 0)
    (hf : ∀ B g p0 p1 w1, St w1 B g x → w1.cell? ⟨p0, 0, none⟩ = some (.int .i64 a) → w1.cell? ⟨p1, 0, none⟩ = some (.int .i64 b) → Calls Tryz.prog 51 #[.pointer (some ⟨g, 0, none⟩), .pointer (some ⟨p0, 0, none⟩), .pointer (some ⟨p1, 0, none⟩)] w1 fun e w2 => e = .returned (.int .i64 k) ∧ Below w1.heap.size w1 w2) :
    Calls Tryz.prog 16 #[v, .int .i64 a, .int .i64 b] w fun e w' => e = .returned (.tuple #[zNetV, .int .i64 k]) ∧ Below w.heap.size w w' := by
  obtain ⟨AW, cW, AC, cC, AT, cT, rfl, hW, hC, hT⟩ := hV
  obtain ⟨wA, hwA⟩ : ∃ wA, wA = ((((w.alloc (.cells #[.int .i64 x.nodes, .int .i64 x.now, .int .i64 x.next, .slice AW x.way.length cW, .slice AC x.cuts.length cC, .slice AT x.timers.length cT] 26)).alloc (.cells #[.int .i64 a] 3)).alloc (.cells #[.int .i64 b] 3)).alloc (.cells #[.int .i64 0, .int .i64 0, .int .i64 0, .slice none 0 0, .slice none 0 0, .slice none 0 0] 26)) := ⟨_, rfl⟩
  have hb0 : Below w.heap.size w wA := by rw [hwA]; exact below_alloc (below_alloc (below_alloc (below_alloc (Below.refl _ _) _) _) _) _
  have hzA : wA.heap[w.heap.size + 1 + 1 + 1]? = some (.cells #[.int .i64 0, .int .i64 0, .int .i64 0, .slice none 0 0, .slice none 0 0, .slice none 0 0] 26 (0, 0)) := by
    rw [hwA]
    have h := bl_new (((w.alloc (.cells #[.int .i64 x.nodes, .int .i64 x.now, .int .i64 x.next, .slice AW x.way.length cW, .slice AC x.cuts.length cC, .slice AT x.timers.length cT] 26)).alloc (.cells #[.int .i64 a] 3)).alloc (.cells #[.int .i64 b] 3)) (.cells #[.int .i64 0, .int .i64 0, .int .i64 0, .slice none 0 0, .slice none 0 0, .slice none 0 0] 26)
    simp only [World.size_alloc] at h
    exact h
  have hc0 : wA.cell? ⟨w.heap.size + 1, 0, none⟩ = some (.int .i64 a) := by rw [hwA]; go_simp
  have hc1 : wA.cell? ⟨w.heap.size + 1 + 1, 0, none⟩ = some (.int .i64 b) := by rw [hwA]; go_simp
  have HC0 := Lib.hid hc0
  have HC1 := Lib.hid hc1
  have HF := Lib.hid hf
  clear hf hc0 hc1
  have HB0 := Lib.hid hb0
  have HZA := Lib.hid hzA
  have HX := Lib.hid hx
  have HWA := Lib.hid hwA
  have HV : Hid (NetV wA (.agg #[.int .i64 x.nodes, .int .i64 x.now, .int .i64 x.next, .slice AW x.way.length cW, .slice AC x.cuts.length cC, .slice AT x.timers.length cT]) x) := ⟨AW, cW, AC, cC, AT, cT, rfl, hW.below hb0, hC.below hb0, hT.below hb0⟩
  clear hb0 hzA hx hwA hW hC hT
  go_enter Tryz.func16, Tryz.ntmps16
  go_wp2_with (go_at_call 46; rw [← HWA.out]; refine (changed_err (fid := 51) (lb := #[.pointer (some ⟨w.heap.size + 1, 0, none⟩), .pointer (some ⟨w.heap.size + 1 + 1, 0, none⟩)]) x k _ wA (enters_of Tryz.func51 (by kernel_rfl) rfl) hlw hlc hlt HV.out HX.out hk (fun B g w1 hB hbw hBs hSt => HF.out B g _ _ w1 hSt (cell_below hbw HC0.out) (cell_below hbw HC1.out))).mono ?_; rintro e w1 ⟨rfl, hb1⟩; simp only [zNetV]; have hz := bl_below HZA.out hb1; have a0 := bl_cell hz 0; have b0 := bl_frozen hz 0; have a1 := bl_cell hz 1; have b1 := bl_frozen hz 1; have a2 := bl_cell hz 2; have b2 := bl_frozen hz 2; have a3 := bl_cell hz 3; have b3 := bl_frozen hz 3; have a4 := bl_cell hz 4; have b4 := bl_frozen hz 4; have a5 := bl_cell hz 5; have b5 := bl_frozen hz 5; simp at a0 a1 a2 a3 a4 a5)
  exact ret_ct Tryz.results16 (w.heap.size + 1 + 1 + 1) 26 #[.int .i64 0, .int .i64 0, .int .i64 0, .slice none 0 0, .slice none 0 0, .slice none 0 0] _ rfl (bl_all6 hz _ _ _ _ _ _) Tryz.underlying26 rfl sizeNet rfl ⟨rfl, below_set6 (below_trans HB0.out hb1) (by omega) _ _ _ _ _ _⟩

set_option maxHeartbeats 1000000 in
set_option maxRecDepth 100000 in
theorem Delay_done (x y : Nt) (a b : Int) (v : Value) (w : World) (hlw : x.way.length ≤ 10000000) (hlc : x.cuts.length ≤ 10000000) (hlt : x.timers.length ≤ 10000000) (hV : NetV w v x) (hx : checkB x = true)
    (hf : ∀ B g p0 p1 w1, B ≤ w1.heap.size → St w1 B g x → w1.cell? ⟨p0, 0, none⟩ = some (.int .i64 a) → w1.cell? ⟨p1, 0, none⟩ = some (.int .i64 b) → Calls Tryz.prog 51 #[.pointer (some ⟨g, 0, none⟩), .pointer (some ⟨p0, 0, none⟩), .pointer (some ⟨p1, 0, none⟩)] w1 fun e w2 => e = .returned (.int .i64 0) ∧ St w2 B g y ∧ Below B w1 w2) :
    Calls Tryz.prog 16 #[v, .int .i64 a, .int .i64 b] w fun e w' => ∃ v', e = .returned (.tuple #[v', .int .i64 0]) ∧ NetO w' w.heap.size v' y ∧ Below w.heap.size w w' := by
  obtain ⟨AW, cW, AC, cC, AT, cT, rfl, hW, hC, hT⟩ := hV
  obtain ⟨wA, hwA⟩ : ∃ wA, wA = ((((w.alloc (.cells #[.int .i64 x.nodes, .int .i64 x.now, .int .i64 x.next, .slice AW x.way.length cW, .slice AC x.cuts.length cC, .slice AT x.timers.length cT] 26)).alloc (.cells #[.int .i64 a] 3)).alloc (.cells #[.int .i64 b] 3)).alloc (.cells #[.int .i64 0, .int .i64 0, .int .i64 0, .slice none 0 0, .slice none 0 0, .slice none 0 0] 26)) := ⟨_, rfl⟩
  have hb0 : Below w.heap.size w wA := by rw [hwA]; exact below_alloc (below_alloc (below_alloc (below_alloc (Below.refl _ _) _) _) _) _
  have hzA : wA.heap[w.heap.size + 1 + 1 + 1]? = some (.cells #[.int .i64 0, .int .i64 0, .int .i64 0, .slice none 0 0, .slice none 0 0, .slice none 0 0] 26 (0, 0)) := by
    rw [hwA]
    have h := bl_new (((w.alloc (.cells #[.int .i64 x.nodes, .int .i64 x.now, .int .i64 x.next, .slice AW x.way.length cW, .slice AC x.cuts.length cC, .slice AT x.timers.length cT] 26)).alloc (.cells #[.int .i64 a] 3)).alloc (.cells #[.int .i64 b] 3)) (.cells #[.int .i64 0, .int .i64 0, .int .i64 0, .slice none 0 0, .slice none 0 0, .slice none 0 0] 26)
    simp only [World.size_alloc] at h
    exact h
  have hc0 : wA.cell? ⟨w.heap.size + 1, 0, none⟩ = some (.int .i64 a) := by rw [hwA]; go_simp
  have hc1 : wA.cell? ⟨w.heap.size + 1 + 1, 0, none⟩ = some (.int .i64 b) := by rw [hwA]; go_simp
  have HC0 := Lib.hid hc0
  have HC1 := Lib.hid hc1
  have HF := Lib.hid hf
  clear hf hc0 hc1
  have HB0 := Lib.hid hb0
  have HZA := Lib.hid hzA
  have HX := Lib.hid hx
  have HWA := Lib.hid hwA
  have HV : Hid (NetV wA (.agg #[.int .i64 x.nodes, .int .i64 x.now, .int .i64 x.next, .slice AW x.way.length cW, .slice AC x.cuts.length cC, .slice AT x.timers.length cT]) x) := ⟨AW, cW, AC, cC, AT, cT, rfl, hW.below hb0, hC.below hb0, hT.below hb0⟩
  clear hb0 hzA hx hwA hW hC hT
  go_enter Tryz.func16, Tryz.ntmps16
  go_wp2_with (go_at_call 46; rw [← HWA.out]; refine (changed_ok (fid := 51) (lb := #[.pointer (some ⟨w.heap.size + 1, 0, none⟩), .pointer (some ⟨w.heap.size + 1 + 1, 0, none⟩)]) x y _ wA (enters_of Tryz.func51 (by kernel_rfl) rfl) hlw hlc hlt HV.out HX.out (fun B g w1 hB hbw hBs hSt => HF.out B g _ _ w1 hBs hSt (cell_below hbw HC0.out) (cell_below hbw HC1.out))).mono ?_; rintro e w1 ⟨v3, rfl, hV3, hb1⟩; obtain ⟨AW3, cW3, AC3, cC3, AT3, cT3, rfl, rW3, rC3, rT3⟩ := hV3; have HV3 : Hid (NetO w1 wA.heap.size _ y) := ⟨AW3, cW3, AC3, cC3, AT3, cT3, rfl, rW3, rC3, rT3⟩; clear rW3 rC3 rT3; have hz := bl_below HZA.out hb1; have a0 := bl_cell hz 0; have b0 := bl_frozen hz 0; have a1 := bl_cell hz 1; have b1 := bl_frozen hz 1; have a2 := bl_cell hz 2; have b2 := bl_frozen hz 2; have a3 := bl_cell hz 3; have b3 := bl_frozen hz 3; have a4 := bl_cell hz 4; have b4 := bl_frozen hz 4; have a5 := bl_cell hz 5; have b5 := bl_frozen hz 5; simp at a0 a1 a2 a3 a4 a5)
  have hsz : w.heap.size + 1 + 1 + 1 < wA.heap.size := bl_lt HZA.out
  have hg4 := bl_all6 hz (.int .i64 y.nodes) (.int .i64 y.now) (.int .i64 y.next) (.slice AW3 y.way.length cW3) (.slice AC3 y.cuts.length cC3) (.slice AT3 y.timers.length cT3)
  refine ret_ct Tryz.results16 (w.heap.size + 1 + 1 + 1) 26 #[.int .i64 y.nodes, .int .i64 y.now, .int .i64 y.next, .slice AW3 y.way.length cW3, .slice AC3 y.cuts.length cC3, .slice AT3 y.timers.length cT3] _ rfl hg4 Tryz.underlying26 rfl sizeNet rfl ⟨_, rfl, ?_, below_set6 (below_trans HB0.out hb1) (by omega) _ _ _ _ _ _⟩
  exact NetO.weaken ((((((HV3.out.far (p := ⟨w.heap.size + 1 + 1 + 1, 0, none⟩) hsz _).far (p := ⟨w.heap.size + 1 + 1 + 1, 1, none⟩) hsz _).far (p := ⟨w.heap.size + 1 + 1 + 1, 2, none⟩) hsz _).far (p := ⟨w.heap.size + 1 + 1 + 1, 3, none⟩) hsz _).far (p := ⟨w.heap.size + 1 + 1 + 1, 4, none⟩) hsz _).far (p := ⟨w.heap.size + 1 + 1 + 1, 5, none⟩) hsz _) (by omega)
end Go.Proofs.YthlbmcfliejdiaaGreat
end
